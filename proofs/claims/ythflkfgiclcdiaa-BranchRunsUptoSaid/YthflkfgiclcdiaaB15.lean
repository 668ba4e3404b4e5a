/-
  Walk: one operation upon an overlay (do), where it reads.
-/
import Derived.Test.YthflkfgiclcdiaaB14
namespace Go.Proofs.Ythflkfgiclcdiaa
open Go.RowKit Go.Gr Go.Sort
set_option linter.unusedSimpArgs false
set_option linter.unnecessarySimpa false
theorem one_rep {w : World} {M : Nat → Prop} {k : Nat} {x : UInt8} (h : w.cell? ⟨k, 0, none⟩ = some (.int .u8 (x.toNat : Int))) (hM : ¬ M k) : Ty.bytes.rep w M [.slice (some ⟨k, 0, none⟩) 1 1] [x] := by
  refine ⟨_, _, rfl, by simp, by simp [maxLen], by simp [lim_eq], fun _ => ⟨k, 0, rfl, lt_of_cell h, hM, fun i hi => ⟨[.int .u8 (x.toNat : Int)], ?_, fun j u hu => ?_⟩⟩⟩
  · have : i = 0 := by simpa using hi
    subst this
    rfl
  · have hi0 : i = 0 := by simpa using hi
    subst hi0
    rcases j with _ | j
    · simp only [List.getElem?_cons_zero, Option.some.injEq] at hu
      subst hu
      simpa using h
    · simp at hu
section
variable {X : Nat → Prop} {w : World} {lb vb mb B : Nat} {vp va : Value} {rs : List (List Value)} {P : List DPair} {ws : List DWrite} {mo : Int} {kv vv : Value} {key value : List UInt8}
/-- What a read leaves. -/
def OvRead (X : Nat → Prop) (w : World) (lb vb mb B : Nat) (vp va : Value) (rs : List (List Value)) (P : List DPair) (ws : List DWrite) (w' : World) (va' : Value) : Prop :=
  (∃ rs', OvAt X w' lb vb mb B vp va' rs' P ws ∧ rs'.length ≤ rs.length + 1) ∧ VaNew w va va' ∧ Turn (fun b => b = lb ∨ va.ownBlock = some b) w w'
theorem OvRead.of {W w' : World} {va' v' : Value} {rs' : List (List Value)} {L : List DPair} (h : OvAt X w lb vb mb B vp va rs P ws) (hS : Step w W)
    (h1 : LsAt w' lb vp va') (h2 : Own tRaw3 97 w' (fun _ => False) B va' rs') (h3 : rs'.length ≤ rs.length + 1) (h4 : va'.ownBlock = va.ownBlock ∨ ∃ b, va'.ownBlock = some b ∧ W.heap.size ≤ b)
    (h5 : Own tPair 95 w' (fun b => b < W.heap.size ∨ va'.ownBlock = some b) W.heap.size v' L) (h6 : Turn (fun b => b = lb ∨ va.ownBlock = some b) W w') :
    OvRead X w lb vb mb B vp va rs P ws w' va' ∧ Own tPair 95 w' (fun b => b < w.heap.size ∨ va'.ownBlock = some b) w.heap.size v' L := by
  have hz := hS.size
  refine ⟨⟨⟨rs', (h.step hS).turn h1 h2 h4 h6, h3⟩, h4.imp id (fun ⟨b, e, hb⟩ => ⟨b, e, by omega⟩), (Turn.of hS).trans h6⟩, Own.base (Own.less h5 (fun b _ hb => hb.imp (fun h => by omega) id)) hz⟩
set_option maxRecDepth 100000 in
set_option maxHeartbeats 4000000 in
theorem ovDoScan_ {most : Nat} (h : OvAt X w lb vb mb B vp va rs P ws) (hk : Ty.bytes.rep w (ovM X lb mb va) [kv] key) (hv : Ty.bytes.rep w (ovM X lb mb va) [vv] value) (hws : ws.length ≤ 1000) (hwk : ∀ x ∈ ws, x.key.length ≤ 1000) (hrs : rs.length ≤ 999) (hP : RisP P) (hPl : P.length ≤ 1000) (h1 : 1 ≤ most) (h2 : most ≤ 1000) :
    Calls Try.prog 60 #[.pointer (some ⟨vb, 0, none⟩), .agg #[.int .i64 4, kv, vv, .int .i64 (most : Int)]] w fun e w' => ∃ v' va', e = .returned (.tuple #[v', .int .i64 0]) ∧ OvRead X w lb vb mb B vp va rs P ws w' va' ∧
      Own tPair 95 w' (fun b => b < w.heap.size ∨ va'.ownBlock = some b) w.heap.size v' (scanB (overB P ws) key value most) := by
  obtain ⟨ka, kc, rfl, _⟩ := Ty.slice_val hk
  obtain ⟨va', vc, rfl, _⟩ := Ty.slice_val hv
  have HSC := Lib.hid (fun (W : World) (hS : Step w W) => ovScan_ (CellsAt.step h.ls hS) (h.own.step hS) h.hlB (Nat.le_trans h.hB hS.size) hrs (h.step hS).ov (h.step hS).map hws hwk (h.step hS).prs hP hPl (Ty.step _ hk hS) (Ty.step _ hv hS) (.inr (.inl rfl)) (fun b h => .inr (.inr (.inr h))) h.vl h.av h.ml h.am h1 h2)
  have H := Lib.hid h
  clear h hk hv hwk hP
  go_enter Try.func60, Try.ntmps60
  go_wp2_with (go_at_call 93; refine (HSC.out _ (by (repeat (first | exact Step.refl _ | refine Step.alloc ?_ _ | refine Step.drew ?_ | refine Step.drewN ?_ _ | refine Step.setCell ?_ (by first | exact Nat.le_refl _ | assumption | omega | (simp; done) | (simp; omega)) _ | assumption | refine Step.trans ?_ (by assumption : Step _ _))))).mono ?_; rintro e w2 ⟨v2, va2, rs2, rfl, hL2, hA2, hn2, hv2, hR2, hT2⟩; obtain ⟨q1, q2⟩ := OvRead.of H.out (by (repeat (first | exact Step.refl _ | refine Step.alloc ?_ _ | refine Step.drew ?_ | refine Step.drewN ?_ _ | refine Step.setCell ?_ (by first | exact Nat.le_refl _ | assumption | omega | (simp; done) | (simp; omega)) _ | assumption | refine Step.trans ?_ (by assumption : Step _ _)))) hL2 hA2 hn2 hv2 hR2 hT2; have HQ1 := Lib.hid q1; have HQ2 := Lib.hid q2; clear hL2 hA2 hn2 hv2 hR2 hT2 q1 q2)
  go_ret2
  exact ⟨_, _, rfl, HQ1.out, HQ2.out⟩
/-- What a reading operation comes to, by what stands at its key. -/
def readB (kd : Int) (value : List UInt8) (ws : List DWrite) : Option DPair → Option (List DPair × List DWrite)
  | none => if kd = 1 ∨ kd = 6 then some ([], ws) else none
  | some p => if kd = 1 then some ([p], ws) else if kd = 6 then none else if p.value = value then some ([], ws) else none
theorem doB_read {kd : Int} (hkd : kd = 1 ∨ kd = 5 ∨ kd = 6) : doB P ws ⟨kd, key, value, mo⟩ = readB kd value ws (getK DPair.key (overB P ws) key) := by
  unfold doB
  cases hg : getK DPair.key (overB P ws) key with
  | none => rcases hkd with rfl | rfl | rfl <;> simp [readB]
  | some p => rcases hkd with rfl | rfl | rfl <;> simp [readB]
/-- How it ends. -/
def ReadEnd (w w' : World) (va' : Value) (ws : List DWrite) (e : Ending) : Option (List DPair × List DWrite) → Prop
  | none => e = .returned (.tuple #[.slice none 0 0, .int .i64 12])
  | some y => ∃ v', e = .returned (.tuple #[v', .int .i64 0]) ∧ Own tPair 95 w' (fun b => b < w.heap.size ∨ va'.ownBlock = some b) w.heap.size v' y.1 ∧ y.2 = ws
set_option maxRecDepth 100000 in
set_option maxHeartbeats 8000000 in
theorem ovDoRead_ {kd : Int} (hkd : kd = 1 ∨ kd = 5 ∨ kd = 6) (h : OvAt X w lb vb mb B vp va rs P ws) (hk : Ty.bytes.rep w (ovM X lb mb va) [kv] key) (hv : Ty.bytes.rep w (ovM X lb mb va) [vv] value) (hkl : key.length ≤ 64) (hws : ws.length ≤ 999) (hwk : ∀ x ∈ ws, x.key.length ≤ 1000) (hrs : rs.length ≤ 999) (hP : RisP P) (hPl : P.length ≤ 1000) :
    Calls Try.prog 60 #[.pointer (some ⟨vb, 0, none⟩), .agg #[.int .i64 kd, kv, vv, .int .i64 mo]] w fun e w' => ∃ va', OvRead X w lb vb mb B vp va rs P ws w' va' ∧
      ReadEnd w w' va' ws e (doB P ws ⟨kd, key, value, mo⟩) := by
  obtain ⟨ka, kc, rfl, _⟩ := Ty.slice_val hk
  obtain ⟨xa, vc, rfl, _⟩ := Ty.slice_val hv
  have HSC := Lib.hid (fun (W : World) (hS : Step w W) (tv : Value) (ht : Ty.bytes.rep W (ovM X lb mb va) [tv] (key ++ [0])) => ovScan_ (CellsAt.step h.ls hS) (h.own.step hS) h.hlB (Nat.le_trans h.hB hS.size) hrs (h.step hS).ov (h.step hS).map (by omega) hwk (h.step hS).prs hP hPl (Ty.step _ hk hS) ht (.inr (.inl rfl)) (fun b h => .inr (.inr (.inr h))) h.vl h.av h.ml h.am (Nat.le_refl 1) (by omega))
  have hG : scanB (overB P ws) key (key ++ [0]) 1 = (getK DPair.key (overB P ws) key).toList := scanB_one (hP.over ws) key
  obtain ⟨G, hGG⟩ : ∃ G, G = getK DPair.key (overB P ws) key := ⟨_, rfl⟩
  rw [doB_read hkd, ← hGG]
  rw [← hGG] at hG
  have HG := Lib.hid hG
  have hMl : ∀ b, ovM X lb mb va b → b < w.heap.size := fun b hb => by
    rcases hb with hb | hb | hb | hb
    · exact h.xs b hb
    · have := CellsAt.lt h.ls; omega
    · have := h.map.lt; omega
    · exact (h.own.lt hb).2
  have HML := Lib.hid hMl
  have H := Lib.hid h
  have HK := Lib.hid hk
  have HV := Lib.hid hv
  have hn2 : (kd == 2) = false := by rcases hkd with rfl | rfl | rfl <;> rfl
  have hn3 : (kd == 3) = false := by rcases hkd with rfl | rfl | rfl <;> rfl
  have hn4 : (kd == 4) = false := by rcases hkd with rfl | rfl | rfl <;> rfl
  have HKD := Lib.hid hkd
  clear h hk hv hwk hP hG hGG hMl hkd
  have hlim : key.length + 1 ≤ lim := by rw [lim_eq]; omega
  go_enter Try.func60, Try.ntmps60
  go_upto_region 11 with fail
  clear hn2 hn3 hn4
  go_cut [7, 8] (fun s7 s8 wx => ∃ v' va', s7 = v' ∧ s8 = .int .i64 0 ∧ OvRead X w lb vb mb B vp va rs P ws wx va' ∧ Own tPair 95 wx (fun b => b < w.heap.size ∨ va'.ownBlock = some b) w.heap.size v' G.toList ∧ CellsAt wx w.heap.size #[.int .i64 kd, .slice ka key.length kc, .slice xa value.length vc, .int .i64 mo] 72)
  case first =>
    refine wp_region_held_drew (S := (fun w' => w'.cell? ⟨w.heap.size, 1, none⟩ = some (.slice ka key.length kc))) (by kernel_rfl) ?_ (fun hHeld => ?_)
    · (go_keep)
    refine wpAnyH_take (i := 0) (v := ?_) rfl (by kernel_rfl) (by kernel_rfl) (by kernel_rfl) (fun _ _ _ h => h) (Or.inl ⟨by rfl, ?_⟩) (by assumption) ?_
    rotate_left 1
    · (intro w hSw; (try dsimp only at hSw); go_simp; (try with_reducible rfl))
    try simp only [Act.put, List.getElem_toArray, List.getElem_cons_succ, List.getElem_cons_zero, List.setIfInBounds_toArray, List.set_cons_zero, List.set_cons_succ]
    refine wpAnyH_take (i := 1) (v := ?_) rfl (by kernel_rfl) (by kernel_rfl) (by kernel_rfl) (fun _ _ _ h => h) (Or.inl ⟨by rfl, ?_⟩) (by assumption) ?_
    rotate_left 1
    · (intro w hSw; (try dsimp only at hSw); go_simp; (try with_reducible rfl))
    try simp only [Act.put, List.getElem_toArray, List.getElem_cons_succ, List.getElem_cons_zero, List.setIfInBounds_toArray, List.set_cons_zero, List.set_cons_succ]
    refine wpAnyH_take (i := 2) (v := ?_) rfl (by kernel_rfl) (by kernel_rfl) (by kernel_rfl) (fun _ _ _ h => h) (Or.inl ⟨by rfl, ?_⟩) (by assumption) ?_
    rotate_left 1
    · (intro w hSw; (try dsimp only at hSw); go_simp; (try with_reducible rfl))
    try simp only [Act.put, List.getElem_toArray, List.getElem_cons_succ, List.getElem_cons_zero, List.setIfInBounds_toArray, List.set_cons_zero, List.set_cons_succ]
    refine wpAnyH_take (i := 3) (v := ?_) rfl (by kernel_rfl) (by kernel_rfl) (by kernel_rfl) (fun _ _ _ h => h) (Or.inl ⟨by rfl, ?_⟩) (by assumption) ?_
    rotate_left 1
    · (intro w hSw; (try dsimp only at hSw); go_simp; (try with_reducible rfl))
    try simp only [Act.put, List.getElem_toArray, List.getElem_cons_succ, List.getElem_cons_zero, List.setIfInBounds_toArray, List.set_cons_zero, List.set_cons_succ]
    refine wpAnyH_take (i := 4) (v := ?_) rfl (by kernel_rfl) (by kernel_rfl) (by kernel_rfl) (fun _ _ _ h => h) (Or.inl ⟨by rfl, ?_⟩) (by assumption) ?_
    rotate_left 1
    · (intro w hSw; (try dsimp only at hSw); go_simp; (try with_reducible rfl))
    try simp only [Act.put, List.getElem_toArray, List.getElem_cons_succ, List.getElem_cons_zero, List.setIfInBounds_toArray, List.set_cons_zero, List.set_cons_succ]
    refine wpAnyH_ready (rs := [5, 6]) (by kernel_rfl) (by simp) ?_
    refine AllReadyH.cons rfl (fun K hK => ?_) (AllReadyH.cons rfl (fun K hK => ?_) AllReadyH.nil)
    · try simp only [List.getElem_toArray, List.getElem_cons_succ, List.getElem_cons_zero]
      go_simp
      first | (go_at_call 59; refine (Clone_ _ (ovM X lb mb va) _ _ (Ty.step _ HK.out (by (repeat (first | exact Step.refl _ | refine Step.alloc ?_ _ | refine Step.drew ?_ | refine Step.drewN ?_ _ | refine Step.setCell ?_ (by first | exact Nat.le_refl _ | assumption | omega | (simp; done) | (simp; omega)) _ | assumption | refine Step.trans ?_ (by assumption : Step _ _)))))).mono ?_; rintro e2 w2 ⟨v2, rfl, hA2, hS2⟩; obtain ⟨b2, m2, rfl⟩ := hA2.val; have s2_0 : ∀ j, w2.cell? ⟨w.heap.size, j, none⟩ = _ := fun j => hS2.cell (by first | assumption | omega | (simp; done) | (simp; omega)) j; have z2_0 : w.heap.size < w2.heap.size := Nat.lt_of_lt_of_le (by first | assumption | omega | (simp; done) | (simp; omega)) hS2.size; have s2_1 : ∀ j, w2.cell? ⟨w.heap.size + 1, j, none⟩ = _ := fun j => hS2.cell (by first | assumption | omega | (simp; done) | (simp; omega)) j; have z2_1 : w.heap.size + 1 < w2.heap.size := Nat.lt_of_lt_of_le (by first | assumption | omega | (simp; done) | (simp; omega)) hS2.size; have HA2 := Lib.hid hA2; clear hA2) | (go_at_call 59; refine (Clone_ _ (ovM X lb mb va) _ _ (Ty.step _ HK.out (by (repeat (first | exact Step.refl _ | refine Step.alloc ?_ _ | refine Step.drew ?_ | refine Step.drewN ?_ _ | refine Step.setCell ?_ (by first | exact Nat.le_refl _ | assumption | omega | (simp; done) | (simp; omega)) _ | assumption | refine Step.trans ?_ (by assumption : Step _ _)))))).mono ?_; rintro e2 w2 ⟨v2, rfl, hA2, hS2⟩; obtain ⟨b2, m2, rfl⟩ := hA2.val; have s2_0 : ∀ j, w2.cell? ⟨w.heap.size, j, none⟩ = _ := fun j => hS2.cell (by first | assumption | omega | (simp; done) | (simp; omega)) j; have z2_0 : w.heap.size < w2.heap.size := Nat.lt_of_lt_of_le (by first | assumption | omega | (simp; done) | (simp; omega)) hS2.size; have HA2 := Lib.hid hA2; clear hA2)
      refine hK.out _ _ ?_ (fun hHeld => ?_)
      · (go_keep)
      clear hK K
      try simp only [Act.put, List.getElem_toArray, List.getElem_cons_succ, List.getElem_cons_zero, List.setIfInBounds_toArray, List.set_cons_zero, List.set_cons_succ]
      refine wpAnyH_ready (rs := [6]) (by kernel_rfl) (by simp) ?_
      refine AllReadyH.cons rfl (fun K hK => ?_) AllReadyH.nil
      try simp only [List.getElem_toArray, List.getElem_cons_succ, List.getElem_cons_zero]
      go_simp
      refine hK.out _ _ ?_ (fun hHeld => ?_)
      · (go_keep)
      clear hK K
      try simp only [Act.put, List.getElem_toArray, List.getElem_cons_succ, List.getElem_cons_zero, List.setIfInBounds_toArray, List.set_cons_zero, List.set_cons_succ]
      refine wpAnyH_ready (rs := [7]) (by kernel_rfl) (by simp) ?_
      refine AllReadyH.cons rfl (fun K hK => ?_) AllReadyH.nil
      try simp only [List.getElem_toArray, List.getElem_cons_succ, List.getElem_cons_zero]
      refine ite_then rfl ?_; (first | (refine wp_append_gen (ys := [0]) (.tmp 54) (.tmp 55) rfl stBytes (Own.step HA2.out (by (repeat (first | exact Step.refl _ | refine Step.alloc ?_ _ | refine Step.drew ?_ | refine Step.drewN ?_ _ | refine Step.setCell ?_ (by first | exact Nat.le_refl _ | assumption | omega | (simp; done) | (simp; omega)) _ | assumption | refine Step.trans ?_ (by assumption : Step _ _))))) (Src.flat Ty.flat_byte (one_rep (x := 0) (M := fun _ => False) (by simpa using s2_1 0) id)) (by simpa using hlim) (Step.size (by (repeat (first | exact Step.refl _ | refine Step.alloc ?_ _ | refine Step.drew ?_ | refine Step.drewN ?_ _ | refine Step.setCell ?_ (by first | exact Nat.le_refl _ | assumption | omega | (simp; done) | (simp; omega)) _ | assumption | refine Step.trans ?_ (by assumption : Step _ _))))) rfl rfl ?_) | (refine wp_append_gen (ys := [0]) (.tmp 54) (.tmp 55) rfl stBytes (Own.step HA2.out (by (repeat (first | exact Step.refl _ | refine Step.alloc ?_ _ | refine Step.drew ?_ | refine Step.drewN ?_ _ | refine Step.setCell ?_ (by first | exact Nat.le_refl _ | assumption | omega | (simp; done) | (simp; omega)) _ | assumption | refine Step.trans ?_ (by assumption : Step _ _))))) (Src.flat Ty.flat_byte (one_rep (x := 0) (M := fun _ => False) (by simp) id)) (by simpa using hlim) (Step.size (by (repeat (first | exact Step.refl _ | refine Step.alloc ?_ _ | refine Step.drew ?_ | refine Step.drewN ?_ _ | refine Step.setCell ?_ (by first | exact Nat.le_refl _ | assumption | omega | (simp; done) | (simp; omega)) _ | assumption | refine Step.trans ?_ (by assumption : Step _ _))))) rfl rfl ?_)); intro v3 w3 hA3 hG3 _; have hS3 := Own.grown (w0 := w.alloc (.cells #[.int .i64 kd, .slice ka key.length kc, .slice xa value.length vc, .int .i64 mo] 72)) (Own.base (Own.step HA2.out (by (repeat (first | exact Step.refl _ | refine Step.alloc ?_ _ | refine Step.drew ?_ | refine Step.drewN ?_ _ | refine Step.setCell ?_ (by first | exact Nat.le_refl _ | assumption | omega | (simp; done) | (simp; omega)) _ | assumption | refine Step.trans ?_ (by assumption : Step _ _))))) (Step.size (by (repeat (first | exact Step.refl _ | refine Step.alloc ?_ _ | refine Step.drew ?_ | refine Step.drewN ?_ _ | refine Step.setCell ?_ (by first | exact Nat.le_refl _ | assumption | omega | (simp; done) | (simp; omega)) _ | assumption | refine Step.trans ?_ (by assumption : Step _ _)))))) (by (repeat (first | exact Step.refl _ | refine Step.alloc ?_ _ | refine Step.drew ?_ | refine Step.drewN ?_ _ | refine Step.setCell ?_ (by first | exact Nat.le_refl _ | assumption | omega | (simp; done) | (simp; omega)) _ | assumption | refine Step.trans ?_ (by assumption : Step _ _)))) hG3; have s3 : ∀ j, w3.cell? ⟨w.heap.size, j, none⟩ = _ := fun j => hS3.cell (by simp) j; have HT3 := Lib.hid (fun (W : World) (hW : Step w3 W) => (Own.flat (M' := ovM X lb mb va) Ty.flat_byte (hA3.step hW)).rep' (fun b hb h => (by have h8 := HML.out b h; have h9 := (hA3.lt hb).1; (try simp at h9); omega))); clear hA3
      refine hK.out _ _ ?_ (fun hHeld => ?_)
      · (go_keep)
      clear hK K
      try simp only [Act.put, List.getElem_toArray, List.getElem_cons_succ, List.getElem_cons_zero, List.setIfInBounds_toArray, List.set_cons_zero, List.set_cons_succ]
      refine wpAnyH_ready (rs := [8]) (by kernel_rfl) (by simp) ?_
      refine AllReadyH.cons rfl (fun K hK => ?_) AllReadyH.nil
      try simp only [List.getElem_toArray, List.getElem_cons_succ, List.getElem_cons_zero]
      go_simp
      (go_at_call 93; refine (HSC.out _ (by (repeat (first | exact Step.refl _ | refine Step.alloc ?_ _ | refine Step.drew ?_ | refine Step.drewN ?_ _ | refine Step.setCell ?_ (by first | exact Nat.le_refl _ | assumption | omega | (simp; done) | (simp; omega)) _ | assumption | refine Step.trans ?_ (by assumption : Step _ _)))) _ (HT3.out _ (by (repeat (first | exact Step.refl _ | refine Step.alloc ?_ _ | refine Step.drew ?_ | refine Step.drewN ?_ _ | refine Step.setCell ?_ (by first | exact Nat.le_refl _ | assumption | omega | (simp; done) | (simp; omega)) _ | assumption | refine Step.trans ?_ (by assumption : Step _ _)))))).mono ?_; rintro e w4 ⟨v4, va2, rs2, rfl, hL4, hA4, hn4, hv4, hR4, hT4⟩; obtain ⟨q1, q2⟩ := OvRead.of H.out (by (repeat (first | exact Step.refl _ | refine Step.alloc ?_ _ | refine Step.drew ?_ | refine Step.drewN ?_ _ | refine Step.setCell ?_ (by first | exact Nat.le_refl _ | assumption | omega | (simp; done) | (simp; omega)) _ | assumption | refine Step.trans ?_ (by assumption : Step _ _)))) hL4 hA4 hn4 hv4 hR4 hT4; have HQ1 := Lib.hid q1; have HQ2 := Lib.hid (HG.out ▸ q2); have hb4 := hT4.block w.heap.size (by have h9 := hS3.size; (try simp at h9); (try simp); omega) (fun h => absurd (HML.out w.heap.size (h.elim (fun h => .inr (.inl h)) (fun h => .inr (.inr (.inr h))))) (Nat.lt_irrefl _)); have HBX4 : Hid (CellsAt w4 w.heap.size #[.int .i64 kd, .slice ka key.length kc, .slice xa value.length vc, .int .i64 mo] 72) := Lib.hid (CellsAt.kept (CellsAt.step (CellsAt.new (w := w) rfl) (by (repeat (first | exact Step.refl _ | refine Step.alloc ?_ _ | refine Step.drew ?_ | refine Step.drewN ?_ _ | refine Step.setCell ?_ (by first | exact Nat.le_refl _ | assumption | omega | (simp; done) | (simp; omega)) _ | assumption | refine Step.trans ?_ (by assumption : Step _ _))))) hb4); have s4 : ∀ j, w4.cell? ⟨w.heap.size, j, none⟩ = _ := fun j => HBX4.out.cell j; clear hL4 hA4 hn4 hv4 hR4 hT4 q1 q2 hb4)
      refine hK.out _ _ ?_ (fun hHeld => ?_)
      · (go_keep)
      clear hK K
      try simp only [Act.put, List.getElem_toArray, List.getElem_cons_succ, List.getElem_cons_zero, List.setIfInBounds_toArray, List.set_cons_zero, List.set_cons_succ]
      refine wpAnyH_take (i := 9) (v := ?_) rfl (by kernel_rfl) (by kernel_rfl) (by kernel_rfl) (fun _ _ _ h => h) (Or.inl ⟨by rfl, ?_⟩) (by assumption) ?_
      rotate_left 1
      · (intro w hSw; (try dsimp only at hSw); go_simp; (try with_reducible rfl))
      try simp only [Act.put, List.getElem_toArray, List.getElem_cons_succ, List.getElem_cons_zero, List.setIfInBounds_toArray, List.set_cons_zero, List.set_cons_succ]
      refine wpAnyH_take (i := 10) (v := ?_) rfl (by kernel_rfl) (by kernel_rfl) (by kernel_rfl) (fun _ _ _ h => h) (Or.inl ⟨by rfl, ?_⟩) (by assumption) ?_
      rotate_left 1
      · (intro w hSw; (try dsimp only at hSw); go_simp; (try with_reducible rfl))
      try simp only [Act.put, List.getElem_toArray, List.getElem_cons_succ, List.getElem_cons_zero, List.setIfInBounds_toArray, List.set_cons_zero, List.set_cons_succ]
      refine wpAnyH_take (i := 11) (v := ?_) rfl (by kernel_rfl) (by kernel_rfl) (by kernel_rfl) (fun _ _ _ h => h) (Or.inl ⟨by rfl, ?_⟩) (by assumption) ?_
      rotate_left 1
      · (intro w hSw; (try dsimp only at hSw); go_simp; (try with_reducible rfl))
      try simp only [Act.put, List.getElem_toArray, List.getElem_cons_succ, List.getElem_cons_zero, List.setIfInBounds_toArray, List.set_cons_zero, List.set_cons_succ]
      refine wpAnyH_take (i := 12) (v := ?_) rfl (by kernel_rfl) (by kernel_rfl) (by kernel_rfl) (fun _ _ _ h => h) (Or.inl ⟨by rfl, ?_⟩) (by assumption) ?_
      rotate_left 1
      · (intro w hSw; (try dsimp only at hSw); go_simp; (try with_reducible rfl))
      try simp only [Act.put, List.getElem_toArray, List.getElem_cons_succ, List.getElem_cons_zero, List.setIfInBounds_toArray, List.set_cons_zero, List.set_cons_succ]
      refine wpAnyH_take (i := 13) (v := ?_) rfl (by kernel_rfl) (by kernel_rfl) (by kernel_rfl) (fun _ _ _ h => h) (Or.inl ⟨by rfl, ?_⟩) (by assumption) ?_
      rotate_left 1
      · (intro w hSw; (try dsimp only at hSw); go_simp; (try with_reducible rfl))
      try simp only [Act.put, List.getElem_toArray, List.getElem_cons_succ, List.getElem_cons_zero, List.setIfInBounds_toArray, List.set_cons_zero, List.set_cons_succ]
      refine wpAnyH_done (by kernel_rfl) ?_ _
      go_wp2_with fail
      go_meet
      case rel => exact ⟨_, _, rfl, rfl, HQ1.out, HQ2.out, HBX4.out⟩
    · try simp only [List.getElem_toArray, List.getElem_cons_succ, List.getElem_cons_zero]
      go_simp
      refine hK.out _ _ ?_ (fun hHeld => ?_)
      · (go_keep)
      clear hK K
      try simp only [Act.put, List.getElem_toArray, List.getElem_cons_succ, List.getElem_cons_zero, List.setIfInBounds_toArray, List.set_cons_zero, List.set_cons_succ]
      refine wpAnyH_ready (rs := [5]) (by kernel_rfl) (by simp) ?_
      refine AllReadyH.cons rfl (fun K hK => ?_) AllReadyH.nil
      try simp only [List.getElem_toArray, List.getElem_cons_succ, List.getElem_cons_zero]
      go_simp
      first | (go_at_call 59; refine (Clone_ _ (ovM X lb mb va) _ _ (Ty.step _ HK.out (by (repeat (first | exact Step.refl _ | refine Step.alloc ?_ _ | refine Step.drew ?_ | refine Step.drewN ?_ _ | refine Step.setCell ?_ (by first | exact Nat.le_refl _ | assumption | omega | (simp; done) | (simp; omega)) _ | assumption | refine Step.trans ?_ (by assumption : Step _ _)))))).mono ?_; rintro e2 w2 ⟨v2, rfl, hA2, hS2⟩; obtain ⟨b2, m2, rfl⟩ := hA2.val; have s2_0 : ∀ j, w2.cell? ⟨w.heap.size, j, none⟩ = _ := fun j => hS2.cell (by first | assumption | omega | (simp; done) | (simp; omega)) j; have z2_0 : w.heap.size < w2.heap.size := Nat.lt_of_lt_of_le (by first | assumption | omega | (simp; done) | (simp; omega)) hS2.size; have s2_1 : ∀ j, w2.cell? ⟨w.heap.size + 1, j, none⟩ = _ := fun j => hS2.cell (by first | assumption | omega | (simp; done) | (simp; omega)) j; have z2_1 : w.heap.size + 1 < w2.heap.size := Nat.lt_of_lt_of_le (by first | assumption | omega | (simp; done) | (simp; omega)) hS2.size; have HA2 := Lib.hid hA2; clear hA2) | (go_at_call 59; refine (Clone_ _ (ovM X lb mb va) _ _ (Ty.step _ HK.out (by (repeat (first | exact Step.refl _ | refine Step.alloc ?_ _ | refine Step.drew ?_ | refine Step.drewN ?_ _ | refine Step.setCell ?_ (by first | exact Nat.le_refl _ | assumption | omega | (simp; done) | (simp; omega)) _ | assumption | refine Step.trans ?_ (by assumption : Step _ _)))))).mono ?_; rintro e2 w2 ⟨v2, rfl, hA2, hS2⟩; obtain ⟨b2, m2, rfl⟩ := hA2.val; have s2_0 : ∀ j, w2.cell? ⟨w.heap.size, j, none⟩ = _ := fun j => hS2.cell (by first | assumption | omega | (simp; done) | (simp; omega)) j; have z2_0 : w.heap.size < w2.heap.size := Nat.lt_of_lt_of_le (by first | assumption | omega | (simp; done) | (simp; omega)) hS2.size; have HA2 := Lib.hid hA2; clear hA2)
      refine hK.out _ _ ?_ (fun hHeld => ?_)
      · (go_keep)
      clear hK K
      try simp only [Act.put, List.getElem_toArray, List.getElem_cons_succ, List.getElem_cons_zero, List.setIfInBounds_toArray, List.set_cons_zero, List.set_cons_succ]
      refine wpAnyH_ready (rs := [7]) (by kernel_rfl) (by simp) ?_
      refine AllReadyH.cons rfl (fun K hK => ?_) AllReadyH.nil
      try simp only [List.getElem_toArray, List.getElem_cons_succ, List.getElem_cons_zero]
      refine ite_then rfl ?_; (first | (refine wp_append_gen (ys := [0]) (.tmp 54) (.tmp 55) rfl stBytes (Own.step HA2.out (by (repeat (first | exact Step.refl _ | refine Step.alloc ?_ _ | refine Step.drew ?_ | refine Step.drewN ?_ _ | refine Step.setCell ?_ (by first | exact Nat.le_refl _ | assumption | omega | (simp; done) | (simp; omega)) _ | assumption | refine Step.trans ?_ (by assumption : Step _ _))))) (Src.flat Ty.flat_byte (one_rep (x := 0) (M := fun _ => False) (by simpa using s2_1 0) id)) (by simpa using hlim) (Step.size (by (repeat (first | exact Step.refl _ | refine Step.alloc ?_ _ | refine Step.drew ?_ | refine Step.drewN ?_ _ | refine Step.setCell ?_ (by first | exact Nat.le_refl _ | assumption | omega | (simp; done) | (simp; omega)) _ | assumption | refine Step.trans ?_ (by assumption : Step _ _))))) rfl rfl ?_) | (refine wp_append_gen (ys := [0]) (.tmp 54) (.tmp 55) rfl stBytes (Own.step HA2.out (by (repeat (first | exact Step.refl _ | refine Step.alloc ?_ _ | refine Step.drew ?_ | refine Step.drewN ?_ _ | refine Step.setCell ?_ (by first | exact Nat.le_refl _ | assumption | omega | (simp; done) | (simp; omega)) _ | assumption | refine Step.trans ?_ (by assumption : Step _ _))))) (Src.flat Ty.flat_byte (one_rep (x := 0) (M := fun _ => False) (by simp) id)) (by simpa using hlim) (Step.size (by (repeat (first | exact Step.refl _ | refine Step.alloc ?_ _ | refine Step.drew ?_ | refine Step.drewN ?_ _ | refine Step.setCell ?_ (by first | exact Nat.le_refl _ | assumption | omega | (simp; done) | (simp; omega)) _ | assumption | refine Step.trans ?_ (by assumption : Step _ _))))) rfl rfl ?_)); intro v3 w3 hA3 hG3 _; have hS3 := Own.grown (w0 := w.alloc (.cells #[.int .i64 kd, .slice ka key.length kc, .slice xa value.length vc, .int .i64 mo] 72)) (Own.base (Own.step HA2.out (by (repeat (first | exact Step.refl _ | refine Step.alloc ?_ _ | refine Step.drew ?_ | refine Step.drewN ?_ _ | refine Step.setCell ?_ (by first | exact Nat.le_refl _ | assumption | omega | (simp; done) | (simp; omega)) _ | assumption | refine Step.trans ?_ (by assumption : Step _ _))))) (Step.size (by (repeat (first | exact Step.refl _ | refine Step.alloc ?_ _ | refine Step.drew ?_ | refine Step.drewN ?_ _ | refine Step.setCell ?_ (by first | exact Nat.le_refl _ | assumption | omega | (simp; done) | (simp; omega)) _ | assumption | refine Step.trans ?_ (by assumption : Step _ _)))))) (by (repeat (first | exact Step.refl _ | refine Step.alloc ?_ _ | refine Step.drew ?_ | refine Step.drewN ?_ _ | refine Step.setCell ?_ (by first | exact Nat.le_refl _ | assumption | omega | (simp; done) | (simp; omega)) _ | assumption | refine Step.trans ?_ (by assumption : Step _ _)))) hG3; have s3 : ∀ j, w3.cell? ⟨w.heap.size, j, none⟩ = _ := fun j => hS3.cell (by simp) j; have HT3 := Lib.hid (fun (W : World) (hW : Step w3 W) => (Own.flat (M' := ovM X lb mb va) Ty.flat_byte (hA3.step hW)).rep' (fun b hb h => (by have h8 := HML.out b h; have h9 := (hA3.lt hb).1; (try simp at h9); omega))); clear hA3
      refine hK.out _ _ ?_ (fun hHeld => ?_)
      · (go_keep)
      clear hK K
      try simp only [Act.put, List.getElem_toArray, List.getElem_cons_succ, List.getElem_cons_zero, List.setIfInBounds_toArray, List.set_cons_zero, List.set_cons_succ]
      refine wpAnyH_ready (rs := [8]) (by kernel_rfl) (by simp) ?_
      refine AllReadyH.cons rfl (fun K hK => ?_) AllReadyH.nil
      try simp only [List.getElem_toArray, List.getElem_cons_succ, List.getElem_cons_zero]
      go_simp
      (go_at_call 93; refine (HSC.out _ (by (repeat (first | exact Step.refl _ | refine Step.alloc ?_ _ | refine Step.drew ?_ | refine Step.drewN ?_ _ | refine Step.setCell ?_ (by first | exact Nat.le_refl _ | assumption | omega | (simp; done) | (simp; omega)) _ | assumption | refine Step.trans ?_ (by assumption : Step _ _)))) _ (HT3.out _ (by (repeat (first | exact Step.refl _ | refine Step.alloc ?_ _ | refine Step.drew ?_ | refine Step.drewN ?_ _ | refine Step.setCell ?_ (by first | exact Nat.le_refl _ | assumption | omega | (simp; done) | (simp; omega)) _ | assumption | refine Step.trans ?_ (by assumption : Step _ _)))))).mono ?_; rintro e w4 ⟨v4, va2, rs2, rfl, hL4, hA4, hn4, hv4, hR4, hT4⟩; obtain ⟨q1, q2⟩ := OvRead.of H.out (by (repeat (first | exact Step.refl _ | refine Step.alloc ?_ _ | refine Step.drew ?_ | refine Step.drewN ?_ _ | refine Step.setCell ?_ (by first | exact Nat.le_refl _ | assumption | omega | (simp; done) | (simp; omega)) _ | assumption | refine Step.trans ?_ (by assumption : Step _ _)))) hL4 hA4 hn4 hv4 hR4 hT4; have HQ1 := Lib.hid q1; have HQ2 := Lib.hid (HG.out ▸ q2); have hb4 := hT4.block w.heap.size (by have h9 := hS3.size; (try simp at h9); (try simp); omega) (fun h => absurd (HML.out w.heap.size (h.elim (fun h => .inr (.inl h)) (fun h => .inr (.inr (.inr h))))) (Nat.lt_irrefl _)); have HBX4 : Hid (CellsAt w4 w.heap.size #[.int .i64 kd, .slice ka key.length kc, .slice xa value.length vc, .int .i64 mo] 72) := Lib.hid (CellsAt.kept (CellsAt.step (CellsAt.new (w := w) rfl) (by (repeat (first | exact Step.refl _ | refine Step.alloc ?_ _ | refine Step.drew ?_ | refine Step.drewN ?_ _ | refine Step.setCell ?_ (by first | exact Nat.le_refl _ | assumption | omega | (simp; done) | (simp; omega)) _ | assumption | refine Step.trans ?_ (by assumption : Step _ _))))) hb4); have s4 : ∀ j, w4.cell? ⟨w.heap.size, j, none⟩ = _ := fun j => HBX4.out.cell j; clear hL4 hA4 hn4 hv4 hR4 hT4 q1 q2 hb4)
      refine hK.out _ _ ?_ (fun hHeld => ?_)
      · (go_keep)
      clear hK K
      try simp only [Act.put, List.getElem_toArray, List.getElem_cons_succ, List.getElem_cons_zero, List.setIfInBounds_toArray, List.set_cons_zero, List.set_cons_succ]
      refine wpAnyH_take (i := 9) (v := ?_) rfl (by kernel_rfl) (by kernel_rfl) (by kernel_rfl) (fun _ _ _ h => h) (Or.inl ⟨by rfl, ?_⟩) (by assumption) ?_
      rotate_left 1
      · (intro w hSw; (try dsimp only at hSw); go_simp; (try with_reducible rfl))
      try simp only [Act.put, List.getElem_toArray, List.getElem_cons_succ, List.getElem_cons_zero, List.setIfInBounds_toArray, List.set_cons_zero, List.set_cons_succ]
      refine wpAnyH_take (i := 10) (v := ?_) rfl (by kernel_rfl) (by kernel_rfl) (by kernel_rfl) (fun _ _ _ h => h) (Or.inl ⟨by rfl, ?_⟩) (by assumption) ?_
      rotate_left 1
      · (intro w hSw; (try dsimp only at hSw); go_simp; (try with_reducible rfl))
      try simp only [Act.put, List.getElem_toArray, List.getElem_cons_succ, List.getElem_cons_zero, List.setIfInBounds_toArray, List.set_cons_zero, List.set_cons_succ]
      refine wpAnyH_take (i := 11) (v := ?_) rfl (by kernel_rfl) (by kernel_rfl) (by kernel_rfl) (fun _ _ _ h => h) (Or.inl ⟨by rfl, ?_⟩) (by assumption) ?_
      rotate_left 1
      · (intro w hSw; (try dsimp only at hSw); go_simp; (try with_reducible rfl))
      try simp only [Act.put, List.getElem_toArray, List.getElem_cons_succ, List.getElem_cons_zero, List.setIfInBounds_toArray, List.set_cons_zero, List.set_cons_succ]
      refine wpAnyH_take (i := 12) (v := ?_) rfl (by kernel_rfl) (by kernel_rfl) (by kernel_rfl) (fun _ _ _ h => h) (Or.inl ⟨by rfl, ?_⟩) (by assumption) ?_
      rotate_left 1
      · (intro w hSw; (try dsimp only at hSw); go_simp; (try with_reducible rfl))
      try simp only [Act.put, List.getElem_toArray, List.getElem_cons_succ, List.getElem_cons_zero, List.setIfInBounds_toArray, List.set_cons_zero, List.set_cons_succ]
      refine wpAnyH_take (i := 13) (v := ?_) rfl (by kernel_rfl) (by kernel_rfl) (by kernel_rfl) (fun _ _ _ h => h) (Or.inl ⟨by rfl, ?_⟩) (by assumption) ?_
      rotate_left 1
      · (intro w hSw; (try dsimp only at hSw); go_simp; (try with_reducible rfl))
      try simp only [Act.put, List.getElem_toArray, List.getElem_cons_succ, List.getElem_cons_zero, List.setIfInBounds_toArray, List.set_cons_zero, List.set_cons_succ]
      refine wpAnyH_done (by kernel_rfl) ?_ _
      go_wp2_with fail
      go_meet
      case rel => exact ⟨_, _, rfl, rfl, HQ1.out, HQ2.out, HBX4.out⟩
  case rest =>
    obtain ⟨v7, va2, rfl, rfl, hQ1, hQ2, hBX⟩ := hcut
    refine open_kk2 (by assumption) ?_
    obtain ⟨a7, n7, c7, rfl, HN7⟩ := hQ2.valN
    have x0 : wc.cell? ⟨w.heap.size, 0, none⟩ = some (.int .i64 kd) := hBX.cell 0
    have x2 : wc.cell? ⟨w.heap.size, 2, none⟩ = some (.slice xa value.length vc) := hBX.cell 2
    have HVc := Lib.hid (fun (W : World) (hW : Step wc W) => Ty.step _ (Ty.keep (M' := fun _ => False) _ HV.out (fun b h1 h2 => ⟨hQ1.2.2.block b h1 (fun e => h2 (e.elim (fun e => .inr (.inl e)) (fun e => .inr (.inr (.inr e))))), fun h => h⟩)) hW)
    have HQ1 := Lib.hid hQ1
    have HQ2 := Lib.hid hQ2
    have HRL := Lib.hid ((Own.less (M' := fun _ => False) hQ2 (fun _ _ h => h.elim)).rep' (fun _ _ h => h))
    clear hQ1 hQ2 hBX HSC HK
    cases G with
    | none =>
      obtain rfl : n7 = 0 := HN7.out
      rcases HKD.out with rfl | rfl | rfl
      · have HRD := Lib.hid (show readB 1 value ws none = some ([], ws) by simp [readB])
        go_wp2
        go_ret2
        exact ⟨va2, HQ1.out, by rw [HRD.out]; exact ⟨_, rfl, HQ2.out, rfl⟩⟩
      · have HRD := Lib.hid (show readB 5 value ws none = none by simp [readB])
        go_upto_region 14 with fail
        go_quiet (fail)
        go_wp2
        go_ret2
        exact ⟨va2, ⟨HQ1.out.1.elim fun rs' h => ⟨rs', h.1.step (by (repeat (first | exact Step.refl _ | refine Step.alloc ?_ _ | refine Step.drew ?_ | refine Step.drewN ?_ _ | refine Step.setCell ?_ (by first | exact Nat.le_refl _ | assumption | omega | (simp; done) | (simp; omega)) _ | assumption | refine Step.trans ?_ (by assumption : Step _ _)))), h.2⟩, HQ1.out.2.1, HQ1.out.2.2.then (by (repeat (first | exact Step.refl _ | refine Step.alloc ?_ _ | refine Step.drew ?_ | refine Step.drewN ?_ _ | refine Step.setCell ?_ (by first | exact Nat.le_refl _ | assumption | omega | (simp; done) | (simp; omega)) _ | assumption | refine Step.trans ?_ (by assumption : Step _ _))))⟩, by rw [HRD.out]; rfl⟩
      · have HRD := Lib.hid (show readB 6 value ws none = some ([], ws) by simp [readB])
        go_upto_region 14 with fail
        go_quiet (fail)
        go_wp2
        go_ret2
        exact ⟨va2, ⟨HQ1.out.1.elim fun rs' h => ⟨rs', h.1.step (by (repeat (first | exact Step.refl _ | refine Step.alloc ?_ _ | refine Step.drew ?_ | refine Step.drewN ?_ _ | refine Step.setCell ?_ (by first | exact Nat.le_refl _ | assumption | omega | (simp; done) | (simp; omega)) _ | assumption | refine Step.trans ?_ (by assumption : Step _ _)))), h.2⟩, HQ1.out.2.1, HQ1.out.2.2.then (by (repeat (first | exact Step.refl _ | refine Step.alloc ?_ _ | refine Step.drew ?_ | refine Step.drewN ?_ _ | refine Step.setCell ?_ (by first | exact Nat.le_refl _ | assumption | omega | (simp; done) | (simp; omega)) _ | assumption | refine Step.trans ?_ (by assumption : Step _ _))))⟩, by rw [HRD.out]; exact ⟨_, rfl, Own.nil, rfl⟩⟩
    | some p =>
      obtain rfl : n7 = 1 := HN7.out
      have hlt : 0 < (Option.some p).toList.length := by simp
      obtain ⟨pb, po, pes, rfl, phb, _, pu, pcu⟩ := Ty.slice_at HRL.out hlt
      obtain ⟨pc0, pc1, rfl, ph0, ph1⟩ := pu
      simp only [Option.toList_some, List.getElem_cons_zero] at ph0 ph1
      obtain ⟨pa1, pn1, rfl, _⟩ := Ty.slice_val ph1
      have pq1 := pcu 1 _ rfl
      simp only [Nat.zero_mul, Nat.add_zero] at pq1
      rcases HKD.out with rfl | rfl | rfl
      · have HRD := Lib.hid (show readB 1 value ws (some p) = some ([p], ws) by simp [readB])
        go_wp2
        go_ret2
        exact ⟨va2, HQ1.out, by rw [HRD.out]; exact ⟨_, rfl, HQ2.out, rfl⟩⟩
      · have hEQ := Lib.hid (fun (W : World) (hW : Step wc W) => bytesEqual_ (Ty.step _ ph1 hW) (HVc.out W hW))
        by_cases hpv : p.value = value
        · have hd : decide (p.value = value) = true := decide_eq_true hpv
          have HRD := Lib.hid (show readB 5 value ws (some p) = some ([], ws) by simp [readB, hpv])
          rw [hd] at hEQ
          clear hpv hd pcu
          go_upto_region 14 with fail
          go_quiet ((go_at_call 94; exact Calls.quiet_of_same (hEQ.out _ (by (repeat (first | exact Step.refl _ | refine Step.alloc ?_ _ | refine Step.drew ?_ | refine Step.drewN ?_ _ | refine Step.setCell ?_ (by first | exact Nat.le_refl _ | assumption | omega | (simp; done) | (simp; omega)) _ | assumption | refine Step.trans ?_ (by assumption : Step _ _)))))))
          go_wp2
          go_ret2
          exact ⟨va2, ⟨HQ1.out.1.elim fun rs' h => ⟨rs', h.1.step (by (repeat (first | exact Step.refl _ | refine Step.alloc ?_ _ | refine Step.drew ?_ | refine Step.drewN ?_ _ | refine Step.setCell ?_ (by first | exact Nat.le_refl _ | assumption | omega | (simp; done) | (simp; omega)) _ | assumption | refine Step.trans ?_ (by assumption : Step _ _)))), h.2⟩, HQ1.out.2.1, HQ1.out.2.2.then (by (repeat (first | exact Step.refl _ | refine Step.alloc ?_ _ | refine Step.drew ?_ | refine Step.drewN ?_ _ | refine Step.setCell ?_ (by first | exact Nat.le_refl _ | assumption | omega | (simp; done) | (simp; omega)) _ | assumption | refine Step.trans ?_ (by assumption : Step _ _))))⟩, by rw [HRD.out]; exact ⟨_, rfl, Own.nil, rfl⟩⟩
        · have hd : decide (p.value = value) = false := decide_eq_false hpv
          have HRD := Lib.hid (show readB 5 value ws (some p) = none by simp [readB, hpv])
          rw [hd] at hEQ
          clear hpv hd pcu
          go_upto_region 14 with fail
          go_quiet ((go_at_call 94; exact Calls.quiet_of_same (hEQ.out _ (by (repeat (first | exact Step.refl _ | refine Step.alloc ?_ _ | refine Step.drew ?_ | refine Step.drewN ?_ _ | refine Step.setCell ?_ (by first | exact Nat.le_refl _ | assumption | omega | (simp; done) | (simp; omega)) _ | assumption | refine Step.trans ?_ (by assumption : Step _ _)))))))
          go_wp2
          go_ret2
          exact ⟨va2, ⟨HQ1.out.1.elim fun rs' h => ⟨rs', h.1.step (by (repeat (first | exact Step.refl _ | refine Step.alloc ?_ _ | refine Step.drew ?_ | refine Step.drewN ?_ _ | refine Step.setCell ?_ (by first | exact Nat.le_refl _ | assumption | omega | (simp; done) | (simp; omega)) _ | assumption | refine Step.trans ?_ (by assumption : Step _ _)))), h.2⟩, HQ1.out.2.1, HQ1.out.2.2.then (by (repeat (first | exact Step.refl _ | refine Step.alloc ?_ _ | refine Step.drew ?_ | refine Step.drewN ?_ _ | refine Step.setCell ?_ (by first | exact Nat.le_refl _ | assumption | omega | (simp; done) | (simp; omega)) _ | assumption | refine Step.trans ?_ (by assumption : Step _ _))))⟩, by rw [HRD.out]; rfl⟩
      · have HRD := Lib.hid (show readB 6 value ws (some p) = none by simp [readB])
        clear pcu
        go_upto_region 14 with fail
        go_quiet (fail)
        go_wp2
        go_ret2
        exact ⟨va2, ⟨HQ1.out.1.elim fun rs' h => ⟨rs', h.1.step (by (repeat (first | exact Step.refl _ | refine Step.alloc ?_ _ | refine Step.drew ?_ | refine Step.drewN ?_ _ | refine Step.setCell ?_ (by first | exact Nat.le_refl _ | assumption | omega | (simp; done) | (simp; omega)) _ | assumption | refine Step.trans ?_ (by assumption : Step _ _)))), h.2⟩, HQ1.out.2.1, HQ1.out.2.2.then (by (repeat (first | exact Step.refl _ | refine Step.alloc ?_ _ | refine Step.drew ?_ | refine Step.drewN ?_ _ | refine Step.setCell ?_ (by first | exact Nat.le_refl _ | assumption | omega | (simp; done) | (simp; omega)) _ | assumption | refine Step.trans ?_ (by assumption : Step _ _))))⟩, by rw [HRD.out]; rfl⟩
end
end Go.Proofs.Ythflkfgiclcdiaa
