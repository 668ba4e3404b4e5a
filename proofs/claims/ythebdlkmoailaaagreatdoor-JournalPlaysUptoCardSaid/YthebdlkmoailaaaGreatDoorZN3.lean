/-
  Walks: the reference's check bytes and seals: what comes out is of the right form.
-/
import Derived.Test.YthebdlkmoailaaaGreatDoorZW1
import Derived.Test.YthebdlkmoailaaaGreatDoorZCells
import Derived.Test.YthebdlkmoailaaaGreatDoorZRow
import Derived.Test.YthebdlkmoailaaaGreatDoorZCut
import Derived.Laws.BitsAllLaws
import Derived.Deep.CutBlock
import Derived.Deep.DeepCutAuto
set_option linter.unusedVariables false
set_option linter.unusedSimpArgs false
namespace Go.Proofs.YthebdlkmoailaaaGreatDoor
open Go.RowKit Go.Gr
set_option linter.unusedSimpArgs false
set_option linter.unusedVariables false
abbrev yv (n : Nat) : Value := .int .u8 (n : Int)
set_option maxRecDepth 100000 in
set_option maxHeartbeats 4000000 in
theorem r3Mul_ {w : World} {a b : Nat} (ha : a < 256) (hb : b < 256) :
    Calls Tryz.prog 154 #[yv a, yv b] w fun e w' => ∃ r : Nat, e = .returned (yv r) ∧ r < 256 ∧ w' = w := by
  go_enter Tryz.func154, Tryz.ntmps154
  go_wp2
  go_loopw [5, 6] (fun pv iv w' => ∃ (p : Int) (k : Nat), pv = .int .i64 p ∧ iv = .int .i64 (k : Int) ∧ k ≤ 8 ∧ w' = w) (fun _ iv _ => 8 - (Go.RowKit.intOf iv).toNat)
  case atStart => exact ⟨0, 0, rfl, rfl, by omega, rfl⟩
  case round =>
    obtain ⟨p, k, rfl, rfl, hk, rfl⟩ := hrel
    by_cases hlt : k < 8
    · have hd : decide ((k : Int) < 8) = true := decide_eq_true (by omega)
      go_wp2
      all_goals exact ⟨⟨_, k + 1, rfl, by simp, by omega, trivial⟩, by simp [Go.RowKit.intOf]; omega⟩
    · have hd : decide ((k : Int) < 8) = false := decide_eq_false (by omega)
      go_wp2
      go_loopw [5, 7] (fun pv iv w' => ∃ (p : Int) (k : Nat), pv = .int .i64 p ∧ iv = .int .i64 ((k : Int) + 7) ∧ k ≤ 7 ∧ w' = wr) (fun _ iv _ => (Go.RowKit.intOf iv).toNat)
      case atStart => exact ⟨p, 7, rfl, rfl, by omega, rfl⟩
      case round =>
        obtain ⟨p, k, rfl, rfl, hk, rfl⟩ := hrel
        rcases k with _ | k
        · go_wp2
          go_ret
          exact ⟨(p % 256).toNat, by simp; omega, by omega, rfl⟩
        · have hd2 : decide ((8 : Int) ≤ (k : Int) + 1 + 7) = true := decide_eq_true (by omega)
          have hs8 : (k : Int) + 1 + 7 - 8 = (k : Int) := by omega
          go_wp2
          all_goals exact ⟨⟨_, k, rfl, by simp; omega, by omega, trivial⟩, by simp [Go.RowKit.intOf]; omega⟩
set_option maxRecDepth 100000 in
set_option maxHeartbeats 4000000 in
theorem r3at_ {w : World} {M : Nat → Prop} {v : Value} {b : List UInt8} {x : Nat} (h : Ty.bytes.rep w M [v] b) (hx : x < 256) :
    Calls Tryz.prog 153 #[v, yv x] w fun e w' => ∃ r : Nat, e = .returned (yv r) ∧ r < 256 ∧ Step w w' := by
  obtain ⟨a, c, rfl, hc, hm, hl⟩ := Ty.slice_val h
  rw [lim_eq] at hl
  have H := Lib.hid h
  clear h hc hm
  go_enter Tryz.func153, Tryz.ntmps153
  go_wp2
  go_loopw [5, 6] (fun pv iv w' => ∃ (p : Nat) (k : Nat), pv = yv p ∧ iv = .int .i64 (k : Int) ∧ k ≤ b.length ∧ p < 256 ∧ Hid (Step w w')) (fun _ iv _ => b.length - (Go.RowKit.intOf iv).toNat)
  case atStart => exact ⟨0, 0, rfl, rfl, Nat.zero_le _, by omega, Lib.hid (Step.refl _)⟩
  case round =>
    obtain ⟨p, k, rfl, rfl, hk, hp, HS⟩ := hrel
    by_cases hlt : k < b.length
    · have hd : decide ((k : Int) < (b.length : Int)) = true := decide_eq_true (by omega)
      obtain ⟨g9, o9, u9, rfl, hg9, _, hu9, q9⟩ := Ty.slice_at1 rfl H.out hlt
      have hu9' : [u9] = [Value.int .u8 ((b[k]'hlt).toNat : Int)] := hu9
      obtain rfl := (List.cons.inj hu9').1
      obtain ⟨B, hB⟩ : ∃ B, B = ((b[k]'hlt).toNat) := ⟨_, rfl⟩
      have hB2 : B < 256 := by rw [hB]; exact (b[k]'hlt).toNat_lt
      rw [← hB] at q9
      have q := (Step.cell (w' := wr) HS.out hg9 _).trans q9
      have HLT : Hid (k + 1 ≤ b.length) := Lib.hid hlt
      clear q9 hu9 hu9' hB
      go_upto_region 5 with fail
      refine wp_region_held_drew (S := (fun w' => w'.cell? ⟨g9, o9 + k, none⟩ = some (yv B))) (by kernel_rfl) ?_ (fun hHeld => ?_)
      · (go_keep)
      refine tkH 0 ?_
      try simp only [Act.put, gtA, gtB, gtC, gtD, gtE, gtF]
      refine tkH 1 ?_
      try simp only [Act.put, gtA, gtB, gtC, gtD, gtE, gtF]
      refine tkH 3 ?_
      try simp only [Act.put, gtA, gtB, gtC, gtD, gtE, gtF]
      refine tkH 4 ?_
      try simp only [Act.put, gtA, gtB, gtC, gtD, gtE, gtF]
      refine tkH 5 ?_
      try simp only [Act.put, gtA, gtB, gtC, gtD, gtE, gtF]
      refine tkH 6 ?_
      try simp only [Act.put, gtA, gtB, gtC, gtD, gtE, gtF]
      refine rdH (rs := [2]) (.cons rfl (fun K hK => ?_) .nil)
      try simp only [gtA, gtB, gtC]
      go_simp
      (go_at_call 154; refine (r3Mul_ hp hx).mono ?_; rintro e w1 ⟨r, rfl, hr, hw1⟩; subst hw1)
      refine hK.out _ _ ?_ (fun hHeld => ?_)
      · (go_keep)
      clear hK K
      try simp only [Act.put, gtA, gtB, gtC, gtD, gtE, gtF]
      refine tkH 7 ?_
      try simp only [Act.put, gtA, gtB, gtC, gtD, gtE, gtF]
      refine tkH 8 ?_
      try simp only [Act.put, gtA, gtB, gtC, gtD, gtE, gtF]
      refine wpAnyH_done (by kernel_rfl) ?_ _
      have hxo := u8_xor_nat r B hr hB2
      go_wp2
      go_roundw
      case rel => exact ⟨r ^^^ B, k + 1, by rw [hxo], by go_num, HLT.out, Nat.xor_lt_two_pow (n := 8) hr hB2, Lib.hid (HS.out.trans stp)⟩
      case measure => simp [Go.RowKit.intOf]; omega
    · have hd : decide ((k : Int) < (b.length : Int)) = false := decide_eq_false (by omega)
      go_wp2
      go_ret
      exact ⟨p, rfl, hp, HS.out⟩
set_option maxRecDepth 100000 in
set_option maxHeartbeats 4000000 in
theorem r3inv_ {w : World} {a : Nat} (ha : a < 256) :
    Calls Tryz.prog 155 #[yv a] w fun e w' => ∃ r : Nat, e = .returned (yv r) ∧ r < 256 ∧ w' = w := by
  go_enter Tryz.func155, Tryz.ntmps155
  go_wp2
  go_loopw [3] (fun iv w' => ∃ (k : Nat), iv = .int .i64 (k : Int) ∧ k ≤ 256 ∧ w' = w) (fun iv _ => 256 - (Go.RowKit.intOf iv).toNat)
  case atStart => exact ⟨1, rfl, by omega, rfl⟩
  case round =>
    obtain ⟨k, rfl, hk, rfl⟩ := hrel
    by_cases hlt : k < 256
    · have hd : decide ((k : Int) < 256) = true := decide_eq_true (by omega)
      have hm : (k : Int) % 256 = (k : Int) := by omega
      go_wp2_with (go_at_call 154; (try rw [hm]); refine (r3Mul_ ha hlt).mono ?_; rintro e w1 ⟨r, rfl, hr, hw1⟩; subst hw1)
      · go_ret
        exact ⟨k, rfl, hlt, rfl⟩
      · exact ⟨⟨k + 1, by go_num, by omega, trivial⟩, by simp [Go.RowKit.intOf]; omega⟩
    · have hd : decide ((k : Int) < 256) = false := decide_eq_false (by omega)
      go_wp2
      go_ret
      exact ⟨0, rfl, by omega, rfl⟩
theorem wp_codeN {P : Program} {c : Code} {K : Exit → Act → World → Prop} {a : Act} {w : World} (F : World → Prop) (hF : F w) (h : ∀ w', F w' → Code.wp P c K a w') : Code.wp P c K a w := h w hF
/-- A block of four bytes. -/
def Four (w : World) (b : Nat) : Prop := ∃ cs : Array Value, CellsAt w b cs 163 ∧ cs.size = 4 ∧ ∀ j, j < 4 → ∃ a : Nat, a < 256 ∧ cs[j]? = some (yv a)
theorem Four.lt {w : World} {b : Nat} (h : Four w b) : b < w.heap.size := by
  obtain ⟨cs, h1, _⟩ := h
  exact h1.lt
theorem Four.cell {w : World} {b j : Nat} (h : Four w b) (hj : j < 4) : ∃ a : Nat, a < 256 ∧ w.cell? ⟨b, j, none⟩ = some (yv a) := by
  obtain ⟨cs, h1, h2, h3⟩ := h
  obtain ⟨a, ha, hc⟩ := h3 j hj
  exact ⟨a, ha, (h1.cell j).trans hc⟩
theorem Four.frozen {w : World} {b : Nat} (h : Four w b) (j : Nat) : w.frozen? ⟨b, j, none⟩ = false := by
  obtain ⟨cs, h1, _⟩ := h
  exact h1.frozen j
theorem Four.step {w w' : World} {b : Nat} (h : Four w b) (hs : Step w w') : Four w' b := by
  obtain ⟨cs, h1, h2⟩ := h
  exact ⟨cs, h1.step hs, h2⟩
theorem Four.other {w : World} {b : Nat} (h : Four w b) {p : Addr} (hp : b ≠ p.block) (u : Value) : Four (w.setCell p u) b := by
  obtain ⟨cs, h1, h2⟩ := h
  exact ⟨cs, h1.other hp u, h2⟩
theorem Four.set {w : World} {b j a : Nat} (h : Four w b) (ha : a < 256) : Four (w.setCell ⟨b, j, none⟩ (yv a)) b := by
  obtain ⟨cs, h1, h2, h3⟩ := h
  refine ⟨_, h1.set j _, by simpa using h2, fun i hi => ?_⟩
  rw [Array.getElem?_setIfInBounds]
  split
  · subst_vars
    rw [if_pos (by omega)]
    exact ⟨a, ha, rfl⟩
  · exact h3 i hi
theorem Four.new {w : World} {a b c d g : Nat} (hg : g = w.heap.size) (ha : a < 256) (hb : b < 256) (hc : c < 256) (hd : d < 256) : Four (w.alloc (.cells #[yv a, yv b, yv c, yv d] 163)) g :=
  ⟨_, CellsAt.new hg, rfl, fun j hj => by
    rcases j with _ | _ | _ | _ | j
    · exact ⟨a, ha, rfl⟩
    · exact ⟨b, hb, rfl⟩
    · exact ⟨c, hc, rfl⟩
    · exact ⟨d, hd, rfl⟩
    · omega⟩
theorem Four.open_ {w : World} {b : Nat} (h : Four w b) : ∃ x y z u : Nat, (x < 256 ∧ y < 256 ∧ z < 256 ∧ u < 256) ∧ CellsAt w b #[yv x, yv y, yv z, yv u] 163 := by
  obtain ⟨cs, h1, h2, h3⟩ := h
  obtain ⟨x, hx, ex⟩ := h3 0 (by omega)
  obtain ⟨y, hy, ey⟩ := h3 1 (by omega)
  obtain ⟨z, hz, ez⟩ := h3 2 (by omega)
  obtain ⟨u, hu, eu⟩ := h3 3 (by omega)
  refine ⟨x, y, z, u, ⟨hx, hy, hz, hu⟩, ?_⟩
  have : cs = #[yv x, yv y, yv z, yv u] := by
    apply Array.ext_getElem?
    intro j
    rcases j with _ | _ | _ | _ | j
    · exact ex
    · exact ey
    · exact ez
    · exact eu
    · rw [Array.getElem?_eq_none (by omega), Array.getElem?_eq_none (by simp)]
  rw [← this]
  exact h1
/-- In the midst of Check: the elements, what they must be there, the answer's cells. -/
structure Ck (w0 w : World) (rb xb db : Nat) : Prop where
  step : Step w0 w
  xs : CellsAt w xb #[yv 1, yv 2, yv 4, yv 8] 163
  d : Four w db
  r : Four w rb
  lt : w0.heap.size ≤ rb ∧ rb < xb ∧ xb < db
theorem Ck.next {w0 w w' : World} {rb xb db : Nat} (h : Ck w0 w rb xb db) (hs : Step w w') : Ck w0 w' rb xb db := ⟨h.step.trans hs, h.xs.step hs, h.d.step hs, h.r.step hs, h.lt⟩
theorem Ck.set {w0 w : World} {rb xb db j a : Nat} (h : Ck w0 w rb xb db) (ha : a < 256) : Ck w0 (w.setCell ⟨db, j, none⟩ (yv a)) rb xb db := by
  have hl := h.lt
  exact ⟨h.step.setCell (by show _ ≤ db; omega) _, h.xs.other (by show xb ≠ db; omega) _, h.d.set ha, h.r.other (by show rb ≠ db; omega) _, hl⟩
theorem Ck.other {w0 w : World} {rb xb db : Nat} (h : Ck w0 w rb xb db) {p : Addr} (hp : db < p.block) (u : Value) : Ck w0 (w.setCell p u) rb xb db := by
  have hl := h.lt
  exact ⟨h.step.setCell (by omega) _, h.xs.other (by omega) _, h.d.other (by omega) _, h.r.other (by omega) _, hl⟩
theorem xs_at {w : World} {b j : Nat} (h : CellsAt w b #[yv 1, yv 2, yv 4, yv 8] 163) (hj : j < 4) : ∃ a : Nat, a < 256 ∧ w.cell? ⟨b, j, none⟩ = some (yv a) := by
  rcases j with _ | _ | _ | _ | j
  · exact ⟨1, by omega, h.cell 0⟩
  · exact ⟨2, by omega, h.cell 1⟩
  · exact ⟨4, by omega, h.cell 2⟩
  · exact ⟨8, by omega, h.cell 3⟩
  · omega
theorem src_zeros {w w2 : World} {g : Nat} {M : Nat → Prop} {e : TypeId} (hS : Step (w.alloc (.cells #[yv 0, yv 0, yv 0, yv 0] e)) w2) (hg : w.heap.size = g) : Src Ty.byte w2 M (.slice (some ⟨g, 0, none⟩) 4 4) [0, 0, 0, 0] := by
  subst hg
  refine ⟨_, _, rfl, fun _ => ⟨_, _, rfl, fun i hi => ⟨[yv 0], ?_, fun j u hu => ?_⟩⟩⟩
  · have : ([0, 0, 0, 0] : List UInt8)[i] = 0 := by
      simp only [List.length_cons, List.length_nil] at hi
      rcases i with _ | _ | _ | _ | i
      · rfl
      · rfl
      · rfl
      · rfl
      · omega
    rw [this]
    rfl
  · rcases j with _ | j
    · obtain rfl : yv 0 = u := by simpa using hu
      have h1 : CellsAt w2 w.heap.size #[yv 0, yv 0, yv 0, yv 0] e := (CellsAt.new rfl).step hS
      rw [h1.cell]
      simp only [List.length_cons, List.length_nil] at hi
      rcases i with _ | _ | _ | _ | i
      · rfl
      · rfl
      · rfl
      · rfl
      · omega
    · simp at hu
set_option maxRecDepth 100000 in
set_option maxHeartbeats 8000000 in
theorem r3Check_ {w : World} {M : Nat → Prop} {v : Value} {b : List UInt8} (h : Ty.bytes.rep w M [v] b) (hn : b.length ≤ 1048576) :
    Calls Tryz.prog 121 #[v] w fun e w' => ∃ x y z u : Nat, e = .returned (.agg #[yv x, yv y, yv z, yv u]) ∧ (x < 256 ∧ y < 256 ∧ z < 256 ∧ u < 256) ∧ Step w w' := by
  have H := Lib.hid h
  clear h
  go_enter Tryz.func121, Tryz.ntmps121
  go_upto_region 3 with fail
  refine wp_codeN (fun wx => Ck w wx w.heap.size (w.heap.size + 1) (w.heap.size + 1 + 1)) ⟨by (repeat (first | exact Step.refl _ | refine Step.alloc ?_ _ | refine Step.drew ?_ | refine Step.drewN ?_ _ | refine Step.setCell ?_ (by first | exact Nat.le_refl _ | assumption | omega | (simp; done) | (simp; omega)) _ | assumption | refine Step.trans ?_ (by assumption : Step _ _))), CellsAt.step (CellsAt.new (by simp)) ((Step.refl _).alloc _), ?_, ?_, by omega⟩ ?_
  · exact Four.new (a := 0) (b := 0) (c := 0) (d := 0) (by simp) (by omega) (by omega) (by omega) (by omega)
  · exact (Four.new (a := 0) (b := 0) (c := 0) (d := 0) rfl (by omega) (by omega) (by omega) (by omega)).step stp
  intro w1 hck
  have HCK := Lib.hid hck
  obtain ⟨rb, hrb⟩ : ∃ rb, rb = w.heap.size := ⟨_, rfl⟩
  obtain ⟨xb, hxb⟩ : ∃ xb, xb = w.heap.size + 1 := ⟨_, rfl⟩
  obtain ⟨db, hdb⟩ : ∃ db, db = w.heap.size + 1 + 1 := ⟨_, rfl⟩
  rw [← hdb, ← hxb] at HCK ⊢
  clear hck
  have HCK : Hid (Ck w w1 rb xb db) := Lib.hid (by rw [hrb]; exact HCK.out)
  rw [← hrb] at ⊢
  clear hrb hxb hdb
  go_wp2
  go_loopw [5] (fun iv w' => ∃ (k : Nat), iv = .int .i64 (k : Int) ∧ k ≤ 4 ∧ Hid (Ck w w' rb xb db)) (fun iv _ => 4 - (Go.RowKit.intOf iv).toNat)
  case atStart => exact ⟨0, rfl, by omega, HCK⟩
  case round =>
    obtain ⟨k, rfl, hk, HC⟩ := hrel
    by_cases hlt : k < 4
    · have hd : decide ((k : Int) < 4) = true := decide_eq_true (by omega)
      obtain ⟨x, hx, q⟩ := xs_at HC.out.xs hlt
      obtain ⟨d0, _, qd⟩ := HC.out.d.cell hlt
      have fd := HC.out.d.frozen k
      have hl := HC.out.lt
      have hxl := HC.out.xs.lt
      have hdl := HC.out.d.lt
      have HLT : Hid (k + 1 ≤ 4) := Lib.hid hlt
      have hkk : (k : Int) < 4 := by omega
      go_upto_region 6 with fail
      refine wp_region_cut (S := (fun w' => w'.cell? ⟨xb, k, none⟩ = some (yv x) ∧ w'.cell? ⟨db, k, none⟩ = some (yv d0))) 10 (by kernel_rfl) ?_ (fun hHeld => ?_)
      · (go_keep)
      refine tkC 0 [9, 10] ?_
      try simp only [Act.put, gtA, gtB, gtC, gtD, gtE, gtF]
      refine tkC 1 [2, 4, 8, 9, 10] ?_
      try simp only [Act.put, gtA, gtB, gtC, gtD, gtE, gtF]
      refine tkC 5 [6, 7, 8, 9, 10] ?_
      try simp only [Act.put, gtA, gtB, gtC, gtD, gtE, gtF]
      refine tkC 6 [7, 8, 9, 10] ?_
      try simp only [Act.put, gtA, gtB, gtC, gtD, gtE, gtF]
      refine tkC 7 [8, 9, 10] ?_
      try simp only [Act.put, gtA, gtB, gtC, gtD, gtE, gtF]
      refine rdC (rs := [2, 3]) (.cons rfl (by decide) (fun K hK => ?_) (.cons rfl (by decide) (fun K hK => ?_) .nil))
      · try simp only [gtA, gtB, gtC]
        go_simp
        (go_at_call 52; refine (Copy_ _ M _ _ (Ty.step _ H.out (HC.out.step.trans stp))).mono ?_; rintro e2 w2 ⟨v2, rfl, hA2, hS2⟩; obtain ⟨b2, m2, rfl⟩ := hA2.val; have s2_0 : ∀ j, w2.cell? ⟨xb, j, none⟩ = _ := fun j => hS2.cell (by first | assumption | omega | (simp; done) | (simp; omega)) j; have z2_0 : xb < w2.heap.size := Nat.lt_of_lt_of_le (by first | assumption | omega | (simp; done) | (simp; omega)) hS2.size; have s2_1 : ∀ j, w2.cell? ⟨db, j, none⟩ = _ := fun j => hS2.cell (by first | assumption | omega | (simp; done) | (simp; omega)) j; have z2_1 : db < w2.heap.size := Nat.lt_of_lt_of_le (by first | assumption | omega | (simp; done) | (simp; omega)) hS2.size; have HA2 := Lib.hid hA2; clear hA2)
        refine hK.out _ _ ?_ (fun hHeld => ?_)
        · (go_keep)
        clear hK K
        try simp only [Act.put, gtA, gtB, gtC, gtD, gtE, gtF]
        refine rdC (rs := [3]) (.cons rfl (by decide) (fun K hK => ?_) .nil)
        try simp only [gtA, gtB, gtC]
        go_simp
        refine hK.out _ _ ?_ (fun hHeld => ?_)
        · (go_keep)
        clear hK K
        try simp only [Act.put, gtA, gtB, gtC, gtD, gtE, gtF]
        refine rdC (rs := [4]) (.cons rfl (by decide) (fun K hK => ?_) .nil)
        try simp only [gtA, gtB, gtC]
        refine ite_then rfl ?_; refine wp_append_gen (ys := [0, 0, 0, 0]) (.tmp 19) (.tmp 20) rfl stBytes (Own.step HA2.out stp) (by first | exact src_zeros hS2 rfl | exact src_zeros (Step.refl _) rfl | (have hQ2 := Step.trans (Step.drew (Step.refl _)) hS2; exact src_zeros hQ2 rfl)) (by simp [lim_eq]; omega) (Step.size stp) rfl rfl ?_; intro v5 w5 hA5 hG5 hn5; have HS5 : Hid (Step wr w5) := Lib.hid (Own.grown (w0 := wr) (Own.base (HA2.out.step stp) (by simp)) stp hG5); have HA5 := Lib.hid hA5; have s5a : ∀ j, w5.cell? ⟨xb, j, none⟩ = _ := fun j => HS5.out.cell hxl j; have s5b : ∀ j, w5.cell? ⟨db, j, none⟩ = _ := fun j => HS5.out.cell hdl j; clear hA5 hG5 hn5
        refine hK.out _ _ ?_ (fun hHeld => ?_)
        · (go_keep)
        clear hK K
        try simp only [Act.put, gtA, gtB, gtC, gtD, gtE, gtF]
        refine rdC (rs := [8]) (.cons rfl (by decide) (fun K hK => ?_) .nil)
        try simp only [gtA, gtB, gtC]
        go_simp
        (go_at_call 153; refine (r3at_ (Own.rep HA5.out (fun b hb => hb)) hx).mono ?_; rintro e w6 ⟨r, rfl, hr, hS6⟩; have HS6 : Hid (Step wr w6) := Lib.hid (HS5.out.trans (Step.trans stp hS6)); have s6a : ∀ j, w6.cell? ⟨xb, j, none⟩ = _ := fun j => HS6.out.cell hxl j; have s6b : ∀ j, w6.cell? ⟨db, j, none⟩ = _ := fun j => HS6.out.cell hdl j; have f6 : w6.frozen? ⟨db, k, none⟩ = false := (HC.out.d.step HS6.out).frozen k; clear hS6)
        refine hK.out _ _ ?_ (fun hHeld => ?_)
        · (go_keep)
        clear hK K
        try simp only [Act.put, gtA, gtB, gtC, gtD, gtE, gtF]
        refine tkC 9 [10] ?_
        try simp only [Act.put, gtA, gtB, gtC, gtD, gtE, gtF]
        refine rdC (rs := [10]) (.cut rfl (fun K hK => ?_))
        try simp only [gtA, gtB, gtC]
        go_simp
        refine hK.out _ _ trivial (fun hHeld => ?_)
        clear hK K
        try simp only [Act.put, gtA, gtB, gtC, gtD, gtE, gtF]
        have hTrue : True := trivial
        refine wpAnyH_done (by kernel_rfl) ?_ _
        go_wp2
        go_roundw
        case rel => exact ⟨k + 1, by go_num, HLT.out, Lib.hid ((HC.out.next HS6.out).set hr)⟩
        case measure => simp [Go.RowKit.intOf]; omega
      · try simp only [gtA, gtB, gtC]
        go_simp
        refine hK.out _ _ ?_ (fun hHeld => ?_)
        · (go_keep)
        clear hK K
        try simp only [Act.put, gtA, gtB, gtC, gtD, gtE, gtF]
        refine rdC (rs := [2]) (.cons rfl (by decide) (fun K hK => ?_) .nil)
        try simp only [gtA, gtB, gtC]
        go_simp
        (go_at_call 52; refine (Copy_ _ M _ _ (Ty.step _ H.out (HC.out.step.trans stp))).mono ?_; rintro e2 w2 ⟨v2, rfl, hA2, hS2⟩; obtain ⟨b2, m2, rfl⟩ := hA2.val; have s2_0 : ∀ j, w2.cell? ⟨xb, j, none⟩ = _ := fun j => hS2.cell (by first | assumption | omega | (simp; done) | (simp; omega)) j; have z2_0 : xb < w2.heap.size := Nat.lt_of_lt_of_le (by first | assumption | omega | (simp; done) | (simp; omega)) hS2.size; have s2_1 : ∀ j, w2.cell? ⟨db, j, none⟩ = _ := fun j => hS2.cell (by first | assumption | omega | (simp; done) | (simp; omega)) j; have z2_1 : db < w2.heap.size := Nat.lt_of_lt_of_le (by first | assumption | omega | (simp; done) | (simp; omega)) hS2.size; have HA2 := Lib.hid hA2; clear hA2)
        refine hK.out _ _ ?_ (fun hHeld => ?_)
        · (go_keep)
        clear hK K
        try simp only [Act.put, gtA, gtB, gtC, gtD, gtE, gtF]
        refine rdC (rs := [4]) (.cons rfl (by decide) (fun K hK => ?_) .nil)
        try simp only [gtA, gtB, gtC]
        refine ite_then rfl ?_; refine wp_append_gen (ys := [0, 0, 0, 0]) (.tmp 19) (.tmp 20) rfl stBytes (Own.step HA2.out stp) (by first | exact src_zeros hS2 rfl | exact src_zeros (Step.refl _) rfl | (have hQ2 := Step.trans (Step.drew (Step.refl _)) hS2; exact src_zeros hQ2 rfl)) (by simp [lim_eq]; omega) (Step.size stp) rfl rfl ?_; intro v5 w5 hA5 hG5 hn5; have HS5 : Hid (Step wr w5) := Lib.hid (Own.grown (w0 := wr) (Own.base (HA2.out.step stp) (by simp)) stp hG5); have HA5 := Lib.hid hA5; have s5a : ∀ j, w5.cell? ⟨xb, j, none⟩ = _ := fun j => HS5.out.cell hxl j; have s5b : ∀ j, w5.cell? ⟨db, j, none⟩ = _ := fun j => HS5.out.cell hdl j; clear hA5 hG5 hn5
        refine hK.out _ _ ?_ (fun hHeld => ?_)
        · (go_keep)
        clear hK K
        try simp only [Act.put, gtA, gtB, gtC, gtD, gtE, gtF]
        refine rdC (rs := [8]) (.cons rfl (by decide) (fun K hK => ?_) .nil)
        try simp only [gtA, gtB, gtC]
        go_simp
        (go_at_call 153; refine (r3at_ (Own.rep HA5.out (fun b hb => hb)) hx).mono ?_; rintro e w6 ⟨r, rfl, hr, hS6⟩; have HS6 : Hid (Step wr w6) := Lib.hid (HS5.out.trans (Step.trans stp hS6)); have s6a : ∀ j, w6.cell? ⟨xb, j, none⟩ = _ := fun j => HS6.out.cell hxl j; have s6b : ∀ j, w6.cell? ⟨db, j, none⟩ = _ := fun j => HS6.out.cell hdl j; have f6 : w6.frozen? ⟨db, k, none⟩ = false := (HC.out.d.step HS6.out).frozen k; clear hS6)
        refine hK.out _ _ ?_ (fun hHeld => ?_)
        · (go_keep)
        clear hK K
        try simp only [Act.put, gtA, gtB, gtC, gtD, gtE, gtF]
        refine tkC 9 [10] ?_
        try simp only [Act.put, gtA, gtB, gtC, gtD, gtE, gtF]
        refine rdC (rs := [10]) (.cut rfl (fun K hK => ?_))
        try simp only [gtA, gtB, gtC]
        go_simp
        refine hK.out _ _ trivial (fun hHeld => ?_)
        clear hK K
        try simp only [Act.put, gtA, gtB, gtC, gtD, gtE, gtF]
        have hTrue : True := trivial
        refine wpAnyH_done (by kernel_rfl) ?_ _
        go_wp2
        go_roundw
        case rel => exact ⟨k + 1, by go_num, HLT.out, Lib.hid ((HC.out.next HS6.out).set hr)⟩
        case measure => simp [Go.RowKit.intOf]; omega
    · have hd : decide ((k : Int) < 4) = false := decide_eq_false (by omega)
      clear HCK H
      go_wp2
      go_loopw [6] (fun cv w' => ∃ (c : Nat), cv = .int .i64 (c : Int) ∧ 1 ≤ c ∧ c ≤ 4 ∧ Hid (Ck w w' rb xb db)) (fun cv _ => 4 - (Go.RowKit.intOf cv).toNat)
      case atStart => exact ⟨1, rfl, by omega, by omega, HC⟩
      case round =>
        obtain ⟨c, rfl, hc1, hc4, HC⟩ := hrel
        by_cases hlt : c < 4
        · have hd : decide ((c : Int) < 4) = true := decide_eq_true (by omega)
          have HLT : Hid (c + 1 ≤ 4) := Lib.hid hlt
          go_wp2
          go_loopw [7] (fun iv w' => ∃ (i : Nat), iv = .int .i64 (i : Int) ∧ c ≤ i + 1 ∧ i ≤ 3 ∧ Hid (Ck w w' rb xb db)) (fun iv _ => (Go.RowKit.intOf iv).toNat)
          case atStart => exact ⟨3, rfl, by omega, by omega, HC⟩
          case round =>
            obtain ⟨i, rfl, hi1, hi3, HC⟩ := hrel
            by_cases hge : c ≤ i
            · have hd : decide ((c : Int) ≤ (i : Int)) = true := decide_eq_true (by omega)
              obtain ⟨i, rfl⟩ : ∃ i1, i = i1 + 1 := ⟨i - 1, by omega⟩
              obtain ⟨m, hm⟩ : ∃ m : Nat, (i : Int) + 1 - (c : Int) = (m : Int) := ⟨i + 1 - c, by omega⟩
              have hm4 : m < 4 := by omega
              obtain ⟨d1, hd1, q1⟩ := HC.out.d.cell (show i + 1 < 4 by omega)
              obtain ⟨d2, hd2, q2⟩ := HC.out.d.cell (show i < 4 by omega)
              obtain ⟨x1, hx1, q3⟩ := xs_at HC.out.xs (show i + 1 < 4 by omega)
              obtain ⟨x2, hx2, q4⟩ := xs_at HC.out.xs hm4
              have fd := HC.out.d.frozen (i + 1)
              have e1 := u8_xor_nat d1 d2 hd1 hd2
              have e2 := u8_xor_nat x1 x2 hx1 hx2
              have z1 : d1 ^^^ d2 < 256 := Nat.xor_lt_two_pow (n := 8) hd1 hd2
              have z2 : x1 ^^^ x2 < 256 := Nat.xor_lt_two_pow (n := 8) hx1 hx2
              have hk0 : (0 : Int) ≤ (i : Int) + 1 := by omega
              have hk1 : (i : Int) + 1 < 4 := by omega
              have hk2 : (i : Int) < 4 := by omega
              have hk3 : (m : Int) < 4 := by omega
              have hwi : IntKind.i64.wrap (i : Int) = (i : Int) := by rw [IntKind.wrap_i64]; omega
              have hwm : IntKind.i64.wrap (m : Int) = (m : Int) := by rw [IntKind.wrap_i64]; omega
              go_upto_region 13 with fail
              refine wp_region_cut (S := (fun w' => w'.cell? ⟨xb, m, none⟩ = some (yv x2) ∧ w'.cell? ⟨xb, i + 1, none⟩ = some (yv x1) ∧ w'.cell? ⟨db, i, none⟩ = some (yv d2) ∧ w'.cell? ⟨db, i + 1, none⟩ = some (yv d1) ∧ w'.frozen? ⟨db, i + 1, none⟩ = false)) 21 (by kernel_rfl) ?_ (fun hHeld => ?_)
              · (go_keep)
              refine tkC 0 [20, 21] ?_
              try simp only [Act.put, gtA, gtB, gtC, gtD, gtE, gtF]
              refine tkC 1 [2, 3, 8, 19, 20, 21] ?_
              try simp only [Act.put, gtA, gtB, gtC, gtD, gtE, gtF]
              refine tkC 2 [3, 8, 19, 20, 21] ?_
              try simp only [Act.put, gtA, gtB, gtC, gtD, gtE, gtF]
              refine tkC 3 [8, 19, 20, 21] ?_
              try simp only [Act.put, gtA, gtB, gtC, gtD, gtE, gtF]
              refine tkC 4 [5, 6, 7, 8, 19, 20, 21] ?_
              try simp only [Act.put, gtA, gtB, gtC, gtD, gtE, gtF]
              refine tkC 5 [6, 7, 8, 19, 20, 21] ?_
              try simp only [Act.put, gtA, gtB, gtC, gtD, gtE, gtF]
              refine tkC 6 [7, 8, 19, 20, 21] ?_
              try simp only [Act.put, gtA, gtB, gtC, gtD, gtE, gtF]
              refine tkC 7 [8, 19, 20, 21] ?_
              try simp only [Act.put, gtA, gtB, gtC, gtD, gtE, gtF]
              refine tkC 8 [19, 20, 21] ?_
              try simp only [Act.put, gtA, gtB, gtC, gtD, gtE, gtF]
              refine tkC 9 [10, 11, 17, 18, 19, 20, 21] ?_
              try simp only [Act.put, gtA, gtB, gtC, gtD, gtE, gtF]
              refine tkC 10 [11, 17, 18, 19, 20, 21] ?_
              try simp only [Act.put, gtA, gtB, gtC, gtD, gtE, gtF]
              refine tkC 11 [17, 18, 19, 20, 21] ?_
              try simp only [Act.put, gtA, gtB, gtC, gtD, gtE, gtF]
              refine tkC 12 [14, 15, 16, 17, 18, 19, 20, 21] ?_
              try simp only [Act.put, gtA, gtB, gtC, gtD, gtE, gtF]
              refine tkC 13 [14, 15, 16, 17, 18, 19, 20, 21] ?_
              try simp only [Act.put, gtA, gtB, gtC, gtD, gtE, gtF]
              refine tkC 14 [15, 16, 17, 18, 19, 20, 21] ?_
              try simp only [Act.put, gtA, gtB, gtC, gtD, gtE, gtF]
              refine tkC 15 [16, 17, 18, 19, 20, 21] ?_
              try simp only [Act.put, gtA, gtB, gtC, gtD, gtE, gtF]
              refine tkC 16 [17, 18, 19, 20, 21] ?_
              try simp only [Act.put, gtA, gtB, gtC, gtD, gtE, gtF]
              refine tkC 17 [18, 19, 20, 21] ?_
              try simp only [Act.put, gtA, gtB, gtC, gtD, gtE, gtF]
              refine rdC (rs := [18]) (.cons rfl (by decide) (fun K hK => ?_) .nil)
              try simp only [gtA, gtB, gtC]
              go_simp
              (go_at_call 155; (try rw [e2]); refine (r3inv_ z2).mono ?_; rintro e w5 ⟨r5, rfl, hr5, hw5⟩; subst hw5)
              refine hK.out _ _ ?_ (fun hHeld => ?_)
              · (go_keep)
              clear hK K
              try simp only [Act.put, gtA, gtB, gtC, gtD, gtE, gtF]
              refine rdC (rs := [19]) (.cons rfl (by decide) (fun K hK => ?_) .nil)
              try simp only [gtA, gtB, gtC]
              go_simp
              (go_at_call 154; (try rw [e1]); refine (r3Mul_ z1 hr5).mono ?_; rintro e w6 ⟨r, rfl, hr, hw6⟩; subst hw6)
              refine hK.out _ _ ?_ (fun hHeld => ?_)
              · (go_keep)
              clear hK K
              try simp only [Act.put, gtA, gtB, gtC, gtD, gtE, gtF]
              refine tkC 20 [21] ?_
              try simp only [Act.put, gtA, gtB, gtC, gtD, gtE, gtF]
              refine rdC (rs := [21]) (.cut rfl (fun K hK => ?_))
              try simp only [gtA, gtB, gtC]
              go_simp
              refine hK.out _ _ trivial (fun hHeld => ?_)
              clear hK K
              try simp only [Act.put, gtA, gtB, gtC, gtD, gtE, gtF]
              have hTrue : True := trivial
              refine wpAnyH_done (by kernel_rfl) ?_ _
              go_wp2
              go_roundw
              case rel => exact ⟨i, by go_num, by omega, by omega, Lib.hid ((HC.out.set (j := i + 1) hr).next stp)⟩
              case measure => simp [Go.RowKit.intOf]
            · have hd : decide ((c : Int) ≤ (i : Int)) = false := decide_eq_false (by omega)
              go_wp2
              go_roundw
              case rel => exact ⟨c + 1, by go_num, by omega, HLT.out, HC⟩
              case measure => simp [Go.RowKit.intOf]; omega
        · have hd : decide ((c : Int) < 4) = false := decide_eq_false (by omega)
          obtain ⟨y0, y1, y2, y3, _, hdc⟩ := HC.out.d.open_
          have q3 : wr.cell? ⟨db, 3, none⟩ = some (yv y3) := hdc.cell 3
          have hy3 : y3 < 256 := by omega
          have hdl := hdc.lt
          clear hdc
          go_upto_region 15 with fail
          refine wp_codeN (fun wx => Ck w wx rb xb db ∧ Four wx wr.heap.size) ⟨HC.out.next stp, Four.new (a := 0) (b := 0) (c := 0) rfl (by omega) (by omega) (by omega) hy3⟩ ?_
          rintro w2 ⟨hck2, hf2⟩
          obtain ⟨ob, hob⟩ : ∃ ob, ob = wr.heap.size := ⟨_, rfl⟩
          rw [← hob] at hf2 hdl ⊢
          have HC2 := Lib.hid hck2
          have HF2 := Lib.hid hf2
          clear hck2 hf2 hob q3 HC
          go_wp2
          go_loopw [9] (fun iv w' => ∃ (n : Nat), iv = .int .i64 ((n : Int) - 1) ∧ n ≤ 3 ∧ Hid (Ck w w' rb xb db) ∧ Hid (Four w' ob)) (fun iv _ => (Go.RowKit.intOf iv + 1).toNat)
          case atStart => exact ⟨3, rfl, by omega, HC2, HF2⟩
          case round =>
            obtain ⟨n, rfl, hn3, HC, HF⟩ := hrel
            rcases n with _ | n
            · clear HC2 HF2
              obtain ⟨y0, y1, y2, y3, hy, hdc⟩ := HF.out.open_
              have q0 : wr.cell? ⟨ob, 0, none⟩ = some (yv y0) := hdc.cell 0
              have q1 : wr.cell? ⟨ob, 1, none⟩ = some (yv y1) := hdc.cell 1
              have q2 : wr.cell? ⟨ob, 2, none⟩ = some (yv y2) := hdc.cell 2
              have q3 : wr.cell? ⟨ob, 3, none⟩ = some (yv y3) := hdc.cell 3
              obtain ⟨v0, v1, v2, v3, _, hrc⟩ := HC.out.r.open_
              have s0 : wr.cell? ⟨rb, 0, none⟩ = some (yv v0) := hrc.cell 0
              have s1 : wr.cell? ⟨rb, 1, none⟩ = some (yv v1) := hrc.cell 1
              have s2 : wr.cell? ⟨rb, 2, none⟩ = some (yv v2) := hrc.cell 2
              have s3 : wr.cell? ⟨rb, 3, none⟩ = some (yv v3) := hrc.cell 3
              have fr : ∀ j, wr.frozen? ⟨rb, j, none⟩ = false := hrc.frozen
              have HRC := Lib.hid hrc
              clear hrc hdc
              go_wp2
              refine bodyPost_ret (results_cell_row Tryz.results121 _ _ rb 163 #[yv y0, yv y1, yv y2, yv y3] (0, 0) _ rfl (CellsAt.set (CellsAt.set (CellsAt.set (CellsAt.set HRC.out 0 _) 1 _) 2 _) 3 _) Tryz.underlying163 rfl (by kernel_rfl)) rfl ?_
              have hlo := HC.out.lt.1
              exact ⟨y0, y1, y2, y3, rfl, hy, (((HC.out.step.setCell hlo _).setCell hlo _).setCell hlo _).setCell hlo _⟩
            · have hn4 : n < 4 := by omega
              have hwn : IntKind.i64.wrap (n : Int) = (n : Int) := by rw [IntKind.wrap_i64]; omega
              have hdn : db < ob := by omega
              rw [show ((n + 1 : Nat) : Int) - 1 = (n : Int) by omega]
              go_upto_region 19 with fail
              refine wp_codeN (fun wx => Ck w wx rb xb db ∧ Four wx ob ∧ Four wx wr.heap.size) ⟨HC.out.next stp, HF.out.step stp, Four.new (a := 0) (b := 0) (c := 0) (d := 0) rfl (by omega) (by omega) (by omega) (by omega)⟩ ?_
              rintro w3 ⟨hck3, hf3, hg3⟩
              obtain ⟨nb, hnb⟩ : ∃ nb, nb = wr.heap.size := ⟨_, rfl⟩
              have hobl := HF.out.lt
              rw [← hnb] at hg3 hobl ⊢
              have HC3 := Lib.hid hck3
              have HF3 := Lib.hid hf3
              have HG3 := Lib.hid hg3
              clear hck3 hf3 hg3 hnb HC HF HC2 HF2
              go_wp2
              go_loopw [11] (fun iv w' => ∃ (i : Nat), iv = .int .i64 (i : Int) ∧ i ≤ 4 ∧ Hid (Ck w w' rb xb db) ∧ Hid (Four w' ob) ∧ Hid (Four w' nb)) (fun iv _ => 4 - (Go.RowKit.intOf iv).toNat)
              case atStart => exact ⟨0, rfl, by omega, HC3, HF3, HG3⟩
              case round =>
                obtain ⟨i, rfl, hi4, HC, HF, HG⟩ := hrel
                by_cases hlt : i < 4
                · have hd : decide ((i : Int) < 4) = true := decide_eq_true (by omega)
                  have HLT : Hid (i + 1 ≤ 4) := Lib.hid hlt
                  have hki : (i : Int) < 4 := by omega
                  have hkn : (n : Int) < 4 := by omega
                  obtain ⟨o1, ho1, p1⟩ := HF.out.cell hlt
                  obtain ⟨x1, hx1, p2⟩ := xs_at HC.out.xs hn4
                  obtain ⟨n1, hn1, p3⟩ := HG.out.cell hlt
                  have fg := HG.out.frozen i
                  go_upto_region 22 with fail
                  refine wp_region_cut (S := (fun w' => w'.cell? ⟨ob, i, none⟩ = some (yv o1) ∧ w'.cell? ⟨xb, n, none⟩ = some (yv x1) ∧ w'.cell? ⟨nb, i, none⟩ = some (yv n1) ∧ w'.frozen? ⟨nb, i, none⟩ = false)) 9 (by kernel_rfl) ?_ (fun hHeld => ?_)
                  · (go_keep)
                  refine tkC 0 [8, 9] ?_
                  try simp only [Act.put, gtA, gtB, gtC, gtD, gtE, gtF]
                  refine tkC 1 [2, 3, 7, 8, 9] ?_
                  try simp only [Act.put, gtA, gtB, gtC, gtD, gtE, gtF]
                  refine tkC 2 [3, 7, 8, 9] ?_
                  try simp only [Act.put, gtA, gtB, gtC, gtD, gtE, gtF]
                  refine tkC 3 [7, 8, 9] ?_
                  try simp only [Act.put, gtA, gtB, gtC, gtD, gtE, gtF]
                  refine tkC 4 [5, 6, 7, 8, 9] ?_
                  try simp only [Act.put, gtA, gtB, gtC, gtD, gtE, gtF]
                  refine tkC 5 [6, 7, 8, 9] ?_
                  try simp only [Act.put, gtA, gtB, gtC, gtD, gtE, gtF]
                  refine tkC 6 [7, 8, 9] ?_
                  try simp only [Act.put, gtA, gtB, gtC, gtD, gtE, gtF]
                  refine rdC (rs := [7]) (.cons rfl (by decide) (fun K hK => ?_) .nil)
                  try simp only [gtA, gtB, gtC]
                  go_simp
                  (go_at_call 154; refine (r3Mul_ ho1 hx1).mono ?_; rintro e w6 ⟨r, rfl, hr, hw6⟩; subst hw6)
                  refine hK.out _ _ ?_ (fun hHeld => ?_)
                  · (go_keep)
                  clear hK K
                  try simp only [Act.put, gtA, gtB, gtC, gtD, gtE, gtF]
                  refine tkC 8 [9] ?_
                  try simp only [Act.put, gtA, gtB, gtC, gtD, gtE, gtF]
                  refine rdC (rs := [9]) (.cut rfl (fun K hK => ?_))
                  try simp only [gtA, gtB, gtC]
                  go_simp
                  refine hK.out _ _ trivial (fun hHeld => ?_)
                  clear hK K
                  try simp only [Act.put, gtA, gtB, gtC, gtD, gtE, gtF]
                  have hTrue : True := trivial
                  refine wpAnyH_done (by kernel_rfl) ?_ _
                  go_upto_region 23 with fail
                  refine wp_codeN (fun wx => Ck w wx rb xb db ∧ Four wx ob ∧ Four wx nb) ⟨(HC.out.other (p := ⟨nb, i, none⟩) (by show db < nb; omega) _).next stp, (HF.out.other (p := ⟨nb, i, none⟩) (by show ob ≠ nb; omega) _).step stp, (HG.out.set hr).step stp⟩ ?_
                  rintro w4 ⟨hck4, hf4, hg4⟩
                  have HC4 := Lib.hid hck4
                  have HF4 := Lib.hid hf4
                  have HG4 := Lib.hid hg4
                  clear hck4 hf4 hg4 p1 p2 p3 fg HC HF HG HC3 HF3 HG3
                  by_cases h3 : i < 3
                  · have hd3 : decide ((i : Int) < 3) = true := decide_eq_true (by omega)
                    obtain ⟨o2, ho2, p1⟩ := HF4.out.cell (show i + 1 < 4 by omega)
                    obtain ⟨n2, hn2, p3⟩ := HG4.out.cell hlt
                    have fg := HG4.out.frozen i
                    have e1 := u8_xor_nat n2 o2 hn2 ho2
                    have z1 : n2 ^^^ o2 < 256 := Nat.xor_lt_two_pow (n := 8) hn2 ho2
                    have hk0 : (0 : Int) ≤ (i : Int) + 1 := by omega
                    have hk1 : (i : Int) + 1 < 4 := by omega
                    have hwi : IntKind.i64.wrap ((i : Int) + 1) = (i : Int) + 1 := by rw [IntKind.wrap_i64]; omega
                    go_upto_region 24 with fail
                    refine wp_region_cut (S := (fun w' => w'.cell? ⟨ob, i + 1, none⟩ = some (yv o2) ∧ w'.cell? ⟨nb, i, none⟩ = some (yv n2) ∧ w'.frozen? ⟨nb, i, none⟩ = false)) 9 (by kernel_rfl) ?_ (fun hHeld => ?_)
                    · (go_keep)
                    refine tkC 0 [1, 2, 7, 8, 9] ?_
                    try simp only [Act.put, gtA, gtB, gtC, gtD, gtE, gtF]
                    refine tkC 1 [2, 7, 8, 9] ?_
                    try simp only [Act.put, gtA, gtB, gtC, gtD, gtE, gtF]
                    refine tkC 2 [7, 8, 9] ?_
                    try simp only [Act.put, gtA, gtB, gtC, gtD, gtE, gtF]
                    refine tkC 3 [4, 5, 6, 7, 8, 9] ?_
                    try simp only [Act.put, gtA, gtB, gtC, gtD, gtE, gtF]
                    refine tkC 4 [5, 6, 7, 8, 9] ?_
                    try simp only [Act.put, gtA, gtB, gtC, gtD, gtE, gtF]
                    refine tkC 5 [6, 7, 8, 9] ?_
                    try simp only [Act.put, gtA, gtB, gtC, gtD, gtE, gtF]
                    refine tkC 6 [7, 8, 9] ?_
                    try simp only [Act.put, gtA, gtB, gtC, gtD, gtE, gtF]
                    refine tkC 7 [8, 9] ?_
                    try simp only [Act.put, gtA, gtB, gtC, gtD, gtE, gtF]
                    refine tkC 8 [9] ?_
                    try simp only [Act.put, gtA, gtB, gtC, gtD, gtE, gtF]
                    refine rdC (rs := [9]) (.cut rfl (fun K hK => ?_))
                    try simp only [gtA, gtB, gtC]
                    go_simp
                    refine hK.out _ _ trivial (fun hHeld => ?_)
                    clear hK K
                    try simp only [Act.put, gtA, gtB, gtC, gtD, gtE, gtF]
                    have hTrue : True := trivial
                    refine wpAnyH_done (by kernel_rfl) ?_ _
                    go_wp2
                    go_roundw
                    case rel => exact ⟨i + 1, by go_num, HLT.out, Lib.hid ((HC4.out.other (p := ⟨nb, i, none⟩) (by show db < nb; omega) _).next stp), Lib.hid ((HF4.out.other (p := ⟨nb, i, none⟩) (by show ob ≠ nb; omega) _).step stp), Lib.hid ((HG4.out.set z1).step stp)⟩
                    case measure => simp [Go.RowKit.intOf]; omega
                  · have hd3 : decide ((i : Int) < 3) = false := decide_eq_false (by omega)
                    go_wp2
                    go_roundw
                    case rel => exact ⟨i + 1, by go_num, HLT.out, HC4, HF4, HG4⟩
                    case measure => simp [Go.RowKit.intOf]; omega
                · have hd : decide ((i : Int) < 4) = false := decide_eq_false (by omega)
                  clear HC3 HF3 HG3
                  obtain ⟨n2, hn2, p1⟩ := HG.out.cell (show 3 < 4 by omega)
                  obtain ⟨d2, hd2, p2⟩ := HC.out.d.cell hn4
                  have fg := HG.out.frozen 3
                  have e1 := u8_xor_nat n2 d2 hn2 hd2
                  have z1 : n2 ^^^ d2 < 256 := Nat.xor_lt_two_pow (n := 8) hn2 hd2
                  have hkn : (n : Int) < 4 := by omega
                  go_upto_region 25 with fail
                  refine wp_region_cut (S := (fun w' => w'.cell? ⟨nb, 3, none⟩ = some (yv n2) ∧ w'.cell? ⟨db, n, none⟩ = some (yv d2) ∧ w'.frozen? ⟨nb, 3, none⟩ = false)) 7 (by kernel_rfl) ?_ (fun hHeld => ?_)
                  · (go_keep)
                  refine tkC 0 [1, 5, 6, 7] ?_
                  try simp only [Act.put, gtA, gtB, gtC, gtD, gtE, gtF]
                  refine tkC 1 [5, 6, 7] ?_
                  try simp only [Act.put, gtA, gtB, gtC, gtD, gtE, gtF]
                  refine tkC 2 [3, 4, 5, 6, 7] ?_
                  try simp only [Act.put, gtA, gtB, gtC, gtD, gtE, gtF]
                  refine tkC 3 [4, 5, 6, 7] ?_
                  try simp only [Act.put, gtA, gtB, gtC, gtD, gtE, gtF]
                  refine tkC 4 [5, 6, 7] ?_
                  try simp only [Act.put, gtA, gtB, gtC, gtD, gtE, gtF]
                  refine tkC 5 [6, 7] ?_
                  try simp only [Act.put, gtA, gtB, gtC, gtD, gtE, gtF]
                  refine tkC 6 [7] ?_
                  try simp only [Act.put, gtA, gtB, gtC, gtD, gtE, gtF]
                  refine rdC (rs := [7]) (.cut rfl (fun K hK => ?_))
                  try simp only [gtA, gtB, gtC]
                  go_simp
                  refine hK.out _ _ trivial (fun hHeld => ?_)
                  clear hK K
                  try simp only [Act.put, gtA, gtB, gtC, gtD, gtE, gtF]
                  have hTrue : True := trivial
                  refine wpAnyH_done (by kernel_rfl) ?_ _
                  go_upto_region 26 with fail
                  refine wp_codeN (fun wx => Ck w wx rb xb db ∧ Four wx ob ∧ Four wx nb) ⟨(HC.out.other (p := ⟨nb, 3, none⟩) (by show db < nb; omega) _).next stp, (HF.out.other (p := ⟨nb, 3, none⟩) (by show ob ≠ nb; omega) _).step stp, (HG.out.set z1).step stp⟩ ?_
                  rintro w4 ⟨hck4, hf4, hg4⟩
                  have HC4 := Lib.hid hck4
                  obtain ⟨v0, v1, v2, v3, hv, hgc⟩ := hg4.open_
                  obtain ⟨y0, y1, y2, y3, hy, hfc⟩ := hf4.open_
                  have a0 : w4.cell? ⟨nb, 0, none⟩ = some (yv v0) := hgc.cell 0
                  have a1 : w4.cell? ⟨nb, 1, none⟩ = some (yv v1) := hgc.cell 1
                  have a2 : w4.cell? ⟨nb, 2, none⟩ = some (yv v2) := hgc.cell 2
                  have a3 : w4.cell? ⟨nb, 3, none⟩ = some (yv v3) := hgc.cell 3
                  have b0 : w4.cell? ⟨ob, 0, none⟩ = some (yv y0) := hfc.cell 0
                  have b1 : w4.cell? ⟨ob, 1, none⟩ = some (yv y1) := hfc.cell 1
                  have b2 : w4.cell? ⟨ob, 2, none⟩ = some (yv y2) := hfc.cell 2
                  have b3 : w4.cell? ⟨ob, 3, none⟩ = some (yv y3) := hfc.cell 3
                  have fo : ∀ j, w4.frozen? ⟨ob, j, none⟩ = false := hfc.frozen
                  have HF4 := Lib.hid hf4
                  clear hck4 hf4 hg4 hgc hfc p1 p2 fg HC HF HG
                  go_wp2
                  go_roundw
                  case rel => exact ⟨n, by go_num, by omega, Lib.hid ((((HC4.out.other (p := ⟨ob, 0, none⟩) hdn _).other (p := ⟨ob, 1, none⟩) hdn _).other (p := ⟨ob, 2, none⟩) hdn _).other (p := ⟨ob, 3, none⟩) hdn _), Lib.hid ((((HF4.out.set hv.1).set hv.2.1).set hv.2.2.1).set hv.2.2.2)⟩
                  case measure => simp [Go.RowKit.intOf]
end Go.Proofs.YthebdlkmoailaaaGreatDoor
