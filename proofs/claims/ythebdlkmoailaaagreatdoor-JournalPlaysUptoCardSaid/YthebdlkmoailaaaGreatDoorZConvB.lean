/-
  Bytes as a string, a string as bytes. No program is named here.
-/
import Derived.Test.YthebdlkmoailaaaGreatDoorZMapS
import Derived.Laws.IdiomStrings
import Derived.Lib.ConvBytes
set_option linter.unusedVariables false
set_option linter.unusedSimpArgs false
namespace Go.Gr
open Go.Maps Go.RowKit
open Go.Proofs (encStr)
set_option linter.unusedSimpArgs false
theorem conv_str {P : Program} {w : World} {M : Nat → Prop} {v : Value} {xs : List UInt8} {src e dst : TypeId} (h : Ty.bytes.rep w M [v] xs) (hs : P.underlying src = some (.slice e)) (he : P.underlying e = some (.int .u8)) (hd : P.underlying dst = some .string) :
    (convert src dst v).run P w = .ok (encStr xs) w := by
  obtain ⟨a, c, rfl, _⟩ := Ty.slice_val h
  rcases xs with _ | ⟨x, xs⟩
  · rw [List.length_nil, run_convert_bytes_string w src dst e _ 0 c hs he hd]
    cases a <;> simp [Conv.bytesToString, loadCells, encStr]
    all_goals rfl
  · obtain ⟨b, off, u, rfl, _⟩ := Ty.slice_at1 rfl h (k := 0) (by simp)
    refine run_convert_bytes_back w src dst e ⟨b, off, none⟩ c (x :: xs) hs he hd fun j hj => ?_
    obtain ⟨b', off', u', h1, _, _, hr, hc⟩ := Ty.slice_at1 rfl h (k := j) hj
    obtain ⟨rfl, rfl⟩ : b = b' ∧ off = off' := by simpa using h1
    have hu : [u'] = [Value.int .u8 ((x :: xs)[j].toNat : Int)] := hr
    simp only [List.cons.injEq, and_true] at hu
    rw [hu] at hc
    unfold Addr.add
    split
    · rename_i h0; subst h0; simpa using hc
    · exact hc
theorem conv_bytes {P : Program} (w : World) {s : List UInt8} {src e dst : TypeId} (hs : P.underlying src = some .string) (hd : P.underlying dst = some (.slice e)) (he : P.underlying e = some (.int .u8)) (hl : s.length ≤ lim) :
    ∃ c w', (convert src dst (encStr s)).run P w = .ok (.slice (some ⟨w.heap.size, 0, none⟩) s.length c) w' ∧ Step w w' ∧ w'.heap.size = w.heap.size + 1 ∧ ∀ M : Nat → Prop, ¬ M w.heap.size → Ty.bytes.rep w' M [.slice (some ⟨w.heap.size, 0, none⟩) s.length c] s := by
  have hsz : (⟨s.toArray⟩ : ByteArray).size = s.length := by simp [ByteArray.size]
  have hrun := Lib.run_convert_string_bytes (P := P) w src dst e ⟨s.toArray⟩ hs hd he
  rw [hsz] at hrun
  refine ⟨_, _, hrun, Step.of ⟨by simp [Lib.bytesWorld, World.freeze, World.alloc, World.drew, -World.alloc_eq, -World.drew_eq], by simp [Lib.bytesWorld, World.freeze, World.alloc, World.drew, -World.alloc_eq, -World.drew_eq], by simp [Lib.bytesWorld, World.freeze, World.alloc, World.drew, -World.alloc_eq, -World.drew_eq], by rw [Lib.bytesWorld_size]; omega, fun j hj => Lib.bytesWorld_at_old w e _ j hj⟩, Lib.bytesWorld_size w e _, fun M hM => ?_⟩
  refine ⟨_, _, rfl, grownCap_ge _ _ _ _, grownCap_le_maxLen _ _ _ _ (lim_max hl), hl, fun hp => ⟨w.heap.size, 0, rfl, by rw [Lib.bytesWorld_size]; omega, hM, fun i hi => ⟨[.int .u8 (s[i].toNat : Int)], rfl, fun j u hu => ?_⟩⟩⟩
  have hj : j = 0 := by
    rcases j with _ | j
    · rfl
    · simp at hu
  subst hj
  simp only [List.getElem?_cons_zero, Option.some.injEq] at hu
  subst hu
  have := Lib.bytesWorld_cell w e ⟨s.toArray⟩ i (by rw [hsz]; exact hi)
  rw [show 0 + i * Ty.byte.n + 0 = i by simp [Ty.byte]]
  rw [this]
  simp [List.getD, hi]
end Go.Gr
