/-
  A law's act, as it lies in cells; how it reads.
-/
import Derived.Test.YthebdlkmoailaaaGreatDoorZP1
set_option linter.unusedVariables false
set_option linter.unusedSimpArgs false
namespace Go.Proofs.YthebdlkmoailaaaGreatDoor
open Go.RowKit Go.Gr
set_option linter.unusedSimpArgs false
set_option linter.unusedVariables false
structure DAct where
  kind : Int
  records : List (List UInt8)
  n : Nat
  arm : Int
  keep : Int
  deriving DecidableEq, Inhabited
def tAct : Ty DAct where
  n := 5
  rep := fun w M cs x => ∃ c1, cs = [.int .i64 x.kind, c1, .int .u64 (x.n : Int), .int .i64 x.arm, .int .i64 x.keep] ∧ I64 x.kind ∧ (Ty.slice Ty.bytes).rep w M [c1] x.records ∧ x.n < 18446744073709551616 ∧ I64 x.arm ∧ I64 x.keep
  len := by rintro w M cs x ⟨_, rfl, _⟩; rfl
  one := by
    rintro w M cs x ⟨e0, rfl, h0, h1, h2⟩ u hu
    simp only [List.mem_cons, List.not_mem_nil, or_false] at hu
    rcases hu with rfl | rfl | rfl | rfl | rfl
    · rfl
    · exact (Ty.slice Ty.bytes).one h1 _ (by simp)
    · rfl
    · rfl
    · rfl
  keep := by
    rintro w w2 M M2 cs x ⟨e0, rfl, h0, h1, h2⟩ hk
    exact ⟨e0, rfl, h0, (Ty.slice Ty.bytes).keep h1 hk, h2⟩
end Go.Proofs.YthebdlkmoailaaaGreatDoor
