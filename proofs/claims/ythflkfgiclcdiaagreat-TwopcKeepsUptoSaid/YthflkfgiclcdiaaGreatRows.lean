/-
  No cell of these rows narrows 'for every input' (looked for: loops, veiled, ifaces, maps, wideKeys, modest, calm, conditions, laid).
  DERIVED. THE GIVEN ROWS OF THIS SEAT. 4 by the template 'for every input the law returns true; each argument reads behind the call as it read before'; 0 by the template 'total and deterministic' (their statements: YthflkfgiclcdiaaGreatTotals.lean).
  GIVEN WITH THE SEED: the statements are not yours to turn. If you find one false, say at which input.
  Laid BY PROGRAM, IN A SANDBOX (cutbox-rows.mjs): the forced cells as the released guide's own fill.sh prints them over the translation 037aef8678197720… (all of the seat's roots in one cut). By AI agents, Wed Nov 11 2026. No macro, syntax, notation, axiom, sorry.
-/
import Derived.Test.YthflkfgiclcdiaaGreatChecked
import GoSem.Claim
import GoSem.ClaimJoined
import GoSem.ClaimMapViews
import Derived.JoinedTies
import Derived.KernelRfl
namespace Go.Proofs.YthflkfgiclcdiaaGreat
/- THE CELL 'sum', in the pinned program and in every row, IS THE sha256 OF THE DUMP (.gsa) THAT YthflkfgiclcdiaaGreatProg.lean LOADS. Nothing in Lean hashes anything: it is a label: what it is worth is what the hold of that sum in a sandbox is worth. -/
noncomputable def Tryz.pinned : Pinned := { name := "ythflkfgiclcdiaagreat", sum := "037aef86781977203979a34b42367caeff4ed14d5fcc1f524954f812d900ccd2", checked := Tryz.checked }
namespace Rows
def none {H : Type} : Left H := { results := [], args := [] }

/-- 'groynelaw19.TwopcKeeps': WHATEVER THE INPUT: true; the input reads as it did. -/
def twopcKeepsSpec : ChangeSpec := { name := "twopcKeeps", fn := fun _ => fun
  | [d1, d2] => { results := [.lit (.bool true)], args := [d1, d2] }
  | _ => none }
def twopcKeepsRow : OpenClaim := { program := "ythflkfgiclcdiaagreat", sum := "037aef86781977203979a34b42367caeff4ed14d5fcc1f524954f812d900ccd2", func := "groyne/groynelaw19.TwopcKeeps", spec := "twopcKeeps", inPlace := ["internal/bytealg.Compare"], unfollowed := true, recurses := true, apart := false }
def TwopcKeepsSaid : Prop := twopcKeepsRow.holds Tryz.pinned (OpenSpec.ofChange twopcKeepsSpec)

/-- ITS FALSE NEIGHBOUR: 'it returns false'. Refute it at one input. -/
def twopcKeepsWrong : ChangeSpec := { name := "twopcKeeps", fn := fun _ => fun
  | [d1, d2] => { results := [.lit (.bool false)], args := [d1, d2] }
  | _ => none }
def TwopcKeepsWrongFalsely : Prop := twopcKeepsRow.holds Tryz.pinned (OpenSpec.ofChange twopcKeepsWrong)

/-- 'groynelaw19.TwopcTimes': WHATEVER THE INPUT: true; the input reads as it did. -/
def twopcTimesSpec : ChangeSpec := { name := "twopcTimes", fn := fun _ => fun
  | [d1, d2, d3] => { results := [.lit (.bool true)], args := [d1, d2, d3] }
  | _ => none }
def twopcTimesRow : OpenClaim := { program := "ythflkfgiclcdiaagreat", sum := "037aef86781977203979a34b42367caeff4ed14d5fcc1f524954f812d900ccd2", func := "groyne/groynelaw19.TwopcTimes", spec := "twopcTimes", inPlace := ["internal/bytealg.Compare"], unfollowed := true, recurses := true, apart := false }
def TwopcTimesSaid : Prop := twopcTimesRow.holds Tryz.pinned (OpenSpec.ofChange twopcTimesSpec)

/-- ITS FALSE NEIGHBOUR: 'it returns false'. Refute it at one input. -/
def twopcTimesWrong : ChangeSpec := { name := "twopcTimes", fn := fun _ => fun
  | [d1, d2, d3] => { results := [.lit (.bool false)], args := [d1, d2, d3] }
  | _ => none }
def TwopcTimesWrongFalsely : Prop := twopcTimesRow.holds Tryz.pinned (OpenSpec.ofChange twopcTimesWrong)

/-- 'groynelaw19.TwopcAlone': WHATEVER THE INPUT: true; the input reads as it did. -/
def twopcAloneSpec : ChangeSpec := { name := "twopcAlone", fn := fun _ => fun
  | [d1, d2, d3] => { results := [.lit (.bool true)], args := [d1, d2, d3] }
  | _ => none }
def twopcAloneRow : OpenClaim := { program := "ythflkfgiclcdiaagreat", sum := "037aef86781977203979a34b42367caeff4ed14d5fcc1f524954f812d900ccd2", func := "groyne/groynelaw19.TwopcAlone", spec := "twopcAlone", inPlace := ["internal/bytealg.Compare"], unfollowed := true, recurses := true, apart := false }
def TwopcAloneSaid : Prop := twopcAloneRow.holds Tryz.pinned (OpenSpec.ofChange twopcAloneSpec)

/-- ITS FALSE NEIGHBOUR: 'it returns false'. Refute it at one input. -/
def twopcAloneWrong : ChangeSpec := { name := "twopcAlone", fn := fun _ => fun
  | [d1, d2, d3] => { results := [.lit (.bool false)], args := [d1, d2, d3] }
  | _ => none }
def TwopcAloneWrongFalsely : Prop := twopcAloneRow.holds Tryz.pinned (OpenSpec.ofChange twopcAloneWrong)

/-- 'groynelaw19.TwopcSafe': WHATEVER THE INPUT: true; the input reads as it did. -/
def twopcSafeSpec : ChangeSpec := { name := "twopcSafe", fn := fun _ => fun
  | [d1, d2, d3] => { results := [.lit (.bool true)], args := [d1, d2, d3] }
  | _ => none }
def twopcSafeRow : OpenClaim := { program := "ythflkfgiclcdiaagreat", sum := "037aef86781977203979a34b42367caeff4ed14d5fcc1f524954f812d900ccd2", func := "groyne/groynelaw19.TwopcSafe", spec := "twopcSafe", inPlace := ["internal/bytealg.Compare"], unfollowed := true, recurses := true, apart := false }
def TwopcSafeSaid : Prop := twopcSafeRow.holds Tryz.pinned (OpenSpec.ofChange twopcSafeSpec)

/-- ITS FALSE NEIGHBOUR: 'it returns false'. Refute it at one input. -/
def twopcSafeWrong : ChangeSpec := { name := "twopcSafe", fn := fun _ => fun
  | [d1, d2, d3] => { results := [.lit (.bool false)], args := [d1, d2, d3] }
  | _ => none }
def TwopcSafeWrongFalsely : Prop := twopcSafeRow.holds Tryz.pinned (OpenSpec.ofChange twopcSafeWrong)

/- THE SECOND FORM. 'bulk': how many values and letters a reading holds, each counted each time it is reached (what is shared counts as often as it is met; a slice's spare places count too). A statement '..UptoSaid' is the law's where the arguments, and the package variables that the reading takes, are together of bulk at most 1048576: NARROWER than '..Said'. Prove '..Said' where nothing that the law and all that it calls make is longer than what came in: it says more and counts as full. Else prove '..UptoSaid'. A law counts once. -/
mutual
def uptoBulk {H : Type} : DataW H → Nat
  | .lit (.string bytes) => bytes.length + 1
  | .lit _ => 1
  | .nil => 1
  | .ptr d => uptoBulk d + 1
  | .slice elems spare => uptoBulkAll elems + uptoBulkAll spare + 1
  | .agg parts => uptoBulkAll parts + 1
  | .iface _ d => uptoBulk d + 1
  | .map entries => uptoBulkEntries entries + 1
  | .held _ => 1
def uptoBulkAll {H : Type} : List (DataW H) → Nat
  | [] => 0
  | d :: r => uptoBulk d + uptoBulkAll r
def uptoBulkEntries {H : Type} : List (Lit × DataW H) → Nat
  | [] => 0
  | x :: r => uptoBulkEntry x + uptoBulkEntries r
def uptoBulkEntry {H : Type} : Lit × DataW H → Nat
  | (.string bytes, d) => bytes.length + uptoBulk d + 1
  | (_, d) => uptoBulk d + 1
 end
def uptoSmall : (H : Type) → List (DataW H) → Bool := fun _ ds => decide (uptoBulkAll ds ≤ 1048576)
def OpenSpec.upto (s : _root_.Go.ChangeSpec) : _root_.Go.OpenSpec := { _root_.Go.OpenSpec.ofChange s with cond := some uptoSmall }

/-- 'groynelaw19.TwopcKeeps', WHERE WHAT IT READS IS OF BULK AT MOST 1048576: true; the input reads as it did. -/
def twopcKeepsUptoRow : OpenClaim := { program := "ythflkfgiclcdiaagreat", sum := "037aef86781977203979a34b42367caeff4ed14d5fcc1f524954f812d900ccd2", func := "groyne/groynelaw19.TwopcKeeps", spec := "twopcKeeps", inPlace := ["internal/bytealg.Compare"], unfollowed := true, recurses := true, apart := false, narrowed := true }
def TwopcKeepsUptoSaid : Prop := twopcKeepsUptoRow.holds Tryz.pinned (OpenSpec.upto twopcKeepsSpec)

/-- 'groynelaw19.TwopcTimes', WHERE WHAT IT READS IS OF BULK AT MOST 1048576: true; the input reads as it did. -/
def twopcTimesUptoRow : OpenClaim := { program := "ythflkfgiclcdiaagreat", sum := "037aef86781977203979a34b42367caeff4ed14d5fcc1f524954f812d900ccd2", func := "groyne/groynelaw19.TwopcTimes", spec := "twopcTimes", inPlace := ["internal/bytealg.Compare"], unfollowed := true, recurses := true, apart := false, narrowed := true }
def TwopcTimesUptoSaid : Prop := twopcTimesUptoRow.holds Tryz.pinned (OpenSpec.upto twopcTimesSpec)

/-- 'groynelaw19.TwopcAlone', WHERE WHAT IT READS IS OF BULK AT MOST 1048576: true; the input reads as it did. -/
def twopcAloneUptoRow : OpenClaim := { program := "ythflkfgiclcdiaagreat", sum := "037aef86781977203979a34b42367caeff4ed14d5fcc1f524954f812d900ccd2", func := "groyne/groynelaw19.TwopcAlone", spec := "twopcAlone", inPlace := ["internal/bytealg.Compare"], unfollowed := true, recurses := true, apart := false, narrowed := true }
def TwopcAloneUptoSaid : Prop := twopcAloneUptoRow.holds Tryz.pinned (OpenSpec.upto twopcAloneSpec)

/-- 'groynelaw19.TwopcSafe', WHERE WHAT IT READS IS OF BULK AT MOST 1048576: true; the input reads as it did. -/
def twopcSafeUptoRow : OpenClaim := { program := "ythflkfgiclcdiaagreat", sum := "037aef86781977203979a34b42367caeff4ed14d5fcc1f524954f812d900ccd2", func := "groyne/groynelaw19.TwopcSafe", spec := "twopcSafe", inPlace := ["internal/bytealg.Compare"], unfollowed := true, recurses := true, apart := false, narrowed := true }
def TwopcSafeUptoSaid : Prop := twopcSafeUptoRow.holds Tryz.pinned (OpenSpec.upto twopcSafeSpec)

end Rows
end Go.Proofs.YthflkfgiclcdiaaGreat
