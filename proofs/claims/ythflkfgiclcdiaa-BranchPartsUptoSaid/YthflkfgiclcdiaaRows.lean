/-
  No cell of these rows narrows 'for every input' (looked for: loops, veiled, ifaces, maps, wideKeys, modest, calm, conditions, laid).
  DERIVED. THE GIVEN ROWS OF THIS SEAT. 6 by the template 'for every input the law returns true; each argument reads behind the call as it read before'; 0 by the template 'total and deterministic' (their statements: YthflkfgiclcdiaaTotals.lean).
  GIVEN WITH THE SEED: the statements are not yours to turn. If you find one false, say at which input.
  Laid BY PROGRAM, IN A SANDBOX (cutbox-rows.mjs): the forced cells as the released guide's own fill.sh prints them over the translation 9a20c572aeab3c81… (all of the seat's roots in one cut). By AI agents, Wed Nov 11 2026. No macro, syntax, notation, axiom, sorry.
-/
import Derived.Test.YthflkfgiclcdiaaChecked
import GoSem.Claim
import GoSem.ClaimJoined
import GoSem.ClaimMapViews
import Derived.JoinedTies
import Derived.KernelRfl
namespace Go.Proofs.Ythflkfgiclcdiaa
/- THE CELL 'sum', in the pinned program and in every row, IS THE sha256 OF THE DUMP (.gsa) THAT YthflkfgiclcdiaaProg.lean LOADS. Nothing in Lean hashes anything: it is a label: what it is worth is what the hold of that sum in a sandbox is worth. -/
noncomputable def Try.pinned : Pinned := { name := "ythflkfgiclcdiaa", sum := "9a20c572aeab3c81bf49b0d2f89fa8da8dc7c02dfe30dce9ec8ec909f17393fe", checked := Try.checked }
namespace Rows
def none {H : Type} : Left H := { results := [], args := [] }

/-- 'groynelaw19.TwopcStrays': WHATEVER THE INPUT: true; the input reads as it did. -/
def twopcStraysSpec : ChangeSpec := { name := "twopcStrays", fn := fun _ => fun
  | [d1, d2, d3] => { results := [.lit (.bool true)], args := [d1, d2, d3] }
  | _ => none }
def twopcStraysRow : OpenClaim := { program := "ythflkfgiclcdiaa", sum := "9a20c572aeab3c81bf49b0d2f89fa8da8dc7c02dfe30dce9ec8ec909f17393fe", func := "groyne/groynelaw19.TwopcStrays", spec := "twopcStrays", inPlace := ["internal/bytealg.Compare"], unfollowed := true, recurses := true, apart := false }
def TwopcStraysSaid : Prop := twopcStraysRow.holds Try.pinned (OpenSpec.ofChange twopcStraysSpec)

/-- ITS FALSE NEIGHBOUR: 'it returns false'. Refute it at one input. -/
def twopcStraysWrong : ChangeSpec := { name := "twopcStrays", fn := fun _ => fun
  | [d1, d2, d3] => { results := [.lit (.bool false)], args := [d1, d2, d3] }
  | _ => none }
def TwopcStraysWrongFalsely : Prop := twopcStraysRow.holds Try.pinned (OpenSpec.ofChange twopcStraysWrong)

/-- 'groynelaw12.BranchRuns': WHATEVER THE INPUT: true; the input reads as it did. -/
def branchRunsSpec : ChangeSpec := { name := "branchRuns", fn := fun _ => fun
  | [d1, d2] => { results := [.lit (.bool true)], args := [d1, d2] }
  | _ => none }
def branchRunsRow : OpenClaim := { program := "ythflkfgiclcdiaa", sum := "9a20c572aeab3c81bf49b0d2f89fa8da8dc7c02dfe30dce9ec8ec909f17393fe", func := "groyne/groynelaw12.BranchRuns", spec := "branchRuns", inPlace := ["internal/bytealg.Compare"], unfollowed := true, recurses := true, apart := false }
def BranchRunsSaid : Prop := branchRunsRow.holds Try.pinned (OpenSpec.ofChange branchRunsSpec)

/-- ITS FALSE NEIGHBOUR: 'it returns false'. Refute it at one input. -/
def branchRunsWrong : ChangeSpec := { name := "branchRuns", fn := fun _ => fun
  | [d1, d2] => { results := [.lit (.bool false)], args := [d1, d2] }
  | _ => none }
def BranchRunsWrongFalsely : Prop := branchRunsRow.holds Try.pinned (OpenSpec.ofChange branchRunsWrong)

/-- 'groynelaw12.BranchFiner': WHATEVER THE INPUT: true; the input reads as it did. -/
def branchFinerSpec : ChangeSpec := { name := "branchFiner", fn := fun _ => fun
  | [d1, d2, d3] => { results := [.lit (.bool true)], args := [d1, d2, d3] }
  | _ => none }
def branchFinerRow : OpenClaim := { program := "ythflkfgiclcdiaa", sum := "9a20c572aeab3c81bf49b0d2f89fa8da8dc7c02dfe30dce9ec8ec909f17393fe", func := "groyne/groynelaw12.BranchFiner", spec := "branchFiner", inPlace := ["internal/bytealg.Compare"], unfollowed := true, recurses := true, apart := false }
def BranchFinerSaid : Prop := branchFinerRow.holds Try.pinned (OpenSpec.ofChange branchFinerSpec)

/-- ITS FALSE NEIGHBOUR: 'it returns false'. Refute it at one input. -/
def branchFinerWrong : ChangeSpec := { name := "branchFiner", fn := fun _ => fun
  | [d1, d2, d3] => { results := [.lit (.bool false)], args := [d1, d2, d3] }
  | _ => none }
def BranchFinerWrongFalsely : Prop := branchFinerRow.holds Try.pinned (OpenSpec.ofChange branchFinerWrong)

/-- 'groynelaw12.BranchParts': WHATEVER THE INPUT: true; the input reads as it did. -/
def branchPartsSpec : ChangeSpec := { name := "branchParts", fn := fun _ => fun
  | [d1, d2, d3] => { results := [.lit (.bool true)], args := [d1, d2, d3] }
  | _ => none }
def branchPartsRow : OpenClaim := { program := "ythflkfgiclcdiaa", sum := "9a20c572aeab3c81bf49b0d2f89fa8da8dc7c02dfe30dce9ec8ec909f17393fe", func := "groyne/groynelaw12.BranchParts", spec := "branchParts", inPlace := ["internal/bytealg.Compare"], unfollowed := true, recurses := true, apart := false }
def BranchPartsSaid : Prop := branchPartsRow.holds Try.pinned (OpenSpec.ofChange branchPartsSpec)

/-- ITS FALSE NEIGHBOUR: 'it returns false'. Refute it at one input. -/
def branchPartsWrong : ChangeSpec := { name := "branchParts", fn := fun _ => fun
  | [d1, d2, d3] => { results := [.lit (.bool false)], args := [d1, d2, d3] }
  | _ => none }
def BranchPartsWrongFalsely : Prop := branchPartsRow.holds Try.pinned (OpenSpec.ofChange branchPartsWrong)

/-- 'groynelaw12.BranchKeeps': WHATEVER THE INPUT: true; the input reads as it did. -/
def branchKeepsSpec : ChangeSpec := { name := "branchKeeps", fn := fun _ => fun
  | [d1, d2] => { results := [.lit (.bool true)], args := [d1, d2] }
  | _ => none }
def branchKeepsRow : OpenClaim := { program := "ythflkfgiclcdiaa", sum := "9a20c572aeab3c81bf49b0d2f89fa8da8dc7c02dfe30dce9ec8ec909f17393fe", func := "groyne/groynelaw12.BranchKeeps", spec := "branchKeeps", inPlace := ["internal/bytealg.Compare"], unfollowed := true, recurses := true, apart := false }
def BranchKeepsSaid : Prop := branchKeepsRow.holds Try.pinned (OpenSpec.ofChange branchKeepsSpec)

/-- ITS FALSE NEIGHBOUR: 'it returns false'. Refute it at one input. -/
def branchKeepsWrong : ChangeSpec := { name := "branchKeeps", fn := fun _ => fun
  | [d1, d2] => { results := [.lit (.bool false)], args := [d1, d2] }
  | _ => none }
def BranchKeepsWrongFalsely : Prop := branchKeepsRow.holds Try.pinned (OpenSpec.ofChange branchKeepsWrong)

/-- 'groynelaw12.BranchReplies': WHATEVER THE INPUT: true; the input reads as it did. -/
def branchRepliesSpec : ChangeSpec := { name := "branchReplies", fn := fun _ => fun
  | [d1, d2, d3] => { results := [.lit (.bool true)], args := [d1, d2, d3] }
  | _ => none }
def branchRepliesRow : OpenClaim := { program := "ythflkfgiclcdiaa", sum := "9a20c572aeab3c81bf49b0d2f89fa8da8dc7c02dfe30dce9ec8ec909f17393fe", func := "groyne/groynelaw12.BranchReplies", spec := "branchReplies", inPlace := ["internal/bytealg.Compare"], unfollowed := true, recurses := true, apart := false }
def BranchRepliesSaid : Prop := branchRepliesRow.holds Try.pinned (OpenSpec.ofChange branchRepliesSpec)

/-- ITS FALSE NEIGHBOUR: 'it returns false'. Refute it at one input. -/
def branchRepliesWrong : ChangeSpec := { name := "branchReplies", fn := fun _ => fun
  | [d1, d2, d3] => { results := [.lit (.bool false)], args := [d1, d2, d3] }
  | _ => none }
def BranchRepliesWrongFalsely : Prop := branchRepliesRow.holds Try.pinned (OpenSpec.ofChange branchRepliesWrong)

/- THE SECOND FORM. 'bulk': how many values and letters a reading holds, each counted each time it is reached (what is shared counts as often as it is met; a slice's spare places count too). A statement '..UptoSaid' is the law's where the arguments, and the package variables that the reading takes, are together of bulk at most 1048576: NARROWER than '..Said'. Prove '..Said' where nothing that the law and all that it calls make is longer than what came in: it says more and counts as full. Else prove '..UptoSaid'. A law counts once. -/
mutual
def uptoBulk {H : Type} : DataW H → Nat
  | .lit (.string bytes) => bytes.length + 1
  | .lit _ => 1
  | .nil => 1
  | .ptr d => uptoBulk d + 1
  | .slice elems spare => uptoBulkAll elems + uptoBulkAll spare + 1
  | .agg parts => uptoBulkAll parts + 1
  | .iface _ d => uptoBulk d + 1
  | .map entries => uptoBulkEntries entries + 1
  | .held _ => 1
def uptoBulkAll {H : Type} : List (DataW H) → Nat
  | [] => 0
  | d :: r => uptoBulk d + uptoBulkAll r
def uptoBulkEntries {H : Type} : List (Lit × DataW H) → Nat
  | [] => 0
  | x :: r => uptoBulkEntry x + uptoBulkEntries r
def uptoBulkEntry {H : Type} : Lit × DataW H → Nat
  | (.string bytes, d) => bytes.length + uptoBulk d + 1
  | (_, d) => uptoBulk d + 1
 end
def uptoSmall : (H : Type) → List (DataW H) → Bool := fun _ ds => decide (uptoBulkAll ds ≤ 1048576)
def OpenSpec.upto (s : _root_.Go.ChangeSpec) : _root_.Go.OpenSpec := { _root_.Go.OpenSpec.ofChange s with cond := some uptoSmall }

/-- 'groynelaw19.TwopcStrays', WHERE WHAT IT READS IS OF BULK AT MOST 1048576: true; the input reads as it did. -/
def twopcStraysUptoRow : OpenClaim := { program := "ythflkfgiclcdiaa", sum := "9a20c572aeab3c81bf49b0d2f89fa8da8dc7c02dfe30dce9ec8ec909f17393fe", func := "groyne/groynelaw19.TwopcStrays", spec := "twopcStrays", inPlace := ["internal/bytealg.Compare"], unfollowed := true, recurses := true, apart := false, narrowed := true }
def TwopcStraysUptoSaid : Prop := twopcStraysUptoRow.holds Try.pinned (OpenSpec.upto twopcStraysSpec)

/-- 'groynelaw12.BranchRuns', WHERE WHAT IT READS IS OF BULK AT MOST 1048576: true; the input reads as it did. -/
def branchRunsUptoRow : OpenClaim := { program := "ythflkfgiclcdiaa", sum := "9a20c572aeab3c81bf49b0d2f89fa8da8dc7c02dfe30dce9ec8ec909f17393fe", func := "groyne/groynelaw12.BranchRuns", spec := "branchRuns", inPlace := ["internal/bytealg.Compare"], unfollowed := true, recurses := true, apart := false, narrowed := true }
def BranchRunsUptoSaid : Prop := branchRunsUptoRow.holds Try.pinned (OpenSpec.upto branchRunsSpec)

/-- 'groynelaw12.BranchFiner', WHERE WHAT IT READS IS OF BULK AT MOST 1048576: true; the input reads as it did. -/
def branchFinerUptoRow : OpenClaim := { program := "ythflkfgiclcdiaa", sum := "9a20c572aeab3c81bf49b0d2f89fa8da8dc7c02dfe30dce9ec8ec909f17393fe", func := "groyne/groynelaw12.BranchFiner", spec := "branchFiner", inPlace := ["internal/bytealg.Compare"], unfollowed := true, recurses := true, apart := false, narrowed := true }
def BranchFinerUptoSaid : Prop := branchFinerUptoRow.holds Try.pinned (OpenSpec.upto branchFinerSpec)

/-- 'groynelaw12.BranchParts', WHERE WHAT IT READS IS OF BULK AT MOST 1048576: true; the input reads as it did. -/
def branchPartsUptoRow : OpenClaim := { program := "ythflkfgiclcdiaa", sum := "9a20c572aeab3c81bf49b0d2f89fa8da8dc7c02dfe30dce9ec8ec909f17393fe", func := "groyne/groynelaw12.BranchParts", spec := "branchParts", inPlace := ["internal/bytealg.Compare"], unfollowed := true, recurses := true, apart := false, narrowed := true }
def BranchPartsUptoSaid : Prop := branchPartsUptoRow.holds Try.pinned (OpenSpec.upto branchPartsSpec)

/-- 'groynelaw12.BranchKeeps', WHERE WHAT IT READS IS OF BULK AT MOST 1048576: true; the input reads as it did. -/
def branchKeepsUptoRow : OpenClaim := { program := "ythflkfgiclcdiaa", sum := "9a20c572aeab3c81bf49b0d2f89fa8da8dc7c02dfe30dce9ec8ec909f17393fe", func := "groyne/groynelaw12.BranchKeeps", spec := "branchKeeps", inPlace := ["internal/bytealg.Compare"], unfollowed := true, recurses := true, apart := false, narrowed := true }
def BranchKeepsUptoSaid : Prop := branchKeepsUptoRow.holds Try.pinned (OpenSpec.upto branchKeepsSpec)

/-- 'groynelaw12.BranchReplies', WHERE WHAT IT READS IS OF BULK AT MOST 1048576: true; the input reads as it did. -/
def branchRepliesUptoRow : OpenClaim := { program := "ythflkfgiclcdiaa", sum := "9a20c572aeab3c81bf49b0d2f89fa8da8dc7c02dfe30dce9ec8ec909f17393fe", func := "groyne/groynelaw12.BranchReplies", spec := "branchReplies", inPlace := ["internal/bytealg.Compare"], unfollowed := true, recurses := true, apart := false, narrowed := true }
def BranchRepliesUptoSaid : Prop := branchRepliesUptoRow.holds Try.pinned (OpenSpec.upto branchRepliesSpec)

end Rows
end Go.Proofs.Ythflkfgiclcdiaa
