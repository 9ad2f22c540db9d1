/-
  No cell of these rows narrows 'for every input' (looked for: loops, veiled, ifaces, maps, wideKeys, modest, calm, conditions, laid).
  DERIVED. THE GIVEN ROWS OF THIS SEAT. 4 by the template 'for every input the law returns true; each argument reads behind the call as it read before'; 0 by the template 'total and deterministic' (their statements: YtionohfkjdahlaaTotals.lean).
  GIVEN WITH THE SEED: the statements are not yours to turn. If you find one false, say at which input.
  Laid BY PROGRAM, IN A SANDBOX (cutbox-rows.mjs): the forced cells as the released guide's own fill.sh prints them over the translation a7b89f42fbafc5c4… (all of the seat's roots in one cut). By AI agents, Wed Nov 11 2026. No macro, syntax, notation, axiom, sorry.
-/
import Derived.Test.YtionohfkjdahlaaChecked
import GoSem.Claim
import GoSem.ClaimJoined
import GoSem.ClaimMapViews
import Derived.JoinedTies
import Derived.KernelRfl
namespace Go.Proofs.Ytionohfkjdahlaa
/- THE CELL 'sum', in the pinned program and in every row, IS THE sha256 OF THE DUMP (.gsa) THAT YtionohfkjdahlaaProg.lean LOADS. Nothing in Lean hashes anything: it is a label: what it is worth is what the hold of that sum in a sandbox is worth. -/
noncomputable def Try.pinned : Pinned := { name := "ytionohfkjdahlaa", sum := "a7b89f42fbafc5c48498d24ccdafc6d7bf316cbcefbe76d40029b62288a5cf57", checked := Try.checked }
namespace Rows
def none {H : Type} : Left H := { results := [], args := [] }

/-- 'glossatorkeep1.RopeConcat': WHATEVER THE INPUT: true; the input reads as it did. -/
def ropeConcatSpec : ChangeSpec := { name := "ropeConcat", fn := fun _ => fun
  | [d] => { results := [.lit (.bool true)], args := [d] }
  | _ => none }
def ropeConcatRow : OpenClaim := { program := "ytionohfkjdahlaa", sum := "a7b89f42fbafc5c48498d24ccdafc6d7bf316cbcefbe76d40029b62288a5cf57", func := "glossator/glossatorkeep1.RopeConcat", spec := "ropeConcat", inPlace := ["internal/abi.NoEscape"], recurses := true, apart := false }
def RopeConcatSaid : Prop := ropeConcatRow.holds Try.pinned (OpenSpec.ofChange ropeConcatSpec)

/-- ITS FALSE NEIGHBOUR: 'it returns false'. Refute it at one input. -/
def ropeConcatWrong : ChangeSpec := { name := "ropeConcat", fn := fun _ => fun
  | [d] => { results := [.lit (.bool false)], args := [d] }
  | _ => none }
def RopeConcatWrongFalsely : Prop := ropeConcatRow.holds Try.pinned (OpenSpec.ofChange ropeConcatWrong)

/-- 'glossatorkeep1.RopeSplit': WHATEVER THE INPUT: true; the input reads as it did. -/
def ropeSplitSpec : ChangeSpec := { name := "ropeSplit", fn := fun _ => fun
  | [d1, d2] => { results := [.lit (.bool true)], args := [d1, d2] }
  | _ => none }
def ropeSplitRow : OpenClaim := { program := "ytionohfkjdahlaa", sum := "a7b89f42fbafc5c48498d24ccdafc6d7bf316cbcefbe76d40029b62288a5cf57", func := "glossator/glossatorkeep1.RopeSplit", spec := "ropeSplit", inPlace := ["internal/abi.NoEscape"], recurses := true, apart := false }
def RopeSplitSaid : Prop := ropeSplitRow.holds Try.pinned (OpenSpec.ofChange ropeSplitSpec)

/-- ITS FALSE NEIGHBOUR: 'it returns false'. Refute it at one input. -/
def ropeSplitWrong : ChangeSpec := { name := "ropeSplit", fn := fun _ => fun
  | [d1, d2] => { results := [.lit (.bool false)], args := [d1, d2] }
  | _ => none }
def RopeSplitWrongFalsely : Prop := ropeSplitRow.holds Try.pinned (OpenSpec.ofChange ropeSplitWrong)

/-- 'glossatorkeep1.RopeBalanced': WHATEVER THE INPUT: true; the input reads as it did. -/
def ropeBalancedSpec : ChangeSpec := { name := "ropeBalanced", fn := fun _ => fun
  | [d1, d2] => { results := [.lit (.bool true)], args := [d1, d2] }
  | _ => none }
def ropeBalancedRow : OpenClaim := { program := "ytionohfkjdahlaa", sum := "a7b89f42fbafc5c48498d24ccdafc6d7bf316cbcefbe76d40029b62288a5cf57", func := "glossator/glossatorkeep1.RopeBalanced", spec := "ropeBalanced", inPlace := ["internal/abi.NoEscape"], recurses := true, apart := false }
def RopeBalancedSaid : Prop := ropeBalancedRow.holds Try.pinned (OpenSpec.ofChange ropeBalancedSpec)

/-- ITS FALSE NEIGHBOUR: 'it returns false'. Refute it at one input. -/
def ropeBalancedWrong : ChangeSpec := { name := "ropeBalanced", fn := fun _ => fun
  | [d1, d2] => { results := [.lit (.bool false)], args := [d1, d2] }
  | _ => none }
def RopeBalancedWrongFalsely : Prop := ropeBalancedRow.holds Try.pinned (OpenSpec.ofChange ropeBalancedWrong)

/-- 'glossatorkeep1.RopeApply': WHATEVER THE INPUT: true; the input reads as it did. -/
def ropeApplySpec : ChangeSpec := { name := "ropeApply", fn := fun _ => fun
  | [d1, d2] => { results := [.lit (.bool true)], args := [d1, d2] }
  | _ => none }
def ropeApplyRow : OpenClaim := { program := "ytionohfkjdahlaa", sum := "a7b89f42fbafc5c48498d24ccdafc6d7bf316cbcefbe76d40029b62288a5cf57", func := "glossator/glossatorkeep1.RopeApply", spec := "ropeApply", inPlace := ["internal/abi.NoEscape"], recurses := true, apart := false }
def RopeApplySaid : Prop := ropeApplyRow.holds Try.pinned (OpenSpec.ofChange ropeApplySpec)

/-- ITS FALSE NEIGHBOUR: 'it returns false'. Refute it at one input. -/
def ropeApplyWrong : ChangeSpec := { name := "ropeApply", fn := fun _ => fun
  | [d1, d2] => { results := [.lit (.bool false)], args := [d1, d2] }
  | _ => none }
def RopeApplyWrongFalsely : Prop := ropeApplyRow.holds Try.pinned (OpenSpec.ofChange ropeApplyWrong)

/- THE SECOND FORM. 'bulk': how many values and letters a reading holds, each counted each time it is reached (what is shared counts as often as it is met; a slice's spare places count too). A statement '..UptoSaid' is the law's where the arguments, and the package variables that the reading takes, are together of bulk at most 1048576: NARROWER than '..Said'. Prove '..Said' where nothing that the law and all that it calls make is longer than what came in: it says more and counts as full. Else prove '..UptoSaid'. A law counts once. -/
mutual
def uptoBulk {H : Type} : DataW H → Nat
  | .lit (.string bytes) => bytes.length + 1
  | .lit _ => 1
  | .nil => 1
  | .ptr d => uptoBulk d + 1
  | .slice elems spare => uptoBulkAll elems + uptoBulkAll spare + 1
  | .agg parts => uptoBulkAll parts + 1
  | .iface _ d => uptoBulk d + 1
  | .map entries => uptoBulkEntries entries + 1
  | .held _ => 1
def uptoBulkAll {H : Type} : List (DataW H) → Nat
  | [] => 0
  | d :: r => uptoBulk d + uptoBulkAll r
def uptoBulkEntries {H : Type} : List (Lit × DataW H) → Nat
  | [] => 0
  | x :: r => uptoBulkEntry x + uptoBulkEntries r
def uptoBulkEntry {H : Type} : Lit × DataW H → Nat
  | (.string bytes, d) => bytes.length + uptoBulk d + 1
  | (_, d) => uptoBulk d + 1
 end
def uptoSmall : (H : Type) → List (DataW H) → Bool := fun _ ds => decide (uptoBulkAll ds ≤ 1048576)
def OpenSpec.upto (s : _root_.Go.ChangeSpec) : _root_.Go.OpenSpec := { _root_.Go.OpenSpec.ofChange s with cond := some uptoSmall }

/-- 'glossatorkeep1.RopeConcat', WHERE WHAT IT READS IS OF BULK AT MOST 1048576: true; the input reads as it did. -/
def ropeConcatUptoRow : OpenClaim := { program := "ytionohfkjdahlaa", sum := "a7b89f42fbafc5c48498d24ccdafc6d7bf316cbcefbe76d40029b62288a5cf57", func := "glossator/glossatorkeep1.RopeConcat", spec := "ropeConcat", inPlace := ["internal/abi.NoEscape"], recurses := true, apart := false, narrowed := true }
def RopeConcatUptoSaid : Prop := ropeConcatUptoRow.holds Try.pinned (OpenSpec.upto ropeConcatSpec)

/-- 'glossatorkeep1.RopeSplit', WHERE WHAT IT READS IS OF BULK AT MOST 1048576: true; the input reads as it did. -/
def ropeSplitUptoRow : OpenClaim := { program := "ytionohfkjdahlaa", sum := "a7b89f42fbafc5c48498d24ccdafc6d7bf316cbcefbe76d40029b62288a5cf57", func := "glossator/glossatorkeep1.RopeSplit", spec := "ropeSplit", inPlace := ["internal/abi.NoEscape"], recurses := true, apart := false, narrowed := true }
def RopeSplitUptoSaid : Prop := ropeSplitUptoRow.holds Try.pinned (OpenSpec.upto ropeSplitSpec)

/-- 'glossatorkeep1.RopeBalanced', WHERE WHAT IT READS IS OF BULK AT MOST 1048576: true; the input reads as it did. -/
def ropeBalancedUptoRow : OpenClaim := { program := "ytionohfkjdahlaa", sum := "a7b89f42fbafc5c48498d24ccdafc6d7bf316cbcefbe76d40029b62288a5cf57", func := "glossator/glossatorkeep1.RopeBalanced", spec := "ropeBalanced", inPlace := ["internal/abi.NoEscape"], recurses := true, apart := false, narrowed := true }
def RopeBalancedUptoSaid : Prop := ropeBalancedUptoRow.holds Try.pinned (OpenSpec.upto ropeBalancedSpec)

/-- 'glossatorkeep1.RopeApply', WHERE WHAT IT READS IS OF BULK AT MOST 1048576: true; the input reads as it did. -/
def ropeApplyUptoRow : OpenClaim := { program := "ytionohfkjdahlaa", sum := "a7b89f42fbafc5c48498d24ccdafc6d7bf316cbcefbe76d40029b62288a5cf57", func := "glossator/glossatorkeep1.RopeApply", spec := "ropeApply", inPlace := ["internal/abi.NoEscape"], recurses := true, apart := false, narrowed := true }
def RopeApplyUptoSaid : Prop := ropeApplyUptoRow.holds Try.pinned (OpenSpec.upto ropeApplySpec)

end Rows
end Go.Proofs.Ytionohfkjdahlaa
