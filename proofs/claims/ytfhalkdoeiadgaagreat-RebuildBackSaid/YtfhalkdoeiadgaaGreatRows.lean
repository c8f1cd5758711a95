/-
  No cell of these rows narrows 'for every input' (looked for: loops, veiled, ifaces, maps, wideKeys, modest, calm, conditions, laid).
  DERIVED. THE GIVEN ROWS OF THIS SEAT. 6 by the template 'for every input the law returns true; each argument reads behind the call as it read before'; 0 by the template 'total and deterministic' (their statements: YtfhalkdoeiadgaaGreatTotals.lean).
  GIVEN WITH THE SEED: the statements are not yours to turn. If you find one false, say at which input.
  Laid BY PROGRAM, IN A SANDBOX (cutbox-rows.mjs): the forced cells as the released guide's own fill.sh prints them over the translation 06f1af6f7f5fb30d… (all of the seat's roots in one cut). By AI agents, Wed Nov 11 2026. No macro, syntax, notation, axiom, sorry.
-/
import Derived.Test.YtfhalkdoeiadgaaGreatChecked
import GoSem.Claim
import GoSem.ClaimJoined
import GoSem.ClaimMapViews
import Derived.JoinedTies
import Derived.KernelRfl
namespace Go.Proofs.YtfhalkdoeiadgaaGreat
/- THE CELL 'sum', in the pinned program and in every row, IS THE sha256 OF THE DUMP (.gsa) THAT YtfhalkdoeiadgaaGreatProg.lean LOADS. Nothing in Lean hashes anything: it is a label: what it is worth is what the hold of that sum in a sandbox is worth. -/
noncomputable def Tryz.pinned : Pinned := { name := "ytfhalkdoeiadgaagreat", sum := "06f1af6f7f5fb30df3e6716cd47d959ec3ea9238ce8a357acf758d71ee2d15e0", checked := Tryz.checked }
namespace Rows
def none {H : Type} : Left H := { results := [], args := [] }

/-- 'cellarerlaw24.RebuildExact': WHATEVER THE INPUT: true; the input reads as it did. -/
def rebuildExactSpec : ChangeSpec := { name := "rebuildExact", fn := fun _ => fun
  | [d1, d2, d3] => { results := [.lit (.bool true)], args := [d1, d2, d3] }
  | _ => none }
def rebuildExactRow : OpenClaim := { program := "ytfhalkdoeiadgaagreat", sum := "06f1af6f7f5fb30df3e6716cd47d959ec3ea9238ce8a357acf758d71ee2d15e0", func := "cellarer/cellarerlaw24.RebuildExact", spec := "rebuildExact", inPlace := ["internal/bytealg.Compare", "slices.overlaps[cellarer/api.Chunk]", "slices.overlaps[cellarer/api.Snap]", "slices.overlaps[cellarer/api.Exp]"], unfollowed := true, recurses := true, apart := false }
def RebuildExactSaid : Prop := rebuildExactRow.holds Tryz.pinned (OpenSpec.ofChange rebuildExactSpec)

/-- ITS FALSE NEIGHBOUR: 'it returns false'. Refute it at one input. -/
def rebuildExactWrong : ChangeSpec := { name := "rebuildExact", fn := fun _ => fun
  | [d1, d2, d3] => { results := [.lit (.bool false)], args := [d1, d2, d3] }
  | _ => none }
def RebuildExactWrongFalsely : Prop := rebuildExactRow.holds Tryz.pinned (OpenSpec.ofChange rebuildExactWrong)

/-- 'cellarerlaw24.RebuildBack': WHATEVER THE INPUT: true; the input reads as it did. -/
def rebuildBackSpec : ChangeSpec := { name := "rebuildBack", fn := fun _ => fun
  | [d1, d2, d3] => { results := [.lit (.bool true)], args := [d1, d2, d3] }
  | _ => none }
def rebuildBackRow : OpenClaim := { program := "ytfhalkdoeiadgaagreat", sum := "06f1af6f7f5fb30df3e6716cd47d959ec3ea9238ce8a357acf758d71ee2d15e0", func := "cellarer/cellarerlaw24.RebuildBack", spec := "rebuildBack", inPlace := ["internal/bytealg.Compare", "slices.overlaps[cellarer/api.Chunk]", "slices.overlaps[cellarer/api.Snap]", "slices.overlaps[cellarer/api.Exp]"], unfollowed := true, recurses := true, apart := false }
def RebuildBackSaid : Prop := rebuildBackRow.holds Tryz.pinned (OpenSpec.ofChange rebuildBackSpec)

/-- ITS FALSE NEIGHBOUR: 'it returns false'. Refute it at one input. -/
def rebuildBackWrong : ChangeSpec := { name := "rebuildBack", fn := fun _ => fun
  | [d1, d2, d3] => { results := [.lit (.bool false)], args := [d1, d2, d3] }
  | _ => none }
def RebuildBackWrongFalsely : Prop := rebuildBackRow.holds Tryz.pinned (OpenSpec.ofChange rebuildBackWrong)

/-- 'cellarerlaw24.RebuildPart': WHATEVER THE INPUT: true; the input reads as it did. -/
def rebuildPartSpec : ChangeSpec := { name := "rebuildPart", fn := fun _ => fun
  | [d1, d2] => { results := [.lit (.bool true)], args := [d1, d2] }
  | _ => none }
def rebuildPartRow : OpenClaim := { program := "ytfhalkdoeiadgaagreat", sum := "06f1af6f7f5fb30df3e6716cd47d959ec3ea9238ce8a357acf758d71ee2d15e0", func := "cellarer/cellarerlaw24.RebuildPart", spec := "rebuildPart", inPlace := ["internal/bytealg.Compare", "slices.overlaps[cellarer/api.Chunk]", "slices.overlaps[cellarer/api.Snap]", "slices.overlaps[cellarer/api.Exp]"], unfollowed := true, recurses := true, apart := false }
def RebuildPartSaid : Prop := rebuildPartRow.holds Tryz.pinned (OpenSpec.ofChange rebuildPartSpec)

/-- ITS FALSE NEIGHBOUR: 'it returns false'. Refute it at one input. -/
def rebuildPartWrong : ChangeSpec := { name := "rebuildPart", fn := fun _ => fun
  | [d1, d2] => { results := [.lit (.bool false)], args := [d1, d2] }
  | _ => none }
def RebuildPartWrongFalsely : Prop := rebuildPartRow.holds Tryz.pinned (OpenSpec.ofChange rebuildPartWrong)

/-- 'cellarerlaw24.RebuildLess': WHATEVER THE INPUT: true; the input reads as it did. -/
def rebuildLessSpec : ChangeSpec := { name := "rebuildLess", fn := fun _ => fun
  | [d1, d2, d3] => { results := [.lit (.bool true)], args := [d1, d2, d3] }
  | _ => none }
def rebuildLessRow : OpenClaim := { program := "ytfhalkdoeiadgaagreat", sum := "06f1af6f7f5fb30df3e6716cd47d959ec3ea9238ce8a357acf758d71ee2d15e0", func := "cellarer/cellarerlaw24.RebuildLess", spec := "rebuildLess", inPlace := ["internal/bytealg.Compare", "slices.overlaps[cellarer/api.Chunk]", "slices.overlaps[cellarer/api.Snap]", "slices.overlaps[cellarer/api.Exp]"], unfollowed := true, recurses := true, apart := false }
def RebuildLessSaid : Prop := rebuildLessRow.holds Tryz.pinned (OpenSpec.ofChange rebuildLessSpec)

/-- ITS FALSE NEIGHBOUR: 'it returns false'. Refute it at one input. -/
def rebuildLessWrong : ChangeSpec := { name := "rebuildLess", fn := fun _ => fun
  | [d1, d2, d3] => { results := [.lit (.bool false)], args := [d1, d2, d3] }
  | _ => none }
def RebuildLessWrongFalsely : Prop := rebuildLessRow.holds Tryz.pinned (OpenSpec.ofChange rebuildLessWrong)

/-- 'cellarerlaw24.RebuildTwice': WHATEVER THE INPUT: true; the input reads as it did. -/
def rebuildTwiceSpec : ChangeSpec := { name := "rebuildTwice", fn := fun _ => fun
  | [d1, d2] => { results := [.lit (.bool true)], args := [d1, d2] }
  | _ => none }
def rebuildTwiceRow : OpenClaim := { program := "ytfhalkdoeiadgaagreat", sum := "06f1af6f7f5fb30df3e6716cd47d959ec3ea9238ce8a357acf758d71ee2d15e0", func := "cellarer/cellarerlaw24.RebuildTwice", spec := "rebuildTwice", inPlace := ["internal/bytealg.Compare", "slices.overlaps[cellarer/api.Chunk]", "slices.overlaps[cellarer/api.Snap]", "slices.overlaps[cellarer/api.Exp]"], unfollowed := true, recurses := true, apart := false }
def RebuildTwiceSaid : Prop := rebuildTwiceRow.holds Tryz.pinned (OpenSpec.ofChange rebuildTwiceSpec)

/-- ITS FALSE NEIGHBOUR: 'it returns false'. Refute it at one input. -/
def rebuildTwiceWrong : ChangeSpec := { name := "rebuildTwice", fn := fun _ => fun
  | [d1, d2] => { results := [.lit (.bool false)], args := [d1, d2] }
  | _ => none }
def RebuildTwiceWrongFalsely : Prop := rebuildTwiceRow.holds Tryz.pinned (OpenSpec.ofChange rebuildTwiceWrong)

/-- 'cellarerlaw24.RebuildEmpty': WHATEVER THE INPUT: true; the input reads as it did. -/
def rebuildEmptySpec : ChangeSpec := { name := "rebuildEmpty", fn := fun _ => fun
  | [d1, d2] => { results := [.lit (.bool true)], args := [d1, d2] }
  | _ => none }
def rebuildEmptyRow : OpenClaim := { program := "ytfhalkdoeiadgaagreat", sum := "06f1af6f7f5fb30df3e6716cd47d959ec3ea9238ce8a357acf758d71ee2d15e0", func := "cellarer/cellarerlaw24.RebuildEmpty", spec := "rebuildEmpty", inPlace := ["internal/bytealg.Compare", "slices.overlaps[cellarer/api.Chunk]", "slices.overlaps[cellarer/api.Snap]", "slices.overlaps[cellarer/api.Exp]"], unfollowed := true, recurses := true, apart := false }
def RebuildEmptySaid : Prop := rebuildEmptyRow.holds Tryz.pinned (OpenSpec.ofChange rebuildEmptySpec)

/-- ITS FALSE NEIGHBOUR: 'it returns false'. Refute it at one input. -/
def rebuildEmptyWrong : ChangeSpec := { name := "rebuildEmpty", fn := fun _ => fun
  | [d1, d2] => { results := [.lit (.bool false)], args := [d1, d2] }
  | _ => none }
def RebuildEmptyWrongFalsely : Prop := rebuildEmptyRow.holds Tryz.pinned (OpenSpec.ofChange rebuildEmptyWrong)

/- THE SECOND FORM. 'bulk': how many values and letters a reading holds, each counted each time it is reached (what is shared counts as often as it is met; a slice's spare places count too). A statement '..UptoSaid' is the law's where the arguments, and the package variables that the reading takes, are together of bulk at most 1048576: NARROWER than '..Said'. Prove '..Said' where nothing that the law and all that it calls make is longer than what came in: it says more and counts as full. Else prove '..UptoSaid'. A law counts once. -/
mutual
def uptoBulk {H : Type} : DataW H → Nat
  | .lit (.string bytes) => bytes.length + 1
  | .lit _ => 1
  | .nil => 1
  | .ptr d => uptoBulk d + 1
  | .slice elems spare => uptoBulkAll elems + uptoBulkAll spare + 1
  | .agg parts => uptoBulkAll parts + 1
  | .iface _ d => uptoBulk d + 1
  | .map entries => uptoBulkEntries entries + 1
  | .held _ => 1
def uptoBulkAll {H : Type} : List (DataW H) → Nat
  | [] => 0
  | d :: r => uptoBulk d + uptoBulkAll r
def uptoBulkEntries {H : Type} : List (Lit × DataW H) → Nat
  | [] => 0
  | x :: r => uptoBulkEntry x + uptoBulkEntries r
def uptoBulkEntry {H : Type} : Lit × DataW H → Nat
  | (.string bytes, d) => bytes.length + uptoBulk d + 1
  | (_, d) => uptoBulk d + 1
 end
def uptoSmall : (H : Type) → List (DataW H) → Bool := fun _ ds => decide (uptoBulkAll ds ≤ 1048576)
def OpenSpec.upto (s : _root_.Go.ChangeSpec) : _root_.Go.OpenSpec := { _root_.Go.OpenSpec.ofChange s with cond := some uptoSmall }

/-- 'cellarerlaw24.RebuildExact', WHERE WHAT IT READS IS OF BULK AT MOST 1048576: true; the input reads as it did. -/
def rebuildExactUptoRow : OpenClaim := { program := "ytfhalkdoeiadgaagreat", sum := "06f1af6f7f5fb30df3e6716cd47d959ec3ea9238ce8a357acf758d71ee2d15e0", func := "cellarer/cellarerlaw24.RebuildExact", spec := "rebuildExact", inPlace := ["internal/bytealg.Compare", "slices.overlaps[cellarer/api.Chunk]", "slices.overlaps[cellarer/api.Snap]", "slices.overlaps[cellarer/api.Exp]"], unfollowed := true, recurses := true, apart := false, narrowed := true }
def RebuildExactUptoSaid : Prop := rebuildExactUptoRow.holds Tryz.pinned (OpenSpec.upto rebuildExactSpec)

/-- 'cellarerlaw24.RebuildBack', WHERE WHAT IT READS IS OF BULK AT MOST 1048576: true; the input reads as it did. -/
def rebuildBackUptoRow : OpenClaim := { program := "ytfhalkdoeiadgaagreat", sum := "06f1af6f7f5fb30df3e6716cd47d959ec3ea9238ce8a357acf758d71ee2d15e0", func := "cellarer/cellarerlaw24.RebuildBack", spec := "rebuildBack", inPlace := ["internal/bytealg.Compare", "slices.overlaps[cellarer/api.Chunk]", "slices.overlaps[cellarer/api.Snap]", "slices.overlaps[cellarer/api.Exp]"], unfollowed := true, recurses := true, apart := false, narrowed := true }
def RebuildBackUptoSaid : Prop := rebuildBackUptoRow.holds Tryz.pinned (OpenSpec.upto rebuildBackSpec)

/-- 'cellarerlaw24.RebuildPart', WHERE WHAT IT READS IS OF BULK AT MOST 1048576: true; the input reads as it did. -/
def rebuildPartUptoRow : OpenClaim := { program := "ytfhalkdoeiadgaagreat", sum := "06f1af6f7f5fb30df3e6716cd47d959ec3ea9238ce8a357acf758d71ee2d15e0", func := "cellarer/cellarerlaw24.RebuildPart", spec := "rebuildPart", inPlace := ["internal/bytealg.Compare", "slices.overlaps[cellarer/api.Chunk]", "slices.overlaps[cellarer/api.Snap]", "slices.overlaps[cellarer/api.Exp]"], unfollowed := true, recurses := true, apart := false, narrowed := true }
def RebuildPartUptoSaid : Prop := rebuildPartUptoRow.holds Tryz.pinned (OpenSpec.upto rebuildPartSpec)

/-- 'cellarerlaw24.RebuildLess', WHERE WHAT IT READS IS OF BULK AT MOST 1048576: true; the input reads as it did. -/
def rebuildLessUptoRow : OpenClaim := { program := "ytfhalkdoeiadgaagreat", sum := "06f1af6f7f5fb30df3e6716cd47d959ec3ea9238ce8a357acf758d71ee2d15e0", func := "cellarer/cellarerlaw24.RebuildLess", spec := "rebuildLess", inPlace := ["internal/bytealg.Compare", "slices.overlaps[cellarer/api.Chunk]", "slices.overlaps[cellarer/api.Snap]", "slices.overlaps[cellarer/api.Exp]"], unfollowed := true, recurses := true, apart := false, narrowed := true }
def RebuildLessUptoSaid : Prop := rebuildLessUptoRow.holds Tryz.pinned (OpenSpec.upto rebuildLessSpec)

/-- 'cellarerlaw24.RebuildTwice', WHERE WHAT IT READS IS OF BULK AT MOST 1048576: true; the input reads as it did. -/
def rebuildTwiceUptoRow : OpenClaim := { program := "ytfhalkdoeiadgaagreat", sum := "06f1af6f7f5fb30df3e6716cd47d959ec3ea9238ce8a357acf758d71ee2d15e0", func := "cellarer/cellarerlaw24.RebuildTwice", spec := "rebuildTwice", inPlace := ["internal/bytealg.Compare", "slices.overlaps[cellarer/api.Chunk]", "slices.overlaps[cellarer/api.Snap]", "slices.overlaps[cellarer/api.Exp]"], unfollowed := true, recurses := true, apart := false, narrowed := true }
def RebuildTwiceUptoSaid : Prop := rebuildTwiceUptoRow.holds Tryz.pinned (OpenSpec.upto rebuildTwiceSpec)

/-- 'cellarerlaw24.RebuildEmpty', WHERE WHAT IT READS IS OF BULK AT MOST 1048576: true; the input reads as it did. -/
def rebuildEmptyUptoRow : OpenClaim := { program := "ytfhalkdoeiadgaagreat", sum := "06f1af6f7f5fb30df3e6716cd47d959ec3ea9238ce8a357acf758d71ee2d15e0", func := "cellarer/cellarerlaw24.RebuildEmpty", spec := "rebuildEmpty", inPlace := ["internal/bytealg.Compare", "slices.overlaps[cellarer/api.Chunk]", "slices.overlaps[cellarer/api.Snap]", "slices.overlaps[cellarer/api.Exp]"], unfollowed := true, recurses := true, apart := false, narrowed := true }
def RebuildEmptyUptoSaid : Prop := rebuildEmptyUptoRow.holds Tryz.pinned (OpenSpec.upto rebuildEmptySpec)

end Rows
end Go.Proofs.YtfhalkdoeiadgaaGreat
