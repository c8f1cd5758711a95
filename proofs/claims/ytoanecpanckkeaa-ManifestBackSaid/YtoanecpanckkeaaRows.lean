/-
  No cell of these rows narrows 'for every input' (looked for: loops, veiled, ifaces, maps, wideKeys, modest, calm, conditions, laid).
  DERIVED. THE GIVEN ROWS OF THIS SEAT. 12 by the template 'for every input the law returns true; each argument reads behind the call as it read before'; 0 by the template 'total and deterministic' (their statements: YtoanecpanckkeaaTotals.lean).
  GIVEN WITH THE SEED: the statements are not yours to turn. If you find one false, say at which input.
  Laid BY PROGRAM, IN A SANDBOX (cutbox-rows.mjs): the forced cells as the released guide's own fill.sh prints them over the translation e7ede0cf3c7aedcb… (all of the seat's roots in one cut). By AI agents, Wed Nov 11 2026. No macro, syntax, notation, axiom, sorry.
-/
import Derived.Test.YtoanecpanckkeaaChecked
import GoSem.Claim
import GoSem.ClaimJoined
import GoSem.ClaimMapViews
import Derived.JoinedTies
import Derived.KernelRfl
namespace Go.Proofs.Ytoanecpanckkeaa
/- THE CELL 'sum', in the pinned program and in every row, IS THE sha256 OF THE DUMP (.gsa) THAT YtoanecpanckkeaaProg.lean LOADS. Nothing in Lean hashes anything: it is a label: what it is worth is what the hold of that sum in a sandbox is worth. -/
noncomputable def Try.pinned : Pinned := { name := "ytoanecpanckkeaa", sum := "e7ede0cf3c7aedcbea52cdaefd2c9fa2848e43ee9b892f0dbfa34d37f60a6811", checked := Try.checked }
namespace Rows
def none {H : Type} : Left H := { results := [], args := [] }

/-- 'cellarerlaw05.TreeNames': WHATEVER THE INPUT: true; the input reads as it did. -/
def treeNamesSpec : ChangeSpec := { name := "treeNames", fn := fun _ => fun
  | [d1, d2, d3] => { results := [.lit (.bool true)], args := [d1, d2, d3] }
  | _ => none }
def treeNamesRow : OpenClaim := { program := "ytoanecpanckkeaa", sum := "e7ede0cf3c7aedcbea52cdaefd2c9fa2848e43ee9b892f0dbfa34d37f60a6811", func := "cellarer/cellarerlaw05.TreeNames", spec := "treeNames", unfollowed := true, recurses := true, plainKeys := false, apart := false }
def TreeNamesSaid : Prop := treeNamesRow.holds Try.pinned (OpenSpec.ofChange treeNamesSpec)

/-- ITS FALSE NEIGHBOUR: 'it returns false'. Refute it at one input. -/
def treeNamesWrong : ChangeSpec := { name := "treeNames", fn := fun _ => fun
  | [d1, d2, d3] => { results := [.lit (.bool false)], args := [d1, d2, d3] }
  | _ => none }
def TreeNamesWrongFalsely : Prop := treeNamesRow.holds Try.pinned (OpenSpec.ofChange treeNamesWrong)

/-- 'cellarerlaw05.TreeExact': WHATEVER THE INPUT: true; the input reads as it did. -/
def treeExactSpec : ChangeSpec := { name := "treeExact", fn := fun _ => fun
  | [d1, d2] => { results := [.lit (.bool true)], args := [d1, d2] }
  | _ => none }
def treeExactRow : OpenClaim := { program := "ytoanecpanckkeaa", sum := "e7ede0cf3c7aedcbea52cdaefd2c9fa2848e43ee9b892f0dbfa34d37f60a6811", func := "cellarer/cellarerlaw05.TreeExact", spec := "treeExact", unfollowed := true, recurses := true, plainKeys := false, apart := false }
def TreeExactSaid : Prop := treeExactRow.holds Try.pinned (OpenSpec.ofChange treeExactSpec)

/-- ITS FALSE NEIGHBOUR: 'it returns false'. Refute it at one input. -/
def treeExactWrong : ChangeSpec := { name := "treeExact", fn := fun _ => fun
  | [d1, d2] => { results := [.lit (.bool false)], args := [d1, d2] }
  | _ => none }
def TreeExactWrongFalsely : Prop := treeExactRow.holds Try.pinned (OpenSpec.ofChange treeExactWrong)

/-- 'cellarerlaw05.TreeSame': WHATEVER THE INPUT: true; the input reads as it did. -/
def treeSameSpec : ChangeSpec := { name := "treeSame", fn := fun _ => fun
  | [d1, d2] => { results := [.lit (.bool true)], args := [d1, d2] }
  | _ => none }
def treeSameRow : OpenClaim := { program := "ytoanecpanckkeaa", sum := "e7ede0cf3c7aedcbea52cdaefd2c9fa2848e43ee9b892f0dbfa34d37f60a6811", func := "cellarer/cellarerlaw05.TreeSame", spec := "treeSame", unfollowed := true, recurses := true, plainKeys := false, apart := false }
def TreeSameSaid : Prop := treeSameRow.holds Try.pinned (OpenSpec.ofChange treeSameSpec)

/-- ITS FALSE NEIGHBOUR: 'it returns false'. Refute it at one input. -/
def treeSameWrong : ChangeSpec := { name := "treeSame", fn := fun _ => fun
  | [d1, d2] => { results := [.lit (.bool false)], args := [d1, d2] }
  | _ => none }
def TreeSameWrongFalsely : Prop := treeSameRow.holds Try.pinned (OpenSpec.ofChange treeSameWrong)

/-- 'cellarerlaw05.TreeSorts': WHATEVER THE INPUT: true; the input reads as it did. -/
def treeSortsSpec : ChangeSpec := { name := "treeSorts", fn := fun _ => fun
  | [d1, d2] => { results := [.lit (.bool true)], args := [d1, d2] }
  | _ => none }
def treeSortsRow : OpenClaim := { program := "ytoanecpanckkeaa", sum := "e7ede0cf3c7aedcbea52cdaefd2c9fa2848e43ee9b892f0dbfa34d37f60a6811", func := "cellarer/cellarerlaw05.TreeSorts", spec := "treeSorts", unfollowed := true, recurses := true, plainKeys := false, apart := false }
def TreeSortsSaid : Prop := treeSortsRow.holds Try.pinned (OpenSpec.ofChange treeSortsSpec)

/-- ITS FALSE NEIGHBOUR: 'it returns false'. Refute it at one input. -/
def treeSortsWrong : ChangeSpec := { name := "treeSorts", fn := fun _ => fun
  | [d1, d2] => { results := [.lit (.bool false)], args := [d1, d2] }
  | _ => none }
def TreeSortsWrongFalsely : Prop := treeSortsRow.holds Try.pinned (OpenSpec.ofChange treeSortsWrong)

/-- 'cellarerlaw05.TreeBounds': WHATEVER THE INPUT: true; the input reads as it did. -/
def treeBoundsSpec : ChangeSpec := { name := "treeBounds", fn := fun _ => fun
  | [d1, d2, d3] => { results := [.lit (.bool true)], args := [d1, d2, d3] }
  | _ => none }
def treeBoundsRow : OpenClaim := { program := "ytoanecpanckkeaa", sum := "e7ede0cf3c7aedcbea52cdaefd2c9fa2848e43ee9b892f0dbfa34d37f60a6811", func := "cellarer/cellarerlaw05.TreeBounds", spec := "treeBounds", unfollowed := true, recurses := true, plainKeys := false, apart := false }
def TreeBoundsSaid : Prop := treeBoundsRow.holds Try.pinned (OpenSpec.ofChange treeBoundsSpec)

/-- ITS FALSE NEIGHBOUR: 'it returns false'. Refute it at one input. -/
def treeBoundsWrong : ChangeSpec := { name := "treeBounds", fn := fun _ => fun
  | [d1, d2, d3] => { results := [.lit (.bool false)], args := [d1, d2, d3] }
  | _ => none }
def TreeBoundsWrongFalsely : Prop := treeBoundsRow.holds Try.pinned (OpenSpec.ofChange treeBoundsWrong)

/-- 'cellarerlaw17.ManifestSizes': WHATEVER THE INPUT: true; the input reads as it did. -/
def manifestSizesSpec : ChangeSpec := { name := "manifestSizes", fn := fun _ => fun
  | [d] => { results := [.lit (.bool true)], args := [d] }
  | _ => none }
def manifestSizesRow : OpenClaim := { program := "ytoanecpanckkeaa", sum := "e7ede0cf3c7aedcbea52cdaefd2c9fa2848e43ee9b892f0dbfa34d37f60a6811", func := "cellarer/cellarerlaw17.ManifestSizes", spec := "manifestSizes", inPlace := ["internal/bytealg.Compare"], unfollowed := true, recurses := true, plainKeys := false, apart := false }
def ManifestSizesSaid : Prop := manifestSizesRow.holds Try.pinned (OpenSpec.ofChange manifestSizesSpec)

/-- ITS FALSE NEIGHBOUR: 'it returns false'. Refute it at one input. -/
def manifestSizesWrong : ChangeSpec := { name := "manifestSizes", fn := fun _ => fun
  | [d] => { results := [.lit (.bool false)], args := [d] }
  | _ => none }
def ManifestSizesWrongFalsely : Prop := manifestSizesRow.holds Try.pinned (OpenSpec.ofChange manifestSizesWrong)

/-- 'cellarerlaw17.ManifestIds': WHATEVER THE INPUT: true; the input reads as it did. -/
def manifestIdsSpec : ChangeSpec := { name := "manifestIds", fn := fun _ => fun
  | [d1, d2] => { results := [.lit (.bool true)], args := [d1, d2] }
  | _ => none }
def manifestIdsRow : OpenClaim := { program := "ytoanecpanckkeaa", sum := "e7ede0cf3c7aedcbea52cdaefd2c9fa2848e43ee9b892f0dbfa34d37f60a6811", func := "cellarer/cellarerlaw17.ManifestIds", spec := "manifestIds", inPlace := ["internal/bytealg.Compare"], unfollowed := true, recurses := true, plainKeys := false, apart := false }
def ManifestIdsSaid : Prop := manifestIdsRow.holds Try.pinned (OpenSpec.ofChange manifestIdsSpec)

/-- ITS FALSE NEIGHBOUR: 'it returns false'. Refute it at one input. -/
def manifestIdsWrong : ChangeSpec := { name := "manifestIds", fn := fun _ => fun
  | [d1, d2] => { results := [.lit (.bool false)], args := [d1, d2] }
  | _ => none }
def ManifestIdsWrongFalsely : Prop := manifestIdsRow.holds Try.pinned (OpenSpec.ofChange manifestIdsWrong)

/-- 'cellarerlaw17.ManifestReads': WHATEVER THE INPUT: true; the input reads as it did. -/
def manifestReadsSpec : ChangeSpec := { name := "manifestReads", fn := fun _ => fun
  | [d] => { results := [.lit (.bool true)], args := [d] }
  | _ => none }
def manifestReadsRow : OpenClaim := { program := "ytoanecpanckkeaa", sum := "e7ede0cf3c7aedcbea52cdaefd2c9fa2848e43ee9b892f0dbfa34d37f60a6811", func := "cellarer/cellarerlaw17.ManifestReads", spec := "manifestReads", inPlace := ["internal/bytealg.Compare"], unfollowed := true, recurses := true, plainKeys := false, apart := false }
def ManifestReadsSaid : Prop := manifestReadsRow.holds Try.pinned (OpenSpec.ofChange manifestReadsSpec)

/-- ITS FALSE NEIGHBOUR: 'it returns false'. Refute it at one input. -/
def manifestReadsWrong : ChangeSpec := { name := "manifestReads", fn := fun _ => fun
  | [d] => { results := [.lit (.bool false)], args := [d] }
  | _ => none }
def ManifestReadsWrongFalsely : Prop := manifestReadsRow.holds Try.pinned (OpenSpec.ofChange manifestReadsWrong)

/-- 'cellarerlaw17.ManifestUnlike': WHATEVER THE INPUT: true; the input reads as it did. -/
def manifestUnlikeSpec : ChangeSpec := { name := "manifestUnlike", fn := fun _ => fun
  | [d1, d2, d3, d4] => { results := [.lit (.bool true)], args := [d1, d2, d3, d4] }
  | _ => none }
def manifestUnlikeRow : OpenClaim := { program := "ytoanecpanckkeaa", sum := "e7ede0cf3c7aedcbea52cdaefd2c9fa2848e43ee9b892f0dbfa34d37f60a6811", func := "cellarer/cellarerlaw17.ManifestUnlike", spec := "manifestUnlike", inPlace := ["internal/bytealg.Compare"], unfollowed := true, recurses := true, plainKeys := false, apart := false }
def ManifestUnlikeSaid : Prop := manifestUnlikeRow.holds Try.pinned (OpenSpec.ofChange manifestUnlikeSpec)

/-- ITS FALSE NEIGHBOUR: 'it returns false'. Refute it at one input. -/
def manifestUnlikeWrong : ChangeSpec := { name := "manifestUnlike", fn := fun _ => fun
  | [d1, d2, d3, d4] => { results := [.lit (.bool false)], args := [d1, d2, d3, d4] }
  | _ => none }
def ManifestUnlikeWrongFalsely : Prop := manifestUnlikeRow.holds Try.pinned (OpenSpec.ofChange manifestUnlikeWrong)

/-- 'cellarerlaw17.ManifestBuilds': WHATEVER THE INPUT: true; the input reads as it did. -/
def manifestBuildsSpec : ChangeSpec := { name := "manifestBuilds", fn := fun _ => fun
  | [d1, d2, d3, d4] => { results := [.lit (.bool true)], args := [d1, d2, d3, d4] }
  | _ => none }
def manifestBuildsRow : OpenClaim := { program := "ytoanecpanckkeaa", sum := "e7ede0cf3c7aedcbea52cdaefd2c9fa2848e43ee9b892f0dbfa34d37f60a6811", func := "cellarer/cellarerlaw17.ManifestBuilds", spec := "manifestBuilds", inPlace := ["internal/bytealg.Compare"], unfollowed := true, recurses := true, plainKeys := false, apart := false }
def ManifestBuildsSaid : Prop := manifestBuildsRow.holds Try.pinned (OpenSpec.ofChange manifestBuildsSpec)

/-- ITS FALSE NEIGHBOUR: 'it returns false'. Refute it at one input. -/
def manifestBuildsWrong : ChangeSpec := { name := "manifestBuilds", fn := fun _ => fun
  | [d1, d2, d3, d4] => { results := [.lit (.bool false)], args := [d1, d2, d3, d4] }
  | _ => none }
def ManifestBuildsWrongFalsely : Prop := manifestBuildsRow.holds Try.pinned (OpenSpec.ofChange manifestBuildsWrong)

/-- 'cellarerlaw17.ManifestBack': WHATEVER THE INPUT: true; the input reads as it did. -/
def manifestBackSpec : ChangeSpec := { name := "manifestBack", fn := fun _ => fun
  | [d1, d2, d3, d4] => { results := [.lit (.bool true)], args := [d1, d2, d3, d4] }
  | _ => none }
def manifestBackRow : OpenClaim := { program := "ytoanecpanckkeaa", sum := "e7ede0cf3c7aedcbea52cdaefd2c9fa2848e43ee9b892f0dbfa34d37f60a6811", func := "cellarer/cellarerlaw17.ManifestBack", spec := "manifestBack", inPlace := ["internal/bytealg.Compare"], unfollowed := true, recurses := true, plainKeys := false, apart := false }
def ManifestBackSaid : Prop := manifestBackRow.holds Try.pinned (OpenSpec.ofChange manifestBackSpec)

/-- ITS FALSE NEIGHBOUR: 'it returns false'. Refute it at one input. -/
def manifestBackWrong : ChangeSpec := { name := "manifestBack", fn := fun _ => fun
  | [d1, d2, d3, d4] => { results := [.lit (.bool false)], args := [d1, d2, d3, d4] }
  | _ => none }
def ManifestBackWrongFalsely : Prop := manifestBackRow.holds Try.pinned (OpenSpec.ofChange manifestBackWrong)

/-- 'cellarerlaw17.ManifestExact': WHATEVER THE INPUT: true; the input reads as it did. -/
def manifestExactSpec : ChangeSpec := { name := "manifestExact", fn := fun _ => fun
  | [d] => { results := [.lit (.bool true)], args := [d] }
  | _ => none }
def manifestExactRow : OpenClaim := { program := "ytoanecpanckkeaa", sum := "e7ede0cf3c7aedcbea52cdaefd2c9fa2848e43ee9b892f0dbfa34d37f60a6811", func := "cellarer/cellarerlaw17.ManifestExact", spec := "manifestExact", inPlace := ["internal/bytealg.Compare"], unfollowed := true, recurses := true, plainKeys := false, apart := false }
def ManifestExactSaid : Prop := manifestExactRow.holds Try.pinned (OpenSpec.ofChange manifestExactSpec)

/-- ITS FALSE NEIGHBOUR: 'it returns false'. Refute it at one input. -/
def manifestExactWrong : ChangeSpec := { name := "manifestExact", fn := fun _ => fun
  | [d] => { results := [.lit (.bool false)], args := [d] }
  | _ => none }
def ManifestExactWrongFalsely : Prop := manifestExactRow.holds Try.pinned (OpenSpec.ofChange manifestExactWrong)

/- THE SECOND FORM. 'bulk': how many values and letters a reading holds, each counted each time it is reached (what is shared counts as often as it is met; a slice's spare places count too). A statement '..UptoSaid' is the law's where the arguments, and the package variables that the reading takes, are together of bulk at most 1048576: NARROWER than '..Said'. Prove '..Said' where nothing that the law and all that it calls make is longer than what came in: it says more and counts as full. Else prove '..UptoSaid'. A law counts once. -/
mutual
def uptoBulk {H : Type} : DataW H → Nat
  | .lit (.string bytes) => bytes.length + 1
  | .lit _ => 1
  | .nil => 1
  | .ptr d => uptoBulk d + 1
  | .slice elems spare => uptoBulkAll elems + uptoBulkAll spare + 1
  | .agg parts => uptoBulkAll parts + 1
  | .iface _ d => uptoBulk d + 1
  | .map entries => uptoBulkEntries entries + 1
  | .held _ => 1
def uptoBulkAll {H : Type} : List (DataW H) → Nat
  | [] => 0
  | d :: r => uptoBulk d + uptoBulkAll r
def uptoBulkEntries {H : Type} : List (Lit × DataW H) → Nat
  | [] => 0
  | x :: r => uptoBulkEntry x + uptoBulkEntries r
def uptoBulkEntry {H : Type} : Lit × DataW H → Nat
  | (.string bytes, d) => bytes.length + uptoBulk d + 1
  | (_, d) => uptoBulk d + 1
 end
def uptoSmall : (H : Type) → List (DataW H) → Bool := fun _ ds => decide (uptoBulkAll ds ≤ 1048576)
def OpenSpec.upto (s : _root_.Go.ChangeSpec) : _root_.Go.OpenSpec := { _root_.Go.OpenSpec.ofChange s with cond := some uptoSmall }

/-- 'cellarerlaw05.TreeNames', WHERE WHAT IT READS IS OF BULK AT MOST 1048576: true; the input reads as it did. -/
def treeNamesUptoRow : OpenClaim := { program := "ytoanecpanckkeaa", sum := "e7ede0cf3c7aedcbea52cdaefd2c9fa2848e43ee9b892f0dbfa34d37f60a6811", func := "cellarer/cellarerlaw05.TreeNames", spec := "treeNames", unfollowed := true, recurses := true, plainKeys := false, apart := false, narrowed := true }
def TreeNamesUptoSaid : Prop := treeNamesUptoRow.holds Try.pinned (OpenSpec.upto treeNamesSpec)

/-- 'cellarerlaw05.TreeExact', WHERE WHAT IT READS IS OF BULK AT MOST 1048576: true; the input reads as it did. -/
def treeExactUptoRow : OpenClaim := { program := "ytoanecpanckkeaa", sum := "e7ede0cf3c7aedcbea52cdaefd2c9fa2848e43ee9b892f0dbfa34d37f60a6811", func := "cellarer/cellarerlaw05.TreeExact", spec := "treeExact", unfollowed := true, recurses := true, plainKeys := false, apart := false, narrowed := true }
def TreeExactUptoSaid : Prop := treeExactUptoRow.holds Try.pinned (OpenSpec.upto treeExactSpec)

/-- 'cellarerlaw05.TreeSame', WHERE WHAT IT READS IS OF BULK AT MOST 1048576: true; the input reads as it did. -/
def treeSameUptoRow : OpenClaim := { program := "ytoanecpanckkeaa", sum := "e7ede0cf3c7aedcbea52cdaefd2c9fa2848e43ee9b892f0dbfa34d37f60a6811", func := "cellarer/cellarerlaw05.TreeSame", spec := "treeSame", unfollowed := true, recurses := true, plainKeys := false, apart := false, narrowed := true }
def TreeSameUptoSaid : Prop := treeSameUptoRow.holds Try.pinned (OpenSpec.upto treeSameSpec)

/-- 'cellarerlaw05.TreeSorts', WHERE WHAT IT READS IS OF BULK AT MOST 1048576: true; the input reads as it did. -/
def treeSortsUptoRow : OpenClaim := { program := "ytoanecpanckkeaa", sum := "e7ede0cf3c7aedcbea52cdaefd2c9fa2848e43ee9b892f0dbfa34d37f60a6811", func := "cellarer/cellarerlaw05.TreeSorts", spec := "treeSorts", unfollowed := true, recurses := true, plainKeys := false, apart := false, narrowed := true }
def TreeSortsUptoSaid : Prop := treeSortsUptoRow.holds Try.pinned (OpenSpec.upto treeSortsSpec)

/-- 'cellarerlaw05.TreeBounds', WHERE WHAT IT READS IS OF BULK AT MOST 1048576: true; the input reads as it did. -/
def treeBoundsUptoRow : OpenClaim := { program := "ytoanecpanckkeaa", sum := "e7ede0cf3c7aedcbea52cdaefd2c9fa2848e43ee9b892f0dbfa34d37f60a6811", func := "cellarer/cellarerlaw05.TreeBounds", spec := "treeBounds", unfollowed := true, recurses := true, plainKeys := false, apart := false, narrowed := true }
def TreeBoundsUptoSaid : Prop := treeBoundsUptoRow.holds Try.pinned (OpenSpec.upto treeBoundsSpec)

/-- 'cellarerlaw17.ManifestSizes', WHERE WHAT IT READS IS OF BULK AT MOST 1048576: true; the input reads as it did. -/
def manifestSizesUptoRow : OpenClaim := { program := "ytoanecpanckkeaa", sum := "e7ede0cf3c7aedcbea52cdaefd2c9fa2848e43ee9b892f0dbfa34d37f60a6811", func := "cellarer/cellarerlaw17.ManifestSizes", spec := "manifestSizes", inPlace := ["internal/bytealg.Compare"], unfollowed := true, recurses := true, plainKeys := false, apart := false, narrowed := true }
def ManifestSizesUptoSaid : Prop := manifestSizesUptoRow.holds Try.pinned (OpenSpec.upto manifestSizesSpec)

/-- 'cellarerlaw17.ManifestIds', WHERE WHAT IT READS IS OF BULK AT MOST 1048576: true; the input reads as it did. -/
def manifestIdsUptoRow : OpenClaim := { program := "ytoanecpanckkeaa", sum := "e7ede0cf3c7aedcbea52cdaefd2c9fa2848e43ee9b892f0dbfa34d37f60a6811", func := "cellarer/cellarerlaw17.ManifestIds", spec := "manifestIds", inPlace := ["internal/bytealg.Compare"], unfollowed := true, recurses := true, plainKeys := false, apart := false, narrowed := true }
def ManifestIdsUptoSaid : Prop := manifestIdsUptoRow.holds Try.pinned (OpenSpec.upto manifestIdsSpec)

/-- 'cellarerlaw17.ManifestReads', WHERE WHAT IT READS IS OF BULK AT MOST 1048576: true; the input reads as it did. -/
def manifestReadsUptoRow : OpenClaim := { program := "ytoanecpanckkeaa", sum := "e7ede0cf3c7aedcbea52cdaefd2c9fa2848e43ee9b892f0dbfa34d37f60a6811", func := "cellarer/cellarerlaw17.ManifestReads", spec := "manifestReads", inPlace := ["internal/bytealg.Compare"], unfollowed := true, recurses := true, plainKeys := false, apart := false, narrowed := true }
def ManifestReadsUptoSaid : Prop := manifestReadsUptoRow.holds Try.pinned (OpenSpec.upto manifestReadsSpec)

/-- 'cellarerlaw17.ManifestUnlike', WHERE WHAT IT READS IS OF BULK AT MOST 1048576: true; the input reads as it did. -/
def manifestUnlikeUptoRow : OpenClaim := { program := "ytoanecpanckkeaa", sum := "e7ede0cf3c7aedcbea52cdaefd2c9fa2848e43ee9b892f0dbfa34d37f60a6811", func := "cellarer/cellarerlaw17.ManifestUnlike", spec := "manifestUnlike", inPlace := ["internal/bytealg.Compare"], unfollowed := true, recurses := true, plainKeys := false, apart := false, narrowed := true }
def ManifestUnlikeUptoSaid : Prop := manifestUnlikeUptoRow.holds Try.pinned (OpenSpec.upto manifestUnlikeSpec)

/-- 'cellarerlaw17.ManifestBuilds', WHERE WHAT IT READS IS OF BULK AT MOST 1048576: true; the input reads as it did. -/
def manifestBuildsUptoRow : OpenClaim := { program := "ytoanecpanckkeaa", sum := "e7ede0cf3c7aedcbea52cdaefd2c9fa2848e43ee9b892f0dbfa34d37f60a6811", func := "cellarer/cellarerlaw17.ManifestBuilds", spec := "manifestBuilds", inPlace := ["internal/bytealg.Compare"], unfollowed := true, recurses := true, plainKeys := false, apart := false, narrowed := true }
def ManifestBuildsUptoSaid : Prop := manifestBuildsUptoRow.holds Try.pinned (OpenSpec.upto manifestBuildsSpec)

/-- 'cellarerlaw17.ManifestBack', WHERE WHAT IT READS IS OF BULK AT MOST 1048576: true; the input reads as it did. -/
def manifestBackUptoRow : OpenClaim := { program := "ytoanecpanckkeaa", sum := "e7ede0cf3c7aedcbea52cdaefd2c9fa2848e43ee9b892f0dbfa34d37f60a6811", func := "cellarer/cellarerlaw17.ManifestBack", spec := "manifestBack", inPlace := ["internal/bytealg.Compare"], unfollowed := true, recurses := true, plainKeys := false, apart := false, narrowed := true }
def ManifestBackUptoSaid : Prop := manifestBackUptoRow.holds Try.pinned (OpenSpec.upto manifestBackSpec)

/-- 'cellarerlaw17.ManifestExact', WHERE WHAT IT READS IS OF BULK AT MOST 1048576: true; the input reads as it did. -/
def manifestExactUptoRow : OpenClaim := { program := "ytoanecpanckkeaa", sum := "e7ede0cf3c7aedcbea52cdaefd2c9fa2848e43ee9b892f0dbfa34d37f60a6811", func := "cellarer/cellarerlaw17.ManifestExact", spec := "manifestExact", inPlace := ["internal/bytealg.Compare"], unfollowed := true, recurses := true, plainKeys := false, apart := false, narrowed := true }
def ManifestExactUptoSaid : Prop := manifestExactUptoRow.holds Try.pinned (OpenSpec.upto manifestExactSpec)

end Rows
end Go.Proofs.Ytoanecpanckkeaa
