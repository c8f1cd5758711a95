/-
  No cell of these rows narrows 'for every input' (looked for: loops, veiled, ifaces, maps, wideKeys, modest, calm, conditions, laid).
  DERIVED. THE GIVEN ROWS OF THIS SEAT. 12 by the template 'for every input the law returns true; each argument reads behind the call as it read before'; 0 by the template 'total and deterministic' (their statements: YtahfmkjafddjhaaTotals.lean).
  GIVEN WITH THE SEED: the statements are not yours to turn. If you find one false, say at which input.
  Laid BY PROGRAM, IN A SANDBOX (cutbox-rows.mjs): the forced cells as the released guide's own fill.sh prints them over the translation 93d7c5c9c89967d3… (all of the seat's roots in one cut). By AI agents, Wed Nov 11 2026. No macro, syntax, notation, axiom, sorry.
-/
import Derived.Test.YtahfmkjafddjhaaChecked
import GoSem.Claim
import GoSem.ClaimJoined
import GoSem.ClaimMapViews
import Derived.JoinedTies
import Derived.KernelRfl
namespace Go.Proofs.Ytahfmkjafddjhaa
/- THE CELL 'sum', in the pinned program and in every row, IS THE sha256 OF THE DUMP (.gsa) THAT YtahfmkjafddjhaaProg.lean LOADS. Nothing in Lean hashes anything: it is a label: what it is worth is what the hold of that sum in a sandbox is worth. -/
noncomputable def Try.pinned : Pinned := { name := "ytahfmkjafddjhaa", sum := "93d7c5c9c89967d3148e4131be7c9cc9a1f4fe966ec64d45b40bc7bc2e48ff3c", checked := Try.checked }
namespace Rows
def none {H : Type} : Left H := { results := [], args := [] }

/-- 'cellarerlaw22.MountsExact': WHATEVER THE INPUT: true; the input reads as it did. -/
def mountsExactSpec : ChangeSpec := { name := "mountsExact", fn := fun _ => fun
  | [d1, d2] => { results := [.lit (.bool true)], args := [d1, d2] }
  | _ => none }
def mountsExactRow : OpenClaim := { program := "ytahfmkjafddjhaa", sum := "93d7c5c9c89967d3148e4131be7c9cc9a1f4fe966ec64d45b40bc7bc2e48ff3c", func := "cellarer/cellarerlaw22.MountsExact", spec := "mountsExact", unfollowed := true, recurses := true, apart := false }
def MountsExactSaid : Prop := mountsExactRow.holds Try.pinned (OpenSpec.ofChange mountsExactSpec)

/-- ITS FALSE NEIGHBOUR: 'it returns false'. Refute it at one input. -/
def mountsExactWrong : ChangeSpec := { name := "mountsExact", fn := fun _ => fun
  | [d1, d2] => { results := [.lit (.bool false)], args := [d1, d2] }
  | _ => none }
def MountsExactWrongFalsely : Prop := mountsExactRow.holds Try.pinned (OpenSpec.ofChange mountsExactWrong)

/-- 'cellarerlaw22.MountsDone': WHATEVER THE INPUT: true; the input reads as it did. -/
def mountsDoneSpec : ChangeSpec := { name := "mountsDone", fn := fun _ => fun
  | [d1, d2] => { results := [.lit (.bool true)], args := [d1, d2] }
  | _ => none }
def mountsDoneRow : OpenClaim := { program := "ytahfmkjafddjhaa", sum := "93d7c5c9c89967d3148e4131be7c9cc9a1f4fe966ec64d45b40bc7bc2e48ff3c", func := "cellarer/cellarerlaw22.MountsDone", spec := "mountsDone", unfollowed := true, recurses := true, apart := false }
def MountsDoneSaid : Prop := mountsDoneRow.holds Try.pinned (OpenSpec.ofChange mountsDoneSpec)

/-- ITS FALSE NEIGHBOUR: 'it returns false'. Refute it at one input. -/
def mountsDoneWrong : ChangeSpec := { name := "mountsDone", fn := fun _ => fun
  | [d1, d2] => { results := [.lit (.bool false)], args := [d1, d2] }
  | _ => none }
def MountsDoneWrongFalsely : Prop := mountsDoneRow.holds Try.pinned (OpenSpec.ofChange mountsDoneWrong)

/-- 'cellarerlaw22.MountsSplit': WHATEVER THE INPUT: true; the input reads as it did. -/
def mountsSplitSpec : ChangeSpec := { name := "mountsSplit", fn := fun _ => fun
  | [d1, d2] => { results := [.lit (.bool true)], args := [d1, d2] }
  | _ => none }
def mountsSplitRow : OpenClaim := { program := "ytahfmkjafddjhaa", sum := "93d7c5c9c89967d3148e4131be7c9cc9a1f4fe966ec64d45b40bc7bc2e48ff3c", func := "cellarer/cellarerlaw22.MountsSplit", spec := "mountsSplit", unfollowed := true, recurses := true, apart := false }
def MountsSplitSaid : Prop := mountsSplitRow.holds Try.pinned (OpenSpec.ofChange mountsSplitSpec)

/-- ITS FALSE NEIGHBOUR: 'it returns false'. Refute it at one input. -/
def mountsSplitWrong : ChangeSpec := { name := "mountsSplit", fn := fun _ => fun
  | [d1, d2] => { results := [.lit (.bool false)], args := [d1, d2] }
  | _ => none }
def MountsSplitWrongFalsely : Prop := mountsSplitRow.holds Try.pinned (OpenSpec.ofChange mountsSplitWrong)

/-- 'cellarerlaw22.MountsFew': WHATEVER THE INPUT: true; the input reads as it did. -/
def mountsFewSpec : ChangeSpec := { name := "mountsFew", fn := fun _ => fun
  | [d1, d2] => { results := [.lit (.bool true)], args := [d1, d2] }
  | _ => none }
def mountsFewRow : OpenClaim := { program := "ytahfmkjafddjhaa", sum := "93d7c5c9c89967d3148e4131be7c9cc9a1f4fe966ec64d45b40bc7bc2e48ff3c", func := "cellarer/cellarerlaw22.MountsFew", spec := "mountsFew", unfollowed := true, recurses := true, apart := false }
def MountsFewSaid : Prop := mountsFewRow.holds Try.pinned (OpenSpec.ofChange mountsFewSpec)

/-- ITS FALSE NEIGHBOUR: 'it returns false'. Refute it at one input. -/
def mountsFewWrong : ChangeSpec := { name := "mountsFew", fn := fun _ => fun
  | [d1, d2] => { results := [.lit (.bool false)], args := [d1, d2] }
  | _ => none }
def MountsFewWrongFalsely : Prop := mountsFewRow.holds Try.pinned (OpenSpec.ofChange mountsFewWrong)

/-- 'cellarerlaw21.PlanTurns': WHATEVER THE INPUT: true; the input reads as it did. -/
def planTurnsSpec : ChangeSpec := { name := "planTurns", fn := fun _ => fun
  | [d1, d2] => { results := [.lit (.bool true)], args := [d1, d2] }
  | _ => none }
def planTurnsRow : OpenClaim := { program := "ytahfmkjafddjhaa", sum := "93d7c5c9c89967d3148e4131be7c9cc9a1f4fe966ec64d45b40bc7bc2e48ff3c", func := "cellarer/cellarerlaw21.PlanTurns", spec := "planTurns", unfollowed := true, recurses := true, apart := false }
def PlanTurnsSaid : Prop := planTurnsRow.holds Try.pinned (OpenSpec.ofChange planTurnsSpec)

/-- ITS FALSE NEIGHBOUR: 'it returns false'. Refute it at one input. -/
def planTurnsWrong : ChangeSpec := { name := "planTurns", fn := fun _ => fun
  | [d1, d2] => { results := [.lit (.bool false)], args := [d1, d2] }
  | _ => none }
def PlanTurnsWrongFalsely : Prop := planTurnsRow.holds Try.pinned (OpenSpec.ofChange planTurnsWrong)

/-- 'cellarerlaw21.PlanLess': WHATEVER THE INPUT: true; the input reads as it did. -/
def planLessSpec : ChangeSpec := { name := "planLess", fn := fun _ => fun
  | [d1, d2] => { results := [.lit (.bool true)], args := [d1, d2] }
  | _ => none }
def planLessRow : OpenClaim := { program := "ytahfmkjafddjhaa", sum := "93d7c5c9c89967d3148e4131be7c9cc9a1f4fe966ec64d45b40bc7bc2e48ff3c", func := "cellarer/cellarerlaw21.PlanLess", spec := "planLess", unfollowed := true, recurses := true, apart := false }
def PlanLessSaid : Prop := planLessRow.holds Try.pinned (OpenSpec.ofChange planLessSpec)

/-- ITS FALSE NEIGHBOUR: 'it returns false'. Refute it at one input. -/
def planLessWrong : ChangeSpec := { name := "planLess", fn := fun _ => fun
  | [d1, d2] => { results := [.lit (.bool false)], args := [d1, d2] }
  | _ => none }
def PlanLessWrongFalsely : Prop := planLessRow.holds Try.pinned (OpenSpec.ofChange planLessWrong)

/-- 'cellarerlaw21.PlanWithout': WHATEVER THE INPUT: true; the input reads as it did. -/
def planWithoutSpec : ChangeSpec := { name := "planWithout", fn := fun _ => fun
  | [d] => { results := [.lit (.bool true)], args := [d] }
  | _ => none }
def planWithoutRow : OpenClaim := { program := "ytahfmkjafddjhaa", sum := "93d7c5c9c89967d3148e4131be7c9cc9a1f4fe966ec64d45b40bc7bc2e48ff3c", func := "cellarer/cellarerlaw21.PlanWithout", spec := "planWithout", unfollowed := true, recurses := true, apart := false }
def PlanWithoutSaid : Prop := planWithoutRow.holds Try.pinned (OpenSpec.ofChange planWithoutSpec)

/-- ITS FALSE NEIGHBOUR: 'it returns false'. Refute it at one input. -/
def planWithoutWrong : ChangeSpec := { name := "planWithout", fn := fun _ => fun
  | [d] => { results := [.lit (.bool false)], args := [d] }
  | _ => none }
def PlanWithoutWrongFalsely : Prop := planWithoutRow.holds Try.pinned (OpenSpec.ofChange planWithoutWrong)

/-- 'cellarerlaw21.PlanSorts': WHATEVER THE INPUT: true; the input reads as it did. -/
def planSortsSpec : ChangeSpec := { name := "planSorts", fn := fun _ => fun
  | [d] => { results := [.lit (.bool true)], args := [d] }
  | _ => none }
def planSortsRow : OpenClaim := { program := "ytahfmkjafddjhaa", sum := "93d7c5c9c89967d3148e4131be7c9cc9a1f4fe966ec64d45b40bc7bc2e48ff3c", func := "cellarer/cellarerlaw21.PlanSorts", spec := "planSorts", unfollowed := true, recurses := true, apart := false }
def PlanSortsSaid : Prop := planSortsRow.holds Try.pinned (OpenSpec.ofChange planSortsSpec)

/-- ITS FALSE NEIGHBOUR: 'it returns false'. Refute it at one input. -/
def planSortsWrong : ChangeSpec := { name := "planSorts", fn := fun _ => fun
  | [d] => { results := [.lit (.bool false)], args := [d] }
  | _ => none }
def PlanSortsWrongFalsely : Prop := planSortsRow.holds Try.pinned (OpenSpec.ofChange planSortsWrong)

/-- 'cellarerlaw21.PlanVols': WHATEVER THE INPUT: true; the input reads as it did. -/
def planVolsSpec : ChangeSpec := { name := "planVols", fn := fun _ => fun
  | [d1, d2] => { results := [.lit (.bool true)], args := [d1, d2] }
  | _ => none }
def planVolsRow : OpenClaim := { program := "ytahfmkjafddjhaa", sum := "93d7c5c9c89967d3148e4131be7c9cc9a1f4fe966ec64d45b40bc7bc2e48ff3c", func := "cellarer/cellarerlaw21.PlanVols", spec := "planVols", unfollowed := true, recurses := true, apart := false }
def PlanVolsSaid : Prop := planVolsRow.holds Try.pinned (OpenSpec.ofChange planVolsSpec)

/-- ITS FALSE NEIGHBOUR: 'it returns false'. Refute it at one input. -/
def planVolsWrong : ChangeSpec := { name := "planVols", fn := fun _ => fun
  | [d1, d2] => { results := [.lit (.bool false)], args := [d1, d2] }
  | _ => none }
def PlanVolsWrongFalsely : Prop := planVolsRow.holds Try.pinned (OpenSpec.ofChange planVolsWrong)

/-- 'cellarerlaw21.PlanExact': WHATEVER THE INPUT: true; the input reads as it did. -/
def planExactSpec : ChangeSpec := { name := "planExact", fn := fun _ => fun
  | [d1, d2] => { results := [.lit (.bool true)], args := [d1, d2] }
  | _ => none }
def planExactRow : OpenClaim := { program := "ytahfmkjafddjhaa", sum := "93d7c5c9c89967d3148e4131be7c9cc9a1f4fe966ec64d45b40bc7bc2e48ff3c", func := "cellarer/cellarerlaw21.PlanExact", spec := "planExact", unfollowed := true, recurses := true, apart := false }
def PlanExactSaid : Prop := planExactRow.holds Try.pinned (OpenSpec.ofChange planExactSpec)

/-- ITS FALSE NEIGHBOUR: 'it returns false'. Refute it at one input. -/
def planExactWrong : ChangeSpec := { name := "planExact", fn := fun _ => fun
  | [d1, d2] => { results := [.lit (.bool false)], args := [d1, d2] }
  | _ => none }
def PlanExactWrongFalsely : Prop := planExactRow.holds Try.pinned (OpenSpec.ofChange planExactWrong)

/-- 'cellarerlaw21.PlanRises': WHATEVER THE INPUT: true; the input reads as it did. -/
def planRisesSpec : ChangeSpec := { name := "planRises", fn := fun _ => fun
  | [d] => { results := [.lit (.bool true)], args := [d] }
  | _ => none }
def planRisesRow : OpenClaim := { program := "ytahfmkjafddjhaa", sum := "93d7c5c9c89967d3148e4131be7c9cc9a1f4fe966ec64d45b40bc7bc2e48ff3c", func := "cellarer/cellarerlaw21.PlanRises", spec := "planRises", unfollowed := true, recurses := true, apart := false }
def PlanRisesSaid : Prop := planRisesRow.holds Try.pinned (OpenSpec.ofChange planRisesSpec)

/-- ITS FALSE NEIGHBOUR: 'it returns false'. Refute it at one input. -/
def planRisesWrong : ChangeSpec := { name := "planRises", fn := fun _ => fun
  | [d] => { results := [.lit (.bool false)], args := [d] }
  | _ => none }
def PlanRisesWrongFalsely : Prop := planRisesRow.holds Try.pinned (OpenSpec.ofChange planRisesWrong)

/-- 'cellarerlaw22.MountsOrder': WHATEVER THE INPUT: true; the input reads as it did. -/
def mountsOrderSpec : ChangeSpec := { name := "mountsOrder", fn := fun _ => fun
  | [d1, d2] => { results := [.lit (.bool true)], args := [d1, d2] }
  | _ => none }
def mountsOrderRow : OpenClaim := { program := "ytahfmkjafddjhaa", sum := "93d7c5c9c89967d3148e4131be7c9cc9a1f4fe966ec64d45b40bc7bc2e48ff3c", func := "cellarer/cellarerlaw22.MountsOrder", spec := "mountsOrder", unfollowed := true, recurses := true, apart := false }
def MountsOrderSaid : Prop := mountsOrderRow.holds Try.pinned (OpenSpec.ofChange mountsOrderSpec)

/-- ITS FALSE NEIGHBOUR: 'it returns false'. Refute it at one input. -/
def mountsOrderWrong : ChangeSpec := { name := "mountsOrder", fn := fun _ => fun
  | [d1, d2] => { results := [.lit (.bool false)], args := [d1, d2] }
  | _ => none }
def MountsOrderWrongFalsely : Prop := mountsOrderRow.holds Try.pinned (OpenSpec.ofChange mountsOrderWrong)

/- THE SECOND FORM. 'bulk': how many values and letters a reading holds, each counted each time it is reached (what is shared counts as often as it is met; a slice's spare places count too). A statement '..UptoSaid' is the law's where the arguments, and the package variables that the reading takes, are together of bulk at most 1048576: NARROWER than '..Said'. Prove '..Said' where nothing that the law and all that it calls make is longer than what came in: it says more and counts as full. Else prove '..UptoSaid'. A law counts once. -/
mutual
def uptoBulk {H : Type} : DataW H → Nat
  | .lit (.string bytes) => bytes.length + 1
  | .lit _ => 1
  | .nil => 1
  | .ptr d => uptoBulk d + 1
  | .slice elems spare => uptoBulkAll elems + uptoBulkAll spare + 1
  | .agg parts => uptoBulkAll parts + 1
  | .iface _ d => uptoBulk d + 1
  | .map entries => uptoBulkEntries entries + 1
  | .held _ => 1
def uptoBulkAll {H : Type} : List (DataW H) → Nat
  | [] => 0
  | d :: r => uptoBulk d + uptoBulkAll r
def uptoBulkEntries {H : Type} : List (Lit × DataW H) → Nat
  | [] => 0
  | x :: r => uptoBulkEntry x + uptoBulkEntries r
def uptoBulkEntry {H : Type} : Lit × DataW H → Nat
  | (.string bytes, d) => bytes.length + uptoBulk d + 1
  | (_, d) => uptoBulk d + 1
 end
def uptoSmall : (H : Type) → List (DataW H) → Bool := fun _ ds => decide (uptoBulkAll ds ≤ 1048576)
def OpenSpec.upto (s : _root_.Go.ChangeSpec) : _root_.Go.OpenSpec := { _root_.Go.OpenSpec.ofChange s with cond := some uptoSmall }

/-- 'cellarerlaw22.MountsExact', WHERE WHAT IT READS IS OF BULK AT MOST 1048576: true; the input reads as it did. -/
def mountsExactUptoRow : OpenClaim := { program := "ytahfmkjafddjhaa", sum := "93d7c5c9c89967d3148e4131be7c9cc9a1f4fe966ec64d45b40bc7bc2e48ff3c", func := "cellarer/cellarerlaw22.MountsExact", spec := "mountsExact", unfollowed := true, recurses := true, apart := false, narrowed := true }
def MountsExactUptoSaid : Prop := mountsExactUptoRow.holds Try.pinned (OpenSpec.upto mountsExactSpec)

/-- 'cellarerlaw22.MountsDone', WHERE WHAT IT READS IS OF BULK AT MOST 1048576: true; the input reads as it did. -/
def mountsDoneUptoRow : OpenClaim := { program := "ytahfmkjafddjhaa", sum := "93d7c5c9c89967d3148e4131be7c9cc9a1f4fe966ec64d45b40bc7bc2e48ff3c", func := "cellarer/cellarerlaw22.MountsDone", spec := "mountsDone", unfollowed := true, recurses := true, apart := false, narrowed := true }
def MountsDoneUptoSaid : Prop := mountsDoneUptoRow.holds Try.pinned (OpenSpec.upto mountsDoneSpec)

/-- 'cellarerlaw22.MountsSplit', WHERE WHAT IT READS IS OF BULK AT MOST 1048576: true; the input reads as it did. -/
def mountsSplitUptoRow : OpenClaim := { program := "ytahfmkjafddjhaa", sum := "93d7c5c9c89967d3148e4131be7c9cc9a1f4fe966ec64d45b40bc7bc2e48ff3c", func := "cellarer/cellarerlaw22.MountsSplit", spec := "mountsSplit", unfollowed := true, recurses := true, apart := false, narrowed := true }
def MountsSplitUptoSaid : Prop := mountsSplitUptoRow.holds Try.pinned (OpenSpec.upto mountsSplitSpec)

/-- 'cellarerlaw22.MountsFew', WHERE WHAT IT READS IS OF BULK AT MOST 1048576: true; the input reads as it did. -/
def mountsFewUptoRow : OpenClaim := { program := "ytahfmkjafddjhaa", sum := "93d7c5c9c89967d3148e4131be7c9cc9a1f4fe966ec64d45b40bc7bc2e48ff3c", func := "cellarer/cellarerlaw22.MountsFew", spec := "mountsFew", unfollowed := true, recurses := true, apart := false, narrowed := true }
def MountsFewUptoSaid : Prop := mountsFewUptoRow.holds Try.pinned (OpenSpec.upto mountsFewSpec)

/-- 'cellarerlaw21.PlanTurns', WHERE WHAT IT READS IS OF BULK AT MOST 1048576: true; the input reads as it did. -/
def planTurnsUptoRow : OpenClaim := { program := "ytahfmkjafddjhaa", sum := "93d7c5c9c89967d3148e4131be7c9cc9a1f4fe966ec64d45b40bc7bc2e48ff3c", func := "cellarer/cellarerlaw21.PlanTurns", spec := "planTurns", unfollowed := true, recurses := true, apart := false, narrowed := true }
def PlanTurnsUptoSaid : Prop := planTurnsUptoRow.holds Try.pinned (OpenSpec.upto planTurnsSpec)

/-- 'cellarerlaw21.PlanLess', WHERE WHAT IT READS IS OF BULK AT MOST 1048576: true; the input reads as it did. -/
def planLessUptoRow : OpenClaim := { program := "ytahfmkjafddjhaa", sum := "93d7c5c9c89967d3148e4131be7c9cc9a1f4fe966ec64d45b40bc7bc2e48ff3c", func := "cellarer/cellarerlaw21.PlanLess", spec := "planLess", unfollowed := true, recurses := true, apart := false, narrowed := true }
def PlanLessUptoSaid : Prop := planLessUptoRow.holds Try.pinned (OpenSpec.upto planLessSpec)

/-- 'cellarerlaw21.PlanWithout', WHERE WHAT IT READS IS OF BULK AT MOST 1048576: true; the input reads as it did. -/
def planWithoutUptoRow : OpenClaim := { program := "ytahfmkjafddjhaa", sum := "93d7c5c9c89967d3148e4131be7c9cc9a1f4fe966ec64d45b40bc7bc2e48ff3c", func := "cellarer/cellarerlaw21.PlanWithout", spec := "planWithout", unfollowed := true, recurses := true, apart := false, narrowed := true }
def PlanWithoutUptoSaid : Prop := planWithoutUptoRow.holds Try.pinned (OpenSpec.upto planWithoutSpec)

/-- 'cellarerlaw21.PlanSorts', WHERE WHAT IT READS IS OF BULK AT MOST 1048576: true; the input reads as it did. -/
def planSortsUptoRow : OpenClaim := { program := "ytahfmkjafddjhaa", sum := "93d7c5c9c89967d3148e4131be7c9cc9a1f4fe966ec64d45b40bc7bc2e48ff3c", func := "cellarer/cellarerlaw21.PlanSorts", spec := "planSorts", unfollowed := true, recurses := true, apart := false, narrowed := true }
def PlanSortsUptoSaid : Prop := planSortsUptoRow.holds Try.pinned (OpenSpec.upto planSortsSpec)

/-- 'cellarerlaw21.PlanVols', WHERE WHAT IT READS IS OF BULK AT MOST 1048576: true; the input reads as it did. -/
def planVolsUptoRow : OpenClaim := { program := "ytahfmkjafddjhaa", sum := "93d7c5c9c89967d3148e4131be7c9cc9a1f4fe966ec64d45b40bc7bc2e48ff3c", func := "cellarer/cellarerlaw21.PlanVols", spec := "planVols", unfollowed := true, recurses := true, apart := false, narrowed := true }
def PlanVolsUptoSaid : Prop := planVolsUptoRow.holds Try.pinned (OpenSpec.upto planVolsSpec)

/-- 'cellarerlaw21.PlanExact', WHERE WHAT IT READS IS OF BULK AT MOST 1048576: true; the input reads as it did. -/
def planExactUptoRow : OpenClaim := { program := "ytahfmkjafddjhaa", sum := "93d7c5c9c89967d3148e4131be7c9cc9a1f4fe966ec64d45b40bc7bc2e48ff3c", func := "cellarer/cellarerlaw21.PlanExact", spec := "planExact", unfollowed := true, recurses := true, apart := false, narrowed := true }
def PlanExactUptoSaid : Prop := planExactUptoRow.holds Try.pinned (OpenSpec.upto planExactSpec)

/-- 'cellarerlaw21.PlanRises', WHERE WHAT IT READS IS OF BULK AT MOST 1048576: true; the input reads as it did. -/
def planRisesUptoRow : OpenClaim := { program := "ytahfmkjafddjhaa", sum := "93d7c5c9c89967d3148e4131be7c9cc9a1f4fe966ec64d45b40bc7bc2e48ff3c", func := "cellarer/cellarerlaw21.PlanRises", spec := "planRises", unfollowed := true, recurses := true, apart := false, narrowed := true }
def PlanRisesUptoSaid : Prop := planRisesUptoRow.holds Try.pinned (OpenSpec.upto planRisesSpec)

/-- 'cellarerlaw22.MountsOrder', WHERE WHAT IT READS IS OF BULK AT MOST 1048576: true; the input reads as it did. -/
def mountsOrderUptoRow : OpenClaim := { program := "ytahfmkjafddjhaa", sum := "93d7c5c9c89967d3148e4131be7c9cc9a1f4fe966ec64d45b40bc7bc2e48ff3c", func := "cellarer/cellarerlaw22.MountsOrder", spec := "mountsOrder", unfollowed := true, recurses := true, apart := false, narrowed := true }
def MountsOrderUptoSaid : Prop := mountsOrderUptoRow.holds Try.pinned (OpenSpec.upto mountsOrderSpec)

end Rows
end Go.Proofs.Ytahfmkjafddjhaa
