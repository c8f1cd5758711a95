import Derived.Test.YtemoafemddopcaaProg
import Derived.Test.YtemoafemddopcaaBc
namespace Go.Wk.Lf.Ty
open Go.V Go.Proofs
set_option linter.unusedVariables false
set_option linter.unusedSimpArgs false

theorem agg30 : aggT Go.Proofs.Try.prog 30 = some true := by kernel_rfl
theorem bld30 : buildT Go.Proofs.Try.prog 30 = some ([(0, 1), (1, 1)], [.s [], .sl none 0 (some 0)]) := by kernel_rfl
theorem cell28 : aggT Go.Proofs.Try.prog 28 = some false := by kernel_rfl
theorem cell5 : aggT Go.Proofs.Try.prog 5 = some false := by kernel_rfl
theorem cell9 : aggT Go.Proofs.Try.prog 9 = some false := by kernel_rfl
theorem field30_0 : fldOff Go.Proofs.Try.prog 30 0 = some 0 := by kernel_rfl
theorem field30_1 : fldOff Go.Proofs.Try.prog 30 1 = some 1 := by kernel_rfl
theorem mixed : Go.Proofs.Try.prog.follows .mixedOrders = true := by kernel_rfl
theorem row30 : rowOk Go.Proofs.Try.prog 30 2 = true := by kernel_rfl
theorem row5 : rowOk Go.Proofs.Try.prog 5 1 = true := by kernel_rfl
theorem size22 : sz Go.Proofs.Try.prog 22 = some 1 := by kernel_rfl
theorem size28 : sz Go.Proofs.Try.prog 28 = some 1 := by kernel_rfl
theorem size30 : sz Go.Proofs.Try.prog 30 = some 2 := by kernel_rfl
theorem size5 : sz Go.Proofs.Try.prog 5 = some 1 := by kernel_rfl
theorem size9 : sz Go.Proofs.Try.prog 9 = some 1 := by kernel_rfl
theorem zero30 : (zeroV Go.Proofs.Try.prog 30).map Val.cells = some [.s [], .sl none 0 (some 0)] := by kernel_rfl
theorem zk22 : zerosK Go.Proofs.Try.prog 22 = some false := by kernel_rfl
theorem zk28 : zerosK Go.Proofs.Try.prog 28 = some false := by kernel_rfl
end Go.Wk.Lf.Ty
