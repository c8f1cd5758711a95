/- One goes, one comes, by evaluation. -/
import Derived.Test.YtddopjjmpadnoaaGreatH7
import Derived.KernelRfl
namespace Go.V
set_option linter.unusedVariables false
set_option linter.unusedSectionVars false
set_option linter.unusedSimpArgs false
set_option maxRecDepth 100000
theorem e10 : tC 1 0 = true := by kernel_rfl
theorem e11 : tC 1 1 = true := by kernel_rfl
theorem e12 : tC 1 2 = true := by kernel_rfl
theorem e13 : tC 1 3 = true := by kernel_rfl
theorem e14 : tC 1 4 = true := by kernel_rfl
theorem e15 : tC 1 5 = true := by kernel_rfl
theorem e16 : tC 1 6 = true := by kernel_rfl
theorem e17 : tC 1 7 = true := by kernel_rfl
theorem e20 : tC 2 0 = true := by kernel_rfl
theorem e21 : tC 2 1 = true := by kernel_rfl
theorem e22 : tC 2 2 = true := by kernel_rfl
theorem e23 : tC 2 3 = true := by kernel_rfl
theorem e24 : tC 2 4 = true := by kernel_rfl
theorem e25 : tC 2 5 = true := by kernel_rfl
theorem e26 : tC 2 6 = true := by kernel_rfl
theorem e27 : tC 2 7 = true := by kernel_rfl
theorem e30 : tC 3 0 = true := by kernel_rfl
theorem e31 : tC 3 1 = true := by kernel_rfl
theorem e32 : tC 3 2 = true := by kernel_rfl
theorem e33 : tC 3 3 = true := by kernel_rfl
theorem e34 : tC 3 4 = true := by kernel_rfl
theorem e35 : tC 3 5 = true := by kernel_rfl
theorem e36 : tC 3 6 = true := by kernel_rfl
theorem e37 : tC 3 7 = true := by kernel_rfl
end Go.V
