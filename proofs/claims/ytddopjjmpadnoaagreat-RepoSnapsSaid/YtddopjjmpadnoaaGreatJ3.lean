/- One goes, one comes, by evaluation. -/
import Derived.Test.YtddopjjmpadnoaaGreatH7
import Derived.KernelRfl
namespace Go.V
set_option linter.unusedVariables false
set_option linter.unusedSectionVars false
set_option linter.unusedSimpArgs false
set_option maxRecDepth 100000
theorem e40 : tC 4 0 = true := by kernel_rfl
theorem e41 : tC 4 1 = true := by kernel_rfl
theorem e42 : tC 4 2 = true := by kernel_rfl
theorem e43 : tC 4 3 = true := by kernel_rfl
theorem e44 : tC 4 4 = true := by kernel_rfl
theorem e45 : tC 4 5 = true := by kernel_rfl
theorem e46 : tC 4 6 = true := by kernel_rfl
theorem e47 : tC 4 7 = true := by kernel_rfl
theorem e50 : tC 5 0 = true := by kernel_rfl
theorem e51 : tC 5 1 = true := by kernel_rfl
theorem e52 : tC 5 2 = true := by kernel_rfl
theorem e53 : tC 5 3 = true := by kernel_rfl
theorem e54 : tC 5 4 = true := by kernel_rfl
theorem e55 : tC 5 5 = true := by kernel_rfl
theorem e56 : tC 5 6 = true := by kernel_rfl
theorem e57 : tC 5 7 = true := by kernel_rfl
theorem e60 : tC 6 0 = true := by kernel_rfl
theorem e61 : tC 6 1 = true := by kernel_rfl
theorem e62 : tC 6 2 = true := by kernel_rfl
theorem e63 : tC 6 3 = true := by kernel_rfl
theorem e64 : tC 6 4 = true := by kernel_rfl
theorem e65 : tC 6 5 = true := by kernel_rfl
theorem e66 : tC 6 6 = true := by kernel_rfl
theorem e67 : tC 6 7 = true := by kernel_rfl
end Go.V
