/- Eight backups, by evaluation. -/
import Derived.Test.YtddopjjmpadnoaaGreatH7
import Derived.KernelRfl
namespace Go.V
set_option linter.unusedVariables false
set_option linter.unusedSectionVars false
set_option linter.unusedSimpArgs false
set_option maxRecDepth 100000
theorem b1 : tB 1 = true := by kernel_rfl
theorem b2 : tB 2 = true := by kernel_rfl
theorem b3 : tB 3 = true := by kernel_rfl
theorem b4 : tB 4 = true := by kernel_rfl
theorem b5 : tB 5 = true := by kernel_rfl
theorem b6 : tB 6 = true := by kernel_rfl
end Go.V
