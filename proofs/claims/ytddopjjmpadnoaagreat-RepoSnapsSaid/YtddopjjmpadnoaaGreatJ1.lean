/- Eight backups, by evaluation. -/
import Derived.Test.YtddopjjmpadnoaaGreatH7
import Derived.KernelRfl
namespace Go.V
set_option linter.unusedVariables false
set_option linter.unusedSectionVars false
set_option linter.unusedSimpArgs false
set_option maxRecDepth 100000
theorem b00 : tB 0 0 = true := by kernel_rfl
theorem b01 : tB 0 1 = true := by kernel_rfl
theorem b02 : tB 0 2 = true := by kernel_rfl
theorem b10 : tB 1 0 = true := by kernel_rfl
theorem b11 : tB 1 1 = true := by kernel_rfl
theorem b12 : tB 1 2 = true := by kernel_rfl
theorem b20 : tB 2 0 = true := by kernel_rfl
theorem b21 : tB 2 1 = true := by kernel_rfl
theorem b22 : tB 2 2 = true := by kernel_rfl
theorem b30 : tB 3 0 = true := by kernel_rfl
theorem b31 : tB 3 1 = true := by kernel_rfl
theorem b32 : tB 3 2 = true := by kernel_rfl
end Go.V
