/- New, by evaluation. -/
import Derived.Test.YtddopjjmpadnoaaGreatH7
import Derived.KernelRfl
namespace Go.V
set_option linter.unusedVariables false
set_option linter.unusedSectionVars false
set_option linter.unusedSimpArgs false
set_option maxRecDepth 100000
theorem a000 : tA 0 0 0 = true := by kernel_rfl
theorem a001 : tA 0 0 1 = true := by kernel_rfl
theorem a002 : tA 0 0 2 = true := by kernel_rfl
theorem a010 : tA 0 1 0 = true := by kernel_rfl
theorem a011 : tA 0 1 1 = true := by kernel_rfl
theorem a012 : tA 0 1 2 = true := by kernel_rfl
theorem a020 : tA 0 2 0 = true := by kernel_rfl
theorem a021 : tA 0 2 1 = true := by kernel_rfl
theorem a022 : tA 0 2 2 = true := by kernel_rfl
theorem a100 : tA 1 0 0 = true := by kernel_rfl
theorem a101 : tA 1 0 1 = true := by kernel_rfl
theorem a102 : tA 1 0 2 = true := by kernel_rfl
theorem a110 : tA 1 1 0 = true := by kernel_rfl
theorem a111 : tA 1 1 1 = true := by kernel_rfl
theorem a112 : tA 1 1 2 = true := by kernel_rfl
theorem a120 : tA 1 2 0 = true := by kernel_rfl
theorem a121 : tA 1 2 1 = true := by kernel_rfl
theorem a122 : tA 1 2 2 = true := by kernel_rfl
theorem a200 : tA 2 0 0 = true := by kernel_rfl
theorem a201 : tA 2 0 1 = true := by kernel_rfl
theorem a202 : tA 2 0 2 = true := by kernel_rfl
theorem a210 : tA 2 1 0 = true := by kernel_rfl
theorem a211 : tA 2 1 1 = true := by kernel_rfl
theorem a212 : tA 2 1 2 = true := by kernel_rfl
theorem a220 : tA 2 2 0 = true := by kernel_rfl
theorem a221 : tA 2 2 1 = true := by kernel_rfl
theorem a222 : tA 2 2 2 = true := by kernel_rfl
theorem a300 : tA 3 0 0 = true := by kernel_rfl
theorem a301 : tA 3 0 1 = true := by kernel_rfl
theorem a302 : tA 3 0 2 = true := by kernel_rfl
theorem a310 : tA 3 1 0 = true := by kernel_rfl
theorem a311 : tA 3 1 1 = true := by kernel_rfl
theorem a312 : tA 3 1 2 = true := by kernel_rfl
theorem a320 : tA 3 2 0 = true := by kernel_rfl
theorem a321 : tA 3 2 1 = true := by kernel_rfl
theorem a322 : tA 3 2 2 = true := by kernel_rfl
end Go.V
