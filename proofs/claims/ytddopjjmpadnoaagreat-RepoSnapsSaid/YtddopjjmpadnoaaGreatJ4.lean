/- One goes, one comes, by evaluation. -/
import Derived.Test.YtddopjjmpadnoaaGreatH7
import Derived.KernelRfl
namespace Go.V
set_option linter.unusedVariables false
set_option linter.unusedSectionVars false
set_option linter.unusedSimpArgs false
set_option maxRecDepth 100000
theorem e200 : tC 2 0 0 = true := by kernel_rfl
theorem e201 : tC 2 0 1 = true := by kernel_rfl
theorem e202 : tC 2 0 2 = true := by kernel_rfl
theorem e203 : tC 2 0 3 = true := by kernel_rfl
theorem e204 : tC 2 0 4 = true := by kernel_rfl
theorem e205 : tC 2 0 5 = true := by kernel_rfl
theorem e206 : tC 2 0 6 = true := by kernel_rfl
theorem e207 : tC 2 0 7 = true := by kernel_rfl
theorem e210 : tC 2 1 0 = true := by kernel_rfl
theorem e211 : tC 2 1 1 = true := by kernel_rfl
theorem e212 : tC 2 1 2 = true := by kernel_rfl
theorem e213 : tC 2 1 3 = true := by kernel_rfl
theorem e214 : tC 2 1 4 = true := by kernel_rfl
theorem e215 : tC 2 1 5 = true := by kernel_rfl
theorem e216 : tC 2 1 6 = true := by kernel_rfl
theorem e217 : tC 2 1 7 = true := by kernel_rfl
theorem e220 : tC 2 2 0 = true := by kernel_rfl
theorem e221 : tC 2 2 1 = true := by kernel_rfl
theorem e222 : tC 2 2 2 = true := by kernel_rfl
theorem e223 : tC 2 2 3 = true := by kernel_rfl
theorem e224 : tC 2 2 4 = true := by kernel_rfl
theorem e225 : tC 2 2 5 = true := by kernel_rfl
theorem e226 : tC 2 2 6 = true := by kernel_rfl
theorem e227 : tC 2 2 7 = true := by kernel_rfl
end Go.V
