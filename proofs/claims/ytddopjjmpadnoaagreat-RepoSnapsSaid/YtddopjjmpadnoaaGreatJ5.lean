/- One goes, one comes, by evaluation. -/
import Derived.Test.YtddopjjmpadnoaaGreatH7
import Derived.KernelRfl
namespace Go.V
set_option linter.unusedVariables false
set_option linter.unusedSectionVars false
set_option linter.unusedSimpArgs false
set_option maxRecDepth 100000
theorem e300 : tC 3 0 0 = true := by kernel_rfl
theorem e301 : tC 3 0 1 = true := by kernel_rfl
theorem e302 : tC 3 0 2 = true := by kernel_rfl
theorem e303 : tC 3 0 3 = true := by kernel_rfl
theorem e304 : tC 3 0 4 = true := by kernel_rfl
theorem e305 : tC 3 0 5 = true := by kernel_rfl
theorem e306 : tC 3 0 6 = true := by kernel_rfl
theorem e307 : tC 3 0 7 = true := by kernel_rfl
theorem e310 : tC 3 1 0 = true := by kernel_rfl
theorem e311 : tC 3 1 1 = true := by kernel_rfl
theorem e312 : tC 3 1 2 = true := by kernel_rfl
theorem e313 : tC 3 1 3 = true := by kernel_rfl
theorem e314 : tC 3 1 4 = true := by kernel_rfl
theorem e315 : tC 3 1 5 = true := by kernel_rfl
theorem e316 : tC 3 1 6 = true := by kernel_rfl
theorem e317 : tC 3 1 7 = true := by kernel_rfl
theorem e320 : tC 3 2 0 = true := by kernel_rfl
theorem e321 : tC 3 2 1 = true := by kernel_rfl
theorem e322 : tC 3 2 2 = true := by kernel_rfl
theorem e323 : tC 3 2 3 = true := by kernel_rfl
theorem e324 : tC 3 2 4 = true := by kernel_rfl
theorem e325 : tC 3 2 5 = true := by kernel_rfl
theorem e326 : tC 3 2 6 = true := by kernel_rfl
theorem e327 : tC 3 2 7 = true := by kernel_rfl
end Go.V
