/- One goes, one comes, by evaluation. -/
import Derived.Test.YtddopjjmpadnoaaGreatH7
import Derived.KernelRfl
namespace Go.V
set_option linter.unusedVariables false
set_option linter.unusedSectionVars false
set_option linter.unusedSimpArgs false
set_option maxRecDepth 100000
theorem e100 : tC 1 0 0 = true := by kernel_rfl
theorem e101 : tC 1 0 1 = true := by kernel_rfl
theorem e102 : tC 1 0 2 = true := by kernel_rfl
theorem e103 : tC 1 0 3 = true := by kernel_rfl
theorem e104 : tC 1 0 4 = true := by kernel_rfl
theorem e105 : tC 1 0 5 = true := by kernel_rfl
theorem e106 : tC 1 0 6 = true := by kernel_rfl
theorem e107 : tC 1 0 7 = true := by kernel_rfl
theorem e110 : tC 1 1 0 = true := by kernel_rfl
theorem e111 : tC 1 1 1 = true := by kernel_rfl
theorem e112 : tC 1 1 2 = true := by kernel_rfl
theorem e113 : tC 1 1 3 = true := by kernel_rfl
theorem e114 : tC 1 1 4 = true := by kernel_rfl
theorem e115 : tC 1 1 5 = true := by kernel_rfl
theorem e116 : tC 1 1 6 = true := by kernel_rfl
theorem e117 : tC 1 1 7 = true := by kernel_rfl
theorem e120 : tC 1 2 0 = true := by kernel_rfl
theorem e121 : tC 1 2 1 = true := by kernel_rfl
theorem e122 : tC 1 2 2 = true := by kernel_rfl
theorem e123 : tC 1 2 3 = true := by kernel_rfl
theorem e124 : tC 1 2 4 = true := by kernel_rfl
theorem e125 : tC 1 2 5 = true := by kernel_rfl
theorem e126 : tC 1 2 6 = true := by kernel_rfl
theorem e127 : tC 1 2 7 = true := by kernel_rfl
end Go.V
