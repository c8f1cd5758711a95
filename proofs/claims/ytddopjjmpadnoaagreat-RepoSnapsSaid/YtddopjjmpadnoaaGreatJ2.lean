/- One goes, one comes, by evaluation. -/
import Derived.Test.YtddopjjmpadnoaaGreatH7
import Derived.KernelRfl
namespace Go.V
set_option linter.unusedVariables false
set_option linter.unusedSectionVars false
set_option linter.unusedSimpArgs false
set_option maxRecDepth 100000
theorem e000 : tC 0 0 0 = true := by kernel_rfl
theorem e001 : tC 0 0 1 = true := by kernel_rfl
theorem e002 : tC 0 0 2 = true := by kernel_rfl
theorem e003 : tC 0 0 3 = true := by kernel_rfl
theorem e004 : tC 0 0 4 = true := by kernel_rfl
theorem e005 : tC 0 0 5 = true := by kernel_rfl
theorem e006 : tC 0 0 6 = true := by kernel_rfl
theorem e007 : tC 0 0 7 = true := by kernel_rfl
theorem e010 : tC 0 1 0 = true := by kernel_rfl
theorem e011 : tC 0 1 1 = true := by kernel_rfl
theorem e012 : tC 0 1 2 = true := by kernel_rfl
theorem e013 : tC 0 1 3 = true := by kernel_rfl
theorem e014 : tC 0 1 4 = true := by kernel_rfl
theorem e015 : tC 0 1 5 = true := by kernel_rfl
theorem e016 : tC 0 1 6 = true := by kernel_rfl
theorem e017 : tC 0 1 7 = true := by kernel_rfl
theorem e020 : tC 0 2 0 = true := by kernel_rfl
theorem e021 : tC 0 2 1 = true := by kernel_rfl
theorem e022 : tC 0 2 2 = true := by kernel_rfl
theorem e023 : tC 0 2 3 = true := by kernel_rfl
theorem e024 : tC 0 2 4 = true := by kernel_rfl
theorem e025 : tC 0 2 5 = true := by kernel_rfl
theorem e026 : tC 0 2 6 = true := by kernel_rfl
theorem e027 : tC 0 2 7 = true := by kernel_rfl
end Go.V
