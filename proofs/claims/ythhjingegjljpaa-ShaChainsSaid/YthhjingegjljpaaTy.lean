/- The numbers of this seat: closed facts on types and functions. -/
import Derived.Test.YthhjingegjljpaaMem
import Derived.Test.YthhjingegjljpaaProg
import Derived.KernelRfl
namespace Go.Wk.Ty
open Go.Proofs

theorem cell5 : cellType (Try.prog.underlying 5) = true := by kernel_rfl
theorem cell28 : cellType (Try.prog.underlying 28) = true := by kernel_rfl
theorem cell38 : cellType (Try.prog.underlying 38) = true := by kernel_rfl
theorem cells5 : Try.prog.cellsOf 5 = 1 := by kernel_rfl
theorem cells28 : Try.prog.cellsOf 28 = 1 := by kernel_rfl
theorem cells38 : Try.prog.cellsOf 38 = 1 := by kernel_rfl
theorem eqg25 : Try.prog.eqGuardType Try.prog.depth 25 = false := by kernel_rfl
theorem info5 : (Try.prog.info? 5).isSome = true := by kernel_rfl
theorem info28 : (Try.prog.info? 28).isSome = true := by kernel_rfl
theorem info38 : (Try.prog.info? 38).isSome = true := by kernel_rfl
theorem mixed : Try.prog.follows .mixedOrders = true := by kernel_rfl
theorem named8 : named Try.prog 8 = true := by kernel_rfl
theorem named9 : named Try.prog 9 = true := by kernel_rfl
theorem named10 : named Try.prog 10 = true := by kernel_rfl
theorem named11 : named Try.prog 11 = true := by kernel_rfl
theorem named12 : named Try.prog 12 = true := by kernel_rfl
theorem named13 : named Try.prog 13 = true := by kernel_rfl
theorem named14 : named Try.prog 14 = true := by kernel_rfl
theorem named15 : named Try.prog 15 = true := by kernel_rfl
theorem named16 : named Try.prog 16 = true := by kernel_rfl
theorem named17 : named Try.prog 17 = true := by kernel_rfl
theorem named18 : named Try.prog 18 = true := by kernel_rfl
theorem named19 : named Try.prog 19 = true := by kernel_rfl
theorem named20 : named Try.prog 20 = true := by kernel_rfl
theorem named21 : named Try.prog 21 = true := by kernel_rfl
theorem named22 : named Try.prog 22 = true := by kernel_rfl
theorem named23 : named Try.prog 23 = true := by kernel_rfl
theorem named24 : named Try.prog 24 = true := by kernel_rfl
theorem named25 : named Try.prog 25 = true := by kernel_rfl
theorem row5 : (Try.prog.info? 5).map (fun i => (i.zero, i.size, i.bytes)) = some (some (.int .u8 0), 1, 1) := by kernel_rfl
theorem row28 : (Try.prog.info? 28).map (fun i => (i.zero, i.size, i.bytes)) = some (some (.slice none 0 0), 1, 24) := by kernel_rfl
theorem size25 : (Try.prog.info? 25).map (·.size) = some 32 := by kernel_rfl
theorem size39 : (Try.prog.info? 39).map (·.size) = some 8 := by kernel_rfl
theorem size42 : (Try.prog.info? 42).map (·.size) = some 64 := by kernel_rfl
theorem some3 : (Try.prog.underlying 3).isSome = true := by kernel_rfl
theorem some5 : (Try.prog.underlying 5).isSome = true := by kernel_rfl
theorem some32 : (Try.prog.underlying 32).isSome = true := by kernel_rfl
theorem some38 : (Try.prog.underlying 38).isSome = true := by kernel_rfl
theorem some43 : (Try.prog.underlying 43).isSome = true := by kernel_rfl
theorem zero5 : (Try.prog.info? 5).bind (·.zero) = some (.int .u8 0) := by kernel_rfl
theorem zero25 : (Try.prog.info? 25).bind (·.zero) = some (.agg ((List.replicate 32 (0 : UInt8)).map cB).toArray) := by kernel_rfl
theorem zero28 : (Try.prog.info? 28).bind (·.zero) = some (.slice none 0 0) := by kernel_rfl
theorem zero38 : (Try.prog.info? 38).bind (·.zero) = some (.int .u32 0) := by kernel_rfl
theorem zero39 : (Try.prog.info? 39).bind (·.zero) = some (.agg ((List.replicate 8 (0 : UInt32)).map cW).toArray) := by kernel_rfl
theorem zero42 : (Try.prog.info? 42).bind (·.zero) = some (.agg ((List.replicate 64 (0 : UInt32)).map cW).toArray) := by kernel_rfl
end Go.Wk.Ty
