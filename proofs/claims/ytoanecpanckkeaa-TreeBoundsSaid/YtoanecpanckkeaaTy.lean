/- The numbers of this seat: closed facts on types and functions. -/
import Derived.Test.YtoanecpanckkeaaStr
import Derived.Test.YtoanecpanckkeaaProg
import Derived.KernelRfl
namespace Go.Wk.Ty
open Go.Proofs

theorem cell5 : cellType (Try.prog.underlying 5) = true := by kernel_rfl
theorem cell9 : cellType (Try.prog.underlying 9) = true := by kernel_rfl
theorem cell25 : cellType (Try.prog.underlying 25) = true := by kernel_rfl
theorem cells5 : Try.prog.cellsOf 5 = 1 := by kernel_rfl
theorem cells34 : Try.prog.cellsOf 34 = 2 := by kernel_rfl
theorem info5 : (Try.prog.info? 5).isSome = true := by kernel_rfl
theorem info34 : (Try.prog.info? 34).isSome = true := by kernel_rfl
theorem mixed : Try.prog.follows .mixedOrders = true := by kernel_rfl
theorem named15 : named Try.prog 15 = true := by kernel_rfl
theorem named16 : named Try.prog 16 = true := by kernel_rfl
theorem named17 : named Try.prog 17 = true := by kernel_rfl
theorem named19 : named Try.prog 19 = true := by kernel_rfl
theorem named21 : named Try.prog 21 = true := by kernel_rfl
theorem named23 : named Try.prog 23 = true := by kernel_rfl
theorem named24 : named Try.prog 24 = true := by kernel_rfl
theorem named27 : named Try.prog 27 = true := by kernel_rfl
theorem named28 : named Try.prog 28 = true := by kernel_rfl
theorem named53 : named Try.prog 53 = true := by kernel_rfl
theorem named54 : named Try.prog 54 = true := by kernel_rfl
theorem named55 : named Try.prog 55 = true := by kernel_rfl
theorem named56 : named Try.prog 56 = true := by kernel_rfl
theorem named57 : named Try.prog 57 = true := by kernel_rfl
theorem named59 : named Try.prog 59 = true := by kernel_rfl
theorem named62 : named Try.prog 62 = true := by kernel_rfl
theorem named63 : named Try.prog 63 = true := by kernel_rfl
theorem named64 : named Try.prog 64 = true := by kernel_rfl
theorem named70 : named Try.prog 70 = true := by kernel_rfl
theorem named88 : named Try.prog 88 = true := by kernel_rfl
theorem named89 : named Try.prog 89 = true := by kernel_rfl
theorem named90 : named Try.prog 90 = true := by kernel_rfl
theorem named93 : named Try.prog 93 = true := by kernel_rfl
theorem row5 : (Try.prog.info? 5).map (fun i => (i.zero, i.size, i.bytes)) = some (some (.int .u8 0), 1, 1) := by kernel_rfl
theorem row34 : (Try.prog.info? 34).map (fun i => (i.zero, i.size, i.bytes)) = some (some (.agg #[.string ⟨#[]⟩, .slice none 0 0]), 2, 40) := by kernel_rfl
theorem size5 : (Try.prog.info? 5).map (·.size) = some 1 := by kernel_rfl
theorem size25 : (Try.prog.info? 25).map (·.size) = some 1 := by kernel_rfl
theorem size34 : (Try.prog.info? 34).map (·.size) = some 2 := by kernel_rfl
theorem some3 : (Try.prog.underlying 3).isSome = true := by kernel_rfl
theorem some24 : (Try.prog.underlying 24).isSome = true := by kernel_rfl
theorem zero5 : (Try.prog.info? 5).bind (·.zero) = some (.int .u8 0) := by kernel_rfl
theorem zero34 : (Try.prog.info? 34).bind (·.zero) = some (.agg #[.string ⟨#[]⟩, .slice none 0 0]) := by kernel_rfl
theorem agg34 : aggType (Try.prog.underlying 34) = true := by kernel_rfl
theorem field34_0 : fieldOff Try.prog 34 0 = some 0 := by kernel_rfl
theorem field34_1 : fieldOff Try.prog 34 1 = some 1 := by kernel_rfl
end Go.Wk.Ty
