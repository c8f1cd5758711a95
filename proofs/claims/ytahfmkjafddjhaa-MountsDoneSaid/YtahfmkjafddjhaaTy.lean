/- The numbers of this seat: closed facts on types and functions. -/
import Derived.Test.YtahfmkjafddjhaaStr
import Derived.Test.YtahfmkjafddjhaaProg
import Derived.KernelRfl
namespace Go.Wk.Ty
open Go.Proofs

theorem cell3 : cellType (Try.prog.underlying 3) = true := by kernel_rfl
theorem cell4 : cellType (Try.prog.underlying 4) = true := by kernel_rfl
theorem cell22 : cellType (Try.prog.underlying 22) = true := by kernel_rfl
theorem cell25 : cellType (Try.prog.underlying 25) = true := by kernel_rfl
theorem cell49 : cellType (Try.prog.underlying 49) = true := by kernel_rfl
theorem cell68 : cellType (Try.prog.underlying 68) = true := by kernel_rfl
theorem cells3 : Try.prog.cellsOf 3 = 1 := by kernel_rfl
theorem cells4 : Try.prog.cellsOf 4 = 1 := by kernel_rfl
theorem cells37 : Try.prog.cellsOf 37 = 4 := by kernel_rfl
theorem cells39 : Try.prog.cellsOf 39 = 5 := by kernel_rfl
theorem cells42 : Try.prog.cellsOf 42 = 7 := by kernel_rfl
theorem cells52 : Try.prog.cellsOf 52 = 33 := by kernel_rfl
theorem eqg37 : Try.prog.eqGuardType Try.prog.depth 37 = false := by kernel_rfl
theorem eqg39 : Try.prog.eqGuardType Try.prog.depth 39 = false := by kernel_rfl
theorem info3 : (Try.prog.info? 3).isSome = true := by kernel_rfl
theorem info4 : (Try.prog.info? 4).isSome = true := by kernel_rfl
theorem info37 : (Try.prog.info? 37).isSome = true := by kernel_rfl
theorem info39 : (Try.prog.info? 39).isSome = true := by kernel_rfl
theorem info42 : (Try.prog.info? 42).isSome = true := by kernel_rfl
theorem info52 : (Try.prog.info? 52).isSome = true := by kernel_rfl
theorem mixed : Try.prog.follows .mixedOrders = true := by kernel_rfl
theorem named15 : named Try.prog 15 = true := by kernel_rfl
theorem named16 : named Try.prog 16 = true := by kernel_rfl
theorem named17 : named Try.prog 17 = true := by kernel_rfl
theorem named18 : named Try.prog 18 = true := by kernel_rfl
theorem named19 : named Try.prog 19 = true := by kernel_rfl
theorem named20 : named Try.prog 20 = true := by kernel_rfl
theorem named21 : named Try.prog 21 = true := by kernel_rfl
theorem named22 : named Try.prog 22 = true := by kernel_rfl
theorem named23 : named Try.prog 23 = true := by kernel_rfl
theorem named24 : named Try.prog 24 = true := by kernel_rfl
theorem named25 : named Try.prog 25 = true := by kernel_rfl
theorem named26 : named Try.prog 26 = true := by kernel_rfl
theorem named27 : named Try.prog 27 = true := by kernel_rfl
theorem named28 : named Try.prog 28 = true := by kernel_rfl
theorem named29 : named Try.prog 29 = true := by kernel_rfl
theorem named30 : named Try.prog 30 = true := by kernel_rfl
theorem named31 : named Try.prog 31 = true := by kernel_rfl
theorem named32 : named Try.prog 32 = true := by kernel_rfl
theorem named33 : named Try.prog 33 = true := by kernel_rfl
theorem named34 : named Try.prog 34 = true := by kernel_rfl
theorem named35 : named Try.prog 35 = true := by kernel_rfl
theorem named36 : named Try.prog 36 = true := by kernel_rfl
theorem named37 : named Try.prog 37 = true := by kernel_rfl
theorem named38 : named Try.prog 38 = true := by kernel_rfl
theorem named39 : named Try.prog 39 = true := by kernel_rfl
theorem named40 : named Try.prog 40 = true := by kernel_rfl
theorem named41 : named Try.prog 41 = true := by kernel_rfl
theorem named42 : named Try.prog 42 = true := by kernel_rfl
theorem named44 : named Try.prog 44 = true := by kernel_rfl
theorem named45 : named Try.prog 45 = true := by kernel_rfl
theorem named46 : named Try.prog 46 = true := by kernel_rfl
theorem named47 : named Try.prog 47 = true := by kernel_rfl
theorem named48 : named Try.prog 48 = true := by kernel_rfl
theorem named49 : named Try.prog 49 = true := by kernel_rfl
theorem named50 : named Try.prog 50 = true := by kernel_rfl
theorem named51 : named Try.prog 51 = true := by kernel_rfl
theorem named52 : named Try.prog 52 = true := by kernel_rfl
theorem named55 : named Try.prog 55 = true := by kernel_rfl
theorem named57 : named Try.prog 57 = true := by kernel_rfl
theorem named58 : named Try.prog 58 = true := by kernel_rfl
theorem row3 : (Try.prog.info? 3).map (fun i => (i.zero, i.size, i.bytes)) = some (some (.int .i64 0), 1, 8) := by kernel_rfl
theorem row4 : (Try.prog.info? 4).map (fun i => (i.zero, i.size, i.bytes)) = some (some (.bool false), 1, 1) := by kernel_rfl
theorem row37 : (Try.prog.info? 37).map (fun i => (i.zero, i.size, i.bytes)) = some (some (.agg #[.int .i64 0, .int .i64 0, .int .i64 0, .int .i64 0]), 4, 32) := by kernel_rfl
theorem row39 : (Try.prog.info? 39).map (fun i => (i.zero, i.size, i.bytes)) = some (some (.agg #[.int .i64 0, .int .i64 0, .int .i64 0, .int .i64 0, .int .i64 0]), 5, 40) := by kernel_rfl
theorem row42 : (Try.prog.info? 42).map (fun i => (i.zero, i.size, i.bytes)) = some (some (.agg #[.int .i64 0, .int .i64 0, .int .i64 0, .int .i64 0, .int .i64 0, .int .i64 0, .int .i64 0]), 7, 56) := by kernel_rfl
theorem row52 : (Try.prog.info? 52).map (fun i => (i.zero, i.size, i.bytes)) = some (some (.agg #[.int .u8 0, .int .u8 0, .int .u8 0, .int .u8 0, .int .u8 0, .int .u8 0, .int .u8 0, .int .u8 0, .int .u8 0, .int .u8 0, .int .u8 0, .int .u8 0, .int .u8 0, .int .u8 0, .int .u8 0, .int .u8 0, .int .u8 0, .int .u8 0, .int .u8 0, .int .u8 0, .int .u8 0, .int .u8 0, .int .u8 0, .int .u8 0, .int .u8 0, .int .u8 0, .int .u8 0, .int .u8 0, .int .u8 0, .int .u8 0, .int .u8 0, .int .u8 0, .slice none 0 0]), 33, 56) := by kernel_rfl
theorem size3 : (Try.prog.info? 3).map (·.size) = some 1 := by kernel_rfl
theorem size4 : (Try.prog.info? 4).map (·.size) = some 1 := by kernel_rfl
theorem size25 : (Try.prog.info? 25).map (·.size) = some 1 := by kernel_rfl
theorem size37 : (Try.prog.info? 37).map (·.size) = some 4 := by kernel_rfl
theorem size39 : (Try.prog.info? 39).map (·.size) = some 5 := by kernel_rfl
theorem size42 : (Try.prog.info? 42).map (·.size) = some 7 := by kernel_rfl
theorem size49 : (Try.prog.info? 49).map (·.size) = some 1 := by kernel_rfl
theorem size50 : (Try.prog.info? 50).map (·.size) = some 32 := by kernel_rfl
theorem size52 : (Try.prog.info? 52).map (·.size) = some 33 := by kernel_rfl
theorem some3 : (Try.prog.underlying 3).isSome = true := by kernel_rfl
theorem some44 : (Try.prog.underlying 44).isSome = true := by kernel_rfl
theorem zero3 : (Try.prog.info? 3).bind (·.zero) = some (.int .i64 0) := by kernel_rfl
theorem zero37 : (Try.prog.info? 37).bind (·.zero) = some (.agg #[.int .i64 0, .int .i64 0, .int .i64 0, .int .i64 0]) := by kernel_rfl
theorem zero39 : (Try.prog.info? 39).bind (·.zero) = some (.agg #[.int .i64 0, .int .i64 0, .int .i64 0, .int .i64 0, .int .i64 0]) := by kernel_rfl
theorem zero42 : (Try.prog.info? 42).bind (·.zero) = some (.agg #[.int .i64 0, .int .i64 0, .int .i64 0, .int .i64 0, .int .i64 0, .int .i64 0, .int .i64 0]) := by kernel_rfl
theorem zero52 : (Try.prog.info? 52).bind (·.zero) = some (.agg #[.int .u8 0, .int .u8 0, .int .u8 0, .int .u8 0, .int .u8 0, .int .u8 0, .int .u8 0, .int .u8 0, .int .u8 0, .int .u8 0, .int .u8 0, .int .u8 0, .int .u8 0, .int .u8 0, .int .u8 0, .int .u8 0, .int .u8 0, .int .u8 0, .int .u8 0, .int .u8 0, .int .u8 0, .int .u8 0, .int .u8 0, .int .u8 0, .int .u8 0, .int .u8 0, .int .u8 0, .int .u8 0, .int .u8 0, .int .u8 0, .int .u8 0, .int .u8 0, .slice none 0 0]) := by kernel_rfl
theorem agg37 : aggType (Try.prog.underlying 37) = true := by kernel_rfl
theorem agg39 : aggType (Try.prog.underlying 39) = true := by kernel_rfl
theorem agg42 : aggType (Try.prog.underlying 42) = true := by kernel_rfl
theorem agg50 : aggType (Try.prog.underlying 50) = true := by kernel_rfl
theorem agg52 : aggType (Try.prog.underlying 52) = true := by kernel_rfl
theorem field37_0 : fieldOff Try.prog 37 0 = some 0 := by kernel_rfl
theorem field37_1 : fieldOff Try.prog 37 1 = some 1 := by kernel_rfl
theorem field37_2 : fieldOff Try.prog 37 2 = some 2 := by kernel_rfl
theorem field37_3 : fieldOff Try.prog 37 3 = some 3 := by kernel_rfl
theorem field39_0 : fieldOff Try.prog 39 0 = some 0 := by kernel_rfl
theorem field39_1 : fieldOff Try.prog 39 1 = some 1 := by kernel_rfl
theorem field42_0 : fieldOff Try.prog 42 0 = some 0 := by kernel_rfl
theorem field42_1 : fieldOff Try.prog 42 1 = some 1 := by kernel_rfl
theorem field42_2 : fieldOff Try.prog 42 2 = some 2 := by kernel_rfl
theorem field42_3 : fieldOff Try.prog 42 3 = some 3 := by kernel_rfl
theorem field52_0 : fieldOff Try.prog 52 0 = some 0 := by kernel_rfl
theorem field52_1 : fieldOff Try.prog 52 1 = some 32 := by kernel_rfl
theorem field70_0 : fieldOff Try.prog 70 0 = some 0 := by kernel_rfl
theorem field70_1 : fieldOff Try.prog 70 1 = some 1 := by kernel_rfl
theorem field70_2 : fieldOff Try.prog 70 2 = some 2 := by kernel_rfl
theorem field70_3 : fieldOff Try.prog 70 3 = some 3 := by kernel_rfl
theorem field70_4 : fieldOff Try.prog 70 4 = some 4 := by kernel_rfl
theorem field70_5 : fieldOff Try.prog 70 5 = some 5 := by kernel_rfl
end Go.Wk.Ty
