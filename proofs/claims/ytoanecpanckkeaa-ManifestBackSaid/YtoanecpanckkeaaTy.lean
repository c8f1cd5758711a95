/- The numbers of this seat: closed facts on types and functions. -/
import Derived.Test.YtoanecpanckkeaaStr
import Derived.Test.YtoanecpanckkeaaProg
import Derived.KernelRfl
namespace Go.Wk.Ty
open Go.Proofs

theorem cell3 : cellType (Try.prog.underlying 3) = true := by kernel_rfl
theorem cell4 : cellType (Try.prog.underlying 4) = true := by kernel_rfl
theorem cell5 : cellType (Try.prog.underlying 5) = true := by kernel_rfl
theorem cell9 : cellType (Try.prog.underlying 9) = true := by kernel_rfl
theorem cell25 : cellType (Try.prog.underlying 25) = true := by kernel_rfl
theorem cell43 : cellType (Try.prog.underlying 43) = true := by kernel_rfl
theorem cell49 : cellType (Try.prog.underlying 49) = true := by kernel_rfl
theorem cell94 : cellType (Try.prog.underlying 94) = true := by kernel_rfl
theorem cells5 : Try.prog.cellsOf 5 = 1 := by kernel_rfl
theorem cells25 : Try.prog.cellsOf 25 = 1 := by kernel_rfl
theorem cells34 : Try.prog.cellsOf 34 = 2 := by kernel_rfl
theorem cells51 : Try.prog.cellsOf 51 = 3 := by kernel_rfl
theorem cells57 : Try.prog.cellsOf 57 = 32 := by kernel_rfl
theorem cells94 : Try.prog.cellsOf 94 = 1 := by kernel_rfl
theorem info5 : (Try.prog.info? 5).isSome = true := by kernel_rfl
theorem info25 : (Try.prog.info? 25).isSome = true := by kernel_rfl
theorem info34 : (Try.prog.info? 34).isSome = true := by kernel_rfl
theorem info51 : (Try.prog.info? 51).isSome = true := by kernel_rfl
theorem info57 : (Try.prog.info? 57).isSome = true := by kernel_rfl
theorem info94 : (Try.prog.info? 94).isSome = true := by kernel_rfl
theorem mixed : Try.prog.follows .mixedOrders = true := by kernel_rfl
theorem named15 : named Try.prog 15 = true := by kernel_rfl
theorem named17 : named Try.prog 17 = true := by kernel_rfl
theorem named21 : named Try.prog 21 = true := by kernel_rfl
theorem named23 : named Try.prog 23 = true := by kernel_rfl
theorem named25 : named Try.prog 25 = true := by kernel_rfl
theorem named28 : named Try.prog 28 = true := by kernel_rfl
theorem named29 : named Try.prog 29 = true := by kernel_rfl
theorem named30 : named Try.prog 30 = true := by kernel_rfl
theorem named31 : named Try.prog 31 = true := by kernel_rfl
theorem named32 : named Try.prog 32 = true := by kernel_rfl
theorem named33 : named Try.prog 33 = true := by kernel_rfl
theorem named34 : named Try.prog 34 = true := by kernel_rfl
theorem named35 : named Try.prog 35 = true := by kernel_rfl
theorem named36 : named Try.prog 36 = true := by kernel_rfl
theorem named37 : named Try.prog 37 = true := by kernel_rfl
theorem named38 : named Try.prog 38 = true := by kernel_rfl
theorem named39 : named Try.prog 39 = true := by kernel_rfl
theorem named44 : named Try.prog 44 = true := by kernel_rfl
theorem named46 : named Try.prog 46 = true := by kernel_rfl
theorem named47 : named Try.prog 47 = true := by kernel_rfl
theorem named48 : named Try.prog 48 = true := by kernel_rfl
theorem named49 : named Try.prog 49 = true := by kernel_rfl
theorem named50 : named Try.prog 50 = true := by kernel_rfl
theorem named51 : named Try.prog 51 = true := by kernel_rfl
theorem named52 : named Try.prog 52 = true := by kernel_rfl
theorem named53 : named Try.prog 53 = true := by kernel_rfl
theorem named54 : named Try.prog 54 = true := by kernel_rfl
theorem named59 : named Try.prog 59 = true := by kernel_rfl
theorem named65 : named Try.prog 65 = true := by kernel_rfl
theorem named66 : named Try.prog 66 = true := by kernel_rfl
theorem named68 : named Try.prog 68 = true := by kernel_rfl
theorem named69 : named Try.prog 69 = true := by kernel_rfl
theorem named70 : named Try.prog 70 = true := by kernel_rfl
theorem named71 : named Try.prog 71 = true := by kernel_rfl
theorem named72 : named Try.prog 72 = true := by kernel_rfl
theorem named73 : named Try.prog 73 = true := by kernel_rfl
theorem named74 : named Try.prog 74 = true := by kernel_rfl
theorem named75 : named Try.prog 75 = true := by kernel_rfl
theorem named76 : named Try.prog 76 = true := by kernel_rfl
theorem named77 : named Try.prog 77 = true := by kernel_rfl
theorem named78 : named Try.prog 78 = true := by kernel_rfl
theorem named79 : named Try.prog 79 = true := by kernel_rfl
theorem named80 : named Try.prog 80 = true := by kernel_rfl
theorem named81 : named Try.prog 81 = true := by kernel_rfl
theorem named82 : named Try.prog 82 = true := by kernel_rfl
theorem named83 : named Try.prog 83 = true := by kernel_rfl
theorem named84 : named Try.prog 84 = true := by kernel_rfl
theorem named85 : named Try.prog 85 = true := by kernel_rfl
theorem named86 : named Try.prog 86 = true := by kernel_rfl
theorem named87 : named Try.prog 87 = true := by kernel_rfl
theorem named88 : named Try.prog 88 = true := by kernel_rfl
theorem named89 : named Try.prog 89 = true := by kernel_rfl
theorem named93 : named Try.prog 93 = true := by kernel_rfl
theorem named94 : named Try.prog 94 = true := by kernel_rfl
theorem named96 : named Try.prog 96 = true := by kernel_rfl
theorem named97 : named Try.prog 97 = true := by kernel_rfl
theorem named99 : named Try.prog 99 = true := by kernel_rfl
theorem named100 : named Try.prog 100 = true := by kernel_rfl
theorem named101 : named Try.prog 101 = true := by kernel_rfl
theorem named102 : named Try.prog 102 = true := by kernel_rfl
theorem named103 : named Try.prog 103 = true := by kernel_rfl
theorem named104 : named Try.prog 104 = true := by kernel_rfl
theorem row5 : (Try.prog.info? 5).map (fun i => (i.zero, i.size, i.bytes)) = some (some (.int .u8 0), 1, 1) := by kernel_rfl
theorem row25 : (Try.prog.info? 25).map (fun i => (i.zero, i.size, i.bytes)) = some (some (.slice none 0 0), 1, 24) := by kernel_rfl
theorem row34 : (Try.prog.info? 34).map (fun i => (i.zero, i.size, i.bytes)) = some (some (.agg #[.string ⟨#[]⟩, .slice none 0 0]), 2, 40) := by kernel_rfl
theorem row51 : (Try.prog.info? 51).map (fun i => (i.zero, i.size, i.bytes)) = some (some (.agg #[.string ⟨#[]⟩, .int .i64 0, .slice none 0 0]), 3, 48) := by kernel_rfl
theorem row57 : (Try.prog.info? 57).map (fun i => (i.zero, i.size, i.bytes)) = some (some (.agg ((List.replicate 32 (0 : UInt8)).map cB).toArray), 32, 32) := by kernel_rfl
theorem size3 : (Try.prog.info? 3).map (·.size) = some 1 := by kernel_rfl
theorem size4 : (Try.prog.info? 4).map (·.size) = some 1 := by kernel_rfl
theorem size5 : (Try.prog.info? 5).map (·.size) = some 1 := by kernel_rfl
theorem size9 : (Try.prog.info? 9).map (·.size) = some 1 := by kernel_rfl
theorem size25 : (Try.prog.info? 25).map (·.size) = some 1 := by kernel_rfl
theorem size34 : (Try.prog.info? 34).map (·.size) = some 2 := by kernel_rfl
theorem size43 : (Try.prog.info? 43).map (·.size) = some 1 := by kernel_rfl
theorem size45 : (Try.prog.info? 45).map (·.size) = some 2 := by kernel_rfl
theorem size49 : (Try.prog.info? 49).map (·.size) = some 1 := by kernel_rfl
theorem size51 : (Try.prog.info? 51).map (·.size) = some 3 := by kernel_rfl
theorem size57 : (Try.prog.info? 57).map (·.size) = some 32 := by kernel_rfl
theorem size95 : (Try.prog.info? 95).map (·.size) = some 8 := by kernel_rfl
theorem size98 : (Try.prog.info? 98).map (·.size) = some 64 := by kernel_rfl
theorem some3 : (Try.prog.underlying 3).isSome = true := by kernel_rfl
theorem some5 : (Try.prog.underlying 5).isSome = true := by kernel_rfl
theorem some24 : (Try.prog.underlying 24).isSome = true := by kernel_rfl
theorem some94 : (Try.prog.underlying 94).isSome = true := by kernel_rfl
theorem some99 : (Try.prog.underlying 99).isSome = true := by kernel_rfl
theorem zero5 : (Try.prog.info? 5).bind (·.zero) = some (.int .u8 0) := by kernel_rfl
theorem zero25 : (Try.prog.info? 25).bind (·.zero) = some (.slice none 0 0) := by kernel_rfl
theorem zero34 : (Try.prog.info? 34).bind (·.zero) = some (.agg #[.string ⟨#[]⟩, .slice none 0 0]) := by kernel_rfl
theorem zero45 : (Try.prog.info? 45).bind (·.zero) = some (.agg #[.string ⟨#[]⟩, .slice none 0 0]) := by kernel_rfl
theorem zero51 : (Try.prog.info? 51).bind (·.zero) = some (.agg #[.string ⟨#[]⟩, .int .i64 0, .slice none 0 0]) := by kernel_rfl
theorem zero57 : (Try.prog.info? 57).bind (·.zero) = some (.agg ((List.replicate 32 (0 : UInt8)).map cB).toArray) := by kernel_rfl
theorem zero94 : (Try.prog.info? 94).bind (·.zero) = some (.int .u32 0) := by kernel_rfl
theorem zero95 : (Try.prog.info? 95).bind (·.zero) = some (.agg ((List.replicate 8 (0 : UInt32)).map cW).toArray) := by kernel_rfl
theorem zero98 : (Try.prog.info? 98).bind (·.zero) = some (.agg ((List.replicate 64 (0 : UInt32)).map cW).toArray) := by kernel_rfl
theorem agg34 : aggType (Try.prog.underlying 34) = true := by kernel_rfl
theorem agg45 : aggType (Try.prog.underlying 45) = true := by kernel_rfl
theorem agg51 : aggType (Try.prog.underlying 51) = true := by kernel_rfl
theorem agg57 : aggType (Try.prog.underlying 57) = true := by kernel_rfl
theorem field106_0 : fieldOff Try.prog 106 0 = some 0 := by kernel_rfl
theorem field106_1 : fieldOff Try.prog 106 1 = some 1 := by kernel_rfl
theorem field111_0 : fieldOff Try.prog 111 0 = some 0 := by kernel_rfl
theorem field111_1 : fieldOff Try.prog 111 1 = some 1 := by kernel_rfl
theorem field111_2 : fieldOff Try.prog 111 2 = some 2 := by kernel_rfl
theorem field34_0 : fieldOff Try.prog 34 0 = some 0 := by kernel_rfl
theorem field34_1 : fieldOff Try.prog 34 1 = some 1 := by kernel_rfl
theorem field45_0 : fieldOff Try.prog 45 0 = some 0 := by kernel_rfl
theorem field45_1 : fieldOff Try.prog 45 1 = some 1 := by kernel_rfl
theorem field51_0 : fieldOff Try.prog 51 0 = some 0 := by kernel_rfl
theorem field51_1 : fieldOff Try.prog 51 1 = some 1 := by kernel_rfl
theorem field51_2 : fieldOff Try.prog 51 2 = some 2 := by kernel_rfl
end Go.Wk.Ty
