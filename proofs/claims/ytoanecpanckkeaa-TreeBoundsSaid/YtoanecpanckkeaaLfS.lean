import Derived.Test.YtoanecpanckkeaaLfA
namespace Go.Wk.Lf
open Go.Proofs Go.RowKit
set_option linter.unusedVariables false
set_option linter.unusedSimpArgs false


end Go.Wk.Lf
namespace Go.Proofs
open Go.Shelf
def Try.sortFile_ren : Go.Shelf.Ren := ⟨fun | 6 => 57 | 15 => 92 | 14 => 91 | 28 => 113 | 29 => 114 | 20 => 105 | 21 => 106 | 22 => 107 | 23 => 108 | 24 => 109 | 25 => 110 | 26 => 111 | 27 => 112 | 46 => 132 | 47 => 133 | 48 => 134 | 49 => 135 | 50 => 136 | 57 => 143 | n => n, fun | 22 => 27 | 24 => 34 | 25 => 83 | 3 => 3 | 39 => 24 | 0 => 0 | 53 => 94 | 55 => 99 | 4 => 4 | 46 => 133 | 45 => 132 | 50 => 137 | 5 => 5 | 9 => 9 | 66 => 151 | 70 => 155 | 76 => 161 | 77 => 162 | n => n, fun | n => n⟩
theorem Try.sortFile : Go.Proofs.SlLaysF0.n6 Try.prog Try.sortFile_ren := {
  mixed := by kernel_rfl
  f6 := ⟨Try.f57.name, by decide, Try.func57.trans (congrArg some (by kernel_rfl))⟩
  f14 := ⟨Try.f91.name, by decide, Try.func91.trans (congrArg some (by kernel_rfl))⟩
  f15 := Try.func92.trans (congrArg some (by kernel_rfl))
  f20 := ⟨Try.f105.name, by decide, Try.func105.trans (congrArg some (by kernel_rfl))⟩
  f21 := ⟨Try.f106.name, by decide, Try.func106.trans (congrArg some (by kernel_rfl))⟩
  f22 := ⟨Try.f107.name, by decide, Try.func107.trans (congrArg some (by kernel_rfl))⟩
  f23 := ⟨Try.f108.name, by decide, Try.func108.trans (congrArg some (by kernel_rfl))⟩
  f24 := ⟨Try.f109.name, by decide, Try.func109.trans (congrArg some (by kernel_rfl))⟩
  f25 := ⟨Try.f110.name, by decide, Try.func110.trans (congrArg some (by kernel_rfl))⟩
  f26 := ⟨Try.f111.name, by decide, Try.func111.trans (congrArg some (by kernel_rfl))⟩
  f27 := ⟨Try.f112.name, by decide, Try.func112.trans (congrArg some (by kernel_rfl))⟩
  f28 := Try.func113.trans (congrArg some (by kernel_rfl))
  f29 := Try.func114.trans (congrArg some (by kernel_rfl))
  f46 := ⟨Try.f132.name, by decide, Try.func132.trans (congrArg some (by kernel_rfl))⟩
  f47 := Try.func133.trans (congrArg some (by kernel_rfl))
  f48 := Try.func134.trans (congrArg some (by kernel_rfl))
  f49 := ⟨Try.f135.name, by decide, Try.func135.trans (congrArg some (by kernel_rfl))⟩
  f50 := ⟨Try.f136.name, by decide, Try.func136.trans (congrArg some (by kernel_rfl))⟩
  f57 := ⟨Try.f143.name, by decide, Try.func143.trans (congrArg some (by kernel_rfl))⟩
  t0 := Try.underlying0
  a0 := Try.isAgg0
  z0 := Try.sizeOf0
  v0 := Try.zeroValue0
  t3 := Try.underlying3
  a3 := Try.isAgg3
  z3 := Try.sizeOf3
  v3 := Try.zeroValue3
  t4 := Try.underlying4
  a4 := Try.isAgg4
  z4 := Try.sizeOf4
  v4 := Try.zeroValue4
  t5 := Try.underlying5
  a5 := Try.isAgg5
  z5 := Try.sizeOf5
  v5 := Try.zeroValue5
  t9 := Try.underlying9
  a9 := Try.isAgg9
  z9 := Try.sizeOf9
  v9 := Try.zeroValue9
  t22 := Try.underlying27
  a22 := Try.isAgg27
  z22 := Try.sizeOf27
  v22 := Try.zeroValue27
  t25 := Try.underlying83
  a25 := Try.isAgg83
  z25 := Try.sizeOf83
  v25 := Try.zeroValue83
  t39 := Try.underlying24
  a39 := Try.isAgg24
  z39 := Try.sizeOf24
  v39 := Try.zeroValue24
  t45 := Try.underlying132
  a45 := Try.isAgg132
  z45 := Try.sizeOf132
  v45 := Try.zeroValue132
  t46 := Try.underlying133
  a46 := Try.isAgg133
  z46 := Try.sizeOf133
  v46 := Try.zeroValue133
  t50 := Try.underlying137
  a50 := Try.isAgg137
  z50 := Try.sizeOf137
  v50 := Try.zeroValue137
  t53 := Try.underlying94
  a53 := Try.isAgg94
  z53 := Try.sizeOf94
  v53 := Try.zeroValue94
  t55 := Try.underlying99
  a55 := Try.isAgg99
  z55 := Try.sizeOf99
  v55 := Try.zeroValue99
  t66 := Try.underlying151
  a66 := Try.isAgg151
  z66 := Try.sizeOf151
  v66 := Try.zeroValue151
  t70 := Try.underlying155
  a70 := Try.isAgg155
  z70 := Try.sizeOf155
  v70 := Try.zeroValue155
  t76 := Try.underlying161
  a76 := Try.isAgg161
  z76 := Try.sizeOf161
  v76 := Try.zeroValue161
  t77 := Try.underlying162
  a77 := Try.isAgg162
  z77 := Try.sizeOf162
  v77 := Try.zeroValue162 }
end Go.Proofs
namespace Go.Wk.Lf
open Go.Proofs Go.RowKit Go.Shelf Go.Sort
def ordFile (a b : File) : Int := cmpT a.path b.path
theorem compareS_eq (a b : List UInt8) : cmp_Compare_string a b = some (cmpT a b) := by
  simp only [cmp_Compare_string, cmp_isNaN_string, bd_mk, cmpT, gtr_eq, beq_self_eq_true, Bool.not_true, Bool.false_eq_true, if_false]
  split <;> (try split) <;> rfl
theorem ordFile_eq (a b : File) : tree_Sort_2 a b = some (ordFile a b) := by
  simp only [tree_Sort_2, compareS_eq, bd_mk]; rfl
theorem ordFile_swo : SWO (ltOf ordFile) := swo_of (f := File.path) fun _ _ => cmpT_lt _ _
theorem sortFile_ok {F : Frz} {w : World} {xs : List File} {v : Value} (hS : St v.ownBlock.toList w F F [.row File.t 34 v xs] w) (hlen : xs.length ≤ 1073741824) :
    Ret Try.prog 57 #[v, .func (.func 58) #[] #[]] w fun _ w' => ∃ F' l', l'.Perm xs ∧ Rise ordFile l' ∧ St v.ownBlock.toList w F F' [.row File.t 34 v l'] w' :=
  sort_anyrow Try.sortFile File.t Try.isAgg34 Try.sizeOf34 ordFile ordFile_swo ⟨[strV [], .slice none 0 0], ⟨[], []⟩, fun F => ⟨_, rfl, SlF.nil F⟩⟩ 58 (enters_of Try.func58 (by kernel_rfl) rfl)
    (fun F c x d y W hA hc hd => by
      obtain ⟨u, rfl, hu⟩ := hc
      obtain ⟨u2, rfl, hu2⟩ := hd
      exact Ret.mono (tree_Sort_2_ok hA hu hu2 (ordFile_eq x y)) fun v w' hq => by obtain ⟨F', rfl, hT⟩ := hq; exact ⟨rfl, hT.below0⟩) hS hlen

end Go.Wk.Lf
