import Derived.Test.YtoanecpanckkeaaLfA
import Derived.Test.YtoanecpanckkeaaAny1
import Derived.Test.YtoanecpanckkeaaKeys
import Derived.Test.YtoanecpanckkeaaCopy
namespace Go.Wk.Lf
open Go.Proofs Go.RowKit
set_option linter.unusedVariables false
set_option linter.unusedSimpArgs false


end Go.Wk.Lf
namespace Go.Proofs
open Go.Shelf
def Try.sortFile_ren : Go.Shelf.Ren := ⟨fun | 6 => 57 | 15 => 92 | 14 => 91 | 28 => 113 | 29 => 114 | 20 => 105 | 21 => 106 | 22 => 107 | 23 => 108 | 24 => 109 | 25 => 110 | 26 => 111 | 27 => 112 | 46 => 132 | 47 => 133 | 48 => 134 | 49 => 135 | 50 => 136 | 57 => 143 | n => n, fun | 22 => 27 | 24 => 34 | 25 => 83 | 3 => 3 | 39 => 24 | 0 => 0 | 53 => 94 | 55 => 99 | 4 => 4 | 46 => 133 | 45 => 132 | 50 => 137 | 5 => 5 | 9 => 9 | 66 => 151 | 70 => 155 | 76 => 161 | 77 => 162 | n => n, fun | n => n⟩
theorem Try.sortFile : Go.Proofs.SlLaysF0.n6 Try.prog Try.sortFile_ren := {
  mixed := by kernel_rfl
  f6 := ⟨Try.f57.name, by decide, Try.func57.trans (congrArg some (by kernel_rfl))⟩
  f14 := ⟨Try.f91.name, by decide, Try.func91.trans (congrArg some (by kernel_rfl))⟩
  f15 := Try.func92.trans (congrArg some (by kernel_rfl))
  f20 := ⟨Try.f105.name, by decide, Try.func105.trans (congrArg some (by kernel_rfl))⟩
  f21 := ⟨Try.f106.name, by decide, Try.func106.trans (congrArg some (by kernel_rfl))⟩
  f22 := ⟨Try.f107.name, by decide, Try.func107.trans (congrArg some (by kernel_rfl))⟩
  f23 := ⟨Try.f108.name, by decide, Try.func108.trans (congrArg some (by kernel_rfl))⟩
  f24 := ⟨Try.f109.name, by decide, Try.func109.trans (congrArg some (by kernel_rfl))⟩
  f25 := ⟨Try.f110.name, by decide, Try.func110.trans (congrArg some (by kernel_rfl))⟩
  f26 := ⟨Try.f111.name, by decide, Try.func111.trans (congrArg some (by kernel_rfl))⟩
  f27 := ⟨Try.f112.name, by decide, Try.func112.trans (congrArg some (by kernel_rfl))⟩
  f28 := Try.func113.trans (congrArg some (by kernel_rfl))
  f29 := Try.func114.trans (congrArg some (by kernel_rfl))
  f46 := ⟨Try.f132.name, by decide, Try.func132.trans (congrArg some (by kernel_rfl))⟩
  f47 := Try.func133.trans (congrArg some (by kernel_rfl))
  f48 := Try.func134.trans (congrArg some (by kernel_rfl))
  f49 := ⟨Try.f135.name, by decide, Try.func135.trans (congrArg some (by kernel_rfl))⟩
  f50 := ⟨Try.f136.name, by decide, Try.func136.trans (congrArg some (by kernel_rfl))⟩
  f57 := ⟨Try.f143.name, by decide, Try.func143.trans (congrArg some (by kernel_rfl))⟩
  t0 := Try.underlying0
  a0 := Try.isAgg0
  z0 := Try.sizeOf0
  v0 := Try.zeroValue0
  t3 := Try.underlying3
  a3 := Try.isAgg3
  z3 := Try.sizeOf3
  v3 := Try.zeroValue3
  t4 := Try.underlying4
  a4 := Try.isAgg4
  z4 := Try.sizeOf4
  v4 := Try.zeroValue4
  t5 := Try.underlying5
  a5 := Try.isAgg5
  z5 := Try.sizeOf5
  v5 := Try.zeroValue5
  t9 := Try.underlying9
  a9 := Try.isAgg9
  z9 := Try.sizeOf9
  v9 := Try.zeroValue9
  t22 := Try.underlying27
  a22 := Try.isAgg27
  z22 := Try.sizeOf27
  v22 := Try.zeroValue27
  t25 := Try.underlying83
  a25 := Try.isAgg83
  z25 := Try.sizeOf83
  v25 := Try.zeroValue83
  t39 := Try.underlying24
  a39 := Try.isAgg24
  z39 := Try.sizeOf24
  v39 := Try.zeroValue24
  t45 := Try.underlying132
  a45 := Try.isAgg132
  z45 := Try.sizeOf132
  v45 := Try.zeroValue132
  t46 := Try.underlying133
  a46 := Try.isAgg133
  z46 := Try.sizeOf133
  v46 := Try.zeroValue133
  t50 := Try.underlying137
  a50 := Try.isAgg137
  z50 := Try.sizeOf137
  v50 := Try.zeroValue137
  t53 := Try.underlying94
  a53 := Try.isAgg94
  z53 := Try.sizeOf94
  v53 := Try.zeroValue94
  t55 := Try.underlying99
  a55 := Try.isAgg99
  z55 := Try.sizeOf99
  v55 := Try.zeroValue99
  t66 := Try.underlying151
  a66 := Try.isAgg151
  z66 := Try.sizeOf151
  v66 := Try.zeroValue151
  t70 := Try.underlying155
  a70 := Try.isAgg155
  z70 := Try.sizeOf155
  v70 := Try.zeroValue155
  t76 := Try.underlying161
  a76 := Try.isAgg161
  z76 := Try.sizeOf161
  v76 := Try.zeroValue161
  t77 := Try.underlying162
  a77 := Try.isAgg162
  z77 := Try.sizeOf162
  v77 := Try.zeroValue162 }
end Go.Proofs
namespace Go.Wk.Lf
open Go.Proofs Go.RowKit Go.Shelf Go.Sort
def ordFile (a b : File) : Int := cmpT a.path b.path
theorem compareS_eq (a b : List UInt8) : cmp_Compare_string a b = some (cmpT a b) := by
  simp only [cmp_Compare_string, cmp_isNaN_string, bd_mk, cmpT, gtr_eq, beq_self_eq_true, Bool.not_true, Bool.false_eq_true, if_false]
  split <;> (try split) <;> rfl
theorem ordFile_eq (a b : File) : tree_Sort_2 a b = some (ordFile a b) := by
  simp only [tree_Sort_2, compareS_eq, bd_mk]; rfl
theorem ordFile_swo : SWO (ltOf ordFile) := swo_of (f := File.path) fun _ _ => cmpT_lt _ _
theorem sortFile_ok {F : Frz} {w : World} {xs : List File} {v : Value} (hS : St v.ownBlock.toList w F F [.row File.t 34 v xs] w) (hlen : xs.length ≤ 1073741824) :
    Ret Try.prog 57 #[v, .func (.func 58) #[] #[]] w fun _ w' => ∃ F' l', l'.Perm xs ∧ Rise ordFile l' ∧ St v.ownBlock.toList w F F' [.row File.t 34 v l'] w' :=
  sort_anyrow Try.sortFile File.t Try.isAgg34 Try.sizeOf34 ordFile ordFile_swo ⟨[strV [], .slice none 0 0], ⟨[], []⟩, fun F => ⟨_, rfl, SlF.nil F⟩⟩ 58 (enters_of Try.func58 (by kernel_rfl) rfl)
    (fun F c x d y W hA hc hd => by
      obtain ⟨u, rfl, hu⟩ := hc
      obtain ⟨u2, rfl, hu2⟩ := hd
      exact Ret.mono (tree_Sort_2_ok hA hu hu2 (ordFile_eq x y)) fun v w' hq => by obtain ⟨F', rfl, hT⟩ := hq; exact ⟨rfl, hT.below0⟩) hS hlen


end Go.Wk.Lf
namespace Go.Proofs
open Go.Shelf
def Try.sortIds_ren : Go.Shelf.Ren := ⟨fun | 6 => 76 | 15 => 92 | 14 => 98 | 28 => 113 | 29 => 114 | 20 => 124 | 21 => 125 | 22 => 126 | 23 => 127 | 24 => 128 | 25 => 129 | 26 => 130 | 27 => 131 | 46 => 140 | 47 => 133 | 48 => 134 | 49 => 141 | 50 => 142 | 57 => 145 | n => n, fun | 22 => 49 | 24 => 57 | 25 => 90 | 3 => 3 | 39 => 24 | 0 => 0 | 53 => 94 | 55 => 99 | 4 => 4 | 46 => 133 | 45 => 132 | 50 => 137 | 5 => 5 | 9 => 9 | 66 => 151 | 70 => 155 | 76 => 161 | 77 => 162 | n => n, fun | n => n⟩
theorem Try.sortIds : Go.Proofs.SlLaysF0.n6 Try.prog Try.sortIds_ren := {
  mixed := by kernel_rfl
  f6 := ⟨Try.f76.name, by decide, Try.func76.trans (congrArg some (by kernel_rfl))⟩
  f14 := ⟨Try.f98.name, by decide, Try.func98.trans (congrArg some (by kernel_rfl))⟩
  f15 := Try.func92.trans (congrArg some (by kernel_rfl))
  f20 := ⟨Try.f124.name, by decide, Try.func124.trans (congrArg some (by kernel_rfl))⟩
  f21 := ⟨Try.f125.name, by decide, Try.func125.trans (congrArg some (by kernel_rfl))⟩
  f22 := ⟨Try.f126.name, by decide, Try.func126.trans (congrArg some (by kernel_rfl))⟩
  f23 := ⟨Try.f127.name, by decide, Try.func127.trans (congrArg some (by kernel_rfl))⟩
  f24 := ⟨Try.f128.name, by decide, Try.func128.trans (congrArg some (by kernel_rfl))⟩
  f25 := ⟨Try.f129.name, by decide, Try.func129.trans (congrArg some (by kernel_rfl))⟩
  f26 := ⟨Try.f130.name, by decide, Try.func130.trans (congrArg some (by kernel_rfl))⟩
  f27 := ⟨Try.f131.name, by decide, Try.func131.trans (congrArg some (by kernel_rfl))⟩
  f28 := Try.func113.trans (congrArg some (by kernel_rfl))
  f29 := Try.func114.trans (congrArg some (by kernel_rfl))
  f46 := ⟨Try.f140.name, by decide, Try.func140.trans (congrArg some (by kernel_rfl))⟩
  f47 := Try.func133.trans (congrArg some (by kernel_rfl))
  f48 := Try.func134.trans (congrArg some (by kernel_rfl))
  f49 := ⟨Try.f141.name, by decide, Try.func141.trans (congrArg some (by kernel_rfl))⟩
  f50 := ⟨Try.f142.name, by decide, Try.func142.trans (congrArg some (by kernel_rfl))⟩
  f57 := ⟨Try.f145.name, by decide, Try.func145.trans (congrArg some (by kernel_rfl))⟩
  t0 := Try.underlying0
  a0 := Try.isAgg0
  z0 := Try.sizeOf0
  v0 := Try.zeroValue0
  t3 := Try.underlying3
  a3 := Try.isAgg3
  z3 := Try.sizeOf3
  v3 := Try.zeroValue3
  t4 := Try.underlying4
  a4 := Try.isAgg4
  z4 := Try.sizeOf4
  v4 := Try.zeroValue4
  t5 := Try.underlying5
  a5 := Try.isAgg5
  z5 := Try.sizeOf5
  v5 := Try.zeroValue5
  t9 := Try.underlying9
  a9 := Try.isAgg9
  z9 := Try.sizeOf9
  v9 := Try.zeroValue9
  t22 := Try.underlying49
  a22 := Try.isAgg49
  z22 := Try.sizeOf49
  v22 := Try.zeroValue49
  t25 := Try.underlying90
  a25 := Try.isAgg90
  z25 := Try.sizeOf90
  v25 := Try.zeroValue90
  t39 := Try.underlying24
  a39 := Try.isAgg24
  z39 := Try.sizeOf24
  v39 := Try.zeroValue24
  t45 := Try.underlying132
  a45 := Try.isAgg132
  z45 := Try.sizeOf132
  v45 := Try.zeroValue132
  t46 := Try.underlying133
  a46 := Try.isAgg133
  z46 := Try.sizeOf133
  v46 := Try.zeroValue133
  t50 := Try.underlying137
  a50 := Try.isAgg137
  z50 := Try.sizeOf137
  v50 := Try.zeroValue137
  t53 := Try.underlying94
  a53 := Try.isAgg94
  z53 := Try.sizeOf94
  v53 := Try.zeroValue94
  t55 := Try.underlying99
  a55 := Try.isAgg99
  z55 := Try.sizeOf99
  v55 := Try.zeroValue99
  t66 := Try.underlying151
  a66 := Try.isAgg151
  z66 := Try.sizeOf151
  v66 := Try.zeroValue151
  t70 := Try.underlying155
  a70 := Try.isAgg155
  z70 := Try.sizeOf155
  v70 := Try.zeroValue155
  t76 := Try.underlying161
  a76 := Try.isAgg161
  z76 := Try.sizeOf161
  v76 := Try.zeroValue161
  t77 := Try.underlying162
  a77 := Try.isAgg162
  z77 := Try.sizeOf162
  v77 := Try.zeroValue162 }
def Try.sortRows_ren : Go.Shelf.Ren := ⟨fun | 6 => 66 | 15 => 92 | 14 => 95 | 28 => 113 | 29 => 114 | 20 => 115 | 21 => 116 | 22 => 117 | 23 => 118 | 24 => 119 | 25 => 120 | 26 => 121 | 27 => 122 | 46 => 137 | 47 => 133 | 48 => 134 | 49 => 138 | 50 => 139 | 57 => 144 | n => n, fun | 22 => 52 | 24 => 25 | 25 => 91 | 3 => 3 | 39 => 24 | 0 => 0 | 53 => 94 | 55 => 99 | 4 => 4 | 46 => 133 | 45 => 132 | 50 => 137 | 5 => 5 | 9 => 9 | 66 => 151 | 70 => 155 | 76 => 161 | 77 => 162 | n => n, fun | n => n⟩
theorem Try.sortRows : Go.Proofs.SlLaysF.n6 Try.prog Try.sortRows_ren := {
  mixed := by kernel_rfl
  f6 := ⟨Try.f66.name, by decide, Try.func66.trans (congrArg some (by kernel_rfl))⟩
  f14 := ⟨Try.f95.name, by decide, Try.func95.trans (congrArg some (by kernel_rfl))⟩
  f15 := Try.func92.trans (congrArg some (by kernel_rfl))
  f20 := ⟨Try.f115.name, by decide, Try.func115.trans (congrArg some (by kernel_rfl))⟩
  f21 := ⟨Try.f116.name, by decide, Try.func116.trans (congrArg some (by kernel_rfl))⟩
  f22 := ⟨Try.f117.name, by decide, Try.func117.trans (congrArg some (by kernel_rfl))⟩
  f23 := ⟨Try.f118.name, by decide, Try.func118.trans (congrArg some (by kernel_rfl))⟩
  f24 := ⟨Try.f119.name, by decide, Try.func119.trans (congrArg some (by kernel_rfl))⟩
  f25 := ⟨Try.f120.name, by decide, Try.func120.trans (congrArg some (by kernel_rfl))⟩
  f26 := ⟨Try.f121.name, by decide, Try.func121.trans (congrArg some (by kernel_rfl))⟩
  f27 := ⟨Try.f122.name, by decide, Try.func122.trans (congrArg some (by kernel_rfl))⟩
  f28 := Try.func113.trans (congrArg some (by kernel_rfl))
  f29 := Try.func114.trans (congrArg some (by kernel_rfl))
  f46 := ⟨Try.f137.name, by decide, Try.func137.trans (congrArg some (by kernel_rfl))⟩
  f47 := Try.func133.trans (congrArg some (by kernel_rfl))
  f48 := Try.func134.trans (congrArg some (by kernel_rfl))
  f49 := ⟨Try.f138.name, by decide, Try.func138.trans (congrArg some (by kernel_rfl))⟩
  f50 := ⟨Try.f139.name, by decide, Try.func139.trans (congrArg some (by kernel_rfl))⟩
  f57 := ⟨Try.f144.name, by decide, Try.func144.trans (congrArg some (by kernel_rfl))⟩
  t0 := Try.underlying0
  a0 := Try.isAgg0
  z0 := Try.sizeOf0
  v0 := Try.zeroValue0
  t3 := Try.underlying3
  a3 := Try.isAgg3
  z3 := Try.sizeOf3
  v3 := Try.zeroValue3
  t4 := Try.underlying4
  a4 := Try.isAgg4
  z4 := Try.sizeOf4
  v4 := Try.zeroValue4
  t5 := Try.underlying5
  a5 := Try.isAgg5
  z5 := Try.sizeOf5
  v5 := Try.zeroValue5
  t9 := Try.underlying9
  a9 := Try.isAgg9
  z9 := Try.sizeOf9
  v9 := Try.zeroValue9
  t22 := Try.underlying52
  a22 := Try.isAgg52
  z22 := Try.sizeOf52
  v22 := Try.zeroValue52
  a24 := Try.isAgg25
  z24 := Try.sizeOf25
  t25 := Try.underlying91
  a25 := Try.isAgg91
  z25 := Try.sizeOf91
  v25 := Try.zeroValue91
  t39 := Try.underlying24
  a39 := Try.isAgg24
  z39 := Try.sizeOf24
  v39 := Try.zeroValue24
  t45 := Try.underlying132
  a45 := Try.isAgg132
  z45 := Try.sizeOf132
  v45 := Try.zeroValue132
  t46 := Try.underlying133
  a46 := Try.isAgg133
  z46 := Try.sizeOf133
  v46 := Try.zeroValue133
  t50 := Try.underlying137
  a50 := Try.isAgg137
  z50 := Try.sizeOf137
  v50 := Try.zeroValue137
  t53 := Try.underlying94
  a53 := Try.isAgg94
  z53 := Try.sizeOf94
  v53 := Try.zeroValue94
  t55 := Try.underlying99
  a55 := Try.isAgg99
  z55 := Try.sizeOf99
  v55 := Try.zeroValue99
  t66 := Try.underlying151
  a66 := Try.isAgg151
  z66 := Try.sizeOf151
  v66 := Try.zeroValue151
  t70 := Try.underlying155
  a70 := Try.isAgg155
  z70 := Try.sizeOf155
  v70 := Try.zeroValue155
  t76 := Try.underlying161
  a76 := Try.isAgg161
  z76 := Try.sizeOf161
  v76 := Try.zeroValue161
  t77 := Try.underlying162
  a77 := Try.isAgg162
  z77 := Try.sizeOf162
  v77 := Try.zeroValue162 }
end Go.Proofs
namespace Go.Wk.Lf
open Go.Proofs Go.RowKit Go.Shelf Go.Sort
theorem order_eq (a b : List UInt8) : manifest_order a b = some (cmpT a b) := rfl
theorem cmpT_swo : SWO (ltOf cmpT) := swo_of (f := fun x => x) fun _ _ => cmpT_lt _ _
theorem sortIds_ok {F : Frz} {w : World} {xs : List (List UInt8)} {v : Value} (hS : St v.ownBlock.toList w F F [.row tId 57 v xs] w) (hlen : xs.length ≤ 1073741824) :
    Ret Try.prog 76 #[v, .func (.func 68) #[] #[]] w fun _ w' => ∃ F' l', l'.Perm xs ∧ Rise cmpT l' ∧ St v.ownBlock.toList w F F' [.row tId 57 v l'] w' :=
  sort_anyrow Try.sortIds tId Try.isAgg57 Try.sizeOf57 cmpT cmpT_swo ⟨idCells (List.replicate 32 0), List.replicate 32 0, fun F => ⟨rfl, by simp⟩⟩ 68 (enters_of Try.func68 (by kernel_rfl) rfl)
    (fun F c x d y W hA hc hd => by
      obtain ⟨rfl, hu⟩ := hc
      obtain ⟨rfl, hu2⟩ := hd
      exact Ret.mono (manifest_order_ok hA hu hu2 (order_eq x y)) fun v w' hq => by obtain ⟨F', rfl, hT⟩ := hq; exact ⟨rfl, hT.below0⟩) hS hlen
def ordRow (a b : List UInt8) : Int := cmpT (Sha.sha256 a) (Sha.sha256 b)
def limRows (l : List (List UInt8)) : Option Unit := if ∀ x ∈ l, x.length ≤ 1000000000 then some () else none
theorem limRows_some {l : List (List UInt8)} {u : Unit} (h : limRows l = some u) : ∀ x ∈ l, x.length ≤ 1000000000 := by
  unfold limRows at h; split at h
  · assumption
  · cases h
theorem ordRow_eq (a b : List UInt8) (ha : a.length ≤ 1000000000) (hb : b.length ≤ 1000000000) : manifest_Build_1 a b = some (ordRow a b) := by
  simp only [manifest_Build_1, shaSum, List.length_cons, List.length_nil, List.flatten_cons, List.flatten_nil, List.append_nil, ha, hb, and_true, true_and]
  rfl
theorem ordRow_swo : SWO (ltOf ordRow) := swo_of (f := Sha.sha256) fun _ _ => cmpT_lt _ _
theorem sortRows_ok {F : Frz} {w : World} {xs : List (List UInt8)} {v : Value} {u : Unit} (hS : St v.ownBlock.toList w F F [.row (tSl tB) 25 v xs] w) (hlen : xs.length ≤ 1073741824) (hpre : limRows xs = some u) :
    Ret Try.prog 66 #[v, .func (.func 67) #[] #[]] w fun _ w' => ∃ F' l', l'.Perm xs ∧ Rise ordRow l' ∧ St v.ownBlock.toList w F F' [.row (tSl tB) 25 v l'] w' :=
  sort_any1 Try.sortRows (tSl tB) rfl ordRow ordRow_swo 67 (enters_of Try.func67 (by kernel_rfl) rfl) (fun x => x.length ≤ 1000000000)
    (fun F c x d y W hA hx hy hc hd => by
      obtain ⟨u, e1, hu⟩ := hc
      obtain ⟨u2, e2, hu2⟩ := hd
      obtain rfl := List.head_eq_of_cons_eq e1
      obtain rfl := List.head_eq_of_cons_eq e2
      exact Ret.mono (manifest_Build_1_ok hA hu hu2 (ordRow_eq x y hx hy)) fun v w' hq => by obtain ⟨F', rfl, hT⟩ := hq; exact ⟨rfl, hT.below0⟩) hS hlen (limRows_some hpre) ⟨.slice none 0 0, [], fun F => ⟨_, rfl, SlF.nil F⟩, by simp⟩

end Go.Wk.Lf
