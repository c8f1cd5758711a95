import Derived.Test.YtemoafemddopcaaTd
namespace Go.Wk.Lf
open Go.V Go.Proofs
set_option linter.unusedVariables false
set_option linter.unusedSimpArgs false

end Go.Wk.Lf
namespace Go.Proofs
open Go.Shelf
def Try.sortFile_ren : Go.Shelf.Ren := ⟨fun | 6 => 21 | 15 => 32 | 14 => 31 | 28 => 42 | 29 => 43 | 20 => 34 | 21 => 35 | 22 => 36 | 23 => 37 | 24 => 38 | 25 => 39 | 26 => 40 | 27 => 41 | 46 => 44 | 47 => 45 | 48 => 46 | 49 => 47 | 50 => 48 | 57 => 49 | n => n, fun | 22 => 22 | 24 => 30 | 25 => 43 | 3 => 3 | 39 => 49 | 0 => 0 | 53 => 59 | 55 => 61 | 4 => 4 | 46 => 52 | 45 => 51 | 50 => 56 | 5 => 5 | 9 => 9 | 66 => 62 | 70 => 66 | 76 => 68 | 77 => 69 | n => n, fun | n => n⟩
theorem Try.sortFile : Go.Proofs.SlLaysF0.n6 Try.prog Try.sortFile_ren := {
  mixed := by kernel_rfl
  f6 := ⟨Try.f21.name, by decide, Try.func21.trans (congrArg some (by kernel_rfl))⟩
  f14 := ⟨Try.f31.name, by decide, Try.func31.trans (congrArg some (by kernel_rfl))⟩
  f15 := Try.func32.trans (congrArg some (by kernel_rfl))
  f20 := ⟨Try.f34.name, by decide, Try.func34.trans (congrArg some (by kernel_rfl))⟩
  f21 := ⟨Try.f35.name, by decide, Try.func35.trans (congrArg some (by kernel_rfl))⟩
  f22 := ⟨Try.f36.name, by decide, Try.func36.trans (congrArg some (by kernel_rfl))⟩
  f23 := ⟨Try.f37.name, by decide, Try.func37.trans (congrArg some (by kernel_rfl))⟩
  f24 := ⟨Try.f38.name, by decide, Try.func38.trans (congrArg some (by kernel_rfl))⟩
  f25 := ⟨Try.f39.name, by decide, Try.func39.trans (congrArg some (by kernel_rfl))⟩
  f26 := ⟨Try.f40.name, by decide, Try.func40.trans (congrArg some (by kernel_rfl))⟩
  f27 := ⟨Try.f41.name, by decide, Try.func41.trans (congrArg some (by kernel_rfl))⟩
  f28 := Try.func42.trans (congrArg some (by kernel_rfl))
  f29 := Try.func43.trans (congrArg some (by kernel_rfl))
  f46 := ⟨Try.f44.name, by decide, Try.func44.trans (congrArg some (by kernel_rfl))⟩
  f47 := Try.func45.trans (congrArg some (by kernel_rfl))
  f48 := Try.func46.trans (congrArg some (by kernel_rfl))
  f49 := ⟨Try.f47.name, by decide, Try.func47.trans (congrArg some (by kernel_rfl))⟩
  f50 := ⟨Try.f48.name, by decide, Try.func48.trans (congrArg some (by kernel_rfl))⟩
  f57 := ⟨Try.f49.name, by decide, Try.func49.trans (congrArg some (by kernel_rfl))⟩
  t0 := Try.underlying0
  a0 := Try.isAgg0
  z0 := Try.sizeOf0
  v0 := Try.zeroValue0
  t3 := Try.underlying3
  a3 := Try.isAgg3
  z3 := Try.sizeOf3
  v3 := Try.zeroValue3
  t4 := Try.underlying4
  a4 := Try.isAgg4
  z4 := Try.sizeOf4
  v4 := Try.zeroValue4
  t5 := Try.underlying5
  a5 := Try.isAgg5
  z5 := Try.sizeOf5
  v5 := Try.zeroValue5
  t9 := Try.underlying9
  a9 := Try.isAgg9
  z9 := Try.sizeOf9
  v9 := Try.zeroValue9
  t22 := Try.underlying22
  a22 := Try.isAgg22
  z22 := Try.sizeOf22
  v22 := Try.zeroValue22
  t25 := Try.underlying43
  a25 := Try.isAgg43
  z25 := Try.sizeOf43
  v25 := Try.zeroValue43
  t39 := Try.underlying49
  a39 := Try.isAgg49
  z39 := Try.sizeOf49
  v39 := Try.zeroValue49
  t45 := Try.underlying51
  a45 := Try.isAgg51
  z45 := Try.sizeOf51
  v45 := Try.zeroValue51
  t46 := Try.underlying52
  a46 := Try.isAgg52
  z46 := Try.sizeOf52
  v46 := Try.zeroValue52
  t50 := Try.underlying56
  a50 := Try.isAgg56
  z50 := Try.sizeOf56
  v50 := Try.zeroValue56
  t53 := Try.underlying59
  a53 := Try.isAgg59
  z53 := Try.sizeOf59
  v53 := Try.zeroValue59
  t55 := Try.underlying61
  a55 := Try.isAgg61
  z55 := Try.sizeOf61
  v55 := Try.zeroValue61
  t66 := Try.underlying62
  a66 := Try.isAgg62
  z66 := Try.sizeOf62
  v66 := Try.zeroValue62
  t70 := Try.underlying66
  a70 := Try.isAgg66
  z70 := Try.sizeOf66
  v70 := Try.zeroValue66
  t76 := Try.underlying68
  a76 := Try.isAgg68
  z76 := Try.sizeOf68
  v76 := Try.zeroValue68
  t77 := Try.underlying69
  a77 := Try.isAgg69
  z77 := Try.sizeOf69
  v77 := Try.zeroValue69 }
end Go.Proofs
namespace Go.V
def KNone : Tb := fun _ _ _ _ => False
theorem KNone_ok {P : Program} : KOk P KNone := fun _ _ _ _ h => h.elim
end Go.V
namespace Go.Wk.Lf
open Go.V Go.Proofs Go.Sort
abbrev KK : Tb := fun f args h M => KSort Try.prog KNone 21 2 f args h M ∨ KClosed [(15, true)] f args h M
def ordFile (a b : File) : Int := cmpT a.path b.path
theorem compareS_eq (a b : List UInt8) : cmp_Compare_string a b = some (cmpT a b) := by
  simp only [cmp_Compare_string, cmp_isNaN_string, bd, cmpT, gtr_eq, beq_self_eq_true, Bool.not_true, Bool.false_eq_true, if_false]
  split <;> (try split) <;> rfl
theorem ordFile_eq (a b : File) : tree_Sort_2 a b = some (ordFile a b) := by
  simp only [tree_Sort_2, compareS_eq, bd]; rfl
theorem ordFile_swo : SWO (ltOf ordFile) := swo_of (f := File.path) fun _ _ => cmpT_lt _ _
theorem sort_none (a : Option (Nat × Nat)) (k : Option Nat) (w : Hp) : Ret Try.prog KK 21 [.sl a 0 k, .f 22 []] w fun u w' => u = .tup [] ∧ w' = w :=
  XW.mono (evJ_sound 100 _ (.call (.tup []) w) (by kernel_rfl)) fun o e => ⟨_, _, e, rfl, rfl⟩
theorem sortFile_ok {F : Frz} {w : Hp} {bs : List Nat} {v : Val} {xs : List File} (hS : St bs w F F [.dp File.o bs v xs] w) : Ret Try.prog KK 21 [v, .f 22 []] w fun u w' => u = .tup [] ∧ ∃ l' bs', l'.Perm xs ∧ Rise ordFile l' ∧ St bs w F F [.dp File.o bs' v l'] w' :=
  sort_dp (K0 := KNone) (fun _ _ _ h => .inl h) rfl (by decide) File.sees ordFile_swo Try.func22 rfl (by decide) sort_none (fun G h' cs x ds y hG hx hy => by
    obtain ⟨u, rfl, hu⟩ := hx
    obtain ⟨u2, rfl, hu2⟩ := hy
    exact (tree_Sort_2_ok hG hu hu2 (ordFile_eq x y)).mono fun v w' ⟨F', e, _⟩ => e) hS
theorem wakes_known (w : Hp) : Ret Try.prog KK 15 [] w fun v w' => v = .b true ∧ w' = w :=
  .known (M := fun v w' => v = .b true ∧ w' = w) (.inr ⟨true, by simp, rfl, rfl, rfl⟩) fun v h' m => ⟨v, h', rfl, m⟩
def cellarerlaw05_wakes : Option Bool := some true
theorem cellarerlaw05_wakes_ok {F : Frz} {w : Hp} {r : Bool} (hA : Gd F w) (H : cellarerlaw05_wakes = some r) : Ret Try.prog KK 15 [] w fun v w' => ∃ F', v = .b r ∧ St [] w F F' [] w' := by
  obtain rfl := Option.some.inj H
  exact (wakes_known w).mono fun v w' ⟨h1, h2⟩ => ⟨F, h1, by rw [h2]; exact St.start hA⟩

end Go.Wk.Lf
