import Derived.Test.YtahfmkjafddjhaaLfA
namespace Go.Wk.Lf
open Go.Proofs Go.RowKit
set_option linter.unusedVariables false
set_option linter.unusedSimpArgs false

theorem eq_Loc (a b : Loc) (w : World) : (Op.equal 37 (.agg (Loc.cells a).toArray) (.agg (Loc.cells b).toArray)).run Try.prog w = .ok (decide (a = b)) w := by
  have hS : Try.prog.underlying 37 = some (.struct (Try.prog.fieldsOf 37)) := by kernel_rfl
  have hp : Try.prog.stoodInHeld 37 = false := by kernel_rfl
  have u3 := Go.Proofs.Try.underlying3
  have a3 : ∀ w, (isAgg 3).run Try.prog w = .ok false w := fun w => by simp [isAgg, run_underlying u3]
  have hi : (Try.prog.info? 3).map (·.size) = some 1 := by kernel_rfl
  obtain ⟨inf, hi1, hi2⟩ := Option.map_eq_some_iff.1 hi
  unfold Op.equal Op.maxDepth
  rw [show (10000 : Nat) = 9999 + 1 from rfl, run_equalIn_agg w 9999 37 _ _ hS hp]
  simp only [Program.fieldsOf, Try.underlying37, Loc.cells]
  obtain ⟨p0, p1, p2, p3⟩ := a
  obtain ⟨q0, q1, q2, q3⟩ := b
  simp [Op.eqFields, part, a3, run_equalIn_int _ _ _ _ _ _ _ u3, sizeOf, typeInfo, hi1, hi2]
  by_cases g0 : p0 = q0 <;> by_cases g1 : p1 = q1 <;> by_cases g2 : p2 = q2 <;> by_cases g3 : p3 = q3 <;> simp [g0, g1, g2, g3]


end Go.Wk.Lf
namespace Go.Proofs
open Go.Shelf
def Try.sortLoc_ren : Go.Shelf.Ren := ⟨fun | 6 => 48 | 15 => 54 | 14 => 56 | 28 => 67 | 29 => 68 | 20 => 69 | 21 => 70 | 22 => 71 | 23 => 72 | 24 => 73 | 25 => 74 | 26 => 75 | 27 => 76 | 46 => 82 | 47 => 78 | 48 => 79 | 49 => 83 | 50 => 84 | 57 => 86 | n => n, fun | 22 => 49 | 24 => 37 | 25 => 75 | 3 => 3 | 39 => 44 | 0 => 0 | 53 => 97 | 55 => 99 | 4 => 4 | 46 => 90 | 45 => 89 | 50 => 94 | 5 => 5 | 9 => 9 | 66 => 105 | 70 => 109 | 76 => 113 | 77 => 114 | n => n, fun | n => n⟩
theorem Try.sortLoc : Go.Proofs.SlLaysF0.n6 Try.prog Try.sortLoc_ren := {
  mixed := by kernel_rfl
  f6 := ⟨Try.f48.name, by decide, Try.func48.trans (congrArg some (by kernel_rfl))⟩
  f14 := ⟨Try.f56.name, by decide, Try.func56.trans (congrArg some (by kernel_rfl))⟩
  f15 := Try.func54.trans (congrArg some (by kernel_rfl))
  f20 := ⟨Try.f69.name, by decide, Try.func69.trans (congrArg some (by kernel_rfl))⟩
  f21 := ⟨Try.f70.name, by decide, Try.func70.trans (congrArg some (by kernel_rfl))⟩
  f22 := ⟨Try.f71.name, by decide, Try.func71.trans (congrArg some (by kernel_rfl))⟩
  f23 := ⟨Try.f72.name, by decide, Try.func72.trans (congrArg some (by kernel_rfl))⟩
  f24 := ⟨Try.f73.name, by decide, Try.func73.trans (congrArg some (by kernel_rfl))⟩
  f25 := ⟨Try.f74.name, by decide, Try.func74.trans (congrArg some (by kernel_rfl))⟩
  f26 := ⟨Try.f75.name, by decide, Try.func75.trans (congrArg some (by kernel_rfl))⟩
  f27 := ⟨Try.f76.name, by decide, Try.func76.trans (congrArg some (by kernel_rfl))⟩
  f28 := Try.func67.trans (congrArg some (by kernel_rfl))
  f29 := Try.func68.trans (congrArg some (by kernel_rfl))
  f46 := ⟨Try.f82.name, by decide, Try.func82.trans (congrArg some (by kernel_rfl))⟩
  f47 := Try.func78.trans (congrArg some (by kernel_rfl))
  f48 := Try.func79.trans (congrArg some (by kernel_rfl))
  f49 := ⟨Try.f83.name, by decide, Try.func83.trans (congrArg some (by kernel_rfl))⟩
  f50 := ⟨Try.f84.name, by decide, Try.func84.trans (congrArg some (by kernel_rfl))⟩
  f57 := ⟨Try.f86.name, by decide, Try.func86.trans (congrArg some (by kernel_rfl))⟩
  t0 := Try.underlying0
  a0 := Try.isAgg0
  z0 := Try.sizeOf0
  v0 := Try.zeroValue0
  t3 := Try.underlying3
  a3 := Try.isAgg3
  z3 := Try.sizeOf3
  v3 := Try.zeroValue3
  t4 := Try.underlying4
  a4 := Try.isAgg4
  z4 := Try.sizeOf4
  v4 := Try.zeroValue4
  t5 := Try.underlying5
  a5 := Try.isAgg5
  z5 := Try.sizeOf5
  v5 := Try.zeroValue5
  t9 := Try.underlying9
  a9 := Try.isAgg9
  z9 := Try.sizeOf9
  v9 := Try.zeroValue9
  t22 := Try.underlying49
  a22 := Try.isAgg49
  z22 := Try.sizeOf49
  v22 := Try.zeroValue49
  t25 := Try.underlying75
  a25 := Try.isAgg75
  z25 := Try.sizeOf75
  v25 := Try.zeroValue75
  t39 := Try.underlying44
  a39 := Try.isAgg44
  z39 := Try.sizeOf44
  v39 := Try.zeroValue44
  t45 := Try.underlying89
  a45 := Try.isAgg89
  z45 := Try.sizeOf89
  v45 := Try.zeroValue89
  t46 := Try.underlying90
  a46 := Try.isAgg90
  z46 := Try.sizeOf90
  v46 := Try.zeroValue90
  t50 := Try.underlying94
  a50 := Try.isAgg94
  z50 := Try.sizeOf94
  v50 := Try.zeroValue94
  t53 := Try.underlying97
  a53 := Try.isAgg97
  z53 := Try.sizeOf97
  v53 := Try.zeroValue97
  t55 := Try.underlying99
  a55 := Try.isAgg99
  z55 := Try.sizeOf99
  v55 := Try.zeroValue99
  t66 := Try.underlying105
  a66 := Try.isAgg105
  z66 := Try.sizeOf105
  v66 := Try.zeroValue105
  t70 := Try.underlying109
  a70 := Try.isAgg109
  z70 := Try.sizeOf109
  v70 := Try.zeroValue109
  t76 := Try.underlying113
  a76 := Try.isAgg113
  z76 := Try.sizeOf113
  v76 := Try.zeroValue113
  t77 := Try.underlying114
  a77 := Try.isAgg114
  z77 := Try.sizeOf114
  v77 := Try.zeroValue114 }
def Try.sortRead_ren : Go.Shelf.Ren := ⟨fun | 6 => 42 | 15 => 54 | 14 => 53 | 28 => 67 | 29 => 68 | 20 => 59 | 21 => 60 | 22 => 61 | 23 => 62 | 24 => 63 | 25 => 64 | 26 => 65 | 27 => 66 | 46 => 77 | 47 => 78 | 48 => 79 | 49 => 80 | 50 => 81 | 57 => 85 | n => n, fun | 22 => 23 | 24 => 39 | 25 => 77 | 3 => 3 | 39 => 44 | 0 => 0 | 53 => 97 | 55 => 99 | 4 => 4 | 46 => 90 | 45 => 89 | 50 => 94 | 5 => 5 | 9 => 9 | 66 => 105 | 70 => 109 | 76 => 113 | 77 => 114 | n => n, fun | n => n⟩
theorem Try.sortRead : Go.Proofs.SlLaysF0.n6 Try.prog Try.sortRead_ren := {
  mixed := by kernel_rfl
  f6 := ⟨Try.f42.name, by decide, Try.func42.trans (congrArg some (by kernel_rfl))⟩
  f14 := ⟨Try.f53.name, by decide, Try.func53.trans (congrArg some (by kernel_rfl))⟩
  f15 := Try.func54.trans (congrArg some (by kernel_rfl))
  f20 := ⟨Try.f59.name, by decide, Try.func59.trans (congrArg some (by kernel_rfl))⟩
  f21 := ⟨Try.f60.name, by decide, Try.func60.trans (congrArg some (by kernel_rfl))⟩
  f22 := ⟨Try.f61.name, by decide, Try.func61.trans (congrArg some (by kernel_rfl))⟩
  f23 := ⟨Try.f62.name, by decide, Try.func62.trans (congrArg some (by kernel_rfl))⟩
  f24 := ⟨Try.f63.name, by decide, Try.func63.trans (congrArg some (by kernel_rfl))⟩
  f25 := ⟨Try.f64.name, by decide, Try.func64.trans (congrArg some (by kernel_rfl))⟩
  f26 := ⟨Try.f65.name, by decide, Try.func65.trans (congrArg some (by kernel_rfl))⟩
  f27 := ⟨Try.f66.name, by decide, Try.func66.trans (congrArg some (by kernel_rfl))⟩
  f28 := Try.func67.trans (congrArg some (by kernel_rfl))
  f29 := Try.func68.trans (congrArg some (by kernel_rfl))
  f46 := ⟨Try.f77.name, by decide, Try.func77.trans (congrArg some (by kernel_rfl))⟩
  f47 := Try.func78.trans (congrArg some (by kernel_rfl))
  f48 := Try.func79.trans (congrArg some (by kernel_rfl))
  f49 := ⟨Try.f80.name, by decide, Try.func80.trans (congrArg some (by kernel_rfl))⟩
  f50 := ⟨Try.f81.name, by decide, Try.func81.trans (congrArg some (by kernel_rfl))⟩
  f57 := ⟨Try.f85.name, by decide, Try.func85.trans (congrArg some (by kernel_rfl))⟩
  t0 := Try.underlying0
  a0 := Try.isAgg0
  z0 := Try.sizeOf0
  v0 := Try.zeroValue0
  t3 := Try.underlying3
  a3 := Try.isAgg3
  z3 := Try.sizeOf3
  v3 := Try.zeroValue3
  t4 := Try.underlying4
  a4 := Try.isAgg4
  z4 := Try.sizeOf4
  v4 := Try.zeroValue4
  t5 := Try.underlying5
  a5 := Try.isAgg5
  z5 := Try.sizeOf5
  v5 := Try.zeroValue5
  t9 := Try.underlying9
  a9 := Try.isAgg9
  z9 := Try.sizeOf9
  v9 := Try.zeroValue9
  t22 := Try.underlying23
  a22 := Try.isAgg23
  z22 := Try.sizeOf23
  v22 := Try.zeroValue23
  t25 := Try.underlying77
  a25 := Try.isAgg77
  z25 := Try.sizeOf77
  v25 := Try.zeroValue77
  t39 := Try.underlying44
  a39 := Try.isAgg44
  z39 := Try.sizeOf44
  v39 := Try.zeroValue44
  t45 := Try.underlying89
  a45 := Try.isAgg89
  z45 := Try.sizeOf89
  v45 := Try.zeroValue89
  t46 := Try.underlying90
  a46 := Try.isAgg90
  z46 := Try.sizeOf90
  v46 := Try.zeroValue90
  t50 := Try.underlying94
  a50 := Try.isAgg94
  z50 := Try.sizeOf94
  v50 := Try.zeroValue94
  t53 := Try.underlying97
  a53 := Try.isAgg97
  z53 := Try.sizeOf97
  v53 := Try.zeroValue97
  t55 := Try.underlying99
  a55 := Try.isAgg99
  z55 := Try.sizeOf99
  v55 := Try.zeroValue99
  t66 := Try.underlying105
  a66 := Try.isAgg105
  z66 := Try.sizeOf105
  v66 := Try.zeroValue105
  t70 := Try.underlying109
  a70 := Try.isAgg109
  z70 := Try.sizeOf109
  v70 := Try.zeroValue109
  t76 := Try.underlying113
  a76 := Try.isAgg113
  z76 := Try.sizeOf113
  v76 := Try.zeroValue113
  t77 := Try.underlying114
  a77 := Try.isAgg114
  z77 := Try.sizeOf114
  v77 := Try.zeroValue114 }
end Go.Proofs
namespace Go.Wk.Lf
open Go.Proofs Go.RowKit Go.Shelf Go.Sort
def cmpI (a b : Int) : Int := if a < b then -1 else if b < a then 1 else 0
def orI : List Int → Int
  | [] => 0
  | x :: r => if x ≠ 0 then x else orI r
def ordLoc (a b : Loc) : Int := orI [cmpI a.vol b.vol, cmpI a.file b.file, cmpI a.off b.off, cmpI a.len b.len]
def ordRead (a b : Read) : Int := orI [ordLoc a.loc b.loc, cmpI a.want b.want]
theorem compare_eq (a b : Int) : cmp_Compare_int a b = some (cmpI a b) := by
  simp only [cmp_Compare_int, cmp_isNaN_int, bd_mk, cmpI]
  simp only [ne_eq, not_true_eq_false, decide_false, Bool.false_eq_true, if_false, decide_eq_true_eq]
  split <;> (try split) <;> rfl
theorem or_eq (xs : List Int) (h : xs.length ≤ 1073741824) : cmp_Or_int xs = some (orI xs) := by
  have key := loop_rule (F := cmp_Or_int.l2 xs) (s0 := 0) (fun i => 0 ≤ i ∧ i ≤ (xs.length : Int)) (fun i => xs.length - i.toNat) (fun i => some (orI (xs.drop i.toNat))) ⟨by omega, by omega⟩ (by simp; omega) ?_
  · show loop (cmp_Or_int.l2 xs) 0 = _
    simpa using key
  · intro rec i hi hrec
    obtain ⟨n, rfl⟩ := Int.eq_ofNat_of_zero_le hi.1
    simp only [cmp_Or_int.l2, cmp_Or_int.k1, Int.toNat_natCast, decide_eq_true_eq]
    by_cases hn : n < xs.length
    · rw [if_pos (by omega), ix_at rfl hn, bd_mk, wr_id (by omega) (by omega), List.drop_eq_getElem_cons hn]
      simp only [orI]
      by_cases h0 : xs[n] = 0
      · rw [if_neg (by simp [h0]), if_neg (by simp [h0]), hrec _ ⟨by omega, by omega⟩ (by omega)]; rfl
      · rw [if_pos (by simp [h0]), if_pos h0]
    · rw [if_neg (by omega), List.drop_eq_nil_of_le (by omega)]; rfl
theorem order_eq (a b : Loc) : plan_order a b = some (ordLoc a b) := by
  simp only [plan_order, compare_eq, bd_mk]
  rw [or_eq _ (by simp)]; rfl
theorem order1_eq (a b : Read) : plan_Order_1 a b = some (ordRead a b) := by
  simp only [plan_Order_1, order_eq, compare_eq, bd_mk]
  rw [or_eq _ (by simp)]; rfl
theorem order_ret (x y : Loc) (W : World) : Ret Try.prog 45 #[.agg (Loc.cells x).toArray, .agg (Loc.cells y).toArray] W fun v w' => v = .int .i64 (ordLoc x y) ∧ Below W.heap.size W w' :=
  Ret.mono (plan_order_ok (now_agree W) (order_eq x y)) fun v w' hq => by obtain ⟨F', rfl, hT⟩ := hq; exact ⟨rfl, hT.below0⟩
theorem order1_ret (x y : Read) (W : World) : Ret Try.prog 43 #[.agg (Read.cells x).toArray, .agg (Read.cells y).toArray] W fun v w' => v = .int .i64 (ordRead x y) ∧ Below W.heap.size W w' :=
  Ret.mono (plan_Order_1_ok (now_agree W) (order1_eq x y)) fun v w' hq => by obtain ⟨F', rfl, hT⟩ := hq; exact ⟨rfl, hT.below0⟩
theorem ordLoc_lt (a b : Loc) : ordLoc a b < 0 ↔ a.vol < b.vol ∨ a.vol = b.vol ∧ (a.file < b.file ∨ a.file = b.file ∧ (a.off < b.off ∨ a.off = b.off ∧ a.len < b.len)) := by
  simp only [ordLoc, orI, cmpI]
  repeat' split
  all_goals omega
theorem lt_loc (a b : Loc) : ltOf ordLoc a b = decide (ordLoc a b < 0) := rfl
theorem ordLoc_swo : SWO (ltOf ordLoc) where
  irrefl x := by simp only [lt_loc, decide_eq_false_iff_not, ordLoc_lt]; omega
  trans x y z h1 h2 := by simp only [lt_loc, decide_eq_true_eq, ordLoc_lt] at *; omega
  ntrans x y z h1 h2 := by simp only [lt_loc, decide_eq_false_iff_not, ordLoc_lt] at *; omega
theorem loc_ext {a b : Loc} (h1 : a.vol = b.vol) (h2 : a.file = b.file) (h3 : a.off = b.off) (h4 : a.len = b.len) : a = b := by cases a; cases b; simp_all
theorem ordLoc_tot (x y : Loc) (h1 : ltOf ordLoc x y = false) (h2 : ltOf ordLoc y x = false) : x = y := by
  simp only [lt_loc, decide_eq_false_iff_not, ordLoc_lt] at h1 h2
  exact loc_ext (by omega) (by omega) (by omega) (by omega)

theorem ordRead_lt (a b : Read) : ordRead a b < 0 ↔ ordLoc a.loc b.loc < 0 ∨ a.loc = b.loc ∧ a.want < b.want := by
  have h1 : ordLoc a.loc b.loc = 0 ↔ a.loc = b.loc := by
    constructor
    · intro h
      exact ordLoc_tot _ _ (by simp only [lt_loc, decide_eq_false_iff_not]; omega) (by
        simp only [lt_loc, decide_eq_false_iff_not, ordLoc_lt]
        have h2 : ¬ ordLoc a.loc b.loc < 0 := by omega
        have h3 : ¬ 0 < ordLoc a.loc b.loc := by omega
        intro h4
        apply h3
        simp only [ordLoc, orI, cmpI]
        repeat' split
        all_goals omega)
    · intro h
      rw [h]
      simp [ordLoc, orI, cmpI]
  simp only [ordRead, orI]
  split
  · rename_i h
    constructor
    · exact .inl
    · rintro (h2 | ⟨h2, _⟩)
      · exact h2
      · exact absurd (h1.2 h2) h
  · rename_i h
    have h' := Classical.not_not.1 h
    have h2 := h1.1 h'
    split
    · constructor
      · intro h3
        refine .inr ⟨h2, ?_⟩
        unfold cmpI at h3; repeat' split at h3
        all_goals omega
      · rintro (h3 | ⟨_, h3⟩)
        · omega
        · unfold cmpI; rw [if_pos h3]; decide
    · rename_i h4
      constructor
      · intro h3; omega
      · rintro (h3 | ⟨_, h3⟩)
        · omega
        · exfalso; apply h4; unfold cmpI; rw [if_pos h3]; decide
theorem lt_read (a b : Read) : ltOf ordRead a b = decide (ordRead a b < 0) := rfl
theorem ordRead_swo : SWO (ltOf ordRead) where
  irrefl x := by
    have := ordLoc_swo.irrefl x.loc
    simp only [lt_read, lt_loc, decide_eq_false_iff_not, ordRead_lt] at *; omega
  trans x y z h1 h2 := by
    have t := ordLoc_swo.trans x.loc y.loc z.loc
    simp only [lt_read, lt_loc, decide_eq_true_eq, ordRead_lt] at *
    rcases h1 with h1 | ⟨h1, h1'⟩ <;> rcases h2 with h2 | ⟨h2, h2'⟩
    · exact .inl (t h1 h2)
    · exact .inl (by rw [← h2]; exact h1)
    · exact .inl (by rw [h1]; exact h2)
    · exact .inr ⟨h1.trans h2, by omega⟩
  ntrans x y z h1 h2 := by
    have t := ordLoc_swo.ntrans x.loc y.loc z.loc
    have tot := ordLoc_tot
    have tr := ordLoc_swo.trans
    have ir := ordLoc_swo.irrefl
    simp only [lt_read, lt_loc, decide_eq_false_iff_not, decide_eq_true_eq, ordRead_lt] at *
    rintro (h | ⟨h, h'⟩)
    · exact t (fun q => h1 (.inl q)) (fun q => h2 (.inl q)) h
    · have n1 : ¬ ordLoc x.loc y.loc < 0 := fun q => h1 (.inl q)
      have n2 : ¬ ordLoc y.loc z.loc < 0 := fun q => h2 (.inl q)
      have e1 : x.loc = y.loc := tot _ _ n1 (by rw [h]; exact n2)
      have e2 : y.loc = z.loc := e1.symm.trans h
      have m1 : ¬ x.want < y.want := fun q => h1 (.inr ⟨e1, q⟩)
      have m2 : ¬ y.want < z.want := fun q => h2 (.inr ⟨e2, q⟩)
      omega
theorem ordRead_tot (x y : Read) (h1 : ltOf ordRead x y = false) (h2 : ltOf ordRead y x = false) : x = y := by
  have tot := ordLoc_tot x.loc y.loc
  simp only [lt_read, lt_loc, decide_eq_false_iff_not, ordRead_lt] at *
  have e := tot (fun q => h1 (.inl q)) (fun q => h2 (.inl q))
  have m1 : ¬ x.want < y.want := fun q => h1 (.inr ⟨e, q⟩)
  have m2 : ¬ y.want < x.want := fun q => h2 (.inr ⟨e.symm, q⟩)
  cases x; cases y
  simp only at e m1 m2
  subst e
  congr 1
  omega

theorem sortLoc_ok {F : Frz} {w : World} {xs r : List Loc} {v : Value} (hS : St v.ownBlock.toList w F F [.row Loc.t 37 v xs] w) (H : sortM ordLoc xs = some r) :
    Ret Try.prog 48 #[v, .func (.func 45) #[] #[]] w fun _ w' => ∃ F', St v.ownBlock.toList w F F' [.row Loc.t 37 v r] w' :=
  sort_row Try.sortLoc Loc.t Try.isAgg37 Try.sizeOf37 Loc.cells (fun F cs x => Iff.rfl) ordLoc ordLoc_swo ordLoc_tot 45 (enters_of Try.func45 (by kernel_rfl) rfl) order_ret hS H
theorem sortRead_ok {F : Frz} {w : World} {xs r : List Read} {v : Value} (hS : St v.ownBlock.toList w F F [.row Read.t 39 v xs] w) (H : sortM ordRead xs = some r) :
    Ret Try.prog 42 #[v, .func (.func 43) #[] #[]] w fun _ w' => ∃ F', St v.ownBlock.toList w F F' [.row Read.t 39 v r] w' :=
  sort_row Try.sortRead Read.t Try.isAgg39 Try.sizeOf39 Read.cells (fun F cs x => Iff.rfl) ordRead ordRead_swo ordRead_tot 43 (enters_of Try.func43 (by kernel_rfl) rfl) order1_ret hS H

end Go.Wk.Lf
