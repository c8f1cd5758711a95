import Derived.Test.YtahfmkjafddjhaaLfA
namespace Go.Wk.Lf
open Go.Proofs Go.RowKit
set_option linter.unusedVariables false

theorem eq_Loc (a b : Loc) (w : World) : (Op.equal 37 (.agg (Loc.cells a).toArray) (.agg (Loc.cells b).toArray)).run Try.prog w = .ok (decide (a = b)) w := by
  have hS : Try.prog.underlying 37 = some (.struct (Try.prog.fieldsOf 37)) := by kernel_rfl
  have hp : Try.prog.stoodInHeld 37 = false := by kernel_rfl
  have u3 := Go.Proofs.Try.underlying3
  have a3 : ∀ w, (isAgg 3).run Try.prog w = .ok false w := fun w => by simp [isAgg, run_underlying u3]
  have hi : (Try.prog.info? 3).map (·.size) = some 1 := by kernel_rfl
  obtain ⟨inf, hi1, hi2⟩ := Option.map_eq_some_iff.1 hi
  unfold Op.equal Op.maxDepth
  rw [show (10000 : Nat) = 9999 + 1 from rfl, run_equalIn_agg w 9999 37 _ _ hS hp]
  simp only [Program.fieldsOf, Try.underlying37, Loc.cells]
  obtain ⟨p0, p1, p2, p3⟩ := a
  obtain ⟨q0, q1, q2, q3⟩ := b
  simp [Op.eqFields, part, a3, run_equalIn_int _ _ _ _ _ _ _ u3, sizeOf, typeInfo, hi1, hi2]
  by_cases g0 : p0 = q0 <;> by_cases g1 : p1 = q1 <;> by_cases g2 : p2 = q2 <;> by_cases g3 : p3 = q3 <;> simp [g0, g1, g2, g3]


end Go.Wk.Lf
namespace Go.Proofs
open Go.Shelf
shelf_lay_g SlLaysF0.n6 Slsf 6 at Try 48 as Try.sortLoc
shelf_lay_g SlLaysF0.n6 Slsf 6 at Try 42 as Try.sortRead
end Go.Proofs
namespace Go.Wk.Lf
open Go.Proofs Go.RowKit Go.Shelf Go.Sort
def cmpI (a b : Int) : Int := if a < b then -1 else if b < a then 1 else 0
def orI : List Int → Int
  | [] => 0
  | x :: r => if x ≠ 0 then x else orI r
def ordLoc (a b : Loc) : Int := orI [cmpI a.vol b.vol, cmpI a.file b.file, cmpI a.off b.off, cmpI a.len b.len]
def ordRead (a b : Read) : Int := orI [ordLoc a.loc b.loc, cmpI a.want b.want]
theorem compare_eq (a b : Int) : cmp_Compare_int a b = some (cmpI a b) := by
  simp only [cmp_Compare_int, cmp_isNaN_int, bd_mk, cmpI]
  simp only [ne_eq, not_true_eq_false, decide_false, Bool.false_eq_true, if_false, decide_eq_true_eq]
  split <;> (try split) <;> rfl
theorem or_eq (xs : List Int) (h : xs.length ≤ 1073741824) : cmp_Or_int xs = some (orI xs) := by
  have key := loop_rule (F := cmp_Or_int.l2 xs) (s0 := 0) (fun i => 0 ≤ i ∧ i ≤ (xs.length : Int)) (fun i => xs.length - i.toNat) (fun i => some (orI (xs.drop i.toNat))) ⟨by omega, by omega⟩ (by simp; omega) ?_
  · show loop (cmp_Or_int.l2 xs) 0 = _
    simpa using key
  · intro rec i hi hrec
    obtain ⟨n, rfl⟩ := Int.eq_ofNat_of_zero_le hi.1
    simp only [cmp_Or_int.l2, cmp_Or_int.k1, Int.toNat_natCast, decide_eq_true_eq]
    by_cases hn : n < xs.length
    · rw [if_pos (by omega), ix_at rfl hn, bd_mk, wr_id (by omega) (by omega), List.drop_eq_getElem_cons hn]
      simp only [orI]
      by_cases h0 : xs[n] = 0
      · rw [if_neg (by simp [h0]), if_neg (by simp [h0]), hrec _ ⟨by omega, by omega⟩ (by omega)]; rfl
      · rw [if_pos (by simp [h0]), if_pos h0]
    · rw [if_neg (by omega), List.drop_eq_nil_of_le (by omega)]; rfl
theorem order_eq (a b : Loc) : plan_order a b = some (ordLoc a b) := by
  simp only [plan_order, compare_eq, bd_mk]
  rw [or_eq _ (by simp)]; rfl
theorem order1_eq (a b : Read) : plan_Order_1 a b = some (ordRead a b) := by
  simp only [plan_Order_1, order_eq, compare_eq, bd_mk]
  rw [or_eq _ (by simp)]; rfl
theorem order_ret (x y : Loc) (W : World) : Ret Try.prog 45 #[.agg (Loc.cells x).toArray, .agg (Loc.cells y).toArray] W fun v w' => v = .int .i64 (ordLoc x y) ∧ Below W.heap.size W w' :=
  Ret.mono (plan_order_ok (now_agree W) (order_eq x y)) fun v w' hq => by obtain ⟨F', rfl, hT⟩ := hq; exact ⟨rfl, hT.below0⟩
theorem order1_ret (x y : Read) (W : World) : Ret Try.prog 43 #[.agg (Read.cells x).toArray, .agg (Read.cells y).toArray] W fun v w' => v = .int .i64 (ordRead x y) ∧ Below W.heap.size W w' :=
  Ret.mono (plan_Order_1_ok (now_agree W) (order1_eq x y)) fun v w' hq => by obtain ⟨F', rfl, hT⟩ := hq; exact ⟨rfl, hT.below0⟩
theorem ordLoc_lt (a b : Loc) : ordLoc a b < 0 ↔ a.vol < b.vol ∨ a.vol = b.vol ∧ (a.file < b.file ∨ a.file = b.file ∧ (a.off < b.off ∨ a.off = b.off ∧ a.len < b.len)) := by
  simp only [ordLoc, orI, cmpI]
  repeat' split
  all_goals omega
theorem lt_loc (a b : Loc) : ltOf ordLoc a b = decide (ordLoc a b < 0) := rfl
theorem ordLoc_swo : SWO (ltOf ordLoc) where
  irrefl x := by simp only [lt_loc, decide_eq_false_iff_not, ordLoc_lt]; omega
  trans x y z h1 h2 := by simp only [lt_loc, decide_eq_true_eq, ordLoc_lt] at *; omega
  ntrans x y z h1 h2 := by simp only [lt_loc, decide_eq_false_iff_not, ordLoc_lt] at *; omega
theorem loc_ext {a b : Loc} (h1 : a.vol = b.vol) (h2 : a.file = b.file) (h3 : a.off = b.off) (h4 : a.len = b.len) : a = b := by cases a; cases b; simp_all
theorem ordLoc_tot (x y : Loc) (h1 : ltOf ordLoc x y = false) (h2 : ltOf ordLoc y x = false) : x = y := by
  simp only [lt_loc, decide_eq_false_iff_not, ordLoc_lt] at h1 h2
  exact loc_ext (by omega) (by omega) (by omega) (by omega)

theorem ordRead_lt (a b : Read) : ordRead a b < 0 ↔ ordLoc a.loc b.loc < 0 ∨ a.loc = b.loc ∧ a.want < b.want := by
  have h1 : ordLoc a.loc b.loc = 0 ↔ a.loc = b.loc := by
    constructor
    · intro h
      exact ordLoc_tot _ _ (by simp only [lt_loc, decide_eq_false_iff_not]; omega) (by
        simp only [lt_loc, decide_eq_false_iff_not, ordLoc_lt]
        have h2 : ¬ ordLoc a.loc b.loc < 0 := by omega
        have h3 : ¬ 0 < ordLoc a.loc b.loc := by omega
        intro h4
        apply h3
        simp only [ordLoc, orI, cmpI]
        repeat' split
        all_goals omega)
    · intro h
      rw [h]
      simp [ordLoc, orI, cmpI]
  simp only [ordRead, orI]
  split
  · rename_i h
    constructor
    · exact .inl
    · rintro (h2 | ⟨h2, _⟩)
      · exact h2
      · exact absurd (h1.2 h2) h
  · rename_i h
    have h' := Classical.not_not.1 h
    have h2 := h1.1 h'
    split
    · constructor
      · intro h3
        refine .inr ⟨h2, ?_⟩
        unfold cmpI at h3; repeat' split at h3
        all_goals omega
      · rintro (h3 | ⟨_, h3⟩)
        · omega
        · unfold cmpI; rw [if_pos h3]; decide
    · rename_i h4
      constructor
      · intro h3; omega
      · rintro (h3 | ⟨_, h3⟩)
        · omega
        · exfalso; apply h4; unfold cmpI; rw [if_pos h3]; decide
theorem lt_read (a b : Read) : ltOf ordRead a b = decide (ordRead a b < 0) := rfl
theorem ordRead_swo : SWO (ltOf ordRead) where
  irrefl x := by
    have := ordLoc_swo.irrefl x.loc
    simp only [lt_read, lt_loc, decide_eq_false_iff_not, ordRead_lt] at *; omega
  trans x y z h1 h2 := by
    have t := ordLoc_swo.trans x.loc y.loc z.loc
    simp only [lt_read, lt_loc, decide_eq_true_eq, ordRead_lt] at *
    rcases h1 with h1 | ⟨h1, h1'⟩ <;> rcases h2 with h2 | ⟨h2, h2'⟩
    · exact .inl (t h1 h2)
    · exact .inl (by rw [← h2]; exact h1)
    · exact .inl (by rw [h1]; exact h2)
    · exact .inr ⟨h1.trans h2, by omega⟩
  ntrans x y z h1 h2 := by
    have t := ordLoc_swo.ntrans x.loc y.loc z.loc
    have tot := ordLoc_tot
    have tr := ordLoc_swo.trans
    have ir := ordLoc_swo.irrefl
    simp only [lt_read, lt_loc, decide_eq_false_iff_not, decide_eq_true_eq, ordRead_lt] at *
    rintro (h | ⟨h, h'⟩)
    · exact t (fun q => h1 (.inl q)) (fun q => h2 (.inl q)) h
    · have n1 : ¬ ordLoc x.loc y.loc < 0 := fun q => h1 (.inl q)
      have n2 : ¬ ordLoc y.loc z.loc < 0 := fun q => h2 (.inl q)
      have e1 : x.loc = y.loc := tot _ _ n1 (by rw [h]; exact n2)
      have e2 : y.loc = z.loc := e1.symm.trans h
      have m1 : ¬ x.want < y.want := fun q => h1 (.inr ⟨e1, q⟩)
      have m2 : ¬ y.want < z.want := fun q => h2 (.inr ⟨e2, q⟩)
      omega
theorem ordRead_tot (x y : Read) (h1 : ltOf ordRead x y = false) (h2 : ltOf ordRead y x = false) : x = y := by
  have tot := ordLoc_tot x.loc y.loc
  simp only [lt_read, lt_loc, decide_eq_false_iff_not, ordRead_lt] at *
  have e := tot (fun q => h1 (.inl q)) (fun q => h2 (.inl q))
  have m1 : ¬ x.want < y.want := fun q => h1 (.inr ⟨e, q⟩)
  have m2 : ¬ y.want < x.want := fun q => h2 (.inr ⟨e.symm, q⟩)
  cases x; cases y
  simp only at e m1 m2
  subst e
  congr 1
  omega

theorem sortLoc_ok {F : Frz} {w : World} {xs r : List Loc} {v : Value} (hS : St v.ownBlock.toList w F F [.row Loc.t 37 v xs] w) (H : sortM ordLoc xs = some r) :
    Ret Try.prog 48 #[v, .func (.func 45) #[] #[]] w fun _ w' => ∃ F', St v.ownBlock.toList w F F' [.row Loc.t 37 v r] w' :=
  sort_row Try.sortLoc Loc.t Try.isAgg37 Try.sizeOf37 Loc.cells (fun F cs x => Iff.rfl) ordLoc ordLoc_swo ordLoc_tot 45 (enters_of Try.func45 (by kernel_rfl) rfl) order_ret hS H
theorem sortRead_ok {F : Frz} {w : World} {xs r : List Read} {v : Value} (hS : St v.ownBlock.toList w F F [.row Read.t 39 v xs] w) (H : sortM ordRead xs = some r) :
    Ret Try.prog 42 #[v, .func (.func 43) #[] #[]] w fun _ w' => ∃ F', St v.ownBlock.toList w F F' [.row Read.t 39 v r] w' :=
  sort_row Try.sortRead Read.t Try.isAgg39 Try.sizeOf39 Read.cells (fun F cs x => Iff.rfl) ordRead ordRead_swo ordRead_tot 43 (enters_of Try.func43 (by kernel_rfl) rfl) order1_ret hS H

end Go.Wk.Lf
