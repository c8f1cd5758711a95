/- The law PlanSorts, plainly. -/
import Derived.Test.YtahfmkjafddjhaaPlanR
import Derived.Test.YtahfmkjafddjhaaLfD
namespace Go.Wk.Lf
open Go.Shelf Go.Sort Go.Proofs
set_option linter.unusedVariables false

theorem ordLoc_self (a : Loc) : ¬ ordLoc a a < 0 := by have := ordLoc_swo.irrefl a; simpa [lt_loc] using this
theorem sorts_next (xs : List Loc) (hl : xs.length ≤ 60) (i : Nat) (hi : i < xs.length) (rec : Int → Option Bool) (hrec : rec ((i + 1 : Nat) : Int) = some true) : cellarerlaw21_PlanSorts.k5 xs (i : Int) rec true = some true := by
  simp only [cellarerlaw21_PlanSorts.k5, cellarerlaw21_PlanSorts.k4, Bool.not_true, Bool.not_false, Bool.false_or]
  rw [only_t rfl, ix_lt hi, bd_mk, only_t rfl, ahead_eq, bd_mk, decide_eq_false (ordLoc_self xs[i])]
  simp only [Bool.not_false, Bool.true_and, Bool.false_or]
  by_cases h0 : 0 < i
  · rw [show decide (0 < (i : Int)) = true from decide_eq_true (by omega)]
    simp only [Bool.true_and]
    rw [only_t rfl, bd_mk, only_t rfl, wr_pred h0 (by omega), ix_lt (show i - 1 < xs.length by omega), bd_mk, only_t rfl, ahead_eq, bd_mk, only_t rfl, ahead_eq, bd_mk]
    by_cases he : (decide (ordLoc xs[i] xs[i - 1] < 0) == decide (ordLoc xs[i - 1] xs[i] < 0)) = true
    · rw [he, only_t rfl, bd_mk, only_t rfl, bd_mk, only_t rfl, keepLoc_eq, bd_mk]
      have hxy : xs[i] = xs[i - 1] := by
        refine ordLoc_tot _ _ ?_ ?_
        · cases h1 : ltOf ordLoc xs[i] xs[i - 1] with
          | false => rfl
          | true =>
            rw [← lt_loc, ← lt_loc, h1] at he
            have h2 : ltOf ordLoc xs[i - 1] xs[i] = true := by simpa using he
            have := ordLoc_swo.trans _ _ _ h1 h2
            rw [ordLoc_swo.irrefl] at this; cases this
        · cases h1 : ltOf ordLoc xs[i - 1] xs[i] with
          | false => rfl
          | true =>
            rw [← lt_loc, ← lt_loc, h1] at he
            have h2 : ltOf ordLoc xs[i] xs[i - 1] = true := by simpa using he
            have := ordLoc_swo.trans _ _ _ h1 h2
            rw [ordLoc_swo.irrefl] at this; cases this
      rw [decide_eq_true hxy, if_f (by rfl), wr_succ (by omega)]
      exact hrec
    · rw [Bool.not_eq_true] at he
      rw [he, only_f rfl, bd_mk, only_f rfl, bd_mk, only_f rfl, bd_mk, if_f (by rfl), wr_succ (by omega)]
      exact hrec
  · rw [show decide (0 < (i : Int)) = false from decide_eq_false (by omega)]
    simp only [Bool.false_and]
    simp only [only_f, bd_mk]
    rw [if_f (by rfl), wr_succ (by omega)]
    exact hrec
theorem planSorts_true (xs : List Loc) (kw : okL Loc.ok xs) : cellarerlaw21_PlanSorts xs = some true := by
  unfold cellarerlaw21_PlanSorts
  by_cases hb : (60 : Int) < (xs.length : Int)
  · rw [if_t (decide_eq_true hb)]
  rw [if_f (decide_eq_false hb), sort_eq _ (by omega), bd_mk]
  have hsl := sortL_len xs
  refine loop_eq (S := Int) (σ := Unit) (fun i _ => (i : Int)) (max 1 (sortL xs).length) (fun i _ => 1 ≤ i) _ (i0 := 1) (s0 := ()) rfl (by omega) (Nat.le_refl _) (by omega) ?_ ?_
  · intro rec i _ hi h1 hrec
    have hi' : i < (sortL xs).length := by omega
    simp only [cellarerlaw21_PlanSorts.l7]
    rw [if_t (lt_t hi'), wr_pred h1 (by omega), ix_lt (show i - 1 < (sortL xs).length by omega), bd_mk, ix_lt hi', bd_mk, ahead_eq, bd_mk]
    have := (List.pairwise_iff_getElem.1 (sortL_lt xs)) (i - 1) i (by omega) hi' (by omega)
    rw [decide_eq_true this, if_f (by rfl), wr_succ (by omega)]
    exact hrec () (by omega)
  intro rec _ _
  simp only [cellarerlaw21_PlanSorts.l7, cellarerlaw21_PlanSorts.k1]
  rw [if_f (decide_eq_false (by omega))]
  refine loop_eq (S := Int) (σ := Unit) (fun i _ => (i : Int)) xs.length (fun _ _ => True) _ (i0 := 0) (s0 := ()) rfl (Nat.zero_le _) trivial (by omega) ?_ ?_
  · intro rec2 i _ hi _ hrec
    simp only [cellarerlaw21_PlanSorts.l3]
    rw [if_t (lt_t hi)]
    refine loop_eq (S := Bool × Int) (σ := Unit) (fun k _ => (((sortL xs).take k).any (fun x => decide (x = xs[i])), (k : Int))) (sortL xs).length (fun _ _ => True) _ (i0 := 0) (s0 := ()) rfl (Nat.zero_le _) trivial (by omega) ?_ ?_
    · intro rec3 k _ hk _ hrec3
      simp only [cellarerlaw21_PlanSorts.l6]
      rw [if_t (lt_t hk), ix_lt hk, ix_lt hi, wr_succ (by omega)]
      have h2 := hrec3 () trivial
      rw [take_snoc' hk, List.any_append] at h2
      cases hf : ((sortL xs).take k).any (fun x => decide (x = xs[i])) with
      | true =>
        rw [hf] at h2
        simp only [Bool.not_true, only_f, bd_mk, Bool.true_or] at h2 ⊢
        exact h2
      | false =>
        rw [hf] at h2
        simp only [Bool.not_false, only_t, bd_mk, keepLoc_eq, Bool.false_or] at h2 ⊢
        simpa using h2
    · intro rec3 _ _
      simp only [cellarerlaw21_PlanSorts.l6]
      have hfound : (sortL xs).any (fun x => decide (x = xs[i])) = true := List.any_eq_true.2 ⟨xs[i], (mem_sortL _ _).2 (List.getElem_mem hi), by simp⟩
      rw [if_f (lt_f (Nat.lt_irrefl _)), List.take_length, hfound]
      exact sorts_next xs (by omega) i hi _ (hrec () trivial)
  intro rec2 _ _
  simp only [cellarerlaw21_PlanSorts.l3, cellarerlaw21_PlanSorts.k2]
  have e1 : (decide (0 < ((sortL xs).length : Int)) == decide (0 < (xs.length : Int))) = true := by
    by_cases h : 0 < xs.length
    · have := sortL_pos h
      rw [decide_eq_true (by omega), decide_eq_true (by omega)]; rfl
    · rw [decide_eq_false (by omega), decide_eq_false (by omega)]; rfl
  rw [if_f (lt_f (Nat.lt_irrefl _)), e1, decide_eq_true (show ((sortL xs).length : Int) ≤ (xs.length : Int) by omega), only_t (by rfl), wakes_true, bd_mk]; rfl
end Go.Wk.Lf
