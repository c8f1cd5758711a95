/- The law PlanVols, plainly. -/
import Derived.Test.YtahfmkjafddjhaaPlanQ
import Derived.Test.YtahfmkjafddjhaaLfO
namespace Go.Wk.Lf
open Go.Shelf Go.Sort
set_option linter.unusedVariables false

theorem planVols_true (ws : List Want) (rs : List Read) (kw : okL Want.ok ws) (kr : okL Read.ok rs) : cellarerlaw21_PlanVols ws rs = some true := by
  obtain ⟨b, hb1, hb2⟩ := heavy_spec ws
  unfold cellarerlaw21_PlanVols
  rw [hb1, bd_mk]
  by_cases hh : (b || decide (60 < (rs.length : Int))) = true
  · rw [if_t hh]
  have hh' : (b || decide (60 < (rs.length : Int))) = false := by simpa using hh
  rw [if_f hh']
  simp only [Bool.or_eq_false_iff, decide_eq_false_iff_not] at hh'
  obtain ⟨hbf, h60⟩ := hh'
  obtain ⟨hw60, hw40⟩ := hb2 hbf
  rw [vols_eq _ (by omega), bd_mk]
  have hv := volsL_len rs
  -- the first rows: each volume is a read's, none comes twice
  refine loop_eq (S := Int) (σ := Unit) (fun i _ => (i : Int)) (volsL rs).length (fun _ _ => True) _ (i0 := 0) (s0 := ()) rfl (Nat.zero_le _) trivial (by omega) ?_ ?_
  · intro rec i _ hi _ hrec
    simp only [cellarerlaw21_PlanVols.l11]
    rw [if_t (lt_t hi)]
    refine loop_eq (S := Bool × Int) (σ := Unit) (fun k _ => ((rs.take k).any (fun r => decide (r.loc.vol = (volsL rs)[i])), (k : Int))) rs.length (fun _ _ => True) _ (i0 := 0) (s0 := ()) rfl (Nat.zero_le _) trivial (by omega) ?_ ?_
    · intro rec2 k _ hk _ hrec2
      simp only [cellarerlaw21_PlanVols.l16]
      rw [if_t (lt_t hk), ix_lt hk, ix_lt hi, wr_succ (by omega)]
      have h2 := hrec2 () trivial
      rw [take_snoc' hk, List.any_append] at h2
      cases hf : (rs.take k).any (fun r => decide (r.loc.vol = (volsL rs)[i])) with
      | true =>
        rw [hf] at h2
        simp only [Bool.not_true, only_f, bd_mk, Bool.true_or] at h2 ⊢
        exact h2
      | false =>
        rw [hf] at h2
        simp only [Bool.not_false, only_t, bd_mk, Bool.false_or] at h2 ⊢
        simpa using h2
    · intro rec2 _ _
      simp only [cellarerlaw21_PlanVols.l16, cellarerlaw21_PlanVols.k13]
      rw [if_f (lt_f (Nat.lt_irrefl _)), List.take_length]
      have hfound : rs.any (fun r => decide (r.loc.vol = (volsL rs)[i])) = true := by
        obtain ⟨r, hr, hx⟩ := (mem_volsL rs _).1 (List.getElem_mem hi)
        exact List.any_eq_true.2 ⟨r, hr, by simpa using hx⟩
      rw [hfound]
      refine loop_eq (S := Int) (σ := Unit) (fun k _ => (k : Int)) i (fun _ _ => True) _ (i0 := 0) (s0 := ()) rfl (Nat.zero_le _) trivial (by omega) ?_ ?_
      · intro rec3 k _ hk _ hrec3
        simp only [cellarerlaw21_PlanVols.l15]
        rw [if_t (lt_t hk), ix_lt (show k < (volsL rs).length by omega), bd_mk, ix_lt hi, bd_mk, if_f, wr_succ (by omega)]
        · exact hrec3 () trivial
        · refine decide_eq_false fun e => ?_
          have := (List.nodup_iff_pairwise_ne.1 (nodup_volsL rs))
          exact (List.pairwise_iff_getElem.1 this) k i (by omega) hi hk e
      · intro rec3 _ _
        simp only [cellarerlaw21_PlanVols.l15, cellarerlaw21_PlanVols.k14, cellarerlaw21_PlanVols.k12]
        rw [if_f (lt_f (Nat.lt_irrefl _)), if_f (by rfl), wr_succ (by omega)]
        exact hrec () trivial
  intro rec _ _
  simp only [cellarerlaw21_PlanVols.l11, cellarerlaw21_PlanVols.k1]
  rw [if_f (lt_f (Nat.lt_irrefl _))]
  -- each read's volume is told
  refine loop_eq (S := Int) (σ := Unit) (fun i _ => (i : Int)) rs.length (fun _ _ => True) _ (i0 := 0) (s0 := ()) rfl (Nat.zero_le _) trivial (by omega) ?_ ?_
  · intro rec2 i _ hi _ hrec
    simp only [cellarerlaw21_PlanVols.l7]
    rw [if_t (lt_t hi)]
    refine loop_eq (S := Bool × Int) (σ := Unit) (fun k _ => (((volsL rs).take k).any (fun v => decide (rs[i].loc.vol = v)), (k : Int))) (volsL rs).length (fun _ _ => True) _ (i0 := 0) (s0 := ()) rfl (Nat.zero_le _) trivial (by omega) ?_ ?_
    · intro rec3 k _ hk _ hrec3
      simp only [cellarerlaw21_PlanVols.l10]
      rw [if_t (lt_t hk), ix_lt hk, ix_lt hi, wr_succ (by omega)]
      have h2 := hrec3 () trivial
      rw [take_snoc' hk, List.any_append] at h2
      cases hf : ((volsL rs).take k).any (fun v => decide (rs[i].loc.vol = v)) with
      | true =>
        rw [hf] at h2
        simp only [Bool.not_true, only_f, bd_mk, Bool.true_or] at h2 ⊢
        exact h2
      | false =>
        rw [hf] at h2
        simp only [Bool.not_false, only_t, bd_mk, Bool.false_or] at h2 ⊢
        simpa using h2
    · intro rec3 _ _
      simp only [cellarerlaw21_PlanVols.l10, cellarerlaw21_PlanVols.k9, cellarerlaw21_PlanVols.k8]
      rw [if_f (lt_f (Nat.lt_irrefl _)), List.take_length]
      have hfound : (volsL rs).any (fun v => decide (rs[i].loc.vol = v)) = true :=
        List.any_eq_true.2 ⟨_, (mem_volsL rs _).2 ⟨rs[i], List.getElem_mem hi, rfl⟩, by simp⟩
      rw [hfound, if_f (by rfl), wr_succ (by omega)]
      exact hrec () trivial
  intro rec2 _ _
  simp only [cellarerlaw21_PlanVols.l7, cellarerlaw21_PlanVols.k2]
  rw [if_f (lt_f (Nat.lt_irrefl _)), app_ok (by simp; omega), bd_mk, app_ok (by simp; omega), bd_mk, vols_eq _ (by simp; omega), bd_mk, List.nil_append, volsL_twice]
  rw [if_f (by simp)]
  refine loop_eq (S := Int) (σ := Unit) (fun i _ => (i : Int)) (volsL rs).length (fun _ _ => True) _ (i0 := 0) (s0 := ()) rfl (Nat.zero_le _) trivial (by omega) ?_ ?_
  · intro rec3 i _ hi _ hrec
    simp only [cellarerlaw21_PlanVols.l6]
    rw [if_t (lt_t hi), ix_lt hi, bd_mk, bd_mk, if_f (by simp), wr_succ (by omega)]
    exact hrec () trivial
  intro rec3 _ _
  simp only [cellarerlaw21_PlanVols.l6, cellarerlaw21_PlanVols.k3]
  have ho := orderL_len ws
  have hvo := volsL_len (orderL ws)
  rw [if_f (lt_f (Nat.lt_irrefl _)), planOrder_eq ws (by omega) (fun w hw => by have := hw40 w hw; omega), bd_mk, vols_eq _ (show (orderL ws).length ≤ _ by omega), bd_mk]
  by_cases h0 : (volsL (orderL ws)).length = 0
  · rw [show loop (cellarerlaw21_PlanVols.l5 (volsL (orderL ws))) 1 = some true from ?_]
    refine loop_rule (fun s => s = 1) (fun _ => 0) (fun _ => some true) rfl (by decide) ?_
    rintro rec4 s rfl _
    simp only [cellarerlaw21_PlanVols.l5, cellarerlaw21_PlanVols.k4]
    rw [if_f (decide_eq_false (by omega)), wakes_true, bd_mk]
  refine loop_eq (S := Int) (σ := Unit) (fun i _ => (i : Int)) (volsL (orderL ws)).length (fun i _ => 1 ≤ i) _ (i0 := 1) (s0 := ()) rfl (by omega) (Nat.le_refl _) (by omega) ?_ ?_
  · intro rec4 i _ hi h1 hrec
    simp only [cellarerlaw21_PlanVols.l5]
    rw [if_t (lt_t hi), ix_lt hi, bd_mk, wr_pred (by omega) (by omega), ix_lt (show i - 1 < _ by omega), bd_mk, if_f, wr_succ (by omega)]
    · exact hrec () (by omega)
    · refine decide_eq_false fun e => ?_
      have := (List.pairwise_iff_getElem.1 (volsL_rise _ (orderL_vol ws))) (i - 1) i (by omega) hi (by omega)
      omega
  · intro rec4 _ _
    simp only [cellarerlaw21_PlanVols.l5, cellarerlaw21_PlanVols.k4]
    rw [if_f (lt_f (Nat.lt_irrefl _)), wakes_true, bd_mk]
end Go.Wk.Lf
