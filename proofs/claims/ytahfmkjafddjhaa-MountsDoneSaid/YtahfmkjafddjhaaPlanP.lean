/- What the lifted functions of chapter 21 tell, plainly. -/
import Derived.Test.YtahfmkjafddjhaaLfB
import Derived.Test.YtahfmkjafddjhaaLst
namespace Go.Wk.Lf
open Go.Shelf Go.Sort
set_option linter.unusedVariables false

theorem heavy_spec (ws : List Want) : ∃ b, cellarerlaw21_Heavy ws = some b ∧ (b = false → ws.length ≤ 60 ∧ ∀ w ∈ ws, w.locs.length ≤ 40) := by
  unfold cellarerlaw21_Heavy
  by_cases h60 : ws.length ≤ 60
  · rw [if_f (decide_eq_false (by omega))]
    refine loop_for (S := Int) (σ := Unit) (fun i _ => (i : Int)) ws.length (fun i _ => ∀ w ∈ ws.take i, w.locs.length ≤ 40) (fun o => ∃ b, o = some b ∧ (b = false → ws.length ≤ 60 ∧ ∀ w ∈ ws, w.locs.length ≤ 40)) (i0 := 0) (s0 := ()) rfl (Nat.zero_le _) (by simp) (by omega) ?_ ?_
    · intro rec i _ hi hI hrec
      simp only [cellarerlaw21_Heavy.l2]
      rw [if_t (lt_t hi), ix_lt hi, bd_mk]
      by_cases h40 : ws[i].locs.length ≤ 40
      · rw [if_f (decide_eq_false (by omega)), wr_succ (by omega)]
        refine hrec () fun w hw => ?_
        rw [take_snoc' hi] at hw
        rcases List.mem_append.1 hw with hw | hw
        · exact hI w hw
        · simp at hw; subst hw; exact h40
      · rw [if_t (decide_eq_true (by omega))]
        exact ⟨true, rfl, fun h => by cases h⟩
    · intro rec _ hI
      simp only [cellarerlaw21_Heavy.l2, cellarerlaw21_Heavy.k1]
      rw [if_f (lt_f (Nat.lt_irrefl _))]
      exact ⟨false, rfl, fun _ => ⟨h60, by simpa using hI⟩⟩
  · rw [if_t (decide_eq_true (by omega))]
    exact ⟨true, rfl, fun h => by cases h⟩
theorem contains_eq (xs : List Int) (x : Int) (hl : xs.length < 4611686018427387904) : slices_Contains_int_int xs x = some (decide (x ∈ xs)) := by
  have key : ∃ r, slices_Index_int_int xs x = some r ∧ (0 ≤ r ↔ x ∈ xs) := by
    unfold slices_Index_int_int
    refine loop_for (S := Int) (σ := Unit) (fun i _ => (i : Int)) xs.length (fun i _ => x ∉ xs.take i) (fun o => ∃ r, o = some r ∧ (0 ≤ r ↔ x ∈ xs)) (i0 := 0) (s0 := ()) rfl (Nat.zero_le _) (by simp) hl ?_ ?_
    · intro rec i _ hi hI hrec
      simp only [slices_Index_int_int.l2]
      rw [if_t (lt_t hi), ix_lt hi, bd_mk]
      by_cases h : x = xs[i]
      · rw [if_t (decide_eq_true h)]
        exact ⟨_, rfl, ⟨fun _ => h ▸ List.getElem_mem hi, fun _ => Int.natCast_nonneg _⟩⟩
      · rw [if_f (decide_eq_false h), wr_succ (by omega)]
        refine hrec () ?_
        rw [take_snoc' hi]
        simp only [List.mem_append, List.mem_singleton, not_or]; exact ⟨hI, h⟩
    · intro rec _ hI
      simp only [slices_Index_int_int.l2, slices_Index_int_int.k1]
      rw [if_f (lt_f (Nat.lt_irrefl _))]
      rw [List.take_length] at hI
      exact ⟨-1, rfl, ⟨fun h => absurd h (by decide), fun h => absurd h hI⟩⟩
  obtain ⟨r, h1, h2⟩ := key
  unfold slices_Contains_int_int
  rw [h1, bd_mk]
  congr 1
  by_cases h : x ∈ xs
  · simp [h, h2.2 h]
  · simp [h, show ¬ 0 ≤ r from fun q => h (h2.1 q)]
/-- the volumes of reads, each once, as they come -/
def vstep (acc : List Int) (r : Read) : List Int := if r.loc.vol ∈ acc then acc else acc ++ [r.loc.vol]
def volsL (rs : List Read) : List Int := rs.foldl vstep []
theorem vols_eq (rs : List Read) (hl : rs.length ≤ 1073741824) : plan_Vols rs = some (volsL rs) := by
  unfold plan_Vols
  refine loop_fold (fun i s => (s, (i : Int))) rs vstep (fun s => some s) (fun i s => s.length ≤ i) (i0 := 0) (s0 := []) rfl (Nat.zero_le _) (Nat.le_refl _) (by omega) ?_ ?_
  · intro rec i s hi hI
    simp only [plan_Vols.l2, plan_Vols.k3]
    rw [if_t (lt_t hi), ix_lt hi, bd_mk, contains_eq _ _ (by omega), bd_mk]
    by_cases h : rs[i].loc.vol ∈ s
    · rw [if_f (by simp [h]), wr_succ (by omega)]
      simp only [vstep, if_pos h]
      exact ⟨by omega, trivial⟩
    · rw [if_t (by simp [h]), app_ok (by simp; omega), bd_mk, wr_succ (by omega)]
      simp only [vstep, if_neg h]
      exact ⟨by simp; omega, trivial⟩
  · intro rec s hI
    simp only [plan_Vols.l2, plan_Vols.k1]
    rw [if_f (lt_f (Nat.lt_irrefl _))]
theorem volsL_snoc (rs : List Read) (r : Read) : volsL (rs ++ [r]) = vstep (volsL rs) r := by rw [volsL, List.foldl_append]; rfl
theorem clone_eq (xs : List Loc) (hl : xs.length ≤ 1073741824) : slices_Clone_api_Loc_api_Loc xs = some xs := by
  unfold slices_Clone_api_Loc_api_Loc
  rw [app_ok (by simpa using hl), bd_mk]; rfl
theorem wakes_true : cellarerlaw21_wakes = some true := by decide +kernel
end Go.Wk.Lf
