/- Of law 05's and law 17's heavy arguments. -/
import Derived.Test.YtoanecpanckkeaaManJ
import Derived.Test.YtoanecpanckkeaaLfM7
namespace Go.Wk.Lf
open Go.Shelf Go.Sort Go.Proofs
set_option linter.unusedVariables false
set_option linter.unusedSimpArgs false
def lightF (f : File) : Bool := decide (f.data.length ≤ 500) && decide (f.path.length ≤ 100)
theorem heavy_eq (l : List File) : ∃ b, cellarerlaw05_Heavy l = some b ∧ (b = false → l.length ≤ 20 ∧ ∀ f ∈ l, f.data.length ≤ 500 ∧ f.path.length ≤ 100) := by
  unfold cellarerlaw05_Heavy
  by_cases h20 : 20 < l.length
  · rw [if_pos (by simp; omega)]; exact ⟨true, rfl, fun h => by cases h⟩
  · rw [if_neg (by simp; omega)]
    rw [loop_all (x0 := (0 : Int)) (fun i => (i : Int)) l.length (fun i => lightF (l.getD i default)) (some false) (some true) rfl (by omega) ?_ ?_]
    · by_cases h : (∀ i, i < l.length → lightF (l.getD i default) = true)
      · rw [if_pos h]
        refine ⟨false, rfl, fun _ => ⟨by omega, fun f hf => ?_⟩⟩
        obtain ⟨j, hj, rfl⟩ := List.getElem_of_mem hf
        have := h j hj
        simpa [lightF, hj] using this
      · rw [if_neg h]; exact ⟨true, rfl, fun h => by cases h⟩
    · intro rec i hi
      simp only [cellarerlaw05_Heavy.l2, lightF]
      rw [if_t (lt_t hi), ix_lt hi, bd_mk]
      simp only [List.getD_eq_getElem?_getD, List.getElem?_eq_getElem hi, Option.getD_some]
      by_cases h5 : 500 < l[i].data.length
      · rw [only_f (by simp; omega), bd_mk, if_pos (by simp; omega), if_neg (by simp; omega)]
      · rw [only_t (by simp; omega), bd_mk]
        by_cases h1 : 100 < l[i].path.length
        · rw [if_pos (by simp; omega), if_neg (by simp; omega)]
        · rw [if_neg (by simp; omega), if_pos (by simp; omega), wr_succ (by omega)]
    · intro rec
      simp only [cellarerlaw05_Heavy.l2, cellarerlaw05_Heavy.k1]
      rw [if_f (lt_f (Nat.lt_irrefl _))]
end Go.Wk.Lf
