/- ManifestIds, plainly. -/
import Derived.Test.YtoanecpanckkeaaManK
import Derived.Test.YtoanecpanckkeaaLfO
import Derived.Test.YtoanecpanckkeaaLwManifestIds
namespace Go.Wk.Lf
open Go.Shelf Go.Sort Go.Proofs
set_option linter.unusedVariables false
set_option linter.unusedSimpArgs false
theorem sort_small {l : List File} {x : List UInt8} (h : x ∈ isort ordRow (chunksL l)) : x.length ≤ 64 := by
  have h1 := chunks_mem ((isort_perm ordRow (chunksL l)).mem_iff.1 h)
  obtain ⟨f, _, hx⟩ := List.mem_flatMap.1 h1
  exact (cutL_mem f.data x hx).2
theorem ids_len {l : List File} (hl : l.length ≤ 6) (hd : ∀ f ∈ l, f.data.length ≤ 200) (name : List UInt8) : (idsOf ⟨name, l.map partL⟩).length ≤ 150 := by
  rw [built_ids, List.length_map]; exact pieces_len hl hd
theorem mids_built {name : List UInt8} {l : List File} (hC : chkL l = 0) : manifest_Ids ⟨name, l.map partL⟩ = some ((isort ordRow (chunksL l)).map sha) := by
  obtain ⟨hL, _, _⟩ := chkL_ok hC
  obtain ⟨hl, hd⟩ := long_f hL
  rw [mids_eq _ (by simp; omega) (by have := ids_len hl hd name; omega), chunks_idsU name]
theorem idsK1 {name : List UInt8} {l : List File} (hC : chkL l = 0) : cellarerlaw17_ManifestIds.k1 (⟨name, l.map partL⟩, isort ordRow (chunksL l), 0) = some true := by
  obtain ⟨hL, _, _⟩ := chkL_ok hC
  obtain ⟨hl, hd⟩ := long_f hL
  have hn := chunksL_len hl hd
  have hn2 := isortC_len l
  unfold cellarerlaw17_ManifestIds.k1
  dsimp only
  rw [mids_built hC, bd_mk, if_neg (by simp)]
  refine loop_eq (σ := Unit) (fun i _ => (i : Int)) (isort ordRow (chunksL l)).length (fun _ _ => True) _ (i0 := 0) (s0 := ()) rfl (Nat.zero_le _) trivial (by omega) ?_ ?_
  · intro rec i _ hi _ hrec
    have hi2 : i < ((isort ordRow (chunksL l)).map sha).length := by rw [List.length_map]; exact hi
    simp only [cellarerlaw17_ManifestIds.l3]
    rw [if_t (lt_t hi), ix_lt hi, bd_mk, shaSum_one _ (by have := sort_small (List.getElem_mem hi); omega), bd_mk, ix_lt hi2, bd_mk, List.getElem_map, decide_eq_true rfl]
    by_cases h0 : 0 < i
    · have hi3 : i - 1 < ((isort ordRow (chunksL l)).map sha).length := by omega
      have c : ((!!true) && decide (0 < (i : Int))) = true := by rw [decide_eq_true (by omega)]; rfl
      rw [only_t c, only_t c, wr_pred h0 (by omega), ix_lt hi3, bd_mk, bd_mk]
      have hlt : sLt (((isort ordRow (chunksL l)).map sha)[i - 1]) (sha (isort ordRow (chunksL l))[i]) = true := by
        have := List.pairwise_iff_getElem.1 (chunks_rises l) (i - 1) i hi3 hi2 (by omega)
        simp only [List.getElem_map] at this ⊢
        exact this
      rw [hlt, if_neg (by simp), wr_succ (by omega)]
      exact hrec () trivial
    · have c : ((!!true) && decide (0 < (i : Int))) = false := by rw [decide_eq_false (by omega)]; rfl
      rw [only_f c, only_f c, bd_mk, bd_mk, decide_eq_false (by omega : ¬ 0 < (i : Int)), if_neg (by simp), wr_succ (by omega)]
      exact hrec () trivial
  · intro rec _ _
    simp only [cellarerlaw17_ManifestIds.l3]
    rw [if_f (lt_f (Nat.lt_irrefl _))]
    unfold cellarerlaw17_ManifestIds.k2
    rw [wakes17, bd_mk]
theorem manIds_true (name : List UInt8) (l : List File) (_ : name.length ≤ maxLen) (_ : okL File.ok l) : cellarerlaw17_ManifestIds name l = some true := by
  unfold cellarerlaw17_ManifestIds
  obtain ⟨b, hb, hb2⟩ := heavy_eq l
  rw [hb, bd_mk]
  by_cases hq : (b || decide (100 < (name.length : Int))) = true
  · rw [if_pos hq]
  rw [if_neg hq, build_eq, bd_mk, name_eq, bd_mk]
  rcases buildL_cases name l with ⟨hN, hB⟩ | ⟨hN, hC, hB⟩ | ⟨hN, hC, hB⟩
  · rw [hB, hN, if_pos (by simp)]
    dsimp only
    rw [only_t (by decide), wakes17, bd_mk]
    rfl
  · rw [hB, hN, if_neg (by simp)]
    dsimp only
    rw [if_pos (by simpa using hC), check_eq, bd_mk]
    have c : (decide (chkL l = chkL l) && decide ((([] : List (List UInt8)).length : Int) = 0)) = true := by simp
    rw [only_t c, wakes17, bd_mk, c]
    rfl
  · rw [hB, hN, if_neg (by simp)]
    obtain ⟨hL, _, _⟩ := chkL_ok hC
    obtain ⟨hl, hd⟩ := long_f hL
    dsimp only
    rw [if_neg (show ¬ (decide ((0 : Int) ≠ 0) = true) from by decide), if_neg (by simp)]
    refine loop_eq (σ := Unit) (fun i _ => (i : Int)) l.length (fun _ _ => True) _ (i0 := 0) (s0 := ()) rfl (Nat.zero_le _) trivial (by omega) ?_ ?_
    · intro rec i _ hi _ hrec
      have hdi := hd l[i] (List.getElem_mem hi)
      have hip : i < (l.map partL).length := by rw [List.length_map]; exact hi
      simp only [cellarerlaw17_ManifestIds.l4]
      rw [if_t (lt_t hi), ix_lt hi, bd_mk, ccut_eq _ (by omega), bd_mk, ix_lt hip, List.getElem_map, show partL l[i] = ⟨l[i].path, l[i].data.length, (cutL l[i].data).map sha⟩ from rfl, bd_mk]
      dsimp only
      rw [only_t (by simp), bd_mk, only_t (by simp), bd_mk, if_neg (by simp)]
      have hc := cutL_len l[i].data
      refine loop_eq (σ := Unit) (fun j _ => (j : Int)) (cutL l[i].data).length (fun _ _ => True) _ (i0 := 0) (s0 := ()) rfl (Nat.zero_le _) trivial (by omega) ?_ ?_
      · intro rec2 j _ hj _ hrec2
        have hj2 : j < ((cutL l[i].data).map sha).length := by rw [List.length_map]; exact hj
        have hsm := (cutL_mem l[i].data _ (List.getElem_mem hj)).2
        simp only [cellarerlaw17_ManifestIds.l6]
        rw [if_t (lt_t hj), ix_lt hj2, bd_mk, ix_lt hj, bd_mk, shaSum_one _ (by omega), bd_mk, List.getElem_map, if_neg (by simp), wr_succ (by omega)]
        exact hrec2 () trivial
      · intro rec2 _ _
        simp only [cellarerlaw17_ManifestIds.l6]
        rw [if_f (lt_f (Nat.lt_irrefl _))]
        unfold cellarerlaw17_ManifestIds.k5
        rw [wr_succ (by omega)]
        exact hrec () trivial
    · intro rec _ _
      simp only [cellarerlaw17_ManifestIds.l4]
      rw [if_f (lt_f (Nat.lt_irrefl _))]
      exact idsK1 hC
end Go.Wk.Lf
