/- What manifest.Build tells is a manifest; its ids are those of its chunks. -/
import Derived.Test.YtoanecpanckkeaaManB
import Derived.Test.YtoanecpanckkeaaManC
namespace Go.Wk.Lf
open Go.Shelf Go.Sort Go.Proofs
set_option linter.unusedVariables false
set_option linter.unusedSimpArgs false
theorem built_manB {name : List UInt8} {l : List File} (hN : nameB name = true) (hC : chkL l = 0) : manB ⟨name, l.map partL⟩ := by
  obtain ⟨hL, hB, hR⟩ := chkL_ok hC
  obtain ⟨hl, hd⟩ := long_f hL
  refine ⟨hN, by simpa using hl, ?_, ?_⟩
  · rw [List.all_eq_true]
    intro p hp
    obtain ⟨f, hf, rfl⟩ := List.mem_map.1 hp
    have hdf := hd f hf
    have hnf : nameB f.path = true := by
      unfold badB at hB
      rw [List.any_eq_false] at hB
      simpa using hB f hf
    have hc := cutL_len f.data
    have he := cutL_empty f.data
    have h0 : ((cutL f.data).map sha).length = 0 ↔ (f.data.length : Int) = 0 := by
      rw [List.length_map]
      constructor
      · intro h
        have := he.1 (List.eq_nil_of_length_eq_zero h)
        rw [this]; rfl
      · intro h
        have : f.data = [] := List.eq_nil_of_length_eq_zero (by omega)
        rw [he.2 this]; rfl
    have hr : partB (partL f) = ((((nameB f.path && decide (0 ≤ (f.data.length : Int))) && decide ((f.data.length : Int) ≤ 200)) && decide (((cutL f.data).map sha).length ≤ 25)) && (decide (((cutL f.data).map sha).length = 0) == decide ((f.data.length : Int) = 0))) := rfl
    rw [hr, hnf, decide_eq_true (by omega : 0 ≤ (f.data.length : Int)), decide_eq_true (by omega : (f.data.length : Int) ≤ 200), decide_eq_true (by rw [List.length_map]; omega), Bool.true_and, Bool.true_and, Bool.true_and, Bool.true_and, beq_iff_eq, decide_eq_decide]
    exact h0
  · unfold risesP
    rw [List.pairwise_map]
    exact hR
theorem built_okId (name : List UInt8) (l : List File) : okId ⟨name, l.map partL⟩ := by
  intro p hp x hx
  obtain ⟨f, hf, rfl⟩ := List.mem_map.1 hp
  obtain ⟨c, _, rfl⟩ := List.mem_map.1 hx
  exact Sha.sha256_len _
theorem built_ids (name : List UInt8) (l : List File) : idsOf ⟨name, l.map partL⟩ = (pieces l).map sha := by
  unfold idsOf pieces
  rw [List.flatMap_map, List.map_flatMap]
  rfl
theorem ordRow_lt (p q : List UInt8) : ordRow p q < 0 ↔ sLt (sha p) (sha q) = true := by
  have := cmpT_lt (sha p) (sha q)
  unfold ltOf at this
  rw [← this]; simp [ordRow]
theorem chunks_rises (l : List File) : RisesS ((isort ordRow (chunksL l)).map sha) := by
  unfold RisesS
  rw [List.pairwise_map]
  have h1 := isort_rise ordRow_swo (chunksL l)
  have h2 : ((isort ordRow (chunksL l)).map sha).Nodup := ((isort_perm ordRow _).map sha).nodup_iff.2 (chunks_nodup l)
  rw [List.nodup_iff_pairwise_ne, List.pairwise_map] at h2
  refine (List.Pairwise.and h1 h2).imp fun {a b} h => ?_
  have h3 := h.1
  rw [ordRow_lt, Bool.not_eq_true] at h3
  cases h4 : sLt (sha a) (sha b) with
  | true => rfl
  | false => exact absurd (sLt_tri h4 h3) h.2
theorem chunks_idsU (name : List UInt8) (l : List File) : (isort ordRow (chunksL l)).map sha = idsU (idsOf ⟨name, l.map partL⟩) := by
  refine risesS_uniq _ _ (chunks_rises l) (idsU_rises _) fun x => ?_
  rw [idsU_mem, built_ids, ← chunks_ids]
  exact ((isort_perm ordRow (chunksL l)).map sha).mem_iff
theorem isortC_len (l : List File) : (isort ordRow (chunksL l)).length = (chunksL l).length := (isort_perm ordRow (chunksL l)).length_eq
theorem chunksL_len {l : List File} (hl : l.length ≤ 6) (hd : ∀ f ∈ l, f.data.length ≤ 200) : (chunksL l).length ≤ 150 := by
  have := foldC_len (pieces l) []
  have := pieces_len hl hd
  unfold chunksL; simp at *; omega
theorem buildL_cases (name : List UInt8) (l : List File) : (nameB name = false ∧ buildL name l = (⟨[], []⟩, [], 1)) ∨ (nameB name = true ∧ chkL l ≠ 0 ∧ buildL name l = (⟨[], []⟩, [], chkL l)) ∨
    (nameB name = true ∧ chkL l = 0 ∧ buildL name l = (⟨name, l.map partL⟩, isort ordRow (chunksL l), 0)) := by
  unfold buildL
  cases hN : nameB name with
  | false => left; simp
  | true =>
    right
    by_cases hC : chkL l = 0
    · right; simp [hC]
    · left; simp [hC]
end Go.Wk.Lf
