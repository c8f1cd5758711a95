/- The page's own functions for the law PlanExact, plainly. -/
import Derived.Test.YtahfmkjafddjhaaPlanR
namespace Go.Wk.Lf
open Go.Shelf Go.Sort Go.Proofs
set_option linter.unusedVariables false

theorem lt_asymm {a b : Loc} (h : ordLoc a b < 0) : ¬ ordLoc b a < 0 := by
  intro h2
  have := ordLoc_swo.trans a b a (by simpa [lt_loc] using h) (by simpa [lt_loc] using h2)
  rw [ordLoc_swo.irrefl] at this; cases this
theorem nlt_trans {a b c : Loc} (h1 : ¬ ordLoc a b < 0) (h2 : ¬ ordLoc b c < 0) : ¬ ordLoc a c < 0 := by
  have := ordLoc_swo.ntrans a b c (by simpa [lt_loc] using h1) (by simpa [lt_loc] using h2)
  simpa [lt_loc] using this
theorem lt_trans' {a b c : Loc} (h1 : ordLoc a b < 0) (h2 : ordLoc b c < 0) : ordLoc a c < 0 := by
  have := ordLoc_swo.trans a b c (by simpa [lt_loc] using h1) (by simpa [lt_loc] using h2)
  simpa [lt_loc] using this
theorem loc_tot {a b : Loc} (h1 : ¬ ordLoc a b < 0) (h2 : ¬ ordLoc b a < 0) : a = b := ordLoc_tot a b (by simpa [lt_loc] using h1) (by simpa [lt_loc] using h2)
theorem strict_unique {a b : List Loc} (ha : a.Pairwise (fun x y => ordLoc x y < 0)) (hb : b.Pairwise (fun x y => ordLoc x y < 0)) (h : ∀ x, x ∈ a ↔ x ∈ b) : a = b := by
  have nd : ∀ {l : List Loc}, l.Pairwise (fun x y => ordLoc x y < 0) → l.Nodup := fun hl => List.nodup_iff_pairwise_ne.2 (hl.imp fun {x y} h e => by subst e; exact lt_asymm h h)
  exact rise_unique ordLoc_tot (ha.imp fun h => lt_asymm h) (hb.imp fun h => lt_asymm h) ((List.perm_ext_iff_of_nodup (nd ha) (nd hb)).2 h)
theorem ahead18_eq (a b : Loc) : cellarerref18_Ahead a b = some (decide (ordLoc a b < 0)) := by
  have hlt := ordLoc_lt a b
  unfold cellarerref18_Ahead
  by_cases h1 : a.vol = b.vol
  · rw [if_f (decide_eq_false (by simpa using h1))]
    by_cases h2 : a.file = b.file
    · rw [if_f (decide_eq_false (by simpa using h2))]
      by_cases h3 : a.off = b.off
      · rw [if_f (decide_eq_false (by simpa using h3))]
        congr 1; rw [decide_eq_decide]; omega
      · rw [if_t (decide_eq_true h3)]
        congr 1; rw [decide_eq_decide]; omega
    · rw [if_t (decide_eq_true h2)]
      congr 1; rw [decide_eq_decide]; omega
  · rw [if_t (decide_eq_true h1)]
    congr 1; rw [decide_eq_decide]; omega
theorem keepLocs_self (xs : List Loc) (hl : xs.length < 4611686018427387904) : cellarerkeep_Locs xs xs = some true := by
  unfold cellarerkeep_Locs
  rw [if_f (decide_eq_false (by simp))]
  refine loop_eq (S := Int) (σ := Unit) (fun i _ => (i : Int)) xs.length (fun _ _ => True) _ (i0 := 0) (s0 := ()) rfl (Nat.zero_le _) trivial (by omega) ?_ ?_
  · intro rec i _ hi _ hrec
    simp only [cellarerkeep_Locs.l2]
    rw [if_t (lt_t hi), ix_lt hi, bd_mk, bd_mk, keepLoc_eq, bd_mk, decide_eq_true rfl, if_f (by rfl), wr_succ (by omega)]
    exact hrec () trivial
  · intro rec _ _
    simp only [cellarerkeep_Locs.l2, cellarerkeep_Locs.k1]
    rw [if_f (lt_f (Nat.lt_irrefl _))]
theorem keepReads_self (xs : List Read) (hl : xs.length < 4611686018427387904) : cellarerkeep_Reads xs xs = some true := by
  unfold cellarerkeep_Reads
  rw [if_f (decide_eq_false (by simp))]
  refine loop_eq (S := Int) (σ := Unit) (fun i _ => (i : Int)) xs.length (fun _ _ => True) _ (i0 := 0) (s0 := ()) rfl (Nat.zero_le _) trivial (by omega) ?_ ?_
  · intro rec i _ hi _ hrec
    simp only [cellarerkeep_Reads.l2]
    have e : decide (xs[i].want ≠ xs[i].want) = false := decide_eq_false (by simp)
    rw [if_t (lt_t hi), ix_lt hi, bd_mk, bd_mk, e]
    simp only [Bool.not_false, Bool.false_or]
    rw [only_t rfl, bd_mk, bd_mk, only_t rfl, keepLoc_eq, bd_mk, decide_eq_true rfl, if_f (by rfl), wr_succ (by omega)]
    exact hrec () trivial
  · intro rec _ _
    simp only [cellarerkeep_Reads.l2, cellarerkeep_Reads.k1]
    rw [if_f (lt_f (Nat.lt_irrefl _))]
theorem spoil_some (xs : List Loc) (hl : xs.length < 4611686018427387904) : ∃ ys, cellarerkeep_SpoilLocs xs = some ys := by
  unfold cellarerkeep_SpoilLocs
  refine loop_for (S := Int × List Loc) (σ := List Loc) (fun i l => ((i : Int), l)) xs.length (fun _ l => l.length = xs.length) (fun o => ∃ ys, o = some ys) (i0 := 0) (s0 := xs) rfl (Nat.zero_le _) rfl (by omega) ?_ ?_
  · intro rec i l hi hI hrec
    simp only [cellarerkeep_SpoilLocs.l1]
    rw [if_t (decide_eq_true (by omega)), ix_lt (show i < l.length by omega), bd_mk, ix_lt (by simp; omega), bd_mk, wr_succ (by omega)]
    exact hrec _ (by simp [hI])
  · intro rec l hI
    simp only [cellarerkeep_SpoilLocs.l1]
    rw [if_f (decide_eq_false (by omega))]
    exact ⟨_, rfl⟩
theorem vols20_eq (rs : List Read) (hl : rs.length ≤ 1073741823) : cellarerref20_Vols rs = some (volsL rs) := by
  unfold cellarerref20_Vols
  refine loop_eq (S := List Int × Int) (σ := Unit) (fun i _ => (volsL (rs.take i), (i : Int))) rs.length (fun _ _ => True) _ (i0 := 0) (s0 := ()) rfl (Nat.zero_le _) trivial (by omega) ?_ ?_
  · intro rec i _ hi _ hrec
    simp only [cellarerref20_Vols.l2]
    have hv := volsL_len (rs.take i)
    rw [List.length_take] at hv
    have hr := hrec () trivial
    rw [take_snoc' hi, volsL_snoc] at hr
    rw [if_t (lt_t hi)]
    refine loop_eq (S := Bool × Int) (σ := Unit) (fun k _ => (((volsL (rs.take i)).take k).any (fun v => decide (v = rs[i].loc.vol)), (k : Int))) (volsL (rs.take i)).length (fun _ _ => True) _ (i0 := 0) (s0 := ()) rfl (Nat.zero_le _) trivial (by omega) ?_ ?_
    · intro rec2 k _ hk _ hrec2
      simp only [cellarerref20_Vols.l5]
      rw [if_t (lt_t hk), ix_lt hk, ix_lt hi, wr_succ (by omega)]
      have h2 := hrec2 () trivial
      rw [take_snoc' hk, List.any_append] at h2
      cases hf : ((volsL (rs.take i)).take k).any (fun v => decide (v = rs[i].loc.vol)) with
      | true =>
        rw [hf] at h2
        simp only [Bool.not_true, only_f, bd_mk, Bool.true_or] at h2 ⊢
        exact h2
      | false =>
        rw [hf] at h2
        simp only [Bool.not_false, only_t, bd_mk, Bool.false_or] at h2 ⊢
        simpa using h2
    · intro rec2 _ _
      simp only [cellarerref20_Vols.l5, cellarerref20_Vols.k4, cellarerref20_Vols.k3]
      rw [if_f (lt_f (Nat.lt_irrefl _)), List.take_length]
      by_cases hm : rs[i].loc.vol ∈ volsL (rs.take i)
      · have : (volsL (rs.take i)).any (fun v => decide (v = rs[i].loc.vol)) = true := List.any_eq_true.2 ⟨_, hm, by simp⟩
        rw [vstep, if_pos hm] at hr
        rw [this, if_f (by rfl), wr_succ (by omega)]
        exact hr
      · have : (volsL (rs.take i)).any (fun v => decide (v = rs[i].loc.vol)) = false := by
          rw [List.any_eq_false]; intro x hx e; simp only [decide_eq_true_eq] at e; exact hm (e ▸ hx)
        rw [vstep, if_neg hm] at hr
        rw [this, if_t (by rfl), ix_lt hi, bd_mk, app_ok (by simp; omega), bd_mk, wr_succ (by omega)]
        exact hr
  · intro rec _ _
    simp only [cellarerref20_Vols.l2, cellarerref20_Vols.k1]
    rw [if_f (lt_f (Nat.lt_irrefl _)), List.take_length]
theorem keepInts_self (xs : List Int) (hl : xs.length < 4611686018427387904) : cellarerkeep_Ints xs xs = some true := by
  unfold cellarerkeep_Ints
  rw [if_f (decide_eq_false (by simp))]
  refine loop_eq (S := Int) (σ := Unit) (fun i _ => (i : Int)) xs.length (fun _ _ => True) _ (i0 := 0) (s0 := ()) rfl (Nat.zero_le _) trivial (by omega) ?_ ?_
  · intro rec i _ hi _ hrec
    simp only [cellarerkeep_Ints.l2]
    rw [if_t (lt_t hi), ix_lt hi, bd_mk, bd_mk, if_f (decide_eq_false (by simp)), wr_succ (by omega)]
    exact hrec () trivial
  · intro rec _ _
    simp only [cellarerkeep_Ints.l2, cellarerkeep_Ints.k1]
    rw [if_f (lt_f (Nat.lt_irrefl _))]
theorem twin_eq (xs : List Loc) (hl : xs.length ≤ 1073741824) : cellarerkeep_TwinLocs xs = some xs := by
  unfold cellarerkeep_TwinLocs
  rw [app_ok (by simpa using hl), bd_mk]; rfl
/-- a place put where it stands, of a rising row -/
theorem sortL_put (l : List Loc) (y : Loc) (p : Nat) (hp : p ≤ (sortL l).length) (h1 : ∀ e ∈ (sortL l).take p, ordLoc e y < 0) (h2 : ∀ h : p < (sortL l).length, ¬ ordLoc (sortL l)[p] y < 0 ∧ (sortL l)[p] ≠ y) : (sortL l).take p ++ [y] ++ (sortL l).drop p = sortL (l ++ [y]) := by
  have hs := sortL_lt l
  rw [← List.take_append_drop p (sortL l)] at hs
  obtain ⟨s1, s2, s3⟩ := List.pairwise_append.1 hs
  have hd : ∀ e ∈ (sortL l).drop p, ordLoc y e < 0 := by
    intro e he
    by_cases hlt : p < (sortL l).length
    · obtain ⟨n1, n2⟩ := h2 hlt
      have hy : ordLoc y (sortL l)[p] < 0 := by
        apply Classical.byContradiction
        intro hn; exact n2 (loc_tot n1 hn)
      rw [List.drop_eq_getElem_cons hlt] at he s2
      rcases List.mem_cons.1 he with rfl | he
      · exact hy
      · exact lt_trans' hy ((List.pairwise_cons.1 s2).1 e he)
    · rw [List.drop_eq_nil_of_le (by omega)] at he; simp at he
  refine strict_unique ?_ (sortL_lt _) ?_
  · refine List.pairwise_append.2 ⟨List.pairwise_append.2 ⟨s1, List.pairwise_singleton _ _, fun a ha b hb => ?_⟩, s2, fun a ha b hb => ?_⟩
    · rw [List.mem_singleton] at hb; subst hb; exact h1 a ha
    · rcases List.mem_append.1 ha with ha | ha
      · exact s3 a ha b hb
      · rw [List.mem_singleton] at ha; subst ha; exact hd b hb
  · intro x
    have hx : x ∈ sortL l ↔ x ∈ (sortL l).take p ∨ x ∈ (sortL l).drop p := by rw [← List.mem_append, List.take_append_drop]
    rw [mem_sortL] at hx
    simp only [mem_sortL, List.mem_append, List.mem_singleton, hx]
    constructor
    · rintro ((h | h) | h)
      · exact .inl (.inl h)
      · exact .inr h
      · exact .inl (.inr h)
    · rintro ((h | h) | h)
      · exact .inl (.inl h)
      · exact .inr h
      · exact .inl (.inr h)
theorem sortL_same (l : List Loc) (y : Loc) (h : y ∈ sortL l) : sortL (l ++ [y]) = sortL l := by
  refine strict_unique (sortL_lt _) (sortL_lt _) fun x => ?_
  rw [mem_sortL, mem_sortL, List.mem_append, List.mem_singleton]
  constructor
  · rintro (h' | rfl)
    · exact h'
    · exact (mem_sortL _ _).1 h
  · exact .inl
theorem sort20_put (xs : List Loc) (hl : xs.length ≤ 1073741824) (i : Nat) (hi : i < xs.length) (rec : List Loc × Int → Option (List Loc)) (a : Option (List Loc)) (hrec : rec (sortL (xs.take (i + 1)), ((i + 1 : Nat) : Int)) = a) (p : Nat) (hp : p ≤ (sortL (xs.take i)).length)
    (h1 : ∀ e ∈ (sortL (xs.take i)).take p, ordLoc e xs[i] < 0) (h2 : ∀ h : p < (sortL (xs.take i)).length, ¬ ordLoc (sortL (xs.take i))[p] xs[i] < 0) : cellarerref20_Sort.k4 xs (sortL (xs.take i)) (i : Int) rec (p : Int) = a := by
  have hsl := sortL_len (xs.take i)
  rw [List.length_take] at hsl
  rw [take_snoc' hi] at hrec
  have fin : (hne : ∀ h : p < (sortL (xs.take i)).length, (sortL (xs.take i))[p] ≠ xs[i]) → (bd (cut (α := Loc) (sortL (xs.take i)) 0 (p : Int)) fun l62 => bd (app (α := Loc) [] l62) fun l64 => bd (ix xs (i : Int)) fun x66 => bd (app (α := Loc) l64 [x66]) fun l69 => bd (cut (α := Loc) (sortL (xs.take i)) (p : Int) ((sortL (xs.take i)).length : Int)) fun l83 => bd (app (α := Loc) l69 l83) fun l85 => rec (l85, wr ((i : Int) + 1))) = a := by
    intro hne
    rw [cut_ok (by omega) (by omega) (by omega), bd_mk, app_ok (by simp; omega), bd_mk, ix_lt hi, bd_mk, app_ok (by simp; omega), bd_mk, cut_ok (by omega) (by omega) (by omega), bd_mk, app_ok (by simp; omega), bd_mk, wr_succ (by omega)]
    simp only [Int.toNat_natCast, Int.toNat_zero, List.drop_zero, List.nil_append, List.take_length]
    rw [sortL_put _ _ p hp h1 fun h => ⟨h2 h, hne h⟩]
    exact hrec
  simp only [cellarerref20_Sort.k4, cellarerref20_Sort.k3]
  by_cases hlt : p < (sortL (xs.take i)).length
  · rw [lt_t hlt, only_t rfl, ix_lt hlt, bd_mk, only_t rfl, ix_lt hi, bd_mk, only_t rfl, keepLoc_eq, bd_mk, Bool.true_and]
    by_cases he : (sortL (xs.take i))[p] = xs[i]
    · rw [if_t (decide_eq_true he), wr_succ (by omega)]
      rw [sortL_same _ _ (he ▸ List.getElem_mem hlt)] at hrec
      exact hrec
    · rw [if_f (decide_eq_false he)]
      rw [ix_lt hi] at fin
      exact fin fun _ => he
  · rw [lt_f hlt]
    simp only [only_f, bd_mk, Bool.false_and]
    rw [if_f (by rfl)]
    exact fin fun h => absurd h hlt
theorem sort20_eq (xs : List Loc) (hl : xs.length ≤ 1073741824) : cellarerref20_Sort xs = some (sortL xs) := by
  unfold cellarerref20_Sort
  refine loop_eq (S := List Loc × Int) (σ := Unit) (fun i _ => (sortL (xs.take i), (i : Int))) xs.length (fun _ _ => True) _ (i0 := 0) (s0 := ()) rfl (Nat.zero_le _) trivial (by omega) ?_ ?_
  · intro rec i _ hi _ hrec
    simp only [cellarerref20_Sort.l2]
    have hsl := sortL_len (xs.take i)
    rw [List.length_take] at hsl
    rw [if_t (lt_t hi)]
    refine loop_eq (S := Int) (σ := Unit) (fun k _ => (k : Int)) (sortL (xs.take i)).length (fun k _ => ∀ e ∈ (sortL (xs.take i)).take k, ordLoc e xs[i] < 0) _ (i0 := 0) (s0 := ()) rfl (Nat.zero_le _) (by simp) (by omega) ?_ ?_
    · intro rec2 k _ hk hI hrec2
      simp only [cellarerref20_Sort.l5]
      rw [lt_t hk, only_t rfl, ix_lt hk, bd_mk, only_t rfl, ix_lt hi, bd_mk, only_t rfl, ahead18_eq, bd_mk, Bool.true_and]
      by_cases h : ordLoc (sortL (xs.take i))[k] xs[i] < 0
      · rw [if_t (decide_eq_true h), wr_succ (by omega)]
        refine hrec2 () fun e he => ?_
        rw [take_snoc' hk] at he
        rcases List.mem_append.1 he with he | he
        · exact hI e he
        · rw [List.mem_singleton] at he; subst he; exact h
      · rw [if_f (decide_eq_false h)]
        exact sort20_put xs hl i hi rec _ (hrec () trivial) k (by omega) hI fun _ => h
    · intro rec2 _ hI
      simp only [cellarerref20_Sort.l5]
      rw [lt_f (Nat.lt_irrefl _)]
      simp only [only_f, bd_mk, Bool.false_and]
      rw [if_f (by rfl)]
      exact sort20_put xs hl i hi rec _ (hrec () trivial) _ (Nat.le_refl _) hI fun h => absurd h (Nat.lt_irrefl _)
  · intro rec _ _
    simp only [cellarerref20_Sort.l2, cellarerref20_Sort.k1]
    rw [if_f (lt_f (Nat.lt_irrefl _)), List.take_length]
end Go.Wk.Lf
