/- The law PlanRises, plainly. -/
import Derived.Test.YtahfmkjafddjhaaPlanQ
import Derived.Test.YtahfmkjafddjhaaLfO
namespace Go.Wk.Lf
open Go.Shelf Go.Sort
set_option linter.unusedVariables false

theorem ahead_eq (a b : Loc) : plan_Ahead a b = some (decide (ordLoc a b < 0)) := by unfold plan_Ahead; rw [order_eq, bd_mk]
theorem keepLoc_eq (a b : Loc) : cellarerkeep_Loc a b = some (decide (a = b)) := by
  unfold cellarerkeep_Loc
  congr 1
  cases a; cases b
  simp only [Loc.mk.injEq]
  rw [Bool.eq_iff_iff]
  simp [and_assoc]
theorem mem_readsOf (ws : List Want) (r : Read) : r ∈ readsOf ws ↔ ∃ (i : Nat) (h : i < ws.length) (q : List Loc), sortL ws[i].locs = r.loc :: q ∧ r.want = (i : Int) := by
  refine snoc_ind (p := fun ws => r ∈ readsOf ws ↔ ∃ (i : Nat) (h : i < ws.length) (q : List Loc), sortL ws[i].locs = r.loc :: q ∧ r.want = (i : Int)) (by simp [readsOf]) (fun l y ih => ?_) ws
  rw [readsOf_snoc, List.mem_append, ih]
  constructor
  · rintro (⟨i, h, q, h1, h2⟩ | h)
    · exact ⟨i, by simp; omega, q, by rw [List.getElem_append_left h]; exact h1, h2⟩
    · split at h
      · simp at h
      · rename_i e q hs
        simp at h
        subst h
        exact ⟨l.length, by simp, q, by simpa using hs, rfl⟩
  · rintro ⟨i, h, q, h1, h2⟩
    by_cases hi : i < l.length
    · left; rw [List.getElem_append_left hi] at h1; exact ⟨i, hi, q, h1, h2⟩
    · right
      have hil : i = l.length := by simp at h; omega
      subst hil
      simp at h1
      rw [h1]
      simp only [List.mem_singleton]
      cases r; simp only at h2 ⊢; rw [h2]
theorem mem_noneOf (ws : List Want) (x : Int) : x ∈ noneOf ws ↔ ∃ (i : Nat) (h : i < ws.length), ws[i].locs.length = 0 ∧ x = (i : Int) := by
  refine snoc_ind (p := fun ws => x ∈ noneOf ws ↔ ∃ (i : Nat) (h : i < ws.length), ws[i].locs.length = 0 ∧ x = (i : Int)) (by simp [noneOf]) (fun l y ih => ?_) ws
  rw [noneOf_snoc, List.mem_append, ih]
  constructor
  · rintro (⟨i, h, h1, h2⟩ | h)
    · exact ⟨i, by simp; omega, by rw [List.getElem_append_left h]; exact h1, h2⟩
    · split at h
      · rename_i hs
        simp at h
        subst h
        exact ⟨l.length, by simp, by simpa using hs, rfl⟩
      · simp at h
  · rintro ⟨i, h, h1, h2⟩
    by_cases hi : i < l.length
    · left; rw [List.getElem_append_left hi] at h1; exact ⟨i, hi, h1, h2⟩
    · right
      have hil : i = l.length := by simp at h; omega
      subst hil
      simp at h1
      rw [if_pos (by simp [h1])]; simp [h2]
theorem noneOf_rise (ws : List Want) : (noneOf ws).Pairwise (· < ·) := by
  refine snoc_ind (p := fun ws => (noneOf ws).Pairwise (· < ·)) (by simp [noneOf]) (fun l y ih => ?_) ws
  rw [noneOf_snoc]
  refine List.pairwise_append.2 ⟨ih, by split <;> simp, fun a ha b hb => ?_⟩
  obtain ⟨i, h, _, rfl⟩ := (mem_noneOf l a).1 ha
  split at hb
  · simp at hb; subst hb; omega
  · simp at hb
theorem cnt_one (ws : List Want) (j : Nat) : (readsOf ws).countP (fun r => decide (r.want = (j : Int))) + (noneOf ws).countP (fun x => decide (x = (j : Int))) = if j < ws.length then 1 else 0 := by
  refine snoc_ind (p := fun ws => (readsOf ws).countP (fun r => decide (r.want = (j : Int))) + (noneOf ws).countP (fun x => decide (x = (j : Int))) = if j < ws.length then 1 else 0) (by simp [readsOf, noneOf]) (fun l y ih => ?_) ws
  rw [readsOf_snoc, noneOf_snoc, List.countP_append, List.countP_append, List.length_append, List.length_singleton]
  by_cases h0 : y.locs.length = 0
  · have hs : sortL y.locs = [] := List.eq_nil_of_length_eq_zero (by have := sortL_len y.locs; omega)
    rw [hs, if_pos h0]
    simp only [List.countP_nil, List.countP_cons, decide_eq_true_eq]
    split at ih <;> split <;> (try split) <;> omega
  · have hp := sortL_pos (l := y.locs) (by omega)
    obtain ⟨e, q, hs⟩ : ∃ e q, sortL y.locs = e :: q := by
      match hq : sortL y.locs with
      | [] => rw [hq] at hp; simp at hp
      | e :: q => exact ⟨e, q, rfl⟩
    rw [hs, if_neg h0]
    simp only [List.countP_nil, List.countP_cons, decide_eq_true_eq]
    split at ih <;> split <;> (try split) <;> omega
theorem head_least {l q : List Loc} {e x : Loc} (h : sortL l = e :: q) (hx : x ∈ l) : ¬ ordLoc x e < 0 := by
  have h1 := sortL_lt l
  rw [h] at h1
  have h2 := (mem_sortL l x).2 hx
  rw [h] at h2
  have irr := ordLoc_swo.irrefl
  have tr := ordLoc_swo.trans
  rcases List.mem_cons.1 h2 with rfl | h2
  · intro hc; have := irr x; rw [lt_loc] at this; simp at this; omega
  · intro hc
    have h3 := (List.pairwise_cons.1 h1).1 x h2
    have := tr e x e (by rw [lt_loc]; simpa using h3) (by rw [lt_loc]; simpa using hc)
    rw [irr] at this; cases this
theorem orderL_perm (ws : List Want) : (orderL ws).Perm (readsOf ws) := isort_perm _ _
theorem mem_orderL (ws : List Want) (r : Read) : r ∈ orderL ws ↔ r ∈ readsOf ws := (orderL_perm ws).mem_iff
/-- counts, as the law keeps them -/
def counts (n : Nat) (rs : List Read) (xs : List Int) : List Int := (List.range n).map fun (j : Nat) => ((rs.countP (fun r => decide (r.want = (j : Int))) + xs.countP (fun x => decide (x = (j : Int))) : Nat) : Int)
theorem counts_len (n : Nat) (rs : List Read) (xs : List Int) : (counts n rs xs).length = n := by simp [counts]
theorem counts_at {n : Nat} {rs : List Read} {xs : List Int} {j : Nat} (h : j < n) : (counts n rs xs)[j]'(by rw [counts_len]; exact h) = ((rs.countP (fun r => decide (r.want = (j : Int))) + xs.countP (fun x => decide (x = (j : Int))) : Nat) : Int) := by simp [counts]
theorem counts_read {n : Nat} {rs : List Read} {xs : List Int} {r : Read} {i : Nat} (hi : i < n) (hr : r.want = (i : Int)) : (counts n rs xs).set i (((rs.countP (fun r => decide (r.want = (i : Int))) + xs.countP (fun x => decide (x = (i : Int))) : Nat) : Int) + 1) = counts n (rs ++ [r]) xs := by
  apply List.ext_getElem (by simp [counts])
  intro j h1 h2
  rw [counts_len] at h2
  rw [List.getElem_set, counts_at (rs := rs ++ [r]) h2, List.countP_append]
  split
  · rename_i h; subst h; simp [hr]; omega
  · rename_i h
    rw [counts_at (rs := rs) h2]
    have : ¬ (i : Int) = (j : Int) := by omega
    simp [hr, this]
theorem counts_none {n : Nat} {rs : List Read} {xs : List Int} {x : Int} {i : Nat} (hi : i < n) (hx : x = (i : Int)) : (counts n rs xs).set i (((rs.countP (fun r => decide (r.want = (i : Int))) + xs.countP (fun x => decide (x = (i : Int))) : Nat) : Int) + 1) = counts n rs (xs ++ [x]) := by
  apply List.ext_getElem (by simp [counts])
  intro j h1 h2
  rw [counts_len] at h2
  rw [List.getElem_set, counts_at (xs := xs ++ [x]) h2, List.countP_append]
  split
  · rename_i h; subst h; simp [hx]; omega
  · rename_i h
    rw [counts_at (xs := xs) h2]
    have : ¬ (i : Int) = (j : Int) := by omega
    simp [hx, this]
end Go.Wk.Lf
