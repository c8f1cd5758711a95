/- Lists: each once of what stands side by side. -/
namespace Go.Wk
section
variable {α : Type} [DecidableEq α]
def cstep (acc : List α) (y : α) : List α := if acc.getLast? = some y then acc else acc ++ [y]
/-- of equals that stand side by side the first one -/
def compactL (l : List α) : List α := l.foldl cstep []
theorem compactL_snoc (l : List α) (y : α) : compactL (l ++ [y]) = cstep (compactL l) y := by simp [compactL]
theorem snoc_ind {β : Type} {p : List β → Prop} (h0 : p []) (h1 : ∀ l y, p l → p (l ++ [y])) : ∀ l, p l := by
  intro l
  have : ∀ r : List β, p r.reverse := by
    intro r
    induction r with
    | nil => exact h0
    | cons x r ih => rw [List.reverse_cons]; exact h1 _ _ ih
  have := this l.reverse
  rwa [List.reverse_reverse] at this
theorem last_cstep (acc : List α) (y : α) : (cstep acc y).getLast? = some y := by
  unfold cstep
  split
  · assumption
  · simp
theorem last_compactL (l : List α) : (compactL l).getLast? = l.getLast? := by
  refine snoc_ind (p := fun l => (compactL l).getLast? = l.getLast?) rfl (fun l y _ => ?_) l
  rw [compactL_snoc, last_cstep]; simp
theorem take_snoc {β : Type} {l : List β} {j : Nat} {e : β} (h : l[j]? = some e) : l.take (j + 1) = l.take j ++ [e] := by
  obtain ⟨h1, h2⟩ := List.getElem?_eq_some_iff.1 h
  rw [List.take_succ_eq_append_getElem h1, h2]
theorem last_take {β : Type} {l : List β} {j : Nat} {e : β} (h : l[j]? = some e) : (l.take (j + 1)).getLast? = some e := by
  rw [take_snoc h]; simp
theorem compactL_one (l : List α) (h : l.length < 2) : compactL l = l := by
  match l, h with
  | [], _ => rfl
  | [x], _ => rfl
theorem compactL_len (l : List α) : (compactL l).length ≤ l.length := by
  refine snoc_ind (p := fun l => (compactL l).length ≤ l.length) (Nat.le_refl _) (fun l y ih => ?_) l
  rw [compactL_snoc]
  unfold cstep
  split
  · simp; omega
  · simp; omega
/-- a step of the loop that finds two alike, or not -/
theorem compactL_step {l : List α} {j : Nat} {a b : α} (ha : l[j]? = some a) (hb : l[j + 1]? = some b) : compactL (l.take (j + 2)) = if a = b then compactL (l.take (j + 1)) else compactL (l.take (j + 1)) ++ [b] := by
  rw [show j + 2 = (j + 1) + 1 from rfl, take_snoc hb, compactL_snoc]
  unfold cstep
  rw [last_compactL, last_take ha]
  by_cases h : a = b
  · rw [if_pos (by rw [h]), if_pos h]
  · rw [if_neg (by simpa using h), if_neg h]
theorem take_set_succ {β : Type} {l : List β} {i : Nat} (e : β) (h : i < l.length) : (l.set i e).take (i + 1) = l.take i ++ [e] := by
  have h1 : (l.set i e)[i]? = some e := by simp [h]
  rw [take_snoc h1]
  congr 1
  rw [List.take_set_of_le (Nat.le_refl _)]
end
end Go.Wk
