/- What tree.Name and tree.Check tell, plainly. -/
import Derived.Test.YtoanecpanckkeaaLfM1
namespace Go.Wk.Lf
open Go.Shelf Go.Sort Go.Proofs
set_option linter.unusedVariables false
set_option linter.unusedSimpArgs false

/-- a loop that looks at each number below n -/
theorem loop_all {S A : Type} {F : (S → Option A) → S → Option A} (mk : Nat → S) (n : Nat) (ok : Nat → Bool) (K B : Option A) {x0 : S} (hx : x0 = mk 0) (hn : n < 4611686018427387904)
    (hstep : ∀ rec i, i < n → F rec (mk i) = if ok i = true then rec (mk (i + 1)) else B) (hend : ∀ rec, F rec (mk n) = K) : loop F x0 = if (∀ i, i < n → ok i = true) then K else B := by
  refine loop_eq (σ := Unit) (fun i _ => mk i) n (fun i _ => ∀ j, j < i → ok j = true) _ (i0 := 0) (s0 := ()) hx (Nat.zero_le _) (by intro j h; omega) hn ?_ ?_
  · intro rec i _ hi hI hrec
    rw [hstep rec i hi]
    by_cases h : ok i = true
    · rw [if_pos h]
      exact hrec () fun j hj => by
        rcases (by omega : j < i ∨ j = i) with h1 | rfl
        · exact hI j h1
        · exact h
    · rw [if_neg h, if_neg fun hall => h (hall i hi)]
  · intro rec _ hI
    rw [hend, if_pos hI]
theorem all_iff {α : Type} (l : List α) (p : α → Bool) (q : Nat → Bool) (h : ∀ i (hi : i < l.length), q i = p l[i]) : (∀ i, i < l.length → q i = true) ↔ l.all p = true := by
  rw [List.all_eq_true]
  constructor
  · intro h1 x hx
    obtain ⟨i, hi, rfl⟩ := List.getElem_of_mem hx
    rw [← h i hi]; exact h1 i hi
  · intro h1 i hi
    rw [h i hi]; exact h1 _ (List.getElem_mem hi)

def seen (b : UInt8) : Bool := decide (33 ≤ b.toNat) && decide (b.toNat ≤ 126)
def nameB (s : List UInt8) : Bool := (decide (1 ≤ s.length) && decide (s.length ≤ 20)) && s.all seen
theorem name_eq (s : List UInt8) : tree_Name s = some (nameB s) := by
  unfold tree_Name nameB
  by_cases h1 : s.length < 1 ∨ 20 < s.length
  · rw [if_pos (by simp only [Bool.or_eq_true, decide_eq_true_eq]; omega)]
    have : (decide (1 ≤ s.length) && decide (s.length ≤ 20)) = false := by
      simp only [Bool.and_eq_false_iff, decide_eq_false_iff_not]; omega
    rw [this]; rfl
  · rw [if_neg (by simp only [Bool.or_eq_true, decide_eq_true_eq]; omega)]
    have h2 : (decide (1 ≤ s.length) && decide (s.length ≤ 20)) = true := by
      simp only [Bool.and_eq_true, decide_eq_true_eq]; omega
    rw [h2, Bool.true_and]
    rw [loop_all (x0 := (0 : Int)) (fun i => (i : Int)) s.length (fun i => seen (s.getD i 0)) (some true) (some false) rfl (by omega) ?_ ?_]
    · by_cases h : s.all seen = true
      · rw [h, if_pos ((all_iff s seen _ fun i hi => by simp [hi]).2 h)]
      · rw [Bool.not_eq_true] at h
        rw [h, if_neg fun h3 => by rw [(all_iff s seen _ fun i hi => by simp [hi]).1 h3] at h; cases h]
    · intro rec i hi
      simp only [tree_Name.l2]
      rw [if_t (lt_t hi), ix_lt hi, bd_mk]
      simp only [hi, List.getD_eq_getElem?_getD, List.getElem?_eq_getElem, Option.getD_some, seen]
      by_cases h33 : (s[i].toNat : Int) < 33
      · rw [only_f (by simp; omega), bd_mk, if_pos (by simp [h33])]
        rw [if_neg (by simp only [Bool.and_eq_true, decide_eq_true_eq]; omega)]
      · rw [only_t (by simp; omega), bd_mk]
        by_cases h126 : (126 : Int) < (s[i].toNat : Int)
        · rw [if_pos (by simp [h126]), if_neg (by simp only [Bool.and_eq_true, decide_eq_true_eq]; omega)]
        · rw [if_neg (by simp only [Bool.or_eq_true, decide_eq_true_eq]; omega), if_pos (by simp only [Bool.and_eq_true, decide_eq_true_eq]; omega), wr_succ (by omega)]
    · intro rec
      simp only [tree_Name.l2, tree_Name.k1]
      rw [if_f (lt_f (Nat.lt_irrefl _))]
def longB (l : List File) : Bool := decide (6 < l.length) || l.any fun f => decide (200 < f.data.length)
theorem index_long (l : List File) (hl : l.length < 4611686018427387904) : ∃ r, slices_IndexFunc_api_File_api_File_tree_long_1 l = some r ∧ (0 ≤ r ↔ (l.any fun f => decide (200 < f.data.length)) = true) := by
  unfold slices_IndexFunc_api_File_api_File_tree_long_1
  refine loop_for (S := Int) (σ := Unit) (fun i _ => (i : Int)) l.length (fun i _ => ∀ j (hj : j < l.length), j < i → ¬ 200 < l[j].data.length) (fun o => ∃ r, o = some r ∧ (0 ≤ r ↔ _)) (i0 := 0) (s0 := ()) rfl (Nat.zero_le _) (by intro j _ h; omega) hl ?_ ?_
  · intro rec i _ hi hI hrec
    simp only [slices_IndexFunc_api_File_api_File_tree_long_1.l2, tree_long_1]
    rw [if_t (lt_t hi), ix_lt hi, bd_mk, bd_mk]
    by_cases h : 200 < l[i].data.length
    · rw [if_pos (by simp only [decide_eq_true_eq]; omega)]
      refine ⟨_, rfl, ⟨fun _ => ?_, fun _ => Int.natCast_nonneg _⟩⟩
      rw [List.any_eq_true]; exact ⟨_, List.getElem_mem hi, by simpa using h⟩
    · rw [if_neg (by simp only [decide_eq_true_eq]; omega), wr_succ (by omega)]
      refine hrec () fun j hj hji => ?_
      rcases (by omega : j < i ∨ j = i) with h1 | rfl
      · exact hI j hj h1
      · exact h
  · intro rec _ hI
    simp only [slices_IndexFunc_api_File_api_File_tree_long_1.l2, slices_IndexFunc_api_File_api_File_tree_long_1.k1]
    rw [if_f (lt_f (Nat.lt_irrefl _))]
    refine ⟨_, rfl, ⟨fun h => by omega, fun h => ?_⟩⟩
    rw [List.any_eq_true] at h
    obtain ⟨x, hx, h2⟩ := h
    obtain ⟨j, hj, rfl⟩ := List.getElem_of_mem hx
    exact absurd (by simpa using h2) (hI j hj hj)
theorem long_eq (l : List File) : tree_long l = some (longB l) := by
  unfold tree_long longB
  by_cases h : 6 < l.length
  · rw [only_f (by simp; omega), bd_mk]
    have h' : (6 : Int) < (l.length : Int) := by omega
    simp [h, h']
  · rw [only_t (by simp; omega)]
    obtain ⟨r, h1, h2⟩ := index_long l (by omega)
    simp only [slices_ContainsFunc_api_File_api_File_tree_long_1, h1, bd_mk]
    have h' : ¬ (6 : Int) < (l.length : Int) := by omega
    simp only [h, h', decide_false, Bool.false_or]
    congr 1
    rw [Bool.eq_iff_iff, decide_eq_true_eq]; exact h2
def badB (l : List File) : Bool := l.any fun f => !nameB f.path
theorem cloneB_eq (l : List UInt8) (hl : l.length ≤ 1073741824) : slices_Clone_byte_byte l = some l := by
  unfold slices_Clone_byte_byte
  rw [app_ok (by simpa using hl), bd_mk]; rfl
def risesB (l : List File) : Prop := l.Pairwise fun a b => sLt a.path b.path = true
theorem rises_adj (l : List File) : risesB l ↔ ∀ i (h : i < l.length), 0 < i → sLt (l[i - 1]'(by omega)).path l[i].path = true := by
  unfold risesB
  constructor
  · intro h i hi h0
    exact List.pairwise_iff_getElem.1 h (i - 1) i (by omega) hi (by omega)
  · intro h
    rw [List.pairwise_iff_getElem]
    intro i j hi hj hij
    induction j with
    | zero => omega
    | succ j ih =>
      have h1 := h (j + 1) hj (by omega)
      rcases (by omega : i = j ∨ i < j) with rfl | h2
      · exact h1
      · exact sLt_trans (ih (by omega) h2) h1
theorem long_f {l : List File} (h : longB l = false) : l.length ≤ 6 ∧ ∀ f ∈ l, f.data.length ≤ 200 := by
  simp only [longB, Bool.or_eq_false_iff, decide_eq_false_iff_not, List.any_eq_false] at h
  exact ⟨by omega, fun f hf => by have := h.2 f hf; simp at this; omega⟩
instance (l : List File) : Decidable (risesB l) := by unfold risesB; infer_instance
def chkL (l : List File) : Int := if longB l = true then 2 else if badB l = false ∧ risesB l then 0 else 1
theorem check_eq (l : List File) : tree_Check l = some (chkL l) := by
  unfold tree_Check chkL
  rw [long_eq, bd_mk]
  cases hL : longB l with
  | true => rfl
  | false =>
    obtain ⟨hl, hd⟩ := long_f hL
    simp only [Bool.false_eq_true, if_false]
    rw [loop_all (x0 := (0 : Int)) (fun i => (i : Int)) l.length (fun i => nameB (l.getD i default).path && (!decide (0 < i) || sLt (l.getD (i - 1) default).path (l.getD i default).path)) (some 0) (some 1) rfl (by omega) ?_ ?_]
    · have hiff : (∀ i, i < l.length → (nameB (l.getD i default).path && (!decide (0 < i) || sLt (l.getD (i - 1) default).path (l.getD i default).path)) = true) ↔ (badB l = false ∧ risesB l) := by
        constructor
        · intro h
          refine ⟨?_, (rises_adj l).2 fun i hi h0 => ?_⟩
          · unfold badB
            rw [List.any_eq_false]
            intro x hx
            obtain ⟨j, hj, rfl⟩ := List.getElem_of_mem hx
            have h1 := h j hj
            simp only [List.getD_eq_getElem?_getD, List.getElem?_eq_getElem hj, Option.getD_some, Bool.and_eq_true] at h1
            simp [h1.1]
          · have h1 := h i hi
            have hi' : i - 1 < l.length := by omega
            simp only [List.getD_eq_getElem?_getD, List.getElem?_eq_getElem hi, List.getElem?_eq_getElem hi', Option.getD_some, Bool.and_eq_true, h0, decide_true, Bool.not_true, Bool.false_or] at h1
            exact h1.2
        · rintro ⟨h1, h2⟩ i hi
          unfold badB at h1
          rw [List.any_eq_false] at h1
          have h3 := h1 _ (List.getElem_mem hi)
          simp only [Bool.not_eq_true', Bool.not_eq_false] at h3
          simp only [List.getD_eq_getElem?_getD, List.getElem?_eq_getElem hi, Option.getD_some, h3, Bool.true_and]
          by_cases h0 : 0 < i
          · have hi' : i - 1 < l.length := by omega
            simp only [List.getElem?_eq_getElem hi', Option.getD_some, h0, decide_true, Bool.not_true, Bool.false_or]
            exact (rises_adj l).1 h2 i hi h0
          · simp [h0]
      by_cases h : badB l = false ∧ risesB l
      · rw [if_pos h, if_pos (hiff.2 h)]
      · rw [if_neg h, if_neg fun h2 => h (hiff.1 h2)]
    · intro rec i hi
      simp only [tree_Check.l2]
      rw [if_t (lt_t hi), ix_lt hi, bd_mk, name_eq, bd_mk]
      simp only [List.getD_eq_getElem?_getD, List.getElem?_eq_getElem hi, Option.getD_some]
      cases hN : nameB l[i].path with
      | false => rw [only_f (by simp), bd_mk]; rfl
      | true =>
        by_cases h0 : 0 < i
        · have hi' : i - 1 < l.length := by omega
          have h0' : (0 : Int) < (i : Int) := by omega
          rw [only_t (by simp; omega), wr_pred h0 (by omega), ix_lt hi', bd_mk]
          simp only [List.getElem?_eq_getElem hi', Option.getD_some, h0, h0', decide_true, Bool.not_true, Bool.false_or, Bool.true_and]
          have hg := gtr_eq l[i].path l[i - 1].path
          cases hc : (sLt l[i].path l[i - 1].path || l[i].path == l[i - 1].path) with
          | true => rw [hc] at hg; rw [← hg]; rfl
          | false => rw [hc] at hg; rw [← hg, if_neg (by simp), wr_succ (by omega)]; rfl
        · have h0' : ¬ (0 : Int) < (i : Int) := by omega
          rw [only_f (by simp; omega), bd_mk]
          simp only [h0, h0', decide_false, Bool.false_and, Bool.not_true, Bool.or_false, Bool.false_eq_true, if_false, Bool.not_false, Bool.true_or, Bool.and_true, if_true]
          rw [wr_succ (by omega)]
    · intro rec
      simp only [tree_Check.l2, tree_Check.k1]
      rw [if_f (lt_f (Nat.lt_irrefl _))]
end Go.Wk.Lf
