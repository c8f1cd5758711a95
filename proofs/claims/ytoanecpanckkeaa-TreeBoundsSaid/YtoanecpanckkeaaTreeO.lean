/- TreeSorts, plainly. -/
import Derived.Test.YtoanecpanckkeaaTreeS
import Derived.Test.YtoanecpanckkeaaTreeN
import Derived.Test.YtoanecpanckkeaaLwTreeSorts
namespace Go.Wk.Lf
open Go.Shelf Go.Sort Go.Proofs
set_option linter.unusedVariables false
set_option linter.unusedSimpArgs false

theorem any_perm {α : Type} {a b : List α} (h : a.Perm b) (p : α → Bool) : a.any p = b.any p := by
  rw [Bool.eq_iff_iff, List.any_eq_true, List.any_eq_true]
  exact ⟨fun ⟨x, h1, h2⟩ => ⟨x, h.mem_iff.1 h1, h2⟩, fun ⟨x, h1, h2⟩ => ⟨x, h.mem_iff.2 h1, h2⟩⟩
theorem long_perm {a b : List File} (h : a.Perm b) : longB a = longB b := by
  unfold longB; rw [h.length_eq, any_perm h]
theorem bad_perm {a b : List File} (h : a.Perm b) : badB a = badB b := any_perm h _
theorem sortL_perm {a b : List File} (h : a.Perm b) : sortL a = sortL b := by
  unfold sortL
  rw [long_perm h, bad_perm h]
  have hn := (h.map File.path).nodup_iff
  by_cases hb : (b.map File.path).Nodup
  · rw [if_pos hb, if_pos (hn.2 hb)]
    have : isort ordFile a = isort ordFile b := sort_uniq ((isort_perm _ a).trans (h.trans (isort_perm _ b).symm)) (isort_rise ordFile_swo a) (isort_rise ordFile_swo b) (((isort_perm ordFile b).map _).nodup_iff.2 hb)
    rw [this]
  · rw [if_neg hb, if_neg fun h2 => hb (hn.1 h2)]
theorem sortL_ok {l : List File} (h : (sortL l).2 = 0) : longB l = false ∧ badB l = false ∧ (l.map File.path).Nodup ∧ sortL l = (isort ordFile l, 0) := by
  unfold sortL at h ⊢
  cases h1 : longB l with
  | true => rw [h1, if_pos rfl] at h; exact absurd h (by decide : ¬ (2 : Int) = 0)
  | false =>
    cases h2 : badB l with
    | true => rw [h1, h2, if_neg (by decide), if_pos rfl] at h; exact absurd h (by decide : ¬ (1 : Int) = 0)
    | false =>
      by_cases h3 : (l.map File.path).Nodup
      · simp [h3]
      · rw [h1, h2] at h; simp [h3] at h
theorem sortL_no {l : List File} (h : (sortL l).2 ≠ 0) : (sortL l).1 = [] := by
  unfold sortL at h ⊢
  split
  · rfl
  · split
    · rfl
    · split
      · rename_i h1 h2 h3; simp [h1, h2, h3] at h
      · rfl
theorem chk_sorted {l : List File} (h : (sortL l).2 = 0) : chkL (sortL l).1 = 0 := by
  obtain ⟨h1, h2, h3, h4⟩ := sortL_ok h
  have hp := isort_perm ordFile l
  rw [h4]
  unfold chkL
  rw [if_neg (by rw [long_perm hp, h1]; decide), if_pos ⟨by rw [bad_perm hp, h2], rise_strict (isort_rise ordFile_swo l) ((hp.map _).nodup_iff.2 h3)⟩]
def sizeL (l : List File) : Nat := (l.map fun f => f.data.length).sum
theorem sizeL_perm {a b : List File} (h : a.Perm b) : sizeL a = sizeL b := (h.map _).sum_nat
theorem sizeL_le (l : List File) (c : Nat) (h : ∀ f ∈ l, f.data.length ≤ c) : sizeL l ≤ l.length * c := by
  induction l with
  | nil => simp [sizeL]
  | cons x l ih =>
    have h1 := h x (by simp)
    have h2 := ih fun f hf => h f (by simp [hf])
    simp only [sizeL, List.map_cons, List.sum_cons, List.length_cons, Nat.add_mul, Nat.one_mul] at h2 ⊢
    omega
theorem sizeL_snoc (l : List File) (x : File) : sizeL (l ++ [x]) = sizeL l + x.data.length := by simp [sizeL]
theorem size_eq (l : List File) (hl : l.length < 4611686018427387904) (hs : sizeL l < 4611686018427387904) : tree_Size l = some (sizeL l : Int) := by
  unfold tree_Size
  have hle : ∀ i, sizeL (l.take i) ≤ sizeL l := fun i => by
    have : sizeL (l.take i ++ l.drop i) = sizeL (l.take i) + sizeL (l.drop i) := by
      generalize l.take i = a
      generalize l.drop i = b
      simp [sizeL]
    rw [List.take_append_drop] at this; omega
  refine loop_eq (S := Int × Int) (σ := Unit) (fun i _ => ((sizeL (l.take i) : Int), (i : Int))) l.length (fun _ _ => True) _ (i0 := 0) (s0 := ()) rfl (Nat.zero_le _) trivial hl ?_ ?_
  · intro rec i _ hi _ hrec
    have hr := hrec () trivial
    have h1 := hle (i + 1)
    rw [take_snoc' hi, sizeL_snoc] at hr h1
    simp only [tree_Size.l2]
    rw [if_t (lt_t hi), ix_lt hi, bd_mk, wr_succ (by omega), wr_id (by omega) (by omega)]
    rw [← hr]; rfl
  · intro rec _ _
    simp only [tree_Size.l2, tree_Size.k1]
    rw [if_f (lt_f (Nat.lt_irrefl _)), List.take_length]
/-- a row turned -/
def rotL {α : Type} [Inhabited α] (l : List α) (k i : Nat) : List α := (List.range i).map fun j => l.getD ((j + k) % l.length) default
theorem rot_perm {α : Type} [Inhabited α] (l : List α) (k : Nat) (hk : k < l.length) : (rotL l k l.length).Perm l := by
  have : rotL l k l.length = l.drop k ++ l.take k := by
    apply List.ext_getElem
    · simp [rotL]; omega
    · intro i h1 h2
      have hi : i < l.length := by simpa [rotL] using h1
      have hm : (i + k) % l.length < l.length := Nat.mod_lt _ (by omega)
      simp only [rotL, List.getElem_map, List.getElem_range, List.getD_eq_getElem?_getD, List.getElem?_eq_getElem hm, Option.getD_some]
      rw [List.getElem_append]
      split
      · rename_i h3
        rw [List.length_drop] at h3
        rw [List.getElem_drop]
        congr 1
        rw [Nat.mod_eq_of_lt (by omega)]; omega
      · rename_i h3
        rw [List.length_drop] at h3
        rw [List.getElem_take]
        congr 1
        simp only [List.length_drop]
        rw [Nat.mod_eq_sub_mod (by omega), Nat.mod_eq_of_lt (by omega)]; omega
  rw [this]
  have h2 := List.perm_append_comm (l₁ := l.drop k) (l₂ := l.take k)
  rwa [List.take_append_drop] at h2
theorem rem_nat (a n : Nat) (hn : 0 < n) : rem (a : Int) (n : Int) = some ((a % n : Nat) : Int) := by
  unfold rem
  rw [if_neg (by omega), Int.ofNat_tmod]
theorem found_eq (l s : List File) (e : Int) (i : Nat) (hi : i < l.length) (hm : l[i] ∈ s) (hsl : s.length < 4611686018427387904) (hd : ∀ f ∈ s, f.data.length < 4611686018427387904) (rec : Int → Option Bool) :
    loop (cellarerlaw05_TreeSorts.l6 l (s, e) (i : Int) rec) (false, 0) = cellarerlaw05_TreeSorts.k5 (i : Int) rec true := by
  refine loop_eq (S := Bool × Int) (σ := Bool) (fun j b => (b, (j : Int))) s.length (fun j b => ∀ q (hq : q < s.length), q < j → s[q] = l[i] → b = true) _ (i0 := 0) (s0 := false) rfl (Nat.zero_le _) (by intro q _ h; omega) hsl ?_ ?_
  · intro rec2 j b hj hI hrec
    simp only [cellarerlaw05_TreeSorts.l6]
    rw [if_t (lt_t hj)]
    have next : ∀ b', ((b = true) → b' = true) → (s[j] = l[i] → b' = true) → rec2 (b', ((j + 1 : Nat) : Int)) = cellarerlaw05_TreeSorts.k5 (i : Int) rec true := fun b' h1 h2 => hrec b' fun q hq hqj hqe => by
      rcases (by omega : q < j ∨ q = j) with h3 | rfl
      · exact h1 (hI q hq h3 hqe)
      · exact h2 hqe
    cases b with
    | true =>
      rw [only_f (by simp), bd_mk, only_f (by simp), bd_mk, only_f (by simp), bd_mk, only_f (by simp), bd_mk, only_f (by simp), bd_mk, wr_succ (by omega)]
      exact next _ (fun _ => by simp) (fun _ => by simp)
    | false =>
      rw [only_t (by simp), ix_lt hj, bd_mk, only_t (by simp), ix_lt hi, bd_mk]
      by_cases hp : s[j].path = l[i].path
      · rw [only_t (by simp [hp]), bd_mk, only_t (by simp [hp]), bd_mk, only_t (by simp [hp]), bytes_eq _ _ (hd _ (List.getElem_mem hj)), bd_mk, wr_succ (by omega)]
        exact next _ (fun h => by cases h) (fun h => by simp [h])
      · rw [only_f (by simp [hp]), bd_mk, only_f (by simp [hp]), bd_mk, only_f (by simp [hp]), bd_mk, wr_succ (by omega)]
        exact next _ (fun h => by cases h) (fun h => absurd (by rw [h]) hp)
  · intro rec2 b hI
    simp only [cellarerlaw05_TreeSorts.l6]
    rw [if_f (lt_f (Nat.lt_irrefl _))]
    obtain ⟨q, hq, hqe⟩ := List.getElem_of_mem hm
    rw [hI q hq hq hqe]
theorem treeSorts_true (l : List File) (x : Int) (_ : okL File.ok l) (_ : (Lit.int .i64 x).wf = true) : cellarerlaw05_TreeSorts l x = some true := by
  unfold cellarerlaw05_TreeSorts
  obtain ⟨p, hp, hp2⟩ := heavy_eq l
  rw [hp, bd_mk]
  cases p with
  | true => rfl
  | false =>
    obtain ⟨hl, hd⟩ := hp2 rfl
    rw [if_neg (by simp), sort_eq, bd_mk]
    -- behind the turning
    have key : ∀ o : List File, o.Perm l → cellarerlaw05_TreeSorts.k1 l (sortL l) o = some true := by
      intro o ho
      have hsl : (sortL l).1.length ≤ 20 := by
        by_cases h0 : (sortL l).2 = 0
        · obtain ⟨_, _, _, h4⟩ := sortL_ok h0
          rw [h4]; simpa [isort_len] using hl
        · rw [sortL_no h0]; simp
      unfold cellarerlaw05_TreeSorts.k1
      rw [sort_eq, bd_mk, sortL_perm ho, only_t (by simp), same_eq _ _ (by omega), bd_mk, if_neg (by simp)]
      by_cases h0 : (sortL l).2 = 0
      · rw [if_neg (by simp [h0])]
        obtain ⟨h1, h2, h3, h4⟩ := sortL_ok h0
        have hpm := isort_perm ordFile l
        have h5 : sortL (sortL l).1 = sortL l := by rw [h4]; exact (sortL_perm hpm).trans h4
        have hlen : (sortL l).1.length = l.length := by rw [h4]; exact isort_len _ _
        have hc := chk_sorted h0
        have hsz1 : sizeL (sortL l).1 = sizeL l := by rw [h4]; exact sizeL_perm hpm
        have hsz2 := sizeL_le l 500 fun f hf => (hd f hf).1
        have hsz3 : l.length * 500 ≤ 20 * 500 := Nat.mul_le_mul_right _ hl
        rw [sort_eq, bd_mk, h5, only_t (by simp [h0, hlen]), check_eq, bd_mk, hc, only_t (by simp [h0, hlen]), same_eq _ _ (by omega), bd_mk, only_t (by simp [h0, hlen]), size_eq _ (by omega) (by omega), bd_mk, only_t (by simp [h0, hlen]), size_eq _ (by omega) (by omega), bd_mk, hsz1]
        rw [if_neg (by simp [h0, hlen])]
        refine loop_eq (S := Int) (σ := Unit) (fun i _ => (i : Int)) l.length (fun _ _ => True) _ (i0 := 0) (s0 := ()) rfl (Nat.zero_le _) trivial (by omega) ?_ ?_
        · intro rec i _ hi _ hrec
          simp only [cellarerlaw05_TreeSorts.l3]
          rw [if_t (lt_t hi), show sortL l = ((sortL l).1, (sortL l).2) from rfl]
          rw [found_eq l _ _ i hi (by rw [h4]; exact mem_isort.2 (List.getElem_mem hi)) (by omega) (fun f hf => by rw [h4] at hf; have := (hd f (mem_isort.1 hf)).1; omega)]
          simp only [cellarerlaw05_TreeSorts.k5, cellarerlaw05_TreeSorts.k4, Bool.not_true, Bool.false_eq_true, if_false]
          rw [wr_succ (by omega)]
          exact hrec () trivial
        · intro rec _ _
          simp only [cellarerlaw05_TreeSorts.l3, cellarerlaw05_TreeSorts.k2]
          rw [if_f (lt_f (Nat.lt_irrefl _)), wakes05, bd_mk]
      · rw [if_pos (by simp [h0]), sortL_no h0, only_t (by simp), wakes05, bd_mk]; rfl
    by_cases hn : l.length = 0
    · have : l = [] := List.eq_nil_of_length_eq_zero hn
      subst this
      refine loop_eq (S := List File × Int) (σ := Unit) (fun i _ => ([], (i : Int))) 0 (fun _ _ => True) _ (i0 := 0) (s0 := ()) rfl (Nat.zero_le _) trivial (by omega) ?_ ?_
      · intro rec i _ hi; omega
      · intro rec _ _
        simp only [cellarerlaw05_TreeSorts.l7]
        rw [if_f (by simp)]
        exact key [] (List.Perm.refl _)
    · obtain ⟨k, hk, hr⟩ := rem_turn x l.length (by omega) (by omega)
      refine loop_eq (S := List File × Int) (σ := Unit) (fun i _ => (rotL l k i, (i : Int))) l.length (fun _ _ => True) _ (i0 := 0) (s0 := ()) rfl (Nat.zero_le _) trivial (by omega) ?_ ?_
      · intro rec i _ hi _ hrec
        simp only [cellarerlaw05_TreeSorts.l7]
        have hm : (i + k) % l.length < l.length := Nat.mod_lt _ (by omega)
        rw [if_t (lt_t hi), hr, bd_mk, wr_id (x := (k : Int)) (by omega) (by omega), wr_id (by omega) (by omega), show (i : Int) + (k : Int) = ((i + k : Nat) : Int) from by omega, rem_nat _ _ (by omega), bd_mk, ix_lt hm, bd_mk, app_ok (by simp [rotL]; omega), bd_mk, wr_succ (by omega)]
        have h1 := hrec () trivial
        have h2 : rotL l k (i + 1) = rotL l k i ++ [l[(i + k) % l.length]] := by
          simp [rotL, List.range_succ, hm]
        rw [h2] at h1; exact h1
      · intro rec _ _
        simp only [cellarerlaw05_TreeSorts.l7]
        rw [if_f (lt_f (Nat.lt_irrefl _))]
        exact key _ (rot_perm l k hk)
end Go.Wk.Lf
