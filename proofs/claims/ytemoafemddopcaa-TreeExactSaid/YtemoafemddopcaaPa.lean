/- What tree.Name, tree.Sort, tree.Check and their like tell, plainly. -/
import Derived.Test.YtemoafemddopcaaLfC
import Derived.Test.YtemoafemddopcaaBc
namespace Go.Wk.Lf
open Go.Shelf Go.Sort Go.Proofs
set_option linter.unusedVariables false
set_option linter.unusedSimpArgs false

/-- a loop that looks at each number below n -/
theorem loop_all {S A : Type} {F : (S → Option A) → S → Option A} (mk : Nat → S) (n : Nat) (ok : Nat → Bool) (K B : Option A) {x0 : S} (hx : x0 = mk 0) (hn : n < 4611686018427387904)
    (hstep : ∀ rec i, i < n → F rec (mk i) = if ok i = true then rec (mk (i + 1)) else B) (hend : ∀ rec, F rec (mk n) = K) : loop F x0 = if (∀ i, i < n → ok i = true) then K else B := by
  refine loop_eq (σ := Unit) (fun i _ => mk i) n (fun i _ => ∀ j, j < i → ok j = true) _ (i0 := 0) (s0 := ()) hx (Nat.zero_le _) (by intro j h; omega) hn ?_ ?_
  · intro rec i _ hi hI hrec
    rw [hstep rec i hi]
    by_cases h : ok i = true
    · rw [if_pos h]
      exact hrec () fun j hj => by
        rcases (by omega : j < i ∨ j = i) with h1 | rfl
        · exact hI j h1
        · exact h
    · rw [if_neg h, if_neg fun hall => h (hall i hi)]
  · intro rec _ hI
    rw [hend, if_pos hI]
theorem all_iff {α : Type} (l : List α) (p : α → Bool) (q : Nat → Bool) (h : ∀ i (hi : i < l.length), q i = p l[i]) : (∀ i, i < l.length → q i = true) ↔ l.all p = true := by
  rw [List.all_eq_true]
  constructor
  · intro h1 x hx
    obtain ⟨i, hi, rfl⟩ := List.getElem_of_mem hx
    rw [← h i hi]; exact h1 i hi
  · intro h1 i hi
    rw [h i hi]; exact h1 _ (List.getElem_mem hi)

def seen (b : UInt8) : Bool := decide (33 ≤ b.toNat) && decide (b.toNat ≤ 126)
def nameB (s : List UInt8) : Bool := (decide (1 ≤ s.length) && decide (s.length ≤ 20)) && s.all seen
theorem name_eq (s : List UInt8) : tree_Name s = some (nameB s) := by
  unfold tree_Name nameB
  by_cases h1 : s.length < 1 ∨ 20 < s.length
  · rw [if_pos (by simp only [Bool.or_eq_true, decide_eq_true_eq]; omega)]
    have : (decide (1 ≤ s.length) && decide (s.length ≤ 20)) = false := by
      simp only [Bool.and_eq_false_iff, decide_eq_false_iff_not]; omega
    rw [this]; rfl
  · rw [if_neg (by simp only [Bool.or_eq_true, decide_eq_true_eq]; omega)]
    have h2 : (decide (1 ≤ s.length) && decide (s.length ≤ 20)) = true := by
      simp only [Bool.and_eq_true, decide_eq_true_eq]; omega
    rw [h2, Bool.true_and]
    rw [loop_all (x0 := (0 : Int)) (fun i => (i : Int)) s.length (fun i => seen (s.getD i 0)) (some true) (some false) rfl (by omega) ?_ ?_]
    · by_cases h : s.all seen = true
      · rw [h, if_pos ((all_iff s seen _ fun i hi => by simp [hi]).2 h)]
      · rw [Bool.not_eq_true] at h
        rw [h, if_neg fun h3 => by rw [(all_iff s seen _ fun i hi => by simp [hi]).1 h3] at h; cases h]
    · intro rec i hi
      simp only [tree_Name.l2]
      rw [if_t (lt_t hi), ix_lt hi, bd_mk]
      simp only [hi, List.getD_eq_getElem?_getD, List.getElem?_eq_getElem, Option.getD_some, seen]
      by_cases h33 : (s[i].toNat : Int) < 33
      · rw [only_f (by simp; omega), bd_mk, if_pos (by simp [h33])]
        rw [if_neg (by simp only [Bool.and_eq_true, decide_eq_true_eq]; omega)]
      · rw [only_t (by simp; omega), bd_mk]
        by_cases h126 : (126 : Int) < (s[i].toNat : Int)
        · rw [if_pos (by simp [h126]), if_neg (by simp only [Bool.and_eq_true, decide_eq_true_eq]; omega)]
        · rw [if_neg (by simp only [Bool.or_eq_true, decide_eq_true_eq]; omega), if_pos (by simp only [Bool.and_eq_true, decide_eq_true_eq]; omega), wr_succ (by omega)]
    · intro rec
      simp only [tree_Name.l2, tree_Name.k1]
      rw [if_f (lt_f (Nat.lt_irrefl _))]
def longB (l : List File) : Bool := decide (6 < l.length) || l.any fun f => decide (200 < f.data.length)
theorem index_long (l : List File) (hl : l.length < 4611686018427387904) : ∃ r, slices_IndexFunc_api_File_api_File_tree_long_1 l = some r ∧ (0 ≤ r ↔ (l.any fun f => decide (200 < f.data.length)) = true) := by
  unfold slices_IndexFunc_api_File_api_File_tree_long_1
  refine loop_for (S := Int) (σ := Unit) (fun i _ => (i : Int)) l.length (fun i _ => ∀ j (hj : j < l.length), j < i → ¬ 200 < l[j].data.length) (fun o => ∃ r, o = some r ∧ (0 ≤ r ↔ _)) (i0 := 0) (s0 := ()) rfl (Nat.zero_le _) (by intro j _ h; omega) hl ?_ ?_
  · intro rec i _ hi hI hrec
    simp only [slices_IndexFunc_api_File_api_File_tree_long_1.l2, tree_long_1]
    rw [if_t (lt_t hi), ix_lt hi, bd_mk, bd_mk]
    by_cases h : 200 < l[i].data.length
    · rw [if_pos (by simp only [decide_eq_true_eq]; omega)]
      refine ⟨_, rfl, ⟨fun _ => ?_, fun _ => Int.natCast_nonneg _⟩⟩
      rw [List.any_eq_true]; exact ⟨_, List.getElem_mem hi, by simpa using h⟩
    · rw [if_neg (by simp only [decide_eq_true_eq]; omega), wr_succ (by omega)]
      refine hrec () fun j hj hji => ?_
      rcases (by omega : j < i ∨ j = i) with h1 | rfl
      · exact hI j hj h1
      · exact h
  · intro rec _ hI
    simp only [slices_IndexFunc_api_File_api_File_tree_long_1.l2, slices_IndexFunc_api_File_api_File_tree_long_1.k1]
    rw [if_f (lt_f (Nat.lt_irrefl _))]
    refine ⟨_, rfl, ⟨fun h => by omega, fun h => ?_⟩⟩
    rw [List.any_eq_true] at h
    obtain ⟨x, hx, h2⟩ := h
    obtain ⟨j, hj, rfl⟩ := List.getElem_of_mem hx
    exact absurd (by simpa using h2) (hI j hj hj)
theorem long_eq (l : List File) : tree_long l = some (longB l) := by
  unfold tree_long longB
  by_cases h : 6 < l.length
  · rw [only_f (by simp; omega), bd_mk]
    have h' : (6 : Int) < (l.length : Int) := by omega
    simp [h, h']
  · rw [only_t (by simp; omega)]
    obtain ⟨r, h1, h2⟩ := index_long l (by omega)
    simp only [slices_ContainsFunc_api_File_api_File_tree_long_1, h1, bd_mk]
    have h' : ¬ (6 : Int) < (l.length : Int) := by omega
    simp only [h, h', decide_false, Bool.false_or]
    congr 1
    rw [Bool.eq_iff_iff, decide_eq_true_eq]; exact h2
def badB (l : List File) : Bool := l.any fun f => !nameB f.path
theorem bad_eq (l : List File) (hl : l.length < 4611686018427387904) : slices_ContainsFunc_api_File_api_File_tree_Sort_1 l = some (badB l) := by
  have key : ∃ r, slices_IndexFunc_api_File_api_File_tree_Sort_1 l = some r ∧ (0 ≤ r ↔ badB l = true) := by
    unfold slices_IndexFunc_api_File_api_File_tree_Sort_1
    refine loop_for (S := Int) (σ := Unit) (fun i _ => (i : Int)) l.length (fun i _ => ∀ j (hj : j < l.length), j < i → nameB l[j].path = true) (fun o => ∃ r, o = some r ∧ (0 ≤ r ↔ _)) (i0 := 0) (s0 := ()) rfl (Nat.zero_le _) (by intro j _ h; omega) hl ?_ ?_
    · intro rec i _ hi hI hrec
      simp only [slices_IndexFunc_api_File_api_File_tree_Sort_1.l2, tree_Sort_1, name_eq, bd_mk]
      rw [if_t (lt_t hi), ix_lt hi, bd_mk]
      cases h : nameB l[i].path with
      | false =>
        rw [if_pos (by simp)]
        refine ⟨_, rfl, ⟨fun _ => ?_, fun _ => Int.natCast_nonneg _⟩⟩
        unfold badB
        rw [List.any_eq_true]; exact ⟨_, List.getElem_mem hi, by simp [h]⟩
      | true =>
        rw [if_neg (by simp), wr_succ (by omega)]
        refine hrec () fun j hj hji => ?_
        rcases (by omega : j < i ∨ j = i) with h1 | rfl
        · exact hI j hj h1
        · exact h
    · intro rec _ hI
      simp only [slices_IndexFunc_api_File_api_File_tree_Sort_1.l2, slices_IndexFunc_api_File_api_File_tree_Sort_1.k1]
      rw [if_f (lt_f (Nat.lt_irrefl _))]
      refine ⟨_, rfl, ⟨fun h => by omega, fun h => ?_⟩⟩
      unfold badB at h
      rw [List.any_eq_true] at h
      obtain ⟨x, hx, h2⟩ := h
      obtain ⟨j, hj, rfl⟩ := List.getElem_of_mem hx
      rw [hI j hj hj] at h2; cases h2
  obtain ⟨r, h1, h2⟩ := key
  simp only [slices_ContainsFunc_api_File_api_File_tree_Sort_1, h1, bd_mk]
  congr 1
  rw [Bool.eq_iff_iff, decide_eq_true_eq]; exact h2
theorem cloneB_eq (l : List UInt8) (hl : l.length ≤ 1073741824) : slices_Clone_byte_byte l = some l := by
  unfold slices_Clone_byte_byte
  rw [app_ok (by simpa using hl), bd_mk]; rfl
theorem twin_eq (l : List File) (hl : l.length ≤ 1073741824) (hd : ∀ f ∈ l, f.data.length ≤ 1073741824) : tree_Twin l = some l := by
  unfold tree_Twin slices_Clone_api_File_api_File
  rw [app_ok (by simpa using hl), bd_mk, bd_mk, List.nil_append]
  refine loop_eq (S := Int × List File) (σ := Unit) (fun i _ => ((i : Int), l)) l.length (fun _ _ => True) _ (i0 := 0) (s0 := ()) rfl (Nat.zero_le _) trivial (by omega) ?_ ?_
  · intro rec i _ hi _ hrec
    simp only [tree_Twin.l2]
    rw [if_t (lt_t hi), ix_lt hi, bd_mk, cloneB_eq _ (hd _ (List.getElem_mem hi)), bd_mk, wr_succ (by omega), Int.toNat_natCast]
    rw [show File.mk l[i].path l[i].data = l[i] from rfl, List.set_getElem_self]
    exact hrec () trivial
  · intro rec _ _
    simp only [tree_Twin.l2, tree_Twin.k1]
    rw [if_f (lt_f (Nat.lt_irrefl _))]
/-- strictly rising paths -/
def risesB (l : List File) : Prop := l.Pairwise fun a b => sLt a.path b.path = true
theorem rises_nodup {l : List File} (h : risesB l) : (l.map File.path).Nodup := by
  rw [List.nodup_iff_pairwise_ne, List.pairwise_map]
  exact h.imp fun {a b} h1 e => by rw [e, sLt_irrefl] at h1; cases h1
theorem ordFile_lt (a b : File) : ordFile a b < 0 ↔ sLt a.path b.path = true := by
  have := cmpT_lt a.path b.path
  unfold ltOf at this
  rw [← this]; simp [ordFile]
theorem rise_strict {l : List File} (h : Rise ordFile l) (hn : (l.map File.path).Nodup) : risesB l := by
  rw [List.nodup_iff_pairwise_ne, List.pairwise_map] at hn
  refine (List.Pairwise.and h hn).imp fun {a b} h1 => ?_
  cases h2 : sLt a.path b.path with
  | true => rfl
  | false => exact absurd (sLt_tri h2 (by have := h1.1; rw [ordFile_lt] at this; simpa using this)) h1.2
/-- neighbours that rise: all rise -/
theorem rises_adj (l : List File) : risesB l ↔ ∀ i (h : i < l.length), 0 < i → sLt (l[i - 1]'(by omega)).path l[i].path = true := by
  unfold risesB
  constructor
  · intro h i hi h0
    exact List.pairwise_iff_getElem.1 h (i - 1) i (by omega) hi (by omega)
  · intro h
    rw [List.pairwise_iff_getElem]
    intro i j hi hj hij
    induction j with
    | zero => omega
    | succ j ih =>
      have h1 := h (j + 1) hj (by omega)
      rcases (by omega : i = j ∨ i < j) with rfl | h2
      · exact h1
      · exact sLt_trans (ih (by omega) h2) h1
theorem sort_uniq {a b : List File} (hp : a.Perm b) (ha : Rise ordFile a) (hb : Rise ordFile b) (hn : (b.map File.path).Nodup) : a = b := by
  refine List.Perm.eq_of_pairwise (le := fun x y => ¬ ordFile y x < 0) (fun x y hx hy h3 h4 => ?_) ha hb hp
  rw [ordFile_lt, Bool.not_eq_true] at h3 h4
  have he : x.path = y.path := sLt_tri h4 h3
  have hx' : x ∈ b := hp.mem_iff.1 hx
  have hy' : y ∈ b := hy
  obtain ⟨i, hi, rfl⟩ := List.getElem_of_mem hx'
  obtain ⟨j, hj, rfl⟩ := List.getElem_of_mem hy'
  rw [List.nodup_iff_pairwise_ne, List.pairwise_map, List.pairwise_iff_getElem] at hn
  rcases Nat.lt_trichotomy i j with h | h | h
  · exact absurd he (hn i j hi hj h)
  · subst h; rfl
  · exact absurd he.symm (hn j i hj hi h)
instance (l : List File) : Decidable ((l.map File.path).Nodup) := inferInstance
def sortL (l : List File) : List File × Int :=
  if longB l = true then ([], 2) else if badB l = true then ([], 1) else if (l.map File.path).Nodup then (isort ordFile l, 0) else ([], 9)
theorem long_f {l : List File} (h : longB l = false) : l.length ≤ 6 ∧ ∀ f ∈ l, f.data.length ≤ 200 := by
  simp only [longB, Bool.or_eq_false_iff, decide_eq_false_iff_not, List.any_eq_false] at h
  exact ⟨by omega, fun f hf => by have := h.2 f hf; simp at this; omega⟩
theorem sort_eq (l : List File) : tree_Sort l = some (sortL l) := by
  unfold tree_Sort sortL
  rw [long_eq, bd_mk]
  cases hL : longB l with
  | true => rfl
  | false =>
    obtain ⟨hl, hd⟩ := long_f hL
    simp only [Bool.false_eq_true, if_false]
    rw [bad_eq l (by omega), bd_mk]
    cases hB : badB l with
    | true => rfl
    | false =>
      simp only [Bool.false_eq_true, if_false]
      rw [twin_eq l (by omega) (fun f hf => by have := hd f hf; omega), bd_mk]
      refine bdS_eq ordFile_swo (by omega) fun l' hp hr => ?_
      have hl' : l'.length = l.length := hp.length_eq
      rw [loop_all (x0 := (0 : Int)) (fun i => (i : Int)) l'.length (fun i => !(decide (0 < i) && (l'.getD i default).path == (l'.getD (i - 1) default).path)) (some (l', 0)) (some ([], 9)) rfl (by omega) ?_ ?_]
      · have hnp : (l'.map File.path).Nodup ↔ (l.map File.path).Nodup := (hp.map _).nodup_iff
        by_cases hn : (l.map File.path).Nodup
        · rw [if_pos hn, if_pos]
          · rw [sort_uniq (hp.trans (isort_perm ordFile l).symm) hr (isort_rise ordFile_swo l) (((isort_perm ordFile l).map _).nodup_iff.2 hn)]
          · intro i hi
            by_cases h0 : 0 < i
            · have h1 := (rises_adj l').1 (rise_strict hr (hnp.2 hn)) i hi h0
              have hi' : i - 1 < l'.length := by omega
              simp only [h0, decide_true, Bool.true_and, List.getD_eq_getElem?_getD, List.getElem?_eq_getElem hi, List.getElem?_eq_getElem hi', Option.getD_some, Bool.not_eq_true', beq_eq_false_iff_ne, ne_eq]
              intro e; rw [e, sLt_irrefl] at h1; cases h1
            · simp [h0]
        · rw [if_neg hn, if_neg]
          intro hall
          refine hn (hnp.1 (rises_nodup ((rises_adj l').2 fun i hi h0 => ?_)))
          have h1 := hall i hi
          have hi' : i - 1 < l'.length := by omega
          simp only [h0, decide_true, Bool.true_and, List.getD_eq_getElem?_getD, List.getElem?_eq_getElem hi, List.getElem?_eq_getElem hi', Option.getD_some, Bool.not_eq_true', beq_eq_false_iff_ne, ne_eq] at h1
          have h2 := List.pairwise_iff_getElem.1 hr (i - 1) i hi' hi (by omega)
          rw [ordFile_lt, Bool.not_eq_true] at h2
          cases h3 : sLt l'[i - 1].path l'[i].path with
          | true => rfl
          | false => exact absurd (sLt_tri h2 h3) h1
      · intro rec i hi
        simp only [tree_Sort.l2]
        rw [if_t (lt_t hi)]
        by_cases h0 : 0 < i
        · have hi' : i - 1 < l'.length := by omega
          rw [only_t (by simp; omega), ix_lt hi, bd_mk, only_t (by simp; omega), wr_pred h0 (by omega), ix_lt hi', bd_mk]
          have h0' : (0 : Int) < (i : Int) := by omega
          simp only [h0, h0', decide_true, Bool.true_and, List.getD_eq_getElem?_getD, List.getElem?_eq_getElem hi, List.getElem?_eq_getElem hi', Option.getD_some]
          by_cases he : l'[i].path = l'[i - 1].path
          · rw [if_pos (by simp [he]), if_neg (by simp [he])]
          · rw [if_neg (by simp [he]), if_pos (by simp [he]), wr_succ (by omega)]
        · rw [only_f (by simp; omega), bd_mk, only_f (by simp; omega), bd_mk]
          have h0' : ¬ (0 : Int) < (i : Int) := by omega
          simp only [h0, h0', decide_false, Bool.false_and, Bool.false_eq_true, if_false, Bool.not_false, if_true]
          rw [wr_succ (by omega)]
      · intro rec
        simp only [tree_Sort.l2, tree_Sort.k1]
        rw [if_f (lt_f (Nat.lt_irrefl _))]
instance (l : List File) : Decidable (risesB l) := by unfold risesB; infer_instance
def chkL (l : List File) : Int := if longB l = true then 2 else if badB l = false ∧ risesB l then 0 else 1
theorem check_eq (l : List File) : tree_Check l = some (chkL l) := by
  unfold tree_Check chkL
  rw [long_eq, bd_mk]
  cases hL : longB l with
  | true => rfl
  | false =>
    obtain ⟨hl, hd⟩ := long_f hL
    simp only [Bool.false_eq_true, if_false]
    rw [loop_all (x0 := (0 : Int)) (fun i => (i : Int)) l.length (fun i => nameB (l.getD i default).path && (!decide (0 < i) || sLt (l.getD (i - 1) default).path (l.getD i default).path)) (some 0) (some 1) rfl (by omega) ?_ ?_]
    · have hiff : (∀ i, i < l.length → (nameB (l.getD i default).path && (!decide (0 < i) || sLt (l.getD (i - 1) default).path (l.getD i default).path)) = true) ↔ (badB l = false ∧ risesB l) := by
        constructor
        · intro h
          refine ⟨?_, (rises_adj l).2 fun i hi h0 => ?_⟩
          · unfold badB
            rw [List.any_eq_false]
            intro x hx
            obtain ⟨j, hj, rfl⟩ := List.getElem_of_mem hx
            have h1 := h j hj
            simp only [List.getD_eq_getElem?_getD, List.getElem?_eq_getElem hj, Option.getD_some, Bool.and_eq_true] at h1
            simp [h1.1]
          · have h1 := h i hi
            have hi' : i - 1 < l.length := by omega
            simp only [List.getD_eq_getElem?_getD, List.getElem?_eq_getElem hi, List.getElem?_eq_getElem hi', Option.getD_some, Bool.and_eq_true, h0, decide_true, Bool.not_true, Bool.false_or] at h1
            exact h1.2
        · rintro ⟨h1, h2⟩ i hi
          unfold badB at h1
          rw [List.any_eq_false] at h1
          have h3 := h1 _ (List.getElem_mem hi)
          simp only [Bool.not_eq_true', Bool.not_eq_false] at h3
          simp only [List.getD_eq_getElem?_getD, List.getElem?_eq_getElem hi, Option.getD_some, h3, Bool.true_and]
          by_cases h0 : 0 < i
          · have hi' : i - 1 < l.length := by omega
            simp only [List.getElem?_eq_getElem hi', Option.getD_some, h0, decide_true, Bool.not_true, Bool.false_or]
            exact (rises_adj l).1 h2 i hi h0
          · simp [h0]
      by_cases h : badB l = false ∧ risesB l
      · rw [if_pos h, if_pos (hiff.2 h)]
      · rw [if_neg h, if_neg fun h2 => h (hiff.1 h2)]
    · intro rec i hi
      simp only [tree_Check.l2]
      rw [if_t (lt_t hi), ix_lt hi, bd_mk, name_eq, bd_mk]
      simp only [List.getD_eq_getElem?_getD, List.getElem?_eq_getElem hi, Option.getD_some]
      cases hN : nameB l[i].path with
      | false => rw [only_f (by simp), bd_mk]; rfl
      | true =>
        by_cases h0 : 0 < i
        · have hi' : i - 1 < l.length := by omega
          have h0' : (0 : Int) < (i : Int) := by omega
          rw [only_t (by simp; omega), wr_pred h0 (by omega), ix_lt hi', bd_mk]
          simp only [List.getElem?_eq_getElem hi', Option.getD_some, h0, h0', decide_true, Bool.not_true, Bool.false_or, Bool.true_and]
          have hg := gtr_eq l[i].path l[i - 1].path
          cases hc : (sLt l[i].path l[i - 1].path || l[i].path == l[i - 1].path) with
          | true => rw [hc] at hg; rw [← hg]; rfl
          | false => rw [hc] at hg; rw [← hg, if_neg (by simp), wr_succ (by omega)]; rfl
        · have h0' : ¬ (0 : Int) < (i : Int) := by omega
          rw [only_f (by simp; omega), bd_mk]
          simp only [h0, h0', decide_false, Bool.false_and, Bool.not_true, Bool.or_false, Bool.false_eq_true, if_false, Bool.not_false, Bool.true_or, Bool.and_true, if_true]
          rw [wr_succ (by omega)]
    · intro rec
      simp only [tree_Check.l2, tree_Check.k1]
      rw [if_f (lt_f (Nat.lt_irrefl _))]
theorem lists_eq {α : Type} (a b : List α) (h : a.length = b.length) : (∀ i (h1 : i < a.length) (h2 : i < b.length), a[i] = b[i]) ↔ a = b :=
  ⟨fun h2 => List.ext_getElem h h2, fun e => by subst e; intros; rfl⟩
theorem bytes_eq (a b : List UInt8) (ha : a.length < 4611686018427387904) : cellarerkeep_Bytes a b = some (decide (a = b)) := by
  unfold cellarerkeep_Bytes
  by_cases hl : a.length = b.length
  · rw [if_neg (by simp; omega)]
    rw [loop_all (x0 := (0 : Int)) (fun i => (i : Int)) a.length (fun i => a.getD i 0 == b.getD i 0) (some true) (some false) rfl ha ?_ ?_]
    · have hiff : (∀ i, i < a.length → (a.getD i 0 == b.getD i 0) = true) ↔ a = b := by
        rw [← lists_eq a b hl]
        constructor
        · intro h i h1 h2
          have := h i h1
          simpa [h1, h2] using this
        · intro h i h1
          have h2 : i < b.length := by omega
          simp [h1, h2, h i h1 h2]
      by_cases h : a = b
      · rw [if_pos (hiff.2 h), decide_eq_true h]
      · rw [if_neg fun h2 => h (hiff.1 h2), decide_eq_false h]
    · intro rec i hi
      have hi' : i < b.length := by omega
      simp only [cellarerkeep_Bytes.l2]
      rw [if_t (lt_t hi), ix_lt hi, bd_mk, ix_lt hi', bd_mk]
      simp only [List.getD_eq_getElem?_getD, List.getElem?_eq_getElem hi, List.getElem?_eq_getElem hi', Option.getD_some]
      by_cases h : a[i] = b[i]
      · rw [if_neg (by simp [h]), if_pos (by simp [h]), wr_succ (by omega)]
      · rw [if_pos (by simp only [ne_eq, decide_eq_true_eq]; intro e; exact h (UInt8.toNat.inj (by omega))), if_neg (by simp [h])]
    · intro rec
      simp only [cellarerkeep_Bytes.l2, cellarerkeep_Bytes.k1]
      rw [if_f (lt_f (Nat.lt_irrefl _))]
  · rw [if_pos (by simp; omega), decide_eq_false fun e => hl (by rw [e])]
theorem file_eq {x y : File} : x = y ↔ x.path = y.path ∧ x.data = y.data := by
  constructor
  · intro h; subst h; exact ⟨rfl, rfl⟩
  · intro h; cases x; cases y; simp_all
theorem files_eq (a b : List File) (ha : a.length < 4611686018427387904) (hd : ∀ f ∈ a, f.data.length < 4611686018427387904) : cellarerkeep_Files a b = some (decide (a = b)) := by
  unfold cellarerkeep_Files
  by_cases hl : a.length = b.length
  · rw [if_neg (by simp; omega)]
    rw [loop_all (x0 := (0 : Int)) (fun i => (i : Int)) a.length (fun i => decide (a.getD i default = b.getD i default)) (some true) (some false) rfl ha ?_ ?_]
    · have hiff : (∀ i, i < a.length → decide (a.getD i default = b.getD i default) = true) ↔ a = b := by
        rw [← lists_eq a b hl]
        constructor
        · intro h i h1 h2
          have := h i h1
          simpa [h1, h2] using this
        · intro h i h1
          have h2 : i < b.length := by omega
          simp [h1, h2, h i h1 h2]
      by_cases h : a = b
      · rw [if_pos (hiff.2 h), decide_eq_true h]
      · rw [if_neg fun h2 => h (hiff.1 h2), decide_eq_false h]
    · intro rec i hi
      have hi' : i < b.length := by omega
      simp only [cellarerkeep_Files.l2]
      rw [if_t (lt_t hi), ix_lt hi, bd_mk, ix_lt hi', bd_mk]
      simp only [List.getD_eq_getElem?_getD, List.getElem?_eq_getElem hi, List.getElem?_eq_getElem hi', Option.getD_some]
      by_cases h : a[i].path = b[i].path
      · rw [only_t (by simp [h]), bd_mk, only_t (by simp [h]), bd_mk, only_t (by simp [h]), bytes_eq _ _ (hd _ (List.getElem_mem hi)), bd_mk]
        by_cases h2 : a[i].data = b[i].data
        · rw [if_neg (by simp [h, h2]), if_pos (by simp [file_eq, h, h2]), wr_succ (by omega)]
        · rw [if_pos (by simp [h2]), if_neg (by simp [file_eq, h2])]
      · rw [only_f (by simp [h]), bd_mk, only_f (by simp [h]), bd_mk, only_f (by simp [h]), bd_mk, if_pos (by simp [h]), if_neg (by simp [file_eq, h])]
    · intro rec
      simp only [cellarerkeep_Files.l2, cellarerkeep_Files.k1]
      rw [if_f (lt_f (Nat.lt_irrefl _))]
  · rw [if_pos (by simp; omega), decide_eq_false fun e => hl (by rw [e])]
def lightF (f : File) : Bool := decide (f.data.length ≤ 500) && decide (f.path.length ≤ 100)
theorem heavy_eq (l : List File) : ∃ b, cellarerlaw05_Heavy l = some b ∧ (b = false → l.length ≤ 20 ∧ ∀ f ∈ l, f.data.length ≤ 500 ∧ f.path.length ≤ 100) := by
  unfold cellarerlaw05_Heavy
  by_cases h20 : 20 < l.length
  · rw [if_pos (by simp; omega)]; exact ⟨true, rfl, fun h => by cases h⟩
  · rw [if_neg (by simp; omega)]
    rw [loop_all (x0 := (0 : Int)) (fun i => (i : Int)) l.length (fun i => lightF (l.getD i default)) (some false) (some true) rfl (by omega) ?_ ?_]
    · by_cases h : (∀ i, i < l.length → lightF (l.getD i default) = true)
      · rw [if_pos h]
        refine ⟨false, rfl, fun _ => ⟨by omega, fun f hf => ?_⟩⟩
        obtain ⟨j, hj, rfl⟩ := List.getElem_of_mem hf
        have := h j hj
        simpa [lightF, hj] using this
      · rw [if_neg h]; exact ⟨true, rfl, fun h => by cases h⟩
    · intro rec i hi
      simp only [cellarerlaw05_Heavy.l2, lightF]
      rw [if_t (lt_t hi), ix_lt hi, bd_mk]
      simp only [List.getD_eq_getElem?_getD, List.getElem?_eq_getElem hi, Option.getD_some]
      by_cases h5 : 500 < l[i].data.length
      · rw [only_f (by simp; omega), bd_mk, if_pos (by simp; omega), if_neg (by simp; omega)]
      · rw [only_t (by simp; omega), bd_mk]
        by_cases h1 : 100 < l[i].path.length
        · rw [if_pos (by simp; omega), if_neg (by simp; omega)]
        · rw [if_neg (by simp; omega), if_pos (by simp; omega), wr_succ (by omega)]
    · intro rec
      simp only [cellarerlaw05_Heavy.l2, cellarerlaw05_Heavy.k1]
      rw [if_f (lt_f (Nat.lt_irrefl _))]
def sizeL (l : List File) : Nat := (l.map fun f => f.data.length).sum
theorem sizeL_le (l : List File) (c : Nat) (h : ∀ f ∈ l, f.data.length ≤ c) : sizeL l ≤ l.length * c := by
  induction l with
  | nil => simp [sizeL]
  | cons x l ih =>
    have h1 := h x (by simp)
    have h2 := ih fun f hf => h f (by simp [hf])
    simp only [sizeL, List.map_cons, List.sum_cons, List.length_cons, Nat.add_mul, Nat.one_mul] at h2 ⊢
    omega
theorem sizeL_snoc (l : List File) (x : File) : sizeL (l ++ [x]) = sizeL l + x.data.length := by simp [sizeL]
theorem size_eq (l : List File) (hl : l.length < 4611686018427387904) (hs : sizeL l < 4611686018427387904) : tree_Size l = some (sizeL l : Int) := by
  unfold tree_Size
  have hle : ∀ i, sizeL (l.take i) ≤ sizeL l := fun i => by
    have : sizeL (l.take i ++ l.drop i) = sizeL (l.take i) + sizeL (l.drop i) := by
      generalize l.take i = a
      generalize l.drop i = b
      simp [sizeL]
    rw [List.take_append_drop] at this; omega
  refine loop_eq (S := Int × Int) (σ := Unit) (fun i _ => ((sizeL (l.take i) : Int), (i : Int))) l.length (fun _ _ => True) _ (i0 := 0) (s0 := ()) rfl (Nat.zero_le _) trivial hl ?_ ?_
  · intro rec i _ hi _ hrec
    have hr := hrec () trivial
    have h1 := hle (i + 1)
    rw [take_snoc' hi, sizeL_snoc] at hr h1
    simp only [tree_Size.l2]
    rw [if_t (lt_t hi), ix_lt hi, bd_mk, wr_succ (by omega), wr_id (by omega) (by omega)]
    rw [← hr]; rfl
  · intro rec _ _
    simp only [tree_Size.l2, tree_Size.k1]
    rw [if_f (lt_f (Nat.lt_irrefl _)), List.take_length]
end Go.Wk.Lf
