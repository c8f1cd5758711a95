/- TreeSame, plainly. -/
import Derived.Test.YtoanecpanckkeaaTreeP
import Derived.Test.YtoanecpanckkeaaLfO
import Derived.Test.YtoanecpanckkeaaLwTreeSame
namespace Go.Wk.Lf
open Go.Shelf Go.Sort Go.Proofs
set_option linter.unusedVariables false
set_option linter.unusedSimpArgs false

theorem lists_eq {α : Type} (a b : List α) (h : a.length = b.length) : (∀ i (h1 : i < a.length) (h2 : i < b.length), a[i] = b[i]) ↔ a = b :=
  ⟨fun h2 => List.ext_getElem h h2, fun e => by subst e; intros; rfl⟩
theorem bytes_eq (a b : List UInt8) (ha : a.length < 4611686018427387904) : cellarerkeep_Bytes a b = some (decide (a = b)) := by
  unfold cellarerkeep_Bytes
  by_cases hl : a.length = b.length
  · rw [if_neg (by simp; omega)]
    rw [loop_all (x0 := (0 : Int)) (fun i => (i : Int)) a.length (fun i => a.getD i 0 == b.getD i 0) (some true) (some false) rfl ha ?_ ?_]
    · have hiff : (∀ i, i < a.length → (a.getD i 0 == b.getD i 0) = true) ↔ a = b := by
        rw [← lists_eq a b hl]
        constructor
        · intro h i h1 h2
          have := h i h1
          simpa [h1, h2] using this
        · intro h i h1
          have h2 : i < b.length := by omega
          simp [h1, h2, h i h1 h2]
      by_cases h : a = b
      · rw [if_pos (hiff.2 h), decide_eq_true h]
      · rw [if_neg fun h2 => h (hiff.1 h2), decide_eq_false h]
    · intro rec i hi
      have hi' : i < b.length := by omega
      simp only [cellarerkeep_Bytes.l2]
      rw [if_t (lt_t hi), ix_lt hi, bd_mk, ix_lt hi', bd_mk]
      simp only [List.getD_eq_getElem?_getD, List.getElem?_eq_getElem hi, List.getElem?_eq_getElem hi', Option.getD_some]
      by_cases h : a[i] = b[i]
      · rw [if_neg (by simp [h]), if_pos (by simp [h]), wr_succ (by omega)]
      · rw [if_pos (by simp only [ne_eq, decide_eq_true_eq]; intro e; exact h (UInt8.toNat.inj (by omega))), if_neg (by simp [h])]
    · intro rec
      simp only [cellarerkeep_Bytes.l2, cellarerkeep_Bytes.k1]
      rw [if_f (lt_f (Nat.lt_irrefl _))]
  · rw [if_pos (by simp; omega), decide_eq_false fun e => hl (by rw [e])]
theorem file_eq {x y : File} : x = y ↔ x.path = y.path ∧ x.data = y.data := by
  constructor
  · intro h; subst h; exact ⟨rfl, rfl⟩
  · intro h; cases x; cases y; simp_all
theorem files_eq (a b : List File) (ha : a.length < 4611686018427387904) (hd : ∀ f ∈ a, f.data.length < 4611686018427387904) : cellarerkeep_Files a b = some (decide (a = b)) := by
  unfold cellarerkeep_Files
  by_cases hl : a.length = b.length
  · rw [if_neg (by simp; omega)]
    rw [loop_all (x0 := (0 : Int)) (fun i => (i : Int)) a.length (fun i => decide (a.getD i default = b.getD i default)) (some true) (some false) rfl ha ?_ ?_]
    · have hiff : (∀ i, i < a.length → decide (a.getD i default = b.getD i default) = true) ↔ a = b := by
        rw [← lists_eq a b hl]
        constructor
        · intro h i h1 h2
          have := h i h1
          simpa [h1, h2] using this
        · intro h i h1
          have h2 : i < b.length := by omega
          simp [h1, h2, h i h1 h2]
      by_cases h : a = b
      · rw [if_pos (hiff.2 h), decide_eq_true h]
      · rw [if_neg fun h2 => h (hiff.1 h2), decide_eq_false h]
    · intro rec i hi
      have hi' : i < b.length := by omega
      simp only [cellarerkeep_Files.l2]
      rw [if_t (lt_t hi), ix_lt hi, bd_mk, ix_lt hi', bd_mk]
      simp only [List.getD_eq_getElem?_getD, List.getElem?_eq_getElem hi, List.getElem?_eq_getElem hi', Option.getD_some]
      by_cases h : a[i].path = b[i].path
      · rw [only_t (by simp [h]), bd_mk, only_t (by simp [h]), bd_mk, only_t (by simp [h]), bytes_eq _ _ (hd _ (List.getElem_mem hi)), bd_mk]
        by_cases h2 : a[i].data = b[i].data
        · rw [if_neg (by simp [h, h2]), if_pos (by simp [file_eq, h, h2]), wr_succ (by omega)]
        · rw [if_pos (by simp [h2]), if_neg (by simp [file_eq, h2])]
      · rw [only_f (by simp [h]), bd_mk, only_f (by simp [h]), bd_mk, only_f (by simp [h]), bd_mk, if_pos (by simp [h]), if_neg (by simp [file_eq, h])]
    · intro rec
      simp only [cellarerkeep_Files.l2, cellarerkeep_Files.k1]
      rw [if_f (lt_f (Nat.lt_irrefl _))]
  · rw [if_pos (by simp; omega), decide_eq_false fun e => hl (by rw [e])]
theorem same1_eq (x y : File) : tree_Same_1 x y = some (decide (x = y)) := by
  unfold tree_Same_1 bytes_Equal
  by_cases h : x.path = y.path
  · rw [only_t (by simp [h]), bd_mk]
    by_cases h2 : x.data = y.data <;> simp [file_eq, h, h2]
  · rw [only_f (by simp [h]), bd_mk]
    simp [file_eq, h]
theorem same_eq (a b : List File) (ha : a.length < 4611686018427387904) : tree_Same a b = some (decide (a = b)) := by
  unfold tree_Same slices_EqualFunc_api_File_api_File_api_File_api_File_tree_Same_1
  by_cases hl : a.length = b.length
  · rw [if_neg (by simp; omega)]
    rw [loop_all (x0 := (0 : Int)) (fun i => (i : Int)) a.length (fun i => decide (a.getD i default = b.getD i default)) (some true) (some false) rfl ha ?_ ?_]
    · have hiff : (∀ i, i < a.length → decide (a.getD i default = b.getD i default) = true) ↔ a = b := by
        rw [← lists_eq a b hl]
        constructor
        · intro h i h1 h2
          have := h i h1
          simpa [h1, h2] using this
        · intro h i h1
          have h2 : i < b.length := by omega
          simp [h1, h2, h i h1 h2]
      by_cases h : a = b
      · rw [if_pos (hiff.2 h), decide_eq_true h, bd_mk]
      · rw [if_neg fun h2 => h (hiff.1 h2), decide_eq_false h, bd_mk]
    · intro rec i hi
      have hi' : i < b.length := by omega
      simp only [slices_EqualFunc_api_File_api_File_api_File_api_File_tree_Same_1.l2]
      rw [if_t (lt_t hi), ix_lt hi, bd_mk, ix_lt hi', bd_mk, same1_eq, bd_mk]
      simp only [List.getD_eq_getElem?_getD, List.getElem?_eq_getElem hi, List.getElem?_eq_getElem hi', Option.getD_some]
      by_cases h : a[i] = b[i]
      · rw [if_neg (by simp [h]), if_pos (by simp [h]), wr_succ (by omega)]
      · rw [if_pos (by simp [h]), if_neg (by simp [h])]
    · intro rec
      simp only [slices_EqualFunc_api_File_api_File_api_File_api_File_tree_Same_1.l2, slices_EqualFunc_api_File_api_File_api_File_api_File_tree_Same_1.k1]
      rw [if_f (lt_f (Nat.lt_irrefl _))]
  · rw [if_pos (by simp; omega), decide_eq_false fun e => hl (by rw [e]), bd_mk]
def lightF (f : File) : Bool := decide (f.data.length ≤ 500) && decide (f.path.length ≤ 100)
theorem heavy_eq (l : List File) : ∃ b, cellarerlaw05_Heavy l = some b ∧ (b = false → l.length ≤ 20 ∧ ∀ f ∈ l, f.data.length ≤ 500 ∧ f.path.length ≤ 100) := by
  unfold cellarerlaw05_Heavy
  by_cases h20 : 20 < l.length
  · rw [if_pos (by simp; omega)]; exact ⟨true, rfl, fun h => by cases h⟩
  · rw [if_neg (by simp; omega)]
    rw [loop_all (x0 := (0 : Int)) (fun i => (i : Int)) l.length (fun i => lightF (l.getD i default)) (some false) (some true) rfl (by omega) ?_ ?_]
    · by_cases h : (∀ i, i < l.length → lightF (l.getD i default) = true)
      · rw [if_pos h]
        refine ⟨false, rfl, fun _ => ⟨by omega, fun f hf => ?_⟩⟩
        obtain ⟨j, hj, rfl⟩ := List.getElem_of_mem hf
        have := h j hj
        simpa [lightF, hj] using this
      · rw [if_neg h]; exact ⟨true, rfl, fun h => by cases h⟩
    · intro rec i hi
      simp only [cellarerlaw05_Heavy.l2, lightF]
      rw [if_t (lt_t hi), ix_lt hi, bd_mk]
      simp only [List.getD_eq_getElem?_getD, List.getElem?_eq_getElem hi, Option.getD_some]
      by_cases h5 : 500 < l[i].data.length
      · rw [only_f (by simp; omega), bd_mk, if_pos (by simp; omega), if_neg (by simp; omega)]
      · rw [only_t (by simp; omega), bd_mk]
        by_cases h1 : 100 < l[i].path.length
        · rw [if_pos (by simp; omega), if_neg (by simp; omega)]
        · rw [if_neg (by simp; omega), if_pos (by simp; omega), wr_succ (by omega)]
    · intro rec
      simp only [cellarerlaw05_Heavy.l2, cellarerlaw05_Heavy.k1]
      rw [if_f (lt_f (Nat.lt_irrefl _))]
theorem treeSame_true (a b : List File) (_ : okL File.ok a) (_ : okL File.ok b) : cellarerlaw05_TreeSame a b = some true := by
  unfold cellarerlaw05_TreeSame
  obtain ⟨p, hp, hp2⟩ := heavy_eq a
  obtain ⟨q, hq, hq2⟩ := heavy_eq b
  rw [hp, bd_mk]
  cases p with
  | true => rw [only_f (by simp), bd_mk]; rfl
  | false =>
    rw [only_t (by simp), hq, bd_mk]
    cases q with
    | true => rfl
    | false =>
      obtain ⟨hl, hd⟩ := hp2 rfl
      obtain ⟨hl2, hd2⟩ := hq2 rfl
      rw [if_neg (by simp), same_eq _ _ (by omega), bd_mk, files_eq _ _ (by omega) (fun f hf => by have := (hd f hf).1; omega), bd_mk]
      simp only [beq_self_eq_true, Bool.true_and]
      rw [only_t rfl, same_eq _ _ (by omega), bd_mk, only_t rfl, bd_mk]
      have : decide (b = a) = decide (a = b) := by
        rw [Bool.eq_iff_iff]; simp only [decide_eq_true_eq]; exact ⟨fun h => h.symm, fun h => h.symm⟩
      rw [this]
      simp only [beq_self_eq_true, Bool.true_and]
      rw [only_t rfl, same_eq _ _ (by omega), bd_mk]
      simp only [decide_true, Bool.true_and]
      rw [only_t rfl, wakes05, bd_mk]
end Go.Wk.Lf
