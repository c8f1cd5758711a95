import Derived.Test.YtoanecpanckkeaaRows
import Derived.Test.YtoanecpanckkeaaArg
import Derived.Test.YtoanecpanckkeaaLfO
import Derived.Test.YtoanecpanckkeaaLfM1
import Derived.Test.YtoanecpanckkeaaLfS
import Derived.Test.YtoanecpanckkeaaLst
import Derived.Test.YtoanecpanckkeaaLfM3
import Derived.Test.YtoanecpanckkeaaLfM7
import Derived.Test.YtoanecpanckkeaaLfM2
import Derived.Test.YtoanecpanckkeaaLfM9
import Derived.Test.YtoanecpanckkeaaLfM4
import Derived.Test.YtoanecpanckkeaaLwManifestIds
import Derived.Test.YtoanecpanckkeaaLwManifestBack
import Derived.Handed
import Derived.JoinedOf
/- What tree.Name and tree.Check tell, plainly. -/
namespace Go.Wk.Lf
open Go.Shelf Go.Sort Go.Proofs
set_option linter.unusedVariables false
set_option linter.unusedSimpArgs false

/-- a loop that looks at each number below n -/
theorem loop_all {S A : Type} {F : (S → Option A) → S → Option A} (mk : Nat → S) (n : Nat) (ok : Nat → Bool) (K B : Option A) {x0 : S} (hx : x0 = mk 0) (hn : n < 4611686018427387904)
    (hstep : ∀ rec i, i < n → F rec (mk i) = if ok i = true then rec (mk (i + 1)) else B) (hend : ∀ rec, F rec (mk n) = K) : loop F x0 = if (∀ i, i < n → ok i = true) then K else B := by
  refine loop_eq (σ := Unit) (fun i _ => mk i) n (fun i _ => ∀ j, j < i → ok j = true) _ (i0 := 0) (s0 := ()) hx (Nat.zero_le _) (by intro j h; omega) hn ?_ ?_
  · intro rec i _ hi hI hrec
    rw [hstep rec i hi]
    by_cases h : ok i = true
    · rw [if_pos h]
      exact hrec () fun j hj => by
        rcases (by omega : j < i ∨ j = i) with h1 | rfl
        · exact hI j h1
        · exact h
    · rw [if_neg h, if_neg fun hall => h (hall i hi)]
  · intro rec _ hI
    rw [hend, if_pos hI]
theorem all_iff {α : Type} (l : List α) (p : α → Bool) (q : Nat → Bool) (h : ∀ i (hi : i < l.length), q i = p l[i]) : (∀ i, i < l.length → q i = true) ↔ l.all p = true := by
  rw [List.all_eq_true]
  constructor
  · intro h1 x hx
    obtain ⟨i, hi, rfl⟩ := List.getElem_of_mem hx
    rw [← h i hi]; exact h1 i hi
  · intro h1 i hi
    rw [h i hi]; exact h1 _ (List.getElem_mem hi)

def seen (b : UInt8) : Bool := decide (33 ≤ b.toNat) && decide (b.toNat ≤ 126)
def nameB (s : List UInt8) : Bool := (decide (1 ≤ s.length) && decide (s.length ≤ 20)) && s.all seen
theorem name_eq (s : List UInt8) : tree_Name s = some (nameB s) := by
  unfold tree_Name nameB
  by_cases h1 : s.length < 1 ∨ 20 < s.length
  · rw [if_pos (by simp only [Bool.or_eq_true, decide_eq_true_eq]; omega)]
    have : (decide (1 ≤ s.length) && decide (s.length ≤ 20)) = false := by
      simp only [Bool.and_eq_false_iff, decide_eq_false_iff_not]; omega
    rw [this]; rfl
  · rw [if_neg (by simp only [Bool.or_eq_true, decide_eq_true_eq]; omega)]
    have h2 : (decide (1 ≤ s.length) && decide (s.length ≤ 20)) = true := by
      simp only [Bool.and_eq_true, decide_eq_true_eq]; omega
    rw [h2, Bool.true_and]
    rw [loop_all (x0 := (0 : Int)) (fun i => (i : Int)) s.length (fun i => seen (s.getD i 0)) (some true) (some false) rfl (by omega) ?_ ?_]
    · by_cases h : s.all seen = true
      · rw [h, if_pos ((all_iff s seen _ fun i hi => by simp [hi]).2 h)]
      · rw [Bool.not_eq_true] at h
        rw [h, if_neg fun h3 => by rw [(all_iff s seen _ fun i hi => by simp [hi]).1 h3] at h; cases h]
    · intro rec i hi
      simp only [tree_Name.l2]
      rw [if_t (lt_t hi), ix_lt hi, bd_mk]
      simp only [hi, List.getD_eq_getElem?_getD, List.getElem?_eq_getElem, Option.getD_some, seen]
      by_cases h33 : (s[i].toNat : Int) < 33
      · rw [only_f (by simp; omega), bd_mk, if_pos (by simp [h33])]
        rw [if_neg (by simp only [Bool.and_eq_true, decide_eq_true_eq]; omega)]
      · rw [only_t (by simp; omega), bd_mk]
        by_cases h126 : (126 : Int) < (s[i].toNat : Int)
        · rw [if_pos (by simp [h126]), if_neg (by simp only [Bool.and_eq_true, decide_eq_true_eq]; omega)]
        · rw [if_neg (by simp only [Bool.or_eq_true, decide_eq_true_eq]; omega), if_pos (by simp only [Bool.and_eq_true, decide_eq_true_eq]; omega), wr_succ (by omega)]
    · intro rec
      simp only [tree_Name.l2, tree_Name.k1]
      rw [if_f (lt_f (Nat.lt_irrefl _))]
def longB (l : List File) : Bool := decide (6 < l.length) || l.any fun f => decide (200 < f.data.length)
theorem index_long (l : List File) (hl : l.length < 4611686018427387904) : ∃ r, slices_IndexFunc_api_File_api_File_tree_long_1 l = some r ∧ (0 ≤ r ↔ (l.any fun f => decide (200 < f.data.length)) = true) := by
  unfold slices_IndexFunc_api_File_api_File_tree_long_1
  refine loop_for (S := Int) (σ := Unit) (fun i _ => (i : Int)) l.length (fun i _ => ∀ j (hj : j < l.length), j < i → ¬ 200 < l[j].data.length) (fun o => ∃ r, o = some r ∧ (0 ≤ r ↔ _)) (i0 := 0) (s0 := ()) rfl (Nat.zero_le _) (by intro j _ h; omega) hl ?_ ?_
  · intro rec i _ hi hI hrec
    simp only [slices_IndexFunc_api_File_api_File_tree_long_1.l2, tree_long_1]
    rw [if_t (lt_t hi), ix_lt hi, bd_mk, bd_mk]
    by_cases h : 200 < l[i].data.length
    · rw [if_pos (by simp only [decide_eq_true_eq]; omega)]
      refine ⟨_, rfl, ⟨fun _ => ?_, fun _ => Int.natCast_nonneg _⟩⟩
      rw [List.any_eq_true]; exact ⟨_, List.getElem_mem hi, by simpa using h⟩
    · rw [if_neg (by simp only [decide_eq_true_eq]; omega), wr_succ (by omega)]
      refine hrec () fun j hj hji => ?_
      rcases (by omega : j < i ∨ j = i) with h1 | rfl
      · exact hI j hj h1
      · exact h
  · intro rec _ hI
    simp only [slices_IndexFunc_api_File_api_File_tree_long_1.l2, slices_IndexFunc_api_File_api_File_tree_long_1.k1]
    rw [if_f (lt_f (Nat.lt_irrefl _))]
    refine ⟨_, rfl, ⟨fun h => by omega, fun h => ?_⟩⟩
    rw [List.any_eq_true] at h
    obtain ⟨x, hx, h2⟩ := h
    obtain ⟨j, hj, rfl⟩ := List.getElem_of_mem hx
    exact absurd (by simpa using h2) (hI j hj hj)
theorem long_eq (l : List File) : tree_long l = some (longB l) := by
  unfold tree_long longB
  by_cases h : 6 < l.length
  · rw [only_f (by simp; omega), bd_mk]
    have h' : (6 : Int) < (l.length : Int) := by omega
    simp [h, h']
  · rw [only_t (by simp; omega)]
    obtain ⟨r, h1, h2⟩ := index_long l (by omega)
    simp only [slices_ContainsFunc_api_File_api_File_tree_long_1, h1, bd_mk]
    have h' : ¬ (6 : Int) < (l.length : Int) := by omega
    simp only [h, h', decide_false, Bool.false_or]
    congr 1
    rw [Bool.eq_iff_iff, decide_eq_true_eq]; exact h2
def badB (l : List File) : Bool := l.any fun f => !nameB f.path
theorem cloneB_eq (l : List UInt8) (hl : l.length ≤ 1073741824) : slices_Clone_byte_byte l = some l := by
  unfold slices_Clone_byte_byte
  rw [app_ok (by simpa using hl), bd_mk]; rfl
def risesB (l : List File) : Prop := l.Pairwise fun a b => sLt a.path b.path = true
theorem rises_adj (l : List File) : risesB l ↔ ∀ i (h : i < l.length), 0 < i → sLt (l[i - 1]'(by omega)).path l[i].path = true := by
  unfold risesB
  constructor
  · intro h i hi h0
    exact List.pairwise_iff_getElem.1 h (i - 1) i (by omega) hi (by omega)
  · intro h
    rw [List.pairwise_iff_getElem]
    intro i j hi hj hij
    induction j with
    | zero => omega
    | succ j ih =>
      have h1 := h (j + 1) hj (by omega)
      rcases (by omega : i = j ∨ i < j) with rfl | h2
      · exact h1
      · exact sLt_trans (ih (by omega) h2) h1
theorem long_f {l : List File} (h : longB l = false) : l.length ≤ 6 ∧ ∀ f ∈ l, f.data.length ≤ 200 := by
  simp only [longB, Bool.or_eq_false_iff, decide_eq_false_iff_not, List.any_eq_false] at h
  exact ⟨by omega, fun f hf => by have := h.2 f hf; simp at this; omega⟩
instance (l : List File) : Decidable (risesB l) := by unfold risesB; infer_instance
def chkL (l : List File) : Int := if longB l = true then 2 else if badB l = false ∧ risesB l then 0 else 1
theorem check_eq (l : List File) : tree_Check l = some (chkL l) := by
  unfold tree_Check chkL
  rw [long_eq, bd_mk]
  cases hL : longB l with
  | true => rfl
  | false =>
    obtain ⟨hl, hd⟩ := long_f hL
    simp only [Bool.false_eq_true, if_false]
    rw [loop_all (x0 := (0 : Int)) (fun i => (i : Int)) l.length (fun i => nameB (l.getD i default).path && (!decide (0 < i) || sLt (l.getD (i - 1) default).path (l.getD i default).path)) (some 0) (some 1) rfl (by omega) ?_ ?_]
    · have hiff : (∀ i, i < l.length → (nameB (l.getD i default).path && (!decide (0 < i) || sLt (l.getD (i - 1) default).path (l.getD i default).path)) = true) ↔ (badB l = false ∧ risesB l) := by
        constructor
        · intro h
          refine ⟨?_, (rises_adj l).2 fun i hi h0 => ?_⟩
          · unfold badB
            rw [List.any_eq_false]
            intro x hx
            obtain ⟨j, hj, rfl⟩ := List.getElem_of_mem hx
            have h1 := h j hj
            simp only [List.getD_eq_getElem?_getD, List.getElem?_eq_getElem hj, Option.getD_some, Bool.and_eq_true] at h1
            simp [h1.1]
          · have h1 := h i hi
            have hi' : i - 1 < l.length := by omega
            simp only [List.getD_eq_getElem?_getD, List.getElem?_eq_getElem hi, List.getElem?_eq_getElem hi', Option.getD_some, Bool.and_eq_true, h0, decide_true, Bool.not_true, Bool.false_or] at h1
            exact h1.2
        · rintro ⟨h1, h2⟩ i hi
          unfold badB at h1
          rw [List.any_eq_false] at h1
          have h3 := h1 _ (List.getElem_mem hi)
          simp only [Bool.not_eq_true', Bool.not_eq_false] at h3
          simp only [List.getD_eq_getElem?_getD, List.getElem?_eq_getElem hi, Option.getD_some, h3, Bool.true_and]
          by_cases h0 : 0 < i
          · have hi' : i - 1 < l.length := by omega
            simp only [List.getElem?_eq_getElem hi', Option.getD_some, h0, decide_true, Bool.not_true, Bool.false_or]
            exact (rises_adj l).1 h2 i hi h0
          · simp [h0]
      by_cases h : badB l = false ∧ risesB l
      · rw [if_pos h, if_pos (hiff.2 h)]
      · rw [if_neg h, if_neg fun h2 => h (hiff.1 h2)]
    · intro rec i hi
      simp only [tree_Check.l2]
      rw [if_t (lt_t hi), ix_lt hi, bd_mk, name_eq, bd_mk]
      simp only [List.getD_eq_getElem?_getD, List.getElem?_eq_getElem hi, Option.getD_some]
      cases hN : nameB l[i].path with
      | false => rw [only_f (by simp), bd_mk]; rfl
      | true =>
        by_cases h0 : 0 < i
        · have hi' : i - 1 < l.length := by omega
          have h0' : (0 : Int) < (i : Int) := by omega
          rw [only_t (by simp; omega), wr_pred h0 (by omega), ix_lt hi', bd_mk]
          simp only [List.getElem?_eq_getElem hi', Option.getD_some, h0, h0', decide_true, Bool.not_true, Bool.false_or, Bool.true_and]
          have hg := gtr_eq l[i].path l[i - 1].path
          cases hc : (sLt l[i].path l[i - 1].path || l[i].path == l[i - 1].path) with
          | true => rw [hc] at hg; rw [← hg]; rfl
          | false => rw [hc] at hg; rw [← hg, if_neg (by simp), wr_succ (by omega)]; rfl
        · have h0' : ¬ (0 : Int) < (i : Int) := by omega
          rw [only_f (by simp; omega), bd_mk]
          simp only [h0, h0', decide_false, Bool.false_and, Bool.not_true, Bool.or_false, Bool.false_eq_true, if_false, Bool.not_false, Bool.true_or, Bool.and_true, if_true]
          rw [wr_succ (by omega)]
    · intro rec
      simp only [tree_Check.l2, tree_Check.k1]
      rw [if_f (lt_f (Nat.lt_irrefl _))]
end Go.Wk.Lf
/- What manifest.Check and manifest.Bytes tell, plainly. -/
namespace Go.Wk.Lf
open Go.Shelf Go.Sort Go.Proofs
set_option linter.unusedVariables false
set_option linter.unusedSimpArgs false

def partB (p : Part) : Bool := (((nameB p.path && decide (0 ≤ p.size)) && decide (p.size ≤ 200)) && decide (p.ids.length ≤ 25)) && (decide (p.ids.length = 0) == decide (p.size = 0))
theorem part_eq (p : Part) : manifest_part p = some (partB p) := by
  unfold manifest_part partB
  rw [name_eq, bd_mk]
  have h1 : decide ((p.ids.length : Int) ≤ 25) = decide (p.ids.length ≤ 25) := by rw [decide_eq_decide]; omega
  have h2 : decide ((p.ids.length : Int) = 0) = decide (p.ids.length = 0) := by rw [decide_eq_decide]; omega
  rw [h1, h2]
theorem adj_pairwise {α : Type} (R : α → α → Prop) (ht : ∀ {a b c}, R a b → R b c → R a c) (l : List α) : l.Pairwise R ↔ ∀ i (h : i < l.length), 0 < i → R (l[i - 1]'(by omega)) l[i] := by
  constructor
  · intro h i hi h0
    exact List.pairwise_iff_getElem.1 h (i - 1) i (by omega) hi (by omega)
  · intro h
    rw [List.pairwise_iff_getElem]
    intro i j hi hj hij
    induction j with
    | zero => omega
    | succ j ih =>
      have h1 := h (j + 1) hj (by omega)
      rcases (by omega : i = j ∨ i < j) with rfl | h2
      · exact h1
      · exact ht (ih (by omega) h2) h1
def risesP (l : List Part) : Prop := l.Pairwise fun a b => sLt a.path b.path = true
instance (l : List Part) : Decidable (risesP l) := by unfold risesP; infer_instance
def manB (m : Manifest) : Prop := nameB m.name = true ∧ m.parts.length ≤ 6 ∧ (m.parts.all partB) = true ∧ risesP m.parts
instance (m : Manifest) : Decidable (manB m) := by unfold manB; infer_instance
/-- a loop over parts that looks at each, and at the one ahead of it -/
theorem adj_iff (l : List Part) (q : Part → Bool) : (∀ i, i < l.length → (q (l.getD i default) && (!decide (0 < i) || sLt (l.getD (i - 1) default).path (l.getD i default).path)) = true) ↔ (l.all q = true ∧ risesP l) := by
  constructor
  · intro h
    refine ⟨?_, (adj_pairwise (fun a b : Part => sLt a.path b.path = true) (fun h1 h2 => sLt_trans h1 h2) l).2 fun i hi h0 => ?_⟩
    · rw [List.all_eq_true]
      intro x hx
      obtain ⟨j, hj, rfl⟩ := List.getElem_of_mem hx
      have h1 := h j hj
      simp only [List.getD_eq_getElem?_getD, List.getElem?_eq_getElem hj, Option.getD_some, Bool.and_eq_true] at h1
      exact h1.1
    · have h1 := h i hi
      have hi' : i - 1 < l.length := by omega
      simp only [List.getD_eq_getElem?_getD, List.getElem?_eq_getElem hi, List.getElem?_eq_getElem hi', Option.getD_some, Bool.and_eq_true, h0, decide_true, Bool.not_true, Bool.false_or] at h1
      exact h1.2
  · rintro ⟨h1, h2⟩ i hi
    rw [List.all_eq_true] at h1
    have h3 := h1 _ (List.getElem_mem hi)
    simp only [List.getD_eq_getElem?_getD, List.getElem?_eq_getElem hi, Option.getD_some, h3, Bool.true_and]
    by_cases h0 : 0 < i
    · have hi' : i - 1 < l.length := by omega
      simp only [List.getElem?_eq_getElem hi', Option.getD_some, h0, decide_true, Bool.not_true, Bool.false_or]
      exact (adj_pairwise (fun a b : Part => sLt a.path b.path = true) (fun h1 h2 => sLt_trans h1 h2) l).1 h2 i hi h0
    · simp [h0]
/-- the two tests of a place, as the code has them -/
theorem test_eq (l : List Part) (i : Nat) (hi : i < l.length) (hl : l.length < 1000000000) (N : Bool) {β : Type} (K : Part → Option β) :
    (bd (only ((!(!N)) && decide (0 < (i : Int))) (ix l (wr ((i : Int) - 1))) (Part.mk [] 0 [])) K) = if N = true ∧ 0 < i then K (l.getD (i - 1) default) else K (Part.mk [] 0 []) := by
  cases N with
  | false => rw [only_f (by simp), bd_mk]; simp
  | true =>
    by_cases h0 : 0 < i
    · have hi' : i - 1 < l.length := by omega
      rw [only_t (by simp; omega), wr_pred h0 (by omega), ix_lt hi', bd_mk, if_pos ⟨rfl, h0⟩]
      simp [List.getD_eq_getElem?_getD, List.getElem?_eq_getElem hi']
    · rw [only_f (by simp; omega), bd_mk, if_neg (by omega)]
theorem mcheck_eq (m : Manifest) : manifest_Check m = some (if manB m then 0 else 1) := by
  unfold manifest_Check
  rw [name_eq, bd_mk]
  by_cases h0 : nameB m.name = true ∧ m.parts.length ≤ 6
  · obtain ⟨hn, h6⟩ := h0
    rw [if_neg (by simp only [hn]; simp; omega)]
    rw [loop_all (x0 := (0 : Int)) (fun i => (i : Int)) m.parts.length (fun i => partB (m.parts.getD i default) && (!decide (0 < i) || sLt (m.parts.getD (i - 1) default).path (m.parts.getD i default).path)) (some 0) (some 1) rfl (by omega) ?_ ?_]
    · have hiff := adj_iff m.parts partB
      by_cases h : m.parts.all partB = true ∧ risesP m.parts
      · rw [if_pos (hiff.2 h), if_pos (show manB m from ⟨hn, h6, h.1, h.2⟩)]
      · rw [if_neg fun h2 => h (hiff.1 h2), if_neg fun h2 : manB m => h ⟨h2.2.2.1, h2.2.2.2⟩]
    · intro rec i hi
      simp only [manifest_Check.l2]
      rw [if_t (lt_t hi), ix_lt hi, bd_mk, part_eq, bd_mk, test_eq m.parts i hi (by omega)]
      simp only [List.getD_eq_getElem?_getD, List.getElem?_eq_getElem hi, Option.getD_some]
      cases hN : partB m.parts[i] with
      | false => simp
      | true =>
        by_cases h0 : 0 < i
        · have hi' : i - 1 < m.parts.length := by omega
          have h0' : (0 : Int) < (i : Int) := by omega
          simp only [h0, h0', and_self, if_true, List.getElem?_eq_getElem hi', Option.getD_some, decide_true, Bool.not_true, Bool.false_or, Bool.true_and, wr_succ (show i < 4611686018427387904 by omega)]
          have hg := gtr_eq m.parts[i].path m.parts[i - 1].path
          cases hc : (sLt m.parts[i].path m.parts[i - 1].path || m.parts[i].path == m.parts[i - 1].path) with
          | true => rw [hc] at hg; rw [← hg]; rfl
          | false => rw [hc] at hg; rw [← hg]; rfl
        · have h0' : ¬ (0 : Int) < (i : Int) := by omega
          simp [h0, h0', wr_succ (show i < 4611686018427387904 by omega)]
    · intro rec
      simp only [manifest_Check.l2, manifest_Check.k1]
      rw [if_f (lt_f (Nat.lt_irrefl _))]
  · rw [if_pos (by
      simp only [Bool.or_eq_true, decide_eq_true_eq, Bool.not_eq_true']
      cases hn : nameB m.name with
      | false => exact .inl rfl
      | true =>
        rcases Nat.lt_or_ge 6 m.parts.length with h6 | h6
        · right; omega
        · exact absurd ⟨hn, h6⟩ h0), if_neg fun h : manB m => h0 ⟨h.1, h.2.1⟩]
/-- two bytes of a number -/
def be2 (n : Int) : List UInt8 := [toB8 (n / 256), toB8 n]
theorem shr0 (n : Int) : shrI n 0 = some n := by simp [shrI]
theorem put2_eq (b : List UInt8) (n : Int) (h0 : 0 ≤ n) (h1 : n < 65536) (hb : b.length ≤ 1000000000) : bin_Put b n 2 = some (b ++ be2 n, 0) := by
  unfold bin_Put
  have hr : bin_room 2 = some 65536 := by decide +kernel
  rw [only_t (by simp; omega), hr, bd_mk, if_neg (by simp; omega), cloneB_eq b (by omega), bd_mk]
  show loop (bin_Put.l2 n) (((1 : Nat) : Int), b) = _
  have e : ∀ rec, bin_Put.l2 n rec (((1 : Nat) : Int), b) = rec (0, b ++ [toB8 (n / 256)]) := fun rec => by
    simp only [bin_Put.l2]
    rw [if_pos (by decide), show wr (8 * ((1 : Nat) : Int)) = 8 from by decide, show shrI n 8 = some (n / 256) from by simp [shrI], bd_mk, app_ok (by simp; omega), bd_mk, show wr (((1 : Nat) : Int) - 1) = 0 from by decide]
  have e2 : ∀ rec, bin_Put.l2 n rec (0, b ++ [toB8 (n / 256)]) = rec (-1, b ++ be2 n) := fun rec => by
    simp only [bin_Put.l2]
    rw [if_pos (by decide), show wr (8 * (0 : Int)) = 0 from by decide, shr0, bd_mk, app_ok (by simp; omega), bd_mk, show wr ((0 : Int) - 1) = -1 from by decide, List.append_assoc]; rfl
  have e3 : ∀ rec, bin_Put.l2 n rec (-1, b ++ be2 n) = some (b ++ be2 n, 0) := fun rec => by
    simp only [bin_Put.l2, bin_Put.k1]
    rw [if_neg (by decide)]
  show iter _ 4611686018427387904 _ = _
  show bin_Put.l2 n (iter _ 4611686018427387903) _ = _
  rw [e]
  show bin_Put.l2 n (iter _ 4611686018427387902) _ = _
  rw [e2]
  show bin_Put.l2 n (iter _ 4611686018427387901) _ = _
  rw [e3]
/-- a manifest's bytes -/
def partBytes (p : Part) : List UInt8 := ([toB8 (p.path.length : Int)] ++ p.path ++ be2 p.size ++ [toB8 (p.ids.length : Int)]) ++ p.ids.flatten
def manBytes (m : Manifest) : List UInt8 := ([toB8 (m.name.length : Int)] ++ m.name ++ [toB8 (m.parts.length : Int)]) ++ m.parts.flatMap partBytes
/-- what a claim's condition tells of ids -/
def okId (m : Manifest) : Prop := ∀ p ∈ m.parts, ∀ x ∈ p.ids, x.length = 32
theorem flat_len32 : ∀ (l : List (List UInt8)), (∀ x ∈ l, x.length = 32) → l.flatten.length = 32 * l.length
  | [], _ => rfl
  | x :: l, h => by
    have h1 := h x (by simp)
    have h2 := flat_len32 l fun y hy => h y (by simp [hy])
    simp only [List.flatten_cons, List.length_append, List.length_cons, h1, h2]; omega
theorem nameB_len {s : List UInt8} (h : nameB s = true) : 1 ≤ s.length ∧ s.length ≤ 20 := by
  simp only [nameB, Bool.and_eq_true, decide_eq_true_eq] at h; exact h.1
theorem partB_num {p : Part} (h : partB p = true) : nameB p.path = true ∧ 0 ≤ p.size ∧ p.size ≤ 200 ∧ p.ids.length ≤ 25 ∧ (p.ids.length = 0 ↔ p.size = 0) := by
  simp only [partB, Bool.and_eq_true, decide_eq_true_eq] at h
  obtain ⟨⟨⟨⟨h1, h2⟩, h3⟩, h4⟩, h5⟩ := h
  refine ⟨h1, h2, h3, h4, ?_⟩
  rw [beq_iff_eq, decide_eq_decide] at h5; exact h5
theorem partBytes_len {p : Part} (h : ∀ x ∈ p.ids, x.length = 32) : (partBytes p).length = 4 + p.path.length + 32 * p.ids.length := by
  simp only [partBytes, be2, List.length_append, List.length_cons, List.length_nil, flat_len32 p.ids h]; omega
theorem partsBytes_len : ∀ (l : List Part), (∀ p ∈ l, ∀ x ∈ p.ids, x.length = 32) → (∀ p ∈ l, p.path.length ≤ 20 ∧ p.ids.length ≤ 25) → (l.flatMap partBytes).length ≤ 824 * l.length
  | [], _, _ => by simp
  | p :: l, h, h2 => by
    have h3 := partsBytes_len l (fun q hq => h q (by simp [hq])) fun q hq => h2 q (by simp [hq])
    have h4 := partBytes_len (h p (by simp))
    have h5 := h2 p (by simp)
    simp only [List.flatMap_cons, List.length_append, List.length_cons, h4]; omega
theorem manB_parts {m : Manifest} (h : manB m) : ∀ p ∈ m.parts, partB p = true := by
  have := h.2.2.1; rwa [List.all_eq_true] at this
theorem manBytes_len {m : Manifest} (h : manB m) (hk : okId m) : (manBytes m).length ≤ 5000 := by
  have h1 := partsBytes_len m.parts hk fun p hp => by
    have h2 := partB_num (manB_parts h p hp); have h3 := nameB_len h2.1; exact ⟨h3.2, h2.2.2.2.1⟩
  have h2 := nameB_len h.1
  have h3 := h.2.1
  simp only [manBytes, List.length_append, List.length_cons, List.length_nil]; omega
theorem mbytes_eq (m : Manifest) (hk : okId m) : manifest_Bytes m = some (if manB m then (manBytes m, 0) else ([], 1)) := by
  unfold manifest_Bytes
  rw [mcheck_eq, bd_mk]
  by_cases h : manB m
  · rw [if_pos h, if_pos h, if_neg (by simp)]
    have hn := nameB_len h.1
    have h6 := h.2.1
    rw [app_ok (by simp; omega), bd_mk, app_ok (by simp; omega), bd_mk]
    have hlen := manBytes_len h hk
    refine loop_eq (S := List UInt8 × Int) (σ := List UInt8) (fun i l => (l, (i : Int))) m.parts.length (fun i l => l = ([toB8 (m.name.length : Int)] ++ m.name ++ [toB8 (m.parts.length : Int)]) ++ (m.parts.take i).flatMap partBytes) _ (i0 := 0) rfl (Nat.zero_le _) (by simp) (by omega) ?_ ?_
    · intro rec i l hi hI hrec
      simp only [manifest_Bytes.l2]
      have hp := partB_num (manB_parts h _ (List.getElem_mem hi))
      have hpn := nameB_len hp.1
      have hids := hk _ (List.getElem_mem hi)
      have hl : l.length + (partBytes m.parts[i]).length ≤ 5000 := by
        have : (([toB8 (m.name.length : Int)] ++ m.name ++ [toB8 (m.parts.length : Int)]) ++ (m.parts.take (i + 1)).flatMap partBytes).length ≤ 5000 := by
          refine Nat.le_trans ?_ hlen
          simp only [manBytes, List.length_append]
          have : (m.parts.flatMap partBytes).length = ((m.parts.take (i + 1)).flatMap partBytes).length + ((m.parts.drop (i + 1)).flatMap partBytes).length := by
            rw [← List.length_append, ← List.flatMap_append, List.take_append_drop]
          omega
        rw [take_snoc' hi, List.flatMap_append, ← List.append_assoc, ← hI] at this
        simpa using this
      rw [partBytes_len hids] at hl
      rw [if_t (lt_t hi), ix_lt hi, bd_mk, app_ok (by simp; omega), bd_mk, app_ok (by simp; omega), bd_mk, put2_eq _ _ hp.2.1 (by omega) (by simp; omega), bd_mk]
      simp only
      rw [app_ok (by simp [be2]; omega), bd_mk]
      generalize hQ : m.parts[i] = p at *
      refine loop_eq (S := Int × List UInt8) (σ := List UInt8) (fun j q => ((j : Int), q)) p.ids.length (fun j q => q = (l ++ ([toB8 (p.path.length : Int)] ++ p.path ++ be2 p.size ++ [toB8 (p.ids.length : Int)])) ++ (p.ids.take j).flatten) _ (i0 := 0) rfl (Nat.zero_le _) (by simp) (by omega) ?_ ?_
      · intro rec2 j q hj hJ hrec2
        simp only [manifest_Bytes.l4]
        have hx := hids _ (List.getElem_mem hj)
        have hft : ((p.ids.take j).flatten).length ≤ 32 * 25 := by
          rw [flat_len32 _ fun x hx => hids x (List.mem_of_mem_take hx)]; simp; omega
        rw [if_t (lt_t hj), ix_lt hj, bd_mk, app_ok (by rw [hJ]; simp only [List.length_append, List.length_cons, List.length_nil, be2, hx]; omega), bd_mk, wr_succ (by omega)]
        refine hrec2 _ ?_
        rw [hJ, take_snoc' hj]; simp only [List.flatten_append, List.flatten_cons, List.flatten_nil, List.append_nil, List.append_assoc]
      · intro rec2 q hJ
        simp only [manifest_Bytes.l4, manifest_Bytes.k3]
        rw [if_f (lt_f (Nat.lt_irrefl _)), wr_succ (by omega)]
        refine hrec _ ?_
        rw [hJ, hI, take_snoc' hi, hQ, List.take_length, List.flatMap_append]
        simp [partBytes]
    · intro rec l hI
      simp only [manifest_Bytes.l2, manifest_Bytes.k1]
      rw [if_f (lt_f (Nat.lt_irrefl _)), hI, List.take_length]; rfl
  · rw [if_neg h, if_neg h, if_pos (by simp)]
end Go.Wk.Lf
/- What cdc.Cut and manifest.Build tell, plainly. -/
namespace Go.Wk.Lf
open Go.Shelf Go.Sort Go.Proofs
set_option linter.unusedVariables false
set_option linter.unusedSimpArgs false

/-- the register -/
def regStep (r : UInt32) (c : UInt8) : UInt32 := (r <<< UInt32.ofNat 1) + ((c.toUInt32 + (1 : UInt32)) * (2654435761 : UInt32))
def regHigh (r : UInt32) : Bool := decide (((r >>> UInt32.ofNat 28).toNat : Int) = 0)
def nextGo : UInt32 → Nat → List UInt8 → Nat
  | _, n, [] => n
  | r, n, c :: t => if (decide (64 ≤ n + 1) || (decide (8 ≤ n + 1) && regHigh (regStep r c))) = true then n + 1 else nextGo (regStep r c) (n + 1) t
def nextL (b : List UInt8) : Nat := nextGo 0 0 b
theorem nextGo_le : ∀ (t : List UInt8) (r : UInt32) (n : Nat), n ≤ nextGo r n t ∧ nextGo r n t ≤ n + t.length ∧ (t ≠ [] → n + 1 ≤ nextGo r n t) ∧ (n ≤ 64 → n < 64 ∨ t = [] → nextGo r n t ≤ 64) ∧ (nextGo r n t < n + t.length → 8 ≤ nextGo r n t)
  | [], r, n => by simp [nextGo]
  | c :: t, r, n => by
    obtain ⟨h1, h2, h3, h4, h5⟩ := nextGo_le t (regStep r c) (n + 1)
    simp only [nextGo]
    split
    · rename_i hc
      refine ⟨by omega, by simp only [List.length_cons]; omega, fun _ => Nat.le_refl _, fun _ h => ?_, fun _ => ?_⟩
      · rcases h with h | h
        · omega
        · cases h
      · simp only [Bool.or_eq_true, Bool.and_eq_true, decide_eq_true_eq] at hc; omega
    · rename_i hc
      refine ⟨by omega, by simp; omega, fun _ => by omega, fun hn h => ?_, fun h => h5 (by simp at h; omega)⟩
      have h6 : n + 1 < 64 := by
        simp only [Bool.or_eq_true, decide_eq_true_eq, not_or] at hc; omega
      exact h4 (by omega) (.inl h6)
theorem nextL_pos {b : List UInt8} (h : b ≠ []) : 1 ≤ nextL b := (nextGo_le b 0 0).2.2.1 h
theorem nextL_le (b : List UInt8) : nextL b ≤ b.length := by have := (nextGo_le b 0 0).2.1; rwa [Nat.zero_add] at this
theorem nextL_64 (b : List UInt8) : nextL b ≤ 64 := (nextGo_le b 0 0).2.2.2.1 (by decide) (.inl (by decide))
theorem nextL_8 {b : List UInt8} (h : nextL b < b.length) : 8 ≤ nextL b := (nextGo_le b 0 0).2.2.2.2 (by rw [Nat.zero_add]; exact h)
theorem next_eq (b : List UInt8) (hb : b.length < 4611686018427387904) : cdc_Next b = some (nextL b : Int) := by
  unfold cdc_Next
  refine loop_eq (S := UInt32 × Int) (σ := UInt32) (fun i r => (r, (i : Int))) b.length (fun i r => nextGo r i (b.drop i) = nextL b) _ (i0 := 0) rfl (Nat.zero_le _) rfl hb ?_ ?_
  · intro rec i r hi hI hrec
    simp only [cdc_Next.l2]
    rw [List.drop_eq_getElem_cons hi] at hI
    simp only [nextGo] at hI
    rw [if_t (lt_t hi), ix_lt hi, bd_mk, wr_succ (by omega)]
    have e1 : decide (64 ≤ ((i + 1 : Nat) : Int)) = decide (64 ≤ i + 1) := by rw [decide_eq_decide]; omega
    have e2 : decide (8 ≤ ((i + 1 : Nat) : Int)) = decide (8 ≤ i + 1) := by rw [decide_eq_decide]; omega
    rw [e1, e2]
    show (if (decide (64 ≤ i + 1) || (decide (8 ≤ i + 1) && regHigh (regStep r b[i]))) = true then _ else rec (regStep r b[i], ((i + 1 : Nat) : Int))) = _
    split
    · rename_i hc
      rw [if_pos hc] at hI
      rw [← hI]
    · rename_i hc
      rw [if_neg hc] at hI
      exact hrec _ hI
  · intro rec r hI
    simp only [cdc_Next.l2, cdc_Next.k1]
    rw [if_f (lt_f (Nat.lt_irrefl _))]
    rw [List.drop_length] at hI
    simp only [nextGo] at hI
    rw [← hI]
/-- the chunks -/
def cutL (b : List UInt8) : List (List UInt8) := if h : b = [] then [] else b.take (nextL b) :: cutL (b.drop (nextL b))
termination_by b.length
decreasing_by
  have h1 := nextL_pos h
  have : 0 < b.length := List.length_pos_iff.2 h
  simp only [List.length_drop]; omega
theorem cutL_nil : cutL [] = [] := by unfold cutL; simp
theorem cutL_cons {b : List UInt8} (h : b ≠ []) : cutL b = b.take (nextL b) :: cutL (b.drop (nextL b)) := by rw [cutL, dif_neg h]
theorem len_ind {p : List UInt8 → Prop} (h : ∀ b, (∀ c, c.length < b.length → p c) → p b) (b : List UInt8) : p b := by
  suffices ∀ n, ∀ b : List UInt8, b.length < n → p b from this _ b (Nat.lt_succ_self _)
  intro n
  induction n with
  | zero => intro b hb; omega
  | succ n ih => intro b hb; exact h b fun c hc => ih c (by omega)
theorem cutL_ind {p : List UInt8 → Prop} (h0 : p []) (h1 : ∀ b, b ≠ [] → p (b.drop (nextL b)) → p b) (b : List UInt8) : p b := by
  refine len_ind (fun b ih => ?_) b
  by_cases h : b = []
  · subst h; exact h0
  · refine h1 b h (ih _ ?_)
    have h2 := nextL_pos h
    have : 0 < b.length := List.length_pos_iff.2 h
    simp only [List.length_drop]; omega
theorem cutL_flat (b : List UInt8) : (cutL b).flatten = b := by
  refine cutL_ind (p := fun b => (cutL b).flatten = b) (by rw [cutL_nil]; rfl) (fun b h ih => ?_) b
  rw [cutL_cons h, List.flatten_cons, ih, List.take_append_drop]
theorem cutL_mem (b : List UInt8) : ∀ x ∈ cutL b, 1 ≤ x.length ∧ x.length ≤ 64 := by
  refine cutL_ind (p := fun b => ∀ x ∈ cutL b, 1 ≤ x.length ∧ x.length ≤ 64) (by rw [cutL_nil]; intro x hx; simp at hx) (fun b h ih => ?_) b
  rw [cutL_cons h]
  intro x hx
  rcases List.mem_cons.1 hx with rfl | hx
  · have h1 := nextL_pos h
    have h2 := nextL_64 b
    have h3 := nextL_le b
    simp only [List.length_take]; omega
  · exact ih x hx
theorem cutL_len (b : List UInt8) : 8 * (cutL b).length ≤ b.length + 7 := by
  refine cutL_ind (p := fun b => 8 * (cutL b).length ≤ b.length + 7) (by rw [cutL_nil]; simp) (fun b h ih => ?_) b
  rw [cutL_cons h]
  have h1 := nextL_pos h
  have h3 := nextL_le b
  simp only [List.length_cons, List.length_drop] at ih ⊢
  rcases Nat.lt_or_ge (nextL b) b.length with h4 | h4
  · have := nextL_8 h4; omega
  · have : b.drop (nextL b) = [] := List.drop_eq_nil_of_le h4
    rw [this, cutL_nil]
    have : 0 < b.length := List.length_pos_iff.2 h
    simp only [List.length_nil]; omega
theorem cutL_empty (b : List UInt8) : cutL b = [] ↔ b = [] := by
  constructor
  · intro h
    have := cutL_flat b
    rw [h] at this; exact this.symm
  · rintro rfl; exact cutL_nil
theorem ccut_eq (b : List UInt8) (hb : b.length ≤ 32768) : cdc_Cut b = some (cutL b, 0) := by
  unfold cdc_Cut
  rw [if_neg (by simp; omega)]
  refine loop_const (S := List UInt8 × List (List UInt8)) (fun s => s.1.length ≤ 32768 ∧ s.2.length + s.1.length ≤ 32768 ∧ s.2 ++ cutL s.1 = cutL b) (fun s => s.1.length) ⟨hb, by simpa using hb, rfl⟩ (by show b.length < _; omega) ?_
  rintro rec ⟨q, acc⟩ ⟨h1, h2, h3⟩ hrec
  simp only at h1 h2 h3
  simp only [cdc_Cut.l2, cdc_Cut.k1]
  by_cases hq : q = []
  · subst hq
    rw [if_neg (by simp)]
    rw [cutL_nil, List.append_nil] at h3
    rw [h3]
  · have h4 := nextL_pos hq
    have h5 := nextL_le q
    have h6 : 0 < q.length := List.length_pos_iff.2 hq
    rw [if_pos (by simp; omega), next_eq q (by omega), bd_mk, cut_ok (by omega) (by omega) (by omega), bd_mk, Int.toNat_natCast, Int.toNat_zero, List.drop_zero, cloneB_eq _ (by simp; omega), bd_mk, app_ok (by simp; omega), bd_mk, cut_ok (by omega) (by omega) (by omega), bd_mk, Int.toNat_natCast, Int.toNat_natCast, List.take_length]
    refine hrec _ ⟨by simp; omega, by simp; omega, ?_⟩ (by simp; omega)
    rw [← h3, cutL_cons hq]; simp
/-- chunks, each once by its sum -/
abbrev sha (x : List UInt8) : List UInt8 := Sha.sha256 x
def addC (acc : List (List UInt8)) (x : List UInt8) : List (List UInt8) := if sha x ∈ acc.map sha then acc else acc ++ [x]
def pieces (l : List File) : List (List UInt8) := l.flatMap fun f => cutL f.data
def chunksL (l : List File) : List (List UInt8) := (pieces l).foldl addC []
def partL (f : File) : Part := Part.mk f.path (f.data.length : Int) ((cutL f.data).map sha)
theorem addC_nodup {acc : List (List UInt8)} (h : (acc.map sha).Nodup) (x : List UInt8) : ((addC acc x).map sha).Nodup := by
  unfold addC
  split
  · exact h
  · rename_i hx
    rw [List.map_append, List.nodup_append]
    refine ⟨h, by simp, fun a ha b hb e => ?_⟩
    simp at hb
    subst e; subst hb; exact hx ha
theorem addC_ids (acc : List (List UInt8)) (x y : List UInt8) : y ∈ (addC acc x).map sha ↔ y ∈ acc.map sha ∨ y = sha x := by
  unfold addC
  split
  · rename_i hx
    exact ⟨.inl, fun h => h.elim id fun e => e ▸ hx⟩
  · simp [or_comm]
theorem foldC_ids : ∀ (l acc : List (List UInt8)) (y : List UInt8), y ∈ (l.foldl addC acc).map sha ↔ y ∈ acc.map sha ∨ y ∈ l.map sha
  | [], acc, y => by simp
  | x :: l, acc, y => by rw [List.foldl_cons, foldC_ids l, addC_ids]; simp [or_assoc, eq_comm]
theorem foldC_nodup : ∀ (l acc : List (List UInt8)), (acc.map sha).Nodup → ((l.foldl addC acc).map sha).Nodup
  | [], acc, h => h
  | x :: l, acc, h => foldC_nodup l _ (addC_nodup h x)
theorem foldC_sub : ∀ (l acc : List (List UInt8)) (y : List UInt8), y ∈ l.foldl addC acc → y ∈ acc ∨ y ∈ l
  | [], acc, y, h => .inl h
  | x :: l, acc, y, h => by
    rcases foldC_sub l _ y h with h | h
    · unfold addC at h
      split at h
      · exact .inl h
      · rcases List.mem_append.1 h with h | h
        · exact .inl h
        · simp at h; subst h; exact .inr (by simp)
    · exact .inr (by simp [h])
theorem foldC_len : ∀ (l acc : List (List UInt8)), (l.foldl addC acc).length ≤ acc.length + l.length
  | [], acc => by simp
  | x :: l, acc => by
    have h1 := foldC_len l (addC acc x)
    have h2 : (addC acc x).length ≤ acc.length + 1 := by unfold addC; split <;> simp
    simp only [List.foldl_cons, List.length_cons]; omega
theorem chunks_nodup (l : List File) : ((chunksL l).map sha).Nodup := foldC_nodup _ _ (by simp)
theorem chunks_mem {l : List File} {x : List UInt8} (h : x ∈ chunksL l) : x ∈ pieces l := (foldC_sub _ _ x h).resolve_left (by simp)
theorem chunks_ids (l : List File) (y : List UInt8) : y ∈ (chunksL l).map sha ↔ y ∈ (pieces l).map sha := by
  unfold chunksL; rw [foldC_ids]; simp
theorem rows_uniq {a b : List (List UInt8)} (hp : a.Perm b) (ha : Rise ordRow a) (hb : Rise ordRow b) (hn : (b.map sha).Nodup) : a = b := by
  refine List.Perm.eq_of_pairwise (le := fun x y => ¬ ordRow y x < 0) (fun x y hx hy h3 h4 => ?_) ha hb hp
  have hlt : ∀ p q, ordRow p q < 0 ↔ sLt (sha p) (sha q) = true := fun p q => by
    have := cmpT_lt (sha p) (sha q)
    unfold ltOf at this
    rw [← this]; simp [ordRow]
  rw [hlt, Bool.not_eq_true] at h3 h4
  have he : sha x = sha y := sLt_tri h4 h3
  have hx' : x ∈ b := hp.mem_iff.1 hx
  obtain ⟨i, hi, rfl⟩ := List.getElem_of_mem hx'
  obtain ⟨j, hj, rfl⟩ := List.getElem_of_mem hy
  rw [List.nodup_iff_pairwise_ne, List.pairwise_map, List.pairwise_iff_getElem] at hn
  rcases Nat.lt_trichotomy i j with h | h | h
  · exact absurd he (hn i j hi hj h)
  · subst h; rfl
  · exact absurd he.symm (hn j i hj hi h)
theorem pieces_len {l : List File} (hl : l.length ≤ 6) (hd : ∀ f ∈ l, f.data.length ≤ 200) : (pieces l).length ≤ 150 := by
  have : ∀ l : List File, (∀ f ∈ l, f.data.length ≤ 200) → (pieces l).length ≤ 25 * l.length := by
    intro l
    induction l with
    | nil => intro _; simp [pieces]
    | cons f l ih =>
      intro h
      have h1 := ih fun g hg => h g (by simp [hg])
      have h2 := h f (by simp)
      have h3 := cutL_len f.data
      simp only [pieces, List.flatMap_cons, List.length_append, List.length_cons] at h1 ⊢
      omega
  have := this l hd
  omega
def buildL (name : List UInt8) (l : List File) : Manifest × List (List UInt8) × Int :=
  if nameB name = false then (⟨[], []⟩, [], 1) else if chkL l ≠ 0 then (⟨[], []⟩, [], chkL l) else (⟨name, l.map partL⟩, isort ordRow (chunksL l), 0)
theorem shaSum_one (x : List UInt8) (h : x.length ≤ 1000000) : shaSum [x] = some (sha x) := by
  unfold shaSum
  rw [if_pos ⟨by simp, by simp; omega⟩]; simp [sha]
theorem chkL_ok {l : List File} (h : chkL l = 0) : longB l = false ∧ badB l = false ∧ risesB l := by
  unfold chkL at h
  cases hL : longB l with
  | true => rw [hL] at h; simp at h
  | false =>
    rw [hL] at h
    simp only [Bool.false_eq_true, if_false] at h
    split at h
    · rename_i hc; exact ⟨rfl, hc⟩
    · cases h
/-- the map of those that are there -/
def haveOf (acc : List (List UInt8)) : List UInt8 → Option Bool := fun y => if y ∈ acc.map sha then some true else none
theorem haveOf_add (acc : List (List UInt8)) (x : List UInt8) (h : sha x ∉ acc.map sha) : mput (haveOf acc) (sha x) true = haveOf (acc ++ [x]) := by
  funext y
  simp only [mput, haveOf, List.map_append, List.mem_append, List.map_cons, List.map_nil, List.mem_singleton]
  by_cases hy : y = sha x
  · simp [hy]
  · simp [hy]
theorem build_eq (name : List UInt8) (l : List File) : manifest_Build name l = some (buildL name l) := by
  unfold manifest_Build buildL
  rw [name_eq, bd_mk]
  cases hN : nameB name with
  | false => rfl
  | true =>
    rw [if_neg (by simp), if_neg (show ¬ (true = false) from by simp), check_eq, bd_mk]
    by_cases hC : chkL l = 0
    · rw [if_neg (by simp [hC]), if_neg (show ¬ chkL l ≠ 0 from by simp [hC])]
      obtain ⟨hL, _, _⟩ := chkL_ok hC
      obtain ⟨hl, hd⟩ := long_f hL
      have hpl := pieces_len hl hd
      refine loop_eq (S := List (List UInt8) × Int × (List UInt8 → Option Bool) × List Part) (σ := List (List UInt8)) (fun i acc => (acc, (i : Int), haveOf acc, (l.take i).map partL)) l.length (fun i acc => acc = (pieces (l.take i)).foldl addC []) _ (i0 := 0) (s0 := []) rfl (Nat.zero_le _) rfl (by omega) ?_ ?_
      · intro rec i acc hi hI hrec
        simp only [manifest_Build.l2]
        have hdi := hd _ (List.getElem_mem hi)
        rw [if_t (lt_t hi), ix_lt hi, bd_mk, ccut_eq _ (by omega), bd_mk, if_neg (by simp)]
        have hct := cutL_len l[i].data
        have hpt : (pieces (l.take i)).length ≤ 150 := pieces_len (by simp; omega) fun f hf => hd f (List.mem_of_mem_take hf)
        have hal : acc.length ≤ 150 := by have := foldC_len (pieces (l.take i)) []; rw [← hI] at this; simp at this; omega
        refine loop_eq (S := List (List UInt8) × Int × List (List UInt8) × (List UInt8 → Option Bool)) (σ := List (List UInt8)) (fun j a => (a, (j : Int), ((cutL l[i].data).take j).map sha, haveOf a)) (cutL l[i].data).length (fun j a => a = ((cutL l[i].data).take j).foldl addC acc) _ (i0 := 0) (s0 := acc) rfl (Nat.zero_le _) rfl (by omega) ?_ ?_
        · intro rec2 j a hj hJ hrec2
          simp only [manifest_Build.l5]
          have hx := cutL_mem _ _ (List.getElem_mem hj)
          have ha2 : a.length ≤ 300 := by
            have h7 := foldC_len ((cutL l[i].data).take j) acc
            rw [← hJ, List.length_take] at h7
            have h8 := Nat.min_le_right j (cutL l[i].data).length
            omega
          rw [if_t (lt_t hj), ix_lt hj, bd_mk, shaSum_one _ (by omega), bd_mk, app_ok (by simp; omega), bd_mk]
          have hnext := hrec2 (addC a (cutL l[i].data)[j]) (by rw [take_snoc' hj, List.foldl_append, ← hJ]; rfl)
          rw [take_snoc' hj, List.map_append] at hnext
          by_cases hin : sha (cutL l[i].data)[j] ∈ a.map sha
          · have h1 : (!((haveOf a) (sha (cutL l[i].data)[j])).getD false) = false := by simp only [haveOf, if_pos hin]; rfl
            rw [if_f h1]
            simp only [manifest_Build.k6]
            rw [wr_succ (by omega)]
            simpa [addC, hin] using hnext
          · have h1 : (!((haveOf a) (sha (cutL l[i].data)[j])).getD false) = true := by simp only [haveOf, if_neg hin]; rfl
            rw [if_t h1, app_ok (by simp; omega), bd_mk]
            simp only [manifest_Build.k6]
            rw [wr_succ (by omega), haveOf_add _ _ hin]
            simpa [addC, hin] using hnext
        · intro rec2 a hJ
          simp only [manifest_Build.l5, manifest_Build.k4, manifest_Build.k3]
          rw [if_f (lt_f (Nat.lt_irrefl _)), List.take_length]
          rw [List.take_length] at hJ
          rw [app_ok (by simp; omega), bd_mk, wr_succ (by omega)]
          have := hrec a (by rw [take_snoc' hi]; simp only [pieces, List.flatMap_append, List.flatMap_cons, List.flatMap_nil, List.append_nil, List.foldl_append]; rw [hJ, hI]; rfl)
          rw [take_snoc' hi, List.map_append] at this
          exact this
      · intro rec acc hI
        simp only [manifest_Build.l2, manifest_Build.k1]
        rw [if_f (lt_f (Nat.lt_irrefl _)), List.take_length]
        rw [List.take_length] at hI
        have hch : acc = chunksL l := hI
        have hlim : limRows acc = some () := by
          unfold limRows
          rw [if_pos]
          intro x hx
          rw [hch] at hx
          have := chunks_mem hx
          simp only [pieces, List.mem_flatMap] at this
          obtain ⟨f, _, h2⟩ := this
          have := cutL_mem _ _ h2
          omega
        have hal : acc.length ≤ 150 := by have := foldC_len (pieces l) []; rw [← hI] at this; simp at this; omega
        rw [hlim, bd_mk]
        refine bdS_eq ordRow_swo (by omega) fun l' hp hr => ?_
        rw [rows_uniq (hp.trans (isort_perm ordRow acc).symm) hr (isort_rise ordRow_swo acc) (((isort_perm ordRow acc).map sha).nodup_iff.2 (by rw [hch]; exact chunks_nodup l)), hch]
    · rw [if_pos (by simpa using hC), if_pos hC]
theorem wakes17 : cellarerlaw17_wakes = some true := by
  simp only [cellarerlaw17_wakes, build_eq, bd_mk]
  have h1 : buildL ([97] : List UInt8) [] = (⟨[97], []⟩, [], 0) := by
    unfold buildL
    rw [if_neg (by decide +kernel), if_neg (by decide +kernel)]; rfl
  rw [h1]
  simp only
  rw [mbytes_eq _ (by intro p hp; simp at hp), bd_mk]
  have h2 : manB ⟨([97] : List UInt8), []⟩ := by decide +kernel
  rw [if_pos h2]
  decide +kernel
end Go.Wk.Lf
/- What manifest.Ids tells, plainly. -/
namespace Go.Wk.Lf
open Go.Shelf Go.Sort Go.Proofs
set_option linter.unusedVariables false
set_option linter.unusedSimpArgs false
theorem ixp_lt {α : Type} {l : List α} {a n k : Nat} (hk : k < n) (h : a + k < l.length) : ixp l a n (k : Int) = some l[a + k] := by
  show (if k < n then l[a + k]? else none) = _
  rw [if_pos hk]; exact List.getElem?_eq_getElem h
theorem compactI_eq (xs : List (List UInt8)) (hl : xs.length ≤ 1073741824) : slices_Compact_32_byte_32_byte xs = some (compactL xs) := by
  unfold slices_Compact_32_byte_32_byte
  by_cases h2 : xs.length < 2
  · rw [if_t (decide_eq_true (by omega)), compactL_one _ h2]
  · rw [if_f (decide_eq_false (by omega))]
    refine loop_eq (S := Int) (σ := Unit) (fun i _ => (i : Int)) xs.length (fun i _ => 1 ≤ i ∧ compactL (xs.take i) = xs.take i) _ (i0 := 1) (s0 := ()) rfl (by omega) ⟨by omega, compactL_one _ (by simp; omega)⟩ (by omega) ?_ ?_
    · intro rec i _ hi hI hrec
      obtain ⟨h1, hc⟩ := hI
      simp only [slices_Compact_32_byte_32_byte.l2, slices_Compact_32_byte_32_byte.k3]
      rw [if_t (lt_t hi), ix_lt hi, bd_mk, wr_pred (by omega) (by omega), ix_lt (show i - 1 < xs.length by omega), bd_mk]
      have hst := compactL_step (l := xs) (j := i - 1) (a := xs[i - 1]) (b := xs[i]) (List.getElem?_eq_getElem (by omega)) (by rw [show i - 1 + 1 = i by omega]; exact List.getElem?_eq_getElem hi)
      rw [show i - 1 + 2 = i + 1 by omega, show i - 1 + 1 = i by omega, hc] at hst
      by_cases he : xs[i] = xs[i - 1]
      · rw [if_t (decide_eq_true he), cut_ok (by omega) (by omega) (by omega), bd_mk]
        rw [if_pos he.symm] at hst
        refine loop_eq (S := Int × Int × List (List UInt8)) (σ := Nat × List (List UInt8)) (fun k s => ((s.1 : Int), (k : Int), s.2)) (xs.length - i) (fun k s => s.2.length = xs.length ∧ 1 ≤ k ∧ 1 ≤ s.1 ∧ s.1 ≤ i + k - 1 ∧ s.2.take s.1 = compactL (xs.take (i + k)) ∧ ∀ q, i + k - 1 ≤ q → s.2[q]? = xs[q]?) _ (i0 := 1) (s0 := (i, xs)) rfl (by omega) ⟨rfl, by omega, by omega, by simp, hst.symm, fun q _ => rfl⟩ (by omega) ?_ ?_
        · rintro rec2 k ⟨w, cs⟩ hk ⟨e1, e2, e3, e4, e5, e6⟩ hrec2
          simp only at e1 e3 e4 e5 e6
          simp only [slices_Compact_32_byte_32_byte.l5, slices_Compact_32_byte_32_byte.k6, Int.toNat_natCast]
          have hck : i + k < cs.length := by omega
          have hg1 : cs[i + k] = xs[i + k] := by have := e6 (i + k) (by omega); rw [List.getElem?_eq_getElem hck, List.getElem?_eq_getElem (by omega)] at this; exact Option.some.inj this
          have hg2 : cs[i + (k - 1)] = xs[i + (k - 1)] := by have := e6 (i + (k - 1)) (by omega); rw [List.getElem?_eq_getElem (by omega), List.getElem?_eq_getElem (by omega)] at this; exact Option.some.inj this
          have hst2 := compactL_step (l := xs) (j := i + (k - 1)) (a := xs[i + (k - 1)]) (b := xs[i + k]) (List.getElem?_eq_getElem (by omega)) (by rw [show i + (k - 1) + 1 = i + k by omega]; exact List.getElem?_eq_getElem (by omega))
          rw [show i + (k - 1) + 2 = i + (k + 1) by omega, show i + (k - 1) + 1 = i + k by omega, ← e5] at hst2
          rw [if_t (lt_t hk), ixp_lt hk hck, bd_mk, wr_pred (by omega) (by omega), ixp_lt (show k - 1 < xs.length - i by omega) (by omega), bd_mk, hg1, hg2]
          by_cases hne : xs[i + k] = xs[i + (k - 1)]
          · rw [if_f (by simp [hne]), wr_succ (by omega)]
            rw [if_pos hne.symm] at hst2
            exact hrec2 (w, cs) ⟨e1, by omega, e3, by simp only; omega, hst2.symm, fun q hq => e6 q (by omega)⟩
          · rw [if_t (by simp [hne]), bd_mk, ix_lt (show w < cs.length by omega), bd_mk, wr_succ (by omega), wr_succ (by omega)]
            rw [if_neg (fun h => hne h.symm)] at hst2
            refine hrec2 (w + 1, cs.set w xs[i + k]) ⟨by simp [e1], by omega, by simp, by simp only; omega, ?_, fun q hq => ?_⟩
            · simp only; rw [take_set_succ _ (by omega), hst2]
            · simp only; rw [List.getElem?_set_ne (by omega)]; exact e6 q (by omega)
        · rintro rec2 ⟨w, cs⟩ ⟨e1, e2, e3, e4, e5, e6⟩
          simp only at e1 e3 e4 e5 e6
          simp only [slices_Compact_32_byte_32_byte.l5, slices_Compact_32_byte_32_byte.k4, Int.toNat_natCast]
          rw [if_f (lt_f (Nat.lt_irrefl _)), cut_ok (by omega) (by omega) (by omega), bd_mk]
          rw [show clr cs w (cs.length - w) (List.replicate 32 0) = some (cs.take w ++ List.replicate (cs.length - w) (List.replicate 32 0)) from if_pos (by omega), bd_mk]
          rw [cut_ok (by omega) (by omega) (by simp; omega), bd_mk]
          congr 1
          simp only [Int.toNat_natCast, Int.toNat_zero, List.drop_zero]
          rw [List.take_append_of_le_length (by simp; omega), List.take_take, Nat.min_self, e5, show i + (xs.length - i) = xs.length by omega, List.take_length]
      · rw [if_f (decide_eq_false he), wr_succ (by omega)]
        rw [if_neg (fun h => he h.symm)] at hst
        exact hrec () ⟨by omega, by rw [hst, take_snoc' hi]⟩
    · intro rec _ hI
      simp only [slices_Compact_32_byte_32_byte.l2, slices_Compact_32_byte_32_byte.k1]
      rw [if_f (lt_f (Nat.lt_irrefl _))]
      have := hI.2
      rw [List.take_length] at this
      rw [this]
theorem mem_compactL {α : Type} [DecidableEq α] (l : List α) (x : α) : x ∈ compactL l ↔ x ∈ l := by
  refine snoc_ind (p := fun l => x ∈ compactL l ↔ x ∈ l) (by simp [compactL]) (fun l y ih => ?_) l
  rw [compactL_snoc]
  unfold cstep
  split
  · rename_i h
    rw [last_compactL] at h
    rw [ih]
    simp only [List.mem_append, List.mem_singleton]
    constructor
    · exact .inl
    · rintro (h' | rfl)
      · exact h'
      · exact List.mem_of_getLast? h
  · simp only [List.mem_append, List.mem_singleton, ih]
/-- strictly rising -/
def RisesS (l : List (List UInt8)) : Prop := l.Pairwise fun a b => sLt a b = true
theorem risesS_uniq : ∀ (a b : List (List UInt8)), RisesS a → RisesS b → (∀ x, x ∈ a ↔ x ∈ b) → a = b
  | [], [], _, _, _ => rfl
  | [], y :: b, _, _, h => by have := (h y).2 (by simp); simp at this
  | x :: a, [], _, _, h => by have := (h x).1 (by simp); simp at this
  | x :: a, y :: b, ha, hb, h => by
    obtain ⟨ha1, ha2⟩ := List.pairwise_cons.1 ha
    obtain ⟨hb1, hb2⟩ := List.pairwise_cons.1 hb
    have hxy : x = y := by
      rcases List.mem_cons.1 ((h x).1 (by simp)) with e | e
      · exact e
      · rcases List.mem_cons.1 ((h y).2 (by simp)) with e' | e'
        · exact e'.symm
        · have h1 := ha1 y e'
          have h2 := hb1 x e
          rw [sLt_asymm h1] at h2; cases h2
    subst hxy
    rw [risesS_uniq a b ha2 hb2 fun z => ?_]
    constructor
    · intro hz
      rcases List.mem_cons.1 ((h z).1 (by simp [hz])) with e | e
      · subst e; have := ha1 z hz; rw [sLt_irrefl] at this; cases this
      · exact e
    · intro hz
      rcases List.mem_cons.1 ((h z).2 (by simp [hz])) with e | e
      · subst e; have := hb1 z hz; rw [sLt_irrefl] at this; cases this
      · exact e
theorem rise_le {l : List (List UInt8)} (h : Rise cmpT l) : l.Pairwise fun a b => sLt b a = false := by
  refine h.imp fun {a b} h1 => ?_
  have := cmpT_lt b a
  unfold ltOf at this
  rw [← this]; simpa using h1
theorem compactL_rises (l : List (List UInt8)) (h : l.Pairwise fun a b => sLt b a = false) : RisesS (compactL l) := by
  revert h
  refine snoc_ind (p := fun l => (l.Pairwise fun a b => sLt b a = false) → RisesS (compactL l)) (fun _ => by simp [compactL, RisesS]) (fun l y ih h => ?_) l
  rw [List.pairwise_append] at h
  have h1 := ih h.1
  rw [compactL_snoc]
  unfold cstep
  split
  · exact h1
  · rename_i hl
    rw [last_compactL] at hl
    refine List.pairwise_append.2 ⟨h1, by simp, fun a ha b hb => ?_⟩
    simp at hb
    subst hb
    have ha' := (mem_compactL l a).1 ha
    have h2 := h.2.2 a ha' b (by simp)
    cases h3 : sLt a b with
    | true => rfl
    | false =>
      exfalso
      have e : a = b := sLt_tri h3 h2
      subst e
      -- it is the last one, then
      obtain ⟨s, t, hst⟩ := List.append_of_mem ha'
      cases t with
      | nil => rw [hst] at hl; simp at hl
      | cons z t =>
        have hz : ∃ w, l.getLast? = some w ∧ w ∈ z :: t := by
          rw [hst]
          refine ⟨(z :: t).getLast (by simp), ?_, List.getLast_mem _⟩
          rw [List.getLast?_append, List.getLast?_cons_cons, List.getLast?_eq_some_getLast (by simp : z :: t ≠ [])]; rfl
        obtain ⟨w, hw, hwm⟩ := hz
        have h4 : sLt w a = false := by
          have h5 := h.1
          rw [hst, List.pairwise_append] at h5
          exact (List.pairwise_cons.1 h5.2.1).1 w hwm
        have h6 := h.2.2 w (by rw [hst]; simp [hwm]) a (by simp)
        have e2 : w = a := sLt_tri h4 h6
        rw [e2] at hw
        exact hl hw
def idsOf (m : Manifest) : List (List UInt8) := m.parts.flatMap Part.ids
def idsU (l : List (List UInt8)) : List (List UInt8) := compactL (isort cmpT l)
theorem idsU_mem (l : List (List UInt8)) (x : List UInt8) : x ∈ idsU l ↔ x ∈ l := by
  unfold idsU; rw [mem_compactL]; exact (isort_perm cmpT l).mem_iff
theorem idsU_rises (l : List (List UInt8)) : RisesS (idsU l) := compactL_rises _ (rise_le (isort_rise cmpT_swo l))
theorem idsU_len (l : List (List UInt8)) : (idsU l).length ≤ l.length := by
  unfold idsU
  have h1 := compactL_len (isort cmpT l)
  rw [(isort_perm cmpT l).length_eq] at h1; exact h1
theorem cloneI_eq (l : List (List UInt8)) (hl : l.length ≤ 1073741824) : slices_Clone_32_byte_32_byte l = some l := by
  unfold slices_Clone_32_byte_32_byte
  rw [app_ok (by simpa using hl), bd_mk, List.nil_append]
theorem flatMap_take_le (l : List Part) (i : Nat) : ((l.take i).flatMap Part.ids).length ≤ (l.flatMap Part.ids).length := by
  conv => rhs; rw [← List.take_append_drop i l, List.flatMap_append, List.length_append]
  omega
theorem mids_eq (m : Manifest) (hp : m.parts.length ≤ 1073741824) (hl : (idsOf m).length ≤ 1073741824) : manifest_Ids m = some (idsU (idsOf m)) := by
  unfold manifest_Ids
  refine loop_eq (S := List (List UInt8) × Int) (σ := List (List UInt8)) (fun i l => (l, (i : Int))) m.parts.length (fun i l => l = (m.parts.take i).flatMap Part.ids) _ (i0 := 0) (s0 := []) rfl (Nat.zero_le _) rfl (by omega) ?_ ?_
  · intro rec i l hi hI hrec
    simp only [manifest_Ids.l2]
    have h1 := flatMap_take_le m.parts (i + 1)
    rw [take_snoc' hi, List.flatMap_append, ← hI] at h1
    simp only [List.flatMap_cons, List.flatMap_nil, List.append_nil, List.length_append] at h1
    unfold idsOf at hl
    rw [if_t (lt_t hi), ix_lt hi, bd_mk, app_ok (by omega), bd_mk, wr_succ (by omega)]
    refine hrec _ ?_
    rw [take_snoc' hi, List.flatMap_append, hI]; simp
  · intro rec l hI
    simp only [manifest_Ids.l2, manifest_Ids.k1]
    rw [if_f (lt_f (Nat.lt_irrefl _))]
    rw [List.take_length] at hI
    have hI' : l = idsOf m := hI
    subst hI'
    refine bdS_eq cmpT_swo hl fun l' hp' hr => ?_
    have hll := hp'.length_eq
    have h2 := compactL_len l'
    rw [compactI_eq _ (by omega), bd_mk, cloneI_eq _ (by omega), bd_mk]
    congr 1
    refine risesS_uniq _ _ (compactL_rises _ (rise_le hr)) (idsU_rises _) fun x => ?_
    rw [mem_compactL, hp'.mem_iff, idsU_mem]
end Go.Wk.Lf
/- What manifest.Build tells is a manifest; its ids are those of its chunks. -/
namespace Go.Wk.Lf
open Go.Shelf Go.Sort Go.Proofs
set_option linter.unusedVariables false
set_option linter.unusedSimpArgs false
theorem built_manB {name : List UInt8} {l : List File} (hN : nameB name = true) (hC : chkL l = 0) : manB ⟨name, l.map partL⟩ := by
  obtain ⟨hL, hB, hR⟩ := chkL_ok hC
  obtain ⟨hl, hd⟩ := long_f hL
  refine ⟨hN, by simpa using hl, ?_, ?_⟩
  · rw [List.all_eq_true]
    intro p hp
    obtain ⟨f, hf, rfl⟩ := List.mem_map.1 hp
    have hdf := hd f hf
    have hnf : nameB f.path = true := by
      unfold badB at hB
      rw [List.any_eq_false] at hB
      simpa using hB f hf
    have hc := cutL_len f.data
    have he := cutL_empty f.data
    have h0 : ((cutL f.data).map sha).length = 0 ↔ (f.data.length : Int) = 0 := by
      rw [List.length_map]
      constructor
      · intro h
        have := he.1 (List.eq_nil_of_length_eq_zero h)
        rw [this]; rfl
      · intro h
        have : f.data = [] := List.eq_nil_of_length_eq_zero (by omega)
        rw [he.2 this]; rfl
    have hr : partB (partL f) = ((((nameB f.path && decide (0 ≤ (f.data.length : Int))) && decide ((f.data.length : Int) ≤ 200)) && decide (((cutL f.data).map sha).length ≤ 25)) && (decide (((cutL f.data).map sha).length = 0) == decide ((f.data.length : Int) = 0))) := rfl
    rw [hr, hnf, decide_eq_true (by omega : 0 ≤ (f.data.length : Int)), decide_eq_true (by omega : (f.data.length : Int) ≤ 200), decide_eq_true (by rw [List.length_map]; omega), Bool.true_and, Bool.true_and, Bool.true_and, Bool.true_and, beq_iff_eq, decide_eq_decide]
    exact h0
  · unfold risesP
    rw [List.pairwise_map]
    exact hR
theorem built_okId (name : List UInt8) (l : List File) : okId ⟨name, l.map partL⟩ := by
  intro p hp x hx
  obtain ⟨f, hf, rfl⟩ := List.mem_map.1 hp
  obtain ⟨c, _, rfl⟩ := List.mem_map.1 hx
  exact Sha.sha256_len _
theorem built_ids (name : List UInt8) (l : List File) : idsOf ⟨name, l.map partL⟩ = (pieces l).map sha := by
  unfold idsOf pieces
  rw [List.flatMap_map, List.map_flatMap]
  rfl
theorem ordRow_lt (p q : List UInt8) : ordRow p q < 0 ↔ sLt (sha p) (sha q) = true := by
  have := cmpT_lt (sha p) (sha q)
  unfold ltOf at this
  rw [← this]; simp [ordRow]
theorem chunks_rises (l : List File) : RisesS ((isort ordRow (chunksL l)).map sha) := by
  unfold RisesS
  rw [List.pairwise_map]
  have h1 := isort_rise ordRow_swo (chunksL l)
  have h2 : ((isort ordRow (chunksL l)).map sha).Nodup := ((isort_perm ordRow _).map sha).nodup_iff.2 (chunks_nodup l)
  rw [List.nodup_iff_pairwise_ne, List.pairwise_map] at h2
  refine (List.Pairwise.and h1 h2).imp fun {a b} h => ?_
  have h3 := h.1
  rw [ordRow_lt, Bool.not_eq_true] at h3
  cases h4 : sLt (sha a) (sha b) with
  | true => rfl
  | false => exact absurd (sLt_tri h4 h3) h.2
theorem chunks_idsU (name : List UInt8) (l : List File) : (isort ordRow (chunksL l)).map sha = idsU (idsOf ⟨name, l.map partL⟩) := by
  refine risesS_uniq _ _ (chunks_rises l) (idsU_rises _) fun x => ?_
  rw [idsU_mem, built_ids, ← chunks_ids]
  exact ((isort_perm ordRow (chunksL l)).map sha).mem_iff
theorem isortC_len (l : List File) : (isort ordRow (chunksL l)).length = (chunksL l).length := (isort_perm ordRow (chunksL l)).length_eq
theorem chunksL_len {l : List File} (hl : l.length ≤ 6) (hd : ∀ f ∈ l, f.data.length ≤ 200) : (chunksL l).length ≤ 150 := by
  have := foldC_len (pieces l) []
  have := pieces_len hl hd
  unfold chunksL; simp at *; omega
theorem buildL_cases (name : List UInt8) (l : List File) : (nameB name = false ∧ buildL name l = (⟨[], []⟩, [], 1)) ∨ (nameB name = true ∧ chkL l ≠ 0 ∧ buildL name l = (⟨[], []⟩, [], chkL l)) ∨
    (nameB name = true ∧ chkL l = 0 ∧ buildL name l = (⟨name, l.map partL⟩, isort ordRow (chunksL l), 0)) := by
  unfold buildL
  cases hN : nameB name with
  | false => left; simp
  | true =>
    right
    by_cases hC : chkL l = 0
    · right; simp [hC]
    · left; simp [hC]
end Go.Wk.Lf
/- Of law 05's and law 17's heavy arguments. -/
namespace Go.Wk.Lf
open Go.Shelf Go.Sort Go.Proofs
set_option linter.unusedVariables false
set_option linter.unusedSimpArgs false
def lightF (f : File) : Bool := decide (f.data.length ≤ 500) && decide (f.path.length ≤ 100)
theorem heavy_eq (l : List File) : ∃ b, cellarerlaw05_Heavy l = some b ∧ (b = false → l.length ≤ 20 ∧ ∀ f ∈ l, f.data.length ≤ 500 ∧ f.path.length ≤ 100) := by
  unfold cellarerlaw05_Heavy
  by_cases h20 : 20 < l.length
  · rw [if_pos (by simp; omega)]; exact ⟨true, rfl, fun h => by cases h⟩
  · rw [if_neg (by simp; omega)]
    rw [loop_all (x0 := (0 : Int)) (fun i => (i : Int)) l.length (fun i => lightF (l.getD i default)) (some false) (some true) rfl (by omega) ?_ ?_]
    · by_cases h : (∀ i, i < l.length → lightF (l.getD i default) = true)
      · rw [if_pos h]
        refine ⟨false, rfl, fun _ => ⟨by omega, fun f hf => ?_⟩⟩
        obtain ⟨j, hj, rfl⟩ := List.getElem_of_mem hf
        have := h j hj
        simpa [lightF, hj] using this
      · rw [if_neg h]; exact ⟨true, rfl, fun h => by cases h⟩
    · intro rec i hi
      simp only [cellarerlaw05_Heavy.l2, lightF]
      rw [if_t (lt_t hi), ix_lt hi, bd_mk]
      simp only [List.getD_eq_getElem?_getD, List.getElem?_eq_getElem hi, Option.getD_some]
      by_cases h5 : 500 < l[i].data.length
      · rw [only_f (by simp; omega), bd_mk, if_pos (by simp; omega), if_neg (by simp; omega)]
      · rw [only_t (by simp; omega), bd_mk]
        by_cases h1 : 100 < l[i].path.length
        · rw [if_pos (by simp; omega), if_neg (by simp; omega)]
        · rw [if_neg (by simp; omega), if_pos (by simp; omega), wr_succ (by omega)]
    · intro rec
      simp only [cellarerlaw05_Heavy.l2, cellarerlaw05_Heavy.k1]
      rw [if_f (lt_f (Nat.lt_irrefl _))]
end Go.Wk.Lf
/- cellarerkeep: bytes, ids, manifests, files compared, plainly. -/
namespace Go.Wk.Lf
open Go.Shelf Go.Sort Go.Proofs
set_option linter.unusedVariables false
set_option linter.unusedSimpArgs false

/-- two rows compared, place by place -/
theorem loop_same {α A : Type} [DecidableEq α] {F : (Int → Option A) → Int → Option A} (a b : List α) (hl : a.length = b.length) (hn : a.length < 4611686018427387904) (K B : Option A)
    (hs : ∀ rec i (h : i < a.length) (h' : i < b.length), F rec (i : Int) = if a[i] = b[i] then rec ((i + 1 : Nat) : Int) else B) (he : ∀ rec, F rec (a.length : Int) = K) : loop F 0 = if a = b then K else B := by
  rw [loop_all (x0 := (0 : Int)) (fun i => (i : Int)) a.length (fun i => decide (a[i]? = b[i]?)) K B rfl hn ?_ he]
  · have hiff : (∀ i, i < a.length → decide (a[i]? = b[i]?) = true) ↔ a = b := by
      constructor
      · intro h
        apply List.ext_getElem? 
        intro i
        by_cases hi : i < a.length
        · simpa using h i hi
        · rw [List.getElem?_eq_none (by omega), List.getElem?_eq_none (by omega)]
      · rintro rfl i _; simp
    by_cases h : a = b
    · rw [if_pos (hiff.2 h), if_pos h]
    · rw [if_neg fun h2 => h (hiff.1 h2), if_neg h]
  · intro rec i hi
    have hi' : i < b.length := by omega
    rw [hs rec i hi hi']
    by_cases h : a[i] = b[i]
    · rw [if_pos h, if_pos (by simp [hi, hi', h])]
    · rw [if_neg h, if_neg (by simp [hi, hi', h])]
theorem len_ne {α β : Type} (a : List α) (b : List β) : decide ((a.length : Int) ≠ (b.length : Int)) = !decide (a.length = b.length) := by
  by_cases h : a.length = b.length
  · simp [h]
  · have : (a.length : Int) ≠ (b.length : Int) := by omega
    simp [h, this]
theorem kbytes_eq (a b : List UInt8) (ha : a.length < 4611686018427387904) : cellarerkeep_Bytes a b = some (decide (a = b)) := by
  unfold cellarerkeep_Bytes
  rw [len_ne]
  by_cases hl : a.length = b.length
  · rw [if_neg (by simp [hl]), loop_same a b hl ha (some true) (some false) ?_ ?_]
    · by_cases h : a = b <;> simp [h]
    · intro rec i hi hi'
      simp only [cellarerkeep_Bytes.l2]
      rw [if_t (lt_t hi), ix_lt hi, bd_mk, ix_lt hi', bd_mk, wr_succ (by omega)]
      by_cases h : a[i] = b[i]
      · rw [if_neg (by simp [h]), if_pos h]
      · rw [if_pos (by simp only [ne_eq, decide_eq_true_eq]; intro e; exact h (UInt8.toNat.inj (by omega))), if_neg h]
    · intro rec
      simp only [cellarerkeep_Bytes.l2, cellarerkeep_Bytes.k1]
      rw [if_f (lt_f (Nat.lt_irrefl _))]
  · rw [if_pos (by simp [hl]), decide_eq_false fun e => hl (by rw [e])]
end Go.Wk.Lf
/- The page's chunks, plainly. -/
namespace Go.Wk.Lf
open Go.Shelf Go.Sort Go.Proofs
set_option linter.unusedVariables false
set_option linter.unusedSimpArgs false
theorem twinBy_eq (l : List UInt8) (h : l.length ≤ 1073741824) : cellarerkeep_Twin l = some l := by
  unfold cellarerkeep_Twin
  rw [app_ok (by simpa using h), bd_mk, List.nil_append]
theorem mul2 (x : UInt32) : x * (2 : UInt32) = x <<< UInt32.ofNat 1 := by
  apply UInt32.toNat.inj
  rw [UInt32.toNat_mul, UInt32.toNat_shiftLeft]
  rw [show (2 : UInt32).toNat = 2 from rfl, show (UInt32.ofNat 1).toNat % 32 = 1 from rfl, Nat.shiftLeft_eq]
theorem rnext_eq (b : List UInt8) (hb : b.length < 4611686018427387904) : cellarerref01_Next b = some (nextL b : Int) := by
  unfold cellarerref01_Next
  refine loop_eq (S := UInt32 × Int) (σ := UInt32) (fun i r => (r, (i : Int))) b.length (fun i r => i < 64 ∧ nextGo r i (b.drop i) = nextL b) _ (i0 := 0) rfl (Nat.zero_le _) ⟨by decide, rfl⟩ hb ?_ ?_
  · intro rec i r hi hI hrec
    obtain ⟨h64, hI⟩ := hI
    simp only [cellarerref01_Next.l2]
    rw [List.drop_eq_getElem_cons hi] at hI
    simp only [nextGo] at hI
    rw [if_t (lt_t hi), ix_lt hi, bd_mk, wr_succ (by omega)]
    have e1 : decide (((i + 1 : Nat) : Int) = 64) = decide (64 ≤ i + 1) := by rw [decide_eq_decide]; omega
    have e2 : decide (8 ≤ ((i + 1 : Nat) : Int)) = decide (8 ≤ i + 1) := by rw [decide_eq_decide]; omega
    rw [e1, e2, mul2]
    show (if ((decide (8 ≤ i + 1) && regHigh (regStep r b[i])) || decide (64 ≤ i + 1)) = true then _ else rec (regStep r b[i], ((i + 1 : Nat) : Int))) = _
    rw [Bool.or_comm]
    split
    · rename_i hc
      rw [if_pos hc] at hI
      rw [← hI]
    · rename_i hc
      rw [if_neg hc] at hI
      refine hrec _ ⟨?_, hI⟩
      simp only [Bool.or_eq_true, decide_eq_true_eq, not_or] at hc
      omega
  · intro rec r hI
    simp only [cellarerref01_Next.l2, cellarerref01_Next.k1]
    rw [if_f (lt_f (Nat.lt_irrefl _))]
    have hI2 := hI.2
    rw [List.drop_length] at hI2
    simp only [nextGo] at hI2
    rw [← hI2]
theorem rcut_eq (b : List UInt8) (hb : b.length ≤ 1000000) : cellarerref01_Cut b = some (cutL b) := by
  unfold cellarerref01_Cut
  refine loop_const (S := List UInt8 × List (List UInt8)) (fun s => s.1.length ≤ 1000000 ∧ s.2.length + s.1.length ≤ 1000000 ∧ s.2 ++ cutL s.1 = cutL b) (fun s => s.1.length) ⟨hb, by simpa using hb, rfl⟩ (by show b.length < _; omega) ?_
  rintro rec ⟨q, acc⟩ ⟨h1, h2, h3⟩ hrec
  simp only at h1 h2 h3
  simp only [cellarerref01_Cut.l2, cellarerref01_Cut.k1]
  by_cases hq : q = []
  · subst hq
    rw [if_neg (by simp)]
    rw [cutL_nil, List.append_nil] at h3
    rw [h3]
  · have h4 := nextL_pos hq
    have h5 := nextL_le q
    have h6 : 0 < q.length := List.length_pos_iff.2 hq
    rw [if_pos (by simp; omega), rnext_eq q (by omega), bd_mk, cut_ok (by omega) (by omega) (by omega), bd_mk, Int.toNat_natCast, Int.toNat_zero, List.drop_zero, twinBy_eq _ (by simp; omega), bd_mk, app_ok (by simp; omega), bd_mk, cut_ok (by omega) (by omega) (by omega), bd_mk, Int.toNat_natCast, Int.toNat_natCast, List.take_length]
    refine hrec _ ⟨by simp; omega, by simp; omega, ?_⟩ (by simp; omega)
    rw [← h3, cutL_cons hq]; simp
end Go.Wk.Lf
/- manifest.Join and law 17's clash test, plainly. -/
namespace Go.Wk.Lf
open Go.Shelf Go.Sort Go.Proofs
set_option linter.unusedVariables false
set_option linter.unusedSimpArgs false
def putC (m : List UInt8 → Option (List UInt8)) (x : List UInt8) : List UInt8 → Option (List UInt8) := mput m (sha x) x
def haveC (L : List (List UInt8)) : List UInt8 → Option (List UInt8) := L.foldl putC mnil
theorem fold_some : ∀ (L : List (List UInt8)) (m : List UInt8 → Option (List UInt8)) (k y : List UInt8), L.foldl putC m k = some y → (y ∈ L ∧ sha y = k) ∨ m k = some y
  | [], m, k, y, h => .inr h
  | x :: L, m, k, y, h => by
    rcases fold_some L (putC m x) k y h with h | h
    · exact .inl ⟨by simp [h.1], h.2⟩
    · unfold putC mput at h
      by_cases hk : k = sha x
      · rw [if_pos hk] at h
        obtain rfl := Option.some.inj h
        exact .inl ⟨by simp, hk.symm⟩
      · rw [if_neg hk] at h; exact .inr h
theorem fold_is : ∀ (L : List (List UInt8)) (m : List UInt8 → Option (List UInt8)) (k : List UInt8), (L.foldl putC m k).isSome = true ↔ k ∈ L.map sha ∨ (m k).isSome = true
  | [], m, k => by simp
  | x :: L, m, k => by
    rw [List.foldl_cons, fold_is L (putC m x) k, List.map_cons, List.mem_cons]
    unfold putC mput
    by_cases hk : k = sha x
    · simp [hk]
    · simp [hk]
theorem haveC_some {L : List (List UInt8)} {k y : List UInt8} (h : haveC L k = some y) : y ∈ L ∧ sha y = k := by
  rcases fold_some L _ k y h with h | h
  · exact h
  · cases h
theorem haveC_is (L : List (List UInt8)) (k : List UInt8) : (haveC L k).isSome = true ↔ k ∈ L.map sha := by
  unfold haveC; rw [fold_is]; simp [mnil]
/-- what Join makes of a part -/
def joinP (m : List UInt8 → Option (List UInt8)) (p : Part) : List UInt8 := p.ids.flatMap fun x => (m x).getD []
theorem join_eq {m : Manifest} {L : List (List UInt8)} (hm : manB m) (hL : L.length ≤ 1073741824) (hs : ∀ x ∈ L, x.length ≤ 1000000) (hp : ∀ p ∈ m.parts, (joinP (haveC L) p).length ≤ 1000000) (hi : (idsOf m).length ≤ 1000000)
    (hz : ∀ p ∈ m.parts, ((joinP (haveC L) p).length : Int) = p.size) :
    manifest_Join m L = some (if (∀ x ∈ idsOf m, x ∈ L.map sha) then (m.parts.map fun p => ⟨p.path, joinP (haveC L) p⟩, 0) else ([], 8)) := by
  have h6 := hm.2.1
  unfold manifest_Join
  rw [mcheck_eq, bd_mk, if_pos hm, if_neg (show ¬ (decide ((0 : Int) ≠ 0) = true) from by decide)]
  rw [loop_fold (S := Int × (List UInt8 → Option (List UInt8))) (fun i s => ((i : Int), s)) L putC (fun s => manifest_Join.k1 m s) (fun _ _ => True) (i0 := 0) (s0 := mnil) (x0 := (0, mnil)) rfl (Nat.zero_le _) trivial (by omega) ?_ ?_]
  · show manifest_Join.k1 m (haveC L) = _
    unfold manifest_Join.k1
    rw [mids_eq m (by omega) (by omega), bd_mk]
    have hiU : (idsU (idsOf m)).length ≤ 1000000 := Nat.le_trans (idsU_len _) hi
    rw [loop_all (x0 := (0 : Int)) (fun i => (i : Int)) (idsU (idsOf m)).length (fun i => ((haveC L) ((idsU (idsOf m)).getD i [])).isSome) (manifest_Join.k2 m (haveC L)) (some ([], 8)) rfl (by omega) ?_ ?_]
    · have hiff : (∀ i, i < (idsU (idsOf m)).length → ((haveC L) ((idsU (idsOf m)).getD i [])).isSome = true) ↔ (∀ x ∈ idsOf m, x ∈ L.map sha) := by
        constructor
        · intro h x hx
          obtain ⟨j, hj, rfl⟩ := List.getElem_of_mem ((idsU_mem _ _).2 hx)
          have := h j hj
          rw [haveC_is] at this
          simpa [hj] using this
        · intro h i hi
          rw [haveC_is]
          have := h ((idsU (idsOf m))[i]) ((idsU_mem _ _).1 (List.getElem_mem hi))
          simpa [hi] using this
      by_cases hq : (∀ x ∈ idsOf m, x ∈ L.map sha)
      · rw [if_pos (hiff.2 hq), if_pos hq]
        unfold manifest_Join.k2
        rw [loop_fold (S := List File × Int) (fun i s => (s, (i : Int))) m.parts (fun s p => s ++ [⟨p.path, joinP (haveC L) p⟩]) (fun s => some (s, 0)) (fun i s => s.length = i) (i0 := 0) (s0 := []) (x0 := ([], 0)) rfl (Nat.zero_le _) rfl (by omega) ?_ ?_]
        · rw [List.drop_zero]
          have : ∀ (l : List Part) (a : List File), l.foldl (fun s p => s ++ [⟨p.path, joinP (haveC L) p⟩]) a = a ++ l.map fun p => (⟨p.path, joinP (haveC L) p⟩ : File) := by
            intro l; induction l with
            | nil => intro a; simp
            | cons p l ih => intro a; rw [List.foldl_cons, ih]; simp
          rw [this]; rfl
        · intro rec i s h hI
          refine ⟨by simp [hI], ?_⟩
          simp only [manifest_Join.l4]
          rw [if_t (lt_t h), ix_lt h, bd_mk]
          have hmp := List.getElem_mem h
          have hln := (partB_num (manB_parts hm _ hmp)).2.2.2.1
          have hpl := hp _ hmp
          rw [loop_fold (S := Int × List UInt8) (fun j s => ((j : Int), s)) m.parts[i].ids (fun s x => s ++ ((haveC L) x).getD []) (fun b => manifest_Join.k6 s (i : Int) rec m.parts[i] b) (fun j b => b = (m.parts[i].ids.take j).flatMap fun x => ((haveC L) x).getD []) (i0 := 0) (s0 := []) (x0 := (0, [])) rfl (Nat.zero_le _) (by simp) (by omega) ?_ ?_]
          · have hf : ∀ (l : List (List UInt8)) (a : List UInt8), l.foldl (fun s x => s ++ ((haveC L) x).getD []) a = a ++ l.flatMap fun x => ((haveC L) x).getD [] := by
              intro l; induction l with
              | nil => intro a; simp
              | cons p l ih => intro a; rw [List.foldl_cons, ih]; simp
            rw [List.drop_zero, hf, List.nil_append]
            unfold manifest_Join.k6
            have hzz := hz _ hmp
            unfold joinP at hzz
            rw [if_neg (by rw [decide_eq_false (by omega)]; decide), app_ok (by simp; omega), bd_mk]
            unfold manifest_Join.k5
            rw [wr_succ (by omega)]
            rfl
          · intro rec2 j b hj hJ
            refine ⟨?_, ?_⟩
            · rw [hJ, take_snoc' hj, List.flatMap_append, List.flatMap_cons, List.flatMap_nil, List.append_nil]
            · simp only [manifest_Join.l7]
              have hle : b.length + (((haveC L) m.parts[i].ids[j]).getD []).length ≤ 1000000 := by
                refine Nat.le_trans ?_ hpl
                have e : joinP (haveC L) m.parts[i] = ((m.parts[i].ids.take (j + 1)).flatMap fun x => ((haveC L) x).getD []) ++ ((m.parts[i].ids.drop (j + 1)).flatMap fun x => ((haveC L) x).getD []) := by
                  unfold joinP; rw [← List.flatMap_append, List.take_append_drop]
                rw [e, take_snoc' hj, List.flatMap_append, List.length_append, List.length_append, ← hJ, List.flatMap_cons, List.flatMap_nil, List.append_nil]
                omega
              rw [if_t (lt_t hj), ix_lt hj, bd_mk, app_ok (by omega), bd_mk, wr_succ (by omega)]
          · intro rec2 b _
            simp only [manifest_Join.l7]
            rw [if_f (lt_f (Nat.lt_irrefl _))]
        · intro rec s _
          simp only [manifest_Join.l4]
          rw [if_f (lt_f (Nat.lt_irrefl _))]
          rfl
      · rw [if_neg fun h => hq (hiff.1 h), if_neg hq]
    · intro rec i hi
      simp only [manifest_Join.l8]
      rw [if_t (lt_t hi), ix_lt hi, bd_mk]
      have e : (idsU (idsOf m)).getD i [] = (idsU (idsOf m))[i] := by simp [hi]
      rw [e]
      by_cases hb : (haveC L (idsU (idsOf m))[i]).isSome = true
      · rw [hb, if_neg (by simp), if_pos rfl, wr_succ (by omega)]
      · rw [Bool.not_eq_true] at hb
        rw [hb, if_pos (by simp), if_neg (by simp)]
    · intro rec
      simp only [manifest_Join.l8]
      rw [if_f (lt_f (Nat.lt_irrefl _))]
  · intro rec i s h _
    refine ⟨trivial, ?_⟩
    simp only [manifest_Join.l9]
    rw [if_t (lt_t h), ix_lt h, bd_mk, shaSum_one _ (hs _ (List.getElem_mem h)), bd_mk, wr_succ (by omega)]
    rfl
  · intro rec s _
    simp only [manifest_Join.l9]
    rw [if_f (lt_f (Nat.lt_irrefl _))]
/-- the same, but an id lacks: whatever the parts' sizes -/
theorem join_lack {m : Manifest} {L : List (List UInt8)} (hm : manB m) (hL : L.length ≤ 1073741824) (hs : ∀ x ∈ L, x.length ≤ 1000000) (hi : (idsOf m).length ≤ 1000000) (hq : ¬ ∀ x ∈ idsOf m, x ∈ L.map sha) :
    manifest_Join m L = some ([], 8) := by
  have h6 := hm.2.1
  unfold manifest_Join
  rw [mcheck_eq, bd_mk, if_pos hm, if_neg (show ¬ (decide ((0 : Int) ≠ 0) = true) from by decide)]
  rw [loop_fold (S := Int × (List UInt8 → Option (List UInt8))) (fun i s => ((i : Int), s)) L putC (fun s => manifest_Join.k1 m s) (fun _ _ => True) (i0 := 0) (s0 := mnil) (x0 := (0, mnil)) rfl (Nat.zero_le _) trivial (by omega) ?_ ?_]
  · show manifest_Join.k1 m (haveC L) = _
    unfold manifest_Join.k1
    rw [mids_eq m (by omega) (by omega), bd_mk]
    have hiU : (idsU (idsOf m)).length ≤ 1000000 := Nat.le_trans (idsU_len _) hi
    rw [loop_all (x0 := (0 : Int)) (fun i => (i : Int)) (idsU (idsOf m)).length (fun i => ((haveC L) ((idsU (idsOf m)).getD i [])).isSome) (manifest_Join.k2 m (haveC L)) (some ([], 8)) rfl (by omega) ?_ ?_]
    · rw [if_neg]
      intro h
      refine hq fun x hx => ?_
      obtain ⟨j, hj, rfl⟩ := List.getElem_of_mem ((idsU_mem _ _).2 hx)
      have := h j hj
      rw [haveC_is] at this
      simpa [hj] using this
    · intro rec i hi
      simp only [manifest_Join.l8]
      rw [if_t (lt_t hi), ix_lt hi, bd_mk]
      have e : (idsU (idsOf m)).getD i [] = (idsU (idsOf m))[i] := by simp [hi]
      rw [e]
      by_cases hb : (haveC L (idsU (idsOf m))[i]).isSome = true
      · rw [hb, if_neg (by simp), if_pos rfl, wr_succ (by omega)]
      · rw [Bool.not_eq_true] at hb
        rw [hb, if_pos (by simp), if_neg (by simp)]
    · intro rec
      simp only [manifest_Join.l8]
      rw [if_f (lt_f (Nat.lt_irrefl _))]
  · intro rec i s h _
    refine ⟨trivial, ?_⟩
    simp only [manifest_Join.l9]
    rw [if_t (lt_t h), ix_lt h, bd_mk, shaSum_one _ (hs _ (List.getElem_mem h)), bd_mk, wr_succ (by omega)]
    rfl
  · intro rec s _
    simp only [manifest_Join.l9]
    rw [if_f (lt_f (Nat.lt_irrefl _))]
theorem shaId_one (x : List UInt8) (h : x.length ≤ 1000000) : shaId x = some (sha x) := by
  unfold shaId
  rw [if_pos (by omega)]
/-- the pieces are bytes apart whose ids are apart -/
def aloneP (P : List (List UInt8)) : Prop := ∀ x ∈ P, ∀ y ∈ P, sha x = sha y → x = y
theorem apartK {P : List (List UInt8)} (hn : P.length ≤ 1000000) (hs : ∀ x ∈ P, x.length ≤ 1000000) : ∃ b, cellarerlaw17_apart.k1 P = some b ∧ (b = false → aloneP P) := by
  unfold cellarerlaw17_apart.k1
  refine loop_for (S := Int) (σ := Unit) (fun i _ => (i : Int)) P.length (fun i _ => ∀ a b (ha : a < i) (hb : b < a) (hP : a < P.length), sha P[a] = sha P[b] → P[a] = P[b]) (fun o => ∃ b, o = some b ∧ (b = false → aloneP P)) (i0 := 0) (s0 := ()) rfl (Nat.zero_le _) (fun a b ha _ _ => absurd ha (Nat.not_lt_zero _)) (by omega) ?_ ?_
  · intro rec i _ hi hI hrec
    simp only [cellarerlaw17_apart.l3]
    rw [if_t (lt_t hi)]
    refine loop_for (S := Int) (σ := Unit) (fun j _ => (j : Int)) i (fun j _ => ∀ b (hb : b < j) (hP : b < P.length), sha P[i] = sha P[b] → P[i] = P[b]) (fun o => ∃ b, o = some b ∧ (b = false → aloneP P)) (i0 := 0) (s0 := ()) rfl (Nat.zero_le _) (fun b hb _ => absurd hb (Nat.not_lt_zero _)) (by omega) ?_ ?_
    · intro rec2 j _ hj hJ hrec2
      have hjP : j < P.length := by omega
      have hsi := hs _ (List.getElem_mem hi)
      simp only [cellarerlaw17_apart.l5]
      rw [if_t (lt_t hj), ix_lt hi, bd_mk, shaId_one _ hsi, bd_mk, ix_lt hjP, bd_mk, shaId_one _ (hs _ (List.getElem_mem hjP)), bd_mk]
      by_cases he : sha P[i] = sha P[j]
      · rw [only_t (decide_eq_true he), only_t (decide_eq_true he), bd_mk, bd_mk, only_t (decide_eq_true he), kbytes_eq _ _ (by omega), bd_mk, decide_eq_true he]
        by_cases hxy : P[i] = P[j]
        · rw [if_neg (by simp [hxy]), wr_succ (by omega)]
          refine hrec2 () fun b hb hP => ?_
          rcases Nat.lt_or_eq_of_le (Nat.le_of_lt_succ hb) with h | h
          · exact hJ b h hP
          · subst h; exact fun _ => hxy
        · rw [if_pos (by simp [hxy])]
          exact ⟨true, rfl, fun h => by cases h⟩
      · rw [only_f (decide_eq_false he), only_f (decide_eq_false he), bd_mk, bd_mk, only_f (decide_eq_false he), bd_mk, decide_eq_false he, if_neg (by simp), wr_succ (by omega)]
        refine hrec2 () fun b hb hP => ?_
        rcases Nat.lt_or_eq_of_le (Nat.le_of_lt_succ hb) with h | h
        · exact hJ b h hP
        · subst h; exact fun h => absurd h he
    · intro rec2 _ hJ
      simp only [cellarerlaw17_apart.l5]
      rw [if_f (lt_f (Nat.lt_irrefl _))]
      unfold cellarerlaw17_apart.k4
      rw [wr_succ (by omega)]
      refine hrec () fun a b ha hb hP => ?_
      rcases Nat.lt_or_eq_of_le (Nat.le_of_lt_succ ha) with h | h
      · exact hI a b h hb hP
      · subst h; exact hJ b hb (by omega)
  · intro rec _ hI
    simp only [cellarerlaw17_apart.l3]
    rw [if_f (lt_f (Nat.lt_irrefl _))]
    refine ⟨false, rfl, fun _ x hx y hy hxy => ?_⟩
    obtain ⟨i, hi, rfl⟩ := List.getElem_of_mem hx
    obtain ⟨j, hj, rfl⟩ := List.getElem_of_mem hy
    rcases Nat.lt_trichotomy i j with h | h | h
    · exact (hI j i hj h hj hxy.symm).symm
    · subst h; rfl
    · exact hI i j hi h hi hxy
theorem apart_eq {l : List File} (hl : l.length ≤ 6) (hd : ∀ f ∈ l, f.data.length ≤ 200) : ∃ b, cellarerlaw17_apart l = some b ∧ (b = false → aloneP (pieces l)) := by
  unfold cellarerlaw17_apart
  have hP := pieces_len hl hd
  rw [loop_fold (S := List (List UInt8) × Int) (fun i s => (s, (i : Int))) l (fun s f => s ++ cutL f.data) (fun s => cellarerlaw17_apart.k1 s) (fun i s => s = (l.take i).flatMap fun f => cutL f.data) (i0 := 0) (s0 := []) (x0 := ([], 0)) rfl (Nat.zero_le _) (by simp) (by omega) ?_ ?_]
  · have hf : ∀ (l : List File) (a : List (List UInt8)), l.foldl (fun s f => s ++ cutL f.data) a = a ++ pieces l := by
      intro l; induction l with
      | nil => intro a; simp [pieces]
      | cons p l ih => intro a; rw [List.foldl_cons, ih]; simp [pieces]
    rw [List.drop_zero, hf, List.nil_append]
    refine apartK (by omega) fun x hx => ?_
    obtain ⟨f, _, hx⟩ := List.mem_flatMap.1 hx
    have := (cutL_mem f.data x hx).2
    omega
  · intro rec i s hi hI
    have hdi := hd _ (List.getElem_mem hi)
    refine ⟨by rw [hI, take_snoc' hi, List.flatMap_append, List.flatMap_cons, List.flatMap_nil, List.append_nil], ?_⟩
    simp only [cellarerlaw17_apart.l6]
    have hle : s.length + (cutL l[i].data).length ≤ 150 := by
      refine Nat.le_trans ?_ hP
      have e : pieces l = ((l.take (i + 1)).flatMap fun f => cutL f.data) ++ ((l.drop (i + 1)).flatMap fun f => cutL f.data) := by
        unfold pieces; rw [← List.flatMap_append, List.take_append_drop]
      rw [e, take_snoc' hi, List.flatMap_append, List.length_append, List.length_append, ← hI, List.flatMap_cons, List.flatMap_nil, List.append_nil]
      omega
    rw [if_t (lt_t hi), ix_lt hi, bd_mk, rcut_eq _ (by omega), bd_mk, app_ok (by omega), bd_mk, wr_succ (by omega)]
  · intro rec s _
    simp only [cellarerlaw17_apart.l6]
    rw [if_f (lt_f (Nat.lt_irrefl _))]
theorem kfiles_same {l : List File} (hl : l.length ≤ 6) (hd : ∀ f ∈ l, f.data.length ≤ 200) : cellarerkeep_Files l l = some true := by
  unfold cellarerkeep_Files
  rw [if_neg (by simp)]
  refine loop_eq (σ := Unit) (fun i _ => (i : Int)) l.length (fun _ _ => True) _ (i0 := 0) (s0 := ()) rfl (Nat.zero_le _) trivial (by omega) ?_ ?_
  · intro rec i _ hi _ hrec
    have hdi := hd _ (List.getElem_mem hi)
    simp only [cellarerkeep_Files.l2]
    rw [if_t (lt_t hi), ix_lt hi, bd_mk, bd_mk]
    have c : (!(!(l[i].path == l[i].path))) = true := by simp
    rw [only_t c, bd_mk, bd_mk, only_t c, kbytes_eq _ _ (by omega), bd_mk, if_neg (by simp), wr_succ (by omega)]
    exact hrec () trivial
  · intro rec _ _
    simp only [cellarerkeep_Files.l2]
    rw [if_f (lt_f (Nat.lt_irrefl _))]
    rfl
end Go.Wk.Lf
/- ManifestIds, plainly. -/
namespace Go.Wk.Lf
open Go.Shelf Go.Sort Go.Proofs
set_option linter.unusedVariables false
set_option linter.unusedSimpArgs false
theorem sort_small {l : List File} {x : List UInt8} (h : x ∈ isort ordRow (chunksL l)) : x.length ≤ 64 := by
  have h1 := chunks_mem ((isort_perm ordRow (chunksL l)).mem_iff.1 h)
  obtain ⟨f, _, hx⟩ := List.mem_flatMap.1 h1
  exact (cutL_mem f.data x hx).2
theorem ids_len {l : List File} (hl : l.length ≤ 6) (hd : ∀ f ∈ l, f.data.length ≤ 200) (name : List UInt8) : (idsOf ⟨name, l.map partL⟩).length ≤ 150 := by
  rw [built_ids, List.length_map]; exact pieces_len hl hd
theorem mids_built {name : List UInt8} {l : List File} (hC : chkL l = 0) : manifest_Ids ⟨name, l.map partL⟩ = some ((isort ordRow (chunksL l)).map sha) := by
  obtain ⟨hL, _, _⟩ := chkL_ok hC
  obtain ⟨hl, hd⟩ := long_f hL
  rw [mids_eq _ (by simp; omega) (by have := ids_len hl hd name; omega), chunks_idsU name]
theorem idsK1 {name : List UInt8} {l : List File} (hC : chkL l = 0) : cellarerlaw17_ManifestIds.k1 (⟨name, l.map partL⟩, isort ordRow (chunksL l), 0) = some true := by
  obtain ⟨hL, _, _⟩ := chkL_ok hC
  obtain ⟨hl, hd⟩ := long_f hL
  have hn := chunksL_len hl hd
  have hn2 := isortC_len l
  unfold cellarerlaw17_ManifestIds.k1
  dsimp only
  rw [mids_built hC, bd_mk, if_neg (by simp)]
  refine loop_eq (σ := Unit) (fun i _ => (i : Int)) (isort ordRow (chunksL l)).length (fun _ _ => True) _ (i0 := 0) (s0 := ()) rfl (Nat.zero_le _) trivial (by omega) ?_ ?_
  · intro rec i _ hi _ hrec
    have hi2 : i < ((isort ordRow (chunksL l)).map sha).length := by rw [List.length_map]; exact hi
    simp only [cellarerlaw17_ManifestIds.l3]
    rw [if_t (lt_t hi), ix_lt hi, bd_mk, shaSum_one _ (by have := sort_small (List.getElem_mem hi); omega), bd_mk, ix_lt hi2, bd_mk, List.getElem_map, decide_eq_true rfl]
    by_cases h0 : 0 < i
    · have hi3 : i - 1 < ((isort ordRow (chunksL l)).map sha).length := by omega
      have c : ((!!true) && decide (0 < (i : Int))) = true := by rw [decide_eq_true (by omega)]; rfl
      rw [only_t c, only_t c, wr_pred h0 (by omega), ix_lt hi3, bd_mk, bd_mk]
      have hlt : sLt (((isort ordRow (chunksL l)).map sha)[i - 1]) (sha (isort ordRow (chunksL l))[i]) = true := by
        have := List.pairwise_iff_getElem.1 (chunks_rises l) (i - 1) i hi3 hi2 (by omega)
        simp only [List.getElem_map] at this ⊢
        exact this
      rw [hlt, if_neg (by simp), wr_succ (by omega)]
      exact hrec () trivial
    · have c : ((!!true) && decide (0 < (i : Int))) = false := by rw [decide_eq_false (by omega)]; rfl
      rw [only_f c, only_f c, bd_mk, bd_mk, decide_eq_false (by omega : ¬ 0 < (i : Int)), if_neg (by simp), wr_succ (by omega)]
      exact hrec () trivial
  · intro rec _ _
    simp only [cellarerlaw17_ManifestIds.l3]
    rw [if_f (lt_f (Nat.lt_irrefl _))]
    unfold cellarerlaw17_ManifestIds.k2
    rw [wakes17, bd_mk]
theorem manIds_true (name : List UInt8) (l : List File) (_ : name.length ≤ maxLen) (_ : okL File.ok l) : cellarerlaw17_ManifestIds name l = some true := by
  unfold cellarerlaw17_ManifestIds
  obtain ⟨b, hb, hb2⟩ := heavy_eq l
  rw [hb, bd_mk]
  by_cases hq : (b || decide (100 < (name.length : Int))) = true
  · rw [if_pos hq]
  rw [if_neg hq, build_eq, bd_mk, name_eq, bd_mk]
  rcases buildL_cases name l with ⟨hN, hB⟩ | ⟨hN, hC, hB⟩ | ⟨hN, hC, hB⟩
  · rw [hB, hN, if_pos (by simp)]
    dsimp only
    rw [only_t (by decide), wakes17, bd_mk]
    rfl
  · rw [hB, hN, if_neg (by simp)]
    dsimp only
    rw [if_pos (by simpa using hC), check_eq, bd_mk]
    have c : (decide (chkL l = chkL l) && decide ((([] : List (List UInt8)).length : Int) = 0)) = true := by simp
    rw [only_t c, wakes17, bd_mk, c]
    rfl
  · rw [hB, hN, if_neg (by simp)]
    obtain ⟨hL, _, _⟩ := chkL_ok hC
    obtain ⟨hl, hd⟩ := long_f hL
    dsimp only
    rw [if_neg (show ¬ (decide ((0 : Int) ≠ 0) = true) from by decide), if_neg (by simp)]
    refine loop_eq (σ := Unit) (fun i _ => (i : Int)) l.length (fun _ _ => True) _ (i0 := 0) (s0 := ()) rfl (Nat.zero_le _) trivial (by omega) ?_ ?_
    · intro rec i _ hi _ hrec
      have hdi := hd l[i] (List.getElem_mem hi)
      have hip : i < (l.map partL).length := by rw [List.length_map]; exact hi
      simp only [cellarerlaw17_ManifestIds.l4]
      rw [if_t (lt_t hi), ix_lt hi, bd_mk, ccut_eq _ (by omega), bd_mk, ix_lt hip, List.getElem_map, show partL l[i] = ⟨l[i].path, l[i].data.length, (cutL l[i].data).map sha⟩ from rfl, bd_mk]
      dsimp only
      rw [only_t (by simp), bd_mk, only_t (by simp), bd_mk, if_neg (by simp)]
      have hc := cutL_len l[i].data
      refine loop_eq (σ := Unit) (fun j _ => (j : Int)) (cutL l[i].data).length (fun _ _ => True) _ (i0 := 0) (s0 := ()) rfl (Nat.zero_le _) trivial (by omega) ?_ ?_
      · intro rec2 j _ hj _ hrec2
        have hj2 : j < ((cutL l[i].data).map sha).length := by rw [List.length_map]; exact hj
        have hsm := (cutL_mem l[i].data _ (List.getElem_mem hj)).2
        simp only [cellarerlaw17_ManifestIds.l6]
        rw [if_t (lt_t hj), ix_lt hj2, bd_mk, ix_lt hj, bd_mk, shaSum_one _ (by omega), bd_mk, List.getElem_map, if_neg (by simp), wr_succ (by omega)]
        exact hrec2 () trivial
      · intro rec2 _ _
        simp only [cellarerlaw17_ManifestIds.l6]
        rw [if_f (lt_f (Nat.lt_irrefl _))]
        unfold cellarerlaw17_ManifestIds.k5
        rw [wr_succ (by omega)]
        exact hrec () trivial
    · intro rec _ _
      simp only [cellarerlaw17_ManifestIds.l4]
      rw [if_f (lt_f (Nat.lt_irrefl _))]
      exact idsK1 hC
end Go.Wk.Lf
/- ManifestBack, plainly. -/
namespace Go.Wk.Lf
open Go.Shelf Go.Sort Go.Proofs
set_option linter.unusedVariables false
set_option linter.unusedSimpArgs false
theorem wu_lo (x : Int) : 0 ≤ wu x := by
  unfold wu; exact Int.emod_nonneg _ (by decide)
theorem wu_nat {n : Nat} (h : n ≤ 1000000) : wu (n : Int) = (n : Int) := by
  show (n : Int) % 18446744073709551616 = n
  omega
theorem turn_nat (x : Int) {n : Nat} (h0 : 0 < n) (h : n ≤ 1000000) : ∃ s : Nat, s < n ∧ rem (wu x) (wu (n : Int)) = some (s : Int) ∧ wr (s : Int) = (s : Int) := by
  have h1 := wu_lo x
  refine ⟨((wu x).tmod n).toNat, ?_, ?_, ?_⟩
  · have h2 : (wu x).tmod (n : Int) = (wu x) % (n : Int) := Int.tmod_eq_emod_of_nonneg h1
    have h3 := Int.emod_lt_of_pos (wu x) (show (0 : Int) < (n : Int) by omega)
    have h4 := Int.emod_nonneg (wu x) (show (n : Int) ≠ 0 by omega)
    omega
  · have h2 : (wu x).tmod (n : Int) = (wu x) % (n : Int) := Int.tmod_eq_emod_of_nonneg h1
    have h4 := Int.emod_nonneg (wu x) (show (n : Int) ≠ 0 by omega)
    unfold rem
    rw [wu_nat h, if_neg (by omega), h2]
    congr 1
    omega
  · have h2 : (wu x).tmod (n : Int) = (wu x) % (n : Int) := Int.tmod_eq_emod_of_nonneg h1
    have h3 := Int.emod_lt_of_pos (wu x) (show (0 : Int) < (n : Int) by omega)
    have h4 := Int.emod_nonneg (wu x) (show (n : Int) ≠ 0 by omega)
    exact wr_id (by omega) (by omega)
theorem joinP_built {l : List File} {L : List (List UInt8)} (hA : aloneP (pieces l)) (hL : L.Perm (isort ordRow (chunksL l))) (f : File) (hf : f ∈ l) : joinP (haveC L) (partL f) = f.data := by
  have hmem : ∀ x ∈ L, x ∈ pieces l := fun x hx => chunks_mem ((isort_perm ordRow (chunksL l)).mem_iff.1 (hL.mem_iff.1 hx))
  have hget : ∀ x ∈ cutL f.data, (haveC L) (sha x) = some x := by
    intro x hx
    have hxp : x ∈ pieces l := List.mem_flatMap.2 ⟨f, hf, hx⟩
    have h1 : sha x ∈ L.map sha := by
      rw [(hL.map sha).mem_iff, ((isort_perm ordRow (chunksL l)).map sha).mem_iff, chunks_ids]
      exact List.mem_map_of_mem hxp
    obtain ⟨z, hz⟩ := Option.isSome_iff_exists.1 ((haveC_is L (sha x)).2 h1)
    obtain ⟨h2, h3⟩ := haveC_some hz
    rw [hz, hA z (hmem z h2) x hxp h3]
  show ((cutL f.data).map sha).flatMap (fun x => ((haveC L) x).getD []) = f.data
  rw [List.flatMap_map]
  have : ∀ P : List (List UInt8), (∀ x ∈ P, (haveC L) (sha x) = some x) → P.flatMap (fun x => ((haveC L) (sha x)).getD []) = P.flatten := by
    intro P
    induction P with
    | nil => intro _; rfl
    | cons x P ih =>
      intro h
      rw [List.flatMap_cons, ih fun y hy => h y (by simp [hy]), h x (by simp)]
      rfl
  rw [this _ hget, cutL_flat]
theorem back_k1 {name : List UInt8} {l : List File} {L : List (List UInt8)} (x3 : Int) (hN : nameB name = true) (hC : chkL l = 0) (hA : aloneP (pieces l)) (hL : L.Perm (isort ordRow (chunksL l))) :
    cellarerlaw17_ManifestBack.k1 l x3 (⟨name, l.map partL⟩, isort ordRow (chunksL l), 0) L = some true := by
  obtain ⟨hLg, _, _⟩ := chkL_ok hC
  obtain ⟨hl, hd⟩ := long_f hLg
  have hn := chunksL_len hl hd
  have hn2 := isortC_len l
  have hn3 := hL.length_eq
  have hm := built_manB hN hC
  have hi := ids_len hl hd name
  have hs : ∀ x ∈ L, x.length ≤ 1000000 := fun x hx => by have := sort_small (hL.mem_iff.1 hx); omega
  have hids : ∀ x, x ∈ idsOf ⟨name, l.map partL⟩ ↔ x ∈ L.map sha := fun x => by
    rw [(hL.map sha).mem_iff, chunks_idsU name, idsU_mem]
  have hp : ∀ p ∈ l.map partL, (joinP (haveC L) p).length ≤ 1000000 ∧ ((joinP (haveC L) p).length : Int) = p.size := by
    intro p hp
    obtain ⟨f, hf, rfl⟩ := List.mem_map.1 hp
    rw [joinP_built hA hL f hf]
    have := hd f hf
    exact ⟨by omega, rfl⟩
  have hj : manifest_Join ⟨name, l.map partL⟩ L = some (l, 0) := by
    rw [join_eq hm (by omega) hs (fun p h => (hp p h).1) (by omega) (fun p h => (hp p h).2), if_pos fun x hx => (hids x).1 hx]
    congr 2
    rw [List.map_map]
    refine (List.map_congr_left fun f hf => ?_).trans (List.map_id l)
    show (⟨f.path, joinP (haveC L) (partL f)⟩ : File) = f
    rw [joinP_built hA hL f hf]
  unfold cellarerlaw17_ManifestBack.k1
  dsimp only
  have e0 : (decide ((0 : Int) ≠ 0)) = false := by decide
  rw [hj, bd_mk, e0]
  dsimp only
  rw [only_t (show (!false) = true by rfl), kfiles_same hl hd, bd_mk, only_t (show (!(false || (!true))) = true by rfl), mcheck_eq, if_pos hm, bd_mk, only_t (show (!((false || (!true)) || decide ((0 : Int) ≠ 0))) = true by rfl), mids_built hC, bd_mk, List.length_map, if_neg (by simp)]
  by_cases h0 : L.length = 0
  · rw [if_pos (by simp [h0]), wakes17, bd_mk]
  rw [if_neg (by simp; intro h; rw [h] at h0; exact h0 rfl)]
  obtain ⟨s, hsl, hr, hw⟩ := turn_nat x3 (n := L.length) (by omega) (by omega)
  rw [hr, bd_mk, hw, cut_ok (by omega) (by omega) (by omega), bd_mk, app_ok (by simp; omega), bd_mk, wr_id (by omega) (by omega), cut_ok (by omega) (by omega) (by omega), bd_mk, app_ok (by simp; omega), bd_mk]
  have hcut : [] ++ List.drop (0 : Int).toNat (List.take (s : Int).toNat L) ++ List.drop ((s : Int) + 1).toNat (List.take ((L.length : Int)).toNat L) = L.take s ++ L.drop (s + 1) := by
    have a1 : (0 : Int).toNat = 0 := rfl
    have a2 : (s : Int).toNat = s := by omega
    have a3 : ((s : Int) + 1).toNat = s + 1 := by omega
    have a4 : ((L.length : Int)).toNat = L.length := by omega
    rw [a1, a2, a3, a4, List.take_length, List.nil_append, List.drop_zero]
  rw [hcut]
  have hsub : ∀ x ∈ L.take s ++ L.drop (s + 1), x ∈ L := fun x hx => by
    rcases List.mem_append.1 hx with h | h
    · exact List.mem_of_mem_take h
    · exact List.mem_of_mem_drop h
  have hnd : (L.map sha).Nodup := by
    rw [(hL.map sha).nodup_iff]
    exact ((isort_perm ordRow _).map sha).nodup_iff.2 (chunks_nodup l)
  have hlack : ¬ ∀ x ∈ idsOf ⟨name, l.map partL⟩, x ∈ (L.take s ++ L.drop (s + 1)).map sha := by
    intro h
    have h1 := h (sha L[s]) ((hids _).2 (List.mem_map_of_mem (List.getElem_mem hsl)))
    obtain ⟨y, hy, he⟩ := List.mem_map.1 h1
    rw [List.nodup_iff_pairwise_ne, List.pairwise_map, List.pairwise_iff_getElem] at hnd
    rcases List.mem_append.1 hy with h2 | h2
    · obtain ⟨i, hi, rfl⟩ := List.getElem_of_mem h2
      rw [List.length_take] at hi
      rw [List.getElem_take] at he
      exact hnd i s (by omega) hsl (by omega) he
    · obtain ⟨i, hi, rfl⟩ := List.getElem_of_mem h2
      rw [List.length_drop] at hi
      rw [List.getElem_drop] at he
      exact hnd s (s + 1 + i) hsl (by omega) (by omega) he.symm
  rw [join_lack hm (by simp; omega) (fun x hx => hs x (hsub x hx)) (by omega) hlack, bd_mk]
  have c : (decide ((8 : Int) = 8) && decide ((([] : List File).length : Int) = 0)) = true := by decide
  dsimp only
  rw [only_t c, wakes17, bd_mk, c]
  rfl
theorem manBack_true (name : List UInt8) (l : List File) (x2 x3 : Int) (_ : name.length ≤ maxLen) (_ : okL File.ok l) (_ : (Lit.int .i64 x2).wf = true) (_ : (Lit.int .i64 x3).wf = true) : cellarerlaw17_ManifestBack name l x2 x3 = some true := by
  unfold cellarerlaw17_ManifestBack
  obtain ⟨b, hb, hb2⟩ := heavy_eq l
  rw [hb, bd_mk]
  by_cases hq : (b || decide (100 < (name.length : Int))) = true
  · rw [if_pos hq]
  rw [if_neg hq, build_eq, bd_mk]
  rcases buildL_cases name l with ⟨hN, hB⟩ | ⟨hN, hC, hB⟩ | ⟨hN, hC, hB⟩
  · rw [hB]
    dsimp only
    have c : decide ((([] : List (List UInt8)).length : Int) = 0) = true := by decide
    rw [if_pos (show decide ((1 : Int) ≠ 0) = true by decide), only_t c, wakes17, bd_mk, c]
    rfl
  · rw [hB]
    dsimp only
    have c : decide ((([] : List (List UInt8)).length : Int) = 0) = true := by decide
    rw [if_pos (by simpa using hC), only_t c, wakes17, bd_mk, c]
    rfl
  · rw [hB]
    obtain ⟨hLg, _, _⟩ := chkL_ok hC
    obtain ⟨hl, hd⟩ := long_f hLg
    have hn := chunksL_len hl hd
    have hn2 := isortC_len l
    dsimp only
    rw [if_neg (show ¬ (decide ((0 : Int) ≠ 0) = true) from by decide)]
    obtain ⟨a, ha, ha2⟩ := apart_eq hl hd
    rw [ha, bd_mk]
    cases a with
    | true => rw [if_pos rfl, wakes17, bd_mk]
    | false =>
      rw [if_neg (by simp)]
      generalize hCh : isort ordRow (chunksL l) = C at *
      by_cases h0 : C.length = 0
      · have hC0 : C = [] := List.eq_nil_of_length_eq_zero h0
        refine loop_eq (S := List (List UInt8) × Int) (σ := Unit) (fun i _ => ([], (i : Int))) 0 (fun _ _ => True) _ (i0 := 0) (s0 := ()) rfl (Nat.zero_le _) trivial (by omega) ?_ ?_
        · intro rec i _ hi; omega
        · intro rec _ _
          simp only [cellarerlaw17_ManifestBack.l2]
          rw [if_f (by rw [h0]; decide)]
          have := back_k1 (name := name) (L := []) x3 hN hC (ha2 rfl) (by rw [hCh, hC0])
          rwa [hCh] at this
      · obtain ⟨s, hsl, hr, hw⟩ := turn_nat x2 (n := C.length) (by omega) (by omega)
        refine loop_eq (S := List (List UInt8) × Int) (σ := Unit) (fun i _ => ((C.drop s ++ C.take s).take i, (i : Int))) C.length (fun _ _ => True) _ (i0 := 0) (s0 := ()) (by simp) (Nat.zero_le _) trivial (by omega) ?_ ?_
        · intro rec i _ hi _ hrec
          simp only [cellarerlaw17_ManifestBack.l2]
          rw [if_t (lt_t hi), hr, bd_mk, hw, wr_id (by omega) (by omega)]
          have hrl : i < (C.drop s ++ C.take s).length := by simp; omega
          have hk : ∃ k : Nat, k < C.length ∧ rem ((i : Int) + (s : Int)) (C.length : Int) = some (k : Int) ∧ ∀ h : k < C.length, C[k] = (C.drop s ++ C.take s)[i] := by
            unfold rem
            rw [if_neg (by omega), Int.tmod_eq_emod_of_nonneg (by omega)]
            by_cases hc : i + s < C.length
            · refine ⟨i + s, hc, by congr 1; rw [Int.emod_eq_of_lt (by omega) (by omega)]; omega, fun h => ?_⟩
              rw [List.getElem_append_left (by simp; omega), List.getElem_drop]
              congr 1; omega
            · refine ⟨i + s - C.length, by omega, ?_, fun h => ?_⟩
              · congr 1
                have e : ((i : Int) + (s : Int)) = ((i + s - C.length : Nat) : Int) + (C.length : Int) := by omega
                rw [e, Int.add_emod_right, Int.emod_eq_of_lt (by omega) (by omega)]
              · rw [List.getElem_append_right (by simp; omega), List.getElem_take]
                congr 1; simp; omega
          obtain ⟨k, hk1, hk2, hk3⟩ := hk
          rw [hk2, bd_mk, ix_lt hk1, bd_mk, app_ok (by simp; omega), bd_mk, wr_succ (by omega), hk3 hk1]
          have := hrec () trivial
          rwa [take_snoc' hrl] at this
        · intro rec _ _
          simp only [cellarerlaw17_ManifestBack.l2]
          rw [if_f (lt_f (Nat.lt_irrefl _))]
          have hfull : (C.drop s ++ C.take s).take C.length = C.drop s ++ C.take s := List.take_of_length_le (by simp; omega)
          have hperm : (C.drop s ++ C.take s).Perm C := (List.perm_append_comm).trans (by rw [List.take_append_drop])
          rw [hfull]
          have := back_k1 (name := name) (L := C.drop s ++ C.take s) x3 hN hC (ha2 rfl) (by rw [hCh]; exact hperm)
          rwa [hCh] at this
end Go.Wk.Lf
/- The law ManifestBack returns true whatever name, files and numbers it is given, and they read as they did: no condition. -/
namespace Go.Proofs.Ytoanecpanckkeaa.manifestBack
open Go.ChangeShapes Go.WideShapes Go.ChangeAt Go.RowKit Go.Wk Go.Wk.Lf
set_option linter.unusedVariables false

theorem own : ownKnob Try.prog.godebug = none := by kernel_rfl
theorem laidOut : laidOutB Try.prog = true := by kernel_rfl

set_option maxRecDepth 100000 in
theorem contract (H : Type) (enc : TypeId × Value → H) (W : World) (base : Nat) (args : Array Value) (ds gs : List (DataW H)) (before : List MemPlace)
    (hval : ∀ (j : Nat) t v, Try.f13.params[j]? = some t → args[j]? = some v → Value.okWide Try.prog W .any base t v)
    (hW : DataW.Whole enc Try.prog Try.f13.params.toList Rows.manifestBackSpec.vars false W args.toList ds gs before) :
    Calls Try.prog 13 args W fun e W' => ∃ v, e = .returned v ∧ Rows.manifestBackSpec.post enc Try.prog Try.f13 false true false false W args v W' := by
  refine law_calls (tb := 4) (k := 4) laidOut (by kernel_rfl) (by rw [Try.params13]; rfl) (by rfl) Try.underlying4 rfl ?_ W base args ds gs before (fun p hA => ?_) hW
  · intro ds hk
    match ds, hk with
    | [_, _, _, _], _ => exact ⟨rfl, rfl, rfl⟩
  · rw [Try.params13] at hA hval
    obtain ⟨v0, vs0, d0, ds0, p0, q0, hargs, rfl, rfl, h0, r0⟩ := trodAll_cons hA
    obtain ⟨v1, vs1, d1, ds1, p1, q1, rfl, rfl, rfl, h1, r1⟩ := trodAll_cons r0
    obtain ⟨v2, vs2, d2, ds2, p2, q2, rfl, rfl, rfl, h2, r2⟩ := trodAll_cons r1
    obtain ⟨v3, vs3, d3, ds3, p3, q3, rfl, rfl, rfl, h3, r3⟩ := trodAll_cons r2
    obtain ⟨rfl, rfl, rfl⟩ := trodAll_nil r3
    obtain rfl : args = #[v0, v1, v2, v3] := by cases args; simp_all
    have hv0 := hval 0 _ v0 rfl rfl
    obtain ⟨x0, rfl, k0⟩ := arg_str Try.underlying9 hv0 h0
    have hv1 := hval 1 _ v1 rfl rfl
    have ho1 : Opn enc Try.prog W 27 (tSl File.t) (okL File.ok) := (opn_slice Go.Proofs.Try.underlying27 (by kernel_rfl) opn_File)
    obtain ⟨x1, a1, k1⟩ := arg_slice Try.underlying27 hv1 ho1 h1
    have hv2 := hval 2 _ v2 rfl rfl
    obtain ⟨x2, rfl, k2⟩ := arg_int Try.underlying3 hv2 h2
    have hv3 := hval 3 _ v3 rfl rfl
    obtain ⟨x3, rfl, k3⟩ := arg_int Try.underlying3 hv3 h3
    exact law_ret (cellarerlaw17_ManifestBack_ok (now_agree W) a1 (manBack_true x0 x1 x2 x3 k0 k1 k2 k3))

set_option maxRecDepth 100000 in
theorem lifted (os : Os) (started : os.Started) (H : Type) (enc : TypeId × Value → H) :
    ReturnsInHanded {} Try.checked os 13 .any (Rows.manifestBackSpec.pre6 enc Try.prog Try.f13 Rows.manifestBackRow.domain false) (Rows.manifestBackSpec.post enc Try.prog Try.f13 false true false false) := by
  refine returnsInHanded_of_change (C := Try.checked) own started (by kernel_rfl) Try.func13
    (ChangeSpec.witness6 (enc := enc) (C := Try.checked) false ⟨#[], #[.string .empty, .slice none 0 0, .int .i64 0, .int .i64 0], []⟩ 8 (by kernel_rfl) (by kernel_rfl) (by kernel_rfl) (by kernel_rfl)) ?_
  intro W base args ds gs before hval hW _ _
  exact contract H enc W base args ds gs before hval hW

theorem proved : Rows.ManifestBackSaid :=
  OpenClaim.holds_of_wide 13 Try.f13 rfl rfl rfl rfl rfl rfl rfl ⟨rfl, rfl, rfl, rfl, rfl⟩ rfl rfl rfl rfl rfl (by kernel_rfl) Try.func13 (by kernel_rfl)
    (of_decide_eq_true (by kernel_rfl)) (by unfold Func.isWrapper; first | (rw [if_pos (by decide +kernel)]; kernel_rfl) | (rw [if_neg (by decide +kernel)]; exact ⟨rfl, rfl⟩))
    (fun os started H enc _ => lifted os started H enc)
end Go.Proofs.Ytoanecpanckkeaa.manifestBack
