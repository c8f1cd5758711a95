import Derived.Test.YtoanecpanckkeaaRows
import Derived.Test.YtoanecpanckkeaaArg
import Derived.Test.YtoanecpanckkeaaLfO
import Derived.Test.YtoanecpanckkeaaLfM1
import Derived.Test.YtoanecpanckkeaaLst
import Derived.Test.YtoanecpanckkeaaLfM5
import Derived.Test.YtoanecpanckkeaaLfM2
import Derived.Test.YtoanecpanckkeaaLfS
import Derived.Test.YtoanecpanckkeaaLfM8
import Derived.Test.YtoanecpanckkeaaLfM11
import Derived.Test.YtoanecpanckkeaaLwManifestReads
import Derived.Handed
import Derived.JoinedOf
/- What tree.Name and tree.Check tell, plainly. -/
namespace Go.Wk.Lf
open Go.Shelf Go.Sort Go.Proofs
set_option linter.unusedVariables false
set_option linter.unusedSimpArgs false

/-- a loop that looks at each number below n -/
theorem loop_all {S A : Type} {F : (S → Option A) → S → Option A} (mk : Nat → S) (n : Nat) (ok : Nat → Bool) (K B : Option A) {x0 : S} (hx : x0 = mk 0) (hn : n < 4611686018427387904)
    (hstep : ∀ rec i, i < n → F rec (mk i) = if ok i = true then rec (mk (i + 1)) else B) (hend : ∀ rec, F rec (mk n) = K) : loop F x0 = if (∀ i, i < n → ok i = true) then K else B := by
  refine loop_eq (σ := Unit) (fun i _ => mk i) n (fun i _ => ∀ j, j < i → ok j = true) _ (i0 := 0) (s0 := ()) hx (Nat.zero_le _) (by intro j h; omega) hn ?_ ?_
  · intro rec i _ hi hI hrec
    rw [hstep rec i hi]
    by_cases h : ok i = true
    · rw [if_pos h]
      exact hrec () fun j hj => by
        rcases (by omega : j < i ∨ j = i) with h1 | rfl
        · exact hI j h1
        · exact h
    · rw [if_neg h, if_neg fun hall => h (hall i hi)]
  · intro rec _ hI
    rw [hend, if_pos hI]
theorem all_iff {α : Type} (l : List α) (p : α → Bool) (q : Nat → Bool) (h : ∀ i (hi : i < l.length), q i = p l[i]) : (∀ i, i < l.length → q i = true) ↔ l.all p = true := by
  rw [List.all_eq_true]
  constructor
  · intro h1 x hx
    obtain ⟨i, hi, rfl⟩ := List.getElem_of_mem hx
    rw [← h i hi]; exact h1 i hi
  · intro h1 i hi
    rw [h i hi]; exact h1 _ (List.getElem_mem hi)

def seen (b : UInt8) : Bool := decide (33 ≤ b.toNat) && decide (b.toNat ≤ 126)
def nameB (s : List UInt8) : Bool := (decide (1 ≤ s.length) && decide (s.length ≤ 20)) && s.all seen
theorem name_eq (s : List UInt8) : tree_Name s = some (nameB s) := by
  unfold tree_Name nameB
  by_cases h1 : s.length < 1 ∨ 20 < s.length
  · rw [if_pos (by simp only [Bool.or_eq_true, decide_eq_true_eq]; omega)]
    have : (decide (1 ≤ s.length) && decide (s.length ≤ 20)) = false := by
      simp only [Bool.and_eq_false_iff, decide_eq_false_iff_not]; omega
    rw [this]; rfl
  · rw [if_neg (by simp only [Bool.or_eq_true, decide_eq_true_eq]; omega)]
    have h2 : (decide (1 ≤ s.length) && decide (s.length ≤ 20)) = true := by
      simp only [Bool.and_eq_true, decide_eq_true_eq]; omega
    rw [h2, Bool.true_and]
    rw [loop_all (x0 := (0 : Int)) (fun i => (i : Int)) s.length (fun i => seen (s.getD i 0)) (some true) (some false) rfl (by omega) ?_ ?_]
    · by_cases h : s.all seen = true
      · rw [h, if_pos ((all_iff s seen _ fun i hi => by simp [hi]).2 h)]
      · rw [Bool.not_eq_true] at h
        rw [h, if_neg fun h3 => by rw [(all_iff s seen _ fun i hi => by simp [hi]).1 h3] at h; cases h]
    · intro rec i hi
      simp only [tree_Name.l2]
      rw [if_t (lt_t hi), ix_lt hi, bd_mk]
      simp only [hi, List.getD_eq_getElem?_getD, List.getElem?_eq_getElem, Option.getD_some, seen]
      by_cases h33 : (s[i].toNat : Int) < 33
      · rw [only_f (by simp; omega), bd_mk, if_pos (by simp [h33])]
        rw [if_neg (by simp only [Bool.and_eq_true, decide_eq_true_eq]; omega)]
      · rw [only_t (by simp; omega), bd_mk]
        by_cases h126 : (126 : Int) < (s[i].toNat : Int)
        · rw [if_pos (by simp [h126]), if_neg (by simp only [Bool.and_eq_true, decide_eq_true_eq]; omega)]
        · rw [if_neg (by simp only [Bool.or_eq_true, decide_eq_true_eq]; omega), if_pos (by simp only [Bool.and_eq_true, decide_eq_true_eq]; omega), wr_succ (by omega)]
    · intro rec
      simp only [tree_Name.l2, tree_Name.k1]
      rw [if_f (lt_f (Nat.lt_irrefl _))]
def longB (l : List File) : Bool := decide (6 < l.length) || l.any fun f => decide (200 < f.data.length)
theorem index_long (l : List File) (hl : l.length < 4611686018427387904) : ∃ r, slices_IndexFunc_api_File_api_File_tree_long_1 l = some r ∧ (0 ≤ r ↔ (l.any fun f => decide (200 < f.data.length)) = true) := by
  unfold slices_IndexFunc_api_File_api_File_tree_long_1
  refine loop_for (S := Int) (σ := Unit) (fun i _ => (i : Int)) l.length (fun i _ => ∀ j (hj : j < l.length), j < i → ¬ 200 < l[j].data.length) (fun o => ∃ r, o = some r ∧ (0 ≤ r ↔ _)) (i0 := 0) (s0 := ()) rfl (Nat.zero_le _) (by intro j _ h; omega) hl ?_ ?_
  · intro rec i _ hi hI hrec
    simp only [slices_IndexFunc_api_File_api_File_tree_long_1.l2, tree_long_1]
    rw [if_t (lt_t hi), ix_lt hi, bd_mk, bd_mk]
    by_cases h : 200 < l[i].data.length
    · rw [if_pos (by simp only [decide_eq_true_eq]; omega)]
      refine ⟨_, rfl, ⟨fun _ => ?_, fun _ => Int.natCast_nonneg _⟩⟩
      rw [List.any_eq_true]; exact ⟨_, List.getElem_mem hi, by simpa using h⟩
    · rw [if_neg (by simp only [decide_eq_true_eq]; omega), wr_succ (by omega)]
      refine hrec () fun j hj hji => ?_
      rcases (by omega : j < i ∨ j = i) with h1 | rfl
      · exact hI j hj h1
      · exact h
  · intro rec _ hI
    simp only [slices_IndexFunc_api_File_api_File_tree_long_1.l2, slices_IndexFunc_api_File_api_File_tree_long_1.k1]
    rw [if_f (lt_f (Nat.lt_irrefl _))]
    refine ⟨_, rfl, ⟨fun h => by omega, fun h => ?_⟩⟩
    rw [List.any_eq_true] at h
    obtain ⟨x, hx, h2⟩ := h
    obtain ⟨j, hj, rfl⟩ := List.getElem_of_mem hx
    exact absurd (by simpa using h2) (hI j hj hj)
theorem long_eq (l : List File) : tree_long l = some (longB l) := by
  unfold tree_long longB
  by_cases h : 6 < l.length
  · rw [only_f (by simp; omega), bd_mk]
    have h' : (6 : Int) < (l.length : Int) := by omega
    simp [h, h']
  · rw [only_t (by simp; omega)]
    obtain ⟨r, h1, h2⟩ := index_long l (by omega)
    simp only [slices_ContainsFunc_api_File_api_File_tree_long_1, h1, bd_mk]
    have h' : ¬ (6 : Int) < (l.length : Int) := by omega
    simp only [h, h', decide_false, Bool.false_or]
    congr 1
    rw [Bool.eq_iff_iff, decide_eq_true_eq]; exact h2
def badB (l : List File) : Bool := l.any fun f => !nameB f.path
theorem cloneB_eq (l : List UInt8) (hl : l.length ≤ 1073741824) : slices_Clone_byte_byte l = some l := by
  unfold slices_Clone_byte_byte
  rw [app_ok (by simpa using hl), bd_mk]; rfl
def risesB (l : List File) : Prop := l.Pairwise fun a b => sLt a.path b.path = true
theorem rises_adj (l : List File) : risesB l ↔ ∀ i (h : i < l.length), 0 < i → sLt (l[i - 1]'(by omega)).path l[i].path = true := by
  unfold risesB
  constructor
  · intro h i hi h0
    exact List.pairwise_iff_getElem.1 h (i - 1) i (by omega) hi (by omega)
  · intro h
    rw [List.pairwise_iff_getElem]
    intro i j hi hj hij
    induction j with
    | zero => omega
    | succ j ih =>
      have h1 := h (j + 1) hj (by omega)
      rcases (by omega : i = j ∨ i < j) with rfl | h2
      · exact h1
      · exact sLt_trans (ih (by omega) h2) h1
theorem long_f {l : List File} (h : longB l = false) : l.length ≤ 6 ∧ ∀ f ∈ l, f.data.length ≤ 200 := by
  simp only [longB, Bool.or_eq_false_iff, decide_eq_false_iff_not, List.any_eq_false] at h
  exact ⟨by omega, fun f hf => by have := h.2 f hf; simp at this; omega⟩
instance (l : List File) : Decidable (risesB l) := by unfold risesB; infer_instance
def chkL (l : List File) : Int := if longB l = true then 2 else if badB l = false ∧ risesB l then 0 else 1
theorem check_eq (l : List File) : tree_Check l = some (chkL l) := by
  unfold tree_Check chkL
  rw [long_eq, bd_mk]
  cases hL : longB l with
  | true => rfl
  | false =>
    obtain ⟨hl, hd⟩ := long_f hL
    simp only [Bool.false_eq_true, if_false]
    rw [loop_all (x0 := (0 : Int)) (fun i => (i : Int)) l.length (fun i => nameB (l.getD i default).path && (!decide (0 < i) || sLt (l.getD (i - 1) default).path (l.getD i default).path)) (some 0) (some 1) rfl (by omega) ?_ ?_]
    · have hiff : (∀ i, i < l.length → (nameB (l.getD i default).path && (!decide (0 < i) || sLt (l.getD (i - 1) default).path (l.getD i default).path)) = true) ↔ (badB l = false ∧ risesB l) := by
        constructor
        · intro h
          refine ⟨?_, (rises_adj l).2 fun i hi h0 => ?_⟩
          · unfold badB
            rw [List.any_eq_false]
            intro x hx
            obtain ⟨j, hj, rfl⟩ := List.getElem_of_mem hx
            have h1 := h j hj
            simp only [List.getD_eq_getElem?_getD, List.getElem?_eq_getElem hj, Option.getD_some, Bool.and_eq_true] at h1
            simp [h1.1]
          · have h1 := h i hi
            have hi' : i - 1 < l.length := by omega
            simp only [List.getD_eq_getElem?_getD, List.getElem?_eq_getElem hi, List.getElem?_eq_getElem hi', Option.getD_some, Bool.and_eq_true, h0, decide_true, Bool.not_true, Bool.false_or] at h1
            exact h1.2
        · rintro ⟨h1, h2⟩ i hi
          unfold badB at h1
          rw [List.any_eq_false] at h1
          have h3 := h1 _ (List.getElem_mem hi)
          simp only [Bool.not_eq_true', Bool.not_eq_false] at h3
          simp only [List.getD_eq_getElem?_getD, List.getElem?_eq_getElem hi, Option.getD_some, h3, Bool.true_and]
          by_cases h0 : 0 < i
          · have hi' : i - 1 < l.length := by omega
            simp only [List.getElem?_eq_getElem hi', Option.getD_some, h0, decide_true, Bool.not_true, Bool.false_or]
            exact (rises_adj l).1 h2 i hi h0
          · simp [h0]
      by_cases h : badB l = false ∧ risesB l
      · rw [if_pos h, if_pos (hiff.2 h)]
      · rw [if_neg h, if_neg fun h2 => h (hiff.1 h2)]
    · intro rec i hi
      simp only [tree_Check.l2]
      rw [if_t (lt_t hi), ix_lt hi, bd_mk, name_eq, bd_mk]
      simp only [List.getD_eq_getElem?_getD, List.getElem?_eq_getElem hi, Option.getD_some]
      cases hN : nameB l[i].path with
      | false => rw [only_f (by simp), bd_mk]; rfl
      | true =>
        by_cases h0 : 0 < i
        · have hi' : i - 1 < l.length := by omega
          have h0' : (0 : Int) < (i : Int) := by omega
          rw [only_t (by simp; omega), wr_pred h0 (by omega), ix_lt hi', bd_mk]
          simp only [List.getElem?_eq_getElem hi', Option.getD_some, h0, h0', decide_true, Bool.not_true, Bool.false_or, Bool.true_and]
          have hg := gtr_eq l[i].path l[i - 1].path
          cases hc : (sLt l[i].path l[i - 1].path || l[i].path == l[i - 1].path) with
          | true => rw [hc] at hg; rw [← hg]; rfl
          | false => rw [hc] at hg; rw [← hg, if_neg (by simp), wr_succ (by omega)]; rfl
        · have h0' : ¬ (0 : Int) < (i : Int) := by omega
          rw [only_f (by simp; omega), bd_mk]
          simp only [h0, h0', decide_false, Bool.false_and, Bool.not_true, Bool.or_false, Bool.false_eq_true, if_false, Bool.not_false, Bool.true_or, Bool.and_true, if_true]
          rw [wr_succ (by omega)]
    · intro rec
      simp only [tree_Check.l2, tree_Check.k1]
      rw [if_f (lt_f (Nat.lt_irrefl _))]
end Go.Wk.Lf
/- What manifest.Check and manifest.Bytes tell, plainly. -/
namespace Go.Wk.Lf
open Go.Shelf Go.Sort Go.Proofs
set_option linter.unusedVariables false
set_option linter.unusedSimpArgs false

def partB (p : Part) : Bool := (((nameB p.path && decide (0 ≤ p.size)) && decide (p.size ≤ 200)) && decide (p.ids.length ≤ 25)) && (decide (p.ids.length = 0) == decide (p.size = 0))
theorem part_eq (p : Part) : manifest_part p = some (partB p) := by
  unfold manifest_part partB
  rw [name_eq, bd_mk]
  have h1 : decide ((p.ids.length : Int) ≤ 25) = decide (p.ids.length ≤ 25) := by rw [decide_eq_decide]; omega
  have h2 : decide ((p.ids.length : Int) = 0) = decide (p.ids.length = 0) := by rw [decide_eq_decide]; omega
  rw [h1, h2]
theorem adj_pairwise {α : Type} (R : α → α → Prop) (ht : ∀ {a b c}, R a b → R b c → R a c) (l : List α) : l.Pairwise R ↔ ∀ i (h : i < l.length), 0 < i → R (l[i - 1]'(by omega)) l[i] := by
  constructor
  · intro h i hi h0
    exact List.pairwise_iff_getElem.1 h (i - 1) i (by omega) hi (by omega)
  · intro h
    rw [List.pairwise_iff_getElem]
    intro i j hi hj hij
    induction j with
    | zero => omega
    | succ j ih =>
      have h1 := h (j + 1) hj (by omega)
      rcases (by omega : i = j ∨ i < j) with rfl | h2
      · exact h1
      · exact ht (ih (by omega) h2) h1
def risesP (l : List Part) : Prop := l.Pairwise fun a b => sLt a.path b.path = true
instance (l : List Part) : Decidable (risesP l) := by unfold risesP; infer_instance
def manB (m : Manifest) : Prop := nameB m.name = true ∧ m.parts.length ≤ 6 ∧ (m.parts.all partB) = true ∧ risesP m.parts
instance (m : Manifest) : Decidable (manB m) := by unfold manB; infer_instance
/-- a loop over parts that looks at each, and at the one ahead of it -/
theorem adj_iff (l : List Part) (q : Part → Bool) : (∀ i, i < l.length → (q (l.getD i default) && (!decide (0 < i) || sLt (l.getD (i - 1) default).path (l.getD i default).path)) = true) ↔ (l.all q = true ∧ risesP l) := by
  constructor
  · intro h
    refine ⟨?_, (adj_pairwise (fun a b : Part => sLt a.path b.path = true) (fun h1 h2 => sLt_trans h1 h2) l).2 fun i hi h0 => ?_⟩
    · rw [List.all_eq_true]
      intro x hx
      obtain ⟨j, hj, rfl⟩ := List.getElem_of_mem hx
      have h1 := h j hj
      simp only [List.getD_eq_getElem?_getD, List.getElem?_eq_getElem hj, Option.getD_some, Bool.and_eq_true] at h1
      exact h1.1
    · have h1 := h i hi
      have hi' : i - 1 < l.length := by omega
      simp only [List.getD_eq_getElem?_getD, List.getElem?_eq_getElem hi, List.getElem?_eq_getElem hi', Option.getD_some, Bool.and_eq_true, h0, decide_true, Bool.not_true, Bool.false_or] at h1
      exact h1.2
  · rintro ⟨h1, h2⟩ i hi
    rw [List.all_eq_true] at h1
    have h3 := h1 _ (List.getElem_mem hi)
    simp only [List.getD_eq_getElem?_getD, List.getElem?_eq_getElem hi, Option.getD_some, h3, Bool.true_and]
    by_cases h0 : 0 < i
    · have hi' : i - 1 < l.length := by omega
      simp only [List.getElem?_eq_getElem hi', Option.getD_some, h0, decide_true, Bool.not_true, Bool.false_or]
      exact (adj_pairwise (fun a b : Part => sLt a.path b.path = true) (fun h1 h2 => sLt_trans h1 h2) l).1 h2 i hi h0
    · simp [h0]
/-- the two tests of a place, as the code has them -/
theorem test_eq (l : List Part) (i : Nat) (hi : i < l.length) (hl : l.length < 1000000000) (N : Bool) {β : Type} (K : Part → Option β) :
    (bd (only ((!(!N)) && decide (0 < (i : Int))) (ix l (wr ((i : Int) - 1))) (Part.mk [] 0 [])) K) = if N = true ∧ 0 < i then K (l.getD (i - 1) default) else K (Part.mk [] 0 []) := by
  cases N with
  | false => rw [only_f (by simp), bd_mk]; simp
  | true =>
    by_cases h0 : 0 < i
    · have hi' : i - 1 < l.length := by omega
      rw [only_t (by simp; omega), wr_pred h0 (by omega), ix_lt hi', bd_mk, if_pos ⟨rfl, h0⟩]
      simp [List.getD_eq_getElem?_getD, List.getElem?_eq_getElem hi']
    · rw [only_f (by simp; omega), bd_mk, if_neg (by omega)]
theorem mcheck_eq (m : Manifest) : manifest_Check m = some (if manB m then 0 else 1) := by
  unfold manifest_Check
  rw [name_eq, bd_mk]
  by_cases h0 : nameB m.name = true ∧ m.parts.length ≤ 6
  · obtain ⟨hn, h6⟩ := h0
    rw [if_neg (by simp only [hn]; simp; omega)]
    rw [loop_all (x0 := (0 : Int)) (fun i => (i : Int)) m.parts.length (fun i => partB (m.parts.getD i default) && (!decide (0 < i) || sLt (m.parts.getD (i - 1) default).path (m.parts.getD i default).path)) (some 0) (some 1) rfl (by omega) ?_ ?_]
    · have hiff := adj_iff m.parts partB
      by_cases h : m.parts.all partB = true ∧ risesP m.parts
      · rw [if_pos (hiff.2 h), if_pos (show manB m from ⟨hn, h6, h.1, h.2⟩)]
      · rw [if_neg fun h2 => h (hiff.1 h2), if_neg fun h2 : manB m => h ⟨h2.2.2.1, h2.2.2.2⟩]
    · intro rec i hi
      simp only [manifest_Check.l2]
      rw [if_t (lt_t hi), ix_lt hi, bd_mk, part_eq, bd_mk, test_eq m.parts i hi (by omega)]
      simp only [List.getD_eq_getElem?_getD, List.getElem?_eq_getElem hi, Option.getD_some]
      cases hN : partB m.parts[i] with
      | false => simp
      | true =>
        by_cases h0 : 0 < i
        · have hi' : i - 1 < m.parts.length := by omega
          have h0' : (0 : Int) < (i : Int) := by omega
          simp only [h0, h0', and_self, if_true, List.getElem?_eq_getElem hi', Option.getD_some, decide_true, Bool.not_true, Bool.false_or, Bool.true_and, wr_succ (show i < 4611686018427387904 by omega)]
          have hg := gtr_eq m.parts[i].path m.parts[i - 1].path
          cases hc : (sLt m.parts[i].path m.parts[i - 1].path || m.parts[i].path == m.parts[i - 1].path) with
          | true => rw [hc] at hg; rw [← hg]; rfl
          | false => rw [hc] at hg; rw [← hg]; rfl
        · have h0' : ¬ (0 : Int) < (i : Int) := by omega
          simp [h0, h0', wr_succ (show i < 4611686018427387904 by omega)]
    · intro rec
      simp only [manifest_Check.l2, manifest_Check.k1]
      rw [if_f (lt_f (Nat.lt_irrefl _))]
  · rw [if_pos (by
      simp only [Bool.or_eq_true, decide_eq_true_eq, Bool.not_eq_true']
      cases hn : nameB m.name with
      | false => exact .inl rfl
      | true =>
        rcases Nat.lt_or_ge 6 m.parts.length with h6 | h6
        · right; omega
        · exact absurd ⟨hn, h6⟩ h0), if_neg fun h : manB m => h0 ⟨h.1, h.2.1⟩]
/-- two bytes of a number -/
def be2 (n : Int) : List UInt8 := [toB8 (n / 256), toB8 n]
theorem shr0 (n : Int) : shrI n 0 = some n := by simp [shrI]
theorem put2_eq (b : List UInt8) (n : Int) (h0 : 0 ≤ n) (h1 : n < 65536) (hb : b.length ≤ 1000000000) : bin_Put b n 2 = some (b ++ be2 n, 0) := by
  unfold bin_Put
  have hr : bin_room 2 = some 65536 := by decide +kernel
  rw [only_t (by simp; omega), hr, bd_mk, if_neg (by simp; omega), cloneB_eq b (by omega), bd_mk]
  show loop (bin_Put.l2 n) (((1 : Nat) : Int), b) = _
  have e : ∀ rec, bin_Put.l2 n rec (((1 : Nat) : Int), b) = rec (0, b ++ [toB8 (n / 256)]) := fun rec => by
    simp only [bin_Put.l2]
    rw [if_pos (by decide), show wr (8 * ((1 : Nat) : Int)) = 8 from by decide, show shrI n 8 = some (n / 256) from by simp [shrI], bd_mk, app_ok (by simp; omega), bd_mk, show wr (((1 : Nat) : Int) - 1) = 0 from by decide]
  have e2 : ∀ rec, bin_Put.l2 n rec (0, b ++ [toB8 (n / 256)]) = rec (-1, b ++ be2 n) := fun rec => by
    simp only [bin_Put.l2]
    rw [if_pos (by decide), show wr (8 * (0 : Int)) = 0 from by decide, shr0, bd_mk, app_ok (by simp; omega), bd_mk, show wr ((0 : Int) - 1) = -1 from by decide, List.append_assoc]; rfl
  have e3 : ∀ rec, bin_Put.l2 n rec (-1, b ++ be2 n) = some (b ++ be2 n, 0) := fun rec => by
    simp only [bin_Put.l2, bin_Put.k1]
    rw [if_neg (by decide)]
  show iter _ 4611686018427387904 _ = _
  show bin_Put.l2 n (iter _ 4611686018427387903) _ = _
  rw [e]
  show bin_Put.l2 n (iter _ 4611686018427387902) _ = _
  rw [e2]
  show bin_Put.l2 n (iter _ 4611686018427387901) _ = _
  rw [e3]
/-- a manifest's bytes -/
def partBytes (p : Part) : List UInt8 := ([toB8 (p.path.length : Int)] ++ p.path ++ be2 p.size ++ [toB8 (p.ids.length : Int)]) ++ p.ids.flatten
def manBytes (m : Manifest) : List UInt8 := ([toB8 (m.name.length : Int)] ++ m.name ++ [toB8 (m.parts.length : Int)]) ++ m.parts.flatMap partBytes
/-- what a claim's condition tells of ids -/
def okId (m : Manifest) : Prop := ∀ p ∈ m.parts, ∀ x ∈ p.ids, x.length = 32
theorem flat_len32 : ∀ (l : List (List UInt8)), (∀ x ∈ l, x.length = 32) → l.flatten.length = 32 * l.length
  | [], _ => rfl
  | x :: l, h => by
    have h1 := h x (by simp)
    have h2 := flat_len32 l fun y hy => h y (by simp [hy])
    simp only [List.flatten_cons, List.length_append, List.length_cons, h1, h2]; omega
theorem nameB_len {s : List UInt8} (h : nameB s = true) : 1 ≤ s.length ∧ s.length ≤ 20 := by
  simp only [nameB, Bool.and_eq_true, decide_eq_true_eq] at h; exact h.1
theorem partB_num {p : Part} (h : partB p = true) : nameB p.path = true ∧ 0 ≤ p.size ∧ p.size ≤ 200 ∧ p.ids.length ≤ 25 ∧ (p.ids.length = 0 ↔ p.size = 0) := by
  simp only [partB, Bool.and_eq_true, decide_eq_true_eq] at h
  obtain ⟨⟨⟨⟨h1, h2⟩, h3⟩, h4⟩, h5⟩ := h
  refine ⟨h1, h2, h3, h4, ?_⟩
  rw [beq_iff_eq, decide_eq_decide] at h5; exact h5
theorem partBytes_len {p : Part} (h : ∀ x ∈ p.ids, x.length = 32) : (partBytes p).length = 4 + p.path.length + 32 * p.ids.length := by
  simp only [partBytes, be2, List.length_append, List.length_cons, List.length_nil, flat_len32 p.ids h]; omega
theorem partsBytes_len : ∀ (l : List Part), (∀ p ∈ l, ∀ x ∈ p.ids, x.length = 32) → (∀ p ∈ l, p.path.length ≤ 20 ∧ p.ids.length ≤ 25) → (l.flatMap partBytes).length ≤ 824 * l.length
  | [], _, _ => by simp
  | p :: l, h, h2 => by
    have h3 := partsBytes_len l (fun q hq => h q (by simp [hq])) fun q hq => h2 q (by simp [hq])
    have h4 := partBytes_len (h p (by simp))
    have h5 := h2 p (by simp)
    simp only [List.flatMap_cons, List.length_append, List.length_cons, h4]; omega
theorem manB_parts {m : Manifest} (h : manB m) : ∀ p ∈ m.parts, partB p = true := by
  have := h.2.2.1; rwa [List.all_eq_true] at this
theorem manBytes_len {m : Manifest} (h : manB m) (hk : okId m) : (manBytes m).length ≤ 5000 := by
  have h1 := partsBytes_len m.parts hk fun p hp => by
    have h2 := partB_num (manB_parts h p hp); have h3 := nameB_len h2.1; exact ⟨h3.2, h2.2.2.2.1⟩
  have h2 := nameB_len h.1
  have h3 := h.2.1
  simp only [manBytes, List.length_append, List.length_cons, List.length_nil]; omega
theorem mbytes_eq (m : Manifest) (hk : okId m) : manifest_Bytes m = some (if manB m then (manBytes m, 0) else ([], 1)) := by
  unfold manifest_Bytes
  rw [mcheck_eq, bd_mk]
  by_cases h : manB m
  · rw [if_pos h, if_pos h, if_neg (by simp)]
    have hn := nameB_len h.1
    have h6 := h.2.1
    rw [app_ok (by simp; omega), bd_mk, app_ok (by simp; omega), bd_mk]
    have hlen := manBytes_len h hk
    refine loop_eq (S := List UInt8 × Int) (σ := List UInt8) (fun i l => (l, (i : Int))) m.parts.length (fun i l => l = ([toB8 (m.name.length : Int)] ++ m.name ++ [toB8 (m.parts.length : Int)]) ++ (m.parts.take i).flatMap partBytes) _ (i0 := 0) rfl (Nat.zero_le _) (by simp) (by omega) ?_ ?_
    · intro rec i l hi hI hrec
      simp only [manifest_Bytes.l2]
      have hp := partB_num (manB_parts h _ (List.getElem_mem hi))
      have hpn := nameB_len hp.1
      have hids := hk _ (List.getElem_mem hi)
      have hl : l.length + (partBytes m.parts[i]).length ≤ 5000 := by
        have : (([toB8 (m.name.length : Int)] ++ m.name ++ [toB8 (m.parts.length : Int)]) ++ (m.parts.take (i + 1)).flatMap partBytes).length ≤ 5000 := by
          refine Nat.le_trans ?_ hlen
          simp only [manBytes, List.length_append]
          have : (m.parts.flatMap partBytes).length = ((m.parts.take (i + 1)).flatMap partBytes).length + ((m.parts.drop (i + 1)).flatMap partBytes).length := by
            rw [← List.length_append, ← List.flatMap_append, List.take_append_drop]
          omega
        rw [take_snoc' hi, List.flatMap_append, ← List.append_assoc, ← hI] at this
        simpa using this
      rw [partBytes_len hids] at hl
      rw [if_t (lt_t hi), ix_lt hi, bd_mk, app_ok (by simp; omega), bd_mk, app_ok (by simp; omega), bd_mk, put2_eq _ _ hp.2.1 (by omega) (by simp; omega), bd_mk]
      simp only
      rw [app_ok (by simp [be2]; omega), bd_mk]
      generalize hQ : m.parts[i] = p at *
      refine loop_eq (S := Int × List UInt8) (σ := List UInt8) (fun j q => ((j : Int), q)) p.ids.length (fun j q => q = (l ++ ([toB8 (p.path.length : Int)] ++ p.path ++ be2 p.size ++ [toB8 (p.ids.length : Int)])) ++ (p.ids.take j).flatten) _ (i0 := 0) rfl (Nat.zero_le _) (by simp) (by omega) ?_ ?_
      · intro rec2 j q hj hJ hrec2
        simp only [manifest_Bytes.l4]
        have hx := hids _ (List.getElem_mem hj)
        have hft : ((p.ids.take j).flatten).length ≤ 32 * 25 := by
          rw [flat_len32 _ fun x hx => hids x (List.mem_of_mem_take hx)]; simp; omega
        rw [if_t (lt_t hj), ix_lt hj, bd_mk, app_ok (by rw [hJ]; simp only [List.length_append, List.length_cons, List.length_nil, be2, hx]; omega), bd_mk, wr_succ (by omega)]
        refine hrec2 _ ?_
        rw [hJ, take_snoc' hj]; simp only [List.flatten_append, List.flatten_cons, List.flatten_nil, List.append_nil, List.append_assoc]
      · intro rec2 q hJ
        simp only [manifest_Bytes.l4, manifest_Bytes.k3]
        rw [if_f (lt_f (Nat.lt_irrefl _)), wr_succ (by omega)]
        refine hrec _ ?_
        rw [hJ, hI, take_snoc' hi, hQ, List.take_length, List.flatMap_append]
        simp [partBytes]
    · intro rec l hI
      simp only [manifest_Bytes.l2, manifest_Bytes.k1]
      rw [if_f (lt_f (Nat.lt_irrefl _)), hI, List.take_length]; rfl
  · rw [if_neg h, if_neg h, if_pos (by simp)]
end Go.Wk.Lf
/- Numbers read out of bytes; readers, plainly. -/
namespace Go.Wk.Lf
open Go.Shelf Go.Sort Go.Proofs
set_option linter.unusedVariables false
set_option linter.unusedSimpArgs false

def beN (l : List UInt8) : Nat := l.foldl (fun n c => n * 256 + c.toNat) 0
theorem or_i64_nat (a b : Nat) (ha : a < 4611686018427387904) (hb : b < 4611686018427387904) : bits .or .i64 (a : Int) (b : Int) = ((a ||| b : Nat) : Int) := by
  have hx : a ||| b < 2 ^ 62 := Nat.or_lt_two_pow (by omega) (by omega)
  have h1 : (BitVec.ofInt 64 (a : Int)).toNat = a := by
    rw [BitVec.ofInt_natCast, BitVec.toNat_ofNat]; exact Nat.mod_eq_of_lt (by omega)
  have h2 : (BitVec.ofInt 64 (b : Int)).toNat = b := by
    rw [BitVec.ofInt_natCast, BitVec.toNat_ofNat]; exact Nat.mod_eq_of_lt (by omega)
  show IntKind.i64.wrap ((BitVec.ofInt 64 (a : Int) ||| BitVec.ofInt 64 (b : Int)).toNat : Int) = _
  rw [BitVec.toNat_or, h1, h2]
  exact wr_id (by omega) (by omega)
theorem or_step (n : Nat) (c : UInt8) (hn : n < 18014398509481984) : bits .or .i64 (wr ((n : Int) * 2 ^ (8 : Int).toNat)) (c.toNat : Int) = ((n * 256 + c.toNat : Nat) : Int) := by
  have hc := c.toNat_lt
  have e : wr ((n : Int) * 2 ^ (8 : Int).toNat) = ((n * 256 : Nat) : Int) := by
    rw [show (8 : Int).toNat = 8 from rfl]
    rw [wr_id (by omega) (by omega)]; omega
  rw [e, or_i64_nat _ _ (by omega) (by omega)]
  have := Nat.shiftLeft_add_eq_or_of_lt (i := 8) (b := c.toNat) (by omega) n
  rw [Nat.shiftLeft_eq] at this
  rw [show n * 256 = n * 2 ^ 8 from rfl, this]
theorem beN_lt : ∀ (l : List UInt8), beN l < 256 ^ l.length := by
  intro l
  refine snoc_ind (p := fun l => beN l < 256 ^ l.length) (by simp [beN]) (fun l c ih => ?_) l
  have hc := c.toNat_lt
  simp only [beN, List.foldl_append, List.foldl_cons, List.foldl_nil, List.length_append, List.length_cons, List.length_nil, Nat.pow_succ] at ih ⊢
  omega
theorem beN_snoc (l : List UInt8) (c : UInt8) : beN (l ++ [c]) = beN l * 256 + c.toNat := by simp [beN]
/-- a loop that reads a number -/
theorem num_loop {A : Type} {F : (Int × Int → Option A) → Int × Int → Option A} {l : List UInt8} {K : Int → Option A} (mk : Int → Int → Int × Int) (hl : l.length ≤ 7)
    (hs : ∀ rec i (h : i < l.length) (n : Int), F rec (mk n i) = rec (mk (bits .or .i64 (wr (n * 2 ^ (8 : Int).toNat)) (l[i].toNat : Int)) (wr ((i : Int) + 1)))) (he : ∀ rec n, F rec (mk n l.length) = K n) : loop F (mk 0 0) = K (beN l : Int) := by
  refine loop_eq (S := Int × Int) (σ := Unit) (fun i _ => mk ((beN (l.take i) : Nat) : Int) (i : Int)) l.length (fun _ _ => True) _ (i0 := 0) (s0 := ()) (by simp [beN]) (Nat.zero_le _) trivial (by omega) ?_ ?_
  · intro rec i _ hi _ hrec
    have hlt : beN (l.take i) < 256 ^ 6 := Nat.lt_of_lt_of_le (beN_lt _) (Nat.pow_le_pow_right (by decide) (by simp; omega))
    rw [hs rec i hi, or_step _ _ (by omega), wr_succ (by omega)]
    have := hrec () trivial
    rw [take_snoc' hi, beN_snoc] at this
    exact this
  · intro rec _ _
    rw [he, List.take_length]
theorem get_eq (b : List UInt8) (at_ k : Nat) (h1 : 1 ≤ k) (h7 : k ≤ 7) (hb : b.length ≤ 1073741824) (hk : at_ + k ≤ b.length) : bin_Get b (at_ : Int) (k : Int) = some ((beN ((b.take (at_ + k)).drop at_) : Int), ((at_ + k : Nat) : Int), 0) := by
  unfold bin_Get
  rw [if_neg (by simp only [Bool.or_eq_true, decide_eq_true_eq]; omega), wr_id (x := (b.length : Int) - at_) (by omega) (by omega), if_neg (by simp only [decide_eq_true_eq]; omega), wr_id (x := (at_ : Int) + k) (by omega) (by omega), cut_ok (by omega) (by omega) (by omega), bd_mk]
  rw [show ((at_ : Int) + (k : Int)).toNat = at_ + k by omega, Int.toNat_natCast]
  have hlen : ((b.take (at_ + k)).drop at_).length = k := by simp; omega
  generalize (b.take (at_ + k)).drop at_ = l at hlen ⊢
  refine num_loop (l := l) (K := fun n => some (n, ((at_ + k : Nat) : Int), 0)) (fun n i => (n, i)) (by omega) (fun rec i hi n => ?_) (fun rec n => ?_)
  · simp only [bin_Get.l2]
    rw [if_t (lt_t hi), ix_lt hi, bd_mk]
  · simp only [bin_Get.l2, bin_Get.k1]
    rw [if_f (lt_f (Nat.lt_irrefl _)), wr_id (by omega) (by omega)]
    rfl
theorem toB8_toNat {n : Nat} (h : n < 256) : (toB8 (n : Int)).toNat = n := by
  unfold toB8; simp; omega
theorem toB8_byte (c : UInt8) : toB8 (c.toNat : Int) = c := by
  have := c.toNat_lt
  apply UInt8.toNat.inj
  rw [toB8_toNat (by omega)]
theorem beN_one (c : UInt8) : beN [c] = c.toNat := by simp [beN]
theorem beN_two (a b : UInt8) : beN [a, b] = a.toNat * 256 + b.toNat := by simp [beN]
theorem be2_beN (a b : UInt8) : be2 ((beN [a, b] : Nat) : Int) = [a, b] := by
  have ha := a.toNat_lt
  have hb := b.toNat_lt
  rw [beN_two]
  unfold be2
  have e1 : ((a.toNat * 256 + b.toNat : Nat) : Int) / 256 = ((a.toNat : Nat) : Int) := by omega
  rw [e1, toB8_byte]
  congr 2
  apply UInt8.toNat.inj
  unfold toB8
  simp
  omega
theorem beN_be2 {n : Nat} (h : n < 65536) : beN (be2 (n : Int)) = n := by
  unfold be2
  rw [beN_two]
  have e1 : (n : Int) / 256 = ((n / 256 : Nat) : Int) := by omega
  rw [e1, toB8_toNat (by omega)]
  unfold toB8
  simp
  omega
/-- readers -/
structure Tk (σ : Type) where
  rest : σ → List UInt8
  bad : σ → Bool
  take : σ → Nat → List UInt8 × σ
  len : ∀ s n, (take s n).1.length = n
  sound : ∀ s n, bad (take s n).2 = false → bad s = false ∧ rest s = (take s n).1 ++ rest (take s n).2
  full : ∀ s x t, bad s = false → rest s = x ++ t → (take s x.length).1 = x ∧ rest (take s x.length).2 = t ∧ bad (take s x.length).2 = false
section
variable {σ : Type} (T : Tk σ)
def Tk.num (s : σ) (n : Nat) : Nat × σ := (beN (T.take s n).1, (T.take s n).2)
def Tk.text (s : σ) : List UInt8 × σ := T.take (T.num s 1).2 (T.num s 1).1
theorem Tk.num1 (s : σ) : ∃ c, (T.take s 1).1 = [c] ∧ (T.num s 1).1 = c.toNat := by
  have h := T.len s 1
  match hq : (T.take s 1).1, h with
  | [c], _ => exact ⟨c, rfl, by simp [Tk.num, hq, beN]⟩
theorem Tk.num1_sound (s : σ) (h : T.bad (T.num s 1).2 = false) : T.bad s = false ∧ (T.num s 1).1 < 256 ∧ T.rest s = toB8 ((T.num s 1).1 : Int) :: T.rest (T.num s 1).2 := by
  obtain ⟨c, h1, h2⟩ := T.num1 s
  obtain ⟨h3, h4⟩ := T.sound s 1 h
  have := c.toNat_lt
  refine ⟨h3, by omega, ?_⟩
  rw [h4, h1, h2, toB8_byte]; rfl
theorem Tk.num1_full (s : σ) (n : Nat) (t : List UInt8) (hn : n < 256) (hb : T.bad s = false) (hr : T.rest s = toB8 (n : Int) :: t) : (T.num s 1).1 = n ∧ T.rest (T.num s 1).2 = t ∧ T.bad (T.num s 1).2 = false := by
  obtain ⟨h1, h2, h3⟩ := T.full s [toB8 (n : Int)] t hb hr
  refine ⟨?_, h2, h3⟩
  show beN (T.take s 1).1 = n
  rw [show (1 : Nat) = [toB8 (n : Int)].length from rfl, h1, beN_one, toB8_toNat hn]
theorem Tk.num2_sound (s : σ) (h : T.bad (T.num s 2).2 = false) : T.bad s = false ∧ (T.num s 2).1 < 65536 ∧ T.rest s = be2 ((T.num s 2).1 : Int) ++ T.rest (T.num s 2).2 := by
  have hl := T.len s 2
  obtain ⟨h3, h4⟩ := T.sound s 2 h
  refine ⟨h3, ?_, ?_⟩
  · have := beN_lt (T.take s 2).1
    rw [hl] at this
    exact this
  · rw [h4]
    match hq : (T.take s 2).1, hl with
    | [a, b], _ =>
      show _ = be2 ((beN (T.take s 2).1 : Nat) : Int) ++ _
      rw [hq, be2_beN]; rfl
theorem Tk.num2_full (s : σ) (n : Nat) (t : List UInt8) (hn : n < 65536) (hb : T.bad s = false) (hr : T.rest s = be2 (n : Int) ++ t) : (T.num s 2).1 = n ∧ T.rest (T.num s 2).2 = t ∧ T.bad (T.num s 2).2 = false := by
  obtain ⟨h1, h2, h3⟩ := T.full s (be2 (n : Int)) t hb hr
  refine ⟨?_, h2, h3⟩
  show beN (T.take s 2).1 = n
  rw [show (2 : Nat) = (be2 (n : Int)).length from rfl, h1, beN_be2 hn]
theorem Tk.text_sound (s : σ) (h : T.bad (T.text s).2 = false) : T.bad s = false ∧ (T.text s).1.length < 256 ∧ T.rest s = toB8 ((T.text s).1.length : Int) :: ((T.text s).1 ++ T.rest (T.text s).2) := by
  obtain ⟨h1, h2⟩ := T.sound _ _ h
  obtain ⟨h3, h4, h5⟩ := T.num1_sound s h1
  have hl : (T.text s).1.length = (T.num s 1).1 := T.len _ _
  refine ⟨h3, by omega, ?_⟩
  rw [h5, hl, h2]; rfl
theorem Tk.text_full (s : σ) (x t : List UInt8) (hn : x.length < 256) (hb : T.bad s = false) (hr : T.rest s = toB8 (x.length : Int) :: (x ++ t)) : (T.text s).1 = x ∧ T.rest (T.text s).2 = t ∧ T.bad (T.text s).2 = false := by
  obtain ⟨h1, h2, h3⟩ := T.num1_full s x.length (x ++ t) hn hb hr
  obtain ⟨h4, h5, h6⟩ := T.full (T.num s 1).2 x t h3 h2
  unfold Tk.text
  rw [h1]; exact ⟨h4, h5, h6⟩
/-- the head of a part: its path, its size, how many ids -/
def Tk.head (s : σ) : List UInt8 × Nat × Nat × σ :=
  let a := T.text s
  let b := T.num a.2 2
  let c := T.num b.2 1
  (a.1, b.1, c.1, c.2)
def headBytes (p : List UInt8) (n k : Nat) : List UInt8 := [toB8 (p.length : Int)] ++ p ++ be2 (n : Int) ++ [toB8 (k : Int)]
theorem Tk.head_sound (s : σ) (h : T.bad (T.head s).2.2.2 = false) : T.bad s = false ∧ (T.head s).1.length < 256 ∧ (T.head s).2.1 < 65536 ∧ (T.head s).2.2.1 < 256 ∧ T.rest s = headBytes (T.head s).1 (T.head s).2.1 (T.head s).2.2.1 ++ T.rest (T.head s).2.2.2 := by
  obtain ⟨h1, h2, h3⟩ := T.num1_sound _ h
  obtain ⟨h4, h5, h6⟩ := T.num2_sound _ h1
  obtain ⟨h7, h8, h9⟩ := T.text_sound _ h4
  refine ⟨h7, h8, h5, h2, ?_⟩
  rw [h9, h6, h3]
  simp [headBytes, Tk.head]
theorem Tk.head_full (s : σ) (p t : List UInt8) (n k : Nat) (hp : p.length < 256) (hn : n < 65536) (hk : k < 256) (hb : T.bad s = false) (hr : T.rest s = headBytes p n k ++ t) : (T.head s).1 = p ∧ (T.head s).2.1 = n ∧ (T.head s).2.2.1 = k ∧ T.rest (T.head s).2.2.2 = t ∧ T.bad (T.head s).2.2.2 = false := by
  obtain ⟨h1, h2, h3⟩ := T.text_full s p (be2 (n : Int) ++ toB8 (k : Int) :: t) hp hb (by rw [hr]; simp [headBytes])
  obtain ⟨h4, h5, h6⟩ := T.num2_full _ n (toB8 (k : Int) :: t) hn h3 h2
  obtain ⟨h7, h8, h9⟩ := T.num1_full _ k t hk h6 h5
  exact ⟨h1, h4, h7, h8, h9⟩
end
/-- parts as they are read -/
def wfP (p : Part) : Prop := p.path.length < 256 ∧ 0 ≤ p.size ∧ p.size < 65536 ∧ p.ids.length < 256 ∧ ∀ x ∈ p.ids, x.length = 32
theorem partBytes_head (p : Part) (n : Nat) (h : p.size = (n : Int)) : partBytes p = headBytes p.path n p.ids.length ++ p.ids.flatten := by simp [partBytes, headBytes, h]
theorem wf_of {p : Part} (h : partB p = true) (hk : ∀ x ∈ p.ids, x.length = 32) : wfP p := by
  have h2 := partB_num h
  have h3 := nameB_len h2.1
  exact ⟨by omega, h2.2.1, by omega, by omega, hk⟩
end Go.Wk.Lf
/- What manifest.Read tells, plainly. -/
namespace Go.Wk.Lf
open Go.Shelf Go.Sort Go.Proofs
set_option linter.unusedVariables false
set_option linter.unusedSimpArgs false

def takeM (s : ManifestReader) (n : Nat) : List UInt8 × ManifestReader := if (s.bad || decide (s.b.length < n)) = true then (List.replicate n 0, ⟨s.b, true⟩) else (s.b.take n, ⟨s.b.drop n, s.bad⟩)
def tkM : Tk ManifestReader where
  rest s := s.b
  bad s := s.bad
  take := takeM
  len s n := by
    unfold takeM; split
    · simp
    · rename_i h; simp only [Bool.or_eq_true, decide_eq_true_eq, not_or] at h; simp; omega
  sound s n h := by
    unfold takeM at h ⊢; split at h
    · cases h
    · rename_i hc; rw [if_neg hc]; exact ⟨h, (List.take_append_drop n s.b).symm⟩
  full s x t hb hr := by
    have hr' : s.b = x ++ t := hr
    have hb' : s.bad = false := hb
    unfold takeM
    rw [if_neg (by rw [hb', hr']; simp)]
    exact ⟨by rw [hr']; simp, by show s.b.drop x.length = t; rw [hr']; simp, hb'⟩
theorem takeM_eq (s : ManifestReader) (n : Nat) (hn : n ≤ 65536) (hb : s.b.length ≤ 1073741824) : manifest_reader_take_fz s (n : Int) = some (takeM s n) := by
  unfold manifest_reader_take_fz takeM
  have e : decide ((s.b.length : Int) < (n : Int)) = decide (s.b.length < n) := by rw [decide_eq_decide]; omega
  rw [e]
  split
  · rw [rep_ok (by omega) (by omega), bd_mk, Int.toNat_natCast]
  · rename_i h
    simp only [Bool.or_eq_true, decide_eq_true_eq, not_or] at h
    rw [cut_ok (by omega) (by omega) (by omega), bd_mk, cut_ok (by omega) (by omega) (by omega), bd_mk]
    simp
theorem takeM_len (s : ManifestReader) (n : Nat) : (takeM s n).2.b.length ≤ s.b.length := by
  unfold takeM; split
  · exact Nat.le_refl _
  · simp
theorem numM_eq (s : ManifestReader) (n : Nat) (h1 : 1 ≤ n) (h7 : n ≤ 7) (hb : s.b.length ≤ 1073741824) : manifest_reader_num_fz s (n : Int) = some (((tkM.num s n).1 : Int), (tkM.num s n).2) := by
  unfold manifest_reader_num_fz
  have hl := tkM.len s n
  rw [takeM_eq s n (by omega) hb, bd_mk]
  have hg := get_eq (takeM s n).1 0 n h1 h7 (by have : (takeM s n).1.length = n := hl; omega) (by have : (takeM s n).1.length = n := hl; omega)
  rw [show ((0 : Nat) : Int) = 0 from rfl] at hg
  rw [hg, bd_mk]
  have : ((takeM s n).1.take (0 + n)).drop 0 = (takeM s n).1 := by
    rw [Nat.zero_add, List.drop_zero, List.take_of_length_le]
    have : (takeM s n).1.length = n := hl
    omega
  rw [this]; rfl
theorem len_num (s : ManifestReader) (n : Nat) : (tkM.num s n).2.b.length ≤ s.b.length := takeM_len s n
theorem len_text (s : ManifestReader) : (tkM.text s).2.b.length ≤ s.b.length := Nat.le_trans (takeM_len _ _) (len_num s 1)
theorem num1_le (s : ManifestReader) : (tkM.num s 1).1 < 256 := by
  obtain ⟨c, _, h⟩ := tkM.num1 s
  have := c.toNat_lt
  omega
/-- the head of a part, as the code reads it -/
theorem headM_eq (s : ManifestReader) (hb : s.b.length ≤ 1073741824) {A : Type} (K : List UInt8 × ManifestReader → Int × ManifestReader → Int × ManifestReader → Option A) :
    (bd (manifest_reader_num_fz s 1) fun a => bd (manifest_reader_take_fz a.2 a.1) fun b => bd (manifest_reader_num_fz b.2 2) fun c => bd (manifest_reader_num_fz c.2 1) fun d => K b c d) = K (tkM.text s) (((tkM.num (tkM.text s).2 2).1 : Int), (tkM.num (tkM.text s).2 2).2) (((tkM.num (tkM.num (tkM.text s).2 2).2 1).1 : Int), (tkM.num (tkM.num (tkM.text s).2 2).2 1).2) := by
  have h0 := num1_le s
  have h1 := len_num s 1
  have h2 := len_text s
  have h3 := len_num (tkM.text s).2 2
  rw [show (1 : Int) = ((1 : Nat) : Int) from rfl, show (2 : Int) = ((2 : Nat) : Int) from rfl, numM_eq s 1 (by omega) (by omega) hb, bd_mk]
  simp only
  rw [takeM_eq _ _ (by omega) (by omega), bd_mk]
  show (bd (manifest_reader_num_fz (tkM.text s).2 _) _) = _
  rw [numM_eq _ 2 (by omega) (by omega) (by omega), bd_mk]
  simp only
  rw [numM_eq _ 1 (by omega) (by omega) (by omega), bd_mk]
  rfl
/-- bytes that are a manifest's -/
def isMan (b : List UInt8) (m : Manifest) : Prop := manB m ∧ okId m ∧ b = manBytes m
open Classical in
noncomputable def readL (b : List UInt8) : Manifest × Int := if h : ∃ m, isMan b m then (h.choose, 0) else (⟨[], []⟩, 3)
/-- what is known at each round -/
structure RInv (b : List UInt8) (nm : List UInt8) (cnt : Nat) (i : Nat) (q : List UInt8) (bad : Bool) (ps : List Part) : Prop where
  len : q.length ≤ b.length
  snd : bad = false → b = [toB8 (nm.length : Int)] ++ nm ++ [toB8 (cnt : Int)] ++ ps.flatMap partBytes ++ q ∧ ps.length = i ∧ ∀ p ∈ ps, wfP p
  cpl : ∀ m, isMan b m → bad = false ∧ nm = m.name ∧ cnt = m.parts.length ∧ ps = m.parts.take i ∧ q = (m.parts.drop i).flatMap partBytes
theorem man_head {m : Manifest} (h : manB m) : m.name.length < 256 ∧ m.parts.length < 256 := by
  have h1 := nameB_len h.1
  have h2 := h.2.1
  exact ⟨by omega, by omega⟩
/-- the end: what is told is what it should be -/
theorem read_end {b nm : List UInt8} {cnt : Nat} {q : List UInt8} {bad : Bool} {ps : List Part} {i : Nat} (hcn : cnt < 256) (hI : RInv b nm cnt i q bad ps) (hi : bad = false → i = cnt) :
    (if ((bad || decide (0 < q.length)) || !decide (manB ⟨nm, ps⟩)) = true then ((⟨[], []⟩ : Manifest), (3 : Int)) else (⟨nm, ps⟩, 0)) = readL b := by
  by_cases hex : ∃ m, isMan b m
  · have hr : readL b = (hex.choose, 0) := by unfold readL; rw [dif_pos hex]
    obtain ⟨h1, h2, h3, h4, h5⟩ := hI.cpl _ hex.choose_spec
    have hic := hi h1
    rw [hic, h3, List.take_length] at h4
    rw [hic, h3, List.drop_length] at h5
    have hm : (⟨nm, ps⟩ : Manifest) = hex.choose := by rw [h2, h4]
    rw [hr, hm]
    rw [if_neg]
    rw [h1, h5]
    have := hex.choose_spec.1
    simp [this]
  · have hr : readL b = (⟨[], []⟩, 3) := by unfold readL; rw [dif_neg hex]
    rw [hr]
    split
    · rfl
    · rename_i hc
      simp only [Bool.or_eq_true, decide_eq_true_eq, not_or, Bool.not_eq_true', decide_eq_false_iff_not, Bool.not_eq_true, Classical.not_not] at hc
      obtain ⟨⟨hb, hq⟩, hm⟩ := hc
      exfalso
      obtain ⟨h1, h2, h3⟩ := hI.snd hb
      refine hex ⟨⟨nm, ps⟩, hm, fun p hp => (h3 p hp).2.2.2.2, ?_⟩
      have hq0 : q = [] := List.eq_nil_of_length_eq_zero (by omega)
      rw [h1, hq0, List.append_nil, ← hi hb, ← h2]; rfl
/-- one part more -/
theorem RInv.step {b nm : List UInt8} {cnt i : Nat} {q : List UInt8} {bad : Bool} {ps : List Part} (hI : RInv b nm cnt i q bad ps) {p : Part} {q' : List UInt8} {bad' : Bool} (hl : q'.length ≤ q.length)
    (hs : bad' = false → bad = false ∧ q = partBytes p ++ q' ∧ wfP p) (hc : ∀ p0 t, bad = false → wfP p0 → q = partBytes p0 ++ t → p = p0 ∧ q' = t ∧ bad' = false) (hi : i < cnt) : RInv b nm cnt (i + 1) q' bad' (ps ++ [p]) := by
  refine ⟨Nat.le_trans hl hI.len, fun hb => ?_, fun m hm => ?_⟩
  · obtain ⟨h1, h2, h3⟩ := hs hb
    obtain ⟨h4, h5, h6⟩ := hI.snd h1
    refine ⟨?_, by simp [h5], fun p' hp' => ?_⟩
    · rw [h4, h2]; simp
    · rcases List.mem_append.1 hp' with h | h
      · exact h6 p' h
      · simp at h; subst h; exact h3
  · obtain ⟨h1, h2, h3, h4, h5⟩ := hI.cpl m hm
    have hil : i < m.parts.length := by omega
    rw [List.drop_eq_getElem_cons hil, List.flatMap_cons] at h5
    have hmem := List.getElem_mem hil
    obtain ⟨h6, h7, h8⟩ := hc _ _ h1 (wf_of (manB_parts hm.1 _ hmem) (hm.2.1 _ hmem)) h5
    refine ⟨h8, h2, h3, ?_, h7⟩
    rw [h4, h6, take_snoc' hil]
theorem read_eq (b : List UInt8) (hb : b.length ≤ 1000000000) : manifest_Read b = some (readL b) := by
  unfold manifest_Read
  let s0 : ManifestReader := ⟨b, false⟩
  have h0 := num1_le s0
  have h1 := len_num s0 1
  have h2 := len_text s0
  have h3 := len_num (tkM.text s0).2 1
  have h4 := num1_le (tkM.text s0).2
  rw [show (1 : Int) = ((1 : Nat) : Int) from rfl, numM_eq s0 1 (by omega) (by omega) (by show b.length ≤ _; omega), bd_mk]
  simp only
  rw [takeM_eq _ _ (by omega) (by have : (tkM.num s0 1).2.b.length ≤ b.length := h1; omega), bd_mk]
  show (bd (manifest_reader_num_fz (tkM.text s0).2 _) _) = _
  have hlt : (tkM.text s0).2.b.length ≤ b.length := h2
  rw [numM_eq _ 1 (by omega) (by omega) (by omega), bd_mk]
  simp only
  show loop (manifest_Read.l2 (tkM.text s0) (((tkM.num (tkM.text s0).2 1).1 : Int), (tkM.num (tkM.text s0).2 1).2)) _ = _
  generalize hR : tkM.num (tkM.text s0).2 1 = R at h3 h4 ⊢
  generalize hT : tkM.text s0 = Tx at h3 hlt hR ⊢
  have hinit : RInv b Tx.1 R.1 0 R.2.b R.2.bad [] := by
    refine ⟨by omega, fun hbad => ?_, fun m hm => ?_⟩
    · have hbad' : tkM.bad (tkM.num Tx.2 1).2 = false := by rw [hR]; exact hbad
      obtain ⟨a1, a2, a3⟩ := tkM.num1_sound _ hbad'
      rw [← hT] at a1 a3
      obtain ⟨a4, a5, a6⟩ := tkM.text_sound s0 a1
      rw [hT, hR] at a3
      rw [hT] at a6
      have e1 : tkM.rest s0 = b := rfl
      have e2 : tkM.rest R.2 = R.2.b := rfl
      rw [e1, a3, e2] at a6
      exact ⟨by rw [a6]; simp, rfl, fun p hp => by simp at hp⟩
    · obtain ⟨m1, m2⟩ := man_head hm.1
      obtain ⟨a1, a2, a3⟩ := tkM.text_full s0 m.name (toB8 (m.parts.length : Int) :: m.parts.flatMap partBytes) m1 rfl (by show b = _; rw [hm.2.2]; simp [manBytes])
      rw [hT] at a1 a2 a3
      obtain ⟨a4, a5, a6⟩ := tkM.num1_full Tx.2 m.parts.length (m.parts.flatMap partBytes) m2 a3 a2
      rw [hR] at a4 a5 a6
      exact ⟨a6, a1, a4, rfl, a5⟩
  -- the end of the parts
  have hfin : ∀ (i : Nat) (q : List UInt8) (bad : Bool) (ps : List Part), RInv b Tx.1 R.1 i q bad ps → (bad = false → i = R.1) → manifest_Read.k1 Tx ps q bad = some (readL b) := by
    intro i q bad ps hI hi
    rw [← read_end h4 hI hi]
    simp only [manifest_Read.k1]
    have e : decide (0 < (q.length : Int)) = decide (0 < q.length) := by rw [decide_eq_decide]; omega
    rw [e]
    cases hc : (bad || decide (0 < q.length)) with
    | true => rw [only_f (by simp), bd_mk]; rfl
    | false =>
      rw [only_t (by simp), mcheck_eq, bd_mk]
      by_cases hm : manB ⟨Tx.1, ps⟩
      · rw [if_pos hm]; simp [hm]
      · rw [if_neg hm]; simp [hm]
  refine loop_eq (S := Int × List UInt8 × Bool × List Part) (σ := List UInt8 × Bool × List Part) (fun i s => ((i : Int), s.1, s.2.1, s.2.2)) R.1 (fun i s => RInv b Tx.1 R.1 i s.1 s.2.1 s.2.2 ∧ s.2.2.length = i) _ (i0 := 0) (s0 := (R.2.b, R.2.bad, [])) rfl (Nat.zero_le _) ⟨hinit, rfl⟩ (by omega) ?_ ?_
  · rintro rec i ⟨q, bad, ps⟩ hi ⟨hI, hpl⟩ hrec
    simp only at hI hpl hrec
    simp only [manifest_Read.l2]
    rw [if_t (lt_t hi)]
    have hql := hI.len
    rw [headM_eq ⟨q, bad⟩ (by show q.length ≤ _; omega)]
    let s : ManifestReader := ⟨q, bad⟩
    have g2 := len_text s
    have g3 := len_num (tkM.text s).2 2
    have g4 := len_num (tkM.num (tkM.text s).2 2).2 1
    have g5 := num1_le (tkM.num (tkM.text s).2 2).2
    have hsd := tkM.head_sound s
    have hfl := tkM.head_full s
    have eh : tkM.head s = ((tkM.text s).1, (tkM.num (tkM.text s).2 2).1, (tkM.num (tkM.num (tkM.text s).2 2).2 1).1, (tkM.num (tkM.num (tkM.text s).2 2).2 1).2) := rfl
    rw [eh] at hsd hfl
    simp only at hsd hfl
    show loop (manifest_Read.l5 Tx (i : Int) ps rec (tkM.text s) (((tkM.num (tkM.text s).2 2).1 : Int), (tkM.num (tkM.text s).2 2).2) (((tkM.num (tkM.num (tkM.text s).2 2).2 1).1 : Int), (tkM.num (tkM.num (tkM.text s).2 2).2 1).2)) _ = _
    generalize hE : tkM.num (tkM.num (tkM.text s).2 2).2 1 = E at hsd hfl g4 g5 ⊢
    generalize tkM.num (tkM.text s).2 2 = D at hsd hfl g3 g4 ⊢
    generalize tkM.text s = P at hsd hfl g2 g3 ⊢
    have hEl : E.2.b.length ≤ q.length := by have : P.2.b.length ≤ q.length := g2; omega
    refine loop_eq (S := Int × List UInt8 × Bool × List (List UInt8)) (σ := List UInt8 × Bool × List (List UInt8)) (fun j s => ((j : Int), s.1, s.2.1, s.2.2)) E.1 (fun j z => z.1.length ≤ q.length ∧ z.2.2.length = j ∧ (∀ x ∈ z.2.2, x.length = 32) ∧ (z.2.1 = false → E.2.bad = false ∧ E.2.b = z.2.2.flatten ++ z.1) ∧ (∀ (ids : List (List UInt8)) (t : List UInt8), E.2.bad = false → E.2.b = ids.flatten ++ t → (∀ x ∈ ids, x.length = 32) → ids.length = E.1 → z.2.1 = false ∧ z.2.2 = ids.take j ∧ z.1 = (ids.drop j).flatten ++ t)) _ (i0 := 0) (s0 := (E.2.b, E.2.bad, [])) rfl (Nat.zero_le _) ⟨hEl, rfl, fun x hx => by simp at hx, fun h => ⟨h, rfl⟩, fun ids t h1 h2 h3 h4 => ⟨h1, rfl, h2⟩⟩ (by omega) ?_ ?_
    · rintro rec2 j ⟨z, zb, zi⟩ hj ⟨j1, j2, j3, j4, j5⟩ hrec2
      simp only at j1 j2 j3 j4 j5 hrec2
      simp only [manifest_Read.l5]
      rw [if_t (lt_t hj), show (32 : Int) = ((32 : Nat) : Int) from rfl, takeM_eq ⟨z, zb⟩ 32 (by omega) (by show z.length ≤ _; omega), bd_mk]
      have k1 := tkM.len ⟨z, zb⟩ 32
      have k2 := takeM_len ⟨z, zb⟩ 32
      have k3 := tkM.sound ⟨z, zb⟩ 32
      have k4 := tkM.full ⟨z, zb⟩
      have e3 : tkM.take = takeM := rfl
      rw [e3] at k1 k3 k4
      have ha : arr32 (takeM ⟨z, zb⟩ 32).1 = some (takeM ⟨z, zb⟩ 32).1 := by
        unfold arr32
        rw [if_pos (by omega), List.take_of_length_le (by omega)]
      rw [ha, bd_mk, app_ok (by simp; omega), bd_mk, wr_succ (by omega)]
      refine hrec2 ((takeM ⟨z, zb⟩ 32).2.b, (takeM ⟨z, zb⟩ 32).2.bad, zi ++ [(takeM ⟨z, zb⟩ 32).1]) ⟨?_, by simp [j2], fun x hx => ?_, fun hb => ?_, fun ids t h1 h2 h3 h4 => ?_⟩
      · have : (takeM ⟨z, zb⟩ 32).2.b.length ≤ z.length := k2
        show (takeM ⟨z, zb⟩ 32).2.b.length ≤ q.length
        omega
      · rcases List.mem_append.1 hx with h | h
        · exact j3 x h
        · simp at h; subst h; exact k1
      · obtain ⟨l1, l2⟩ := k3 hb
        obtain ⟨l3, l4⟩ := j4 l1
        refine ⟨l3, ?_⟩
        have l5 : z = (takeM ⟨z, zb⟩ 32).1 ++ (takeM ⟨z, zb⟩ 32).2.b := l2
        rw [l4]
        conv => lhs; rw [l5]
        simp
      · obtain ⟨l1, l2, l3⟩ := j5 ids t h1 h2 h3 h4
        have hjl : j < ids.length := by omega
        rw [List.drop_eq_getElem_cons hjl, List.flatten_cons, List.append_assoc] at l3
        have hx := h3 _ (List.getElem_mem hjl)
        obtain ⟨l4, l5, l6⟩ := k4 ids[j] ((ids.drop (j + 1)).flatten ++ t) l1 l3
        rw [hx] at l4 l5 l6
        exact ⟨l6, by show zi ++ [_] = _; rw [l2, l4, take_snoc' hjl], l5⟩
    · rintro rec2 ⟨z, zb, zi⟩ ⟨j1, j2, j3, j4, j5⟩
      simp only at j1 j2 j3 j4 j5
      simp only [manifest_Read.l5, manifest_Read.k4, manifest_Read.k3]
      rw [if_f (lt_f (Nat.lt_irrefl _)), app_ok (by simp; omega), bd_mk, wr_succ (by omega)]
      have hstep : RInv b Tx.1 R.1 (i + 1) z zb (ps ++ [Part.mk P.1 (D.1 : Int) zi]) := by
        refine hI.step j1 (fun hzb => ?_) (fun p0 t hbad hw hq => ?_) hi
        · obtain ⟨l1, l2⟩ := j4 hzb
          obtain ⟨l3, l4, l5, l6, l7⟩ := hsd l1
          have e4 : tkM.rest s = q := rfl
          have e5 : tkM.rest E.2 = E.2.b := rfl
          rw [e4, e5] at l7
          refine ⟨l3, ?_, l4, by show (0 : Int) ≤ (D.1 : Int); omega, by show (D.1 : Int) < 65536; omega, by show zi.length < 256; omega, j3⟩
          rw [partBytes_head _ D.1 rfl, l7, l2]
          simp only [j2, List.append_assoc]
        · obtain ⟨w1, w2, w3, w4, w5⟩ := hw
          obtain ⟨n0, hn0⟩ := Int.eq_ofNat_of_zero_le w2
          have hn1 : n0 < 65536 := by omega
          rw [partBytes_head p0 n0 hn0, List.append_assoc] at hq
          obtain ⟨l1, l2, l3, l4, l5⟩ := hfl p0.path (p0.ids.flatten ++ t) n0 p0.ids.length w1 hn1 w4 hbad hq
          obtain ⟨l6, l7, l8⟩ := j5 p0.ids t l5 l4 w5 l3.symm
          rw [l3, List.take_length] at l7
          rw [l3, List.drop_length] at l8
          refine ⟨?_, l8, l6⟩
          obtain ⟨pp, ps0, pi⟩ := p0
          simp only at l1 l7 hn0
          rw [l1, l2, l7, hn0]
      cases hzb : zb with
      | true =>
        rw [if_pos rfl]
        rw [hzb] at hstep
        exact hfin _ _ _ _ hstep (fun h => by cases h)
      | false =>
        rw [if_neg (by simp)]
        rw [hzb] at hstep
        exact hrec (z, false, ps ++ [Part.mk P.1 (D.1 : Int) zi]) ⟨hstep, by simp [hpl]⟩
  · rintro rec ⟨q, bad, ps⟩ ⟨hI, hpl⟩
    simp only at hI hpl
    simp only [manifest_Read.l2]
    rw [if_f (lt_f (Nat.lt_irrefl _))]
    exact hfin _ _ _ _ hI fun _ => rfl
end Go.Wk.Lf
/- Manifests' bytes: of unlike ones unlike, none a beginning of another's. -/
namespace Go.Wk.Lf
open Go.Shelf Go.Sort Go.Proofs
set_option linter.unusedVariables false
set_option linter.unusedSimpArgs false
theorem toB8_inj {n m : Nat} (hn : n < 256) (hm : m < 256) (h : toB8 (n : Int) = toB8 (m : Int)) : n = m := by
  rw [← toB8_toNat hn, h, toB8_toNat hm]
theorem flat32_inj : ∀ (a b : List (List UInt8)) (r s : List UInt8), a.length = b.length → (∀ x ∈ a, x.length = 32) → (∀ x ∈ b, x.length = 32) → a.flatten ++ r = b.flatten ++ s → a = b ∧ r = s
  | [], [], r, s, _, _, _, h => ⟨rfl, h⟩
  | x :: a, y :: b, r, s, hl, ha, hb, h => by
    simp only [List.flatten_cons, List.append_assoc] at h
    obtain ⟨h1, h2⟩ := List.append_inj h (by rw [ha x (by simp), hb y (by simp)])
    obtain ⟨h3, h4⟩ := flat32_inj a b r s (by simpa using hl) (fun z hz => ha z (by simp [hz])) (fun z hz => hb z (by simp [hz])) h2
    exact ⟨by rw [h1, h3], h4⟩
  | [], _ :: _, _, _, hl, _, _, _ => by simp at hl
  | _ :: _, [], _, _, hl, _, _, _ => by simp at hl
theorem head_inj {p q : List UInt8} {n n' k k' : Nat} {r s : List UInt8} (hp : p.length < 256) (hq : q.length < 256) (hn : n < 65536) (hn' : n' < 65536) (hk : k < 256) (hk' : k' < 256) (h : headBytes p n k ++ r = headBytes q n' k' ++ s) : p = q ∧ n = n' ∧ k = k' ∧ r = s := by
  simp only [headBytes, List.append_assoc, List.singleton_append, List.cons_append, List.nil_append, List.cons.injEq] at h
  obtain ⟨h1, h2⟩ := h
  have h3 := toB8_inj hp hq h1
  obtain ⟨h4, h5⟩ := List.append_inj h2 h3
  obtain ⟨h6, h7⟩ := List.append_inj h5 rfl
  simp only [List.cons.injEq] at h7
  refine ⟨h4, ?_, toB8_inj hk hk' h7.1, h7.2⟩
  rw [← beN_be2 hn, h6, beN_be2 hn']
theorem part_inj {p q : Part} {r s : List UInt8} (hp : wfP p) (hq : wfP q) (h : partBytes p ++ r = partBytes q ++ s) : p = q ∧ r = s := by
  obtain ⟨p1, p2, p3, p4, p5⟩ := hp
  obtain ⟨q1, q2, q3, q4, q5⟩ := hq
  obtain ⟨n, hn⟩ := Int.eq_ofNat_of_zero_le p2
  obtain ⟨m, hm⟩ := Int.eq_ofNat_of_zero_le q2
  rw [partBytes_head p n hn, partBytes_head q m hm, List.append_assoc, List.append_assoc] at h
  obtain ⟨h1, h2, h3, h4⟩ := head_inj p1 q1 (by omega) (by omega) p4 q4 h
  obtain ⟨h5, h6⟩ := flat32_inj _ _ _ _ h3 p5 q5 h4
  obtain ⟨a1, a2, a3⟩ := p
  obtain ⟨b1, b2, b3⟩ := q
  simp only at h1 h5 hn hm
  exact ⟨by rw [h1, h5, hn, hm, h2], h6⟩
theorem parts_inj : ∀ (a b : List Part) (r s : List UInt8), a.length = b.length → (∀ p ∈ a, wfP p) → (∀ p ∈ b, wfP p) → a.flatMap partBytes ++ r = b.flatMap partBytes ++ s → a = b ∧ r = s
  | [], [], r, s, _, _, _, h => ⟨rfl, h⟩
  | x :: a, y :: b, r, s, hl, ha, hb, h => by
    simp only [List.flatMap_cons, List.append_assoc] at h
    obtain ⟨h1, h2⟩ := part_inj (ha x (by simp)) (hb y (by simp)) h
    obtain ⟨h3, h4⟩ := parts_inj a b r s (by simpa using hl) (fun z hz => ha z (by simp [hz])) (fun z hz => hb z (by simp [hz])) h2
    exact ⟨by rw [h1, h3], h4⟩
  | [], _ :: _, _, _, hl, _, _, _ => by simp at hl
  | _ :: _, [], _, _, hl, _, _, _ => by simp at hl
theorem man_inj {a b : Manifest} {r s : List UInt8} (ha : manB a) (hb : manB b) (ka : okId a) (kb : okId b) (h : manBytes a ++ r = manBytes b ++ s) : a = b ∧ r = s := by
  obtain ⟨a1, a2⟩ := man_head ha
  obtain ⟨b1, b2⟩ := man_head hb
  simp only [manBytes, List.append_assoc, List.singleton_append, List.cons_append, List.nil_append, List.cons.injEq] at h
  obtain ⟨h1, h2⟩ := h
  obtain ⟨h4, h5⟩ := List.append_inj h2 (toB8_inj a1 b1 h1)
  simp only [List.cons.injEq] at h5
  obtain ⟨h6, h7⟩ := parts_inj _ _ _ _ (toB8_inj a2 b2 h5.1) (fun p hp => wf_of (manB_parts ha p hp) (ka p hp)) (fun p hp => wf_of (manB_parts hb p hp) (kb p hp)) h5.2
  obtain ⟨an, ap⟩ := a
  obtain ⟨bn, bp⟩ := b
  simp only at h4 h6
  exact ⟨by rw [h4, h6], h7⟩
theorem isMan_uniq {b : List UInt8} {m m' : Manifest} (h : isMan b m) (h' : isMan b m') : m = m' :=
  (man_inj (r := []) (s := []) h.1 h'.1 h.2.1 h'.2.1 (by rw [List.append_nil, List.append_nil, ← h.2.2, h'.2.2])).1
theorem readL_man {b : List UInt8} {m : Manifest} (h : isMan b m) : readL b = (m, 0) := by
  unfold readL
  have hex : ∃ m, isMan b m := ⟨m, h⟩
  rw [dif_pos hex, isMan_uniq hex.choose_spec h]
theorem readL_none {b : List UInt8} (h : ¬ ∃ m, isMan b m) : readL b = (⟨[], []⟩, 3) := by
  unfold readL; rw [dif_neg h]
theorem readL_cases (b : List UInt8) : (∃ m, isMan b m ∧ readL b = (m, 0)) ∨ (¬ ∃ m, isMan b m) ∧ readL b = (⟨[], []⟩, 3) := by
  by_cases h : ∃ m, isMan b m
  · obtain ⟨m, hm⟩ := h; exact .inl ⟨m, hm, readL_man hm⟩
  · exact .inr ⟨h, readL_none h⟩
end Go.Wk.Lf
/- cellarerkeep: bytes, ids, manifests, files compared, plainly. -/
namespace Go.Wk.Lf
open Go.Shelf Go.Sort Go.Proofs
set_option linter.unusedVariables false
set_option linter.unusedSimpArgs false

/-- two rows compared, place by place -/
theorem loop_same {α A : Type} [DecidableEq α] {F : (Int → Option A) → Int → Option A} (a b : List α) (hl : a.length = b.length) (hn : a.length < 4611686018427387904) (K B : Option A)
    (hs : ∀ rec i (h : i < a.length) (h' : i < b.length), F rec (i : Int) = if a[i] = b[i] then rec ((i + 1 : Nat) : Int) else B) (he : ∀ rec, F rec (a.length : Int) = K) : loop F 0 = if a = b then K else B := by
  rw [loop_all (x0 := (0 : Int)) (fun i => (i : Int)) a.length (fun i => decide (a[i]? = b[i]?)) K B rfl hn ?_ he]
  · have hiff : (∀ i, i < a.length → decide (a[i]? = b[i]?) = true) ↔ a = b := by
      constructor
      · intro h
        apply List.ext_getElem? 
        intro i
        by_cases hi : i < a.length
        · simpa using h i hi
        · rw [List.getElem?_eq_none (by omega), List.getElem?_eq_none (by omega)]
      · rintro rfl i _; simp
    by_cases h : a = b
    · rw [if_pos (hiff.2 h), if_pos h]
    · rw [if_neg fun h2 => h (hiff.1 h2), if_neg h]
  · intro rec i hi
    have hi' : i < b.length := by omega
    rw [hs rec i hi hi']
    by_cases h : a[i] = b[i]
    · rw [if_pos h, if_pos (by simp [hi, hi', h])]
    · rw [if_neg h, if_neg (by simp [hi, hi', h])]
theorem len_ne {α β : Type} (a : List α) (b : List β) : decide ((a.length : Int) ≠ (b.length : Int)) = !decide (a.length = b.length) := by
  by_cases h : a.length = b.length
  · simp [h]
  · have : (a.length : Int) ≠ (b.length : Int) := by omega
    simp [h, this]
theorem kbytes_eq (a b : List UInt8) (ha : a.length < 4611686018427387904) : cellarerkeep_Bytes a b = some (decide (a = b)) := by
  unfold cellarerkeep_Bytes
  rw [len_ne]
  by_cases hl : a.length = b.length
  · rw [if_neg (by simp [hl]), loop_same a b hl ha (some true) (some false) ?_ ?_]
    · by_cases h : a = b <;> simp [h]
    · intro rec i hi hi'
      simp only [cellarerkeep_Bytes.l2]
      rw [if_t (lt_t hi), ix_lt hi, bd_mk, ix_lt hi', bd_mk, wr_succ (by omega)]
      by_cases h : a[i] = b[i]
      · rw [if_neg (by simp [h]), if_pos h]
      · rw [if_pos (by simp only [ne_eq, decide_eq_true_eq]; intro e; exact h (UInt8.toNat.inj (by omega))), if_neg h]
    · intro rec
      simp only [cellarerkeep_Bytes.l2, cellarerkeep_Bytes.k1]
      rw [if_f (lt_f (Nat.lt_irrefl _))]
  · rw [if_pos (by simp [hl]), decide_eq_false fun e => hl (by rw [e])]
end Go.Wk.Lf
/- cellarerkeep: ids and manifests compared, plainly. -/
namespace Go.Wk.Lf
open Go.Shelf Go.Sort Go.Proofs
set_option linter.unusedVariables false
set_option linter.unusedSimpArgs false
theorem kids_eq (a b : List (List UInt8)) (ha : a.length < 4611686018427387904) : cellarerkeep_Ids a b = some (decide (a = b)) := by
  unfold cellarerkeep_Ids
  rw [len_ne]
  by_cases hl : a.length = b.length
  · rw [if_neg (by simp [hl]), loop_same a b hl ha (some true) (some false) ?_ ?_]
    · by_cases h : a = b <;> simp [h]
    · intro rec i hi hi'
      simp only [cellarerkeep_Ids.l2]
      rw [if_t (lt_t hi), ix_lt hi, bd_mk, ix_lt hi', bd_mk, wr_succ (by omega)]
      by_cases h : a[i] = b[i] <;> simp [h]
    · intro rec
      simp only [cellarerkeep_Ids.l2, cellarerkeep_Ids.k1]
      rw [if_f (lt_f (Nat.lt_irrefl _))]
  · rw [if_pos (by simp [hl]), decide_eq_false fun e => hl (by rw [e])]
theorem kman_eq (a b : Manifest) (ha : a.parts.length < 4611686018427387904) (hi : ∀ p ∈ a.parts, p.ids.length < 4611686018427387904) : cellarerkeep_Manifest a b = some (decide (a = b)) := by
  unfold cellarerkeep_Manifest
  rw [len_ne]
  obtain ⟨an, ap⟩ := a
  obtain ⟨bn, bp⟩ := b
  simp only at ha hi ⊢
  by_cases hl : an = bn ∧ ap.length = bp.length
  · obtain ⟨hn, hl⟩ := hl
    rw [if_neg (by simp [hl, hn]), loop_same ap bp hl ha (some true) (some false) ?_ ?_]
    · by_cases h : ap = bp <;> simp [h, hn]
    · intro rec i hi' hi''
      simp only [cellarerkeep_Manifest.l2]
      have hx := hi _ (List.getElem_mem hi')
      rw [if_t (lt_t hi'), ix_lt hi', bd_mk, ix_lt hi'', bd_mk, wr_succ (by omega)]
      generalize ap[i] = p at hx ⊢
      generalize bp[i] = q
      obtain ⟨p1, p2, p3⟩ := p
      obtain ⟨q1, q2, q3⟩ := q
      simp only at hx ⊢
      by_cases h : p1 = q1 ∧ p2 = q2
      · obtain ⟨rfl, rfl⟩ := h
        rw [only_t (by simp), kids_eq _ _ hx, bd_mk]
        by_cases h3 : p3 = q3 <;> simp [h3]
      · have hc : ((!(p1 == q1)) || decide (p2 ≠ q2)) = true := by
          by_cases h1 : p1 = q1
          · have h2 : p2 ≠ q2 := fun e => h ⟨h1, e⟩
            simp [h2]
          · simp [h1]
        rw [hc, only_f (by simp), bd_mk, if_pos (by simp), if_neg (by simp; intro e1 e2; exact absurd ⟨e1, e2⟩ h)]
    · intro rec
      simp only [cellarerkeep_Manifest.l2, cellarerkeep_Manifest.k1]
      rw [if_f (lt_f (Nat.lt_irrefl _))]
  · have hc : ((!(an == bn)) || !decide (ap.length = bp.length)) = true := by
      by_cases h1 : an = bn
      · have h2 : ap.length ≠ bp.length := fun e => hl ⟨h1, e⟩
        simp [h2]
      · simp [h1]
    rw [if_pos hc, decide_eq_false]
    intro e
    injection e with e1 e2
    exact hl ⟨e1, by rw [e2]⟩
end Go.Wk.Lf
/- What cdc.Cut and manifest.Build tell, plainly. -/
namespace Go.Wk.Lf
open Go.Shelf Go.Sort Go.Proofs
set_option linter.unusedVariables false
set_option linter.unusedSimpArgs false

/-- the register -/
def regStep (r : UInt32) (c : UInt8) : UInt32 := (r <<< UInt32.ofNat 1) + ((c.toUInt32 + (1 : UInt32)) * (2654435761 : UInt32))
def regHigh (r : UInt32) : Bool := decide (((r >>> UInt32.ofNat 28).toNat : Int) = 0)
def nextGo : UInt32 → Nat → List UInt8 → Nat
  | _, n, [] => n
  | r, n, c :: t => if (decide (64 ≤ n + 1) || (decide (8 ≤ n + 1) && regHigh (regStep r c))) = true then n + 1 else nextGo (regStep r c) (n + 1) t
def nextL (b : List UInt8) : Nat := nextGo 0 0 b
theorem nextGo_le : ∀ (t : List UInt8) (r : UInt32) (n : Nat), n ≤ nextGo r n t ∧ nextGo r n t ≤ n + t.length ∧ (t ≠ [] → n + 1 ≤ nextGo r n t) ∧ (n ≤ 64 → n < 64 ∨ t = [] → nextGo r n t ≤ 64) ∧ (nextGo r n t < n + t.length → 8 ≤ nextGo r n t)
  | [], r, n => by simp [nextGo]
  | c :: t, r, n => by
    obtain ⟨h1, h2, h3, h4, h5⟩ := nextGo_le t (regStep r c) (n + 1)
    simp only [nextGo]
    split
    · rename_i hc
      refine ⟨by omega, by simp only [List.length_cons]; omega, fun _ => Nat.le_refl _, fun _ h => ?_, fun _ => ?_⟩
      · rcases h with h | h
        · omega
        · cases h
      · simp only [Bool.or_eq_true, Bool.and_eq_true, decide_eq_true_eq] at hc; omega
    · rename_i hc
      refine ⟨by omega, by simp; omega, fun _ => by omega, fun hn h => ?_, fun h => h5 (by simp at h; omega)⟩
      have h6 : n + 1 < 64 := by
        simp only [Bool.or_eq_true, decide_eq_true_eq, not_or] at hc; omega
      exact h4 (by omega) (.inl h6)
theorem nextL_pos {b : List UInt8} (h : b ≠ []) : 1 ≤ nextL b := (nextGo_le b 0 0).2.2.1 h
theorem nextL_le (b : List UInt8) : nextL b ≤ b.length := by have := (nextGo_le b 0 0).2.1; rwa [Nat.zero_add] at this
theorem nextL_64 (b : List UInt8) : nextL b ≤ 64 := (nextGo_le b 0 0).2.2.2.1 (by decide) (.inl (by decide))
theorem nextL_8 {b : List UInt8} (h : nextL b < b.length) : 8 ≤ nextL b := (nextGo_le b 0 0).2.2.2.2 (by rw [Nat.zero_add]; exact h)
theorem next_eq (b : List UInt8) (hb : b.length < 4611686018427387904) : cdc_Next b = some (nextL b : Int) := by
  unfold cdc_Next
  refine loop_eq (S := UInt32 × Int) (σ := UInt32) (fun i r => (r, (i : Int))) b.length (fun i r => nextGo r i (b.drop i) = nextL b) _ (i0 := 0) rfl (Nat.zero_le _) rfl hb ?_ ?_
  · intro rec i r hi hI hrec
    simp only [cdc_Next.l2]
    rw [List.drop_eq_getElem_cons hi] at hI
    simp only [nextGo] at hI
    rw [if_t (lt_t hi), ix_lt hi, bd_mk, wr_succ (by omega)]
    have e1 : decide (64 ≤ ((i + 1 : Nat) : Int)) = decide (64 ≤ i + 1) := by rw [decide_eq_decide]; omega
    have e2 : decide (8 ≤ ((i + 1 : Nat) : Int)) = decide (8 ≤ i + 1) := by rw [decide_eq_decide]; omega
    rw [e1, e2]
    show (if (decide (64 ≤ i + 1) || (decide (8 ≤ i + 1) && regHigh (regStep r b[i]))) = true then _ else rec (regStep r b[i], ((i + 1 : Nat) : Int))) = _
    split
    · rename_i hc
      rw [if_pos hc] at hI
      rw [← hI]
    · rename_i hc
      rw [if_neg hc] at hI
      exact hrec _ hI
  · intro rec r hI
    simp only [cdc_Next.l2, cdc_Next.k1]
    rw [if_f (lt_f (Nat.lt_irrefl _))]
    rw [List.drop_length] at hI
    simp only [nextGo] at hI
    rw [← hI]
/-- the chunks -/
def cutL (b : List UInt8) : List (List UInt8) := if h : b = [] then [] else b.take (nextL b) :: cutL (b.drop (nextL b))
termination_by b.length
decreasing_by
  have h1 := nextL_pos h
  have : 0 < b.length := List.length_pos_iff.2 h
  simp only [List.length_drop]; omega
theorem cutL_nil : cutL [] = [] := by unfold cutL; simp
theorem cutL_cons {b : List UInt8} (h : b ≠ []) : cutL b = b.take (nextL b) :: cutL (b.drop (nextL b)) := by rw [cutL, dif_neg h]
theorem len_ind {p : List UInt8 → Prop} (h : ∀ b, (∀ c, c.length < b.length → p c) → p b) (b : List UInt8) : p b := by
  suffices ∀ n, ∀ b : List UInt8, b.length < n → p b from this _ b (Nat.lt_succ_self _)
  intro n
  induction n with
  | zero => intro b hb; omega
  | succ n ih => intro b hb; exact h b fun c hc => ih c (by omega)
theorem cutL_ind {p : List UInt8 → Prop} (h0 : p []) (h1 : ∀ b, b ≠ [] → p (b.drop (nextL b)) → p b) (b : List UInt8) : p b := by
  refine len_ind (fun b ih => ?_) b
  by_cases h : b = []
  · subst h; exact h0
  · refine h1 b h (ih _ ?_)
    have h2 := nextL_pos h
    have : 0 < b.length := List.length_pos_iff.2 h
    simp only [List.length_drop]; omega
theorem cutL_flat (b : List UInt8) : (cutL b).flatten = b := by
  refine cutL_ind (p := fun b => (cutL b).flatten = b) (by rw [cutL_nil]; rfl) (fun b h ih => ?_) b
  rw [cutL_cons h, List.flatten_cons, ih, List.take_append_drop]
theorem cutL_mem (b : List UInt8) : ∀ x ∈ cutL b, 1 ≤ x.length ∧ x.length ≤ 64 := by
  refine cutL_ind (p := fun b => ∀ x ∈ cutL b, 1 ≤ x.length ∧ x.length ≤ 64) (by rw [cutL_nil]; intro x hx; simp at hx) (fun b h ih => ?_) b
  rw [cutL_cons h]
  intro x hx
  rcases List.mem_cons.1 hx with rfl | hx
  · have h1 := nextL_pos h
    have h2 := nextL_64 b
    have h3 := nextL_le b
    simp only [List.length_take]; omega
  · exact ih x hx
theorem cutL_len (b : List UInt8) : 8 * (cutL b).length ≤ b.length + 7 := by
  refine cutL_ind (p := fun b => 8 * (cutL b).length ≤ b.length + 7) (by rw [cutL_nil]; simp) (fun b h ih => ?_) b
  rw [cutL_cons h]
  have h1 := nextL_pos h
  have h3 := nextL_le b
  simp only [List.length_cons, List.length_drop] at ih ⊢
  rcases Nat.lt_or_ge (nextL b) b.length with h4 | h4
  · have := nextL_8 h4; omega
  · have : b.drop (nextL b) = [] := List.drop_eq_nil_of_le h4
    rw [this, cutL_nil]
    have : 0 < b.length := List.length_pos_iff.2 h
    simp only [List.length_nil]; omega
theorem cutL_empty (b : List UInt8) : cutL b = [] ↔ b = [] := by
  constructor
  · intro h
    have := cutL_flat b
    rw [h] at this; exact this.symm
  · rintro rfl; exact cutL_nil
theorem ccut_eq (b : List UInt8) (hb : b.length ≤ 32768) : cdc_Cut b = some (cutL b, 0) := by
  unfold cdc_Cut
  rw [if_neg (by simp; omega)]
  refine loop_const (S := List UInt8 × List (List UInt8)) (fun s => s.1.length ≤ 32768 ∧ s.2.length + s.1.length ≤ 32768 ∧ s.2 ++ cutL s.1 = cutL b) (fun s => s.1.length) ⟨hb, by simpa using hb, rfl⟩ (by show b.length < _; omega) ?_
  rintro rec ⟨q, acc⟩ ⟨h1, h2, h3⟩ hrec
  simp only at h1 h2 h3
  simp only [cdc_Cut.l2, cdc_Cut.k1]
  by_cases hq : q = []
  · subst hq
    rw [if_neg (by simp)]
    rw [cutL_nil, List.append_nil] at h3
    rw [h3]
  · have h4 := nextL_pos hq
    have h5 := nextL_le q
    have h6 : 0 < q.length := List.length_pos_iff.2 hq
    rw [if_pos (by simp; omega), next_eq q (by omega), bd_mk, cut_ok (by omega) (by omega) (by omega), bd_mk, Int.toNat_natCast, Int.toNat_zero, List.drop_zero, cloneB_eq _ (by simp; omega), bd_mk, app_ok (by simp; omega), bd_mk, cut_ok (by omega) (by omega) (by omega), bd_mk, Int.toNat_natCast, Int.toNat_natCast, List.take_length]
    refine hrec _ ⟨by simp; omega, by simp; omega, ?_⟩ (by simp; omega)
    rw [← h3, cutL_cons hq]; simp
/-- chunks, each once by its sum -/
abbrev sha (x : List UInt8) : List UInt8 := Sha.sha256 x
def addC (acc : List (List UInt8)) (x : List UInt8) : List (List UInt8) := if sha x ∈ acc.map sha then acc else acc ++ [x]
def pieces (l : List File) : List (List UInt8) := l.flatMap fun f => cutL f.data
def chunksL (l : List File) : List (List UInt8) := (pieces l).foldl addC []
def partL (f : File) : Part := Part.mk f.path (f.data.length : Int) ((cutL f.data).map sha)
theorem addC_nodup {acc : List (List UInt8)} (h : (acc.map sha).Nodup) (x : List UInt8) : ((addC acc x).map sha).Nodup := by
  unfold addC
  split
  · exact h
  · rename_i hx
    rw [List.map_append, List.nodup_append]
    refine ⟨h, by simp, fun a ha b hb e => ?_⟩
    simp at hb
    subst e; subst hb; exact hx ha
theorem addC_ids (acc : List (List UInt8)) (x y : List UInt8) : y ∈ (addC acc x).map sha ↔ y ∈ acc.map sha ∨ y = sha x := by
  unfold addC
  split
  · rename_i hx
    exact ⟨.inl, fun h => h.elim id fun e => e ▸ hx⟩
  · simp [or_comm]
theorem foldC_ids : ∀ (l acc : List (List UInt8)) (y : List UInt8), y ∈ (l.foldl addC acc).map sha ↔ y ∈ acc.map sha ∨ y ∈ l.map sha
  | [], acc, y => by simp
  | x :: l, acc, y => by rw [List.foldl_cons, foldC_ids l, addC_ids]; simp [or_assoc, eq_comm]
theorem foldC_nodup : ∀ (l acc : List (List UInt8)), (acc.map sha).Nodup → ((l.foldl addC acc).map sha).Nodup
  | [], acc, h => h
  | x :: l, acc, h => foldC_nodup l _ (addC_nodup h x)
theorem foldC_sub : ∀ (l acc : List (List UInt8)) (y : List UInt8), y ∈ l.foldl addC acc → y ∈ acc ∨ y ∈ l
  | [], acc, y, h => .inl h
  | x :: l, acc, y, h => by
    rcases foldC_sub l _ y h with h | h
    · unfold addC at h
      split at h
      · exact .inl h
      · rcases List.mem_append.1 h with h | h
        · exact .inl h
        · simp at h; subst h; exact .inr (by simp)
    · exact .inr (by simp [h])
theorem foldC_len : ∀ (l acc : List (List UInt8)), (l.foldl addC acc).length ≤ acc.length + l.length
  | [], acc => by simp
  | x :: l, acc => by
    have h1 := foldC_len l (addC acc x)
    have h2 : (addC acc x).length ≤ acc.length + 1 := by unfold addC; split <;> simp
    simp only [List.foldl_cons, List.length_cons]; omega
theorem chunks_nodup (l : List File) : ((chunksL l).map sha).Nodup := foldC_nodup _ _ (by simp)
theorem chunks_mem {l : List File} {x : List UInt8} (h : x ∈ chunksL l) : x ∈ pieces l := (foldC_sub _ _ x h).resolve_left (by simp)
theorem chunks_ids (l : List File) (y : List UInt8) : y ∈ (chunksL l).map sha ↔ y ∈ (pieces l).map sha := by
  unfold chunksL; rw [foldC_ids]; simp
theorem rows_uniq {a b : List (List UInt8)} (hp : a.Perm b) (ha : Rise ordRow a) (hb : Rise ordRow b) (hn : (b.map sha).Nodup) : a = b := by
  refine List.Perm.eq_of_pairwise (le := fun x y => ¬ ordRow y x < 0) (fun x y hx hy h3 h4 => ?_) ha hb hp
  have hlt : ∀ p q, ordRow p q < 0 ↔ sLt (sha p) (sha q) = true := fun p q => by
    have := cmpT_lt (sha p) (sha q)
    unfold ltOf at this
    rw [← this]; simp [ordRow]
  rw [hlt, Bool.not_eq_true] at h3 h4
  have he : sha x = sha y := sLt_tri h4 h3
  have hx' : x ∈ b := hp.mem_iff.1 hx
  obtain ⟨i, hi, rfl⟩ := List.getElem_of_mem hx'
  obtain ⟨j, hj, rfl⟩ := List.getElem_of_mem hy
  rw [List.nodup_iff_pairwise_ne, List.pairwise_map, List.pairwise_iff_getElem] at hn
  rcases Nat.lt_trichotomy i j with h | h | h
  · exact absurd he (hn i j hi hj h)
  · subst h; rfl
  · exact absurd he.symm (hn j i hj hi h)
theorem pieces_len {l : List File} (hl : l.length ≤ 6) (hd : ∀ f ∈ l, f.data.length ≤ 200) : (pieces l).length ≤ 150 := by
  have : ∀ l : List File, (∀ f ∈ l, f.data.length ≤ 200) → (pieces l).length ≤ 25 * l.length := by
    intro l
    induction l with
    | nil => intro _; simp [pieces]
    | cons f l ih =>
      intro h
      have h1 := ih fun g hg => h g (by simp [hg])
      have h2 := h f (by simp)
      have h3 := cutL_len f.data
      simp only [pieces, List.flatMap_cons, List.length_append, List.length_cons] at h1 ⊢
      omega
  have := this l hd
  omega
def buildL (name : List UInt8) (l : List File) : Manifest × List (List UInt8) × Int :=
  if nameB name = false then (⟨[], []⟩, [], 1) else if chkL l ≠ 0 then (⟨[], []⟩, [], chkL l) else (⟨name, l.map partL⟩, isort ordRow (chunksL l), 0)
theorem shaSum_one (x : List UInt8) (h : x.length ≤ 1000000) : shaSum [x] = some (sha x) := by
  unfold shaSum
  rw [if_pos ⟨by simp, by simp; omega⟩]; simp [sha]
theorem chkL_ok {l : List File} (h : chkL l = 0) : longB l = false ∧ badB l = false ∧ risesB l := by
  unfold chkL at h
  cases hL : longB l with
  | true => rw [hL] at h; simp at h
  | false =>
    rw [hL] at h
    simp only [Bool.false_eq_true, if_false] at h
    split at h
    · rename_i hc; exact ⟨rfl, hc⟩
    · cases h
/-- the map of those that are there -/
def haveOf (acc : List (List UInt8)) : List UInt8 → Option Bool := fun y => if y ∈ acc.map sha then some true else none
theorem haveOf_add (acc : List (List UInt8)) (x : List UInt8) (h : sha x ∉ acc.map sha) : mput (haveOf acc) (sha x) true = haveOf (acc ++ [x]) := by
  funext y
  simp only [mput, haveOf, List.map_append, List.mem_append, List.map_cons, List.map_nil, List.mem_singleton]
  by_cases hy : y = sha x
  · simp [hy]
  · simp [hy]
theorem build_eq (name : List UInt8) (l : List File) : manifest_Build name l = some (buildL name l) := by
  unfold manifest_Build buildL
  rw [name_eq, bd_mk]
  cases hN : nameB name with
  | false => rfl
  | true =>
    rw [if_neg (by simp), if_neg (show ¬ (true = false) from by simp), check_eq, bd_mk]
    by_cases hC : chkL l = 0
    · rw [if_neg (by simp [hC]), if_neg (show ¬ chkL l ≠ 0 from by simp [hC])]
      obtain ⟨hL, _, _⟩ := chkL_ok hC
      obtain ⟨hl, hd⟩ := long_f hL
      have hpl := pieces_len hl hd
      refine loop_eq (S := List (List UInt8) × Int × (List UInt8 → Option Bool) × List Part) (σ := List (List UInt8)) (fun i acc => (acc, (i : Int), haveOf acc, (l.take i).map partL)) l.length (fun i acc => acc = (pieces (l.take i)).foldl addC []) _ (i0 := 0) (s0 := []) rfl (Nat.zero_le _) rfl (by omega) ?_ ?_
      · intro rec i acc hi hI hrec
        simp only [manifest_Build.l2]
        have hdi := hd _ (List.getElem_mem hi)
        rw [if_t (lt_t hi), ix_lt hi, bd_mk, ccut_eq _ (by omega), bd_mk, if_neg (by simp)]
        have hct := cutL_len l[i].data
        have hpt : (pieces (l.take i)).length ≤ 150 := pieces_len (by simp; omega) fun f hf => hd f (List.mem_of_mem_take hf)
        have hal : acc.length ≤ 150 := by have := foldC_len (pieces (l.take i)) []; rw [← hI] at this; simp at this; omega
        refine loop_eq (S := List (List UInt8) × Int × List (List UInt8) × (List UInt8 → Option Bool)) (σ := List (List UInt8)) (fun j a => (a, (j : Int), ((cutL l[i].data).take j).map sha, haveOf a)) (cutL l[i].data).length (fun j a => a = ((cutL l[i].data).take j).foldl addC acc) _ (i0 := 0) (s0 := acc) rfl (Nat.zero_le _) rfl (by omega) ?_ ?_
        · intro rec2 j a hj hJ hrec2
          simp only [manifest_Build.l5]
          have hx := cutL_mem _ _ (List.getElem_mem hj)
          have ha2 : a.length ≤ 300 := by
            have h7 := foldC_len ((cutL l[i].data).take j) acc
            rw [← hJ, List.length_take] at h7
            have h8 := Nat.min_le_right j (cutL l[i].data).length
            omega
          rw [if_t (lt_t hj), ix_lt hj, bd_mk, shaSum_one _ (by omega), bd_mk, app_ok (by simp; omega), bd_mk]
          have hnext := hrec2 (addC a (cutL l[i].data)[j]) (by rw [take_snoc' hj, List.foldl_append, ← hJ]; rfl)
          rw [take_snoc' hj, List.map_append] at hnext
          by_cases hin : sha (cutL l[i].data)[j] ∈ a.map sha
          · have h1 : (!((haveOf a) (sha (cutL l[i].data)[j])).getD false) = false := by simp only [haveOf, if_pos hin]; rfl
            rw [if_f h1]
            simp only [manifest_Build.k6]
            rw [wr_succ (by omega)]
            simpa [addC, hin] using hnext
          · have h1 : (!((haveOf a) (sha (cutL l[i].data)[j])).getD false) = true := by simp only [haveOf, if_neg hin]; rfl
            rw [if_t h1, app_ok (by simp; omega), bd_mk]
            simp only [manifest_Build.k6]
            rw [wr_succ (by omega), haveOf_add _ _ hin]
            simpa [addC, hin] using hnext
        · intro rec2 a hJ
          simp only [manifest_Build.l5, manifest_Build.k4, manifest_Build.k3]
          rw [if_f (lt_f (Nat.lt_irrefl _)), List.take_length]
          rw [List.take_length] at hJ
          rw [app_ok (by simp; omega), bd_mk, wr_succ (by omega)]
          have := hrec a (by rw [take_snoc' hi]; simp only [pieces, List.flatMap_append, List.flatMap_cons, List.flatMap_nil, List.append_nil, List.foldl_append]; rw [hJ, hI]; rfl)
          rw [take_snoc' hi, List.map_append] at this
          exact this
      · intro rec acc hI
        simp only [manifest_Build.l2, manifest_Build.k1]
        rw [if_f (lt_f (Nat.lt_irrefl _)), List.take_length]
        rw [List.take_length] at hI
        have hch : acc = chunksL l := hI
        have hlim : limRows acc = some () := by
          unfold limRows
          rw [if_pos]
          intro x hx
          rw [hch] at hx
          have := chunks_mem hx
          simp only [pieces, List.mem_flatMap] at this
          obtain ⟨f, _, h2⟩ := this
          have := cutL_mem _ _ h2
          omega
        have hal : acc.length ≤ 150 := by have := foldC_len (pieces l) []; rw [← hI] at this; simp at this; omega
        rw [hlim, bd_mk]
        refine bdS_eq ordRow_swo (by omega) fun l' hp hr => ?_
        rw [rows_uniq (hp.trans (isort_perm ordRow acc).symm) hr (isort_rise ordRow_swo acc) (((isort_perm ordRow acc).map sha).nodup_iff.2 (by rw [hch]; exact chunks_nodup l)), hch]
    · rw [if_pos (by simpa using hC), if_pos hC]
theorem wakes17 : cellarerlaw17_wakes = some true := by
  simp only [cellarerlaw17_wakes, build_eq, bd_mk]
  have h1 : buildL ([97] : List UInt8) [] = (⟨[97], []⟩, [], 0) := by
    unfold buildL
    rw [if_neg (by decide +kernel), if_neg (by decide +kernel)]; rfl
  rw [h1]
  simp only
  rw [mbytes_eq _ (by intro p hp; simp at hp), bd_mk]
  have h2 : manB ⟨([97] : List UInt8), []⟩ := by decide +kernel
  rw [if_pos h2]
  decide +kernel
end Go.Wk.Lf
/- What the page's Manifest tells, plainly. -/
namespace Go.Wk.Lf
open Go.Shelf Go.Sort Go.Proofs
set_option linter.unusedVariables false
set_option linter.unusedSimpArgs false
theorem rname_eq (s : List UInt8) (hl : s.length < 4611686018427387904) : cellarerref01_Name s = some (nameB s) := by
  unfold cellarerref01_Name nameB
  have e : (decide (1 ≤ (s.length : Int)) && decide ((s.length : Int) ≤ 20)) = (decide (1 ≤ s.length) && decide (s.length ≤ 20)) := by
    congr 1 <;> rw [decide_eq_decide] <;> omega
  rw [loop_all (x0 := (0 : Int)) (fun i => (i : Int)) s.length (fun i => seen (s.getD i 0)) (some (decide (1 ≤ (s.length : Int)) && decide ((s.length : Int) ≤ 20))) (some false) rfl hl ?_ ?_]
  · rw [e]
    by_cases h : s.all seen = true
    · rw [h, if_pos ((all_iff s seen _ fun i hi => by simp [hi]).2 h), Bool.and_true]
    · rw [Bool.not_eq_true] at h
      rw [h, if_neg fun h3 => by rw [(all_iff s seen _ fun i hi => by simp [hi]).1 h3] at h; cases h]
      simp
  · intro rec i hi
    simp only [cellarerref01_Name.l2]
    rw [if_t (lt_t hi), ix_lt hi, bd_mk]
    simp only [hi, List.getD_eq_getElem?_getD, List.getElem?_eq_getElem, Option.getD_some, seen]
    by_cases h33 : (s[i].toNat : Int) < 33
    · rw [only_f (by simp; omega), bd_mk, if_pos (by simp [h33])]
      rw [if_neg (by simp only [Bool.and_eq_true, decide_eq_true_eq]; omega)]
    · rw [only_t (by simp; omega), bd_mk]
      by_cases h126 : (126 : Int) < (s[i].toNat : Int)
      · rw [if_pos (by simp [h126]), if_neg (by simp only [Bool.and_eq_true, decide_eq_true_eq]; omega)]
      · rw [if_neg (by simp only [Bool.or_eq_true, decide_eq_true_eq]; omega), if_pos (by simp only [Bool.and_eq_true, decide_eq_true_eq]; omega), wr_succ (by omega)]
  · intro rec
    simp only [cellarerref01_Name.l2, cellarerref01_Name.k1]
    rw [if_f (lt_f (Nat.lt_irrefl _))]
theorem rman_eq (m : Manifest) (hn : m.name.length < 4611686018427387904) (hp : ∀ p ∈ m.parts, p.path.length < 4611686018427387904) : cellarerref14_Manifest m = some (decide (manB m)) := by
  unfold cellarerref14_Manifest
  rw [rname_eq _ hn, bd_mk]
  by_cases h0 : nameB m.name = true ∧ m.parts.length ≤ 6
  · obtain ⟨hn, h6⟩ := h0
    rw [if_neg (by simp only [hn]; simp; omega)]
    rw [loop_all (x0 := (0 : Int)) (fun i => (i : Int)) m.parts.length (fun i => partB (m.parts.getD i default) && (!decide (0 < i) || sLt (m.parts.getD (i - 1) default).path (m.parts.getD i default).path)) (some true) (some false) rfl (by omega) ?_ ?_]
    · have hiff := adj_iff m.parts partB
      by_cases h : m.parts.all partB = true ∧ risesP m.parts
      · rw [if_pos (hiff.2 h), decide_eq_true (show manB m from ⟨hn, h6, h.1, h.2⟩)]
      · rw [if_neg fun h2 => h (hiff.1 h2), decide_eq_false fun h2 : manB m => h ⟨h2.2.2.1, h2.2.2.2⟩]
    · intro rec i hi
      simp only [cellarerref14_Manifest.l2]
      rw [if_t (lt_t hi), ix_lt hi, bd_mk, rname_eq _ (hp _ (List.getElem_mem hi)), bd_mk, test_eq m.parts i hi (by omega)]
      simp only [List.getD_eq_getElem?_getD, List.getElem?_eq_getElem hi, Option.getD_some]
      generalize hQ : m.parts[i] = p
      have e1 : decide (25 < (p.ids.length : Int)) = !decide (p.ids.length ≤ 25) := by
        rw [← decide_not, decide_eq_decide]; omega
      have e2 : decide ((p.ids.length : Int) = 0) = decide (p.ids.length = 0) := by rw [decide_eq_decide]; omega
      have e3 : decide (p.size < 0) = !decide (0 ≤ p.size) := by rw [← decide_not, decide_eq_decide]; omega
      have e4 : decide (200 < p.size) = !decide (p.size ≤ 200) := by rw [← decide_not, decide_eq_decide]; omega
      rw [e1, e2, e3, e4]
      unfold partB
      cases hN : nameB p.path with
      | false => simp
      | true =>
        by_cases h0 : 0 < i
        · have hi' : i - 1 < m.parts.length := by omega
          have h0' : (0 : Int) < (i : Int) := by omega
          simp only [h0, h0', and_self, if_true, List.getElem?_eq_getElem hi', Option.getD_some, decide_true, Bool.not_true, Bool.false_or, Bool.true_and, wr_succ (show i < 4611686018427387904 by omega)]
          have hg := gtr_eq p.path m.parts[i - 1].path
          rw [← hg]
          generalize (sLt p.path m.parts[i - 1].path || p.path == m.parts[i - 1].path) = c
          generalize decide (0 ≤ p.size) = c1
          generalize decide (p.size ≤ 200) = c2
          generalize decide (p.ids.length ≤ 25) = c3
          generalize decide (p.ids.length = 0) = c4
          generalize decide (p.size = 0) = c5
          cases c <;> cases c1 <;> cases c2 <;> cases c3 <;> cases c4 <;> cases c5 <;> rfl
        · have h0' : ¬ (0 : Int) < (i : Int) := by omega
          simp only [h0, h0', and_false, if_false, decide_false, Bool.false_and, Bool.not_true, Bool.or_false, Bool.false_or, Bool.not_false, Bool.true_or, Bool.and_true, Bool.true_and, wr_succ (show i < 4611686018427387904 by omega)]
          generalize decide (0 ≤ p.size) = c1
          generalize decide (p.size ≤ 200) = c2
          generalize decide (p.ids.length ≤ 25) = c3
          generalize decide (p.ids.length = 0) = c4
          generalize decide (p.size = 0) = c5
          cases c1 <;> cases c2 <;> cases c3 <;> cases c4 <;> cases c5 <;> rfl
    · intro rec
      simp only [cellarerref14_Manifest.l2, cellarerref14_Manifest.k1]
      rw [if_f (lt_f (Nat.lt_irrefl _))]
  · rw [if_pos (by
      simp only [Bool.or_eq_true, decide_eq_true_eq, Bool.not_eq_true']
      cases hn : nameB m.name with
      | false => exact .inl rfl
      | true =>
        rcases Nat.lt_or_ge 6 m.parts.length with h6 | h6
        · right; omega
        · exact absurd ⟨hn, h6⟩ h0), decide_eq_false fun h : manB m => h0 ⟨h.1, h.2.1⟩]
end Go.Wk.Lf
/- What the page's ReadManifest tells, plainly. -/
namespace Go.Wk.Lf
open Go.Shelf Go.Sort Go.Proofs
set_option linter.unusedVariables false
set_option linter.unusedSimpArgs false

abbrev Cu (b : List UInt8) := {s : Nat × Bool // s.1 ≤ b.length}
def takeC (b : List UInt8) (s : Cu b) (n : Nat) : List UInt8 × Cu b :=
  if h : (s.val.2 || decide (b.length < s.val.1 + n)) = true then (List.replicate n 0, ⟨(s.val.1, true), s.property⟩) else ((b.drop s.val.1).take n, ⟨(s.val.1 + n, s.val.2), by simp only [Bool.or_eq_true, decide_eq_true_eq, not_or] at h; simp only; omega⟩)
def tkC (b : List UInt8) : Tk (Cu b) where
  rest s := b.drop s.val.1
  bad s := s.val.2
  take := takeC b
  len s n := by
    unfold takeC; split
    · simp
    · rename_i h; simp only [Bool.or_eq_true, decide_eq_true_eq, not_or] at h; simp; omega
  sound s n h := by
    unfold takeC at h ⊢; split at h
    · cases h
    · rename_i hc; rw [dif_neg hc]; refine ⟨h, ?_⟩
      show b.drop s.val.1 = (b.drop s.val.1).take n ++ b.drop (s.val.1 + n)
      rw [← List.drop_drop, List.take_append_drop]
  full s x t hb hr := by
    have hr' : b.drop s.val.1 = x ++ t := hr
    have hb' : s.val.2 = false := hb
    have hl : x.length + t.length = b.length - s.val.1 := by rw [← List.length_append, ← hr', List.length_drop]
    have hs := s.property
    unfold takeC
    rw [dif_neg (by rw [hb']; simp; omega)]
    exact ⟨by rw [hr']; simp, by show b.drop (s.val.1 + x.length) = t; rw [← List.drop_drop, hr']; simp, hb'⟩
def stC {b : List UInt8} (s : Cu b) : Cellarerref14Cutter := ⟨b, (s.val.1 : Int), s.val.2⟩
theorem takeC_eq {b : List UInt8} (s : Cu b) (n : Nat) (hn : n ≤ 65536) (hb : b.length ≤ 1000000000) : cellarerref14_cutter_take_fz (stC s) (n : Int) = some ((takeC b s n).1, stC (takeC b s n).2) := by
  unfold cellarerref14_cutter_take_fz takeC stC
  have hs := s.property
  simp only
  rw [wr_id (x := (b.length : Int) - (s.val.1 : Int)) (by omega) (by omega)]
  have e : decide ((b.length : Int) - (s.val.1 : Int) < (n : Int)) = decide (b.length < s.val.1 + n) := by rw [decide_eq_decide]; omega
  rw [e]
  split
  · rw [rep_ok (by omega) (by omega), bd_mk, Int.toNat_natCast]
  · rename_i h
    simp only [Bool.or_eq_true, decide_eq_true_eq, not_or] at h
    rw [wr_id (x := (s.val.1 : Int) + (n : Int)) (by omega) (by omega), cut_ok (by omega) (by omega) (by omega), bd_mk]
    rw [show ((s.val.1 : Int) + (n : Int)).toNat = s.val.1 + n by omega, Int.toNat_natCast]
    congr 2
    rw [List.drop_take, show s.val.1 + n - s.val.1 = n by omega]
theorem rnum_eq (l : List UInt8) (hl : l.length ≤ 7) : cellarerref14_num l = some (beN l : Int) := by
  unfold cellarerref14_num
  refine num_loop (l := l) (K := fun n => some n) (fun n i => (n, i)) hl (fun rec i hi n => ?_) (fun rec n => ?_)
  · simp only [cellarerref14_num.l2]
    rw [if_t (lt_t hi), ix_lt hi, bd_mk]
  · simp only [cellarerref14_num.l2, cellarerref14_num.k1]
    rw [if_f (lt_f (Nat.lt_irrefl _))]
section
variable {b : List UInt8} (hb : b.length ≤ 1000000000)
include hb
theorem numC_eq (s : Cu b) (n : Nat) (h7 : n ≤ 7) {A : Type} (K : Int → Cellarerref14Cutter → Option A) :
    (bd (cellarerref14_cutter_take_fz (stC s) (n : Int)) fun a => bd (cellarerref14_num a.1) fun v => K v a.2) = K (((tkC b).num s n).1 : Int) (stC ((tkC b).num s n).2) := by
  rw [takeC_eq s n (by omega) hb, bd_mk]
  have hl : (takeC b s n).1.length = n := (tkC b).len s n
  simp only
  rw [rnum_eq _ (by omega), bd_mk]
  rfl
omit hb in
theorem num1C_le (s : Cu b) : ((tkC b).num s 1).1 < 256 := by
  obtain ⟨c, _, h⟩ := (tkC b).num1 s
  have := c.toNat_lt
  omega
theorem headC_eq (s : Cu b) {A : Type} (K : List UInt8 × Cellarerref14Cutter → Int → Int → Cellarerref14Cutter → Option A) :
    (bd (cellarerref14_cutter_take_fz (stC s) 1) fun r58 => bd (cellarerref14_num r58.1) fun r59 => bd (cellarerref14_cutter_take_fz r58.2 r59) fun r60 => bd (cellarerref14_cutter_take_fz r60.2 2) fun r61 => bd (cellarerref14_num r61.1) fun r62 => bd (cellarerref14_cutter_take_fz r61.2 1) fun r766 => bd (cellarerref14_num r766.1) fun r767 => K r60 r62 r767 r766.2) =
    K (((tkC b).text s).1, stC ((tkC b).text s).2) (((tkC b).head s).2.1 : Int) (((tkC b).head s).2.2.1 : Int) (stC ((tkC b).head s).2.2.2) := by
  have h0 := num1C_le s
  rw [show (1 : Int) = ((1 : Nat) : Int) from rfl, show (2 : Int) = ((2 : Nat) : Int) from rfl, numC_eq hb s 1 (by omega) (fun v c => bd (cellarerref14_cutter_take_fz c v) fun r60 => bd (cellarerref14_cutter_take_fz r60.2 _) fun r61 => bd (cellarerref14_num r61.1) fun r62 => bd (cellarerref14_cutter_take_fz r61.2 _) fun r766 => bd (cellarerref14_num r766.1) fun r767 => K r60 r62 r767 r766.2)]
  rw [takeC_eq _ _ (by omega) hb, bd_mk]
  show (bd (cellarerref14_cutter_take_fz (stC ((tkC b).text s).2) ((2 : Nat) : Int)) fun r61 => bd (cellarerref14_num r61.1) fun r62 => bd (cellarerref14_cutter_take_fz r61.2 ((1 : Nat) : Int)) fun r766 => bd (cellarerref14_num r766.1) fun r767 => K (((tkC b).text s).1, stC ((tkC b).text s).2) r62 r767 r766.2) = _
  rw [numC_eq hb ((tkC b).text s).2 2 (by omega) (fun v c => bd (cellarerref14_cutter_take_fz c ((1 : Nat) : Int)) fun r766 => bd (cellarerref14_num r766.1) fun r767 => K (((tkC b).text s).1, stC ((tkC b).text s).2) v r767 r766.2)]
  rw [numC_eq hb _ 1 (by omega) (fun v c => K (((tkC b).text s).1, stC ((tkC b).text s).2) _ v c)]
  rfl
end
theorem cpy32 (x : List UInt8) (h : x.length = 32) : cpy (List.replicate 32 (0 : UInt8)) x = x := by
  unfold cpy
  rw [List.length_replicate, List.take_of_length_le (by omega), List.drop_eq_nil_of_le (by simp; omega), List.append_nil]
theorem wf_path {ps : List Part} (h : ∀ p ∈ ps, wfP p) : ∀ p ∈ ps, p.path.length < 4611686018427387904 := fun p hp => by have := (h p hp).1; omega
theorem rread_eq (b : List UInt8) (hb : b.length ≤ 1000000000) : cellarerref14_ReadManifest b = some ((readL b).1, decide ((readL b).2 = 0)) := by
  unfold cellarerref14_ReadManifest
  let s0 : Cu b := ⟨(0, false), Nat.zero_le _⟩
  have h0 := num1C_le s0
  show (bd (cellarerref14_cutter_take_fz (stC s0) 1) _) = _
  rw [show (1 : Int) = ((1 : Nat) : Int) from rfl, numC_eq hb s0 1 (by omega) (fun v c => bd (cellarerref14_cutter_take_fz c v) fun r6 => bd (cellarerref14_cutter_take_fz r6.2 _) fun r12 => bd (cellarerref14_num r12.1) fun r13 => loop (cellarerref14_ReadManifest.l2 b r6 r13) (0, r12.2.b, r12.2.at_, r12.2.bad, []))]
  rw [takeC_eq _ _ (by omega) hb, bd_mk]
  show (bd (cellarerref14_cutter_take_fz (stC ((tkC b).text s0).2) _) fun r12 => bd (cellarerref14_num r12.1) fun r13 => loop (cellarerref14_ReadManifest.l2 b (((tkC b).text s0).1, stC ((tkC b).text s0).2) r13) (0, r12.2.b, r12.2.at_, r12.2.bad, [])) = _
  rw [numC_eq hb _ 1 (by omega) (fun v c => loop (cellarerref14_ReadManifest.l2 b (((tkC b).text s0).1, stC ((tkC b).text s0).2) v) (0, c.b, c.at_, c.bad, []))]
  have h4 := num1C_le ((tkC b).text s0).2
  generalize hR : (tkC b).num ((tkC b).text s0).2 1 = R at h4 ⊢
  generalize hT : (tkC b).text s0 = Tx at hR ⊢
  have hinit : RInv b Tx.1 R.1 0 (b.drop R.2.val.1) R.2.val.2 [] := by
    refine ⟨by simp, fun hbad => ?_, fun m hm => ?_⟩
    · have hbad' : (tkC b).bad ((tkC b).num Tx.2 1).2 = false := by rw [hR]; exact hbad
      obtain ⟨a1, a2, a3⟩ := (tkC b).num1_sound _ hbad'
      rw [← hT] at a1 a3
      obtain ⟨a4, a5, a6⟩ := (tkC b).text_sound s0 a1
      rw [hT, hR] at a3
      rw [hT] at a6
      have e1 : (tkC b).rest s0 = b := rfl
      have e2 : (tkC b).rest R.2 = b.drop R.2.val.1 := rfl
      rw [e1, a3, e2] at a6
      exact ⟨by conv => lhs; rw [a6]
                simp, rfl, fun p hp => by simp at hp⟩
    · obtain ⟨m1, m2⟩ := man_head hm.1
      obtain ⟨a1, a2, a3⟩ := (tkC b).text_full s0 m.name (toB8 (m.parts.length : Int) :: m.parts.flatMap partBytes) m1 rfl (by show b = _; rw [hm.2.2]; simp [manBytes])
      rw [hT] at a1 a2 a3
      obtain ⟨a4, a5, a6⟩ := (tkC b).num1_full Tx.2 m.parts.length (m.parts.flatMap partBytes) m2 a3 a2
      rw [hR] at a4 a5 a6
      exact ⟨a6, a1, a4, rfl, a5⟩
  have hname : Tx.1.length < 4611686018427387904 := by
    have h1 : ((tkC b).text s0).1.length = ((tkC b).num s0 1).1 := (tkC b).len _ _
    rw [hT] at h1
    omega
  have hfin : ∀ (i : Nat) (s : Cu b) (ps : List Part), RInv b Tx.1 R.1 i (b.drop s.val.1) s.val.2 ps → (s.val.2 = false → i = R.1) → (∀ p ∈ ps, wfP p ∨ s.val.2 = true) → cellarerref14_ReadManifest.k1 b (Tx.1, stC Tx.2) b (s.val.1 : Int) s.val.2 ps = some ((readL b).1, decide ((readL b).2 = 0)) := by
    intro i s ps hI hi hw
    rw [← read_end h4 hI hi]
    simp only [cellarerref14_ReadManifest.k1]
    have hs := s.property
    have e : decide ((s.val.1 : Int) ≠ (b.length : Int)) = decide (0 < (b.drop s.val.1).length) := by rw [decide_eq_decide]; simp; omega
    rw [e]
    cases hc : (s.val.2 || decide (0 < (b.drop s.val.1).length)) with
    | true => rw [only_f (by simp), bd_mk]; rfl
    | false =>
      have hsb : s.val.2 = false := by simp only [Bool.or_eq_false_iff] at hc; exact hc.1
      have hwp : ∀ p ∈ ps, wfP p := fun p hp => (hw p hp).resolve_right (by rw [hsb]; simp)
      rw [only_t (by simp), rman_eq ⟨Tx.1, ps⟩ hname (wf_path hwp), bd_mk]
      by_cases hm : manB ⟨Tx.1, ps⟩ <;> simp [hm]
  refine loop_eq (S := Int × List UInt8 × Int × Bool × List Part) (σ := Cu b × List Part) (fun i s => ((i : Int), b, (s.1.val.1 : Int), s.1.val.2, s.2)) R.1 (fun i s => RInv b Tx.1 R.1 i (b.drop s.1.val.1) s.1.val.2 s.2 ∧ s.2.length = i ∧ ∀ p ∈ s.2, wfP p ∨ s.1.val.2 = true) _ (i0 := 0) (s0 := (R.2, [])) rfl (Nat.zero_le _) ⟨hinit, rfl, fun p hp => by simp at hp⟩ (by omega) ?_ ?_
  · rintro rec i ⟨s, ps⟩ hi ⟨hI, hpl, hw⟩ hrec
    simp only at hI hpl hw hrec
    simp only [cellarerref14_ReadManifest.l2]
    cases hsb : s.val.2 with
    | true =>
      rw [if_neg (by simp)]
      have := hfin i s ps hI (fun h => by rw [hsb] at h; cases h) hw
      rw [hsb] at this; exact this
    | false =>
      rw [if_pos (by simp; omega)]
      have hst : (Cellarerref14Cutter.mk b (s.val.1 : Int) false) = stC s := by unfold stC; rw [hsb]
      rw [hst, headC_eq hb s (fun r60 r62 r767 c => loop (cellarerref14_ReadManifest.l5 (i : Int) ps rec r60 r62 r767) (0, c.b, c.at_, c.bad, []))]
      have hsd := (tkC b).head_sound s
      have hfl := (tkC b).head_full s
      have g5 : ((tkC b).head s).2.2.1 < 256 := num1C_le _
      have hPT : ((tkC b).head s).1 = ((tkC b).text s).1 := rfl
      generalize hPC : stC ((tkC b).text s).2 = Pc
      generalize ((tkC b).text s).1 = Pt at hPT ⊢
      generalize (tkC b).head s = H at hsd hfl g5 hPT ⊢
      obtain ⟨P, D, E, s2⟩ := H
      simp only at hsd hfl g5 hPT
      subst hPT
      show loop (cellarerref14_ReadManifest.l5 (i : Int) ps rec (P, Pc) (D : Int) (E : Int)) (0, b, (s2.val.1 : Int), s2.val.2, []) = _
      -- behind the ids
      have hout : ∀ (z : Cu b) (zi : List (List UInt8)), zi.length ≤ E → (∀ x ∈ zi, x.length = 32) → (z.val.2 = false → zi.length = E ∧ s2.val.2 = false ∧ b.drop s2.val.1 = zi.flatten ++ b.drop z.val.1) → (∀ (ids : List (List UInt8)) (t : List UInt8), s2.val.2 = false → b.drop s2.val.1 = ids.flatten ++ t → (∀ x ∈ ids, x.length = 32) → ids.length = E → z.val.2 = false ∧ zi = ids ∧ b.drop z.val.1 = t) → s.val.1 ≤ z.val.1 →
          cellarerref14_ReadManifest.k4 (i : Int) ps rec (P, Pc) (D : Int) b (z.val.1 : Int) z.val.2 zi = some ((readL b).1, decide ((readL b).2 = 0)) := by
        intro z zi hzl hz32 hz1 hz2 hz3
        simp only [cellarerref14_ReadManifest.k4, cellarerref14_ReadManifest.k3]
        rw [app_ok (by simp; omega), bd_mk, wr_succ (by omega)]
        have hstep : RInv b Tx.1 R.1 (i + 1) (b.drop z.val.1) z.val.2 (ps ++ [Part.mk P (D : Int) zi]) := by
          refine hI.step (by simp; omega) (fun hzb => ?_) (fun p0 t hbad hwf hq => ?_) hi
          · obtain ⟨l0, l1, l2⟩ := hz1 hzb
            obtain ⟨l3, l4, l5, l6, l7⟩ := hsd l1
            have e4 : (tkC b).rest s = b.drop s.val.1 := rfl
            have e5 : (tkC b).rest s2 = b.drop s2.val.1 := rfl
            rw [e4, e5] at l7
            refine ⟨l3, ?_, l4, by show (0 : Int) ≤ (D : Int); omega, by show (D : Int) < 65536; omega, by show zi.length < 256; omega, hz32⟩
            rw [partBytes_head _ D rfl, l7, l2]
            simp only [l0, List.append_assoc]
          · obtain ⟨w1, w2, w3, w4, w5⟩ := hwf
            obtain ⟨n0, hn0⟩ := Int.eq_ofNat_of_zero_le w2
            have hn1 : n0 < 65536 := by omega
            rw [partBytes_head p0 n0 hn0, List.append_assoc] at hq
            obtain ⟨l1, l2, l3, l4, l5⟩ := hfl p0.path (p0.ids.flatten ++ t) n0 p0.ids.length w1 hn1 w4 hbad hq
            obtain ⟨l6, l7, l8⟩ := hz2 p0.ids t l5 l4 w5 l3.symm
            refine ⟨?_, l8, l6⟩
            obtain ⟨pp, ps0, pi⟩ := p0
            simp only at l1 l7 hn0
            rw [l1, l2, l7, hn0]
        refine hrec (z, ps ++ [Part.mk P (D : Int) zi]) ⟨hstep, by simp [hpl], fun p hp => ?_⟩
        show wfP p ∨ z.val.2 = true
        cases hzb : z.val.2 with
        | true => exact .inr rfl
        | false => exact .inl ((hstep.snd hzb).2.2 p hp)
      have hs2 : s.val.1 ≤ s2.val.1 ∨ s2.val.2 = true := by
        cases hb2 : s2.val.2 with
        | true => exact .inr rfl
        | false =>
          left
          obtain ⟨l3, l4, l5, l6, l7⟩ := hsd hb2
          have l7' : b.drop s.val.1 = headBytes P D E ++ b.drop s2.val.1 := l7
          have := congrArg List.length l7'
          simp only [List.length_drop, List.length_append] at this
          have := s.property
          have := s2.property
          omega
      refine loop_eq (S := Int × List UInt8 × Int × Bool × List (List UInt8)) (σ := Cu b × List (List UInt8)) (fun j s => ((j : Int), b, (s.1.val.1 : Int), s.1.val.2, s.2)) E (fun j z => z.2.length = j ∧ (s.val.1 ≤ z.1.val.1 ∨ z.1.val.2 = true) ∧ (∀ x ∈ z.2, x.length = 32) ∧ (z.1.val.2 = false → s2.val.2 = false ∧ b.drop s2.val.1 = z.2.flatten ++ b.drop z.1.val.1) ∧ (∀ (ids : List (List UInt8)) (t : List UInt8), s2.val.2 = false → b.drop s2.val.1 = ids.flatten ++ t → (∀ x ∈ ids, x.length = 32) → ids.length = E → z.1.val.2 = false ∧ z.2 = ids.take j ∧ b.drop z.1.val.1 = (ids.drop j).flatten ++ t)) _ (i0 := 0) (s0 := (s2, [])) rfl (Nat.zero_le _) ⟨rfl, hs2, fun x hx => by simp at hx, fun h => ⟨h, rfl⟩, fun ids t h1 h2 h3 h4 => ⟨h1, rfl, h2⟩⟩ (by omega) ?_ ?_
      · rintro rec2 j ⟨z, zi⟩ hj ⟨j1, j2, j3, j4, j5⟩ hrec2
        simp only at j1 j2 j3 j4 j5 hrec2
        simp only [cellarerref14_ReadManifest.l5]
        cases hzb : z.val.2 with
        | true =>
          rw [if_neg (by simp)]
          have hgen : ∀ q : Cu b, q.val.2 = true → cellarerref14_ReadManifest.k4 (i : Int) ps rec (P, Pc) (D : Int) b (q.val.1 : Int) q.val.2 zi = some ((readL b).1, decide ((readL b).2 = 0)) := by
            intro q hq
            simp only [cellarerref14_ReadManifest.k4, cellarerref14_ReadManifest.k3]
            rw [app_ok (by simp; omega), bd_mk, wr_succ (by omega)]
            have hno : ∀ m, ¬ isMan b m := fun m hm => by
              obtain ⟨m1, m2, m3, m4, m5⟩ := hI.cpl m hm
              have hil : i < m.parts.length := by omega
              rw [List.drop_eq_getElem_cons hil, List.flatMap_cons] at m5
              have hmem := List.getElem_mem hil
              obtain ⟨w1, w2, w3, w4, w5⟩ := wf_of (manB_parts hm.1 _ hmem) (hm.2.1 _ hmem)
              obtain ⟨n0, hn0⟩ := Int.eq_ofNat_of_zero_le w2
              rw [partBytes_head _ n0 hn0, List.append_assoc] at m5
              obtain ⟨l1, l2, l3, l4, l5⟩ := hfl _ _ n0 _ w1 (by omega) w4 m1 m5
              have := (j5 _ _ l5 l4 w5 l3.symm).1
              rw [hzb] at this; cases this
            refine hrec (q, ps ++ [Part.mk P (D : Int) zi]) ⟨⟨by simp, fun h => (by rw [hq] at h; cases h), fun m hm => absurd hm (hno m)⟩, by simp [hpl], fun p hp => .inr hq⟩
          have := hgen z hzb
          rw [hzb] at this; exact this
        | false =>
          rw [if_pos (by simp; omega)]
          have hst2 : (Cellarerref14Cutter.mk b (z.val.1 : Int) false) = stC z := by unfold stC; rw [hzb]
          rw [hst2, show (32 : Int) = ((32 : Nat) : Int) from rfl, takeC_eq z 32 (by omega) hb, bd_mk]
          have k1 := (tkC b).len z 32
          have k3 := (tkC b).sound z 32
          have k4 := (tkC b).full z
          have e3 : (tkC b).take = takeC b := rfl
          rw [e3] at k1 k3 k4
          simp only
          rw [cpy32 _ k1, app_ok (by simp; omega), bd_mk, wr_succ (by omega)]
          refine hrec2 ((takeC b z 32).2, zi ++ [(takeC b z 32).1]) ⟨by simp [j1], ?_, fun x hx => ?_, fun hb' => ?_, fun ids t h1 h2 h3 h4 => ?_⟩
          · show s.val.1 ≤ (takeC b z 32).2.val.1 ∨ (takeC b z 32).2.val.2 = true
            unfold takeC
            split
            · exact .inr rfl
            · left; have := j2.resolve_right (by rw [hzb]; simp); simp only; omega
          · rcases List.mem_append.1 hx with h | h
            · exact j3 x h
            · simp at h; subst h; exact k1
          · obtain ⟨l1, l2⟩ := k3 hb'
            obtain ⟨l3, l4⟩ := j4 l1
            refine ⟨l3, ?_⟩
            have l5 : b.drop z.val.1 = (takeC b z 32).1 ++ b.drop (takeC b z 32).2.val.1 := l2
            rw [l4, l5]
            simp
          · obtain ⟨l1, l2, l3⟩ := j5 ids t h1 h2 h3 h4
            have hjl : j < ids.length := by omega
            rw [List.drop_eq_getElem_cons hjl, List.flatten_cons, List.append_assoc] at l3
            have hx := h3 _ (List.getElem_mem hjl)
            obtain ⟨l4, l5, l6⟩ := k4 ids[j] ((ids.drop (j + 1)).flatten ++ t) l1 l3
            rw [hx] at l4 l5 l6
            exact ⟨l6, by show zi ++ [_] = _; rw [l2, l4, take_snoc' hjl], l5⟩
      · rintro rec2 ⟨z, zi⟩ ⟨j1, j2, j3, j4, j5⟩
        simp only at j1 j2 j3 j4 j5
        simp only [cellarerref14_ReadManifest.l5]
        rw [if_neg (by simp)]
        cases hzb : z.val.2 with
        | false =>
          have := hout z zi (by omega) j3 (fun h => ⟨j1, j4 h⟩) (fun ids t h1 h2 h3 h4 => by
            obtain ⟨l1, l2, l3⟩ := j5 ids t h1 h2 h3 h4
            rw [← h4, List.take_length] at l2
            rw [← h4, List.drop_length] at l3
            exact ⟨l1, l2, l3⟩) (j2.resolve_right (by rw [hzb]; simp))
          rw [hzb] at this; exact this
        | true =>
          simp only [cellarerref14_ReadManifest.k4, cellarerref14_ReadManifest.k3]
          rw [app_ok (by simp; omega), bd_mk, wr_succ (by omega)]
          have hno : ∀ m, ¬ isMan b m := fun m hm => by
            obtain ⟨m1, m2, m3, m4, m5⟩ := hI.cpl m hm
            have hil : i < m.parts.length := by omega
            rw [List.drop_eq_getElem_cons hil, List.flatMap_cons] at m5
            have hmem := List.getElem_mem hil
            obtain ⟨w1, w2, w3, w4, w5⟩ := wf_of (manB_parts hm.1 _ hmem) (hm.2.1 _ hmem)
            obtain ⟨n0, hn0⟩ := Int.eq_ofNat_of_zero_le w2
            rw [partBytes_head _ n0 hn0, List.append_assoc] at m5
            obtain ⟨l1, l2, l3, l4, l5⟩ := hfl _ _ n0 _ w1 (by omega) w4 m1 m5
            have := (j5 _ _ l5 l4 w5 l3.symm).1
            rw [hzb] at this; cases this
          have := hrec (z, ps ++ [Part.mk P (D : Int) zi]) ⟨⟨by simp, fun h => (by rw [hzb] at h; cases h), fun m hm => absurd hm (hno m)⟩, by simp [hpl], fun p hp => .inr hzb⟩
          rw [hzb] at this; exact this
  · rintro rec ⟨s, ps⟩ ⟨hI, hpl, hw⟩
    simp only at hI hpl hw
    simp only [cellarerref14_ReadManifest.l2]
    rw [if_neg (by simp)]
    exact hfin _ s ps hI (fun _ => rfl) hw
end Go.Wk.Lf
/- ManifestReads, plainly. -/
namespace Go.Wk.Lf
open Go.Shelf Go.Sort Go.Proofs
set_option linter.unusedVariables false
set_option linter.unusedSimpArgs false
theorem manReads_true (b : List UInt8) (hb : okL okT b) : cellarerlaw17_ManifestReads b = some true := by
  unfold cellarerlaw17_ManifestReads
  by_cases hl : 4000 < b.length
  · rw [if_pos (by simp; omega)]
  rw [if_neg (by simp; omega)]
  have htw : cellarerkeep_Twin b = some b := by
    unfold cellarerkeep_Twin
    rw [app_ok (by simp; omega), bd_mk, List.nil_append]
  rw [htw, bd_mk, read_eq b (by omega), bd_mk, rread_eq b (by omega), bd_mk]
  have hkb := kbytes_eq b b (by omega)
  rcases readL_cases b with ⟨m, hm, hr⟩ | ⟨_, hr⟩
  · rw [hr]
    dsimp only
    have hp : m.parts.length ≤ 6 := hm.1.2.1
    have hkm := kman_eq m m (by omega) (fun p hp => by have := (partB_num (manB_parts hm.1 p hp)).2.2.2.1; omega)
    have c1 : (!((decide ((0 : Int) = 0) != decide ((0 : Int) = 0)) || ((!decide ((0 : Int) = 0)) && decide ((0 : Int) ≠ 3)))) = true := by decide
    have c2 : (!(((decide ((0 : Int) = 0) != decide ((0 : Int) = 0)) || ((!decide ((0 : Int) = 0)) && decide ((0 : Int) ≠ 3))) || (!(decide (m = m))))) = true := by simp
    rw [only_t c1, hkm, bd_mk, only_t c2, hkb, bd_mk, if_neg (by simp), if_neg (by simp), mbytes_eq m hm.2.1, bd_mk, if_pos hm.1, ← hm.2.2]
    dsimp only
    rw [only_t (show decide ((0 : Int) = 0) = true by decide), hkb, bd_mk, only_t (by simp), wakes17, bd_mk]
    simp
  · rw [hr]
    dsimp only
    have hkm := kman_eq ⟨[], []⟩ ⟨[], []⟩ (by simp) (by simp)
    have c1 : (!((decide ((3 : Int) = 0) != decide ((3 : Int) = 0)) || ((!decide ((3 : Int) = 0)) && decide ((3 : Int) ≠ 3)))) = true := by decide
    have c2 : (!(((decide ((3 : Int) = 0) != decide ((3 : Int) = 0)) || ((!decide ((3 : Int) = 0)) && decide ((3 : Int) ≠ 3))) || (!(decide ((⟨[], []⟩ : Manifest) = ⟨[], []⟩))))) = true := by decide
    rw [only_t c1, hkm, bd_mk, only_t c2, hkb, bd_mk, if_neg (by simp), if_pos (by simp), wakes17, bd_mk]
end Go.Wk.Lf
/- The law ManifestReads returns true whatever bytes it is given, and they read as they did: no condition. -/
namespace Go.Proofs.Ytoanecpanckkeaa.manifestReads
open Go.ChangeShapes Go.WideShapes Go.ChangeAt Go.RowKit Go.Wk Go.Wk.Lf
set_option linter.unusedVariables false

theorem own : ownKnob Try.prog.godebug = none := by kernel_rfl
theorem laidOut : laidOutB Try.prog = true := by kernel_rfl

set_option maxRecDepth 100000 in
theorem contract (H : Type) (enc : TypeId × Value → H) (W : World) (base : Nat) (args : Array Value) (ds gs : List (DataW H)) (before : List MemPlace)
    (hval : ∀ (j : Nat) t v, Try.f10.params[j]? = some t → args[j]? = some v → Value.okWide Try.prog W .any base t v)
    (hW : DataW.Whole enc Try.prog Try.f10.params.toList Rows.manifestReadsSpec.vars false W args.toList ds gs before) :
    Calls Try.prog 10 args W fun e W' => ∃ v, e = .returned v ∧ Rows.manifestReadsSpec.post enc Try.prog Try.f10 false true false false W args v W' := by
  refine law_calls (tb := 4) (k := 1) laidOut (by kernel_rfl) (by rw [Try.params10]; rfl) (by rfl) Try.underlying4 rfl ?_ W base args ds gs before (fun p hA => ?_) hW
  · intro ds hk
    match ds, hk with
    | [_], _ => exact ⟨rfl, rfl, rfl⟩
  · rw [Try.params10] at hA hval
    obtain ⟨v0, vs0, d0, ds0, p0, q0, hargs, rfl, rfl, h0, r0⟩ := trodAll_cons hA
    obtain ⟨rfl, rfl, rfl⟩ := trodAll_nil r0
    obtain rfl : args = #[v0] := by cases args; simp_all
    have hv0 := hval 0 _ v0 rfl rfl
    have ho0 : Opn enc Try.prog W 25 (tSl tB) (okL okT) := (opn_slice Go.Proofs.Try.underlying25 (by kernel_rfl) (opn_u8 Go.Proofs.Try.underlying5))
    obtain ⟨x0, a0, k0⟩ := arg_slice Try.underlying25 hv0 ho0 h0
    exact law_ret (cellarerlaw17_ManifestReads_ok (now_agree W) a0 (manReads_true x0 k0))

set_option maxRecDepth 100000 in
theorem lifted (os : Os) (started : os.Started) (H : Type) (enc : TypeId × Value → H) :
    ReturnsInHanded {} Try.checked os 10 .any (Rows.manifestReadsSpec.pre6 enc Try.prog Try.f10 Rows.manifestReadsRow.domain false) (Rows.manifestReadsSpec.post enc Try.prog Try.f10 false true false false) := by
  refine returnsInHanded_of_change (C := Try.checked) own started (by kernel_rfl) Try.func10
    (ChangeSpec.witness6 (enc := enc) (C := Try.checked) false ⟨#[], #[.slice none 0 0], []⟩ 8 (by kernel_rfl) (by kernel_rfl) (by kernel_rfl) (by kernel_rfl)) ?_
  intro W base args ds gs before hval hW _ _
  exact contract H enc W base args ds gs before hval hW

theorem proved : Rows.ManifestReadsSaid :=
  OpenClaim.holds_of_wide 10 Try.f10 rfl rfl rfl rfl rfl rfl rfl ⟨rfl, rfl, rfl, rfl, rfl⟩ rfl rfl rfl rfl rfl (by kernel_rfl) Try.func10 (by kernel_rfl)
    (of_decide_eq_true (by kernel_rfl)) (by unfold Func.isWrapper; first | (rw [if_pos (by decide +kernel)]; kernel_rfl) | (rw [if_neg (by decide +kernel)]; exact ⟨rfl, rfl⟩))
    (fun os started H enc _ => lifted os started H enc)
end Go.Proofs.Ytoanecpanckkeaa.manifestReads
