/- What is wrong with drives or reads; mounts.Moves in all. -/
import Derived.Test.YtahfmkjafddjhaaMountG
namespace Go.Wk.Lf
open Go.Shelf Go.Sort
set_option linter.unusedVariables false

/- what is wrong -/
def dupG : List Int → List Int → Bool
  | _, [] => false
  | pre, v :: r => (decide (0 ≤ v) && decide (v ∈ pre)) || dupG (pre ++ [v]) r
def errL (hs : List Int) (l : List Read) : Int := if hs.length < 1 ∨ 4 < hs.length then 2 else if dupG [] hs = true then 1 else if 32768 < l.length then 2 else if l.any (fun r => decide (r.loc.vol < 0)) = true then 1 else 0
theorem dup_apart (hs : List Int) : ∀ pre, Apart pre → dupG pre hs = false → Apart (pre ++ hs) := by
  induction hs with
  | nil => intro pre hp _; simpa using hp
  | cons v hs ih =>
    intro pre hp h
    simp only [dupG, Bool.or_eq_false_iff] at h
    have := ih (pre ++ [v]) ?_ h.2
    · simpa using this
    · refine List.pairwise_append.2 ⟨hp, by simp, fun a ha b hb => ?_⟩
      simp at hb; subst hb
      intro h0 e
      subst e
      simp [h0, ha] at h
theorem errL_ok {hs : List Int} {l : List Read} (h : errL hs l = 0) : 0 < hs.length ∧ hs.length ≤ 4 ∧ Apart hs ∧ l.length ≤ 32768 ∧ ∀ r ∈ l, 0 ≤ r.loc.vol := by
  unfold errL at h
  split at h
  · omega
  rename_i h1
  split at h
  · omega
  rename_i h2
  split at h
  · omega
  rename_i h3
  split at h
  · omega
  rename_i h4
  refine ⟨by omega, by omega, ?_, by omega, fun r hr => ?_⟩
  · have := dup_apart hs [] List.Pairwise.nil (by simpa using h2)
    simpa using this
  · have : ¬ r.loc.vol < 0 := fun hc => h4 (List.any_eq_true.2 ⟨r, hr, by simpa using hc⟩)
    omega
theorem cF_eq (l : List Read) (hl : l.length ≤ 1073741824) : slices_ContainsFunc_api_Read_api_Read_mounts_wrong_1 l = some (l.any fun r => decide (r.loc.vol < 0)) := by
  unfold slices_ContainsFunc_api_Read_api_Read_mounts_wrong_1 slices_IndexFunc_api_Read_api_Read_mounts_wrong_1
  have key : ∃ r, loop (slices_IndexFunc_api_Read_api_Read_mounts_wrong_1.l2 l) 0 = some r ∧ decide (0 ≤ r) = l.any fun r => decide (r.loc.vol < 0) := by
    refine loop_for (S := Int) (σ := Unit) (fun i _ => (i : Int)) l.length (fun i _ => (l.take i).any (fun r => decide (r.loc.vol < 0)) = false) (fun o => ∃ r, o = some r ∧ decide (0 ≤ r) = l.any fun r => decide (r.loc.vol < 0)) (i0 := 0) (s0 := ()) rfl (Nat.zero_le _) rfl (by omega) ?_ ?_
    · intro rec i _ hi hI hrec
      simp only [slices_IndexFunc_api_Read_api_Read_mounts_wrong_1.l2, mounts_wrong_1]
      rw [if_t (lt_t hi), ix_lt hi, bd_mk, bd_mk]
      by_cases hc : l[i].loc.vol < 0
      · rw [if_t (decide_eq_true hc)]
        refine ⟨_, rfl, ?_⟩
        rw [decide_eq_true (by omega)]
        exact (List.any_eq_true.2 ⟨l[i], List.getElem_mem hi, by simpa using hc⟩).symm
      · rw [if_f (decide_eq_false hc), wr_succ (by omega)]
        refine hrec () ?_
        rw [take_snoc' hi, List.any_append, hI]
        simp [hc]
    · intro rec _ hI
      simp only [slices_IndexFunc_api_Read_api_Read_mounts_wrong_1.l2, slices_IndexFunc_api_Read_api_Read_mounts_wrong_1.k1]
      rw [List.take_length] at hI
      rw [if_f (lt_f (Nat.lt_irrefl _)), hI]
      exact ⟨-1, rfl, by rfl⟩
  obtain ⟨r, h1, h2⟩ := key
  rw [h1, bd_mk, h2]
theorem wrong_eq (hs : List Int) (l : List Read) (hl : l.length ≤ 1073741824) : mounts_wrong hs l = some (errL hs l) := by
  unfold mounts_wrong
  by_cases h1 : hs.length < 1 ∨ 4 < hs.length
  · have e : errL hs l = 2 := by unfold errL; rw [if_pos h1]
    rw [if_t, e]
    rcases h1 with h1 | h1
    · rw [decide_eq_true (show (hs.length : Int) < 1 by omega)]; rfl
    · rw [decide_eq_true (show 4 < (hs.length : Int) by omega), Bool.or_true]
  · rw [if_f]
    · have e : errL hs l = if dupG [] hs = true then 1 else if 32768 < l.length then 2 else if l.any (fun r => decide (r.loc.vol < 0)) = true then 1 else 0 := by unfold errL; rw [if_neg h1]
      rw [e]
      refine loop_eq (S := Int) (σ := Unit) (fun i _ => (i : Int)) hs.length (fun i _ => dupG [] hs = dupG (hs.take i) (hs.drop i)) _ (i0 := 0) (s0 := ()) rfl (Nat.zero_le _) (by simp) (by omega) ?_ ?_
      · intro rec i _ hi hI hrec
        simp only [mounts_wrong.l2]
        rw [List.drop_eq_getElem_cons hi, dupG, ← take_snoc' hi] at hI
        rw [if_t (lt_t hi), ix_lt hi, bd_mk]
        by_cases h0 : 0 ≤ hs[i]
        · rw [decide_eq_true h0] at hI
          rw [decide_eq_true h0, only_t rfl, cut_ok (by omega) (by omega) (by omega), bd_mk, only_t rfl]
          simp only [Int.toNat_natCast, Int.toNat_zero, List.drop_zero]
          rw [contains_eq _ _ (by simp; omega), bd_mk]
          by_cases hm : hs[i] ∈ hs.take i
          · rw [decide_eq_true hm] at hI
            rw [decide_eq_true hm, if_t (by rfl), hI]; rfl
          · rw [decide_eq_false hm] at hI
            rw [decide_eq_false hm, if_f (by rfl), wr_succ (by omega)]
            exact hrec () (by simpa using hI)
        · rw [decide_eq_false h0] at hI
          rw [decide_eq_false h0]
          simp only [only_f, bd_mk]
          rw [if_f (by rfl), wr_succ (by omega)]
          exact hrec () (by simpa using hI)
      · intro rec _ hI
        simp only [mounts_wrong.l2, mounts_wrong.k1]
        rw [List.drop_length, dupG] at hI
        rw [if_f (lt_f (Nat.lt_irrefl _)), hI]
        simp only [Bool.false_eq_true, if_false]
        by_cases h3 : 32768 < l.length
        · rw [if_t (decide_eq_true (by omega)), if_pos h3]
        · rw [if_f (decide_eq_false (by omega)), if_neg h3, cF_eq l hl, bd_mk]
          cases l.any (fun r => decide (r.loc.vol < 0)) <;> rfl
    · rw [decide_eq_false (show ¬ (hs.length : Int) < 1 by omega), decide_eq_false (show ¬ 4 < (hs.length : Int) by omega)]; rfl
/-- mounts.Moves -/
def movesR (hs : List Int) (l : List Read) : List Move × Int := if errL hs l = 0 then (movesL hs l, 0) else ([], errL hs l)
theorem moves_all (hs : List Int) (l : List Read) (hl : l.length ≤ 1073741824) : mounts_Moves hs l = some (movesR hs l) := by
  unfold movesR
  by_cases h : errL hs l = 0
  · obtain ⟨h0, h4, h5, h6, h7⟩ := errL_ok h
    rw [if_pos h, moves_eq hs l h0 h4 h6 h5 h7 (by rw [wrong_eq _ _ hl, h])]
  · rw [if_neg h]
    unfold mounts_Moves
    rw [wrong_eq _ _ hl, bd_mk, if_t (decide_eq_true h)]

theorem wakes22 : cellarerlaw22_wakes = some true := by decide +kernel
theorem bound_eq (l : List Read) (hl : l.length ≤ 1073741823) : mounts_Bound l = some (((l.length + (volsL l).length : Nat)) : Int) := by
  have := volsL_len l
  unfold mounts_Bound
  rw [vols_eq _ (by omega), bd_mk, wr_id (by omega) (by omega)]; rfl
theorem apart_dup (hs : List Int) : ∀ pre, Apart (pre ++ hs) → dupG pre hs = false := by
  induction hs with
  | nil => intro pre _; rfl
  | cons v hs ih =>
    intro pre h
    simp only [dupG, Bool.or_eq_false_iff]
    refine ⟨?_, ih (pre ++ [v]) (by simpa using h)⟩
    by_cases h0 : 0 ≤ v
    · have : v ∉ pre := fun hm => (List.pairwise_append.1 h).2.2 v hm v (by simp) h0 rfl
      simp [this]
    · simp [h0]
theorem errL_zero {hs : List Int} {l : List Read} (h0 : 0 < hs.length) (h4 : hs.length ≤ 4) (hap : Apart hs) (hl : l.length ≤ 32768) (hv : ∀ r ∈ l, 0 ≤ r.loc.vol) : errL hs l = 0 := by
  have h1 := apart_dup hs [] (by simpa using hap)
  have h2 : l.any (fun r => decide (r.loc.vol < 0)) = false := List.any_eq_false.2 fun r hr => by have := hv r hr; simp; omega
  unfold errL
  rw [if_neg (by omega), h1, if_neg (by decide), if_neg (by omega), h2, if_neg (by decide)]
theorem moves_ok {hs : List Int} {l : List Read} (h : errL hs l = 0) (hl : l.length ≤ 1073741824) : mounts_Moves hs l = some (movesL hs l, 0) := by
  rw [moves_all hs l hl, movesR, if_pos h]
theorem newV_one {l : List Read} (hv : ∀ r ∈ l, 0 ≤ r.loc.vol) : newV [-1] l = volsL l := List.filter_eq_self.2 fun v hvm => by
  obtain ⟨r, hr, rfl⟩ := (mem_volsL _ _).1 hvm
  have := hv r hr
  simp; omega
/- what is done -/
def doneG (G : List Int) (l : List Read) : List Bool := l.map fun r => decide (r.loc.vol ∈ G)
def donePat (G : List Int) (v : Int) (k : Nat) (l : List Read) : List Bool := l.zipIdx.map fun p => decide (p.1.loc.vol ∈ G) || (decide (p.1.loc.vol = v) && decide (p.2 < k))
theorem donePat_len (G : List Int) (v : Int) (k : Nat) (l : List Read) : (donePat G v k l).length = l.length := by simp [donePat]
theorem donePat_at (G : List Int) (v : Int) (k : Nat) (l : List Read) (j : Nat) : (donePat G v k l)[j]? = (l[j]?).map fun r => decide (r.loc.vol ∈ G) || (decide (r.loc.vol = v) && decide (j < k)) := by
  simp only [donePat, List.getElem?_map, List.getElem?_zipIdx, Option.map_map, Nat.zero_add]; rfl
theorem doneG_at (G : List Int) (l : List Read) (j : Nat) : (doneG G l)[j]? = (l[j]?).map fun r => decide (r.loc.vol ∈ G) := by simp [doneG]
theorem donePat_zero (G : List Int) (v : Int) (l : List Read) : donePat G v 0 l = doneG G l := by
  refine List.ext_getElem? fun j => ?_
  rw [donePat_at, doneG_at]
  simp
theorem donePat_all (G : List Int) (v : Int) (l : List Read) : donePat G v l.length l = doneG (v :: G) l := by
  refine List.ext_getElem? fun j => ?_
  rw [donePat_at, doneG_at]
  cases h : l[j]? with
  | none => rfl
  | some r =>
    have := (List.getElem?_eq_some_iff.1 h).1
    simp only [Option.map_some, Option.some.injEq, List.mem_cons]
    by_cases e : r.loc.vol = v <;> simp [e, this]
theorem donePat_skip {G : List Int} {v : Int} {k : Nat} {l : List Read} (hk : k < l.length) (h : l[k].loc.vol ≠ v) : donePat G v (k + 1) l = donePat G v k l := by
  refine List.ext_getElem? fun j => ?_
  rw [donePat_at, donePat_at]
  by_cases e : j = k
  · subst e; rw [List.getElem?_eq_getElem hk]; simp [h]
  · have : (j < k + 1) = (j < k) := by simp; omega
    simp only [this]
theorem donePat_set {G : List Int} {v : Int} {k : Nat} {l : List Read} (hk : k < l.length) (h : l[k].loc.vol = v) : (donePat G v k l).set k true = donePat G v (k + 1) l := by
  refine List.ext_getElem? fun j => ?_
  rw [List.getElem?_set, donePat_at, donePat_at]
  by_cases e : k = j
  · subst e; rw [if_pos rfl, if_pos (by rw [donePat_len]; exact hk), List.getElem?_eq_getElem hk]; simp [h]
  · rw [if_neg e]
    have : (j < k + 1) = (j < k) := by simp; omega
    simp only [this]
theorem doneG_congr {G H : List Int} (h : ∀ v, v ∈ G ↔ v ∈ H) (l : List Read) : doneG G l = doneG H l := by unfold doneG; simp only [h]
theorem heldV_snoc (xs : List Int) (v : Int) : heldV (xs ++ [v]) = heldV xs ++ (if 0 ≤ v then [v] else []) := by
  unfold heldV
  rw [List.filter_append]
  by_cases h : 0 ≤ v <;> simp [h]
end Go.Wk.Lf
