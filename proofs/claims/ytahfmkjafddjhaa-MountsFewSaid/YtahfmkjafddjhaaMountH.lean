/- The law MountsFew, plainly. -/
import Derived.Test.YtahfmkjafddjhaaMountI
import Derived.Test.YtahfmkjafddjhaaLwMountsFew
namespace Go.Wk.Lf
open Go.Shelf Go.Sort
set_option linter.unusedVariables false

def vv (n : Nat) (x : Int) : Int := wu x % (n : Int)
theorem vv_lt {n : Nat} (h : 0 < n) (x : Int) : 0 ≤ vv n x ∧ vv n x < n := ⟨Int.emod_nonneg _ (by omega), Int.emod_lt_of_pos _ (by omega)⟩
theorem rem_vv {n : Nat} (h : 0 < n) (hn : n ≤ 1000) (x : Int) : rem (wu x) (wu (n : Int)) = some (vv n x) := by
  have e1 : wu (n : Int) = (n : Int) := by rw [wu, IntKind.wrap_u64]; omega
  have e2 : 0 ≤ wu x := by rw [wu, IntKind.wrap_u64]; omega
  rw [e1]
  unfold rem
  rw [if_neg (by omega), Int.tmod_eq_emod_of_nonneg e2]; rfl
def fewR (n : Nat) (xs : List Int) : List Read := xs.zipIdx.map fun p => Read.mk (p.2 : Int) (Loc.mk (vv n p.1) 1 (p.2 : Int) 13)
theorem fewR_len (n : Nat) (xs : List Int) : (fewR n xs).length = xs.length := by simp [fewR]
theorem fewR_snoc (n : Nat) (xs : List Int) (x : Int) : fewR n (xs ++ [x]) = fewR n xs ++ [Read.mk (xs.length : Int) (Loc.mk (vv n x) 1 (xs.length : Int) 13)] := by simp [fewR, List.zipIdx_append]
theorem fewR_vol {n : Nat} {xs : List Int} {r : Read} (h : r ∈ fewR n xs) : ∃ x, r.loc.vol = vv n x := by
  obtain ⟨p, _, rfl⟩ := List.mem_map.1 h
  exact ⟨p.1, rfl⟩
def upto (n : Nat) : List Int := (List.range n).map fun (k : Nat) => (k : Int)
theorem upto_snoc (n : Nat) : upto (n + 1) = upto n ++ [(n : Int)] := by simp [upto, List.range_succ]
theorem upto_len (n : Nat) : (upto n).length = n := by simp [upto]
theorem upto_apart (n : Nat) : Apart (upto n) := by
  unfold Apart upto
  refine List.pairwise_map.2 (List.Pairwise.imp (fun {a b} h _ => ?_) List.pairwise_lt_range)
  omega
theorem mem_upto {n : Nat} {v : Int} (h0 : 0 ≤ v) (h : v < n) : v ∈ upto n := List.mem_map.2 ⟨v.toNat, List.mem_range.2 (by omega), by omega⟩
def seenL (n : Nat) (l : List Read) : List Bool := (List.range n).map fun (k : Nat) => decide ((k : Int) ∈ volsL l)
theorem seen_set {n : Nat} {l : List Read} {r : Read} {v : Nat} (hv : r.loc.vol = (v : Int)) : (seenL n l).set v true = seenL n (l ++ [r]) := by
  have hm : ∀ k : Int, k ∈ volsL (l ++ [r]) ↔ k ∈ volsL l ∨ k = (v : Int) := fun k => by
    rw [mem_volsL, mem_volsL]
    constructor
    · rintro ⟨q, hq, rfl⟩
      rcases List.mem_append.1 hq with h | h
      · exact .inl ⟨q, h, rfl⟩
      · simp at h; subst h; exact .inr hv
    · rintro (⟨q, hq, rfl⟩ | rfl)
      · exact ⟨q, by simp [hq], rfl⟩
      · exact ⟨r, by simp, hv⟩
  refine List.ext_getElem (by simp [seenL]) fun j h1 h2 => ?_
  have hj : j < n := by simpa [seenL] using h1
  rw [List.getElem_set]
  simp only [seenL, List.getElem_map, List.getElem_range, hm]
  by_cases e : v = j
  · subst e; simp
  · rw [if_neg e]
    have : ¬ (j : Int) = (v : Int) := by omega
    simp [this]
theorem seen_same {n : Nat} {l : List Read} {r : Read} (h : r.loc.vol ∈ volsL l) : seenL n (l ++ [r]) = seenL n l := by
  unfold seenL
  rw [volsL_snoc, vstep, if_pos h]
theorem mountsFew_true (xs ys : List Int) (kx : okL okI xs) (ky : okL okI ys) : cellarerlaw22_MountsFew xs ys = some true := by
  unfold cellarerlaw22_MountsFew
  by_cases hb : ((decide ((xs.length : Int) < 1) || decide (4 < (xs.length : Int))) || decide (50 < (ys.length : Int))) = true
  · rw [if_t hb]
  have hb' : ((decide ((xs.length : Int) < 1) || decide (4 < (xs.length : Int))) || decide (50 < (ys.length : Int))) = false := by simpa using hb
  rw [if_f hb']
  simp only [Bool.or_eq_false_iff, decide_eq_false_iff_not] at hb'
  generalize hn : xs.length = n at hb' ⊢
  refine loop_eq (S := List Int × Int) (σ := Unit) (fun i _ => (upto i, (i : Int))) n (fun _ _ => True) _ (i0 := 0) (s0 := ()) rfl (Nat.zero_le _) trivial (by omega) ?_ ?_
  · intro rec i _ hi _ hrec
    simp only [cellarerlaw22_MountsFew.l7]
    rw [if_t (by rw [hn]; exact lt_t hi), app_ok (by rw [upto_len]; simp; omega), bd_mk, wr_succ (by omega), ← upto_snoc]
    exact hrec () trivial
  intro rec _ _
  simp only [cellarerlaw22_MountsFew.l7, cellarerlaw22_MountsFew.k1]
  rw [if_f (by rw [hn]; exact lt_f (Nat.lt_irrefl _)), upto_len, rep_ok (by omega) (by omega), bd_mk]
  refine loop_eq (S := List Read × Int × Int × List Bool) (σ := Unit) (fun i _ => (fewR n (ys.take i), ((volsL (fewR n (ys.take i))).length : Int), (i : Int), seenL n (fewR n (ys.take i)))) ys.length (fun _ _ => True) _ (i0 := 0) (s0 := ()) ?_ (Nat.zero_le _) trivial (by omega) ?_ ?_
  · have : List.replicate n false = seenL n [] := by
      refine List.ext_getElem (by simp [seenL]) fun j h1 h2 => ?_
      simp [seenL, volsL]
    simp only [Int.toNat_natCast, List.take_zero, this]; rfl
  · intro rec2 i _ hi _ hrec
    simp only [cellarerlaw22_MountsFew.l5]
    have hvl := vv_lt (n := n) (by omega) ys[i]
    have hlen := volsL_len (fewR n (ys.take i))
    rw [fewR_len, List.length_take] at hlen
    have hfl := fewR_len n (ys.take i)
    rw [List.length_take, Nat.min_eq_left (by omega)] at hfl
    obtain ⟨v, hv⟩ := Int.eq_ofNat_of_zero_le hvl.1
    have hvn : v < (seenL n (fewR n (ys.take i))).length := by simp [seenL]; omega
    have hr := hrec () trivial
    rw [take_snoc' hi, fewR_snoc] at hr
    rw [List.length_take, Nat.min_eq_left (by omega)] at hr
    rw [if_t (lt_t hi), ix_lt hi, bd_mk, upto_len, rem_vv (by omega) (by omega), bd_mk, wr_id (by omega) (by omega), hv, ix_lt hvn, bd_mk]
    have hsv : (seenL n (fewR n (ys.take i)))[v] = decide ((v : Int) ∈ volsL (fewR n (ys.take i))) := by simp [seenL]
    rw [hsv]
    by_cases hs : (v : Int) ∈ volsL (fewR n (ys.take i))
    · rw [decide_eq_true hs, if_f (by rfl)]
      simp only [cellarerlaw22_MountsFew.k6]
      rw [wr_id (by omega) (by omega), app_ok (by simp; omega), bd_mk, wr_succ (by omega)]
      rw [seen_same (by rw [hv]; exact hs), volsL_snoc, vstep, if_pos (by rw [hv]; exact hs), hv] at hr
      exact hr
    · rw [decide_eq_false hs, if_t (by rfl), bd_mk, Int.toNat_natCast]
      simp only [cellarerlaw22_MountsFew.k6]
      rw [wr_id (by omega) (by omega), app_ok (by simp; omega), bd_mk, wr_succ (by omega), wr_succ (by omega), seen_set (r := Read.mk (i : Int) (Loc.mk (v : Int) 1 (i : Int) 13)) rfl]
      rw [volsL_snoc, vstep, if_neg (by rw [hv]; exact hs), hv, List.length_append, List.length_singleton] at hr
      exact hr
  intro rec2 _ _
  simp only [cellarerlaw22_MountsFew.l5, cellarerlaw22_MountsFew.k2]
  rw [if_f (lt_f (Nat.lt_irrefl _)), List.take_length]
  have hfl := fewR_len n ys
  have hvl := volsL_len (fewR n ys)
  have hvol : ∀ r ∈ fewR n ys, 0 ≤ r.loc.vol ∧ r.loc.vol < n := fun r hr => by
    obtain ⟨x, hx⟩ := fewR_vol hr
    rw [hx]; exact vv_lt (by omega) x
  have hv0 : ∀ r ∈ fewR n ys, 0 ≤ r.loc.vol := fun r hr => (hvol r hr).1
  have e1 : errL (upto n) (fewR n ys) = 0 := errL_zero (by rw [upto_len]; omega) (by rw [upto_len]; omega) (upto_apart n) (by omega) hv0
  have hap1 : Apart [-1] := List.pairwise_singleton _ _
  have e2 : errL [-1] (fewR n ys) = 0 := errL_zero (by simp) (by simp) hap1 (by omega) hv0
  have n1 : newV (upto n) (fewR n ys) = [] := List.filter_eq_nil_iff.2 fun v hv => by
    obtain ⟨r, hr, rfl⟩ := (mem_volsL _ _).1 hv
    have := hvol r hr
    simp [mem_upto this.1 this.2]
  have n2 := newV_one hv0
  have l1 := movesL_len (upto_apart n) hv0
  have l2 := movesL_len hap1 hv0
  rw [n1] at l1
  rw [n2] at l2
  simp only [List.length_nil, Nat.add_zero] at l1
  rw [moves_ok e1 (by omega), bd_mk, moves_ok e2 (by omega), bd_mk]
  dsimp only
  rw [show decide ((0 : Int) ≠ 0) = false by rfl, wr_id (by omega) (by omega), show decide (((movesL (upto n) (fewR n ys)).length : Int) ≠ (ys.length : Int)) = false from decide_eq_false (by omega), show decide (((movesL [-1] (fewR n ys)).length : Int) ≠ (ys.length : Int) + ((volsL (fewR n ys)).length : Int)) = false from decide_eq_false (by omega)]
  simp only [Bool.or_self, Bool.not_false]
  rw [only_t rfl, bound_eq _ (by omega), bd_mk, show decide ((((fewR n ys).length + (volsL (fewR n ys)).length : Nat) : Int) ≠ (ys.length : Int) + ((volsL (fewR n ys)).length : Int)) = false from decide_eq_false (by omega)]
  simp only [Bool.or_self]
  rw [if_f (by rfl)]
  refine loop_eq (S := Int) (σ := Unit) (fun i _ => (i : Int)) (movesL (upto n) (fewR n ys)).length (fun _ _ => True) _ (i0 := 0) (s0 := ()) rfl (Nat.zero_le _) trivial (by omega) ?_ ?_
  · intro rec3 i _ hi _ hrec
    simp only [cellarerlaw22_MountsFew.l4]
    have hk : (movesL (upto n) (fewR n ys))[i].kind = 2 := by
      rcases movesL_kinds (upto n) (fewR n ys) _ (List.getElem_mem hi) with h | h
      · have hm : (movesL (upto n) (fewR n ys))[i].vol ∈ mountsOf (movesL (upto n) (fewR n ys)) := List.mem_map.2 ⟨_, List.mem_filter.2 ⟨List.getElem_mem hi, by simpa using h⟩, rfl⟩
        rw [movesL_mounts, n1] at hm; simp at hm
      · exact h
    rw [if_t (lt_t hi), ix_lt hi, bd_mk, if_f (decide_eq_false (by simp [hk])), wr_succ (by omega)]
    exact hrec () trivial
  · intro rec3 _ _
    simp only [cellarerlaw22_MountsFew.l4, cellarerlaw22_MountsFew.k3]
    rw [if_f (lt_f (Nat.lt_irrefl _)), wakes22, bd_mk]
end Go.Wk.Lf
