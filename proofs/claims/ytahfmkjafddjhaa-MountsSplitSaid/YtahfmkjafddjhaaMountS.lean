/- The law MountsSplit, plainly. -/
import Derived.Test.YtahfmkjafddjhaaMountI
import Derived.Test.YtahfmkjafddjhaaLwMountsSplit
namespace Go.Wk.Lf
open Go.Shelf Go.Sort
set_option linter.unusedVariables false

/-- the volume of the last move -/
def lastV (m : List Move) : Int := m.foldl (fun _ x => x.vol) (-1)
theorem lastV_snoc (m : List Move) (x : Move) : lastV (m ++ [x]) = x.vol := by simp [lastV]
theorem lastV_is (m : List Move) : lastV m = -1 ∨ ∃ x ∈ m, lastV m = x.vol := by
  rcases List.eq_nil_or_concat m with rfl | ⟨l, x, rfl⟩
  · exact .inl rfl
  · exact .inr ⟨x, by simp, by rw [List.concat_eq_append, lastV_snoc]⟩
theorem restM_vol (l : List Read) (vs : List Int) : ∀ h a n, ∀ x ∈ restM l vs h a n, x.vol ∈ vs := by
  induction vs with
  | nil => intro h a n x hx; simp [restM] at hx
  | cons v vs ih =>
    intro h a n x hx
    simp only [restM, List.mem_cons, List.mem_append] at hx
    rcases hx with rfl | hx | hx
    · simp
    · obtain ⟨r, _, rfl⟩ := List.mem_map.1 hx
      simp
    · exact List.mem_cons_of_mem _ (ih _ _ _ x hx)
theorem movesL_vol (l : List Read) : ∀ x ∈ movesL [-1] l, x.vol ∈ newV [-1] l := fun x hx => by
  rcases List.mem_append.1 hx with h | h
  · simp [initM] at h
  · exact restM_vol _ _ _ _ _ x h
theorem split_len (a : List Read) (held : Int) (hh : held ∈ volsL a ∨ held < 0) : ∀ b : List Read, (∀ r ∈ b, 0 ≤ r.loc.vol) → (volsL (a ++ b)).length ≤ (volsL a).length + (newV [held] b).length := by
  intro b
  generalize hn : b.length = n
  induction n generalizing b with
  | zero =>
    intro _
    have : b = [] := List.eq_nil_of_length_eq_zero hn
    subst this; simp
  | succ n ih =>
    intro hv
    rcases List.eq_nil_or_concat b with rfl | ⟨c, r, rfl⟩
    · simp at hn
    rw [List.concat_eq_append] at hn hv ⊢
    have hc := ih c (by simpa using hn) fun q hq => hv q (by simp [hq])
    rw [← List.append_assoc, volsL_snoc]
    have hsub : (newV [held] c).length ≤ (newV [held] (c ++ [r])).length := by
      unfold newV
      rw [volsL_snoc]
      unfold vstep
      split
      · exact Nat.le_refl _
      · rw [List.filter_append, List.length_append]; omega
    unfold vstep
    split
    · omega
    · rename_i hnew
      have h1 : r.loc.vol ∉ volsL a := fun h => hnew (by
        obtain ⟨q, hq, e⟩ := (mem_volsL _ _).1 h
        exact (mem_volsL _ _).2 ⟨q, by simp [hq], e⟩)
      have h2 : r.loc.vol ∉ volsL c := fun h => hnew (by
        obtain ⟨q, hq, e⟩ := (mem_volsL _ _).1 h
        exact (mem_volsL _ _).2 ⟨q, by simp [hq], e⟩)
      have h3 : r.loc.vol ≠ held := fun e => by
        rcases hh with h | h
        · exact h1 (e ▸ h)
        · have := hv r (by simp); omega
      have h4 : (newV [held] (c ++ [r])).length = (newV [held] c).length + 1 := by
        unfold newV
        rw [volsL_snoc, vstep, if_neg h2, List.filter_append, List.length_append]
        simp [h3]
      rw [List.length_append, List.length_singleton]; omega
theorem newV_le (hs : List Int) (l : List Read) : (newV hs l).length ≤ (volsL l).length := List.length_filter_le _ _
theorem mountsSplit_true (l : List Read) (x1 : Int) (kl : okL Read.ok l) {q : Prop} (k1 : q) : cellarerlaw22_MountsSplit l x1 = some true := by
  unfold cellarerlaw22_MountsSplit
  by_cases hb : 60 < (l.length : Int)
  · rw [if_t (decide_eq_true hb)]
  rw [if_f (decide_eq_false hb)]
  refine loop_eq (S := Int) (σ := Unit) (fun i _ => (i : Int)) l.length (fun i _ => ∀ r ∈ l.take i, 0 ≤ r.loc.vol) _ (i0 := 0) (s0 := ()) rfl (Nat.zero_le _) (by simp) (by omega) ?_ ?_
  · intro rec i _ hi hI hrec
    simp only [cellarerlaw22_MountsSplit.l4]
    rw [if_t (lt_t hi), ix_lt hi, bd_mk]
    by_cases hc : l[i].loc.vol < 0
    · rw [if_t (decide_eq_true hc)]
    · rw [if_f (decide_eq_false hc), wr_succ (by omega)]
      refine hrec () fun r hr => ?_
      rw [take_snoc' hi] at hr
      rcases List.mem_append.1 hr with h | h
      · exact hI r h
      · simp at h; subst h; omega
  intro rec _ hI
  rw [List.take_length] at hI
  simp only [cellarerlaw22_MountsSplit.l4, cellarerlaw22_MountsSplit.k1]
  obtain ⟨k, hk, hr⟩ : ∃ k : Nat, k ≤ l.length ∧ rem (wu x1) (wu (wr ((l.length : Int) + 1))) = some (k : Int) := by
    have e0 : wr ((l.length : Int) + 1) = (l.length : Int) + 1 := wr_id (by omega) (by omega)
    have e1 : wu ((l.length : Int) + 1) = (l.length : Int) + 1 := by rw [wu, IntKind.wrap_u64]; omega
    have e2 : 0 ≤ wu x1 := by rw [wu, IntKind.wrap_u64]; omega
    have h1 := Int.emod_lt_of_pos (wu x1) (show (0 : Int) < (l.length : Int) + 1 by omega)
    have h2 := Int.emod_nonneg (wu x1) (show ((l.length : Int) + 1) ≠ 0 by omega)
    refine ⟨(wu x1 % ((l.length : Int) + 1)).toNat, by omega, ?_⟩
    rw [e0, e1]
    unfold rem
    rw [if_neg (by omega), Int.tmod_eq_emod_of_nonneg e2, Int.toNat_of_nonneg h2]
  have hap : ∀ v, Apart [v] := fun v => List.pairwise_singleton _ _
  have hta : ∀ r ∈ l.take k, 0 ≤ r.loc.vol := fun r h => hI r (List.mem_of_mem_take h)
  have hdr : ∀ r ∈ l.drop k, 0 ≤ r.loc.vol := fun r h => hI r (List.mem_of_mem_drop h)
  have hkt : (l.take k).length = k := by rw [List.length_take]; omega
  have hkd : (l.drop k).length = l.length - k := List.length_drop
  have ez : ∀ v (a : List Read), a.length ≤ 60 → (∀ r ∈ a, 0 ≤ r.loc.vol) → errL [v] a = 0 := fun v a h1 h2 => errL_zero (by simp) (by simp) (hap v) (by omega) h2
  have ml : ∀ v (a : List Read), a.length ≤ 60 → (∀ r ∈ a, 0 ≤ r.loc.vol) → (movesL [v] a).length ≤ 120 := fun v a h1 h2 => by
    have := movesL_len (hap v) h2; have := newV_len [v] a; omega
  have m1 := ml (-1) l (by omega) hI
  have m2 := ml (-1) (l.take k) (by omega) hta
  rw [if_f (lt_f (Nat.lt_irrefl _)), hr, bd_mk, moves_ok (ez _ _ (by omega) hI) (by omega), bd_mk, wr_id (by omega) (by omega), cut_ok (by omega) (by omega) (by omega), bd_mk]
  simp only [Int.toNat_natCast, Int.toNat_zero, List.drop_zero]
  rw [moves_ok (ez _ _ (by omega) hta) (by omega), bd_mk]
  refine loop_eq (S := Int × Int) (σ := Unit) (fun i _ => (lastV ((movesL [-1] (l.take k)).take i), (i : Int))) (movesL [-1] (l.take k)).length (fun _ _ => True) _ (i0 := 0) (s0 := ()) rfl (Nat.zero_le _) trivial (by omega) ?_ ?_
  · intro rec2 i _ hi _ hrec
    simp only [cellarerlaw22_MountsSplit.l3]
    have h3 := hrec () trivial
    rw [take_snoc' hi, lastV_snoc] at h3
    rw [if_t (lt_t hi), ix_lt hi, bd_mk, wr_succ (by omega)]
    exact h3
  intro rec2 _ _
  simp only [cellarerlaw22_MountsSplit.l3, cellarerlaw22_MountsSplit.k2]
  rw [if_f (lt_f (Nat.lt_irrefl _)), List.take_length]
  generalize hheld : lastV (movesL [-1] (l.take k)) = held
  have m3 := ml held (l.drop k) (by omega) hdr
  have c1 := count2 (hap (-1)) hI
  have c2 := count2 (hap (-1)) hta
  have c3 := count2 (hap held) hdr
  have d1 := count1 [-1] l
  have d2 := count1 [-1] (l.take k)
  have d3 := count1 [held] (l.drop k)
  have hhv : held ∈ volsL (l.take k) ∨ held < 0 := by
    rcases lastV_is (movesL [-1] (l.take k)) with h | ⟨x, hx, h⟩
    · right; omega
    · left
      rw [← hheld, h]
      have := movesL_vol _ x hx
      rwa [newV_one hta] at this
  have hsl := split_len (l.take k) held hhv (l.drop k) hdr
  rw [List.take_append_drop] at hsl
  rw [newV_one hI] at d1
  rw [newV_one hta] at d2
  have v1 := volsL_len l
  have v2 := volsL_len (l.take k)
  have v3 := volsL_len (l.drop k)
  have v4 := newV_le [held] (l.drop k)
  rw [wr_id (by omega) (by omega), cut_ok (by omega) (by omega) (by omega), bd_mk]
  simp only [Int.toNat_natCast, List.take_length]
  rw [moves_ok (ez _ _ (by omega) hdr) (by omega), bd_mk]
  dsimp only
  rw [show decide ((0 : Int) ≠ 0) = false by rfl]
  simp only [Bool.or_self, Bool.not_false]
  rw [only_t rfl, count_eq _ _ (by omega), bd_mk, c1, show decide (((l.length : Nat) : Int) ≠ (l.length : Int)) = false from decide_eq_false (by simp)]
  simp only [Bool.or_self, Bool.not_false]
  rw [only_t rfl, count_eq _ _ (by omega), bd_mk, c2, only_t rfl, count_eq _ _ (by omega), bd_mk, c3, wr_id (by omega) (by omega), show decide ((((l.take k).length : Nat) : Int) + (((l.drop k).length : Nat) : Int) ≠ (l.length : Int)) = false from decide_eq_false (by omega)]
  simp only [Bool.or_self]
  rw [if_f (by rfl), bound_eq l (by omega), bd_mk, cut_ok (by omega) (by omega) (by omega), bd_mk]
  simp only [Int.toNat_natCast, Int.toNat_zero, List.drop_zero]
  rw [bound_eq _ (by omega), bd_mk, bd_mk, bound_eq _ (by omega), bd_mk, wr_id (by omega) (by omega), if_f (decide_eq_false (by omega)), app_ok (by simp; omega), bd_mk, count_eq _ _ (by omega), bd_mk, d1, count_eq _ _ (by omega), bd_mk, d2, count_eq _ _ (by omega), bd_mk, d3, wr_id (by omega) (by omega), decide_eq_true (show (((volsL l).length : Nat) : Int) ≤ (((volsL (l.take k)).length : Nat) : Int) + (((newV [held] (l.drop k)).length : Nat) : Int) by omega), only_t rfl, List.nil_append, keepReads_self _ (by omega), bd_mk]
  simp only [Bool.and_self]
  rw [only_t rfl, wakes22, bd_mk]; rfl
end Go.Wk.Lf
