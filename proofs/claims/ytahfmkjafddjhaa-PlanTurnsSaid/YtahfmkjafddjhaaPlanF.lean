/- The law PlanExact, plainly. -/
import Derived.Test.YtahfmkjafddjhaaPlanE
namespace Go.Wk.Lf
open Go.Shelf Go.Sort Go.Proofs
set_option linter.unusedVariables false

theorem ordLoc_self' (a : Loc) : ¬ ordLoc a a < 0 := fun h => lt_asymm h h
theorem isort_put (rs : List Read) (r : Read) (p : Nat) (h1 : ∀ e ∈ (isort ordRead rs).take p, ¬ ordRead r e < 0) (h2 : ∀ e ∈ (isort ordRead rs).drop p, ¬ ordRead e r < 0) : (isort ordRead rs).take p ++ [r] ++ (isort ordRead rs).drop p = isort ordRead (rs ++ [r]) := by
  have hs := isort_rise ordRead_swo rs
  rw [← List.take_append_drop p (isort ordRead rs)] at hs
  obtain ⟨s1, s2, s3⟩ := List.pairwise_append.1 hs
  refine rise_unique ordRead_tot ?_ (isort_rise ordRead_swo _) ?_
  · refine List.pairwise_append.2 ⟨List.pairwise_append.2 ⟨s1, List.pairwise_singleton _ _, fun a ha b hb => ?_⟩, s2, fun a ha b hb => ?_⟩
    · rw [List.mem_singleton] at hb; subst hb; exact h1 a ha
    · rcases List.mem_append.1 ha with ha | ha
      · exact s3 a ha b hb
      · rw [List.mem_singleton] at ha; subst ha; exact h2 b hb
  · refine List.Perm.trans ?_ (isort_perm _ _).symm
    rw [List.append_assoc, List.singleton_append]
    refine List.perm_middle.trans ?_
    rw [List.take_append_drop]
    refine ((isort_perm ordRead rs).cons r).trans ?_
    exact (List.perm_append_comm (l₁ := [r]) (l₂ := rs))
theorem order20_put (ws : List Want) (hl : ws.length ≤ 1073741823) (i : Nat) (hi : i < ws.length) (rec : List Read × List Int × Int → Option (List Read × List Int)) (a : Option (List Read × List Int)) (b : Loc) (q : List Loc) (hs : sortL ws[i].locs = b :: q)
    (hrec : rec (orderL (ws.take (i + 1)), noneOf (ws.take (i + 1)), ((i + 1 : Nat) : Int)) = a) (p : Nat) (hp : p ≤ (orderL (ws.take i)).length)
    (h1 : ∀ h : 0 < p, ¬ ordLoc b ((orderL (ws.take i))[p - 1]'(by omega)).loc < 0) (h2 : ∀ e ∈ (orderL (ws.take i)).drop p, ordLoc b e.loc < 0) :
    cellarerref20_Order.k5 (orderL (ws.take i)) (noneOf (ws.take i)) (i : Int) rec b.vol b.file b.off b.len (p : Int) = a := by
  have ho := orderL_len (ws.take i)
  rw [List.length_take] at ho
  have hlen : (ws.take i).length = i := by simp; omega
  have h0 : ¬ ws[i].locs.length = 0 := fun h => by
    have := sortL_len ws[i].locs
    rw [hs] at this; simp only [List.length_cons] at this; omega
  simp only [cellarerref20_Order.k5, cellarerref20_Order.k3]
  rw [cut_ok (by omega) (by omega) (by omega), bd_mk, app_ok (by simp; omega), bd_mk, app_ok (by simp; omega), bd_mk, cut_ok (by omega) (by omega) (by omega), bd_mk, app_ok (by simp; omega), bd_mk, wr_succ (by omega)]
  simp only [Int.toNat_natCast, Int.toNat_zero, List.drop_zero, List.nil_append, List.take_length]
  rw [take_snoc' hi, noneOf_snoc, if_neg h0, List.append_nil, orderL, readsOf_snoc, hs, hlen] at hrec
  simp only at hrec
  rw [← isort_put _ _ p ?_ ?_] at hrec
  · exact hrec
  · intro e he
    have hw : e.want < (i : Int) := by
      obtain ⟨j, hj, _, _, hjw⟩ := (mem_readsOf _ _).1 ((mem_orderL _ _).1 (List.mem_of_mem_take he))
      rw [hlen] at hj; omega
    obtain ⟨n, hn, rfl⟩ := List.mem_iff_getElem.1 he
    rw [List.length_take] at hn
    have hn' : n < (orderL (ws.take i)).length := by show n < (isort ordRead _).length; omega
    have hp0 : 0 < p := by omega
    have hle : ¬ ordLoc b (orderL (ws.take i))[n].loc < 0 := by
      by_cases hnp : n = p - 1
      · subst hnp; exact h1 hp0
      · have := (List.pairwise_iff_getElem.1 (isort_rise ordRead_swo (readsOf (ws.take i)))) n (p - 1) hn' (by show p - 1 < (orderL (ws.take i)).length; omega) (by omega)
        rw [ordRead_lt] at this
        exact nlt_trans (h1 hp0) fun h => this (.inl h)
    rw [List.getElem_take] at hw ⊢
    rw [ordRead_lt]
    rintro (h | ⟨h, h'⟩)
    · exact hle h
    · simp only at h'; omega
  · intro e he
    have := h2 e he
    rw [ordRead_lt]
    rintro (h | ⟨h, h'⟩)
    · exact lt_asymm this h
    · simp only at h; rw [h] at this; exact lt_asymm this this
theorem order20_tail (ws : List Want) (hl : ws.length ≤ 1073741823) (i : Nat) (hi : i < ws.length) (rec : List Read × List Int × Int → Option (List Read × List Int)) (a : Option (List Read × List Int)) (b : Loc) (q : List Loc) (hs : sortL ws[i].locs = b :: q)
    (hrec : rec (orderL (ws.take (i + 1)), noneOf (ws.take (i + 1)), ((i + 1 : Nat) : Int)) = a) : cellarerref20_Order.k4 (orderL (ws.take i)) (noneOf (ws.take i)) (i : Int) rec b.vol b.file b.off b.len = a := by
  have ho := orderL_len (ws.take i)
  rw [List.length_take] at ho
  unfold cellarerref20_Order.k4
  refine loop_eq (S := Int) (σ := Unit) (fun j _ => (((orderL (ws.take i)).length - j : Nat) : Int)) (orderL (ws.take i)).length (fun j _ => ∀ e ∈ (orderL (ws.take i)).drop ((orderL (ws.take i)).length - j), ordLoc b e.loc < 0) _ (i0 := 0) (s0 := ()) (by simp) (Nat.zero_le _) (by simp) (by omega) ?_ ?_
  · intro rec2 j _ hj hI hrec2
    simp only [cellarerref20_Order.l6]
    have hp : 0 < (orderL (ws.take i)).length - j := by omega
    have hlt : (orderL (ws.take i)).length - j - 1 < (orderL (ws.take i)).length := by omega
    rw [show decide (0 < (((orderL (ws.take i)).length - j : Nat) : Int)) = true from decide_eq_true (by omega), only_t rfl, wr_pred hp (by omega), ix_lt hlt, bd_mk, only_t rfl, show Loc.mk b.vol b.file b.off b.len = b from rfl, ahead18_eq, bd_mk, Bool.true_and]
    by_cases h : ordLoc b ((orderL (ws.take i))[(orderL (ws.take i)).length - j - 1]).loc < 0
    · rw [if_t (decide_eq_true h)]
      refine hrec2 () fun e he => ?_
      rw [show (orderL (ws.take i)).length - (j + 1) = (orderL (ws.take i)).length - j - 1 by omega, List.drop_eq_getElem_cons hlt, show (orderL (ws.take i)).length - j - 1 + 1 = (orderL (ws.take i)).length - j by omega] at he
      rcases List.mem_cons.1 he with rfl | he
      · exact h
      · exact hI e he
    · rw [if_f (decide_eq_false h)]
      exact order20_put ws hl i hi rec a b q hs hrec _ (by omega) (fun _ => h) hI
  · intro rec2 _ hI
    simp only [cellarerref20_Order.l6]
    have h0 : (orderL (ws.take i)).length - (orderL (ws.take i)).length = 0 := Nat.sub_self _
    rw [h0] at hI
    rw [h0, show decide (0 < ((0 : Nat) : Int)) = false from rfl]
    simp only [only_f, bd_mk, Bool.false_and]
    rw [if_f (by rfl)]
    exact order20_put ws hl i hi rec a b q hs hrec 0 (Nat.zero_le _) (fun h => absurd h (Nat.lt_irrefl _)) hI
theorem order20_eq (ws : List Want) (hl : ws.length ≤ 1073741823) (hw : ∀ w ∈ ws, w.locs.length ≤ 1073741824) : cellarerref20_Order ws = some (orderL ws, noneOf ws) := by
  unfold cellarerref20_Order
  refine loop_eq (S := List Read × List Int × Int) (σ := Unit) (fun i _ => (orderL (ws.take i), noneOf (ws.take i), (i : Int))) ws.length (fun _ _ => True) _ (i0 := 0) (s0 := ()) rfl (Nat.zero_le _) trivial (by omega) ?_ ?_
  · intro rec i _ hi _ hrec
    have hn := noneOf_len (ws.take i)
    rw [List.length_take] at hn
    have hlen : (ws.take i).length = i := by simp; omega
    have hwi := hw ws[i] (List.getElem_mem hi)
    have hr := hrec () trivial
    simp only [cellarerref20_Order.l2]
    rw [if_t (lt_t hi), ix_lt hi, bd_mk]
    by_cases h0 : ws[i].locs.length = 0
    · have hs : sortL ws[i].locs = [] := List.eq_nil_of_length_eq_zero (by have := sortL_len ws[i].locs; omega)
      simp only [cellarerref20_Order.k3]
      rw [if_t (decide_eq_true (by omega)), app_ok (by simp; omega), bd_mk, wr_succ (by omega)]
      rw [take_snoc' hi, orderL, readsOf_snoc, noneOf_snoc, hs, if_pos h0, hlen, List.append_nil] at hr
      exact hr
    · obtain ⟨e, q, hs⟩ : ∃ e q, sortL ws[i].locs = e :: q := by
        have hp := sortL_pos (l := ws[i].locs) (by omega)
        match hq : sortL ws[i].locs with
        | [] => rw [hq] at hp; simp at hp
        | e :: q => exact ⟨e, q, rfl⟩
      have hpos : 0 < ws[i].locs.length := by omega
      rw [if_f (decide_eq_false (by omega)), bd_mk, show (0 : Int) = ((0 : Nat) : Int) from rfl, ix_lt hpos, bd_mk]
      refine loop_eq (S := Int × Int × Int × Int × Int) (σ := Loc) (fun k b => ((k : Int), b.vol, b.file, b.off, b.len)) ws[i].locs.length (fun k b => b ∈ ws[i].locs ∧ ∀ x ∈ ws[i].locs.take k, ¬ ordLoc x b < 0) _ (i0 := 1) (s0 := ws[i].locs[0]) rfl hpos ⟨List.getElem_mem hpos, ?_⟩ (by omega) ?_ ?_
      · intro x hx
        rw [show (1 : Nat) = 0 + 1 from rfl, take_snoc' hpos] at hx
        simp only [List.take_zero, List.nil_append, List.mem_singleton] at hx
        subst hx; exact ordLoc_self' _
      · intro rec2 k b hk hI hrec2
        simp only [cellarerref20_Order.l7, cellarerref20_Order.k8]
        rw [ix_lt hi, bd_mk, if_t (lt_t hk), bd_mk, ix_lt hk, bd_mk, show Loc.mk b.vol b.file b.off b.len = b from rfl, ahead18_eq, bd_mk]
        by_cases h : ordLoc ws[i].locs[k] b < 0
        · rw [if_t (decide_eq_true h), bd_mk, ix_lt hk, bd_mk, wr_succ (by omega)]
          refine hrec2 ws[i].locs[k] ⟨List.getElem_mem hk, fun x hx => ?_⟩
          rw [take_snoc' hk] at hx
          rcases List.mem_append.1 hx with hx | hx
          · exact nlt_trans (hI.2 x hx) (lt_asymm h)
          · rw [List.mem_singleton] at hx; subst hx; exact ordLoc_self' _
        · rw [if_f (decide_eq_false h), wr_succ (by omega)]
          refine hrec2 b ⟨hI.1, fun x hx => ?_⟩
          rw [take_snoc' hk] at hx
          rcases List.mem_append.1 hx with hx | hx
          · exact hI.2 x hx
          · rw [List.mem_singleton] at hx; subst hx; exact h
      · intro rec2 b hI
        simp only [cellarerref20_Order.l7]
        rw [ix_lt hi, bd_mk, if_f (lt_f (Nat.lt_irrefl _))]
        have hb : b = e := by
          refine loc_tot (head_least hs hI.1) ?_
          have hm := hI.2 e (by rw [List.take_length]; exact (mem_sortL _ _).1 (by rw [hs]; simp))
          exact hm
        subst hb
        exact order20_tail ws hl i hi rec _ b q hs hr
  · intro rec _ _
    simp only [cellarerref20_Order.l2, cellarerref20_Order.k1]
    rw [if_f (lt_f (Nat.lt_irrefl _)), List.take_length]
theorem planExact_true (ws : List Want) (xs : List Loc) (kw : okL Want.ok ws) (kx : okL Loc.ok xs) : cellarerlaw21_PlanExact ws xs = some true := by
  obtain ⟨b, hb1, hb2⟩ := heavy_spec ws
  unfold cellarerlaw21_PlanExact
  rw [hb1, bd_mk]
  by_cases hh : (b || decide (60 < (xs.length : Int))) = true
  · rw [if_t hh]
  have hh' : (b || decide (60 < (xs.length : Int))) = false := by simpa using hh
  rw [if_f hh']
  simp only [Bool.or_eq_false_iff, decide_eq_false_iff_not] at hh'
  obtain ⟨hbf, h60⟩ := hh'
  obtain ⟨hw60, hw40⟩ := hb2 hbf
  have ho := orderL_len ws
  have hnl := noneOf_len ws
  have hsl := sortL_len xs
  have hvl := volsL_len (orderL ws)
  rw [twin_eq xs (by omega), bd_mk]
  refine loop_eq (S := Int) (σ := Unit) (fun i _ => (i : Int)) (xs.length - 1) (fun _ _ => True) _ (i0 := 0) (s0 := ()) rfl (Nat.zero_le _) trivial (by omega) ?_ ?_
  · intro rec i _ hi _ hrec
    simp only [cellarerlaw21_PlanExact.l6]
    rw [wr_succ (by omega), if_t (lt_t (show i + 1 < xs.length by omega)), ix_lt (show i < xs.length by omega), bd_mk, ix_lt (show i + 1 < xs.length by omega), bd_mk, ahead_eq, bd_mk, ahead18_eq, bd_mk, if_f (by simp)]
    exact hrec () trivial
  intro rec _ _
  simp only [cellarerlaw21_PlanExact.l6, cellarerlaw21_PlanExact.k1]
  obtain ⟨ys, hys⟩ := spoil_some (sortL xs) (by omega)
  rw [wr_succ (by omega), if_f (lt_f (show ¬ xs.length - 1 + 1 < xs.length by omega)), sort_eq _ (by omega), bd_mk, sort20_eq _ (by omega), bd_mk, keepLocs_self _ (by omega), bd_mk, only_t (by rfl), keepLocs_self _ (by omega), bd_mk, if_f (by rfl), hys, bd_mk]
  refine loop_eq (S := List Want × Int) (σ := Unit) (fun i _ => (ws.take i, (i : Int))) ws.length (fun _ _ => True) _ (i0 := 0) (s0 := ()) rfl (Nat.zero_le _) trivial (by omega) ?_ ?_
  · intro rec2 i _ hi _ hrec
    simp only [cellarerlaw21_PlanExact.l5]
    have h40 := hw40 ws[i] (List.getElem_mem hi)
    rw [if_t (lt_t hi), ix_lt hi, bd_mk, twin_eq _ (by omega), bd_mk, show Want.mk ws[i].id ws[i].locs = ws[i] from rfl, app_ok (by simp; omega), bd_mk, ← take_snoc' hi, wr_succ (by omega)]
    exact hrec () trivial
  intro rec2 _ _
  simp only [cellarerlaw21_PlanExact.l5, cellarerlaw21_PlanExact.k2]
  have hw' : ∀ w ∈ ws, w.locs.length ≤ 1073741824 := fun w h => by have := hw40 w h; omega
  rw [if_f (lt_f (Nat.lt_irrefl _)), List.take_length, planOrder_eq _ (by omega) hw', bd_mk, order20_eq _ (by omega) hw', bd_mk, keepReads_self _ (by simp only; omega), bd_mk]
  simp only [Bool.not_true, Bool.not_false, Bool.false_or, only_t]
  rw [keepInts_self _ (by omega), bd_mk]
  simp only [Bool.not_true, Bool.not_false, Bool.false_or, only_t]
  rw [vols_eq _ (by omega), bd_mk, vols20_eq _ (by omega), bd_mk, keepInts_self _ (by omega), bd_mk]
  simp only [Bool.not_true, Bool.not_false, Bool.false_or, only_t]
  rw [keepLocs_self _ (by omega), bd_mk, if_f (by rfl)]
  refine loop_eq (S := Int) (σ := Unit) (fun i _ => (i : Int)) ws.length (fun _ _ => True) _ (i0 := 0) (s0 := ()) rfl (Nat.zero_le _) trivial (by omega) ?_ ?_
  · intro rec3 i _ hi _ hrec
    simp only [cellarerlaw21_PlanExact.l4]
    have h40 := hw40 ws[i] (List.getElem_mem hi)
    rw [if_t (lt_t hi), ix_lt hi, bd_mk, bd_mk, keepLocs_self _ (by omega), bd_mk, if_f (by rfl), wr_succ (by omega)]
    exact hrec () trivial
  · intro rec3 _ _
    simp only [cellarerlaw21_PlanExact.l4, cellarerlaw21_PlanExact.k3]
    rw [if_f (lt_f (Nat.lt_irrefl _)), wakes_true, bd_mk]
end Go.Wk.Lf
