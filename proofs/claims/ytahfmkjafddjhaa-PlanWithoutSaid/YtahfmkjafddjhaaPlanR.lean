/- The law PlanRises, plainly. -/
import Derived.Test.YtahfmkjafddjhaaPlanQ
import Derived.Test.YtahfmkjafddjhaaLfO
namespace Go.Wk.Lf
open Go.Shelf Go.Sort
set_option linter.unusedVariables false

theorem ahead_eq (a b : Loc) : plan_Ahead a b = some (decide (ordLoc a b < 0)) := by unfold plan_Ahead; rw [order_eq, bd_mk]
theorem keepLoc_eq (a b : Loc) : cellarerkeep_Loc a b = some (decide (a = b)) := by
  unfold cellarerkeep_Loc
  congr 1
  cases a; cases b
  simp only [Loc.mk.injEq]
  rw [Bool.eq_iff_iff]
  simp [and_assoc]
theorem mem_readsOf (ws : List Want) (r : Read) : r ∈ readsOf ws ↔ ∃ (i : Nat) (h : i < ws.length) (q : List Loc), sortL ws[i].locs = r.loc :: q ∧ r.want = (i : Int) := by
  refine snoc_ind (p := fun ws => r ∈ readsOf ws ↔ ∃ (i : Nat) (h : i < ws.length) (q : List Loc), sortL ws[i].locs = r.loc :: q ∧ r.want = (i : Int)) (by simp [readsOf]) (fun l y ih => ?_) ws
  rw [readsOf_snoc, List.mem_append, ih]
  constructor
  · rintro (⟨i, h, q, h1, h2⟩ | h)
    · exact ⟨i, by simp; omega, q, by rw [List.getElem_append_left h]; exact h1, h2⟩
    · split at h
      · simp at h
      · rename_i e q hs
        simp at h
        subst h
        exact ⟨l.length, by simp, q, by simpa using hs, rfl⟩
  · rintro ⟨i, h, q, h1, h2⟩
    by_cases hi : i < l.length
    · left; rw [List.getElem_append_left hi] at h1; exact ⟨i, hi, q, h1, h2⟩
    · right
      have hil : i = l.length := by simp at h; omega
      subst hil
      simp at h1
      rw [h1]
      simp only [List.mem_singleton]
      cases r; simp only at h2 ⊢; rw [h2]
theorem mem_noneOf (ws : List Want) (x : Int) : x ∈ noneOf ws ↔ ∃ (i : Nat) (h : i < ws.length), ws[i].locs.length = 0 ∧ x = (i : Int) := by
  refine snoc_ind (p := fun ws => x ∈ noneOf ws ↔ ∃ (i : Nat) (h : i < ws.length), ws[i].locs.length = 0 ∧ x = (i : Int)) (by simp [noneOf]) (fun l y ih => ?_) ws
  rw [noneOf_snoc, List.mem_append, ih]
  constructor
  · rintro (⟨i, h, h1, h2⟩ | h)
    · exact ⟨i, by simp; omega, by rw [List.getElem_append_left h]; exact h1, h2⟩
    · split at h
      · rename_i hs
        simp at h
        subst h
        exact ⟨l.length, by simp, by simpa using hs, rfl⟩
      · simp at h
  · rintro ⟨i, h, h1, h2⟩
    by_cases hi : i < l.length
    · left; rw [List.getElem_append_left hi] at h1; exact ⟨i, hi, h1, h2⟩
    · right
      have hil : i = l.length := by simp at h; omega
      subst hil
      simp at h1
      rw [if_pos (by simp [h1])]; simp [h2]
theorem noneOf_rise (ws : List Want) : (noneOf ws).Pairwise (· < ·) := by
  refine snoc_ind (p := fun ws => (noneOf ws).Pairwise (· < ·)) (by simp [noneOf]) (fun l y ih => ?_) ws
  rw [noneOf_snoc]
  refine List.pairwise_append.2 ⟨ih, by split <;> simp, fun a ha b hb => ?_⟩
  obtain ⟨i, h, _, rfl⟩ := (mem_noneOf l a).1 ha
  split at hb
  · simp at hb; subst hb; omega
  · simp at hb
theorem cnt_one (ws : List Want) (j : Nat) : (readsOf ws).countP (fun r => decide (r.want = (j : Int))) + (noneOf ws).countP (fun x => decide (x = (j : Int))) = if j < ws.length then 1 else 0 := by
  refine snoc_ind (p := fun ws => (readsOf ws).countP (fun r => decide (r.want = (j : Int))) + (noneOf ws).countP (fun x => decide (x = (j : Int))) = if j < ws.length then 1 else 0) (by simp [readsOf, noneOf]) (fun l y ih => ?_) ws
  rw [readsOf_snoc, noneOf_snoc, List.countP_append, List.countP_append, List.length_append, List.length_singleton]
  by_cases h0 : y.locs.length = 0
  · have hs : sortL y.locs = [] := List.eq_nil_of_length_eq_zero (by have := sortL_len y.locs; omega)
    rw [hs, if_pos h0]
    simp only [List.countP_nil, List.countP_cons, decide_eq_true_eq]
    split at ih <;> split <;> (try split) <;> omega
  · have hp := sortL_pos (l := y.locs) (by omega)
    obtain ⟨e, q, hs⟩ : ∃ e q, sortL y.locs = e :: q := by
      match hq : sortL y.locs with
      | [] => rw [hq] at hp; simp at hp
      | e :: q => exact ⟨e, q, rfl⟩
    rw [hs, if_neg h0]
    simp only [List.countP_nil, List.countP_cons, decide_eq_true_eq]
    split at ih <;> split <;> (try split) <;> omega
theorem head_least {l q : List Loc} {e x : Loc} (h : sortL l = e :: q) (hx : x ∈ l) : ¬ ordLoc x e < 0 := by
  have h1 := sortL_lt l
  rw [h] at h1
  have h2 := (mem_sortL l x).2 hx
  rw [h] at h2
  have irr := ordLoc_swo.irrefl
  have tr := ordLoc_swo.trans
  rcases List.mem_cons.1 h2 with rfl | h2
  · intro hc; have := irr x; rw [lt_loc] at this; simp at this; omega
  · intro hc
    have h3 := (List.pairwise_cons.1 h1).1 x h2
    have := tr e x e (by rw [lt_loc]; simpa using h3) (by rw [lt_loc]; simpa using hc)
    rw [irr] at this; cases this
theorem orderL_perm (ws : List Want) : (orderL ws).Perm (readsOf ws) := isort_perm _ _
theorem mem_orderL (ws : List Want) (r : Read) : r ∈ orderL ws ↔ r ∈ readsOf ws := (orderL_perm ws).mem_iff
/-- counts, as the law keeps them -/
def counts (n : Nat) (rs : List Read) (xs : List Int) : List Int := (List.range n).map fun (j : Nat) => ((rs.countP (fun r => decide (r.want = (j : Int))) + xs.countP (fun x => decide (x = (j : Int))) : Nat) : Int)
theorem counts_len (n : Nat) (rs : List Read) (xs : List Int) : (counts n rs xs).length = n := by simp [counts]
theorem counts_at {n : Nat} {rs : List Read} {xs : List Int} {j : Nat} (h : j < n) : (counts n rs xs)[j]'(by rw [counts_len]; exact h) = ((rs.countP (fun r => decide (r.want = (j : Int))) + xs.countP (fun x => decide (x = (j : Int))) : Nat) : Int) := by simp [counts]
theorem counts_read {n : Nat} {rs : List Read} {xs : List Int} {r : Read} {i : Nat} (hi : i < n) (hr : r.want = (i : Int)) : (counts n rs xs).set i (((rs.countP (fun r => decide (r.want = (i : Int))) + xs.countP (fun x => decide (x = (i : Int))) : Nat) : Int) + 1) = counts n (rs ++ [r]) xs := by
  apply List.ext_getElem (by simp [counts])
  intro j h1 h2
  rw [counts_len] at h2
  rw [List.getElem_set, counts_at (rs := rs ++ [r]) h2, List.countP_append]
  split
  · rename_i h; subst h; simp [hr]; omega
  · rename_i h
    rw [counts_at (rs := rs) h2]
    have : ¬ (i : Int) = (j : Int) := by omega
    simp [hr, this]
theorem counts_none {n : Nat} {rs : List Read} {xs : List Int} {x : Int} {i : Nat} (hi : i < n) (hx : x = (i : Int)) : (counts n rs xs).set i (((rs.countP (fun r => decide (r.want = (i : Int))) + xs.countP (fun x => decide (x = (i : Int))) : Nat) : Int) + 1) = counts n rs (xs ++ [x]) := by
  apply List.ext_getElem (by simp [counts])
  intro j h1 h2
  rw [counts_len] at h2
  rw [List.getElem_set, counts_at (xs := xs ++ [x]) h2, List.countP_append]
  split
  · rename_i h; subst h; simp [hx]; omega
  · rename_i h
    rw [counts_at (xs := xs) h2]
    have : ¬ (i : Int) = (j : Int) := by omega
    simp [hx, this]
/-- the volumes' part -/
theorem rises_vols (rs : List Read) (hl : rs.length ≤ 1000) (hs : rs.Pairwise fun a b => a.loc.vol ≤ b.loc.vol) (nn : List Int) : cellarerlaw21_PlanRises.k3 (rs, nn) = some true := by
  unfold cellarerlaw21_PlanRises.k3
  rw [vols_eq _ (show rs.length ≤ _ by omega), bd_mk]
  have hvl := volsL_len rs
  have hvr := volsL_rise rs hs
  have hmem : ∀ t (h : t < rs.length), ∃ (j : Nat) (hj : j < (volsL rs).length), (volsL rs)[j] = rs[t].loc.vol := fun t h => by
    obtain ⟨j, hj, he⟩ := List.mem_iff_getElem.1 ((mem_volsL rs _).2 ⟨rs[t], List.getElem_mem h, rfl⟩)
    exact ⟨j, hj, he⟩
  have hlt : ∀ i j (hi : i < (volsL rs).length) (hj : j < (volsL rs).length), i < j → (volsL rs)[i] < (volsL rs)[j] := fun i j hi hj hij => (List.pairwise_iff_getElem.1 hvr) i j hi hj hij
  have hrs : ∀ i j (hi : i < rs.length) (hj : j < rs.length), i ≤ j → rs[i].loc.vol ≤ rs[j].loc.vol := fun i j hi hj hij => by
    by_cases e : i = j
    · subst e; exact Int.le_refl _
    · exact (List.pairwise_iff_getElem.1 hs) i j hi hj (by omega)
  refine loop_eq (S := Int × Int) (σ := Nat) (fun i a => ((a : Int), (i : Int))) (volsL rs).length (fun i a => a ≤ rs.length ∧ ∀ t (h : t < rs.length), t < a ↔ ∃ (j : Nat) (hj : j < (volsL rs).length), j < i ∧ (volsL rs)[j] = rs[t].loc.vol) _ (i0 := 0) (s0 := 0) rfl (Nat.zero_le _) ⟨Nat.zero_le _, fun t h => ⟨fun h => by omega, fun ⟨j, _, h, _⟩ => by omega⟩⟩ (by omega) ?_ ?_
  · rintro rec i a hi ⟨ha, hI⟩ hrec
    simp only [cellarerlaw21_PlanRises.l5]
    rw [if_t (lt_t hi)]
    -- what is not in the volumes so far is at least this one
    have hge : ∀ t (h : t < rs.length), a ≤ t → (volsL rs)[i] ≤ rs[t].loc.vol := fun t h hat => by
      obtain ⟨j, hj, he⟩ := hmem t h
      have : ¬ j < i := fun hji => by have := (hI t h).2 ⟨j, hj, hji, he⟩; omega
      rw [← he]
      by_cases e : i = j
      · subst e; exact Int.le_refl _
      · exact Int.le_of_lt (hlt i j hi hj (by omega))
    refine loop_rule (fun s => ∃ b : Nat, s = (b : Int) ∧ a ≤ b ∧ b ≤ rs.length ∧ ∀ t (h : t < rs.length), a ≤ t → t < b → rs[t].loc.vol = (volsL rs)[i]) (fun s => rs.length - s.toNat) (fun _ => some true) ⟨a, rfl, Nat.le_refl _, ha, fun t _ h1 h2 => by omega⟩ (by simp; omega) ?_
    rintro rec2 s ⟨b, rfl, hab, hbl, hb⟩ hrec2
    simp only [cellarerlaw21_PlanRises.l8, cellarerlaw21_PlanRises.k7, cellarerlaw21_PlanRises.k6]
    have hstop : (∀ h : b < rs.length, rs[b].loc.vol ≠ (volsL rs)[i]) → (if decide ((b : Int) = (a : Int)) = true then some false else rec ((b : Int), wr ((i : Int) + 1))) = some true := by
      intro hne
      obtain ⟨r0, hr0, he0⟩ := (mem_volsL rs _).1 (List.getElem_mem hi)
      obtain ⟨t0, ht0, rfl⟩ := List.mem_iff_getElem.1 hr0
      have hat0 : a ≤ t0 := by
        rcases Nat.lt_or_ge t0 a with h | h
        · obtain ⟨j, hj, hji, he⟩ := (hI t0 ht0).1 h
          have := hlt j i hj hi hji
          omega
        · exact h
      have hbt : t0 < b := by
        rcases Nat.lt_or_ge t0 b with h | h
        · exact h
        · have h1 := hrs b t0 (by omega) ht0 h
          have h2 := hge b (by omega) hab
          have := hne (by omega)
          omega
      rw [if_f (decide_eq_false (by omega)), wr_succ (by omega)]
      refine hrec b ⟨hbl, fun t h => ⟨fun htb => ?_, fun ⟨j, hj, hji, he⟩ => ?_⟩⟩
      · by_cases hta : t < a
        · obtain ⟨j, hj, hji, he⟩ := (hI t h).1 hta; exact ⟨j, hj, by omega, he⟩
        · exact ⟨i, hi, by omega, (hb t h (by omega) htb).symm⟩
      · by_cases hji' : j < i
        · have := (hI t h).2 ⟨j, hj, hji', he⟩; omega
        · have hij : j = i := by omega
          subst hij
          rcases Nat.lt_or_ge t b with h' | h'
          · exact h'
          · have h1 := hrs b t (by omega) h h'
            have h2 := hge b (by omega) hab
            have := hne (by omega)
            omega
    by_cases hbr : b < rs.length
    · rw [lt_t hbr, only_t rfl, only_t rfl, ix_lt hbr, bd_mk, ix_lt hi, bd_mk]
      by_cases he : rs[b].loc.vol = (volsL rs)[i]
      · rw [if_t (by simp [he]), wr_succ (by omega)]
        refine hrec2 _ ⟨b + 1, rfl, by omega, by omega, fun t h h1 h2 => ?_⟩ (by simp; omega)
        by_cases e : t = b
        · subst e; exact he
        · exact hb t h h1 (by omega)
      · rw [if_f (by simp [he])]
        exact hstop fun _ => he
    · rw [lt_f hbr, only_f rfl, only_f rfl, bd_mk, bd_mk, if_f (by rfl)]
      exact hstop fun h => absurd h hbr
  · rintro rec a ⟨ha, hI⟩
    simp only [cellarerlaw21_PlanRises.l5, cellarerlaw21_PlanRises.k4]
    have hal : a = rs.length := by
      rcases Nat.lt_or_ge a rs.length with h | h
      · obtain ⟨j, hj, he⟩ := hmem a h
        have := (hI a h).2 ⟨j, hj, hj, he⟩
        omega
      · omega
    subst hal
    rw [if_f (lt_f (Nat.lt_irrefl _)), decide_eq_true rfl, only_t rfl, wakes_true, bd_mk]; rfl
theorem planRises_true (ws : List Want) (kw : okL Want.ok ws) : cellarerlaw21_PlanRises ws = some true := by
  obtain ⟨b, hb1, hb2⟩ := heavy_spec ws
  unfold cellarerlaw21_PlanRises
  rw [hb1, bd_mk]
  cases b with
  | true => rfl
  | false =>
  obtain ⟨hw60, hw40⟩ := hb2 rfl
  have ho := orderL_len ws
  have hnl := noneOf_len ws
  rw [if_f rfl, planOrder_eq ws (by omega) (fun w hw => by have := hw40 w hw; omega), bd_mk, rep_ok (by omega) (by omega), bd_mk, Int.toNat_natCast]
  have h0 : List.replicate ws.length (0 : Int) = counts ws.length ((orderL ws).take 0) [] := by
    apply List.ext_getElem (by simp [counts])
    intro j h1 h2; simp [counts]
  rw [h0]
  have hcle : ∀ (rs : List Read) (xs : List Int) (j : Nat), rs.countP (fun r => decide (r.want = (j : Int))) + xs.countP (fun x => decide (x = (j : Int))) ≤ rs.length + xs.length := fun rs xs j => Nat.add_le_add List.countP_le_length List.countP_le_length
  -- the reads
  refine loop_eq (S := Int × List Int) (σ := Unit) (fun k _ => ((k : Int), counts ws.length ((orderL ws).take k) [])) (orderL ws).length (fun _ _ => True) _ (i0 := 0) (s0 := ()) rfl (Nat.zero_le _) trivial (by omega) ?_ ?_
  · intro rec k _ hk _ hrec
    simp only [cellarerlaw21_PlanRises.l11]
    have hm := (mem_readsOf ws _).1 ((mem_orderL ws _).1 (List.getElem_mem hk))
    obtain ⟨i, hi, q, hs, hwant⟩ := hm
    have g1 : decide ((orderL ws)[k].want < 0) = false := decide_eq_false (by omega)
    have g2 : decide ((ws.length : Int) ≤ (orderL ws)[k].want) = false := decide_eq_false (by omega)
    rw [if_t (lt_t hk), ix_lt hk, bd_mk, g1, g2]
    have hprev : ∀ h : 0 < k, ¬ ordLoc (orderL ws)[k].loc ((orderL ws)[k - 1]'(by omega)).loc < 0 := fun h hc => by
      have := (List.pairwise_iff_getElem.1 (isort_rise ordRead_swo (readsOf ws))) (k - 1) k (by show k - 1 < (orderL ws).length; omega) hk (by omega)
      exact this ((ordRead_lt _ _).2 (.inl hc))
    have step : (bd (ix (counts ws.length ((orderL ws).take k) []) (orderL ws)[k].want) fun x489 => loop (cellarerlaw21_PlanRises.l14 ws (orderL ws, noneOf ws) (k : Int) (counts ws.length ((orderL ws).take k) []) rec (orderL ws)[k] x489) (false, 0)) = some true := by
      have hci : i < (counts ws.length ((orderL ws).take k) []).length := by rw [counts_len]; exact hi
      rw [ix_at hwant hci, bd_mk, counts_at hi]
      refine loop_eq (S := Bool × Int) (σ := Unit) (fun t _ => ((ws[i].locs.take t).any (fun x => decide (x = (orderL ws)[k].loc)), (t : Int))) ws[i].locs.length (fun _ _ => True) _ (i0 := 0) (s0 := ()) rfl (Nat.zero_le _) trivial (by have := hw40 _ (List.getElem_mem hi); omega) ?_ ?_
      · intro rec2 t _ ht _ hrec2
        have hl40 := hw40 _ (List.getElem_mem hi)
        simp only [cellarerlaw21_PlanRises.l14]
        rw [ix_at hwant hi, bd_mk, if_t (lt_t ht), ix_lt hk, wr_succ (by omega)]
        have hle := head_least hs (List.getElem_mem ht)
        have h2 := hrec2 () trivial
        rw [take_snoc' ht, List.any_append] at h2
        cases hf : (ws[i].locs.take t).any (fun x => decide (x = (orderL ws)[k].loc)) with
        | true =>
          rw [hf] at h2
          simp only [Bool.not_true, only_f, bd_mk, Bool.true_or] at h2 ⊢
          rw [ix_lt ht]
          simp only [bd_mk, ahead_eq]
          rw [if_f (decide_eq_false hle)]
          exact h2
        | false =>
          rw [hf] at h2
          simp only [Bool.not_false, only_t, bd_mk, Bool.false_or] at h2 ⊢
          rw [ix_lt ht]
          simp only [bd_mk, keepLoc_eq, ahead_eq]
          rw [if_f (decide_eq_false hle)]
          simpa using h2
      · intro rec2 _ _
        simp only [cellarerlaw21_PlanRises.l14, cellarerlaw21_PlanRises.k13, cellarerlaw21_PlanRises.k12]
        have hfound : ws[i].locs.any (fun x => decide (x = (orderL ws)[k].loc)) = true :=
          List.any_eq_true.2 ⟨(orderL ws)[k].loc, (mem_sortL _ _).1 (by rw [hs]; simp), by simp⟩
        have hcl := hcle ((orderL ws).take k) [] i
        rw [List.length_take] at hcl
        rw [ix_at hwant hi, bd_mk, if_f (lt_f (Nat.lt_irrefl _)), List.take_length, hfound, if_f (by rfl), wr_succ (by omega), wr_id (by simp only [List.length_nil] at hcl; omega) (by simp only [List.length_nil] at hcl; omega), hwant, Int.toNat_natCast, counts_read hi hwant, ← take_snoc' hk]
        exact hrec () trivial
    by_cases hk0 : 0 < k
    · rw [show decide (0 < (k : Int)) = true from decide_eq_true (by omega)]
      simp only [Bool.or_false, Bool.not_false, Bool.and_self, Bool.false_or, Bool.true_and]
      rw [only_t rfl, only_t rfl, bd_mk, wr_pred hk0 (by omega), ix_lt (show k - 1 < (orderL ws).length by omega), bd_mk, only_t rfl, ahead_eq, bd_mk, if_f (decide_eq_false (hprev hk0))]
      exact step
    · rw [show decide (0 < (k : Int)) = false from decide_eq_false (by omega)]
      simp only [Bool.or_false, Bool.not_false, Bool.and_false, Bool.false_and]
      rw [only_f rfl, only_f rfl, bd_mk, bd_mk, only_f rfl, bd_mk, if_f rfl]
      exact step
  intro rec _ _
  simp only [cellarerlaw21_PlanRises.l11, cellarerlaw21_PlanRises.k1]
  rw [if_f (lt_f (Nat.lt_irrefl _)), List.take_length]
  -- what is nowhere
  refine loop_eq (S := Int × List Int) (σ := Unit) (fun k _ => ((k : Int), counts ws.length (orderL ws) ((noneOf ws).take k))) (noneOf ws).length (fun _ _ => True) _ (i0 := 0) (s0 := ()) rfl (Nat.zero_le _) trivial (by omega) ?_ ?_
  · intro rec2 k _ hk _ hrec
    simp only [cellarerlaw21_PlanRises.l10]
    obtain ⟨i, hi, h00, hx⟩ := (mem_noneOf ws _).1 (List.getElem_mem hk)
    have g1 : decide ((noneOf ws)[k] < 0) = false := decide_eq_false (by omega)
    have g2 : decide ((ws.length : Int) ≤ (noneOf ws)[k]) = false := decide_eq_false (by omega)
    have g3 : decide (0 < (ws[i].locs.length : Int)) = false := decide_eq_false (by omega)
    have hcl := hcle (orderL ws) ((noneOf ws).take k) i
    rw [List.length_take] at hcl
    have hci : i < (counts ws.length (orderL ws) ((noneOf ws).take k)).length := by rw [counts_len]; exact hi
    have step : (bd (ix (counts ws.length (orderL ws) ((noneOf ws).take k)) (noneOf ws)[k]) fun x353 => rec2 (wr ((k : Int) + 1), (counts ws.length (orderL ws) ((noneOf ws).take k)).set (noneOf ws)[k].toNat (wr (x353 + 1)))) = some true := by
      rw [ix_at hx hci, bd_mk, counts_at hi, wr_succ (by omega), wr_id (by omega) (by omega), hx, Int.toNat_natCast, counts_none hi hx, ← take_snoc' hk]
      exact hrec () trivial
    rw [if_t (lt_t hk), ix_lt hk, bd_mk, g1]
    simp only [Bool.not_false, Bool.false_or]
    rw [only_t rfl, bd_mk, g2]
    simp only [Bool.not_false, Bool.false_or]
    rw [only_t rfl, bd_mk, only_t rfl, ix_at hx hi, bd_mk, g3]
    simp only [Bool.not_false, Bool.true_and, Bool.false_or]
    by_cases hk0 : 0 < k
    · rw [show decide (0 < (k : Int)) = true from decide_eq_true (by omega), only_t rfl, only_t rfl, bd_mk, wr_pred hk0 (by omega), ix_lt (show k - 1 < (noneOf ws).length by omega), bd_mk, if_f, bd_mk]
      · exact step
      · have := (List.pairwise_iff_getElem.1 (noneOf_rise ws)) (k - 1) k (by omega) hk (by omega)
        simp only [Bool.true_and, decide_eq_false_iff_not]; omega
    · rw [show decide (0 < (k : Int)) = false from decide_eq_false (by omega), only_f rfl, only_f rfl, bd_mk, bd_mk, if_f (Bool.false_and _), bd_mk]
      exact step
  intro rec2 _ _
  simp only [cellarerlaw21_PlanRises.l10, cellarerlaw21_PlanRises.k2]
  rw [if_f (lt_f (Nat.lt_irrefl _)), List.take_length]
  have hcl : (counts ws.length (orderL ws) (noneOf ws)).length = ws.length := counts_len _ _ _
  refine loop_eq (S := Int) (σ := Unit) (fun j _ => (j : Int)) ws.length (fun _ _ => True) _ (i0 := 0) (s0 := ()) rfl (Nat.zero_le _) trivial (by omega) ?_ ?_
  · intro rec3 j _ hj _ hrec
    simp only [cellarerlaw21_PlanRises.l9]
    rw [hcl, if_t (lt_t hj), ix_lt (show j < _ by omega), bd_mk, counts_at hj, if_f, wr_succ (by omega)]
    · exact hrec () trivial
    · have h1 := cnt_one ws j
      rw [if_pos hj] at h1
      rw [(orderL_perm ws).countP_eq, h1]; rfl
  · intro rec3 _ _
    simp only [cellarerlaw21_PlanRises.l9]
    rw [hcl, if_f (lt_f (Nat.lt_irrefl _))]
    exact rises_vols _ (by omega) (orderL_vol ws) _
end Go.Wk.Lf
