/- The law PlanWithout, plainly. -/
import Derived.Test.YtahfmkjafddjhaaPlanT
namespace Go.Wk.Lf
open Go.Shelf Go.Sort
set_option linter.unusedVariables false

theorem sortL_self {l : List Loc} (h : l.Pairwise (fun x y => ordLoc x y < 0)) : sortL l = l := strict_unique (sortL_lt l) h fun x => mem_sortL l x
/-- what is left behind so many rounds -/
def nowR (d : Nat) (ws : List Want) : List Want := ws.map fun w => { w with locs := (sortL w.locs).drop d }
theorem nowR_len (d : Nat) (ws : List Want) : (nowR d ws).length = ws.length := by simp [nowR]
theorem nowR_sorted {d : Nat} {ws : List Want} {w : Want} (h : w ∈ nowR d ws) : sortL w.locs = w.locs := by
  obtain ⟨v, _, rfl⟩ := List.mem_map.1 h
  exact sortL_self ((sortL_lt v.locs).sublist (List.drop_sublist _ _))
def mostOf (ws : List Want) : Nat := ws.foldl (fun m w => max m (sortL w.locs).length) 0
theorem mostOf_snoc (ws : List Want) (w : Want) : mostOf (ws ++ [w]) = max (mostOf ws) (sortL w.locs).length := by simp [mostOf]
theorem foldMax_le (ws : List Want) : ∀ m, m ≤ ws.foldl (fun m w => max m (sortL w.locs).length) m := by
  induction ws with
  | nil => intro m; exact Nat.le_refl m
  | cons w ws ih => intro m; exact Nat.le_trans (Nat.le_max_left _ _) (ih _)
theorem le_foldMax (ws : List Want) : ∀ m, ∀ w ∈ ws, (sortL w.locs).length ≤ ws.foldl (fun m w => max m (sortL w.locs).length) m := by
  induction ws with
  | nil => intro m w h; simp at h
  | cons v ws ih =>
    intro m w h
    rcases List.mem_cons.1 h with rfl | h
    · exact Nat.le_trans (Nat.le_max_right _ _) (foldMax_le ws _)
    · exact ih _ w h
theorem foldMax_is (ws : List Want) : ∀ m, ws.foldl (fun m w => max m (sortL w.locs).length) m = m ∨ ∃ w ∈ ws, (sortL w.locs).length = ws.foldl (fun m w => max m (sortL w.locs).length) m := by
  induction ws with
  | nil => intro m; exact .inl rfl
  | cons v ws ih =>
    intro m
    rcases ih (max m (sortL v.locs).length) with h | ⟨w, hw, he⟩
    · simp only [List.foldl_cons]
      rw [h]
      rcases Nat.le_total m (sortL v.locs).length with h1 | h1
      · exact .inr ⟨v, by simp, (Nat.max_eq_right h1).symm⟩
      · exact .inl (Nat.max_eq_left h1)
    · exact .inr ⟨w, by simp [hw], he⟩
theorem mostOf_le {ws : List Want} {n : Nat} (h : ∀ w ∈ ws, w.locs.length ≤ n) : mostOf ws ≤ n := by
  rcases foldMax_is ws 0 with h1 | ⟨w, hw, h1⟩
  · show ws.foldl _ 0 ≤ n; rw [h1]; omega
  · show ws.foldl _ 0 ≤ n; rw [← h1]; exact Nat.le_trans (sortL_len _) (h w hw)
/-- the reads behind k of them: of each that was read its first place is left out -/
def outOf (R : List Read) (ws : List Want) : List Want := ws.zipIdx.map fun p => if R.any (fun r => decide (r.want = (p.2 : Int))) then { p.1 with locs := p.1.locs.drop 1 } else p.1
theorem outOf_len (R : List Read) (ws : List Want) : (outOf R ws).length = ws.length := by simp [outOf]
theorem outOf_at (R : List Read) (ws : List Want) (i : Nat) (h : i < ws.length) : (outOf R ws)[i]'(by rw [outOf_len]; exact h) = if R.any (fun r => decide (r.want = (i : Int))) then { ws[i] with locs := ws[i].locs.drop 1 } else ws[i] := by simp [outOf]
theorem outOf_nil (ws : List Want) : outOf [] ws = ws := by
  refine List.ext_getElem (outOf_len _ _) fun i h1 h2 => ?_
  rw [outOf_at _ _ _ h2]; rfl
theorem outOf_step {R : List Read} {r : Read} {ws : List Want} {i : Nat} (h : i < ws.length) (hr : r.want = (i : Int)) (hn : R.any (fun r => decide (r.want = (i : Int))) = false) : (outOf R ws).set i { ws[i] with locs := ws[i].locs.drop 1 } = outOf (R ++ [r]) ws := by
  refine List.ext_getElem (by simp [outOf_len]) fun j h1 h2 => ?_
  have hj : j < ws.length := by simpa [outOf_len] using h1
  rw [List.getElem_set, outOf_at _ _ _ hj, outOf_at _ _ _ hj, List.any_append]
  by_cases e : i = j
  · subst e; simp [hr]
  · rw [if_neg e]
    have : decide (r.want = (j : Int)) = false := decide_eq_false (by omega)
    simp [this]
theorem wants_once (ws : List Want) (k : Nat) (hk : k < (orderL ws).length) : ((orderL ws).take k).any (fun r => decide (r.want = (orderL ws)[k].want)) = false := by
  obtain ⟨i, hi, q, _, hw⟩ := (mem_readsOf ws _).1 ((mem_orderL ws _).1 (List.getElem_mem hk))
  have h1 := cnt_one ws i
  rw [if_pos hi, ← (orderL_perm ws).countP_eq] at h1
  have hs : orderL ws = (orderL ws).take k ++ (orderL ws)[k] :: (orderL ws).drop (k + 1) := by rw [← List.drop_eq_getElem_cons hk, List.take_append_drop]
  rw [hw]
  cases ha : ((orderL ws).take k).any (fun r => decide (r.want = (i : Int))) with
  | false => rfl
  | true =>
    obtain ⟨r, hr, hd⟩ := List.any_eq_true.1 ha
    have hp : 0 < ((orderL ws).take k).countP (fun r => decide (r.want = (i : Int))) := List.countP_pos_iff.2 ⟨r, hr, hd⟩
    rw [hs, List.countP_append, List.countP_cons] at h1
    simp only [hw, decide_true, if_true] at h1
    omega
theorem noneOf_all {ws : List Want} (h : ∀ w ∈ ws, w.locs = []) : (noneOf ws).length = ws.length := by
  have : ∀ n, ((ws.zipIdx n).flatMap fun p : Want × Nat => if p.1.locs.length = 0 then [(p.2 : Int)] else []).length = ws.length := by
    induction ws with
    | nil => intro n; rfl
    | cons w ws ih =>
      intro n
      rw [List.zipIdx_cons, List.flatMap_cons, List.length_append, ih (fun v hv => h v (by simp [hv])), if_pos (by rw [h w (by simp)]; rfl)]
      simp; omega
  exact this 0
theorem readsOf_none {ws : List Want} (h : ∀ w ∈ ws, w.locs = []) : readsOf ws = [] := by
  cases hr : readsOf ws with
  | nil => rfl
  | cons r l =>
    obtain ⟨i, hi, q, hs, _⟩ := (mem_readsOf ws r).1 (by rw [hr]; simp)
    rw [h _ (List.getElem_mem hi)] at hs
    simp [sortL, isort, compactL] at hs
theorem outOf_all (d : Nat) (ws : List Want) : outOf (orderL (nowR d ws)) (nowR d ws) = nowR (d + 1) ws := by
  refine List.ext_getElem (by rw [outOf_len, nowR_len, nowR_len]) fun i h1 h2 => ?_
  have hi : i < (nowR d ws).length := by rw [outOf_len] at h1; exact h1
  have hiw : i < ws.length := by rw [nowR_len] at hi; exact hi
  rw [outOf_at _ _ _ hi]
  have e1 : (nowR d ws)[i] = { ws[i] with locs := (sortL ws[i].locs).drop d } := by simp [nowR]
  have e2 : (nowR (d + 1) ws)[i] = { ws[i] with locs := (sortL ws[i].locs).drop (d + 1) } := by simp [nowR]
  cases ha : (orderL (nowR d ws)).any (fun r => decide (r.want = (i : Int))) with
  | true => rw [if_pos rfl, e1, e2]; simp
  | false =>
    rw [if_neg (by decide), e1, e2]
    have hnil : (sortL ws[i].locs).drop d = [] := by
      cases hl : (sortL ws[i].locs).drop d with
      | nil => rfl
      | cons e q =>
        have hsrt : sortL (nowR d ws)[i].locs = e :: q := by rw [nowR_sorted (List.getElem_mem hi), e1]; exact hl
        have hm : (⟨(i : Int), e⟩ : Read) ∈ orderL (nowR d ws) := (mem_orderL _ _).2 ((mem_readsOf _ _).2 ⟨i, hi, q, hsrt, rfl⟩)
        have := List.any_eq_false.1 ha _ hm
        simp at this
    have : (sortL ws[i].locs).drop (d + 1) = [] := by rw [← List.drop_drop, hnil]; rfl
    rw [hnil, this]
theorem planWithout_true (ws : List Want) (kw : okL Want.ok ws) : cellarerlaw21_PlanWithout ws = some true := by
  obtain ⟨b, hb1, hb2⟩ := heavy_spec ws
  unfold cellarerlaw21_PlanWithout
  rw [hb1, bd_mk]
  cases b with
  | true => rw [if_t rfl]
  | false =>
  rw [if_f rfl]
  obtain ⟨hw60, hw40⟩ := hb2 rfl
  have hm40 : ∀ k, mostOf (ws.take k) ≤ 40 := fun k => mostOf_le fun w hw => hw40 w (List.mem_of_mem_take hw)
  have hlen : ∀ d, ∀ w ∈ nowR d ws, w.locs.length ≤ 40 := fun d w hw => by
    obtain ⟨v, hv, rfl⟩ := List.mem_map.1 hw
    have h1 := hw40 v hv
    have h2 := sortL_len v.locs
    simp only [List.length_drop]; omega
  refine loop_eq (S := Int × List Want × Int) (σ := Unit) (fun i _ => ((mostOf (ws.take i) : Int), nowR 0 (ws.take i), (i : Int))) ws.length (fun _ _ => True) _ (i0 := 0) (s0 := ()) rfl (Nat.zero_le _) trivial (by omega) ?_ ?_
  · intro rec i _ hi _ hrec
    simp only [cellarerlaw21_PlanWithout.l6]
    have h40 := hw40 _ (List.getElem_mem hi)
    have h3 := hrec () trivial
    rw [take_snoc' hi, mostOf_snoc] at h3
    rw [if_t (lt_t hi), ix_lt hi, bd_mk, sort_eq _ (by omega), bd_mk, app_ok (by rw [nowR_len]; simp; omega), bd_mk, wr_succ (by omega)]
    have e : (if (mostOf (ws.take i) : Int) < ((sortL ws[i].locs).length : Int) then ((sortL ws[i].locs).length : Int) else (mostOf (ws.take i) : Int)) = ((max (mostOf (ws.take i)) (sortL ws[i].locs).length : Nat) : Int) := by
      split <;> omega
    rw [e]
    have e5 : nowR 0 (ws.take i ++ [ws[i]]) = nowR 0 (ws.take i) ++ [{ id := ws[i].id, locs := sortL ws[i].locs }] := by
      unfold nowR; rw [List.map_append]; rfl
    rw [e5] at h3
    exact h3
  intro rec _ _
  simp only [cellarerlaw21_PlanWithout.l6, cellarerlaw21_PlanWithout.k1]
  rw [if_f (lt_f (Nat.lt_irrefl _)), List.take_length]
  have hmost := hm40 ws.length
  rw [List.take_length] at hmost
  refine loop_eq (S := Int × List Want) (σ := Unit) (fun d _ => ((d : Int), nowR d ws)) (mostOf ws) (fun _ _ => True) _ (i0 := 0) (s0 := ()) rfl (Nat.zero_le _) trivial (by omega) ?_ ?_
  · intro rec2 d _ hd _ hrec2
    simp only [cellarerlaw21_PlanWithout.l3]
    have hol := orderL_len (nowR d ws)
    rw [nowR_len] at hol
    rw [if_t (lt_t hd), planOrder_eq _ (by rw [nowR_len]; omega) (fun w h => by have := hlen d w h; omega), bd_mk]
    dsimp only
    have hpos : 0 < (orderL (nowR d ws)).length := by
      rcases foldMax_is ws 0 with h1 | ⟨w, hw, h1⟩
      · have : mostOf ws = 0 := h1; omega
      · obtain ⟨i, hi, rfl⟩ := List.mem_iff_getElem.1 hw
        have h2 : (sortL ws[i].locs).length = mostOf ws := h1
        have hi' : i < (nowR d ws).length := by rw [nowR_len]; exact hi
        have e1 : (nowR d ws)[i] = { ws[i] with locs := (sortL ws[i].locs).drop d } := by simp [nowR]
        cases hl : (sortL ws[i].locs).drop d with
        | nil => have := congrArg List.length hl; simp at this; omega
        | cons e q =>
          have hsrt : sortL (nowR d ws)[i].locs = e :: q := by rw [nowR_sorted (List.getElem_mem hi'), e1]; exact hl
          have hm : (⟨(i : Int), e⟩ : Read) ∈ orderL (nowR d ws) := (mem_orderL _ _).2 ((mem_readsOf _ _).2 ⟨i, hi', q, hsrt, rfl⟩)
          exact List.length_pos_of_mem hm
    rw [if_f (decide_eq_false (by omega))]
    refine loop_eq (S := Int × List Want) (σ := Unit) (fun k _ => ((k : Int), outOf ((orderL (nowR d ws)).take k) (nowR d ws))) (orderL (nowR d ws)).length (fun _ _ => True) _ (i0 := 0) (s0 := ()) (by rw [List.take_zero, outOf_nil]; rfl) (Nat.zero_le _) trivial (by omega) ?_ ?_
    · intro rec3 k _ hk _ hrec3
      simp only [cellarerlaw21_PlanWithout.l5]
      obtain ⟨i, hi, q, hs, hwant⟩ := (mem_readsOf _ _).1 ((mem_orderL _ _).1 (List.getElem_mem hk))
      have honce := wants_once (nowR d ws) k hk
      rw [hwant] at honce
      have hio : i < (outOf ((orderL (nowR d ws)).take k) (nowR d ws)).length := by rw [outOf_len]; exact hi
      have hat : (outOf ((orderL (nowR d ws)).take k) (nowR d ws))[i] = (nowR d ws)[i] := by rw [outOf_at _ _ _ hi, honce]; rfl
      rw [nowR_sorted (List.getElem_mem hi)] at hs
      have hin := nowR_len d ws
      have g1 : decide ((orderL (nowR d ws))[k].want < 0) = false := decide_eq_false (by omega)
      have g2 : decide (((outOf ((orderL (nowR d ws)).take k) (nowR d ws)).length : Int) ≤ (orderL (nowR d ws))[k].want) = false := decide_eq_false (by rw [outOf_len]; omega)
      have g3 : decide (((nowR d ws)[i].locs.length : Int) = 0) = false := decide_eq_false (by rw [hs]; simp; omega)
      have hix : ix (nowR d ws)[i].locs 0 = some (orderL (nowR d ws))[k].loc := by rw [hs]; rfl
      have h40 := hlen d _ (List.getElem_mem hi)
      rw [if_t (lt_t hk), ix_lt hk, bd_mk, g1, g2]
      simp only [Bool.or_self, Bool.not_false, Bool.false_or]
      rw [only_t rfl, ix_at hwant hio, bd_mk, hat, g3]
      simp only [Bool.not_false]
      rw [only_t rfl, bd_mk, only_t rfl, hix, bd_mk, only_t rfl, bd_mk, only_t rfl, keepLoc_eq, bd_mk, if_f (by simp), bd_mk, cut_ok (by omega) (by rw [hs]; simp; omega) (by omega), bd_mk, wr_succ (by omega), hwant, Int.toNat_natCast]
      have h3 := hrec3 () trivial
      rw [take_snoc' hk, ← outOf_step hi hwant honce] at h3
      simpa using h3
    · intro rec3 _ _
      simp only [cellarerlaw21_PlanWithout.l5, cellarerlaw21_PlanWithout.k4]
      rw [if_f (lt_f (Nat.lt_irrefl _)), List.take_length, outOf_all, wr_succ (by omega)]
      exact hrec2 () trivial
  · intro rec2 _ _
    simp only [cellarerlaw21_PlanWithout.l3, cellarerlaw21_PlanWithout.k2]
    have hnil : ∀ w ∈ nowR (mostOf ws) ws, w.locs = [] := fun w hw => by
      obtain ⟨v, hv, rfl⟩ := List.mem_map.1 hw
      exact List.drop_eq_nil_of_le (le_foldMax ws 0 v hv)
    have e1 : orderL (nowR (mostOf ws) ws) = [] := by unfold orderL; rw [readsOf_none hnil]; rfl
    have e2 := noneOf_all hnil
    rw [nowR_len] at e2
    rw [if_f (lt_f (Nat.lt_irrefl _)), planOrder_eq _ (by rw [nowR_len]; omega) (fun w h => by have := hlen _ w h; omega), bd_mk]
    dsimp only
    rw [e1, e2]
    simp only [List.length_nil, decide_true, Bool.and_self, Int.natCast_zero]
    rw [only_t rfl, wakes_true, bd_mk]
    rfl
end Go.Wk.Lf
