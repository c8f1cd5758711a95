/- plan.Sort, plan.Order, plainly; facts on them. -/
import Derived.Test.YtahfmkjafddjhaaPlanP
namespace Go.Wk.Lf
open Go.Shelf Go.Sort
set_option linter.unusedVariables false

theorem ixp_lt {α : Type} {l : List α} {a n k : Nat} (hk : k < n) (h : a + k < l.length) : ixp l a n (k : Int) = some l[a + k] := by
  show (if k < n then l[a + k]? else none) = _
  rw [if_pos hk]; exact List.getElem?_eq_getElem h
theorem compact_eq (xs : List Loc) (hl : xs.length ≤ 1073741824) : slices_Compact_api_Loc_api_Loc xs = some (compactL xs) := by
  unfold slices_Compact_api_Loc_api_Loc
  by_cases h2 : xs.length < 2
  · rw [if_t (decide_eq_true (by omega)), compactL_one _ h2]
  · rw [if_f (decide_eq_false (by omega))]
    refine loop_eq (S := Int) (σ := Unit) (fun i _ => (i : Int)) xs.length (fun i _ => 1 ≤ i ∧ compactL (xs.take i) = xs.take i) _ (i0 := 1) (s0 := ()) rfl (by omega) ⟨by omega, compactL_one _ (by simp; omega)⟩ (by omega) ?_ ?_
    · intro rec i _ hi hI hrec
      obtain ⟨h1, hc⟩ := hI
      simp only [slices_Compact_api_Loc_api_Loc.l2, slices_Compact_api_Loc_api_Loc.k3]
      rw [if_t (lt_t hi), ix_lt hi, bd_mk, wr_pred (by omega) (by omega), ix_lt (show i - 1 < xs.length by omega), bd_mk]
      have hst := compactL_step (l := xs) (j := i - 1) (a := xs[i - 1]) (b := xs[i]) (List.getElem?_eq_getElem (by omega)) (by rw [show i - 1 + 1 = i by omega]; exact List.getElem?_eq_getElem hi)
      rw [show i - 1 + 2 = i + 1 by omega, show i - 1 + 1 = i by omega, hc] at hst
      by_cases he : xs[i] = xs[i - 1]
      · rw [if_t (decide_eq_true he), cut_ok (by omega) (by omega) (by omega), bd_mk]
        rw [if_pos he.symm] at hst
        refine loop_eq (S := Int × Int × List Loc) (σ := Nat × List Loc) (fun k s => ((s.1 : Int), (k : Int), s.2)) (xs.length - i) (fun k s => s.2.length = xs.length ∧ 1 ≤ k ∧ 1 ≤ s.1 ∧ s.1 ≤ i + k - 1 ∧ s.2.take s.1 = compactL (xs.take (i + k)) ∧ ∀ q, i + k - 1 ≤ q → s.2[q]? = xs[q]?) _ (i0 := 1) (s0 := (i, xs)) rfl (by omega) ⟨rfl, by omega, by omega, by simp, hst.symm, fun q _ => rfl⟩ (by omega) ?_ ?_
        · rintro rec2 k ⟨w, cs⟩ hk ⟨e1, e2, e3, e4, e5, e6⟩ hrec2
          simp only at e1 e3 e4 e5 e6
          simp only [slices_Compact_api_Loc_api_Loc.l5, slices_Compact_api_Loc_api_Loc.k6, Int.toNat_natCast]
          have hck : i + k < cs.length := by omega
          have hg1 : cs[i + k] = xs[i + k] := by have := e6 (i + k) (by omega); rw [List.getElem?_eq_getElem hck, List.getElem?_eq_getElem (by omega)] at this; exact Option.some.inj this
          have hg2 : cs[i + (k - 1)] = xs[i + (k - 1)] := by have := e6 (i + (k - 1)) (by omega); rw [List.getElem?_eq_getElem (by omega), List.getElem?_eq_getElem (by omega)] at this; exact Option.some.inj this
          have hst2 := compactL_step (l := xs) (j := i + (k - 1)) (a := xs[i + (k - 1)]) (b := xs[i + k]) (List.getElem?_eq_getElem (by omega)) (by rw [show i + (k - 1) + 1 = i + k by omega]; exact List.getElem?_eq_getElem (by omega))
          rw [show i + (k - 1) + 2 = i + (k + 1) by omega, show i + (k - 1) + 1 = i + k by omega, ← e5] at hst2
          rw [if_t (lt_t hk), ixp_lt hk hck, bd_mk, wr_pred (by omega) (by omega), ixp_lt (show k - 1 < xs.length - i by omega) (by omega), bd_mk, hg1, hg2]
          by_cases hne : xs[i + k] = xs[i + (k - 1)]
          · rw [if_f (by simp [hne]), wr_succ (by omega)]
            rw [if_pos hne.symm] at hst2
            exact hrec2 (w, cs) ⟨e1, by omega, e3, by simp only; omega, hst2.symm, fun q hq => e6 q (by omega)⟩
          · rw [if_t (by simp [hne]), bd_mk, ix_lt (show w < cs.length by omega), bd_mk, wr_succ (by omega), wr_succ (by omega)]
            rw [if_neg (fun h => hne h.symm)] at hst2
            refine hrec2 (w + 1, cs.set w xs[i + k]) ⟨by simp [e1], by omega, by simp, by simp only; omega, ?_, fun q hq => ?_⟩
            · simp only; rw [take_set_succ _ (by omega), hst2]
            · simp only; rw [List.getElem?_set_ne (by omega)]; exact e6 q (by omega)
        · rintro rec2 ⟨w, cs⟩ ⟨e1, e2, e3, e4, e5, e6⟩
          simp only at e1 e3 e4 e5 e6
          simp only [slices_Compact_api_Loc_api_Loc.l5, slices_Compact_api_Loc_api_Loc.k4, Int.toNat_natCast]
          rw [if_f (lt_f (Nat.lt_irrefl _)), cut_ok (by omega) (by omega) (by omega), bd_mk]
          rw [show clr cs w (cs.length - w) (Loc.mk 0 0 0 0) = some (cs.take w ++ List.replicate (cs.length - w) (Loc.mk 0 0 0 0)) from if_pos (by omega), bd_mk]
          rw [cut_ok (by omega) (by omega) (by simp; omega), bd_mk]
          congr 1
          simp only [Int.toNat_natCast, Int.toNat_zero, List.drop_zero]
          rw [List.take_append_of_le_length (by simp; omega), List.take_take, Nat.min_self, e5, show i + (xs.length - i) = xs.length by omega, List.take_length]
      · rw [if_f (decide_eq_false he), wr_succ (by omega)]
        rw [if_neg (fun h => he h.symm)] at hst
        exact hrec () ⟨by omega, by rw [hst, take_snoc' hi]⟩
    · intro rec _ hI
      simp only [slices_Compact_api_Loc_api_Loc.l2, slices_Compact_api_Loc_api_Loc.k1]
      rw [if_f (lt_f (Nat.lt_irrefl _))]
      have := hI.2
      rw [List.take_length] at this
      rw [this]
/-- places, rising, each once -/
def sortL (l : List Loc) : List Loc := compactL (isort ordLoc l)
theorem sortL_len (l : List Loc) : (sortL l).length ≤ l.length := by
  have := compactL_len (isort ordLoc l)
  rw [isort_len] at this; exact this
theorem sort_eq (l : List Loc) (hl : l.length ≤ 1073741824) : plan_Sort l = some (sortL l) := by
  unfold plan_Sort
  have h1 := isort_len ordLoc l
  have h2 := sortL_len l
  rw [clone_eq _ hl, bd_mk, show sortM ordLoc l = some (isort ordLoc l) from if_pos hl, bd_mk, compact_eq _ (by omega), bd_mk, clone_eq _ (by unfold sortL at h2; omega), bd_mk]; rfl
theorem mem_compactL {α : Type} [DecidableEq α] (l : List α) (x : α) : x ∈ compactL l ↔ x ∈ l := by
  refine snoc_ind (p := fun l => x ∈ compactL l ↔ x ∈ l) (by simp [compactL]) (fun l y ih => ?_) l
  rw [compactL_snoc]
  unfold cstep
  split
  · rename_i h
    rw [last_compactL] at h
    rw [ih]
    simp only [List.mem_append, List.mem_singleton]
    constructor
    · exact .inl
    · rintro (h' | rfl)
      · exact h'
      · exact List.mem_of_getLast? h
  · simp only [List.mem_append, List.mem_singleton, ih]
theorem mem_sortL (l : List Loc) (x : Loc) : x ∈ sortL l ↔ x ∈ l := by rw [sortL, mem_compactL, mem_isort]
theorem sortL_pos {l : List Loc} (h : 0 < l.length) : 0 < (sortL l).length := by
  cases hs : sortL l with
  | nil =>
    have := (mem_sortL l l[0]).2 (List.getElem_mem h)
    rw [hs] at this; simp at this
  | cons x r => simp
/-- sorted: each is ahead of all behind it -/
theorem compactL_lt (l : List Loc) (h : Rise ordLoc l) : (compactL l).Pairwise (fun a b => ordLoc a b < 0) := by
  refine (snoc_ind (p := fun l => Rise ordLoc l → (compactL l).Pairwise (fun a b => ordLoc a b < 0)) (fun _ => List.Pairwise.nil) (fun l y ih => ?_) l) h
  intro hl
  obtain ⟨h1, h2, h3⟩ := List.pairwise_append.1 hl
  rw [compactL_snoc]
  unfold cstep
  split
  · exact ih h1
  · rename_i hne
    refine List.pairwise_append.2 ⟨ih h1, List.pairwise_singleton _ _, fun a ha b hb => ?_⟩
    rw [List.mem_singleton] at hb; subst hb
    have hal := (mem_compactL l a).1 ha
    have hna : ¬ ordLoc b a < 0 := h3 a hal b (by simp)
    by_cases hab : ordLoc a b < 0
    · exact hab
    · exfalso
      have he : a = b := ordLoc_tot a b (by simpa [lt_loc] using hab) (by simpa [lt_loc] using hna)
      subst he
      -- a stands in l: then it is the last one of l
      have hlast : l.getLast? = some a := by
        obtain ⟨i, hi⟩ := List.mem_iff_getElem?.1 hal
        cases hg : l.getLast? with
        | none => rw [List.getLast?_eq_none_iff] at hg; subst hg; simp at hal
        | some c =>
          have hcl : c ∈ l := List.mem_of_getLast? hg
          have n1 : ¬ ordLoc a c < 0 := h3 c hcl a (by simp)
          have n2 : ¬ ordLoc c a < 0 := by
            intro hca
            rw [List.getLast?_eq_getElem?] at hg
            have hil := (List.getElem?_eq_some_iff.1 hi).1
            by_cases e : i = l.length - 1
            · subst e
              have := Option.some.inj (hi.symm.trans hg)
              subst this
              have := ordLoc_swo.irrefl a
              rw [lt_loc] at this; simp at this; omega
            · obtain ⟨hcl', hce⟩ := List.getElem?_eq_some_iff.1 hg
              have hie := (List.getElem?_eq_some_iff.1 hi).2
              have := (List.pairwise_iff_getElem.1 h1) i (l.length - 1) hil hcl' (by omega)
              rw [hie, hce] at this
              exact this hca
          have : a = c := ordLoc_tot a c (by simpa [lt_loc] using n1) (by simpa [lt_loc] using n2)
          rw [this]
      rw [last_compactL] at hne
      exact hne hlast
theorem sortL_lt (l : List Loc) : (sortL l).Pairwise (fun a b => ordLoc a b < 0) := compactL_lt _ (isort_rise ordLoc_swo l)
/-- of each that has places the first one; those that have none -/
def readsOf (ws : List Want) : List Read := ws.zipIdx.flatMap fun p => match sortL p.1.locs with | [] => [] | e :: _ => [{ want := (p.2 : Int), loc := e }]
def noneOf (ws : List Want) : List Int := ws.zipIdx.flatMap fun p => if p.1.locs.length = 0 then [(p.2 : Int)] else []
theorem readsOf_snoc (ws : List Want) (w : Want) : readsOf (ws ++ [w]) = readsOf ws ++ (match sortL w.locs with | [] => [] | e :: _ => [{ want := (ws.length : Int), loc := e }]) := by simp [readsOf, List.zipIdx_append]
theorem noneOf_snoc (ws : List Want) (w : Want) : noneOf (ws ++ [w]) = noneOf ws ++ (if w.locs.length = 0 then [(ws.length : Int)] else []) := by simp [noneOf, List.zipIdx_append]
theorem readsOf_len (ws : List Want) : (readsOf ws).length ≤ ws.length := by
  refine snoc_ind (p := fun ws => (readsOf ws).length ≤ ws.length) (Nat.le_refl _) (fun l y ih => ?_) ws
  rw [readsOf_snoc]
  split <;> simp <;> omega
theorem noneOf_len (ws : List Want) : (noneOf ws).length ≤ ws.length := by
  refine snoc_ind (p := fun ws => (noneOf ws).length ≤ ws.length) (Nat.le_refl _) (fun l y ih => ?_) ws
  rw [noneOf_snoc]
  split <;> simp <;> omega
def orderL (ws : List Want) : List Read := isort ordRead (readsOf ws)
theorem planOrder_eq (ws : List Want) (hl : ws.length ≤ 1073741823) (hw : ∀ w ∈ ws, w.locs.length ≤ 1073741824) : plan_Order ws = some (orderL ws, noneOf ws) := by
  unfold plan_Order
  refine loop_eq (S := List Read × List Int × Int) (σ := Unit) (fun i _ => (readsOf (ws.take i), noneOf (ws.take i), (i : Int))) ws.length (fun i _ => True) _ (i0 := 0) (s0 := ()) rfl (Nat.zero_le _) trivial (by omega) ?_ ?_
  · intro rec i _ hi _ hrec
    have hr := readsOf_len (ws.take i)
    have hn := noneOf_len (ws.take i)
    rw [List.length_take] at hr hn
    have hlen : (ws.take i).length = i := by simp; omega
    simp only [plan_Order.l2, plan_Order.k3]
    rw [if_t (lt_t hi), ix_lt hi, bd_mk]
    by_cases h0 : ws[i].locs.length = 0
    · have hs : sortL ws[i].locs = [] := List.eq_nil_of_length_eq_zero (by have := sortL_len ws[i].locs; omega)
      rw [if_t (decide_eq_true (by omega)), app_ok (by simp; omega), bd_mk, wr_succ (by omega)]
      have := hrec () trivial
      rw [take_snoc' hi, readsOf_snoc, noneOf_snoc, hs, if_pos h0, hlen, List.append_nil] at this
      exact this
    · have hp := sortL_pos (l := ws[i].locs) (by omega)
      rw [if_f (decide_eq_false (by omega)), sort_eq _ (hw _ (List.getElem_mem hi)), bd_mk, show (0 : Int) = ((0 : Nat) : Int) from rfl, ix_lt hp, bd_mk, app_ok (by simp; omega), bd_mk, wr_succ (by omega)]
      have := hrec () trivial
      rw [take_snoc' hi, readsOf_snoc, noneOf_snoc, if_neg h0, hlen, List.append_nil] at this
      obtain ⟨e, q, hs⟩ : ∃ e q, sortL ws[i].locs = e :: q := by
        match hq : sortL ws[i].locs with
        | [] => rw [hq] at hp; simp at hp
        | e :: q => exact ⟨e, q, rfl⟩
      have he : (sortL ws[i].locs)[0] = e := by simp [hs]
      rw [hs] at this
      rw [he]
      exact this
  · intro rec _ _
    have hr := readsOf_len ws
    simp only [plan_Order.l2, plan_Order.k1]
    rw [if_f (lt_f (Nat.lt_irrefl _)), List.take_length, show sortM ordRead (readsOf ws) = some (orderL ws) from if_pos (by omega), bd_mk]
theorem orderL_len (ws : List Want) : (orderL ws).length ≤ ws.length := by rw [orderL, isort_len]; exact readsOf_len ws
/- volumes -/
theorem mem_volsL (rs : List Read) (x : Int) : x ∈ volsL rs ↔ ∃ r ∈ rs, r.loc.vol = x := by
  refine snoc_ind (p := fun rs => x ∈ volsL rs ↔ ∃ r ∈ rs, r.loc.vol = x) (by simp [volsL]) (fun l y ih => ?_) rs
  rw [volsL_snoc]
  unfold vstep
  split
  · rename_i h
    rw [ih]
    constructor
    · rintro ⟨r, hr, hx⟩; exact ⟨r, by simp [hr], hx⟩
    · rintro ⟨r, hr, hx⟩
      rcases List.mem_append.1 hr with hr | hr
      · exact ⟨r, hr, hx⟩
      · simp at hr; subst hr; exact ih.1 (hx ▸ h)
  · simp only [List.mem_append, List.mem_singleton, ih]
    constructor
    · rintro (⟨r, hr, hx⟩ | rfl)
      · exact ⟨r, .inl hr, hx⟩
      · exact ⟨y, .inr rfl, rfl⟩
    · rintro ⟨r, hr | rfl, hx⟩
      · exact .inl ⟨r, hr, hx⟩
      · exact .inr hx.symm
theorem nodup_volsL (rs : List Read) : (volsL rs).Nodup := by
  refine snoc_ind (p := fun rs => (volsL rs).Nodup) (by simp [volsL]) (fun l y ih => ?_) rs
  rw [volsL_snoc]
  unfold vstep
  split
  · exact ih
  · rename_i h
    exact List.nodup_append.2 ⟨ih, by simp, fun a ha b hb e => by simp at hb; subst hb; subst e; exact h ha⟩
theorem volsL_len (rs : List Read) : (volsL rs).length ≤ rs.length := by
  refine snoc_ind (p := fun rs => (volsL rs).length ≤ rs.length) (Nat.le_refl _) (fun l y ih => ?_) rs
  rw [volsL_snoc]
  unfold vstep
  split <;> simp <;> omega
theorem volsL_known (a : List Int) (rs : List Read) (h : ∀ r ∈ rs, r.loc.vol ∈ a) : rs.foldl vstep a = a := by
  induction rs with
  | nil => rfl
  | cons x l ih =>
    rw [List.foldl_cons, vstep, if_pos (h x (by simp))]
    exact ih fun r hr => h r (by simp [hr])
theorem volsL_twice (rs : List Read) : volsL (rs ++ rs) = volsL rs := by
  rw [volsL, List.foldl_append]
  exact volsL_known _ _ fun r hr => (mem_volsL rs _).2 ⟨r, hr, rfl⟩
theorem volsL_rise (rs : List Read) (h : rs.Pairwise fun a b => a.loc.vol ≤ b.loc.vol) : (volsL rs).Pairwise (· < ·) := by
  refine (snoc_ind (p := fun rs => rs.Pairwise (fun a b : Read => a.loc.vol ≤ b.loc.vol) → (volsL rs).Pairwise (· < ·)) (fun _ => List.Pairwise.nil) (fun l y ih => ?_) rs) h
  intro hl
  obtain ⟨h1, h2, h3⟩ := List.pairwise_append.1 hl
  rw [volsL_snoc]
  unfold vstep
  split
  · exact ih h1
  · rename_i hn
    refine List.pairwise_append.2 ⟨ih h1, List.pairwise_singleton _ _, fun a ha b hb => ?_⟩
    rw [List.mem_singleton] at hb; subst hb
    obtain ⟨r, hr, rfl⟩ := (mem_volsL l a).1 ha
    have := h3 r hr y (by simp)
    have : r.loc.vol ≠ y.loc.vol := fun e => hn (e ▸ ha)
    omega
theorem orderL_vol (ws : List Want) : (orderL ws).Pairwise fun a b => a.loc.vol ≤ b.loc.vol := by
  refine List.Pairwise.imp (fun {a b} h => ?_) (isort_rise ordRead_swo (readsOf ws))
  rw [ordRead_lt, ordLoc_lt] at h
  omega
end Go.Wk.Lf
