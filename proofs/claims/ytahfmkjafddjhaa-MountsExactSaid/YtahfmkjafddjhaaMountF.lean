/- The law MountsExact, plainly. -/
import Derived.Test.YtahfmkjafddjhaaMountI
import Derived.Test.YtahfmkjafddjhaaLwMountsExact
namespace Go.Wk.Lf
open Go.Shelf Go.Sort
set_option linter.unusedVariables false

/- the page's -/
def doneG (G : List Int) (l : List Read) : List Bool := l.map fun r => decide (r.loc.vol ∈ G)
def donePat (G : List Int) (v : Int) (k : Nat) (l : List Read) : List Bool := l.zipIdx.map fun p => decide (p.1.loc.vol ∈ G) || (decide (p.1.loc.vol = v) && decide (p.2 < k))
theorem donePat_len (G : List Int) (v : Int) (k : Nat) (l : List Read) : (donePat G v k l).length = l.length := by simp [donePat]
theorem donePat_at (G : List Int) (v : Int) (k : Nat) (l : List Read) (j : Nat) : (donePat G v k l)[j]? = (l[j]?).map fun r => decide (r.loc.vol ∈ G) || (decide (r.loc.vol = v) && decide (j < k)) := by
  simp only [donePat, List.getElem?_map, List.getElem?_zipIdx, Option.map_map, Nat.zero_add]; rfl
theorem doneG_at (G : List Int) (l : List Read) (j : Nat) : (doneG G l)[j]? = (l[j]?).map fun r => decide (r.loc.vol ∈ G) := by simp [doneG]
theorem donePat_zero (G : List Int) (v : Int) (l : List Read) : donePat G v 0 l = doneG G l := by
  refine List.ext_getElem? fun j => ?_
  rw [donePat_at, doneG_at]
  simp
theorem donePat_all (G : List Int) (v : Int) (l : List Read) : donePat G v l.length l = doneG (v :: G) l := by
  refine List.ext_getElem? fun j => ?_
  rw [donePat_at, doneG_at]
  cases h : l[j]? with
  | none => rfl
  | some r =>
    have := (List.getElem?_eq_some_iff.1 h).1
    simp only [Option.map_some, Option.some.injEq, List.mem_cons]
    by_cases e : r.loc.vol = v <;> simp [e, this]
theorem donePat_skip {G : List Int} {v : Int} {k : Nat} {l : List Read} (hk : k < l.length) (h : l[k].loc.vol ≠ v) : donePat G v (k + 1) l = donePat G v k l := by
  refine List.ext_getElem? fun j => ?_
  rw [donePat_at, donePat_at]
  by_cases e : j = k
  · subst e; rw [List.getElem?_eq_getElem hk]; simp [h]
  · have : (j < k + 1) = (j < k) := by simp; omega
    simp only [this]
theorem donePat_set {G : List Int} {v : Int} {k : Nat} {l : List Read} (hk : k < l.length) (h : l[k].loc.vol = v) : (donePat G v k l).set k true = donePat G v (k + 1) l := by
  refine List.ext_getElem? fun j => ?_
  rw [List.getElem?_set, donePat_at, donePat_at]
  by_cases e : k = j
  · subst e; rw [if_pos rfl, if_pos (by rw [donePat_len]; exact hk), List.getElem?_eq_getElem hk]; simp [h]
  · rw [if_neg e]
    have : (j < k + 1) = (j < k) := by simp; omega
    simp only [this]
abbrev SD := List Move × List Bool × List Int × List Int
theorem read_run (l : List Read) (hl : l.length ≤ 32768) (used held : List Int) (hh : held.length ≤ 4) (i : Nat) (hi : i < held.length) (G : List Int) (hv : 0 ≤ held[i]) (hG : held[i] ∉ G) (hbef : ∀ (i' : Nat) (v' : Int), i' < i → held[i']? = some v' → v' < 0 ∨ v' ∈ G) (res : Option (List Move × Int)) (N : Nat) :
    ∀ (m k : Nat) (out : List Move), k + m = l.length → out.length + m ≤ 100000000 → Runs (cellarerref20_Drives.l3 l) N (out ++ (vr held[i] (l.drop k)).map (fun r => Move.mk 2 (i : Int) held[i] r.loc), doneG (held[i] :: G) l, used, held) res →
      Runs (cellarerref20_Drives.l3 l) (N + (vr held[i] (l.drop k)).length) (out, donePat G held[i] k l, used, held) res := by
  intro m
  induction m with
  | zero =>
    intro k out hk ho hr
    have : k = l.length := by omega
    subst this
    rw [donePat_all]
    simpa [vr] using hr
  | succ m ih =>
    intro k out hk ho hr
    have hkl : k < l.length := by omega
    have hd : l.drop k = l[k] :: l.drop (k + 1) := List.drop_eq_getElem_cons hkl
    by_cases he : l[k].loc.vol = held[i]
    · have hvr : vr held[i] (l.drop k) = l[k] :: vr held[i] (l.drop (k + 1)) := by rw [hd, vr, List.filter_cons_of_pos (by simpa using he)]; rfl
      rw [hvr] at hr ⊢
      refine Runs.step (N := N + (vr held[i] (l.drop (k + 1))).length) (s' := (out ++ [Move.mk 2 (i : Int) held[i] l[k].loc], donePat G held[i] (k + 1) l, used, held)) (fun rec => ?_) (ih (k + 1) _ (by omega) (by simp; omega) (by simpa using hr))
      rw [ref_read l out _ used held i k hl hh (donePat_len _ _ _ _) (by omega) hkl hi ?_ hv he ?_ ?_ rec, donePat_set hkl he]
      · rw [donePat_at, List.getElem?_eq_getElem hkl]
        have : l[k].loc.vol ∉ G := by rw [he]; exact hG
        simp [this]
      · intro j r hj hdj hlj e
        rw [donePat_at, hlj] at hdj
        simp [e, hj] at hdj
      · intro i' v' j r hi' hv' hdj hlj
        rcases hbef i' v' hi' hv' with h | h
        · exact .inl h
        · refine .inr fun e => ?_
          rw [donePat_at, hlj] at hdj
          simp only [Option.map_some, Option.some.injEq, Bool.or_eq_false_iff, decide_eq_false_iff_not] at hdj
          exact hdj.1 (e ▸ h)
    · have hvr : vr held[i] (l.drop k) = vr held[i] (l.drop (k + 1)) := by rw [hd, vr, List.filter_cons_of_neg (by simpa using he)]; rfl
      rw [hvr] at hr ⊢
      rw [← donePat_skip hkl he]
      exact ih (k + 1) out (by omega) (by omega) hr
/-- the first that is not done is of the first volume that is not -/
theorem first_new (l : List Read) (G : List Int) (v : Int) (vs : List Int) (h : (volsL l).filter (fun u => decide (u ∉ G)) = v :: vs) : ∃ (f : Nat) (hf : f < l.length), l[f].loc.vol = v ∧ v ∉ G ∧ ∀ (j : Nat) (hj : j < l.length), j < f → l[j].loc.vol ∈ G := by
  have key : ∀ (n : Nat), n ≤ l.length → ∀ v vs, (volsL (l.take n)).filter (fun u => decide (u ∉ G)) = v :: vs → ∃ (f : Nat) (hf : f < l.length), l[f].loc.vol = v ∧ v ∉ G ∧ ∀ (j : Nat) (hj : j < l.length), j < f → l[j].loc.vol ∈ G := by
    intro n
    induction n with
    | zero => intro _ v vs h; simp [volsL] at h
    | succ n ih =>
      intro hn v vs h
      have hnl : n < l.length := by omega
      rw [take_snoc' hnl, volsL_snoc] at h
      unfold vstep at h
      split at h
      · exact ih (by omega) v vs h
      · rename_i hnew
        rw [List.filter_append] at h
        cases hq : (volsL (l.take n)).filter (fun u => decide (u ∉ G)) with
        | cons u us =>
          rw [hq] at h
          simp only [List.cons_append, List.cons.injEq] at h
          obtain ⟨rfl, _⟩ := h
          exact ih (by omega) _ _ hq
        | nil =>
          rw [hq, List.nil_append] at h
          by_cases hg : l[n].loc.vol ∈ G
          · rw [List.filter_cons_of_neg (by simpa using hg)] at h; simp at h
          · rw [List.filter_cons_of_pos (by simpa using hg)] at h
            simp only [List.filter_nil, List.cons.injEq] at h
            refine ⟨n, hnl, h.1, h.1 ▸ hg, fun j hj hjn => ?_⟩
            have hm : l[j].loc.vol ∈ volsL (l.take n) := (mem_volsL _ _).2 ⟨l[j], List.mem_take_iff_getElem.2 ⟨j, by omega, rfl⟩, rfl⟩
            by_cases hc : l[j].loc.vol ∈ G
            · exact hc
            · have : l[j].loc.vol ∈ (volsL (l.take n)).filter (fun u => decide (u ∉ G)) := List.mem_filter.2 ⟨hm, by simpa using hc⟩
              rw [hq] at this; simp at this
  exact key l.length (Nat.le_refl _) v vs (by rw [List.take_length]; exact h)
theorem filter_next {l : List Read} {G : List Int} {v : Int} {vs : List Int} (h : (volsL l).filter (fun u => decide (u ∉ G)) = v :: vs) : (volsL l).filter (fun u => decide (u ∉ v :: G)) = vs := by
  have hn : (v :: vs).Nodup := h ▸ (nodup_volsL l).filter _
  have h2 : (volsL l).filter (fun u => decide (u ∉ v :: G)) = ((volsL l).filter (fun u => decide (u ∉ G))).filter fun u => decide (u ≠ v) := by
    rw [List.filter_filter]
    refine List.filter_congr fun u _ => ?_
    simp [List.mem_cons, not_or]
  rw [h2, h, List.filter_cons_of_neg (by simp)]
  refine List.filter_eq_self.2 fun u hu => ?_
  have := (List.nodup_cons.1 hn).1
  simp
  rintro rfl; exact this hu
/-- two counts of the drives' askings, alike in their order -/
structure Iso (a u : List Int) (n m : Int) : Prop where
  len : a.length = u.length
  lt : ∀ (i j : Nat) (x y x' y' : Int), a[i]? = some x → a[j]? = some y → u[i]? = some x' → u[j]? = some y' → (x < y ↔ x' < y')
  le : ∀ (i : Nat) (x : Int), a[i]? = some x → x ≤ n
  le' : ∀ (i : Nat) (x : Int), u[i]? = some x → x ≤ m
theorem Iso.set {a u : List Int} {n m m' : Int} (h : Iso a u n m) (b : Nat) (hm : m < m') : Iso (a.set b (n + 1)) (u.set b m') (n + 1) m' := by
  have hl := h.len
  refine ⟨by simp [hl], fun i j x y x' y' h1 h2 h3 h4 => ?_, fun i x h1 => ?_, fun i x h1 => ?_⟩
  · rw [List.getElem?_set] at h1 h2 h3 h4
    by_cases hi : b = i <;> by_cases hj : b = j
    · subst hi; subst hj
      rw [if_pos rfl] at h1 h2 h3 h4
      split at h1
      · rename_i hb
        rw [if_pos hb] at h2
        rw [if_pos (by omega)] at h3 h4
        cases h1; cases h2; cases h3; cases h4; omega
      · cases h1
    · subst hi
      rw [if_pos rfl] at h1 h3
      rw [if_neg hj] at h2 h4
      split at h1
      · rw [if_pos (by omega)] at h3
        cases h1; cases h3
        have := h.le j y h2; have := h.le' j y' h4; omega
      · cases h1
    · subst hj
      rw [if_neg hi] at h1 h3
      rw [if_pos rfl] at h2 h4
      split at h2
      · rw [if_pos (by omega)] at h4
        cases h2; cases h4
        have := h.le i x h1; have := h.le' i x' h3; omega
      · cases h2
    · rw [if_neg hi] at h1 h3
      rw [if_neg hj] at h2 h4
      exact h.lt i j x y x' y' h1 h2 h3 h4
  · rw [List.getElem?_set] at h1
    split at h1
    · split at h1
      · cases h1; omega
      · cases h1
    · have := h.le i x h1; omega
  · rw [List.getElem?_set] at h1
    split at h1
    · split at h1
      · cases h1; omega
      · cases h1
    · have := h.le' i x h1; omega
theorem Iso.free {a u : List Int} {n m : Int} (h : Iso a u n m) (hd : List Int) (hl : hd.length = a.length) : freeI hd u = freeI hd a := by
  have key : ∀ (q i b : Nat) (x x' : Int), i + q = hd.length → a[b]? = some x → u[b]? = some x' → freeL ((hd.zip u).drop i) i (x', b) = freeL ((hd.zip a).drop i) i (x, b) := by
    intro q
    induction q with
    | zero =>
      intro i b x x' hi _ _
      have h2 := h.len
      rw [List.drop_eq_nil_of_le (by rw [List.length_zip]; omega), List.drop_eq_nil_of_le (by rw [List.length_zip]; omega)]
      simp [freeL]
    | succ q ih =>
      intro i b x x' hi hx hx'
      have h2 := h.len
      have e1 : (hd.zip u).drop i = (hd[i]'(by omega), u[i]'(by omega)) :: (hd.zip u).drop (i + 1) := by rw [List.drop_eq_getElem_cons (by rw [List.length_zip]; omega)]; simp
      have e2 : (hd.zip a).drop i = (hd[i]'(by omega), a[i]'(by omega)) :: (hd.zip a).drop (i + 1) := by rw [List.drop_eq_getElem_cons (by rw [List.length_zip]; omega)]; simp
      have ha : a[i]? = some (a[i]'(by omega)) := List.getElem?_eq_getElem _
      have hu : u[i]? = some (u[i]'(by omega)) := List.getElem?_eq_getElem _
      rw [e1, e2, freeL, freeL]
      by_cases hn : hd[i]'(by omega) < 0
      · rw [if_pos hn, if_pos hn]
      · rw [if_neg hn, if_neg hn]
        have hiff := h.lt i b _ _ _ _ ha hx hu hx'
        by_cases hc : a[i]'(by omega) < x
        · rw [if_pos hc, if_pos (hiff.1 hc)]
          exact ih (i + 1) i _ _ (by omega) ha hu
        · rw [if_neg hc, if_neg fun e => hc (hiff.2 e)]
          exact ih (i + 1) b _ _ (by omega) hx hx'
  unfold freeI
  have h2 := h.len
  by_cases h0 : hd.length = 0
  · have : hd = [] := List.eq_nil_of_length_eq_zero h0
    subst this; simp [freeL]
  · have hz : ∀ (c : List Int), 0 < c.length → c[0]? = some (c.headD 0) := fun c hc => by
      cases c with
      | nil => simp at hc
      | cons x r => rfl
    have := key hd.length 0 0 (a.headD 0) (u.headD 0) (by omega) (hz a (by omega)) (hz u (by omega))
    simpa using this
theorem rest_run (l : List Read) (hl : l.length ≤ 32768) (hvol : ∀ r ∈ l, 0 ≤ r.loc.vol) : ∀ (vs : List Int) (G held a used : List Int) (n m : Int) (out : List Move), (volsL l).filter (fun u => decide (u ∉ G)) = vs → 0 < held.length → held.length ≤ 4 → a.length = held.length → Iso a used n m → m ≤ (out.length : Int) →
    (∀ (i : Nat) (x : Int), held[i]? = some x → x < 0 ∨ x ∈ G) → out.length + (restM l vs held a n).length ≤ 1000000 → Runs (cellarerref20_Drives.l3 l) ((restM l vs held a n).length + 1) (out, doneG G l, used, held) (some (out ++ restM l vs held a n, 0)) := by
  intro vs
  induction vs with
  | nil =>
    intro G held a used n m out hvs h0 h4 ha hI hm hheld ho
    have hall : ∀ (j : Nat) (h : j < (doneG G l).length), (doneG G l)[j] = true := fun j h => by
      have hjl : j < l.length := by simpa [doneG] using h
      have hmem : l[j].loc.vol ∈ volsL l := (mem_volsL _ _).2 ⟨l[j], List.getElem_mem hjl, rfl⟩
      by_cases hc : l[j].loc.vol ∈ G
      · simp [doneG, hc]
      · have : l[j].loc.vol ∈ (volsL l).filter (fun u => decide (u ∉ G)) := List.mem_filter.2 ⟨hmem, by simpa using hc⟩
        rw [hvs] at this; simp at this
    simp only [restM, List.append_nil]
    exact Runs.last fun rec => ref_done l out _ used held hl (by simp [doneG]) hall rec
  | cons v vs ih =>
    intro G held a used n m out hvs h0 h4 ha hI hm hheld ho
    obtain ⟨f, hf, hfv, hvG, hbf⟩ := first_new l G v vs hvs
    have hfree := hI.free held ha.symm
    have hul : used.length = held.length := by rw [← hI.len, ha]
    simp only [restM] at ho ⊢
    simp only [List.length_cons, List.length_append, rdM_len] at ho ⊢
    have hfi : freeI held a < held.length := freeI_lt h0
    have hv0 : 0 ≤ v := by rw [← hfv]; exact hvol _ (List.getElem_mem hf)
    have hset : (held.set (freeI held a) v)[freeI held a]'(by simpa using hfi) = v := by simp
    have hrest := ih (v :: G) (held.set (freeI held a) v) (a.set (freeI held a) (n + 1)) (used.set (freeI held a) ((out.length : Int) + 1)) (n + 1) ((out.length : Int) + 1) (out ++ [Move.mk 1 (freeI held a : Int) v (Loc.mk 0 0 0 0)] ++ rdM (freeI held a : Int) v l) (filter_next hvs) (by simpa using h0) (by simpa using h4) (by simpa using ha) (hI.set _ (by omega)) (by simp; omega) (fun i x hx => ?_) (by simp only [List.length_append, List.length_cons, List.length_nil, rdM_len]; omega)
    · have hrr := read_run l hl (used.set (freeI held a) ((out.length : Int) + 1)) (held.set (freeI held a) v) (by simpa using h4) (freeI held a) (by simpa using hfi) G (by rw [hset]; exact hv0) (by rw [hset]; exact hvG) (fun i' v' hi' hv' => by
        rw [List.getElem?_set, if_neg (by omega)] at hv'
        exact hheld i' v' hv') _ _ l.length 0 (out ++ [Move.mk 1 (freeI held a : Int) v (Loc.mk 0 0 0 0)]) (by omega) (by simp; omega) (by rw [hset, List.drop_zero]; exact hrest)
      rw [hset, List.drop_zero, donePat_zero] at hrr
      have hfin : out ++ [Move.mk 1 (freeI held a : Int) v (Loc.mk 0 0 0 0)] ++ rdM (freeI held a : Int) v l ++ restM l vs (held.set (freeI held a) v) (a.set (freeI held a) (n + 1)) (n + 1) = out ++ Move.mk 1 (freeI held a : Int) v (Loc.mk 0 0 0 0) :: (rdM (freeI held a : Int) v l ++ restM l vs (held.set (freeI held a) v) (a.set (freeI held a) (n + 1)) (n + 1)) := by simp
      rw [hfin] at hrr
      rw [show (vr v l).length + (restM l vs (held.set (freeI held a) v) (a.set (freeI held a) (n + 1)) (n + 1)).length + 1 + 1 = ((restM l vs (held.set (freeI held a) v) (a.set (freeI held a) (n + 1)) (n + 1)).length + 1 + (vr v l).length) + 1 by omega]
      refine Runs.step (fun rec => ?_) hrr
      rw [ref_mount l out (doneG G l) used held f hl h4 h0 hul (by simp [doneG]) (by omega) hf ?_ ?_ ?_ rec, hfree, hfv]
      · rw [doneG_at, List.getElem?_eq_getElem hf, Option.map_some, hfv, decide_eq_false hvG]
      · intro j h hj
        have hjl : j < l.length := by simpa [doneG] using h
        simp [doneG, hbf j hjl hj]
      · intro i' v' j r hv' hdj hlj
        rcases hheld i' v' hv' with h | h
        · exact .inl h
        · refine .inr fun e => ?_
          rw [doneG_at, hlj] at hdj
          simp only [Option.map_some, Option.some.injEq, decide_eq_false_iff_not] at hdj
          exact hdj (e ▸ h)
    · rw [List.getElem?_set] at hx
      split at hx
      · have hx' : x = v := by first | (split at hx <;> simp_all) | simp_all
        subst hx'; exact .inr (by simp)
      · rcases hheld i x hx with h | h
        · exact .inl h
        · exact .inr (List.mem_cons_of_mem _ h)
theorem doneG_congr {G H : List Int} (h : ∀ v, v ∈ G ↔ v ∈ H) (l : List Read) : doneG G l = doneG H l := by unfold doneG; simp only [h]
theorem heldV_snoc (xs : List Int) (v : Int) : heldV (xs ++ [v]) = heldV xs ++ (if 0 ≤ v then [v] else []) := by
  unfold heldV
  rw [List.filter_append]
  by_cases h : 0 ≤ v <;> simp [h]
theorem init_run (l : List Read) (hl : l.length ≤ 32768) (hs used : List Int) (h4 : hs.length ≤ 4) (hap : Apart hs) (res : Option (List Move × Int)) (N : Nat) : ∀ (q i : Nat) (out : List Move), i + q = hs.length → out.length + (initM l (hs.drop i) i).length ≤ 1000000 →
    Runs (cellarerref20_Drives.l3 l) N (out ++ initM l (hs.drop i) i, doneG (heldV hs) l, used, hs) res → Runs (cellarerref20_Drives.l3 l) (N + (initM l (hs.drop i) i).length) (out, doneG (heldV (hs.take i)) l, used, hs) res := by
  intro q
  induction q with
  | zero =>
    intro i out hi ho hr
    have : i = hs.length := by omega
    subst this
    rw [List.take_length]
    simpa [initM] using hr
  | succ q ih =>
    intro i out hi ho hr
    have hil : i < hs.length := by omega
    have hd : hs.drop i = hs[i] :: hs.drop (i + 1) := List.drop_eq_getElem_cons hil
    rw [hd] at ho hr ⊢
    simp only [initM] at ho hr ⊢
    by_cases hp : 0 ≤ hs[i]
    · rw [if_pos hp] at ho hr ⊢
      simp only [List.length_append, rdM_len] at ho ⊢
      have hng : hs[i] ∉ heldV (hs.take i) := fun hc => by
        have hm := (List.mem_filter.1 hc).1
        obtain ⟨p, hpp, he⟩ := List.mem_take_iff_getElem.1 hm
        exact List.pairwise_iff_getElem.1 hap p i (by omega) hil (by omega) hp he
      have hnext := ih (i + 1) (out ++ rdM (i : Int) hs[i] l) (by omega) (by simp only [List.length_append, rdM_len]; omega) (by simpa using hr)
      have hrr := read_run l hl used hs h4 i hil (heldV (hs.take i)) hp hng (fun i' v' hi' hv' => by
        by_cases hn : v' < 0
        · exact .inl hn
        · refine .inr (List.mem_filter.2 ⟨List.mem_take_iff_getElem.2 ⟨i', by have := (List.getElem?_eq_some_iff.1 hv').1; omega, (List.getElem?_eq_some_iff.1 hv').2⟩, by simp; omega⟩)) res (N + (initM l (hs.drop (i + 1)) (i + 1)).length) l.length 0 out (by omega) (by omega) (by
        rw [List.drop_zero, doneG_congr (H := heldV (hs.take (i + 1))) (fun v => ?_)]
        · exact hnext
        · rw [take_snoc' hil, heldV_snoc, if_pos hp, List.mem_append, List.mem_cons, List.mem_singleton]
          constructor
          · rintro (h | h)
            · exact .inr h
            · exact .inl h
          · rintro (h | h)
            · exact .inr h
            · exact .inl h)
      rw [List.drop_zero, donePat_zero] at hrr
      rw [show N + ((vr hs[i] l).length + (initM l (hs.drop (i + 1)) (i + 1)).length) = N + (initM l (hs.drop (i + 1)) (i + 1)).length + (vr hs[i] l).length by omega]
      exact hrr
    · rw [if_neg hp] at ho hr ⊢
      simp only [List.nil_append] at ho hr ⊢
      have hnext := ih (i + 1) out (by omega) ho hr
      rw [doneG_congr (H := heldV (hs.take (i + 1))) (fun v => ?_)]
      · exact hnext
      · rw [take_snoc' hil, heldV_snoc, if_neg hp, List.append_nil]
theorem k2_eq (hs : List Int) (l : List Read) (h0 : 0 < hs.length) (h4 : hs.length ≤ 4) (hl : l.length ≤ 32768) (hap : Apart hs) (hv : ∀ r ∈ l, 0 ≤ r.loc.vol) : cellarerref20_Drives.k2 hs l = some (movesL hs l, 0) := by
  unfold cellarerref20_Drives.k2 cellarerkeep_TwinInts
  rw [app_ok (by simp; omega), bd_mk, bd_mk]
  simp only [List.nil_append]
  rw [rep_ok (by omega) (by omega), bd_mk, rep_ok (by omega) (by omega), bd_mk]
  simp only [Int.toNat_natCast]
  have hlen := movesL_len hap hv
  have hnv := newV_len hs l
  have hmv : movesL hs l = initM l hs 0 ++ restM l (newV hs l) hs (List.replicate hs.length 0) 0 := rfl
  rw [hmv, List.length_append] at hlen
  have hrest := rest_run l hl hv (newV hs l) (heldV hs) hs (List.replicate hs.length 0) (List.replicate hs.length 0) 0 0 (initM l hs 0) ?_ h0 h4 (by simp) ⟨rfl, fun i j x y x' y' a1 a2 a3 a4 => ?_, fun i x a1 => ?_, fun i x a1 => ?_⟩ (by omega) (fun i x hx => ?_) (by omega)
  · have hin := init_run l hl hs (List.replicate hs.length 0) h4 hap _ _ hs.length 0 [] (by omega) (by simp only [List.drop_zero, List.length_nil]; omega) (by rw [List.drop_zero, List.nil_append]; exact hrest)
    rw [List.drop_zero, List.take_zero] at hin
    have e0 : doneG (heldV []) l = List.replicate l.length false := by
      refine List.ext_getElem? fun j => ?_
      rw [doneG_at, List.getElem?_replicate]
      by_cases hj : j < l.length
      · simp [hj, heldV]
      · simp [hj]
    rw [e0] at hin
    rw [hmv]
    exact hin.loop (by omega)
  · unfold newV
    refine List.filter_congr fun v hvm => ?_
    obtain ⟨r, hr, hx⟩ := (mem_volsL l v).1 hvm
    have h1 := hv r hr
    rw [hx] at h1
    have : v ∈ heldV hs ↔ v ∈ hs := by simp [heldV, h1]
    simp only [this]
  · rw [List.getElem?_replicate] at a1 a2 a3 a4
    split at a1 <;> split at a2 <;> simp_all
  · rw [List.getElem?_replicate] at a1
    split at a1
    · cases a1; omega
    · cases a1
  · rw [List.getElem?_replicate] at a1
    split at a1
    · cases a1; omega
    · cases a1
  · by_cases hn : x < 0
    · exact .inl hn
    · exact .inr (List.mem_filter.2 ⟨List.mem_of_getElem? hx, by simp; omega⟩)
theorem drives_eq (hs : List Int) (l : List Read) (hl : l.length ≤ 1073741824) : cellarerref20_Drives hs l = some (movesR hs l) := by
  unfold cellarerref20_Drives movesR
  by_cases h1 : hs.length < 1 ∨ 4 < hs.length
  · have e : errL hs l = 2 := by unfold errL; rw [if_pos h1]
    rw [e, if_t, if_neg (by decide)]
    rcases h1 with h1 | h1
    · rw [decide_eq_true (show (hs.length : Int) < 1 by omega)]; rfl
    · rw [decide_eq_true (show 4 < (hs.length : Int) by omega), Bool.or_true]
  rw [if_f]
  rotate_left
  · rw [decide_eq_false (show ¬ (hs.length : Int) < 1 by omega), decide_eq_false (show ¬ 4 < (hs.length : Int) by omega)]; rfl
  have e : errL hs l = if dupG [] hs = true then 1 else if 32768 < l.length then 2 else if l.any (fun r => decide (r.loc.vol < 0)) = true then 1 else 0 := by unfold errL; rw [if_neg h1]
  refine loop_eq (S := Int) (σ := Unit) (fun i _ => (i : Int)) hs.length (fun i _ => dupG [] hs = dupG (hs.take i) (hs.drop i)) _ (i0 := 0) (s0 := ()) rfl (Nat.zero_le _) (by simp) (by omega) ?_ ?_
  · intro rec i _ hi hI hrec
    simp only [cellarerref20_Drives.l16]
    rw [List.drop_eq_getElem_cons hi, dupG, ← take_snoc' hi] at hI
    rw [if_t (lt_t hi)]
    refine loop_eq (S := Int) (σ := Unit) (fun k _ => (k : Int)) i (fun k _ => ¬ (0 ≤ hs[i] ∧ hs[i] ∈ hs.take k)) _ (i0 := 0) (s0 := ()) rfl (Nat.zero_le _) (by simp) (by omega) ?_ ?_
    · intro rec2 k _ hk hK hrec2
      have hkl : k < hs.length := by omega
      simp only [cellarerref20_Drives.l18]
      rw [if_t (lt_t hk), ix_lt hi, bd_mk]
      by_cases hp : 0 ≤ hs[i]
      · rw [decide_eq_true hp, only_t rfl, bd_mk, only_t rfl, ix_lt hkl, bd_mk]
        by_cases he : hs[i] = hs[k]
        · rw [decide_eq_true he, if_t (by rfl)]
          have hm : hs[i] ∈ hs.take i := by rw [he]; exact List.mem_take_iff_getElem.2 ⟨k, by omega, rfl⟩
          rw [decide_eq_true hp, decide_eq_true hm] at hI
          have e2 : errL hs l = 1 := by rw [e, hI]; rfl
          rw [e2, if_neg (by decide)]
        · rw [decide_eq_false he, if_f (by rfl), wr_succ (by omega)]
          refine hrec2 () fun hc => ?_
          rw [take_snoc' hkl, List.mem_append, List.mem_singleton] at hc
          rcases hc.2 with h | h
          · exact hK ⟨hp, h⟩
          · exact he h
      · rw [decide_eq_false hp]
        simp only [only_f, bd_mk]
        rw [if_f (by rfl), wr_succ (by omega)]
        exact hrec2 () fun hc => hp hc.1
    · intro rec2 _ hK
      simp only [cellarerref20_Drives.l18, cellarerref20_Drives.k17]
      rw [if_f (lt_f (Nat.lt_irrefl _)), wr_succ (by omega)]
      refine hrec () ?_
      have : (decide (0 ≤ hs[i]) && decide (hs[i] ∈ hs.take i)) = false := by
        by_cases hp : 0 ≤ hs[i]
        · have : hs[i] ∉ hs.take i := fun hm => hK ⟨hp, hm⟩
          simp [this]
        · simp [hp]
      rw [hI, this, Bool.false_or]
  intro rec _ hI
  simp only [cellarerref20_Drives.l16, cellarerref20_Drives.k1]
  rw [List.drop_length, dupG] at hI
  rw [if_f (lt_f (Nat.lt_irrefl _))]
  by_cases h3 : 32768 < l.length
  · have e2 : errL hs l = 2 := by rw [e, hI, if_neg (by decide), if_pos h3]
    rw [if_t (decide_eq_true (by omega)), e2, if_neg (by decide)]
  rw [if_f (decide_eq_false (by omega))]
  refine loop_eq (S := Int) (σ := Unit) (fun i _ => (i : Int)) l.length (fun i _ => (l.take i).any (fun r => decide (r.loc.vol < 0)) = false) _ (i0 := 0) (s0 := ()) rfl (Nat.zero_le _) rfl (by omega) ?_ ?_
  · intro rec2 i _ hi hA hrec
    simp only [cellarerref20_Drives.l15]
    rw [if_t (lt_t hi), ix_lt hi, bd_mk]
    by_cases hc : l[i].loc.vol < 0
    · have ha : l.any (fun r => decide (r.loc.vol < 0)) = true := List.any_eq_true.2 ⟨l[i], List.getElem_mem hi, by simpa using hc⟩
      have e2 : errL hs l = 1 := by rw [e, hI, if_neg (by decide), if_neg h3, ha]; rfl
      rw [if_t (decide_eq_true hc), e2, if_neg (by decide)]
    · rw [if_f (decide_eq_false hc), wr_succ (by omega)]
      refine hrec () ?_
      rw [take_snoc' hi, List.any_append, hA]
      simp [hc]
  · intro rec2 _ hA
    simp only [cellarerref20_Drives.l15]
    rw [List.take_length] at hA
    have e2 : errL hs l = 0 := by rw [e, hI, if_neg (by decide), if_neg h3, hA, if_neg (by decide)]
    obtain ⟨q0, q4, q5, q6, q7⟩ := errL_ok e2
    rw [if_f (lt_f (Nat.lt_irrefl _)), k2_eq hs l q0 q4 q6 q5 q7, e2, if_pos rfl]
theorem keepMoves_self (xs : List Move) (hl : xs.length < 4611686018427387904) : cellarerkeep_Moves xs xs = some true := by
  unfold cellarerkeep_Moves
  rw [if_f (decide_eq_false (by simp))]
  refine loop_eq (S := Int) (σ := Unit) (fun i _ => (i : Int)) xs.length (fun _ _ => True) _ (i0 := 0) (s0 := ()) rfl (Nat.zero_le _) trivial hl ?_ ?_
  · intro rec i _ hi _ hrec
    simp only [cellarerkeep_Moves.l2]
    rw [if_t (lt_t hi), ix_lt hi, bd_mk, bd_mk]
    simp only [ne_eq, not_true_eq_false, decide_false, Bool.or_self, Bool.not_false]
    rw [only_t rfl, keepLoc_eq, bd_mk, decide_eq_true rfl, if_f (by rfl), wr_succ (by omega)]
    exact hrec () trivial
  · intro rec _ _
    simp only [cellarerkeep_Moves.l2, cellarerkeep_Moves.k1]
    rw [if_f (lt_f (Nat.lt_irrefl _))]
theorem movesR_len (hs : List Int) (l : List Read) (hl : l.length ≤ 32768) : (movesR hs l).1.length ≤ 100000 := by
  unfold movesR
  split
  · rename_i h
    obtain ⟨_, _, h5, _, h7⟩ := errL_ok h
    have := newV_len hs l
    rw [movesL_len h5 h7]; omega
  · simp
theorem mountsExact_true (hs : List Int) (l : List Read) (kh : okL okI hs) (kl : okL Read.ok l) : cellarerlaw22_MountsExact hs l = some true := by
  unfold cellarerlaw22_MountsExact
  by_cases hb : (decide (20 < (hs.length : Int)) || decide (60 < (l.length : Int))) = true
  · rw [if_t hb]
  have hb' : (decide (20 < (hs.length : Int)) || decide (60 < (l.length : Int))) = false := by simpa using hb
  rw [if_f hb']
  simp only [Bool.or_eq_false_iff, decide_eq_false_iff_not] at hb'
  have hml := movesR_len hs l (by omega)
  unfold cellarerkeep_TwinInts
  rw [app_ok (by simp; omega), bd_mk, bd_mk, app_ok (by simp; omega), bd_mk]
  simp only [List.nil_append]
  rw [moves_all hs l (by omega), bd_mk, drives_eq hs l (by omega), bd_mk, vols20_eq l (by omega), bd_mk, decide_eq_true rfl, only_t rfl, keepMoves_self _ (by omega), bd_mk]
  have hvl := volsL_len l
  simp only [Bool.and_self]
  rw [only_t rfl, keepInts_self _ (by omega), bd_mk]
  simp only [Bool.and_self]
  rw [only_t rfl, keepReads_self _ (by omega), bd_mk]
  simp only [Bool.and_self]
  rw [only_t rfl, bound_eq l (by omega), bd_mk, wr_id (by omega) (by omega), decide_eq_true (by omega)]
  simp only [Bool.and_self]
  rw [only_t rfl, wakes22, bd_mk]; rfl
end Go.Wk.Lf
