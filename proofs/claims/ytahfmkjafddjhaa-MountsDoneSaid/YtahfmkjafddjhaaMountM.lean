/- What mounts.Moves tells, plainly. -/
import Derived.Test.YtahfmkjafddjhaaPlanE
import Derived.Test.YtahfmkjafddjhaaMfB
namespace Go.Wk.Lf
open Go.Shelf Go.Sort
set_option linter.unusedVariables false

/-- the reads of a volume -/
def vr (v : Int) (l : List Read) : List Read := l.filter fun r => decide (r.loc.vol = v)
def rdM (d v : Int) (l : List Read) : List Move := (vr v l).map fun r => Move.mk 2 d v r.loc
/-- what is left, where some volumes are done -/
def lf (gone : List Int) (l : List Read) : Int → Option (List Read) := fun v => if v ∈ gone ∨ vr v l = [] then none else some (vr v l)
theorem lf_get (gone : List Int) (l : List Read) (v : Int) : (lf gone l v).getD [] = if v ∈ gone then [] else vr v l := by
  unfold lf
  by_cases h : v ∈ gone
  · simp [h]
  · by_cases h2 : vr v l = []
    · simp [h, h2]
    · simp [h, h2]
theorem lf_del (gone : List Int) (l : List Read) (v : Int) : mdel (lf gone l) v = lf (v :: gone) l := by
  funext u
  unfold mdel lf
  by_cases h : u = v
  · simp [h]
  · simp [h]
theorem vr_snoc (v : Int) (l : List Read) (r : Read) : vr v (l ++ [r]) = vr v l ++ (if r.loc.vol = v then [r] else []) := by
  unfold vr
  rw [List.filter_append]
  by_cases h : r.loc.vol = v <;> simp [h]
theorem lf_put (l : List Read) (r : Read) : mput (lf [] l) r.loc.vol (vr r.loc.vol l ++ [r]) = lf [] (l ++ [r]) := by
  funext u
  unfold mput lf
  rw [vr_snoc]
  by_cases h : u = r.loc.vol
  · subst h; simp
  · have h' : ¬ r.loc.vol = u := fun e => h e.symm
    simp [h, h']
theorem vr_len (v : Int) (l : List Read) : (vr v l).length ≤ l.length := List.length_filter_le _ _
theorem rdM_len (d v : Int) (l : List Read) : (rdM d v l).length = (vr v l).length := by simp [rdM]

theorem read_eq (w : MountsWalk) (i v : Int) (hi : ix w.holds i = some v) (hl : w.moves.length + ((w.left v).getD []).length ≤ 1073741824) :
    mounts_walk_read w i = some { w with left := mdel w.left v, moves := w.moves ++ ((w.left v).getD []).map fun r => Move.mk 2 i v r.loc } := by
  unfold mounts_walk_read
  rw [hi, bd_mk, bd_mk]
  generalize hL : (w.left v).getD [] = L at hl ⊢
  refine loop_eq (S := Int × List Move) (σ := Unit) (fun k _ => ((k : Int), w.moves ++ (L.take k).map fun r => Move.mk 2 i v r.loc)) L.length (fun _ _ => True) _ (i0 := 0) (s0 := ()) (by simp) (Nat.zero_le _) trivial (by omega) ?_ ?_
  · intro rec k _ hk _ hrec
    simp only [mounts_walk_read.l2]
    have hr := hrec () trivial
    rw [take_snoc' hk, List.map_append] at hr
    rw [if_t (lt_t hk), ix_lt hk, bd_mk, app_ok (by simp; omega), bd_mk, wr_succ (by omega)]
    simpa using hr
  · intro rec _ _
    simp only [mounts_walk_read.l2, mounts_walk_read.k1]
    rw [if_f (lt_f (Nat.lt_irrefl _)), List.take_length]

/-- the drive for another volume: the first that is empty, else the one that was asked for least -/
def freeL : List (Int × Int) → Nat → Int × Nat → Nat
  | [], _, b => b.2
  | (h, a) :: r, i, b => if h < 0 then i else freeL r (i + 1) (if a < b.1 then (a, i) else b)
def freeI (h a : List Int) : Nat := freeL (h.zip a) 0 (a.headD 0, 0)
theorem freeL_lt (r : List (Int × Int)) : ∀ i b n, i + r.length ≤ n → b.2 < n → freeL r i b < n := by
  induction r with
  | nil => intro i b n _ h; exact h
  | cons x r ih =>
    intro i b n h1 h2
    obtain ⟨h, a⟩ := x
    simp only [List.length_cons] at h1
    unfold freeL
    split
    · omega
    · refine ih (i + 1) _ n (by omega) ?_
      split
      · simp only; omega
      · exact h2
theorem freeI_lt {h a : List Int} (h0 : 0 < h.length) : freeI h a < h.length := by
  refine freeL_lt _ 0 _ _ ?_ (by simpa using h0)
  simp [List.length_zip]; omega
theorem free_eq (w : MountsWalk) (h0 : 0 < w.holds.length) (hn : w.holds.length ≤ 1000) (hl : w.asked.length = w.holds.length) : mounts_walk_free w = some ((freeI w.holds w.asked : Int), w) := by
  unfold mounts_walk_free
  have hz : (w.holds.zip w.asked).length = w.holds.length := by rw [List.length_zip]; omega
  refine loop_eq (S := Int × Int) (σ := Nat) (fun i b => ((b : Int), (i : Int))) w.holds.length (fun i b => ∃ h : b < w.asked.length, freeL ((w.holds.zip w.asked).drop i) i (w.asked[b], b) = freeI w.holds w.asked) _ (i0 := 0) (s0 := 0) rfl (Nat.zero_le _) ⟨by omega, ?_⟩ (by omega) ?_ ?_
  · unfold freeI
    rw [List.drop_zero]
    have key : ∀ (a : List Int) (h : 0 < a.length), a[0] = a.headD 0 := fun a h => by
      cases a with
      | nil => simp at h
      | cons x r => rfl
    rw [key]
  · rintro rec i b hi ⟨hb, hf⟩ hrec
    simp only [mounts_walk_free.l2]
    have hd : (w.holds.zip w.asked).drop i = (w.holds[i], w.asked[i]'(by omega)) :: (w.holds.zip w.asked).drop (i + 1) := by
      rw [List.drop_eq_getElem_cons (by omega)]; simp
    rw [hd] at hf
    rw [if_t (lt_t hi), ix_lt hi, bd_mk]
    unfold freeL at hf
    by_cases hneg : w.holds[i] < 0
    · rw [if_pos hneg] at hf
      rw [if_t (decide_eq_true hneg), ← hf]
    · rw [if_neg hneg] at hf
      rw [if_f (decide_eq_false hneg), ix_lt (show i < w.asked.length by omega), bd_mk, ix_lt hb, bd_mk]
      simp only [mounts_walk_free.k3]
      by_cases hc : w.asked[i]'(by omega) < w.asked[b]
      · rw [if_pos hc] at hf
        rw [if_t (decide_eq_true hc), wr_succ (by omega)]
        exact hrec i ⟨by omega, hf⟩
      · rw [if_neg hc] at hf
        rw [if_f (decide_eq_false hc), wr_succ (by omega)]
        exact hrec b ⟨hb, hf⟩
  · rintro rec b ⟨hb, hf⟩
    simp only [mounts_walk_free.l2, mounts_walk_free.k1]
    rw [List.drop_eq_nil_of_le (by omega)] at hf
    unfold freeL at hf
    simp only at hf
    rw [if_f (lt_f (Nat.lt_irrefl _)), ← hf]

/-- what is read of what the drives hold -/
def initM (l : List Read) : List Int → Nat → List Move
  | [], _ => []
  | v :: hs, i => (if 0 ≤ v then rdM (i : Int) v l else []) ++ initM l hs (i + 1)
/-- the volumes that must be mounted, one behind the other -/
def restM (l : List Read) : List Int → List Int → List Int → Int → List Move
  | [], _, _, _ => []
  | v :: vs, h, a, n => Move.mk 1 (freeI h a : Int) v (Loc.mk 0 0 0 0) :: (rdM (freeI h a : Int) v l ++ restM l vs (h.set (freeI h a) v) (a.set (freeI h a) (n + 1)) (n + 1))
def newV (hs : List Int) (l : List Read) : List Int := (volsL l).filter fun v => decide (v ∉ hs)
def movesL (hs : List Int) (l : List Read) : List Move := initM l hs 0 ++ restM l (newV hs l) hs (List.replicate hs.length 0) 0
theorem initM_snoc (l : List Read) (hs : List Int) (v : Int) : ∀ i, initM l (hs ++ [v]) i = initM l hs i ++ (if 0 ≤ v then rdM ((i + hs.length : Nat) : Int) v l else []) := by
  induction hs with
  | nil => intro i; simp [initM]
  | cons u hs ih => intro i; simp only [List.cons_append, initM, ih, List.append_assoc, List.length_cons]; rw [show i + 1 + hs.length = i + (hs.length + 1) by omega]
theorem flatMap_congr' {α β : Type} {f g : α → List β} (l : List α) (h : ∀ x ∈ l, f x = g x) : l.flatMap f = l.flatMap g := by
  induction l with
  | nil => rfl
  | cons x l ih => rw [List.flatMap_cons, List.flatMap_cons, h x (by simp), ih fun y hy => h y (by simp [hy])]
theorem filter_split {α : Type} (p : α → Bool) (l : List α) : (l.filter p).length + (l.filter fun x => !p x).length = l.length := by
  induction l with
  | nil => rfl
  | cons x l ih => cases h : p x <;> simp [h] <;> omega
/-- each read once -/
theorem sum_vr (Vs : List Int) : ∀ l : List Read, Vs.Nodup → (Vs.flatMap fun v => vr v l).length ≤ l.length := by
  induction Vs with
  | nil => intro l _; simp
  | cons v Vs ih =>
    intro l hn
    obtain ⟨h1, h2⟩ := List.nodup_cons.1 hn
    have h3 := ih (l.filter fun r => !decide (r.loc.vol = v)) h2
    have h4 : (Vs.flatMap fun u => vr u (l.filter fun r => !decide (r.loc.vol = v))) = Vs.flatMap fun u => vr u l := by
      refine flatMap_congr' _ fun u hu => ?_
      unfold vr
      rw [List.filter_filter]
      refine List.filter_congr fun r _ => ?_
      by_cases e : r.loc.vol = u
      · have : ¬ r.loc.vol = v := fun e2 => h1 (e2 ▸ e ▸ hu)
        simp [e] at *
        intro e3; exact h1 (e3 ▸ hu)
      · simp [e]
    rw [h4] at h3
    have h5 : (vr v l).length + (l.filter fun r => !decide (r.loc.vol = v)).length = l.length := by
      exact filter_split (fun r : Read => decide (r.loc.vol = v)) l
    simp only [List.flatMap_cons, List.length_append]; omega
theorem sum_vr_all (Vs : List Int) : ∀ l : List Read, Vs.Nodup → (∀ r ∈ l, r.loc.vol ∈ Vs) → (Vs.flatMap fun v => vr v l).length = l.length := by
  induction Vs with
  | nil =>
    intro l _ h
    cases l with
    | nil => rfl
    | cons r l => exact absurd (h r (by simp)) (by simp)
  | cons v Vs ih =>
    intro l hn hall
    obtain ⟨h1, h2⟩ := List.nodup_cons.1 hn
    have h3 := ih (l.filter fun r => !decide (r.loc.vol = v)) h2 fun r hr => by
      obtain ⟨h4, h5⟩ := List.mem_filter.1 hr
      rcases List.mem_cons.1 (hall r h4) with h6 | h6
      · simp [h6] at h5
      · exact h6
    have h4 : (Vs.flatMap fun u => vr u (l.filter fun r => !decide (r.loc.vol = v))) = Vs.flatMap fun u => vr u l := by
      refine flatMap_congr' _ fun u hu => ?_
      unfold vr
      rw [List.filter_filter]
      refine List.filter_congr fun r _ => ?_
      by_cases e : r.loc.vol = u
      · simp [e]
        intro e3; exact h1 (e3 ▸ hu)
      · simp [e]
    rw [h4] at h3
    have h5 : (vr v l).length + (l.filter fun r => !decide (r.loc.vol = v)).length = l.length := by
      exact filter_split (fun r : Read => decide (r.loc.vol = v)) l
    simp only [List.flatMap_cons, List.length_append]; omega
/-- no two drives hold one volume -/
def Apart (hs : List Int) : Prop := hs.Pairwise fun a b => 0 ≤ b → a ≠ b
def heldV (hs : List Int) : List Int := hs.filter fun v => decide (0 ≤ v)
theorem heldV_nodup {hs : List Int} (h : Apart hs) : (heldV hs).Nodup := by
  unfold heldV
  refine List.nodup_iff_pairwise_ne.2 (List.Pairwise.imp_of_mem (fun {a b} ha hb hab => ?_) (h.filter _))
  exact hab (by simpa using (List.mem_filter.1 hb).2)
theorem initM_reads (l : List Read) (hs : List Int) : ∀ i, (initM l hs i).length = ((heldV hs).flatMap fun v => vr v l).length := by
  induction hs with
  | nil => intro i; rfl
  | cons v hs ih =>
    intro i
    unfold heldV at ih ⊢
    simp only [initM, List.length_append, ih (i + 1)]
    by_cases h : 0 ≤ v
    · rw [if_pos h, List.filter_cons_of_pos (by simpa using h), List.flatMap_cons, List.length_append, rdM_len]
    · rw [if_neg h, List.filter_cons_of_neg (by simpa using h)]; simp
theorem restM_len (l : List Read) (vs : List Int) : ∀ h a n, (restM l vs h a n).length = vs.length + (vs.flatMap fun v => vr v l).length := by
  induction vs with
  | nil => intro h a n; rfl
  | cons v vs ih => intro h a n; simp only [restM, List.length_cons, List.length_append, ih, rdM_len, List.flatMap_cons]; omega
theorem newV_nodup (hs : List Int) (l : List Read) : (newV hs l).Nodup := (nodup_volsL l).filter _
theorem allV_nodup {hs : List Int} (h : Apart hs) (l : List Read) : (heldV hs ++ newV hs l).Nodup := by
  refine List.nodup_append.2 ⟨heldV_nodup h, newV_nodup hs l, fun x hx y hy e => ?_⟩
  subst e
  have := (List.mem_filter.1 hy).2
  simp only [decide_eq_true_eq] at this
  exact this ((List.mem_filter.1 hx).1)
theorem allV_mem {hs : List Int} {l : List Read} (hv : ∀ r ∈ l, 0 ≤ r.loc.vol) : ∀ r ∈ l, r.loc.vol ∈ heldV hs ++ newV hs l := fun r hr => by
  by_cases h : r.loc.vol ∈ hs
  · exact List.mem_append.2 (.inl (List.mem_filter.2 ⟨h, by simpa using hv r hr⟩))
  · exact List.mem_append.2 (.inr (List.mem_filter.2 ⟨(mem_volsL l _).2 ⟨r, hr, rfl⟩, by simpa using h⟩))
theorem movesL_len {hs : List Int} {l : List Read} (h : Apart hs) (hv : ∀ r ∈ l, 0 ≤ r.loc.vol) : (movesL hs l).length = l.length + (newV hs l).length := by
  have := sum_vr_all _ l (allV_nodup h l) (allV_mem hv)
  rw [List.flatMap_append, List.length_append] at this
  rw [movesL, List.length_append, initM_reads, restM_len]; omega
theorem newV_len (hs : List Int) (l : List Read) : (newV hs l).length ≤ l.length := Nat.le_trans (List.length_filter_le _ _) (volsL_len l)

theorem cloneI_eq (xs : List Int) (hl : xs.length ≤ 1073741824) : slices_Clone_int_int xs = some xs := by
  unfold slices_Clone_int_int
  first
    | (rw [cut_ok (by omega) (by omega) (by omega), bd_mk, app_ok (by simp; omega), bd_mk]; simp)
    | (simp [app_ok, hl])
theorem moves_rest (hs : List Int) (l : List Read) (h0 : 0 < hs.length) (h4 : hs.length ≤ 4) (hl : l.length ≤ 32768) (hap : Apart hs) (hv : ∀ r ∈ l, 0 ≤ r.loc.vol) (out : List Move) (ho : out.length ≤ l.length) (gone : List Int) (hg : ∀ v ∈ volsL l, v ∈ gone ↔ v ∈ hs) :
    mounts_Moves.k2 out 0 (lf gone l) (volsL l) (List.replicate hs.length 0) hs = some (out ++ restM l (newV hs l) hs (List.replicate hs.length 0) 0, 0) := by
  unfold mounts_Moves.k2
  have hvl := volsL_len l
  refine loop_eq (S := Int × Int × (Int → Option (List Read)) × List Int × List Int × List Int × List Move) (σ := (Int → Option (List Read)) × List Int × List Int × Nat × List Move)
    (fun j s => ((j : Int), (s.2.2.2.1 : Int), s.1, volsL l, s.2.2.1, s.2.1, s.2.2.2.2)) (volsL l).length
    (fun j s => ∃ gone, s.1 = lf gone l ∧ (∀ v ∈ volsL l, v ∈ gone ↔ v ∈ hs ∨ v ∈ (volsL l).take j) ∧ s.2.1.length = hs.length ∧ s.2.2.1.length = hs.length ∧ s.2.2.2.1 ≤ j ∧ s.2.2.2.2.length ≤ l.length + s.2.2.2.1 + (((volsL l).take j).flatMap fun v => vr v l).length ∧
      s.2.2.2.2 ++ restM l (((volsL l).drop j).filter fun v => decide (v ∉ hs)) s.2.1 s.2.2.1 (s.2.2.2.1 : Int) = out ++ restM l (newV hs l) hs (List.replicate hs.length 0) 0) _
    (i0 := 0) (s0 := (lf gone l, hs, List.replicate hs.length 0, 0, out)) rfl (Nat.zero_le _) ⟨gone, rfl, fun v hv => by simp [hg v hv], rfl, by simp, by simp, by simp; omega, by simp [newV]⟩ (by omega) ?_ ?_
  · rintro rec j ⟨m, h, a, n, mv⟩ hj ⟨gone, rfl, hgo, hh, ha, hn, hmv, hres⟩ hrec
    simp only at hh ha hn hmv hres hrec ⊢
    simp only [mounts_Moves.l4]
    have hsub : (((volsL l).take j).flatMap fun v => vr v l).length ≤ l.length := sum_vr _ l ((nodup_volsL l).sublist (List.take_sublist _ _))
    have hmem : (volsL l)[j] ∈ volsL l := List.getElem_mem hj
    have hnt : (volsL l)[j] ∉ (volsL l).take j := fun hm => by
      obtain ⟨q, hq, he⟩ := List.mem_take_iff_getElem.1 hm
      have := List.pairwise_iff_getElem.1 (List.nodup_iff_pairwise_ne.1 (nodup_volsL l)) q j (by omega) hj (by omega)
      exact this he
    have hpos : vr (volsL l)[j] l ≠ [] := fun e => by
      obtain ⟨r, hr, hx⟩ := (mem_volsL l _).1 hmem
      have : r ∈ vr (volsL l)[j] l := List.mem_filter.2 ⟨hr, by simpa using hx⟩
      rw [e] at this; simp at this
    have hd : (volsL l).drop j = (volsL l)[j] :: (volsL l).drop (j + 1) := List.drop_eq_getElem_cons hj
    rw [if_t (lt_t hj), ix_lt hj, bd_mk, bd_mk, lf_get]
    by_cases hin : (volsL l)[j] ∈ hs
    · have hgn : (volsL l)[j] ∈ gone := (hgo _ hmem).2 (.inl hin)
      rw [if_pos hgn, if_t (by simp)]
      simp only [mounts_Moves.k5]
      rw [wr_succ (by omega)]
      refine hrec (lf gone l, h, a, n, mv) ⟨gone, rfl, fun v hv => ?_, hh, ha, (by show n ≤ j + 1; omega), ?_, ?_⟩
      · rw [hgo v hv, take_snoc' hj]
        simp only [List.mem_append, List.mem_singleton]
        constructor
        · rintro (h | h)
          · exact .inl h
          · exact .inr (.inl h)
        · rintro (h | h | h)
          · exact .inl h
          · exact .inr h
          · subst h; exact .inl hin
      · rw [take_snoc' hj, List.flatMap_append, List.length_append]; simp only; omega
      · rw [← hres, hd, List.filter_cons_of_neg (by simpa using hin)]
    · have hgn : (volsL l)[j] ∉ gone := fun hc => by
        rcases (hgo _ hmem).1 hc with hc | hc
        · exact hin hc
        · exact hnt hc
      have hvlen : 0 < (vr (volsL l)[j] l).length := by
        cases hq : vr (volsL l)[j] l with
        | nil => exact absurd hq hpos
        | cons x r => simp
      have hvle := vr_len (volsL l)[j] l
      have hfi : freeI h a < h.length := freeI_lt (by omega)
      rw [if_neg hgn, if_f (decide_eq_false (by omega)), free_eq _ (by simp only; omega) (by simp only; omega) (by simp only; omega), bd_mk]
      dsimp only
      rw [ix_lt hfi, bd_mk, ix_lt (show freeI h a < a.length by omega), bd_mk, app_ok (by simp; omega), bd_mk, Int.toNat_natCast, wr_succ (by omega)]
      rw [read_eq _ _ (volsL l)[j] (by rw [ix_lt (by simpa using hfi)]; simp) (by simp only [lf_get, if_neg hgn, List.length_append, List.length_cons, List.length_nil]; omega), bd_mk]
      simp only [mounts_Moves.k5, lf_get, if_neg hgn, lf_del]
      rw [wr_succ (by omega)]
      refine hrec (lf ((volsL l)[j] :: gone) l, h.set (freeI h a) (volsL l)[j], a.set (freeI h a) ((n + 1 : Nat) : Int), n + 1, mv ++ [Move.mk 1 (freeI h a : Int) (volsL l)[j] (Loc.mk 0 0 0 0)] ++ (vr (volsL l)[j] l).map fun r => Move.mk 2 (freeI h a : Int) (volsL l)[j] r.loc) ⟨_, rfl, fun v hv => ?_, by simp [hh], by simp [ha], by simp only; omega, ?_, ?_⟩
      · rw [List.mem_cons, hgo v hv, take_snoc' hj]
        simp only [List.mem_append, List.mem_singleton]
        constructor
        · rintro (h | h | h)
          · exact .inr (.inr h)
          · exact .inl h
          · exact .inr (.inl h)
        · rintro (h | h | h)
          · exact .inr (.inl h)
          · exact .inr (.inr h)
          · exact .inl h
      · rw [take_snoc' hj, List.flatMap_append, List.length_append]
        simp only [List.length_append, List.length_cons, List.length_nil, List.length_map, List.flatMap_cons, List.flatMap_nil, List.append_nil]; omega
      · rw [← hres, hd, List.filter_cons_of_pos (by simpa using hin)]
        simp only [restM, rdM, List.append_assoc, List.cons_append, List.nil_append]
        rw [show ((n + 1 : Nat) : Int) = (n : Int) + 1 by omega]
  · rintro rec ⟨m, h, a, n, mv⟩ ⟨gone, rfl, _, _, _, _, _, hres⟩
    simp only [mounts_Moves.l4, mounts_Moves.k3]
    rw [if_f (lt_f (Nat.lt_irrefl _))]
    rw [List.drop_length] at hres
    simp only [List.filter_nil, restM, List.append_nil] at hres
    rw [hres]
theorem moves_eq (hs : List Int) (l : List Read) (h0 : 0 < hs.length) (h4 : hs.length ≤ 4) (hl : l.length ≤ 32768) (hap : Apart hs) (hv : ∀ r ∈ l, 0 ≤ r.loc.vol) (hw : mounts_wrong hs l = some 0) : mounts_Moves hs l = some (movesL hs l, 0) := by
  unfold mounts_Moves
  rw [hw, bd_mk, if_f (by rfl), cloneI_eq _ (by omega), bd_mk, rep_ok (by omega) (by omega), bd_mk, vols_eq _ (by omega), bd_mk]
  simp only [Int.toNat_natCast]
  have hvl := volsL_len l
  -- what is left, by volumes
  refine loop_eq (S := Int × (Int → Option (List Read))) (σ := Unit) (fun i _ => ((i : Int), lf [] (l.take i))) l.length (fun _ _ => True) _ (i0 := 0) (s0 := ()) (by simp; rfl) (Nat.zero_le _) trivial (by omega) ?_ ?_
  · intro rec i _ hi _ hrec
    simp only [mounts_Moves.l8]
    have hr := hrec () trivial
    have hvv := vr_len l[i].loc.vol (l.take i)
    rw [List.length_take] at hvv
    rw [if_t (lt_t hi), ix_lt hi, bd_mk, bd_mk, lf_get, if_neg (by simp), app_ok (by simp; omega), bd_mk, wr_succ (by omega), lf_put, ← take_snoc' hi]
    exact hr
  intro rec _ _
  simp only [mounts_Moves.l8, mounts_Moves.k1]
  rw [if_f (lt_f (Nat.lt_irrefl _)), List.take_length]
  -- what the drives hold
  refine loop_eq (S := Int × List Move × Int × (Int → Option (List Read)) × List Int × List Int × List Int) (σ := List Int) (fun i g => ((i : Int), initM l (hs.take i) 0, 0, lf g l, volsL l, List.replicate hs.length 0, hs)) hs.length (fun i g => ∀ v, v ∈ g ↔ v ∈ heldV (hs.take i)) _ (i0 := 0) (s0 := []) rfl (Nat.zero_le _) (by simp [heldV]) (by omega) ?_ ?_
  · intro rec2 i g hi hg hrec
    simp only [mounts_Moves.l6]
    have hlen := initM_reads l (hs.take i) 0
    have hap' : Apart (hs.take i) := hap.sublist (List.take_sublist _ _)
    have hle := sum_vr (heldV (hs.take i)) l (heldV_nodup hap')
    rw [if_t (lt_t hi), ix_lt hi, bd_mk]
    by_cases hp : 0 ≤ hs[i]
    · have hng : hs[i] ∉ g := fun hc => by
        have := (hg _).1 hc
        have hm := (List.mem_filter.1 this).1
        obtain ⟨q, hq, he⟩ := List.mem_take_iff_getElem.1 hm
        exact List.pairwise_iff_getElem.1 hap q i (by omega) hi (by omega) hp he
      have hvle := vr_len hs[i] l
      rw [if_t (decide_eq_true hp), read_eq _ _ hs[i] (ix_lt hi) (by simp only [lf_get, if_neg hng]; omega), bd_mk]
      simp only [mounts_Moves.k7, lf_get, if_neg hng, lf_del]
      rw [wr_succ (by omega)]
      have hr := hrec (hs[i] :: g) fun v => by
        rw [take_snoc' hi, heldV, List.filter_append, List.mem_append, List.mem_cons, hg v, heldV]
        simp only [List.filter_cons, List.filter_nil, decide_eq_true hp, if_true, List.mem_singleton]
        constructor
        · rintro (h | h)
          · exact .inr h
          · exact .inl h
        · rintro (h | h)
          · exact .inr h
          · exact .inl h
      rw [take_snoc' hi, initM_snoc, if_pos hp] at hr
      rw [List.length_take, Nat.min_eq_left (by omega), Nat.zero_add] at hr
      exact hr
    · rw [if_f (decide_eq_false hp)]
      simp only [mounts_Moves.k7]
      rw [wr_succ (by omega)]
      have hr := hrec g fun v => by
        rw [take_snoc' hi, heldV, List.filter_append, List.mem_append, hg v, heldV]
        simp [hp]
      rw [take_snoc' hi, initM_snoc, if_neg hp, List.append_nil] at hr
      exact hr
  intro rec2 g hg
  simp only [mounts_Moves.l6]
  rw [List.take_length] at hg
  have hlen := initM_reads l hs 0
  have hle := sum_vr (heldV hs) l (heldV_nodup hap)
  rw [if_f (lt_f (Nat.lt_irrefl _)), List.take_length, moves_rest hs l h0 h4 hl hap hv _ (by omega) g fun v hvv => ?_]
  · rfl
  · rw [hg v, heldV, List.mem_filter]
    obtain ⟨r, hr, hx⟩ := (mem_volsL l v).1 hvv
    have := hv r hr
    rw [hx] at this
    simp [this]
end Go.Wk.Lf
