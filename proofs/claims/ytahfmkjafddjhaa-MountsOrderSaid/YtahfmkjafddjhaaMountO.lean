/- The law MountsOrder, plainly. -/
import Derived.Test.YtahfmkjafddjhaaMountI
import Derived.Test.YtahfmkjafddjhaaLwMountsOrder
namespace Go.Wk.Lf
open Go.Shelf Go.Sort
set_option linter.unusedVariables false

theorem mountsOf_snoc (m : List Move) (x : Move) : mountsOf (m ++ [x]) = mountsOf m ++ (if x.kind = 1 then [x.vol] else []) := by
  rw [mountsOf_app]
  by_cases h : x.kind = 1 <;> simp [mountsOf, h]
theorem readsIn_snoc (m : List Move) (x : Move) : readsIn (m ++ [x]) = readsIn m ++ (if x.kind = 1 then [] else [x.loc]) := by
  rw [readsIn_app]
  by_cases h : x.kind = 1 <;> simp [readsIn, h]
theorem mountsOf_len (m : List Move) : (mountsOf m).length ≤ m.length := by rw [mountsOf, List.length_map]; exact List.length_filter_le _ _
theorem readsIn_len (m : List Move) : (readsIn m).length ≤ m.length := by rw [readsIn, List.length_map]; exact List.length_filter_le _ _
/-- of one volume, none behind is ahead -/
def InOrder (p : List Loc) : Prop := p.Pairwise fun a b => a.vol = b.vol → ¬ ordLoc b a < 0
theorem reads_inOrder {hs : List Int} {l : List Read} (h : Apart hs) (hs' : Rise ordRead l) : InOrder (readsIn (movesL hs l)) := by
  unfold InOrder
  rw [movesL_reads, List.pairwise_flatMap]
  refine ⟨fun v _ => ?_, ?_⟩
  · refine List.pairwise_map.2 (List.Pairwise.imp (fun {a b} hab _ hlt => hab ?_) (hs'.filter _))
    exact (ordRead_lt _ _).2 (.inl hlt)
  · refine List.Pairwise.imp (fun {u v} huv x hx y hy e => ?_) (List.nodup_iff_pairwise_ne.1 (allV_nodup h l))
    obtain ⟨r, hr, rfl⟩ := List.mem_map.1 hx
    obtain ⟨q, hq, rfl⟩ := List.mem_map.1 hy
    have h1 : r.loc.vol = u := by simpa using (List.mem_filter.1 hr).2
    have h2 : q.loc.vol = v := by simpa using (List.mem_filter.1 hq).2
    exact absurd (h1.symm.trans (e.trans h2)) huv
theorem reads_all {hs : List Int} {l : List Read} (h : Apart hs) (hv : ∀ r ∈ l, 0 ≤ r.loc.vol) : (readsIn (movesL hs l)).length = l.length := by
  rw [movesL_reads]
  have e : ((heldV hs ++ newV hs l).flatMap fun v => (vr v l).map Read.loc) = ((heldV hs ++ newV hs l).flatMap fun v => vr v l).map Read.loc := by rw [List.map_flatMap]
  rw [e, List.length_map, sum_vr_all _ l (allV_nodup h l) (allV_mem hv)]
theorem order_moves (hs : List Int) (ws : List Want) (hap : Apart hs) (h0 : 0 < hs.length) (h4 : hs.length ≤ 4) (hw : ws.length ≤ 40) (hl : ∀ w ∈ ws, w.locs.length ≤ 20 ∧ ∀ x ∈ w.locs, 0 ≤ x.vol) : cellarerlaw22_MountsOrder.k2 hs ws = some true := by
  unfold cellarerlaw22_MountsOrder.k2
  have hol := orderL_len ws
  have hv : ∀ r ∈ orderL ws, 0 ≤ r.loc.vol := fun r hr => by
    obtain ⟨i, hi, q, hs, _⟩ := (mem_readsOf ws r).1 ((mem_orderL ws r).1 hr)
    have : r.loc ∈ ws[i].locs := (mem_sortL _ _).1 (by rw [hs]; simp)
    exact (hl _ (List.getElem_mem hi)).2 _ this
  rw [planOrder_eq _ (by omega) (fun w h => by have := (hl w h).1; omega), bd_mk]
  dsimp only
  rw [moves_ok (errL_zero h0 h4 hap (by omega) hv) (by omega), bd_mk]
  dsimp only
  rw [if_f (by rfl), rep_ok (by omega) (by omega), bd_mk]
  have hml := movesL_len hap hv
  have hnl := newV_len hs (orderL ws)
  have hord := reads_inOrder hap (isort_rise ordRead_swo (readsOf ws))
  have hall := reads_all hap hv
  have hnd : (mountsOf (movesL hs (orderL ws))).Nodup := by rw [movesL_mounts]; exact newV_nodup _ _
  change InOrder (readsIn (movesL hs (orderL ws))) at hord
  generalize hm : movesL hs (orderL ws) = m at hml hord hall hnd ⊢
  have hrl : ∀ i, (readsIn (m.take i)).length ≤ 80 := fun i => by have := readsIn_len (m.take i); rw [List.length_take] at this; omega
  have hmo : ∀ i, (mountsOf (m.take i)).length ≤ 80 := fun i => by have := mountsOf_len (m.take i); rw [List.length_take] at this; omega
  refine loop_eq (S := Int × List Loc × Int × List Int) (σ := Unit) (fun i _ => (((readsIn (m.take i)).length : Int), readsIn (m.take i), (i : Int), mountsOf (m.take i))) m.length (fun _ _ => True) _ (i0 := 0) (s0 := ()) (by simp [readsIn, mountsOf]) (Nat.zero_le _) trivial (by omega) ?_ ?_
  · intro rec i _ hi _ hrec
    simp only [cellarerlaw22_MountsOrder.l4]
    have h3 := hrec () trivial
    rw [take_snoc' hi, readsIn_snoc, mountsOf_snoc] at h3
    have hq := hrl i
    have hq2 := hmo i
    rw [if_t (lt_t hi), ix_lt hi, bd_mk]
    by_cases hk : m[i].kind = 1
    · rw [if_pos hk, if_pos hk, List.append_nil] at h3
      rw [if_t (decide_eq_true hk)]
      have hno : m[i].vol ∉ mountsOf (m.take i) := fun hc => by
        have hsub : mountsOf (m.take (i + 1)) = mountsOf (m.take i) ++ [m[i].vol] := by rw [take_snoc' hi, mountsOf_snoc, if_pos hk]
        have hnd2 : (mountsOf (m.take (i + 1))).Nodup := by
          refine hnd.sublist ?_
          unfold mountsOf
          exact ((List.take_sublist _ _).filter _).map _
        rw [hsub] at hnd2
        exact (List.nodup_append.1 hnd2).2.2 _ hc _ (by simp) rfl
      refine loop_eq (S := Int) (σ := Unit) (fun t _ => (t : Int)) (mountsOf (m.take i)).length (fun _ _ => True) _ (i0 := 0) (s0 := ()) rfl (Nat.zero_le _) trivial (by omega) ?_ ?_
      · intro rec2 t _ ht _ hrec2
        simp only [cellarerlaw22_MountsOrder.l10]
        rw [if_t (lt_t ht), ix_lt ht, bd_mk, ix_lt hi, bd_mk, if_f (decide_eq_false fun e => hno (by rw [← e]; exact List.getElem_mem ht)), wr_succ (by omega)]
        exact hrec2 () trivial
      · intro rec2 _ _
        simp only [cellarerlaw22_MountsOrder.l10, cellarerlaw22_MountsOrder.k9, cellarerlaw22_MountsOrder.k5]
        rw [if_f (lt_f (Nat.lt_irrefl _)), ix_lt hi, bd_mk, app_ok (by simp; omega), bd_mk, wr_succ (by omega)]
        exact h3
    · rw [if_neg hk, if_neg hk, List.append_nil] at h3
      rw [if_f (decide_eq_false hk)]
      simp only [cellarerlaw22_MountsOrder.k6]
      have hok : ∀ x ∈ readsIn (m.take i), x.vol = m[i].loc.vol → ¬ ordLoc m[i].loc x < 0 := fun x hx e => by
        have hsub : readsIn (m.take (i + 1)) = readsIn (m.take i) ++ [m[i].loc] := by rw [take_snoc' hi, readsIn_snoc, if_neg hk]
        have ho2 : InOrder (readsIn (m.take (i + 1))) := by
          refine List.Pairwise.sublist ?_ hord
          unfold readsIn
          exact ((List.take_sublist _ _).filter _).map _
        rw [hsub] at ho2
        exact (List.pairwise_append.1 ho2).2.2 x hx _ (by simp) e
      refine loop_eq (S := Int) (σ := Unit) (fun t _ => (t : Int)) (readsIn (m.take i)).length (fun _ _ => True) _ (i0 := 0) (s0 := ()) rfl (Nat.zero_le _) trivial (by omega) ?_ ?_
      · intro rec2 t _ ht _ hrec2
        simp only [cellarerlaw22_MountsOrder.l8]
        rw [if_t (lt_t ht), ix_lt ht, bd_mk, ix_lt hi, bd_mk]
        by_cases he : (readsIn (m.take i))[t].vol = m[i].loc.vol
        · rw [decide_eq_true he, only_t rfl, bd_mk, only_t rfl, bd_mk, only_t rfl, ahead_eq, bd_mk, decide_eq_false (hok _ (List.getElem_mem ht) he), if_f (by rfl), wr_succ (by omega)]
          exact hrec2 () trivial
        · rw [decide_eq_false he]
          simp only [only_f, bd_mk]
          rw [if_f (by rfl), wr_succ (by omega)]
          exact hrec2 () trivial
      · intro rec2 _ _
        simp only [cellarerlaw22_MountsOrder.l8, cellarerlaw22_MountsOrder.k7, cellarerlaw22_MountsOrder.k5]
        rw [if_f (lt_f (Nat.lt_irrefl _)), ix_lt hi, bd_mk, app_ok (by simp; omega), bd_mk, wr_succ (by omega), wr_succ (by omega)]
        rw [List.length_append, List.length_singleton] at h3
        exact h3
  · intro rec _ _
    simp only [cellarerlaw22_MountsOrder.l4, cellarerlaw22_MountsOrder.k3]
    rw [if_f (lt_f (Nat.lt_irrefl _)), List.take_length, hall, decide_eq_true rfl, only_t rfl, wakes22, bd_mk]; rfl
theorem mountsOrder_true (hs : List Int) (ws : List Want) (kh : okL okI hs) (kw : okL Want.ok ws) : cellarerlaw22_MountsOrder hs ws = some true := by
  unfold cellarerlaw22_MountsOrder
  by_cases hb : ((decide ((hs.length : Int) < 1) || decide (4 < (hs.length : Int))) || decide (40 < (ws.length : Int))) = true
  · rw [if_t hb]
  have hb' : ((decide ((hs.length : Int) < 1) || decide (4 < (hs.length : Int))) || decide (40 < (ws.length : Int))) = false := by simpa using hb
  rw [if_f hb']
  simp only [Bool.or_eq_false_iff, decide_eq_false_iff_not] at hb'
  refine loop_eq (S := Int) (σ := Unit) (fun i _ => (i : Int)) hs.length (fun i _ => Apart (hs.take i)) _ (i0 := 0) (s0 := ()) rfl (Nat.zero_le _) (by rw [List.take_zero]; exact List.Pairwise.nil) (by omega) ?_ ?_
  · intro rec i _ hi hI hrec
    simp only [cellarerlaw22_MountsOrder.l14]
    rw [if_t (lt_t hi)]
    refine loop_eq (S := Int) (σ := Unit) (fun k _ => (k : Int)) i (fun k _ => ¬ (0 ≤ hs[i] ∧ hs[i] ∈ hs.take k)) _ (i0 := 0) (s0 := ()) rfl (Nat.zero_le _) (by simp) (by omega) ?_ ?_
    · intro rec2 k _ hk hK hrec2
      have hkl : k < hs.length := by omega
      simp only [cellarerlaw22_MountsOrder.l16]
      rw [if_t (lt_t hk), ix_lt hi, bd_mk]
      by_cases hp : 0 ≤ hs[i]
      · rw [decide_eq_true hp, only_t rfl, bd_mk, only_t rfl, ix_lt hkl, bd_mk]
        by_cases he : hs[i] = hs[k]
        · rw [decide_eq_true he, if_t (by rfl)]
        · rw [decide_eq_false he, if_f (by rfl), wr_succ (by omega)]
          refine hrec2 () fun hc => ?_
          rw [take_snoc' hkl, List.mem_append, List.mem_singleton] at hc
          rcases hc.2 with h | h
          · exact hK ⟨hp, h⟩
          · exact he h
      · rw [decide_eq_false hp]
        simp only [only_f, bd_mk]
        rw [if_f (by rfl), wr_succ (by omega)]
        exact hrec2 () fun hc => hp hc.1
    · intro rec2 _ hK
      simp only [cellarerlaw22_MountsOrder.l16, cellarerlaw22_MountsOrder.k15]
      rw [if_f (lt_f (Nat.lt_irrefl _)), wr_succ (by omega)]
      refine hrec () ?_
      rw [take_snoc' hi]
      refine List.pairwise_append.2 ⟨hI, by simp, fun a ha b hb h0 e => ?_⟩
      simp at hb; subst hb
      exact hK ⟨h0, e ▸ ha⟩
  intro rec _ hap
  rw [List.take_length] at hap
  simp only [cellarerlaw22_MountsOrder.l14, cellarerlaw22_MountsOrder.k1]
  rw [if_f (lt_f (Nat.lt_irrefl _))]
  refine loop_eq (S := Int) (σ := Unit) (fun i _ => (i : Int)) ws.length (fun i _ => ∀ w ∈ ws.take i, w.locs.length ≤ 20 ∧ ∀ x ∈ w.locs, 0 ≤ x.vol) _ (i0 := 0) (s0 := ()) rfl (Nat.zero_le _) (by simp) (by omega) ?_ ?_
  · intro rec2 i _ hi hI hrec
    simp only [cellarerlaw22_MountsOrder.l11]
    rw [if_t (lt_t hi), ix_lt hi, bd_mk]
    by_cases h20 : 20 < (ws[i].locs.length : Int)
    · rw [if_t (decide_eq_true h20)]
    rw [if_f (decide_eq_false h20)]
    refine loop_eq (S := Int) (σ := Unit) (fun k _ => (k : Int)) ws[i].locs.length (fun k _ => ∀ x ∈ ws[i].locs.take k, 0 ≤ x.vol) _ (i0 := 0) (s0 := ()) rfl (Nat.zero_le _) (by simp) (by omega) ?_ ?_
    · intro rec3 k _ hk hK hrec3
      simp only [cellarerlaw22_MountsOrder.l13]
      rw [ix_lt hi, bd_mk, if_t (lt_t hk), bd_mk, ix_lt hk, bd_mk]
      by_cases hc : ws[i].locs[k].vol < 0
      · rw [if_t (decide_eq_true hc)]
      · rw [if_f (decide_eq_false hc), wr_succ (by omega)]
        refine hrec3 () fun x hx => ?_
        rw [take_snoc' hk] at hx
        rcases List.mem_append.1 hx with h | h
        · exact hK x h
        · simp at h; subst h; omega
    · intro rec3 _ hK
      rw [List.take_length] at hK
      simp only [cellarerlaw22_MountsOrder.l13, cellarerlaw22_MountsOrder.k12]
      rw [ix_lt hi, bd_mk, if_f (lt_f (Nat.lt_irrefl _)), wr_succ (by omega)]
      refine hrec () fun w hw => ?_
      rw [take_snoc' hi] at hw
      rcases List.mem_append.1 hw with h | h
      · exact hI w h
      · simp at h; subst h; exact ⟨by omega, hK⟩
  · intro rec2 _ hI
    rw [List.take_length] at hI
    simp only [cellarerlaw22_MountsOrder.l11]
    rw [if_f (lt_f (Nat.lt_irrefl _))]
    exact order_moves hs ws hap (by omega) (by omega) (by omega) hI
end Go.Wk.Lf
