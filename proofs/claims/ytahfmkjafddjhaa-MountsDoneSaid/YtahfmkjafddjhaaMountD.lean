/- The law MountsDone, plainly. -/
import Derived.Test.YtahfmkjafddjhaaMountI
import Derived.Test.YtahfmkjafddjhaaLwMountsDone
namespace Go.Wk.Lf
open Go.Shelf Go.Sort
set_option linter.unusedVariables false

abbrev SE := List Int × Int × Int × List Bool × List Int
theorem law_read (l : List Read) (m : List Move) (mt : List Int) (rd p : Nat) (dn : List Bool) (held : List Int) (i k : Nat) (v : Int) (hl : l.length ≤ 60) (hm : m.length ≤ 1000) (hr : rd ≤ 1000) (hh : held.length ≤ 4) (hd : dn.length = l.length) (hk : k < l.length)
    (hmp : m[p]? = some (Move.mk 2 (i : Int) v l[k].loc)) (hv : held[i]? = some v) (hdk : dn[k]? = some false) (hvk : l[k].loc.vol = v) (hb : ∀ (j : Nat) (r : Read), j < k → dn[j]? = some false → l[j]? = some r → r.loc.vol ≠ v) (rec : SE → Option Bool) :
    cellarerlaw22_MountsDone.l4 l (m, 0) rec (mt, (rd : Int), (p : Int), dn, held) = rec (mt, ((rd + 1 : Nat) : Int), ((p + 1 : Nat) : Int), dn.set k true, held) := by
  have hp := (List.getElem?_eq_some_iff.1 hmp).1
  have hi := (List.getElem?_eq_some_iff.1 hv).1
  simp only [cellarerlaw22_MountsDone.l4]
  have hix : ix m (p : Int) = some (Move.mk 2 (i : Int) v l[k].loc) := by rw [ix_nat]; exact hmp
  have hixh : ix held (i : Int) = some v := by rw [ix_nat]; exact hv
  rw [if_t (lt_t hp), hix, bd_mk]
  dsimp only
  rw [decide_eq_false (show ¬ (i : Int) < 0 by omega), decide_eq_false (show ¬ (held.length : Int) ≤ (i : Int) by omega), if_f (by rfl), if_f (by rfl)]
  simp only [cellarerlaw22_MountsDone.k6]
  have hkd : k < dn.length := by omega
  refine loop_eq (S := Int) (σ := Unit) (fun j _ => (j : Int)) k (fun _ _ => True) _ (i0 := 0) (s0 := ()) rfl (Nat.zero_le _) trivial (by omega) ?_ ?_
  · intro rec2 j _ hj _ hrec
    have hjl : j < l.length := by omega
    have hjd : j < dn.length := by omega
    simp only [cellarerlaw22_MountsDone.l8]
    rw [lt_t hjl, only_t rfl, ix_lt hjd, bd_mk]
    cases hdj : dn[j] with
    | true =>
      simp only [Bool.not_true, Bool.and_false, Bool.true_or, Bool.and_true]
      rw [only_f rfl, bd_mk, if_pos trivial, wr_succ (by omega)]
      exact hrec () trivial
    | false =>
      have hne := hb j l[j] hj (by rw [List.getElem?_eq_getElem hjd, hdj]) (List.getElem?_eq_getElem hjl)
      simp only [Bool.not_false, Bool.and_true, Bool.false_or, Bool.true_and]
      rw [only_t rfl, ix_lt hjl, bd_mk, if_t (decide_eq_true hne), wr_succ (by omega)]
      exact hrec () trivial
  · intro rec2 _ _
    have hdk' : dn[k] = false := by rw [List.getElem?_eq_getElem hkd] at hdk; exact Option.some.inj hdk
    simp only [cellarerlaw22_MountsDone.l8]
    rw [lt_t hk, only_t rfl, ix_lt hkd, bd_mk, hdk']
    simp only [Bool.not_false, Bool.and_true, Bool.false_or, Bool.true_and]
    rw [only_t rfl, ix_lt hk, bd_mk, if_f (decide_eq_false (by simp [hvk]))]
    simp only [cellarerlaw22_MountsDone.k7, cellarerlaw22_MountsDone.k5]
    rw [show decide ((2 : Int) ≠ 2) = false by rfl]
    simp only [Bool.not_false, Bool.false_or]
    rw [only_t rfl, hixh, bd_mk, decide_eq_false (show ¬ v ≠ v by simp), decide_eq_false (show ¬ (k : Int) = (l.length : Int) by omega)]
    simp only [Bool.or_self, Bool.not_false, Bool.false_or]
    rw [only_t rfl, ix_lt hk, bd_mk, only_t rfl, keepLoc_eq, bd_mk, decide_eq_true rfl, if_f (by rfl), ix_lt hkd, bd_mk, wr_succ (by omega), wr_succ (by omega), Int.toNat_natCast]
theorem law_mount (l : List Read) (m : List Move) (mt : List Int) (rd p : Nat) (dn : List Bool) (held : List Int) (b : Nat) (v : Int) (hm : m.length ≤ 1000) (hh : held.length ≤ 4) (hb : b < held.length) (hmt : mt.length ≤ 1000) (hmp : m[p]? = some (Move.mk 1 (b : Int) v (Loc.mk 0 0 0 0))) (hno : v ∉ mt) (rec : SE → Option Bool) :
    cellarerlaw22_MountsDone.l4 l (m, 0) rec (mt, (rd : Int), (p : Int), dn, held) = rec (mt ++ [v], (rd : Int), ((p + 1 : Nat) : Int), dn, held.set b v) := by
  have hp := (List.getElem?_eq_some_iff.1 hmp).1
  simp only [cellarerlaw22_MountsDone.l4]
  have hix : ix m (p : Int) = some (Move.mk 1 (b : Int) v (Loc.mk 0 0 0 0)) := by rw [ix_nat]; exact hmp
  rw [if_t (lt_t hp), hix, bd_mk]
  dsimp only
  rw [decide_eq_false (show ¬ (b : Int) < 0 by omega), decide_eq_false (show ¬ (held.length : Int) ≤ (b : Int) by omega), if_f (by rfl), if_t (by rfl)]
  refine loop_eq (S := Int) (σ := Unit) (fun j _ => (j : Int)) mt.length (fun _ _ => True) _ (i0 := 0) (s0 := ()) rfl (Nat.zero_le _) trivial (by omega) ?_ ?_
  · intro rec2 j _ hj _ hrec
    simp only [cellarerlaw22_MountsDone.l10]
    rw [if_t (lt_t hj), ix_lt hj, bd_mk, if_f (decide_eq_false fun e => hno (by rw [← e]; exact List.getElem_mem hj)), wr_succ (by omega)]
    exact hrec () trivial
  · intro rec2 _ _
    simp only [cellarerlaw22_MountsDone.l10, cellarerlaw22_MountsDone.k9, cellarerlaw22_MountsDone.k5]
    rw [if_f (lt_f (Nat.lt_irrefl _)), app_ok (by simp; omega), bd_mk, ix_lt hb, bd_mk, wr_succ (by omega), Int.toNat_natCast]
theorem law_end (l : List Read) (m : List Move) (mt : List Int) (dn : List Bool) (held : List Int) (rec : SE → Option Bool) : cellarerlaw22_MountsDone.l4 l (m, 0) rec (mt, (l.length : Int), (m.length : Int), dn, held) = some true := by
  simp only [cellarerlaw22_MountsDone.l4, cellarerlaw22_MountsDone.k3]
  rw [if_f (lt_f (Nat.lt_irrefl _))]
  simp only [decide_true, Bool.true_and]
  rw [only_t rfl, wakes22, bd_mk]
theorem drop_at {α : Type} {m : List α} {p : Nat} {x : α} {r : List α} (h : m.drop p = x :: r) : m[p]? = some x ∧ m.drop (p + 1) = r := by
  constructor
  · have := congrArg (fun q => q[0]?) h
    simpa using this
  · rw [← List.drop_drop, h]; rfl
theorem read_runD (l : List Read) (m : List Move) (mt held : List Int) (i : Nat) (v : Int) (hl : l.length ≤ 60) (hm : m.length ≤ 1000) (hh : held.length ≤ 4) (hv : held[i]? = some v) (G : List Int) (hG : v ∉ G) (res : Option Bool) (N : Nat) (rest : List Move) :
    ∀ (q k rd p : Nat), k + q = l.length → rd + q ≤ 1000 → m.drop p = (vr v (l.drop k)).map (fun r => Move.mk 2 (i : Int) v r.loc) ++ rest →
      (m.drop (p + (vr v (l.drop k)).length) = rest → Runs (cellarerlaw22_MountsDone.l4 l (m, 0)) N (mt, ((rd + (vr v (l.drop k)).length : Nat) : Int), ((p + (vr v (l.drop k)).length : Nat) : Int), doneG (v :: G) l, held) res) →
      Runs (cellarerlaw22_MountsDone.l4 l (m, 0)) (N + (vr v (l.drop k)).length) (mt, (rd : Int), (p : Int), donePat G v k l, held) res := by
  intro q
  induction q with
  | zero =>
    intro k rd p hk ho hd hr
    have : k = l.length := by omega
    subst this
    rw [donePat_all]
    have hz : vr v (l.drop l.length) = [] := by rw [List.drop_length]; rfl
    rw [hz] at hd hr ⊢
    simpa using hr (by simpa using hd)
  | succ q ih =>
    intro k rd p hk ho hd hr
    have hkl : k < l.length := by omega
    have hdl : l.drop k = l[k] :: l.drop (k + 1) := List.drop_eq_getElem_cons hkl
    by_cases he : l[k].loc.vol = v
    · have hvr : vr v (l.drop k) = l[k] :: vr v (l.drop (k + 1)) := by rw [hdl, vr, List.filter_cons_of_pos (by simpa using he)]; rfl
      rw [hvr] at hd hr ⊢
      simp only [List.map_cons, List.cons_append] at hd
      obtain ⟨h1, h2⟩ := drop_at hd
      refine Runs.step (N := N + (vr v (l.drop (k + 1))).length) (s' := (mt, ((rd + 1 : Nat) : Int), ((p + 1 : Nat) : Int), donePat G v (k + 1) l, held)) (fun rec => ?_) (ih (k + 1) (rd + 1) (p + 1) (by omega) (by omega) h2 fun h3 => ?_)
      · rw [law_read l m mt rd p _ held i k v hl hm (by omega) hh (donePat_len _ _ _ _) hkl h1 hv ?_ he ?_ rec, donePat_set hkl he]
        · rw [donePat_at, List.getElem?_eq_getElem hkl]
          have : l[k].loc.vol ∉ G := by rw [he]; exact hG
          simp [this]
        · intro j r hj hdj hlj e
          rw [donePat_at, hlj] at hdj
          simp [e, hj] at hdj
      · have := hr (by rw [List.length_cons, ← h3]; congr 1; omega)
        rw [List.length_cons] at this
        rw [show rd + 1 + (vr v (l.drop (k + 1))).length = rd + ((vr v (l.drop (k + 1))).length + 1) by omega, show p + 1 + (vr v (l.drop (k + 1))).length = p + ((vr v (l.drop (k + 1))).length + 1) by omega]
        exact this
    · have hvr : vr v (l.drop k) = vr v (l.drop (k + 1)) := by rw [hdl, vr, List.filter_cons_of_neg (by simpa using he)]; rfl
      rw [hvr] at hd hr ⊢
      rw [← donePat_skip hkl he]
      exact ih (k + 1) rd p (by omega) (by omega) hd hr
theorem rest_runD (l : List Read) (m : List Move) (hl : l.length ≤ 60) (hm : m.length ≤ 1000) : ∀ (vs : List Int) (G mt held a : List Int) (n : Int) (rd p : Nat), vs.Nodup → (∀ v ∈ vs, v ∉ G) → (∀ v ∈ vs, v ∉ mt) → 0 < held.length → held.length ≤ 4 → a.length = held.length → mt.length + vs.length ≤ 1000 → rd + (vs.flatMap fun v => vr v l).length = l.length → p ≤ m.length → m.drop p = restM l vs held a n →
    Runs (cellarerlaw22_MountsDone.l4 l (m, 0)) ((restM l vs held a n).length + 1) (mt, (rd : Int), (p : Int), doneG G l, held) (some true) := by
  intro vs
  induction vs with
  | nil =>
    intro G mt held a n rd p _ _ _ h0 h4 ha hmt hrd hp hd
    have : m.length ≤ p := by simpa [restM] using hd
    have : p = m.length := by omega
    subst this
    have : rd = l.length := by simpa using hrd
    subst this
    exact Runs.last fun rec => law_end l m mt _ held rec
  | cons v vs ih =>
    intro G mt held a n rd p hn hG hmtv h0 h4 ha hmt hrd hp hd
    obtain ⟨hn1, hn2⟩ := List.nodup_cons.1 hn
    simp only [restM] at hd ⊢
    simp only [List.length_cons, List.length_append, rdM_len] at hmt ⊢
    rw [List.flatMap_cons, List.length_append] at hrd
    have hfi : freeI held a < held.length := freeI_lt h0
    obtain ⟨h1, h2⟩ := drop_at hd
    rw [show (vr v l).length + (restM l vs (held.set (freeI held a) v) (a.set (freeI held a) (n + 1)) (n + 1)).length + 1 + 1 = ((restM l vs (held.set (freeI held a) v) (a.set (freeI held a) (n + 1)) (n + 1)).length + 1 + (vr v l).length) + 1 by omega]
    refine Runs.step (fun rec => law_mount l m mt rd p (doneG G l) held (freeI held a) v hm h4 hfi (by omega) h1 (hmtv v (by simp)) rec) ?_
    have hrr := read_runD l m (mt ++ [v]) (held.set (freeI held a) v) (freeI held a) v hl hm (by simpa using h4) (by rw [List.getElem?_set, if_pos rfl, if_pos hfi]) G (hG v (by simp)) (some true) ((restM l vs (held.set (freeI held a) v) (a.set (freeI held a) (n + 1)) (n + 1)).length + 1) (restM l vs (held.set (freeI held a) v) (a.set (freeI held a) (n + 1)) (n + 1)) l.length 0 rd (p + 1) (by omega) (by omega) (by rw [List.drop_zero]; exact h2) (fun h3 => ?_)
    · rw [List.drop_zero, donePat_zero] at hrr
      exact hrr
    · rw [List.drop_zero] at h3 ⊢
      have hpl : p + 1 + (vr v l).length ≤ m.length := by
        have := congrArg List.length h2
        rw [List.length_drop, List.length_append, rdM_len] at this
        have hp1 := (List.getElem?_eq_some_iff.1 h1).1
        omega
      exact ih (v :: G) (mt ++ [v]) (held.set (freeI held a) v) (a.set (freeI held a) (n + 1)) (n + 1) (rd + (vr v l).length) (p + 1 + (vr v l).length) hn2 (fun u hu => by
          rw [List.mem_cons, not_or]
          exact ⟨fun e => hn1 (e ▸ hu), hG u (by simp [hu])⟩) (fun u hu => by
          rw [List.mem_append, List.mem_singleton, not_or]
          exact ⟨hmtv u (by simp [hu]), fun e => hn1 (e ▸ hu)⟩) (by simpa using h0) (by simpa using h4) (by simpa using ha) (by simp; omega) (by omega) hpl h3
theorem init_runD (l : List Read) (m : List Move) (hl : l.length ≤ 60) (hm : m.length ≤ 1000) (hs : List Int) (h4 : hs.length ≤ 4) (hap : Apart hs) (N : Nat) (rest : List Move) (tot : Nat) (hfin : ∀ p, p ≤ m.length → m.drop p = rest → Runs (cellarerlaw22_MountsDone.l4 l (m, 0)) N ([], (tot : Int), (p : Int), doneG (heldV hs) l, hs) (some true)) :
    ∀ (q i rd p : Nat), i + q = hs.length → rd + (initM l (hs.drop i) i).length = tot → tot ≤ 100 → p ≤ m.length → m.drop p = initM l (hs.drop i) i ++ rest → Runs (cellarerlaw22_MountsDone.l4 l (m, 0)) (N + (initM l (hs.drop i) i).length) ([], (rd : Int), (p : Int), doneG (heldV (hs.take i)) l, hs) (some true) := by
  intro q
  induction q with
  | zero =>
    intro i rd p hi ht h100 hp hd
    have : i = hs.length := by omega
    subst this
    rw [List.drop_length] at ht hd ⊢
    rw [List.take_length]
    simp only [initM, List.length_nil, Nat.add_zero, List.nil_append] at ht hd ⊢
    subst ht
    exact hfin p hp hd
  | succ q ih =>
    intro i rd p hi ht h100 hp hd
    have hil : i < hs.length := by omega
    have hdl : hs.drop i = hs[i] :: hs.drop (i + 1) := List.drop_eq_getElem_cons hil
    rw [hdl] at ht hd ⊢
    simp only [initM] at ht hd ⊢
    by_cases hpp : 0 ≤ hs[i]
    · rw [if_pos hpp] at ht hd ⊢
      simp only [List.length_append, rdM_len, List.append_assoc] at ht hd ⊢
      have hng : hs[i] ∉ heldV (hs.take i) := fun hc => by
        have hmm := (List.mem_filter.1 hc).1
        obtain ⟨p', hpp', he⟩ := List.mem_take_iff_getElem.1 hmm
        exact List.pairwise_iff_getElem.1 hap p' i (by omega) hil (by omega) hpp he
      have hrr := read_runD l m [] hs i hs[i] hl hm h4 (List.getElem?_eq_getElem hil) (heldV (hs.take i)) hng (some true) (N + (initM l (hs.drop (i + 1)) (i + 1)).length) (initM l (hs.drop (i + 1)) (i + 1) ++ rest) l.length 0 rd p (by omega) (by omega) (by rw [List.drop_zero]; exact hd) (fun h3 => ?_)
      · rw [List.drop_zero, donePat_zero] at hrr
        rw [show N + ((vr hs[i] l).length + (initM l (hs.drop (i + 1)) (i + 1)).length) = N + (initM l (hs.drop (i + 1)) (i + 1)).length + (vr hs[i] l).length by omega]
        exact hrr
      · rw [List.drop_zero] at h3 ⊢
        have hpl : p + (vr hs[i] l).length ≤ m.length := by
          have := congrArg List.length hd
          rw [List.length_drop, List.length_append, rdM_len] at this
          omega
        have hnext := ih (i + 1) (rd + (vr hs[i] l).length) (p + (vr hs[i] l).length) (by omega) (by omega) h100 hpl h3
        rw [doneG_congr (H := heldV (hs.take (i + 1))) (fun v => ?_)]
        · exact hnext
        · rw [take_snoc' hil, heldV_snoc, if_pos hpp, List.mem_append, List.mem_cons, List.mem_singleton]
          constructor
          · rintro (h | h)
            · exact .inr h
            · exact .inl h
          · rintro (h | h)
            · exact .inr h
            · exact .inl h
    · rw [if_neg hpp] at ht hd ⊢
      simp only [List.nil_append] at ht hd ⊢
      have hnext := ih (i + 1) rd p (by omega) ht h100 hp hd
      rw [doneG_congr (H := heldV (hs.take (i + 1))) (fun v => ?_)]
      · exact hnext
      · rw [take_snoc' hil, heldV_snoc, if_neg hpp, List.append_nil]
theorem done_moves (hs : List Int) (l : List Read) (hap : Apart hs) (h0 : 0 < hs.length) (h4 : hs.length ≤ 4) (hl : l.length ≤ 60) (hv : ∀ r ∈ l, 0 ≤ r.loc.vol) : cellarerlaw22_MountsDone.k2 hs l = some true := by
  unfold cellarerlaw22_MountsDone.k2 cellarerkeep_TwinInts
  have hml := movesL_len hap hv
  have hnl : (newV hs l).length ≤ (volsL l).length := List.length_filter_le _ _
  have hvl := volsL_len l
  rw [moves_ok (errL_zero h0 h4 hap (by omega) hv) (by omega), bd_mk]
  dsimp only
  rw [show decide ((0 : Int) ≠ 0) = false by rfl]
  simp only [Bool.not_false, Bool.false_or]
  rw [only_t rfl, bound_eq l (by omega), bd_mk, decide_eq_false (show ¬ (((l.length + (volsL l).length : Nat)) : Int) < ((movesL hs l).length : Int) by omega)]
  simp only [Bool.not_false, Bool.false_or]
  rw [only_t rfl, bd_mk, only_t rfl, vols20_eq l (by omega), bd_mk, wr_id (by omega) (by omega), if_f (decide_eq_false (by omega)), app_ok (by simp; omega), bd_mk, bd_mk, rep_ok (by omega) (by omega), bd_mk]
  simp only [Int.toNat_natCast, List.nil_append]
  generalize hm : movesL hs l = m at hml ⊢
  have hmv : m = initM l hs 0 ++ restM l (newV hs l) hs (List.replicate hs.length 0) 0 := hm.symm
  have hsum := sum_vr_all _ l (allV_nodup hap l) (allV_mem hv)
  rw [List.flatMap_append, List.length_append] at hsum
  have hil := initM_reads l hs 0
  have hsv : (initM l hs 0).length ≤ l.length := by omega
  have e0 : doneG (heldV []) l = List.replicate l.length false := by
    refine List.ext_getElem? fun j => ?_
    rw [doneG_at, List.getElem?_replicate]
    by_cases hj : j < l.length
    · simp [hj, heldV]
    · simp [hj]
  have hrun := init_runD l m hl (by omega) hs h4 hap ((restM l (newV hs l) hs (List.replicate hs.length 0) 0).length + 1) (restM l (newV hs l) hs (List.replicate hs.length 0) 0) (initM l hs 0).length (fun p hp hd => rest_runD l m hl (by omega) (newV hs l) (heldV hs) [] hs (List.replicate hs.length 0) 0 (initM l hs 0).length p (newV_nodup _ _) (fun v hvm hc => (List.nodup_append.1 (allV_nodup hap l)).2.2 v hc v hvm rfl) (fun v _ => by simp) h0 h4 (by simp) (by simp; omega) (by omega) hp hd) hs.length 0 0 0 (by omega) (by simp) (by omega) (Nat.zero_le _) (by rw [List.drop_zero, List.drop_zero]; exact hmv)
  rw [List.drop_zero, List.take_zero, e0] at hrun
  refine hrun.loop ?_
  have := congrArg List.length hmv
  rw [List.length_append] at this
  omega
theorem mountsDone_true (hs : List Int) (l : List Read) (kh : okL okI hs) (kl : okL Read.ok l) : cellarerlaw22_MountsDone hs l = some true := by
  unfold cellarerlaw22_MountsDone
  by_cases hb : ((decide ((hs.length : Int) < 1) || decide (4 < (hs.length : Int))) || decide (60 < (l.length : Int))) = true
  · rw [if_t hb]
  have hb' : ((decide ((hs.length : Int) < 1) || decide (4 < (hs.length : Int))) || decide (60 < (l.length : Int))) = false := by simpa using hb
  rw [if_f hb']
  simp only [Bool.or_eq_false_iff, decide_eq_false_iff_not] at hb'
  refine loop_eq (S := Int) (σ := Unit) (fun i _ => (i : Int)) hs.length (fun i _ => Apart (hs.take i)) _ (i0 := 0) (s0 := ()) rfl (Nat.zero_le _) (by rw [List.take_zero]; exact List.Pairwise.nil) (by omega) ?_ ?_
  · intro rec i _ hi hI hrec
    simp only [cellarerlaw22_MountsDone.l12]
    rw [if_t (lt_t hi)]
    refine loop_eq (S := Int) (σ := Unit) (fun k _ => (k : Int)) i (fun k _ => ¬ (0 ≤ hs[i] ∧ hs[i] ∈ hs.take k)) _ (i0 := 0) (s0 := ()) rfl (Nat.zero_le _) (by simp) (by omega) ?_ ?_
    · intro rec2 k _ hk hK hrec2
      have hkl : k < hs.length := by omega
      simp only [cellarerlaw22_MountsDone.l14]
      rw [if_t (lt_t hk), ix_lt hi, bd_mk]
      by_cases hp : 0 ≤ hs[i]
      · rw [decide_eq_true hp, only_t rfl, bd_mk, only_t rfl, ix_lt hkl, bd_mk]
        by_cases he : hs[i] = hs[k]
        · rw [decide_eq_true he, if_t (by rfl)]
        · rw [decide_eq_false he, if_f (by rfl), wr_succ (by omega)]
          refine hrec2 () fun hc => ?_
          rw [take_snoc' hkl, List.mem_append, List.mem_singleton] at hc
          rcases hc.2 with h | h
          · exact hK ⟨hp, h⟩
          · exact he h
      · rw [decide_eq_false hp]
        simp only [only_f, bd_mk]
        rw [if_f (by rfl), wr_succ (by omega)]
        exact hrec2 () fun hc => hp hc.1
    · intro rec2 _ hK
      simp only [cellarerlaw22_MountsDone.l14, cellarerlaw22_MountsDone.k13]
      rw [if_f (lt_f (Nat.lt_irrefl _)), wr_succ (by omega)]
      refine hrec () ?_
      rw [take_snoc' hi]
      refine List.pairwise_append.2 ⟨hI, by simp, fun a ha b hb h0 e => ?_⟩
      simp at hb; subst hb
      exact hK ⟨h0, e ▸ ha⟩
  intro rec _ hap
  rw [List.take_length] at hap
  simp only [cellarerlaw22_MountsDone.l12, cellarerlaw22_MountsDone.k1]
  rw [if_f (lt_f (Nat.lt_irrefl _))]
  refine loop_eq (S := Int) (σ := Unit) (fun i _ => (i : Int)) l.length (fun i _ => ∀ r ∈ l.take i, 0 ≤ r.loc.vol) _ (i0 := 0) (s0 := ()) rfl (Nat.zero_le _) (by simp) (by omega) ?_ ?_
  · intro rec2 i _ hi hI hrec
    simp only [cellarerlaw22_MountsDone.l11]
    rw [if_t (lt_t hi), ix_lt hi, bd_mk]
    by_cases hc : l[i].loc.vol < 0
    · rw [if_t (decide_eq_true hc)]
    · rw [if_f (decide_eq_false hc), wr_succ (by omega)]
      refine hrec () fun r hr => ?_
      rw [take_snoc' hi] at hr
      rcases List.mem_append.1 hr with h | h
      · exact hI r h
      · simp at h; subst h; omega
  · intro rec2 _ hI
    rw [List.take_length] at hI
    simp only [cellarerlaw22_MountsDone.l11]
    rw [if_f (lt_f (Nat.lt_irrefl _))]
    exact done_moves hs l hap (by omega) (by omega) (by omega) hI
end Go.Wk.Lf
