/- TreeExact, plainly: the page's functions, and the law. -/
import Derived.Test.YtemoafemddopcaaPa
namespace Go.Wk.Lf
open Go.Shelf Go.Sort Go.Proofs
set_option linter.unusedVariables false
set_option linter.unusedSimpArgs false
theorem refname_eq (s : List UInt8) (hl : s.length < 4611686018427387904) : cellarerref01_Name s = some (nameB s) := by
  unfold cellarerref01_Name nameB
  rw [loop_all (x0 := (0 : Int)) (fun i => (i : Int)) s.length (fun i => seen (s.getD i 0)) (some (decide (1 ≤ s.length) && decide (s.length ≤ 20))) (some false) rfl hl ?_ ?_]
  · by_cases h : s.all seen = true
    · rw [h, if_pos ((all_iff s seen _ fun i hi => by simp [hi]).2 h), Bool.and_true]
    · rw [Bool.not_eq_true] at h
      rw [h, if_neg fun h3 => by rw [(all_iff s seen _ fun i hi => by simp [hi]).1 h3] at h; cases h]
      rw [Bool.and_false]
  · intro rec i hi
    simp only [cellarerref01_Name.l2]
    rw [if_t (lt_t hi), ix_lt hi, bd_mk]
    simp only [hi, List.getD_eq_getElem?_getD, List.getElem?_eq_getElem, Option.getD_some, seen]
    by_cases h33 : (s[i].toNat : Int) < 33
    · rw [only_f (by simp; omega), bd_mk, if_pos (by simp [h33])]
      rw [if_neg (by simp only [Bool.and_eq_true, decide_eq_true_eq]; omega)]
    · rw [only_t (by simp; omega), bd_mk]
      by_cases h126 : (126 : Int) < (s[i].toNat : Int)
      · rw [if_pos (by simp [h126]), if_neg (by simp only [Bool.and_eq_true, decide_eq_true_eq]; omega)]
      · rw [if_neg (by simp only [Bool.or_eq_true, decide_eq_true_eq]; omega), if_pos (by simp only [Bool.and_eq_true, decide_eq_true_eq]; omega), wr_succ (by omega)]
  · intro rec
    simp only [cellarerref01_Name.l2, cellarerref01_Name.k1]
    rw [if_f (lt_f (Nat.lt_irrefl _))]
    congr 2
    · simp; omega
    · simp; omega
theorem reflong_eq (l : List File) (hl : l.length < 4611686018427387904) : cellarerref01_long l = some (longB l) := by
  unfold cellarerref01_long longB
  by_cases h : 6 < l.length
  · rw [if_pos (by simp; omega)]; simp [h]
  · rw [if_neg (by simp; omega)]
    rw [loop_all (x0 := (0 : Int)) (fun i => (i : Int)) l.length (fun i => !decide (200 < (l.getD i default).data.length)) (some false) (some true) rfl hl ?_ ?_]
    · simp only [h, decide_false, Bool.false_or]
      have hall := all_iff l (fun f => !decide (200 < f.data.length)) (fun i => !decide (200 < (l.getD i default).data.length)) (fun i hi => by simp [hi])
      by_cases ha : l.all (fun f => !decide (200 < f.data.length)) = true
      · rw [if_pos (hall.2 ha)]
        congr 1
        rw [eq_comm, List.any_eq_false]
        intro x hx
        have := List.all_eq_true.1 ha x hx
        simpa using this
      · rw [if_neg fun q => ha (hall.1 q)]
        congr 1
        rw [Bool.not_eq_true, List.all_eq_false] at ha
        obtain ⟨x, hx, q⟩ := ha
        rw [eq_comm, List.any_eq_true]
        exact ⟨x, hx, by simpa using q⟩
    · intro rec i hi
      simp only [cellarerref01_long.l2]
      rw [if_t (lt_t hi), ix_lt hi, bd_mk]
      simp only [List.getD_eq_getElem?_getD, List.getElem?_eq_getElem hi, Option.getD_some]
      by_cases h2 : 200 < l[i].data.length
      · rw [if_pos (by simp; omega), if_neg (by simp; omega)]
      · rw [if_neg (by simp; omega), if_pos (by simp; omega), wr_succ (by omega)]
    · intro rec
      simp only [cellarerref01_long.l2, cellarerref01_long.k1]
      rw [if_f (lt_f (Nat.lt_irrefl _))]
theorem reftree_eq (l : List File) (hll : l.length < 4611686018427387904) (hp : ∀ f ∈ l, f.path.length < 4611686018427387904) : cellarerref01_Tree l = some (chkL l) := by
  unfold cellarerref01_Tree
  rw [← check_eq l]
  unfold tree_Check
  rw [reflong_eq l hll, long_eq, bd_mk, bd_mk]
  cases hL : longB l with
  | true => rfl
  | false =>
    obtain ⟨hl, hd⟩ := long_f hL
    simp only [Bool.false_eq_true, if_false]
    rw [loop_all (x0 := (0 : Int)) (fun i => (i : Int)) l.length (fun i => nameB (l.getD i default).path && (!decide (0 < i) || sLt (l.getD (i - 1) default).path (l.getD i default).path)) (some 0) (some 1) rfl (by omega) ?_ ?_]
    rw [loop_all (x0 := (0 : Int)) (fun i => (i : Int)) l.length (fun i => nameB (l.getD i default).path && (!decide (0 < i) || sLt (l.getD (i - 1) default).path (l.getD i default).path)) (some 0) (some 1) rfl (by omega) ?_ ?_]
    · intro rec i hi
      simp only [tree_Check.l2]
      rw [if_t (lt_t hi), ix_lt hi, bd_mk, name_eq, bd_mk]
      simp only [List.getD_eq_getElem?_getD, List.getElem?_eq_getElem hi, Option.getD_some]
      cases hN : nameB l[i].path with
      | false => rw [only_f (by simp), bd_mk]; rfl
      | true =>
        by_cases h0 : 0 < i
        · have hi' : i - 1 < l.length := by omega
          have h0' : (0 : Int) < (i : Int) := by omega
          rw [only_t (by simp; omega), wr_pred h0 (by omega), ix_lt hi', bd_mk]
          simp only [List.getElem?_eq_getElem hi', Option.getD_some, h0, h0', decide_true, Bool.not_true, Bool.false_or, Bool.true_and]
          have hg := gtr_eq l[i].path l[i - 1].path
          cases hc : (sLt l[i].path l[i - 1].path || l[i].path == l[i - 1].path) with
          | true => rw [hc] at hg; rw [← hg]; rfl
          | false => rw [hc] at hg; rw [← hg, if_neg (by simp), wr_succ (by omega)]; rfl
        · have h0' : ¬ (0 : Int) < (i : Int) := by omega
          rw [only_f (by simp; omega), bd_mk]
          simp only [h0, h0', decide_false, Bool.false_and, Bool.not_true, Bool.or_false, Bool.false_eq_true, if_false, Bool.not_false, Bool.true_or, Bool.and_true, if_true]
          rw [wr_succ (by omega)]
    · intro rec
      simp only [tree_Check.l2, tree_Check.k1]
      rw [if_f (lt_f (Nat.lt_irrefl _))]
    · intro rec i hi
      simp only [cellarerref01_Tree.l2]
      rw [if_t (lt_t hi), ix_lt hi, bd_mk, refname_eq _ (hp _ (List.getElem_mem hi)), bd_mk]
      simp only [List.getD_eq_getElem?_getD, List.getElem?_eq_getElem hi, Option.getD_some]
      cases hN : nameB l[i].path with
      | false => rw [only_f (by simp), bd_mk, only_f (by simp), bd_mk]; rfl
      | true =>
        by_cases h0 : 0 < i
        · have hi' : i - 1 < l.length := by omega
          have h0' : (0 : Int) < (i : Int) := by omega
          rw [only_t (by simp; omega), bd_mk, only_t (by simp; omega), wr_pred h0 (by omega), ix_lt hi', bd_mk]
          simp only [List.getElem?_eq_getElem hi', Option.getD_some, h0, h0', decide_true, Bool.not_true, Bool.false_or, Bool.true_and]
          have hg := gtr_eq l[i].path l[i - 1].path
          cases hc : (sLt l[i].path l[i - 1].path || l[i].path == l[i - 1].path) with
          | true => rw [hc] at hg; rw [← hg]; rfl
          | false => rw [hc] at hg; rw [← hg, if_neg (by simp), wr_succ (by omega)]; rfl
        · have h0' : ¬ (0 : Int) < (i : Int) := by omega
          rw [only_f (by simp; omega), bd_mk, only_f (by simp; omega), bd_mk]
          simp only [h0, h0', decide_false, Bool.false_and, Bool.not_true, Bool.or_false, Bool.false_eq_true, if_false, Bool.not_false, Bool.true_or, Bool.and_true, if_true]
          rw [wr_succ (by omega)]
    · intro rec
      simp only [cellarerref01_Tree.l2, cellarerref01_Tree.k1]
      rw [if_f (lt_f (Nat.lt_irrefl _))]
theorem twinB_eq (l : List UInt8) (hl : l.length ≤ 1073741824) : cellarerkeep_Twin l = some l := by
  unfold cellarerkeep_Twin
  rw [app_ok (by simpa using hl), bd_mk]; rfl
theorem twinFiles_eq (l : List File) (hl : l.length ≤ 1000000) (hd : ∀ f ∈ l, f.data.length ≤ 1073741824) : cellarerkeep_TwinFiles l = some l := by
  unfold cellarerkeep_TwinFiles
  refine loop_eq (S := List File × Int) (σ := Unit) (fun i _ => (l.take i, (i : Int))) l.length (fun _ _ => True) _ (i0 := 0) (s0 := ()) rfl (Nat.zero_le _) trivial (by omega) ?_ ?_
  · intro rec i _ hi _ hrec
    simp only [cellarerkeep_TwinFiles.l2]
    rw [if_t (lt_t hi), ix_lt hi, bd_mk, twinB_eq _ (hd _ (List.getElem_mem hi)), bd_mk, app_ok (by simp; omega), bd_mk, wr_succ (by omega)]
    rw [show File.mk l[i].path l[i].data = l[i] from rfl, ← take_snoc' hi]
    exact hrec () trivial
  · intro rec _ _
    simp only [cellarerkeep_TwinFiles.l2, cellarerkeep_TwinFiles.k1]
    rw [if_f (lt_f (Nat.lt_irrefl _)), List.take_length]
theorem spoilB_some (l : List UInt8) (hl : l.length < 4611686018427387904) : ∃ r, cellarerkeep_SpoilBytes l = some r := by
  unfold cellarerkeep_SpoilBytes
  refine loop_for (S := Int × List UInt8) (σ := List UInt8) (fun i m => ((i : Int), m)) l.length (fun i m => m.length = l.length) (fun o => ∃ r, o = some r) (i0 := 0) (s0 := l) rfl (Nat.zero_le _) rfl hl ?_ ?_
  · intro rec i m hi hm hrec
    simp only [cellarerkeep_SpoilBytes.l1]
    have hi' : i < m.length := by omega
    rw [if_t (lt_t hi'), ix_lt hi', bd_mk, wr_succ (by omega)]
    exact hrec _ (by simpa using hm)
  · intro rec m hm
    simp only [cellarerkeep_SpoilBytes.l1]
    rw [if_f (lt_f (by omega))]
    exact ⟨_, rfl⟩
theorem spoil_some (l : List File) (hl : l.length < 4611686018427387904) (hd : ∀ f ∈ l, f.data.length < 4611686018427387904) : ∃ r, cellarerkeep_SpoilFiles l = some r := by
  unfold cellarerkeep_SpoilFiles
  refine loop_for (S := Int × List File) (σ := List File) (fun i m => ((i : Int), m)) l.length (fun i m => m.length = l.length ∧ ∀ (j : Nat) f, i ≤ j → m[j]? = some f → f.data.length < 4611686018427387904) (fun o => ∃ r, o = some r) (i0 := 0) (s0 := l) rfl (Nat.zero_le _) ⟨rfl, fun j f _ h => hd f (List.mem_of_getElem? h)⟩ hl ?_ ?_
  · intro rec i m hi hm hrec
    simp only [cellarerkeep_SpoilFiles.l1]
    have hi' : i < m.length := by omega
    obtain ⟨r, hr⟩ := spoilB_some m[i].data (hm.2 i _ (Nat.le_refl _) (List.getElem?_eq_getElem hi'))
    rw [if_t (lt_t hi'), ix_lt hi', bd_mk, hr, bd_mk, wr_succ (by omega), Int.toNat_natCast]
    refine hrec _ ⟨by simpa using hm.1, fun j f hj h => ?_⟩
    rw [List.getElem?_set_ne (by omega)] at h
    exact hm.2 j f (by omega) h
  · intro rec m hm
    simp only [cellarerkeep_SpoilFiles.l1]
    rw [if_f (lt_f (by omega))]
    exact ⟨_, rfl⟩
/-- a file put in its place -/
theorem k5_eq (l out : List File) (i k : Nat) (rec : List File × Int → Option (List File × Int)) (hi : i < l.length) (hl : l.length ≤ 1000000) (ho : out.length ≤ 1000000) (hk : k ≤ out.length) (hd : l[i].data.length ≤ 1073741824) :
    cellarerref01_Sort.k5 l out (i : Int) rec (k : Int) = if (∃ h : k < out.length, out[k].path = l[i].path) then some ([], 9) else rec (out.take k ++ l[i] :: out.drop k, ((i + 1 : Nat) : Int)) := by
  unfold cellarerref01_Sort.k5 cellarerref01_Sort.k4
  have fin : (bd (cut (α := File) out 0 (k : Int)) fun l37 => bd (ix l (i : Int)) fun x39 => bd (app (α := File) [] l37) fun l41 => bd (cellarerkeep_Twin x39.data) fun r43 => bd (app (α := File) l41 [(File.mk x39.path r43)]) fun l45 => bd (cut (α := File) out (k : Int) (out.length : Int)) fun l52 => bd (app (α := File) l45 l52) fun l54 => rec (l54, wr ((i : Int) + 1))) = rec (out.take k ++ l[i] :: out.drop k, ((i + 1 : Nat) : Int)) := by
    rw [cut_ok (Int.le_refl _) (by omega) (by omega), bd_mk, ix_lt hi, bd_mk, app_ok (by simp; omega), bd_mk, twinB_eq _ hd, bd_mk, app_ok (by simp; omega), bd_mk, cut_ok (by omega) (by omega) (Int.le_refl _), bd_mk, app_ok (by simp; omega), bd_mk, wr_succ (by omega)]
    congr 2
    simp
  by_cases hlt : k < out.length
  · rw [only_t (lt_t hlt), ix_lt hlt, bd_mk, only_t (lt_t hlt), ix_lt hi, bd_mk]
    by_cases he : out[k].path = l[i].path
    · rw [if_pos (by simp [hlt, he]), if_pos ⟨hlt, he⟩]
    · rw [if_neg (by simp [he]), if_neg (fun q => he q.2)]
      rw [ix_lt hi] at fin
      exact fin
  · rw [only_f (lt_f hlt), bd_mk, only_f (lt_f hlt), bd_mk, if_neg (by simp; omega), if_neg (fun q => hlt q.1)]
    exact fin
theorem rises_put {out : List File} {x : File} {k : Nat} (hr : risesB out) (hk : k ≤ out.length) (h1 : ∀ j (h : j < out.length), j < k → sLt out[j].path x.path = true) (h2 : ∀ h : k < out.length, sLt out[k].path x.path = false ∧ out[k].path ≠ x.path) : risesB (out.take k ++ x :: out.drop k) := by
  unfold risesB at *
  have hsplit := hr
  rw [← List.take_append_drop k out, List.pairwise_append] at hsplit
  obtain ⟨p1, p2, p3⟩ := hsplit
  have hb : ∀ a ∈ out.take k, sLt a.path x.path = true := fun a ha => by
    obtain ⟨j, hj, rfl⟩ := List.getElem_of_mem ha
    rw [List.length_take] at hj
    rw [List.getElem_take]
    exact h1 j (by omega) (by omega)
  have ha : ∀ b ∈ out.drop k, sLt x.path b.path = true := fun b hb => by
    obtain ⟨j, hj, rfl⟩ := List.getElem_of_mem hb
    rw [List.length_drop] at hj
    rw [List.getElem_drop]
    have hk' : k < out.length := by omega
    obtain ⟨q1, q2⟩ := h2 hk'
    have q3 : sLt x.path out[k].path = true := by
      cases h : sLt x.path out[k].path with
      | true => rfl
      | false => exact absurd (sLt_tri q1 h) q2
    rcases Nat.eq_zero_or_pos j with rfl | hp
    · exact q3
    · exact sLt_trans q3 (List.pairwise_iff_getElem.1 hr k (k + j) hk' (by omega) (by omega))
  refine List.pairwise_append.2 ⟨p1, List.pairwise_cons.2 ⟨ha, p2⟩, fun a h b hb' => ?_⟩
  rcases List.mem_cons.1 hb' with rfl | hb'
  · exact hb a h
  · exact p3 a h b hb'
theorem refsort_eq (l : List File) (hll : l.length < 4611686018427387904) (hp : ∀ f ∈ l, f.path.length < 4611686018427387904) : cellarerref01_Sort l = some (sortL l) := by
  unfold cellarerref01_Sort
  rw [reflong_eq l hll, bd_mk]
  cases hL : longB l with
  | true => unfold sortL; rw [hL]; rfl
  | false =>
    obtain ⟨hl, hd⟩ := long_f hL
    simp only [Bool.false_eq_true, if_false]
    rw [loop_all (x0 := (0 : Int)) (fun i => (i : Int)) l.length (fun i => nameB (l.getD i default).path) (cellarerref01_Sort.k1 l) (some ([], 1)) rfl (by omega) ?_ ?_]
    · have hall := all_iff l (fun f => nameB f.path) (fun i => nameB (l.getD i default).path) (fun i hi => by simp [hi])
      cases hB : badB l with
      | true =>
        rw [if_neg]
        · unfold sortL; rw [hL, hB]; rfl
        · intro q
          have := hall.1 q
          unfold badB at hB
          obtain ⟨x, hx, h2⟩ := List.any_eq_true.1 hB
          have := List.all_eq_true.1 this x hx
          simp [this] at h2
      | false =>
        rw [if_pos]
        · unfold cellarerref01_Sort.k1
          refine loop_eq (S := List File × Int) (σ := List File) (fun i out => (out, (i : Int))) l.length (fun i out => out.Perm (l.take i) ∧ risesB out) _ (i0 := 0) (s0 := []) rfl (Nat.zero_le _) ⟨by simp, List.Pairwise.nil⟩ (by omega) ?_ ?_
          · intro rec i out hi ⟨hperm, hris⟩ hrec
            have hol : out.length = i := by rw [hperm.length_eq, List.length_take]; omega
            simp only [cellarerref01_Sort.l3]
            rw [if_t (lt_t hi)]
            have hfind : ∃ k, k ≤ out.length ∧ (∀ j (h : j < out.length), j < k → sLt out[j].path l[i].path = true) ∧ (∀ h : k < out.length, sLt out[k].path l[i].path = false) ∧ loop (cellarerref01_Sort.l6 l out (i : Int) rec) 0 = cellarerref01_Sort.k5 l out (i : Int) rec (k : Int) := by
              refine loop_for (S := Int) (σ := Unit) (fun k _ => (k : Int)) out.length (fun k _ => ∀ j (h : j < out.length), j < k → sLt out[j].path l[i].path = true) (fun o => ∃ k, k ≤ out.length ∧ (∀ j (h : j < out.length), j < k → sLt out[j].path l[i].path = true) ∧ (∀ h : k < out.length, sLt out[k].path l[i].path = false) ∧ o = cellarerref01_Sort.k5 l out (i : Int) rec (k : Int)) (i0 := 0) (s0 := ()) rfl (Nat.zero_le _) (fun j _ h => by omega) (by omega) ?_ ?_
              · intro rec2 k _ hk hI hrec2
                simp only [cellarerref01_Sort.l6]
                rw [only_t (lt_t hk), ix_lt hk, bd_mk, only_t (lt_t hk), ix_lt hi, bd_mk]
                cases hs : sLt out[k].path l[i].path with
                | true =>
                  rw [if_pos (by simp [hk]), wr_succ (by omega)]
                  refine hrec2 () fun j hj hjk => ?_
                  rcases (by omega : j < k ∨ j = k) with q | rfl
                  · exact hI j hj q
                  · exact hs
                | false =>
                  rw [if_neg (by simp)]
                  exact ⟨k, by omega, hI, fun _ => hs, rfl⟩
              · intro rec2 _ hI
                simp only [cellarerref01_Sort.l6]
                rw [only_f (lt_f (Nat.lt_irrefl _)), bd_mk, only_f (lt_f (Nat.lt_irrefl _)), bd_mk, if_neg (by simp)]
                exact ⟨out.length, Nat.le_refl _, hI, fun h => absurd h (Nat.lt_irrefl _), rfl⟩
            obtain ⟨k, hk, f1, f2, f3⟩ := hfind
            have hdi := hd _ (List.getElem_mem hi)
            rw [f3, k5_eq l out i k rec hi (by omega) (by omega) hk (by omega)]
            by_cases htw : ∃ h : k < out.length, out[k].path = l[i].path
            · rw [if_pos htw]
              obtain ⟨h, he⟩ := htw
              have hmem : out[k] ∈ l.take i := hperm.mem_iff.1 (List.getElem_mem h)
              obtain ⟨j, hj, hje⟩ := List.getElem_of_mem hmem
              rw [List.length_take] at hj
              rw [List.getElem_take] at hje
              have hnn : ¬ (l.map File.path).Nodup := fun hn => by
                rw [List.nodup_iff_pairwise_ne, List.pairwise_map, List.pairwise_iff_getElem] at hn
                exact hn j i (by omega) hi (by omega) (by rw [hje, he])
              unfold sortL
              rw [hL, hB, if_neg hnn]; rfl
            · rw [if_neg htw]
              refine hrec _ ⟨?_, rises_put hris hk f1 fun h => ⟨f2 h, fun e => htw ⟨h, e⟩⟩⟩
              rw [take_snoc' hi]
              refine List.perm_middle.trans ?_
              rw [List.take_append_drop]
              exact (List.Perm.cons _ hperm).trans (List.perm_append_singleton _ _).symm
          · intro rec out ⟨hperm, hris⟩
            simp only [cellarerref01_Sort.l3, cellarerref01_Sort.k2]
            rw [if_f (lt_f (Nat.lt_irrefl _))]
            rw [List.take_length] at hperm
            have hn : (l.map File.path).Nodup := ((hperm.map _).nodup_iff).1 (rises_nodup hris)
            have hrise : Rise ordFile out := hris.imp fun {a b} h => by
              rw [ordFile_lt, Bool.not_eq_true]; exact sLt_asymm h
            unfold sortL
            rw [hL, hB, if_pos hn]
            rw [sort_uniq (hperm.trans (isort_perm ordFile l).symm) hrise (isort_rise ordFile_swo l) (((isort_perm ordFile l).map _).nodup_iff.2 hn)]
            rfl
        · refine hall.2 (List.all_eq_true.2 fun x hx => ?_)
          unfold badB at hB
          have := List.any_eq_false.1 hB x hx
          simpa using this
    · intro rec i hi
      simp only [cellarerref01_Sort.l7]
      rw [if_t (lt_t hi), ix_lt hi, bd_mk, refname_eq _ (hp _ (List.getElem_mem hi)), bd_mk]
      simp only [List.getD_eq_getElem?_getD, List.getElem?_eq_getElem hi, Option.getD_some]
      cases nameB l[i].path with
      | false => rfl
      | true => simp only [Bool.not_true, Bool.false_eq_true, if_false, if_true]; rw [wr_succ (by omega)]
    · intro rec
      simp only [cellarerref01_Sort.l7]
      rw [if_f (lt_f (Nat.lt_irrefl _))]
theorem treeExact_true (l : List File) (x : List UInt8) : cellarerlaw05_TreeExact l x = some true := by
  unfold cellarerlaw05_TreeExact
  obtain ⟨b, hb, hb2⟩ := heavy_eq l
  rw [hb, bd_mk]
  by_cases hh : (b || decide (100 < (x.length : Int))) = true
  · rw [if_pos hh]
  · rw [if_neg hh]
    simp only [Bool.or_eq_true, decide_eq_true_eq, not_or, Bool.not_eq_true] at hh
    obtain ⟨hbf, hx⟩ := hh
    obtain ⟨hl, hf⟩ := hb2 hbf
    have hd : ∀ f ∈ l, f.data.length ≤ 1073741824 := fun f h => by have := (hf f h).1; omega
    rw [twinFiles_eq l (by omega) hd, bd_mk, sort_eq, bd_mk, refsort_eq l (by omega) (fun f h => by have := (hf f h).2; omega), bd_mk]
    have hsz : sizeL l ≤ l.length * 500 := sizeL_le l 500 fun f h => (hf f h).1
    have hsz2 : l.length * 500 ≤ 10000 := by have := Nat.mul_le_mul_right 500 hl; omega
    have hs : ∀ f ∈ (sortL l).1, f.data.length < 4611686018427387904 := fun f h => by
      have hm : f ∈ l := by
        unfold sortL at h
        split at h
        · cases h
        · split at h
          · cases h
          · split at h
            · exact mem_isort.1 h
            · cases h
      have := (hf f hm).1; omega
    have hsl : (sortL l).1.length < 4611686018427387904 := by
      unfold sortL
      split
      · simp
      · split
        · simp
        · split
          · rw [isort_len]; omega
          · simp
    refine loop_eq (S := Int × Int) (σ := Unit) (fun i _ => ((sizeL (l.take i) : Int), (i : Int))) l.length (fun _ _ => True) _ (i0 := 0) (s0 := ()) rfl (Nat.zero_le _) trivial (by omega) ?_ ?_
    · intro rec i _ hi _ hrec
      simp only [cellarerlaw05_TreeExact.l2]
      rw [if_t (lt_t hi), ix_lt hi, bd_mk, wr_succ (by omega)]
      have h1 : sizeL (l.take (i + 1)) = sizeL (l.take i) + l[i].data.length := by rw [take_snoc' hi, sizeL_snoc]
      have h2 : sizeL (l.take (i + 1)) ≤ 10000 := by
        have := sizeL_le (l.take (i + 1)) 500 fun f h => (hf f (List.mem_of_mem_take h)).1
        have h3 : (l.take (i + 1)).length ≤ 20 := by rw [List.length_take]; omega
        have := Nat.mul_le_mul_right 500 h3
        omega
      have h3 : wr ((sizeL (l.take i) : Int) + (l[i].data.length : Int)) = ((sizeL (l.take (i + 1)) : Nat) : Int) := by rw [h1, wr_id (by omega) (by omega)]; omega
      rw [h3]
      exact hrec () trivial
    · intro rec _ _
      simp only [cellarerlaw05_TreeExact.l2]
      rw [if_f (lt_f (Nat.lt_irrefl _)), List.take_length]
      unfold cellarerlaw05_TreeExact.k1
      rw [check_eq, bd_mk, reftree_eq l (by omega) (fun f h => by have := (hf f h).2; omega), bd_mk]
      rw [only_t (by simp), files_eq _ _ hsl hs, bd_mk]
      rw [only_t (by simp), size_eq l (by omega) (by omega), bd_mk]
      rw [only_t (by simp), name_eq, bd_mk, only_t (by simp), refname_eq x (by omega), bd_mk]
      rw [if_neg (by simp)]
      obtain ⟨r, hr⟩ := spoil_some (sortL l).1 hsl hs
      rw [hr, bd_mk, files_eq l l (by omega) (fun f h => by have := (hf f h).1; omega), bd_mk, only_t (by simp)]
      simp [cellarerlaw05_wakes]
end Go.Wk.Lf
