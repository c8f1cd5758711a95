/- Chapter 05: files that own their data; tree.Twin tells such. -/
import Derived.Test.YtemoafemddopcaaLfB
namespace Go.Wk.Lf
open Go.V Go.Proofs
set_option linter.unusedVariables false
set_option linter.unusedSimpArgs false
/-- a file whose data is its own -/
def File.o : To File where
  size := 2
  rel F h bs cs x := ∃ u, cs = File.cells x u ∧ (To.row (.ofTr tB)).rel F h bs [u] x.data
  len := by rintro F h bs cs x ⟨u, rfl, _⟩; rfl
  one := by rintro F h bs cs x ⟨u, rfl, k⟩; simp only [File.cells, List.all_cons, List.all_nil, (To.row_ln k).one]; rfl
  lt := by rintro F h bs cs x ⟨u, rfl, k⟩; exact (To.row (.ofTr tB)).lt k
  nodup := by rintro F h bs cs x ⟨u, rfl, k⟩; exact (To.row (.ofTr tB)).nodup k
  mono := by rintro F G h bs cs x l ⟨u, rfl, k⟩; exact ⟨u, rfl, (To.row (.ofTr tB)).mono l k⟩
  frame := by rintro F h h' bs cs x ⟨u, rfl, k⟩ hn hk; exact ⟨u, rfl, (To.row (.ofTr tB)).frame k hn hk⟩
theorem File.sees : Sees File.o File.t := ⟨rfl, fun ⟨u, e, k⟩ l hg => ⟨u, e, row_frozen k l hg⟩⟩
/-- a file whose data has been taken out: the slice's value is known -/
def File.hu (u : Val) : To File where
  size := 2
  rel F h bs cs x := bs = [] ∧ cs = File.cells x u ∧ u.one = true
  len := by rintro F h bs cs x ⟨_, rfl, _⟩; rfl
  one := by rintro F h bs cs x ⟨_, rfl, k⟩; simp only [File.cells, List.all_cons, List.all_nil, k]; rfl
  lt := by rintro F h bs cs x ⟨rfl, _⟩ b hb; cases hb
  nodup := by rintro F h bs cs x ⟨rfl, _⟩; exact List.nodup_nil
  mono := fun _ q => q
  frame := fun q _ _ => q
/-- all own their data but one -/
abbrev FileH (u : Val) : To (File × Bool) := To.tag File.o (File.hu u) rfl
def butL (i : Nat) (l : List File) : List (File × Bool) := l.mapIdx fun j x => (x, decide (j ≠ i))
theorem butL_len (i : Nat) (l : List File) : (butL i l).length = l.length := by simp [butL]
theorem butL_at {i j : Nat} {l : List File} {x : File} (h : l[j]? = some x) : (butL i l)[j]? = some (x, decide (j ≠ i)) := by simp [butL, h]
/-- own data, or frozen data -/
abbrev FileM : To (File × Bool) := To.tag File.o (.ofTr File.t) rfl
def tagL (i : Nat) (l : List File) : List (File × Bool) := l.mapIdx fun j x => (x, decide (j < i))
theorem tagL_len (i : Nat) (l : List File) : (tagL i l).length = l.length := by simp [tagL]
theorem tagL_at {i j : Nat} {l : List File} {x : File} (h : l[j]? = some x) : (tagL i l)[j]? = some (x, decide (j < i)) := by simp [tagL, h]
theorem tagL_set {i : Nat} {l : List File} (x : File) : (tagL i l).set i (x, true) = tagL (i + 1) (l.set i x) := by
  apply List.ext_getElem?
  intro j
  by_cases hj : j = i
  · subst hj
    by_cases hl : j < l.length
    · rw [List.getElem?_set_self (by rw [tagL_len]; exact hl)]
      simp [tagL, hl]
    · rw [List.getElem?_eq_none (by simp [tagL_len]; omega), List.getElem?_eq_none (by simp [tagL_len]; omega)]
  · rw [List.getElem?_set_ne (fun q => hj q.symm)]
    simp only [tagL, List.getElem?_mapIdx]
    rw [List.getElem?_set_ne (fun q => hj q.symm)]
    cases l[j]? with
    | none => rfl
    | some y => simp; omega
theorem toM {F : Frz} {h : Hp} {v : Val} {l : List File} (r : (Ob.row File.t v l).ok F h) : (Ob.dp FileM v.own v (tagL 0 l)).ok F h :=
  To.row_conv (t := To.ofTr File.t) (s := FileM) (xs := l) (ys := tagL 0 l) rfl r (tagL_len 0 l) fun i x y e cs h1 h2 h3 => by
    rw [tagL_at h1] at h2
    obtain rfl := Option.some.inj h2
    exact .inr ⟨by simp, h3⟩
theorem ofM {F : Frz} {h : Hp} {v : Val} {bs : List Nat} {l : List File} {n : Nat} (hn : l.length ≤ n) (r : (Ob.dp FileM bs v (tagL n l)).ok F h) : (Ob.dp File.o bs v l).ok F h :=
  To.row_conv (t := FileM) (s := File.o) (xs := tagL n l) (ys := l) rfl r (tagL_len n l).symm fun i x y e cs h1 h2 h3 => by
    rw [tagL_at h2] at h1
    obtain rfl := Option.some.inj h1
    have hi := (List.getElem?_eq_some_iff.1 h2).1
    rcases h3 with ⟨_, h3⟩ | ⟨h3, _⟩
    · exact h3
    · simp at h3; omega
set_option maxRecDepth 100000 in
theorem tree_Twin_ok {K : Tb} {F : Frz} {w : Hp} {x0 : List File} {r : (List File)} {v0 : Val} (hA : Gd F w) (h0 : SlF File.t F v0 x0) (H : tree_Twin x0 = some r) : Ret Try.prog K 20 [v0] w fun v w' => ∃ (F' : Frz) (q0 : Val) (bs0 : List Nat), v = q0 ∧ St [] w F F' [.dp File.o bs0 q0 r] w' := by
 refine Ret_of (args := [v0]) Go.Proofs.Try.func20 rfl (by decide) rfl ?_
 change C _ _ _ _ _ [(0, v0)] _
 have hS := St.start hA
 dsimp only [tree_Twin] at H
 refine C_seq ?_
 refine C_region rfl ?_
 refine W_c rfl rfl rfl rfl (fun _ => rfl) ?_
 refine W_nil ?_
 refine N_code ?_
 refine C_seq ?_
 obtain ⟨r1, hr1, H⟩ := bd_some H
 refine C_region rfl ?_
 refine W_c rfl rfl rfl rfl (fun _ => rfl) ?_
 refine W_call (f := 29) (args := [v0]) rfl rfl rfl rfl (slices_Clone_api_File_api_File_ok hS.good h0 hr1) ?_
 rintro ur1_0 w2 ⟨Fr1, _, rfl, hT2⟩
 have hS2 := hS.call hT2
 have ler1 := hT2.ext
 refine Nxt.now ?_
 refine W_c rfl rfl rfl rfl (fun _ => rfl) ?_
 refine W_nil ?_
 refine N_code ?_
 refine C_seq_join (fun E wq => ∃ l4 : List File, tree_Twin.k1 l4 = some r ∧ ∃ (F3 : Frz) (bs : List Nat), E = [(3, ur1_0)] ∧ Fr1.le F3 ∧ St [] w F F3 [.dp File.o bs ur1_0 l4] wq) ?_ ?_
 ·
  refine C_seq ?_
  refine C_region rfl ?_
  refine W_c rfl rfl rfl rfl (fun _ => rfl) ?_
  refine W_r rfl rfl rfl (O_len Go.Proofs.Try.underlying22 rfl (hS2.rowLn (k := 0) rfl)) ?_
  refine W_c rfl rfl rfl rfl (fun _ => rfl) ?_
  refine W_nil ?_
  refine N_code ?_
  refine C_block ?_
  refine C_loopM (fun (s : Int × (List File)) E wq => ∃ (F5 : Frz) (bs : List Nat), E = [(3, ur1_0), (8, .i .i64 (r1.length : Int)), (9, .i .i64 s.1)] ∧ Fr1.le F5 ∧ s.2.length = r1.length ∧ 0 ≤ s.1 ∧ St [] w F F5 [.dp FileM bs ur1_0 (tagL s.1.toNat s.2)] wq) H ?_ ?_
  ·
   exact ⟨_, ⟨Fr1, _, rfl, (Frz.le.refl _), rfl, Int.le_refl _, by simpa using hS2.see (i := 0) (o' := .dp FileM ur1_0.own ur1_0 (tagL 0 r1)) rfl (toM (hS2.ok (i := 0) rfl)) (fun b q => q)⟩, ⟨rfl, rfl, rfl, trivial⟩⟩
  ·
   rintro rec8 ⟨i6, l7⟩ E w5 hI H
   try dsimp only at hI
   obtain ⟨F5, bs5, rfl, le5, hl5, hi5, hS5⟩ := hI
   dsimp only [tree_Twin.l2] at H
   refine C_seq ?_
   refine C_region rfl ?_
   refine W_r rfl rfl rfl (O_bin rfl rfl bI_lss) ?_
   refine W_nil ?_
   refine N_code ?_
   refine C_seq ?_
   refine C_cond rfl (fun hc9 => ?_) (fun hc9 => ?_)
   ·
    rw [if_t hc9] at H
    refine C_skip ?_
    refine N_code ?_
    refine C_seq ?_
    refine C_block ?_
    refine C_seq ?_
    refine C_region rfl ?_
    refine W_c rfl rfl rfl rfl (fun _ => rfl) ?_
    refine W_c rfl rfl rfl rfl (fun _ => rfl) ?_
    refine W_nil ?_
    refine N_code ?_
    obtain ⟨x10, hx10, H⟩ := bd_some H
    obtain ⟨r12, hr12, H⟩ := bd_some H
    refine C_region rfl ?_
    refine W_c rfl rfl rfl rfl (fun _ => rfl) ?_
    refine W_c rfl rfl rfl rfl (fun _ => rfl) ?_
    refine W_c rfl rfl rfl rfl (fun _ => rfl) ?_
    refine W_c rfl rfl rfl rfl (fun _ => rfl) ?_
    obtain ⟨hp13, hy13⟩ := ix_some hx10
    obtain ⟨cs13, e13, hr13, _, he13⟩ := hS5.dpAt (k := 0) (by decide) rfl (tagL_at hy13)
    replace hr13 : File.t.rel F5 cs13 x10 := hr13.elim (fun q => by have := q.1; simp at this) fun q => q.2.2
    obtain ⟨ue11_0, rfl, hue11_0⟩ := hr13
    replace he13 : Elf _ _ 2 _ _ := he13
    have hi13 := he13.ixd
    refine W_r rfl rfl rfl (O_ix Go.Proofs.Try.underlying22 Ty.size30 rfl rfl hi13 hp13 rfl) ?_
    refine W_r rfl rfl rfl (O_fld 1 Ty.field30_1 rfl hi13) ?_
    refine W_r rfl rfl rfl (O_ld1 1 Ty.cell28 rfl he13 (by omega) rfl) ?_
    refine W_call (f := 30) (args := [ue11_0]) rfl rfl rfl rfl (slices_Clone_byte_byte_ok hS5.good hue11_0 hr12) ?_
    rintro ur12_0 w14 ⟨Fr12, _, rfl, hT14⟩
    have hS14 := hS5.call hT14
    have ler12 := hT14.ext
    refine Nxt.now ?_
    refine W_r rfl rfl rfl (O_ix Go.Proofs.Try.underlying22 Ty.size30 rfl rfl hi13 hp13 rfl) ?_
    refine W_r rfl rfl rfl (O_fld 1 Ty.field30_1 rfl hi13) ?_
    have hl14 := hS14.rowLn (k := 0) rfl
    refine W_xU rfl rfl rfl (E_putD (i6.toNat) 1 (x10, decide (i6.toNat < i6.toNat)) (File.mk x10.path r12, true) (by decide) rfl rfl hS14 (tagL_at hy13) rfl hl14.cells Ty.size28 (by decide) (by
      rintro h cs e (⟨q, _⟩ | ⟨_, _, a1, rfl, b1⟩) k
      · simp at q
      · exact .inl ⟨rfl, ur12_0, rfl, k⟩)) ?_
    rintro _ w15 ⟨bs15, hS15⟩
    rw [tagL_set] at hS15
    refine Nxt.now ?_
    refine W_nil ?_
    refine N_block ?_
    refine N_code ?_
    refine C_region rfl ?_
    refine W_c rfl rfl rfl rfl (fun _ => rfl) ?_
    refine W_c rfl rfl rfl rfl (fun _ => rfl) ?_
    refine W_nil ?_
    have hlt : i6 < (r1.length : Int) := by simpa using hc9
    have hfew : r1.length ≤ 1073741824 := by
      obtain ⟨l6, q1, q2⟩ := bd_some hr1
      obtain ⟨q3, rfl⟩ := app_some q1
      obtain rfl := Option.some.inj q2
      simpa using q3
    have hwr : wr (i6 + 1) = i6 + 1 := i64_id (by omega) (by omega)
    have ht : (wr (i6 + 1)).toNat = i6.toNat + 1 := by rw [hwr]; omega
    exact N_againM (wr (i6 + 1), (l7.set i6.toNat (File.mk x10.path r12))) _ H ⟨Fr12, bs15, rfl, (le5.trans ler12), (by simpa using hl5), (show 0 ≤ wr (i6 + 1) by rw [hwr]; omega), (show St [] w F Fr12 [.dp FileM bs15 ur1_0 (tagL (wr (i6 + 1)).toNat (l7.set i6.toNat (File.mk x10.path r12)))] w15 by rw [ht]; exact hS15)⟩ ⟨rfl, rfl, rfl, trivial⟩
   ·
    rw [if_f hc9] at H
    refine C_exit _ rfl ?_
    have hge : l7.length ≤ i6.toNat := by have : ¬ i6 < (r1.length : Int) := by simpa using hc9
                                          have h1 : l7.length = r1.length := hl5
                                          have h2 : 0 ≤ i6 := hi5
                                          omega
    exact N_join _ ⟨l7, H, ⟨F5, bs5, rfl, le5, by simpa using hS5.see (i := 0) (o' := .dp File.o bs5 ur1_0 l7) rfl (ofM hge (hS5.ok (i := 0) rfl)) (fun b q => q)⟩⟩ ⟨rfl, trivial⟩
 ·
  rintro E w3 ⟨l4, H, F3, bs3, rfl, le3, hS3⟩
  dsimp only [tree_Twin.k1] at H
  refine C_seq ?_
  refine C_region rfl ?_
  refine W_c rfl rfl rfl rfl (fun _ => rfl) ?_
  refine W_c rfl rfl rfl rfl (fun _ => rfl) ?_
  refine W_nil ?_
  refine N_code ?_
  obtain rfl := Option.some.inj H
  refine C_ret rfl rfl ?_
  exact ⟨F3, ur1_0, bs3, rfl, hS3⟩
def cellarerkeep_SpoilFiles.l1 (rec4 : (Int × (List File)) → Option (List File)) : (Int × (List File)) → Option (List File)
  | (i2, l3) =>
    if decide (i2 < (l3.length : Int)) then
      bd (ix l3 i2) fun x6 =>
      bd (cellarerkeep_SpoilBytes x6.data) fun r7 =>
      rec4 (wr (i2 + 1), (l3.set i2.toNat (File.mk [63] r7)))
    else
      some l3
def cellarerkeep_SpoilFiles (x0 : List File) : Option (List File) :=
  loop (cellarerkeep_SpoilFiles.l1) (0, x0)
set_option maxRecDepth 100000 in
theorem cellarerkeep_SpoilFiles_ok {K : Tb} {F : Frz} {w : Hp} {x0 : List File} {r : (List File)} {v0 : Val} {bs0 : List Nat} (hS : St bs0 w F F [.dp File.o bs0 v0 x0] w) (H : cellarerkeep_SpoilFiles x0 = some r) : Ret Try.prog K 14 [v0] w fun v w' => ∃ (F' : Frz) (bs' : List Nat), v = .tup [] ∧ St bs0 w F F' [.dp File.o bs' v0 r] w' := by
 refine Ret_of (args := [v0]) Go.Proofs.Try.func14 rfl (by decide) rfl ?_
 change C _ _ _ _ _ [(0, v0)] _
 dsimp only [cellarerkeep_SpoilFiles] at H
 refine C_seq ?_
 refine C_region rfl ?_
 refine W_c rfl rfl rfl rfl (fun _ => rfl) ?_
 refine W_nil ?_
 refine N_code ?_
 refine C_block ?_
 refine C_loopM (fun (s : Int × (List File)) E wq => ∃ (F1 : Frz) (bs : List Nat), E = [(0, v0), (2, .i .i64 s.1)] ∧ F.le F1 ∧ St bs0 w F F1 [.dp File.o bs v0 s.2] wq) H ?_ ?_
 ·
  exact ⟨_, ⟨F, bs0, rfl, (Frz.le.refl _), hS⟩, ⟨rfl, rfl, trivial⟩⟩
 ·
  rintro rec4 ⟨i2, l3⟩ E w1 hI H
  try dsimp only at hI
  obtain ⟨F1, bs1, rfl, le1, hS1⟩ := hI
  dsimp only [cellarerkeep_SpoilFiles.l1] at H
  refine C_seq ?_
  refine C_seq ?_
  refine C_region rfl ?_
  refine W_c rfl rfl rfl rfl (fun _ => rfl) ?_
  refine W_c rfl rfl rfl rfl (fun _ => rfl) ?_
  refine W_r rfl rfl rfl (O_len Go.Proofs.Try.underlying22 rfl (hS1.dpLn (k := 0) rfl)) ?_
  refine W_r rfl rfl rfl (O_bin rfl rfl bI_lss) ?_
  refine W_nil ?_
  refine N_code ?_
  refine C_cond rfl (fun hc5 => ?_) (fun hc5 => ?_)
  ·
   rw [if_t hc5] at H
   refine C_skip ?_
   refine N_code ?_
   refine C_seq ?_
   refine C_block ?_
   obtain ⟨x6, hx6, H⟩ := bd_some H
   obtain ⟨r7, hr7, H⟩ := bd_some H
   refine C_seq ?_
   refine C_region rfl ?_
   refine W_c rfl rfl rfl rfl (fun _ => rfl) ?_
   refine W_c rfl rfl rfl rfl (fun _ => rfl) ?_
   obtain ⟨hp8, hy8⟩ := ix_some hx6
   obtain ⟨cs8, e8, hr8, hsub, he8, hsw⟩ := To.row_swap (t := File.o) (xs := l3) (hS1.ok (i := 0) rfl) hy8
   replace he8 := he8 (by decide)
   obtain ⟨u8, rfl, hrow⟩ := hr8
   replace he8 : Elf _ _ 2 _ _ := he8
   have hi8 := he8.ixd
   have hu1 := (To.row_ln hrow).one
   refine W_r rfl rfl rfl (O_ix Go.Proofs.Try.underlying22 Ty.size30 rfl rfl hi8 hp8 rfl) ?_
   refine W_r rfl rfl rfl (O_fld 1 Ty.field30_1 rfl hi8) ?_
   refine W_r rfl rfl rfl (O_ld1 1 Ty.cell28 rfl he8 (by omega) rfl) ?_
   -- the data is taken out
   obtain ⟨bs2, hh2, hm2⟩ := hsw (FileH u8) (butL i2.toNat l3) (x6, false) [] rfl (butL_len _ _) (by rw [butL_at hy8]; simp) (fun j x y e cs hj h1 h2 h3 => by
     rw [butL_at h1] at h2
     obtain rfl := Option.some.inj h2
     exact .inl ⟨by simpa using hj, h3⟩) (.inr ⟨rfl, rfl, rfl, hu1⟩) (fun g hg => by cases hg)
   have hown : e8 = u8.own := row_own hrow
   subst hown
   have hS2 := hS1.part (i := 0) (.row tB u8 x6.data) (.dp (FileH u8) bs2 v0 (butL i2.toNat l3)) rfl hrow hh2 hsub (fun g hg => ((hm2 g).1 hg).elim (fun q => q.1) fun q => by cases q) (fun g hg hg2 => ((hm2 g).1 hg2).elim (fun q => q.2 hg) fun q => by cases q)
   refine W_call (f := 26) (args := [u8]) rfl rfl rfl rfl (cellarerkeep_SpoilBytes_ok (hS2.lendRow 0 rfl) hr7) ?_
   rintro _ w3 ⟨F3, rfl, hT3⟩
   have hS3 := hS2.backRow 0 [1] rfl (by decide) (by decide) hT3
   have le3 := hT3.ext
   -- and comes back
   obtain ⟨cs9, e9, hr9, _, _, hsw9⟩ := To.row_swap (t := FileH u8) (xs := butL i2.toNat l3) (hS3.ok (i := 1) rfl) (i := i2.toNat) (x := (x6, false)) (by rw [butL_at hy8]; simp)
   have hrow3 : (To.row (To.ofTr tB)).rel F3 w3 u8.own [u8] r7 := hS3.ok (i := 0) rfl
   have hcs9 : cs9 = File.cells x6 u8 ∧ e9 = [] := hr9.elim (fun q => by have := q.1; simp at this) fun q => ⟨q.2.2.1, q.2.1⟩
   obtain ⟨rfl, rfl⟩ := hcs9
   obtain ⟨bs4, hh4, hm4⟩ := hsw9 File.o (l3.set i2.toNat (File.mk x6.path r7)) (File.mk x6.path r7) u8.own rfl (by simp [butL]) (by rw [List.getElem?_set_self (List.getElem?_eq_some_iff.1 hy8).1]) (fun j x y e cs hj h1 h2 h3 => by
     rw [List.getElem?_set_ne (fun q => hj q.symm)] at h2
     rw [butL_at h2] at h1
     obtain rfl := Option.some.inj h1
     rcases h3 with ⟨_, h3⟩ | ⟨h3, _⟩
     · exact h3
     · exact absurd h3 (by simpa using hj)) ⟨u8, rfl, hrow3⟩ (fun g hg => .inl fun hg2 => by
     have := hS3.apart 0 1 _ _ g rfl rfl hg hg2; omega)
   have hS4 : St bs0 w F F3 [.dp File.o bs4 v0 (l3.set i2.toNat (File.mk x6.path r7))] w3 := hS3.join (.dp File.o bs4 v0 (l3.set i2.toNat (File.mk x6.path r7))) hh4 (Nat.le_refl _) hS3.wf (fun _ _ _ _ => rfl) (fun g hg => ((hm4 g).1 hg).elim (fun q => .inr (.inl q.1)) fun q => .inl q)
   refine Nxt.now ?_
   refine W_nil ?_
   refine N_code ?_
   refine C_region rfl ?_
   refine W_c rfl rfl rfl rfl (fun _ => rfl) ?_
   refine W_c rfl rfl rfl rfl (fun _ => rfl) ?_
   refine W_r rfl rfl rfl (O_ix Go.Proofs.Try.underlying22 Ty.size30 rfl rfl hi8 hp8 rfl) ?_
   refine W_r rfl rfl rfl (O_fld 0 Ty.field30_0 rfl hi8) ?_
   refine W_xU rfl rfl rfl (E_putF (c := [.s [63]]) 0 (i2.toNat) 0 (File.mk x6.path r7) (File.mk [63] r7) (by decide) rfl rfl hS4 rfl (by rw [List.getElem?_set_self (List.getElem?_eq_some_iff.1 hy8).1]) rfl rfl Ty.size9 rfl (by decide) (by rintro h cs e ⟨u, rfl, k⟩; exact ⟨u, rfl, k⟩)) ?_
   rintro _ w5 ⟨bs5, hS5⟩
   refine Nxt.now ?_
   refine W_nil ?_
   refine N_block ?_
   refine N_code ?_
   refine C_region rfl ?_
   refine W_c rfl rfl rfl rfl (fun _ => rfl) ?_
   refine W_c rfl rfl rfl rfl (fun _ => rfl) ?_
   refine W_c rfl rfl rfl rfl (fun _ => rfl) ?_
   refine W_nil ?_
   rw [List.set_set] at hS5
   exact N_againM (wr (i2 + 1), (l3.set i2.toNat (File.mk [63] r7))) _ H ⟨F3, bs5, rfl, le1.trans le3, hS5⟩ ⟨rfl, rfl, trivial⟩
  ·
   rw [if_f hc5] at H
   refine C_exit _ rfl ?_
   obtain rfl := Option.some.inj H
   refine N_done rfl rfl ?_
   exact ⟨F1, bs1, rfl, hS1⟩
end Go.Wk.Lf
