import Derived.Test.YtemoafemddopcaaLfS
namespace Go.Wk.Lf
open Go.V Go.Proofs
set_option linter.unusedVariables false
set_option linter.unusedSimpArgs false
noncomputable section

def tree_Sort_1 (x0 : File) : Option Bool :=
  bd (tree_Name x0.path) fun r2 =>
  some (!r2)

set_option maxRecDepth 100000 in
theorem tree_Sort_1_ok {K : Tb} {F : Frz} {w : Hp} {x0 : File} {r : Bool} {v0_0 : Val} (hA : Gd F w) (h0_0 : SlF tB F v0_0 x0.data) (H : tree_Sort_1 x0 = some r) : Ret Try.prog K 19 [.agg (File.cells x0 v0_0)] w fun v w' => ∃ (F' : Frz), v = .b r ∧ St [] w F F' [] w' := by
 refine Ret_of (args := [.agg (File.cells x0 v0_0)]) Go.Proofs.Try.func19 rfl (by decide) rfl ?_
 change C _ _ _ _ _ [(0, .agg (File.cells x0 v0_0))] _
 have hS := St.start hA
 dsimp only [tree_Sort_1] at H
 refine C_seq ?_
 refine C_region rfl ?_
 refine W_x rfl rfl rfl (E_bx (cs := [.s x0.path, v0_0]) rfl rfl (by simp only [List.all_cons, List.all_nil, List.all_append, h0_0.ln.one]; rfl) hS) ?_
 rintro _ w1 ⟨g1, rfl, hS1⟩
 refine Nxt.now ?_
 refine W_c rfl rfl rfl rfl (fun _ => rfl) ?_
 refine W_nil ?_
 refine N_code ?_
 refine C_seq ?_
 obtain ⟨r2, hr2, H⟩ := bd_some H
 refine C_region rfl ?_
 refine W_r rfl rfl rfl (O_fldB 0 Ty.field30_0 rfl) ?_
 refine W_r rfl rfl rfl (O_bld1 0 Ty.cell9 rfl hS1 rfl rfl) ?_
 refine W_call (f := 12) (args := [.s x0.path]) rfl rfl rfl rfl (tree_Name_ok hS1.good hr2) ?_
 rintro v3 w3 ⟨Fr2, rfl, hT3⟩
 have hS3 := hS1.lent hT3
 refine Nxt.now ?_
 refine W_c rfl rfl rfl rfl (fun _ => rfl) ?_
 refine W_c rfl rfl rfl rfl (fun _ => rfl) ?_
 refine W_nil ?_
 refine N_code ?_
 obtain rfl := Option.some.inj H
 refine C_ret rfl rfl ?_
 exact ⟨F, rfl, hS3.pick [] (by decide)⟩

def slices_IndexFunc_api_File_api_File_tree_Sort_1.k1 : Option Int :=
  some (-1)


def slices_IndexFunc_api_File_api_File_tree_Sort_1.l2 (x0 : List File) (rec4 : Int → Option Int) : Int → Option Int
  | i3 =>
    if decide (i3 < (x0.length : Int)) then
      bd (ix x0 i3) fun x6 =>
      bd (tree_Sort_1 x6) fun r8 =>
      if r8 then
        some i3
      else
        rec4 (wr (i3 + 1))
    else
      slices_IndexFunc_api_File_api_File_tree_Sort_1.k1

def slices_IndexFunc_api_File_api_File_tree_Sort_1 (x0 : List File) : Option Int :=
  loop (slices_IndexFunc_api_File_api_File_tree_Sort_1.l2 x0) 0

set_option maxRecDepth 100000 in
theorem slices_IndexFunc_api_File_api_File_tree_Sort_1_ok {K : Tb} {F : Frz} {w : Hp} {x0 : List File} {r : Int} {v0 : Val} (hA : Gd F w) (h0 : SlF File.t F v0 x0) (H : slices_IndexFunc_api_File_api_File_tree_Sort_1 x0 = some r) : Ret Try.prog K 28 [v0, .f 19 []] w fun v w' => ∃ (F' : Frz), v = .i .i64 r ∧ St [] w F F' [] w' := by
 refine Ret_of (args := [v0, .f 19 []]) Go.Proofs.Try.func28 rfl (by decide) rfl ?_
 change C _ _ _ _ _ [(0, v0), (1, .f 19 [])] _
 have hS := St.start hA
 dsimp only [slices_IndexFunc_api_File_api_File_tree_Sort_1] at H
 refine C_seq ?_
 refine C_region rfl ?_
 refine W_c rfl rfl rfl rfl (fun _ => rfl) ?_
 refine W_nil ?_
 refine N_code ?_
 refine C_seq_join (fun E wq => slices_IndexFunc_api_File_api_File_tree_Sort_1.k1 = some r ∧ ∃ (F1 : Frz), E = [] ∧ F.le F1 ∧ St [] w F F1 [] wq) ?_ ?_
 ·
  refine C_seq ?_
  refine C_region rfl ?_
  refine W_c rfl rfl rfl rfl (fun _ => rfl) ?_
  refine W_r rfl rfl rfl (O_len Go.Proofs.Try.underlying22 rfl h0.ln) ?_
  refine W_c rfl rfl rfl rfl (fun _ => rfl) ?_
  refine W_nil ?_
  refine N_code ?_
  refine C_block ?_
  refine C_loopM (fun (s : Int) E wq => ∃ (F2 : Frz), E = [(0, v0), (1, .f 19 []), (7, .i .i64 (x0.length : Int)), (8, .i .i64 s)] ∧ F.le F2 ∧ St [] w F F2 [] wq) H ?_ ?_
  ·
   exact ⟨_, ⟨F, rfl, (Frz.le.refl _), hS⟩, ⟨rfl, rfl, rfl, rfl, trivial⟩⟩
  ·
   rintro rec4 i3 E w2 hI H
   try dsimp only at hI
   obtain ⟨F2, rfl, le2, hS2⟩ := hI
   dsimp only [slices_IndexFunc_api_File_api_File_tree_Sort_1.l2] at H
   refine C_seq ?_
   refine C_region rfl ?_
   refine W_r rfl rfl rfl (O_bin rfl rfl bI_lss) ?_
   refine W_nil ?_
   refine N_code ?_
   refine C_seq ?_
   refine C_cond rfl (fun hc5 => ?_) (fun hc5 => ?_)
   ·
    rw [if_t hc5] at H
    refine C_skip ?_
    refine N_code ?_
    refine C_seq ?_
    refine C_block ?_
    refine C_seq ?_
    refine C_region rfl ?_
    refine W_c rfl rfl rfl rfl (fun _ => rfl) ?_
    refine W_c rfl rfl rfl rfl (fun _ => rfl) ?_
    refine W_nil ?_
    refine N_code ?_
    refine C_seq ?_
    obtain ⟨x6, hx6, H⟩ := bd_some H
    obtain ⟨r8, hr8, H⟩ := bd_some H
    refine C_region rfl ?_
    refine W_c rfl rfl rfl rfl (fun _ => rfl) ?_
    refine W_c rfl rfl rfl rfl (fun _ => rfl) ?_
    refine W_c rfl rfl rfl rfl (fun _ => rfl) ?_
    obtain ⟨hp9, hy9⟩ := ix_some hx6
    obtain ⟨cs9, hr9, he9⟩ := (h0.mono le2).el hy9
    obtain ⟨ue7_0, rfl, hue7_0⟩ := hr9
    replace he9 : Elf _ _ 2 _ _ := he9
    have hi9 := he9.ixd
    refine W_r rfl rfl rfl (O_ix Go.Proofs.Try.underlying22 Ty.size30 rfl rfl hi9 hp9 rfl) ?_
    refine W_r rfl rfl rfl (O_ldg 0 (File.cells x6 ue7_0) Ty.agg30 Ty.size30 rfl (he9.mono hS2.agree) (by omega) rfl (Nat.le_of_ble_eq_true rfl)) ?_
    refine W_call (f := 19) (args := [.agg (File.cells x6 ue7_0)]) rfl rfl rfl rfl (tree_Sort_1_ok hS2.good hue7_0 hr8) ?_
    rintro v10 w10 ⟨Fr8, rfl, hT10⟩
    have hS10 := hS2.lent hT10
    refine Nxt.now ?_
    refine W_nil ?_
    refine N_code ?_
    refine C_cond rfl (fun hc11 => ?_) (fun hc11 => ?_)
    ·
     rw [if_t hc11] at H
     refine C_seq ?_
     refine C_region rfl ?_
     refine W_c rfl rfl rfl rfl (fun _ => rfl) ?_
     refine W_c rfl rfl rfl rfl (fun _ => rfl) ?_
     refine W_nil ?_
     refine N_code ?_
     obtain rfl := Option.some.inj H
     refine C_ret rfl rfl ?_
     exact ⟨F2, rfl, hS10⟩
    ·
     rw [if_f hc11] at H
     refine C_skip ?_
     refine N_block ?_
     refine N_code ?_
     refine C_region rfl ?_
     refine W_c rfl rfl rfl rfl (fun _ => rfl) ?_
     refine W_c rfl rfl rfl rfl (fun _ => rfl) ?_
     refine W_nil ?_
     exact N_againM (wr (i3 + 1)) _ H ⟨F2, rfl, le2, hS10⟩ ⟨rfl, rfl, rfl, rfl, trivial⟩
   ·
    rw [if_f hc5] at H
    refine C_exit _ rfl ?_
    exact N_join _ ⟨H, ⟨F2, rfl, le2, hS2⟩⟩ trivial
 ·
  rintro E w1 ⟨H, F1, rfl, le1, hS1⟩
  dsimp only [slices_IndexFunc_api_File_api_File_tree_Sort_1.k1] at H
  refine C_seq ?_
  refine C_region rfl ?_
  refine W_c rfl rfl rfl rfl (fun _ => rfl) ?_
  refine W_nil ?_
  refine N_code ?_
  obtain rfl := Option.some.inj H
  refine C_ret rfl rfl ?_
  exact ⟨F1, rfl, hS1⟩

def slices_ContainsFunc_api_File_api_File_tree_Sort_1 (x0 : List File) : Option Bool :=
  bd (slices_IndexFunc_api_File_api_File_tree_Sort_1 x0) fun r1 =>
  some (decide (0 ≤ r1))

set_option maxRecDepth 100000 in
theorem slices_ContainsFunc_api_File_api_File_tree_Sort_1_ok {K : Tb} {F : Frz} {w : Hp} {x0 : List File} {r : Bool} {v0 : Val} (hA : Gd F w) (h0 : SlF File.t F v0 x0) (H : slices_ContainsFunc_api_File_api_File_tree_Sort_1 x0 = some r) : Ret Try.prog K 18 [v0, .f 19 []] w fun v w' => ∃ (F' : Frz), v = .b r ∧ St [] w F F' [] w' := by
 refine Ret_of (args := [v0, .f 19 []]) Go.Proofs.Try.func18 rfl (by decide) rfl ?_
 change C _ _ _ _ _ [(0, v0), (1, .f 19 [])] _
 have hS := St.start hA
 dsimp only [slices_ContainsFunc_api_File_api_File_tree_Sort_1] at H
 refine C_seq ?_
 refine C_region rfl ?_
 refine W_c rfl rfl rfl rfl (fun _ => rfl) ?_
 refine W_nil ?_
 refine N_code ?_
 refine C_seq ?_
 obtain ⟨r1, hr1, H⟩ := bd_some H
 refine C_region rfl ?_
 refine W_c rfl rfl rfl rfl (fun _ => rfl) ?_
 refine W_c rfl rfl rfl rfl (fun _ => rfl) ?_
 refine W_call (f := 28) (args := [v0, .f 19 []]) rfl rfl rfl rfl (slices_IndexFunc_api_File_api_File_tree_Sort_1_ok hS.good h0 hr1) ?_
 rintro v2 w2 ⟨Fr1, rfl, hT2⟩
 have hS2 := hS.lent hT2
 refine Nxt.now ?_
 refine W_r rfl rfl rfl (O_bin rfl rfl bI_geq) ?_
 refine W_c rfl rfl rfl rfl (fun _ => rfl) ?_
 refine W_nil ?_
 refine N_code ?_
 obtain rfl := Option.some.inj H
 refine C_ret rfl rfl ?_
 exact ⟨F, rfl, hS2⟩

def tree_Sort.k1 (l13 : List File) : Option ((List File) × Int) :=
  some (l13, 0)


def tree_Sort.l2 (l13 : List File) (rec18 : Int → Option ((List File) × Int)) : Int → Option ((List File) × Int)
  | i17 =>
    if decide (i17 < (l13.length : Int)) then
      bd (only (decide (0 < i17)) (ix l13 i17) (File.mk [] [])) fun x20 =>
      bd (only (decide (0 < i17)) (ix l13 (wr (i17 - 1))) (File.mk [] [])) fun x22 =>
      if (decide (0 < i17) && (x20.path == x22.path)) then
        some ([], 9)
      else
        rec18 (wr (i17 + 1))
    else
      tree_Sort.k1 l13

def tree_Sort (x0 : List File) : Option ((List File) × Int) :=
  bd (tree_long x0) fun r1 =>
  if r1 then
    some ([], 2)
  else
    bd (slices_ContainsFunc_api_File_api_File_tree_Sort_1 x0) fun r6 =>
    if r6 then
      some ([], 1)
    else
      bd (tree_Twin x0) fun r11 =>
      bdS ordFile r11 fun l13 =>
      loop (tree_Sort.l2 l13) 0

set_option maxRecDepth 100000 in
theorem tree_Sort_ok {F : Frz} {w : Hp} {x0 : List File} {r : (List File) × Int} {v0 : Val} (hA : Gd F w) (h0 : SlF File.t F v0 x0) (H : tree_Sort x0 = some r) : Ret Try.prog KK 6 [v0] w fun v w' => ∃ (F' : Frz) (q0 : Val) (bs0 : List Nat), v = .tup [q0, .i .i64 r.2] ∧ St [] w F F' [.dp File.o bs0 q0 (r.1)] w' := by
 refine Ret_of (args := [v0]) Go.Proofs.Try.func6 rfl (by decide) rfl ?_
 change C _ _ _ _ _ [(0, v0)] _
 have hS := St.start hA
 dsimp only [tree_Sort] at H
 refine C_seq ?_
 refine C_region rfl ?_
 refine W_c rfl rfl rfl rfl (fun _ => rfl) ?_
 refine W_c rfl rfl rfl rfl (fun _ => rfl) ?_
 refine W_nil ?_
 refine N_code ?_
 refine C_seq ?_
 refine C_block ?_
 refine C_seq ?_
 obtain ⟨r1, hr1, H⟩ := bd_some H
 refine C_region rfl ?_
 refine W_c rfl rfl rfl rfl (fun _ => rfl) ?_
 refine W_call (f := 17) (args := [v0]) rfl rfl rfl rfl (tree_long_ok hS.good h0 hr1) ?_
 rintro v2 w2 ⟨Fr1, rfl, hT2⟩
 have hS2 := hS.lent hT2
 refine Nxt.now ?_
 refine W_c rfl rfl rfl rfl (fun _ => rfl) ?_
 refine W_nil ?_
 refine N_code ?_
 refine C_cond rfl (fun hc3 => ?_) (fun hc3 => ?_)
 ·
  rw [if_t hc3] at H
  refine C_seq ?_
  refine C_region rfl ?_
  refine W_c rfl rfl rfl rfl (fun _ => rfl) ?_
  refine W_c rfl rfl rfl rfl (fun _ => rfl) ?_
  refine W_nil ?_
  refine N_code ?_
  have hS5 := hS2.nilDp File.o
  obtain rfl := Option.some.inj H
  refine C_ret rfl rfl ?_
  exact ⟨F, (.sl none 0 (some 0)), [], rfl, hS5⟩
 ·
  rw [if_f hc3] at H
  refine C_seq ?_
  obtain ⟨r6, hr6, H⟩ := bd_some H
  refine C_region rfl ?_
  refine W_c rfl rfl rfl rfl (fun _ => rfl) ?_
  refine W_call (f := 18) (args := [v0, .f 19 []]) rfl rfl rfl rfl (slices_ContainsFunc_api_File_api_File_tree_Sort_1_ok hS2.good h0 hr6) ?_
  rintro v7 w7 ⟨Fr6, rfl, hT7⟩
  have hS7 := hS2.lent hT7
  refine Nxt.now ?_
  refine W_c rfl rfl rfl rfl (fun _ => rfl) ?_
  refine W_nil ?_
  refine N_code ?_
  refine C_cond rfl (fun hc8 => ?_) (fun hc8 => ?_)
  ·
   rw [if_t hc8] at H
   refine C_seq ?_
   refine C_region rfl ?_
   refine W_c rfl rfl rfl rfl (fun _ => rfl) ?_
   refine W_c rfl rfl rfl rfl (fun _ => rfl) ?_
   refine W_nil ?_
   refine N_code ?_
   have hS10 := hS7.nilDp File.o
   obtain rfl := Option.some.inj H
   refine C_ret rfl rfl ?_
   exact ⟨F, (.sl none 0 (some 0)), [], rfl, hS10⟩
  ·
   rw [if_f hc8] at H
   refine C_skip ?_
   refine N_block ?_
   refine N_code ?_
   refine C_seq ?_
   obtain ⟨r11, hr11, H⟩ := bd_some H
   refine C_region rfl ?_
   refine W_c rfl rfl rfl rfl (fun _ => rfl) ?_
   refine W_call (f := 20) (args := [v0]) rfl rfl rfl rfl (tree_Twin_ok hS7.good h0 hr11) ?_
   rintro ur11_0 w12 ⟨Fr11, _, bsr11_0, rfl, hT12⟩
   have hS12 := hS7.call hT12
   have ler11 := hT12.ext
   refine Nxt.now ?_
   refine W_c rfl rfl rfl rfl (fun _ => rfl) ?_
   refine W_nil ?_
   refine N_code ?_
   refine C_seq ?_
   obtain ⟨hlenl13, H⟩ := bdS_some H
   refine C_region rfl ?_
   refine W_c rfl rfl rfl rfl (fun _ => rfl) ?_
   refine W_call (f := 21) (args := [ur11_0, .f 22 []]) rfl rfl rfl rfl (sortFile_ok (hS12.lendO 0 rfl)) ?_
   rintro v14 w14 ⟨rfl, l13, bs14, hpl13, hrl13, hT14⟩
   replace H := H l13 hpl13 hrl13
   have hS14 := hS12.backO 0 [] rfl (by decide) (by decide) hT14
   refine Nxt.now ?_
   refine W_nil ?_
   refine N_code ?_
   refine C_seq_join (fun E wq => tree_Sort.k1 l13 = some r ∧ ∃ (F15 : Frz), E = [(4, ur11_0)] ∧ Fr11.le F15 ∧ St [] w F F15 [.dp File.o bs14 ur11_0 l13] wq) ?_ ?_
   ·
    refine C_seq ?_
    refine C_region rfl ?_
    refine W_c rfl rfl rfl rfl (fun _ => rfl) ?_
    refine W_r rfl rfl rfl (O_len Go.Proofs.Try.underlying22 rfl (hS14.dpLn (k := 0) rfl)) ?_
    refine W_c rfl rfl rfl rfl (fun _ => rfl) ?_
    refine W_nil ?_
    refine N_code ?_
    refine C_block ?_
    refine C_loopM (fun (s : Int) E wq => ∃ (F16 : Frz), E = [(4, ur11_0), (17, .i .i64 (l13.length : Int)), (18, .i .i64 s)] ∧ Fr11.le F16 ∧ St [] w F F16 [.dp File.o bs14 ur11_0 l13] wq) H ?_ ?_
    ·
     exact ⟨_, ⟨Fr11, rfl, (Frz.le.refl _), hS14⟩, ⟨rfl, rfl, rfl, trivial⟩⟩
    ·
     rintro rec18 i17 E w16 hI H
     try dsimp only at hI
     obtain ⟨F16, rfl, le16, hS16⟩ := hI
     dsimp only [tree_Sort.l2] at H
     refine C_seq ?_
     refine C_region rfl ?_
     refine W_r rfl rfl rfl (O_bin rfl rfl bI_lss) ?_
     refine W_nil ?_
     refine N_code ?_
     refine C_seq ?_
     refine C_cond rfl (fun hc19 => ?_) (fun hc19 => ?_)
     ·
      rw [if_t hc19] at H
      refine C_skip ?_
      refine N_code ?_
      refine C_seq ?_
      refine C_block ?_
      refine C_seq ?_
      refine C_region rfl ?_
      refine W_c rfl rfl rfl rfl (fun _ => rfl) ?_
      refine W_c rfl rfl rfl rfl (fun _ => rfl) ?_
      refine W_nil ?_
      refine N_code ?_
      refine C_seq ?_
      obtain ⟨x20, hx20, H⟩ := bd_some H
      obtain ⟨x22, hx22, H⟩ := bd_some H
      refine C_join (fun E wq => E = [(4, ur11_0), (17, .i .i64 (l13.length : Int)), (18, .i .i64 i17), (36, .b (decide (0 < i17) && (x20.path == x22.path)))] ∧ ∃ F24 : Frz, F16.le F24 ∧ St [] w F F24 [.dp File.o bs14 ur11_0 l13] wq) ?_ ?_
      ·
       rcases Bool.eq_false_or_eq_true (decide (0 < i17)) with hb25 | hb25
       ·
        refine C_regionD (G := (nowF _)) [0, 1, 2, 3, 4, 5, 6, 7, 8, 9, 10, 11, 12, 13, 14, 15] rfl Ty.mixed (by kernel_rfl) (nowF_agree _) ?_
        refine W_c rfl rfl rfl rfl (fun _ => rfl) ?_
        refine W_r rfl rfl rfl (O_bin rfl rfl bI_gtr) ?_
        refine W_c rfl rfl rfl rfl (fun _ => rfl) ?_
        refine W_eqv (t := 23) (v' := .b true) rfl (congrArg Val.b hb25) ?_
        refine W_c rfl rfl rfl rfl (fun _ => rfl) ?_
        refine W_c rfl rfl rfl rfl (fun _ => rfl) ?_
        have hy26 := hx20
        rw [only_t hb25] at hy26
        obtain ⟨hp27, hy27⟩ := ix_some hy26
        obtain ⟨cs27, hr27, he27⟩ := (hS16.dpNow (k := 0) rfl File.sees).el hy27
        obtain ⟨ue21_0, rfl, hue21_0⟩ := hr27
        replace he27 : Elf _ _ 2 _ _ := he27
        have hi27 := he27.ixd
        refine W_r rfl rfl rfl (O_ix Go.Proofs.Try.underlying22 Ty.size30 rfl rfl hi27 hp27 rfl) ?_
        refine W_r rfl rfl rfl (O_fld 0 Ty.field30_0 rfl hi27) ?_
        refine W_r rfl rfl rfl (O_ld1 0 Ty.cell9 rfl he27 (by omega) rfl) ?_
        refine W_c rfl rfl rfl rfl (fun _ => rfl) ?_
        refine W_c rfl rfl rfl rfl (fun _ => rfl) ?_
        refine W_c rfl rfl rfl rfl (fun _ => rfl) ?_
        have hy28 := hx22
        rw [only_t hb25] at hy28
        obtain ⟨hp29, hy29⟩ := ix_some hy28
        obtain ⟨cs29, hr29, he29⟩ := (hS16.dpNow (k := 0) rfl File.sees).el hy29
        obtain ⟨ue23_0, rfl, hue23_0⟩ := hr29
        replace he29 : Elf _ _ 2 _ _ := he29
        have hi29 := he29.ixd
        refine W_r rfl rfl rfl (O_ix Go.Proofs.Try.underlying22 Ty.size30 rfl rfl hi29 hp29 rfl) ?_
        refine W_r rfl rfl rfl (O_fld 0 Ty.field30_0 rfl hi29) ?_
        refine W_r rfl rfl rfl (O_ld1 0 Ty.cell9 rfl he29 (by omega) rfl) ?_
        refine W_r rfl rfl rfl (O_bin rfl rfl bS_eql) ?_
        refine W_c rfl rfl rfl rfl (fun _ => rfl) ?_
        refine W_nil ?_
        exact N_join _ ⟨rfl, F16, (Frz.le.refl _), hS16⟩ ⟨rfl, rfl, rfl, (look_bool rfl (by first | rfl | (rw [hb25]; first | done | rfl) | simp [hb25])), trivial⟩
       ·
        refine C_regionD (G := (nowF _)) [0, 1, 2, 3, 4, 5, 6, 7, 8, 9, 10, 11, 12, 13, 14, 15] rfl Ty.mixed (by kernel_rfl) (nowF_agree _) ?_
        refine W_c rfl rfl rfl rfl (fun _ => rfl) ?_
        refine W_r rfl rfl rfl (O_bin rfl rfl bI_gtr) ?_
        refine W_c rfl rfl rfl rfl (fun _ => rfl) ?_
        refine W_eqv (t := 23) (v' := .b false) rfl (congrArg Val.b hb25) ?_
        refine W_no rfl rfl rfl ?_
        refine W_no rfl rfl rfl ?_
        refine W_no rfl rfl rfl ?_
        refine W_no rfl rfl rfl ?_
        refine W_no rfl rfl rfl ?_
        refine W_no rfl rfl rfl ?_
        refine W_no rfl rfl rfl ?_
        refine W_no rfl rfl rfl ?_
        refine W_no rfl rfl rfl ?_
        refine W_no rfl rfl rfl ?_
        refine W_no rfl rfl rfl ?_
        refine W_no rfl rfl rfl ?_
        refine W_c rfl rfl rfl rfl (fun _ => rfl) ?_
        refine W_nil ?_
        exact N_join _ ⟨rfl, F16, (Frz.le.refl _), hS16⟩ ⟨rfl, rfl, rfl, (look_bool rfl (by first | rfl | (rw [hb25]; first | done | rfl) | simp [hb25])), trivial⟩
      rintro E w24 ⟨rfl, F24, le24, hS24⟩
      refine N_code ?_
      refine C_cond rfl (fun hc30 => ?_) (fun hc30 => ?_)
      ·
       rw [if_t hc30] at H
       refine C_seq ?_
       refine C_region rfl ?_
       refine W_c rfl rfl rfl rfl (fun _ => rfl) ?_
       refine W_c rfl rfl rfl rfl (fun _ => rfl) ?_
       refine W_nil ?_
       refine N_code ?_
       have hS32 := hS24.nilDp File.o
       obtain rfl := Option.some.inj H
       refine C_ret rfl rfl ?_
       exact ⟨F24, (.sl none 0 (some 0)), [], rfl, hS32.pick [0] (by decide)⟩
      ·
       rw [if_f hc30] at H
       refine C_skip ?_
       refine N_block ?_
       refine N_code ?_
       refine C_region rfl ?_
       refine W_c rfl rfl rfl rfl (fun _ => rfl) ?_
       refine W_c rfl rfl rfl rfl (fun _ => rfl) ?_
       refine W_nil ?_
       exact N_againM (wr (i17 + 1)) _ H ⟨F24, rfl, (le16.trans le24), hS24⟩ ⟨rfl, rfl, rfl, trivial⟩
     ·
      rw [if_f hc19] at H
      refine C_exit _ rfl ?_
      exact N_join _ ⟨H, ⟨F16, rfl, le16, hS16⟩⟩ ⟨rfl, trivial⟩
   ·
    rintro E w15 ⟨H, F15, rfl, le15, hS15⟩
    dsimp only [tree_Sort.k1] at H
    refine C_seq ?_
    refine C_region rfl ?_
    refine W_c rfl rfl rfl rfl (fun _ => rfl) ?_
    refine W_c rfl rfl rfl rfl (fun _ => rfl) ?_
    refine W_c rfl rfl rfl rfl (fun _ => rfl) ?_
    refine W_nil ?_
    refine N_code ?_
    obtain rfl := Option.some.inj H
    refine C_ret rfl rfl ?_
    exact ⟨F15, ur11_0, bs14, rfl, hS15⟩

def cellarerlaw05_TreeExact.k1 (x0 : List File) (x1 : List UInt8) (r7 : (List File)) (r9 : (List File) × Int) (r12 : (List File) × Int) (i15 : Int) : Option Bool :=
  bd (tree_Check r7) fun r16 =>
  bd (cellarerref01_Tree x0) fun r17 =>
  bd (only (!(decide (r16 ≠ r17) || decide (r9.2 ≠ r12.2))) (cellarerkeep_Files r9.1 r12.1) false) fun r18 =>
  bd (only (!((decide (r16 ≠ r17) || decide (r9.2 ≠ r12.2)) || (!r18))) (tree_Size r7) 0) fun r19 =>
  bd (only (!(((decide (r16 ≠ r17) || decide (r9.2 ≠ r12.2)) || (!r18)) || decide (r19 ≠ i15))) (tree_Name x1) false) fun r20 =>
  bd (only (!(((decide (r16 ≠ r17) || decide (r9.2 ≠ r12.2)) || (!r18)) || decide (r19 ≠ i15))) (cellarerref01_Name x1) false) fun r21 =>
  if ((((decide (r16 ≠ r17) || decide (r9.2 ≠ r12.2)) || (!r18)) || decide (r19 ≠ i15)) || (r20 != r21)) then
    some false
  else
    bd (cellarerkeep_SpoilFiles r9.1) fun r52 =>
    bd (cellarerkeep_Files r7 x0) fun r54 =>
    bd (only r54 (cellarerlaw05_wakes) false) fun r55 =>
    some (r54 && r55)


def cellarerlaw05_TreeExact.l2 (x0 : List File) (x1 : List UInt8) (r7 : (List File)) (r9 : (List File) × Int) (r12 : (List File) × Int) (rec65 : (Int × Int) → Option Bool) : (Int × Int) → Option Bool
  | (i63, i64) =>
    if decide (i64 < (x0.length : Int)) then
      bd (ix x0 i64) fun x67 =>
      rec65 (wr (i63 + (x67.data.length : Int)), wr (i64 + 1))
    else
      cellarerlaw05_TreeExact.k1 x0 x1 r7 r9 r12 i63

def cellarerlaw05_TreeExact (x0 : List File) (x1 : List UInt8) : Option Bool :=
  bd (cellarerlaw05_Heavy x0) fun r1 =>
  if (r1 || decide (100 < (x1.length : Int))) then
    some true
  else
    bd (cellarerkeep_TwinFiles x0) fun r7 =>
    bd (tree_Sort r7) fun r9 =>
    bd (cellarerref01_Sort x0) fun r12 =>
    loop (cellarerlaw05_TreeExact.l2 x0 x1 r7 r9 r12) (0, 0)

set_option maxRecDepth 100000 in
theorem cellarerlaw05_TreeExact_ok {F : Frz} {w : Hp} {x0 : List File} {x1 : List UInt8} {r : Bool} {v0 : Val} (hA : Gd F w) (h0 : SlF File.t F v0 x0) (H : cellarerlaw05_TreeExact x0 x1 = some r) : Ret Try.prog KK 3 [v0, .s x1] w fun v w' => ∃ (F' : Frz), v = .b r ∧ St [] w F F' [] w' := by
 refine Ret_of (args := [v0, .s x1]) Go.Proofs.Try.func3 rfl (by decide) rfl ?_
 change C _ _ _ _ _ [(0, v0), (1, .s x1)] _
 have hS := St.start hA
 dsimp only [cellarerlaw05_TreeExact] at H
 refine C_seq ?_
 refine C_region rfl ?_
 refine W_c rfl rfl rfl rfl (fun _ => rfl) ?_
 refine W_nil ?_
 refine N_code ?_
 refine C_seq ?_
 refine C_seq ?_
 obtain ⟨r1, hr1, H⟩ := bd_some H
 refine C_join (fun E wq => E = [(0, v0), (1, .s x1), (18, .b (r1 || decide (100 < (x1.length : Int))))] ∧ ∃ F2 : Frz, F.le F2 ∧ St [] w F F2 [] wq) ?_ ?_
 ·
  rcases Bool.eq_false_or_eq_true r1 with hb3 | hb3
  ·
   refine C_region rfl ?_
   refine W_c rfl rfl rfl rfl (fun _ => rfl) ?_
   refine W_call (f := 4) (args := [v0]) rfl rfl rfl rfl (cellarerlaw05_Heavy_ok hS.good h0 hr1) ?_
   rintro v4 w4 ⟨Fr1, rfl, hT4⟩
   have hS4 := hS.lent hT4
   refine Nxt.now ?_
   refine W_c rfl rfl rfl rfl (fun _ => rfl) ?_
   refine W_eqv (t := 14) (v' := .b true) rfl (congrArg Val.b hb3) ?_
   refine W_no rfl rfl rfl ?_
   refine W_no rfl rfl rfl ?_
   refine W_no rfl rfl rfl ?_
   refine W_c rfl rfl rfl rfl (fun _ => rfl) ?_
   refine W_nil ?_
   exact N_join _ ⟨rfl, F, (Frz.le.refl _), hS4⟩ ⟨rfl, rfl, (look_bool rfl (by first | rfl | (rw [hb3]; first | done | rfl) | simp [hb3])), trivial⟩
  ·
   refine C_region rfl ?_
   refine W_c rfl rfl rfl rfl (fun _ => rfl) ?_
   refine W_call (f := 4) (args := [v0]) rfl rfl rfl rfl (cellarerlaw05_Heavy_ok hS.good h0 hr1) ?_
   rintro v5 w5 ⟨Fr1, rfl, hT5⟩
   have hS5 := hS.lent hT5
   refine Nxt.now ?_
   refine W_c rfl rfl rfl rfl (fun _ => rfl) ?_
   refine W_eqv (t := 14) (v' := .b false) rfl (congrArg Val.b hb3) ?_
   refine W_c rfl rfl rfl rfl (fun _ => rfl) ?_
   refine W_r rfl rfl rfl (O_lenS Go.Proofs.Try.underlying9 rfl) ?_
   refine W_r rfl rfl rfl (O_bin rfl rfl bI_gtr) ?_
   refine W_c rfl rfl rfl rfl (fun _ => rfl) ?_
   refine W_nil ?_
   exact N_join _ ⟨rfl, F, (Frz.le.refl _), hS5⟩ ⟨rfl, rfl, (look_bool rfl (by first | rfl | (rw [hb3]; first | done | rfl) | simp [hb3])), trivial⟩
 rintro E w2 ⟨rfl, F2, le2, hS2⟩
 refine N_code ?_
 refine C_cond rfl (fun hc6 => ?_) (fun hc6 => ?_)
 ·
  rw [if_t hc6] at H
  refine C_seq ?_
  refine C_region rfl ?_
  refine W_c rfl rfl rfl rfl (fun _ => rfl) ?_
  refine W_nil ?_
  refine N_code ?_
  obtain rfl := Option.some.inj H
  refine C_ret rfl rfl ?_
  exact ⟨F2, rfl, hS2⟩
 ·
  rw [if_f hc6] at H
  refine C_skip ?_
  refine N_code ?_
  refine C_seq ?_
  obtain ⟨r7, hr7, H⟩ := bd_some H
  refine C_region rfl ?_
  refine W_c rfl rfl rfl rfl (fun _ => rfl) ?_
  refine W_call (f := 5) (args := [v0]) rfl rfl rfl rfl (cellarerkeep_TwinFiles_ok hS2.good (h0.mono le2) hr7) ?_
  rintro ur7_0 w8 ⟨Fr7, _, rfl, hT8⟩
  have hS8 := hS2.call hT8
  have ler7 := hT8.ext
  refine Nxt.now ?_
  refine W_c rfl rfl rfl rfl (fun _ => rfl) ?_
  refine W_nil ?_
  refine N_code ?_
  refine C_seq ?_
  obtain ⟨r9, hr9, H⟩ := bd_some H
  refine C_region rfl ?_
  refine W_c rfl rfl rfl rfl (fun _ => rfl) ?_
  obtain ⟨F10, le10, hf10, hS10⟩ := hS8.freezeR 0 [] rfl (by decide) (by decide)
  refine W_call (f := 6) (args := [ur7_0]) rfl rfl rfl rfl (tree_Sort_ok hS10.good hf10 hr9) ?_
  rintro v11 w11 ⟨Fr9, ur9_0, bsr9_0, rfl, hT11⟩
  have hS11 := hS10.call hT11
  have ler9 := hT11.ext
  refine Nxt.now ?_
  refine W_c rfl rfl rfl rfl (fun _ => rfl) ?_
  refine W_c rfl rfl rfl rfl (fun _ => rfl) ?_
  refine W_c rfl rfl rfl rfl (fun _ => rfl) ?_
  refine W_c rfl rfl rfl rfl (fun _ => rfl) ?_
  refine W_c rfl rfl rfl rfl (fun _ => rfl) ?_
  refine W_nil ?_
  refine N_code ?_
  refine C_seq ?_
  obtain ⟨r12, hr12, H⟩ := bd_some H
  refine C_region rfl ?_
  refine W_c rfl rfl rfl rfl (fun _ => rfl) ?_
  refine W_call (f := 7) (args := [v0]) rfl rfl rfl rfl (cellarerref01_Sort_ok hS11.good (h0.mono (((le2.trans ler7).trans le10).trans ler9)) hr12) ?_
  rintro v13 w13 ⟨Fr12, ur12_0, rfl, hT13⟩
  have hS13 := hS11.call hT13
  have ler12 := hT13.ext
  refine Nxt.now ?_
  refine W_c rfl rfl rfl rfl (fun _ => rfl) ?_
  refine W_c rfl rfl rfl rfl (fun _ => rfl) ?_
  refine W_c rfl rfl rfl rfl (fun _ => rfl) ?_
  refine W_c rfl rfl rfl rfl (fun _ => rfl) ?_
  refine W_c rfl rfl rfl rfl (fun _ => rfl) ?_
  refine W_nil ?_
  refine N_code ?_
  refine C_seq ?_
  refine C_region rfl ?_
  refine W_c rfl rfl rfl rfl (fun _ => rfl) ?_
  refine W_nil ?_
  refine N_code ?_
  refine C_seq_join (fun E wq => ∃ i15 : Int, cellarerlaw05_TreeExact.k1 x0 x1 r7 r9 r12 i15 = some r ∧ ∃ (F14 : Frz), E = [(0, v0), (1, .s x1), (5, ur7_0), (6, ur9_0), (7, .i .i64 r9.2), (8, ur12_0), (9, .i .i64 r12.2), (10, .i .i64 i15)] ∧ Fr12.le F14 ∧ St [] w F F14 [.row File.t ur12_0 r12.1, .dp File.o bsr9_0 ur9_0 r9.1] wq) ?_ ?_
  ·
   refine C_seq ?_
   refine C_region rfl ?_
   refine W_c rfl rfl rfl rfl (fun _ => rfl) ?_
   refine W_nil ?_
   refine N_code ?_
   refine C_block ?_
   refine C_loopM (fun (s : Int × Int) E wq => ∃ (F62 : Frz), E = [(0, v0), (1, .s x1), (5, ur7_0), (6, ur9_0), (7, .i .i64 r9.2), (8, ur12_0), (9, .i .i64 r12.2), (10, .i .i64 s.1), (11, .i .i64 s.2)] ∧ Fr12.le F62 ∧ St [] w F F62 [.row File.t ur12_0 r12.1, .dp File.o bsr9_0 ur9_0 r9.1] wq) H ?_ ?_
   ·
    exact ⟨_, ⟨Fr12, rfl, (Frz.le.refl _), hS13⟩, ⟨rfl, rfl, rfl, rfl, rfl, rfl, rfl, rfl, rfl, trivial⟩⟩
   ·
    rintro rec65 ⟨i63, i64⟩ E w62 hI H
    try dsimp only at hI
    obtain ⟨F62, rfl, le62, hS62⟩ := hI
    dsimp only [cellarerlaw05_TreeExact.l2] at H
    refine C_seq ?_
    refine C_seq ?_
    refine C_region rfl ?_
    refine W_c rfl rfl rfl rfl (fun _ => rfl) ?_
    refine W_c rfl rfl rfl rfl (fun _ => rfl) ?_
    refine W_r rfl rfl rfl (O_len Go.Proofs.Try.underlying22 rfl h0.ln) ?_
    refine W_r rfl rfl rfl (O_bin rfl rfl bI_lss) ?_
    refine W_nil ?_
    refine N_code ?_
    refine C_cond rfl (fun hc66 => ?_) (fun hc66 => ?_)
    ·
     rw [if_t hc66] at H
     refine C_skip ?_
     refine N_code ?_
     refine C_seq ?_
     refine C_block ?_
     obtain ⟨x67, hx67, H⟩ := bd_some H
     refine C_region rfl ?_
     refine W_c rfl rfl rfl rfl (fun _ => rfl) ?_
     refine W_c rfl rfl rfl rfl (fun _ => rfl) ?_
     refine W_c rfl rfl rfl rfl (fun _ => rfl) ?_
     obtain ⟨hp69, hy69⟩ := ix_some hx67
     obtain ⟨cs69, hr69, he69⟩ := (h0.mono (((((le2.trans ler7).trans le10).trans ler9).trans ler12).trans le62)).el hy69
     obtain ⟨ue68_0, rfl, hue68_0⟩ := hr69
     replace he69 : Elf _ _ 2 _ _ := he69
     have hi69 := he69.ixd
     refine W_r rfl rfl rfl (O_ix Go.Proofs.Try.underlying22 Ty.size30 rfl rfl hi69 hp69 rfl) ?_
     refine W_r rfl rfl rfl (O_fld 1 Ty.field30_1 rfl hi69) ?_
     refine W_r rfl rfl rfl (O_ld1 1 Ty.cell28 rfl (he69.mono hS62.agree) (by omega) rfl) ?_
     refine W_r rfl rfl rfl (O_len Go.Proofs.Try.underlying28 rfl hue68_0.ln) ?_
     refine W_c rfl rfl rfl rfl (fun _ => rfl) ?_
     refine W_c rfl rfl rfl rfl (fun _ => rfl) ?_
     refine W_nil ?_
     refine N_block ?_
     refine N_code ?_
     refine C_region rfl ?_
     refine W_c rfl rfl rfl rfl (fun _ => rfl) ?_
     refine W_c rfl rfl rfl rfl (fun _ => rfl) ?_
     refine W_c rfl rfl rfl rfl (fun _ => rfl) ?_
     refine W_nil ?_
     exact N_againM (wr (i63 + (x67.data.length : Int)), wr (i64 + 1)) _ H ⟨F62, rfl, le62, hS62⟩ ⟨rfl, rfl, rfl, rfl, rfl, rfl, rfl, rfl, rfl, trivial⟩
    ·
     rw [if_f hc66] at H
     refine C_exit _ rfl ?_
     exact N_join _ ⟨i63, H, ⟨F62, rfl, le62, hS62⟩⟩ ⟨rfl, rfl, rfl, rfl, rfl, rfl, rfl, rfl, trivial⟩
  ·
   rintro E w14 ⟨i15, H, F14, rfl, le14, hS14⟩
   dsimp only [cellarerlaw05_TreeExact.k1] at H
   refine C_seq ?_
   refine C_seq ?_
   obtain ⟨r16, hr16, H⟩ := bd_some H
   obtain ⟨r17, hr17, H⟩ := bd_some H
   obtain ⟨r18, hr18, H⟩ := bd_some H
   obtain ⟨r19, hr19, H⟩ := bd_some H
   obtain ⟨r20, hr20, H⟩ := bd_some H
   obtain ⟨r21, hr21, H⟩ := bd_some H
   refine C_join (fun E wq => E = [(0, v0), (5, ur7_0), (6, ur9_0), (73, .b ((((decide (r16 ≠ r17) || decide (r9.2 ≠ r12.2)) || (!r18)) || decide (r19 ≠ i15)) || (r20 != r21)))] ∧ ∃ F22 : Frz, F14.le F22 ∧ St [] w F F22 [.row File.t ur12_0 r12.1, .dp File.o bsr9_0 ur9_0 r9.1] wq) ?_ ?_
   ·
    rcases Bool.eq_false_or_eq_true (decide (r16 ≠ r17)) with hb23 | hb23
    ·
     refine C_region rfl ?_
     refine W_c rfl rfl rfl rfl (fun _ => rfl) ?_
     refine W_call (f := 8) (args := [ur7_0]) rfl rfl rfl rfl (tree_Check_ok hS14.good (hf10.mono ((ler9.trans ler12).trans le14)) hr16) ?_
     rintro v24 w24 ⟨Fr16, rfl, hT24⟩
     have hS24 := hS14.lent hT24
     refine Nxt.now ?_
     refine W_c rfl rfl rfl rfl (fun _ => rfl) ?_
     refine W_call (f := 9) (args := [v0]) rfl rfl rfl rfl (cellarerref01_Tree_ok hS24.good (h0.mono (((((le2.trans ler7).trans le10).trans ler9).trans ler12).trans le14)) hr17) ?_
     rintro v25 w25 ⟨Fr17, rfl, hT25⟩
     have hS25 := hS24.lent hT25
     refine Nxt.now ?_
     refine W_r rfl rfl rfl (O_bin rfl rfl bI_neq) ?_
     refine W_c rfl rfl rfl rfl (fun _ => rfl) ?_
     refine W_eqv (t := 50) (v' := .b true) rfl (congrArg Val.b hb23) ?_
     refine W_no rfl rfl rfl ?_
     refine W_no rfl rfl rfl ?_
     refine W_no rfl rfl rfl ?_
     refine W_c rfl rfl rfl rfl (fun _ => rfl) ?_
     refine W_c rfl rfl rfl rfl (fun _ => rfl) ?_
     refine W_no rfl rfl rfl ?_
     refine W_no rfl rfl rfl ?_
     refine W_no rfl rfl rfl ?_
     refine W_no rfl rfl rfl ?_
     refine W_c rfl rfl rfl rfl (fun _ => rfl) ?_
     refine W_c rfl rfl rfl rfl (fun _ => rfl) ?_
     refine W_no rfl rfl rfl ?_
     refine W_no rfl rfl rfl ?_
     refine W_no rfl rfl rfl ?_
     refine W_no rfl rfl rfl ?_
     refine W_c rfl rfl rfl rfl (fun _ => rfl) ?_
     refine W_c rfl rfl rfl rfl (fun _ => rfl) ?_
     refine W_no rfl rfl rfl ?_
     refine W_no rfl rfl rfl ?_
     refine W_no rfl rfl rfl ?_
     refine W_no rfl rfl rfl ?_
     refine W_no rfl rfl rfl ?_
     refine W_c rfl rfl rfl rfl (fun _ => rfl) ?_
     refine W_nil ?_
     exact N_join _ ⟨rfl, F14, (Frz.le.refl _), hS25⟩ ⟨rfl, rfl, rfl, (look_bool rfl (by first | rfl | (rw [hb23]; first | done | rfl) | simp [hb23])), trivial⟩
    ·
     rcases Bool.eq_false_or_eq_true (decide (r9.2 ≠ r12.2)) with hb26 | hb26
     ·
      refine C_region rfl ?_
      refine W_c rfl rfl rfl rfl (fun _ => rfl) ?_
      refine W_call (f := 8) (args := [ur7_0]) rfl rfl rfl rfl (tree_Check_ok hS14.good (hf10.mono ((ler9.trans ler12).trans le14)) hr16) ?_
      rintro v27 w27 ⟨Fr16, rfl, hT27⟩
      have hS27 := hS14.lent hT27
      refine Nxt.now ?_
      refine W_c rfl rfl rfl rfl (fun _ => rfl) ?_
      refine W_call (f := 9) (args := [v0]) rfl rfl rfl rfl (cellarerref01_Tree_ok hS27.good (h0.mono (((((le2.trans ler7).trans le10).trans ler9).trans ler12).trans le14)) hr17) ?_
      rintro v28 w28 ⟨Fr17, rfl, hT28⟩
      have hS28 := hS27.lent hT28
      refine Nxt.now ?_
      refine W_r rfl rfl rfl (O_bin rfl rfl bI_neq) ?_
      refine W_c rfl rfl rfl rfl (fun _ => rfl) ?_
      refine W_eqv (t := 50) (v' := .b false) rfl (congrArg Val.b hb23) ?_
      refine W_c rfl rfl rfl rfl (fun _ => rfl) ?_
      refine W_c rfl rfl rfl rfl (fun _ => rfl) ?_
      refine W_r rfl rfl rfl (O_bin rfl rfl bI_neq) ?_
      refine W_c rfl rfl rfl rfl (fun _ => rfl) ?_
      refine W_c rfl rfl rfl rfl (fun _ => rfl) ?_
      refine W_eqv (t := 55) (v' := .b true) rfl (congrArg Val.b hb26) ?_
      refine W_no rfl rfl rfl ?_
      refine W_no rfl rfl rfl ?_
      refine W_no rfl rfl rfl ?_
      refine W_no rfl rfl rfl ?_
      refine W_c rfl rfl rfl rfl (fun _ => rfl) ?_
      refine W_c rfl rfl rfl rfl (fun _ => rfl) ?_
      refine W_no rfl rfl rfl ?_
      refine W_no rfl rfl rfl ?_
      refine W_no rfl rfl rfl ?_
      refine W_no rfl rfl rfl ?_
      refine W_c rfl rfl rfl rfl (fun _ => rfl) ?_
      refine W_c rfl rfl rfl rfl (fun _ => rfl) ?_
      refine W_no rfl rfl rfl ?_
      refine W_no rfl rfl rfl ?_
      refine W_no rfl rfl rfl ?_
      refine W_no rfl rfl rfl ?_
      refine W_no rfl rfl rfl ?_
      refine W_c rfl rfl rfl rfl (fun _ => rfl) ?_
      refine W_nil ?_
      exact N_join _ ⟨rfl, F14, (Frz.le.refl _), hS28⟩ ⟨rfl, rfl, rfl, (look_bool rfl (by first | rfl | (rw [hb26, hb23]; first | done | rfl) | simp [hb23, hb26])), trivial⟩
     ·
      rcases Bool.eq_false_or_eq_true (!r18) with hb29 | hb29
      ·
       refine C_region rfl ?_
       refine W_c rfl rfl rfl rfl (fun _ => rfl) ?_
       refine W_call (f := 8) (args := [ur7_0]) rfl rfl rfl rfl (tree_Check_ok hS14.good (hf10.mono ((ler9.trans ler12).trans le14)) hr16) ?_
       rintro v30 w30 ⟨Fr16, rfl, hT30⟩
       have hS30 := hS14.lent hT30
       refine Nxt.now ?_
       refine W_c rfl rfl rfl rfl (fun _ => rfl) ?_
       refine W_call (f := 9) (args := [v0]) rfl rfl rfl rfl (cellarerref01_Tree_ok hS30.good (h0.mono (((((le2.trans ler7).trans le10).trans ler9).trans ler12).trans le14)) hr17) ?_
       rintro v31 w31 ⟨Fr17, rfl, hT31⟩
       have hS31 := hS30.lent hT31
       refine Nxt.now ?_
       refine W_r rfl rfl rfl (O_bin rfl rfl bI_neq) ?_
       refine W_c rfl rfl rfl rfl (fun _ => rfl) ?_
       refine W_eqv (t := 50) (v' := .b false) rfl (congrArg Val.b hb23) ?_
       refine W_c rfl rfl rfl rfl (fun _ => rfl) ?_
       refine W_c rfl rfl rfl rfl (fun _ => rfl) ?_
       refine W_r rfl rfl rfl (O_bin rfl rfl bI_neq) ?_
       refine W_c rfl rfl rfl rfl (fun _ => rfl) ?_
       refine W_c rfl rfl rfl rfl (fun _ => rfl) ?_
       refine W_eqv (t := 55) (v' := .b false) rfl (congrArg Val.b hb26) ?_
       refine W_c rfl rfl rfl rfl (fun _ => rfl) ?_
       refine W_c rfl rfl rfl rfl (fun _ => rfl) ?_
       have hy32 := hr18
       rw [only_t (by first | rfl | (rw [hb26, hb23]; first | done | rfl) | simp [hb23, hb26, hb29])] at hy32
       refine W_call (f := 10) (args := [ur9_0, ur12_0]) rfl rfl rfl rfl (cellarerkeep_Files_ok (Gd.now hS31.wf) (hS31.dpNow (k := 1) rfl File.sees) (hS31.rowNow (k := 0) rfl) hy32) ?_
       rintro v33 w33 ⟨Fr18, rfl, hT33⟩
       have hS33 := hS31.lent hT33
       refine Nxt.now ?_
       refine W_c rfl rfl rfl rfl (fun _ => rfl) ?_
       refine W_c rfl rfl rfl rfl (fun _ => rfl) ?_
       refine W_c rfl rfl rfl rfl (fun _ => rfl) ?_
       refine W_eqv (t := 61) (v' := .b true) rfl (congrArg Val.b hb29) ?_
       refine W_no rfl rfl rfl ?_
       refine W_no rfl rfl rfl ?_
       refine W_no rfl rfl rfl ?_
       refine W_no rfl rfl rfl ?_
       refine W_c rfl rfl rfl rfl (fun _ => rfl) ?_
       refine W_c rfl rfl rfl rfl (fun _ => rfl) ?_
       refine W_no rfl rfl rfl ?_
       refine W_no rfl rfl rfl ?_
       refine W_no rfl rfl rfl ?_
       refine W_no rfl rfl rfl ?_
       refine W_no rfl rfl rfl ?_
       refine W_c rfl rfl rfl rfl (fun _ => rfl) ?_
       refine W_nil ?_
       exact N_join _ ⟨rfl, F14, (Frz.le.refl _), hS33⟩ ⟨rfl, rfl, rfl, (look_bool rfl (by first | rfl | (rw [hb26, hb23, hb29]; first | done | rfl) | simp [hb23, hb26, hb29])), trivial⟩
      ·
       rcases Bool.eq_false_or_eq_true (decide (r19 ≠ i15)) with hb34 | hb34
       ·
        refine C_region rfl ?_
        refine W_c rfl rfl rfl rfl (fun _ => rfl) ?_
        refine W_call (f := 8) (args := [ur7_0]) rfl rfl rfl rfl (tree_Check_ok hS14.good (hf10.mono ((ler9.trans ler12).trans le14)) hr16) ?_
        rintro v35 w35 ⟨Fr16, rfl, hT35⟩
        have hS35 := hS14.lent hT35
        refine Nxt.now ?_
        refine W_c rfl rfl rfl rfl (fun _ => rfl) ?_
        refine W_call (f := 9) (args := [v0]) rfl rfl rfl rfl (cellarerref01_Tree_ok hS35.good (h0.mono (((((le2.trans ler7).trans le10).trans ler9).trans ler12).trans le14)) hr17) ?_
        rintro v36 w36 ⟨Fr17, rfl, hT36⟩
        have hS36 := hS35.lent hT36
        refine Nxt.now ?_
        refine W_r rfl rfl rfl (O_bin rfl rfl bI_neq) ?_
        refine W_c rfl rfl rfl rfl (fun _ => rfl) ?_
        refine W_eqv (t := 50) (v' := .b false) rfl (congrArg Val.b hb23) ?_
        refine W_c rfl rfl rfl rfl (fun _ => rfl) ?_
        refine W_c rfl rfl rfl rfl (fun _ => rfl) ?_
        refine W_r rfl rfl rfl (O_bin rfl rfl bI_neq) ?_
        refine W_c rfl rfl rfl rfl (fun _ => rfl) ?_
        refine W_c rfl rfl rfl rfl (fun _ => rfl) ?_
        refine W_eqv (t := 55) (v' := .b false) rfl (congrArg Val.b hb26) ?_
        refine W_c rfl rfl rfl rfl (fun _ => rfl) ?_
        refine W_c rfl rfl rfl rfl (fun _ => rfl) ?_
        have hy37 := hr18
        rw [only_t (by first | rfl | (rw [hb26, hb23]; first | done | rfl) | simp [hb23, hb26, hb29, hb34])] at hy37
        refine W_call (f := 10) (args := [ur9_0, ur12_0]) rfl rfl rfl rfl (cellarerkeep_Files_ok (Gd.now hS36.wf) (hS36.dpNow (k := 1) rfl File.sees) (hS36.rowNow (k := 0) rfl) hy37) ?_
        rintro v38 w38 ⟨Fr18, rfl, hT38⟩
        have hS38 := hS36.lent hT38
        refine Nxt.now ?_
        refine W_c rfl rfl rfl rfl (fun _ => rfl) ?_
        refine W_c rfl rfl rfl rfl (fun _ => rfl) ?_
        refine W_c rfl rfl rfl rfl (fun _ => rfl) ?_
        refine W_eqv (t := 61) (v' := .b false) rfl (congrArg Val.b hb29) ?_
        refine W_c rfl rfl rfl rfl (fun _ => rfl) ?_
        have hy39 := hr19
        rw [only_t (by first | rfl | (rw [hb26, hb23, hb29]; first | done | rfl) | simp [hb23, hb26, hb29, hb34])] at hy39
        refine W_call (f := 11) (args := [ur7_0]) rfl rfl rfl rfl (tree_Size_ok hS38.good (hf10.mono ((ler9.trans ler12).trans le14)) hy39) ?_
        rintro v40 w40 ⟨Fr19, rfl, hT40⟩
        have hS40 := hS38.lent hT40
        refine Nxt.now ?_
        refine W_c rfl rfl rfl rfl (fun _ => rfl) ?_
        refine W_r rfl rfl rfl (O_bin rfl rfl bI_neq) ?_
        refine W_c rfl rfl rfl rfl (fun _ => rfl) ?_
        refine W_c rfl rfl rfl rfl (fun _ => rfl) ?_
        refine W_eqv (t := 67) (v' := .b true) rfl (congrArg Val.b hb34) ?_
        refine W_no rfl rfl rfl ?_
        refine W_no rfl rfl rfl ?_
        refine W_no rfl rfl rfl ?_
        refine W_no rfl rfl rfl ?_
        refine W_no rfl rfl rfl ?_
        refine W_c rfl rfl rfl rfl (fun _ => rfl) ?_
        refine W_nil ?_
        exact N_join _ ⟨rfl, F14, (Frz.le.refl _), hS40⟩ ⟨rfl, rfl, rfl, (look_bool rfl (by first | rfl | (rw [hb26, hb23, hb34, hb29]; first | done | rfl) | simp [hb23, hb26, hb29, hb34])), trivial⟩
       ·
        refine C_region rfl ?_
        refine W_c rfl rfl rfl rfl (fun _ => rfl) ?_
        refine W_call (f := 8) (args := [ur7_0]) rfl rfl rfl rfl (tree_Check_ok hS14.good (hf10.mono ((ler9.trans ler12).trans le14)) hr16) ?_
        rintro v41 w41 ⟨Fr16, rfl, hT41⟩
        have hS41 := hS14.lent hT41
        refine Nxt.now ?_
        refine W_c rfl rfl rfl rfl (fun _ => rfl) ?_
        refine W_call (f := 9) (args := [v0]) rfl rfl rfl rfl (cellarerref01_Tree_ok hS41.good (h0.mono (((((le2.trans ler7).trans le10).trans ler9).trans ler12).trans le14)) hr17) ?_
        rintro v42 w42 ⟨Fr17, rfl, hT42⟩
        have hS42 := hS41.lent hT42
        refine Nxt.now ?_
        refine W_r rfl rfl rfl (O_bin rfl rfl bI_neq) ?_
        refine W_c rfl rfl rfl rfl (fun _ => rfl) ?_
        refine W_eqv (t := 50) (v' := .b false) rfl (congrArg Val.b hb23) ?_
        refine W_c rfl rfl rfl rfl (fun _ => rfl) ?_
        refine W_c rfl rfl rfl rfl (fun _ => rfl) ?_
        refine W_r rfl rfl rfl (O_bin rfl rfl bI_neq) ?_
        refine W_c rfl rfl rfl rfl (fun _ => rfl) ?_
        refine W_c rfl rfl rfl rfl (fun _ => rfl) ?_
        refine W_eqv (t := 55) (v' := .b false) rfl (congrArg Val.b hb26) ?_
        refine W_c rfl rfl rfl rfl (fun _ => rfl) ?_
        refine W_c rfl rfl rfl rfl (fun _ => rfl) ?_
        have hy43 := hr18
        rw [only_t (by first | rfl | (rw [hb26, hb23]; first | done | rfl) | simp [hb23, hb26, hb29, hb34])] at hy43
        refine W_call (f := 10) (args := [ur9_0, ur12_0]) rfl rfl rfl rfl (cellarerkeep_Files_ok (Gd.now hS42.wf) (hS42.dpNow (k := 1) rfl File.sees) (hS42.rowNow (k := 0) rfl) hy43) ?_
        rintro v44 w44 ⟨Fr18, rfl, hT44⟩
        have hS44 := hS42.lent hT44
        refine Nxt.now ?_
        refine W_c rfl rfl rfl rfl (fun _ => rfl) ?_
        refine W_c rfl rfl rfl rfl (fun _ => rfl) ?_
        refine W_c rfl rfl rfl rfl (fun _ => rfl) ?_
        refine W_eqv (t := 61) (v' := .b false) rfl (congrArg Val.b hb29) ?_
        refine W_c rfl rfl rfl rfl (fun _ => rfl) ?_
        have hy45 := hr19
        rw [only_t (by first | rfl | (rw [hb26, hb23, hb29]; first | done | rfl) | simp [hb23, hb26, hb29, hb34])] at hy45
        refine W_call (f := 11) (args := [ur7_0]) rfl rfl rfl rfl (tree_Size_ok hS44.good (hf10.mono ((ler9.trans ler12).trans le14)) hy45) ?_
        rintro v46 w46 ⟨Fr19, rfl, hT46⟩
        have hS46 := hS44.lent hT46
        refine Nxt.now ?_
        refine W_c rfl rfl rfl rfl (fun _ => rfl) ?_
        refine W_r rfl rfl rfl (O_bin rfl rfl bI_neq) ?_
        refine W_c rfl rfl rfl rfl (fun _ => rfl) ?_
        refine W_c rfl rfl rfl rfl (fun _ => rfl) ?_
        refine W_eqv (t := 67) (v' := .b false) rfl (congrArg Val.b hb34) ?_
        refine W_c rfl rfl rfl rfl (fun _ => rfl) ?_
        have hy47 := hr20
        rw [only_t (by first | rfl | (rw [hb26, hb23, hb34, hb29]; first | done | rfl) | simp [hb23, hb26, hb29, hb34])] at hy47
        refine W_call (f := 12) (args := [.s x1]) rfl rfl rfl rfl (tree_Name_ok hS46.good hy47) ?_
        rintro v48 w48 ⟨Fr20, rfl, hT48⟩
        have hS48 := hS46.lent hT48
        refine Nxt.now ?_
        refine W_c rfl rfl rfl rfl (fun _ => rfl) ?_
        have hy49 := hr21
        rw [only_t (by first | rfl | (rw [hb26, hb23, hb34, hb29]; first | done | rfl) | simp [hb23, hb26, hb29, hb34])] at hy49
        refine W_call (f := 13) (args := [.s x1]) rfl rfl rfl rfl (cellarerref01_Name_ok hS48.good hy49) ?_
        rintro v50 w50 ⟨Fr21, rfl, hT50⟩
        have hS50 := hS48.lent hT50
        refine Nxt.now ?_
        refine W_r rfl rfl rfl (O_bin rfl rfl (bB_neq Go.Proofs.Try.underlying4)) ?_
        refine W_c rfl rfl rfl rfl (fun _ => rfl) ?_
        refine W_nil ?_
        exact N_join _ ⟨rfl, F14, (Frz.le.refl _), hS50⟩ ⟨rfl, rfl, rfl, (look_bool rfl (by first | rfl | (rw [hb26, hb23, hb34, hb29]; first | done | rfl) | simp [hb23, hb26, hb29, hb34])), trivial⟩
   rintro E w22 ⟨rfl, F22, le22, hS22⟩
   refine N_code ?_
   refine C_cond rfl (fun hc51 => ?_) (fun hc51 => ?_)
   ·
    rw [if_t hc51] at H
    refine C_seq ?_
    refine C_region rfl ?_
    refine W_c rfl rfl rfl rfl (fun _ => rfl) ?_
    refine W_nil ?_
    refine N_code ?_
    obtain rfl := Option.some.inj H
    refine C_ret rfl rfl ?_
    exact ⟨F22, rfl, hS22.pick [] (by decide)⟩
   ·
    rw [if_f hc51] at H
    refine C_skip ?_
    refine N_code ?_
    refine C_seq ?_
    obtain ⟨r52, hr52, H⟩ := bd_some H
    refine C_region rfl ?_
    refine W_c rfl rfl rfl rfl (fun _ => rfl) ?_
    refine W_call (f := 14) (args := [ur9_0]) rfl rfl rfl rfl (cellarerkeep_SpoilFiles_ok (hS22.lendO 1 rfl) hr52) ?_
    rintro v53 w53 ⟨Fr52, bsr52, rfl, hT53⟩
    have hS53 := hS22.backO 1 [0] rfl (by decide) (by decide) hT53
    have ler52 := hT53.ext
    refine Nxt.now ?_
    refine W_nil ?_
    refine N_code ?_
    refine C_seq ?_
    obtain ⟨r54, hr54, H⟩ := bd_some H
    obtain ⟨r55, hr55, H⟩ := bd_some H
    refine C_join (fun E wq => E = [(4, .b (r54 && r55))] ∧ ∃ F56 : Frz, Fr52.le F56 ∧ St [] w F F56 [.dp File.o bsr52 ur9_0 r52, .row File.t ur12_0 r12.1] wq) ?_ ?_
    ·
     rcases Bool.eq_false_or_eq_true r54 with hb57 | hb57
     ·
      refine C_region rfl ?_
      refine W_c rfl rfl rfl rfl (fun _ => rfl) ?_
      refine W_c rfl rfl rfl rfl (fun _ => rfl) ?_
      refine W_call (f := 10) (args := [ur7_0, v0]) rfl rfl rfl rfl (cellarerkeep_Files_ok hS53.good (hf10.mono ((((ler9.trans ler12).trans le14).trans le22).trans ler52)) (h0.mono (((((((le2.trans ler7).trans le10).trans ler9).trans ler12).trans le14).trans le22).trans ler52)) hr54) ?_
      rintro v58 w58 ⟨Fr54, rfl, hT58⟩
      have hS58 := hS53.lent hT58
      refine Nxt.now ?_
      refine W_c rfl rfl rfl rfl (fun _ => rfl) ?_
      refine W_eqv (t := 79) (v' := .b true) rfl (congrArg Val.b hb57) ?_
      have hy59 := hr55
      rw [only_t hb57] at hy59
      refine W_call (f := 15) (args := []) rfl rfl rfl rfl (cellarerlaw05_wakes_ok hS58.good hy59) ?_
      rintro v60 w60 ⟨Fr55, rfl, hT60⟩
      have hS60 := hS58.lent hT60
      refine Nxt.now ?_
      refine W_c rfl rfl rfl rfl (fun _ => rfl) ?_
      refine W_c rfl rfl rfl rfl (fun _ => rfl) ?_
      refine W_nil ?_
      exact N_join _ ⟨rfl, Fr52, (Frz.le.refl _), hS60⟩ ⟨(look_bool rfl (by first | rfl | (rw [hb57]; first | done | rfl) | simp [hb57])), trivial⟩
     ·
      refine C_region rfl ?_
      refine W_c rfl rfl rfl rfl (fun _ => rfl) ?_
      refine W_c rfl rfl rfl rfl (fun _ => rfl) ?_
      refine W_call (f := 10) (args := [ur7_0, v0]) rfl rfl rfl rfl (cellarerkeep_Files_ok hS53.good (hf10.mono ((((ler9.trans ler12).trans le14).trans le22).trans ler52)) (h0.mono (((((((le2.trans ler7).trans le10).trans ler9).trans ler12).trans le14).trans le22).trans ler52)) hr54) ?_
      rintro v61 w61 ⟨Fr54, rfl, hT61⟩
      have hS61 := hS53.lent hT61
      refine Nxt.now ?_
      refine W_c rfl rfl rfl rfl (fun _ => rfl) ?_
      refine W_eqv (t := 79) (v' := .b false) rfl (congrArg Val.b hb57) ?_
      refine W_no rfl rfl rfl ?_
      refine W_c rfl rfl rfl rfl (fun _ => rfl) ?_
      refine W_c rfl rfl rfl rfl (fun _ => rfl) ?_
      refine W_nil ?_
      exact N_join _ ⟨rfl, Fr52, (Frz.le.refl _), hS61⟩ ⟨(look_bool rfl (by first | rfl | (rw [hb57]; first | done | rfl) | simp [hb57])), trivial⟩
    rintro E w56 ⟨rfl, F56, le56, hS56⟩
    refine N_code ?_
    obtain rfl := Option.some.inj H
    refine C_ret rfl rfl ?_
    exact ⟨F56, rfl, hS56.pick [] (by decide)⟩

end
end Go.Wk.Lf
