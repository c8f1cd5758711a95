import Derived.Test.YtoanecpanckkeaaLfS
namespace Go.Wk.Lf
open Go.Proofs Go.RowKit
set_option linter.unusedVariables false
set_option linter.unusedSimpArgs false
noncomputable section

def tree_Name.k1 : Option Bool :=
  some true


def tree_Name.l2 (x0 : List UInt8) (rec7 : Int → Option Bool) : Int → Option Bool
  | i6 =>
    if decide (i6 < (x0.length : Int)) then
      bd (ix x0 i6) fun x9 =>
      bd (only (!decide ((x9.toNat : Int) < 33)) (ix x0 i6) 0) fun x10 =>
      if (decide ((x9.toNat : Int) < 33) || decide (126 < (x10.toNat : Int))) then
        some false
      else
        rec7 (wr (i6 + 1))
    else
      tree_Name.k1

def tree_Name (x0 : List UInt8) : Option Bool :=
  if (decide ((x0.length : Int) < 1) || decide (20 < (x0.length : Int))) then
    some false
  else
    loop (tree_Name.l2 x0) 0

theorem tree_Name_ok {F : Frz} {w : World} {x0 : List UInt8} {r : Bool} (hA : Agree F w.heap) (H : tree_Name x0 = some r) : Ret Try.prog 15 #[strV x0] w fun v w' => ∃ (F' : Frz), v = .bool r ∧ St [] w F F' [] w' := by
 refine Ret_of (args := [strV x0]) Go.Proofs.Try.func15 rfl rfl ?_
 change C _ _ _ _ [(0, strV x0)] _
 have hS := St.entry hA
 dsimp only [tree_Name] at H
 refine C_seq ?_
 refine C_region ?_
 refine W_assign rfl rfl ?_
 refine W_nil ?_
 refine N_code ?_
 refine C_seq ?_
 refine C_seq ?_
 refine C_join (fun E wq => E = [(0, strV x0), (11, .bool (decide ((x0.length : Int) < 1) || decide (20 < (x0.length : Int))))] ∧ ∃ F1 : Frz, F.le F1 ∧ St [] w F F1 [] wq) ?_ ?_
 ·
  rcases Bool.eq_false_or_eq_true (decide ((x0.length : Int) < 1)) with hb2 | hb2
  ·
   refine C_region ?_
   refine W_move rfl rfl ?_
   refine W_lenS rfl Go.Proofs.Try.underlying9 rfl ?_
   refine W_lss rfl rfl rfl ?_
   refine W_move rfl rfl ?_
   refine W_known (t := 7) true rfl hb2 ?_
   refine W_guard_no rfl rfl rfl rfl rfl ?_
   refine W_guard_no rfl rfl rfl rfl rfl ?_
   refine W_guard_no rfl rfl rfl rfl rfl ?_
   refine W_pick_t rfl rfl rfl ?_
   refine W_nil ?_
   exact N_join _ ⟨rfl, F, (Frz.le.refl _), hS⟩ ⟨rfl, (look_bool rfl (by first | rfl | (rw [hb2]; first | done | rfl) | simp [hb2])), trivial⟩
  ·
   refine C_region ?_
   refine W_move rfl rfl ?_
   refine W_lenS rfl Go.Proofs.Try.underlying9 rfl ?_
   refine W_lss rfl rfl rfl ?_
   refine W_move rfl rfl ?_
   refine W_known (t := 7) false rfl hb2 ?_
   refine W_guard_yes rfl ?_
   refine W_move rfl rfl ?_
   refine W_guard_yes rfl ?_
   refine W_lenS rfl Go.Proofs.Try.underlying9 rfl ?_
   refine W_guard_yes rfl ?_
   refine W_gtr rfl rfl rfl ?_
   refine W_pick_f rfl rfl rfl ?_
   refine W_nil ?_
   exact N_join _ ⟨rfl, F, (Frz.le.refl _), hS⟩ ⟨rfl, (look_bool rfl (by first | rfl | (rw [hb2]; first | done | rfl) | simp [hb2])), trivial⟩
 rintro E w1 ⟨rfl, F1, le1, hS1⟩
 refine N_code ?_
 refine C_cond rfl (fun hc3 => ?_) (fun hc3 => ?_)
 ·
  rw [if_t hc3] at H
  refine C_seq ?_
  refine C_region ?_
  refine W_assign rfl rfl ?_
  refine W_nil ?_
  refine N_code ?_
  obtain rfl := Option.some.inj H
  refine C_ret rfl rfl ?_
  exact ⟨F1, rfl, hS1⟩
 ·
  rw [if_f hc3] at H
  refine C_skip ?_
  refine N_code ?_
  refine C_seq_join (fun E wq => tree_Name.k1 = some r ∧ ∃ (F4 : Frz), E = [] ∧ F1.le F4 ∧ St [] w F F4 [] wq) ?_ ?_
  ·
   refine C_seq ?_
   refine C_region ?_
   refine W_move rfl rfl ?_
   refine W_lenS rfl Go.Proofs.Try.underlying9 rfl ?_
   refine W_move rfl rfl ?_
   refine W_nil ?_
   refine N_code ?_
   refine C_block ?_
   refine C_loopM (fun (s : Int) E wq => ∃ (F5 : Frz), E = [(0, strV x0), (13, .int .i64 (x0.length : Int)), (14, .int .i64 s)] ∧ F1.le F5 ∧ St [] w F F5 [] wq) H ?_ ?_
   ·
    exact ⟨_, ⟨F1, rfl, (Frz.le.refl _), hS1⟩, ⟨rfl, rfl, rfl, trivial⟩⟩
   ·
    rintro rec7 i6 E w5 hI H
    try dsimp only at hI
    obtain ⟨F5, rfl, le5, hS5⟩ := hI
    dsimp only [tree_Name.l2] at H
    refine C_seq ?_
    refine C_region ?_
    refine W_lss rfl rfl rfl ?_
    refine W_nil ?_
    refine N_code ?_
    refine C_seq ?_
    refine C_cond rfl (fun hc8 => ?_) (fun hc8 => ?_)
    ·
     rw [if_t hc8] at H
     refine C_skip ?_
     refine N_code ?_
     refine C_seq ?_
     refine C_block ?_
     refine C_seq ?_
     refine C_region ?_
     refine W_move rfl rfl ?_
     refine W_assign rfl rfl ?_
     refine W_nil ?_
     refine N_code ?_
     refine C_seq ?_
     obtain ⟨x9, hx9, H⟩ := bd_some H
     obtain ⟨x10, hx10, H⟩ := bd_some H
     refine C_join (fun E wq => E = [(0, strV x0), (13, .int .i64 (x0.length : Int)), (14, .int .i64 i6), (26, .bool (decide ((x9.toNat : Int) < 33) || decide (126 < (x10.toNat : Int))))] ∧ ∃ F11 : Frz, F5.le F11 ∧ St [] w F F11 [] wq) ?_ ?_
     ·
      rcases Bool.eq_false_or_eq_true (decide ((x9.toNat : Int) < 33)) with hb12 | hb12
      ·
       refine C_region ?_
       refine W_move rfl rfl ?_
       refine W_move rfl rfl ?_
       obtain ⟨hp13, hy13⟩ := ix_some hx9
       refine W_ixS rfl Go.Proofs.Try.underlying9 rfl rfl hp13 rfl hy13 ?_
       refine W_lss rfl rfl rfl ?_
       refine W_move rfl rfl ?_
       refine W_known (t := 21) true rfl hb12 ?_
       refine W_guard_no rfl rfl rfl rfl rfl ?_
       refine W_guard_no rfl rfl rfl rfl rfl ?_
       refine W_guard_no rfl rfl rfl rfl rfl ?_
       refine W_guard_no rfl rfl rfl rfl rfl ?_
       refine W_pick_t rfl rfl rfl ?_
       refine W_nil ?_
       exact N_join _ ⟨rfl, F5, (Frz.le.refl _), hS5⟩ ⟨rfl, rfl, rfl, (look_bool rfl (by first | rfl | (rw [hb12]; first | done | rfl) | simp [hb12])), trivial⟩
      ·
       refine C_region ?_
       refine W_move rfl rfl ?_
       refine W_move rfl rfl ?_
       obtain ⟨hp14, hy14⟩ := ix_some hx9
       refine W_ixS rfl Go.Proofs.Try.underlying9 rfl rfl hp14 rfl hy14 ?_
       refine W_lss rfl rfl rfl ?_
       refine W_move rfl rfl ?_
       refine W_known (t := 21) false rfl hb12 ?_
       refine W_guard_yes rfl ?_
       refine W_move rfl rfl ?_
       refine W_guard_yes rfl ?_
       refine W_move rfl rfl ?_
       refine W_guard_yes rfl ?_
       have hy16 := hx10
       rw [only_t (by first | rfl | (rw [hb12]; first | done | rfl) | simp [hb12])] at hy16
       obtain ⟨hp15, hy15⟩ := ix_some hy16
       refine W_ixS rfl Go.Proofs.Try.underlying9 rfl rfl hp15 rfl hy15 ?_
       refine W_guard_yes rfl ?_
       refine W_gtr rfl rfl rfl ?_
       refine W_pick_f rfl rfl rfl ?_
       refine W_nil ?_
       exact N_join _ ⟨rfl, F5, (Frz.le.refl _), hS5⟩ ⟨rfl, rfl, rfl, (look_bool rfl (by first | rfl | (rw [hb12]; first | done | rfl) | simp [hb12])), trivial⟩
     rintro E w11 ⟨rfl, F11, le11, hS11⟩
     refine N_code ?_
     refine C_cond rfl (fun hc17 => ?_) (fun hc17 => ?_)
     ·
      rw [if_t hc17] at H
      refine C_seq ?_
      refine C_region ?_
      refine W_assign rfl rfl ?_
      refine W_nil ?_
      refine N_code ?_
      obtain rfl := Option.some.inj H
      refine C_ret rfl rfl ?_
      exact ⟨F11, rfl, hS11⟩
     ·
      rw [if_f hc17] at H
      refine C_skip ?_
      refine N_block ?_
      refine N_code ?_
      refine C_region ?_
      refine W_add rfl rfl rfl rfl ?_
      refine W_move rfl rfl ?_
      refine W_nil ?_
      exact N_againM (wr (i6 + 1)) _ H ⟨F11, rfl, (le5.trans le11), hS11⟩ ⟨rfl, rfl, rfl, trivial⟩
    ·
     rw [if_f hc8] at H
     refine C_exit _ rfl ?_
     exact N_join _ ⟨H, ⟨F5, rfl, le5, hS5⟩⟩ trivial
  ·
   rintro E w4 ⟨H, F4, rfl, le4, hS4⟩
   dsimp only [tree_Name.k1] at H
   refine C_seq ?_
   refine C_region ?_
   refine W_assign rfl rfl ?_
   refine W_nil ?_
   refine N_code ?_
   obtain rfl := Option.some.inj H
   refine C_ret rfl rfl ?_
   exact ⟨F4, rfl, hS4⟩

def tree_long_1 (x0 : File) : Option Bool :=
  some (decide (200 < (x0.data.length : Int)))

theorem tree_long_1_ok {F : Frz} {w : World} {x0 : File} {r : Bool} {v0_0 : Value} (hA : Agree F w.heap) (h0_0 : SlF tB F v0_0 x0.data) (H : tree_long_1 x0 = some r) : Ret Try.prog 88 #[.agg (File.cells x0 v0_0).toArray] w fun v w' => ∃ (F' : Frz), v = .bool r ∧ St [] w F F' [] w' := by
 refine Ret_of (args := [.agg (File.cells x0 v0_0).toArray]) Go.Proofs.Try.func88 rfl rfl ?_
 change C _ _ _ _ [(0, .agg (File.cells x0 v0_0).toArray)] _
 have hS := St.entry hA
 dsimp only [tree_long_1] at H
 refine C_seq ?_
 refine C_region ?_
 refine W_bx (cs := [strV x0.path, v0_0]) rfl rfl rfl hS ?_
 intro g1 w1 hS1
 refine W_assign rfl rfl ?_
 refine W_nil ?_
 refine N_code ?_
 refine C_seq ?_
 refine C_region ?_
 refine W_field_pl 1 rfl Ty.field34_1 rfl ?_
 refine W_bld1 0 rfl Ty.cell25 rfl hS1 rfl rfl ?_
 refine W_lenv rfl Go.Proofs.Try.underlying25 rfl h0_0.ln ?_
 refine W_gtr rfl rfl rfl ?_
 refine W_assign rfl rfl ?_
 refine W_nil ?_
 refine N_code ?_
 obtain rfl := Option.some.inj H
 refine C_ret rfl rfl ?_
 exact ⟨F, rfl, hS1.pick [] (by decide)⟩

def slices_IndexFunc_api_File_api_File_tree_long_1.k1 : Option Int :=
  some (-1)


def slices_IndexFunc_api_File_api_File_tree_long_1.l2 (x0 : List File) (rec4 : Int → Option Int) : Int → Option Int
  | i3 =>
    if decide (i3 < (x0.length : Int)) then
      bd (ix x0 i3) fun x6 =>
      bd (tree_long_1 x6) fun r8 =>
      if r8 then
        some i3
      else
        rec4 (wr (i3 + 1))
    else
      slices_IndexFunc_api_File_api_File_tree_long_1.k1

def slices_IndexFunc_api_File_api_File_tree_long_1 (x0 : List File) : Option Int :=
  loop (slices_IndexFunc_api_File_api_File_tree_long_1.l2 x0) 0

theorem slices_IndexFunc_api_File_api_File_tree_long_1_ok {F : Frz} {w : World} {x0 : List File} {r : Int} {v0 : Value} (hA : Agree F w.heap) (h0 : SlF File.t F v0 x0) (H : slices_IndexFunc_api_File_api_File_tree_long_1 x0 = some r) : Ret Try.prog 89 #[v0, .func (.func 88) #[] #[]] w fun v w' => ∃ (F' : Frz), v = .int .i64 r ∧ St [] w F F' [] w' := by
 refine Ret_of (args := [v0, .func (.func 88) #[] #[]]) Go.Proofs.Try.func89 rfl rfl ?_
 change C _ _ _ _ [(0, v0), (1, .func (.func 88) #[] #[])] _
 have hS := St.entry hA
 dsimp only [slices_IndexFunc_api_File_api_File_tree_long_1] at H
 refine C_seq ?_
 refine C_region ?_
 refine W_assign rfl rfl ?_
 refine W_nil ?_
 refine N_code ?_
 refine C_seq_join (fun E wq => slices_IndexFunc_api_File_api_File_tree_long_1.k1 = some r ∧ ∃ (F1 : Frz), E = [] ∧ F.le F1 ∧ St [] w F F1 [] wq) ?_ ?_
 ·
  refine C_seq ?_
  refine C_region ?_
  refine W_move rfl rfl ?_
  refine W_lenv rfl Go.Proofs.Try.underlying27 rfl h0.ln ?_
  refine W_move rfl rfl ?_
  refine W_nil ?_
  refine N_code ?_
  refine C_block ?_
  refine C_loopM (fun (s : Int) E wq => ∃ (F2 : Frz), E = [(0, v0), (1, .func (.func 88) #[] #[]), (7, .int .i64 (x0.length : Int)), (8, .int .i64 s)] ∧ F.le F2 ∧ St [] w F F2 [] wq) H ?_ ?_
  ·
   exact ⟨_, ⟨F, rfl, (Frz.le.refl _), hS⟩, ⟨rfl, rfl, rfl, rfl, trivial⟩⟩
  ·
   rintro rec4 i3 E w2 hI H
   try dsimp only at hI
   obtain ⟨F2, rfl, le2, hS2⟩ := hI
   dsimp only [slices_IndexFunc_api_File_api_File_tree_long_1.l2] at H
   refine C_seq ?_
   refine C_region ?_
   refine W_lss rfl rfl rfl ?_
   refine W_nil ?_
   refine N_code ?_
   refine C_seq ?_
   refine C_cond rfl (fun hc5 => ?_) (fun hc5 => ?_)
   ·
    rw [if_t hc5] at H
    refine C_skip ?_
    refine N_code ?_
    refine C_seq ?_
    refine C_block ?_
    refine C_seq ?_
    refine C_region ?_
    refine W_move rfl rfl ?_
    refine W_assign rfl rfl ?_
    refine W_nil ?_
    refine N_code ?_
    refine C_seq ?_
    obtain ⟨x6, hx6, H⟩ := bd_some H
    obtain ⟨r8, hr8, H⟩ := bd_some H
    refine C_region ?_
    refine W_move rfl rfl ?_
    refine W_move rfl rfl ?_
    refine W_move rfl rfl ?_
    obtain ⟨hp9, hy9⟩ := ix_some hx6
    obtain ⟨cs9, hr9, he9⟩ := (h0.mono le2).at_ hy9
    obtain ⟨ue7_0, rfl, hue7_0⟩ := hr9
    replace he9 : Elf _ _ 2 _ _ := he9
    refine W_ix rfl Go.Proofs.Try.underlying27 Ty.cells34 Ty.info34 rfl rfl (he9.el hS2.agree) hp9 rfl ?_
    refine W_ldg 0 ((File.cells x6 ue7_0)) rfl Ty.agg34 Ty.size34 rfl (he9.el hS2.agree) (by omega) (fun q u h => sub_at (post := []) rfl h) ?_
    refine W_callv rfl Ty.named88 rfl rfl (tree_long_1_ok hS2.agree hue7_0 hr8) ?_
    rintro v10 w10 ⟨Fr8, rfl, hT10⟩
    have hS10 := hS2.lent hT10
    refine W_nil ?_
    refine N_code ?_
    refine C_cond rfl (fun hc11 => ?_) (fun hc11 => ?_)
    ·
     rw [if_t hc11] at H
     refine C_seq ?_
     refine C_region ?_
     refine W_move rfl rfl ?_
     refine W_assign rfl rfl ?_
     refine W_nil ?_
     refine N_code ?_
     obtain rfl := Option.some.inj H
     refine C_ret rfl rfl ?_
     exact ⟨F2, rfl, hS10⟩
    ·
     rw [if_f hc11] at H
     refine C_skip ?_
     refine N_block ?_
     refine N_code ?_
     refine C_region ?_
     refine W_add rfl rfl rfl rfl ?_
     refine W_move rfl rfl ?_
     refine W_nil ?_
     exact N_againM (wr (i3 + 1)) _ H ⟨F2, rfl, le2, hS10⟩ ⟨rfl, rfl, rfl, rfl, trivial⟩
   ·
    rw [if_f hc5] at H
    refine C_exit _ rfl ?_
    exact N_join _ ⟨H, ⟨F2, rfl, le2, hS2⟩⟩ trivial
 ·
  rintro E w1 ⟨H, F1, rfl, le1, hS1⟩
  dsimp only [slices_IndexFunc_api_File_api_File_tree_long_1.k1] at H
  refine C_seq ?_
  refine C_region ?_
  refine W_assign rfl rfl ?_
  refine W_nil ?_
  refine N_code ?_
  obtain rfl := Option.some.inj H
  refine C_ret rfl rfl ?_
  exact ⟨F1, rfl, hS1⟩

def slices_ContainsFunc_api_File_api_File_tree_long_1 (x0 : List File) : Option Bool :=
  bd (slices_IndexFunc_api_File_api_File_tree_long_1 x0) fun r1 =>
  some (decide (0 ≤ r1))

theorem slices_ContainsFunc_api_File_api_File_tree_long_1_ok {F : Frz} {w : World} {x0 : List File} {r : Bool} {v0 : Value} (hA : Agree F w.heap) (h0 : SlF File.t F v0 x0) (H : slices_ContainsFunc_api_File_api_File_tree_long_1 x0 = some r) : Ret Try.prog 54 #[v0, .func (.func 88) #[] #[]] w fun v w' => ∃ (F' : Frz), v = .bool r ∧ St [] w F F' [] w' := by
 refine Ret_of (args := [v0, .func (.func 88) #[] #[]]) Go.Proofs.Try.func54 rfl rfl ?_
 change C _ _ _ _ [(0, v0), (1, .func (.func 88) #[] #[])] _
 have hS := St.entry hA
 dsimp only [slices_ContainsFunc_api_File_api_File_tree_long_1] at H
 refine C_seq ?_
 refine C_region ?_
 refine W_assign rfl rfl ?_
 refine W_nil ?_
 refine N_code ?_
 refine C_seq ?_
 obtain ⟨r1, hr1, H⟩ := bd_some H
 refine C_region ?_
 refine W_move rfl rfl ?_
 refine W_move rfl rfl ?_
 refine W_call rfl Ty.named89 rfl (slices_IndexFunc_api_File_api_File_tree_long_1_ok hS.agree h0 hr1) ?_
 rintro v2 w2 ⟨Fr1, rfl, hT2⟩
 have hS2 := hS.lent hT2
 refine W_geq rfl rfl rfl ?_
 refine W_assign rfl rfl ?_
 refine W_nil ?_
 refine N_code ?_
 obtain rfl := Option.some.inj H
 refine C_ret rfl rfl ?_
 exact ⟨F, rfl, hS2⟩

def tree_long (x0 : List File) : Option Bool :=
  bd (only (!decide (6 < (x0.length : Int))) (slices_ContainsFunc_api_File_api_File_tree_long_1 x0) false) fun r1 =>
  some (decide (6 < (x0.length : Int)) || r1)

theorem tree_long_ok {F : Frz} {w : World} {x0 : List File} {r : Bool} {v0 : Value} (hA : Agree F w.heap) (h0 : SlF File.t F v0 x0) (H : tree_long x0 = some r) : Ret Try.prog 53 #[v0] w fun v w' => ∃ (F' : Frz), v = .bool r ∧ St [] w F F' [] w' := by
 refine Ret_of (args := [v0]) Go.Proofs.Try.func53 rfl rfl ?_
 change C _ _ _ _ [(0, v0)] _
 have hS := St.entry hA
 dsimp only [tree_long] at H
 refine C_seq ?_
 refine C_region ?_
 refine W_assign rfl rfl ?_
 refine W_nil ?_
 refine N_code ?_
 refine C_seq ?_
 obtain ⟨r1, hr1, H⟩ := bd_some H
 refine C_join (fun E wq => E = [(2, .bool (decide (6 < (x0.length : Int)) || r1))] ∧ ∃ F2 : Frz, F.le F2 ∧ St [] w F F2 [] wq) ?_ ?_
 ·
  rcases Bool.eq_false_or_eq_true (decide (6 < (x0.length : Int))) with hb3 | hb3
  ·
   refine C_region ?_
   refine W_move rfl rfl ?_
   refine W_lenv rfl Go.Proofs.Try.underlying27 rfl h0.ln ?_
   refine W_gtr rfl rfl rfl ?_
   refine W_move rfl rfl ?_
   refine W_known (t := 6) true rfl hb3 ?_
   refine W_guard_no rfl rfl rfl rfl rfl ?_
   refine W_guard_no rfl rfl rfl rfl rfl ?_
   refine W_pick_t rfl rfl rfl ?_
   refine W_assign rfl rfl ?_
   refine W_nil ?_
   exact N_join _ ⟨rfl, F, (Frz.le.refl _), hS⟩ ⟨(look_bool rfl (by first | rfl | (rw [hb3]; first | done | rfl) | simp [hb3])), trivial⟩
  ·
   refine C_region ?_
   refine W_move rfl rfl ?_
   refine W_lenv rfl Go.Proofs.Try.underlying27 rfl h0.ln ?_
   refine W_gtr rfl rfl rfl ?_
   refine W_move rfl rfl ?_
   refine W_known (t := 6) false rfl hb3 ?_
   refine W_guard_yes rfl ?_
   refine W_move rfl rfl ?_
   refine W_guard_yes rfl ?_
   have hy4 := hr1
   rw [only_t (by first | rfl | (rw [hb3]; first | done | rfl) | simp [hb3])] at hy4
   refine W_call rfl Ty.named54 rfl (slices_ContainsFunc_api_File_api_File_tree_long_1_ok hS.agree h0 hy4) ?_
   rintro v5 w5 ⟨Fr1, rfl, hT5⟩
   have hS5 := hS.lent hT5
   refine W_pick_f rfl rfl rfl ?_
   refine W_assign rfl rfl ?_
   refine W_nil ?_
   exact N_join _ ⟨rfl, F, (Frz.le.refl _), hS5⟩ ⟨(look_bool rfl (by first | rfl | (rw [hb3]; first | done | rfl) | simp [hb3])), trivial⟩
 rintro E w2 ⟨rfl, F2, le2, hS2⟩
 refine N_code ?_
 obtain rfl := Option.some.inj H
 refine C_ret rfl rfl ?_
 exact ⟨F2, rfl, hS2⟩

def tree_Sort_1 (x0 : File) : Option Bool :=
  bd (tree_Name x0.path) fun r2 =>
  some (!r2)

theorem tree_Sort_1_ok {F : Frz} {w : World} {x0 : File} {r : Bool} {v0_0 : Value} (hA : Agree F w.heap) (h0_0 : SlF tB F v0_0 x0.data) (H : tree_Sort_1 x0 = some r) : Ret Try.prog 55 #[.agg (File.cells x0 v0_0).toArray] w fun v w' => ∃ (F' : Frz), v = .bool r ∧ St [] w F F' [] w' := by
 refine Ret_of (args := [.agg (File.cells x0 v0_0).toArray]) Go.Proofs.Try.func55 rfl rfl ?_
 change C _ _ _ _ [(0, .agg (File.cells x0 v0_0).toArray)] _
 have hS := St.entry hA
 dsimp only [tree_Sort_1] at H
 refine C_seq ?_
 refine C_region ?_
 refine W_bx (cs := [strV x0.path, v0_0]) rfl rfl rfl hS ?_
 intro g1 w1 hS1
 refine W_assign rfl rfl ?_
 refine W_nil ?_
 refine N_code ?_
 refine C_seq ?_
 obtain ⟨r2, hr2, H⟩ := bd_some H
 refine C_region ?_
 refine W_field_pl 0 rfl Ty.field34_0 rfl ?_
 refine W_bld1 0 rfl Ty.cell9 rfl hS1 rfl rfl ?_
 refine W_call rfl Ty.named15 rfl (tree_Name_ok hS1.agree hr2) ?_
 rintro v3 w3 ⟨Fr2, rfl, hT3⟩
 have hS3 := hS1.lent hT3
 refine W_not rfl rfl ?_
 refine W_assign rfl rfl ?_
 refine W_nil ?_
 refine N_code ?_
 obtain rfl := Option.some.inj H
 refine C_ret rfl rfl ?_
 exact ⟨F, rfl, hS3.pick [] (by decide)⟩

def slices_IndexFunc_api_File_api_File_tree_Sort_1.k1 : Option Int :=
  some (-1)


def slices_IndexFunc_api_File_api_File_tree_Sort_1.l2 (x0 : List File) (rec4 : Int → Option Int) : Int → Option Int
  | i3 =>
    if decide (i3 < (x0.length : Int)) then
      bd (ix x0 i3) fun x6 =>
      bd (tree_Sort_1 x6) fun r8 =>
      if r8 then
        some i3
      else
        rec4 (wr (i3 + 1))
    else
      slices_IndexFunc_api_File_api_File_tree_Sort_1.k1

def slices_IndexFunc_api_File_api_File_tree_Sort_1 (x0 : List File) : Option Int :=
  loop (slices_IndexFunc_api_File_api_File_tree_Sort_1.l2 x0) 0

theorem slices_IndexFunc_api_File_api_File_tree_Sort_1_ok {F : Frz} {w : World} {x0 : List File} {r : Int} {v0 : Value} (hA : Agree F w.heap) (h0 : SlF File.t F v0 x0) (H : slices_IndexFunc_api_File_api_File_tree_Sort_1 x0 = some r) : Ret Try.prog 89 #[v0, .func (.func 55) #[] #[]] w fun v w' => ∃ (F' : Frz), v = .int .i64 r ∧ St [] w F F' [] w' := by
 refine Ret_of (args := [v0, .func (.func 55) #[] #[]]) Go.Proofs.Try.func89 rfl rfl ?_
 change C _ _ _ _ [(0, v0), (1, .func (.func 55) #[] #[])] _
 have hS := St.entry hA
 dsimp only [slices_IndexFunc_api_File_api_File_tree_Sort_1] at H
 refine C_seq ?_
 refine C_region ?_
 refine W_assign rfl rfl ?_
 refine W_nil ?_
 refine N_code ?_
 refine C_seq_join (fun E wq => slices_IndexFunc_api_File_api_File_tree_Sort_1.k1 = some r ∧ ∃ (F1 : Frz), E = [] ∧ F.le F1 ∧ St [] w F F1 [] wq) ?_ ?_
 ·
  refine C_seq ?_
  refine C_region ?_
  refine W_move rfl rfl ?_
  refine W_lenv rfl Go.Proofs.Try.underlying27 rfl h0.ln ?_
  refine W_move rfl rfl ?_
  refine W_nil ?_
  refine N_code ?_
  refine C_block ?_
  refine C_loopM (fun (s : Int) E wq => ∃ (F2 : Frz), E = [(0, v0), (1, .func (.func 55) #[] #[]), (7, .int .i64 (x0.length : Int)), (8, .int .i64 s)] ∧ F.le F2 ∧ St [] w F F2 [] wq) H ?_ ?_
  ·
   exact ⟨_, ⟨F, rfl, (Frz.le.refl _), hS⟩, ⟨rfl, rfl, rfl, rfl, trivial⟩⟩
  ·
   rintro rec4 i3 E w2 hI H
   try dsimp only at hI
   obtain ⟨F2, rfl, le2, hS2⟩ := hI
   dsimp only [slices_IndexFunc_api_File_api_File_tree_Sort_1.l2] at H
   refine C_seq ?_
   refine C_region ?_
   refine W_lss rfl rfl rfl ?_
   refine W_nil ?_
   refine N_code ?_
   refine C_seq ?_
   refine C_cond rfl (fun hc5 => ?_) (fun hc5 => ?_)
   ·
    rw [if_t hc5] at H
    refine C_skip ?_
    refine N_code ?_
    refine C_seq ?_
    refine C_block ?_
    refine C_seq ?_
    refine C_region ?_
    refine W_move rfl rfl ?_
    refine W_assign rfl rfl ?_
    refine W_nil ?_
    refine N_code ?_
    refine C_seq ?_
    obtain ⟨x6, hx6, H⟩ := bd_some H
    obtain ⟨r8, hr8, H⟩ := bd_some H
    refine C_region ?_
    refine W_move rfl rfl ?_
    refine W_move rfl rfl ?_
    refine W_move rfl rfl ?_
    obtain ⟨hp9, hy9⟩ := ix_some hx6
    obtain ⟨cs9, hr9, he9⟩ := (h0.mono le2).at_ hy9
    obtain ⟨ue7_0, rfl, hue7_0⟩ := hr9
    replace he9 : Elf _ _ 2 _ _ := he9
    refine W_ix rfl Go.Proofs.Try.underlying27 Ty.cells34 Ty.info34 rfl rfl (he9.el hS2.agree) hp9 rfl ?_
    refine W_ldg 0 ((File.cells x6 ue7_0)) rfl Ty.agg34 Ty.size34 rfl (he9.el hS2.agree) (by omega) (fun q u h => sub_at (post := []) rfl h) ?_
    refine W_callv rfl Ty.named55 rfl rfl (tree_Sort_1_ok hS2.agree hue7_0 hr8) ?_
    rintro v10 w10 ⟨Fr8, rfl, hT10⟩
    have hS10 := hS2.lent hT10
    refine W_nil ?_
    refine N_code ?_
    refine C_cond rfl (fun hc11 => ?_) (fun hc11 => ?_)
    ·
     rw [if_t hc11] at H
     refine C_seq ?_
     refine C_region ?_
     refine W_move rfl rfl ?_
     refine W_assign rfl rfl ?_
     refine W_nil ?_
     refine N_code ?_
     obtain rfl := Option.some.inj H
     refine C_ret rfl rfl ?_
     exact ⟨F2, rfl, hS10⟩
    ·
     rw [if_f hc11] at H
     refine C_skip ?_
     refine N_block ?_
     refine N_code ?_
     refine C_region ?_
     refine W_add rfl rfl rfl rfl ?_
     refine W_move rfl rfl ?_
     refine W_nil ?_
     exact N_againM (wr (i3 + 1)) _ H ⟨F2, rfl, le2, hS10⟩ ⟨rfl, rfl, rfl, rfl, trivial⟩
   ·
    rw [if_f hc5] at H
    refine C_exit _ rfl ?_
    exact N_join _ ⟨H, ⟨F2, rfl, le2, hS2⟩⟩ trivial
 ·
  rintro E w1 ⟨H, F1, rfl, le1, hS1⟩
  dsimp only [slices_IndexFunc_api_File_api_File_tree_Sort_1.k1] at H
  refine C_seq ?_
  refine C_region ?_
  refine W_assign rfl rfl ?_
  refine W_nil ?_
  refine N_code ?_
  obtain rfl := Option.some.inj H
  refine C_ret rfl rfl ?_
  exact ⟨F1, rfl, hS1⟩

def slices_ContainsFunc_api_File_api_File_tree_Sort_1 (x0 : List File) : Option Bool :=
  bd (slices_IndexFunc_api_File_api_File_tree_Sort_1 x0) fun r1 =>
  some (decide (0 ≤ r1))

theorem slices_ContainsFunc_api_File_api_File_tree_Sort_1_ok {F : Frz} {w : World} {x0 : List File} {r : Bool} {v0 : Value} (hA : Agree F w.heap) (h0 : SlF File.t F v0 x0) (H : slices_ContainsFunc_api_File_api_File_tree_Sort_1 x0 = some r) : Ret Try.prog 54 #[v0, .func (.func 55) #[] #[]] w fun v w' => ∃ (F' : Frz), v = .bool r ∧ St [] w F F' [] w' := by
 refine Ret_of (args := [v0, .func (.func 55) #[] #[]]) Go.Proofs.Try.func54 rfl rfl ?_
 change C _ _ _ _ [(0, v0), (1, .func (.func 55) #[] #[])] _
 have hS := St.entry hA
 dsimp only [slices_ContainsFunc_api_File_api_File_tree_Sort_1] at H
 refine C_seq ?_
 refine C_region ?_
 refine W_assign rfl rfl ?_
 refine W_nil ?_
 refine N_code ?_
 refine C_seq ?_
 obtain ⟨r1, hr1, H⟩ := bd_some H
 refine C_region ?_
 refine W_move rfl rfl ?_
 refine W_move rfl rfl ?_
 refine W_call rfl Ty.named89 rfl (slices_IndexFunc_api_File_api_File_tree_Sort_1_ok hS.agree h0 hr1) ?_
 rintro v2 w2 ⟨Fr1, rfl, hT2⟩
 have hS2 := hS.lent hT2
 refine W_geq rfl rfl rfl ?_
 refine W_assign rfl rfl ?_
 refine W_nil ?_
 refine N_code ?_
 obtain rfl := Option.some.inj H
 refine C_ret rfl rfl ?_
 exact ⟨F, rfl, hS2⟩

def slices_Clone_api_File_api_File (x0 : List File) : Option (List File) :=
  bd (app (α := File) ([] : List File) x0) fun l6 =>
  some l6

theorem slices_Clone_api_File_api_File_ok {F : Frz} {w : World} {x0 : List File} {r : (List File)} {v0 : Value} (hA : Agree F w.heap) (h0 : SlF File.t F v0 x0) (H : slices_Clone_api_File_api_File x0 = some r) : Ret Try.prog 90 #[v0] w fun v w' => ∃ (F' : Frz) (q0 : Value), v = q0 ∧ St [] w F F' [.row File.t 34 q0 (r)] w' := by
 refine Ret_of (args := [v0]) Go.Proofs.Try.func90 rfl rfl ?_
 change C _ _ _ _ [(0, v0)] _
 have hS := St.entry hA
 dsimp only [slices_Clone_api_File_api_File] at H
 refine C_seq ?_
 refine C_region ?_
 refine W_assign rfl rfl ?_
 refine W_nil ?_
 refine N_code ?_
 refine C_seq ?_
 refine C_seq ?_
 refine C_region ?_
 refine W_move rfl rfl ?_
 refine W_nilq rfl Go.Proofs.Try.underlying27 rfl h0.ln ?_
 intro b1 hb1
 refine W_nil ?_
 refine N_code ?_
 refine C_cond rfl (fun hc2 => ?_) (fun hc2 => ?_)
 ·
  have hx2 : x0 = [] := List.eq_nil_of_length_eq_zero (hb1 hc2)
  have H : (some [] : Option (List File)) = some r := by first | (rw [hx2] at H; exact H) | (subst hx2; exact H)
  refine C_seq ?_
  refine C_region ?_
  refine W_assign rfl rfl ?_
  refine W_nil ?_
  refine N_code ?_
  have hS4 := hS.nilRow File.t 34
  obtain rfl := Option.some.inj H
  refine C_ret rfl rfl ?_
  exact ⟨F, (.slice none 0 0), rfl, hS4⟩
 ·
  refine C_skip ?_
  refine N_code ?_
  refine C_seq ?_
  obtain ⟨l6, hl6, H⟩ := bd_some H
  refine C_region ?_
  refine W_bs (t := File.t) [] ([] : List File) rfl Go.Proofs.Try.underlying27 Ty.cells34 rfl rfl Ty.zero34 rfl rfl trivial rfl rfl hS ?_
  intro u5 w5 hS5
  refine W_move rfl rfl ?_
  refine W_appM 0 rfl Go.Proofs.Try.underlying27 Ty.row34 rfl rfl rfl rfl rfl hS5 rfl (h0.src hS5.agree) hl6 ?_
  intro v7 w7 hS7
  refine W_assign rfl rfl ?_
  refine W_nil ?_
  refine N_code ?_
  obtain rfl := Option.some.inj H
  refine C_ret rfl rfl ?_
  exact ⟨F, v7, rfl, hS7⟩

def slices_Clone_byte_byte (x0 : List UInt8) : Option (List UInt8) :=
  bd (app (α := UInt8) ([] : List UInt8) x0) fun l6 =>
  some l6

theorem slices_Clone_byte_byte_ok {F : Frz} {w : World} {x0 : List UInt8} {r : (List UInt8)} {v0 : Value} (hA : Agree F w.heap) (h0 : SlF tB F v0 x0) (H : slices_Clone_byte_byte x0 = some r) : Ret Try.prog 70 #[v0] w fun v w' => ∃ (F' : Frz) (q0 : Value), v = q0 ∧ St [] w F F' [.row tB 5 q0 (r)] w' := by
 refine Ret_of (args := [v0]) Go.Proofs.Try.func70 rfl rfl ?_
 change C _ _ _ _ [(0, v0)] _
 have hS := St.entry hA
 dsimp only [slices_Clone_byte_byte] at H
 refine C_seq ?_
 refine C_region ?_
 refine W_assign rfl rfl ?_
 refine W_nil ?_
 refine N_code ?_
 refine C_seq ?_
 refine C_seq ?_
 refine C_region ?_
 refine W_move rfl rfl ?_
 refine W_nilq rfl Go.Proofs.Try.underlying25 rfl h0.ln ?_
 intro b1 hb1
 refine W_nil ?_
 refine N_code ?_
 refine C_cond rfl (fun hc2 => ?_) (fun hc2 => ?_)
 ·
  have hx2 : x0 = [] := List.eq_nil_of_length_eq_zero (hb1 hc2)
  have H : (some [] : Option (List UInt8)) = some r := by first | (rw [hx2] at H; exact H) | (subst hx2; exact H)
  refine C_seq ?_
  refine C_region ?_
  refine W_assign rfl rfl ?_
  refine W_nil ?_
  refine N_code ?_
  have hS4 := hS.nilRow tB 5
  obtain rfl := Option.some.inj H
  refine C_ret rfl rfl ?_
  exact ⟨F, (.slice none 0 0), rfl, hS4⟩
 ·
  refine C_skip ?_
  refine N_code ?_
  refine C_seq ?_
  obtain ⟨l6, hl6, H⟩ := bd_some H
  refine C_region ?_
  refine W_bs (t := tB) [] ([] : List UInt8) rfl Go.Proofs.Try.underlying25 Ty.cells5 rfl rfl Ty.zero5 rfl rfl trivial rfl rfl hS ?_
  intro u5 w5 hS5
  refine W_move rfl rfl ?_
  refine W_appM 0 rfl Go.Proofs.Try.underlying25 Ty.row5 rfl rfl rfl rfl rfl hS5 rfl (h0.src hS5.agree) hl6 ?_
  intro v7 w7 hS7
  refine W_assign rfl rfl ?_
  refine W_nil ?_
  refine N_code ?_
  obtain rfl := Option.some.inj H
  refine C_ret rfl rfl ?_
  exact ⟨F, v7, rfl, hS7⟩

def tree_Twin.k1 (l4 : List File) : Option (List File) :=
  some l4


def tree_Twin.l2 (r1 : (List File)) (rec8 : (Int × (List File)) → Option (List File)) : (Int × (List File)) → Option (List File)
  | (i6, l7) =>
    if decide (i6 < (r1.length : Int)) then
      bd (ix l7 i6) fun x10 =>
      bd (slices_Clone_byte_byte x10.data) fun r12 =>
      rec8 (wr (i6 + 1), (l7.set i6.toNat (File.mk x10.path r12)))
    else
      tree_Twin.k1 l7

def tree_Twin (x0 : List File) : Option (List File) :=
  bd (slices_Clone_api_File_api_File x0) fun r1 =>
  loop (tree_Twin.l2 r1) (0, r1)

theorem tree_Twin_ok {F : Frz} {w : World} {x0 : List File} {r : (List File)} {v0 : Value} (hA : Agree F w.heap) (h0 : SlF File.t F v0 x0) (H : tree_Twin x0 = some r) : Ret Try.prog 56 #[v0] w fun v w' => ∃ (F' : Frz) (q0 : Value), v = q0 ∧ St [] w F F' [.row File.t 34 q0 (r)] w' := by
 refine Ret_of (args := [v0]) Go.Proofs.Try.func56 rfl rfl ?_
 change C _ _ _ _ [(0, v0)] _
 have hS := St.entry hA
 dsimp only [tree_Twin] at H
 refine C_seq ?_
 refine C_region ?_
 refine W_assign rfl rfl ?_
 refine W_nil ?_
 refine N_code ?_
 refine C_seq ?_
 obtain ⟨r1, hr1, H⟩ := bd_some H
 refine C_region ?_
 refine W_move rfl rfl ?_
 refine W_call rfl Ty.named90 rfl (slices_Clone_api_File_api_File_ok hS.agree h0 hr1) ?_
 rintro ur1_0 w2 ⟨Fr1, _, rfl, hT2⟩
 have hS2 := hS.call hT2
 have ler1 := hT2.ext
 refine W_assign rfl rfl ?_
 refine W_nil ?_
 refine N_code ?_
 refine C_seq_join (fun E wq => ∃ l4 : List File, tree_Twin.k1 l4 = some r ∧ ∃ (F3 : Frz), E = [(3, ur1_0)] ∧ Fr1.le F3 ∧ St [] w F F3 [.row File.t 34 ur1_0 l4] wq) ?_ ?_
 ·
  refine C_seq ?_
  refine C_region ?_
  refine W_move rfl rfl ?_
  refine W_lenv rfl Go.Proofs.Try.underlying27 rfl (hS2.rowLn (k := 0) rfl) ?_
  refine W_move rfl rfl ?_
  refine W_nil ?_
  refine N_code ?_
  refine C_block ?_
  refine C_loopM (fun (s : Int × (List File)) E wq => ∃ (F5 : Frz), E = [(3, ur1_0), (8, .int .i64 (r1.length : Int)), (9, .int .i64 s.1)] ∧ Fr1.le F5 ∧ St [] w F F5 [.row File.t 34 ur1_0 s.2] wq) H ?_ ?_
  ·
   exact ⟨_, ⟨Fr1, rfl, (Frz.le.refl _), hS2⟩, ⟨rfl, rfl, rfl, trivial⟩⟩
  ·
   rintro rec8 ⟨i6, l7⟩ E w5 hI H
   try dsimp only at hI
   obtain ⟨F5, rfl, le5, hS5⟩ := hI
   dsimp only [tree_Twin.l2] at H
   refine C_seq ?_
   refine C_region ?_
   refine W_lss rfl rfl rfl ?_
   refine W_nil ?_
   refine N_code ?_
   refine C_seq ?_
   refine C_cond rfl (fun hc9 => ?_) (fun hc9 => ?_)
   ·
    rw [if_t hc9] at H
    refine C_skip ?_
    refine N_code ?_
    refine C_seq ?_
    refine C_block ?_
    refine C_seq ?_
    refine C_region ?_
    refine W_move rfl rfl ?_
    refine W_assign rfl rfl ?_
    refine W_nil ?_
    refine N_code ?_
    obtain ⟨x10, hx10, H⟩ := bd_some H
    obtain ⟨r12, hr12, H⟩ := bd_some H
    refine C_region ?_
    refine W_move rfl rfl ?_
    refine W_move rfl rfl ?_
    refine W_move rfl rfl ?_
    refine W_move rfl rfl ?_
    obtain ⟨hp13, hy13⟩ := ix_some hx10
    obtain ⟨cs13, hr13, he13⟩ := hS5.rowAt (k := 0) rfl hy13
    obtain ⟨ue11_0, rfl, hue11_0⟩ := hr13
    replace he13 : El _ _ 2 _ _ := he13
    refine W_ix rfl Go.Proofs.Try.underlying27 Ty.cells34 Ty.info34 rfl rfl he13 hp13 rfl ?_
    refine W_fld 1 rfl Ty.field34_1 rfl he13 ?_
    refine W_ld1 1 rfl Ty.cell25 rfl he13 (by omega) rfl ?_
    refine W_call rfl Ty.named70 rfl (slices_Clone_byte_byte_ok hS5.agree hue11_0 hr12) ?_
    rintro ur12_0 w14 ⟨Fr12, _, rfl, hT14⟩
    have hS14 := hS5.call hT14
    have ler12 := hT14.ext
    obtain ⟨hp15, hy15⟩ := ix_some hx10
    obtain ⟨cs15, hr15, he15⟩ := hS14.rowAt (k := 1) rfl hy15
    obtain ⟨ue11_0, rfl, hue11_0⟩ := hr15
    replace he15 : El _ _ 2 _ _ := he15
    refine W_ix rfl Go.Proofs.Try.underlying27 Ty.cells34 Ty.info34 rfl rfl he15 hp15 rfl ?_
    refine W_fld 1 rfl Ty.field34_1 rfl he15 ?_
    obtain ⟨F17, le17, hf17, hS17⟩ := hS14.freeze 0 [1] rfl (by decide) (by decide)
    refine W_put (c := [ur12_0]) 0 (i6.toNat) 1 x10 (File.mk x10.path r12) rfl rfl hS17 rfl (ix_some hx10).2 (by first | rfl | (show _ = _ * 2 + _; omega)) (by rw [hf17.ln.cells]) Ty.size25 (by intro y hy; simp at hy; subst hy; exact hf17.ln.one) (by first | decide | exact Nat.le_of_ble_eq_true rfl) (by rintro cs ⟨a1, rfl, b1⟩; exact ⟨ur12_0, rfl, hf17⟩) ?_
    intro w16 hS16
    refine W_nil ?_
    refine N_block ?_
    refine N_code ?_
    refine C_region ?_
    refine W_add rfl rfl rfl rfl ?_
    refine W_move rfl rfl ?_
    refine W_nil ?_
    exact N_againM (wr (i6 + 1), (l7.set i6.toNat (File.mk x10.path r12))) _ H ⟨F17, rfl, ((le5.trans ler12).trans le17), hS16⟩ ⟨rfl, rfl, rfl, trivial⟩
   ·
    rw [if_f hc9] at H
    refine C_exit _ rfl ?_
    exact N_join _ ⟨l7, H, ⟨F5, rfl, le5, hS5⟩⟩ ⟨rfl, trivial⟩
 ·
  rintro E w3 ⟨l4, H, F3, rfl, le3, hS3⟩
  dsimp only [tree_Twin.k1] at H
  refine C_seq ?_
  refine C_region ?_
  refine W_move rfl rfl ?_
  refine W_assign rfl rfl ?_
  refine W_nil ?_
  refine N_code ?_
  obtain rfl := Option.some.inj H
  refine C_ret rfl rfl ?_
  exact ⟨F3, ur1_0, rfl, hS3⟩

def tree_Sort.k1 (l13 : List File) : Option ((List File) × Int) :=
  some (l13, 0)


def tree_Sort.l2 (l13 : List File) (rec18 : Int → Option ((List File) × Int)) : Int → Option ((List File) × Int)
  | i17 =>
    if decide (i17 < (l13.length : Int)) then
      bd (only (decide (0 < i17)) (ix l13 i17) (File.mk [] [])) fun x20 =>
      bd (only (decide (0 < i17)) (ix l13 (wr (i17 - 1))) (File.mk [] [])) fun x22 =>
      if (decide (0 < i17) && (x20.path == x22.path)) then
        some ([], 9)
      else
        rec18 (wr (i17 + 1))
    else
      tree_Sort.k1 l13

def tree_Sort (x0 : List File) : Option ((List File) × Int) :=
  bd (tree_long x0) fun r1 =>
  if r1 then
    some ([], 2)
  else
    bd (slices_ContainsFunc_api_File_api_File_tree_Sort_1 x0) fun r6 =>
    if r6 then
      some ([], 1)
    else
      bd (tree_Twin x0) fun r11 =>
      bdS ordFile r11 fun l13 =>
      loop (tree_Sort.l2 l13) 0

theorem tree_Sort_ok {F : Frz} {w : World} {x0 : List File} {r : (List File) × Int} {v0 : Value} (hA : Agree F w.heap) (h0 : SlF File.t F v0 x0) (H : tree_Sort x0 = some r) : Ret Try.prog 19 #[v0] w fun v w' => ∃ (F' : Frz) (q0 : Value), v = .tuple #[q0, .int .i64 r.2] ∧ St [] w F F' [.row File.t 34 q0 (r.1)] w' := by
 refine Ret_of (args := [v0]) Go.Proofs.Try.func19 rfl rfl ?_
 change C _ _ _ _ [(0, v0)] _
 have hS := St.entry hA
 dsimp only [tree_Sort] at H
 refine C_seq ?_
 refine C_region ?_
 refine W_assign rfl rfl ?_
 refine W_assign rfl rfl ?_
 refine W_nil ?_
 refine N_code ?_
 refine C_seq ?_
 refine C_block ?_
 refine C_seq ?_
 obtain ⟨r1, hr1, H⟩ := bd_some H
 refine C_region ?_
 refine W_move rfl rfl ?_
 refine W_call rfl Ty.named53 rfl (tree_long_ok hS.agree h0 hr1) ?_
 rintro v2 w2 ⟨Fr1, rfl, hT2⟩
 have hS2 := hS.lent hT2
 refine W_assign rfl rfl ?_
 refine W_nil ?_
 refine N_code ?_
 refine C_cond rfl (fun hc3 => ?_) (fun hc3 => ?_)
 ·
  rw [if_t hc3] at H
  refine C_seq ?_
  refine C_region ?_
  refine W_assign rfl rfl ?_
  refine W_assign rfl rfl ?_
  refine W_nil ?_
  refine N_code ?_
  have hS5 := hS2.nilRow File.t 34
  obtain rfl := Option.some.inj H
  refine C_ret rfl rfl ?_
  exact ⟨F, (.slice none 0 0), rfl, hS5⟩
 ·
  rw [if_f hc3] at H
  refine C_seq ?_
  obtain ⟨r6, hr6, H⟩ := bd_some H
  refine C_region ?_
  refine W_move rfl rfl ?_
  refine W_call rfl Ty.named54 rfl (slices_ContainsFunc_api_File_api_File_tree_Sort_1_ok hS2.agree h0 hr6) ?_
  rintro v7 w7 ⟨Fr6, rfl, hT7⟩
  have hS7 := hS2.lent hT7
  refine W_assign rfl rfl ?_
  refine W_nil ?_
  refine N_code ?_
  refine C_cond rfl (fun hc8 => ?_) (fun hc8 => ?_)
  ·
   rw [if_t hc8] at H
   refine C_seq ?_
   refine C_region ?_
   refine W_assign rfl rfl ?_
   refine W_assign rfl rfl ?_
   refine W_nil ?_
   refine N_code ?_
   have hS10 := hS7.nilRow File.t 34
   obtain rfl := Option.some.inj H
   refine C_ret rfl rfl ?_
   exact ⟨F, (.slice none 0 0), rfl, hS10⟩
  ·
   rw [if_f hc8] at H
   refine C_skip ?_
   refine N_block ?_
   refine N_code ?_
   refine C_seq ?_
   obtain ⟨r11, hr11, H⟩ := bd_some H
   refine C_region ?_
   refine W_move rfl rfl ?_
   refine W_call rfl Ty.named56 rfl (tree_Twin_ok hS7.agree h0 hr11) ?_
   rintro ur11_0 w12 ⟨Fr11, _, rfl, hT12⟩
   have hS12 := hS7.call hT12
   have ler11 := hT12.ext
   refine W_assign rfl rfl ?_
   refine W_nil ?_
   refine N_code ?_
   refine C_seq ?_
   obtain ⟨hlenl13, H⟩ := bdS_some H
   refine C_region ?_
   refine W_move rfl rfl ?_
   refine W_call rfl Ty.named57 rfl (sortFile_ok (hS12.lendRow 0 rfl) hlenl13) ?_
   rintro v14 w14 ⟨F14, l13, hpl13, hrl13, hT14⟩
   replace H := H l13 hpl13 hrl13
   have hS14 := hS12.backRow 0 [] rfl (by decide) (by decide) hT14
   have le14 := hT14.ext
   refine W_nil ?_
   refine N_code ?_
   refine C_seq_join (fun E wq => tree_Sort.k1 l13 = some r ∧ ∃ (F15 : Frz), E = [(4, ur11_0)] ∧ F14.le F15 ∧ St [] w F F15 [.row File.t 34 ur11_0 l13] wq) ?_ ?_
   ·
    refine C_seq ?_
    refine C_region ?_
    refine W_move rfl rfl ?_
    refine W_lenv rfl Go.Proofs.Try.underlying27 rfl (hS14.rowLn (k := 0) rfl) ?_
    refine W_move rfl rfl ?_
    refine W_nil ?_
    refine N_code ?_
    refine C_block ?_
    refine C_loopM (fun (s : Int) E wq => ∃ (F16 : Frz), E = [(4, ur11_0), (17, .int .i64 (l13.length : Int)), (18, .int .i64 s)] ∧ F14.le F16 ∧ St [] w F F16 [.row File.t 34 ur11_0 l13] wq) H ?_ ?_
    ·
     exact ⟨_, ⟨F14, rfl, (Frz.le.refl _), hS14⟩, ⟨rfl, rfl, rfl, trivial⟩⟩
    ·
     rintro rec18 i17 E w16 hI H
     try dsimp only at hI
     obtain ⟨F16, rfl, le16, hS16⟩ := hI
     dsimp only [tree_Sort.l2] at H
     refine C_seq ?_
     refine C_region ?_
     refine W_lss rfl rfl rfl ?_
     refine W_nil ?_
     refine N_code ?_
     refine C_seq ?_
     refine C_cond rfl (fun hc19 => ?_) (fun hc19 => ?_)
     ·
      rw [if_t hc19] at H
      refine C_skip ?_
      refine N_code ?_
      refine C_seq ?_
      refine C_block ?_
      refine C_seq ?_
      refine C_region ?_
      refine W_move rfl rfl ?_
      refine W_assign rfl rfl ?_
      refine W_nil ?_
      refine N_code ?_
      refine C_seq ?_
      obtain ⟨x20, hx20, H⟩ := bd_some H
      obtain ⟨x22, hx22, H⟩ := bd_some H
      refine C_join (fun E wq => E = [(4, ur11_0), (17, .int .i64 (l13.length : Int)), (18, .int .i64 i17), (36, .bool (decide (0 < i17) && (x20.path == x22.path)))] ∧ ∃ F24 : Frz, F16.le F24 ∧ St [] w F F24 [.row File.t 34 ur11_0 l13] wq) ?_ ?_
      ·
       rcases Bool.eq_false_or_eq_true (decide (0 < i17)) with hb25 | hb25
       ·
        have hy26 := hx20
        rw [only_t hb25] at hy26
        obtain ⟨hp27, hy27⟩ := ix_some hy26
        obtain ⟨cs27, hr27, he27⟩ := hS16.rowAt (k := 0) rfl hy27
        obtain ⟨ue21_0, rfl, hue21_0⟩ := hr27
        replace he27 : El _ _ 2 _ _ := he27
        have hy28 := hx22
        rw [only_t hb25] at hy28
        obtain ⟨hp29, hy29⟩ := ix_some hy28
        obtain ⟨cs29, hr29, he29⟩ := hS16.rowAt (k := 0) rfl hy29
        obtain ⟨ue23_0, rfl, hue23_0⟩ := hr29
        replace he29 : El _ _ 2 _ _ := he29
        apply C_draw 15 [[], [0], [1], [2], [2], [3, 4, 2], [5, 2], [6, 2], [2], [2], [9, 2], [8, 10, 2], [11, 2], [12, 2], [7, 13, 2]] [.val (.int .i64 i17), .val (.bool (decide (0 < i17))), .val (.bool true), .val (ur11_0), .val (.int .i64 i17), .val (elp ur11_0 (i17.toNat * 2)), .val (elp ur11_0 ((i17.toNat * 2) + 0)), .val (strV x20.path), .val (ur11_0), .val (.int .i64 i17), .val (.int .i64 (wr (i17 - 1))), .val (elp ur11_0 ((wr (i17 - 1)).toNat * 2)), .val (elp ur11_0 (((wr (i17 - 1)).toNat * 2) + 0)), .val (strV x22.path), .val (.bool (x20.path == x22.path))] Ty.mixed rfl rfl (by kernel_rfl) (by kernel_rfl) rfl
        ·
         refine ⟨?_, ?_, ?_, ?_, ?_, ?_, ?_, ?_, ?_, ?_, ?_, ?_, ?_, ?_, ?_, trivial⟩
         ·
          intro w30 vq30 hB30 hH30
          have hS30 := hS16.below hB30
          refine W_move rfl rfl ?_
          refine W_nil ?_
          exact N_step rfl rfl (Below.refl _ _)
         ·
          intro w31 vq31 hB31 hH31
          have hS31 := hS16.below hB31
          refine W_gtr rfl rfl rfl ?_
          refine W_nil ?_
          exact N_step rfl rfl (Below.refl _ _)
         ·
          intro w32 vq32 hB32 hH32
          have hS32 := hS16.below hB32
          refine W_move rfl rfl ?_
          refine W_nil ?_
          exact N_step rfl (congrArg Value.bool hb25) (Below.refl _ _)
         ·
          intro w33 vq33 hB33 hH33
          have hS33 := hS16.below hB33
          refine W_guard_yes rfl ?_
          refine W_move rfl rfl ?_
          refine W_nil ?_
          exact N_step rfl rfl (Below.refl _ _)
         ·
          intro w34 vq34 hB34 hH34
          have hS34 := hS16.below hB34
          refine W_guard_yes rfl ?_
          refine W_move rfl rfl ?_
          refine W_nil ?_
          exact N_step rfl rfl (Below.refl _ _)
         ·
          intro w35 vq35 hB35 hH35
          have hS35 := hS16.below hB35
          refine W_guard_yes rfl ?_
          refine W_ix rfl Go.Proofs.Try.underlying27 Ty.cells34 Ty.info34 rfl rfl (he27.below hB35) hp27 rfl ?_
          refine W_nil ?_
          exact N_step rfl rfl (Below.refl _ _)
         ·
          intro w36 vq36 hB36 hH36
          have hS36 := hS16.below hB36
          refine W_guard_yes rfl ?_
          refine W_fld 0 rfl Ty.field34_0 rfl (he27.below hB36) ?_
          refine W_nil ?_
          exact N_step rfl rfl (Below.refl _ _)
         ·
          intro w37 vq37 hB37 hH37
          have hS37 := hS16.below hB37
          refine W_guard_yes rfl ?_
          refine W_ld1 0 rfl Ty.cell9 rfl (he27.below hB37) (by omega) rfl ?_
          refine W_nil ?_
          exact N_step rfl rfl (Below.refl _ _)
         ·
          intro w38 vq38 hB38 hH38
          have hS38 := hS16.below hB38
          refine W_guard_yes rfl ?_
          refine W_move rfl rfl ?_
          refine W_nil ?_
          exact N_step rfl rfl (Below.refl _ _)
         ·
          intro w39 vq39 hB39 hH39
          have hS39 := hS16.below hB39
          refine W_guard_yes rfl ?_
          refine W_move rfl rfl ?_
          refine W_nil ?_
          exact N_step rfl rfl (Below.refl _ _)
         ·
          intro w40 vq40 hB40 hH40
          have hS40 := hS16.below hB40
          refine W_guard_yes rfl ?_
          refine W_subi rfl rfl rfl rfl ?_
          refine W_nil ?_
          exact N_step rfl rfl (Below.refl _ _)
         ·
          intro w41 vq41 hB41 hH41
          have hS41 := hS16.below hB41
          refine W_guard_yes rfl ?_
          refine W_ix rfl Go.Proofs.Try.underlying27 Ty.cells34 Ty.info34 rfl rfl (he29.below hB41) hp29 rfl ?_
          refine W_nil ?_
          exact N_step rfl rfl (Below.refl _ _)
         ·
          intro w42 vq42 hB42 hH42
          have hS42 := hS16.below hB42
          refine W_guard_yes rfl ?_
          refine W_fld 0 rfl Ty.field34_0 rfl (he29.below hB42) ?_
          refine W_nil ?_
          exact N_step rfl rfl (Below.refl _ _)
         ·
          intro w43 vq43 hB43 hH43
          have hS43 := hS16.below hB43
          refine W_guard_yes rfl ?_
          refine W_ld1 0 rfl Ty.cell9 rfl (he29.below hB43) (by omega) rfl ?_
          refine W_nil ?_
          exact N_step rfl rfl (Below.refl _ _)
         ·
          intro w44 vq44 hB44 hH44
          have hS44 := hS16.below hB44
          refine W_guard_yes rfl ?_
          refine W_eqlS rfl rfl rfl ?_
          refine W_nil ?_
          exact N_step rfl rfl (Below.refl _ _)
        intro w45 vq45 hB45 hH45
        have hS45 := hS16.below hB45
        refine W_pick_t rfl rfl rfl ?_
        refine W_nil ?_
        exact N_join _ ⟨rfl, F16, (Frz.le.refl _), hS45⟩ ⟨rfl, rfl, rfl, (look_bool rfl (by first | rfl | (rw [hb25]; first | done | rfl) | simp [hb25])), trivial⟩
       ·
        apply C_draw 15 [[], [0], [1], [2], [2], [3, 4, 2], [5, 2], [6, 2], [2], [2], [9, 2], [8, 10, 2], [11, 2], [12, 2], [7, 13, 2]] [.val (.int .i64 i17), .val (.bool (decide (0 < i17))), .val (.bool false), .val undef, .val undef, .val undef, .val undef, .val undef, .val undef, .val undef, .val undef, .val undef, .val undef, .val undef, .val undef] Ty.mixed rfl rfl (by kernel_rfl) (by kernel_rfl) rfl
        ·
         refine ⟨?_, ?_, ?_, ?_, ?_, ?_, ?_, ?_, ?_, ?_, ?_, ?_, ?_, ?_, ?_, trivial⟩
         ·
          intro w46 vq46 hB46 hH46
          have hS46 := hS16.below hB46
          refine W_move rfl rfl ?_
          refine W_nil ?_
          exact N_step rfl rfl (Below.refl _ _)
         ·
          intro w47 vq47 hB47 hH47
          have hS47 := hS16.below hB47
          refine W_gtr rfl rfl rfl ?_
          refine W_nil ?_
          exact N_step rfl rfl (Below.refl _ _)
         ·
          intro w48 vq48 hB48 hH48
          have hS48 := hS16.below hB48
          refine W_move rfl rfl ?_
          refine W_nil ?_
          exact N_step rfl (congrArg Value.bool hb25) (Below.refl _ _)
         ·
          intro w49 vq49 hB49 hH49
          have hS49 := hS16.below hB49
          refine W_guard_no rfl rfl rfl rfl rfl ?_
          refine W_nil ?_
          exact N_step rfl rfl (Below.refl _ _)
         ·
          intro w50 vq50 hB50 hH50
          have hS50 := hS16.below hB50
          refine W_guard_no rfl rfl rfl rfl rfl ?_
          refine W_nil ?_
          exact N_step rfl rfl (Below.refl _ _)
         ·
          intro w51 vq51 hB51 hH51
          have hS51 := hS16.below hB51
          refine W_guard_no rfl rfl rfl rfl rfl ?_
          refine W_nil ?_
          exact N_step rfl rfl (Below.refl _ _)
         ·
          intro w52 vq52 hB52 hH52
          have hS52 := hS16.below hB52
          refine W_guard_no rfl rfl rfl rfl rfl ?_
          refine W_nil ?_
          exact N_step rfl rfl (Below.refl _ _)
         ·
          intro w53 vq53 hB53 hH53
          have hS53 := hS16.below hB53
          refine W_guard_no rfl rfl rfl rfl rfl ?_
          refine W_nil ?_
          exact N_step rfl rfl (Below.refl _ _)
         ·
          intro w54 vq54 hB54 hH54
          have hS54 := hS16.below hB54
          refine W_guard_no rfl rfl rfl rfl rfl ?_
          refine W_nil ?_
          exact N_step rfl rfl (Below.refl _ _)
         ·
          intro w55 vq55 hB55 hH55
          have hS55 := hS16.below hB55
          refine W_guard_no rfl rfl rfl rfl rfl ?_
          refine W_nil ?_
          exact N_step rfl rfl (Below.refl _ _)
         ·
          intro w56 vq56 hB56 hH56
          have hS56 := hS16.below hB56
          refine W_guard_no rfl rfl rfl rfl rfl ?_
          refine W_nil ?_
          exact N_step rfl rfl (Below.refl _ _)
         ·
          intro w57 vq57 hB57 hH57
          have hS57 := hS16.below hB57
          refine W_guard_no rfl rfl rfl rfl rfl ?_
          refine W_nil ?_
          exact N_step rfl rfl (Below.refl _ _)
         ·
          intro w58 vq58 hB58 hH58
          have hS58 := hS16.below hB58
          refine W_guard_no rfl rfl rfl rfl rfl ?_
          refine W_nil ?_
          exact N_step rfl rfl (Below.refl _ _)
         ·
          intro w59 vq59 hB59 hH59
          have hS59 := hS16.below hB59
          refine W_guard_no rfl rfl rfl rfl rfl ?_
          refine W_nil ?_
          exact N_step rfl rfl (Below.refl _ _)
         ·
          intro w60 vq60 hB60 hH60
          have hS60 := hS16.below hB60
          refine W_guard_no rfl rfl rfl rfl rfl ?_
          refine W_nil ?_
          exact N_step rfl rfl (Below.refl _ _)
        intro w61 vq61 hB61 hH61
        have hS61 := hS16.below hB61
        refine W_pick_f rfl rfl rfl ?_
        refine W_nil ?_
        exact N_join _ ⟨rfl, F16, (Frz.le.refl _), hS61⟩ ⟨rfl, rfl, rfl, (look_bool rfl (by first | rfl | (rw [hb25]; first | done | rfl) | simp [hb25])), trivial⟩
      rintro E w24 ⟨rfl, F24, le24, hS24⟩
      refine N_code ?_
      refine C_cond rfl (fun hc62 => ?_) (fun hc62 => ?_)
      ·
       rw [if_t hc62] at H
       refine C_seq ?_
       refine C_region ?_
       refine W_assign rfl rfl ?_
       refine W_assign rfl rfl ?_
       refine W_nil ?_
       refine N_code ?_
       have hS64 := hS24.nilRow File.t 34
       obtain rfl := Option.some.inj H
       refine C_ret rfl rfl ?_
       exact ⟨F24, (.slice none 0 0), rfl, hS64.pick [0] (by decide)⟩
      ·
       rw [if_f hc62] at H
       refine C_skip ?_
       refine N_block ?_
       refine N_code ?_
       refine C_region ?_
       refine W_add rfl rfl rfl rfl ?_
       refine W_move rfl rfl ?_
       refine W_nil ?_
       exact N_againM (wr (i17 + 1)) _ H ⟨F24, rfl, (le16.trans le24), hS24⟩ ⟨rfl, rfl, rfl, trivial⟩
     ·
      rw [if_f hc19] at H
      refine C_exit _ rfl ?_
      exact N_join _ ⟨H, ⟨F16, rfl, le16, hS16⟩⟩ ⟨rfl, trivial⟩
   ·
    rintro E w15 ⟨H, F15, rfl, le15, hS15⟩
    dsimp only [tree_Sort.k1] at H
    refine C_seq ?_
    refine C_region ?_
    refine W_move rfl rfl ?_
    refine W_assign rfl rfl ?_
    refine W_assign rfl rfl ?_
    refine W_nil ?_
    refine N_code ?_
    obtain rfl := Option.some.inj H
    refine C_ret rfl rfl ?_
    exact ⟨F15, ur11_0, rfl, hS15⟩

def tree_Check.k1 : Option Int :=
  some 0


def tree_Check.l2 (x0 : List File) (rec7 : Int → Option Int) : Int → Option Int
  | i6 =>
    if decide (i6 < (x0.length : Int)) then
      bd (ix x0 i6) fun x9 =>
      bd (tree_Name x9.path) fun r14 =>
      bd (only ((!(!r14)) && decide (0 < i6)) (ix x0 (wr (i6 - 1))) (File.mk [] [])) fun x15 =>
      if ((!r14) || (decide (0 < i6) && (sLt x9.path x15.path || x9.path == x15.path))) then
        some 1
      else
        rec7 (wr (i6 + 1))
    else
      tree_Check.k1

def tree_Check (x0 : List File) : Option Int :=
  bd (tree_long x0) fun r1 =>
  if r1 then
    some 2
  else
    loop (tree_Check.l2 x0) 0

theorem tree_Check_ok {F : Frz} {w : World} {x0 : List File} {r : Int} {v0 : Value} (hA : Agree F w.heap) (h0 : SlF File.t F v0 x0) (H : tree_Check x0 = some r) : Ret Try.prog 21 #[v0] w fun v w' => ∃ (F' : Frz), v = .int .i64 r ∧ St [] w F F' [] w' := by
 refine Ret_of (args := [v0]) Go.Proofs.Try.func21 rfl rfl ?_
 change C _ _ _ _ [(0, v0)] _
 have hS := St.entry hA
 dsimp only [tree_Check] at H
 refine C_seq ?_
 refine C_region ?_
 refine W_assign rfl rfl ?_
 refine W_nil ?_
 refine N_code ?_
 refine C_seq ?_
 refine C_seq ?_
 obtain ⟨r1, hr1, H⟩ := bd_some H
 refine C_region ?_
 refine W_move rfl rfl ?_
 refine W_call rfl Ty.named53 rfl (tree_long_ok hS.agree h0 hr1) ?_
 rintro v2 w2 ⟨Fr1, rfl, hT2⟩
 have hS2 := hS.lent hT2
 refine W_nil ?_
 refine N_code ?_
 refine C_cond rfl (fun hc3 => ?_) (fun hc3 => ?_)
 ·
  rw [if_t hc3] at H
  refine C_seq ?_
  refine C_region ?_
  refine W_assign rfl rfl ?_
  refine W_nil ?_
  refine N_code ?_
  obtain rfl := Option.some.inj H
  refine C_ret rfl rfl ?_
  exact ⟨F, rfl, hS2⟩
 ·
  rw [if_f hc3] at H
  refine C_skip ?_
  refine N_code ?_
  refine C_seq_join (fun E wq => tree_Check.k1 = some r ∧ ∃ (F4 : Frz), E = [] ∧ F.le F4 ∧ St [] w F F4 [] wq) ?_ ?_
  ·
   refine C_seq ?_
   refine C_region ?_
   refine W_move rfl rfl ?_
   refine W_lenv rfl Go.Proofs.Try.underlying27 rfl h0.ln ?_
   refine W_move rfl rfl ?_
   refine W_nil ?_
   refine N_code ?_
   refine C_block ?_
   refine C_loopM (fun (s : Int) E wq => ∃ (F5 : Frz), E = [(0, v0), (7, v0), (8, .int .i64 (x0.length : Int)), (9, .int .i64 s)] ∧ F.le F5 ∧ St [] w F F5 [] wq) H ?_ ?_
   ·
    exact ⟨_, ⟨F, rfl, (Frz.le.refl _), hS2⟩, ⟨rfl, rfl, rfl, rfl, trivial⟩⟩
   ·
    rintro rec7 i6 E w5 hI H
    try dsimp only at hI
    obtain ⟨F5, rfl, le5, hS5⟩ := hI
    dsimp only [tree_Check.l2] at H
    refine C_seq ?_
    refine C_region ?_
    refine W_lss rfl rfl rfl ?_
    refine W_nil ?_
    refine N_code ?_
    refine C_seq ?_
    refine C_cond rfl (fun hc8 => ?_) (fun hc8 => ?_)
    ·
     rw [if_t hc8] at H
     refine C_skip ?_
     refine N_code ?_
     refine C_seq ?_
     refine C_block ?_
     refine C_seq ?_
     obtain ⟨x9, hx9, H⟩ := bd_some H
     refine C_region ?_
     refine W_move rfl rfl ?_
     obtain ⟨hp12, hy12⟩ := ix_some hx9
     obtain ⟨cs12, hr12, he12⟩ := (h0.mono le5).at_ hy12
     obtain ⟨ue10_0, rfl, hue10_0⟩ := hr12
     replace he12 : Elf _ _ 2 _ _ := he12
     refine W_ix rfl Go.Proofs.Try.underlying27 Ty.cells34 Ty.info34 rfl rfl (he12.el hS5.agree) hp12 rfl ?_
     refine W_ldg 0 ((File.cells x9 ue10_0)) rfl Ty.agg34 Ty.size34 rfl (he12.el hS5.agree) (by omega) (fun q u h => sub_at (post := []) rfl h) ?_
     refine W_alc (cs := [strV [], .slice none 0 0]) rfl Ty.zero34 rfl hS5 ?_
     intro g11 w11 hS11
     refine W_assign rfl rfl ?_
     refine W_bst (c := [strV x9.path, ue10_0]) 0 ([strV x9.path, ue10_0]) rfl rfl hS11 rfl rfl Ty.size34 (fun y hy => File.t.one (F := F5) (x := x9) ⟨ue10_0, rfl, hue10_0⟩ y hy) (Nat.le_of_ble_eq_true rfl) rfl ?_
     intro w13 hS13
     refine W_nil ?_
     refine N_code ?_
     refine C_seq ?_
     obtain ⟨r14, hr14, H⟩ := bd_some H
     obtain ⟨x15, hx15, H⟩ := bd_some H
     refine C_join (fun E wq => E = [(0, v0), (7, v0), (8, .int .i64 (x0.length : Int)), (9, .int .i64 i6), (32, .bool ((!r14) || (decide (0 < i6) && (sLt x9.path x15.path || x9.path == x15.path))))] ∧ ∃ F17 : Frz, F5.le F17 ∧ St [] w F F17 [.box g11 34 [strV x9.path, ue10_0]] wq) ?_ ?_
     ·
      rcases Bool.eq_false_or_eq_true (!r14) with hb18 | hb18
      ·
       apply C_draw 18 [[], [0], [1], [2], [3], [4], [5, 4], [6, 4], [7], [8, 7], [7], [7], [11, 7], [10, 12, 7], [13, 7], [14, 7], [9, 15, 7], [7, 16, 4]] [.val (pl g11 (0 + 0)), .val (strV x9.path), .val (.bool r14), .val (.bool (!r14)), .val (.bool true), .val undef, .val undef, .val undef, .val undef, .val undef, .val undef, .val undef, .val undef, .val undef, .val undef, .val undef, .val undef, .val undef] Ty.mixed rfl rfl (by kernel_rfl) (by kernel_rfl) rfl
       ·
        refine ⟨?_, ?_, ?_, ?_, ?_, ?_, ?_, ?_, ?_, ?_, ?_, ?_, ?_, ?_, ?_, ?_, ?_, ?_, trivial⟩
        ·
         intro w19 vq19 hB19 hH19
         have hS19 := hS13.below hB19
         refine W_field_pl 0 rfl Ty.field34_0 rfl ?_
         refine W_nil ?_
         exact N_step rfl rfl (Below.refl _ _)
        ·
         intro w20 vq20 hB20 hH20
         have hS20 := hS13.below hB20
         refine W_bld1 0 rfl Ty.cell9 rfl hS20 rfl rfl ?_
         refine W_nil ?_
         exact N_step rfl rfl (Below.refl _ _)
        ·
         intro w21 vq21 hB21 hH21
         have hS21 := hS13.below hB21
         refine W_call rfl Ty.named15 rfl (tree_Name_ok hS21.agree hr14) ?_
         rintro v22 w22 ⟨Fr14, rfl, hT22⟩
         have hS22 := hS21.lent hT22
         refine W_nil ?_
         exact N_step rfl rfl hT22.below0
        ·
         intro w23 vq23 hB23 hH23
         have hS23 := hS13.below hB23
         refine W_not rfl rfl ?_
         refine W_nil ?_
         exact N_step rfl rfl (Below.refl _ _)
        ·
         intro w24 vq24 hB24 hH24
         have hS24 := hS13.below hB24
         refine W_move rfl rfl ?_
         refine W_nil ?_
         exact N_step rfl (congrArg Value.bool hb18) (Below.refl _ _)
        ·
         intro w25 vq25 hB25 hH25
         have hS25 := hS13.below hB25
         refine W_guard_no rfl rfl rfl rfl rfl ?_
         refine W_nil ?_
         exact N_step rfl rfl (Below.refl _ _)
        ·
         intro w26 vq26 hB26 hH26
         have hS26 := hS13.below hB26
         refine W_guard_no rfl rfl rfl rfl rfl ?_
         refine W_nil ?_
         exact N_step rfl rfl (Below.refl _ _)
        ·
         intro w27 vq27 hB27 hH27
         have hS27 := hS13.below hB27
         refine W_guard_no rfl rfl rfl rfl rfl ?_
         refine W_nil ?_
         exact N_step rfl rfl (Below.refl _ _)
        ·
         intro w28 vq28 hB28 hH28
         have hS28 := hS13.below hB28
         refine W_guard_un rfl rfl rfl rfl ?_
         refine W_nil ?_
         exact N_step rfl rfl (Below.refl _ _)
        ·
         intro w29 vq29 hB29 hH29
         have hS29 := hS13.below hB29
         refine W_guard_un rfl rfl rfl rfl ?_
         refine W_nil ?_
         exact N_step rfl rfl (Below.refl _ _)
        ·
         intro w30 vq30 hB30 hH30
         have hS30 := hS13.below hB30
         refine W_guard_un rfl rfl rfl rfl ?_
         refine W_nil ?_
         exact N_step rfl rfl (Below.refl _ _)
        ·
         intro w31 vq31 hB31 hH31
         have hS31 := hS13.below hB31
         refine W_guard_un rfl rfl rfl rfl ?_
         refine W_nil ?_
         exact N_step rfl rfl (Below.refl _ _)
        ·
         intro w32 vq32 hB32 hH32
         have hS32 := hS13.below hB32
         refine W_guard_un rfl rfl rfl rfl ?_
         refine W_nil ?_
         exact N_step rfl rfl (Below.refl _ _)
        ·
         intro w33 vq33 hB33 hH33
         have hS33 := hS13.below hB33
         refine W_guard_un rfl rfl rfl rfl ?_
         refine W_nil ?_
         exact N_step rfl rfl (Below.refl _ _)
        ·
         intro w34 vq34 hB34 hH34
         have hS34 := hS13.below hB34
         refine W_guard_un rfl rfl rfl rfl ?_
         refine W_nil ?_
         exact N_step rfl rfl (Below.refl _ _)
        ·
         intro w35 vq35 hB35 hH35
         have hS35 := hS13.below hB35
         refine W_guard_un rfl rfl rfl rfl ?_
         refine W_nil ?_
         exact N_step rfl rfl (Below.refl _ _)
        ·
         intro w36 vq36 hB36 hH36
         have hS36 := hS13.below hB36
         refine W_guard_un rfl rfl rfl rfl ?_
         refine W_nil ?_
         exact N_step rfl rfl (Below.refl _ _)
        ·
         intro w37 vq37 hB37 hH37
         have hS37 := hS13.below hB37
         refine W_guard_no rfl rfl rfl rfl rfl ?_
         refine W_nil ?_
         exact N_step rfl rfl (Below.refl _ _)
       intro w38 vq38 hB38 hH38
       have hS38 := hS13.below hB38
       refine W_pick_t rfl rfl rfl ?_
       refine W_nil ?_
       exact N_join _ ⟨rfl, F5, (Frz.le.refl _), hS38⟩ ⟨rfl, rfl, rfl, rfl, (look_bool rfl (by first | rfl | (rw [hb18]; first | done | rfl) | simp [hb18])), trivial⟩
      ·
       rcases Bool.eq_false_or_eq_true (decide (0 < i6)) with hb39 | hb39
       ·
        have hy40 := hx15
        rw [only_t (by first | rfl | (rw [hb39, hb18]; first | done | rfl) | simp [hb18, hb39])] at hy40
        obtain ⟨hp41, hy41⟩ := ix_some hy40
        obtain ⟨cs41, hr41, he41⟩ := (h0.mono le5).at_ hy41
        obtain ⟨ue16_0, rfl, hue16_0⟩ := hr41
        replace he41 : Elf _ _ 2 _ _ := he41
        apply C_draw 18 [[], [0], [1], [2], [3], [4], [5, 4], [6, 4], [7], [8, 7], [7], [7], [11, 7], [10, 12, 7], [13, 7], [14, 7], [9, 15, 7], [7, 16, 4]] [.val (pl g11 (0 + 0)), .val (strV x9.path), .val (.bool r14), .val (.bool (!r14)), .val (.bool false), .val (.int .i64 i6), .val (.bool (decide (0 < i6))), .val (.bool true), .val (pl g11 (0 + 0)), .val (strV x9.path), .val (v0), .val (.int .i64 i6), .val (.int .i64 (wr (i6 - 1))), .val (elp v0 ((wr (i6 - 1)).toNat * 2)), .val (elp v0 (((wr (i6 - 1)).toNat * 2) + 0)), .val (strV x15.path), .val (.bool (sLt x9.path x15.path || x9.path == x15.path)), .val (.bool (sLt x9.path x15.path || x9.path == x15.path))] Ty.mixed rfl rfl (by kernel_rfl) (by kernel_rfl) rfl
        ·
         refine ⟨?_, ?_, ?_, ?_, ?_, ?_, ?_, ?_, ?_, ?_, ?_, ?_, ?_, ?_, ?_, ?_, ?_, ?_, trivial⟩
         ·
          intro w42 vq42 hB42 hH42
          have hS42 := hS13.below hB42
          refine W_field_pl 0 rfl Ty.field34_0 rfl ?_
          refine W_nil ?_
          exact N_step rfl rfl (Below.refl _ _)
         ·
          intro w43 vq43 hB43 hH43
          have hS43 := hS13.below hB43
          refine W_bld1 0 rfl Ty.cell9 rfl hS43 rfl rfl ?_
          refine W_nil ?_
          exact N_step rfl rfl (Below.refl _ _)
         ·
          intro w44 vq44 hB44 hH44
          have hS44 := hS13.below hB44
          refine W_call rfl Ty.named15 rfl (tree_Name_ok hS44.agree hr14) ?_
          rintro v45 w45 ⟨Fr14, rfl, hT45⟩
          have hS45 := hS44.lent hT45
          refine W_nil ?_
          exact N_step rfl rfl hT45.below0
         ·
          intro w46 vq46 hB46 hH46
          have hS46 := hS13.below hB46
          refine W_not rfl rfl ?_
          refine W_nil ?_
          exact N_step rfl rfl (Below.refl _ _)
         ·
          intro w47 vq47 hB47 hH47
          have hS47 := hS13.below hB47
          refine W_move rfl rfl ?_
          refine W_nil ?_
          exact N_step rfl (congrArg Value.bool hb18) (Below.refl _ _)
         ·
          intro w48 vq48 hB48 hH48
          have hS48 := hS13.below hB48
          refine W_guard_yes rfl ?_
          refine W_move rfl rfl ?_
          refine W_nil ?_
          exact N_step rfl rfl (Below.refl _ _)
         ·
          intro w49 vq49 hB49 hH49
          have hS49 := hS13.below hB49
          refine W_guard_yes rfl ?_
          refine W_gtr rfl rfl rfl ?_
          refine W_nil ?_
          exact N_step rfl rfl (Below.refl _ _)
         ·
          intro w50 vq50 hB50 hH50
          have hS50 := hS13.below hB50
          refine W_guard_yes rfl ?_
          refine W_move rfl rfl ?_
          refine W_nil ?_
          exact N_step rfl (congrArg Value.bool hb39) (Below.refl _ _)
         ·
          intro w51 vq51 hB51 hH51
          have hS51 := hS13.below hB51
          refine W_guard_yes rfl ?_
          refine W_field_pl 0 rfl Ty.field34_0 rfl ?_
          refine W_nil ?_
          exact N_step rfl rfl (Below.refl _ _)
         ·
          intro w52 vq52 hB52 hH52
          have hS52 := hS13.below hB52
          refine W_guard_yes rfl ?_
          refine W_bld1 0 rfl Ty.cell9 rfl hS52 rfl rfl ?_
          refine W_nil ?_
          exact N_step rfl rfl (Below.refl _ _)
         ·
          intro w53 vq53 hB53 hH53
          have hS53 := hS13.below hB53
          refine W_guard_yes rfl ?_
          refine W_move rfl rfl ?_
          refine W_nil ?_
          exact N_step rfl rfl (Below.refl _ _)
         ·
          intro w54 vq54 hB54 hH54
          have hS54 := hS13.below hB54
          refine W_guard_yes rfl ?_
          refine W_move rfl rfl ?_
          refine W_nil ?_
          exact N_step rfl rfl (Below.refl _ _)
         ·
          intro w55 vq55 hB55 hH55
          have hS55 := hS13.below hB55
          refine W_guard_yes rfl ?_
          refine W_subi rfl rfl rfl rfl ?_
          refine W_nil ?_
          exact N_step rfl rfl (Below.refl _ _)
         ·
          intro w56 vq56 hB56 hH56
          have hS56 := hS13.below hB56
          refine W_guard_yes rfl ?_
          refine W_ix rfl Go.Proofs.Try.underlying27 Ty.cells34 Ty.info34 rfl rfl (he41.el hS56.agree) hp41 rfl ?_
          refine W_nil ?_
          exact N_step rfl rfl (Below.refl _ _)
         ·
          intro w57 vq57 hB57 hH57
          have hS57 := hS13.below hB57
          refine W_guard_yes rfl ?_
          refine W_fld 0 rfl Ty.field34_0 rfl (he41.el hS57.agree) ?_
          refine W_nil ?_
          exact N_step rfl rfl (Below.refl _ _)
         ·
          intro w58 vq58 hB58 hH58
          have hS58 := hS13.below hB58
          refine W_guard_yes rfl ?_
          refine W_ld1 0 rfl Ty.cell9 rfl (he41.el hS58.agree) (by omega) rfl ?_
          refine W_nil ?_
          exact N_step rfl rfl (Below.refl _ _)
         ·
          intro w59 vq59 hB59 hH59
          have hS59 := hS13.below hB59
          refine W_guard_yes rfl ?_
          refine W_leqS rfl rfl rfl ?_
          refine W_nil ?_
          exact N_step rfl rfl (Below.refl _ _)
         ·
          intro w60 vq60 hB60 hH60
          have hS60 := hS13.below hB60
          refine W_guard_yes rfl ?_
          refine W_pick_t rfl rfl rfl ?_
          refine W_nil ?_
          exact N_step rfl rfl (Below.refl _ _)
        intro w61 vq61 hB61 hH61
        have hS61 := hS13.below hB61
        refine W_pick_f rfl rfl rfl ?_
        refine W_nil ?_
        exact N_join _ ⟨rfl, F5, (Frz.le.refl _), hS61⟩ ⟨rfl, rfl, rfl, rfl, (look_bool rfl (by first | rfl | (rw [hb39, hb18]; first | done | rfl) | simp [hb18, hb39])), trivial⟩
       ·
        apply C_draw 18 [[], [0], [1], [2], [3], [4], [5, 4], [6, 4], [7], [8, 7], [7], [7], [11, 7], [10, 12, 7], [13, 7], [14, 7], [9, 15, 7], [7, 16, 4]] [.val (pl g11 (0 + 0)), .val (strV x9.path), .val (.bool r14), .val (.bool (!r14)), .val (.bool false), .val (.int .i64 i6), .val (.bool (decide (0 < i6))), .val (.bool false), .val undef, .val undef, .val undef, .val undef, .val undef, .val undef, .val undef, .val undef, .val undef, .val (.bool false)] Ty.mixed rfl rfl (by kernel_rfl) (by kernel_rfl) rfl
        ·
         refine ⟨?_, ?_, ?_, ?_, ?_, ?_, ?_, ?_, ?_, ?_, ?_, ?_, ?_, ?_, ?_, ?_, ?_, ?_, trivial⟩
         ·
          intro w62 vq62 hB62 hH62
          have hS62 := hS13.below hB62
          refine W_field_pl 0 rfl Ty.field34_0 rfl ?_
          refine W_nil ?_
          exact N_step rfl rfl (Below.refl _ _)
         ·
          intro w63 vq63 hB63 hH63
          have hS63 := hS13.below hB63
          refine W_bld1 0 rfl Ty.cell9 rfl hS63 rfl rfl ?_
          refine W_nil ?_
          exact N_step rfl rfl (Below.refl _ _)
         ·
          intro w64 vq64 hB64 hH64
          have hS64 := hS13.below hB64
          refine W_call rfl Ty.named15 rfl (tree_Name_ok hS64.agree hr14) ?_
          rintro v65 w65 ⟨Fr14, rfl, hT65⟩
          have hS65 := hS64.lent hT65
          refine W_nil ?_
          exact N_step rfl rfl hT65.below0
         ·
          intro w66 vq66 hB66 hH66
          have hS66 := hS13.below hB66
          refine W_not rfl rfl ?_
          refine W_nil ?_
          exact N_step rfl rfl (Below.refl _ _)
         ·
          intro w67 vq67 hB67 hH67
          have hS67 := hS13.below hB67
          refine W_move rfl rfl ?_
          refine W_nil ?_
          exact N_step rfl (congrArg Value.bool hb18) (Below.refl _ _)
         ·
          intro w68 vq68 hB68 hH68
          have hS68 := hS13.below hB68
          refine W_guard_yes rfl ?_
          refine W_move rfl rfl ?_
          refine W_nil ?_
          exact N_step rfl rfl (Below.refl _ _)
         ·
          intro w69 vq69 hB69 hH69
          have hS69 := hS13.below hB69
          refine W_guard_yes rfl ?_
          refine W_gtr rfl rfl rfl ?_
          refine W_nil ?_
          exact N_step rfl rfl (Below.refl _ _)
         ·
          intro w70 vq70 hB70 hH70
          have hS70 := hS13.below hB70
          refine W_guard_yes rfl ?_
          refine W_move rfl rfl ?_
          refine W_nil ?_
          exact N_step rfl (congrArg Value.bool hb39) (Below.refl _ _)
         ·
          intro w71 vq71 hB71 hH71
          have hS71 := hS13.below hB71
          refine W_guard_no rfl rfl rfl rfl rfl ?_
          refine W_nil ?_
          exact N_step rfl rfl (Below.refl _ _)
         ·
          intro w72 vq72 hB72 hH72
          have hS72 := hS13.below hB72
          refine W_guard_no rfl rfl rfl rfl rfl ?_
          refine W_nil ?_
          exact N_step rfl rfl (Below.refl _ _)
         ·
          intro w73 vq73 hB73 hH73
          have hS73 := hS13.below hB73
          refine W_guard_no rfl rfl rfl rfl rfl ?_
          refine W_nil ?_
          exact N_step rfl rfl (Below.refl _ _)
         ·
          intro w74 vq74 hB74 hH74
          have hS74 := hS13.below hB74
          refine W_guard_no rfl rfl rfl rfl rfl ?_
          refine W_nil ?_
          exact N_step rfl rfl (Below.refl _ _)
         ·
          intro w75 vq75 hB75 hH75
          have hS75 := hS13.below hB75
          refine W_guard_no rfl rfl rfl rfl rfl ?_
          refine W_nil ?_
          exact N_step rfl rfl (Below.refl _ _)
         ·
          intro w76 vq76 hB76 hH76
          have hS76 := hS13.below hB76
          refine W_guard_no rfl rfl rfl rfl rfl ?_
          refine W_nil ?_
          exact N_step rfl rfl (Below.refl _ _)
         ·
          intro w77 vq77 hB77 hH77
          have hS77 := hS13.below hB77
          refine W_guard_no rfl rfl rfl rfl rfl ?_
          refine W_nil ?_
          exact N_step rfl rfl (Below.refl _ _)
         ·
          intro w78 vq78 hB78 hH78
          have hS78 := hS13.below hB78
          refine W_guard_no rfl rfl rfl rfl rfl ?_
          refine W_nil ?_
          exact N_step rfl rfl (Below.refl _ _)
         ·
          intro w79 vq79 hB79 hH79
          have hS79 := hS13.below hB79
          refine W_guard_no rfl rfl rfl rfl rfl ?_
          refine W_nil ?_
          exact N_step rfl rfl (Below.refl _ _)
         ·
          intro w80 vq80 hB80 hH80
          have hS80 := hS13.below hB80
          refine W_guard_yes rfl ?_
          refine W_pick_f rfl rfl rfl ?_
          refine W_nil ?_
          exact N_step rfl rfl (Below.refl _ _)
        intro w81 vq81 hB81 hH81
        have hS81 := hS13.below hB81
        refine W_pick_f rfl rfl rfl ?_
        refine W_nil ?_
        exact N_join _ ⟨rfl, F5, (Frz.le.refl _), hS81⟩ ⟨rfl, rfl, rfl, rfl, (look_bool rfl (by first | rfl | (rw [hb39, hb18]; first | done | rfl) | simp [hb18, hb39])), trivial⟩
     rintro E w17 ⟨rfl, F17, le17, hS17⟩
     refine N_code ?_
     refine C_cond rfl (fun hc82 => ?_) (fun hc82 => ?_)
     ·
      rw [if_t hc82] at H
      refine C_seq ?_
      refine C_region ?_
      refine W_assign rfl rfl ?_
      refine W_nil ?_
      refine N_code ?_
      obtain rfl := Option.some.inj H
      refine C_ret rfl rfl ?_
      exact ⟨F17, rfl, hS17.pick [] (by decide)⟩
     ·
      rw [if_f hc82] at H
      refine C_skip ?_
      refine N_block ?_
      refine N_code ?_
      refine C_region ?_
      refine W_add rfl rfl rfl rfl ?_
      refine W_move rfl rfl ?_
      refine W_nil ?_
      exact N_againM (wr (i6 + 1)) _ H ⟨F17, rfl, (le5.trans le17), hS17.pick [] (by decide)⟩ ⟨rfl, rfl, rfl, rfl, trivial⟩
    ·
     rw [if_f hc8] at H
     refine C_exit _ rfl ?_
     exact N_join _ ⟨H, ⟨F5, rfl, le5, hS5⟩⟩ trivial
  ·
   rintro E w4 ⟨H, F4, rfl, le4, hS4⟩
   dsimp only [tree_Check.k1] at H
   refine C_seq ?_
   refine C_region ?_
   refine W_assign rfl rfl ?_
   refine W_nil ?_
   refine N_code ?_
   obtain rfl := Option.some.inj H
   refine C_ret rfl rfl ?_
   exact ⟨F4, rfl, hS4⟩

def cellarerlaw05_wakes : Option Bool :=
  bd (tree_Sort [(File.mk ([98] : List UInt8) []), (File.mk ([97] : List UInt8) [])]) fun r2 =>
  bd (only (decide (r2.2 = 0) && decide ((r2.1.length : Int) = 2)) (ix r2.1 0) (File.mk [] [])) fun x5 =>
  bd (only ((decide (r2.2 = 0) && decide ((r2.1.length : Int) = 2)) && (x5.path == ([97] : List UInt8))) (tree_Check r2.1) 0) fun r7 =>
  bd (only (((decide (r2.2 = 0) && decide ((r2.1.length : Int) = 2)) && (x5.path == ([97] : List UInt8))) && decide (r7 = 0)) (tree_Name ([120] : List UInt8)) false) fun r8 =>
  bd (only ((((decide (r2.2 = 0) && decide ((r2.1.length : Int) = 2)) && (x5.path == ([97] : List UInt8))) && decide (r7 = 0)) && r8) (tree_Name ([] : List UInt8)) false) fun r9 =>
  some (((((decide (r2.2 = 0) && decide ((r2.1.length : Int) = 2)) && (x5.path == ([97] : List UInt8))) && decide (r7 = 0)) && r8) && (!r9))

theorem cellarerlaw05_wakes_ok {F : Frz} {w : World} {r : Bool} (hA : Agree F w.heap) (H : cellarerlaw05_wakes = some r) : Ret Try.prog 16 #[] w fun v w' => ∃ (F' : Frz), v = .bool r ∧ St [] w F F' [] w' := by
 refine Ret_of (args := []) Go.Proofs.Try.func16 rfl rfl ?_
 change C _ _ _ _ [] _
 have hS := St.entry hA
 dsimp only [cellarerlaw05_wakes] at H
 refine C_seq ?_
 refine C_region ?_
 refine W_assign rfl rfl ?_
 refine W_nil ?_
 refine N_code ?_
 refine C_seq ?_
 obtain ⟨r2, hr2, H⟩ := bd_some H
 refine C_region ?_
 refine W_build (v := .agg (File.cells (File.mk ([98] : List UInt8) []) (.slice none 0 0)).toArray) rfl rfl (fun _ => by kernel_rfl) ?_
 refine W_build (v := .agg (File.cells (File.mk ([97] : List UInt8) []) (.slice none 0 0)).toArray) rfl rfl (fun _ => by kernel_rfl) ?_
 refine W_bs (t := File.t) [(File.cells (File.mk ([98] : List UInt8) []) (.slice none 0 0)), (File.cells (File.mk ([97] : List UInt8) []) (.slice none 0 0))] [(File.mk ([98] : List UInt8) []), (File.mk ([97] : List UInt8) [])] rfl Go.Proofs.Try.underlying27 Ty.cells34 rfl rfl Ty.zero34 rfl rfl ⟨⟨.slice none 0 0, rfl, (SlF.nil _)⟩, ⟨⟨.slice none 0 0, rfl, (SlF.nil _)⟩, trivial⟩⟩ rfl rfl hS ?_
 intro u1 w1 hS1
 obtain ⟨F3, le3, hf3, hS3⟩ := hS1.freeze 0 [] rfl (by decide) (by decide)
 refine W_call rfl Ty.named19 rfl (tree_Sort_ok hS3.agree hf3 hr2) ?_
 rintro v4 w4 ⟨Fr2, ur2_0, rfl, hT4⟩
 have hS4 := hS3.call hT4
 have ler2 := hT4.ext
 refine W_move rfl rfl ?_
 refine W_extract rfl rfl rfl ?_
 refine W_extract rfl rfl rfl ?_
 refine W_assign rfl rfl ?_
 refine W_assign rfl rfl ?_
 refine W_nil ?_
 refine N_code ?_
 refine C_seq ?_
 obtain ⟨x5, hx5, H⟩ := bd_some H
 obtain ⟨r7, hr7, H⟩ := bd_some H
 obtain ⟨r8, hr8, H⟩ := bd_some H
 obtain ⟨r9, hr9, H⟩ := bd_some H
 refine C_join (fun E wq => E = [(0, .bool (((((decide (r2.2 = 0) && decide ((r2.1.length : Int) = 2)) && (x5.path == ([97] : List UInt8))) && decide (r7 = 0)) && r8) && (!r9)))] ∧ ∃ F10 : Frz, Fr2.le F10 ∧ St [] w F F10 [.row File.t 34 ur2_0 r2.1] wq) ?_ ?_
 ·
  rcases Bool.eq_false_or_eq_true (decide (r2.2 = 0)) with hb11 | hb11
  ·
   rcases Bool.eq_false_or_eq_true (decide ((r2.1.length : Int) = 2)) with hb12 | hb12
   ·
    rcases Bool.eq_false_or_eq_true (x5.path == ([97] : List UInt8)) with hb13 | hb13
    ·
     rcases Bool.eq_false_or_eq_true (decide (r7 = 0)) with hb14 | hb14
     ·
      rcases Bool.eq_false_or_eq_true r8 with hb15 | hb15
      ·
       refine C_region ?_
       refine W_move rfl rfl ?_
       refine W_eql rfl rfl rfl ?_
       refine W_move rfl rfl ?_
       refine W_known (t := 12) true rfl hb11 ?_
       refine W_guard_yes rfl ?_
       refine W_move rfl rfl ?_
       refine W_guard_yes rfl ?_
       refine W_lenv rfl Go.Proofs.Try.underlying27 rfl (hS4.rowLn (k := 0) rfl) ?_
       refine W_guard_yes rfl ?_
       refine W_eql rfl rfl rfl ?_
       refine W_pick_t rfl rfl rfl ?_
       refine W_move rfl rfl ?_
       refine W_known (t := 17) true rfl hb12 ?_
       refine W_guard_yes rfl ?_
       refine W_move rfl rfl ?_
       refine W_guard_yes rfl ?_
       have hy16 := hx5
       rw [only_t (by first | rfl | (rw [hb12, hb11]; first | done | rfl) | simp [hb11, hb12, hb13, hb14, hb15])] at hy16
       obtain ⟨hp17, hy17⟩ := ix_some hy16
       obtain ⟨cs17, hr17, he17⟩ := hS4.rowAt (k := 0) rfl hy17
       obtain ⟨ue6_0, rfl, hue6_0⟩ := hr17
       replace he17 : El _ _ 2 _ _ := he17
       refine W_ix rfl Go.Proofs.Try.underlying27 Ty.cells34 Ty.info34 rfl rfl he17 hp17 rfl ?_
       refine W_guard_yes rfl ?_
       refine W_fld 0 rfl Ty.field34_0 rfl he17 ?_
       refine W_guard_yes rfl ?_
       refine W_ld1 0 rfl Ty.cell9 rfl he17 (by omega) rfl ?_
       refine W_guard_yes rfl ?_
       refine W_eqlS rfl rfl rfl ?_
       refine W_pick_t rfl rfl rfl ?_
       refine W_move rfl rfl ?_
       refine W_known (t := 24) true rfl hb13 ?_
       refine W_guard_yes rfl ?_
       refine W_move rfl rfl ?_
       refine W_guard_yes rfl ?_
       have hy18 := hr7
       rw [only_t (by first | rfl | (rw [hb12, hb13, hb11]; first | done | rfl) | simp [hb11, hb12, hb13, hb14, hb15])] at hy18
       refine W_call rfl Ty.named21 rfl (tree_Check_ok (now_agree _) (hS4.rowNow (k := 0) rfl) hy18) ?_
       rintro v19 w19 ⟨Fr7, rfl, hT19⟩
       have hS19 := hS4.lent hT19
       refine W_guard_yes rfl ?_
       refine W_eql rfl rfl rfl ?_
       refine W_pick_t rfl rfl rfl ?_
       refine W_move rfl rfl ?_
       refine W_known (t := 29) true rfl hb14 ?_
       refine W_guard_yes rfl ?_
       have hy20 := hr8
       rw [only_t (by first | rfl | (rw [hb12, hb13, hb11, hb14]; first | done | rfl) | simp [hb11, hb12, hb13, hb14, hb15])] at hy20
       refine W_call rfl Ty.named15 rfl (tree_Name_ok hS19.agree hy20) ?_
       rintro v21 w21 ⟨Fr8, rfl, hT21⟩
       have hS21 := hS19.lent hT21
       refine W_pick_t rfl rfl rfl ?_
       refine W_move rfl rfl ?_
       refine W_known (t := 32) true rfl hb15 ?_
       refine W_guard_yes rfl ?_
       have hy22 := hr9
       rw [only_t (by first | rfl | (rw [hb12, hb13, hb11, hb14, hb15]; first | done | rfl) | simp [hb11, hb12, hb13, hb14, hb15])] at hy22
       refine W_call rfl Ty.named15 rfl (tree_Name_ok hS21.agree hy22) ?_
       rintro v23 w23 ⟨Fr9, rfl, hT23⟩
       have hS23 := hS21.lent hT23
       refine W_guard_yes rfl ?_
       refine W_not rfl rfl ?_
       refine W_pick_t rfl rfl rfl ?_
       refine W_assign rfl rfl ?_
       refine W_nil ?_
       exact N_join _ ⟨rfl, Fr2, (Frz.le.refl _), hS23⟩ ⟨(look_bool rfl (by first | rfl | (rw [hb12, hb13, hb11, hb14, hb15]; first | done | rfl) | simp [hb11, hb12, hb13, hb14, hb15])), trivial⟩
      ·
       refine C_region ?_
       refine W_move rfl rfl ?_
       refine W_eql rfl rfl rfl ?_
       refine W_move rfl rfl ?_
       refine W_known (t := 12) true rfl hb11 ?_
       refine W_guard_yes rfl ?_
       refine W_move rfl rfl ?_
       refine W_guard_yes rfl ?_
       refine W_lenv rfl Go.Proofs.Try.underlying27 rfl (hS4.rowLn (k := 0) rfl) ?_
       refine W_guard_yes rfl ?_
       refine W_eql rfl rfl rfl ?_
       refine W_pick_t rfl rfl rfl ?_
       refine W_move rfl rfl ?_
       refine W_known (t := 17) true rfl hb12 ?_
       refine W_guard_yes rfl ?_
       refine W_move rfl rfl ?_
       refine W_guard_yes rfl ?_
       have hy24 := hx5
       rw [only_t (by first | rfl | (rw [hb12, hb11]; first | done | rfl) | simp [hb11, hb12, hb13, hb14, hb15])] at hy24
       obtain ⟨hp25, hy25⟩ := ix_some hy24
       obtain ⟨cs25, hr25, he25⟩ := hS4.rowAt (k := 0) rfl hy25
       obtain ⟨ue6_0, rfl, hue6_0⟩ := hr25
       replace he25 : El _ _ 2 _ _ := he25
       refine W_ix rfl Go.Proofs.Try.underlying27 Ty.cells34 Ty.info34 rfl rfl he25 hp25 rfl ?_
       refine W_guard_yes rfl ?_
       refine W_fld 0 rfl Ty.field34_0 rfl he25 ?_
       refine W_guard_yes rfl ?_
       refine W_ld1 0 rfl Ty.cell9 rfl he25 (by omega) rfl ?_
       refine W_guard_yes rfl ?_
       refine W_eqlS rfl rfl rfl ?_
       refine W_pick_t rfl rfl rfl ?_
       refine W_move rfl rfl ?_
       refine W_known (t := 24) true rfl hb13 ?_
       refine W_guard_yes rfl ?_
       refine W_move rfl rfl ?_
       refine W_guard_yes rfl ?_
       have hy26 := hr7
       rw [only_t (by first | rfl | (rw [hb12, hb13, hb11]; first | done | rfl) | simp [hb11, hb12, hb13, hb14, hb15])] at hy26
       refine W_call rfl Ty.named21 rfl (tree_Check_ok (now_agree _) (hS4.rowNow (k := 0) rfl) hy26) ?_
       rintro v27 w27 ⟨Fr7, rfl, hT27⟩
       have hS27 := hS4.lent hT27
       refine W_guard_yes rfl ?_
       refine W_eql rfl rfl rfl ?_
       refine W_pick_t rfl rfl rfl ?_
       refine W_move rfl rfl ?_
       refine W_known (t := 29) true rfl hb14 ?_
       refine W_guard_yes rfl ?_
       have hy28 := hr8
       rw [only_t (by first | rfl | (rw [hb12, hb13, hb11, hb14]; first | done | rfl) | simp [hb11, hb12, hb13, hb14, hb15])] at hy28
       refine W_call rfl Ty.named15 rfl (tree_Name_ok hS27.agree hy28) ?_
       rintro v29 w29 ⟨Fr8, rfl, hT29⟩
       have hS29 := hS27.lent hT29
       refine W_pick_t rfl rfl rfl ?_
       refine W_move rfl rfl ?_
       refine W_known (t := 32) false rfl hb15 ?_
       refine W_guard_no rfl rfl rfl rfl rfl ?_
       refine W_guard_no rfl rfl rfl rfl rfl ?_
       refine W_pick_f rfl rfl rfl ?_
       refine W_assign rfl rfl ?_
       refine W_nil ?_
       exact N_join _ ⟨rfl, Fr2, (Frz.le.refl _), hS29⟩ ⟨(look_bool rfl (by first | rfl | (rw [hb12, hb13, hb11, hb14, hb15]; first | done | rfl) | simp [hb11, hb12, hb13, hb14, hb15])), trivial⟩
     ·
      refine C_region ?_
      refine W_move rfl rfl ?_
      refine W_eql rfl rfl rfl ?_
      refine W_move rfl rfl ?_
      refine W_known (t := 12) true rfl hb11 ?_
      refine W_guard_yes rfl ?_
      refine W_move rfl rfl ?_
      refine W_guard_yes rfl ?_
      refine W_lenv rfl Go.Proofs.Try.underlying27 rfl (hS4.rowLn (k := 0) rfl) ?_
      refine W_guard_yes rfl ?_
      refine W_eql rfl rfl rfl ?_
      refine W_pick_t rfl rfl rfl ?_
      refine W_move rfl rfl ?_
      refine W_known (t := 17) true rfl hb12 ?_
      refine W_guard_yes rfl ?_
      refine W_move rfl rfl ?_
      refine W_guard_yes rfl ?_
      have hy30 := hx5
      rw [only_t (by first | rfl | (rw [hb12, hb11]; first | done | rfl) | simp [hb11, hb12, hb13, hb14])] at hy30
      obtain ⟨hp31, hy31⟩ := ix_some hy30
      obtain ⟨cs31, hr31, he31⟩ := hS4.rowAt (k := 0) rfl hy31
      obtain ⟨ue6_0, rfl, hue6_0⟩ := hr31
      replace he31 : El _ _ 2 _ _ := he31
      refine W_ix rfl Go.Proofs.Try.underlying27 Ty.cells34 Ty.info34 rfl rfl he31 hp31 rfl ?_
      refine W_guard_yes rfl ?_
      refine W_fld 0 rfl Ty.field34_0 rfl he31 ?_
      refine W_guard_yes rfl ?_
      refine W_ld1 0 rfl Ty.cell9 rfl he31 (by omega) rfl ?_
      refine W_guard_yes rfl ?_
      refine W_eqlS rfl rfl rfl ?_
      refine W_pick_t rfl rfl rfl ?_
      refine W_move rfl rfl ?_
      refine W_known (t := 24) true rfl hb13 ?_
      refine W_guard_yes rfl ?_
      refine W_move rfl rfl ?_
      refine W_guard_yes rfl ?_
      have hy32 := hr7
      rw [only_t (by first | rfl | (rw [hb12, hb13, hb11]; first | done | rfl) | simp [hb11, hb12, hb13, hb14])] at hy32
      refine W_call rfl Ty.named21 rfl (tree_Check_ok (now_agree _) (hS4.rowNow (k := 0) rfl) hy32) ?_
      rintro v33 w33 ⟨Fr7, rfl, hT33⟩
      have hS33 := hS4.lent hT33
      refine W_guard_yes rfl ?_
      refine W_eql rfl rfl rfl ?_
      refine W_pick_t rfl rfl rfl ?_
      refine W_move rfl rfl ?_
      refine W_known (t := 29) false rfl hb14 ?_
      refine W_guard_no rfl rfl rfl rfl rfl ?_
      refine W_pick_f rfl rfl rfl ?_
      refine W_move rfl rfl ?_
      refine W_guard_no rfl rfl rfl rfl rfl ?_
      refine W_guard_no rfl rfl rfl rfl rfl ?_
      refine W_pick_f rfl rfl rfl ?_
      refine W_assign rfl rfl ?_
      refine W_nil ?_
      exact N_join _ ⟨rfl, Fr2, (Frz.le.refl _), hS33⟩ ⟨(look_bool rfl (by first | rfl | (rw [hb12, hb13, hb11, hb14]; first | done | rfl) | simp [hb11, hb12, hb13, hb14])), trivial⟩
    ·
     refine C_region ?_
     refine W_move rfl rfl ?_
     refine W_eql rfl rfl rfl ?_
     refine W_move rfl rfl ?_
     refine W_known (t := 12) true rfl hb11 ?_
     refine W_guard_yes rfl ?_
     refine W_move rfl rfl ?_
     refine W_guard_yes rfl ?_
     refine W_lenv rfl Go.Proofs.Try.underlying27 rfl (hS4.rowLn (k := 0) rfl) ?_
     refine W_guard_yes rfl ?_
     refine W_eql rfl rfl rfl ?_
     refine W_pick_t rfl rfl rfl ?_
     refine W_move rfl rfl ?_
     refine W_known (t := 17) true rfl hb12 ?_
     refine W_guard_yes rfl ?_
     refine W_move rfl rfl ?_
     refine W_guard_yes rfl ?_
     have hy34 := hx5
     rw [only_t (by first | rfl | (rw [hb12, hb11]; first | done | rfl) | simp [hb11, hb12, hb13])] at hy34
     obtain ⟨hp35, hy35⟩ := ix_some hy34
     obtain ⟨cs35, hr35, he35⟩ := hS4.rowAt (k := 0) rfl hy35
     obtain ⟨ue6_0, rfl, hue6_0⟩ := hr35
     replace he35 : El _ _ 2 _ _ := he35
     refine W_ix rfl Go.Proofs.Try.underlying27 Ty.cells34 Ty.info34 rfl rfl he35 hp35 rfl ?_
     refine W_guard_yes rfl ?_
     refine W_fld 0 rfl Ty.field34_0 rfl he35 ?_
     refine W_guard_yes rfl ?_
     refine W_ld1 0 rfl Ty.cell9 rfl he35 (by omega) rfl ?_
     refine W_guard_yes rfl ?_
     refine W_eqlS rfl rfl rfl ?_
     refine W_pick_t rfl rfl rfl ?_
     refine W_move rfl rfl ?_
     refine W_known (t := 24) false rfl hb13 ?_
     refine W_guard_no rfl rfl rfl rfl rfl ?_
     refine W_guard_no rfl rfl rfl rfl rfl ?_
     refine W_guard_no rfl rfl rfl rfl rfl ?_
     refine W_pick_f rfl rfl rfl ?_
     refine W_move rfl rfl ?_
     refine W_guard_no rfl rfl rfl rfl rfl ?_
     refine W_pick_f rfl rfl rfl ?_
     refine W_move rfl rfl ?_
     refine W_guard_no rfl rfl rfl rfl rfl ?_
     refine W_guard_no rfl rfl rfl rfl rfl ?_
     refine W_pick_f rfl rfl rfl ?_
     refine W_assign rfl rfl ?_
     refine W_nil ?_
     exact N_join _ ⟨rfl, Fr2, (Frz.le.refl _), hS4⟩ ⟨(look_bool rfl (by first | rfl | (rw [hb12, hb13, hb11]; first | done | rfl) | simp [hb11, hb12, hb13])), trivial⟩
   ·
    refine C_region ?_
    refine W_move rfl rfl ?_
    refine W_eql rfl rfl rfl ?_
    refine W_move rfl rfl ?_
    refine W_known (t := 12) true rfl hb11 ?_
    refine W_guard_yes rfl ?_
    refine W_move rfl rfl ?_
    refine W_guard_yes rfl ?_
    refine W_lenv rfl Go.Proofs.Try.underlying27 rfl (hS4.rowLn (k := 0) rfl) ?_
    refine W_guard_yes rfl ?_
    refine W_eql rfl rfl rfl ?_
    refine W_pick_t rfl rfl rfl ?_
    refine W_move rfl rfl ?_
    refine W_known (t := 17) false rfl hb12 ?_
    refine W_guard_no rfl rfl rfl rfl rfl ?_
    refine W_guard_no rfl rfl rfl rfl rfl ?_
    refine W_guard_no rfl rfl rfl rfl rfl ?_
    refine W_guard_no rfl rfl rfl rfl rfl ?_
    refine W_guard_no rfl rfl rfl rfl rfl ?_
    refine W_pick_f rfl rfl rfl ?_
    refine W_move rfl rfl ?_
    refine W_guard_no rfl rfl rfl rfl rfl ?_
    refine W_guard_no rfl rfl rfl rfl rfl ?_
    refine W_guard_no rfl rfl rfl rfl rfl ?_
    refine W_pick_f rfl rfl rfl ?_
    refine W_move rfl rfl ?_
    refine W_guard_no rfl rfl rfl rfl rfl ?_
    refine W_pick_f rfl rfl rfl ?_
    refine W_move rfl rfl ?_
    refine W_guard_no rfl rfl rfl rfl rfl ?_
    refine W_guard_no rfl rfl rfl rfl rfl ?_
    refine W_pick_f rfl rfl rfl ?_
    refine W_assign rfl rfl ?_
    refine W_nil ?_
    exact N_join _ ⟨rfl, Fr2, (Frz.le.refl _), hS4⟩ ⟨(look_bool rfl (by first | rfl | (rw [hb12, hb11]; first | done | rfl) | simp [hb11, hb12])), trivial⟩
  ·
   refine C_region ?_
   refine W_move rfl rfl ?_
   refine W_eql rfl rfl rfl ?_
   refine W_move rfl rfl ?_
   refine W_known (t := 12) false rfl hb11 ?_
   refine W_guard_no rfl rfl rfl rfl rfl ?_
   refine W_guard_no rfl rfl rfl rfl rfl ?_
   refine W_guard_no rfl rfl rfl rfl rfl ?_
   refine W_pick_f rfl rfl rfl ?_
   refine W_move rfl rfl ?_
   refine W_guard_no rfl rfl rfl rfl rfl ?_
   refine W_guard_no rfl rfl rfl rfl rfl ?_
   refine W_guard_no rfl rfl rfl rfl rfl ?_
   refine W_guard_no rfl rfl rfl rfl rfl ?_
   refine W_guard_no rfl rfl rfl rfl rfl ?_
   refine W_pick_f rfl rfl rfl ?_
   refine W_move rfl rfl ?_
   refine W_guard_no rfl rfl rfl rfl rfl ?_
   refine W_guard_no rfl rfl rfl rfl rfl ?_
   refine W_guard_no rfl rfl rfl rfl rfl ?_
   refine W_pick_f rfl rfl rfl ?_
   refine W_move rfl rfl ?_
   refine W_guard_no rfl rfl rfl rfl rfl ?_
   refine W_pick_f rfl rfl rfl ?_
   refine W_move rfl rfl ?_
   refine W_guard_no rfl rfl rfl rfl rfl ?_
   refine W_guard_no rfl rfl rfl rfl rfl ?_
   refine W_pick_f rfl rfl rfl ?_
   refine W_assign rfl rfl ?_
   refine W_nil ?_
   exact N_join _ ⟨rfl, Fr2, (Frz.le.refl _), hS4⟩ ⟨(look_bool rfl (by first | rfl | (rw [hb11]; first | done | rfl) | simp [hb11])), trivial⟩
 rintro E w10 ⟨rfl, F10, le10, hS10⟩
 refine N_code ?_
 obtain rfl := Option.some.inj H
 refine C_ret rfl rfl ?_
 exact ⟨F10, rfl, hS10.pick [] (by decide)⟩

def cellarerlaw05_Heavy.k1 : Option Bool :=
  some false


def cellarerlaw05_Heavy.l2 (x0 : List File) (rec5 : Int → Option Bool) : Int → Option Bool
  | i4 =>
    if decide (i4 < (x0.length : Int)) then
      bd (ix x0 i4) fun x7 =>
      bd (only (!decide (500 < (x7.data.length : Int))) (ix x0 i4) (File.mk [] [])) fun x9 =>
      if (decide (500 < (x7.data.length : Int)) || decide (100 < (x9.path.length : Int))) then
        some true
      else
        rec5 (wr (i4 + 1))
    else
      cellarerlaw05_Heavy.k1

def cellarerlaw05_Heavy (x0 : List File) : Option Bool :=
  if decide (20 < (x0.length : Int)) then
    some true
  else
    loop (cellarerlaw05_Heavy.l2 x0) 0

theorem cellarerlaw05_Heavy_ok {F : Frz} {w : World} {x0 : List File} {r : Bool} {v0 : Value} (hA : Agree F w.heap) (h0 : SlF File.t F v0 x0) (H : cellarerlaw05_Heavy x0 = some r) : Ret Try.prog 17 #[v0] w fun v w' => ∃ (F' : Frz), v = .bool r ∧ St [] w F F' [] w' := by
 refine Ret_of (args := [v0]) Go.Proofs.Try.func17 rfl rfl ?_
 change C _ _ _ _ [(0, v0)] _
 have hS := St.entry hA
 dsimp only [cellarerlaw05_Heavy] at H
 refine C_seq ?_
 refine C_region ?_
 refine W_assign rfl rfl ?_
 refine W_nil ?_
 refine N_code ?_
 refine C_seq ?_
 refine C_seq ?_
 refine C_region ?_
 refine W_move rfl rfl ?_
 refine W_lenv rfl Go.Proofs.Try.underlying27 rfl h0.ln ?_
 refine W_gtr rfl rfl rfl ?_
 refine W_nil ?_
 refine N_code ?_
 refine C_cond rfl (fun hc1 => ?_) (fun hc1 => ?_)
 ·
  rw [if_t hc1] at H
  refine C_seq ?_
  refine C_region ?_
  refine W_assign rfl rfl ?_
  refine W_nil ?_
  refine N_code ?_
  obtain rfl := Option.some.inj H
  refine C_ret rfl rfl ?_
  exact ⟨F, rfl, hS⟩
 ·
  rw [if_f hc1] at H
  refine C_skip ?_
  refine N_code ?_
  refine C_seq_join (fun E wq => cellarerlaw05_Heavy.k1 = some r ∧ ∃ (F2 : Frz), E = [] ∧ F.le F2 ∧ St [] w F F2 [] wq) ?_ ?_
  ·
   refine C_seq ?_
   refine C_region ?_
   refine W_assign rfl rfl ?_
   refine W_nil ?_
   refine N_code ?_
   refine C_block ?_
   refine C_loopM (fun (s : Int) E wq => ∃ (F3 : Frz), E = [(0, v0), (3, .int .i64 s)] ∧ F.le F3 ∧ St [] w F F3 [] wq) H ?_ ?_
   ·
    exact ⟨_, ⟨F, rfl, (Frz.le.refl _), hS⟩, ⟨rfl, rfl, trivial⟩⟩
   ·
    rintro rec5 i4 E w3 hI H
    try dsimp only at hI
    obtain ⟨F3, rfl, le3, hS3⟩ := hI
    dsimp only [cellarerlaw05_Heavy.l2] at H
    refine C_seq ?_
    refine C_seq ?_
    refine C_region ?_
    refine W_move rfl rfl ?_
    refine W_move rfl rfl ?_
    refine W_lenv rfl Go.Proofs.Try.underlying27 rfl h0.ln ?_
    refine W_lss rfl rfl rfl ?_
    refine W_nil ?_
    refine N_code ?_
    refine C_cond rfl (fun hc6 => ?_) (fun hc6 => ?_)
    ·
     rw [if_t hc6] at H
     refine C_skip ?_
     refine N_code ?_
     refine C_seq ?_
     refine C_block ?_
     refine C_seq ?_
     obtain ⟨x7, hx7, H⟩ := bd_some H
     obtain ⟨x9, hx9, H⟩ := bd_some H
     refine C_join (fun E wq => E = [(0, v0), (3, .int .i64 i4), (28, .bool (decide (500 < (x7.data.length : Int)) || decide (100 < (x9.path.length : Int))))] ∧ ∃ F11 : Frz, F3.le F11 ∧ St [] w F F11 [] wq) ?_ ?_
     ·
      rcases Bool.eq_false_or_eq_true (decide (500 < (x7.data.length : Int))) with hb12 | hb12
      ·
       refine C_region ?_
       refine W_move rfl rfl ?_
       refine W_move rfl rfl ?_
       obtain ⟨hp13, hy13⟩ := ix_some hx7
       obtain ⟨cs13, hr13, he13⟩ := (h0.mono le3).at_ hy13
       obtain ⟨ue8_0, rfl, hue8_0⟩ := hr13
       replace he13 : Elf _ _ 2 _ _ := he13
       refine W_ix rfl Go.Proofs.Try.underlying27 Ty.cells34 Ty.info34 rfl rfl (he13.el hS3.agree) hp13 rfl ?_
       refine W_fld 1 rfl Ty.field34_1 rfl (he13.el hS3.agree) ?_
       refine W_ld1 1 rfl Ty.cell25 rfl (he13.el hS3.agree) (by omega) rfl ?_
       refine W_lenv rfl Go.Proofs.Try.underlying25 rfl hue8_0.ln ?_
       refine W_gtr rfl rfl rfl ?_
       refine W_move rfl rfl ?_
       refine W_known (t := 20) true rfl hb12 ?_
       refine W_guard_no rfl rfl rfl rfl rfl ?_
       refine W_guard_no rfl rfl rfl rfl rfl ?_
       refine W_guard_no rfl rfl rfl rfl rfl ?_
       refine W_guard_no rfl rfl rfl rfl rfl ?_
       refine W_guard_no rfl rfl rfl rfl rfl ?_
       refine W_guard_no rfl rfl rfl rfl rfl ?_
       refine W_guard_no rfl rfl rfl rfl rfl ?_
       refine W_pick_t rfl rfl rfl ?_
       refine W_nil ?_
       exact N_join _ ⟨rfl, F3, (Frz.le.refl _), hS3⟩ ⟨rfl, rfl, (look_bool rfl (by first | rfl | (rw [hb12]; first | done | rfl) | simp [hb12])), trivial⟩
      ·
       refine C_region ?_
       refine W_move rfl rfl ?_
       refine W_move rfl rfl ?_
       obtain ⟨hp14, hy14⟩ := ix_some hx7
       obtain ⟨cs14, hr14, he14⟩ := (h0.mono le3).at_ hy14
       obtain ⟨ue8_0, rfl, hue8_0⟩ := hr14
       replace he14 : Elf _ _ 2 _ _ := he14
       refine W_ix rfl Go.Proofs.Try.underlying27 Ty.cells34 Ty.info34 rfl rfl (he14.el hS3.agree) hp14 rfl ?_
       refine W_fld 1 rfl Ty.field34_1 rfl (he14.el hS3.agree) ?_
       refine W_ld1 1 rfl Ty.cell25 rfl (he14.el hS3.agree) (by omega) rfl ?_
       refine W_lenv rfl Go.Proofs.Try.underlying25 rfl hue8_0.ln ?_
       refine W_gtr rfl rfl rfl ?_
       refine W_move rfl rfl ?_
       refine W_known (t := 20) false rfl hb12 ?_
       refine W_guard_yes rfl ?_
       refine W_move rfl rfl ?_
       refine W_guard_yes rfl ?_
       refine W_move rfl rfl ?_
       refine W_guard_yes rfl ?_
       have hy15 := hx9
       rw [only_t (by first | rfl | (rw [hb12]; first | done | rfl) | simp [hb12])] at hy15
       obtain ⟨hp16, hy16⟩ := ix_some hy15
       obtain ⟨cs16, hr16, he16⟩ := (h0.mono le3).at_ hy16
       obtain ⟨ue10_0, rfl, hue10_0⟩ := hr16
       replace he16 : Elf _ _ 2 _ _ := he16
       refine W_ix rfl Go.Proofs.Try.underlying27 Ty.cells34 Ty.info34 rfl rfl (he16.el hS3.agree) hp16 rfl ?_
       refine W_guard_yes rfl ?_
       refine W_fld 0 rfl Ty.field34_0 rfl (he16.el hS3.agree) ?_
       refine W_guard_yes rfl ?_
       refine W_ld1 0 rfl Ty.cell9 rfl (he16.el hS3.agree) (by omega) rfl ?_
       refine W_guard_yes rfl ?_
       refine W_lenS rfl Go.Proofs.Try.underlying9 rfl ?_
       refine W_guard_yes rfl ?_
       refine W_gtr rfl rfl rfl ?_
       refine W_pick_f rfl rfl rfl ?_
       refine W_nil ?_
       exact N_join _ ⟨rfl, F3, (Frz.le.refl _), hS3⟩ ⟨rfl, rfl, (look_bool rfl (by first | rfl | (rw [hb12]; first | done | rfl) | simp [hb12])), trivial⟩
     rintro E w11 ⟨rfl, F11, le11, hS11⟩
     refine N_code ?_
     refine C_cond rfl (fun hc17 => ?_) (fun hc17 => ?_)
     ·
      rw [if_t hc17] at H
      refine C_seq ?_
      refine C_region ?_
      refine W_assign rfl rfl ?_
      refine W_nil ?_
      refine N_code ?_
      obtain rfl := Option.some.inj H
      refine C_ret rfl rfl ?_
      exact ⟨F11, rfl, hS11⟩
     ·
      rw [if_f hc17] at H
      refine C_skip ?_
      refine N_block ?_
      refine N_code ?_
      refine C_region ?_
      refine W_move rfl rfl ?_
      refine W_add rfl rfl rfl rfl ?_
      refine W_assign rfl rfl ?_
      refine W_nil ?_
      exact N_againM (wr (i4 + 1)) _ H ⟨F11, rfl, (le3.trans le11), hS11⟩ ⟨rfl, rfl, trivial⟩
    ·
     rw [if_f hc6] at H
     refine C_exit _ rfl ?_
     exact N_join _ ⟨H, ⟨F3, rfl, le3, hS3⟩⟩ trivial
  ·
   rintro E w2 ⟨H, F2, rfl, le2, hS2⟩
   dsimp only [cellarerlaw05_Heavy.k1] at H
   refine C_seq ?_
   refine C_region ?_
   refine W_assign rfl rfl ?_
   refine W_nil ?_
   refine N_code ?_
   obtain rfl := Option.some.inj H
   refine C_ret rfl rfl ?_
   exact ⟨F2, rfl, hS2⟩

def bytes_Equal (x0 : List UInt8) (x1 : List UInt8) : Option Bool :=
  some (x0 == x1)

theorem bytes_Equal_ok {F : Frz} {w : World} {x0 : List UInt8} {x1 : List UInt8} {r : Bool} {v0 : Value} {v1 : Value} (hA : Agree F w.heap) (h0 : SlF tB F v0 x0) (h1 : SlF tB F v1 x1) (H : bytes_Equal x0 x1 = some r) : Ret Try.prog 64 #[v0, v1] w fun v w' => ∃ (F' : Frz), v = .bool r ∧ St [] w F F' [] w' := by
 refine Ret_of (args := [v0, v1]) Go.Proofs.Try.func64 rfl rfl ?_
 change C _ _ _ _ [(0, v0), (1, v1)] _
 have hS := St.entry hA
 dsimp only [bytes_Equal] at H
 refine C_seq ?_
 refine C_region ?_
 refine W_assign rfl rfl ?_
 refine W_nil ?_
 refine N_code ?_
 refine C_seq ?_
 refine C_region ?_
 refine W_move rfl rfl ?_
 refine W_bstr rfl Go.Proofs.Try.underlying25 Go.Proofs.Try.underlying5 Go.Proofs.Try.underlying9 rfl (h0.src hS.agree) ?_
 refine W_move rfl rfl ?_
 refine W_bstr rfl Go.Proofs.Try.underlying25 Go.Proofs.Try.underlying5 Go.Proofs.Try.underlying9 rfl (h1.src hS.agree) ?_
 refine W_eqlS rfl rfl rfl ?_
 refine W_assign rfl rfl ?_
 refine W_nil ?_
 refine N_code ?_
 obtain rfl := Option.some.inj H
 refine C_ret rfl rfl ?_
 exact ⟨F, rfl, hS⟩

def tree_Same_1 (x0 : File) (x1 : File) : Option Bool :=
  bd (only (x0.path == x1.path) (bytes_Equal x0.data x1.data) false) fun r3 =>
  some ((x0.path == x1.path) && r3)

theorem tree_Same_1_ok {F : Frz} {w : World} {x0 : File} {x1 : File} {r : Bool} {v0_0 : Value} {v1_0 : Value} (hA : Agree F w.heap) (h0_0 : SlF tB F v0_0 x0.data) (h1_0 : SlF tB F v1_0 x1.data) (H : tree_Same_1 x0 x1 = some r) : Ret Try.prog 63 #[.agg (File.cells x0 v0_0).toArray, .agg (File.cells x1 v1_0).toArray] w fun v w' => ∃ (F' : Frz), v = .bool r ∧ St [] w F F' [] w' := by
 refine Ret_of (args := [.agg (File.cells x0 v0_0).toArray, .agg (File.cells x1 v1_0).toArray]) Go.Proofs.Try.func63 rfl rfl ?_
 change C _ _ _ _ [(0, .agg (File.cells x0 v0_0).toArray), (1, .agg (File.cells x1 v1_0).toArray)] _
 have hS := St.entry hA
 dsimp only [tree_Same_1] at H
 refine C_seq ?_
 refine C_region ?_
 refine W_bx (cs := [strV x0.path, v0_0]) rfl rfl rfl hS ?_
 intro g1 w1 hS1
 refine W_bx (cs := [strV x1.path, v1_0]) rfl rfl rfl hS1 ?_
 intro g2 w2 hS2
 refine W_assign rfl rfl ?_
 refine W_nil ?_
 refine N_code ?_
 refine C_seq ?_
 obtain ⟨r3, hr3, H⟩ := bd_some H
 refine C_join (fun E wq => E = [(4, .bool ((x0.path == x1.path) && r3))] ∧ ∃ F4 : Frz, F.le F4 ∧ St [] w F F4 [.box g2 34 [strV x1.path, v1_0], .box g1 34 [strV x0.path, v0_0]] wq) ?_ ?_
 ·
  rcases Bool.eq_false_or_eq_true (x0.path == x1.path) with hb5 | hb5
  ·
   refine C_region ?_
   refine W_field_pl 0 rfl Ty.field34_0 rfl ?_
   refine W_bld1 1 rfl Ty.cell9 rfl hS2 rfl rfl ?_
   refine W_field_pl 0 rfl Ty.field34_0 rfl ?_
   refine W_bld1 0 rfl Ty.cell9 rfl hS2 rfl rfl ?_
   refine W_eqlS rfl rfl rfl ?_
   refine W_move rfl rfl ?_
   refine W_known (t := 10) true rfl hb5 ?_
   refine W_guard_yes rfl ?_
   refine W_field_pl 1 rfl Ty.field34_1 rfl ?_
   refine W_guard_yes rfl ?_
   refine W_bld1 1 rfl Ty.cell25 rfl hS2 rfl rfl ?_
   refine W_guard_yes rfl ?_
   refine W_field_pl 1 rfl Ty.field34_1 rfl ?_
   refine W_guard_yes rfl ?_
   refine W_bld1 0 rfl Ty.cell25 rfl hS2 rfl rfl ?_
   refine W_guard_yes rfl ?_
   have hy6 := hr3
   rw [only_t hb5] at hy6
   refine W_call rfl Ty.named64 rfl (bytes_Equal_ok hS2.agree h0_0 h1_0 hy6) ?_
   rintro v7 w7 ⟨Fr3, rfl, hT7⟩
   have hS7 := hS2.lent hT7
   refine W_pick_t rfl rfl rfl ?_
   refine W_assign rfl rfl ?_
   refine W_nil ?_
   exact N_join _ ⟨rfl, F, (Frz.le.refl _), hS7⟩ ⟨(look_bool rfl (by first | rfl | (rw [hb5]; first | done | rfl) | simp [hb5])), trivial⟩
  ·
   refine C_region ?_
   refine W_field_pl 0 rfl Ty.field34_0 rfl ?_
   refine W_bld1 1 rfl Ty.cell9 rfl hS2 rfl rfl ?_
   refine W_field_pl 0 rfl Ty.field34_0 rfl ?_
   refine W_bld1 0 rfl Ty.cell9 rfl hS2 rfl rfl ?_
   refine W_eqlS rfl rfl rfl ?_
   refine W_move rfl rfl ?_
   refine W_known (t := 10) false rfl hb5 ?_
   refine W_guard_no rfl rfl rfl rfl rfl ?_
   refine W_guard_no rfl rfl rfl rfl rfl ?_
   refine W_guard_no rfl rfl rfl rfl rfl ?_
   refine W_guard_no rfl rfl rfl rfl rfl ?_
   refine W_guard_no rfl rfl rfl rfl rfl ?_
   refine W_pick_f rfl rfl rfl ?_
   refine W_assign rfl rfl ?_
   refine W_nil ?_
   exact N_join _ ⟨rfl, F, (Frz.le.refl _), hS2⟩ ⟨(look_bool rfl (by first | rfl | (rw [hb5]; first | done | rfl) | simp [hb5])), trivial⟩
 rintro E w4 ⟨rfl, F4, le4, hS4⟩
 refine N_code ?_
 obtain rfl := Option.some.inj H
 refine C_ret rfl rfl ?_
 exact ⟨F4, rfl, hS4.pick [] (by decide)⟩

def slices_EqualFunc_api_File_api_File_api_File_api_File_tree_Same_1.k1 : Option Bool :=
  some true


def slices_EqualFunc_api_File_api_File_api_File_api_File_tree_Same_1.l2 (x0 : List File) (x1 : List File) (rec5 : Int → Option Bool) : Int → Option Bool
  | i4 =>
    if decide (i4 < (x0.length : Int)) then
      bd (ix x0 i4) fun x7 =>
      bd (ix x1 i4) fun x12 =>
      bd (tree_Same_1 x7 x12) fun r17 =>
      if (!r17) then
        some false
      else
        rec5 (wr (i4 + 1))
    else
      slices_EqualFunc_api_File_api_File_api_File_api_File_tree_Same_1.k1

def slices_EqualFunc_api_File_api_File_api_File_api_File_tree_Same_1 (x0 : List File) (x1 : List File) : Option Bool :=
  if decide ((x0.length : Int) ≠ (x1.length : Int)) then
    some false
  else
    loop (slices_EqualFunc_api_File_api_File_api_File_api_File_tree_Same_1.l2 x0 x1) 0

theorem slices_EqualFunc_api_File_api_File_api_File_api_File_tree_Same_1_ok {F : Frz} {w : World} {x0 : List File} {x1 : List File} {r : Bool} {v0 : Value} {v1 : Value} (hA : Agree F w.heap) (h0 : SlF File.t F v0 x0) (h1 : SlF File.t F v1 x1) (H : slices_EqualFunc_api_File_api_File_api_File_api_File_tree_Same_1 x0 x1 = some r) : Ret Try.prog 62 #[v0, v1, .func (.func 63) #[] #[]] w fun v w' => ∃ (F' : Frz), v = .bool r ∧ St [] w F F' [] w' := by
 refine Ret_of (args := [v0, v1, .func (.func 63) #[] #[]]) Go.Proofs.Try.func62 rfl rfl ?_
 change C _ _ _ _ [(0, v0), (1, v1), (2, .func (.func 63) #[] #[])] _
 have hS := St.entry hA
 dsimp only [slices_EqualFunc_api_File_api_File_api_File_api_File_tree_Same_1] at H
 refine C_seq ?_
 refine C_region ?_
 refine W_assign rfl rfl ?_
 refine W_nil ?_
 refine N_code ?_
 refine C_seq ?_
 refine C_seq ?_
 refine C_region ?_
 refine W_move rfl rfl ?_
 refine W_lenv rfl Go.Proofs.Try.underlying27 rfl h0.ln ?_
 refine W_move rfl rfl ?_
 refine W_lenv rfl Go.Proofs.Try.underlying27 rfl h1.ln ?_
 refine W_neq rfl rfl rfl ?_
 refine W_nil ?_
 refine N_code ?_
 refine C_cond rfl (fun hc1 => ?_) (fun hc1 => ?_)
 ·
  rw [if_t hc1] at H
  refine C_seq ?_
  refine C_region ?_
  refine W_assign rfl rfl ?_
  refine W_nil ?_
  refine N_code ?_
  obtain rfl := Option.some.inj H
  refine C_ret rfl rfl ?_
  exact ⟨F, rfl, hS⟩
 ·
  rw [if_f hc1] at H
  refine C_skip ?_
  refine N_code ?_
  refine C_seq_join (fun E wq => slices_EqualFunc_api_File_api_File_api_File_api_File_tree_Same_1.k1 = some r ∧ ∃ (F2 : Frz), E = [] ∧ F.le F2 ∧ St [] w F F2 [] wq) ?_ ?_
  ·
   refine C_seq ?_
   refine C_region ?_
   refine W_move rfl rfl ?_
   refine W_lenv rfl Go.Proofs.Try.underlying27 rfl h0.ln ?_
   refine W_move rfl rfl ?_
   refine W_nil ?_
   refine N_code ?_
   refine C_block ?_
   refine C_loopM (fun (s : Int) E wq => ∃ (F3 : Frz), E = [(1, v1), (2, .func (.func 63) #[] #[]), (15, v0), (16, .int .i64 (x0.length : Int)), (17, .int .i64 s)] ∧ F.le F3 ∧ St [] w F F3 [] wq) H ?_ ?_
   ·
    exact ⟨_, ⟨F, rfl, (Frz.le.refl _), hS⟩, ⟨rfl, rfl, rfl, rfl, rfl, trivial⟩⟩
   ·
    rintro rec5 i4 E w3 hI H
    try dsimp only at hI
    obtain ⟨F3, rfl, le3, hS3⟩ := hI
    dsimp only [slices_EqualFunc_api_File_api_File_api_File_api_File_tree_Same_1.l2] at H
    refine C_seq ?_
    refine C_region ?_
    refine W_lss rfl rfl rfl ?_
    refine W_nil ?_
    refine N_code ?_
    refine C_seq ?_
    refine C_cond rfl (fun hc6 => ?_) (fun hc6 => ?_)
    ·
     rw [if_t hc6] at H
     refine C_skip ?_
     refine N_code ?_
     refine C_seq ?_
     refine C_block ?_
     refine C_seq ?_
     obtain ⟨x7, hx7, H⟩ := bd_some H
     refine C_region ?_
     refine W_move rfl rfl ?_
     obtain ⟨hp10, hy10⟩ := ix_some hx7
     obtain ⟨cs10, hr10, he10⟩ := (h0.mono le3).at_ hy10
     obtain ⟨ue8_0, rfl, hue8_0⟩ := hr10
     replace he10 : Elf _ _ 2 _ _ := he10
     refine W_ix rfl Go.Proofs.Try.underlying27 Ty.cells34 Ty.info34 rfl rfl (he10.el hS3.agree) hp10 rfl ?_
     refine W_ldg 0 ((File.cells x7 ue8_0)) rfl Ty.agg34 Ty.size34 rfl (he10.el hS3.agree) (by omega) (fun q u h => sub_at (post := []) rfl h) ?_
     refine W_alc (cs := [strV [], .slice none 0 0]) rfl Ty.zero34 rfl hS3 ?_
     intro g9 w9 hS9
     refine W_assign rfl rfl ?_
     refine W_bst (c := [strV x7.path, ue8_0]) 0 ([strV x7.path, ue8_0]) rfl rfl hS9 rfl rfl Ty.size34 (fun y hy => File.t.one (F := F3) (x := x7) ⟨ue8_0, rfl, hue8_0⟩ y hy) (Nat.le_of_ble_eq_true rfl) rfl ?_
     intro w11 hS11
     refine W_nil ?_
     refine N_code ?_
     refine C_seq ?_
     obtain ⟨x12, hx12, H⟩ := bd_some H
     refine C_region ?_
     refine W_move rfl rfl ?_
     refine W_move rfl rfl ?_
     obtain ⟨hp15, hy15⟩ := ix_some hx12
     obtain ⟨cs15, hr15, he15⟩ := (h1.mono le3).at_ hy15
     obtain ⟨ue13_0, rfl, hue13_0⟩ := hr15
     replace he15 : Elf _ _ 2 _ _ := he15
     refine W_ix rfl Go.Proofs.Try.underlying27 Ty.cells34 Ty.info34 rfl rfl (he15.el hS11.agree) hp15 rfl ?_
     refine W_ldg 0 ((File.cells x12 ue13_0)) rfl Ty.agg34 Ty.size34 rfl (he15.el hS11.agree) (by omega) (fun q u h => sub_at (post := []) rfl h) ?_
     refine W_alc (cs := [strV [], .slice none 0 0]) rfl Ty.zero34 rfl hS11 ?_
     intro g14 w14 hS14
     refine W_bst (c := [strV x12.path, ue13_0]) 0 ([strV x12.path, ue13_0]) rfl rfl hS14 rfl rfl Ty.size34 (fun y hy => File.t.one (F := F3) (x := x12) ⟨ue13_0, rfl, hue13_0⟩ y hy) (Nat.le_of_ble_eq_true rfl) rfl ?_
     intro w16 hS16
     refine W_nil ?_
     refine N_code ?_
     refine C_seq ?_
     obtain ⟨r17, hr17, H⟩ := bd_some H
     refine C_region ?_
     refine W_move rfl rfl ?_
     refine W_bldg 1 ((File.cells x7 ue8_0)) rfl Ty.agg34 Ty.size34 rfl hS16 rfl (fun q u h => sub_at (post := []) rfl h) ?_
     refine W_bldg 0 ((File.cells x12 ue13_0)) rfl Ty.agg34 Ty.size34 rfl hS16 rfl (fun q u h => sub_at (post := []) rfl h) ?_
     refine W_callv rfl Ty.named63 rfl rfl (tree_Same_1_ok hS16.agree hue8_0 hue13_0 hr17) ?_
     rintro v18 w18 ⟨Fr17, rfl, hT18⟩
     have hS18 := hS16.lent hT18
     refine W_not rfl rfl ?_
     refine W_nil ?_
     refine N_code ?_
     refine C_cond rfl (fun hc19 => ?_) (fun hc19 => ?_)
     ·
      rw [if_t hc19] at H
      refine C_seq ?_
      refine C_region ?_
      refine W_assign rfl rfl ?_
      refine W_nil ?_
      refine N_code ?_
      obtain rfl := Option.some.inj H
      refine C_ret rfl rfl ?_
      exact ⟨F3, rfl, hS18.pick [] (by decide)⟩
     ·
      rw [if_f hc19] at H
      refine C_skip ?_
      refine N_block ?_
      refine N_code ?_
      refine C_region ?_
      refine W_add rfl rfl rfl rfl ?_
      refine W_move rfl rfl ?_
      refine W_nil ?_
      exact N_againM (wr (i4 + 1)) _ H ⟨F3, rfl, le3, hS18.pick [] (by decide)⟩ ⟨rfl, rfl, rfl, rfl, rfl, trivial⟩
    ·
     rw [if_f hc6] at H
     refine C_exit _ rfl ?_
     exact N_join _ ⟨H, ⟨F3, rfl, le3, hS3⟩⟩ trivial
  ·
   rintro E w2 ⟨H, F2, rfl, le2, hS2⟩
   dsimp only [slices_EqualFunc_api_File_api_File_api_File_api_File_tree_Same_1.k1] at H
   refine C_seq ?_
   refine C_region ?_
   refine W_assign rfl rfl ?_
   refine W_nil ?_
   refine N_code ?_
   obtain rfl := Option.some.inj H
   refine C_ret rfl rfl ?_
   exact ⟨F2, rfl, hS2⟩

def tree_Same (x0 : List File) (x1 : List File) : Option Bool :=
  bd (slices_EqualFunc_api_File_api_File_api_File_api_File_tree_Same_1 x0 x1) fun r1 =>
  some r1

theorem tree_Same_ok {F : Frz} {w : World} {x0 : List File} {x1 : List File} {r : Bool} {v0 : Value} {v1 : Value} (hA : Agree F w.heap) (h0 : SlF File.t F v0 x0) (h1 : SlF File.t F v1 x1) (H : tree_Same x0 x1 = some r) : Ret Try.prog 27 #[v0, v1] w fun v w' => ∃ (F' : Frz), v = .bool r ∧ St [] w F F' [] w' := by
 refine Ret_of (args := [v0, v1]) Go.Proofs.Try.func27 rfl rfl ?_
 change C _ _ _ _ [(0, v0), (1, v1)] _
 have hS := St.entry hA
 dsimp only [tree_Same] at H
 refine C_seq ?_
 refine C_region ?_
 refine W_assign rfl rfl ?_
 refine W_nil ?_
 refine N_code ?_
 refine C_seq ?_
 obtain ⟨r1, hr1, H⟩ := bd_some H
 refine C_region ?_
 refine W_move rfl rfl ?_
 refine W_move rfl rfl ?_
 refine W_call rfl Ty.named62 rfl (slices_EqualFunc_api_File_api_File_api_File_api_File_tree_Same_1_ok hS.agree h0 h1 hr1) ?_
 rintro v2 w2 ⟨Fr1, rfl, hT2⟩
 have hS2 := hS.lent hT2
 refine W_assign rfl rfl ?_
 refine W_nil ?_
 refine N_code ?_
 obtain rfl := Option.some.inj H
 refine C_ret rfl rfl ?_
 exact ⟨F, rfl, hS2⟩

def cellarerkeep_Bytes.k1 : Option Bool :=
  some true


def cellarerkeep_Bytes.l2 (x0 : List UInt8) (x1 : List UInt8) (rec5 : Int → Option Bool) : Int → Option Bool
  | i4 =>
    if decide (i4 < (x0.length : Int)) then
      bd (ix x0 i4) fun x7 =>
      bd (ix x1 i4) fun x9 =>
      if decide ((x7.toNat : Int) ≠ (x9.toNat : Int)) then
        some false
      else
        rec5 (wr (i4 + 1))
    else
      cellarerkeep_Bytes.k1

def cellarerkeep_Bytes (x0 : List UInt8) (x1 : List UInt8) : Option Bool :=
  if decide ((x0.length : Int) ≠ (x1.length : Int)) then
    some false
  else
    loop (cellarerkeep_Bytes.l2 x0 x1) 0

theorem cellarerkeep_Bytes_ok {F : Frz} {w : World} {x0 : List UInt8} {x1 : List UInt8} {r : Bool} {v0 : Value} {v1 : Value} (hA : Agree F w.heap) (h0 : SlF tB F v0 x0) (h1 : SlF tB F v1 x1) (H : cellarerkeep_Bytes x0 x1 = some r) : Ret Try.prog 28 #[v0, v1] w fun v w' => ∃ (F' : Frz), v = .bool r ∧ St [] w F F' [] w' := by
 refine Ret_of (args := [v0, v1]) Go.Proofs.Try.func28 rfl rfl ?_
 change C _ _ _ _ [(0, v0), (1, v1)] _
 have hS := St.entry hA
 dsimp only [cellarerkeep_Bytes] at H
 refine C_seq ?_
 refine C_region ?_
 refine W_assign rfl rfl ?_
 refine W_nil ?_
 refine N_code ?_
 refine C_seq ?_
 refine C_seq ?_
 refine C_region ?_
 refine W_move rfl rfl ?_
 refine W_lenv rfl Go.Proofs.Try.underlying25 rfl h0.ln ?_
 refine W_move rfl rfl ?_
 refine W_lenv rfl Go.Proofs.Try.underlying25 rfl h1.ln ?_
 refine W_neq rfl rfl rfl ?_
 refine W_nil ?_
 refine N_code ?_
 refine C_cond rfl (fun hc1 => ?_) (fun hc1 => ?_)
 ·
  rw [if_t hc1] at H
  refine C_seq ?_
  refine C_region ?_
  refine W_assign rfl rfl ?_
  refine W_nil ?_
  refine N_code ?_
  obtain rfl := Option.some.inj H
  refine C_ret rfl rfl ?_
  exact ⟨F, rfl, hS⟩
 ·
  rw [if_f hc1] at H
  refine C_skip ?_
  refine N_code ?_
  refine C_seq_join (fun E wq => cellarerkeep_Bytes.k1 = some r ∧ ∃ (F2 : Frz), E = [] ∧ F.le F2 ∧ St [] w F F2 [] wq) ?_ ?_
  ·
   refine C_seq ?_
   refine C_region ?_
   refine W_assign rfl rfl ?_
   refine W_nil ?_
   refine N_code ?_
   refine C_block ?_
   refine C_loopM (fun (s : Int) E wq => ∃ (F3 : Frz), E = [(0, v0), (1, v1), (5, .int .i64 s)] ∧ F.le F3 ∧ St [] w F F3 [] wq) H ?_ ?_
   ·
    exact ⟨_, ⟨F, rfl, (Frz.le.refl _), hS⟩, ⟨rfl, rfl, rfl, trivial⟩⟩
   ·
    rintro rec5 i4 E w3 hI H
    try dsimp only at hI
    obtain ⟨F3, rfl, le3, hS3⟩ := hI
    dsimp only [cellarerkeep_Bytes.l2] at H
    refine C_seq ?_
    refine C_seq ?_
    refine C_region ?_
    refine W_move rfl rfl ?_
    refine W_move rfl rfl ?_
    refine W_lenv rfl Go.Proofs.Try.underlying25 rfl h0.ln ?_
    refine W_lss rfl rfl rfl ?_
    refine W_nil ?_
    refine N_code ?_
    refine C_cond rfl (fun hc6 => ?_) (fun hc6 => ?_)
    ·
     rw [if_t hc6] at H
     refine C_skip ?_
     refine N_code ?_
     refine C_seq ?_
     refine C_block ?_
     refine C_seq ?_
     obtain ⟨x7, hx7, H⟩ := bd_some H
     obtain ⟨x9, hx9, H⟩ := bd_some H
     obtain ⟨hp11, hy11⟩ := ix_some hx7
     obtain ⟨cs11, hr11, he11⟩ := (h0.mono le3).at_ hy11
     obtain rfl := hr11
     replace he11 : Elf _ _ 1 _ _ := he11
     obtain ⟨hp12, hy12⟩ := ix_some hx9
     obtain ⟨cs12, hr12, he12⟩ := (h1.mono le3).at_ hy12
     obtain rfl := hr12
     replace he12 : Elf _ _ 1 _ _ := he12
     apply C_draw 8 [[], [], [0, 1], [2], [], [], [4, 5], [6]] [.val (v0), .val (.int .i64 i4), .val (elp v0 (i4.toNat * 1)), .val (.int .u8 (x7.toNat : Int)), .val (v1), .val (.int .i64 i4), .val (elp v1 (i4.toNat * 1)), .val (.int .u8 (x9.toNat : Int))] Ty.mixed rfl rfl (by kernel_rfl) (by kernel_rfl) rfl
     ·
      refine ⟨?_, ?_, ?_, ?_, ?_, ?_, ?_, ?_, trivial⟩
      ·
       intro w13 vq13 hB13 hH13
       have hS13 := hS3.below hB13
       refine W_move rfl rfl ?_
       refine W_nil ?_
       exact N_step rfl rfl (Below.refl _ _)
      ·
       intro w14 vq14 hB14 hH14
       have hS14 := hS3.below hB14
       refine W_move rfl rfl ?_
       refine W_nil ?_
       exact N_step rfl rfl (Below.refl _ _)
      ·
       intro w15 vq15 hB15 hH15
       have hS15 := hS3.below hB15
       refine W_ix rfl Go.Proofs.Try.underlying25 Ty.cells5 Ty.info5 rfl rfl (he11.el hS15.agree) hp11 rfl ?_
       refine W_nil ?_
       exact N_step rfl rfl (Below.refl _ _)
      ·
       intro w16 vq16 hB16 hH16
       have hS16 := hS3.below hB16
       refine W_ld1 0 rfl Ty.cell5 rfl (he11.el hS16.agree) (by omega) rfl ?_
       refine W_nil ?_
       exact N_step rfl rfl (Below.refl _ _)
      ·
       intro w17 vq17 hB17 hH17
       have hS17 := hS3.below hB17
       refine W_move rfl rfl ?_
       refine W_nil ?_
       exact N_step rfl rfl (Below.refl _ _)
      ·
       intro w18 vq18 hB18 hH18
       have hS18 := hS3.below hB18
       refine W_move rfl rfl ?_
       refine W_nil ?_
       exact N_step rfl rfl (Below.refl _ _)
      ·
       intro w19 vq19 hB19 hH19
       have hS19 := hS3.below hB19
       refine W_ix rfl Go.Proofs.Try.underlying25 Ty.cells5 Ty.info5 rfl rfl (he12.el hS19.agree) hp12 rfl ?_
       refine W_nil ?_
       exact N_step rfl rfl (Below.refl _ _)
      ·
       intro w20 vq20 hB20 hH20
       have hS20 := hS3.below hB20
       refine W_ld1 0 rfl Ty.cell5 rfl (he12.el hS20.agree) (by omega) rfl ?_
       refine W_nil ?_
       exact N_step rfl rfl (Below.refl _ _)
     intro w21 vq21 hB21 hH21
     have hS21 := hS3.below hB21
     refine W_neq rfl rfl rfl ?_
     refine W_nil ?_
     refine N_code ?_
     refine C_cond rfl (fun hc22 => ?_) (fun hc22 => ?_)
     ·
      rw [if_t hc22] at H
      refine C_seq ?_
      refine C_region ?_
      refine W_assign rfl rfl ?_
      refine W_nil ?_
      refine N_code ?_
      obtain rfl := Option.some.inj H
      refine C_ret rfl rfl ?_
      exact ⟨F3, rfl, hS21⟩
     ·
      rw [if_f hc22] at H
      refine C_skip ?_
      refine N_block ?_
      refine N_code ?_
      refine C_region ?_
      refine W_move rfl rfl ?_
      refine W_add rfl rfl rfl rfl ?_
      refine W_assign rfl rfl ?_
      refine W_nil ?_
      exact N_againM (wr (i4 + 1)) _ H ⟨F3, rfl, le3, hS21⟩ ⟨rfl, rfl, rfl, trivial⟩
    ·
     rw [if_f hc6] at H
     refine C_exit _ rfl ?_
     exact N_join _ ⟨H, ⟨F3, rfl, le3, hS3⟩⟩ trivial
  ·
   rintro E w2 ⟨H, F2, rfl, le2, hS2⟩
   dsimp only [cellarerkeep_Bytes.k1] at H
   refine C_seq ?_
   refine C_region ?_
   refine W_assign rfl rfl ?_
   refine W_nil ?_
   refine N_code ?_
   obtain rfl := Option.some.inj H
   refine C_ret rfl rfl ?_
   exact ⟨F2, rfl, hS2⟩

def cellarerkeep_Files.k1 : Option Bool :=
  some true


def cellarerkeep_Files.l2 (x0 : List File) (x1 : List File) (rec5 : Int → Option Bool) : Int → Option Bool
  | i4 =>
    if decide (i4 < (x0.length : Int)) then
      bd (ix x0 i4) fun x7 =>
      bd (ix x1 i4) fun x9 =>
      bd (only (!(!(x7.path == x9.path))) (ix x0 i4) (File.mk [] [])) fun x11 =>
      bd (only (!(!(x7.path == x9.path))) (ix x1 i4) (File.mk [] [])) fun x13 =>
      bd (only (!(!(x7.path == x9.path))) (cellarerkeep_Bytes x11.data x13.data) false) fun r15 =>
      if ((!(x7.path == x9.path)) || (!r15)) then
        some false
      else
        rec5 (wr (i4 + 1))
    else
      cellarerkeep_Files.k1

def cellarerkeep_Files (x0 : List File) (x1 : List File) : Option Bool :=
  if decide ((x0.length : Int) ≠ (x1.length : Int)) then
    some false
  else
    loop (cellarerkeep_Files.l2 x0 x1) 0

theorem cellarerkeep_Files_ok {F : Frz} {w : World} {x0 : List File} {x1 : List File} {r : Bool} {v0 : Value} {v1 : Value} (hA : Agree F w.heap) (h0 : SlF File.t F v0 x0) (h1 : SlF File.t F v1 x1) (H : cellarerkeep_Files x0 x1 = some r) : Ret Try.prog 23 #[v0, v1] w fun v w' => ∃ (F' : Frz), v = .bool r ∧ St [] w F F' [] w' := by
 refine Ret_of (args := [v0, v1]) Go.Proofs.Try.func23 rfl rfl ?_
 change C _ _ _ _ [(0, v0), (1, v1)] _
 have hS := St.entry hA
 dsimp only [cellarerkeep_Files] at H
 refine C_seq ?_
 refine C_region ?_
 refine W_assign rfl rfl ?_
 refine W_nil ?_
 refine N_code ?_
 refine C_seq ?_
 refine C_seq ?_
 refine C_region ?_
 refine W_move rfl rfl ?_
 refine W_lenv rfl Go.Proofs.Try.underlying27 rfl h0.ln ?_
 refine W_move rfl rfl ?_
 refine W_lenv rfl Go.Proofs.Try.underlying27 rfl h1.ln ?_
 refine W_neq rfl rfl rfl ?_
 refine W_nil ?_
 refine N_code ?_
 refine C_cond rfl (fun hc1 => ?_) (fun hc1 => ?_)
 ·
  rw [if_t hc1] at H
  refine C_seq ?_
  refine C_region ?_
  refine W_assign rfl rfl ?_
  refine W_nil ?_
  refine N_code ?_
  obtain rfl := Option.some.inj H
  refine C_ret rfl rfl ?_
  exact ⟨F, rfl, hS⟩
 ·
  rw [if_f hc1] at H
  refine C_skip ?_
  refine N_code ?_
  refine C_seq_join (fun E wq => cellarerkeep_Files.k1 = some r ∧ ∃ (F2 : Frz), E = [] ∧ F.le F2 ∧ St [] w F F2 [] wq) ?_ ?_
  ·
   refine C_seq ?_
   refine C_region ?_
   refine W_assign rfl rfl ?_
   refine W_nil ?_
   refine N_code ?_
   refine C_block ?_
   refine C_loopM (fun (s : Int) E wq => ∃ (F3 : Frz), E = [(0, v0), (1, v1), (5, .int .i64 s)] ∧ F.le F3 ∧ St [] w F F3 [] wq) H ?_ ?_
   ·
    exact ⟨_, ⟨F, rfl, (Frz.le.refl _), hS⟩, ⟨rfl, rfl, rfl, trivial⟩⟩
   ·
    rintro rec5 i4 E w3 hI H
    try dsimp only at hI
    obtain ⟨F3, rfl, le3, hS3⟩ := hI
    dsimp only [cellarerkeep_Files.l2] at H
    refine C_seq ?_
    refine C_seq ?_
    refine C_region ?_
    refine W_move rfl rfl ?_
    refine W_move rfl rfl ?_
    refine W_lenv rfl Go.Proofs.Try.underlying27 rfl h0.ln ?_
    refine W_lss rfl rfl rfl ?_
    refine W_nil ?_
    refine N_code ?_
    refine C_cond rfl (fun hc6 => ?_) (fun hc6 => ?_)
    ·
     rw [if_t hc6] at H
     refine C_skip ?_
     refine N_code ?_
     refine C_seq ?_
     refine C_block ?_
     refine C_seq ?_
     obtain ⟨x7, hx7, H⟩ := bd_some H
     obtain ⟨x9, hx9, H⟩ := bd_some H
     obtain ⟨x11, hx11, H⟩ := bd_some H
     obtain ⟨x13, hx13, H⟩ := bd_some H
     obtain ⟨r15, hr15, H⟩ := bd_some H
     refine C_join (fun E wq => E = [(0, v0), (1, v1), (5, .int .i64 i4), (41, .bool ((!(x7.path == x9.path)) || (!r15)))] ∧ ∃ F16 : Frz, F3.le F16 ∧ St [] w F F16 [] wq) ?_ ?_
     ·
      rcases Bool.eq_false_or_eq_true (!(x7.path == x9.path)) with hb17 | hb17
      ·
       obtain ⟨hp18, hy18⟩ := ix_some hx7
       obtain ⟨cs18, hr18, he18⟩ := (h0.mono le3).at_ hy18
       obtain ⟨ue8_0, rfl, hue8_0⟩ := hr18
       replace he18 : Elf _ _ 2 _ _ := he18
       obtain ⟨hp19, hy19⟩ := ix_some hx9
       obtain ⟨cs19, hr19, he19⟩ := (h1.mono le3).at_ hy19
       obtain ⟨ue10_0, rfl, hue10_0⟩ := hr19
       replace he19 : Elf _ _ 2 _ _ := he19
       apply C_draw 24 [[], [], [0, 1], [2], [3], [], [], [5, 6], [7], [8], [4, 9], [10], [11], [11], [12, 13, 11], [14, 11], [15, 11], [11], [11], [17, 18, 11], [19, 11], [20, 11], [16, 21, 11], [22, 11]] [.val (v0), .val (.int .i64 i4), .val (elp v0 (i4.toNat * 2)), .val (elp v0 ((i4.toNat * 2) + 0)), .val (strV x7.path), .val (v1), .val (.int .i64 i4), .val (elp v1 (i4.toNat * 2)), .val (elp v1 ((i4.toNat * 2) + 0)), .val (strV x9.path), .val (.bool (!(x7.path == x9.path))), .val (.bool true), .val undef, .val undef, .val undef, .val undef, .val undef, .val undef, .val undef, .val undef, .val undef, .val undef, .val undef, .val undef] Ty.mixed rfl rfl (by kernel_rfl) (by kernel_rfl) rfl
       ·
        refine ⟨?_, ?_, ?_, ?_, ?_, ?_, ?_, ?_, ?_, ?_, ?_, ?_, ?_, ?_, ?_, ?_, ?_, ?_, ?_, ?_, ?_, ?_, ?_, ?_, trivial⟩
        ·
         intro w20 vq20 hB20 hH20
         have hS20 := hS3.below hB20
         refine W_move rfl rfl ?_
         refine W_nil ?_
         exact N_step rfl rfl (Below.refl _ _)
        ·
         intro w21 vq21 hB21 hH21
         have hS21 := hS3.below hB21
         refine W_move rfl rfl ?_
         refine W_nil ?_
         exact N_step rfl rfl (Below.refl _ _)
        ·
         intro w22 vq22 hB22 hH22
         have hS22 := hS3.below hB22
         refine W_ix rfl Go.Proofs.Try.underlying27 Ty.cells34 Ty.info34 rfl rfl (he18.el hS22.agree) hp18 rfl ?_
         refine W_nil ?_
         exact N_step rfl rfl (Below.refl _ _)
        ·
         intro w23 vq23 hB23 hH23
         have hS23 := hS3.below hB23
         refine W_fld 0 rfl Ty.field34_0 rfl (he18.el hS23.agree) ?_
         refine W_nil ?_
         exact N_step rfl rfl (Below.refl _ _)
        ·
         intro w24 vq24 hB24 hH24
         have hS24 := hS3.below hB24
         refine W_ld1 0 rfl Ty.cell9 rfl (he18.el hS24.agree) (by omega) rfl ?_
         refine W_nil ?_
         exact N_step rfl rfl (Below.refl _ _)
        ·
         intro w25 vq25 hB25 hH25
         have hS25 := hS3.below hB25
         refine W_move rfl rfl ?_
         refine W_nil ?_
         exact N_step rfl rfl (Below.refl _ _)
        ·
         intro w26 vq26 hB26 hH26
         have hS26 := hS3.below hB26
         refine W_move rfl rfl ?_
         refine W_nil ?_
         exact N_step rfl rfl (Below.refl _ _)
        ·
         intro w27 vq27 hB27 hH27
         have hS27 := hS3.below hB27
         refine W_ix rfl Go.Proofs.Try.underlying27 Ty.cells34 Ty.info34 rfl rfl (he19.el hS27.agree) hp19 rfl ?_
         refine W_nil ?_
         exact N_step rfl rfl (Below.refl _ _)
        ·
         intro w28 vq28 hB28 hH28
         have hS28 := hS3.below hB28
         refine W_fld 0 rfl Ty.field34_0 rfl (he19.el hS28.agree) ?_
         refine W_nil ?_
         exact N_step rfl rfl (Below.refl _ _)
        ·
         intro w29 vq29 hB29 hH29
         have hS29 := hS3.below hB29
         refine W_ld1 0 rfl Ty.cell9 rfl (he19.el hS29.agree) (by omega) rfl ?_
         refine W_nil ?_
         exact N_step rfl rfl (Below.refl _ _)
        ·
         intro w30 vq30 hB30 hH30
         have hS30 := hS3.below hB30
         refine W_neqS rfl rfl rfl ?_
         refine W_nil ?_
         exact N_step rfl rfl (Below.refl _ _)
        ·
         intro w31 vq31 hB31 hH31
         have hS31 := hS3.below hB31
         refine W_move rfl rfl ?_
         refine W_nil ?_
         exact N_step rfl (congrArg Value.bool hb17) (Below.refl _ _)
        ·
         intro w32 vq32 hB32 hH32
         have hS32 := hS3.below hB32
         refine W_guard_no rfl rfl rfl rfl rfl ?_
         refine W_nil ?_
         exact N_step rfl rfl (Below.refl _ _)
        ·
         intro w33 vq33 hB33 hH33
         have hS33 := hS3.below hB33
         refine W_guard_no rfl rfl rfl rfl rfl ?_
         refine W_nil ?_
         exact N_step rfl rfl (Below.refl _ _)
        ·
         intro w34 vq34 hB34 hH34
         have hS34 := hS3.below hB34
         refine W_guard_no rfl rfl rfl rfl rfl ?_
         refine W_nil ?_
         exact N_step rfl rfl (Below.refl _ _)
        ·
         intro w35 vq35 hB35 hH35
         have hS35 := hS3.below hB35
         refine W_guard_no rfl rfl rfl rfl rfl ?_
         refine W_nil ?_
         exact N_step rfl rfl (Below.refl _ _)
        ·
         intro w36 vq36 hB36 hH36
         have hS36 := hS3.below hB36
         refine W_guard_no rfl rfl rfl rfl rfl ?_
         refine W_nil ?_
         exact N_step rfl rfl (Below.refl _ _)
        ·
         intro w37 vq37 hB37 hH37
         have hS37 := hS3.below hB37
         refine W_guard_no rfl rfl rfl rfl rfl ?_
         refine W_nil ?_
         exact N_step rfl rfl (Below.refl _ _)
        ·
         intro w38 vq38 hB38 hH38
         have hS38 := hS3.below hB38
         refine W_guard_no rfl rfl rfl rfl rfl ?_
         refine W_nil ?_
         exact N_step rfl rfl (Below.refl _ _)
        ·
         intro w39 vq39 hB39 hH39
         have hS39 := hS3.below hB39
         refine W_guard_no rfl rfl rfl rfl rfl ?_
         refine W_nil ?_
         exact N_step rfl rfl (Below.refl _ _)
        ·
         intro w40 vq40 hB40 hH40
         have hS40 := hS3.below hB40
         refine W_guard_no rfl rfl rfl rfl rfl ?_
         refine W_nil ?_
         exact N_step rfl rfl (Below.refl _ _)
        ·
         intro w41 vq41 hB41 hH41
         have hS41 := hS3.below hB41
         refine W_guard_no rfl rfl rfl rfl rfl ?_
         refine W_nil ?_
         exact N_step rfl rfl (Below.refl _ _)
        ·
         intro w42 vq42 hB42 hH42
         have hS42 := hS3.below hB42
         refine W_guard_no rfl rfl rfl rfl rfl ?_
         refine W_nil ?_
         exact N_step rfl rfl (Below.refl _ _)
        ·
         intro w43 vq43 hB43 hH43
         have hS43 := hS3.below hB43
         refine W_guard_no rfl rfl rfl rfl rfl ?_
         refine W_nil ?_
         exact N_step rfl rfl (Below.refl _ _)
       intro w44 vq44 hB44 hH44
       have hS44 := hS3.below hB44
       refine W_pick_t rfl rfl rfl ?_
       refine W_nil ?_
       exact N_join _ ⟨rfl, F3, (Frz.le.refl _), hS44⟩ ⟨rfl, rfl, rfl, (look_bool rfl (by first | rfl | (rw [hb17]; first | done | rfl) | simp [hb17])), trivial⟩
      ·
       obtain ⟨hp45, hy45⟩ := ix_some hx7
       obtain ⟨cs45, hr45, he45⟩ := (h0.mono le3).at_ hy45
       obtain ⟨ue8_0, rfl, hue8_0⟩ := hr45
       replace he45 : Elf _ _ 2 _ _ := he45
       obtain ⟨hp46, hy46⟩ := ix_some hx9
       obtain ⟨cs46, hr46, he46⟩ := (h1.mono le3).at_ hy46
       obtain ⟨ue10_0, rfl, hue10_0⟩ := hr46
       replace he46 : Elf _ _ 2 _ _ := he46
       have hy47 := hx11
       rw [only_t (by first | rfl | (rw [hb17]; first | done | rfl) | simp [hb17])] at hy47
       obtain ⟨hp48, hy48⟩ := ix_some hy47
       obtain ⟨cs48, hr48, he48⟩ := (h0.mono le3).at_ hy48
       obtain ⟨ue12_0, rfl, hue12_0⟩ := hr48
       replace he48 : Elf _ _ 2 _ _ := he48
       have hy49 := hx13
       rw [only_t (by first | rfl | (rw [hb17]; first | done | rfl) | simp [hb17])] at hy49
       obtain ⟨hp50, hy50⟩ := ix_some hy49
       obtain ⟨cs50, hr50, he50⟩ := (h1.mono le3).at_ hy50
       obtain ⟨ue14_0, rfl, hue14_0⟩ := hr50
       replace he50 : Elf _ _ 2 _ _ := he50
       apply C_draw 24 [[], [], [0, 1], [2], [3], [], [], [5, 6], [7], [8], [4, 9], [10], [11], [11], [12, 13, 11], [14, 11], [15, 11], [11], [11], [17, 18, 11], [19, 11], [20, 11], [16, 21, 11], [22, 11]] [.val (v0), .val (.int .i64 i4), .val (elp v0 (i4.toNat * 2)), .val (elp v0 ((i4.toNat * 2) + 0)), .val (strV x7.path), .val (v1), .val (.int .i64 i4), .val (elp v1 (i4.toNat * 2)), .val (elp v1 ((i4.toNat * 2) + 0)), .val (strV x9.path), .val (.bool (!(x7.path == x9.path))), .val (.bool false), .val (v0), .val (.int .i64 i4), .val (elp v0 (i4.toNat * 2)), .val (elp v0 ((i4.toNat * 2) + 1)), .val (ue12_0), .val (v1), .val (.int .i64 i4), .val (elp v1 (i4.toNat * 2)), .val (elp v1 ((i4.toNat * 2) + 1)), .val (ue14_0), .val (.bool r15), .val (.bool (!r15))] Ty.mixed rfl rfl (by kernel_rfl) (by kernel_rfl) rfl
       ·
        refine ⟨?_, ?_, ?_, ?_, ?_, ?_, ?_, ?_, ?_, ?_, ?_, ?_, ?_, ?_, ?_, ?_, ?_, ?_, ?_, ?_, ?_, ?_, ?_, ?_, trivial⟩
        ·
         intro w51 vq51 hB51 hH51
         have hS51 := hS3.below hB51
         refine W_move rfl rfl ?_
         refine W_nil ?_
         exact N_step rfl rfl (Below.refl _ _)
        ·
         intro w52 vq52 hB52 hH52
         have hS52 := hS3.below hB52
         refine W_move rfl rfl ?_
         refine W_nil ?_
         exact N_step rfl rfl (Below.refl _ _)
        ·
         intro w53 vq53 hB53 hH53
         have hS53 := hS3.below hB53
         refine W_ix rfl Go.Proofs.Try.underlying27 Ty.cells34 Ty.info34 rfl rfl (he45.el hS53.agree) hp45 rfl ?_
         refine W_nil ?_
         exact N_step rfl rfl (Below.refl _ _)
        ·
         intro w54 vq54 hB54 hH54
         have hS54 := hS3.below hB54
         refine W_fld 0 rfl Ty.field34_0 rfl (he45.el hS54.agree) ?_
         refine W_nil ?_
         exact N_step rfl rfl (Below.refl _ _)
        ·
         intro w55 vq55 hB55 hH55
         have hS55 := hS3.below hB55
         refine W_ld1 0 rfl Ty.cell9 rfl (he45.el hS55.agree) (by omega) rfl ?_
         refine W_nil ?_
         exact N_step rfl rfl (Below.refl _ _)
        ·
         intro w56 vq56 hB56 hH56
         have hS56 := hS3.below hB56
         refine W_move rfl rfl ?_
         refine W_nil ?_
         exact N_step rfl rfl (Below.refl _ _)
        ·
         intro w57 vq57 hB57 hH57
         have hS57 := hS3.below hB57
         refine W_move rfl rfl ?_
         refine W_nil ?_
         exact N_step rfl rfl (Below.refl _ _)
        ·
         intro w58 vq58 hB58 hH58
         have hS58 := hS3.below hB58
         refine W_ix rfl Go.Proofs.Try.underlying27 Ty.cells34 Ty.info34 rfl rfl (he46.el hS58.agree) hp46 rfl ?_
         refine W_nil ?_
         exact N_step rfl rfl (Below.refl _ _)
        ·
         intro w59 vq59 hB59 hH59
         have hS59 := hS3.below hB59
         refine W_fld 0 rfl Ty.field34_0 rfl (he46.el hS59.agree) ?_
         refine W_nil ?_
         exact N_step rfl rfl (Below.refl _ _)
        ·
         intro w60 vq60 hB60 hH60
         have hS60 := hS3.below hB60
         refine W_ld1 0 rfl Ty.cell9 rfl (he46.el hS60.agree) (by omega) rfl ?_
         refine W_nil ?_
         exact N_step rfl rfl (Below.refl _ _)
        ·
         intro w61 vq61 hB61 hH61
         have hS61 := hS3.below hB61
         refine W_neqS rfl rfl rfl ?_
         refine W_nil ?_
         exact N_step rfl rfl (Below.refl _ _)
        ·
         intro w62 vq62 hB62 hH62
         have hS62 := hS3.below hB62
         refine W_move rfl rfl ?_
         refine W_nil ?_
         exact N_step rfl (congrArg Value.bool hb17) (Below.refl _ _)
        ·
         intro w63 vq63 hB63 hH63
         have hS63 := hS3.below hB63
         refine W_guard_yes rfl ?_
         refine W_move rfl rfl ?_
         refine W_nil ?_
         exact N_step rfl rfl (Below.refl _ _)
        ·
         intro w64 vq64 hB64 hH64
         have hS64 := hS3.below hB64
         refine W_guard_yes rfl ?_
         refine W_move rfl rfl ?_
         refine W_nil ?_
         exact N_step rfl rfl (Below.refl _ _)
        ·
         intro w65 vq65 hB65 hH65
         have hS65 := hS3.below hB65
         refine W_guard_yes rfl ?_
         refine W_ix rfl Go.Proofs.Try.underlying27 Ty.cells34 Ty.info34 rfl rfl (he48.el hS65.agree) hp48 rfl ?_
         refine W_nil ?_
         exact N_step rfl rfl (Below.refl _ _)
        ·
         intro w66 vq66 hB66 hH66
         have hS66 := hS3.below hB66
         refine W_guard_yes rfl ?_
         refine W_fld 1 rfl Ty.field34_1 rfl (he48.el hS66.agree) ?_
         refine W_nil ?_
         exact N_step rfl rfl (Below.refl _ _)
        ·
         intro w67 vq67 hB67 hH67
         have hS67 := hS3.below hB67
         refine W_guard_yes rfl ?_
         refine W_ld1 1 rfl Ty.cell25 rfl (he48.el hS67.agree) (by omega) rfl ?_
         refine W_nil ?_
         exact N_step rfl rfl (Below.refl _ _)
        ·
         intro w68 vq68 hB68 hH68
         have hS68 := hS3.below hB68
         refine W_guard_yes rfl ?_
         refine W_move rfl rfl ?_
         refine W_nil ?_
         exact N_step rfl rfl (Below.refl _ _)
        ·
         intro w69 vq69 hB69 hH69
         have hS69 := hS3.below hB69
         refine W_guard_yes rfl ?_
         refine W_move rfl rfl ?_
         refine W_nil ?_
         exact N_step rfl rfl (Below.refl _ _)
        ·
         intro w70 vq70 hB70 hH70
         have hS70 := hS3.below hB70
         refine W_guard_yes rfl ?_
         refine W_ix rfl Go.Proofs.Try.underlying27 Ty.cells34 Ty.info34 rfl rfl (he50.el hS70.agree) hp50 rfl ?_
         refine W_nil ?_
         exact N_step rfl rfl (Below.refl _ _)
        ·
         intro w71 vq71 hB71 hH71
         have hS71 := hS3.below hB71
         refine W_guard_yes rfl ?_
         refine W_fld 1 rfl Ty.field34_1 rfl (he50.el hS71.agree) ?_
         refine W_nil ?_
         exact N_step rfl rfl (Below.refl _ _)
        ·
         intro w72 vq72 hB72 hH72
         have hS72 := hS3.below hB72
         refine W_guard_yes rfl ?_
         refine W_ld1 1 rfl Ty.cell25 rfl (he50.el hS72.agree) (by omega) rfl ?_
         refine W_nil ?_
         exact N_step rfl rfl (Below.refl _ _)
        ·
         intro w73 vq73 hB73 hH73
         have hS73 := hS3.below hB73
         refine W_guard_yes rfl ?_
         have hy74 := hr15
         rw [only_t (by first | rfl | (rw [hb17]; first | done | rfl) | simp [hb17])] at hy74
         refine W_call rfl Ty.named28 rfl (cellarerkeep_Bytes_ok hS73.agree hue12_0 hue14_0 hy74) ?_
         rintro v75 w75 ⟨Fr15, rfl, hT75⟩
         have hS75 := hS73.lent hT75
         refine W_nil ?_
         exact N_step rfl rfl hT75.below0
        ·
         intro w76 vq76 hB76 hH76
         have hS76 := hS3.below hB76
         refine W_guard_yes rfl ?_
         refine W_not rfl rfl ?_
         refine W_nil ?_
         exact N_step rfl rfl (Below.refl _ _)
       intro w77 vq77 hB77 hH77
       have hS77 := hS3.below hB77
       refine W_pick_f rfl rfl rfl ?_
       refine W_nil ?_
       exact N_join _ ⟨rfl, F3, (Frz.le.refl _), hS77⟩ ⟨rfl, rfl, rfl, (look_bool rfl (by first | rfl | (rw [hb17]; first | done | rfl) | simp [hb17])), trivial⟩
     rintro E w16 ⟨rfl, F16, le16, hS16⟩
     refine N_code ?_
     refine C_cond rfl (fun hc78 => ?_) (fun hc78 => ?_)
     ·
      rw [if_t hc78] at H
      refine C_seq ?_
      refine C_region ?_
      refine W_assign rfl rfl ?_
      refine W_nil ?_
      refine N_code ?_
      obtain rfl := Option.some.inj H
      refine C_ret rfl rfl ?_
      exact ⟨F16, rfl, hS16⟩
     ·
      rw [if_f hc78] at H
      refine C_skip ?_
      refine N_block ?_
      refine N_code ?_
      refine C_region ?_
      refine W_move rfl rfl ?_
      refine W_add rfl rfl rfl rfl ?_
      refine W_assign rfl rfl ?_
      refine W_nil ?_
      exact N_againM (wr (i4 + 1)) _ H ⟨F16, rfl, (le3.trans le16), hS16⟩ ⟨rfl, rfl, rfl, trivial⟩
    ·
     rw [if_f hc6] at H
     refine C_exit _ rfl ?_
     exact N_join _ ⟨H, ⟨F3, rfl, le3, hS3⟩⟩ trivial
  ·
   rintro E w2 ⟨H, F2, rfl, le2, hS2⟩
   dsimp only [cellarerkeep_Files.k1] at H
   refine C_seq ?_
   refine C_region ?_
   refine W_assign rfl rfl ?_
   refine W_nil ?_
   refine N_code ?_
   obtain rfl := Option.some.inj H
   refine C_ret rfl rfl ?_
   exact ⟨F2, rfl, hS2⟩

def tree_Size.k1 (i2 : Int) : Option Int :=
  some i2


def tree_Size.l2 (x0 : List File) (rec6 : (Int × Int) → Option Int) : (Int × Int) → Option Int
  | (i4, i5) =>
    if decide (i5 < (x0.length : Int)) then
      bd (ix x0 i5) fun x8 =>
      rec6 (wr (i4 + (x8.data.length : Int)), wr (i5 + 1))
    else
      tree_Size.k1 i4

def tree_Size (x0 : List File) : Option Int :=
  loop (tree_Size.l2 x0) (0, 0)

theorem tree_Size_ok {F : Frz} {w : World} {x0 : List File} {r : Int} {v0 : Value} (hA : Agree F w.heap) (h0 : SlF File.t F v0 x0) (H : tree_Size x0 = some r) : Ret Try.prog 24 #[v0] w fun v w' => ∃ (F' : Frz), v = .int .i64 r ∧ St [] w F F' [] w' := by
 refine Ret_of (args := [v0]) Go.Proofs.Try.func24 rfl rfl ?_
 change C _ _ _ _ [(0, v0)] _
 have hS := St.entry hA
 dsimp only [tree_Size] at H
 refine C_seq ?_
 refine C_region ?_
 refine W_assign rfl rfl ?_
 refine W_nil ?_
 refine N_code ?_
 refine C_seq ?_
 refine C_region ?_
 refine W_assign rfl rfl ?_
 refine W_nil ?_
 refine N_code ?_
 refine C_seq_join (fun E wq => ∃ i2 : Int, tree_Size.k1 i2 = some r ∧ ∃ (F1 : Frz), E = [(3, .int .i64 i2)] ∧ F.le F1 ∧ St [] w F F1 [] wq) ?_ ?_
 ·
  refine C_seq ?_
  refine C_region ?_
  refine W_move rfl rfl ?_
  refine W_lenv rfl Go.Proofs.Try.underlying27 rfl h0.ln ?_
  refine W_move rfl rfl ?_
  refine W_nil ?_
  refine N_code ?_
  refine C_block ?_
  refine C_loopM (fun (s : Int × Int) E wq => ∃ (F3 : Frz), E = [(3, .int .i64 s.1), (6, v0), (7, .int .i64 (x0.length : Int)), (8, .int .i64 s.2)] ∧ F.le F3 ∧ St [] w F F3 [] wq) H ?_ ?_
  ·
   exact ⟨_, ⟨F, rfl, (Frz.le.refl _), hS⟩, ⟨rfl, rfl, rfl, rfl, trivial⟩⟩
  ·
   rintro rec6 ⟨i4, i5⟩ E w3 hI H
   try dsimp only at hI
   obtain ⟨F3, rfl, le3, hS3⟩ := hI
   dsimp only [tree_Size.l2] at H
   refine C_seq ?_
   refine C_region ?_
   refine W_lss rfl rfl rfl ?_
   refine W_nil ?_
   refine N_code ?_
   refine C_seq ?_
   refine C_cond rfl (fun hc7 => ?_) (fun hc7 => ?_)
   ·
    rw [if_t hc7] at H
    refine C_skip ?_
    refine N_code ?_
    refine C_seq ?_
    refine C_block ?_
    refine C_seq ?_
    obtain ⟨x8, hx8, H⟩ := bd_some H
    refine C_region ?_
    obtain ⟨hp11, hy11⟩ := ix_some hx8
    obtain ⟨cs11, hr11, he11⟩ := (h0.mono le3).at_ hy11
    obtain ⟨ue9_0, rfl, hue9_0⟩ := hr11
    replace he11 : Elf _ _ 2 _ _ := he11
    refine W_ix rfl Go.Proofs.Try.underlying27 Ty.cells34 Ty.info34 rfl rfl (he11.el hS3.agree) hp11 rfl ?_
    refine W_ldg 0 ((File.cells x8 ue9_0)) rfl Ty.agg34 Ty.size34 rfl (he11.el hS3.agree) (by omega) (fun q u h => sub_at (post := []) rfl h) ?_
    refine W_alc (cs := [strV [], .slice none 0 0]) rfl Ty.zero34 rfl hS3 ?_
    intro g10 w10 hS10
    refine W_bst (c := [strV x8.path, ue9_0]) 0 ([strV x8.path, ue9_0]) rfl rfl hS10 rfl rfl Ty.size34 (fun y hy => File.t.one (F := F3) (x := x8) ⟨ue9_0, rfl, hue9_0⟩ y hy) (Nat.le_of_ble_eq_true rfl) rfl ?_
    intro w12 hS12
    refine W_nil ?_
    refine N_code ?_
    refine C_region ?_
    refine W_move rfl rfl ?_
    refine W_field_pl 1 rfl Ty.field34_1 rfl ?_
    refine W_bld1 0 rfl Ty.cell25 rfl hS12 rfl rfl ?_
    refine W_lenv rfl Go.Proofs.Try.underlying25 rfl hue9_0.ln ?_
    refine W_add rfl rfl rfl rfl ?_
    refine W_assign rfl rfl ?_
    refine W_nil ?_
    refine N_block ?_
    refine N_code ?_
    refine C_region ?_
    refine W_add rfl rfl rfl rfl ?_
    refine W_move rfl rfl ?_
    refine W_nil ?_
    exact N_againM (wr (i4 + (x8.data.length : Int)), wr (i5 + 1)) _ H ⟨F3, rfl, le3, hS12.pick [] (by decide)⟩ ⟨rfl, rfl, rfl, rfl, trivial⟩
   ·
    rw [if_f hc7] at H
    refine C_exit _ rfl ?_
    exact N_join _ ⟨i4, H, ⟨F3, rfl, le3, hS3⟩⟩ ⟨rfl, trivial⟩
 ·
  rintro E w1 ⟨i2, H, F1, rfl, le1, hS1⟩
  dsimp only [tree_Size.k1] at H
  refine C_seq ?_
  refine C_region ?_
  refine W_move rfl rfl ?_
  refine W_assign rfl rfl ?_
  refine W_nil ?_
  refine N_code ?_
  obtain rfl := Option.some.inj H
  refine C_ret rfl rfl ?_
  exact ⟨F1, rfl, hS1⟩

end
end Go.Wk.Lf
