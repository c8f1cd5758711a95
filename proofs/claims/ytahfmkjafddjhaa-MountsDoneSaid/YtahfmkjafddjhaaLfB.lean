import Derived.Test.YtahfmkjafddjhaaLfS
namespace Go.Wk.Lf
open Go.Proofs Go.RowKit
set_option linter.unusedVariables false
set_option linter.unusedSimpArgs false

def cellarerlaw21_Heavy.k1 : Option Bool :=
  some false


def cellarerlaw21_Heavy.l2 (x0 : List Want) (rec5 : Int → Option Bool) : Int → Option Bool
  | i4 =>
    if decide (i4 < (x0.length : Int)) then
      bd (ix x0 i4) fun x7 =>
      if decide (40 < (x7.locs.length : Int)) then
        some true
      else
        rec5 (wr (i4 + 1))
    else
      cellarerlaw21_Heavy.k1

def cellarerlaw21_Heavy (x0 : List Want) : Option Bool :=
  if decide (60 < (x0.length : Int)) then
    some true
  else
    loop (cellarerlaw21_Heavy.l2 x0) 0

theorem cellarerlaw21_Heavy_ok {F : Frz} {w : World} {x0 : List Want} {r : Bool} {v0 : Value} (hA : Agree F w.heap) (h0 : SlF Want.t F v0 x0) (H : cellarerlaw21_Heavy x0 = some r) : Ret Try.prog 26 #[v0] w fun v w' => ∃ (F' : Frz), v = .bool r ∧ St [] w F F' [] w' := by
 refine Ret_of (args := [v0]) Go.Proofs.Try.func26 rfl rfl ?_
 change C _ _ _ _ [(0, v0)] _
 have hS := St.entry hA
 dsimp only [cellarerlaw21_Heavy] at H
 refine C_seq ?_
 refine C_region ?_
 refine W_assign rfl rfl ?_
 refine W_nil ?_
 refine N_code ?_
 refine C_seq ?_
 refine C_seq ?_
 refine C_region ?_
 refine W_move rfl rfl ?_
 refine W_lenv rfl Go.Proofs.Try.underlying47 rfl h0.ln ?_
 refine W_gtr rfl rfl rfl ?_
 refine W_nil ?_
 refine N_code ?_
 refine C_cond rfl (fun hc1 => ?_) (fun hc1 => ?_)
 ·
  rw [if_t hc1] at H
  refine C_seq ?_
  refine C_region ?_
  refine W_assign rfl rfl ?_
  refine W_nil ?_
  refine N_code ?_
  obtain rfl := Option.some.inj H
  refine C_ret rfl rfl ?_
  exact ⟨F, rfl, hS⟩
 ·
  rw [if_f hc1] at H
  refine C_skip ?_
  refine N_code ?_
  refine C_seq_join (fun E wq => cellarerlaw21_Heavy.k1 = some r ∧ ∃ (F2 : Frz), E = [] ∧ F.le F2 ∧ St [] w F F2 [] wq) ?_ ?_
  ·
   refine C_seq ?_
   refine C_region ?_
   refine W_assign rfl rfl ?_
   refine W_nil ?_
   refine N_code ?_
   refine C_block ?_
   refine C_loopM (fun (s : Int) E wq => ∃ (F3 : Frz), E = [(0, v0), (3, .int .i64 s)] ∧ F.le F3 ∧ St [] w F F3 [] wq) H ?_ ?_
   ·
    exact ⟨_, ⟨F, rfl, (Frz.le.refl _), hS⟩, ⟨rfl, rfl, trivial⟩⟩
   ·
    rintro rec5 i4 E w3 hI H
    try dsimp only at hI
    obtain ⟨F3, rfl, le3, hS3⟩ := hI
    dsimp only [cellarerlaw21_Heavy.l2] at H
    refine C_seq ?_
    refine C_seq ?_
    refine C_region ?_
    refine W_move rfl rfl ?_
    refine W_move rfl rfl ?_
    refine W_lenv rfl Go.Proofs.Try.underlying47 rfl h0.ln ?_
    refine W_lss rfl rfl rfl ?_
    refine W_nil ?_
    refine N_code ?_
    refine C_cond rfl (fun hc6 => ?_) (fun hc6 => ?_)
    ·
     rw [if_t hc6] at H
     refine C_skip ?_
     refine N_code ?_
     refine C_seq ?_
     refine C_block ?_
     refine C_seq ?_
     obtain ⟨x7, hx7, H⟩ := bd_some H
     refine C_region ?_
     refine W_move rfl rfl ?_
     refine W_move rfl rfl ?_
     obtain ⟨hp9, hy9⟩ := ix_some hx7
     obtain ⟨cs9, hr9, he9⟩ := (h0.mono le3).at_ hy9
     obtain ⟨ue8_0, rfl, hle8_0, hue8_0⟩ := hr9
     replace he9 : Elf _ _ 33 _ _ := he9
     refine W_ix rfl Go.Proofs.Try.underlying47 Ty.cells52 Ty.info52 rfl rfl (he9.el hS3.agree) hp9 rfl ?_
     refine W_fld 32 rfl Ty.field52_1 rfl (he9.el hS3.agree) ?_
     refine W_ld1 32 rfl Ty.cell49 rfl (he9.el hS3.agree) (by omega) rfl ?_
     refine W_lenv rfl Go.Proofs.Try.underlying49 rfl hue8_0.ln ?_
     refine W_gtr rfl rfl rfl ?_
     refine W_nil ?_
     refine N_code ?_
     refine C_cond rfl (fun hc10 => ?_) (fun hc10 => ?_)
     ·
      rw [if_t hc10] at H
      refine C_seq ?_
      refine C_region ?_
      refine W_assign rfl rfl ?_
      refine W_nil ?_
      refine N_code ?_
      obtain rfl := Option.some.inj H
      refine C_ret rfl rfl ?_
      exact ⟨F3, rfl, hS3⟩
     ·
      rw [if_f hc10] at H
      refine C_skip ?_
      refine N_block ?_
      refine N_code ?_
      refine C_region ?_
      refine W_move rfl rfl ?_
      refine W_add rfl rfl rfl rfl ?_
      refine W_assign rfl rfl ?_
      refine W_nil ?_
      exact N_againM (wr (i4 + 1)) _ H ⟨F3, rfl, le3, hS3⟩ ⟨rfl, rfl, trivial⟩
    ·
     rw [if_f hc6] at H
     refine C_exit _ rfl ?_
     exact N_join _ ⟨H, ⟨F3, rfl, le3, hS3⟩⟩ trivial
  ·
   rintro E w2 ⟨H, F2, rfl, le2, hS2⟩
   dsimp only [cellarerlaw21_Heavy.k1] at H
   refine C_seq ?_
   refine C_region ?_
   refine W_assign rfl rfl ?_
   refine W_nil ?_
   refine N_code ?_
   obtain rfl := Option.some.inj H
   refine C_ret rfl rfl ?_
   exact ⟨F2, rfl, hS2⟩

def slices_Index_int_int.k1 : Option Int :=
  some (-1)


def slices_Index_int_int.l2 (x0 : List Int) (x1 : Int) (rec4 : Int → Option Int) : Int → Option Int
  | i3 =>
    if decide (i3 < (x0.length : Int)) then
      bd (ix x0 i3) fun x6 =>
      if decide (x1 = x6) then
        some i3
      else
        rec4 (wr (i3 + 1))
    else
      slices_Index_int_int.k1

def slices_Index_int_int (x0 : List Int) (x1 : Int) : Option Int :=
  loop (slices_Index_int_int.l2 x0 x1) 0

theorem slices_Index_int_int_ok {F : Frz} {w : World} {x0 : List Int} {x1 : Int} {r : Int} {v0 : Value} (hA : Agree F w.heap) (h0 : SlF tI F v0 x0) (H : slices_Index_int_int x0 x1 = some r) : Ret Try.prog 57 #[v0, .int .i64 x1] w fun v w' => ∃ (F' : Frz), v = .int .i64 r ∧ St [] w F F' [] w' := by
 refine Ret_of (args := [v0, .int .i64 x1]) Go.Proofs.Try.func57 rfl rfl ?_
 change C _ _ _ _ [(0, v0), (1, .int .i64 x1)] _
 have hS := St.entry hA
 dsimp only [slices_Index_int_int] at H
 refine C_seq ?_
 refine C_region ?_
 refine W_assign rfl rfl ?_
 refine W_nil ?_
 refine N_code ?_
 refine C_seq_join (fun E wq => slices_Index_int_int.k1 = some r ∧ ∃ (F1 : Frz), E = [] ∧ F.le F1 ∧ St [] w F F1 [] wq) ?_ ?_
 ·
  refine C_seq ?_
  refine C_region ?_
  refine W_move rfl rfl ?_
  refine W_lenv rfl Go.Proofs.Try.underlying22 rfl h0.ln ?_
  refine W_move rfl rfl ?_
  refine W_nil ?_
  refine N_code ?_
  refine C_block ?_
  refine C_loopM (fun (s : Int) E wq => ∃ (F2 : Frz), E = [(0, v0), (1, .int .i64 x1), (7, .int .i64 (x0.length : Int)), (8, .int .i64 s)] ∧ F.le F2 ∧ St [] w F F2 [] wq) H ?_ ?_
  ·
   exact ⟨_, ⟨F, rfl, (Frz.le.refl _), hS⟩, ⟨rfl, rfl, rfl, rfl, trivial⟩⟩
  ·
   rintro rec4 i3 E w2 hI H
   try dsimp only at hI
   obtain ⟨F2, rfl, le2, hS2⟩ := hI
   dsimp only [slices_Index_int_int.l2] at H
   refine C_seq ?_
   refine C_region ?_
   refine W_lss rfl rfl rfl ?_
   refine W_nil ?_
   refine N_code ?_
   refine C_seq ?_
   refine C_cond rfl (fun hc5 => ?_) (fun hc5 => ?_)
   ·
    rw [if_t hc5] at H
    refine C_skip ?_
    refine N_code ?_
    refine C_seq ?_
    refine C_block ?_
    refine C_seq ?_
    refine C_region ?_
    refine W_move rfl rfl ?_
    refine W_assign rfl rfl ?_
    refine W_nil ?_
    refine N_code ?_
    refine C_seq ?_
    obtain ⟨x6, hx6, H⟩ := bd_some H
    refine C_region ?_
    refine W_move rfl rfl ?_
    refine W_move rfl rfl ?_
    refine W_move rfl rfl ?_
    obtain ⟨hp8, hy8⟩ := ix_some hx6
    obtain ⟨cs8, hr8, he8⟩ := (h0.mono le2).at_ hy8
    obtain rfl := hr8
    replace he8 : Elf _ _ 1 _ _ := he8
    refine W_ix rfl Go.Proofs.Try.underlying22 Ty.cells3 Ty.info3 rfl rfl (he8.el hS2.agree) hp8 rfl ?_
    refine W_ld1 0 rfl Ty.cell3 rfl (he8.el hS2.agree) (by omega) rfl ?_
    refine W_eql rfl rfl rfl ?_
    refine W_nil ?_
    refine N_code ?_
    refine C_cond rfl (fun hc9 => ?_) (fun hc9 => ?_)
    ·
     rw [if_t hc9] at H
     refine C_seq ?_
     refine C_region ?_
     refine W_move rfl rfl ?_
     refine W_assign rfl rfl ?_
     refine W_nil ?_
     refine N_code ?_
     obtain rfl := Option.some.inj H
     refine C_ret rfl rfl ?_
     exact ⟨F2, rfl, hS2⟩
    ·
     rw [if_f hc9] at H
     refine C_skip ?_
     refine N_block ?_
     refine N_code ?_
     refine C_region ?_
     refine W_add rfl rfl rfl rfl ?_
     refine W_move rfl rfl ?_
     refine W_nil ?_
     exact N_againM (wr (i3 + 1)) _ H ⟨F2, rfl, le2, hS2⟩ ⟨rfl, rfl, rfl, rfl, trivial⟩
   ·
    rw [if_f hc5] at H
    refine C_exit _ rfl ?_
    exact N_join _ ⟨H, ⟨F2, rfl, le2, hS2⟩⟩ trivial
 ·
  rintro E w1 ⟨H, F1, rfl, le1, hS1⟩
  dsimp only [slices_Index_int_int.k1] at H
  refine C_seq ?_
  refine C_region ?_
  refine W_assign rfl rfl ?_
  refine W_nil ?_
  refine N_code ?_
  obtain rfl := Option.some.inj H
  refine C_ret rfl rfl ?_
  exact ⟨F1, rfl, hS1⟩

def slices_Contains_int_int (x0 : List Int) (x1 : Int) : Option Bool :=
  bd (slices_Index_int_int x0 x1) fun r1 =>
  some (decide (0 ≤ r1))

theorem slices_Contains_int_int_ok {F : Frz} {w : World} {x0 : List Int} {x1 : Int} {r : Bool} {v0 : Value} (hA : Agree F w.heap) (h0 : SlF tI F v0 x0) (H : slices_Contains_int_int x0 x1 = some r) : Ret Try.prog 50 #[v0, .int .i64 x1] w fun v w' => ∃ (F' : Frz), v = .bool r ∧ St [] w F F' [] w' := by
 refine Ret_of (args := [v0, .int .i64 x1]) Go.Proofs.Try.func50 rfl rfl ?_
 change C _ _ _ _ [(0, v0), (1, .int .i64 x1)] _
 have hS := St.entry hA
 dsimp only [slices_Contains_int_int] at H
 refine C_seq ?_
 refine C_region ?_
 refine W_assign rfl rfl ?_
 refine W_nil ?_
 refine N_code ?_
 refine C_seq ?_
 obtain ⟨r1, hr1, H⟩ := bd_some H
 refine C_region ?_
 refine W_move rfl rfl ?_
 refine W_move rfl rfl ?_
 refine W_call rfl Ty.named57 rfl (slices_Index_int_int_ok hS.agree h0 hr1) ?_
 rintro v2 w2 ⟨Fr1, rfl, hT2⟩
 have hS2 := hS.lent hT2
 refine W_geq rfl rfl rfl ?_
 refine W_assign rfl rfl ?_
 refine W_nil ?_
 refine N_code ?_
 obtain rfl := Option.some.inj H
 refine C_ret rfl rfl ?_
 exact ⟨F, rfl, hS2⟩

def plan_Vols.k1 (l2 : List Int) : Option (List Int) :=
  some l2


def plan_Vols.k3 (i9 : Int) (rec10 : ((List Int) × Int) → Option (List Int)) (l13 : List Int) : Option (List Int) :=
  rec10 (l13, wr (i9 + 1))


def plan_Vols.l2 (x0 : List Read) (rec10 : ((List Int) × Int) → Option (List Int)) : ((List Int) × Int) → Option (List Int)
  | (l6, i9) =>
    if decide (i9 < (x0.length : Int)) then
      bd (ix x0 i9) fun x16 =>
      bd (slices_Contains_int_int l6 x16.loc.vol) fun r21 =>
      if (!r21) then
        bd (app (α := Int) l6 [x16.loc.vol]) fun l25 =>
        plan_Vols.k3 i9 rec10 l25
      else
        plan_Vols.k3 i9 rec10 l6
    else
      plan_Vols.k1 l6

def plan_Vols (x0 : List Read) : Option (List Int) :=
  loop (plan_Vols.l2 x0) ([], 0)

theorem plan_Vols_ok {F : Frz} {w : World} {x0 : List Read} {r : (List Int)} {v0 : Value} (hA : Agree F w.heap) (h0 : SlF Read.t F v0 x0) (H : plan_Vols x0 = some r) : Ret Try.prog 32 #[v0] w fun v w' => ∃ (F' : Frz) (q0 : Value), v = q0 ∧ St [] w F F' [.row tI 3 q0 (r)] w' := by
 refine Ret_of (args := [v0]) Go.Proofs.Try.func32 rfl rfl ?_
 change C _ _ _ _ [(0, v0)] _
 have hS := St.entry hA
 dsimp only [plan_Vols] at H
 refine C_seq ?_
 refine C_region ?_
 refine W_assign rfl rfl ?_
 refine W_nil ?_
 refine N_code ?_
 refine C_seq ?_
 refine C_region ?_
 refine W_assign rfl rfl ?_
 refine W_nil ?_
 refine N_code ?_
 refine C_seq_join (fun E wq => ∃ l2 : List Int, plan_Vols.k1 l2 = some r ∧ ∃ (F1 : Frz) (u3 : Value), E = [(3, u3)] ∧ F.le F1 ∧ St [] w F F1 [.row tI 3 u3 l2] wq) ?_ ?_
 ·
  refine C_seq ?_
  refine C_region ?_
  refine W_move rfl rfl ?_
  refine W_lenv rfl Go.Proofs.Try.underlying23 rfl h0.ln ?_
  refine W_move rfl rfl ?_
  refine W_nil ?_
  refine N_code ?_
  refine C_block ?_
  refine C_loopM (fun (s : (List Int) × Int) E wq => ∃ (F5 : Frz) (u7 : Value), E = [(3, u7), (6, v0), (7, .int .i64 (x0.length : Int)), (8, .int .i64 s.2)] ∧ F.le F5 ∧ St [] w F F5 [.row tI 3 u7 s.1] wq) H ?_ ?_
  ·
   have hS28 := hS.nilRow tI 3
   exact ⟨_, ⟨F, (.slice none 0 0), rfl, (Frz.le.refl _), hS28⟩, ⟨rfl, rfl, rfl, rfl, trivial⟩⟩
  ·
   rintro rec10 ⟨l6, i9⟩ E w5 hI H
   try dsimp only at hI
   obtain ⟨F5, u7, rfl, le5, hS5⟩ := hI
   dsimp only [plan_Vols.l2] at H
   refine C_seq ?_
   refine C_region ?_
   refine W_lss rfl rfl rfl ?_
   refine W_nil ?_
   refine N_code ?_
   refine C_seq ?_
   refine C_cond rfl (fun hc11 => ?_) (fun hc11 => ?_)
   ·
    rw [if_t hc11] at H
    refine C_skip ?_
    refine N_code ?_
    refine C_seq_join (fun E wq => ∃ l13 : List Int, plan_Vols.k3 i9 rec10 l13 = some r ∧ ∃ (F12 : Frz) (u14 : Value), E = [(3, u14), (6, v0), (7, .int .i64 (x0.length : Int)), (8, .int .i64 i9)] ∧ F5.le F12 ∧ St [] w F F12 [.row tI 3 u14 l13] wq) ?_ ?_
    ·
     refine C_block ?_
     refine C_seq ?_
     obtain ⟨x16, hx16, H⟩ := bd_some H
     refine C_region ?_
     obtain ⟨hp19, hy19⟩ := ix_some hx16
     obtain ⟨cs19, hr19, he19⟩ := (h0.mono le5).at_ hy19
     obtain rfl := hr19
     replace he19 : Elf _ _ 5 _ _ := he19
     refine W_ix rfl Go.Proofs.Try.underlying23 Ty.cells39 Ty.info39 rfl rfl (he19.el hS5.agree) hp19 rfl ?_
     refine W_ldg 0 ((Read.cells x16)) rfl Ty.agg39 Ty.size39 rfl (he19.el hS5.agree) (by omega) (fun q u h => sub_at (post := []) rfl h) ?_
     refine W_alc (cs := [.int .i64 0, .int .i64 0, .int .i64 0, .int .i64 0, .int .i64 0]) rfl Ty.zero39 rfl hS5 ?_
     intro g18 w18 hS18
     refine W_bst (c := [.int .i64 x16.want, .int .i64 x16.loc.vol, .int .i64 x16.loc.file, .int .i64 x16.loc.off, .int .i64 x16.loc.len]) 0 ([.int .i64 x16.want, .int .i64 x16.loc.vol, .int .i64 x16.loc.file, .int .i64 x16.loc.off, .int .i64 x16.loc.len]) rfl rfl hS18 rfl rfl Ty.size39 (fun y hy => Read.t.one (F := F5) (x := x16) rfl y hy) (Nat.le_of_ble_eq_true rfl) rfl ?_
     intro w20 hS20
     refine W_nil ?_
     refine N_code ?_
     refine C_seq ?_
     obtain ⟨r21, hr21, H⟩ := bd_some H
     refine C_region ?_
     refine W_move rfl rfl ?_
     refine W_field_pl 1 rfl Ty.field39_1 rfl ?_
     refine W_field_pl 0 rfl Ty.field37_0 rfl ?_
     refine W_bld1 0 rfl Ty.cell3 rfl hS20 rfl rfl ?_
     refine W_call rfl Ty.named50 rfl (slices_Contains_int_int_ok (now_agree _) (hS20.rowNow (k := 1) rfl) hr21) ?_
     rintro v22 w22 ⟨Fr21, rfl, hT22⟩
     have hS22 := hS20.lent hT22
     refine W_not rfl rfl ?_
     refine W_nil ?_
     refine N_code ?_
     refine C_cond rfl (fun hc23 => ?_) (fun hc23 => ?_)
     ·
      rw [if_t hc23] at H
      obtain ⟨l25, hl25, H⟩ := bd_some H
      refine C_region ?_
      refine W_move rfl rfl ?_
      refine W_field_pl 1 rfl Ty.field39_1 rfl ?_
      refine W_field_pl 0 rfl Ty.field37_0 rfl ?_
      refine W_bld1 0 rfl Ty.cell3 rfl hS22 rfl rfl ?_
      refine W_bs (t := tI) [[.int .i64 x16.loc.vol]] [x16.loc.vol] rfl Go.Proofs.Try.underlying22 Ty.cells3 rfl rfl Ty.zero3 rfl rfl ⟨rfl, trivial⟩ rfl rfl hS22 ?_
      intro u24 w24 hS24
      refine W_appM 2 rfl Go.Proofs.Try.underlying22 Ty.row3 rfl rfl rfl rfl rfl hS24 rfl (hS24.rowSrc (j := 0) rfl) hl25 ?_
      intro v26 w26 hS26
      refine W_assign rfl rfl ?_
      refine W_nil ?_
      refine N_block ?_
      exact N_join _ ⟨l25, H, ⟨F5, v26, rfl, (Frz.le.refl _), hS26.pick [2] (by decide)⟩⟩ ⟨rfl, rfl, rfl, rfl, trivial⟩
     ·
      rw [if_f hc23] at H
      refine C_skip ?_
      refine N_block ?_
      exact N_join _ ⟨l6, H, ⟨F5, u7, rfl, (Frz.le.refl _), hS22.pick [1] (by decide)⟩⟩ ⟨rfl, rfl, rfl, rfl, trivial⟩
    ·
     rintro E w12 ⟨l13, H, F12, u14, rfl, le12, hS12⟩
     dsimp only [plan_Vols.k3] at H
     refine C_region ?_
     refine W_add rfl rfl rfl rfl ?_
     refine W_move rfl rfl ?_
     refine W_nil ?_
     exact N_againM (l13, wr (i9 + 1)) _ H ⟨F12, u14, rfl, (le5.trans le12), hS12⟩ ⟨rfl, rfl, rfl, rfl, trivial⟩
   ·
    rw [if_f hc11] at H
    refine C_exit _ rfl ?_
    exact N_join _ ⟨l6, H, ⟨F5, u7, rfl, le5, hS5⟩⟩ ⟨rfl, trivial⟩
 ·
  rintro E w1 ⟨l2, H, F1, u3, rfl, le1, hS1⟩
  dsimp only [plan_Vols.k1] at H
  refine C_seq ?_
  refine C_region ?_
  refine W_move rfl rfl ?_
  refine W_assign rfl rfl ?_
  refine W_nil ?_
  refine N_code ?_
  obtain rfl := Option.some.inj H
  refine C_ret rfl rfl ?_
  exact ⟨F1, u3, rfl, hS1⟩

def slices_Clone_api_Loc_api_Loc (x0 : List Loc) : Option (List Loc) :=
  bd (app (α := Loc) ([] : List Loc) x0) fun l6 =>
  some l6

theorem slices_Clone_api_Loc_api_Loc_ok {F : Frz} {w : World} {x0 : List Loc} {r : (List Loc)} {v0 : Value} (hA : Agree F w.heap) (h0 : SlF Loc.t F v0 x0) (H : slices_Clone_api_Loc_api_Loc x0 = some r) : Ret Try.prog 47 #[v0] w fun v w' => ∃ (F' : Frz) (q0 : Value), v = q0 ∧ St [] w F F' [.row Loc.t 37 q0 (r)] w' := by
 refine Ret_of (args := [v0]) Go.Proofs.Try.func47 rfl rfl ?_
 change C _ _ _ _ [(0, v0)] _
 have hS := St.entry hA
 dsimp only [slices_Clone_api_Loc_api_Loc] at H
 refine C_seq ?_
 refine C_region ?_
 refine W_assign rfl rfl ?_
 refine W_nil ?_
 refine N_code ?_
 refine C_seq ?_
 refine C_seq ?_
 refine C_region ?_
 refine W_move rfl rfl ?_
 refine W_nilq rfl Go.Proofs.Try.underlying49 rfl h0.ln ?_
 intro b1 hb1
 refine W_nil ?_
 refine N_code ?_
 refine C_cond rfl (fun hc2 => ?_) (fun hc2 => ?_)
 ·
  have hx2 : x0 = [] := List.eq_nil_of_length_eq_zero (hb1 hc2)
  have H : (some [] : Option (List Loc)) = some r := by first | (rw [hx2] at H; exact H) | (subst hx2; exact H)
  refine C_seq ?_
  refine C_region ?_
  refine W_assign rfl rfl ?_
  refine W_nil ?_
  refine N_code ?_
  have hS4 := hS.nilRow Loc.t 37
  obtain rfl := Option.some.inj H
  refine C_ret rfl rfl ?_
  exact ⟨F, (.slice none 0 0), rfl, hS4⟩
 ·
  refine C_skip ?_
  refine N_code ?_
  refine C_seq ?_
  obtain ⟨l6, hl6, H⟩ := bd_some H
  refine C_region ?_
  refine W_bs (t := Loc.t) [] ([] : List Loc) rfl Go.Proofs.Try.underlying49 Ty.cells37 rfl rfl Ty.zero37 rfl rfl trivial rfl rfl hS ?_
  intro u5 w5 hS5
  refine W_move rfl rfl ?_
  refine W_appM 0 rfl Go.Proofs.Try.underlying49 Ty.row37 rfl rfl rfl rfl rfl hS5 rfl (h0.src hS5.agree) hl6 ?_
  intro v7 w7 hS7
  refine W_assign rfl rfl ?_
  refine W_nil ?_
  refine N_code ?_
  obtain rfl := Option.some.inj H
  refine C_ret rfl rfl ?_
  exact ⟨F, v7, rfl, hS7⟩

def slices_Compact_api_Loc_api_Loc.k1 (x0 : List Loc) : Option (List Loc) :=
  some x0


def slices_Compact_api_Loc_api_Loc.k3 (i4 : Int) (rec5 : Int → Option (List Loc)) : Option (List Loc) :=
  rec5 (wr (i4 + 1))


def slices_Compact_api_Loc_api_Loc.k4 (i28 : Int) (l29 : List Loc) : Option (List Loc) :=
  bd (cut (α := Loc) l29 i28 (l29.length : Int)) fun l30 =>
  bd (clr l29 i28.toNat ((l29.length : Int).toNat - i28.toNat) (Loc.mk 0 0 0 0)) fun l32 =>
  bd (cut (α := Loc) l32 0 i28) fun l34 =>
  some l34


def slices_Compact_api_Loc_api_Loc.k6 (i39 : Int) (rec41 : (Int × Int × (List Loc)) → Option (List Loc)) (i44 : Int) (l45 : List Loc) : Option (List Loc) :=
  rec41 (i44, wr (i39 + 1), l45)


def slices_Compact_api_Loc_api_Loc.l5 (x0 : List Loc) (i4 : Int) (rec41 : (Int × Int × (List Loc)) → Option (List Loc)) : (Int × Int × (List Loc)) → Option (List Loc)
  | (i38, i39, l40) =>
    if decide (i39 < (((x0.length : Int).toNat - i4.toNat : Nat) : Int)) then
      bd (ixp l40 i4.toNat ((x0.length : Int).toNat - i4.toNat) i39) fun x46 =>
      bd (ixp l40 i4.toNat ((x0.length : Int).toNat - i4.toNat) (wr (i39 - 1))) fun x48 =>
      if (!decide (x46 = x48)) then
        bd (ixp l40 i4.toNat ((x0.length : Int).toNat - i4.toNat) i39) fun x63 =>
        bd (ix l40 i38) fun x65 =>
        slices_Compact_api_Loc_api_Loc.k6 i39 rec41 (wr (i38 + 1)) (l40.set i38.toNat x63)
      else
        slices_Compact_api_Loc_api_Loc.k6 i39 rec41 i38 l40
    else
      slices_Compact_api_Loc_api_Loc.k4 i38 l40


def slices_Compact_api_Loc_api_Loc.l2 (x0 : List Loc) (rec5 : Int → Option (List Loc)) : Int → Option (List Loc)
  | i4 =>
    if decide (i4 < (x0.length : Int)) then
      bd (ix x0 i4) fun x8 =>
      bd (ix x0 (wr (i4 - 1))) fun x10 =>
      if decide (x8 = x10) then
        bd (cut (α := Loc) x0 i4 (x0.length : Int)) fun l25 =>
        loop (slices_Compact_api_Loc_api_Loc.l5 x0 i4) (i4, 1, x0)
      else
        slices_Compact_api_Loc_api_Loc.k3 i4 rec5
    else
      slices_Compact_api_Loc_api_Loc.k1 x0

def slices_Compact_api_Loc_api_Loc (x0 : List Loc) : Option (List Loc) :=
  if decide ((x0.length : Int) < 2) then
    some x0
  else
    loop (slices_Compact_api_Loc_api_Loc.l2 x0) 1

theorem slices_Compact_api_Loc_api_Loc_ok {F : Frz} {w : World} {x0 : List Loc} {r : (List Loc)} {v0 : Value} (hS : St v0.ownBlock.toList w F F [.row Loc.t 37 v0 x0] w) (H : slices_Compact_api_Loc_api_Loc x0 = some r) : Ret Try.prog 49 #[v0] w fun v w' => ∃ (F' : Frz) (q0 : Value), v = q0 ∧ St v0.ownBlock.toList w F F' [.row Loc.t 37 q0 (r)] w' := by
 refine Ret_of (args := [v0]) Go.Proofs.Try.func49 rfl rfl ?_
 change C _ _ _ _ [(0, v0)] _
 dsimp only [slices_Compact_api_Loc_api_Loc] at H
 refine C_seq ?_
 refine C_region ?_
 refine W_assign rfl rfl ?_
 refine W_nil ?_
 refine N_code ?_
 refine C_seq ?_
 refine C_seq ?_
 refine C_region ?_
 refine W_move rfl rfl ?_
 refine W_lenv rfl Go.Proofs.Try.underlying49 rfl (hS.rowLn (k := 0) rfl) ?_
 refine W_lss rfl rfl rfl ?_
 refine W_nil ?_
 refine N_code ?_
 refine C_cond rfl (fun hc1 => ?_) (fun hc1 => ?_)
 ·
  rw [if_t hc1] at H
  refine C_seq ?_
  refine C_region ?_
  refine W_move rfl rfl ?_
  refine W_assign rfl rfl ?_
  refine W_nil ?_
  refine N_code ?_
  obtain rfl := Option.some.inj H
  refine C_ret rfl rfl ?_
  exact ⟨F, v0, rfl, hS⟩
 ·
  rw [if_f hc1] at H
  refine C_skip ?_
  refine N_code ?_
  refine C_seq_join (fun E wq => slices_Compact_api_Loc_api_Loc.k1 x0 = some r ∧ ∃ (F2 : Frz), E = [(0, v0)] ∧ F.le F2 ∧ St v0.ownBlock.toList w F F2 [.row Loc.t 37 v0 x0] wq) ?_ ?_
  ·
   refine C_seq ?_
   refine C_region ?_
   refine W_assign rfl rfl ?_
   refine W_nil ?_
   refine N_code ?_
   refine C_block ?_
   refine C_loopM (fun (s : Int) E wq => ∃ (F3 : Frz), E = [(0, v0), (3, .int .i64 s)] ∧ F.le F3 ∧ St v0.ownBlock.toList w F F3 [.row Loc.t 37 v0 x0] wq) H ?_ ?_
   ·
    exact ⟨_, ⟨F, rfl, (Frz.le.refl _), hS⟩, ⟨rfl, rfl, trivial⟩⟩
   ·
    rintro rec5 i4 E w3 hI H
    try dsimp only at hI
    obtain ⟨F3, rfl, le3, hS3⟩ := hI
    dsimp only [slices_Compact_api_Loc_api_Loc.l2] at H
    refine C_seq ?_
    refine C_seq ?_
    refine C_region ?_
    refine W_move rfl rfl ?_
    refine W_move rfl rfl ?_
    refine W_lenv rfl Go.Proofs.Try.underlying49 rfl (hS3.rowLn (k := 0) rfl) ?_
    refine W_lss rfl rfl rfl ?_
    refine W_nil ?_
    refine N_code ?_
    refine C_cond rfl (fun hc6 => ?_) (fun hc6 => ?_)
    ·
     rw [if_t hc6] at H
     refine C_skip ?_
     refine N_code ?_
     refine C_seq_join (fun E wq => slices_Compact_api_Loc_api_Loc.k3 i4 rec5 = some r ∧ ∃ (F7 : Frz), E = [(0, v0), (3, .int .i64 i4)] ∧ F3.le F7 ∧ St v0.ownBlock.toList w F F7 [.row Loc.t 37 v0 x0] wq) ?_ ?_
     ·
      refine C_block ?_
      refine C_seq ?_
      obtain ⟨x8, hx8, H⟩ := bd_some H
      obtain ⟨x10, hx10, H⟩ := bd_some H
      obtain ⟨hp12, hy12⟩ := ix_some hx8
      obtain ⟨cs12, hr12, he12⟩ := hS3.rowAt (k := 0) rfl hy12
      obtain rfl := hr12
      replace he12 : El _ _ 4 _ _ := he12
      obtain ⟨hp13, hy13⟩ := ix_some hx10
      obtain ⟨cs13, hr13, he13⟩ := hS3.rowAt (k := 0) rfl hy13
      obtain rfl := hr13
      replace he13 : El _ _ 4 _ _ := he13
      apply C_draw 9 [[], [], [0, 1], [2], [], [], [5], [4, 6], [7]] [.val (v0), .val (.int .i64 i4), .val (elp v0 (i4.toNat * 4)), .val (.agg (Loc.cells x8).toArray), .val (v0), .val (.int .i64 i4), .val (.int .i64 (wr (i4 - 1))), .val (elp v0 ((wr (i4 - 1)).toNat * 4)), .val (.agg (Loc.cells x10).toArray)] Ty.mixed rfl rfl (by kernel_rfl) (by kernel_rfl) rfl
      ·
       refine ⟨?_, ?_, ?_, ?_, ?_, ?_, ?_, ?_, ?_, trivial⟩
       ·
        intro w14 vq14 hB14 hH14
        have hS14 := hS3.below hB14
        refine W_move rfl rfl ?_
        refine W_nil ?_
        exact N_step rfl rfl (Below.refl _ _)
       ·
        intro w15 vq15 hB15 hH15
        have hS15 := hS3.below hB15
        refine W_move rfl rfl ?_
        refine W_nil ?_
        exact N_step rfl rfl (Below.refl _ _)
       ·
        intro w16 vq16 hB16 hH16
        have hS16 := hS3.below hB16
        refine W_ix rfl Go.Proofs.Try.underlying49 Ty.cells37 Ty.info37 rfl rfl (he12.below hB16) hp12 rfl ?_
        refine W_nil ?_
        exact N_step rfl rfl (Below.refl _ _)
       ·
        intro w17 vq17 hB17 hH17
        have hS17 := hS3.below hB17
        refine W_ldg 0 ((Loc.cells x8)) rfl Ty.agg37 Ty.size37 rfl (he12.below hB17) (by omega) (fun q u h => sub_at (post := []) rfl h) ?_
        refine W_nil ?_
        exact N_step rfl rfl (Below.refl _ _)
       ·
        intro w18 vq18 hB18 hH18
        have hS18 := hS3.below hB18
        refine W_move rfl rfl ?_
        refine W_nil ?_
        exact N_step rfl rfl (Below.refl _ _)
       ·
        intro w19 vq19 hB19 hH19
        have hS19 := hS3.below hB19
        refine W_move rfl rfl ?_
        refine W_nil ?_
        exact N_step rfl rfl (Below.refl _ _)
       ·
        intro w20 vq20 hB20 hH20
        have hS20 := hS3.below hB20
        refine W_subi rfl rfl rfl rfl ?_
        refine W_nil ?_
        exact N_step rfl rfl (Below.refl _ _)
       ·
        intro w21 vq21 hB21 hH21
        have hS21 := hS3.below hB21
        refine W_ix rfl Go.Proofs.Try.underlying49 Ty.cells37 Ty.info37 rfl rfl (he13.below hB21) hp13 rfl ?_
        refine W_nil ?_
        exact N_step rfl rfl (Below.refl _ _)
       ·
        intro w22 vq22 hB22 hH22
        have hS22 := hS3.below hB22
        refine W_ldg 0 ((Loc.cells x10)) rfl Ty.agg37 Ty.size37 rfl (he13.below hB22) (by omega) (fun q u h => sub_at (post := []) rfl h) ?_
        refine W_nil ?_
        exact N_step rfl rfl (Below.refl _ _)
      intro w23 vq23 hB23 hH23
      have hS23 := hS3.below hB23
      refine W_eql_agg rfl Ty.eqg37 rfl rfl (eq_Loc _ _ _) ?_
      refine W_nil ?_
      refine N_code ?_
      refine C_cond rfl (fun hc24 => ?_) (fun hc24 => ?_)
      ·
       rw [if_t hc24] at H
       refine C_seq ?_
       obtain ⟨l25, hl25, H⟩ := bd_some H
       refine C_region ?_
       refine W_move rfl rfl ?_
       refine W_move rfl rfl ?_
       refine W_cutR 0 i4 (x0.length : Int) rfl Go.Proofs.Try.underlying49 Ty.cells37 Ty.info37 rfl ⟨_, rfl⟩ rfl hS23 rfl hl25 ?_
       intro q26 hv26 hw26
       refine W_assign rfl rfl ?_
       refine W_nil ?_
       refine N_code ?_
       refine C_seq_join (fun E wq => ∃ i28 : Int, ∃ l29 : List Loc, slices_Compact_api_Loc_api_Loc.k4 i28 l29 = some r ∧ ∃ (F27 : Frz), E = [(0, v0), (3, .int .i64 i28)] ∧ F3.le F27 ∧ St v0.ownBlock.toList w F F27 [.row Loc.t 37 v0 l29] wq) ?_ ?_
       ·
        refine C_seq ?_
        refine C_region ?_
        refine W_assign rfl rfl ?_
        refine W_nil ?_
        refine N_code ?_
        refine C_block ?_
        refine C_loopM (fun (s : Int × Int × (List Loc)) E wq => ∃ (F37 : Frz), E = [(0, v0), (3, .int .i64 s.1), (4, q26), (5, .int .i64 s.2.1)] ∧ F3.le F37 ∧ St v0.ownBlock.toList w F F37 [.row Loc.t 37 v0 s.2.2] wq) H ?_ ?_
        ·
         exact ⟨_, ⟨F3, rfl, (Frz.le.refl _), hS23⟩, ⟨rfl, rfl, rfl, rfl, trivial⟩⟩
        ·
         rintro rec41 ⟨i38, i39, l40⟩ E w37 hI H
         try dsimp only at hI
         obtain ⟨F37, rfl, le37, hS37⟩ := hI
         dsimp only [slices_Compact_api_Loc_api_Loc.l5] at H
         refine C_seq ?_
         refine C_seq ?_
         refine C_region ?_
         refine W_move rfl rfl ?_
         refine W_move rfl rfl ?_
         refine W_lenv rfl Go.Proofs.Try.underlying49 rfl hw26.ln ?_
         refine W_lss rfl rfl rfl ?_
         refine W_nil ?_
         refine N_code ?_
         refine C_cond rfl (fun hc42 => ?_) (fun hc42 => ?_)
         ·
          rw [if_t hc42] at H
          refine C_skip ?_
          refine N_code ?_
          refine C_seq_join (fun E wq => ∃ i44 : Int, ∃ l45 : List Loc, slices_Compact_api_Loc_api_Loc.k6 i39 rec41 i44 l45 = some r ∧ ∃ (F43 : Frz), E = [(0, v0), (3, .int .i64 i44), (4, q26), (5, .int .i64 i39)] ∧ F37.le F43 ∧ St v0.ownBlock.toList w F F43 [.row Loc.t 37 v0 l45] wq) ?_ ?_
          ·
           refine C_block ?_
           refine C_seq ?_
           obtain ⟨x46, hx46, H⟩ := bd_some H
           obtain ⟨x48, hx48, H⟩ := bd_some H
           obtain ⟨hp50, hz50, hy50⟩ := ixp_some hx46
           obtain ⟨cs50, hr50, he50⟩ := hS37.rowAt (k := 0) rfl hy50
           obtain rfl := hr50
           replace he50 := he50.piece hw26 hz50
           replace he50 : El _ _ 4 _ _ := he50
           obtain ⟨hp51, hz51, hy51⟩ := ixp_some hx48
           obtain ⟨cs51, hr51, he51⟩ := hS37.rowAt (k := 0) rfl hy51
           obtain rfl := hr51
           replace he51 := he51.piece hw26 hz51
           replace he51 : El _ _ 4 _ _ := he51
           apply C_draw 9 [[], [], [0, 1], [2], [], [], [5], [4, 6], [7]] [.val (q26), .val (.int .i64 i39), .val (elp q26 (i39.toNat * 4)), .val (.agg (Loc.cells x46).toArray), .val (q26), .val (.int .i64 i39), .val (.int .i64 (wr (i39 - 1))), .val (elp q26 ((wr (i39 - 1)).toNat * 4)), .val (.agg (Loc.cells x48).toArray)] Ty.mixed rfl rfl (by kernel_rfl) (by kernel_rfl) rfl
           ·
            refine ⟨?_, ?_, ?_, ?_, ?_, ?_, ?_, ?_, ?_, trivial⟩
            ·
             intro w52 vq52 hB52 hH52
             have hS52 := hS37.below hB52
             refine W_move rfl rfl ?_
             refine W_nil ?_
             exact N_step rfl rfl (Below.refl _ _)
            ·
             intro w53 vq53 hB53 hH53
             have hS53 := hS37.below hB53
             refine W_move rfl rfl ?_
             refine W_nil ?_
             exact N_step rfl rfl (Below.refl _ _)
            ·
             intro w54 vq54 hB54 hH54
             have hS54 := hS37.below hB54
             refine W_ix rfl Go.Proofs.Try.underlying49 Ty.cells37 Ty.info37 rfl rfl (he50.below hB54) hp50 rfl ?_
             refine W_nil ?_
             exact N_step rfl rfl (Below.refl _ _)
            ·
             intro w55 vq55 hB55 hH55
             have hS55 := hS37.below hB55
             refine W_ldg 0 ((Loc.cells x46)) rfl Ty.agg37 Ty.size37 rfl (he50.below hB55) (by omega) (fun q u h => sub_at (post := []) rfl h) ?_
             refine W_nil ?_
             exact N_step rfl rfl (Below.refl _ _)
            ·
             intro w56 vq56 hB56 hH56
             have hS56 := hS37.below hB56
             refine W_move rfl rfl ?_
             refine W_nil ?_
             exact N_step rfl rfl (Below.refl _ _)
            ·
             intro w57 vq57 hB57 hH57
             have hS57 := hS37.below hB57
             refine W_move rfl rfl ?_
             refine W_nil ?_
             exact N_step rfl rfl (Below.refl _ _)
            ·
             intro w58 vq58 hB58 hH58
             have hS58 := hS37.below hB58
             refine W_subi rfl rfl rfl rfl ?_
             refine W_nil ?_
             exact N_step rfl rfl (Below.refl _ _)
            ·
             intro w59 vq59 hB59 hH59
             have hS59 := hS37.below hB59
             refine W_ix rfl Go.Proofs.Try.underlying49 Ty.cells37 Ty.info37 rfl rfl (he51.below hB59) hp51 rfl ?_
             refine W_nil ?_
             exact N_step rfl rfl (Below.refl _ _)
            ·
             intro w60 vq60 hB60 hH60
             have hS60 := hS37.below hB60
             refine W_ldg 0 ((Loc.cells x48)) rfl Ty.agg37 Ty.size37 rfl (he51.below hB60) (by omega) (fun q u h => sub_at (post := []) rfl h) ?_
             refine W_nil ?_
             exact N_step rfl rfl (Below.refl _ _)
           intro w61 vq61 hB61 hH61
           have hS61 := hS37.below hB61
           refine W_neq_agg rfl Ty.eqg37 rfl rfl (eq_Loc _ _ _) ?_
           refine W_nil ?_
           refine N_code ?_
           refine C_cond rfl (fun hc62 => ?_) (fun hc62 => ?_)
           ·
            rw [if_t hc62] at H
            refine C_seq ?_
            obtain ⟨x63, hx63, H⟩ := bd_some H
            obtain ⟨x65, hx65, H⟩ := bd_some H
            refine C_region ?_
            refine W_move rfl rfl ?_
            refine W_move rfl rfl ?_
            refine W_move rfl rfl ?_
            refine W_move rfl rfl ?_
            obtain ⟨hp67, hz67, hy67⟩ := ixp_some hx63
            obtain ⟨cs67, hr67, he67⟩ := hS61.rowAt (k := 0) rfl hy67
            obtain rfl := hr67
            replace he67 := he67.piece hw26 hz67
            replace he67 : El _ _ 4 _ _ := he67
            refine W_ix rfl Go.Proofs.Try.underlying49 Ty.cells37 Ty.info37 rfl rfl he67 hp67 rfl ?_
            refine W_ldg 0 ((Loc.cells x63)) rfl Ty.agg37 Ty.size37 rfl he67 (by omega) (fun q u h => sub_at (post := []) rfl h) ?_
            obtain ⟨hp68, hy68⟩ := ix_some hx65
            obtain ⟨cs68, hr68, he68⟩ := hS61.rowAt (k := 0) rfl hy68
            obtain rfl := hr68
            replace he68 : El _ _ 4 _ _ := he68
            refine W_ix rfl Go.Proofs.Try.underlying49 Ty.cells37 Ty.info37 rfl rfl he68 hp68 rfl ?_
            refine W_put (c := [.int .i64 x63.vol, .int .i64 x63.file, .int .i64 x63.off, .int .i64 x63.len]) 0 (i38.toNat) 0 x65 x63 rfl rfl hS61 rfl (ix_some hx65).2 (by first | rfl | (show _ = _ * 4 + _; omega)) rfl Ty.size37 (fun y hy => Loc.t.one (F := F37) (x := x63) rfl y hy) (by first | decide | exact Nat.le_of_ble_eq_true rfl) (by rintro cs rfl; rfl) ?_
            intro w69 hS69
            refine W_nil ?_
            refine N_code ?_
            refine C_region ?_
            refine W_move rfl rfl ?_
            refine W_add rfl rfl rfl rfl ?_
            refine W_assign rfl rfl ?_
            refine W_nil ?_
            refine N_block ?_
            exact N_join _ ⟨wr (i38 + 1), (l40.set i38.toNat x63), H, ⟨F37, rfl, (Frz.le.refl _), hS69⟩⟩ ⟨rfl, rfl, rfl, rfl, trivial⟩
           ·
            rw [if_f hc62] at H
            refine C_skip ?_
            refine N_block ?_
            exact N_join _ ⟨i38, l40, H, ⟨F37, rfl, (Frz.le.refl _), hS61⟩⟩ ⟨rfl, rfl, rfl, rfl, trivial⟩
          ·
           rintro E w43 ⟨i44, l45, H, F43, rfl, le43, hS43⟩
           dsimp only [slices_Compact_api_Loc_api_Loc.k6] at H
           refine C_region ?_
           refine W_move rfl rfl ?_
           refine W_add rfl rfl rfl rfl ?_
           refine W_assign rfl rfl ?_
           refine W_nil ?_
           exact N_againM (i44, wr (i39 + 1), l45) _ H ⟨F43, rfl, (le37.trans le43), hS43⟩ ⟨rfl, rfl, rfl, rfl, trivial⟩
         ·
          rw [if_f hc42] at H
          refine C_exit _ rfl ?_
          exact N_join _ ⟨i38, l40, H, ⟨F37, rfl, le37, hS37⟩⟩ ⟨rfl, rfl, trivial⟩
       ·
        rintro E w27 ⟨i28, l29, H, F27, rfl, le27, hS27⟩
        dsimp only [slices_Compact_api_Loc_api_Loc.k4] at H
        refine C_seq ?_
        obtain ⟨l30, hl30, H⟩ := bd_some H
        obtain ⟨l32, hl32, H⟩ := bd_some H
        refine C_region ?_
        refine W_move rfl rfl ?_
        refine W_move rfl rfl ?_
        refine W_cutR 0 i28 (l29.length : Int) rfl Go.Proofs.Try.underlying49 Ty.cells37 Ty.info37 rfl ⟨_, rfl⟩ rfl hS27 rfl hl30 ?_
        intro q31 hv31 hw31
        refine W_clr (x0 := (Loc.mk 0 0 0 0)) 0 Go.Proofs.Try.underlying49 Ty.zero37 rfl rfl hS27 rfl hw31 hl32 ?_
        intro w33 hS33
        refine W_nil ?_
        refine N_code ?_
        refine C_seq ?_
        obtain ⟨l34, hl34, H⟩ := bd_some H
        refine C_region ?_
        refine W_move rfl rfl ?_
        refine W_move rfl rfl ?_
        refine W_cutR 0 0 i28 rfl Go.Proofs.Try.underlying49 Ty.cells37 Ty.info37 rfl rfl ⟨_, rfl⟩ hS33 rfl hl34 ?_
        intro q35 hv35 hw35
        refine W_assign rfl rfl ?_
        refine W_nil ?_
        refine N_code ?_
        have hS36 := hS33.shrink 0 rfl hw35 hl34
        obtain rfl := Option.some.inj H
        refine C_ret rfl rfl ?_
        exact ⟨F27, q35, rfl, hS36⟩
      ·
       rw [if_f hc24] at H
       refine C_skip ?_
       refine N_block ?_
       exact N_join _ ⟨H, ⟨F3, rfl, (Frz.le.refl _), hS23⟩⟩ ⟨rfl, rfl, trivial⟩
     ·
      rintro E w7 ⟨H, F7, rfl, le7, hS7⟩
      dsimp only [slices_Compact_api_Loc_api_Loc.k3] at H
      refine C_region ?_
      refine W_move rfl rfl ?_
      refine W_add rfl rfl rfl rfl ?_
      refine W_assign rfl rfl ?_
      refine W_nil ?_
      exact N_againM (wr (i4 + 1)) _ H ⟨F7, rfl, (le3.trans le7), hS7⟩ ⟨rfl, rfl, trivial⟩
    ·
     rw [if_f hc6] at H
     refine C_exit _ rfl ?_
     exact N_join _ ⟨H, ⟨F3, rfl, le3, hS3⟩⟩ ⟨rfl, trivial⟩
  ·
   rintro E w2 ⟨H, F2, rfl, le2, hS2⟩
   dsimp only [slices_Compact_api_Loc_api_Loc.k1] at H
   refine C_seq ?_
   refine C_region ?_
   refine W_move rfl rfl ?_
   refine W_assign rfl rfl ?_
   refine W_nil ?_
   refine N_code ?_
   obtain rfl := Option.some.inj H
   refine C_ret rfl rfl ?_
   exact ⟨F2, v0, rfl, hS2⟩

def plan_Sort (x0 : List Loc) : Option (List Loc) :=
  bd (slices_Clone_api_Loc_api_Loc x0) fun r1 =>
  bd (sortM ordLoc r1) fun r3 =>
  bd (slices_Compact_api_Loc_api_Loc r3) fun r5 =>
  bd (slices_Clone_api_Loc_api_Loc r5) fun r6 =>
  some r6

theorem plan_Sort_ok {F : Frz} {w : World} {x0 : List Loc} {r : (List Loc)} {v0 : Value} (hA : Agree F w.heap) (h0 : SlF Loc.t F v0 x0) (H : plan_Sort x0 = some r) : Ret Try.prog 29 #[v0] w fun v w' => ∃ (F' : Frz) (q0 : Value), v = q0 ∧ St [] w F F' [.row Loc.t 37 q0 (r)] w' := by
 refine Ret_of (args := [v0]) Go.Proofs.Try.func29 rfl rfl ?_
 change C _ _ _ _ [(0, v0)] _
 have hS := St.entry hA
 dsimp only [plan_Sort] at H
 refine C_seq ?_
 refine C_region ?_
 refine W_assign rfl rfl ?_
 refine W_nil ?_
 refine N_code ?_
 refine C_seq ?_
 obtain ⟨r1, hr1, H⟩ := bd_some H
 refine C_region ?_
 refine W_move rfl rfl ?_
 refine W_call rfl Ty.named47 rfl (slices_Clone_api_Loc_api_Loc_ok hS.agree h0 hr1) ?_
 rintro ur1_0 w2 ⟨Fr1, _, rfl, hT2⟩
 have hS2 := hS.call hT2
 have ler1 := hT2.ext
 refine W_assign rfl rfl ?_
 refine W_nil ?_
 refine N_code ?_
 refine C_seq ?_
 obtain ⟨r3, hr3, H⟩ := bd_some H
 refine C_region ?_
 refine W_move rfl rfl ?_
 refine W_call rfl Ty.named48 rfl (sortLoc_ok (hS2.lendRow 0 rfl) hr3) ?_
 rintro v4 w4 ⟨Fr3, hT4⟩
 have hS4 := hS2.backRow 0 [] rfl (by decide) (by decide) hT4
 have ler3 := hT4.ext
 refine W_nil ?_
 refine N_code ?_
 refine C_seq ?_
 obtain ⟨r5, hr5, H⟩ := bd_some H
 obtain ⟨r6, hr6, H⟩ := bd_some H
 refine C_region ?_
 refine W_move rfl rfl ?_
 refine W_call rfl Ty.named49 rfl (slices_Compact_api_Loc_api_Loc_ok (hS4.lendRow 0 rfl) hr5) ?_
 rintro ur5_0 w7 ⟨Fr5, _, rfl, hT7⟩
 have hS7 := hS4.backRow 0 [] rfl (by decide) (by decide) hT7
 have ler5 := hT7.ext
 refine W_call rfl Ty.named47 rfl (slices_Clone_api_Loc_api_Loc_ok (now_agree _) (hS7.rowNow (k := 0) rfl) hr6) ?_
 rintro ur6_0 w8 ⟨Fr6, _, rfl, hT8⟩
 have hS8 := hS7.lentFlat hT8 ⟨fun h => h, trivial⟩
 refine W_assign rfl rfl ?_
 refine W_nil ?_
 refine N_code ?_
 obtain rfl := Option.some.inj H
 refine C_ret rfl rfl ?_
 exact ⟨Fr5, ur6_0, rfl, hS8.pick [0] (by decide)⟩

def plan_Order.k1 (l2 : List Read) (l5 : List Int) : Option ((List Read) × (List Int)) :=
  bd (sortM ordRead l2) fun r8 =>
  some (r8, l5)


def plan_Order.k3 (i17 : Int) (rec18 : ((List Read) × (List Int) × Int) → Option ((List Read) × (List Int))) (l21 : List Read) (l24 : List Int) : Option ((List Read) × (List Int)) :=
  rec18 (l21, l24, wr (i17 + 1))


def plan_Order.l2 (x0 : List Want) (rec18 : ((List Read) × (List Int) × Int) → Option ((List Read) × (List Int))) : ((List Read) × (List Int) × Int) → Option ((List Read) × (List Int))
  | (l11, l14, i17) =>
    if decide (i17 < (x0.length : Int)) then
      bd (ix x0 i17) fun x27 =>
      if decide ((x27.locs.length : Int) = 0) then
        bd (app (α := Int) l14 [i17]) fun l34 =>
        plan_Order.k3 i17 rec18 l11 l34
      else
        bd (plan_Sort x27.locs) fun r36 =>
        bd (ix r36 0) fun x37 =>
        bd (app (α := Read) l11 [(Read.mk i17 x37)]) fun l40 =>
        plan_Order.k3 i17 rec18 l40 l14
    else
      plan_Order.k1 l11 l14

def plan_Order (x0 : List Want) : Option ((List Read) × (List Int)) :=
  loop (plan_Order.l2 x0) ([], [], 0)

theorem plan_Order_ok {F : Frz} {w : World} {x0 : List Want} {r : (List Read) × (List Int)} {v0 : Value} (hA : Agree F w.heap) (h0 : SlF Want.t F v0 x0) (H : plan_Order x0 = some r) : Ret Try.prog 27 #[v0] w fun v w' => ∃ (F' : Frz) (q0 : Value) (q1 : Value), v = .tuple #[q0, q1] ∧ St [] w F F' [.row Read.t 39 q0 (r.1), .row tI 3 q1 (r.2)] w' := by
 refine Ret_of (args := [v0]) Go.Proofs.Try.func27 rfl rfl ?_
 change C _ _ _ _ [(0, v0)] _
 have hS := St.entry hA
 dsimp only [plan_Order] at H
 refine C_seq ?_
 refine C_region ?_
 refine W_assign rfl rfl ?_
 refine W_assign rfl rfl ?_
 refine W_nil ?_
 refine N_code ?_
 refine C_seq_join (fun E wq => ∃ l2 : List Read, ∃ l5 : List Int, plan_Order.k1 l2 l5 = some r ∧ ∃ (F1 : Frz) (u3 : Value) (u6 : Value), E = [(2, u3), (3, u6)] ∧ F.le F1 ∧ St [] w F F1 [.row Read.t 39 u3 l2, .row tI 3 u6 l5] wq) ?_ ?_
 ·
  refine C_seq ?_
  refine C_region ?_
  refine W_move rfl rfl ?_
  refine W_lenv rfl Go.Proofs.Try.underlying47 rfl h0.ln ?_
  refine W_move rfl rfl ?_
  refine W_nil ?_
  refine N_code ?_
  refine C_block ?_
  refine C_loopM (fun (s : (List Read) × (List Int) × Int) E wq => ∃ (F10 : Frz) (u12 : Value) (u15 : Value), E = [(2, u12), (3, u15), (6, v0), (7, .int .i64 (x0.length : Int)), (8, .int .i64 s.2.2)] ∧ F.le F10 ∧ St [] w F F10 [.row Read.t 39 u12 s.1, .row tI 3 u15 s.2.1] wq) H ?_ ?_
  ·
   have hS45 := hS.nilRow Read.t 39
   have hS47 := hS45.nilRow tI 3
   exact ⟨_, ⟨F, (.slice none 0 0), (.slice none 0 0), rfl, (Frz.le.refl _), hS47.pick [1, 0] (by decide)⟩, ⟨rfl, rfl, rfl, rfl, rfl, trivial⟩⟩
  ·
   rintro rec18 ⟨l11, l14, i17⟩ E w10 hI H
   try dsimp only at hI
   obtain ⟨F10, u12, u15, rfl, le10, hS10⟩ := hI
   dsimp only [plan_Order.l2] at H
   refine C_seq ?_
   refine C_region ?_
   refine W_lss rfl rfl rfl ?_
   refine W_nil ?_
   refine N_code ?_
   refine C_seq ?_
   refine C_cond rfl (fun hc19 => ?_) (fun hc19 => ?_)
   ·
    rw [if_t hc19] at H
    refine C_skip ?_
    refine N_code ?_
    refine C_seq_join (fun E wq => ∃ l21 : List Read, ∃ l24 : List Int, plan_Order.k3 i17 rec18 l21 l24 = some r ∧ ∃ (F20 : Frz) (u22 : Value) (u25 : Value), E = [(2, u22), (3, u25), (6, v0), (7, .int .i64 (x0.length : Int)), (8, .int .i64 i17)] ∧ F10.le F20 ∧ St [] w F F20 [.row Read.t 39 u22 l21, .row tI 3 u25 l24] wq) ?_ ?_
    ·
     refine C_block ?_
     refine C_seq ?_
     obtain ⟨x27, hx27, H⟩ := bd_some H
     refine C_region ?_
     refine W_move rfl rfl ?_
     obtain ⟨hp30, hy30⟩ := ix_some hx27
     obtain ⟨cs30, hr30, he30⟩ := (h0.mono le10).at_ hy30
     obtain ⟨ue28_0, rfl, hle28_0, hue28_0⟩ := hr30
     replace he30 : Elf _ _ 33 _ _ := he30
     refine W_ix rfl Go.Proofs.Try.underlying47 Ty.cells52 Ty.info52 rfl rfl (he30.el hS10.agree) hp30 rfl ?_
     refine W_ldg 0 ((Want.cells x27 ue28_0)) rfl Ty.agg52 Ty.size52 rfl (he30.el hS10.agree) (by omega) (fun q u h => sub_at (post := []) rfl h) ?_
     refine W_alc (cs := idCells (List.replicate 32 (0 : UInt8)) ++ [.slice none 0 0]) rfl Ty.zero52 rfl hS10 ?_
     intro g29 w29 hS29
     refine W_assign rfl rfl ?_
     refine W_bst (c := idCells x27.id ++ [ue28_0]) 0 (idCells x27.id ++ [ue28_0]) rfl rfl hS29 rfl rfl (by rw [Ty.size52]; simp [idCells_len]) (fun y hy => Want.t.one (F := F10) (x := x27) ⟨ue28_0, rfl, hle28_0, hue28_0⟩ y hy) (by simp [idCells_len]) (by simp [idCells_len, List.take_append, List.drop_append, List.take_of_length_le, List.drop_eq_nil_of_le]) ?_
     intro w31 hS31
     refine W_nil ?_
     refine N_code ?_
     refine C_seq ?_
     refine C_seq ?_
     refine C_region ?_
     refine W_field_pl 32 rfl Ty.field52_1 rfl ?_
     refine W_bld1 0 rfl Ty.cell49 rfl hS31 rfl rfl ?_
     refine W_lenv rfl Go.Proofs.Try.underlying49 rfl hue28_0.ln ?_
     refine W_eql rfl rfl rfl ?_
     refine W_nil ?_
     refine N_code ?_
     refine C_cond rfl (fun hc32 => ?_) (fun hc32 => ?_)
     ·
      rw [if_t hc32] at H
      refine C_seq ?_
      obtain ⟨l34, hl34, H⟩ := bd_some H
      refine C_region ?_
      refine W_move rfl rfl ?_
      refine W_move rfl rfl ?_
      refine W_bs (t := tI) [[.int .i64 i17]] [i17] rfl Go.Proofs.Try.underlying22 Ty.cells3 rfl rfl Ty.zero3 rfl rfl ⟨rfl, trivial⟩ rfl rfl hS31 ?_
      intro u33 w33 hS33
      refine W_appM 3 rfl Go.Proofs.Try.underlying22 Ty.row3 rfl rfl rfl rfl rfl hS33 rfl (hS33.rowSrc (j := 0) rfl) hl34 ?_
      intro v35 w35 hS35
      refine W_assign rfl rfl ?_
      refine W_nil ?_
      refine N_code ?_
      refine C_exit _ rfl ?_
      exact N_join _ ⟨l11, l34, H, ⟨F10, u12, v35, rfl, (Frz.le.refl _), hS35.pick [2, 3] (by decide)⟩⟩ ⟨rfl, rfl, rfl, rfl, rfl, trivial⟩
     ·
      rw [if_f hc32] at H
      refine C_skip ?_
      refine N_code ?_
      obtain ⟨r36, hr36, H⟩ := bd_some H
      obtain ⟨x37, hx37, H⟩ := bd_some H
      obtain ⟨l40, hl40, H⟩ := bd_some H
      refine C_region ?_
      refine W_move rfl rfl ?_
      refine W_move rfl rfl ?_
      refine W_field_pl 32 rfl Ty.field52_1 rfl ?_
      refine W_bld1 0 rfl Ty.cell49 rfl hS31 rfl rfl ?_
      refine W_call rfl Ty.named29 rfl (plan_Sort_ok hS31.agree hue28_0 hr36) ?_
      rintro ur36_0 w42 ⟨Fr36, _, rfl, hT42⟩
      have hS42 := hS31.call hT42
      have ler36 := hT42.ext
      obtain ⟨hp43, hy43⟩ := ix_some hx37
      obtain ⟨cs43, hr43, he43⟩ := hS42.rowAt (k := 0) rfl hy43
      obtain rfl := hr43
      replace he43 : El _ _ 4 _ _ := he43
      refine W_ix rfl Go.Proofs.Try.underlying49 Ty.cells37 Ty.info37 rfl rfl he43 hp43 rfl ?_
      refine W_ldg 0 ((Loc.cells x37)) rfl Ty.agg37 Ty.size37 rfl he43 (by omega) (fun q u h => sub_at (post := []) rfl h) ?_
      refine W_build (v := .agg (Read.cells (Read.mk i17 x37)).toArray) rfl rfl (fun _ => by kernel_rfl) ?_
      refine W_bs (t := Read.t) [(Read.cells (Read.mk i17 x37))] [(Read.mk i17 x37)] rfl Go.Proofs.Try.underlying23 Ty.cells39 rfl rfl Ty.zero39 rfl rfl ⟨rfl, trivial⟩ rfl rfl hS42 ?_
      intro u39 w39 hS39
      refine W_appM 3 rfl Go.Proofs.Try.underlying23 Ty.row39 rfl rfl rfl rfl rfl hS39 rfl (hS39.rowSrc (j := 0) rfl) hl40 ?_
      intro v41 w41 hS41
      refine W_assign rfl rfl ?_
      refine W_nil ?_
      refine N_block ?_
      exact N_join _ ⟨l40, l14, H, ⟨Fr36, v41, u15, rfl, ler36, hS41.pick [3, 4] (by decide)⟩⟩ ⟨rfl, rfl, rfl, rfl, rfl, trivial⟩
    ·
     rintro E w20 ⟨l21, l24, H, F20, u22, u25, rfl, le20, hS20⟩
     dsimp only [plan_Order.k3] at H
     refine C_region ?_
     refine W_add rfl rfl rfl rfl ?_
     refine W_move rfl rfl ?_
     refine W_nil ?_
     exact N_againM (l21, l24, wr (i17 + 1)) _ H ⟨F20, u22, u25, rfl, (le10.trans le20), hS20⟩ ⟨rfl, rfl, rfl, rfl, rfl, trivial⟩
   ·
    rw [if_f hc19] at H
    refine C_exit _ rfl ?_
    exact N_join _ ⟨l11, l14, H, ⟨F10, u12, u15, rfl, le10, hS10⟩⟩ ⟨rfl, rfl, trivial⟩
 ·
  rintro E w1 ⟨l2, l5, H, F1, u3, u6, rfl, le1, hS1⟩
  dsimp only [plan_Order.k1] at H
  refine C_seq ?_
  obtain ⟨r8, hr8, H⟩ := bd_some H
  refine C_region ?_
  refine W_move rfl rfl ?_
  refine W_call rfl Ty.named42 rfl (sortRead_ok (hS1.lendRow 0 rfl) hr8) ?_
  rintro v9 w9 ⟨Fr8, hT9⟩
  have hS9 := hS1.backRow 0 [1] rfl (by decide) (by decide) hT9
  have ler8 := hT9.ext
  refine W_nil ?_
  refine N_code ?_
  refine C_seq ?_
  refine C_region ?_
  refine W_move rfl rfl ?_
  refine W_move rfl rfl ?_
  refine W_assign rfl rfl ?_
  refine W_assign rfl rfl ?_
  refine W_nil ?_
  refine N_code ?_
  obtain rfl := Option.some.inj H
  refine C_ret rfl rfl ?_
  exact ⟨Fr8, u3, u6, rfl, hS9⟩

def cellarerkeep_Ints.k1 : Option Bool :=
  some true


def cellarerkeep_Ints.l2 (x0 : List Int) (x1 : List Int) (rec5 : Int → Option Bool) : Int → Option Bool
  | i4 =>
    if decide (i4 < (x0.length : Int)) then
      bd (ix x0 i4) fun x7 =>
      bd (ix x1 i4) fun x9 =>
      if decide (x7 ≠ x9) then
        some false
      else
        rec5 (wr (i4 + 1))
    else
      cellarerkeep_Ints.k1

def cellarerkeep_Ints (x0 : List Int) (x1 : List Int) : Option Bool :=
  if decide ((x0.length : Int) ≠ (x1.length : Int)) then
    some false
  else
    loop (cellarerkeep_Ints.l2 x0 x1) 0

theorem cellarerkeep_Ints_ok {F : Frz} {w : World} {x0 : List Int} {x1 : List Int} {r : Bool} {v0 : Value} {v1 : Value} (hA : Agree F w.heap) (h0 : SlF tI F v0 x0) (h1 : SlF tI F v1 x1) (H : cellarerkeep_Ints x0 x1 = some r) : Ret Try.prog 20 #[v0, v1] w fun v w' => ∃ (F' : Frz), v = .bool r ∧ St [] w F F' [] w' := by
 refine Ret_of (args := [v0, v1]) Go.Proofs.Try.func20 rfl rfl ?_
 change C _ _ _ _ [(0, v0), (1, v1)] _
 have hS := St.entry hA
 dsimp only [cellarerkeep_Ints] at H
 refine C_seq ?_
 refine C_region ?_
 refine W_assign rfl rfl ?_
 refine W_nil ?_
 refine N_code ?_
 refine C_seq ?_
 refine C_seq ?_
 refine C_region ?_
 refine W_move rfl rfl ?_
 refine W_lenv rfl Go.Proofs.Try.underlying22 rfl h0.ln ?_
 refine W_move rfl rfl ?_
 refine W_lenv rfl Go.Proofs.Try.underlying22 rfl h1.ln ?_
 refine W_neq rfl rfl rfl ?_
 refine W_nil ?_
 refine N_code ?_
 refine C_cond rfl (fun hc1 => ?_) (fun hc1 => ?_)
 ·
  rw [if_t hc1] at H
  refine C_seq ?_
  refine C_region ?_
  refine W_assign rfl rfl ?_
  refine W_nil ?_
  refine N_code ?_
  obtain rfl := Option.some.inj H
  refine C_ret rfl rfl ?_
  exact ⟨F, rfl, hS⟩
 ·
  rw [if_f hc1] at H
  refine C_skip ?_
  refine N_code ?_
  refine C_seq_join (fun E wq => cellarerkeep_Ints.k1 = some r ∧ ∃ (F2 : Frz), E = [] ∧ F.le F2 ∧ St [] w F F2 [] wq) ?_ ?_
  ·
   refine C_seq ?_
   refine C_region ?_
   refine W_assign rfl rfl ?_
   refine W_nil ?_
   refine N_code ?_
   refine C_block ?_
   refine C_loopM (fun (s : Int) E wq => ∃ (F3 : Frz), E = [(0, v0), (1, v1), (5, .int .i64 s)] ∧ F.le F3 ∧ St [] w F F3 [] wq) H ?_ ?_
   ·
    exact ⟨_, ⟨F, rfl, (Frz.le.refl _), hS⟩, ⟨rfl, rfl, rfl, trivial⟩⟩
   ·
    rintro rec5 i4 E w3 hI H
    try dsimp only at hI
    obtain ⟨F3, rfl, le3, hS3⟩ := hI
    dsimp only [cellarerkeep_Ints.l2] at H
    refine C_seq ?_
    refine C_seq ?_
    refine C_region ?_
    refine W_move rfl rfl ?_
    refine W_move rfl rfl ?_
    refine W_lenv rfl Go.Proofs.Try.underlying22 rfl h0.ln ?_
    refine W_lss rfl rfl rfl ?_
    refine W_nil ?_
    refine N_code ?_
    refine C_cond rfl (fun hc6 => ?_) (fun hc6 => ?_)
    ·
     rw [if_t hc6] at H
     refine C_skip ?_
     refine N_code ?_
     refine C_seq ?_
     refine C_block ?_
     refine C_seq ?_
     obtain ⟨x7, hx7, H⟩ := bd_some H
     obtain ⟨x9, hx9, H⟩ := bd_some H
     obtain ⟨hp11, hy11⟩ := ix_some hx7
     obtain ⟨cs11, hr11, he11⟩ := (h0.mono le3).at_ hy11
     obtain rfl := hr11
     replace he11 : Elf _ _ 1 _ _ := he11
     obtain ⟨hp12, hy12⟩ := ix_some hx9
     obtain ⟨cs12, hr12, he12⟩ := (h1.mono le3).at_ hy12
     obtain rfl := hr12
     replace he12 : Elf _ _ 1 _ _ := he12
     apply C_draw 8 [[], [], [0, 1], [2], [], [], [4, 5], [6]] [.val (v0), .val (.int .i64 i4), .val (elp v0 (i4.toNat * 1)), .val (.int .i64 x7), .val (v1), .val (.int .i64 i4), .val (elp v1 (i4.toNat * 1)), .val (.int .i64 x9)] Ty.mixed rfl rfl (by kernel_rfl) (by kernel_rfl) rfl
     ·
      refine ⟨?_, ?_, ?_, ?_, ?_, ?_, ?_, ?_, trivial⟩
      ·
       intro w13 vq13 hB13 hH13
       have hS13 := hS3.below hB13
       refine W_move rfl rfl ?_
       refine W_nil ?_
       exact N_step rfl rfl (Below.refl _ _)
      ·
       intro w14 vq14 hB14 hH14
       have hS14 := hS3.below hB14
       refine W_move rfl rfl ?_
       refine W_nil ?_
       exact N_step rfl rfl (Below.refl _ _)
      ·
       intro w15 vq15 hB15 hH15
       have hS15 := hS3.below hB15
       refine W_ix rfl Go.Proofs.Try.underlying22 Ty.cells3 Ty.info3 rfl rfl (he11.el hS15.agree) hp11 rfl ?_
       refine W_nil ?_
       exact N_step rfl rfl (Below.refl _ _)
      ·
       intro w16 vq16 hB16 hH16
       have hS16 := hS3.below hB16
       refine W_ld1 0 rfl Ty.cell3 rfl (he11.el hS16.agree) (by omega) rfl ?_
       refine W_nil ?_
       exact N_step rfl rfl (Below.refl _ _)
      ·
       intro w17 vq17 hB17 hH17
       have hS17 := hS3.below hB17
       refine W_move rfl rfl ?_
       refine W_nil ?_
       exact N_step rfl rfl (Below.refl _ _)
      ·
       intro w18 vq18 hB18 hH18
       have hS18 := hS3.below hB18
       refine W_move rfl rfl ?_
       refine W_nil ?_
       exact N_step rfl rfl (Below.refl _ _)
      ·
       intro w19 vq19 hB19 hH19
       have hS19 := hS3.below hB19
       refine W_ix rfl Go.Proofs.Try.underlying22 Ty.cells3 Ty.info3 rfl rfl (he12.el hS19.agree) hp12 rfl ?_
       refine W_nil ?_
       exact N_step rfl rfl (Below.refl _ _)
      ·
       intro w20 vq20 hB20 hH20
       have hS20 := hS3.below hB20
       refine W_ld1 0 rfl Ty.cell3 rfl (he12.el hS20.agree) (by omega) rfl ?_
       refine W_nil ?_
       exact N_step rfl rfl (Below.refl _ _)
     intro w21 vq21 hB21 hH21
     have hS21 := hS3.below hB21
     refine W_neq rfl rfl rfl ?_
     refine W_nil ?_
     refine N_code ?_
     refine C_cond rfl (fun hc22 => ?_) (fun hc22 => ?_)
     ·
      rw [if_t hc22] at H
      refine C_seq ?_
      refine C_region ?_
      refine W_assign rfl rfl ?_
      refine W_nil ?_
      refine N_code ?_
      obtain rfl := Option.some.inj H
      refine C_ret rfl rfl ?_
      exact ⟨F3, rfl, hS21⟩
     ·
      rw [if_f hc22] at H
      refine C_skip ?_
      refine N_block ?_
      refine N_code ?_
      refine C_region ?_
      refine W_move rfl rfl ?_
      refine W_add rfl rfl rfl rfl ?_
      refine W_assign rfl rfl ?_
      refine W_nil ?_
      exact N_againM (wr (i4 + 1)) _ H ⟨F3, rfl, le3, hS21⟩ ⟨rfl, rfl, rfl, trivial⟩
    ·
     rw [if_f hc6] at H
     refine C_exit _ rfl ?_
     exact N_join _ ⟨H, ⟨F3, rfl, le3, hS3⟩⟩ trivial
  ·
   rintro E w2 ⟨H, F2, rfl, le2, hS2⟩
   dsimp only [cellarerkeep_Ints.k1] at H
   refine C_seq ?_
   refine C_region ?_
   refine W_assign rfl rfl ?_
   refine W_nil ?_
   refine N_code ?_
   obtain rfl := Option.some.inj H
   refine C_ret rfl rfl ?_
   exact ⟨F2, rfl, hS2⟩

def cellarerlaw21_wakes : Option Bool :=
  bd (plan_Order [(Want.mk (List.replicate 32 (0 : UInt8)) [(Loc.mk 2 0 0 0), (Loc.mk 1 0 0 0)]), (Want.mk (List.replicate 32 (0 : UInt8)) []), (Want.mk (List.replicate 32 (0 : UInt8)) [(Loc.mk 0 0 0 0)])]) fun r4 =>
  bd (only (decide ((r4.1.length : Int) = 2)) (ix r4.1 0) (Read.mk 0 (Loc.mk 0 0 0 0))) fun x10 =>
  bd (only (decide ((r4.1.length : Int) = 2) && decide (x10.want = 2)) (ix r4.1 1) (Read.mk 0 (Loc.mk 0 0 0 0))) fun x12 =>
  bd (only ((decide ((r4.1.length : Int) = 2) && decide (x10.want = 2)) && decide (x12.loc.vol = 1)) (cellarerkeep_Ints r4.2 [1]) false) fun r15 =>
  some (((decide ((r4.1.length : Int) = 2) && decide (x10.want = 2)) && decide (x12.loc.vol = 1)) && r15)

theorem cellarerlaw21_wakes_ok {F : Frz} {w : World} {r : Bool} (hA : Agree F w.heap) (H : cellarerlaw21_wakes = some r) : Ret Try.prog 30 #[] w fun v w' => ∃ (F' : Frz), v = .bool r ∧ St [] w F F' [] w' := by
 refine Ret_of (args := []) Go.Proofs.Try.func30 rfl rfl ?_
 change C _ _ _ _ [] _
 have hS := St.entry hA
 dsimp only [cellarerlaw21_wakes] at H
 refine C_seq ?_
 refine C_region ?_
 refine W_assign rfl rfl ?_
 refine W_nil ?_
 refine N_code ?_
 refine C_seq ?_
 obtain ⟨r4, hr4, H⟩ := bd_some H
 refine C_region ?_
 refine W_build (v := .agg (Loc.cells (Loc.mk 2 0 0 0)).toArray) rfl rfl (fun _ => by kernel_rfl) ?_
 refine W_build (v := .agg (Loc.cells (Loc.mk 1 0 0 0)).toArray) rfl rfl (fun _ => by kernel_rfl) ?_
 refine W_bs (t := Loc.t) [(Loc.cells (Loc.mk 2 0 0 0)), (Loc.cells (Loc.mk 1 0 0 0))] [(Loc.mk 2 0 0 0), (Loc.mk 1 0 0 0)] rfl Go.Proofs.Try.underlying49 Ty.cells37 rfl rfl Ty.zero37 rfl rfl ⟨rfl, ⟨rfl, trivial⟩⟩ rfl rfl hS ?_
 intro u1 w1 hS1
 obtain ⟨ao5, m5, c5, hu5⟩ := (hS1.rowLn (k := 0) rfl).form
 refine W_build (v := .agg (Want.cells (Want.mk (List.replicate 32 (0 : UInt8)) [(Loc.mk 2 0 0 0), (Loc.mk 1 0 0 0)]) u1).toArray) rfl rfl (fun _ => by rw [hu5]; kernel_rfl) ?_
 refine W_build (v := .agg (Want.cells (Want.mk (List.replicate 32 (0 : UInt8)) []) (.slice none 0 0)).toArray) rfl rfl (fun _ => by kernel_rfl) ?_
 refine W_build (v := .agg (Loc.cells (Loc.mk 0 0 0 0)).toArray) rfl rfl (fun _ => by kernel_rfl) ?_
 refine W_bs (t := Loc.t) [(Loc.cells (Loc.mk 0 0 0 0))] [(Loc.mk 0 0 0 0)] rfl Go.Proofs.Try.underlying49 Ty.cells37 rfl rfl Ty.zero37 rfl rfl ⟨rfl, trivial⟩ rfl rfl hS1 ?_
 intro u2 w2 hS2
 obtain ⟨ao6, m6, c6, hu6⟩ := (hS2.rowLn (k := 0) rfl).form
 refine W_build (v := .agg (Want.cells (Want.mk (List.replicate 32 (0 : UInt8)) [(Loc.mk 0 0 0 0)]) u2).toArray) rfl rfl (fun _ => by rw [hu6]; kernel_rfl) ?_
 obtain ⟨F7, le7, hf7, hS7⟩ := hS2.freeze 1 [0] rfl (by decide) (by decide)
 obtain ⟨F8, le8, hf8, hS8⟩ := hS7.freeze 0 [] rfl (by decide) (by decide)
 refine W_bs (t := Want.t) [(Want.cells (Want.mk (List.replicate 32 (0 : UInt8)) [(Loc.mk 2 0 0 0), (Loc.mk 1 0 0 0)]) u1), (Want.cells (Want.mk (List.replicate 32 (0 : UInt8)) []) (.slice none 0 0)), (Want.cells (Want.mk (List.replicate 32 (0 : UInt8)) [(Loc.mk 0 0 0 0)]) u2)] [(Want.mk (List.replicate 32 (0 : UInt8)) [(Loc.mk 2 0 0 0), (Loc.mk 1 0 0 0)]), (Want.mk (List.replicate 32 (0 : UInt8)) []), (Want.mk (List.replicate 32 (0 : UInt8)) [(Loc.mk 0 0 0 0)])] rfl Go.Proofs.Try.underlying47 Ty.cells52 rfl rfl Ty.zero52 rfl rfl ⟨⟨u1, rfl, (List.length_replicate), (hf7.mono le8)⟩, ⟨⟨.slice none 0 0, rfl, (List.length_replicate), (SlF.nil _)⟩, ⟨⟨u2, rfl, (List.length_replicate), hf8⟩, trivial⟩⟩⟩ rfl rfl hS8 ?_
 intro u3 w3 hS3
 refine W_call rfl Ty.named27 rfl (plan_Order_ok (now_agree _) (hS3.rowNow (k := 0) rfl) hr4) ?_
 rintro v9 w9 ⟨Fr4, ur4_0, ur4_1, rfl, hT9⟩
 have hS9 := hS3.lentFlat hT9 ⟨fun h => h, ⟨fun h => h, trivial⟩⟩
 refine W_move rfl rfl ?_
 refine W_extract rfl rfl rfl ?_
 refine W_extract rfl rfl rfl ?_
 refine W_assign rfl rfl ?_
 refine W_assign rfl rfl ?_
 refine W_nil ?_
 refine N_code ?_
 refine C_seq ?_
 obtain ⟨x10, hx10, H⟩ := bd_some H
 obtain ⟨x12, hx12, H⟩ := bd_some H
 obtain ⟨r15, hr15, H⟩ := bd_some H
 refine C_join (fun E wq => E = [(0, .bool (((decide ((r4.1.length : Int) = 2) && decide (x10.want = 2)) && decide (x12.loc.vol = 1)) && r15))] ∧ ∃ F16 : Frz, F8.le F16 ∧ St [] w F F16 [.row Read.t 39 ur4_0 r4.1, .row tI 3 ur4_1 r4.2, .row Want.t 52 u3 [(Want.mk (List.replicate 32 (0 : UInt8)) [(Loc.mk 2 0 0 0), (Loc.mk 1 0 0 0)]), (Want.mk (List.replicate 32 (0 : UInt8)) []), (Want.mk (List.replicate 32 (0 : UInt8)) [(Loc.mk 0 0 0 0)])]] wq) ?_ ?_
 ·
  rcases Bool.eq_false_or_eq_true (decide ((r4.1.length : Int) = 2)) with hb17 | hb17
  ·
   rcases Bool.eq_false_or_eq_true (decide (x10.want = 2)) with hb18 | hb18
   ·
    rcases Bool.eq_false_or_eq_true (decide (x12.loc.vol = 1)) with hb19 | hb19
    ·
     refine C_region ?_
     refine W_move rfl rfl ?_
     refine W_lenv rfl Go.Proofs.Try.underlying23 rfl (hS9.rowLn (k := 0) rfl) ?_
     refine W_eql rfl rfl rfl ?_
     refine W_move rfl rfl ?_
     refine W_known (t := 19) true rfl hb17 ?_
     refine W_guard_yes rfl ?_
     refine W_move rfl rfl ?_
     refine W_guard_yes rfl ?_
     have hy20 := hx10
     rw [only_t hb17] at hy20
     obtain ⟨hp21, hy21⟩ := ix_some hy20
     obtain ⟨cs21, hr21, he21⟩ := hS9.rowAt (k := 0) rfl hy21
     obtain rfl := hr21
     replace he21 : El _ _ 5 _ _ := he21
     refine W_ix rfl Go.Proofs.Try.underlying23 Ty.cells39 Ty.info39 rfl rfl he21 hp21 rfl ?_
     refine W_guard_yes rfl ?_
     refine W_fld 0 rfl Ty.field39_0 rfl he21 ?_
     refine W_guard_yes rfl ?_
     refine W_ld1 0 rfl Ty.cell3 rfl he21 (by omega) rfl ?_
     refine W_guard_yes rfl ?_
     refine W_eql rfl rfl rfl ?_
     refine W_pick_t rfl rfl rfl ?_
     refine W_move rfl rfl ?_
     refine W_known (t := 26) true rfl hb18 ?_
     refine W_guard_yes rfl ?_
     refine W_move rfl rfl ?_
     refine W_guard_yes rfl ?_
     have hy22 := hx12
     rw [only_t (by first | rfl | (rw [hb17, hb18]; first | done | rfl) | simp [hb17, hb18, hb19])] at hy22
     obtain ⟨hp23, hy23⟩ := ix_some hy22
     obtain ⟨cs23, hr23, he23⟩ := hS9.rowAt (k := 0) rfl hy23
     obtain rfl := hr23
     replace he23 : El _ _ 5 _ _ := he23
     refine W_ix rfl Go.Proofs.Try.underlying23 Ty.cells39 Ty.info39 rfl rfl he23 hp23 rfl ?_
     refine W_guard_yes rfl ?_
     refine W_fld 1 rfl Ty.field39_1 rfl he23 ?_
     refine W_guard_yes rfl ?_
     refine W_fld 0 rfl Ty.field37_0 rfl he23 ?_
     refine W_guard_yes rfl ?_
     refine W_ld1 1 rfl Ty.cell3 rfl he23 (by omega) rfl ?_
     refine W_guard_yes rfl ?_
     refine W_eql rfl rfl rfl ?_
     refine W_pick_t rfl rfl rfl ?_
     refine W_move rfl rfl ?_
     refine W_known (t := 34) true rfl hb19 ?_
     refine W_guard_yes rfl ?_
     refine W_move rfl rfl ?_
     refine W_guard_yes rfl ?_
     refine W_bs (t := tI) [[.int .i64 1]] [1] rfl Go.Proofs.Try.underlying22 Ty.cells3 rfl rfl Ty.zero3 rfl rfl ⟨rfl, trivial⟩ rfl rfl hS9 ?_
     intro u14 w14 hS14
     refine W_guard_yes rfl ?_
     have hy24 := hr15
     rw [only_t (by first | rfl | (rw [hb17, hb19, hb18]; first | done | rfl) | simp [hb17, hb18, hb19])] at hy24
     refine W_call rfl Ty.named20 rfl (cellarerkeep_Ints_ok (now_agree _) (hS14.rowNow (k := 2) rfl) (hS14.rowNow (k := 0) rfl) hy24) ?_
     rintro v25 w25 ⟨Fr15, rfl, hT25⟩
     have hS25 := hS14.lent hT25
     refine W_pick_t rfl rfl rfl ?_
     refine W_assign rfl rfl ?_
     refine W_nil ?_
     exact N_join _ ⟨rfl, F8, (Frz.le.refl _), hS25.pick [1, 2, 3] (by decide)⟩ ⟨(look_bool rfl (by first | rfl | (rw [hb17, hb19, hb18]; first | done | rfl) | simp [hb17, hb18, hb19])), trivial⟩
    ·
     refine C_region ?_
     refine W_move rfl rfl ?_
     refine W_lenv rfl Go.Proofs.Try.underlying23 rfl (hS9.rowLn (k := 0) rfl) ?_
     refine W_eql rfl rfl rfl ?_
     refine W_move rfl rfl ?_
     refine W_known (t := 19) true rfl hb17 ?_
     refine W_guard_yes rfl ?_
     refine W_move rfl rfl ?_
     refine W_guard_yes rfl ?_
     have hy26 := hx10
     rw [only_t hb17] at hy26
     obtain ⟨hp27, hy27⟩ := ix_some hy26
     obtain ⟨cs27, hr27, he27⟩ := hS9.rowAt (k := 0) rfl hy27
     obtain rfl := hr27
     replace he27 : El _ _ 5 _ _ := he27
     refine W_ix rfl Go.Proofs.Try.underlying23 Ty.cells39 Ty.info39 rfl rfl he27 hp27 rfl ?_
     refine W_guard_yes rfl ?_
     refine W_fld 0 rfl Ty.field39_0 rfl he27 ?_
     refine W_guard_yes rfl ?_
     refine W_ld1 0 rfl Ty.cell3 rfl he27 (by omega) rfl ?_
     refine W_guard_yes rfl ?_
     refine W_eql rfl rfl rfl ?_
     refine W_pick_t rfl rfl rfl ?_
     refine W_move rfl rfl ?_
     refine W_known (t := 26) true rfl hb18 ?_
     refine W_guard_yes rfl ?_
     refine W_move rfl rfl ?_
     refine W_guard_yes rfl ?_
     have hy28 := hx12
     rw [only_t (by first | rfl | (rw [hb17, hb18]; first | done | rfl) | simp [hb17, hb18, hb19])] at hy28
     obtain ⟨hp29, hy29⟩ := ix_some hy28
     obtain ⟨cs29, hr29, he29⟩ := hS9.rowAt (k := 0) rfl hy29
     obtain rfl := hr29
     replace he29 : El _ _ 5 _ _ := he29
     refine W_ix rfl Go.Proofs.Try.underlying23 Ty.cells39 Ty.info39 rfl rfl he29 hp29 rfl ?_
     refine W_guard_yes rfl ?_
     refine W_fld 1 rfl Ty.field39_1 rfl he29 ?_
     refine W_guard_yes rfl ?_
     refine W_fld 0 rfl Ty.field37_0 rfl he29 ?_
     refine W_guard_yes rfl ?_
     refine W_ld1 1 rfl Ty.cell3 rfl he29 (by omega) rfl ?_
     refine W_guard_yes rfl ?_
     refine W_eql rfl rfl rfl ?_
     refine W_pick_t rfl rfl rfl ?_
     refine W_move rfl rfl ?_
     refine W_known (t := 34) false rfl hb19 ?_
     refine W_guard_no rfl rfl rfl rfl rfl ?_
     refine W_guard_no rfl rfl rfl rfl rfl ?_
     refine W_guard_no rfl rfl rfl rfl rfl ?_
     refine W_pick_f rfl rfl rfl ?_
     refine W_assign rfl rfl ?_
     refine W_nil ?_
     exact N_join _ ⟨rfl, F8, (Frz.le.refl _), hS9⟩ ⟨(look_bool rfl (by first | rfl | (rw [hb17, hb19, hb18]; first | done | rfl) | simp [hb17, hb18, hb19])), trivial⟩
   ·
    refine C_region ?_
    refine W_move rfl rfl ?_
    refine W_lenv rfl Go.Proofs.Try.underlying23 rfl (hS9.rowLn (k := 0) rfl) ?_
    refine W_eql rfl rfl rfl ?_
    refine W_move rfl rfl ?_
    refine W_known (t := 19) true rfl hb17 ?_
    refine W_guard_yes rfl ?_
    refine W_move rfl rfl ?_
    refine W_guard_yes rfl ?_
    have hy30 := hx10
    rw [only_t hb17] at hy30
    obtain ⟨hp31, hy31⟩ := ix_some hy30
    obtain ⟨cs31, hr31, he31⟩ := hS9.rowAt (k := 0) rfl hy31
    obtain rfl := hr31
    replace he31 : El _ _ 5 _ _ := he31
    refine W_ix rfl Go.Proofs.Try.underlying23 Ty.cells39 Ty.info39 rfl rfl he31 hp31 rfl ?_
    refine W_guard_yes rfl ?_
    refine W_fld 0 rfl Ty.field39_0 rfl he31 ?_
    refine W_guard_yes rfl ?_
    refine W_ld1 0 rfl Ty.cell3 rfl he31 (by omega) rfl ?_
    refine W_guard_yes rfl ?_
    refine W_eql rfl rfl rfl ?_
    refine W_pick_t rfl rfl rfl ?_
    refine W_move rfl rfl ?_
    refine W_known (t := 26) false rfl hb18 ?_
    refine W_guard_no rfl rfl rfl rfl rfl ?_
    refine W_guard_no rfl rfl rfl rfl rfl ?_
    refine W_guard_no rfl rfl rfl rfl rfl ?_
    refine W_guard_no rfl rfl rfl rfl rfl ?_
    refine W_guard_no rfl rfl rfl rfl rfl ?_
    refine W_guard_no rfl rfl rfl rfl rfl ?_
    refine W_pick_f rfl rfl rfl ?_
    refine W_move rfl rfl ?_
    refine W_guard_no rfl rfl rfl rfl rfl ?_
    refine W_guard_no rfl rfl rfl rfl rfl ?_
    refine W_guard_no rfl rfl rfl rfl rfl ?_
    refine W_pick_f rfl rfl rfl ?_
    refine W_assign rfl rfl ?_
    refine W_nil ?_
    exact N_join _ ⟨rfl, F8, (Frz.le.refl _), hS9⟩ ⟨(look_bool rfl (by first | rfl | (rw [hb17, hb18]; first | done | rfl) | simp [hb17, hb18])), trivial⟩
  ·
   refine C_region ?_
   refine W_move rfl rfl ?_
   refine W_lenv rfl Go.Proofs.Try.underlying23 rfl (hS9.rowLn (k := 0) rfl) ?_
   refine W_eql rfl rfl rfl ?_
   refine W_move rfl rfl ?_
   refine W_known (t := 19) false rfl hb17 ?_
   refine W_guard_no rfl rfl rfl rfl rfl ?_
   refine W_guard_no rfl rfl rfl rfl rfl ?_
   refine W_guard_no rfl rfl rfl rfl rfl ?_
   refine W_guard_no rfl rfl rfl rfl rfl ?_
   refine W_guard_no rfl rfl rfl rfl rfl ?_
   refine W_pick_f rfl rfl rfl ?_
   refine W_move rfl rfl ?_
   refine W_guard_no rfl rfl rfl rfl rfl ?_
   refine W_guard_no rfl rfl rfl rfl rfl ?_
   refine W_guard_no rfl rfl rfl rfl rfl ?_
   refine W_guard_no rfl rfl rfl rfl rfl ?_
   refine W_guard_no rfl rfl rfl rfl rfl ?_
   refine W_guard_no rfl rfl rfl rfl rfl ?_
   refine W_pick_f rfl rfl rfl ?_
   refine W_move rfl rfl ?_
   refine W_guard_no rfl rfl rfl rfl rfl ?_
   refine W_guard_no rfl rfl rfl rfl rfl ?_
   refine W_guard_no rfl rfl rfl rfl rfl ?_
   refine W_pick_f rfl rfl rfl ?_
   refine W_assign rfl rfl ?_
   refine W_nil ?_
   exact N_join _ ⟨rfl, F8, (Frz.le.refl _), hS9⟩ ⟨(look_bool rfl (by first | rfl | (rw [hb17]; first | done | rfl) | simp [hb17])), trivial⟩
 rintro E w16 ⟨rfl, F16, le16, hS16⟩
 refine N_code ?_
 obtain rfl := Option.some.inj H
 refine C_ret rfl rfl ?_
 exact ⟨F16, rfl, hS16.pick [] (by decide)⟩

def cellarerkeep_Loc (x0 : Loc) (x1 : Loc) : Option Bool :=
  some (((decide (x0.vol = x1.vol) && decide (x0.file = x1.file)) && decide (x0.off = x1.off)) && decide (x0.len = x1.len))

theorem cellarerkeep_Loc_ok {F : Frz} {w : World} {x0 : Loc} {x1 : Loc} {r : Bool} (hA : Agree F w.heap) (H : cellarerkeep_Loc x0 x1 = some r) : Ret Try.prog 24 #[.agg (Loc.cells x0).toArray, .agg (Loc.cells x1).toArray] w fun v w' => ∃ (F' : Frz), v = .bool r ∧ St [] w F F' [] w' := by
 refine Ret_of (args := [.agg (Loc.cells x0).toArray, .agg (Loc.cells x1).toArray]) Go.Proofs.Try.func24 rfl rfl ?_
 change C _ _ _ _ [(0, .agg (Loc.cells x0).toArray), (1, .agg (Loc.cells x1).toArray)] _
 have hS := St.entry hA
 dsimp only [cellarerkeep_Loc] at H
 refine C_seq ?_
 refine C_region ?_
 refine W_bx (cs := [.int .i64 x0.vol, .int .i64 x0.file, .int .i64 x0.off, .int .i64 x0.len]) rfl rfl rfl hS ?_
 intro g1 w1 hS1
 refine W_bx (cs := [.int .i64 x1.vol, .int .i64 x1.file, .int .i64 x1.off, .int .i64 x1.len]) rfl rfl rfl hS1 ?_
 intro g2 w2 hS2
 refine W_assign rfl rfl ?_
 refine W_nil ?_
 refine N_code ?_
 refine C_seq ?_
 refine C_join (fun E wq => E = [(4, .bool (((decide (x0.vol = x1.vol) && decide (x0.file = x1.file)) && decide (x0.off = x1.off)) && decide (x0.len = x1.len)))] ∧ ∃ F3 : Frz, F.le F3 ∧ St [] w F F3 [.box g2 37 [.int .i64 x1.vol, .int .i64 x1.file, .int .i64 x1.off, .int .i64 x1.len], .box g1 37 [.int .i64 x0.vol, .int .i64 x0.file, .int .i64 x0.off, .int .i64 x0.len]] wq) ?_ ?_
 ·
  rcases Bool.eq_false_or_eq_true (decide (x0.vol = x1.vol)) with hb4 | hb4
  ·
   rcases Bool.eq_false_or_eq_true (decide (x0.file = x1.file)) with hb5 | hb5
   ·
    rcases Bool.eq_false_or_eq_true (decide (x0.off = x1.off)) with hb6 | hb6
    ·
     refine C_region ?_
     refine W_field_pl 0 rfl Ty.field37_0 rfl ?_
     refine W_bld1 1 rfl Ty.cell3 rfl hS2 rfl rfl ?_
     refine W_field_pl 0 rfl Ty.field37_0 rfl ?_
     refine W_bld1 0 rfl Ty.cell3 rfl hS2 rfl rfl ?_
     refine W_eql rfl rfl rfl ?_
     refine W_move rfl rfl ?_
     refine W_known (t := 10) true rfl hb4 ?_
     refine W_guard_yes rfl ?_
     refine W_field_pl 1 rfl Ty.field37_1 rfl ?_
     refine W_guard_yes rfl ?_
     refine W_bld1 1 rfl Ty.cell3 rfl hS2 rfl rfl ?_
     refine W_guard_yes rfl ?_
     refine W_field_pl 1 rfl Ty.field37_1 rfl ?_
     refine W_guard_yes rfl ?_
     refine W_bld1 0 rfl Ty.cell3 rfl hS2 rfl rfl ?_
     refine W_guard_yes rfl ?_
     refine W_eql rfl rfl rfl ?_
     refine W_pick_t rfl rfl rfl ?_
     refine W_move rfl rfl ?_
     refine W_known (t := 17) true rfl hb5 ?_
     refine W_guard_yes rfl ?_
     refine W_field_pl 2 rfl Ty.field37_2 rfl ?_
     refine W_guard_yes rfl ?_
     refine W_bld1 1 rfl Ty.cell3 rfl hS2 rfl rfl ?_
     refine W_guard_yes rfl ?_
     refine W_field_pl 2 rfl Ty.field37_2 rfl ?_
     refine W_guard_yes rfl ?_
     refine W_bld1 0 rfl Ty.cell3 rfl hS2 rfl rfl ?_
     refine W_guard_yes rfl ?_
     refine W_eql rfl rfl rfl ?_
     refine W_pick_t rfl rfl rfl ?_
     refine W_move rfl rfl ?_
     refine W_known (t := 24) true rfl hb6 ?_
     refine W_guard_yes rfl ?_
     refine W_field_pl 3 rfl Ty.field37_3 rfl ?_
     refine W_guard_yes rfl ?_
     refine W_bld1 1 rfl Ty.cell3 rfl hS2 rfl rfl ?_
     refine W_guard_yes rfl ?_
     refine W_field_pl 3 rfl Ty.field37_3 rfl ?_
     refine W_guard_yes rfl ?_
     refine W_bld1 0 rfl Ty.cell3 rfl hS2 rfl rfl ?_
     refine W_guard_yes rfl ?_
     refine W_eql rfl rfl rfl ?_
     refine W_pick_t rfl rfl rfl ?_
     refine W_assign rfl rfl ?_
     refine W_nil ?_
     exact N_join _ ⟨rfl, F, (Frz.le.refl _), hS2⟩ ⟨(look_bool rfl (by first | rfl | (rw [hb5, hb4, hb6]; first | done | rfl) | simp [hb4, hb5, hb6])), trivial⟩
    ·
     refine C_region ?_
     refine W_field_pl 0 rfl Ty.field37_0 rfl ?_
     refine W_bld1 1 rfl Ty.cell3 rfl hS2 rfl rfl ?_
     refine W_field_pl 0 rfl Ty.field37_0 rfl ?_
     refine W_bld1 0 rfl Ty.cell3 rfl hS2 rfl rfl ?_
     refine W_eql rfl rfl rfl ?_
     refine W_move rfl rfl ?_
     refine W_known (t := 10) true rfl hb4 ?_
     refine W_guard_yes rfl ?_
     refine W_field_pl 1 rfl Ty.field37_1 rfl ?_
     refine W_guard_yes rfl ?_
     refine W_bld1 1 rfl Ty.cell3 rfl hS2 rfl rfl ?_
     refine W_guard_yes rfl ?_
     refine W_field_pl 1 rfl Ty.field37_1 rfl ?_
     refine W_guard_yes rfl ?_
     refine W_bld1 0 rfl Ty.cell3 rfl hS2 rfl rfl ?_
     refine W_guard_yes rfl ?_
     refine W_eql rfl rfl rfl ?_
     refine W_pick_t rfl rfl rfl ?_
     refine W_move rfl rfl ?_
     refine W_known (t := 17) true rfl hb5 ?_
     refine W_guard_yes rfl ?_
     refine W_field_pl 2 rfl Ty.field37_2 rfl ?_
     refine W_guard_yes rfl ?_
     refine W_bld1 1 rfl Ty.cell3 rfl hS2 rfl rfl ?_
     refine W_guard_yes rfl ?_
     refine W_field_pl 2 rfl Ty.field37_2 rfl ?_
     refine W_guard_yes rfl ?_
     refine W_bld1 0 rfl Ty.cell3 rfl hS2 rfl rfl ?_
     refine W_guard_yes rfl ?_
     refine W_eql rfl rfl rfl ?_
     refine W_pick_t rfl rfl rfl ?_
     refine W_move rfl rfl ?_
     refine W_known (t := 24) false rfl hb6 ?_
     refine W_guard_no rfl rfl rfl rfl rfl ?_
     refine W_guard_no rfl rfl rfl rfl rfl ?_
     refine W_guard_no rfl rfl rfl rfl rfl ?_
     refine W_guard_no rfl rfl rfl rfl rfl ?_
     refine W_guard_no rfl rfl rfl rfl rfl ?_
     refine W_pick_f rfl rfl rfl ?_
     refine W_assign rfl rfl ?_
     refine W_nil ?_
     exact N_join _ ⟨rfl, F, (Frz.le.refl _), hS2⟩ ⟨(look_bool rfl (by first | rfl | (rw [hb5, hb4, hb6]; first | done | rfl) | simp [hb4, hb5, hb6])), trivial⟩
   ·
    refine C_region ?_
    refine W_field_pl 0 rfl Ty.field37_0 rfl ?_
    refine W_bld1 1 rfl Ty.cell3 rfl hS2 rfl rfl ?_
    refine W_field_pl 0 rfl Ty.field37_0 rfl ?_
    refine W_bld1 0 rfl Ty.cell3 rfl hS2 rfl rfl ?_
    refine W_eql rfl rfl rfl ?_
    refine W_move rfl rfl ?_
    refine W_known (t := 10) true rfl hb4 ?_
    refine W_guard_yes rfl ?_
    refine W_field_pl 1 rfl Ty.field37_1 rfl ?_
    refine W_guard_yes rfl ?_
    refine W_bld1 1 rfl Ty.cell3 rfl hS2 rfl rfl ?_
    refine W_guard_yes rfl ?_
    refine W_field_pl 1 rfl Ty.field37_1 rfl ?_
    refine W_guard_yes rfl ?_
    refine W_bld1 0 rfl Ty.cell3 rfl hS2 rfl rfl ?_
    refine W_guard_yes rfl ?_
    refine W_eql rfl rfl rfl ?_
    refine W_pick_t rfl rfl rfl ?_
    refine W_move rfl rfl ?_
    refine W_known (t := 17) false rfl hb5 ?_
    refine W_guard_no rfl rfl rfl rfl rfl ?_
    refine W_guard_no rfl rfl rfl rfl rfl ?_
    refine W_guard_no rfl rfl rfl rfl rfl ?_
    refine W_guard_no rfl rfl rfl rfl rfl ?_
    refine W_guard_no rfl rfl rfl rfl rfl ?_
    refine W_pick_f rfl rfl rfl ?_
    refine W_move rfl rfl ?_
    refine W_guard_no rfl rfl rfl rfl rfl ?_
    refine W_guard_no rfl rfl rfl rfl rfl ?_
    refine W_guard_no rfl rfl rfl rfl rfl ?_
    refine W_guard_no rfl rfl rfl rfl rfl ?_
    refine W_guard_no rfl rfl rfl rfl rfl ?_
    refine W_pick_f rfl rfl rfl ?_
    refine W_assign rfl rfl ?_
    refine W_nil ?_
    exact N_join _ ⟨rfl, F, (Frz.le.refl _), hS2⟩ ⟨(look_bool rfl (by first | rfl | (rw [hb5, hb4]; first | done | rfl) | simp [hb4, hb5])), trivial⟩
  ·
   refine C_region ?_
   refine W_field_pl 0 rfl Ty.field37_0 rfl ?_
   refine W_bld1 1 rfl Ty.cell3 rfl hS2 rfl rfl ?_
   refine W_field_pl 0 rfl Ty.field37_0 rfl ?_
   refine W_bld1 0 rfl Ty.cell3 rfl hS2 rfl rfl ?_
   refine W_eql rfl rfl rfl ?_
   refine W_move rfl rfl ?_
   refine W_known (t := 10) false rfl hb4 ?_
   refine W_guard_no rfl rfl rfl rfl rfl ?_
   refine W_guard_no rfl rfl rfl rfl rfl ?_
   refine W_guard_no rfl rfl rfl rfl rfl ?_
   refine W_guard_no rfl rfl rfl rfl rfl ?_
   refine W_guard_no rfl rfl rfl rfl rfl ?_
   refine W_pick_f rfl rfl rfl ?_
   refine W_move rfl rfl ?_
   refine W_guard_no rfl rfl rfl rfl rfl ?_
   refine W_guard_no rfl rfl rfl rfl rfl ?_
   refine W_guard_no rfl rfl rfl rfl rfl ?_
   refine W_guard_no rfl rfl rfl rfl rfl ?_
   refine W_guard_no rfl rfl rfl rfl rfl ?_
   refine W_pick_f rfl rfl rfl ?_
   refine W_move rfl rfl ?_
   refine W_guard_no rfl rfl rfl rfl rfl ?_
   refine W_guard_no rfl rfl rfl rfl rfl ?_
   refine W_guard_no rfl rfl rfl rfl rfl ?_
   refine W_guard_no rfl rfl rfl rfl rfl ?_
   refine W_guard_no rfl rfl rfl rfl rfl ?_
   refine W_pick_f rfl rfl rfl ?_
   refine W_assign rfl rfl ?_
   refine W_nil ?_
   exact N_join _ ⟨rfl, F, (Frz.le.refl _), hS2⟩ ⟨(look_bool rfl (by first | rfl | (rw [hb4]; first | done | rfl) | simp [hb4])), trivial⟩
 rintro E w3 ⟨rfl, F3, le3, hS3⟩
 refine N_code ?_
 obtain rfl := Option.some.inj H
 refine C_ret rfl rfl ?_
 exact ⟨F3, rfl, hS3.pick [] (by decide)⟩

def plan_Ahead (x0 : Loc) (x1 : Loc) : Option Bool :=
  bd (plan_order x0 x1) fun r3 =>
  some (decide (r3 < 0))

theorem plan_Ahead_ok {F : Frz} {w : World} {x0 : Loc} {x1 : Loc} {r : Bool} (hA : Agree F w.heap) (H : plan_Ahead x0 x1 = some r) : Ret Try.prog 31 #[.agg (Loc.cells x0).toArray, .agg (Loc.cells x1).toArray] w fun v w' => ∃ (F' : Frz), v = .bool r ∧ St [] w F F' [] w' := by
 refine Ret_of (args := [.agg (Loc.cells x0).toArray, .agg (Loc.cells x1).toArray]) Go.Proofs.Try.func31 rfl rfl ?_
 change C _ _ _ _ [(0, .agg (Loc.cells x0).toArray), (1, .agg (Loc.cells x1).toArray)] _
 have hS := St.entry hA
 dsimp only [plan_Ahead] at H
 refine C_seq ?_
 refine C_region ?_
 refine W_bx (cs := [.int .i64 x0.vol, .int .i64 x0.file, .int .i64 x0.off, .int .i64 x0.len]) rfl rfl rfl hS ?_
 intro g1 w1 hS1
 refine W_bx (cs := [.int .i64 x1.vol, .int .i64 x1.file, .int .i64 x1.off, .int .i64 x1.len]) rfl rfl rfl hS1 ?_
 intro g2 w2 hS2
 refine W_assign rfl rfl ?_
 refine W_nil ?_
 refine N_code ?_
 refine C_seq ?_
 obtain ⟨r3, hr3, H⟩ := bd_some H
 refine C_region ?_
 refine W_bldg 1 ((Loc.cells x0)) rfl Ty.agg37 Ty.size37 rfl hS2 rfl (fun q u h => sub_at (post := []) rfl h) ?_
 refine W_bldg 0 ((Loc.cells x1)) rfl Ty.agg37 Ty.size37 rfl hS2 rfl (fun q u h => sub_at (post := []) rfl h) ?_
 refine W_call rfl Ty.named45 rfl (plan_order_ok hS2.agree hr3) ?_
 rintro v4 w4 ⟨Fr3, rfl, hT4⟩
 have hS4 := hS2.lent hT4
 refine W_lss rfl rfl rfl ?_
 refine W_assign rfl rfl ?_
 refine W_nil ?_
 refine N_code ?_
 obtain rfl := Option.some.inj H
 refine C_ret rfl rfl ?_
 exact ⟨F, rfl, hS4.pick [] (by decide)⟩

def cellarerkeep_TwinLocs (x0 : List Loc) : Option (List Loc) :=
  bd (app (α := Loc) [] x0) fun l1 =>
  some l1

theorem cellarerkeep_TwinLocs_ok {F : Frz} {w : World} {x0 : List Loc} {r : (List Loc)} {v0 : Value} (hA : Agree F w.heap) (h0 : SlF Loc.t F v0 x0) (H : cellarerkeep_TwinLocs x0 = some r) : Ret Try.prog 33 #[v0] w fun v w' => ∃ (F' : Frz) (q0 : Value), v = q0 ∧ St [] w F F' [.row Loc.t 37 q0 (r)] w' := by
 refine Ret_of (args := [v0]) Go.Proofs.Try.func33 rfl rfl ?_
 change C _ _ _ _ [(0, v0)] _
 have hS := St.entry hA
 dsimp only [cellarerkeep_TwinLocs] at H
 refine C_seq ?_
 refine C_region ?_
 refine W_assign rfl rfl ?_
 refine W_nil ?_
 refine N_code ?_
 refine C_seq ?_
 refine C_region ?_
 refine W_assign rfl rfl ?_
 refine W_nil ?_
 refine N_code ?_
 refine C_seq ?_
 obtain ⟨l1, hl1, H⟩ := bd_some H
 refine C_region ?_
 refine W_move rfl rfl ?_
 refine W_move rfl rfl ?_
 have hS3 := hS.nilRow Loc.t 37
 refine W_appM 0 rfl Go.Proofs.Try.underlying49 Ty.row37 rfl rfl rfl rfl rfl hS3 rfl (h0.src hS3.agree) hl1 ?_
 intro v2 w2 hS2
 refine W_assign rfl rfl ?_
 refine W_nil ?_
 refine N_code ?_
 obtain rfl := Option.some.inj H
 refine C_ret rfl rfl ?_
 exact ⟨F, v2, rfl, hS2⟩

def cellarerref18_Ahead (x0 : Loc) (x1 : Loc) : Option Bool :=
  if decide (x0.vol ≠ x1.vol) then
    some (decide (x0.vol < x1.vol))
  else
    if decide (x0.file ≠ x1.file) then
      some (decide (x0.file < x1.file))
    else
      if decide (x0.off ≠ x1.off) then
        some (decide (x0.off < x1.off))
      else
        some (decide (x0.len < x1.len))

theorem cellarerref18_Ahead_ok {F : Frz} {w : World} {x0 : Loc} {x1 : Loc} {r : Bool} (hA : Agree F w.heap) (H : cellarerref18_Ahead x0 x1 = some r) : Ret Try.prog 34 #[.agg (Loc.cells x0).toArray, .agg (Loc.cells x1).toArray] w fun v w' => ∃ (F' : Frz), v = .bool r ∧ St [] w F F' [] w' := by
 refine Ret_of (args := [.agg (Loc.cells x0).toArray, .agg (Loc.cells x1).toArray]) Go.Proofs.Try.func34 rfl rfl ?_
 change C _ _ _ _ [(0, .agg (Loc.cells x0).toArray), (1, .agg (Loc.cells x1).toArray)] _
 have hS := St.entry hA
 dsimp only [cellarerref18_Ahead] at H
 refine C_seq ?_
 refine C_region ?_
 refine W_bx (cs := [.int .i64 x0.vol, .int .i64 x0.file, .int .i64 x0.off, .int .i64 x0.len]) rfl rfl rfl hS ?_
 intro g1 w1 hS1
 refine W_bx (cs := [.int .i64 x1.vol, .int .i64 x1.file, .int .i64 x1.off, .int .i64 x1.len]) rfl rfl rfl hS1 ?_
 intro g2 w2 hS2
 refine W_assign rfl rfl ?_
 refine W_nil ?_
 refine N_code ?_
 refine C_seq ?_
 refine C_seq ?_
 refine C_region ?_
 refine W_field_pl 0 rfl Ty.field37_0 rfl ?_
 refine W_bld1 1 rfl Ty.cell3 rfl hS2 rfl rfl ?_
 refine W_field_pl 0 rfl Ty.field37_0 rfl ?_
 refine W_bld1 0 rfl Ty.cell3 rfl hS2 rfl rfl ?_
 refine W_neq rfl rfl rfl ?_
 refine W_nil ?_
 refine N_code ?_
 refine C_cond rfl (fun hc3 => ?_) (fun hc3 => ?_)
 ·
  rw [if_t hc3] at H
  refine C_seq ?_
  refine C_region ?_
  refine W_field_pl 0 rfl Ty.field37_0 rfl ?_
  refine W_bld1 1 rfl Ty.cell3 rfl hS2 rfl rfl ?_
  refine W_field_pl 0 rfl Ty.field37_0 rfl ?_
  refine W_bld1 0 rfl Ty.cell3 rfl hS2 rfl rfl ?_
  refine W_lss rfl rfl rfl ?_
  refine W_assign rfl rfl ?_
  refine W_nil ?_
  refine N_code ?_
  obtain rfl := Option.some.inj H
  refine C_ret rfl rfl ?_
  exact ⟨F, rfl, hS2.pick [] (by decide)⟩
 ·
  rw [if_f hc3] at H
  refine C_skip ?_
  refine N_code ?_
  refine C_seq ?_
  refine C_seq ?_
  refine C_region ?_
  refine W_field_pl 1 rfl Ty.field37_1 rfl ?_
  refine W_bld1 1 rfl Ty.cell3 rfl hS2 rfl rfl ?_
  refine W_field_pl 1 rfl Ty.field37_1 rfl ?_
  refine W_bld1 0 rfl Ty.cell3 rfl hS2 rfl rfl ?_
  refine W_neq rfl rfl rfl ?_
  refine W_nil ?_
  refine N_code ?_
  refine C_cond rfl (fun hc4 => ?_) (fun hc4 => ?_)
  ·
   rw [if_t hc4] at H
   refine C_seq ?_
   refine C_region ?_
   refine W_field_pl 1 rfl Ty.field37_1 rfl ?_
   refine W_bld1 1 rfl Ty.cell3 rfl hS2 rfl rfl ?_
   refine W_field_pl 1 rfl Ty.field37_1 rfl ?_
   refine W_bld1 0 rfl Ty.cell3 rfl hS2 rfl rfl ?_
   refine W_lss rfl rfl rfl ?_
   refine W_assign rfl rfl ?_
   refine W_nil ?_
   refine N_code ?_
   obtain rfl := Option.some.inj H
   refine C_ret rfl rfl ?_
   exact ⟨F, rfl, hS2.pick [] (by decide)⟩
  ·
   rw [if_f hc4] at H
   refine C_skip ?_
   refine N_code ?_
   refine C_seq ?_
   refine C_seq ?_
   refine C_region ?_
   refine W_field_pl 2 rfl Ty.field37_2 rfl ?_
   refine W_bld1 1 rfl Ty.cell3 rfl hS2 rfl rfl ?_
   refine W_field_pl 2 rfl Ty.field37_2 rfl ?_
   refine W_bld1 0 rfl Ty.cell3 rfl hS2 rfl rfl ?_
   refine W_neq rfl rfl rfl ?_
   refine W_nil ?_
   refine N_code ?_
   refine C_cond rfl (fun hc5 => ?_) (fun hc5 => ?_)
   ·
    rw [if_t hc5] at H
    refine C_seq ?_
    refine C_region ?_
    refine W_field_pl 2 rfl Ty.field37_2 rfl ?_
    refine W_bld1 1 rfl Ty.cell3 rfl hS2 rfl rfl ?_
    refine W_field_pl 2 rfl Ty.field37_2 rfl ?_
    refine W_bld1 0 rfl Ty.cell3 rfl hS2 rfl rfl ?_
    refine W_lss rfl rfl rfl ?_
    refine W_assign rfl rfl ?_
    refine W_nil ?_
    refine N_code ?_
    obtain rfl := Option.some.inj H
    refine C_ret rfl rfl ?_
    exact ⟨F, rfl, hS2.pick [] (by decide)⟩
   ·
    rw [if_f hc5] at H
    refine C_skip ?_
    refine N_code ?_
    refine C_seq ?_
    refine C_region ?_
    refine W_field_pl 3 rfl Ty.field37_3 rfl ?_
    refine W_bld1 1 rfl Ty.cell3 rfl hS2 rfl rfl ?_
    refine W_field_pl 3 rfl Ty.field37_3 rfl ?_
    refine W_bld1 0 rfl Ty.cell3 rfl hS2 rfl rfl ?_
    refine W_lss rfl rfl rfl ?_
    refine W_assign rfl rfl ?_
    refine W_nil ?_
    refine N_code ?_
    obtain rfl := Option.some.inj H
    refine C_ret rfl rfl ?_
    exact ⟨F, rfl, hS2.pick [] (by decide)⟩

def cellarerref20_Sort.k1 (l2 : List Loc) : Option (List Loc) :=
  some l2


def cellarerref20_Sort.k3 (i9 : Int) (rec10 : ((List Loc) × Int) → Option (List Loc)) (l13 : List Loc) : Option (List Loc) :=
  rec10 (l13, wr (i9 + 1))


def cellarerref20_Sort.k4 (x0 : List Loc) (l6 : List Loc) (i9 : Int) (rec10 : ((List Loc) × Int) → Option (List Loc)) (i17 : Int) : Option (List Loc) :=
  bd (only (decide (i17 < (l6.length : Int))) (ix l6 i17) (Loc.mk 0 0 0 0)) fun x18 =>
  bd (only (decide (i17 < (l6.length : Int))) (ix x0 i9) (Loc.mk 0 0 0 0)) fun x20 =>
  bd (only (decide (i17 < (l6.length : Int))) (cellarerkeep_Loc x18 x20) false) fun r22 =>
  if (decide (i17 < (l6.length : Int)) && r22) then
    cellarerref20_Sort.k3 i9 rec10 l6
  else
    bd (cut (α := Loc) l6 0 i17) fun l62 =>
    bd (app (α := Loc) [] l62) fun l64 =>
    bd (ix x0 i9) fun x66 =>
    bd (app (α := Loc) l64 [x66]) fun l69 =>
    bd (cut (α := Loc) l6 i17 (l6.length : Int)) fun l83 =>
    bd (app (α := Loc) l69 l83) fun l85 =>
    cellarerref20_Sort.k3 i9 rec10 l85


def cellarerref20_Sort.l5 (x0 : List Loc) (l6 : List Loc) (i9 : Int) (rec10 : ((List Loc) × Int) → Option (List Loc)) (rec89 : Int → Option (List Loc)) : Int → Option (List Loc)
  | i88 =>
    bd (only (decide (i88 < (l6.length : Int))) (ix l6 i88) (Loc.mk 0 0 0 0)) fun x90 =>
    bd (only (decide (i88 < (l6.length : Int))) (ix x0 i9) (Loc.mk 0 0 0 0)) fun x92 =>
    bd (only (decide (i88 < (l6.length : Int))) (cellarerref18_Ahead x90 x92) false) fun r94 =>
    if (decide (i88 < (l6.length : Int)) && r94) then
      rec89 (wr (i88 + 1))
    else
      cellarerref20_Sort.k4 x0 l6 i9 rec10 i88


def cellarerref20_Sort.l2 (x0 : List Loc) (rec10 : ((List Loc) × Int) → Option (List Loc)) : ((List Loc) × Int) → Option (List Loc)
  | (l6, i9) =>
    if decide (i9 < (x0.length : Int)) then
      loop (cellarerref20_Sort.l5 x0 l6 i9 rec10) 0
    else
      cellarerref20_Sort.k1 l6

def cellarerref20_Sort (x0 : List Loc) : Option (List Loc) :=
  loop (cellarerref20_Sort.l2 x0) ([], 0)

theorem cellarerref20_Sort_ok {F : Frz} {w : World} {x0 : List Loc} {r : (List Loc)} {v0 : Value} (hA : Agree F w.heap) (h0 : SlF Loc.t F v0 x0) (H : cellarerref20_Sort x0 = some r) : Ret Try.prog 35 #[v0] w fun v w' => ∃ (F' : Frz) (q0 : Value), v = q0 ∧ St [] w F F' [.row Loc.t 37 q0 (r)] w' := by
 refine Ret_of (args := [v0]) Go.Proofs.Try.func35 rfl rfl ?_
 change C _ _ _ _ [(0, v0)] _
 have hS := St.entry hA
 dsimp only [cellarerref20_Sort] at H
 refine C_seq ?_
 refine C_region ?_
 refine W_assign rfl rfl ?_
 refine W_nil ?_
 refine N_code ?_
 refine C_seq ?_
 refine C_region ?_
 refine W_assign rfl rfl ?_
 refine W_nil ?_
 refine N_code ?_
 refine C_seq_join (fun E wq => ∃ l2 : List Loc, cellarerref20_Sort.k1 l2 = some r ∧ ∃ (F1 : Frz) (u3 : Value), E = [(3, u3)] ∧ F.le F1 ∧ St [] w F F1 [.row Loc.t 37 u3 l2] wq) ?_ ?_
 ·
  refine C_seq ?_
  refine C_region ?_
  refine W_assign rfl rfl ?_
  refine W_nil ?_
  refine N_code ?_
  refine C_block ?_
  refine C_loopM (fun (s : (List Loc) × Int) E wq => ∃ (F5 : Frz) (u7 : Value), E = [(0, v0), (3, u7), (4, .int .i64 s.2)] ∧ F.le F5 ∧ St [] w F F5 [.row Loc.t 37 u7 s.1] wq) H ?_ ?_
  ·
   have hS135 := hS.nilRow Loc.t 37
   exact ⟨_, ⟨F, (.slice none 0 0), rfl, (Frz.le.refl _), hS135⟩, ⟨rfl, rfl, rfl, trivial⟩⟩
  ·
   rintro rec10 ⟨l6, i9⟩ E w5 hI H
   try dsimp only at hI
   obtain ⟨F5, u7, rfl, le5, hS5⟩ := hI
   dsimp only [cellarerref20_Sort.l2] at H
   refine C_seq ?_
   refine C_seq ?_
   refine C_region ?_
   refine W_move rfl rfl ?_
   refine W_move rfl rfl ?_
   refine W_lenv rfl Go.Proofs.Try.underlying49 rfl h0.ln ?_
   refine W_lss rfl rfl rfl ?_
   refine W_nil ?_
   refine N_code ?_
   refine C_cond rfl (fun hc11 => ?_) (fun hc11 => ?_)
   ·
    rw [if_t hc11] at H
    refine C_skip ?_
    refine N_code ?_
    refine C_seq_join (fun E wq => ∃ l13 : List Loc, cellarerref20_Sort.k3 i9 rec10 l13 = some r ∧ ∃ (F12 : Frz) (u14 : Value), E = [(0, v0), (3, u14), (4, .int .i64 i9)] ∧ F5.le F12 ∧ St [] w F F12 [.row Loc.t 37 u14 l13] wq) ?_ ?_
    ·
     refine C_block ?_
     refine C_seq ?_
     refine C_region ?_
     refine W_assign rfl rfl ?_
     refine W_nil ?_
     refine N_code ?_
     refine C_seq_join (fun E wq => ∃ i17 : Int, cellarerref20_Sort.k4 x0 l6 i9 rec10 i17 = some r ∧ ∃ (F16 : Frz), E = [(0, v0), (3, u7), (4, .int .i64 i9), (5, .int .i64 i17)] ∧ F5.le F16 ∧ St [] w F F16 [.row Loc.t 37 u7 l6] wq) ?_ ?_
     ·
      refine C_block ?_
      refine C_loopM (fun (s : Int) E wq => ∃ (F87 : Frz), E = [(0, v0), (3, u7), (4, .int .i64 i9), (5, .int .i64 s)] ∧ F5.le F87 ∧ St [] w F F87 [.row Loc.t 37 u7 l6] wq) H ?_ ?_
      ·
       exact ⟨_, ⟨F5, rfl, (Frz.le.refl _), hS5⟩, ⟨rfl, rfl, rfl, rfl, trivial⟩⟩
      ·
       rintro rec89 i88 E w87 hI H
       try dsimp only at hI
       obtain ⟨F87, rfl, le87, hS87⟩ := hI
       dsimp only [cellarerref20_Sort.l5] at H
       refine C_seq ?_
       refine C_seq ?_
       obtain ⟨x90, hx90, H⟩ := bd_some H
       obtain ⟨x92, hx92, H⟩ := bd_some H
       obtain ⟨r94, hr94, H⟩ := bd_some H
       refine C_join (fun E wq => E = [(0, v0), (3, u7), (4, .int .i64 i9), (5, .int .i64 i88), (27, .bool (decide (i88 < (l6.length : Int)) && r94))] ∧ ∃ F95 : Frz, F87.le F95 ∧ St [] w F F95 [.row Loc.t 37 u7 l6] wq) ?_ ?_
       ·
        rcases Bool.eq_false_or_eq_true (decide (i88 < (l6.length : Int))) with hb96 | hb96
        ·
         have hy97 := hx90
         rw [only_t hb96] at hy97
         obtain ⟨hp98, hy98⟩ := ix_some hy97
         obtain ⟨cs98, hr98, he98⟩ := hS87.rowAt (k := 0) rfl hy98
         obtain rfl := hr98
         replace he98 : El _ _ 4 _ _ := he98
         have hy99 := hx92
         rw [only_t hb96] at hy99
         obtain ⟨hp100, hy100⟩ := ix_some hy99
         obtain ⟨cs100, hr100, he100⟩ := (h0.mono (le5.trans le87)).at_ hy100
         obtain rfl := hr100
         replace he100 : Elf _ _ 4 _ _ := he100
         apply C_draw 14 [[], [], [1], [0, 2], [3], [4], [4], [5, 6, 4], [7, 4], [4], [4], [9, 10, 4], [11, 4], [8, 12, 4]] [.val (.int .i64 i88), .val (u7), .val (.int .i64 (l6.length : Int)), .val (.bool (decide (i88 < (l6.length : Int)))), .val (.bool true), .val (u7), .val (.int .i64 i88), .val (elp u7 (i88.toNat * 4)), .val (.agg (Loc.cells x90).toArray), .val (v0), .val (.int .i64 i9), .val (elp v0 (i9.toNat * 4)), .val (.agg (Loc.cells x92).toArray), .val (.bool r94)] Ty.mixed rfl rfl (by kernel_rfl) (by kernel_rfl) rfl
         ·
          refine ⟨?_, ?_, ?_, ?_, ?_, ?_, ?_, ?_, ?_, ?_, ?_, ?_, ?_, ?_, trivial⟩
          ·
           intro w101 vq101 hB101 hH101
           have hS101 := hS87.below hB101
           refine W_move rfl rfl ?_
           refine W_nil ?_
           exact N_step rfl rfl (Below.refl _ _)
          ·
           intro w102 vq102 hB102 hH102
           have hS102 := hS87.below hB102
           refine W_move rfl rfl ?_
           refine W_nil ?_
           exact N_step rfl rfl (Below.refl _ _)
          ·
           intro w103 vq103 hB103 hH103
           have hS103 := hS87.below hB103
           refine W_lenv rfl Go.Proofs.Try.underlying49 rfl (hS103.rowLn (k := 0) rfl) ?_
           refine W_nil ?_
           exact N_step rfl rfl (Below.refl _ _)
          ·
           intro w104 vq104 hB104 hH104
           have hS104 := hS87.below hB104
           refine W_lss rfl rfl rfl ?_
           refine W_nil ?_
           exact N_step rfl rfl (Below.refl _ _)
          ·
           intro w105 vq105 hB105 hH105
           have hS105 := hS87.below hB105
           refine W_move rfl rfl ?_
           refine W_nil ?_
           exact N_step rfl (congrArg Value.bool hb96) (Below.refl _ _)
          ·
           intro w106 vq106 hB106 hH106
           have hS106 := hS87.below hB106
           refine W_guard_yes rfl ?_
           refine W_move rfl rfl ?_
           refine W_nil ?_
           exact N_step rfl rfl (Below.refl _ _)
          ·
           intro w107 vq107 hB107 hH107
           have hS107 := hS87.below hB107
           refine W_guard_yes rfl ?_
           refine W_move rfl rfl ?_
           refine W_nil ?_
           exact N_step rfl rfl (Below.refl _ _)
          ·
           intro w108 vq108 hB108 hH108
           have hS108 := hS87.below hB108
           refine W_guard_yes rfl ?_
           refine W_ix rfl Go.Proofs.Try.underlying49 Ty.cells37 Ty.info37 rfl rfl (he98.below hB108) hp98 rfl ?_
           refine W_nil ?_
           exact N_step rfl rfl (Below.refl _ _)
          ·
           intro w109 vq109 hB109 hH109
           have hS109 := hS87.below hB109
           refine W_guard_yes rfl ?_
           refine W_ldg 0 ((Loc.cells x90)) rfl Ty.agg37 Ty.size37 rfl (he98.below hB109) (by omega) (fun q u h => sub_at (post := []) rfl h) ?_
           refine W_nil ?_
           exact N_step rfl rfl (Below.refl _ _)
          ·
           intro w110 vq110 hB110 hH110
           have hS110 := hS87.below hB110
           refine W_guard_yes rfl ?_
           refine W_move rfl rfl ?_
           refine W_nil ?_
           exact N_step rfl rfl (Below.refl _ _)
          ·
           intro w111 vq111 hB111 hH111
           have hS111 := hS87.below hB111
           refine W_guard_yes rfl ?_
           refine W_move rfl rfl ?_
           refine W_nil ?_
           exact N_step rfl rfl (Below.refl _ _)
          ·
           intro w112 vq112 hB112 hH112
           have hS112 := hS87.below hB112
           refine W_guard_yes rfl ?_
           refine W_ix rfl Go.Proofs.Try.underlying49 Ty.cells37 Ty.info37 rfl rfl (he100.el hS112.agree) hp100 rfl ?_
           refine W_nil ?_
           exact N_step rfl rfl (Below.refl _ _)
          ·
           intro w113 vq113 hB113 hH113
           have hS113 := hS87.below hB113
           refine W_guard_yes rfl ?_
           refine W_ldg 0 ((Loc.cells x92)) rfl Ty.agg37 Ty.size37 rfl (he100.el hS113.agree) (by omega) (fun q u h => sub_at (post := []) rfl h) ?_
           refine W_nil ?_
           exact N_step rfl rfl (Below.refl _ _)
          ·
           intro w114 vq114 hB114 hH114
           have hS114 := hS87.below hB114
           refine W_guard_yes rfl ?_
           have hy115 := hr94
           rw [only_t hb96] at hy115
           refine W_call rfl Ty.named34 rfl (cellarerref18_Ahead_ok hS114.agree hy115) ?_
           rintro v116 w116 ⟨Fr94, rfl, hT116⟩
           have hS116 := hS114.lent hT116
           refine W_nil ?_
           exact N_step rfl rfl hT116.below0
         intro w117 vq117 hB117 hH117
         have hS117 := hS87.below hB117
         refine W_pick_t rfl rfl rfl ?_
         refine W_nil ?_
         exact N_join _ ⟨rfl, F87, (Frz.le.refl _), hS117⟩ ⟨rfl, rfl, rfl, rfl, (look_bool rfl (by first | rfl | (rw [hb96]; first | done | rfl) | simp [hb96])), trivial⟩
        ·
         apply C_draw 14 [[], [], [1], [0, 2], [3], [4], [4], [5, 6, 4], [7, 4], [4], [4], [9, 10, 4], [11, 4], [8, 12, 4]] [.val (.int .i64 i88), .val (u7), .val (.int .i64 (l6.length : Int)), .val (.bool (decide (i88 < (l6.length : Int)))), .val (.bool false), .val undef, .val undef, .val undef, .val undef, .val undef, .val undef, .val undef, .val undef, .val undef] Ty.mixed rfl rfl (by kernel_rfl) (by kernel_rfl) rfl
         ·
          refine ⟨?_, ?_, ?_, ?_, ?_, ?_, ?_, ?_, ?_, ?_, ?_, ?_, ?_, ?_, trivial⟩
          ·
           intro w118 vq118 hB118 hH118
           have hS118 := hS87.below hB118
           refine W_move rfl rfl ?_
           refine W_nil ?_
           exact N_step rfl rfl (Below.refl _ _)
          ·
           intro w119 vq119 hB119 hH119
           have hS119 := hS87.below hB119
           refine W_move rfl rfl ?_
           refine W_nil ?_
           exact N_step rfl rfl (Below.refl _ _)
          ·
           intro w120 vq120 hB120 hH120
           have hS120 := hS87.below hB120
           refine W_lenv rfl Go.Proofs.Try.underlying49 rfl (hS120.rowLn (k := 0) rfl) ?_
           refine W_nil ?_
           exact N_step rfl rfl (Below.refl _ _)
          ·
           intro w121 vq121 hB121 hH121
           have hS121 := hS87.below hB121
           refine W_lss rfl rfl rfl ?_
           refine W_nil ?_
           exact N_step rfl rfl (Below.refl _ _)
          ·
           intro w122 vq122 hB122 hH122
           have hS122 := hS87.below hB122
           refine W_move rfl rfl ?_
           refine W_nil ?_
           exact N_step rfl (congrArg Value.bool hb96) (Below.refl _ _)
          ·
           intro w123 vq123 hB123 hH123
           have hS123 := hS87.below hB123
           refine W_guard_no rfl rfl rfl rfl rfl ?_
           refine W_nil ?_
           exact N_step rfl rfl (Below.refl _ _)
          ·
           intro w124 vq124 hB124 hH124
           have hS124 := hS87.below hB124
           refine W_guard_no rfl rfl rfl rfl rfl ?_
           refine W_nil ?_
           exact N_step rfl rfl (Below.refl _ _)
          ·
           intro w125 vq125 hB125 hH125
           have hS125 := hS87.below hB125
           refine W_guard_no rfl rfl rfl rfl rfl ?_
           refine W_nil ?_
           exact N_step rfl rfl (Below.refl _ _)
          ·
           intro w126 vq126 hB126 hH126
           have hS126 := hS87.below hB126
           refine W_guard_no rfl rfl rfl rfl rfl ?_
           refine W_nil ?_
           exact N_step rfl rfl (Below.refl _ _)
          ·
           intro w127 vq127 hB127 hH127
           have hS127 := hS87.below hB127
           refine W_guard_no rfl rfl rfl rfl rfl ?_
           refine W_nil ?_
           exact N_step rfl rfl (Below.refl _ _)
          ·
           intro w128 vq128 hB128 hH128
           have hS128 := hS87.below hB128
           refine W_guard_no rfl rfl rfl rfl rfl ?_
           refine W_nil ?_
           exact N_step rfl rfl (Below.refl _ _)
          ·
           intro w129 vq129 hB129 hH129
           have hS129 := hS87.below hB129
           refine W_guard_no rfl rfl rfl rfl rfl ?_
           refine W_nil ?_
           exact N_step rfl rfl (Below.refl _ _)
          ·
           intro w130 vq130 hB130 hH130
           have hS130 := hS87.below hB130
           refine W_guard_no rfl rfl rfl rfl rfl ?_
           refine W_nil ?_
           exact N_step rfl rfl (Below.refl _ _)
          ·
           intro w131 vq131 hB131 hH131
           have hS131 := hS87.below hB131
           refine W_guard_no rfl rfl rfl rfl rfl ?_
           refine W_nil ?_
           exact N_step rfl rfl (Below.refl _ _)
         intro w132 vq132 hB132 hH132
         have hS132 := hS87.below hB132
         refine W_pick_f rfl rfl rfl ?_
         refine W_nil ?_
         exact N_join _ ⟨rfl, F87, (Frz.le.refl _), hS132⟩ ⟨rfl, rfl, rfl, rfl, (look_bool rfl (by first | rfl | (rw [hb96]; first | done | rfl) | simp [hb96])), trivial⟩
       rintro E w95 ⟨rfl, F95, le95, hS95⟩
       refine N_code ?_
       refine C_cond rfl (fun hc133 => ?_) (fun hc133 => ?_)
       ·
        rw [if_t hc133] at H
        refine C_skip ?_
        refine N_code ?_
        refine C_block ?_
        refine C_region ?_
        refine W_move rfl rfl ?_
        refine W_add rfl rfl rfl rfl ?_
        refine W_assign rfl rfl ?_
        refine W_nil ?_
        refine N_block ?_
        exact N_againM (wr (i88 + 1)) _ H ⟨F95, rfl, (le87.trans le95), hS95⟩ ⟨rfl, rfl, rfl, rfl, trivial⟩
       ·
        rw [if_f hc133] at H
        refine C_exit _ rfl ?_
        exact N_join _ ⟨i88, H, ⟨F95, rfl, (le87.trans le95), hS95⟩⟩ ⟨rfl, rfl, rfl, rfl, trivial⟩
     ·
      rintro E w16 ⟨i17, H, F16, rfl, le16, hS16⟩
      dsimp only [cellarerref20_Sort.k4] at H
      refine C_seq ?_
      refine C_seq ?_
      obtain ⟨x18, hx18, H⟩ := bd_some H
      obtain ⟨x20, hx20, H⟩ := bd_some H
      obtain ⟨r22, hr22, H⟩ := bd_some H
      refine C_join (fun E wq => E = [(0, v0), (3, u7), (4, .int .i64 i9), (5, .int .i64 i17), (44, .bool (decide (i17 < (l6.length : Int)) && r22))] ∧ ∃ F23 : Frz, F16.le F23 ∧ St [] w F F23 [.row Loc.t 37 u7 l6] wq) ?_ ?_
      ·
       rcases Bool.eq_false_or_eq_true (decide (i17 < (l6.length : Int))) with hb24 | hb24
       ·
        have hy25 := hx18
        rw [only_t hb24] at hy25
        obtain ⟨hp26, hy26⟩ := ix_some hy25
        obtain ⟨cs26, hr26, he26⟩ := hS16.rowAt (k := 0) rfl hy26
        obtain rfl := hr26
        replace he26 : El _ _ 4 _ _ := he26
        have hy27 := hx20
        rw [only_t hb24] at hy27
        obtain ⟨hp28, hy28⟩ := ix_some hy27
        obtain ⟨cs28, hr28, he28⟩ := (h0.mono (le5.trans le16)).at_ hy28
        obtain rfl := hr28
        replace he28 : Elf _ _ 4 _ _ := he28
        apply C_draw 14 [[], [], [1], [0, 2], [3], [4], [4], [5, 6, 4], [7, 4], [4], [4], [9, 10, 4], [11, 4], [8, 12, 4]] [.val (.int .i64 i17), .val (u7), .val (.int .i64 (l6.length : Int)), .val (.bool (decide (i17 < (l6.length : Int)))), .val (.bool true), .val (u7), .val (.int .i64 i17), .val (elp u7 (i17.toNat * 4)), .val (.agg (Loc.cells x18).toArray), .val (v0), .val (.int .i64 i9), .val (elp v0 (i9.toNat * 4)), .val (.agg (Loc.cells x20).toArray), .val (.bool r22)] Ty.mixed rfl rfl (by kernel_rfl) (by kernel_rfl) rfl
        ·
         refine ⟨?_, ?_, ?_, ?_, ?_, ?_, ?_, ?_, ?_, ?_, ?_, ?_, ?_, ?_, trivial⟩
         ·
          intro w29 vq29 hB29 hH29
          have hS29 := hS16.below hB29
          refine W_move rfl rfl ?_
          refine W_nil ?_
          exact N_step rfl rfl (Below.refl _ _)
         ·
          intro w30 vq30 hB30 hH30
          have hS30 := hS16.below hB30
          refine W_move rfl rfl ?_
          refine W_nil ?_
          exact N_step rfl rfl (Below.refl _ _)
         ·
          intro w31 vq31 hB31 hH31
          have hS31 := hS16.below hB31
          refine W_lenv rfl Go.Proofs.Try.underlying49 rfl (hS31.rowLn (k := 0) rfl) ?_
          refine W_nil ?_
          exact N_step rfl rfl (Below.refl _ _)
         ·
          intro w32 vq32 hB32 hH32
          have hS32 := hS16.below hB32
          refine W_lss rfl rfl rfl ?_
          refine W_nil ?_
          exact N_step rfl rfl (Below.refl _ _)
         ·
          intro w33 vq33 hB33 hH33
          have hS33 := hS16.below hB33
          refine W_move rfl rfl ?_
          refine W_nil ?_
          exact N_step rfl (congrArg Value.bool hb24) (Below.refl _ _)
         ·
          intro w34 vq34 hB34 hH34
          have hS34 := hS16.below hB34
          refine W_guard_yes rfl ?_
          refine W_move rfl rfl ?_
          refine W_nil ?_
          exact N_step rfl rfl (Below.refl _ _)
         ·
          intro w35 vq35 hB35 hH35
          have hS35 := hS16.below hB35
          refine W_guard_yes rfl ?_
          refine W_move rfl rfl ?_
          refine W_nil ?_
          exact N_step rfl rfl (Below.refl _ _)
         ·
          intro w36 vq36 hB36 hH36
          have hS36 := hS16.below hB36
          refine W_guard_yes rfl ?_
          refine W_ix rfl Go.Proofs.Try.underlying49 Ty.cells37 Ty.info37 rfl rfl (he26.below hB36) hp26 rfl ?_
          refine W_nil ?_
          exact N_step rfl rfl (Below.refl _ _)
         ·
          intro w37 vq37 hB37 hH37
          have hS37 := hS16.below hB37
          refine W_guard_yes rfl ?_
          refine W_ldg 0 ((Loc.cells x18)) rfl Ty.agg37 Ty.size37 rfl (he26.below hB37) (by omega) (fun q u h => sub_at (post := []) rfl h) ?_
          refine W_nil ?_
          exact N_step rfl rfl (Below.refl _ _)
         ·
          intro w38 vq38 hB38 hH38
          have hS38 := hS16.below hB38
          refine W_guard_yes rfl ?_
          refine W_move rfl rfl ?_
          refine W_nil ?_
          exact N_step rfl rfl (Below.refl _ _)
         ·
          intro w39 vq39 hB39 hH39
          have hS39 := hS16.below hB39
          refine W_guard_yes rfl ?_
          refine W_move rfl rfl ?_
          refine W_nil ?_
          exact N_step rfl rfl (Below.refl _ _)
         ·
          intro w40 vq40 hB40 hH40
          have hS40 := hS16.below hB40
          refine W_guard_yes rfl ?_
          refine W_ix rfl Go.Proofs.Try.underlying49 Ty.cells37 Ty.info37 rfl rfl (he28.el hS40.agree) hp28 rfl ?_
          refine W_nil ?_
          exact N_step rfl rfl (Below.refl _ _)
         ·
          intro w41 vq41 hB41 hH41
          have hS41 := hS16.below hB41
          refine W_guard_yes rfl ?_
          refine W_ldg 0 ((Loc.cells x20)) rfl Ty.agg37 Ty.size37 rfl (he28.el hS41.agree) (by omega) (fun q u h => sub_at (post := []) rfl h) ?_
          refine W_nil ?_
          exact N_step rfl rfl (Below.refl _ _)
         ·
          intro w42 vq42 hB42 hH42
          have hS42 := hS16.below hB42
          refine W_guard_yes rfl ?_
          have hy43 := hr22
          rw [only_t hb24] at hy43
          refine W_call rfl Ty.named24 rfl (cellarerkeep_Loc_ok hS42.agree hy43) ?_
          rintro v44 w44 ⟨Fr22, rfl, hT44⟩
          have hS44 := hS42.lent hT44
          refine W_nil ?_
          exact N_step rfl rfl hT44.below0
        intro w45 vq45 hB45 hH45
        have hS45 := hS16.below hB45
        refine W_pick_t rfl rfl rfl ?_
        refine W_nil ?_
        exact N_join _ ⟨rfl, F16, (Frz.le.refl _), hS45⟩ ⟨rfl, rfl, rfl, rfl, (look_bool rfl (by first | rfl | (rw [hb24]; first | done | rfl) | simp [hb24])), trivial⟩
       ·
        apply C_draw 14 [[], [], [1], [0, 2], [3], [4], [4], [5, 6, 4], [7, 4], [4], [4], [9, 10, 4], [11, 4], [8, 12, 4]] [.val (.int .i64 i17), .val (u7), .val (.int .i64 (l6.length : Int)), .val (.bool (decide (i17 < (l6.length : Int)))), .val (.bool false), .val undef, .val undef, .val undef, .val undef, .val undef, .val undef, .val undef, .val undef, .val undef] Ty.mixed rfl rfl (by kernel_rfl) (by kernel_rfl) rfl
        ·
         refine ⟨?_, ?_, ?_, ?_, ?_, ?_, ?_, ?_, ?_, ?_, ?_, ?_, ?_, ?_, trivial⟩
         ·
          intro w46 vq46 hB46 hH46
          have hS46 := hS16.below hB46
          refine W_move rfl rfl ?_
          refine W_nil ?_
          exact N_step rfl rfl (Below.refl _ _)
         ·
          intro w47 vq47 hB47 hH47
          have hS47 := hS16.below hB47
          refine W_move rfl rfl ?_
          refine W_nil ?_
          exact N_step rfl rfl (Below.refl _ _)
         ·
          intro w48 vq48 hB48 hH48
          have hS48 := hS16.below hB48
          refine W_lenv rfl Go.Proofs.Try.underlying49 rfl (hS48.rowLn (k := 0) rfl) ?_
          refine W_nil ?_
          exact N_step rfl rfl (Below.refl _ _)
         ·
          intro w49 vq49 hB49 hH49
          have hS49 := hS16.below hB49
          refine W_lss rfl rfl rfl ?_
          refine W_nil ?_
          exact N_step rfl rfl (Below.refl _ _)
         ·
          intro w50 vq50 hB50 hH50
          have hS50 := hS16.below hB50
          refine W_move rfl rfl ?_
          refine W_nil ?_
          exact N_step rfl (congrArg Value.bool hb24) (Below.refl _ _)
         ·
          intro w51 vq51 hB51 hH51
          have hS51 := hS16.below hB51
          refine W_guard_no rfl rfl rfl rfl rfl ?_
          refine W_nil ?_
          exact N_step rfl rfl (Below.refl _ _)
         ·
          intro w52 vq52 hB52 hH52
          have hS52 := hS16.below hB52
          refine W_guard_no rfl rfl rfl rfl rfl ?_
          refine W_nil ?_
          exact N_step rfl rfl (Below.refl _ _)
         ·
          intro w53 vq53 hB53 hH53
          have hS53 := hS16.below hB53
          refine W_guard_no rfl rfl rfl rfl rfl ?_
          refine W_nil ?_
          exact N_step rfl rfl (Below.refl _ _)
         ·
          intro w54 vq54 hB54 hH54
          have hS54 := hS16.below hB54
          refine W_guard_no rfl rfl rfl rfl rfl ?_
          refine W_nil ?_
          exact N_step rfl rfl (Below.refl _ _)
         ·
          intro w55 vq55 hB55 hH55
          have hS55 := hS16.below hB55
          refine W_guard_no rfl rfl rfl rfl rfl ?_
          refine W_nil ?_
          exact N_step rfl rfl (Below.refl _ _)
         ·
          intro w56 vq56 hB56 hH56
          have hS56 := hS16.below hB56
          refine W_guard_no rfl rfl rfl rfl rfl ?_
          refine W_nil ?_
          exact N_step rfl rfl (Below.refl _ _)
         ·
          intro w57 vq57 hB57 hH57
          have hS57 := hS16.below hB57
          refine W_guard_no rfl rfl rfl rfl rfl ?_
          refine W_nil ?_
          exact N_step rfl rfl (Below.refl _ _)
         ·
          intro w58 vq58 hB58 hH58
          have hS58 := hS16.below hB58
          refine W_guard_no rfl rfl rfl rfl rfl ?_
          refine W_nil ?_
          exact N_step rfl rfl (Below.refl _ _)
         ·
          intro w59 vq59 hB59 hH59
          have hS59 := hS16.below hB59
          refine W_guard_no rfl rfl rfl rfl rfl ?_
          refine W_nil ?_
          exact N_step rfl rfl (Below.refl _ _)
        intro w60 vq60 hB60 hH60
        have hS60 := hS16.below hB60
        refine W_pick_f rfl rfl rfl ?_
        refine W_nil ?_
        exact N_join _ ⟨rfl, F16, (Frz.le.refl _), hS60⟩ ⟨rfl, rfl, rfl, rfl, (look_bool rfl (by first | rfl | (rw [hb24]; first | done | rfl) | simp [hb24])), trivial⟩
      rintro E w23 ⟨rfl, F23, le23, hS23⟩
      refine N_code ?_
      refine C_cond rfl (fun hc61 => ?_) (fun hc61 => ?_)
      ·
       rw [if_t hc61] at H
       refine C_exit _ rfl ?_
       exact N_join _ ⟨l6, H, ⟨F23, u7, rfl, (le16.trans le23), hS23⟩⟩ ⟨rfl, rfl, rfl, trivial⟩
      ·
       rw [if_f hc61] at H
       refine C_skip ?_
       refine N_code ?_
       refine C_seq ?_
       refine C_region ?_
       refine W_assign rfl rfl ?_
       refine W_nil ?_
       refine N_code ?_
       refine C_seq ?_
       obtain ⟨l62, hl62, H⟩ := bd_some H
       obtain ⟨l64, hl64, H⟩ := bd_some H
       obtain ⟨x66, hx66, H⟩ := bd_some H
       obtain ⟨l69, hl69, H⟩ := bd_some H
       obtain ⟨hp71, hy71⟩ := ix_some hx66
       obtain ⟨cs71, hr71, he71⟩ := (h0.mono ((le5.trans le16).trans le23)).at_ hy71
       obtain rfl := hr71
       replace he71 : Elf _ _ 4 _ _ := he71
       apply C_draw 10 [[], [], [], [1, 2], [0, 3], [], [], [5, 6], [7], [8]] [.val (.slice none 0 0), .val (u7), .val (.int .i64 i17), .pred (fun v wz => Src Loc.t F23 wz v l62) stable_src, .pred (fun v wz => Ob.ok F23 wz (.row Loc.t 37 v l64) ∧ ∀ g, v.ownBlock = some g → w23.heap.size ≤ g) stable_row, .val (v0), .val (.int .i64 i9), .val (elp v0 (i9.toNat * 4)), .val (.agg (Loc.cells x66).toArray), .pred (fun v wz => Src Loc.t F23 wz v [x66]) stable_src] Ty.mixed rfl rfl (by kernel_rfl) (by kernel_rfl) rfl
       ·
        refine ⟨?_, ?_, ?_, ?_, ?_, ?_, ?_, ?_, ?_, ?_, trivial⟩
        ·
         intro w72 vq72 hB72 hH72
         have hS72 := hS23.below hB72
         refine W_move rfl rfl ?_
         refine W_nil ?_
         exact N_step rfl rfl (Below.refl _ _)
        ·
         intro w73 vq73 hB73 hH73
         have hS73 := hS23.below hB73
         refine W_move rfl rfl ?_
         refine W_nil ?_
         exact N_step rfl rfl (Below.refl _ _)
        ·
         intro w74 vq74 hB74 hH74
         have hS74 := hS23.below hB74
         refine W_move rfl rfl ?_
         refine W_nil ?_
         exact N_step rfl rfl (Below.refl _ _)
        ·
         intro w75 vq75 hB75 hH75
         have hS75 := hS23.below hB75
         refine W_cutS 0 i17 rfl Go.Proofs.Try.underlying49 Ty.cells37 Ty.info37 rfl rfl ⟨_, rfl⟩ (hS75.rowSrc (j := 0) rfl) hl62 ?_
         intro q63 hv63
         refine W_nil ?_
         exact N_step rfl hv63 (Below.refl _ _)
        ·
         intro w76 vq76 hB76 hH76
         obtain ⟨_, hp76_3, _⟩ := hH76
         have hS76 := hS23.below hB76
         refine W_app0 (t := Loc.t) rfl Go.Proofs.Try.underlying49 Ty.row37 rfl rfl rfl rfl rfl hS76.agree hp76_3 hl64 ?_
         intro v65 w65 hB65 hO65 hg65
         refine W_nil ?_
         exact N_step rfl ⟨hO65, fun g hg => Nat.le_trans hB76.size (hg65 g hg)⟩ hB65
        ·
         intro w77 vq77 hB77 hH77
         have hS77 := hS23.below hB77
         refine W_move rfl rfl ?_
         refine W_nil ?_
         exact N_step rfl rfl (Below.refl _ _)
        ·
         intro w78 vq78 hB78 hH78
         have hS78 := hS23.below hB78
         refine W_move rfl rfl ?_
         refine W_nil ?_
         exact N_step rfl rfl (Below.refl _ _)
        ·
         intro w79 vq79 hB79 hH79
         have hS79 := hS23.below hB79
         refine W_ix rfl Go.Proofs.Try.underlying49 Ty.cells37 Ty.info37 rfl rfl (he71.el hS79.agree) hp71 rfl ?_
         refine W_nil ?_
         exact N_step rfl rfl (Below.refl _ _)
        ·
         intro w80 vq80 hB80 hH80
         have hS80 := hS23.below hB80
         refine W_ldg 0 ((Loc.cells x66)) rfl Ty.agg37 Ty.size37 rfl (he71.el hS80.agree) (by omega) (fun q u h => sub_at (post := []) rfl h) ?_
         refine W_nil ?_
         exact N_step rfl rfl (Below.refl _ _)
        ·
         intro w81 vq81 hB81 hH81
         have hS81 := hS23.below hB81
         refine W_bs0 (t := Loc.t) [(Loc.cells x66)] [x66] rfl Go.Proofs.Try.underlying49 Ty.cells37 rfl rfl Ty.zero37 rfl rfl ⟨rfl, trivial⟩ rfl rfl hS81.agree ?_
         intro u68 w68 hB68 hs68
         refine W_nil ?_
         exact N_step rfl hs68 hB68
       intro w82 vq82 hB82 hH82
       obtain ⟨_, _, _, hp82_3, hp82_4, _, _, _, _, hp82_9, _⟩ := hH82
       have hS82 := hS23.below hB82
       have hS82 := hS23.freshR hB82 hp82_4.1 hp82_4.2
       refine W_appM 0 rfl Go.Proofs.Try.underlying49 Ty.row37 rfl rfl rfl rfl rfl hS82 rfl hp82_9 hl69 ?_
       intro v70 w70 hS70
       refine W_assign rfl rfl ?_
       refine W_nil ?_
       refine N_code ?_
       obtain ⟨l83, hl83, H⟩ := bd_some H
       obtain ⟨l85, hl85, H⟩ := bd_some H
       refine C_region ?_
       refine W_move rfl rfl ?_
       refine W_move rfl rfl ?_
       refine W_move rfl rfl ?_
       refine W_cutR 1 i17 (l6.length : Int) rfl Go.Proofs.Try.underlying49 Ty.cells37 Ty.info37 rfl ⟨_, rfl⟩ rfl hS70 rfl hl83 ?_
       intro q84 hv84 hw84
       refine W_appM 0 rfl Go.Proofs.Try.underlying49 Ty.row37 rfl rfl rfl rfl rfl hS70 rfl hv84 hl85 ?_
       intro v86 w86 hS86
       refine W_assign rfl rfl ?_
       refine W_nil ?_
       refine N_block ?_
       exact N_join _ ⟨l85, H, ⟨F23, v86, rfl, (le16.trans le23), hS86.pick [0] (by decide)⟩⟩ ⟨rfl, rfl, rfl, trivial⟩
    ·
     rintro E w12 ⟨l13, H, F12, u14, rfl, le12, hS12⟩
     dsimp only [cellarerref20_Sort.k3] at H
     refine C_region ?_
     refine W_move rfl rfl ?_
     refine W_add rfl rfl rfl rfl ?_
     refine W_assign rfl rfl ?_
     refine W_nil ?_
     exact N_againM (l13, wr (i9 + 1)) _ H ⟨F12, u14, rfl, (le5.trans le12), hS12⟩ ⟨rfl, rfl, rfl, trivial⟩
   ·
    rw [if_f hc11] at H
    refine C_exit _ rfl ?_
    exact N_join _ ⟨l6, H, ⟨F5, u7, rfl, le5, hS5⟩⟩ ⟨rfl, trivial⟩
 ·
  rintro E w1 ⟨l2, H, F1, u3, rfl, le1, hS1⟩
  dsimp only [cellarerref20_Sort.k1] at H
  refine C_seq ?_
  refine C_region ?_
  refine W_move rfl rfl ?_
  refine W_assign rfl rfl ?_
  refine W_nil ?_
  refine N_code ?_
  obtain rfl := Option.some.inj H
  refine C_ret rfl rfl ?_
  exact ⟨F1, u3, rfl, hS1⟩

def cellarerkeep_Locs.k1 : Option Bool :=
  some true


def cellarerkeep_Locs.l2 (x0 : List Loc) (x1 : List Loc) (rec5 : Int → Option Bool) : Int → Option Bool
  | i4 =>
    if decide (i4 < (x0.length : Int)) then
      bd (ix x0 i4) fun x7 =>
      bd (ix x1 i4) fun x9 =>
      bd (cellarerkeep_Loc x7 x9) fun r11 =>
      if (!r11) then
        some false
      else
        rec5 (wr (i4 + 1))
    else
      cellarerkeep_Locs.k1

def cellarerkeep_Locs (x0 : List Loc) (x1 : List Loc) : Option Bool :=
  if decide ((x0.length : Int) ≠ (x1.length : Int)) then
    some false
  else
    loop (cellarerkeep_Locs.l2 x0 x1) 0

theorem cellarerkeep_Locs_ok {F : Frz} {w : World} {x0 : List Loc} {x1 : List Loc} {r : Bool} {v0 : Value} {v1 : Value} (hA : Agree F w.heap) (h0 : SlF Loc.t F v0 x0) (h1 : SlF Loc.t F v1 x1) (H : cellarerkeep_Locs x0 x1 = some r) : Ret Try.prog 28 #[v0, v1] w fun v w' => ∃ (F' : Frz), v = .bool r ∧ St [] w F F' [] w' := by
 refine Ret_of (args := [v0, v1]) Go.Proofs.Try.func28 rfl rfl ?_
 change C _ _ _ _ [(0, v0), (1, v1)] _
 have hS := St.entry hA
 dsimp only [cellarerkeep_Locs] at H
 refine C_seq ?_
 refine C_region ?_
 refine W_assign rfl rfl ?_
 refine W_nil ?_
 refine N_code ?_
 refine C_seq ?_
 refine C_seq ?_
 refine C_region ?_
 refine W_move rfl rfl ?_
 refine W_lenv rfl Go.Proofs.Try.underlying49 rfl h0.ln ?_
 refine W_move rfl rfl ?_
 refine W_lenv rfl Go.Proofs.Try.underlying49 rfl h1.ln ?_
 refine W_neq rfl rfl rfl ?_
 refine W_nil ?_
 refine N_code ?_
 refine C_cond rfl (fun hc1 => ?_) (fun hc1 => ?_)
 ·
  rw [if_t hc1] at H
  refine C_seq ?_
  refine C_region ?_
  refine W_assign rfl rfl ?_
  refine W_nil ?_
  refine N_code ?_
  obtain rfl := Option.some.inj H
  refine C_ret rfl rfl ?_
  exact ⟨F, rfl, hS⟩
 ·
  rw [if_f hc1] at H
  refine C_skip ?_
  refine N_code ?_
  refine C_seq_join (fun E wq => cellarerkeep_Locs.k1 = some r ∧ ∃ (F2 : Frz), E = [] ∧ F.le F2 ∧ St [] w F F2 [] wq) ?_ ?_
  ·
   refine C_seq ?_
   refine C_region ?_
   refine W_assign rfl rfl ?_
   refine W_nil ?_
   refine N_code ?_
   refine C_block ?_
   refine C_loopM (fun (s : Int) E wq => ∃ (F3 : Frz), E = [(0, v0), (1, v1), (5, .int .i64 s)] ∧ F.le F3 ∧ St [] w F F3 [] wq) H ?_ ?_
   ·
    exact ⟨_, ⟨F, rfl, (Frz.le.refl _), hS⟩, ⟨rfl, rfl, rfl, trivial⟩⟩
   ·
    rintro rec5 i4 E w3 hI H
    try dsimp only at hI
    obtain ⟨F3, rfl, le3, hS3⟩ := hI
    dsimp only [cellarerkeep_Locs.l2] at H
    refine C_seq ?_
    refine C_seq ?_
    refine C_region ?_
    refine W_move rfl rfl ?_
    refine W_move rfl rfl ?_
    refine W_lenv rfl Go.Proofs.Try.underlying49 rfl h0.ln ?_
    refine W_lss rfl rfl rfl ?_
    refine W_nil ?_
    refine N_code ?_
    refine C_cond rfl (fun hc6 => ?_) (fun hc6 => ?_)
    ·
     rw [if_t hc6] at H
     refine C_skip ?_
     refine N_code ?_
     refine C_seq ?_
     refine C_block ?_
     refine C_seq ?_
     obtain ⟨x7, hx7, H⟩ := bd_some H
     obtain ⟨x9, hx9, H⟩ := bd_some H
     obtain ⟨r11, hr11, H⟩ := bd_some H
     obtain ⟨hp12, hy12⟩ := ix_some hx7
     obtain ⟨cs12, hr12, he12⟩ := (h0.mono le3).at_ hy12
     obtain rfl := hr12
     replace he12 : Elf _ _ 4 _ _ := he12
     obtain ⟨hp13, hy13⟩ := ix_some hx9
     obtain ⟨cs13, hr13, he13⟩ := (h1.mono le3).at_ hy13
     obtain rfl := hr13
     replace he13 : Elf _ _ 4 _ _ := he13
     apply C_draw 9 [[], [], [0, 1], [2], [], [], [4, 5], [6], [3, 7]] [.val (v0), .val (.int .i64 i4), .val (elp v0 (i4.toNat * 4)), .val (.agg (Loc.cells x7).toArray), .val (v1), .val (.int .i64 i4), .val (elp v1 (i4.toNat * 4)), .val (.agg (Loc.cells x9).toArray), .val (.bool r11)] Ty.mixed rfl rfl (by kernel_rfl) (by kernel_rfl) rfl
     ·
      refine ⟨?_, ?_, ?_, ?_, ?_, ?_, ?_, ?_, ?_, trivial⟩
      ·
       intro w14 vq14 hB14 hH14
       have hS14 := hS3.below hB14
       refine W_move rfl rfl ?_
       refine W_nil ?_
       exact N_step rfl rfl (Below.refl _ _)
      ·
       intro w15 vq15 hB15 hH15
       have hS15 := hS3.below hB15
       refine W_move rfl rfl ?_
       refine W_nil ?_
       exact N_step rfl rfl (Below.refl _ _)
      ·
       intro w16 vq16 hB16 hH16
       have hS16 := hS3.below hB16
       refine W_ix rfl Go.Proofs.Try.underlying49 Ty.cells37 Ty.info37 rfl rfl (he12.el hS16.agree) hp12 rfl ?_
       refine W_nil ?_
       exact N_step rfl rfl (Below.refl _ _)
      ·
       intro w17 vq17 hB17 hH17
       have hS17 := hS3.below hB17
       refine W_ldg 0 ((Loc.cells x7)) rfl Ty.agg37 Ty.size37 rfl (he12.el hS17.agree) (by omega) (fun q u h => sub_at (post := []) rfl h) ?_
       refine W_nil ?_
       exact N_step rfl rfl (Below.refl _ _)
      ·
       intro w18 vq18 hB18 hH18
       have hS18 := hS3.below hB18
       refine W_move rfl rfl ?_
       refine W_nil ?_
       exact N_step rfl rfl (Below.refl _ _)
      ·
       intro w19 vq19 hB19 hH19
       have hS19 := hS3.below hB19
       refine W_move rfl rfl ?_
       refine W_nil ?_
       exact N_step rfl rfl (Below.refl _ _)
      ·
       intro w20 vq20 hB20 hH20
       have hS20 := hS3.below hB20
       refine W_ix rfl Go.Proofs.Try.underlying49 Ty.cells37 Ty.info37 rfl rfl (he13.el hS20.agree) hp13 rfl ?_
       refine W_nil ?_
       exact N_step rfl rfl (Below.refl _ _)
      ·
       intro w21 vq21 hB21 hH21
       have hS21 := hS3.below hB21
       refine W_ldg 0 ((Loc.cells x9)) rfl Ty.agg37 Ty.size37 rfl (he13.el hS21.agree) (by omega) (fun q u h => sub_at (post := []) rfl h) ?_
       refine W_nil ?_
       exact N_step rfl rfl (Below.refl _ _)
      ·
       intro w22 vq22 hB22 hH22
       have hS22 := hS3.below hB22
       refine W_call rfl Ty.named24 rfl (cellarerkeep_Loc_ok hS22.agree hr11) ?_
       rintro v23 w23 ⟨Fr11, rfl, hT23⟩
       have hS23 := hS22.lent hT23
       refine W_nil ?_
       exact N_step rfl rfl hT23.below0
     intro w24 vq24 hB24 hH24
     have hS24 := hS3.below hB24
     refine W_not rfl rfl ?_
     refine W_nil ?_
     refine N_code ?_
     refine C_cond rfl (fun hc25 => ?_) (fun hc25 => ?_)
     ·
      rw [if_t hc25] at H
      refine C_seq ?_
      refine C_region ?_
      refine W_assign rfl rfl ?_
      refine W_nil ?_
      refine N_code ?_
      obtain rfl := Option.some.inj H
      refine C_ret rfl rfl ?_
      exact ⟨F3, rfl, hS24⟩
     ·
      rw [if_f hc25] at H
      refine C_skip ?_
      refine N_block ?_
      refine N_code ?_
      refine C_region ?_
      refine W_move rfl rfl ?_
      refine W_add rfl rfl rfl rfl ?_
      refine W_assign rfl rfl ?_
      refine W_nil ?_
      exact N_againM (wr (i4 + 1)) _ H ⟨F3, rfl, le3, hS24⟩ ⟨rfl, rfl, rfl, trivial⟩
    ·
     rw [if_f hc6] at H
     refine C_exit _ rfl ?_
     exact N_join _ ⟨H, ⟨F3, rfl, le3, hS3⟩⟩ trivial
  ·
   rintro E w2 ⟨H, F2, rfl, le2, hS2⟩
   dsimp only [cellarerkeep_Locs.k1] at H
   refine C_seq ?_
   refine C_region ?_
   refine W_assign rfl rfl ?_
   refine W_nil ?_
   refine N_code ?_
   obtain rfl := Option.some.inj H
   refine C_ret rfl rfl ?_
   exact ⟨F2, rfl, hS2⟩

def cellarerkeep_SpoilLocs.l1 (rec4 : (Int × (List Loc)) → Option (List Loc)) : (Int × (List Loc)) → Option (List Loc)
  | (i2, l3) =>
    if decide (i2 < (l3.length : Int)) then
      bd (ix l3 i2) fun x6 =>
      bd (ix (l3.set i2.toNat (Loc.mk (-9) x6.file x6.off x6.len)) i2) fun x8 =>
      rec4 (wr (i2 + 1), ((l3.set i2.toNat (Loc.mk (-9) x6.file x6.off x6.len)).set i2.toNat (Loc.mk x8.vol x8.file (-9) x8.len)))
    else
      some l3

def cellarerkeep_SpoilLocs (x0 : List Loc) : Option (List Loc) :=
  loop (cellarerkeep_SpoilLocs.l1) (0, x0)

theorem cellarerkeep_SpoilLocs_ok {F : Frz} {w : World} {x0 : List Loc} {r : (List Loc)} {v0 : Value} (hS : St v0.ownBlock.toList w F F [.row Loc.t 37 v0 x0] w) (H : cellarerkeep_SpoilLocs x0 = some r) : Ret Try.prog 36 #[v0] w fun v w' => ∃ (F' : Frz), v = .tuple #[] ∧ St v0.ownBlock.toList w F F' [.row Loc.t 37 v0 (r)] w' := by
 refine Ret_of (args := [v0]) Go.Proofs.Try.func36 rfl rfl ?_
 change C _ _ _ _ [(0, v0)] _
 dsimp only [cellarerkeep_SpoilLocs] at H
 refine C_seq ?_
 refine C_region ?_
 refine W_assign rfl rfl ?_
 refine W_nil ?_
 refine N_code ?_
 refine C_block ?_
 refine C_loopM (fun (s : Int × (List Loc)) E wq => ∃ (F1 : Frz), E = [(0, v0), (2, .int .i64 s.1)] ∧ F.le F1 ∧ St v0.ownBlock.toList w F F1 [.row Loc.t 37 v0 s.2] wq) H ?_ ?_
 ·
  exact ⟨_, ⟨F, rfl, (Frz.le.refl _), hS⟩, ⟨rfl, rfl, trivial⟩⟩
 ·
  rintro rec4 ⟨i2, l3⟩ E w1 hI H
  try dsimp only at hI
  obtain ⟨F1, rfl, le1, hS1⟩ := hI
  dsimp only [cellarerkeep_SpoilLocs.l1] at H
  refine C_seq ?_
  refine C_seq ?_
  refine C_region ?_
  refine W_move rfl rfl ?_
  refine W_move rfl rfl ?_
  refine W_lenv rfl Go.Proofs.Try.underlying49 rfl (hS1.rowLn (k := 0) rfl) ?_
  refine W_lss rfl rfl rfl ?_
  refine W_nil ?_
  refine N_code ?_
  refine C_cond rfl (fun hc5 => ?_) (fun hc5 => ?_)
  ·
   rw [if_t hc5] at H
   refine C_skip ?_
   refine N_code ?_
   refine C_seq ?_
   refine C_block ?_
   obtain ⟨x6, hx6, H⟩ := bd_some H
   obtain ⟨x8, hx8, H⟩ := bd_some H
   refine C_region ?_
   refine W_move rfl rfl ?_
   refine W_move rfl rfl ?_
   refine W_move rfl rfl ?_
   refine W_move rfl rfl ?_
   obtain ⟨hp10, hy10⟩ := ix_some hx6
   obtain ⟨cs10, hr10, he10⟩ := hS1.rowAt (k := 0) rfl hy10
   obtain rfl := hr10
   replace he10 : El _ _ 4 _ _ := he10
   refine W_ix rfl Go.Proofs.Try.underlying49 Ty.cells37 Ty.info37 rfl rfl he10 hp10 rfl ?_
   refine W_fld 0 rfl Ty.field37_0 rfl he10 ?_
   refine W_put (c := [.int .i64 (-9)]) 0 (i2.toNat) 0 x6 (Loc.mk (-9) x6.file x6.off x6.len) rfl rfl hS1 rfl (ix_some hx6).2 (by first | rfl | (show _ = _ * 4 + _; omega)) rfl Ty.size3 (by intro y hy; simp at hy; subst hy; rfl) (by first | decide | exact Nat.le_of_ble_eq_true rfl) (by rintro cs rfl; rfl) ?_
   intro w11 hS11
   obtain ⟨hp13, hy13⟩ := ix_some hx8
   obtain ⟨cs13, hr13, he13⟩ := hS11.rowAt (k := 0) rfl hy13
   obtain rfl := hr13
   replace he13 : El _ _ 4 _ _ := he13
   refine W_ix rfl Go.Proofs.Try.underlying49 Ty.cells37 Ty.info37 rfl rfl he13 hp13 rfl ?_
   refine W_fld 2 rfl Ty.field37_2 rfl he13 ?_
   refine W_put (c := [.int .i64 (-9)]) 0 (i2.toNat) 2 x8 (Loc.mk x8.vol x8.file (-9) x8.len) rfl rfl hS11 rfl (ix_some hx8).2 (by first | rfl | (show _ = _ * 4 + _; omega)) rfl Ty.size3 (by intro y hy; simp at hy; subst hy; rfl) (by first | decide | exact Nat.le_of_ble_eq_true rfl) (by rintro cs rfl; rfl) ?_
   intro w14 hS14
   refine W_nil ?_
   refine N_block ?_
   refine N_code ?_
   refine C_region ?_
   refine W_move rfl rfl ?_
   refine W_add rfl rfl rfl rfl ?_
   refine W_assign rfl rfl ?_
   refine W_nil ?_
   exact N_againM (wr (i2 + 1), ((l3.set i2.toNat (Loc.mk (-9) x6.file x6.off x6.len)).set i2.toNat (Loc.mk x8.vol x8.file (-9) x8.len))) _ H ⟨F1, rfl, le1, hS14⟩ ⟨rfl, rfl, trivial⟩
  ·
   rw [if_f hc5] at H
   refine C_exit _ rfl ?_
   obtain rfl := Option.some.inj H
   refine N_done rfl rfl ?_
   exact ⟨F1, rfl, hS1⟩

def cellarerref20_Order.k1 (l2 : List Read) (l5 : List Int) : Option ((List Read) × (List Int)) :=
  some (l2, l5)


def cellarerref20_Order.k3 (i15 : Int) (rec16 : ((List Read) × (List Int) × Int) → Option ((List Read) × (List Int))) (l19 : List Read) (l22 : List Int) : Option ((List Read) × (List Int)) :=
  rec16 (l19, l22, wr (i15 + 1))


def cellarerref20_Order.k5 (l9 : List Read) (l12 : List Int) (i15 : Int) (rec16 : ((List Read) × (List Int) × Int) → Option ((List Read) × (List Int))) (i41 : Int) (i42 : Int) (i43 : Int) (i44 : Int) (i46 : Int) : Option ((List Read) × (List Int)) :=
  bd (cut (α := Read) l9 0 i46) fun l47 =>
  bd (app (α := Read) [] l47) fun l49 =>
  bd (app (α := Read) l49 [(Read.mk i15 (Loc.mk i41 i42 i43 i44))]) fun l52 =>
  bd (cut (α := Read) l9 i46 (l9.length : Int)) fun l64 =>
  bd (app (α := Read) l52 l64) fun l66 =>
  cellarerref20_Order.k3 i15 rec16 l66 l12


def cellarerref20_Order.l6 (l9 : List Read) (l12 : List Int) (i15 : Int) (rec16 : ((List Read) × (List Int) × Int) → Option ((List Read) × (List Int))) (i41 : Int) (i42 : Int) (i43 : Int) (i44 : Int) (rec70 : Int → Option ((List Read) × (List Int))) : Int → Option ((List Read) × (List Int))
  | i69 =>
    bd (only (decide (0 < i69)) (ix l9 (wr (i69 - 1))) (Read.mk 0 (Loc.mk 0 0 0 0))) fun x71 =>
    bd (only (decide (0 < i69)) (cellarerref18_Ahead (Loc.mk i41 i42 i43 i44) x71.loc) false) fun r73 =>
    if (decide (0 < i69) && r73) then
      rec70 (wr (i69 - 1))
    else
      cellarerref20_Order.k5 l9 l12 i15 rec16 i41 i42 i43 i44 i69


def cellarerref20_Order.k4 (l9 : List Read) (l12 : List Int) (i15 : Int) (rec16 : ((List Read) × (List Int) × Int) → Option ((List Read) × (List Int))) (i41 : Int) (i42 : Int) (i43 : Int) (i44 : Int) : Option ((List Read) × (List Int)) :=
  loop (cellarerref20_Order.l6 l9 l12 i15 rec16 i41 i42 i43 i44) (l9.length : Int)


def cellarerref20_Order.k8 (i106 : Int) (rec111 : (Int × Int × Int × Int × Int) → Option ((List Read) × (List Int))) (i117 : Int) (i118 : Int) (i119 : Int) (i120 : Int) : Option ((List Read) × (List Int)) :=
  rec111 (wr (i106 + 1), i117, i118, i119, i120)


def cellarerref20_Order.l7 (x0 : List Want) (l9 : List Read) (l12 : List Int) (i15 : Int) (rec16 : ((List Read) × (List Int) × Int) → Option ((List Read) × (List Int))) (rec111 : (Int × Int × Int × Int × Int) → Option ((List Read) × (List Int))) : (Int × Int × Int × Int × Int) → Option ((List Read) × (List Int))
  | (i106, i107, i108, i109, i110) =>
    bd (ix x0 i15) fun x112 =>
    if decide (i106 < (x112.locs.length : Int)) then
      bd (ix x0 i15) fun x121 =>
      bd (ix x121.locs i106) fun x123 =>
      bd (cellarerref18_Ahead x123 (Loc.mk i107 i108 i109 i110)) fun r125 =>
      if r125 then
        bd (ix x0 i15) fun x140 =>
        bd (ix x140.locs i106) fun x142 =>
        cellarerref20_Order.k8 i106 rec111 x142.vol x142.file x142.off x142.len
      else
        cellarerref20_Order.k8 i106 rec111 i107 i108 i109 i110
    else
      cellarerref20_Order.k4 l9 l12 i15 rec16 i107 i108 i109 i110


def cellarerref20_Order.l2 (x0 : List Want) (rec16 : ((List Read) × (List Int) × Int) → Option ((List Read) × (List Int))) : ((List Read) × (List Int) × Int) → Option ((List Read) × (List Int))
  | (l9, l12, i15) =>
    if decide (i15 < (x0.length : Int)) then
      bd (ix x0 i15) fun x25 =>
      if decide ((x25.locs.length : Int) = 0) then
        bd (app (α := Int) l12 [i15]) fun l30 =>
        cellarerref20_Order.k3 i15 rec16 l9 l30
      else
        bd (ix x0 i15) fun x32 =>
        bd (ix x32.locs 0) fun x34 =>
        loop (cellarerref20_Order.l7 x0 l9 l12 i15 rec16) (1, x34.vol, x34.file, x34.off, x34.len)
    else
      cellarerref20_Order.k1 l9 l12

def cellarerref20_Order (x0 : List Want) : Option ((List Read) × (List Int)) :=
  loop (cellarerref20_Order.l2 x0) ([], [], 0)

theorem cellarerref20_Order_ok {F : Frz} {w : World} {x0 : List Want} {r : (List Read) × (List Int)} {v0 : Value} (hA : Agree F w.heap) (h0 : SlF Want.t F v0 x0) (H : cellarerref20_Order x0 = some r) : Ret Try.prog 37 #[v0] w fun v w' => ∃ (F' : Frz) (q0 : Value) (q1 : Value), v = .tuple #[q0, q1] ∧ St [] w F F' [.row Read.t 39 q0 (r.1), .row tI 3 q1 (r.2)] w' := by
 refine Ret_of (args := [v0]) Go.Proofs.Try.func37 rfl rfl ?_
 change C _ _ _ _ [(0, v0)] _
 have hS := St.entry hA
 dsimp only [cellarerref20_Order] at H
 refine C_seq ?_
 refine C_region ?_
 refine W_assign rfl rfl ?_
 refine W_assign rfl rfl ?_
 refine W_nil ?_
 refine N_code ?_
 refine C_seq ?_
 refine C_region ?_
 refine W_assign rfl rfl ?_
 refine W_nil ?_
 refine N_code ?_
 refine C_seq ?_
 refine C_region ?_
 refine W_assign rfl rfl ?_
 refine W_nil ?_
 refine N_code ?_
 refine C_seq_join (fun E wq => ∃ l2 : List Read, ∃ l5 : List Int, cellarerref20_Order.k1 l2 l5 = some r ∧ ∃ (F1 : Frz) (u3 : Value) (u6 : Value), E = [(4, u3), (5, u6)] ∧ F.le F1 ∧ St [] w F F1 [.row Read.t 39 u3 l2, .row tI 3 u6 l5] wq) ?_ ?_
 ·
  refine C_seq ?_
  refine C_region ?_
  refine W_assign rfl rfl ?_
  refine W_nil ?_
  refine N_code ?_
  refine C_block ?_
  refine C_loopM (fun (s : (List Read) × (List Int) × Int) E wq => ∃ (F8 : Frz) (u10 : Value) (u13 : Value), E = [(0, v0), (4, u10), (5, u13), (6, .int .i64 s.2.2)] ∧ F.le F8 ∧ St [] w F F8 [.row Read.t 39 u10 s.1, .row tI 3 u13 s.2.1] wq) H ?_ ?_
  ·
   have hS148 := hS.nilRow Read.t 39
   have hS150 := hS148.nilRow tI 3
   exact ⟨_, ⟨F, (.slice none 0 0), (.slice none 0 0), rfl, (Frz.le.refl _), hS150.pick [1, 0] (by decide)⟩, ⟨rfl, rfl, rfl, rfl, trivial⟩⟩
  ·
   rintro rec16 ⟨l9, l12, i15⟩ E w8 hI H
   try dsimp only at hI
   obtain ⟨F8, u10, u13, rfl, le8, hS8⟩ := hI
   dsimp only [cellarerref20_Order.l2] at H
   refine C_seq ?_
   refine C_seq ?_
   refine C_region ?_
   refine W_move rfl rfl ?_
   refine W_move rfl rfl ?_
   refine W_lenv rfl Go.Proofs.Try.underlying47 rfl h0.ln ?_
   refine W_lss rfl rfl rfl ?_
   refine W_nil ?_
   refine N_code ?_
   refine C_cond rfl (fun hc17 => ?_) (fun hc17 => ?_)
   ·
    rw [if_t hc17] at H
    refine C_skip ?_
    refine N_code ?_
    refine C_seq_join (fun E wq => ∃ l19 : List Read, ∃ l22 : List Int, cellarerref20_Order.k3 i15 rec16 l19 l22 = some r ∧ ∃ (F18 : Frz) (u20 : Value) (u23 : Value), E = [(0, v0), (4, u20), (5, u23), (6, .int .i64 i15)] ∧ F8.le F18 ∧ St [] w F F18 [.row Read.t 39 u20 l19, .row tI 3 u23 l22] wq) ?_ ?_
    ·
     refine C_block ?_
     refine C_seq ?_
     refine C_seq ?_
     obtain ⟨x25, hx25, H⟩ := bd_some H
     refine C_region ?_
     refine W_move rfl rfl ?_
     refine W_move rfl rfl ?_
     obtain ⟨hp27, hy27⟩ := ix_some hx25
     obtain ⟨cs27, hr27, he27⟩ := (h0.mono le8).at_ hy27
     obtain ⟨ue26_0, rfl, hle26_0, hue26_0⟩ := hr27
     replace he27 : Elf _ _ 33 _ _ := he27
     refine W_ix rfl Go.Proofs.Try.underlying47 Ty.cells52 Ty.info52 rfl rfl (he27.el hS8.agree) hp27 rfl ?_
     refine W_fld 32 rfl Ty.field52_1 rfl (he27.el hS8.agree) ?_
     refine W_ld1 32 rfl Ty.cell49 rfl (he27.el hS8.agree) (by omega) rfl ?_
     refine W_lenv rfl Go.Proofs.Try.underlying49 rfl hue26_0.ln ?_
     refine W_eql rfl rfl rfl ?_
     refine W_nil ?_
     refine N_code ?_
     refine C_cond rfl (fun hc28 => ?_) (fun hc28 => ?_)
     ·
      rw [if_t hc28] at H
      refine C_seq ?_
      obtain ⟨l30, hl30, H⟩ := bd_some H
      refine C_region ?_
      refine W_move rfl rfl ?_
      refine W_move rfl rfl ?_
      refine W_bs (t := tI) [[.int .i64 i15]] [i15] rfl Go.Proofs.Try.underlying22 Ty.cells3 rfl rfl Ty.zero3 rfl rfl ⟨rfl, trivial⟩ rfl rfl hS8 ?_
      intro u29 w29 hS29
      refine W_appM 2 rfl Go.Proofs.Try.underlying22 Ty.row3 rfl rfl rfl rfl rfl hS29 rfl (hS29.rowSrc (j := 0) rfl) hl30 ?_
      intro v31 w31 hS31
      refine W_assign rfl rfl ?_
      refine W_nil ?_
      refine N_code ?_
      refine C_exit _ rfl ?_
      exact N_join _ ⟨l9, l30, H, ⟨F8, u10, v31, rfl, (Frz.le.refl _), hS31.pick [1, 2] (by decide)⟩⟩ ⟨rfl, rfl, rfl, rfl, trivial⟩
     ·
      rw [if_f hc28] at H
      refine C_skip ?_
      refine N_code ?_
      refine C_seq ?_
      obtain ⟨x32, hx32, H⟩ := bd_some H
      obtain ⟨x34, hx34, H⟩ := bd_some H
      refine C_region ?_
      refine W_move rfl rfl ?_
      refine W_move rfl rfl ?_
      obtain ⟨hp37, hy37⟩ := ix_some hx32
      obtain ⟨cs37, hr37, he37⟩ := (h0.mono le8).at_ hy37
      obtain ⟨ue33_0, rfl, hle33_0, hue33_0⟩ := hr37
      replace he37 : Elf _ _ 33 _ _ := he37
      refine W_ix rfl Go.Proofs.Try.underlying47 Ty.cells52 Ty.info52 rfl rfl (he37.el hS8.agree) hp37 rfl ?_
      refine W_fld 32 rfl Ty.field52_1 rfl (he37.el hS8.agree) ?_
      refine W_ld1 32 rfl Ty.cell49 rfl (he37.el hS8.agree) (by omega) rfl ?_
      obtain ⟨hp38, hy38⟩ := ix_some hx34
      obtain ⟨cs38, hr38, he38⟩ := hue33_0.at_ hy38
      obtain rfl := hr38
      replace he38 : Elf _ _ 4 _ _ := he38
      refine W_ix rfl Go.Proofs.Try.underlying49 Ty.cells37 Ty.info37 rfl rfl (he38.el hS8.agree) hp38 rfl ?_
      refine W_ldg 0 ((Loc.cells x34)) rfl Ty.agg37 Ty.size37 rfl (he38.el hS8.agree) (by omega) (fun q u h => sub_at (post := []) rfl h) ?_
      refine W_alc (cs := [.int .i64 0, .int .i64 0, .int .i64 0, .int .i64 0]) rfl Ty.zero37 rfl hS8 ?_
      intro g36 w36 hS36
      refine W_bst (c := [.int .i64 x34.vol, .int .i64 x34.file, .int .i64 x34.off, .int .i64 x34.len]) 0 ([.int .i64 x34.vol, .int .i64 x34.file, .int .i64 x34.off, .int .i64 x34.len]) rfl rfl hS36 rfl rfl Ty.size37 (fun y hy => Loc.t.one (F := F8) (x := x34) rfl y hy) (Nat.le_of_ble_eq_true rfl) rfl ?_
      intro w39 hS39
      refine W_nil ?_
      refine N_code ?_
      refine C_seq_join (fun E wq => ∃ i41 : Int, ∃ i42 : Int, ∃ i43 : Int, ∃ i44 : Int, cellarerref20_Order.k4 l9 l12 i15 rec16 i41 i42 i43 i44 = some r ∧ ∃ (F40 : Frz), E = [(0, v0), (4, u10), (5, u13), (6, .int .i64 i15), (7, pl g36 0)] ∧ F8.le F40 ∧ St [] w F F40 [.box g36 37 [.int .i64 i41, .int .i64 i42, .int .i64 i43, .int .i64 i44], .row Read.t 39 u10 l9, .row tI 3 u13 l12] wq) ?_ ?_
      ·
       refine C_seq ?_
       refine C_region ?_
       refine W_assign rfl rfl ?_
       refine W_nil ?_
       refine N_code ?_
       refine C_block ?_
       refine C_loopM (fun (s : Int × Int × Int × Int × Int) E wq => ∃ (F105 : Frz), E = [(0, v0), (4, u10), (5, u13), (6, .int .i64 i15), (7, pl g36 0), (8, .int .i64 s.1)] ∧ F8.le F105 ∧ St [] w F F105 [.box g36 37 [.int .i64 s.2.1, .int .i64 s.2.2.1, .int .i64 s.2.2.2.1, .int .i64 s.2.2.2.2], .row Read.t 39 u10 l9, .row tI 3 u13 l12] wq) H ?_ ?_
       ·
        exact ⟨_, ⟨F8, rfl, (Frz.le.refl _), hS39⟩, ⟨rfl, rfl, rfl, rfl, rfl, rfl, trivial⟩⟩
       ·
        rintro rec111 ⟨i106, i107, i108, i109, i110⟩ E w105 hI H
        try dsimp only at hI
        obtain ⟨F105, rfl, le105, hS105⟩ := hI
        dsimp only [cellarerref20_Order.l7] at H
        refine C_seq ?_
        refine C_seq ?_
        obtain ⟨x112, hx112, H⟩ := bd_some H
        refine C_region ?_
        refine W_move rfl rfl ?_
        refine W_move rfl rfl ?_
        refine W_move rfl rfl ?_
        obtain ⟨hp114, hy114⟩ := ix_some hx112
        obtain ⟨cs114, hr114, he114⟩ := (h0.mono (le8.trans le105)).at_ hy114
        obtain ⟨ue113_0, rfl, hle113_0, hue113_0⟩ := hr114
        replace he114 : Elf _ _ 33 _ _ := he114
        refine W_ix rfl Go.Proofs.Try.underlying47 Ty.cells52 Ty.info52 rfl rfl (he114.el hS105.agree) hp114 rfl ?_
        refine W_fld 32 rfl Ty.field52_1 rfl (he114.el hS105.agree) ?_
        refine W_ld1 32 rfl Ty.cell49 rfl (he114.el hS105.agree) (by omega) rfl ?_
        refine W_lenv rfl Go.Proofs.Try.underlying49 rfl hue113_0.ln ?_
        refine W_lss rfl rfl rfl ?_
        refine W_nil ?_
        refine N_code ?_
        refine C_cond rfl (fun hc115 => ?_) (fun hc115 => ?_)
        ·
         rw [if_t hc115] at H
         refine C_skip ?_
         refine N_code ?_
         refine C_seq_join (fun E wq => ∃ i117 : Int, ∃ i118 : Int, ∃ i119 : Int, ∃ i120 : Int, cellarerref20_Order.k8 i106 rec111 i117 i118 i119 i120 = some r ∧ ∃ (F116 : Frz), E = [(0, v0), (4, u10), (5, u13), (6, .int .i64 i15), (7, pl g36 0), (8, .int .i64 i106)] ∧ F105.le F116 ∧ St [] w F F116 [.box g36 37 [.int .i64 i117, .int .i64 i118, .int .i64 i119, .int .i64 i120], .row Read.t 39 u10 l9, .row tI 3 u13 l12] wq) ?_ ?_
         ·
          refine C_block ?_
          refine C_seq ?_
          obtain ⟨x121, hx121, H⟩ := bd_some H
          obtain ⟨x123, hx123, H⟩ := bd_some H
          obtain ⟨r125, hr125, H⟩ := bd_some H
          obtain ⟨hp126, hy126⟩ := ix_some hx121
          obtain ⟨cs126, hr126, he126⟩ := (h0.mono (le8.trans le105)).at_ hy126
          obtain ⟨ue122_0, rfl, hle122_0, hue122_0⟩ := hr126
          replace he126 : Elf _ _ 33 _ _ := he126
          obtain ⟨hp127, hy127⟩ := ix_some hx123
          obtain ⟨cs127, hr127, he127⟩ := hue122_0.at_ hy127
          obtain rfl := hr127
          replace he127 : Elf _ _ 4 _ _ := he127
          apply C_draw 9 [[], [], [0, 1], [2], [3], [], [4, 5], [6], []] [.val (v0), .val (.int .i64 i15), .val (elp v0 (i15.toNat * 33)), .val (elp v0 ((i15.toNat * 33) + 32)), .val (ue122_0), .val (.int .i64 i106), .val (elp ue122_0 (i106.toNat * 4)), .val (.agg (Loc.cells x123).toArray), .val (.agg (Loc.cells (Loc.mk i107 i108 i109 i110)).toArray)] Ty.mixed rfl rfl (by kernel_rfl) (by kernel_rfl) rfl
          ·
           refine ⟨?_, ?_, ?_, ?_, ?_, ?_, ?_, ?_, ?_, trivial⟩
           ·
            intro w128 vq128 hB128 hH128
            have hS128 := hS105.below hB128
            refine W_move rfl rfl ?_
            refine W_nil ?_
            exact N_step rfl rfl (Below.refl _ _)
           ·
            intro w129 vq129 hB129 hH129
            have hS129 := hS105.below hB129
            refine W_move rfl rfl ?_
            refine W_nil ?_
            exact N_step rfl rfl (Below.refl _ _)
           ·
            intro w130 vq130 hB130 hH130
            have hS130 := hS105.below hB130
            refine W_ix rfl Go.Proofs.Try.underlying47 Ty.cells52 Ty.info52 rfl rfl (he126.el hS130.agree) hp126 rfl ?_
            refine W_nil ?_
            exact N_step rfl rfl (Below.refl _ _)
           ·
            intro w131 vq131 hB131 hH131
            have hS131 := hS105.below hB131
            refine W_fld 32 rfl Ty.field52_1 rfl (he126.el hS131.agree) ?_
            refine W_nil ?_
            exact N_step rfl rfl (Below.refl _ _)
           ·
            intro w132 vq132 hB132 hH132
            have hS132 := hS105.below hB132
            refine W_ld1 32 rfl Ty.cell49 rfl (he126.el hS132.agree) (by omega) rfl ?_
            refine W_nil ?_
            exact N_step rfl rfl (Below.refl _ _)
           ·
            intro w133 vq133 hB133 hH133
            have hS133 := hS105.below hB133
            refine W_move rfl rfl ?_
            refine W_nil ?_
            exact N_step rfl rfl (Below.refl _ _)
           ·
            intro w134 vq134 hB134 hH134
            have hS134 := hS105.below hB134
            refine W_ix rfl Go.Proofs.Try.underlying49 Ty.cells37 Ty.info37 rfl rfl (he127.el hS134.agree) hp127 rfl ?_
            refine W_nil ?_
            exact N_step rfl rfl (Below.refl _ _)
           ·
            intro w135 vq135 hB135 hH135
            have hS135 := hS105.below hB135
            refine W_ldg 0 ((Loc.cells x123)) rfl Ty.agg37 Ty.size37 rfl (he127.el hS135.agree) (by omega) (fun q u h => sub_at (post := []) rfl h) ?_
            refine W_nil ?_
            exact N_step rfl rfl (Below.refl _ _)
           ·
            intro w136 vq136 hB136 hH136
            have hS136 := hS105.below hB136
            refine W_bldg 0 ((Loc.cells (Loc.mk i107 i108 i109 i110))) rfl Ty.agg37 Ty.size37 rfl hS136 rfl (fun q u h => sub_at (post := []) rfl h) ?_
            refine W_nil ?_
            exact N_step rfl rfl (Below.refl _ _)
          intro w137 vq137 hB137 hH137
          have hS137 := hS105.below hB137
          refine W_call rfl Ty.named34 rfl (cellarerref18_Ahead_ok hS137.agree hr125) ?_
          rintro v138 w138 ⟨Fr125, rfl, hT138⟩
          have hS138 := hS137.lent hT138
          refine W_nil ?_
          refine N_code ?_
          refine C_cond rfl (fun hc139 => ?_) (fun hc139 => ?_)
          ·
           rw [if_t hc139] at H
           obtain ⟨x140, hx140, H⟩ := bd_some H
           obtain ⟨x142, hx142, H⟩ := bd_some H
           refine C_region ?_
           refine W_move rfl rfl ?_
           refine W_move rfl rfl ?_
           obtain ⟨hp144, hy144⟩ := ix_some hx140
           obtain ⟨cs144, hr144, he144⟩ := (h0.mono (le8.trans le105)).at_ hy144
           obtain ⟨ue141_0, rfl, hle141_0, hue141_0⟩ := hr144
           replace he144 : Elf _ _ 33 _ _ := he144
           refine W_ix rfl Go.Proofs.Try.underlying47 Ty.cells52 Ty.info52 rfl rfl (he144.el hS138.agree) hp144 rfl ?_
           refine W_fld 32 rfl Ty.field52_1 rfl (he144.el hS138.agree) ?_
           refine W_ld1 32 rfl Ty.cell49 rfl (he144.el hS138.agree) (by omega) rfl ?_
           refine W_move rfl rfl ?_
           obtain ⟨hp145, hy145⟩ := ix_some hx142
           obtain ⟨cs145, hr145, he145⟩ := hue141_0.at_ hy145
           obtain rfl := hr145
           replace he145 : Elf _ _ 4 _ _ := he145
           refine W_ix rfl Go.Proofs.Try.underlying49 Ty.cells37 Ty.info37 rfl rfl (he145.el hS138.agree) hp145 rfl ?_
           refine W_ldg 0 ((Loc.cells x142)) rfl Ty.agg37 Ty.size37 rfl (he145.el hS138.agree) (by omega) (fun q u h => sub_at (post := []) rfl h) ?_
           refine W_bst (c := [.int .i64 x142.vol, .int .i64 x142.file, .int .i64 x142.off, .int .i64 x142.len]) 0 ([.int .i64 x142.vol, .int .i64 x142.file, .int .i64 x142.off, .int .i64 x142.len]) rfl rfl hS138 rfl rfl Ty.size37 (fun y hy => Loc.t.one (F := F105) (x := x142) rfl y hy) (Nat.le_of_ble_eq_true rfl) rfl ?_
           intro w146 hS146
           refine W_nil ?_
           refine N_block ?_
           exact N_join _ ⟨x142.vol, x142.file, x142.off, x142.len, H, ⟨F105, rfl, (Frz.le.refl _), hS146⟩⟩ ⟨rfl, rfl, rfl, rfl, rfl, rfl, trivial⟩
          ·
           rw [if_f hc139] at H
           refine C_skip ?_
           refine N_block ?_
           exact N_join _ ⟨i107, i108, i109, i110, H, ⟨F105, rfl, (Frz.le.refl _), hS138⟩⟩ ⟨rfl, rfl, rfl, rfl, rfl, rfl, trivial⟩
         ·
          rintro E w116 ⟨i117, i118, i119, i120, H, F116, rfl, le116, hS116⟩
          dsimp only [cellarerref20_Order.k8] at H
          refine C_region ?_
          refine W_move rfl rfl ?_
          refine W_add rfl rfl rfl rfl ?_
          refine W_assign rfl rfl ?_
          refine W_nil ?_
          exact N_againM (wr (i106 + 1), i117, i118, i119, i120) _ H ⟨F116, rfl, (le105.trans le116), hS116⟩ ⟨rfl, rfl, rfl, rfl, rfl, rfl, trivial⟩
        ·
         rw [if_f hc115] at H
         refine C_exit _ rfl ?_
         exact N_join _ ⟨i107, i108, i109, i110, H, ⟨F105, rfl, le105, hS105⟩⟩ ⟨rfl, rfl, rfl, rfl, rfl, trivial⟩
      ·
       rintro E w40 ⟨i41, i42, i43, i44, H, F40, rfl, le40, hS40⟩
       dsimp only [cellarerref20_Order.k4] at H
       refine C_seq ?_
       refine C_region ?_
       refine W_move rfl rfl ?_
       refine W_lenv rfl Go.Proofs.Try.underlying23 rfl (hS40.rowLn (k := 1) rfl) ?_
       refine W_assign rfl rfl ?_
       refine W_nil ?_
       refine N_code ?_
       refine C_seq_join (fun E wq => ∃ i46 : Int, cellarerref20_Order.k5 l9 l12 i15 rec16 i41 i42 i43 i44 i46 = some r ∧ ∃ (F45 : Frz), E = [(0, v0), (4, u10), (5, u13), (6, .int .i64 i15), (7, pl g36 0), (9, .int .i64 i46)] ∧ F40.le F45 ∧ St [] w F F45 [.box g36 37 [.int .i64 i41, .int .i64 i42, .int .i64 i43, .int .i64 i44], .row Read.t 39 u10 l9, .row tI 3 u13 l12] wq) ?_ ?_
       ·
        refine C_block ?_
        refine C_loopM (fun (s : Int) E wq => ∃ (F68 : Frz), E = [(0, v0), (4, u10), (5, u13), (6, .int .i64 i15), (7, pl g36 0), (9, .int .i64 s)] ∧ F40.le F68 ∧ St [] w F F68 [.box g36 37 [.int .i64 i41, .int .i64 i42, .int .i64 i43, .int .i64 i44], .row Read.t 39 u10 l9, .row tI 3 u13 l12] wq) H ?_ ?_
        ·
         exact ⟨_, ⟨F40, rfl, (Frz.le.refl _), hS40⟩, ⟨rfl, rfl, rfl, rfl, rfl, rfl, trivial⟩⟩
        ·
         rintro rec70 i69 E w68 hI H
         try dsimp only at hI
         obtain ⟨F68, rfl, le68, hS68⟩ := hI
         dsimp only [cellarerref20_Order.l6] at H
         refine C_seq ?_
         refine C_seq ?_
         obtain ⟨x71, hx71, H⟩ := bd_some H
         obtain ⟨r73, hr73, H⟩ := bd_some H
         refine C_join (fun E wq => E = [(0, v0), (4, u10), (5, u13), (6, .int .i64 i15), (7, pl g36 0), (9, .int .i64 i69), (76, .bool (decide (0 < i69) && r73))] ∧ ∃ F74 : Frz, F68.le F74 ∧ St [] w F F74 [.box g36 37 [.int .i64 i41, .int .i64 i42, .int .i64 i43, .int .i64 i44], .row Read.t 39 u10 l9, .row tI 3 u13 l12] wq) ?_ ?_
         ·
          rcases Bool.eq_false_or_eq_true (decide (0 < i69)) with hb75 | hb75
          ·
           have hy76 := hx71
           rw [only_t hb75] at hy76
           obtain ⟨hp77, hy77⟩ := ix_some hy76
           obtain ⟨cs77, hr77, he77⟩ := hS68.rowAt (k := 1) rfl hy77
           obtain rfl := hr77
           replace he77 : El _ _ 5 _ _ := he77
           apply C_draw 11 [[], [0], [1], [2], [2], [2], [5, 2], [4, 6, 2], [7, 2], [8, 2], [3, 9, 2]] [.val (.int .i64 i69), .val (.bool (decide (0 < i69))), .val (.bool true), .val (.agg (Loc.cells (Loc.mk i41 i42 i43 i44)).toArray), .val (u10), .val (.int .i64 i69), .val (.int .i64 (wr (i69 - 1))), .val (elp u10 ((wr (i69 - 1)).toNat * 5)), .val (elp u10 (((wr (i69 - 1)).toNat * 5) + 1)), .val (.agg (Loc.cells x71.loc).toArray), .val (.bool r73)] Ty.mixed rfl rfl (by kernel_rfl) (by kernel_rfl) rfl
           ·
            refine ⟨?_, ?_, ?_, ?_, ?_, ?_, ?_, ?_, ?_, ?_, ?_, trivial⟩
            ·
             intro w78 vq78 hB78 hH78
             have hS78 := hS68.below hB78
             refine W_move rfl rfl ?_
             refine W_nil ?_
             exact N_step rfl rfl (Below.refl _ _)
            ·
             intro w79 vq79 hB79 hH79
             have hS79 := hS68.below hB79
             refine W_gtr rfl rfl rfl ?_
             refine W_nil ?_
             exact N_step rfl rfl (Below.refl _ _)
            ·
             intro w80 vq80 hB80 hH80
             have hS80 := hS68.below hB80
             refine W_move rfl rfl ?_
             refine W_nil ?_
             exact N_step rfl (congrArg Value.bool hb75) (Below.refl _ _)
            ·
             intro w81 vq81 hB81 hH81
             have hS81 := hS68.below hB81
             refine W_guard_yes rfl ?_
             refine W_bldg 0 ((Loc.cells (Loc.mk i41 i42 i43 i44))) rfl Ty.agg37 Ty.size37 rfl hS81 rfl (fun q u h => sub_at (post := []) rfl h) ?_
             refine W_nil ?_
             exact N_step rfl rfl (Below.refl _ _)
            ·
             intro w82 vq82 hB82 hH82
             have hS82 := hS68.below hB82
             refine W_guard_yes rfl ?_
             refine W_move rfl rfl ?_
             refine W_nil ?_
             exact N_step rfl rfl (Below.refl _ _)
            ·
             intro w83 vq83 hB83 hH83
             have hS83 := hS68.below hB83
             refine W_guard_yes rfl ?_
             refine W_move rfl rfl ?_
             refine W_nil ?_
             exact N_step rfl rfl (Below.refl _ _)
            ·
             intro w84 vq84 hB84 hH84
             have hS84 := hS68.below hB84
             refine W_guard_yes rfl ?_
             refine W_subi rfl rfl rfl rfl ?_
             refine W_nil ?_
             exact N_step rfl rfl (Below.refl _ _)
            ·
             intro w85 vq85 hB85 hH85
             have hS85 := hS68.below hB85
             refine W_guard_yes rfl ?_
             refine W_ix rfl Go.Proofs.Try.underlying23 Ty.cells39 Ty.info39 rfl rfl (he77.below hB85) hp77 rfl ?_
             refine W_nil ?_
             exact N_step rfl rfl (Below.refl _ _)
            ·
             intro w86 vq86 hB86 hH86
             have hS86 := hS68.below hB86
             refine W_guard_yes rfl ?_
             refine W_fld 1 rfl Ty.field39_1 rfl (he77.below hB86) ?_
             refine W_nil ?_
             exact N_step rfl rfl (Below.refl _ _)
            ·
             intro w87 vq87 hB87 hH87
             have hS87 := hS68.below hB87
             refine W_guard_yes rfl ?_
             refine W_ldg 1 ((Loc.cells x71.loc)) rfl Ty.agg37 Ty.size37 rfl (he77.below hB87) (by omega) (fun q u h => sub_at (post := []) rfl h) ?_
             refine W_nil ?_
             exact N_step rfl rfl (Below.refl _ _)
            ·
             intro w88 vq88 hB88 hH88
             have hS88 := hS68.below hB88
             refine W_guard_yes rfl ?_
             have hy89 := hr73
             rw [only_t hb75] at hy89
             refine W_call rfl Ty.named34 rfl (cellarerref18_Ahead_ok hS88.agree hy89) ?_
             rintro v90 w90 ⟨Fr73, rfl, hT90⟩
             have hS90 := hS88.lent hT90
             refine W_nil ?_
             exact N_step rfl rfl hT90.below0
           intro w91 vq91 hB91 hH91
           have hS91 := hS68.below hB91
           refine W_pick_t rfl rfl rfl ?_
           refine W_nil ?_
           exact N_join _ ⟨rfl, F68, (Frz.le.refl _), hS91⟩ ⟨rfl, rfl, rfl, rfl, rfl, rfl, (look_bool rfl (by first | rfl | (rw [hb75]; first | done | rfl) | simp [hb75])), trivial⟩
          ·
           apply C_draw 11 [[], [0], [1], [2], [2], [2], [5, 2], [4, 6, 2], [7, 2], [8, 2], [3, 9, 2]] [.val (.int .i64 i69), .val (.bool (decide (0 < i69))), .val (.bool false), .val undef, .val undef, .val undef, .val undef, .val undef, .val undef, .val undef, .val undef] Ty.mixed rfl rfl (by kernel_rfl) (by kernel_rfl) rfl
           ·
            refine ⟨?_, ?_, ?_, ?_, ?_, ?_, ?_, ?_, ?_, ?_, ?_, trivial⟩
            ·
             intro w92 vq92 hB92 hH92
             have hS92 := hS68.below hB92
             refine W_move rfl rfl ?_
             refine W_nil ?_
             exact N_step rfl rfl (Below.refl _ _)
            ·
             intro w93 vq93 hB93 hH93
             have hS93 := hS68.below hB93
             refine W_gtr rfl rfl rfl ?_
             refine W_nil ?_
             exact N_step rfl rfl (Below.refl _ _)
            ·
             intro w94 vq94 hB94 hH94
             have hS94 := hS68.below hB94
             refine W_move rfl rfl ?_
             refine W_nil ?_
             exact N_step rfl (congrArg Value.bool hb75) (Below.refl _ _)
            ·
             intro w95 vq95 hB95 hH95
             have hS95 := hS68.below hB95
             refine W_guard_no rfl rfl rfl rfl rfl ?_
             refine W_nil ?_
             exact N_step rfl rfl (Below.refl _ _)
            ·
             intro w96 vq96 hB96 hH96
             have hS96 := hS68.below hB96
             refine W_guard_no rfl rfl rfl rfl rfl ?_
             refine W_nil ?_
             exact N_step rfl rfl (Below.refl _ _)
            ·
             intro w97 vq97 hB97 hH97
             have hS97 := hS68.below hB97
             refine W_guard_no rfl rfl rfl rfl rfl ?_
             refine W_nil ?_
             exact N_step rfl rfl (Below.refl _ _)
            ·
             intro w98 vq98 hB98 hH98
             have hS98 := hS68.below hB98
             refine W_guard_no rfl rfl rfl rfl rfl ?_
             refine W_nil ?_
             exact N_step rfl rfl (Below.refl _ _)
            ·
             intro w99 vq99 hB99 hH99
             have hS99 := hS68.below hB99
             refine W_guard_no rfl rfl rfl rfl rfl ?_
             refine W_nil ?_
             exact N_step rfl rfl (Below.refl _ _)
            ·
             intro w100 vq100 hB100 hH100
             have hS100 := hS68.below hB100
             refine W_guard_no rfl rfl rfl rfl rfl ?_
             refine W_nil ?_
             exact N_step rfl rfl (Below.refl _ _)
            ·
             intro w101 vq101 hB101 hH101
             have hS101 := hS68.below hB101
             refine W_guard_no rfl rfl rfl rfl rfl ?_
             refine W_nil ?_
             exact N_step rfl rfl (Below.refl _ _)
            ·
             intro w102 vq102 hB102 hH102
             have hS102 := hS68.below hB102
             refine W_guard_no rfl rfl rfl rfl rfl ?_
             refine W_nil ?_
             exact N_step rfl rfl (Below.refl _ _)
           intro w103 vq103 hB103 hH103
           have hS103 := hS68.below hB103
           refine W_pick_f rfl rfl rfl ?_
           refine W_nil ?_
           exact N_join _ ⟨rfl, F68, (Frz.le.refl _), hS103⟩ ⟨rfl, rfl, rfl, rfl, rfl, rfl, (look_bool rfl (by first | rfl | (rw [hb75]; first | done | rfl) | simp [hb75])), trivial⟩
         rintro E w74 ⟨rfl, F74, le74, hS74⟩
         refine N_code ?_
         refine C_cond rfl (fun hc104 => ?_) (fun hc104 => ?_)
         ·
          rw [if_t hc104] at H
          refine C_skip ?_
          refine N_code ?_
          refine C_block ?_
          refine C_region ?_
          refine W_move rfl rfl ?_
          refine W_subi rfl rfl rfl rfl ?_
          refine W_assign rfl rfl ?_
          refine W_nil ?_
          refine N_block ?_
          exact N_againM (wr (i69 - 1)) _ H ⟨F74, rfl, (le68.trans le74), hS74⟩ ⟨rfl, rfl, rfl, rfl, rfl, rfl, trivial⟩
         ·
          rw [if_f hc104] at H
          refine C_exit _ rfl ?_
          exact N_join _ ⟨i69, H, ⟨F74, rfl, (le68.trans le74), hS74⟩⟩ ⟨rfl, rfl, rfl, rfl, rfl, rfl, trivial⟩
       ·
        rintro E w45 ⟨i46, H, F45, rfl, le45, hS45⟩
        dsimp only [cellarerref20_Order.k5] at H
        refine C_seq ?_
        refine C_region ?_
        refine W_assign rfl rfl ?_
        refine W_nil ?_
        refine N_code ?_
        refine C_seq ?_
        obtain ⟨l47, hl47, H⟩ := bd_some H
        obtain ⟨l49, hl49, H⟩ := bd_some H
        obtain ⟨l52, hl52, H⟩ := bd_some H
        apply C_draw 9 [[], [], [], [1, 2], [0, 3], [], [], [5, 6], [7]] [.val (.slice none 0 0), .val (u10), .val (.int .i64 i46), .pred (fun v wz => Src Read.t F45 wz v l47) stable_src, .pred (fun v wz => Ob.ok F45 wz (.row Read.t 39 v l49) ∧ ∀ g, v.ownBlock = some g → w45.heap.size ≤ g) stable_row, .val (.int .i64 i15), .val (.agg (Loc.cells (Loc.mk i41 i42 i43 i44)).toArray), .val (.agg (Read.cells (Read.mk i15 (Loc.mk i41 i42 i43 i44))).toArray), .pred (fun v wz => Src Read.t F45 wz v [(Read.mk i15 (Loc.mk i41 i42 i43 i44))]) stable_src] Ty.mixed rfl rfl (by kernel_rfl) (by kernel_rfl) rfl
        ·
         refine ⟨?_, ?_, ?_, ?_, ?_, ?_, ?_, ?_, ?_, trivial⟩
         ·
          intro w54 vq54 hB54 hH54
          have hS54 := hS45.below hB54
          refine W_move rfl rfl ?_
          refine W_nil ?_
          exact N_step rfl rfl (Below.refl _ _)
         ·
          intro w55 vq55 hB55 hH55
          have hS55 := hS45.below hB55
          refine W_move rfl rfl ?_
          refine W_nil ?_
          exact N_step rfl rfl (Below.refl _ _)
         ·
          intro w56 vq56 hB56 hH56
          have hS56 := hS45.below hB56
          refine W_move rfl rfl ?_
          refine W_nil ?_
          exact N_step rfl rfl (Below.refl _ _)
         ·
          intro w57 vq57 hB57 hH57
          have hS57 := hS45.below hB57
          refine W_cutS 0 i46 rfl Go.Proofs.Try.underlying23 Ty.cells39 Ty.info39 rfl rfl ⟨_, rfl⟩ (hS57.rowSrc (j := 1) rfl) hl47 ?_
          intro q48 hv48
          refine W_nil ?_
          exact N_step rfl hv48 (Below.refl _ _)
         ·
          intro w58 vq58 hB58 hH58
          obtain ⟨_, hp58_3, _⟩ := hH58
          have hS58 := hS45.below hB58
          refine W_app0 (t := Read.t) rfl Go.Proofs.Try.underlying23 Ty.row39 rfl rfl rfl rfl rfl hS58.agree hp58_3 hl49 ?_
          intro v50 w50 hB50 hO50 hg50
          refine W_nil ?_
          exact N_step rfl ⟨hO50, fun g hg => Nat.le_trans hB58.size (hg50 g hg)⟩ hB50
         ·
          intro w59 vq59 hB59 hH59
          have hS59 := hS45.below hB59
          refine W_move rfl rfl ?_
          refine W_nil ?_
          exact N_step rfl rfl (Below.refl _ _)
         ·
          intro w60 vq60 hB60 hH60
          have hS60 := hS45.below hB60
          refine W_bldg 0 ((Loc.cells (Loc.mk i41 i42 i43 i44))) rfl Ty.agg37 Ty.size37 rfl hS60 rfl (fun q u h => sub_at (post := []) rfl h) ?_
          refine W_nil ?_
          exact N_step rfl rfl (Below.refl _ _)
         ·
          intro w61 vq61 hB61 hH61
          have hS61 := hS45.below hB61
          refine W_build (v := .agg (Read.cells (Read.mk i15 (Loc.mk i41 i42 i43 i44))).toArray) rfl rfl (fun _ => by kernel_rfl) ?_
          refine W_nil ?_
          exact N_step rfl rfl (Below.refl _ _)
         ·
          intro w62 vq62 hB62 hH62
          have hS62 := hS45.below hB62
          refine W_bs0 (t := Read.t) [(Read.cells (Read.mk i15 (Loc.mk i41 i42 i43 i44)))] [(Read.mk i15 (Loc.mk i41 i42 i43 i44))] rfl Go.Proofs.Try.underlying23 Ty.cells39 rfl rfl Ty.zero39 rfl rfl ⟨rfl, trivial⟩ rfl rfl hS62.agree ?_
          intro u51 w51 hB51 hs51
          refine W_nil ?_
          exact N_step rfl hs51 hB51
        intro w63 vq63 hB63 hH63
        obtain ⟨_, _, _, hp63_3, hp63_4, _, _, _, hp63_8, _⟩ := hH63
        have hS63 := hS45.below hB63
        have hS63 := hS45.freshR hB63 hp63_4.1 hp63_4.2
        refine W_appM 0 rfl Go.Proofs.Try.underlying23 Ty.row39 rfl rfl rfl rfl rfl hS63 rfl hp63_8 hl52 ?_
        intro v53 w53 hS53
        refine W_assign rfl rfl ?_
        refine W_nil ?_
        refine N_code ?_
        obtain ⟨l64, hl64, H⟩ := bd_some H
        obtain ⟨l66, hl66, H⟩ := bd_some H
        refine C_region ?_
        refine W_move rfl rfl ?_
        refine W_move rfl rfl ?_
        refine W_move rfl rfl ?_
        refine W_cutR 2 i46 (l9.length : Int) rfl Go.Proofs.Try.underlying23 Ty.cells39 Ty.info39 rfl ⟨_, rfl⟩ rfl hS53 rfl hl64 ?_
        intro q65 hv65 hw65
        refine W_appM 0 rfl Go.Proofs.Try.underlying23 Ty.row39 rfl rfl rfl rfl rfl hS53 rfl hv65 hl66 ?_
        intro v67 w67 hS67
        refine W_assign rfl rfl ?_
        refine W_nil ?_
        refine N_block ?_
        exact N_join _ ⟨l66, l12, H, ⟨F45, v67, u13, rfl, (le40.trans le45), hS67.pick [0, 3] (by decide)⟩⟩ ⟨rfl, rfl, rfl, rfl, trivial⟩
    ·
     rintro E w18 ⟨l19, l22, H, F18, u20, u23, rfl, le18, hS18⟩
     dsimp only [cellarerref20_Order.k3] at H
     refine C_region ?_
     refine W_move rfl rfl ?_
     refine W_add rfl rfl rfl rfl ?_
     refine W_assign rfl rfl ?_
     refine W_nil ?_
     exact N_againM (l19, l22, wr (i15 + 1)) _ H ⟨F18, u20, u23, rfl, (le8.trans le18), hS18⟩ ⟨rfl, rfl, rfl, rfl, trivial⟩
   ·
    rw [if_f hc17] at H
    refine C_exit _ rfl ?_
    exact N_join _ ⟨l9, l12, H, ⟨F8, u10, u13, rfl, le8, hS8⟩⟩ ⟨rfl, rfl, trivial⟩
 ·
  rintro E w1 ⟨l2, l5, H, F1, u3, u6, rfl, le1, hS1⟩
  dsimp only [cellarerref20_Order.k1] at H
  refine C_seq ?_
  refine C_region ?_
  refine W_move rfl rfl ?_
  refine W_move rfl rfl ?_
  refine W_assign rfl rfl ?_
  refine W_assign rfl rfl ?_
  refine W_nil ?_
  refine N_code ?_
  obtain rfl := Option.some.inj H
  refine C_ret rfl rfl ?_
  exact ⟨F1, u3, u6, rfl, hS1⟩

def cellarerkeep_Reads.k1 : Option Bool :=
  some true


def cellarerkeep_Reads.l2 (x0 : List Read) (x1 : List Read) (rec5 : Int → Option Bool) : Int → Option Bool
  | i4 =>
    if decide (i4 < (x0.length : Int)) then
      bd (ix x0 i4) fun x7 =>
      bd (ix x1 i4) fun x9 =>
      bd (only (!decide (x7.want ≠ x9.want)) (ix x0 i4) (Read.mk 0 (Loc.mk 0 0 0 0))) fun x11 =>
      bd (only (!decide (x7.want ≠ x9.want)) (ix x1 i4) (Read.mk 0 (Loc.mk 0 0 0 0))) fun x13 =>
      bd (only (!decide (x7.want ≠ x9.want)) (cellarerkeep_Loc x11.loc x13.loc) false) fun r15 =>
      if (decide (x7.want ≠ x9.want) || (!r15)) then
        some false
      else
        rec5 (wr (i4 + 1))
    else
      cellarerkeep_Reads.k1

def cellarerkeep_Reads (x0 : List Read) (x1 : List Read) : Option Bool :=
  if decide ((x0.length : Int) ≠ (x1.length : Int)) then
    some false
  else
    loop (cellarerkeep_Reads.l2 x0 x1) 0

theorem cellarerkeep_Reads_ok {F : Frz} {w : World} {x0 : List Read} {x1 : List Read} {r : Bool} {v0 : Value} {v1 : Value} (hA : Agree F w.heap) (h0 : SlF Read.t F v0 x0) (h1 : SlF Read.t F v1 x1) (H : cellarerkeep_Reads x0 x1 = some r) : Ret Try.prog 21 #[v0, v1] w fun v w' => ∃ (F' : Frz), v = .bool r ∧ St [] w F F' [] w' := by
 refine Ret_of (args := [v0, v1]) Go.Proofs.Try.func21 rfl rfl ?_
 change C _ _ _ _ [(0, v0), (1, v1)] _
 have hS := St.entry hA
 dsimp only [cellarerkeep_Reads] at H
 refine C_seq ?_
 refine C_region ?_
 refine W_assign rfl rfl ?_
 refine W_nil ?_
 refine N_code ?_
 refine C_seq ?_
 refine C_seq ?_
 refine C_region ?_
 refine W_move rfl rfl ?_
 refine W_lenv rfl Go.Proofs.Try.underlying23 rfl h0.ln ?_
 refine W_move rfl rfl ?_
 refine W_lenv rfl Go.Proofs.Try.underlying23 rfl h1.ln ?_
 refine W_neq rfl rfl rfl ?_
 refine W_nil ?_
 refine N_code ?_
 refine C_cond rfl (fun hc1 => ?_) (fun hc1 => ?_)
 ·
  rw [if_t hc1] at H
  refine C_seq ?_
  refine C_region ?_
  refine W_assign rfl rfl ?_
  refine W_nil ?_
  refine N_code ?_
  obtain rfl := Option.some.inj H
  refine C_ret rfl rfl ?_
  exact ⟨F, rfl, hS⟩
 ·
  rw [if_f hc1] at H
  refine C_skip ?_
  refine N_code ?_
  refine C_seq_join (fun E wq => cellarerkeep_Reads.k1 = some r ∧ ∃ (F2 : Frz), E = [] ∧ F.le F2 ∧ St [] w F F2 [] wq) ?_ ?_
  ·
   refine C_seq ?_
   refine C_region ?_
   refine W_assign rfl rfl ?_
   refine W_nil ?_
   refine N_code ?_
   refine C_block ?_
   refine C_loopM (fun (s : Int) E wq => ∃ (F3 : Frz), E = [(0, v0), (1, v1), (5, .int .i64 s)] ∧ F.le F3 ∧ St [] w F F3 [] wq) H ?_ ?_
   ·
    exact ⟨_, ⟨F, rfl, (Frz.le.refl _), hS⟩, ⟨rfl, rfl, rfl, trivial⟩⟩
   ·
    rintro rec5 i4 E w3 hI H
    try dsimp only at hI
    obtain ⟨F3, rfl, le3, hS3⟩ := hI
    dsimp only [cellarerkeep_Reads.l2] at H
    refine C_seq ?_
    refine C_seq ?_
    refine C_region ?_
    refine W_move rfl rfl ?_
    refine W_move rfl rfl ?_
    refine W_lenv rfl Go.Proofs.Try.underlying23 rfl h0.ln ?_
    refine W_lss rfl rfl rfl ?_
    refine W_nil ?_
    refine N_code ?_
    refine C_cond rfl (fun hc6 => ?_) (fun hc6 => ?_)
    ·
     rw [if_t hc6] at H
     refine C_skip ?_
     refine N_code ?_
     refine C_seq ?_
     refine C_block ?_
     refine C_seq ?_
     obtain ⟨x7, hx7, H⟩ := bd_some H
     obtain ⟨x9, hx9, H⟩ := bd_some H
     obtain ⟨x11, hx11, H⟩ := bd_some H
     obtain ⟨x13, hx13, H⟩ := bd_some H
     obtain ⟨r15, hr15, H⟩ := bd_some H
     refine C_join (fun E wq => E = [(0, v0), (1, v1), (5, .int .i64 i4), (41, .bool (decide (x7.want ≠ x9.want) || (!r15)))] ∧ ∃ F16 : Frz, F3.le F16 ∧ St [] w F F16 [] wq) ?_ ?_
     ·
      rcases Bool.eq_false_or_eq_true (decide (x7.want ≠ x9.want)) with hb17 | hb17
      ·
       obtain ⟨hp18, hy18⟩ := ix_some hx7
       obtain ⟨cs18, hr18, he18⟩ := (h0.mono le3).at_ hy18
       obtain rfl := hr18
       replace he18 : Elf _ _ 5 _ _ := he18
       obtain ⟨hp19, hy19⟩ := ix_some hx9
       obtain ⟨cs19, hr19, he19⟩ := (h1.mono le3).at_ hy19
       obtain rfl := hr19
       replace he19 : Elf _ _ 5 _ _ := he19
       apply C_draw 24 [[], [], [0, 1], [2], [3], [], [], [5, 6], [7], [8], [4, 9], [10], [11], [11], [12, 13, 11], [14, 11], [15, 11], [11], [11], [17, 18, 11], [19, 11], [20, 11], [16, 21, 11], [22, 11]] [.val (v0), .val (.int .i64 i4), .val (elp v0 (i4.toNat * 5)), .val (elp v0 ((i4.toNat * 5) + 0)), .val (.int .i64 x7.want), .val (v1), .val (.int .i64 i4), .val (elp v1 (i4.toNat * 5)), .val (elp v1 ((i4.toNat * 5) + 0)), .val (.int .i64 x9.want), .val (.bool (decide (x7.want ≠ x9.want))), .val (.bool true), .val undef, .val undef, .val undef, .val undef, .val undef, .val undef, .val undef, .val undef, .val undef, .val undef, .val undef, .val undef] Ty.mixed rfl rfl (by kernel_rfl) (by kernel_rfl) rfl
       ·
        refine ⟨?_, ?_, ?_, ?_, ?_, ?_, ?_, ?_, ?_, ?_, ?_, ?_, ?_, ?_, ?_, ?_, ?_, ?_, ?_, ?_, ?_, ?_, ?_, ?_, trivial⟩
        ·
         intro w20 vq20 hB20 hH20
         have hS20 := hS3.below hB20
         refine W_move rfl rfl ?_
         refine W_nil ?_
         exact N_step rfl rfl (Below.refl _ _)
        ·
         intro w21 vq21 hB21 hH21
         have hS21 := hS3.below hB21
         refine W_move rfl rfl ?_
         refine W_nil ?_
         exact N_step rfl rfl (Below.refl _ _)
        ·
         intro w22 vq22 hB22 hH22
         have hS22 := hS3.below hB22
         refine W_ix rfl Go.Proofs.Try.underlying23 Ty.cells39 Ty.info39 rfl rfl (he18.el hS22.agree) hp18 rfl ?_
         refine W_nil ?_
         exact N_step rfl rfl (Below.refl _ _)
        ·
         intro w23 vq23 hB23 hH23
         have hS23 := hS3.below hB23
         refine W_fld 0 rfl Ty.field39_0 rfl (he18.el hS23.agree) ?_
         refine W_nil ?_
         exact N_step rfl rfl (Below.refl _ _)
        ·
         intro w24 vq24 hB24 hH24
         have hS24 := hS3.below hB24
         refine W_ld1 0 rfl Ty.cell3 rfl (he18.el hS24.agree) (by omega) rfl ?_
         refine W_nil ?_
         exact N_step rfl rfl (Below.refl _ _)
        ·
         intro w25 vq25 hB25 hH25
         have hS25 := hS3.below hB25
         refine W_move rfl rfl ?_
         refine W_nil ?_
         exact N_step rfl rfl (Below.refl _ _)
        ·
         intro w26 vq26 hB26 hH26
         have hS26 := hS3.below hB26
         refine W_move rfl rfl ?_
         refine W_nil ?_
         exact N_step rfl rfl (Below.refl _ _)
        ·
         intro w27 vq27 hB27 hH27
         have hS27 := hS3.below hB27
         refine W_ix rfl Go.Proofs.Try.underlying23 Ty.cells39 Ty.info39 rfl rfl (he19.el hS27.agree) hp19 rfl ?_
         refine W_nil ?_
         exact N_step rfl rfl (Below.refl _ _)
        ·
         intro w28 vq28 hB28 hH28
         have hS28 := hS3.below hB28
         refine W_fld 0 rfl Ty.field39_0 rfl (he19.el hS28.agree) ?_
         refine W_nil ?_
         exact N_step rfl rfl (Below.refl _ _)
        ·
         intro w29 vq29 hB29 hH29
         have hS29 := hS3.below hB29
         refine W_ld1 0 rfl Ty.cell3 rfl (he19.el hS29.agree) (by omega) rfl ?_
         refine W_nil ?_
         exact N_step rfl rfl (Below.refl _ _)
        ·
         intro w30 vq30 hB30 hH30
         have hS30 := hS3.below hB30
         refine W_neq rfl rfl rfl ?_
         refine W_nil ?_
         exact N_step rfl rfl (Below.refl _ _)
        ·
         intro w31 vq31 hB31 hH31
         have hS31 := hS3.below hB31
         refine W_move rfl rfl ?_
         refine W_nil ?_
         exact N_step rfl (congrArg Value.bool hb17) (Below.refl _ _)
        ·
         intro w32 vq32 hB32 hH32
         have hS32 := hS3.below hB32
         refine W_guard_no rfl rfl rfl rfl rfl ?_
         refine W_nil ?_
         exact N_step rfl rfl (Below.refl _ _)
        ·
         intro w33 vq33 hB33 hH33
         have hS33 := hS3.below hB33
         refine W_guard_no rfl rfl rfl rfl rfl ?_
         refine W_nil ?_
         exact N_step rfl rfl (Below.refl _ _)
        ·
         intro w34 vq34 hB34 hH34
         have hS34 := hS3.below hB34
         refine W_guard_no rfl rfl rfl rfl rfl ?_
         refine W_nil ?_
         exact N_step rfl rfl (Below.refl _ _)
        ·
         intro w35 vq35 hB35 hH35
         have hS35 := hS3.below hB35
         refine W_guard_no rfl rfl rfl rfl rfl ?_
         refine W_nil ?_
         exact N_step rfl rfl (Below.refl _ _)
        ·
         intro w36 vq36 hB36 hH36
         have hS36 := hS3.below hB36
         refine W_guard_no rfl rfl rfl rfl rfl ?_
         refine W_nil ?_
         exact N_step rfl rfl (Below.refl _ _)
        ·
         intro w37 vq37 hB37 hH37
         have hS37 := hS3.below hB37
         refine W_guard_no rfl rfl rfl rfl rfl ?_
         refine W_nil ?_
         exact N_step rfl rfl (Below.refl _ _)
        ·
         intro w38 vq38 hB38 hH38
         have hS38 := hS3.below hB38
         refine W_guard_no rfl rfl rfl rfl rfl ?_
         refine W_nil ?_
         exact N_step rfl rfl (Below.refl _ _)
        ·
         intro w39 vq39 hB39 hH39
         have hS39 := hS3.below hB39
         refine W_guard_no rfl rfl rfl rfl rfl ?_
         refine W_nil ?_
         exact N_step rfl rfl (Below.refl _ _)
        ·
         intro w40 vq40 hB40 hH40
         have hS40 := hS3.below hB40
         refine W_guard_no rfl rfl rfl rfl rfl ?_
         refine W_nil ?_
         exact N_step rfl rfl (Below.refl _ _)
        ·
         intro w41 vq41 hB41 hH41
         have hS41 := hS3.below hB41
         refine W_guard_no rfl rfl rfl rfl rfl ?_
         refine W_nil ?_
         exact N_step rfl rfl (Below.refl _ _)
        ·
         intro w42 vq42 hB42 hH42
         have hS42 := hS3.below hB42
         refine W_guard_no rfl rfl rfl rfl rfl ?_
         refine W_nil ?_
         exact N_step rfl rfl (Below.refl _ _)
        ·
         intro w43 vq43 hB43 hH43
         have hS43 := hS3.below hB43
         refine W_guard_no rfl rfl rfl rfl rfl ?_
         refine W_nil ?_
         exact N_step rfl rfl (Below.refl _ _)
       intro w44 vq44 hB44 hH44
       have hS44 := hS3.below hB44
       refine W_pick_t rfl rfl rfl ?_
       refine W_nil ?_
       exact N_join _ ⟨rfl, F3, (Frz.le.refl _), hS44⟩ ⟨rfl, rfl, rfl, (look_bool rfl (by first | rfl | (rw [hb17]; first | done | rfl) | simp [hb17])), trivial⟩
      ·
       obtain ⟨hp45, hy45⟩ := ix_some hx7
       obtain ⟨cs45, hr45, he45⟩ := (h0.mono le3).at_ hy45
       obtain rfl := hr45
       replace he45 : Elf _ _ 5 _ _ := he45
       obtain ⟨hp46, hy46⟩ := ix_some hx9
       obtain ⟨cs46, hr46, he46⟩ := (h1.mono le3).at_ hy46
       obtain rfl := hr46
       replace he46 : Elf _ _ 5 _ _ := he46
       have hy47 := hx11
       rw [only_t (by first | rfl | (rw [hb17]; first | done | rfl) | simp [hb17])] at hy47
       obtain ⟨hp48, hy48⟩ := ix_some hy47
       obtain ⟨cs48, hr48, he48⟩ := (h0.mono le3).at_ hy48
       obtain rfl := hr48
       replace he48 : Elf _ _ 5 _ _ := he48
       have hy49 := hx13
       rw [only_t (by first | rfl | (rw [hb17]; first | done | rfl) | simp [hb17])] at hy49
       obtain ⟨hp50, hy50⟩ := ix_some hy49
       obtain ⟨cs50, hr50, he50⟩ := (h1.mono le3).at_ hy50
       obtain rfl := hr50
       replace he50 : Elf _ _ 5 _ _ := he50
       apply C_draw 24 [[], [], [0, 1], [2], [3], [], [], [5, 6], [7], [8], [4, 9], [10], [11], [11], [12, 13, 11], [14, 11], [15, 11], [11], [11], [17, 18, 11], [19, 11], [20, 11], [16, 21, 11], [22, 11]] [.val (v0), .val (.int .i64 i4), .val (elp v0 (i4.toNat * 5)), .val (elp v0 ((i4.toNat * 5) + 0)), .val (.int .i64 x7.want), .val (v1), .val (.int .i64 i4), .val (elp v1 (i4.toNat * 5)), .val (elp v1 ((i4.toNat * 5) + 0)), .val (.int .i64 x9.want), .val (.bool (decide (x7.want ≠ x9.want))), .val (.bool false), .val (v0), .val (.int .i64 i4), .val (elp v0 (i4.toNat * 5)), .val (elp v0 ((i4.toNat * 5) + 1)), .val (.agg (Loc.cells x11.loc).toArray), .val (v1), .val (.int .i64 i4), .val (elp v1 (i4.toNat * 5)), .val (elp v1 ((i4.toNat * 5) + 1)), .val (.agg (Loc.cells x13.loc).toArray), .val (.bool r15), .val (.bool (!r15))] Ty.mixed rfl rfl (by kernel_rfl) (by kernel_rfl) rfl
       ·
        refine ⟨?_, ?_, ?_, ?_, ?_, ?_, ?_, ?_, ?_, ?_, ?_, ?_, ?_, ?_, ?_, ?_, ?_, ?_, ?_, ?_, ?_, ?_, ?_, ?_, trivial⟩
        ·
         intro w51 vq51 hB51 hH51
         have hS51 := hS3.below hB51
         refine W_move rfl rfl ?_
         refine W_nil ?_
         exact N_step rfl rfl (Below.refl _ _)
        ·
         intro w52 vq52 hB52 hH52
         have hS52 := hS3.below hB52
         refine W_move rfl rfl ?_
         refine W_nil ?_
         exact N_step rfl rfl (Below.refl _ _)
        ·
         intro w53 vq53 hB53 hH53
         have hS53 := hS3.below hB53
         refine W_ix rfl Go.Proofs.Try.underlying23 Ty.cells39 Ty.info39 rfl rfl (he45.el hS53.agree) hp45 rfl ?_
         refine W_nil ?_
         exact N_step rfl rfl (Below.refl _ _)
        ·
         intro w54 vq54 hB54 hH54
         have hS54 := hS3.below hB54
         refine W_fld 0 rfl Ty.field39_0 rfl (he45.el hS54.agree) ?_
         refine W_nil ?_
         exact N_step rfl rfl (Below.refl _ _)
        ·
         intro w55 vq55 hB55 hH55
         have hS55 := hS3.below hB55
         refine W_ld1 0 rfl Ty.cell3 rfl (he45.el hS55.agree) (by omega) rfl ?_
         refine W_nil ?_
         exact N_step rfl rfl (Below.refl _ _)
        ·
         intro w56 vq56 hB56 hH56
         have hS56 := hS3.below hB56
         refine W_move rfl rfl ?_
         refine W_nil ?_
         exact N_step rfl rfl (Below.refl _ _)
        ·
         intro w57 vq57 hB57 hH57
         have hS57 := hS3.below hB57
         refine W_move rfl rfl ?_
         refine W_nil ?_
         exact N_step rfl rfl (Below.refl _ _)
        ·
         intro w58 vq58 hB58 hH58
         have hS58 := hS3.below hB58
         refine W_ix rfl Go.Proofs.Try.underlying23 Ty.cells39 Ty.info39 rfl rfl (he46.el hS58.agree) hp46 rfl ?_
         refine W_nil ?_
         exact N_step rfl rfl (Below.refl _ _)
        ·
         intro w59 vq59 hB59 hH59
         have hS59 := hS3.below hB59
         refine W_fld 0 rfl Ty.field39_0 rfl (he46.el hS59.agree) ?_
         refine W_nil ?_
         exact N_step rfl rfl (Below.refl _ _)
        ·
         intro w60 vq60 hB60 hH60
         have hS60 := hS3.below hB60
         refine W_ld1 0 rfl Ty.cell3 rfl (he46.el hS60.agree) (by omega) rfl ?_
         refine W_nil ?_
         exact N_step rfl rfl (Below.refl _ _)
        ·
         intro w61 vq61 hB61 hH61
         have hS61 := hS3.below hB61
         refine W_neq rfl rfl rfl ?_
         refine W_nil ?_
         exact N_step rfl rfl (Below.refl _ _)
        ·
         intro w62 vq62 hB62 hH62
         have hS62 := hS3.below hB62
         refine W_move rfl rfl ?_
         refine W_nil ?_
         exact N_step rfl (congrArg Value.bool hb17) (Below.refl _ _)
        ·
         intro w63 vq63 hB63 hH63
         have hS63 := hS3.below hB63
         refine W_guard_yes rfl ?_
         refine W_move rfl rfl ?_
         refine W_nil ?_
         exact N_step rfl rfl (Below.refl _ _)
        ·
         intro w64 vq64 hB64 hH64
         have hS64 := hS3.below hB64
         refine W_guard_yes rfl ?_
         refine W_move rfl rfl ?_
         refine W_nil ?_
         exact N_step rfl rfl (Below.refl _ _)
        ·
         intro w65 vq65 hB65 hH65
         have hS65 := hS3.below hB65
         refine W_guard_yes rfl ?_
         refine W_ix rfl Go.Proofs.Try.underlying23 Ty.cells39 Ty.info39 rfl rfl (he48.el hS65.agree) hp48 rfl ?_
         refine W_nil ?_
         exact N_step rfl rfl (Below.refl _ _)
        ·
         intro w66 vq66 hB66 hH66
         have hS66 := hS3.below hB66
         refine W_guard_yes rfl ?_
         refine W_fld 1 rfl Ty.field39_1 rfl (he48.el hS66.agree) ?_
         refine W_nil ?_
         exact N_step rfl rfl (Below.refl _ _)
        ·
         intro w67 vq67 hB67 hH67
         have hS67 := hS3.below hB67
         refine W_guard_yes rfl ?_
         refine W_ldg 1 ((Loc.cells x11.loc)) rfl Ty.agg37 Ty.size37 rfl (he48.el hS67.agree) (by omega) (fun q u h => sub_at (post := []) rfl h) ?_
         refine W_nil ?_
         exact N_step rfl rfl (Below.refl _ _)
        ·
         intro w68 vq68 hB68 hH68
         have hS68 := hS3.below hB68
         refine W_guard_yes rfl ?_
         refine W_move rfl rfl ?_
         refine W_nil ?_
         exact N_step rfl rfl (Below.refl _ _)
        ·
         intro w69 vq69 hB69 hH69
         have hS69 := hS3.below hB69
         refine W_guard_yes rfl ?_
         refine W_move rfl rfl ?_
         refine W_nil ?_
         exact N_step rfl rfl (Below.refl _ _)
        ·
         intro w70 vq70 hB70 hH70
         have hS70 := hS3.below hB70
         refine W_guard_yes rfl ?_
         refine W_ix rfl Go.Proofs.Try.underlying23 Ty.cells39 Ty.info39 rfl rfl (he50.el hS70.agree) hp50 rfl ?_
         refine W_nil ?_
         exact N_step rfl rfl (Below.refl _ _)
        ·
         intro w71 vq71 hB71 hH71
         have hS71 := hS3.below hB71
         refine W_guard_yes rfl ?_
         refine W_fld 1 rfl Ty.field39_1 rfl (he50.el hS71.agree) ?_
         refine W_nil ?_
         exact N_step rfl rfl (Below.refl _ _)
        ·
         intro w72 vq72 hB72 hH72
         have hS72 := hS3.below hB72
         refine W_guard_yes rfl ?_
         refine W_ldg 1 ((Loc.cells x13.loc)) rfl Ty.agg37 Ty.size37 rfl (he50.el hS72.agree) (by omega) (fun q u h => sub_at (post := []) rfl h) ?_
         refine W_nil ?_
         exact N_step rfl rfl (Below.refl _ _)
        ·
         intro w73 vq73 hB73 hH73
         have hS73 := hS3.below hB73
         refine W_guard_yes rfl ?_
         have hy74 := hr15
         rw [only_t (by first | rfl | (rw [hb17]; first | done | rfl) | simp [hb17])] at hy74
         refine W_call rfl Ty.named24 rfl (cellarerkeep_Loc_ok hS73.agree hy74) ?_
         rintro v75 w75 ⟨Fr15, rfl, hT75⟩
         have hS75 := hS73.lent hT75
         refine W_nil ?_
         exact N_step rfl rfl hT75.below0
        ·
         intro w76 vq76 hB76 hH76
         have hS76 := hS3.below hB76
         refine W_guard_yes rfl ?_
         refine W_not rfl rfl ?_
         refine W_nil ?_
         exact N_step rfl rfl (Below.refl _ _)
       intro w77 vq77 hB77 hH77
       have hS77 := hS3.below hB77
       refine W_pick_f rfl rfl rfl ?_
       refine W_nil ?_
       exact N_join _ ⟨rfl, F3, (Frz.le.refl _), hS77⟩ ⟨rfl, rfl, rfl, (look_bool rfl (by first | rfl | (rw [hb17]; first | done | rfl) | simp [hb17])), trivial⟩
     rintro E w16 ⟨rfl, F16, le16, hS16⟩
     refine N_code ?_
     refine C_cond rfl (fun hc78 => ?_) (fun hc78 => ?_)
     ·
      rw [if_t hc78] at H
      refine C_seq ?_
      refine C_region ?_
      refine W_assign rfl rfl ?_
      refine W_nil ?_
      refine N_code ?_
      obtain rfl := Option.some.inj H
      refine C_ret rfl rfl ?_
      exact ⟨F16, rfl, hS16⟩
     ·
      rw [if_f hc78] at H
      refine C_skip ?_
      refine N_block ?_
      refine N_code ?_
      refine C_region ?_
      refine W_move rfl rfl ?_
      refine W_add rfl rfl rfl rfl ?_
      refine W_assign rfl rfl ?_
      refine W_nil ?_
      exact N_againM (wr (i4 + 1)) _ H ⟨F16, rfl, (le3.trans le16), hS16⟩ ⟨rfl, rfl, rfl, trivial⟩
    ·
     rw [if_f hc6] at H
     refine C_exit _ rfl ?_
     exact N_join _ ⟨H, ⟨F3, rfl, le3, hS3⟩⟩ trivial
  ·
   rintro E w2 ⟨H, F2, rfl, le2, hS2⟩
   dsimp only [cellarerkeep_Reads.k1] at H
   refine C_seq ?_
   refine C_region ?_
   refine W_assign rfl rfl ?_
   refine W_nil ?_
   refine N_code ?_
   obtain rfl := Option.some.inj H
   refine C_ret rfl rfl ?_
   exact ⟨F2, rfl, hS2⟩

def cellarerref20_Vols.k1 (l2 : List Int) : Option (List Int) :=
  some l2


def cellarerref20_Vols.k3 (i9 : Int) (rec10 : ((List Int) × Int) → Option (List Int)) (l13 : List Int) : Option (List Int) :=
  rec10 (l13, wr (i9 + 1))


def cellarerref20_Vols.k4 (x0 : List Read) (l6 : List Int) (i9 : Int) (rec10 : ((List Int) × Int) → Option (List Int)) (b17 : Bool) : Option (List Int) :=
  if (!b17) then
    bd (ix x0 i9) fun x19 =>
    bd (app (α := Int) l6 [x19.loc.vol]) fun l22 =>
    cellarerref20_Vols.k3 i9 rec10 l22
  else
    cellarerref20_Vols.k3 i9 rec10 l6


def cellarerref20_Vols.l5 (x0 : List Read) (l6 : List Int) (i9 : Int) (rec10 : ((List Int) × Int) → Option (List Int)) (rec28 : (Bool × Int) → Option (List Int)) : (Bool × Int) → Option (List Int)
  | (b26, i27) =>
    if decide (i27 < (l6.length : Int)) then
      bd (only (!b26) (ix l6 i27) 0) fun x30 =>
      bd (only (!b26) (ix x0 i9) (Read.mk 0 (Loc.mk 0 0 0 0))) fun x32 =>
      rec28 ((b26 || decide (x30 = x32.loc.vol)), wr (i27 + 1))
    else
      cellarerref20_Vols.k4 x0 l6 i9 rec10 b26


def cellarerref20_Vols.l2 (x0 : List Read) (rec10 : ((List Int) × Int) → Option (List Int)) : ((List Int) × Int) → Option (List Int)
  | (l6, i9) =>
    if decide (i9 < (x0.length : Int)) then
      loop (cellarerref20_Vols.l5 x0 l6 i9 rec10) (false, 0)
    else
      cellarerref20_Vols.k1 l6

def cellarerref20_Vols (x0 : List Read) : Option (List Int) :=
  loop (cellarerref20_Vols.l2 x0) ([], 0)

theorem cellarerref20_Vols_ok {F : Frz} {w : World} {x0 : List Read} {r : (List Int)} {v0 : Value} (hA : Agree F w.heap) (h0 : SlF Read.t F v0 x0) (H : cellarerref20_Vols x0 = some r) : Ret Try.prog 18 #[v0] w fun v w' => ∃ (F' : Frz) (q0 : Value), v = q0 ∧ St [] w F F' [.row tI 3 q0 (r)] w' := by
 refine Ret_of (args := [v0]) Go.Proofs.Try.func18 rfl rfl ?_
 change C _ _ _ _ [(0, v0)] _
 have hS := St.entry hA
 dsimp only [cellarerref20_Vols] at H
 refine C_seq ?_
 refine C_region ?_
 refine W_assign rfl rfl ?_
 refine W_nil ?_
 refine N_code ?_
 refine C_seq ?_
 refine C_region ?_
 refine W_assign rfl rfl ?_
 refine W_nil ?_
 refine N_code ?_
 refine C_seq_join (fun E wq => ∃ l2 : List Int, cellarerref20_Vols.k1 l2 = some r ∧ ∃ (F1 : Frz) (u3 : Value), E = [(3, u3)] ∧ F.le F1 ∧ St [] w F F1 [.row tI 3 u3 l2] wq) ?_ ?_
 ·
  refine C_seq ?_
  refine C_region ?_
  refine W_assign rfl rfl ?_
  refine W_nil ?_
  refine N_code ?_
  refine C_block ?_
  refine C_loopM (fun (s : (List Int) × Int) E wq => ∃ (F5 : Frz) (u7 : Value), E = [(0, v0), (3, u7), (4, .int .i64 s.2)] ∧ F.le F5 ∧ St [] w F F5 [.row tI 3 u7 s.1] wq) H ?_ ?_
  ·
   have hS69 := hS.nilRow tI 3
   exact ⟨_, ⟨F, (.slice none 0 0), rfl, (Frz.le.refl _), hS69⟩, ⟨rfl, rfl, rfl, trivial⟩⟩
  ·
   rintro rec10 ⟨l6, i9⟩ E w5 hI H
   try dsimp only at hI
   obtain ⟨F5, u7, rfl, le5, hS5⟩ := hI
   dsimp only [cellarerref20_Vols.l2] at H
   refine C_seq ?_
   refine C_seq ?_
   refine C_region ?_
   refine W_move rfl rfl ?_
   refine W_move rfl rfl ?_
   refine W_lenv rfl Go.Proofs.Try.underlying23 rfl h0.ln ?_
   refine W_lss rfl rfl rfl ?_
   refine W_nil ?_
   refine N_code ?_
   refine C_cond rfl (fun hc11 => ?_) (fun hc11 => ?_)
   ·
    rw [if_t hc11] at H
    refine C_skip ?_
    refine N_code ?_
    refine C_seq_join (fun E wq => ∃ l13 : List Int, cellarerref20_Vols.k3 i9 rec10 l13 = some r ∧ ∃ (F12 : Frz) (u14 : Value), E = [(0, v0), (3, u14), (4, .int .i64 i9)] ∧ F5.le F12 ∧ St [] w F F12 [.row tI 3 u14 l13] wq) ?_ ?_
    ·
     refine C_block ?_
     refine C_seq ?_
     refine C_region ?_
     refine W_assign rfl rfl ?_
     refine W_nil ?_
     refine N_code ?_
     refine C_seq_join (fun E wq => ∃ b17 : Bool, cellarerref20_Vols.k4 x0 l6 i9 rec10 b17 = some r ∧ ∃ (F16 : Frz), E = [(0, v0), (3, u7), (4, .int .i64 i9), (5, .bool b17)] ∧ F5.le F16 ∧ St [] w F F16 [.row tI 3 u7 l6] wq) ?_ ?_
     ·
      refine C_seq ?_
      refine C_region ?_
      refine W_assign rfl rfl ?_
      refine W_nil ?_
      refine N_code ?_
      refine C_block ?_
      refine C_loopM (fun (s : Bool × Int) E wq => ∃ (F25 : Frz), E = [(0, v0), (3, u7), (4, .int .i64 i9), (5, .bool s.1), (6, .int .i64 s.2)] ∧ F5.le F25 ∧ St [] w F F25 [.row tI 3 u7 l6] wq) H ?_ ?_
      ·
       exact ⟨_, ⟨F5, rfl, (Frz.le.refl _), hS5⟩, ⟨rfl, rfl, rfl, rfl, rfl, trivial⟩⟩
      ·
       rintro rec28 ⟨b26, i27⟩ E w25 hI H
       try dsimp only at hI
       obtain ⟨F25, rfl, le25, hS25⟩ := hI
       dsimp only [cellarerref20_Vols.l5] at H
       refine C_seq ?_
       refine C_seq ?_
       refine C_region ?_
       refine W_move rfl rfl ?_
       refine W_move rfl rfl ?_
       refine W_lenv rfl Go.Proofs.Try.underlying22 rfl (hS25.rowLn (k := 0) rfl) ?_
       refine W_lss rfl rfl rfl ?_
       refine W_nil ?_
       refine N_code ?_
       refine C_cond rfl (fun hc29 => ?_) (fun hc29 => ?_)
       ·
        rw [if_t hc29] at H
        refine C_skip ?_
        refine N_code ?_
        refine C_seq ?_
        refine C_block ?_
        obtain ⟨x30, hx30, H⟩ := bd_some H
        obtain ⟨x32, hx32, H⟩ := bd_some H
        refine C_join (fun E wq => E = [(0, v0), (3, u7), (4, .int .i64 i9), (5, .bool (b26 || decide (x30 = x32.loc.vol))), (6, .int .i64 i27)] ∧ ∃ F34 : Frz, F25.le F34 ∧ St [] w F F34 [.row tI 3 u7 l6] wq) ?_ ?_
        ·
         rcases Bool.eq_false_or_eq_true b26 with hb35 | hb35
         ·
          apply C_draw 13 [[], [0], [1], [1], [2, 3, 1], [4, 1], [1], [1], [6, 7, 1], [8, 1], [9, 1], [10, 1], [5, 11, 1]] [.val (.bool b26), .val (.bool true), .val undef, .val undef, .val undef, .val undef, .val undef, .val undef, .val undef, .val undef, .val undef, .val undef, .val undef] Ty.mixed rfl rfl (by kernel_rfl) (by kernel_rfl) rfl
          ·
           refine ⟨?_, ?_, ?_, ?_, ?_, ?_, ?_, ?_, ?_, ?_, ?_, ?_, ?_, trivial⟩
           ·
            intro w36 vq36 hB36 hH36
            have hS36 := hS25.below hB36
            refine W_move rfl rfl ?_
            refine W_nil ?_
            exact N_step rfl rfl (Below.refl _ _)
           ·
            intro w37 vq37 hB37 hH37
            have hS37 := hS25.below hB37
            refine W_move rfl rfl ?_
            refine W_nil ?_
            exact N_step rfl (congrArg Value.bool hb35) (Below.refl _ _)
           ·
            intro w38 vq38 hB38 hH38
            have hS38 := hS25.below hB38
            refine W_guard_no rfl rfl rfl rfl rfl ?_
            refine W_nil ?_
            exact N_step rfl rfl (Below.refl _ _)
           ·
            intro w39 vq39 hB39 hH39
            have hS39 := hS25.below hB39
            refine W_guard_no rfl rfl rfl rfl rfl ?_
            refine W_nil ?_
            exact N_step rfl rfl (Below.refl _ _)
           ·
            intro w40 vq40 hB40 hH40
            have hS40 := hS25.below hB40
            refine W_guard_no rfl rfl rfl rfl rfl ?_
            refine W_nil ?_
            exact N_step rfl rfl (Below.refl _ _)
           ·
            intro w41 vq41 hB41 hH41
            have hS41 := hS25.below hB41
            refine W_guard_no rfl rfl rfl rfl rfl ?_
            refine W_nil ?_
            exact N_step rfl rfl (Below.refl _ _)
           ·
            intro w42 vq42 hB42 hH42
            have hS42 := hS25.below hB42
            refine W_guard_no rfl rfl rfl rfl rfl ?_
            refine W_nil ?_
            exact N_step rfl rfl (Below.refl _ _)
           ·
            intro w43 vq43 hB43 hH43
            have hS43 := hS25.below hB43
            refine W_guard_no rfl rfl rfl rfl rfl ?_
            refine W_nil ?_
            exact N_step rfl rfl (Below.refl _ _)
           ·
            intro w44 vq44 hB44 hH44
            have hS44 := hS25.below hB44
            refine W_guard_no rfl rfl rfl rfl rfl ?_
            refine W_nil ?_
            exact N_step rfl rfl (Below.refl _ _)
           ·
            intro w45 vq45 hB45 hH45
            have hS45 := hS25.below hB45
            refine W_guard_no rfl rfl rfl rfl rfl ?_
            refine W_nil ?_
            exact N_step rfl rfl (Below.refl _ _)
           ·
            intro w46 vq46 hB46 hH46
            have hS46 := hS25.below hB46
            refine W_guard_no rfl rfl rfl rfl rfl ?_
            refine W_nil ?_
            exact N_step rfl rfl (Below.refl _ _)
           ·
            intro w47 vq47 hB47 hH47
            have hS47 := hS25.below hB47
            refine W_guard_no rfl rfl rfl rfl rfl ?_
            refine W_nil ?_
            exact N_step rfl rfl (Below.refl _ _)
           ·
            intro w48 vq48 hB48 hH48
            have hS48 := hS25.below hB48
            refine W_guard_no rfl rfl rfl rfl rfl ?_
            refine W_nil ?_
            exact N_step rfl rfl (Below.refl _ _)
          intro w49 vq49 hB49 hH49
          have hS49 := hS25.below hB49
          refine W_pick_t rfl rfl rfl ?_
          refine W_assign rfl rfl ?_
          refine W_nil ?_
          exact N_join _ ⟨rfl, F25, (Frz.le.refl _), hS49⟩ ⟨rfl, rfl, rfl, (look_bool rfl (by first | rfl | (rw [hb35]; first | done | rfl) | simp [hb35])), rfl, trivial⟩
         ·
          have hy50 := hx30
          rw [only_t (by first | rfl | (rw [hb35]; first | done | rfl) | simp [hb35])] at hy50
          obtain ⟨hp51, hy51⟩ := ix_some hy50
          obtain ⟨cs51, hr51, he51⟩ := hS25.rowAt (k := 0) rfl hy51
          obtain rfl := hr51
          replace he51 : El _ _ 1 _ _ := he51
          have hy52 := hx32
          rw [only_t (by first | rfl | (rw [hb35]; first | done | rfl) | simp [hb35])] at hy52
          obtain ⟨hp53, hy53⟩ := ix_some hy52
          obtain ⟨cs53, hr53, he53⟩ := (h0.mono (le5.trans le25)).at_ hy53
          obtain rfl := hr53
          replace he53 : Elf _ _ 5 _ _ := he53
          apply C_draw 13 [[], [0], [1], [1], [2, 3, 1], [4, 1], [1], [1], [6, 7, 1], [8, 1], [9, 1], [10, 1], [5, 11, 1]] [.val (.bool b26), .val (.bool false), .val (u7), .val (.int .i64 i27), .val (elp u7 (i27.toNat * 1)), .val (.int .i64 x30), .val (v0), .val (.int .i64 i9), .val (elp v0 (i9.toNat * 5)), .val (elp v0 ((i9.toNat * 5) + 1)), .val (elp v0 (((i9.toNat * 5) + 1) + 0)), .val (.int .i64 x32.loc.vol), .val (.bool (decide (x30 = x32.loc.vol)))] Ty.mixed rfl rfl (by kernel_rfl) (by kernel_rfl) rfl
          ·
           refine ⟨?_, ?_, ?_, ?_, ?_, ?_, ?_, ?_, ?_, ?_, ?_, ?_, ?_, trivial⟩
           ·
            intro w54 vq54 hB54 hH54
            have hS54 := hS25.below hB54
            refine W_move rfl rfl ?_
            refine W_nil ?_
            exact N_step rfl rfl (Below.refl _ _)
           ·
            intro w55 vq55 hB55 hH55
            have hS55 := hS25.below hB55
            refine W_move rfl rfl ?_
            refine W_nil ?_
            exact N_step rfl (congrArg Value.bool hb35) (Below.refl _ _)
           ·
            intro w56 vq56 hB56 hH56
            have hS56 := hS25.below hB56
            refine W_guard_yes rfl ?_
            refine W_move rfl rfl ?_
            refine W_nil ?_
            exact N_step rfl rfl (Below.refl _ _)
           ·
            intro w57 vq57 hB57 hH57
            have hS57 := hS25.below hB57
            refine W_guard_yes rfl ?_
            refine W_move rfl rfl ?_
            refine W_nil ?_
            exact N_step rfl rfl (Below.refl _ _)
           ·
            intro w58 vq58 hB58 hH58
            have hS58 := hS25.below hB58
            refine W_guard_yes rfl ?_
            refine W_ix rfl Go.Proofs.Try.underlying22 Ty.cells3 Ty.info3 rfl rfl (he51.below hB58) hp51 rfl ?_
            refine W_nil ?_
            exact N_step rfl rfl (Below.refl _ _)
           ·
            intro w59 vq59 hB59 hH59
            have hS59 := hS25.below hB59
            refine W_guard_yes rfl ?_
            refine W_ld1 0 rfl Ty.cell3 rfl (he51.below hB59) (by omega) rfl ?_
            refine W_nil ?_
            exact N_step rfl rfl (Below.refl _ _)
           ·
            intro w60 vq60 hB60 hH60
            have hS60 := hS25.below hB60
            refine W_guard_yes rfl ?_
            refine W_move rfl rfl ?_
            refine W_nil ?_
            exact N_step rfl rfl (Below.refl _ _)
           ·
            intro w61 vq61 hB61 hH61
            have hS61 := hS25.below hB61
            refine W_guard_yes rfl ?_
            refine W_move rfl rfl ?_
            refine W_nil ?_
            exact N_step rfl rfl (Below.refl _ _)
           ·
            intro w62 vq62 hB62 hH62
            have hS62 := hS25.below hB62
            refine W_guard_yes rfl ?_
            refine W_ix rfl Go.Proofs.Try.underlying23 Ty.cells39 Ty.info39 rfl rfl (he53.el hS62.agree) hp53 rfl ?_
            refine W_nil ?_
            exact N_step rfl rfl (Below.refl _ _)
           ·
            intro w63 vq63 hB63 hH63
            have hS63 := hS25.below hB63
            refine W_guard_yes rfl ?_
            refine W_fld 1 rfl Ty.field39_1 rfl (he53.el hS63.agree) ?_
            refine W_nil ?_
            exact N_step rfl rfl (Below.refl _ _)
           ·
            intro w64 vq64 hB64 hH64
            have hS64 := hS25.below hB64
            refine W_guard_yes rfl ?_
            refine W_fld 0 rfl Ty.field37_0 rfl (he53.el hS64.agree) ?_
            refine W_nil ?_
            exact N_step rfl rfl (Below.refl _ _)
           ·
            intro w65 vq65 hB65 hH65
            have hS65 := hS25.below hB65
            refine W_guard_yes rfl ?_
            refine W_ld1 1 rfl Ty.cell3 rfl (he53.el hS65.agree) (by omega) rfl ?_
            refine W_nil ?_
            exact N_step rfl rfl (Below.refl _ _)
           ·
            intro w66 vq66 hB66 hH66
            have hS66 := hS25.below hB66
            refine W_guard_yes rfl ?_
            refine W_eql rfl rfl rfl ?_
            refine W_nil ?_
            exact N_step rfl rfl (Below.refl _ _)
          intro w67 vq67 hB67 hH67
          have hS67 := hS25.below hB67
          refine W_pick_f rfl rfl rfl ?_
          refine W_assign rfl rfl ?_
          refine W_nil ?_
          exact N_join _ ⟨rfl, F25, (Frz.le.refl _), hS67⟩ ⟨rfl, rfl, rfl, (look_bool rfl (by first | rfl | (rw [hb35]; first | done | rfl) | simp [hb35])), rfl, trivial⟩
        rintro E w34 ⟨rfl, F34, le34, hS34⟩
        refine N_block ?_
        refine N_code ?_
        refine C_region ?_
        refine W_move rfl rfl ?_
        refine W_add rfl rfl rfl rfl ?_
        refine W_assign rfl rfl ?_
        refine W_nil ?_
        exact N_againM ((b26 || decide (x30 = x32.loc.vol)), wr (i27 + 1)) _ H ⟨F34, rfl, (le25.trans le34), hS34⟩ ⟨rfl, rfl, rfl, rfl, rfl, trivial⟩
       ·
        rw [if_f hc29] at H
        refine C_exit _ rfl ?_
        exact N_join _ ⟨b26, H, ⟨F25, rfl, le25, hS25⟩⟩ ⟨rfl, rfl, rfl, rfl, trivial⟩
     ·
      rintro E w16 ⟨b17, H, F16, rfl, le16, hS16⟩
      dsimp only [cellarerref20_Vols.k4] at H
      refine C_seq ?_
      refine C_region ?_
      refine W_move rfl rfl ?_
      refine W_not rfl rfl ?_
      refine W_nil ?_
      refine N_code ?_
      refine C_cond rfl (fun hc18 => ?_) (fun hc18 => ?_)
      ·
       rw [if_t hc18] at H
       obtain ⟨x19, hx19, H⟩ := bd_some H
       obtain ⟨l22, hl22, H⟩ := bd_some H
       refine C_region ?_
       refine W_move rfl rfl ?_
       refine W_move rfl rfl ?_
       refine W_move rfl rfl ?_
       obtain ⟨hp24, hy24⟩ := ix_some hx19
       obtain ⟨cs24, hr24, he24⟩ := (h0.mono (le5.trans le16)).at_ hy24
       obtain rfl := hr24
       replace he24 : Elf _ _ 5 _ _ := he24
       refine W_ix rfl Go.Proofs.Try.underlying23 Ty.cells39 Ty.info39 rfl rfl (he24.el hS16.agree) hp24 rfl ?_
       refine W_fld 1 rfl Ty.field39_1 rfl (he24.el hS16.agree) ?_
       refine W_fld 0 rfl Ty.field37_0 rfl (he24.el hS16.agree) ?_
       refine W_ld1 1 rfl Ty.cell3 rfl (he24.el hS16.agree) (by omega) rfl ?_
       refine W_bs (t := tI) [[.int .i64 x19.loc.vol]] [x19.loc.vol] rfl Go.Proofs.Try.underlying22 Ty.cells3 rfl rfl Ty.zero3 rfl rfl ⟨rfl, trivial⟩ rfl rfl hS16 ?_
       intro u21 w21 hS21
       refine W_appM 1 rfl Go.Proofs.Try.underlying22 Ty.row3 rfl rfl rfl rfl rfl hS21 rfl (hS21.rowSrc (j := 0) rfl) hl22 ?_
       intro v23 w23 hS23
       refine W_assign rfl rfl ?_
       refine W_nil ?_
       refine N_block ?_
       exact N_join _ ⟨l22, H, ⟨F16, v23, rfl, le16, hS23.pick [1] (by decide)⟩⟩ ⟨rfl, rfl, rfl, trivial⟩
      ·
       rw [if_f hc18] at H
       refine C_skip ?_
       refine N_block ?_
       exact N_join _ ⟨l6, H, ⟨F16, u7, rfl, le16, hS16⟩⟩ ⟨rfl, rfl, rfl, trivial⟩
    ·
     rintro E w12 ⟨l13, H, F12, u14, rfl, le12, hS12⟩
     dsimp only [cellarerref20_Vols.k3] at H
     refine C_region ?_
     refine W_move rfl rfl ?_
     refine W_add rfl rfl rfl rfl ?_
     refine W_assign rfl rfl ?_
     refine W_nil ?_
     exact N_againM (l13, wr (i9 + 1)) _ H ⟨F12, u14, rfl, (le5.trans le12), hS12⟩ ⟨rfl, rfl, rfl, trivial⟩
   ·
    rw [if_f hc11] at H
    refine C_exit _ rfl ?_
    exact N_join _ ⟨l6, H, ⟨F5, u7, rfl, le5, hS5⟩⟩ ⟨rfl, trivial⟩
 ·
  rintro E w1 ⟨l2, H, F1, u3, rfl, le1, hS1⟩
  dsimp only [cellarerref20_Vols.k1] at H
  refine C_seq ?_
  refine C_region ?_
  refine W_move rfl rfl ?_
  refine W_assign rfl rfl ?_
  refine W_nil ?_
  refine N_code ?_
  obtain rfl := Option.some.inj H
  refine C_ret rfl rfl ?_
  exact ⟨F1, u3, rfl, hS1⟩

end Go.Wk.Lf
