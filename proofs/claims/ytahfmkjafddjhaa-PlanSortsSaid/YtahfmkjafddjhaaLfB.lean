import Derived.Test.YtahfmkjafddjhaaLfS
namespace Go.Wk.Lf
open Go.Proofs Go.RowKit
set_option linter.unusedVariables false
set_option linter.unusedSimpArgs false

def cellarerlaw21_Heavy.k1 : Option Bool :=
  some false


def cellarerlaw21_Heavy.l2 (x0 : List Want) (rec5 : Int → Option Bool) : Int → Option Bool
  | i4 =>
    if decide (i4 < (x0.length : Int)) then
      bd (ix x0 i4) fun x7 =>
      if decide (40 < (x7.locs.length : Int)) then
        some true
      else
        rec5 (wr (i4 + 1))
    else
      cellarerlaw21_Heavy.k1

def cellarerlaw21_Heavy (x0 : List Want) : Option Bool :=
  if decide (60 < (x0.length : Int)) then
    some true
  else
    loop (cellarerlaw21_Heavy.l2 x0) 0

theorem cellarerlaw21_Heavy_ok {F : Frz} {w : World} {x0 : List Want} {r : Bool} {v0 : Value} (hA : Agree F w.heap) (h0 : SlF Want.t F v0 x0) (H : cellarerlaw21_Heavy x0 = some r) : Ret Try.prog 26 #[v0] w fun v w' => ∃ (F' : Frz), v = .bool r ∧ St [] w F F' [] w' := by
 refine Ret_of (args := [v0]) Go.Proofs.Try.func26 rfl rfl ?_
 change C _ _ _ _ [(0, v0)] _
 have hS := St.entry hA
 dsimp only [cellarerlaw21_Heavy] at H
 refine C_seq ?_
 refine C_region ?_
 refine W_assign rfl rfl ?_
 refine W_nil ?_
 refine N_code ?_
 refine C_seq ?_
 refine C_seq ?_
 refine C_region ?_
 refine W_move rfl rfl ?_
 refine W_lenv rfl Go.Proofs.Try.underlying47 rfl h0.ln ?_
 refine W_gtr rfl rfl rfl ?_
 refine W_nil ?_
 refine N_code ?_
 refine C_cond rfl (fun hc1 => ?_) (fun hc1 => ?_)
 ·
  rw [if_t hc1] at H
  refine C_seq ?_
  refine C_region ?_
  refine W_assign rfl rfl ?_
  refine W_nil ?_
  refine N_code ?_
  obtain rfl := Option.some.inj H
  refine C_ret rfl rfl ?_
  exact ⟨F, rfl, hS⟩
 ·
  rw [if_f hc1] at H
  refine C_skip ?_
  refine N_code ?_
  refine C_seq_join (fun E wq => cellarerlaw21_Heavy.k1 = some r ∧ ∃ (F2 : Frz), E = [] ∧ F.le F2 ∧ St [] w F F2 [] wq) ?_ ?_
  ·
   refine C_seq ?_
   refine C_region ?_
   refine W_assign rfl rfl ?_
   refine W_nil ?_
   refine N_code ?_
   refine C_block ?_
   refine C_loopM (fun (s : Int) E wq => ∃ (F3 : Frz), E = [(0, v0), (3, .int .i64 s)] ∧ F.le F3 ∧ St [] w F F3 [] wq) H ?_ ?_
   ·
    exact ⟨_, ⟨F, rfl, (Frz.le.refl _), hS⟩, ⟨rfl, rfl, trivial⟩⟩
   ·
    rintro rec5 i4 E w3 hI H
    try dsimp only at hI
    obtain ⟨F3, rfl, le3, hS3⟩ := hI
    dsimp only [cellarerlaw21_Heavy.l2] at H
    refine C_seq ?_
    refine C_seq ?_
    refine C_region ?_
    refine W_move rfl rfl ?_
    refine W_move rfl rfl ?_
    refine W_lenv rfl Go.Proofs.Try.underlying47 rfl h0.ln ?_
    refine W_lss rfl rfl rfl ?_
    refine W_nil ?_
    refine N_code ?_
    refine C_cond rfl (fun hc6 => ?_) (fun hc6 => ?_)
    ·
     rw [if_t hc6] at H
     refine C_skip ?_
     refine N_code ?_
     refine C_seq ?_
     refine C_block ?_
     refine C_seq ?_
     obtain ⟨x7, hx7, H⟩ := bd_some H
     refine C_region ?_
     refine W_move rfl rfl ?_
     refine W_move rfl rfl ?_
     obtain ⟨hp9, hy9⟩ := ix_some hx7
     obtain ⟨cs9, hr9, he9⟩ := (h0.mono le3).at_ hy9
     obtain ⟨ue8_0, rfl, hle8_0, hue8_0⟩ := hr9
     replace he9 : Elf _ _ 33 _ _ := he9
     refine W_ix rfl Go.Proofs.Try.underlying47 Ty.cells52 Ty.info52 rfl rfl (he9.el hS3.agree) hp9 rfl ?_
     refine W_fld 32 rfl Ty.field52_1 rfl (he9.el hS3.agree) ?_
     refine W_ld1 32 rfl Ty.cell49 rfl (he9.el hS3.agree) (by omega) rfl ?_
     refine W_lenv rfl Go.Proofs.Try.underlying49 rfl hue8_0.ln ?_
     refine W_gtr rfl rfl rfl ?_
     refine W_nil ?_
     refine N_code ?_
     refine C_cond rfl (fun hc10 => ?_) (fun hc10 => ?_)
     ·
      rw [if_t hc10] at H
      refine C_seq ?_
      refine C_region ?_
      refine W_assign rfl rfl ?_
      refine W_nil ?_
      refine N_code ?_
      obtain rfl := Option.some.inj H
      refine C_ret rfl rfl ?_
      exact ⟨F3, rfl, hS3⟩
     ·
      rw [if_f hc10] at H
      refine C_skip ?_
      refine N_block ?_
      refine N_code ?_
      refine C_region ?_
      refine W_move rfl rfl ?_
      refine W_add rfl rfl rfl rfl ?_
      refine W_assign rfl rfl ?_
      refine W_nil ?_
      exact N_againM (wr (i4 + 1)) _ H ⟨F3, rfl, le3, hS3⟩ ⟨rfl, rfl, trivial⟩
    ·
     rw [if_f hc6] at H
     refine C_exit _ rfl ?_
     exact N_join _ ⟨H, ⟨F3, rfl, le3, hS3⟩⟩ trivial
  ·
   rintro E w2 ⟨H, F2, rfl, le2, hS2⟩
   dsimp only [cellarerlaw21_Heavy.k1] at H
   refine C_seq ?_
   refine C_region ?_
   refine W_assign rfl rfl ?_
   refine W_nil ?_
   refine N_code ?_
   obtain rfl := Option.some.inj H
   refine C_ret rfl rfl ?_
   exact ⟨F2, rfl, hS2⟩

def slices_Index_int_int.k1 : Option Int :=
  some (-1)


def slices_Index_int_int.l2 (x0 : List Int) (x1 : Int) (rec4 : Int → Option Int) : Int → Option Int
  | i3 =>
    if decide (i3 < (x0.length : Int)) then
      bd (ix x0 i3) fun x6 =>
      if decide (x1 = x6) then
        some i3
      else
        rec4 (wr (i3 + 1))
    else
      slices_Index_int_int.k1

def slices_Index_int_int (x0 : List Int) (x1 : Int) : Option Int :=
  loop (slices_Index_int_int.l2 x0 x1) 0

theorem slices_Index_int_int_ok {F : Frz} {w : World} {x0 : List Int} {x1 : Int} {r : Int} {v0 : Value} (hA : Agree F w.heap) (h0 : SlF tI F v0 x0) (H : slices_Index_int_int x0 x1 = some r) : Ret Try.prog 57 #[v0, .int .i64 x1] w fun v w' => ∃ (F' : Frz), v = .int .i64 r ∧ St [] w F F' [] w' := by
 refine Ret_of (args := [v0, .int .i64 x1]) Go.Proofs.Try.func57 rfl rfl ?_
 change C _ _ _ _ [(0, v0), (1, .int .i64 x1)] _
 have hS := St.entry hA
 dsimp only [slices_Index_int_int] at H
 refine C_seq ?_
 refine C_region ?_
 refine W_assign rfl rfl ?_
 refine W_nil ?_
 refine N_code ?_
 refine C_seq_join (fun E wq => slices_Index_int_int.k1 = some r ∧ ∃ (F1 : Frz), E = [] ∧ F.le F1 ∧ St [] w F F1 [] wq) ?_ ?_
 ·
  refine C_seq ?_
  refine C_region ?_
  refine W_move rfl rfl ?_
  refine W_lenv rfl Go.Proofs.Try.underlying22 rfl h0.ln ?_
  refine W_move rfl rfl ?_
  refine W_nil ?_
  refine N_code ?_
  refine C_block ?_
  refine C_loopM (fun (s : Int) E wq => ∃ (F2 : Frz), E = [(0, v0), (1, .int .i64 x1), (7, .int .i64 (x0.length : Int)), (8, .int .i64 s)] ∧ F.le F2 ∧ St [] w F F2 [] wq) H ?_ ?_
  ·
   exact ⟨_, ⟨F, rfl, (Frz.le.refl _), hS⟩, ⟨rfl, rfl, rfl, rfl, trivial⟩⟩
  ·
   rintro rec4 i3 E w2 hI H
   try dsimp only at hI
   obtain ⟨F2, rfl, le2, hS2⟩ := hI
   dsimp only [slices_Index_int_int.l2] at H
   refine C_seq ?_
   refine C_region ?_
   refine W_lss rfl rfl rfl ?_
   refine W_nil ?_
   refine N_code ?_
   refine C_seq ?_
   refine C_cond rfl (fun hc5 => ?_) (fun hc5 => ?_)
   ·
    rw [if_t hc5] at H
    refine C_skip ?_
    refine N_code ?_
    refine C_seq ?_
    refine C_block ?_
    refine C_seq ?_
    refine C_region ?_
    refine W_move rfl rfl ?_
    refine W_assign rfl rfl ?_
    refine W_nil ?_
    refine N_code ?_
    refine C_seq ?_
    obtain ⟨x6, hx6, H⟩ := bd_some H
    refine C_region ?_
    refine W_move rfl rfl ?_
    refine W_move rfl rfl ?_
    refine W_move rfl rfl ?_
    obtain ⟨hp8, hy8⟩ := ix_some hx6
    obtain ⟨cs8, hr8, he8⟩ := (h0.mono le2).at_ hy8
    obtain rfl := hr8
    replace he8 : Elf _ _ 1 _ _ := he8
    refine W_ix rfl Go.Proofs.Try.underlying22 Ty.cells3 Ty.info3 rfl rfl (he8.el hS2.agree) hp8 rfl ?_
    refine W_ld1 0 rfl Ty.cell3 rfl (he8.el hS2.agree) (by omega) rfl ?_
    refine W_eql rfl rfl rfl ?_
    refine W_nil ?_
    refine N_code ?_
    refine C_cond rfl (fun hc9 => ?_) (fun hc9 => ?_)
    ·
     rw [if_t hc9] at H
     refine C_seq ?_
     refine C_region ?_
     refine W_move rfl rfl ?_
     refine W_assign rfl rfl ?_
     refine W_nil ?_
     refine N_code ?_
     obtain rfl := Option.some.inj H
     refine C_ret rfl rfl ?_
     exact ⟨F2, rfl, hS2⟩
    ·
     rw [if_f hc9] at H
     refine C_skip ?_
     refine N_block ?_
     refine N_code ?_
     refine C_region ?_
     refine W_add rfl rfl rfl rfl ?_
     refine W_move rfl rfl ?_
     refine W_nil ?_
     exact N_againM (wr (i3 + 1)) _ H ⟨F2, rfl, le2, hS2⟩ ⟨rfl, rfl, rfl, rfl, trivial⟩
   ·
    rw [if_f hc5] at H
    refine C_exit _ rfl ?_
    exact N_join _ ⟨H, ⟨F2, rfl, le2, hS2⟩⟩ trivial
 ·
  rintro E w1 ⟨H, F1, rfl, le1, hS1⟩
  dsimp only [slices_Index_int_int.k1] at H
  refine C_seq ?_
  refine C_region ?_
  refine W_assign rfl rfl ?_
  refine W_nil ?_
  refine N_code ?_
  obtain rfl := Option.some.inj H
  refine C_ret rfl rfl ?_
  exact ⟨F1, rfl, hS1⟩

def slices_Contains_int_int (x0 : List Int) (x1 : Int) : Option Bool :=
  bd (slices_Index_int_int x0 x1) fun r1 =>
  some (decide (0 ≤ r1))

theorem slices_Contains_int_int_ok {F : Frz} {w : World} {x0 : List Int} {x1 : Int} {r : Bool} {v0 : Value} (hA : Agree F w.heap) (h0 : SlF tI F v0 x0) (H : slices_Contains_int_int x0 x1 = some r) : Ret Try.prog 50 #[v0, .int .i64 x1] w fun v w' => ∃ (F' : Frz), v = .bool r ∧ St [] w F F' [] w' := by
 refine Ret_of (args := [v0, .int .i64 x1]) Go.Proofs.Try.func50 rfl rfl ?_
 change C _ _ _ _ [(0, v0), (1, .int .i64 x1)] _
 have hS := St.entry hA
 dsimp only [slices_Contains_int_int] at H
 refine C_seq ?_
 refine C_region ?_
 refine W_assign rfl rfl ?_
 refine W_nil ?_
 refine N_code ?_
 refine C_seq ?_
 obtain ⟨r1, hr1, H⟩ := bd_some H
 refine C_region ?_
 refine W_move rfl rfl ?_
 refine W_move rfl rfl ?_
 refine W_call rfl Ty.named57 rfl (slices_Index_int_int_ok hS.agree h0 hr1) ?_
 rintro v2 w2 ⟨Fr1, rfl, hT2⟩
 have hS2 := hS.lent hT2
 refine W_geq rfl rfl rfl ?_
 refine W_assign rfl rfl ?_
 refine W_nil ?_
 refine N_code ?_
 obtain rfl := Option.some.inj H
 refine C_ret rfl rfl ?_
 exact ⟨F, rfl, hS2⟩

def plan_Vols.k1 (l2 : List Int) : Option (List Int) :=
  some l2


def plan_Vols.k3 (i9 : Int) (rec10 : ((List Int) × Int) → Option (List Int)) (l13 : List Int) : Option (List Int) :=
  rec10 (l13, wr (i9 + 1))


def plan_Vols.l2 (x0 : List Read) (rec10 : ((List Int) × Int) → Option (List Int)) : ((List Int) × Int) → Option (List Int)
  | (l6, i9) =>
    if decide (i9 < (x0.length : Int)) then
      bd (ix x0 i9) fun x16 =>
      bd (slices_Contains_int_int l6 x16.loc.vol) fun r21 =>
      if (!r21) then
        bd (app (α := Int) l6 [x16.loc.vol]) fun l25 =>
        plan_Vols.k3 i9 rec10 l25
      else
        plan_Vols.k3 i9 rec10 l6
    else
      plan_Vols.k1 l6

def plan_Vols (x0 : List Read) : Option (List Int) :=
  loop (plan_Vols.l2 x0) ([], 0)

theorem plan_Vols_ok {F : Frz} {w : World} {x0 : List Read} {r : (List Int)} {v0 : Value} (hA : Agree F w.heap) (h0 : SlF Read.t F v0 x0) (H : plan_Vols x0 = some r) : Ret Try.prog 32 #[v0] w fun v w' => ∃ (F' : Frz) (q0 : Value), v = q0 ∧ St [] w F F' [.row tI 3 q0 (r)] w' := by
 refine Ret_of (args := [v0]) Go.Proofs.Try.func32 rfl rfl ?_
 change C _ _ _ _ [(0, v0)] _
 have hS := St.entry hA
 dsimp only [plan_Vols] at H
 refine C_seq ?_
 refine C_region ?_
 refine W_assign rfl rfl ?_
 refine W_nil ?_
 refine N_code ?_
 refine C_seq ?_
 refine C_region ?_
 refine W_assign rfl rfl ?_
 refine W_nil ?_
 refine N_code ?_
 refine C_seq_join (fun E wq => ∃ l2 : List Int, plan_Vols.k1 l2 = some r ∧ ∃ (F1 : Frz) (u3 : Value), E = [(3, u3)] ∧ F.le F1 ∧ St [] w F F1 [.row tI 3 u3 l2] wq) ?_ ?_
 ·
  refine C_seq ?_
  refine C_region ?_
  refine W_move rfl rfl ?_
  refine W_lenv rfl Go.Proofs.Try.underlying23 rfl h0.ln ?_
  refine W_move rfl rfl ?_
  refine W_nil ?_
  refine N_code ?_
  refine C_block ?_
  refine C_loopM (fun (s : (List Int) × Int) E wq => ∃ (F5 : Frz) (u7 : Value), E = [(3, u7), (6, v0), (7, .int .i64 (x0.length : Int)), (8, .int .i64 s.2)] ∧ F.le F5 ∧ St [] w F F5 [.row tI 3 u7 s.1] wq) H ?_ ?_
  ·
   have hS28 := hS.nilRow tI 3
   exact ⟨_, ⟨F, (.slice none 0 0), rfl, (Frz.le.refl _), hS28⟩, ⟨rfl, rfl, rfl, rfl, trivial⟩⟩
  ·
   rintro rec10 ⟨l6, i9⟩ E w5 hI H
   try dsimp only at hI
   obtain ⟨F5, u7, rfl, le5, hS5⟩ := hI
   dsimp only [plan_Vols.l2] at H
   refine C_seq ?_
   refine C_region ?_
   refine W_lss rfl rfl rfl ?_
   refine W_nil ?_
   refine N_code ?_
   refine C_seq ?_
   refine C_cond rfl (fun hc11 => ?_) (fun hc11 => ?_)
   ·
    rw [if_t hc11] at H
    refine C_skip ?_
    refine N_code ?_
    refine C_seq_join (fun E wq => ∃ l13 : List Int, plan_Vols.k3 i9 rec10 l13 = some r ∧ ∃ (F12 : Frz) (u14 : Value), E = [(3, u14), (6, v0), (7, .int .i64 (x0.length : Int)), (8, .int .i64 i9)] ∧ F5.le F12 ∧ St [] w F F12 [.row tI 3 u14 l13] wq) ?_ ?_
    ·
     refine C_block ?_
     refine C_seq ?_
     obtain ⟨x16, hx16, H⟩ := bd_some H
     refine C_region ?_
     obtain ⟨hp19, hy19⟩ := ix_some hx16
     obtain ⟨cs19, hr19, he19⟩ := (h0.mono le5).at_ hy19
     obtain rfl := hr19
     replace he19 : Elf _ _ 5 _ _ := he19
     refine W_ix rfl Go.Proofs.Try.underlying23 Ty.cells39 Ty.info39 rfl rfl (he19.el hS5.agree) hp19 rfl ?_
     refine W_ldg 0 ((Read.cells x16)) rfl Ty.agg39 Ty.size39 rfl (he19.el hS5.agree) (by omega) (fun q u h => sub_at (post := []) rfl h) ?_
     refine W_alc (cs := [.int .i64 0, .int .i64 0, .int .i64 0, .int .i64 0, .int .i64 0]) rfl Ty.zero39 rfl hS5 ?_
     intro g18 w18 hS18
     refine W_bst (c := [.int .i64 x16.want, .int .i64 x16.loc.vol, .int .i64 x16.loc.file, .int .i64 x16.loc.off, .int .i64 x16.loc.len]) 0 ([.int .i64 x16.want, .int .i64 x16.loc.vol, .int .i64 x16.loc.file, .int .i64 x16.loc.off, .int .i64 x16.loc.len]) rfl rfl hS18 rfl rfl Ty.size39 (fun y hy => Read.t.one (F := F5) (x := x16) rfl y hy) (Nat.le_of_ble_eq_true rfl) rfl ?_
     intro w20 hS20
     refine W_nil ?_
     refine N_code ?_
     refine C_seq ?_
     obtain ⟨r21, hr21, H⟩ := bd_some H
     refine C_region ?_
     refine W_move rfl rfl ?_
     refine W_field_pl 1 rfl Ty.field39_1 rfl ?_
     refine W_field_pl 0 rfl Ty.field37_0 rfl ?_
     refine W_bld1 0 rfl Ty.cell3 rfl hS20 rfl rfl ?_
     refine W_call rfl Ty.named50 rfl (slices_Contains_int_int_ok (now_agree _) (hS20.rowNow (k := 1) rfl) hr21) ?_
     rintro v22 w22 ⟨Fr21, rfl, hT22⟩
     have hS22 := hS20.lent hT22
     refine W_not rfl rfl ?_
     refine W_nil ?_
     refine N_code ?_
     refine C_cond rfl (fun hc23 => ?_) (fun hc23 => ?_)
     ·
      rw [if_t hc23] at H
      obtain ⟨l25, hl25, H⟩ := bd_some H
      refine C_region ?_
      refine W_move rfl rfl ?_
      refine W_field_pl 1 rfl Ty.field39_1 rfl ?_
      refine W_field_pl 0 rfl Ty.field37_0 rfl ?_
      refine W_bld1 0 rfl Ty.cell3 rfl hS22 rfl rfl ?_
      refine W_bs (t := tI) [[.int .i64 x16.loc.vol]] [x16.loc.vol] rfl Go.Proofs.Try.underlying22 Ty.cells3 rfl rfl Ty.zero3 rfl rfl ⟨rfl, trivial⟩ rfl rfl hS22 ?_
      intro u24 w24 hS24
      refine W_appM 2 rfl Go.Proofs.Try.underlying22 Ty.row3 rfl rfl rfl rfl rfl hS24 rfl (hS24.rowSrc (j := 0) rfl) hl25 ?_
      intro v26 w26 hS26
      refine W_assign rfl rfl ?_
      refine W_nil ?_
      refine N_block ?_
      exact N_join _ ⟨l25, H, ⟨F5, v26, rfl, (Frz.le.refl _), hS26.pick [2] (by decide)⟩⟩ ⟨rfl, rfl, rfl, rfl, trivial⟩
     ·
      rw [if_f hc23] at H
      refine C_skip ?_
      refine N_block ?_
      exact N_join _ ⟨l6, H, ⟨F5, u7, rfl, (Frz.le.refl _), hS22.pick [1] (by decide)⟩⟩ ⟨rfl, rfl, rfl, rfl, trivial⟩
    ·
     rintro E w12 ⟨l13, H, F12, u14, rfl, le12, hS12⟩
     dsimp only [plan_Vols.k3] at H
     refine C_region ?_
     refine W_add rfl rfl rfl rfl ?_
     refine W_move rfl rfl ?_
     refine W_nil ?_
     exact N_againM (l13, wr (i9 + 1)) _ H ⟨F12, u14, rfl, (le5.trans le12), hS12⟩ ⟨rfl, rfl, rfl, rfl, trivial⟩
   ·
    rw [if_f hc11] at H
    refine C_exit _ rfl ?_
    exact N_join _ ⟨l6, H, ⟨F5, u7, rfl, le5, hS5⟩⟩ ⟨rfl, trivial⟩
 ·
  rintro E w1 ⟨l2, H, F1, u3, rfl, le1, hS1⟩
  dsimp only [plan_Vols.k1] at H
  refine C_seq ?_
  refine C_region ?_
  refine W_move rfl rfl ?_
  refine W_assign rfl rfl ?_
  refine W_nil ?_
  refine N_code ?_
  obtain rfl := Option.some.inj H
  refine C_ret rfl rfl ?_
  exact ⟨F1, u3, rfl, hS1⟩

def slices_Clone_api_Loc_api_Loc (x0 : List Loc) : Option (List Loc) :=
  bd (app (α := Loc) ([] : List Loc) x0) fun l6 =>
  some l6

theorem slices_Clone_api_Loc_api_Loc_ok {F : Frz} {w : World} {x0 : List Loc} {r : (List Loc)} {v0 : Value} (hA : Agree F w.heap) (h0 : SlF Loc.t F v0 x0) (H : slices_Clone_api_Loc_api_Loc x0 = some r) : Ret Try.prog 47 #[v0] w fun v w' => ∃ (F' : Frz) (q0 : Value), v = q0 ∧ St [] w F F' [.row Loc.t 37 q0 (r)] w' := by
 refine Ret_of (args := [v0]) Go.Proofs.Try.func47 rfl rfl ?_
 change C _ _ _ _ [(0, v0)] _
 have hS := St.entry hA
 dsimp only [slices_Clone_api_Loc_api_Loc] at H
 refine C_seq ?_
 refine C_region ?_
 refine W_assign rfl rfl ?_
 refine W_nil ?_
 refine N_code ?_
 refine C_seq ?_
 refine C_seq ?_
 refine C_region ?_
 refine W_move rfl rfl ?_
 refine W_nilq rfl Go.Proofs.Try.underlying49 rfl h0.ln ?_
 intro b1 hb1
 refine W_nil ?_
 refine N_code ?_
 refine C_cond rfl (fun hc2 => ?_) (fun hc2 => ?_)
 ·
  have hx2 : x0 = [] := List.eq_nil_of_length_eq_zero (hb1 hc2)
  have H : (some [] : Option (List Loc)) = some r := by first | (rw [hx2] at H; exact H) | (subst hx2; exact H)
  refine C_seq ?_
  refine C_region ?_
  refine W_assign rfl rfl ?_
  refine W_nil ?_
  refine N_code ?_
  have hS4 := hS.nilRow Loc.t 37
  obtain rfl := Option.some.inj H
  refine C_ret rfl rfl ?_
  exact ⟨F, (.slice none 0 0), rfl, hS4⟩
 ·
  refine C_skip ?_
  refine N_code ?_
  refine C_seq ?_
  obtain ⟨l6, hl6, H⟩ := bd_some H
  refine C_region ?_
  refine W_bs (t := Loc.t) [] ([] : List Loc) rfl Go.Proofs.Try.underlying49 Ty.cells37 rfl rfl Ty.zero37 rfl rfl trivial rfl rfl hS ?_
  intro u5 w5 hS5
  refine W_move rfl rfl ?_
  refine W_appM 0 rfl Go.Proofs.Try.underlying49 Ty.row37 rfl rfl rfl rfl rfl hS5 rfl (h0.src hS5.agree) hl6 ?_
  intro v7 w7 hS7
  refine W_assign rfl rfl ?_
  refine W_nil ?_
  refine N_code ?_
  obtain rfl := Option.some.inj H
  refine C_ret rfl rfl ?_
  exact ⟨F, v7, rfl, hS7⟩

def slices_Compact_api_Loc_api_Loc.k1 (x0 : List Loc) : Option (List Loc) :=
  some x0


def slices_Compact_api_Loc_api_Loc.k3 (i4 : Int) (rec5 : Int → Option (List Loc)) : Option (List Loc) :=
  rec5 (wr (i4 + 1))


def slices_Compact_api_Loc_api_Loc.k4 (i28 : Int) (l29 : List Loc) : Option (List Loc) :=
  bd (cut (α := Loc) l29 i28 (l29.length : Int)) fun l30 =>
  bd (clr l29 i28.toNat ((l29.length : Int).toNat - i28.toNat) (Loc.mk 0 0 0 0)) fun l32 =>
  bd (cut (α := Loc) l32 0 i28) fun l34 =>
  some l34


def slices_Compact_api_Loc_api_Loc.k6 (i39 : Int) (rec41 : (Int × Int × (List Loc)) → Option (List Loc)) (i44 : Int) (l45 : List Loc) : Option (List Loc) :=
  rec41 (i44, wr (i39 + 1), l45)


def slices_Compact_api_Loc_api_Loc.l5 (x0 : List Loc) (i4 : Int) (rec41 : (Int × Int × (List Loc)) → Option (List Loc)) : (Int × Int × (List Loc)) → Option (List Loc)
  | (i38, i39, l40) =>
    if decide (i39 < (((x0.length : Int).toNat - i4.toNat : Nat) : Int)) then
      bd (ixp l40 i4.toNat ((x0.length : Int).toNat - i4.toNat) i39) fun x46 =>
      bd (ixp l40 i4.toNat ((x0.length : Int).toNat - i4.toNat) (wr (i39 - 1))) fun x48 =>
      if (!decide (x46 = x48)) then
        bd (ixp l40 i4.toNat ((x0.length : Int).toNat - i4.toNat) i39) fun x63 =>
        bd (ix l40 i38) fun x65 =>
        slices_Compact_api_Loc_api_Loc.k6 i39 rec41 (wr (i38 + 1)) (l40.set i38.toNat x63)
      else
        slices_Compact_api_Loc_api_Loc.k6 i39 rec41 i38 l40
    else
      slices_Compact_api_Loc_api_Loc.k4 i38 l40


def slices_Compact_api_Loc_api_Loc.l2 (x0 : List Loc) (rec5 : Int → Option (List Loc)) : Int → Option (List Loc)
  | i4 =>
    if decide (i4 < (x0.length : Int)) then
      bd (ix x0 i4) fun x8 =>
      bd (ix x0 (wr (i4 - 1))) fun x10 =>
      if decide (x8 = x10) then
        bd (cut (α := Loc) x0 i4 (x0.length : Int)) fun l25 =>
        loop (slices_Compact_api_Loc_api_Loc.l5 x0 i4) (i4, 1, x0)
      else
        slices_Compact_api_Loc_api_Loc.k3 i4 rec5
    else
      slices_Compact_api_Loc_api_Loc.k1 x0

def slices_Compact_api_Loc_api_Loc (x0 : List Loc) : Option (List Loc) :=
  if decide ((x0.length : Int) < 2) then
    some x0
  else
    loop (slices_Compact_api_Loc_api_Loc.l2 x0) 1

theorem slices_Compact_api_Loc_api_Loc_ok {F : Frz} {w : World} {x0 : List Loc} {r : (List Loc)} {v0 : Value} (hS : St v0.ownBlock.toList w F F [.row Loc.t 37 v0 x0] w) (H : slices_Compact_api_Loc_api_Loc x0 = some r) : Ret Try.prog 49 #[v0] w fun v w' => ∃ (F' : Frz) (q0 : Value), v = q0 ∧ St v0.ownBlock.toList w F F' [.row Loc.t 37 q0 (r)] w' := by
 refine Ret_of (args := [v0]) Go.Proofs.Try.func49 rfl rfl ?_
 change C _ _ _ _ [(0, v0)] _
 dsimp only [slices_Compact_api_Loc_api_Loc] at H
 refine C_seq ?_
 refine C_region ?_
 refine W_assign rfl rfl ?_
 refine W_nil ?_
 refine N_code ?_
 refine C_seq ?_
 refine C_seq ?_
 refine C_region ?_
 refine W_move rfl rfl ?_
 refine W_lenv rfl Go.Proofs.Try.underlying49 rfl (hS.rowLn (k := 0) rfl) ?_
 refine W_lss rfl rfl rfl ?_
 refine W_nil ?_
 refine N_code ?_
 refine C_cond rfl (fun hc1 => ?_) (fun hc1 => ?_)
 ·
  rw [if_t hc1] at H
  refine C_seq ?_
  refine C_region ?_
  refine W_move rfl rfl ?_
  refine W_assign rfl rfl ?_
  refine W_nil ?_
  refine N_code ?_
  obtain rfl := Option.some.inj H
  refine C_ret rfl rfl ?_
  exact ⟨F, v0, rfl, hS⟩
 ·
  rw [if_f hc1] at H
  refine C_skip ?_
  refine N_code ?_
  refine C_seq_join (fun E wq => slices_Compact_api_Loc_api_Loc.k1 x0 = some r ∧ ∃ (F2 : Frz), E = [(0, v0)] ∧ F.le F2 ∧ St v0.ownBlock.toList w F F2 [.row Loc.t 37 v0 x0] wq) ?_ ?_
  ·
   refine C_seq ?_
   refine C_region ?_
   refine W_assign rfl rfl ?_
   refine W_nil ?_
   refine N_code ?_
   refine C_block ?_
   refine C_loopM (fun (s : Int) E wq => ∃ (F3 : Frz), E = [(0, v0), (3, .int .i64 s)] ∧ F.le F3 ∧ St v0.ownBlock.toList w F F3 [.row Loc.t 37 v0 x0] wq) H ?_ ?_
   ·
    exact ⟨_, ⟨F, rfl, (Frz.le.refl _), hS⟩, ⟨rfl, rfl, trivial⟩⟩
   ·
    rintro rec5 i4 E w3 hI H
    try dsimp only at hI
    obtain ⟨F3, rfl, le3, hS3⟩ := hI
    dsimp only [slices_Compact_api_Loc_api_Loc.l2] at H
    refine C_seq ?_
    refine C_seq ?_
    refine C_region ?_
    refine W_move rfl rfl ?_
    refine W_move rfl rfl ?_
    refine W_lenv rfl Go.Proofs.Try.underlying49 rfl (hS3.rowLn (k := 0) rfl) ?_
    refine W_lss rfl rfl rfl ?_
    refine W_nil ?_
    refine N_code ?_
    refine C_cond rfl (fun hc6 => ?_) (fun hc6 => ?_)
    ·
     rw [if_t hc6] at H
     refine C_skip ?_
     refine N_code ?_
     refine C_seq_join (fun E wq => slices_Compact_api_Loc_api_Loc.k3 i4 rec5 = some r ∧ ∃ (F7 : Frz), E = [(0, v0), (3, .int .i64 i4)] ∧ F3.le F7 ∧ St v0.ownBlock.toList w F F7 [.row Loc.t 37 v0 x0] wq) ?_ ?_
     ·
      refine C_block ?_
      refine C_seq ?_
      obtain ⟨x8, hx8, H⟩ := bd_some H
      obtain ⟨x10, hx10, H⟩ := bd_some H
      obtain ⟨hp12, hy12⟩ := ix_some hx8
      obtain ⟨cs12, hr12, he12⟩ := hS3.rowAt (k := 0) rfl hy12
      obtain rfl := hr12
      replace he12 : El _ _ 4 _ _ := he12
      obtain ⟨hp13, hy13⟩ := ix_some hx10
      obtain ⟨cs13, hr13, he13⟩ := hS3.rowAt (k := 0) rfl hy13
      obtain rfl := hr13
      replace he13 : El _ _ 4 _ _ := he13
      apply C_draw 9 [[], [], [0, 1], [2], [], [], [5], [4, 6], [7]] [.val (v0), .val (.int .i64 i4), .val (elp v0 (i4.toNat * 4)), .val (.agg (Loc.cells x8).toArray), .val (v0), .val (.int .i64 i4), .val (.int .i64 (wr (i4 - 1))), .val (elp v0 ((wr (i4 - 1)).toNat * 4)), .val (.agg (Loc.cells x10).toArray)] Ty.mixed rfl rfl (by kernel_rfl) (by kernel_rfl) rfl
      ·
       refine ⟨?_, ?_, ?_, ?_, ?_, ?_, ?_, ?_, ?_, trivial⟩
       ·
        intro w14 vq14 hB14 hH14
        have hS14 := hS3.below hB14
        refine W_move rfl rfl ?_
        refine W_nil ?_
        exact N_step rfl rfl (Below.refl _ _)
       ·
        intro w15 vq15 hB15 hH15
        have hS15 := hS3.below hB15
        refine W_move rfl rfl ?_
        refine W_nil ?_
        exact N_step rfl rfl (Below.refl _ _)
       ·
        intro w16 vq16 hB16 hH16
        have hS16 := hS3.below hB16
        refine W_ix rfl Go.Proofs.Try.underlying49 Ty.cells37 Ty.info37 rfl rfl (he12.below hB16) hp12 rfl ?_
        refine W_nil ?_
        exact N_step rfl rfl (Below.refl _ _)
       ·
        intro w17 vq17 hB17 hH17
        have hS17 := hS3.below hB17
        refine W_ldg 0 ((Loc.cells x8)) rfl Ty.agg37 Ty.size37 rfl (he12.below hB17) (by omega) (fun q u h => sub_at (post := []) rfl h) ?_
        refine W_nil ?_
        exact N_step rfl rfl (Below.refl _ _)
       ·
        intro w18 vq18 hB18 hH18
        have hS18 := hS3.below hB18
        refine W_move rfl rfl ?_
        refine W_nil ?_
        exact N_step rfl rfl (Below.refl _ _)
       ·
        intro w19 vq19 hB19 hH19
        have hS19 := hS3.below hB19
        refine W_move rfl rfl ?_
        refine W_nil ?_
        exact N_step rfl rfl (Below.refl _ _)
       ·
        intro w20 vq20 hB20 hH20
        have hS20 := hS3.below hB20
        refine W_subi rfl rfl rfl rfl ?_
        refine W_nil ?_
        exact N_step rfl rfl (Below.refl _ _)
       ·
        intro w21 vq21 hB21 hH21
        have hS21 := hS3.below hB21
        refine W_ix rfl Go.Proofs.Try.underlying49 Ty.cells37 Ty.info37 rfl rfl (he13.below hB21) hp13 rfl ?_
        refine W_nil ?_
        exact N_step rfl rfl (Below.refl _ _)
       ·
        intro w22 vq22 hB22 hH22
        have hS22 := hS3.below hB22
        refine W_ldg 0 ((Loc.cells x10)) rfl Ty.agg37 Ty.size37 rfl (he13.below hB22) (by omega) (fun q u h => sub_at (post := []) rfl h) ?_
        refine W_nil ?_
        exact N_step rfl rfl (Below.refl _ _)
      intro w23 vq23 hB23 hH23
      have hS23 := hS3.below hB23
      refine W_eql_agg rfl Ty.eqg37 rfl rfl (eq_Loc _ _ _) ?_
      refine W_nil ?_
      refine N_code ?_
      refine C_cond rfl (fun hc24 => ?_) (fun hc24 => ?_)
      ·
       rw [if_t hc24] at H
       refine C_seq ?_
       obtain ⟨l25, hl25, H⟩ := bd_some H
       refine C_region ?_
       refine W_move rfl rfl ?_
       refine W_move rfl rfl ?_
       refine W_cutR 0 i4 (x0.length : Int) rfl Go.Proofs.Try.underlying49 Ty.cells37 Ty.info37 rfl ⟨_, rfl⟩ rfl hS23 rfl hl25 ?_
       intro q26 hv26 hw26
       refine W_assign rfl rfl ?_
       refine W_nil ?_
       refine N_code ?_
       refine C_seq_join (fun E wq => ∃ i28 : Int, ∃ l29 : List Loc, slices_Compact_api_Loc_api_Loc.k4 i28 l29 = some r ∧ ∃ (F27 : Frz), E = [(0, v0), (3, .int .i64 i28)] ∧ F3.le F27 ∧ St v0.ownBlock.toList w F F27 [.row Loc.t 37 v0 l29] wq) ?_ ?_
       ·
        refine C_seq ?_
        refine C_region ?_
        refine W_assign rfl rfl ?_
        refine W_nil ?_
        refine N_code ?_
        refine C_block ?_
        refine C_loopM (fun (s : Int × Int × (List Loc)) E wq => ∃ (F37 : Frz), E = [(0, v0), (3, .int .i64 s.1), (4, q26), (5, .int .i64 s.2.1)] ∧ F3.le F37 ∧ St v0.ownBlock.toList w F F37 [.row Loc.t 37 v0 s.2.2] wq) H ?_ ?_
        ·
         exact ⟨_, ⟨F3, rfl, (Frz.le.refl _), hS23⟩, ⟨rfl, rfl, rfl, rfl, trivial⟩⟩
        ·
         rintro rec41 ⟨i38, i39, l40⟩ E w37 hI H
         try dsimp only at hI
         obtain ⟨F37, rfl, le37, hS37⟩ := hI
         dsimp only [slices_Compact_api_Loc_api_Loc.l5] at H
         refine C_seq ?_
         refine C_seq ?_
         refine C_region ?_
         refine W_move rfl rfl ?_
         refine W_move rfl rfl ?_
         refine W_lenv rfl Go.Proofs.Try.underlying49 rfl hw26.ln ?_
         refine W_lss rfl rfl rfl ?_
         refine W_nil ?_
         refine N_code ?_
         refine C_cond rfl (fun hc42 => ?_) (fun hc42 => ?_)
         ·
          rw [if_t hc42] at H
          refine C_skip ?_
          refine N_code ?_
          refine C_seq_join (fun E wq => ∃ i44 : Int, ∃ l45 : List Loc, slices_Compact_api_Loc_api_Loc.k6 i39 rec41 i44 l45 = some r ∧ ∃ (F43 : Frz), E = [(0, v0), (3, .int .i64 i44), (4, q26), (5, .int .i64 i39)] ∧ F37.le F43 ∧ St v0.ownBlock.toList w F F43 [.row Loc.t 37 v0 l45] wq) ?_ ?_
          ·
           refine C_block ?_
           refine C_seq ?_
           obtain ⟨x46, hx46, H⟩ := bd_some H
           obtain ⟨x48, hx48, H⟩ := bd_some H
           obtain ⟨hp50, hz50, hy50⟩ := ixp_some hx46
           obtain ⟨cs50, hr50, he50⟩ := hS37.rowAt (k := 0) rfl hy50
           obtain rfl := hr50
           replace he50 := he50.piece hw26 hz50
           replace he50 : El _ _ 4 _ _ := he50
           obtain ⟨hp51, hz51, hy51⟩ := ixp_some hx48
           obtain ⟨cs51, hr51, he51⟩ := hS37.rowAt (k := 0) rfl hy51
           obtain rfl := hr51
           replace he51 := he51.piece hw26 hz51
           replace he51 : El _ _ 4 _ _ := he51
           apply C_draw 9 [[], [], [0, 1], [2], [], [], [5], [4, 6], [7]] [.val (q26), .val (.int .i64 i39), .val (elp q26 (i39.toNat * 4)), .val (.agg (Loc.cells x46).toArray), .val (q26), .val (.int .i64 i39), .val (.int .i64 (wr (i39 - 1))), .val (elp q26 ((wr (i39 - 1)).toNat * 4)), .val (.agg (Loc.cells x48).toArray)] Ty.mixed rfl rfl (by kernel_rfl) (by kernel_rfl) rfl
           ·
            refine ⟨?_, ?_, ?_, ?_, ?_, ?_, ?_, ?_, ?_, trivial⟩
            ·
             intro w52 vq52 hB52 hH52
             have hS52 := hS37.below hB52
             refine W_move rfl rfl ?_
             refine W_nil ?_
             exact N_step rfl rfl (Below.refl _ _)
            ·
             intro w53 vq53 hB53 hH53
             have hS53 := hS37.below hB53
             refine W_move rfl rfl ?_
             refine W_nil ?_
             exact N_step rfl rfl (Below.refl _ _)
            ·
             intro w54 vq54 hB54 hH54
             have hS54 := hS37.below hB54
             refine W_ix rfl Go.Proofs.Try.underlying49 Ty.cells37 Ty.info37 rfl rfl (he50.below hB54) hp50 rfl ?_
             refine W_nil ?_
             exact N_step rfl rfl (Below.refl _ _)
            ·
             intro w55 vq55 hB55 hH55
             have hS55 := hS37.below hB55
             refine W_ldg 0 ((Loc.cells x46)) rfl Ty.agg37 Ty.size37 rfl (he50.below hB55) (by omega) (fun q u h => sub_at (post := []) rfl h) ?_
             refine W_nil ?_
             exact N_step rfl rfl (Below.refl _ _)
            ·
             intro w56 vq56 hB56 hH56
             have hS56 := hS37.below hB56
             refine W_move rfl rfl ?_
             refine W_nil ?_
             exact N_step rfl rfl (Below.refl _ _)
            ·
             intro w57 vq57 hB57 hH57
             have hS57 := hS37.below hB57
             refine W_move rfl rfl ?_
             refine W_nil ?_
             exact N_step rfl rfl (Below.refl _ _)
            ·
             intro w58 vq58 hB58 hH58
             have hS58 := hS37.below hB58
             refine W_subi rfl rfl rfl rfl ?_
             refine W_nil ?_
             exact N_step rfl rfl (Below.refl _ _)
            ·
             intro w59 vq59 hB59 hH59
             have hS59 := hS37.below hB59
             refine W_ix rfl Go.Proofs.Try.underlying49 Ty.cells37 Ty.info37 rfl rfl (he51.below hB59) hp51 rfl ?_
             refine W_nil ?_
             exact N_step rfl rfl (Below.refl _ _)
            ·
             intro w60 vq60 hB60 hH60
             have hS60 := hS37.below hB60
             refine W_ldg 0 ((Loc.cells x48)) rfl Ty.agg37 Ty.size37 rfl (he51.below hB60) (by omega) (fun q u h => sub_at (post := []) rfl h) ?_
             refine W_nil ?_
             exact N_step rfl rfl (Below.refl _ _)
           intro w61 vq61 hB61 hH61
           have hS61 := hS37.below hB61
           refine W_neq_agg rfl Ty.eqg37 rfl rfl (eq_Loc _ _ _) ?_
           refine W_nil ?_
           refine N_code ?_
           refine C_cond rfl (fun hc62 => ?_) (fun hc62 => ?_)
           ·
            rw [if_t hc62] at H
            refine C_seq ?_
            obtain ⟨x63, hx63, H⟩ := bd_some H
            obtain ⟨x65, hx65, H⟩ := bd_some H
            refine C_region ?_
            refine W_move rfl rfl ?_
            refine W_move rfl rfl ?_
            refine W_move rfl rfl ?_
            refine W_move rfl rfl ?_
            obtain ⟨hp67, hz67, hy67⟩ := ixp_some hx63
            obtain ⟨cs67, hr67, he67⟩ := hS61.rowAt (k := 0) rfl hy67
            obtain rfl := hr67
            replace he67 := he67.piece hw26 hz67
            replace he67 : El _ _ 4 _ _ := he67
            refine W_ix rfl Go.Proofs.Try.underlying49 Ty.cells37 Ty.info37 rfl rfl he67 hp67 rfl ?_
            refine W_ldg 0 ((Loc.cells x63)) rfl Ty.agg37 Ty.size37 rfl he67 (by omega) (fun q u h => sub_at (post := []) rfl h) ?_
            obtain ⟨hp68, hy68⟩ := ix_some hx65
            obtain ⟨cs68, hr68, he68⟩ := hS61.rowAt (k := 0) rfl hy68
            obtain rfl := hr68
            replace he68 : El _ _ 4 _ _ := he68
            refine W_ix rfl Go.Proofs.Try.underlying49 Ty.cells37 Ty.info37 rfl rfl he68 hp68 rfl ?_
            refine W_put (c := [.int .i64 x63.vol, .int .i64 x63.file, .int .i64 x63.off, .int .i64 x63.len]) 0 (i38.toNat) 0 x65 x63 rfl rfl hS61 rfl (ix_some hx65).2 (by first | rfl | (show _ = _ * 4 + _; omega)) rfl Ty.size37 (fun y hy => Loc.t.one (F := F37) (x := x63) rfl y hy) (by first | decide | exact Nat.le_of_ble_eq_true rfl) (by rintro cs rfl; rfl) ?_
            intro w69 hS69
            refine W_nil ?_
            refine N_code ?_
            refine C_region ?_
            refine W_move rfl rfl ?_
            refine W_add rfl rfl rfl rfl ?_
            refine W_assign rfl rfl ?_
            refine W_nil ?_
            refine N_block ?_
            exact N_join _ ⟨wr (i38 + 1), (l40.set i38.toNat x63), H, ⟨F37, rfl, (Frz.le.refl _), hS69⟩⟩ ⟨rfl, rfl, rfl, rfl, trivial⟩
           ·
            rw [if_f hc62] at H
            refine C_skip ?_
            refine N_block ?_
            exact N_join _ ⟨i38, l40, H, ⟨F37, rfl, (Frz.le.refl _), hS61⟩⟩ ⟨rfl, rfl, rfl, rfl, trivial⟩
          ·
           rintro E w43 ⟨i44, l45, H, F43, rfl, le43, hS43⟩
           dsimp only [slices_Compact_api_Loc_api_Loc.k6] at H
           refine C_region ?_
           refine W_move rfl rfl ?_
           refine W_add rfl rfl rfl rfl ?_
           refine W_assign rfl rfl ?_
           refine W_nil ?_
           exact N_againM (i44, wr (i39 + 1), l45) _ H ⟨F43, rfl, (le37.trans le43), hS43⟩ ⟨rfl, rfl, rfl, rfl, trivial⟩
         ·
          rw [if_f hc42] at H
          refine C_exit _ rfl ?_
          exact N_join _ ⟨i38, l40, H, ⟨F37, rfl, le37, hS37⟩⟩ ⟨rfl, rfl, trivial⟩
       ·
        rintro E w27 ⟨i28, l29, H, F27, rfl, le27, hS27⟩
        dsimp only [slices_Compact_api_Loc_api_Loc.k4] at H
        refine C_seq ?_
        obtain ⟨l30, hl30, H⟩ := bd_some H
        obtain ⟨l32, hl32, H⟩ := bd_some H
        refine C_region ?_
        refine W_move rfl rfl ?_
        refine W_move rfl rfl ?_
        refine W_cutR 0 i28 (l29.length : Int) rfl Go.Proofs.Try.underlying49 Ty.cells37 Ty.info37 rfl ⟨_, rfl⟩ rfl hS27 rfl hl30 ?_
        intro q31 hv31 hw31
        refine W_clr (x0 := (Loc.mk 0 0 0 0)) 0 Go.Proofs.Try.underlying49 Ty.zero37 rfl rfl hS27 rfl hw31 hl32 ?_
        intro w33 hS33
        refine W_nil ?_
        refine N_code ?_
        refine C_seq ?_
        obtain ⟨l34, hl34, H⟩ := bd_some H
        refine C_region ?_
        refine W_move rfl rfl ?_
        refine W_move rfl rfl ?_
        refine W_cutR 0 0 i28 rfl Go.Proofs.Try.underlying49 Ty.cells37 Ty.info37 rfl rfl ⟨_, rfl⟩ hS33 rfl hl34 ?_
        intro q35 hv35 hw35
        refine W_assign rfl rfl ?_
        refine W_nil ?_
        refine N_code ?_
        have hS36 := hS33.shrink 0 rfl hw35 hl34
        obtain rfl := Option.some.inj H
        refine C_ret rfl rfl ?_
        exact ⟨F27, q35, rfl, hS36⟩
      ·
       rw [if_f hc24] at H
       refine C_skip ?_
       refine N_block ?_
       exact N_join _ ⟨H, ⟨F3, rfl, (Frz.le.refl _), hS23⟩⟩ ⟨rfl, rfl, trivial⟩
     ·
      rintro E w7 ⟨H, F7, rfl, le7, hS7⟩
      dsimp only [slices_Compact_api_Loc_api_Loc.k3] at H
      refine C_region ?_
      refine W_move rfl rfl ?_
      refine W_add rfl rfl rfl rfl ?_
      refine W_assign rfl rfl ?_
      refine W_nil ?_
      exact N_againM (wr (i4 + 1)) _ H ⟨F7, rfl, (le3.trans le7), hS7⟩ ⟨rfl, rfl, trivial⟩
    ·
     rw [if_f hc6] at H
     refine C_exit _ rfl ?_
     exact N_join _ ⟨H, ⟨F3, rfl, le3, hS3⟩⟩ ⟨rfl, trivial⟩
  ·
   rintro E w2 ⟨H, F2, rfl, le2, hS2⟩
   dsimp only [slices_Compact_api_Loc_api_Loc.k1] at H
   refine C_seq ?_
   refine C_region ?_
   refine W_move rfl rfl ?_
   refine W_assign rfl rfl ?_
   refine W_nil ?_
   refine N_code ?_
   obtain rfl := Option.some.inj H
   refine C_ret rfl rfl ?_
   exact ⟨F2, v0, rfl, hS2⟩

def plan_Sort (x0 : List Loc) : Option (List Loc) :=
  bd (slices_Clone_api_Loc_api_Loc x0) fun r1 =>
  bd (sortM ordLoc r1) fun r3 =>
  bd (slices_Compact_api_Loc_api_Loc r3) fun r5 =>
  bd (slices_Clone_api_Loc_api_Loc r5) fun r6 =>
  some r6

theorem plan_Sort_ok {F : Frz} {w : World} {x0 : List Loc} {r : (List Loc)} {v0 : Value} (hA : Agree F w.heap) (h0 : SlF Loc.t F v0 x0) (H : plan_Sort x0 = some r) : Ret Try.prog 29 #[v0] w fun v w' => ∃ (F' : Frz) (q0 : Value), v = q0 ∧ St [] w F F' [.row Loc.t 37 q0 (r)] w' := by
 refine Ret_of (args := [v0]) Go.Proofs.Try.func29 rfl rfl ?_
 change C _ _ _ _ [(0, v0)] _
 have hS := St.entry hA
 dsimp only [plan_Sort] at H
 refine C_seq ?_
 refine C_region ?_
 refine W_assign rfl rfl ?_
 refine W_nil ?_
 refine N_code ?_
 refine C_seq ?_
 obtain ⟨r1, hr1, H⟩ := bd_some H
 refine C_region ?_
 refine W_move rfl rfl ?_
 refine W_call rfl Ty.named47 rfl (slices_Clone_api_Loc_api_Loc_ok hS.agree h0 hr1) ?_
 rintro ur1_0 w2 ⟨Fr1, _, rfl, hT2⟩
 have hS2 := hS.call hT2
 have ler1 := hT2.ext
 refine W_assign rfl rfl ?_
 refine W_nil ?_
 refine N_code ?_
 refine C_seq ?_
 obtain ⟨r3, hr3, H⟩ := bd_some H
 refine C_region ?_
 refine W_move rfl rfl ?_
 refine W_call rfl Ty.named48 rfl (sortLoc_ok (hS2.lendRow 0 rfl) hr3) ?_
 rintro v4 w4 ⟨Fr3, hT4⟩
 have hS4 := hS2.backRow 0 [] rfl (by decide) (by decide) hT4
 have ler3 := hT4.ext
 refine W_nil ?_
 refine N_code ?_
 refine C_seq ?_
 obtain ⟨r5, hr5, H⟩ := bd_some H
 obtain ⟨r6, hr6, H⟩ := bd_some H
 refine C_region ?_
 refine W_move rfl rfl ?_
 refine W_call rfl Ty.named49 rfl (slices_Compact_api_Loc_api_Loc_ok (hS4.lendRow 0 rfl) hr5) ?_
 rintro ur5_0 w7 ⟨Fr5, _, rfl, hT7⟩
 have hS7 := hS4.backRow 0 [] rfl (by decide) (by decide) hT7
 have ler5 := hT7.ext
 refine W_call rfl Ty.named47 rfl (slices_Clone_api_Loc_api_Loc_ok (now_agree _) (hS7.rowNow (k := 0) rfl) hr6) ?_
 rintro ur6_0 w8 ⟨Fr6, _, rfl, hT8⟩
 have hS8 := hS7.lentFlat hT8 ⟨fun h => h, trivial⟩
 refine W_assign rfl rfl ?_
 refine W_nil ?_
 refine N_code ?_
 obtain rfl := Option.some.inj H
 refine C_ret rfl rfl ?_
 exact ⟨Fr5, ur6_0, rfl, hS8.pick [0] (by decide)⟩

def plan_Order.k1 (l2 : List Read) (l5 : List Int) : Option ((List Read) × (List Int)) :=
  bd (sortM ordRead l2) fun r8 =>
  some (r8, l5)


def plan_Order.k3 (i17 : Int) (rec18 : ((List Read) × (List Int) × Int) → Option ((List Read) × (List Int))) (l21 : List Read) (l24 : List Int) : Option ((List Read) × (List Int)) :=
  rec18 (l21, l24, wr (i17 + 1))


def plan_Order.l2 (x0 : List Want) (rec18 : ((List Read) × (List Int) × Int) → Option ((List Read) × (List Int))) : ((List Read) × (List Int) × Int) → Option ((List Read) × (List Int))
  | (l11, l14, i17) =>
    if decide (i17 < (x0.length : Int)) then
      bd (ix x0 i17) fun x27 =>
      if decide ((x27.locs.length : Int) = 0) then
        bd (app (α := Int) l14 [i17]) fun l34 =>
        plan_Order.k3 i17 rec18 l11 l34
      else
        bd (plan_Sort x27.locs) fun r36 =>
        bd (ix r36 0) fun x37 =>
        bd (app (α := Read) l11 [(Read.mk i17 x37)]) fun l40 =>
        plan_Order.k3 i17 rec18 l40 l14
    else
      plan_Order.k1 l11 l14

def plan_Order (x0 : List Want) : Option ((List Read) × (List Int)) :=
  loop (plan_Order.l2 x0) ([], [], 0)

theorem plan_Order_ok {F : Frz} {w : World} {x0 : List Want} {r : (List Read) × (List Int)} {v0 : Value} (hA : Agree F w.heap) (h0 : SlF Want.t F v0 x0) (H : plan_Order x0 = some r) : Ret Try.prog 27 #[v0] w fun v w' => ∃ (F' : Frz) (q0 : Value) (q1 : Value), v = .tuple #[q0, q1] ∧ St [] w F F' [.row Read.t 39 q0 (r.1), .row tI 3 q1 (r.2)] w' := by
 refine Ret_of (args := [v0]) Go.Proofs.Try.func27 rfl rfl ?_
 change C _ _ _ _ [(0, v0)] _
 have hS := St.entry hA
 dsimp only [plan_Order] at H
 refine C_seq ?_
 refine C_region ?_
 refine W_assign rfl rfl ?_
 refine W_assign rfl rfl ?_
 refine W_nil ?_
 refine N_code ?_
 refine C_seq_join (fun E wq => ∃ l2 : List Read, ∃ l5 : List Int, plan_Order.k1 l2 l5 = some r ∧ ∃ (F1 : Frz) (u3 : Value) (u6 : Value), E = [(2, u3), (3, u6)] ∧ F.le F1 ∧ St [] w F F1 [.row Read.t 39 u3 l2, .row tI 3 u6 l5] wq) ?_ ?_
 ·
  refine C_seq ?_
  refine C_region ?_
  refine W_move rfl rfl ?_
  refine W_lenv rfl Go.Proofs.Try.underlying47 rfl h0.ln ?_
  refine W_move rfl rfl ?_
  refine W_nil ?_
  refine N_code ?_
  refine C_block ?_
  refine C_loopM (fun (s : (List Read) × (List Int) × Int) E wq => ∃ (F10 : Frz) (u12 : Value) (u15 : Value), E = [(2, u12), (3, u15), (6, v0), (7, .int .i64 (x0.length : Int)), (8, .int .i64 s.2.2)] ∧ F.le F10 ∧ St [] w F F10 [.row Read.t 39 u12 s.1, .row tI 3 u15 s.2.1] wq) H ?_ ?_
  ·
   have hS45 := hS.nilRow Read.t 39
   have hS47 := hS45.nilRow tI 3
   exact ⟨_, ⟨F, (.slice none 0 0), (.slice none 0 0), rfl, (Frz.le.refl _), hS47.pick [1, 0] (by decide)⟩, ⟨rfl, rfl, rfl, rfl, rfl, trivial⟩⟩
  ·
   rintro rec18 ⟨l11, l14, i17⟩ E w10 hI H
   try dsimp only at hI
   obtain ⟨F10, u12, u15, rfl, le10, hS10⟩ := hI
   dsimp only [plan_Order.l2] at H
   refine C_seq ?_
   refine C_region ?_
   refine W_lss rfl rfl rfl ?_
   refine W_nil ?_
   refine N_code ?_
   refine C_seq ?_
   refine C_cond rfl (fun hc19 => ?_) (fun hc19 => ?_)
   ·
    rw [if_t hc19] at H
    refine C_skip ?_
    refine N_code ?_
    refine C_seq_join (fun E wq => ∃ l21 : List Read, ∃ l24 : List Int, plan_Order.k3 i17 rec18 l21 l24 = some r ∧ ∃ (F20 : Frz) (u22 : Value) (u25 : Value), E = [(2, u22), (3, u25), (6, v0), (7, .int .i64 (x0.length : Int)), (8, .int .i64 i17)] ∧ F10.le F20 ∧ St [] w F F20 [.row Read.t 39 u22 l21, .row tI 3 u25 l24] wq) ?_ ?_
    ·
     refine C_block ?_
     refine C_seq ?_
     obtain ⟨x27, hx27, H⟩ := bd_some H
     refine C_region ?_
     refine W_move rfl rfl ?_
     obtain ⟨hp30, hy30⟩ := ix_some hx27
     obtain ⟨cs30, hr30, he30⟩ := (h0.mono le10).at_ hy30
     obtain ⟨ue28_0, rfl, hle28_0, hue28_0⟩ := hr30
     replace he30 : Elf _ _ 33 _ _ := he30
     refine W_ix rfl Go.Proofs.Try.underlying47 Ty.cells52 Ty.info52 rfl rfl (he30.el hS10.agree) hp30 rfl ?_
     refine W_ldg 0 ((Want.cells x27 ue28_0)) rfl Ty.agg52 Ty.size52 rfl (he30.el hS10.agree) (by omega) (fun q u h => sub_at (post := []) rfl h) ?_
     refine W_alc (cs := idCells (List.replicate 32 (0 : UInt8)) ++ [.slice none 0 0]) rfl Ty.zero52 rfl hS10 ?_
     intro g29 w29 hS29
     refine W_assign rfl rfl ?_
     refine W_bst (c := idCells x27.id ++ [ue28_0]) 0 (idCells x27.id ++ [ue28_0]) rfl rfl hS29 rfl rfl (by rw [Ty.size52]; simp [idCells_len]) (fun y hy => Want.t.one (F := F10) (x := x27) ⟨ue28_0, rfl, hle28_0, hue28_0⟩ y hy) (by simp [idCells_len]) (by simp [idCells_len, List.take_append, List.drop_append, List.take_of_length_le, List.drop_eq_nil_of_le]) ?_
     intro w31 hS31
     refine W_nil ?_
     refine N_code ?_
     refine C_seq ?_
     refine C_seq ?_
     refine C_region ?_
     refine W_field_pl 32 rfl Ty.field52_1 rfl ?_
     refine W_bld1 0 rfl Ty.cell49 rfl hS31 rfl rfl ?_
     refine W_lenv rfl Go.Proofs.Try.underlying49 rfl hue28_0.ln ?_
     refine W_eql rfl rfl rfl ?_
     refine W_nil ?_
     refine N_code ?_
     refine C_cond rfl (fun hc32 => ?_) (fun hc32 => ?_)
     ·
      rw [if_t hc32] at H
      refine C_seq ?_
      obtain ⟨l34, hl34, H⟩ := bd_some H
      refine C_region ?_
      refine W_move rfl rfl ?_
      refine W_move rfl rfl ?_
      refine W_bs (t := tI) [[.int .i64 i17]] [i17] rfl Go.Proofs.Try.underlying22 Ty.cells3 rfl rfl Ty.zero3 rfl rfl ⟨rfl, trivial⟩ rfl rfl hS31 ?_
      intro u33 w33 hS33
      refine W_appM 3 rfl Go.Proofs.Try.underlying22 Ty.row3 rfl rfl rfl rfl rfl hS33 rfl (hS33.rowSrc (j := 0) rfl) hl34 ?_
      intro v35 w35 hS35
      refine W_assign rfl rfl ?_
      refine W_nil ?_
      refine N_code ?_
      refine C_exit _ rfl ?_
      exact N_join _ ⟨l11, l34, H, ⟨F10, u12, v35, rfl, (Frz.le.refl _), hS35.pick [2, 3] (by decide)⟩⟩ ⟨rfl, rfl, rfl, rfl, rfl, trivial⟩
     ·
      rw [if_f hc32] at H
      refine C_skip ?_
      refine N_code ?_
      obtain ⟨r36, hr36, H⟩ := bd_some H
      obtain ⟨x37, hx37, H⟩ := bd_some H
      obtain ⟨l40, hl40, H⟩ := bd_some H
      refine C_region ?_
      refine W_move rfl rfl ?_
      refine W_move rfl rfl ?_
      refine W_field_pl 32 rfl Ty.field52_1 rfl ?_
      refine W_bld1 0 rfl Ty.cell49 rfl hS31 rfl rfl ?_
      refine W_call rfl Ty.named29 rfl (plan_Sort_ok hS31.agree hue28_0 hr36) ?_
      rintro ur36_0 w42 ⟨Fr36, _, rfl, hT42⟩
      have hS42 := hS31.call hT42
      have ler36 := hT42.ext
      obtain ⟨hp43, hy43⟩ := ix_some hx37
      obtain ⟨cs43, hr43, he43⟩ := hS42.rowAt (k := 0) rfl hy43
      obtain rfl := hr43
      replace he43 : El _ _ 4 _ _ := he43
      refine W_ix rfl Go.Proofs.Try.underlying49 Ty.cells37 Ty.info37 rfl rfl he43 hp43 rfl ?_
      refine W_ldg 0 ((Loc.cells x37)) rfl Ty.agg37 Ty.size37 rfl he43 (by omega) (fun q u h => sub_at (post := []) rfl h) ?_
      refine W_build (v := .agg (Read.cells (Read.mk i17 x37)).toArray) rfl rfl (fun _ => by kernel_rfl) ?_
      refine W_bs (t := Read.t) [(Read.cells (Read.mk i17 x37))] [(Read.mk i17 x37)] rfl Go.Proofs.Try.underlying23 Ty.cells39 rfl rfl Ty.zero39 rfl rfl ⟨rfl, trivial⟩ rfl rfl hS42 ?_
      intro u39 w39 hS39
      refine W_appM 3 rfl Go.Proofs.Try.underlying23 Ty.row39 rfl rfl rfl rfl rfl hS39 rfl (hS39.rowSrc (j := 0) rfl) hl40 ?_
      intro v41 w41 hS41
      refine W_assign rfl rfl ?_
      refine W_nil ?_
      refine N_block ?_
      exact N_join _ ⟨l40, l14, H, ⟨Fr36, v41, u15, rfl, ler36, hS41.pick [3, 4] (by decide)⟩⟩ ⟨rfl, rfl, rfl, rfl, rfl, trivial⟩
    ·
     rintro E w20 ⟨l21, l24, H, F20, u22, u25, rfl, le20, hS20⟩
     dsimp only [plan_Order.k3] at H
     refine C_region ?_
     refine W_add rfl rfl rfl rfl ?_
     refine W_move rfl rfl ?_
     refine W_nil ?_
     exact N_againM (l21, l24, wr (i17 + 1)) _ H ⟨F20, u22, u25, rfl, (le10.trans le20), hS20⟩ ⟨rfl, rfl, rfl, rfl, rfl, trivial⟩
   ·
    rw [if_f hc19] at H
    refine C_exit _ rfl ?_
    exact N_join _ ⟨l11, l14, H, ⟨F10, u12, u15, rfl, le10, hS10⟩⟩ ⟨rfl, rfl, trivial⟩
 ·
  rintro E w1 ⟨l2, l5, H, F1, u3, u6, rfl, le1, hS1⟩
  dsimp only [plan_Order.k1] at H
  refine C_seq ?_
  obtain ⟨r8, hr8, H⟩ := bd_some H
  refine C_region ?_
  refine W_move rfl rfl ?_
  refine W_call rfl Ty.named42 rfl (sortRead_ok (hS1.lendRow 0 rfl) hr8) ?_
  rintro v9 w9 ⟨Fr8, hT9⟩
  have hS9 := hS1.backRow 0 [1] rfl (by decide) (by decide) hT9
  have ler8 := hT9.ext
  refine W_nil ?_
  refine N_code ?_
  refine C_seq ?_
  refine C_region ?_
  refine W_move rfl rfl ?_
  refine W_move rfl rfl ?_
  refine W_assign rfl rfl ?_
  refine W_assign rfl rfl ?_
  refine W_nil ?_
  refine N_code ?_
  obtain rfl := Option.some.inj H
  refine C_ret rfl rfl ?_
  exact ⟨Fr8, u3, u6, rfl, hS9⟩

def cellarerkeep_Ints.k1 : Option Bool :=
  some true


def cellarerkeep_Ints.l2 (x0 : List Int) (x1 : List Int) (rec5 : Int → Option Bool) : Int → Option Bool
  | i4 =>
    if decide (i4 < (x0.length : Int)) then
      bd (ix x0 i4) fun x7 =>
      bd (ix x1 i4) fun x9 =>
      if decide (x7 ≠ x9) then
        some false
      else
        rec5 (wr (i4 + 1))
    else
      cellarerkeep_Ints.k1

def cellarerkeep_Ints (x0 : List Int) (x1 : List Int) : Option Bool :=
  if decide ((x0.length : Int) ≠ (x1.length : Int)) then
    some false
  else
    loop (cellarerkeep_Ints.l2 x0 x1) 0

theorem cellarerkeep_Ints_ok {F : Frz} {w : World} {x0 : List Int} {x1 : List Int} {r : Bool} {v0 : Value} {v1 : Value} (hA : Agree F w.heap) (h0 : SlF tI F v0 x0) (h1 : SlF tI F v1 x1) (H : cellarerkeep_Ints x0 x1 = some r) : Ret Try.prog 20 #[v0, v1] w fun v w' => ∃ (F' : Frz), v = .bool r ∧ St [] w F F' [] w' := by
 refine Ret_of (args := [v0, v1]) Go.Proofs.Try.func20 rfl rfl ?_
 change C _ _ _ _ [(0, v0), (1, v1)] _
 have hS := St.entry hA
 dsimp only [cellarerkeep_Ints] at H
 refine C_seq ?_
 refine C_region ?_
 refine W_assign rfl rfl ?_
 refine W_nil ?_
 refine N_code ?_
 refine C_seq ?_
 refine C_seq ?_
 refine C_region ?_
 refine W_move rfl rfl ?_
 refine W_lenv rfl Go.Proofs.Try.underlying22 rfl h0.ln ?_
 refine W_move rfl rfl ?_
 refine W_lenv rfl Go.Proofs.Try.underlying22 rfl h1.ln ?_
 refine W_neq rfl rfl rfl ?_
 refine W_nil ?_
 refine N_code ?_
 refine C_cond rfl (fun hc1 => ?_) (fun hc1 => ?_)
 ·
  rw [if_t hc1] at H
  refine C_seq ?_
  refine C_region ?_
  refine W_assign rfl rfl ?_
  refine W_nil ?_
  refine N_code ?_
  obtain rfl := Option.some.inj H
  refine C_ret rfl rfl ?_
  exact ⟨F, rfl, hS⟩
 ·
  rw [if_f hc1] at H
  refine C_skip ?_
  refine N_code ?_
  refine C_seq_join (fun E wq => cellarerkeep_Ints.k1 = some r ∧ ∃ (F2 : Frz), E = [] ∧ F.le F2 ∧ St [] w F F2 [] wq) ?_ ?_
  ·
   refine C_seq ?_
   refine C_region ?_
   refine W_assign rfl rfl ?_
   refine W_nil ?_
   refine N_code ?_
   refine C_block ?_
   refine C_loopM (fun (s : Int) E wq => ∃ (F3 : Frz), E = [(0, v0), (1, v1), (5, .int .i64 s)] ∧ F.le F3 ∧ St [] w F F3 [] wq) H ?_ ?_
   ·
    exact ⟨_, ⟨F, rfl, (Frz.le.refl _), hS⟩, ⟨rfl, rfl, rfl, trivial⟩⟩
   ·
    rintro rec5 i4 E w3 hI H
    try dsimp only at hI
    obtain ⟨F3, rfl, le3, hS3⟩ := hI
    dsimp only [cellarerkeep_Ints.l2] at H
    refine C_seq ?_
    refine C_seq ?_
    refine C_region ?_
    refine W_move rfl rfl ?_
    refine W_move rfl rfl ?_
    refine W_lenv rfl Go.Proofs.Try.underlying22 rfl h0.ln ?_
    refine W_lss rfl rfl rfl ?_
    refine W_nil ?_
    refine N_code ?_
    refine C_cond rfl (fun hc6 => ?_) (fun hc6 => ?_)
    ·
     rw [if_t hc6] at H
     refine C_skip ?_
     refine N_code ?_
     refine C_seq ?_
     refine C_block ?_
     refine C_seq ?_
     obtain ⟨x7, hx7, H⟩ := bd_some H
     obtain ⟨x9, hx9, H⟩ := bd_some H
     obtain ⟨hp11, hy11⟩ := ix_some hx7
     obtain ⟨cs11, hr11, he11⟩ := (h0.mono le3).at_ hy11
     obtain rfl := hr11
     replace he11 : Elf _ _ 1 _ _ := he11
     obtain ⟨hp12, hy12⟩ := ix_some hx9
     obtain ⟨cs12, hr12, he12⟩ := (h1.mono le3).at_ hy12
     obtain rfl := hr12
     replace he12 : Elf _ _ 1 _ _ := he12
     apply C_draw 8 [[], [], [0, 1], [2], [], [], [4, 5], [6]] [.val (v0), .val (.int .i64 i4), .val (elp v0 (i4.toNat * 1)), .val (.int .i64 x7), .val (v1), .val (.int .i64 i4), .val (elp v1 (i4.toNat * 1)), .val (.int .i64 x9)] Ty.mixed rfl rfl (by kernel_rfl) (by kernel_rfl) rfl
     ·
      refine ⟨?_, ?_, ?_, ?_, ?_, ?_, ?_, ?_, trivial⟩
      ·
       intro w13 vq13 hB13 hH13
       have hS13 := hS3.below hB13
       refine W_move rfl rfl ?_
       refine W_nil ?_
       exact N_step rfl rfl (Below.refl _ _)
      ·
       intro w14 vq14 hB14 hH14
       have hS14 := hS3.below hB14
       refine W_move rfl rfl ?_
       refine W_nil ?_
       exact N_step rfl rfl (Below.refl _ _)
      ·
       intro w15 vq15 hB15 hH15
       have hS15 := hS3.below hB15
       refine W_ix rfl Go.Proofs.Try.underlying22 Ty.cells3 Ty.info3 rfl rfl (he11.el hS15.agree) hp11 rfl ?_
       refine W_nil ?_
       exact N_step rfl rfl (Below.refl _ _)
      ·
       intro w16 vq16 hB16 hH16
       have hS16 := hS3.below hB16
       refine W_ld1 0 rfl Ty.cell3 rfl (he11.el hS16.agree) (by omega) rfl ?_
       refine W_nil ?_
       exact N_step rfl rfl (Below.refl _ _)
      ·
       intro w17 vq17 hB17 hH17
       have hS17 := hS3.below hB17
       refine W_move rfl rfl ?_
       refine W_nil ?_
       exact N_step rfl rfl (Below.refl _ _)
      ·
       intro w18 vq18 hB18 hH18
       have hS18 := hS3.below hB18
       refine W_move rfl rfl ?_
       refine W_nil ?_
       exact N_step rfl rfl (Below.refl _ _)
      ·
       intro w19 vq19 hB19 hH19
       have hS19 := hS3.below hB19
       refine W_ix rfl Go.Proofs.Try.underlying22 Ty.cells3 Ty.info3 rfl rfl (he12.el hS19.agree) hp12 rfl ?_
       refine W_nil ?_
       exact N_step rfl rfl (Below.refl _ _)
      ·
       intro w20 vq20 hB20 hH20
       have hS20 := hS3.below hB20
       refine W_ld1 0 rfl Ty.cell3 rfl (he12.el hS20.agree) (by omega) rfl ?_
       refine W_nil ?_
       exact N_step rfl rfl (Below.refl _ _)
     intro w21 vq21 hB21 hH21
     have hS21 := hS3.below hB21
     refine W_neq rfl rfl rfl ?_
     refine W_nil ?_
     refine N_code ?_
     refine C_cond rfl (fun hc22 => ?_) (fun hc22 => ?_)
     ·
      rw [if_t hc22] at H
      refine C_seq ?_
      refine C_region ?_
      refine W_assign rfl rfl ?_
      refine W_nil ?_
      refine N_code ?_
      obtain rfl := Option.some.inj H
      refine C_ret rfl rfl ?_
      exact ⟨F3, rfl, hS21⟩
     ·
      rw [if_f hc22] at H
      refine C_skip ?_
      refine N_block ?_
      refine N_code ?_
      refine C_region ?_
      refine W_move rfl rfl ?_
      refine W_add rfl rfl rfl rfl ?_
      refine W_assign rfl rfl ?_
      refine W_nil ?_
      exact N_againM (wr (i4 + 1)) _ H ⟨F3, rfl, le3, hS21⟩ ⟨rfl, rfl, rfl, trivial⟩
    ·
     rw [if_f hc6] at H
     refine C_exit _ rfl ?_
     exact N_join _ ⟨H, ⟨F3, rfl, le3, hS3⟩⟩ trivial
  ·
   rintro E w2 ⟨H, F2, rfl, le2, hS2⟩
   dsimp only [cellarerkeep_Ints.k1] at H
   refine C_seq ?_
   refine C_region ?_
   refine W_assign rfl rfl ?_
   refine W_nil ?_
   refine N_code ?_
   obtain rfl := Option.some.inj H
   refine C_ret rfl rfl ?_
   exact ⟨F2, rfl, hS2⟩

def cellarerlaw21_wakes : Option Bool :=
  bd (plan_Order [(Want.mk (List.replicate 32 (0 : UInt8)) [(Loc.mk 2 0 0 0), (Loc.mk 1 0 0 0)]), (Want.mk (List.replicate 32 (0 : UInt8)) []), (Want.mk (List.replicate 32 (0 : UInt8)) [(Loc.mk 0 0 0 0)])]) fun r4 =>
  bd (only (decide ((r4.1.length : Int) = 2)) (ix r4.1 0) (Read.mk 0 (Loc.mk 0 0 0 0))) fun x10 =>
  bd (only (decide ((r4.1.length : Int) = 2) && decide (x10.want = 2)) (ix r4.1 1) (Read.mk 0 (Loc.mk 0 0 0 0))) fun x12 =>
  bd (only ((decide ((r4.1.length : Int) = 2) && decide (x10.want = 2)) && decide (x12.loc.vol = 1)) (cellarerkeep_Ints r4.2 [1]) false) fun r15 =>
  some (((decide ((r4.1.length : Int) = 2) && decide (x10.want = 2)) && decide (x12.loc.vol = 1)) && r15)

theorem cellarerlaw21_wakes_ok {F : Frz} {w : World} {r : Bool} (hA : Agree F w.heap) (H : cellarerlaw21_wakes = some r) : Ret Try.prog 30 #[] w fun v w' => ∃ (F' : Frz), v = .bool r ∧ St [] w F F' [] w' := by
 refine Ret_of (args := []) Go.Proofs.Try.func30 rfl rfl ?_
 change C _ _ _ _ [] _
 have hS := St.entry hA
 dsimp only [cellarerlaw21_wakes] at H
 refine C_seq ?_
 refine C_region ?_
 refine W_assign rfl rfl ?_
 refine W_nil ?_
 refine N_code ?_
 refine C_seq ?_
 obtain ⟨r4, hr4, H⟩ := bd_some H
 refine C_region ?_
 refine W_build (v := .agg (Loc.cells (Loc.mk 2 0 0 0)).toArray) rfl rfl (fun _ => by kernel_rfl) ?_
 refine W_build (v := .agg (Loc.cells (Loc.mk 1 0 0 0)).toArray) rfl rfl (fun _ => by kernel_rfl) ?_
 refine W_bs (t := Loc.t) [(Loc.cells (Loc.mk 2 0 0 0)), (Loc.cells (Loc.mk 1 0 0 0))] [(Loc.mk 2 0 0 0), (Loc.mk 1 0 0 0)] rfl Go.Proofs.Try.underlying49 Ty.cells37 rfl rfl Ty.zero37 rfl rfl ⟨rfl, ⟨rfl, trivial⟩⟩ rfl rfl hS ?_
 intro u1 w1 hS1
 obtain ⟨ao5, m5, c5, hu5⟩ := (hS1.rowLn (k := 0) rfl).form
 refine W_build (v := .agg (Want.cells (Want.mk (List.replicate 32 (0 : UInt8)) [(Loc.mk 2 0 0 0), (Loc.mk 1 0 0 0)]) u1).toArray) rfl rfl (fun _ => by rw [hu5]; kernel_rfl) ?_
 refine W_build (v := .agg (Want.cells (Want.mk (List.replicate 32 (0 : UInt8)) []) (.slice none 0 0)).toArray) rfl rfl (fun _ => by kernel_rfl) ?_
 refine W_build (v := .agg (Loc.cells (Loc.mk 0 0 0 0)).toArray) rfl rfl (fun _ => by kernel_rfl) ?_
 refine W_bs (t := Loc.t) [(Loc.cells (Loc.mk 0 0 0 0))] [(Loc.mk 0 0 0 0)] rfl Go.Proofs.Try.underlying49 Ty.cells37 rfl rfl Ty.zero37 rfl rfl ⟨rfl, trivial⟩ rfl rfl hS1 ?_
 intro u2 w2 hS2
 obtain ⟨ao6, m6, c6, hu6⟩ := (hS2.rowLn (k := 0) rfl).form
 refine W_build (v := .agg (Want.cells (Want.mk (List.replicate 32 (0 : UInt8)) [(Loc.mk 0 0 0 0)]) u2).toArray) rfl rfl (fun _ => by rw [hu6]; kernel_rfl) ?_
 obtain ⟨F7, le7, hf7, hS7⟩ := hS2.freeze 1 [0] rfl (by decide) (by decide)
 obtain ⟨F8, le8, hf8, hS8⟩ := hS7.freeze 0 [] rfl (by decide) (by decide)
 refine W_bs (t := Want.t) [(Want.cells (Want.mk (List.replicate 32 (0 : UInt8)) [(Loc.mk 2 0 0 0), (Loc.mk 1 0 0 0)]) u1), (Want.cells (Want.mk (List.replicate 32 (0 : UInt8)) []) (.slice none 0 0)), (Want.cells (Want.mk (List.replicate 32 (0 : UInt8)) [(Loc.mk 0 0 0 0)]) u2)] [(Want.mk (List.replicate 32 (0 : UInt8)) [(Loc.mk 2 0 0 0), (Loc.mk 1 0 0 0)]), (Want.mk (List.replicate 32 (0 : UInt8)) []), (Want.mk (List.replicate 32 (0 : UInt8)) [(Loc.mk 0 0 0 0)])] rfl Go.Proofs.Try.underlying47 Ty.cells52 rfl rfl Ty.zero52 rfl rfl ⟨⟨u1, rfl, (List.length_replicate), (hf7.mono le8)⟩, ⟨⟨.slice none 0 0, rfl, (List.length_replicate), (SlF.nil _)⟩, ⟨⟨u2, rfl, (List.length_replicate), hf8⟩, trivial⟩⟩⟩ rfl rfl hS8 ?_
 intro u3 w3 hS3
 refine W_call rfl Ty.named27 rfl (plan_Order_ok (now_agree _) (hS3.rowNow (k := 0) rfl) hr4) ?_
 rintro v9 w9 ⟨Fr4, ur4_0, ur4_1, rfl, hT9⟩
 have hS9 := hS3.lentFlat hT9 ⟨fun h => h, ⟨fun h => h, trivial⟩⟩
 refine W_move rfl rfl ?_
 refine W_extract rfl rfl rfl ?_
 refine W_extract rfl rfl rfl ?_
 refine W_assign rfl rfl ?_
 refine W_assign rfl rfl ?_
 refine W_nil ?_
 refine N_code ?_
 refine C_seq ?_
 obtain ⟨x10, hx10, H⟩ := bd_some H
 obtain ⟨x12, hx12, H⟩ := bd_some H
 obtain ⟨r15, hr15, H⟩ := bd_some H
 refine C_join (fun E wq => E = [(0, .bool (((decide ((r4.1.length : Int) = 2) && decide (x10.want = 2)) && decide (x12.loc.vol = 1)) && r15))] ∧ ∃ F16 : Frz, F8.le F16 ∧ St [] w F F16 [.row Read.t 39 ur4_0 r4.1, .row tI 3 ur4_1 r4.2, .row Want.t 52 u3 [(Want.mk (List.replicate 32 (0 : UInt8)) [(Loc.mk 2 0 0 0), (Loc.mk 1 0 0 0)]), (Want.mk (List.replicate 32 (0 : UInt8)) []), (Want.mk (List.replicate 32 (0 : UInt8)) [(Loc.mk 0 0 0 0)])]] wq) ?_ ?_
 ·
  rcases Bool.eq_false_or_eq_true (decide ((r4.1.length : Int) = 2)) with hb17 | hb17
  ·
   rcases Bool.eq_false_or_eq_true (decide (x10.want = 2)) with hb18 | hb18
   ·
    rcases Bool.eq_false_or_eq_true (decide (x12.loc.vol = 1)) with hb19 | hb19
    ·
     refine C_region ?_
     refine W_move rfl rfl ?_
     refine W_lenv rfl Go.Proofs.Try.underlying23 rfl (hS9.rowLn (k := 0) rfl) ?_
     refine W_eql rfl rfl rfl ?_
     refine W_move rfl rfl ?_
     refine W_known (t := 19) true rfl hb17 ?_
     refine W_guard_yes rfl ?_
     refine W_move rfl rfl ?_
     refine W_guard_yes rfl ?_
     have hy20 := hx10
     rw [only_t hb17] at hy20
     obtain ⟨hp21, hy21⟩ := ix_some hy20
     obtain ⟨cs21, hr21, he21⟩ := hS9.rowAt (k := 0) rfl hy21
     obtain rfl := hr21
     replace he21 : El _ _ 5 _ _ := he21
     refine W_ix rfl Go.Proofs.Try.underlying23 Ty.cells39 Ty.info39 rfl rfl he21 hp21 rfl ?_
     refine W_guard_yes rfl ?_
     refine W_fld 0 rfl Ty.field39_0 rfl he21 ?_
     refine W_guard_yes rfl ?_
     refine W_ld1 0 rfl Ty.cell3 rfl he21 (by omega) rfl ?_
     refine W_guard_yes rfl ?_
     refine W_eql rfl rfl rfl ?_
     refine W_pick_t rfl rfl rfl ?_
     refine W_move rfl rfl ?_
     refine W_known (t := 26) true rfl hb18 ?_
     refine W_guard_yes rfl ?_
     refine W_move rfl rfl ?_
     refine W_guard_yes rfl ?_
     have hy22 := hx12
     rw [only_t (by first | rfl | (rw [hb17, hb18]; first | done | rfl) | simp [hb17, hb18, hb19])] at hy22
     obtain ⟨hp23, hy23⟩ := ix_some hy22
     obtain ⟨cs23, hr23, he23⟩ := hS9.rowAt (k := 0) rfl hy23
     obtain rfl := hr23
     replace he23 : El _ _ 5 _ _ := he23
     refine W_ix rfl Go.Proofs.Try.underlying23 Ty.cells39 Ty.info39 rfl rfl he23 hp23 rfl ?_
     refine W_guard_yes rfl ?_
     refine W_fld 1 rfl Ty.field39_1 rfl he23 ?_
     refine W_guard_yes rfl ?_
     refine W_fld 0 rfl Ty.field37_0 rfl he23 ?_
     refine W_guard_yes rfl ?_
     refine W_ld1 1 rfl Ty.cell3 rfl he23 (by omega) rfl ?_
     refine W_guard_yes rfl ?_
     refine W_eql rfl rfl rfl ?_
     refine W_pick_t rfl rfl rfl ?_
     refine W_move rfl rfl ?_
     refine W_known (t := 34) true rfl hb19 ?_
     refine W_guard_yes rfl ?_
     refine W_move rfl rfl ?_
     refine W_guard_yes rfl ?_
     refine W_bs (t := tI) [[.int .i64 1]] [1] rfl Go.Proofs.Try.underlying22 Ty.cells3 rfl rfl Ty.zero3 rfl rfl ⟨rfl, trivial⟩ rfl rfl hS9 ?_
     intro u14 w14 hS14
     refine W_guard_yes rfl ?_
     have hy24 := hr15
     rw [only_t (by first | rfl | (rw [hb17, hb19, hb18]; first | done | rfl) | simp [hb17, hb18, hb19])] at hy24
     refine W_call rfl Ty.named20 rfl (cellarerkeep_Ints_ok (now_agree _) (hS14.rowNow (k := 2) rfl) (hS14.rowNow (k := 0) rfl) hy24) ?_
     rintro v25 w25 ⟨Fr15, rfl, hT25⟩
     have hS25 := hS14.lent hT25
     refine W_pick_t rfl rfl rfl ?_
     refine W_assign rfl rfl ?_
     refine W_nil ?_
     exact N_join _ ⟨rfl, F8, (Frz.le.refl _), hS25.pick [1, 2, 3] (by decide)⟩ ⟨(look_bool rfl (by first | rfl | (rw [hb17, hb19, hb18]; first | done | rfl) | simp [hb17, hb18, hb19])), trivial⟩
    ·
     refine C_region ?_
     refine W_move rfl rfl ?_
     refine W_lenv rfl Go.Proofs.Try.underlying23 rfl (hS9.rowLn (k := 0) rfl) ?_
     refine W_eql rfl rfl rfl ?_
     refine W_move rfl rfl ?_
     refine W_known (t := 19) true rfl hb17 ?_
     refine W_guard_yes rfl ?_
     refine W_move rfl rfl ?_
     refine W_guard_yes rfl ?_
     have hy26 := hx10
     rw [only_t hb17] at hy26
     obtain ⟨hp27, hy27⟩ := ix_some hy26
     obtain ⟨cs27, hr27, he27⟩ := hS9.rowAt (k := 0) rfl hy27
     obtain rfl := hr27
     replace he27 : El _ _ 5 _ _ := he27
     refine W_ix rfl Go.Proofs.Try.underlying23 Ty.cells39 Ty.info39 rfl rfl he27 hp27 rfl ?_
     refine W_guard_yes rfl ?_
     refine W_fld 0 rfl Ty.field39_0 rfl he27 ?_
     refine W_guard_yes rfl ?_
     refine W_ld1 0 rfl Ty.cell3 rfl he27 (by omega) rfl ?_
     refine W_guard_yes rfl ?_
     refine W_eql rfl rfl rfl ?_
     refine W_pick_t rfl rfl rfl ?_
     refine W_move rfl rfl ?_
     refine W_known (t := 26) true rfl hb18 ?_
     refine W_guard_yes rfl ?_
     refine W_move rfl rfl ?_
     refine W_guard_yes rfl ?_
     have hy28 := hx12
     rw [only_t (by first | rfl | (rw [hb17, hb18]; first | done | rfl) | simp [hb17, hb18, hb19])] at hy28
     obtain ⟨hp29, hy29⟩ := ix_some hy28
     obtain ⟨cs29, hr29, he29⟩ := hS9.rowAt (k := 0) rfl hy29
     obtain rfl := hr29
     replace he29 : El _ _ 5 _ _ := he29
     refine W_ix rfl Go.Proofs.Try.underlying23 Ty.cells39 Ty.info39 rfl rfl he29 hp29 rfl ?_
     refine W_guard_yes rfl ?_
     refine W_fld 1 rfl Ty.field39_1 rfl he29 ?_
     refine W_guard_yes rfl ?_
     refine W_fld 0 rfl Ty.field37_0 rfl he29 ?_
     refine W_guard_yes rfl ?_
     refine W_ld1 1 rfl Ty.cell3 rfl he29 (by omega) rfl ?_
     refine W_guard_yes rfl ?_
     refine W_eql rfl rfl rfl ?_
     refine W_pick_t rfl rfl rfl ?_
     refine W_move rfl rfl ?_
     refine W_known (t := 34) false rfl hb19 ?_
     refine W_guard_no rfl rfl rfl rfl rfl ?_
     refine W_guard_no rfl rfl rfl rfl rfl ?_
     refine W_guard_no rfl rfl rfl rfl rfl ?_
     refine W_pick_f rfl rfl rfl ?_
     refine W_assign rfl rfl ?_
     refine W_nil ?_
     exact N_join _ ⟨rfl, F8, (Frz.le.refl _), hS9⟩ ⟨(look_bool rfl (by first | rfl | (rw [hb17, hb19, hb18]; first | done | rfl) | simp [hb17, hb18, hb19])), trivial⟩
   ·
    refine C_region ?_
    refine W_move rfl rfl ?_
    refine W_lenv rfl Go.Proofs.Try.underlying23 rfl (hS9.rowLn (k := 0) rfl) ?_
    refine W_eql rfl rfl rfl ?_
    refine W_move rfl rfl ?_
    refine W_known (t := 19) true rfl hb17 ?_
    refine W_guard_yes rfl ?_
    refine W_move rfl rfl ?_
    refine W_guard_yes rfl ?_
    have hy30 := hx10
    rw [only_t hb17] at hy30
    obtain ⟨hp31, hy31⟩ := ix_some hy30
    obtain ⟨cs31, hr31, he31⟩ := hS9.rowAt (k := 0) rfl hy31
    obtain rfl := hr31
    replace he31 : El _ _ 5 _ _ := he31
    refine W_ix rfl Go.Proofs.Try.underlying23 Ty.cells39 Ty.info39 rfl rfl he31 hp31 rfl ?_
    refine W_guard_yes rfl ?_
    refine W_fld 0 rfl Ty.field39_0 rfl he31 ?_
    refine W_guard_yes rfl ?_
    refine W_ld1 0 rfl Ty.cell3 rfl he31 (by omega) rfl ?_
    refine W_guard_yes rfl ?_
    refine W_eql rfl rfl rfl ?_
    refine W_pick_t rfl rfl rfl ?_
    refine W_move rfl rfl ?_
    refine W_known (t := 26) false rfl hb18 ?_
    refine W_guard_no rfl rfl rfl rfl rfl ?_
    refine W_guard_no rfl rfl rfl rfl rfl ?_
    refine W_guard_no rfl rfl rfl rfl rfl ?_
    refine W_guard_no rfl rfl rfl rfl rfl ?_
    refine W_guard_no rfl rfl rfl rfl rfl ?_
    refine W_guard_no rfl rfl rfl rfl rfl ?_
    refine W_pick_f rfl rfl rfl ?_
    refine W_move rfl rfl ?_
    refine W_guard_no rfl rfl rfl rfl rfl ?_
    refine W_guard_no rfl rfl rfl rfl rfl ?_
    refine W_guard_no rfl rfl rfl rfl rfl ?_
    refine W_pick_f rfl rfl rfl ?_
    refine W_assign rfl rfl ?_
    refine W_nil ?_
    exact N_join _ ⟨rfl, F8, (Frz.le.refl _), hS9⟩ ⟨(look_bool rfl (by first | rfl | (rw [hb17, hb18]; first | done | rfl) | simp [hb17, hb18])), trivial⟩
  ·
   refine C_region ?_
   refine W_move rfl rfl ?_
   refine W_lenv rfl Go.Proofs.Try.underlying23 rfl (hS9.rowLn (k := 0) rfl) ?_
   refine W_eql rfl rfl rfl ?_
   refine W_move rfl rfl ?_
   refine W_known (t := 19) false rfl hb17 ?_
   refine W_guard_no rfl rfl rfl rfl rfl ?_
   refine W_guard_no rfl rfl rfl rfl rfl ?_
   refine W_guard_no rfl rfl rfl rfl rfl ?_
   refine W_guard_no rfl rfl rfl rfl rfl ?_
   refine W_guard_no rfl rfl rfl rfl rfl ?_
   refine W_pick_f rfl rfl rfl ?_
   refine W_move rfl rfl ?_
   refine W_guard_no rfl rfl rfl rfl rfl ?_
   refine W_guard_no rfl rfl rfl rfl rfl ?_
   refine W_guard_no rfl rfl rfl rfl rfl ?_
   refine W_guard_no rfl rfl rfl rfl rfl ?_
   refine W_guard_no rfl rfl rfl rfl rfl ?_
   refine W_guard_no rfl rfl rfl rfl rfl ?_
   refine W_pick_f rfl rfl rfl ?_
   refine W_move rfl rfl ?_
   refine W_guard_no rfl rfl rfl rfl rfl ?_
   refine W_guard_no rfl rfl rfl rfl rfl ?_
   refine W_guard_no rfl rfl rfl rfl rfl ?_
   refine W_pick_f rfl rfl rfl ?_
   refine W_assign rfl rfl ?_
   refine W_nil ?_
   exact N_join _ ⟨rfl, F8, (Frz.le.refl _), hS9⟩ ⟨(look_bool rfl (by first | rfl | (rw [hb17]; first | done | rfl) | simp [hb17])), trivial⟩
 rintro E w16 ⟨rfl, F16, le16, hS16⟩
 refine N_code ?_
 obtain rfl := Option.some.inj H
 refine C_ret rfl rfl ?_
 exact ⟨F16, rfl, hS16.pick [] (by decide)⟩

def cellarerlaw21_PlanVols.k4 : Option Bool :=
  bd (cellarerlaw21_wakes) fun r25 =>
  some r25


def cellarerlaw21_PlanVols.l5 (r22 : (List Int)) (rec29 : Int → Option Bool) : Int → Option Bool
  | i28 =>
    if decide (i28 < (r22.length : Int)) then
      bd (ix r22 i28) fun x31 =>
      bd (ix r22 (wr (i28 - 1))) fun x33 =>
      if decide (x31 ≤ x33) then
        some false
      else
        rec29 (wr (i28 + 1))
    else
      cellarerlaw21_PlanVols.k4


def cellarerlaw21_PlanVols.k3 (x0 : List Want) : Option Bool :=
  bd (plan_Order x0) fun r20 =>
  bd (plan_Vols r20.1) fun r22 =>
  loop (cellarerlaw21_PlanVols.l5 r22) 1


def cellarerlaw21_PlanVols.l6 (x0 : List Want) (r7 : (List Int)) (r16 : (List Int)) (rec50 : Int → Option Bool) : Int → Option Bool
  | i49 =>
    if decide (i49 < (r7.length : Int)) then
      bd (ix r16 i49) fun x52 =>
      bd (ix r7 i49) fun x54 =>
      if decide (x52 ≠ x54) then
        some false
      else
        rec50 (wr (i49 + 1))
    else
      cellarerlaw21_PlanVols.k3 x0


def cellarerlaw21_PlanVols.k2 (x0 : List Want) (x1 : List Read) (r7 : (List Int)) : Option Bool :=
  bd (app (α := Read) ([] : List Read) x1) fun l12 =>
  bd (app (α := Read) l12 x1) fun l14 =>
  bd (plan_Vols l14) fun r16 =>
  if decide ((r16.length : Int) ≠ (r7.length : Int)) then
    some false
  else
    loop (cellarerlaw21_PlanVols.l6 x0 r7 r16) 0


def cellarerlaw21_PlanVols.k8 (i69 : Int) (rec70 : Int → Option Bool) : Option Bool :=
  rec70 (wr (i69 + 1))


def cellarerlaw21_PlanVols.k9 (i69 : Int) (rec70 : Int → Option Bool) (b74 : Bool) : Option Bool :=
  if (!b74) then
    some false
  else
    cellarerlaw21_PlanVols.k8 i69 rec70


def cellarerlaw21_PlanVols.l10 (x1 : List Read) (r7 : (List Int)) (i69 : Int) (rec70 : Int → Option Bool) (rec79 : (Bool × Int) → Option Bool) : (Bool × Int) → Option Bool
  | (b77, i78) =>
    if decide (i78 < (r7.length : Int)) then
      bd (only (!b77) (ix x1 i69) (Read.mk 0 (Loc.mk 0 0 0 0))) fun x81 =>
      bd (only (!b77) (ix r7 i78) 0) fun x83 =>
      rec79 ((b77 || decide (x81.loc.vol = x83)), wr (i78 + 1))
    else
      cellarerlaw21_PlanVols.k9 i69 rec70 b77


def cellarerlaw21_PlanVols.l7 (x0 : List Want) (x1 : List Read) (r7 : (List Int)) (rec70 : Int → Option Bool) : Int → Option Bool
  | i69 =>
    if decide (i69 < (x1.length : Int)) then
      loop (cellarerlaw21_PlanVols.l10 x1 r7 i69 rec70) (false, 0)
    else
      cellarerlaw21_PlanVols.k2 x0 x1 r7


def cellarerlaw21_PlanVols.k1 (x0 : List Want) (x1 : List Read) (r7 : (List Int)) : Option Bool :=
  loop (cellarerlaw21_PlanVols.l7 x0 x1 r7) 0


def cellarerlaw21_PlanVols.k12 (i120 : Int) (rec121 : Int → Option Bool) : Option Bool :=
  rec121 (wr (i120 + 1))


def cellarerlaw21_PlanVols.k14 (i120 : Int) (rec121 : Int → Option Bool) (b125 : Bool) : Option Bool :=
  if (!b125) then
    some false
  else
    cellarerlaw21_PlanVols.k12 i120 rec121


def cellarerlaw21_PlanVols.l15 (r7 : (List Int)) (i120 : Int) (rec121 : Int → Option Bool) (b125 : Bool) (rec130 : Int → Option Bool) : Int → Option Bool
  | i129 =>
    if decide (i129 < i120) then
      bd (ix r7 i129) fun x132 =>
      bd (ix r7 i120) fun x134 =>
      if decide (x132 = x134) then
        some false
      else
        rec130 (wr (i129 + 1))
    else
      cellarerlaw21_PlanVols.k14 i120 rec121 b125


def cellarerlaw21_PlanVols.k13 (r7 : (List Int)) (i120 : Int) (rec121 : Int → Option Bool) (b125 : Bool) : Option Bool :=
  loop (cellarerlaw21_PlanVols.l15 r7 i120 rec121 b125) 0


def cellarerlaw21_PlanVols.l16 (x1 : List Read) (r7 : (List Int)) (i120 : Int) (rec121 : Int → Option Bool) (rec151 : (Bool × Int) → Option Bool) : (Bool × Int) → Option Bool
  | (b149, i150) =>
    if decide (i150 < (x1.length : Int)) then
      bd (only (!b149) (ix x1 i150) (Read.mk 0 (Loc.mk 0 0 0 0))) fun x153 =>
      bd (only (!b149) (ix r7 i120) 0) fun x155 =>
      rec151 ((b149 || decide (x153.loc.vol = x155)), wr (i150 + 1))
    else
      cellarerlaw21_PlanVols.k13 r7 i120 rec121 b149


def cellarerlaw21_PlanVols.l11 (x0 : List Want) (x1 : List Read) (r7 : (List Int)) (rec121 : Int → Option Bool) : Int → Option Bool
  | i120 =>
    if decide (i120 < (r7.length : Int)) then
      loop (cellarerlaw21_PlanVols.l16 x1 r7 i120 rec121) (false, 0)
    else
      cellarerlaw21_PlanVols.k1 x0 x1 r7

def cellarerlaw21_PlanVols (x0 : List Want) (x1 : List Read) : Option Bool :=
  bd (cellarerlaw21_Heavy x0) fun r1 =>
  if (r1 || decide (60 < (x1.length : Int))) then
    some true
  else
    bd (plan_Vols x1) fun r7 =>
    loop (cellarerlaw21_PlanVols.l11 x0 x1 r7) 0

theorem cellarerlaw21_PlanVols_ok {F : Frz} {w : World} {x0 : List Want} {x1 : List Read} {r : Bool} {v0 : Value} {v1 : Value} (hA : Agree F w.heap) (h0 : SlF Want.t F v0 x0) (h1 : SlF Read.t F v1 x1) (H : cellarerlaw21_PlanVols x0 x1 = some r) : Ret Try.prog 11 #[v0, v1] w fun v w' => ∃ (F' : Frz), v = .bool r ∧ St [] w F F' [] w' := by
 refine Ret_of (args := [v0, v1]) Go.Proofs.Try.func11 rfl rfl ?_
 change C _ _ _ _ [(0, v0), (1, v1)] _
 have hS := St.entry hA
 dsimp only [cellarerlaw21_PlanVols] at H
 refine C_seq ?_
 refine C_region ?_
 refine W_assign rfl rfl ?_
 refine W_nil ?_
 refine N_code ?_
 refine C_seq ?_
 refine C_seq ?_
 obtain ⟨r1, hr1, H⟩ := bd_some H
 refine C_join (fun E wq => E = [(0, v0), (1, v1), (25, .bool (r1 || decide (60 < (x1.length : Int))))] ∧ ∃ F2 : Frz, F.le F2 ∧ St [] w F F2 [] wq) ?_ ?_
 ·
  rcases Bool.eq_false_or_eq_true r1 with hb3 | hb3
  ·
   refine C_region ?_
   refine W_move rfl rfl ?_
   refine W_call rfl Ty.named26 rfl (cellarerlaw21_Heavy_ok hS.agree h0 hr1) ?_
   rintro v4 w4 ⟨Fr1, rfl, hT4⟩
   have hS4 := hS.lent hT4
   refine W_move rfl rfl ?_
   refine W_known (t := 21) true rfl hb3 ?_
   refine W_guard_no rfl rfl rfl rfl rfl ?_
   refine W_guard_no rfl rfl rfl rfl rfl ?_
   refine W_guard_no rfl rfl rfl rfl rfl ?_
   refine W_pick_t rfl rfl rfl ?_
   refine W_nil ?_
   exact N_join _ ⟨rfl, F, (Frz.le.refl _), hS4⟩ ⟨rfl, rfl, (look_bool rfl (by first | rfl | (rw [hb3]; first | done | rfl) | simp [hb3])), trivial⟩
  ·
   refine C_region ?_
   refine W_move rfl rfl ?_
   refine W_call rfl Ty.named26 rfl (cellarerlaw21_Heavy_ok hS.agree h0 hr1) ?_
   rintro v5 w5 ⟨Fr1, rfl, hT5⟩
   have hS5 := hS.lent hT5
   refine W_move rfl rfl ?_
   refine W_known (t := 21) false rfl hb3 ?_
   refine W_guard_yes rfl ?_
   refine W_move rfl rfl ?_
   refine W_guard_yes rfl ?_
   refine W_lenv rfl Go.Proofs.Try.underlying23 rfl h1.ln ?_
   refine W_guard_yes rfl ?_
   refine W_gtr rfl rfl rfl ?_
   refine W_pick_f rfl rfl rfl ?_
   refine W_nil ?_
   exact N_join _ ⟨rfl, F, (Frz.le.refl _), hS5⟩ ⟨rfl, rfl, (look_bool rfl (by first | rfl | (rw [hb3]; first | done | rfl) | simp [hb3])), trivial⟩
 rintro E w2 ⟨rfl, F2, le2, hS2⟩
 refine N_code ?_
 refine C_cond rfl (fun hc6 => ?_) (fun hc6 => ?_)
 ·
  rw [if_t hc6] at H
  refine C_seq ?_
  refine C_region ?_
  refine W_assign rfl rfl ?_
  refine W_nil ?_
  refine N_code ?_
  obtain rfl := Option.some.inj H
  refine C_ret rfl rfl ?_
  exact ⟨F2, rfl, hS2⟩
 ·
  rw [if_f hc6] at H
  refine C_skip ?_
  refine N_code ?_
  refine C_seq ?_
  obtain ⟨r7, hr7, H⟩ := bd_some H
  refine C_region ?_
  refine W_move rfl rfl ?_
  refine W_call rfl Ty.named32 rfl (plan_Vols_ok hS2.agree (h1.mono le2) hr7) ?_
  rintro ur7_0 w8 ⟨Fr7, _, rfl, hT8⟩
  have hS8 := hS2.call hT8
  have ler7 := hT8.ext
  refine W_assign rfl rfl ?_
  refine W_nil ?_
  refine N_code ?_
  refine C_seq_join (fun E wq => cellarerlaw21_PlanVols.k1 x0 x1 r7 = some r ∧ ∃ (F9 : Frz), E = [(0, v0), (1, v1), (5, ur7_0)] ∧ Fr7.le F9 ∧ St [] w F F9 [.row tI 3 ur7_0 r7] wq) ?_ ?_
  ·
   refine C_seq ?_
   refine C_region ?_
   refine W_assign rfl rfl ?_
   refine W_nil ?_
   refine N_code ?_
   refine C_block ?_
   refine C_loopM (fun (s : Int) E wq => ∃ (F119 : Frz), E = [(0, v0), (1, v1), (5, ur7_0), (6, .int .i64 s)] ∧ Fr7.le F119 ∧ St [] w F F119 [.row tI 3 ur7_0 r7] wq) H ?_ ?_
   ·
    exact ⟨_, ⟨Fr7, rfl, (Frz.le.refl _), hS8⟩, ⟨rfl, rfl, rfl, rfl, trivial⟩⟩
   ·
    rintro rec121 i120 E w119 hI H
    try dsimp only at hI
    obtain ⟨F119, rfl, le119, hS119⟩ := hI
    dsimp only [cellarerlaw21_PlanVols.l11] at H
    refine C_seq ?_
    refine C_seq ?_
    refine C_region ?_
    refine W_move rfl rfl ?_
    refine W_move rfl rfl ?_
    refine W_lenv rfl Go.Proofs.Try.underlying22 rfl (hS119.rowLn (k := 0) rfl) ?_
    refine W_lss rfl rfl rfl ?_
    refine W_nil ?_
    refine N_code ?_
    refine C_cond rfl (fun hc122 => ?_) (fun hc122 => ?_)
    ·
     rw [if_t hc122] at H
     refine C_skip ?_
     refine N_code ?_
     refine C_seq_join (fun E wq => cellarerlaw21_PlanVols.k12 i120 rec121 = some r ∧ ∃ (F123 : Frz), E = [(0, v0), (1, v1), (5, ur7_0), (6, .int .i64 i120)] ∧ F119.le F123 ∧ St [] w F F123 [.row tI 3 ur7_0 r7] wq) ?_ ?_
     ·
      refine C_block ?_
      refine C_seq ?_
      refine C_region ?_
      refine W_assign rfl rfl ?_
      refine W_nil ?_
      refine N_code ?_
      refine C_seq_join (fun E wq => ∃ b125 : Bool, cellarerlaw21_PlanVols.k13 r7 i120 rec121 b125 = some r ∧ ∃ (F124 : Frz), E = [(0, v0), (1, v1), (5, ur7_0), (6, .int .i64 i120), (7, .bool b125)] ∧ F119.le F124 ∧ St [] w F F124 [.row tI 3 ur7_0 r7] wq) ?_ ?_
      ·
       refine C_seq ?_
       refine C_region ?_
       refine W_assign rfl rfl ?_
       refine W_nil ?_
       refine N_code ?_
       refine C_block ?_
       refine C_loopM (fun (s : Bool × Int) E wq => ∃ (F148 : Frz), E = [(0, v0), (1, v1), (5, ur7_0), (6, .int .i64 i120), (7, .bool s.1), (8, .int .i64 s.2)] ∧ F119.le F148 ∧ St [] w F F148 [.row tI 3 ur7_0 r7] wq) H ?_ ?_
       ·
        exact ⟨_, ⟨F119, rfl, (Frz.le.refl _), hS119⟩, ⟨rfl, rfl, rfl, rfl, rfl, rfl, trivial⟩⟩
       ·
        rintro rec151 ⟨b149, i150⟩ E w148 hI H
        try dsimp only at hI
        obtain ⟨F148, rfl, le148, hS148⟩ := hI
        dsimp only [cellarerlaw21_PlanVols.l16] at H
        refine C_seq ?_
        refine C_seq ?_
        refine C_region ?_
        refine W_move rfl rfl ?_
        refine W_move rfl rfl ?_
        refine W_lenv rfl Go.Proofs.Try.underlying23 rfl h1.ln ?_
        refine W_lss rfl rfl rfl ?_
        refine W_nil ?_
        refine N_code ?_
        refine C_cond rfl (fun hc152 => ?_) (fun hc152 => ?_)
        ·
         rw [if_t hc152] at H
         refine C_skip ?_
         refine N_code ?_
         refine C_seq ?_
         refine C_block ?_
         obtain ⟨x153, hx153, H⟩ := bd_some H
         obtain ⟨x155, hx155, H⟩ := bd_some H
         refine C_join (fun E wq => E = [(0, v0), (1, v1), (5, ur7_0), (6, .int .i64 i120), (7, .bool (b149 || decide (x153.loc.vol = x155))), (8, .int .i64 i150)] ∧ ∃ F157 : Frz, F148.le F157 ∧ St [] w F F157 [.row tI 3 ur7_0 r7] wq) ?_ ?_
         ·
          rcases Bool.eq_false_or_eq_true b149 with hb158 | hb158
          ·
           apply C_draw 13 [[], [0], [1], [1], [2, 3, 1], [4, 1], [5, 1], [6, 1], [1], [1], [8, 9, 1], [10, 1], [7, 11, 1]] [.val (.bool b149), .val (.bool true), .val undef, .val undef, .val undef, .val undef, .val undef, .val undef, .val undef, .val undef, .val undef, .val undef, .val undef] Ty.mixed rfl rfl (by kernel_rfl) (by kernel_rfl) rfl
           ·
            refine ⟨?_, ?_, ?_, ?_, ?_, ?_, ?_, ?_, ?_, ?_, ?_, ?_, ?_, trivial⟩
            ·
             intro w159 vq159 hB159 hH159
             have hS159 := hS148.below hB159
             refine W_move rfl rfl ?_
             refine W_nil ?_
             exact N_step rfl rfl (Below.refl _ _)
            ·
             intro w160 vq160 hB160 hH160
             have hS160 := hS148.below hB160
             refine W_move rfl rfl ?_
             refine W_nil ?_
             exact N_step rfl (congrArg Value.bool hb158) (Below.refl _ _)
            ·
             intro w161 vq161 hB161 hH161
             have hS161 := hS148.below hB161
             refine W_guard_no rfl rfl rfl rfl rfl ?_
             refine W_nil ?_
             exact N_step rfl rfl (Below.refl _ _)
            ·
             intro w162 vq162 hB162 hH162
             have hS162 := hS148.below hB162
             refine W_guard_no rfl rfl rfl rfl rfl ?_
             refine W_nil ?_
             exact N_step rfl rfl (Below.refl _ _)
            ·
             intro w163 vq163 hB163 hH163
             have hS163 := hS148.below hB163
             refine W_guard_no rfl rfl rfl rfl rfl ?_
             refine W_nil ?_
             exact N_step rfl rfl (Below.refl _ _)
            ·
             intro w164 vq164 hB164 hH164
             have hS164 := hS148.below hB164
             refine W_guard_no rfl rfl rfl rfl rfl ?_
             refine W_nil ?_
             exact N_step rfl rfl (Below.refl _ _)
            ·
             intro w165 vq165 hB165 hH165
             have hS165 := hS148.below hB165
             refine W_guard_no rfl rfl rfl rfl rfl ?_
             refine W_nil ?_
             exact N_step rfl rfl (Below.refl _ _)
            ·
             intro w166 vq166 hB166 hH166
             have hS166 := hS148.below hB166
             refine W_guard_no rfl rfl rfl rfl rfl ?_
             refine W_nil ?_
             exact N_step rfl rfl (Below.refl _ _)
            ·
             intro w167 vq167 hB167 hH167
             have hS167 := hS148.below hB167
             refine W_guard_no rfl rfl rfl rfl rfl ?_
             refine W_nil ?_
             exact N_step rfl rfl (Below.refl _ _)
            ·
             intro w168 vq168 hB168 hH168
             have hS168 := hS148.below hB168
             refine W_guard_no rfl rfl rfl rfl rfl ?_
             refine W_nil ?_
             exact N_step rfl rfl (Below.refl _ _)
            ·
             intro w169 vq169 hB169 hH169
             have hS169 := hS148.below hB169
             refine W_guard_no rfl rfl rfl rfl rfl ?_
             refine W_nil ?_
             exact N_step rfl rfl (Below.refl _ _)
            ·
             intro w170 vq170 hB170 hH170
             have hS170 := hS148.below hB170
             refine W_guard_no rfl rfl rfl rfl rfl ?_
             refine W_nil ?_
             exact N_step rfl rfl (Below.refl _ _)
            ·
             intro w171 vq171 hB171 hH171
             have hS171 := hS148.below hB171
             refine W_guard_no rfl rfl rfl rfl rfl ?_
             refine W_nil ?_
             exact N_step rfl rfl (Below.refl _ _)
           intro w172 vq172 hB172 hH172
           have hS172 := hS148.below hB172
           refine W_pick_t rfl rfl rfl ?_
           refine W_assign rfl rfl ?_
           refine W_nil ?_
           exact N_join _ ⟨rfl, F148, (Frz.le.refl _), hS172⟩ ⟨rfl, rfl, rfl, rfl, (look_bool rfl (by first | rfl | (rw [hb158]; first | done | rfl) | simp [hb158])), rfl, trivial⟩
          ·
           have hy173 := hx153
           rw [only_t (by first | rfl | (rw [hb158]; first | done | rfl) | simp [hb158])] at hy173
           obtain ⟨hp174, hy174⟩ := ix_some hy173
           obtain ⟨cs174, hr174, he174⟩ := (h1.mono (((le2.trans ler7).trans le119).trans le148)).at_ hy174
           obtain rfl := hr174
           replace he174 : Elf _ _ 5 _ _ := he174
           have hy175 := hx155
           rw [only_t (by first | rfl | (rw [hb158]; first | done | rfl) | simp [hb158])] at hy175
           obtain ⟨hp176, hy176⟩ := ix_some hy175
           obtain ⟨cs176, hr176, he176⟩ := hS148.rowAt (k := 0) rfl hy176
           obtain rfl := hr176
           replace he176 : El _ _ 1 _ _ := he176
           apply C_draw 13 [[], [0], [1], [1], [2, 3, 1], [4, 1], [5, 1], [6, 1], [1], [1], [8, 9, 1], [10, 1], [7, 11, 1]] [.val (.bool b149), .val (.bool false), .val (v1), .val (.int .i64 i150), .val (elp v1 (i150.toNat * 5)), .val (elp v1 ((i150.toNat * 5) + 1)), .val (elp v1 (((i150.toNat * 5) + 1) + 0)), .val (.int .i64 x153.loc.vol), .val (ur7_0), .val (.int .i64 i120), .val (elp ur7_0 (i120.toNat * 1)), .val (.int .i64 x155), .val (.bool (decide (x153.loc.vol = x155)))] Ty.mixed rfl rfl (by kernel_rfl) (by kernel_rfl) rfl
           ·
            refine ⟨?_, ?_, ?_, ?_, ?_, ?_, ?_, ?_, ?_, ?_, ?_, ?_, ?_, trivial⟩
            ·
             intro w177 vq177 hB177 hH177
             have hS177 := hS148.below hB177
             refine W_move rfl rfl ?_
             refine W_nil ?_
             exact N_step rfl rfl (Below.refl _ _)
            ·
             intro w178 vq178 hB178 hH178
             have hS178 := hS148.below hB178
             refine W_move rfl rfl ?_
             refine W_nil ?_
             exact N_step rfl (congrArg Value.bool hb158) (Below.refl _ _)
            ·
             intro w179 vq179 hB179 hH179
             have hS179 := hS148.below hB179
             refine W_guard_yes rfl ?_
             refine W_move rfl rfl ?_
             refine W_nil ?_
             exact N_step rfl rfl (Below.refl _ _)
            ·
             intro w180 vq180 hB180 hH180
             have hS180 := hS148.below hB180
             refine W_guard_yes rfl ?_
             refine W_move rfl rfl ?_
             refine W_nil ?_
             exact N_step rfl rfl (Below.refl _ _)
            ·
             intro w181 vq181 hB181 hH181
             have hS181 := hS148.below hB181
             refine W_guard_yes rfl ?_
             refine W_ix rfl Go.Proofs.Try.underlying23 Ty.cells39 Ty.info39 rfl rfl (he174.el hS181.agree) hp174 rfl ?_
             refine W_nil ?_
             exact N_step rfl rfl (Below.refl _ _)
            ·
             intro w182 vq182 hB182 hH182
             have hS182 := hS148.below hB182
             refine W_guard_yes rfl ?_
             refine W_fld 1 rfl Ty.field39_1 rfl (he174.el hS182.agree) ?_
             refine W_nil ?_
             exact N_step rfl rfl (Below.refl _ _)
            ·
             intro w183 vq183 hB183 hH183
             have hS183 := hS148.below hB183
             refine W_guard_yes rfl ?_
             refine W_fld 0 rfl Ty.field37_0 rfl (he174.el hS183.agree) ?_
             refine W_nil ?_
             exact N_step rfl rfl (Below.refl _ _)
            ·
             intro w184 vq184 hB184 hH184
             have hS184 := hS148.below hB184
             refine W_guard_yes rfl ?_
             refine W_ld1 1 rfl Ty.cell3 rfl (he174.el hS184.agree) (by omega) rfl ?_
             refine W_nil ?_
             exact N_step rfl rfl (Below.refl _ _)
            ·
             intro w185 vq185 hB185 hH185
             have hS185 := hS148.below hB185
             refine W_guard_yes rfl ?_
             refine W_move rfl rfl ?_
             refine W_nil ?_
             exact N_step rfl rfl (Below.refl _ _)
            ·
             intro w186 vq186 hB186 hH186
             have hS186 := hS148.below hB186
             refine W_guard_yes rfl ?_
             refine W_move rfl rfl ?_
             refine W_nil ?_
             exact N_step rfl rfl (Below.refl _ _)
            ·
             intro w187 vq187 hB187 hH187
             have hS187 := hS148.below hB187
             refine W_guard_yes rfl ?_
             refine W_ix rfl Go.Proofs.Try.underlying22 Ty.cells3 Ty.info3 rfl rfl (he176.below hB187) hp176 rfl ?_
             refine W_nil ?_
             exact N_step rfl rfl (Below.refl _ _)
            ·
             intro w188 vq188 hB188 hH188
             have hS188 := hS148.below hB188
             refine W_guard_yes rfl ?_
             refine W_ld1 0 rfl Ty.cell3 rfl (he176.below hB188) (by omega) rfl ?_
             refine W_nil ?_
             exact N_step rfl rfl (Below.refl _ _)
            ·
             intro w189 vq189 hB189 hH189
             have hS189 := hS148.below hB189
             refine W_guard_yes rfl ?_
             refine W_eql rfl rfl rfl ?_
             refine W_nil ?_
             exact N_step rfl rfl (Below.refl _ _)
           intro w190 vq190 hB190 hH190
           have hS190 := hS148.below hB190
           refine W_pick_f rfl rfl rfl ?_
           refine W_assign rfl rfl ?_
           refine W_nil ?_
           exact N_join _ ⟨rfl, F148, (Frz.le.refl _), hS190⟩ ⟨rfl, rfl, rfl, rfl, (look_bool rfl (by first | rfl | (rw [hb158]; first | done | rfl) | simp [hb158])), rfl, trivial⟩
         rintro E w157 ⟨rfl, F157, le157, hS157⟩
         refine N_block ?_
         refine N_code ?_
         refine C_region ?_
         refine W_move rfl rfl ?_
         refine W_add rfl rfl rfl rfl ?_
         refine W_assign rfl rfl ?_
         refine W_nil ?_
         exact N_againM ((b149 || decide (x153.loc.vol = x155)), wr (i150 + 1)) _ H ⟨F157, rfl, (le148.trans le157), hS157⟩ ⟨rfl, rfl, rfl, rfl, rfl, rfl, trivial⟩
        ·
         rw [if_f hc152] at H
         refine C_exit _ rfl ?_
         exact N_join _ ⟨b149, H, ⟨F148, rfl, le148, hS148⟩⟩ ⟨rfl, rfl, rfl, rfl, rfl, trivial⟩
      ·
       rintro E w124 ⟨b125, H, F124, rfl, le124, hS124⟩
       dsimp only [cellarerlaw21_PlanVols.k13] at H
       refine C_seq_join (fun E wq => cellarerlaw21_PlanVols.k14 i120 rec121 b125 = some r ∧ ∃ (F126 : Frz), E = [(0, v0), (1, v1), (5, ur7_0), (6, .int .i64 i120), (7, .bool b125)] ∧ F124.le F126 ∧ St [] w F F126 [.row tI 3 ur7_0 r7] wq) ?_ ?_
       ·
        refine C_seq ?_
        refine C_region ?_
        refine W_assign rfl rfl ?_
        refine W_nil ?_
        refine N_code ?_
        refine C_block ?_
        refine C_loopM (fun (s : Int) E wq => ∃ (F128 : Frz), E = [(0, v0), (1, v1), (5, ur7_0), (6, .int .i64 i120), (7, .bool b125), (9, .int .i64 s)] ∧ F124.le F128 ∧ St [] w F F128 [.row tI 3 ur7_0 r7] wq) H ?_ ?_
        ·
         exact ⟨_, ⟨F124, rfl, (Frz.le.refl _), hS124⟩, ⟨rfl, rfl, rfl, rfl, rfl, rfl, trivial⟩⟩
        ·
         rintro rec130 i129 E w128 hI H
         try dsimp only at hI
         obtain ⟨F128, rfl, le128, hS128⟩ := hI
         dsimp only [cellarerlaw21_PlanVols.l15] at H
         refine C_seq ?_
         refine C_seq ?_
         refine C_region ?_
         refine W_move rfl rfl ?_
         refine W_move rfl rfl ?_
         refine W_lss rfl rfl rfl ?_
         refine W_nil ?_
         refine N_code ?_
         refine C_cond rfl (fun hc131 => ?_) (fun hc131 => ?_)
         ·
          rw [if_t hc131] at H
          refine C_skip ?_
          refine N_code ?_
          refine C_seq ?_
          refine C_block ?_
          refine C_seq ?_
          obtain ⟨x132, hx132, H⟩ := bd_some H
          obtain ⟨x134, hx134, H⟩ := bd_some H
          obtain ⟨hp136, hy136⟩ := ix_some hx132
          obtain ⟨cs136, hr136, he136⟩ := hS128.rowAt (k := 0) rfl hy136
          obtain rfl := hr136
          replace he136 : El _ _ 1 _ _ := he136
          obtain ⟨hp137, hy137⟩ := ix_some hx134
          obtain ⟨cs137, hr137, he137⟩ := hS128.rowAt (k := 0) rfl hy137
          obtain rfl := hr137
          replace he137 : El _ _ 1 _ _ := he137
          apply C_draw 8 [[], [], [0, 1], [2], [], [], [4, 5], [6]] [.val (ur7_0), .val (.int .i64 i129), .val (elp ur7_0 (i129.toNat * 1)), .val (.int .i64 x132), .val (ur7_0), .val (.int .i64 i120), .val (elp ur7_0 (i120.toNat * 1)), .val (.int .i64 x134)] Ty.mixed rfl rfl (by kernel_rfl) (by kernel_rfl) rfl
          ·
           refine ⟨?_, ?_, ?_, ?_, ?_, ?_, ?_, ?_, trivial⟩
           ·
            intro w138 vq138 hB138 hH138
            have hS138 := hS128.below hB138
            refine W_move rfl rfl ?_
            refine W_nil ?_
            exact N_step rfl rfl (Below.refl _ _)
           ·
            intro w139 vq139 hB139 hH139
            have hS139 := hS128.below hB139
            refine W_move rfl rfl ?_
            refine W_nil ?_
            exact N_step rfl rfl (Below.refl _ _)
           ·
            intro w140 vq140 hB140 hH140
            have hS140 := hS128.below hB140
            refine W_ix rfl Go.Proofs.Try.underlying22 Ty.cells3 Ty.info3 rfl rfl (he136.below hB140) hp136 rfl ?_
            refine W_nil ?_
            exact N_step rfl rfl (Below.refl _ _)
           ·
            intro w141 vq141 hB141 hH141
            have hS141 := hS128.below hB141
            refine W_ld1 0 rfl Ty.cell3 rfl (he136.below hB141) (by omega) rfl ?_
            refine W_nil ?_
            exact N_step rfl rfl (Below.refl _ _)
           ·
            intro w142 vq142 hB142 hH142
            have hS142 := hS128.below hB142
            refine W_move rfl rfl ?_
            refine W_nil ?_
            exact N_step rfl rfl (Below.refl _ _)
           ·
            intro w143 vq143 hB143 hH143
            have hS143 := hS128.below hB143
            refine W_move rfl rfl ?_
            refine W_nil ?_
            exact N_step rfl rfl (Below.refl _ _)
           ·
            intro w144 vq144 hB144 hH144
            have hS144 := hS128.below hB144
            refine W_ix rfl Go.Proofs.Try.underlying22 Ty.cells3 Ty.info3 rfl rfl (he137.below hB144) hp137 rfl ?_
            refine W_nil ?_
            exact N_step rfl rfl (Below.refl _ _)
           ·
            intro w145 vq145 hB145 hH145
            have hS145 := hS128.below hB145
            refine W_ld1 0 rfl Ty.cell3 rfl (he137.below hB145) (by omega) rfl ?_
            refine W_nil ?_
            exact N_step rfl rfl (Below.refl _ _)
          intro w146 vq146 hB146 hH146
          have hS146 := hS128.below hB146
          refine W_eql rfl rfl rfl ?_
          refine W_nil ?_
          refine N_code ?_
          refine C_cond rfl (fun hc147 => ?_) (fun hc147 => ?_)
          ·
           rw [if_t hc147] at H
           refine C_seq ?_
           refine C_region ?_
           refine W_assign rfl rfl ?_
           refine W_nil ?_
           refine N_code ?_
           obtain rfl := Option.some.inj H
           refine C_ret rfl rfl ?_
           exact ⟨F128, rfl, hS146.pick [] (by decide)⟩
          ·
           rw [if_f hc147] at H
           refine C_skip ?_
           refine N_block ?_
           refine N_code ?_
           refine C_region ?_
           refine W_move rfl rfl ?_
           refine W_add rfl rfl rfl rfl ?_
           refine W_assign rfl rfl ?_
           refine W_nil ?_
           exact N_againM (wr (i129 + 1)) _ H ⟨F128, rfl, le128, hS146⟩ ⟨rfl, rfl, rfl, rfl, rfl, rfl, trivial⟩
         ·
          rw [if_f hc131] at H
          refine C_exit _ rfl ?_
          exact N_join _ ⟨H, ⟨F128, rfl, le128, hS128⟩⟩ ⟨rfl, rfl, rfl, rfl, rfl, trivial⟩
       ·
        rintro E w126 ⟨H, F126, rfl, le126, hS126⟩
        dsimp only [cellarerlaw21_PlanVols.k14] at H
        refine C_seq ?_
        refine C_region ?_
        refine W_move rfl rfl ?_
        refine W_not rfl rfl ?_
        refine W_nil ?_
        refine N_code ?_
        refine C_cond rfl (fun hc127 => ?_) (fun hc127 => ?_)
        ·
         rw [if_t hc127] at H
         refine C_seq ?_
         refine C_region ?_
         refine W_assign rfl rfl ?_
         refine W_nil ?_
         refine N_code ?_
         obtain rfl := Option.some.inj H
         refine C_ret rfl rfl ?_
         exact ⟨F126, rfl, hS126.pick [] (by decide)⟩
        ·
         rw [if_f hc127] at H
         refine C_skip ?_
         refine N_block ?_
         exact N_join _ ⟨H, ⟨F126, rfl, (le124.trans le126), hS126⟩⟩ ⟨rfl, rfl, rfl, rfl, trivial⟩
     ·
      rintro E w123 ⟨H, F123, rfl, le123, hS123⟩
      dsimp only [cellarerlaw21_PlanVols.k12] at H
      refine C_region ?_
      refine W_move rfl rfl ?_
      refine W_add rfl rfl rfl rfl ?_
      refine W_assign rfl rfl ?_
      refine W_nil ?_
      exact N_againM (wr (i120 + 1)) _ H ⟨F123, rfl, (le119.trans le123), hS123⟩ ⟨rfl, rfl, rfl, rfl, trivial⟩
    ·
     rw [if_f hc122] at H
     refine C_exit _ rfl ?_
     exact N_join _ ⟨H, ⟨F119, rfl, le119, hS119⟩⟩ ⟨rfl, rfl, rfl, trivial⟩
  ·
   rintro E w9 ⟨H, F9, rfl, le9, hS9⟩
   dsimp only [cellarerlaw21_PlanVols.k1] at H
   refine C_seq_join (fun E wq => cellarerlaw21_PlanVols.k2 x0 x1 r7 = some r ∧ ∃ (F10 : Frz), E = [(0, v0), (1, v1), (5, ur7_0)] ∧ F9.le F10 ∧ St [] w F F10 [.row tI 3 ur7_0 r7] wq) ?_ ?_
   ·
    refine C_seq ?_
    refine C_region ?_
    refine W_assign rfl rfl ?_
    refine W_nil ?_
    refine N_code ?_
    refine C_block ?_
    refine C_loopM (fun (s : Int) E wq => ∃ (F68 : Frz), E = [(0, v0), (1, v1), (5, ur7_0), (10, .int .i64 s)] ∧ F9.le F68 ∧ St [] w F F68 [.row tI 3 ur7_0 r7] wq) H ?_ ?_
    ·
     exact ⟨_, ⟨F9, rfl, (Frz.le.refl _), hS9⟩, ⟨rfl, rfl, rfl, rfl, trivial⟩⟩
    ·
     rintro rec70 i69 E w68 hI H
     try dsimp only at hI
     obtain ⟨F68, rfl, le68, hS68⟩ := hI
     dsimp only [cellarerlaw21_PlanVols.l7] at H
     refine C_seq ?_
     refine C_seq ?_
     refine C_region ?_
     refine W_move rfl rfl ?_
     refine W_move rfl rfl ?_
     refine W_lenv rfl Go.Proofs.Try.underlying23 rfl h1.ln ?_
     refine W_lss rfl rfl rfl ?_
     refine W_nil ?_
     refine N_code ?_
     refine C_cond rfl (fun hc71 => ?_) (fun hc71 => ?_)
     ·
      rw [if_t hc71] at H
      refine C_skip ?_
      refine N_code ?_
      refine C_seq_join (fun E wq => cellarerlaw21_PlanVols.k8 i69 rec70 = some r ∧ ∃ (F72 : Frz), E = [(0, v0), (1, v1), (5, ur7_0), (10, .int .i64 i69)] ∧ F68.le F72 ∧ St [] w F F72 [.row tI 3 ur7_0 r7] wq) ?_ ?_
      ·
       refine C_block ?_
       refine C_seq ?_
       refine C_region ?_
       refine W_assign rfl rfl ?_
       refine W_nil ?_
       refine N_code ?_
       refine C_seq_join (fun E wq => ∃ b74 : Bool, cellarerlaw21_PlanVols.k9 i69 rec70 b74 = some r ∧ ∃ (F73 : Frz), E = [(0, v0), (1, v1), (5, ur7_0), (10, .int .i64 i69), (11, .bool b74)] ∧ F68.le F73 ∧ St [] w F F73 [.row tI 3 ur7_0 r7] wq) ?_ ?_
       ·
        refine C_seq ?_
        refine C_region ?_
        refine W_assign rfl rfl ?_
        refine W_nil ?_
        refine N_code ?_
        refine C_block ?_
        refine C_loopM (fun (s : Bool × Int) E wq => ∃ (F76 : Frz), E = [(0, v0), (1, v1), (5, ur7_0), (10, .int .i64 i69), (11, .bool s.1), (12, .int .i64 s.2)] ∧ F68.le F76 ∧ St [] w F F76 [.row tI 3 ur7_0 r7] wq) H ?_ ?_
        ·
         exact ⟨_, ⟨F68, rfl, (Frz.le.refl _), hS68⟩, ⟨rfl, rfl, rfl, rfl, rfl, rfl, trivial⟩⟩
        ·
         rintro rec79 ⟨b77, i78⟩ E w76 hI H
         try dsimp only at hI
         obtain ⟨F76, rfl, le76, hS76⟩ := hI
         dsimp only [cellarerlaw21_PlanVols.l10] at H
         refine C_seq ?_
         refine C_seq ?_
         refine C_region ?_
         refine W_move rfl rfl ?_
         refine W_move rfl rfl ?_
         refine W_lenv rfl Go.Proofs.Try.underlying22 rfl (hS76.rowLn (k := 0) rfl) ?_
         refine W_lss rfl rfl rfl ?_
         refine W_nil ?_
         refine N_code ?_
         refine C_cond rfl (fun hc80 => ?_) (fun hc80 => ?_)
         ·
          rw [if_t hc80] at H
          refine C_skip ?_
          refine N_code ?_
          refine C_seq ?_
          refine C_block ?_
          obtain ⟨x81, hx81, H⟩ := bd_some H
          obtain ⟨x83, hx83, H⟩ := bd_some H
          refine C_join (fun E wq => E = [(0, v0), (1, v1), (5, ur7_0), (10, .int .i64 i69), (11, .bool (b77 || decide (x81.loc.vol = x83))), (12, .int .i64 i78)] ∧ ∃ F85 : Frz, F76.le F85 ∧ St [] w F F85 [.row tI 3 ur7_0 r7] wq) ?_ ?_
          ·
           rcases Bool.eq_false_or_eq_true b77 with hb86 | hb86
           ·
            apply C_draw 13 [[], [0], [1], [1], [2, 3, 1], [4, 1], [5, 1], [6, 1], [1], [1], [8, 9, 1], [10, 1], [7, 11, 1]] [.val (.bool b77), .val (.bool true), .val undef, .val undef, .val undef, .val undef, .val undef, .val undef, .val undef, .val undef, .val undef, .val undef, .val undef] Ty.mixed rfl rfl (by kernel_rfl) (by kernel_rfl) rfl
            ·
             refine ⟨?_, ?_, ?_, ?_, ?_, ?_, ?_, ?_, ?_, ?_, ?_, ?_, ?_, trivial⟩
             ·
              intro w87 vq87 hB87 hH87
              have hS87 := hS76.below hB87
              refine W_move rfl rfl ?_
              refine W_nil ?_
              exact N_step rfl rfl (Below.refl _ _)
             ·
              intro w88 vq88 hB88 hH88
              have hS88 := hS76.below hB88
              refine W_move rfl rfl ?_
              refine W_nil ?_
              exact N_step rfl (congrArg Value.bool hb86) (Below.refl _ _)
             ·
              intro w89 vq89 hB89 hH89
              have hS89 := hS76.below hB89
              refine W_guard_no rfl rfl rfl rfl rfl ?_
              refine W_nil ?_
              exact N_step rfl rfl (Below.refl _ _)
             ·
              intro w90 vq90 hB90 hH90
              have hS90 := hS76.below hB90
              refine W_guard_no rfl rfl rfl rfl rfl ?_
              refine W_nil ?_
              exact N_step rfl rfl (Below.refl _ _)
             ·
              intro w91 vq91 hB91 hH91
              have hS91 := hS76.below hB91
              refine W_guard_no rfl rfl rfl rfl rfl ?_
              refine W_nil ?_
              exact N_step rfl rfl (Below.refl _ _)
             ·
              intro w92 vq92 hB92 hH92
              have hS92 := hS76.below hB92
              refine W_guard_no rfl rfl rfl rfl rfl ?_
              refine W_nil ?_
              exact N_step rfl rfl (Below.refl _ _)
             ·
              intro w93 vq93 hB93 hH93
              have hS93 := hS76.below hB93
              refine W_guard_no rfl rfl rfl rfl rfl ?_
              refine W_nil ?_
              exact N_step rfl rfl (Below.refl _ _)
             ·
              intro w94 vq94 hB94 hH94
              have hS94 := hS76.below hB94
              refine W_guard_no rfl rfl rfl rfl rfl ?_
              refine W_nil ?_
              exact N_step rfl rfl (Below.refl _ _)
             ·
              intro w95 vq95 hB95 hH95
              have hS95 := hS76.below hB95
              refine W_guard_no rfl rfl rfl rfl rfl ?_
              refine W_nil ?_
              exact N_step rfl rfl (Below.refl _ _)
             ·
              intro w96 vq96 hB96 hH96
              have hS96 := hS76.below hB96
              refine W_guard_no rfl rfl rfl rfl rfl ?_
              refine W_nil ?_
              exact N_step rfl rfl (Below.refl _ _)
             ·
              intro w97 vq97 hB97 hH97
              have hS97 := hS76.below hB97
              refine W_guard_no rfl rfl rfl rfl rfl ?_
              refine W_nil ?_
              exact N_step rfl rfl (Below.refl _ _)
             ·
              intro w98 vq98 hB98 hH98
              have hS98 := hS76.below hB98
              refine W_guard_no rfl rfl rfl rfl rfl ?_
              refine W_nil ?_
              exact N_step rfl rfl (Below.refl _ _)
             ·
              intro w99 vq99 hB99 hH99
              have hS99 := hS76.below hB99
              refine W_guard_no rfl rfl rfl rfl rfl ?_
              refine W_nil ?_
              exact N_step rfl rfl (Below.refl _ _)
            intro w100 vq100 hB100 hH100
            have hS100 := hS76.below hB100
            refine W_pick_t rfl rfl rfl ?_
            refine W_assign rfl rfl ?_
            refine W_nil ?_
            exact N_join _ ⟨rfl, F76, (Frz.le.refl _), hS100⟩ ⟨rfl, rfl, rfl, rfl, (look_bool rfl (by first | rfl | (rw [hb86]; first | done | rfl) | simp [hb86])), rfl, trivial⟩
           ·
            have hy101 := hx81
            rw [only_t (by first | rfl | (rw [hb86]; first | done | rfl) | simp [hb86])] at hy101
            obtain ⟨hp102, hy102⟩ := ix_some hy101
            obtain ⟨cs102, hr102, he102⟩ := (h1.mono ((((le2.trans ler7).trans le9).trans le68).trans le76)).at_ hy102
            obtain rfl := hr102
            replace he102 : Elf _ _ 5 _ _ := he102
            have hy103 := hx83
            rw [only_t (by first | rfl | (rw [hb86]; first | done | rfl) | simp [hb86])] at hy103
            obtain ⟨hp104, hy104⟩ := ix_some hy103
            obtain ⟨cs104, hr104, he104⟩ := hS76.rowAt (k := 0) rfl hy104
            obtain rfl := hr104
            replace he104 : El _ _ 1 _ _ := he104
            apply C_draw 13 [[], [0], [1], [1], [2, 3, 1], [4, 1], [5, 1], [6, 1], [1], [1], [8, 9, 1], [10, 1], [7, 11, 1]] [.val (.bool b77), .val (.bool false), .val (v1), .val (.int .i64 i69), .val (elp v1 (i69.toNat * 5)), .val (elp v1 ((i69.toNat * 5) + 1)), .val (elp v1 (((i69.toNat * 5) + 1) + 0)), .val (.int .i64 x81.loc.vol), .val (ur7_0), .val (.int .i64 i78), .val (elp ur7_0 (i78.toNat * 1)), .val (.int .i64 x83), .val (.bool (decide (x81.loc.vol = x83)))] Ty.mixed rfl rfl (by kernel_rfl) (by kernel_rfl) rfl
            ·
             refine ⟨?_, ?_, ?_, ?_, ?_, ?_, ?_, ?_, ?_, ?_, ?_, ?_, ?_, trivial⟩
             ·
              intro w105 vq105 hB105 hH105
              have hS105 := hS76.below hB105
              refine W_move rfl rfl ?_
              refine W_nil ?_
              exact N_step rfl rfl (Below.refl _ _)
             ·
              intro w106 vq106 hB106 hH106
              have hS106 := hS76.below hB106
              refine W_move rfl rfl ?_
              refine W_nil ?_
              exact N_step rfl (congrArg Value.bool hb86) (Below.refl _ _)
             ·
              intro w107 vq107 hB107 hH107
              have hS107 := hS76.below hB107
              refine W_guard_yes rfl ?_
              refine W_move rfl rfl ?_
              refine W_nil ?_
              exact N_step rfl rfl (Below.refl _ _)
             ·
              intro w108 vq108 hB108 hH108
              have hS108 := hS76.below hB108
              refine W_guard_yes rfl ?_
              refine W_move rfl rfl ?_
              refine W_nil ?_
              exact N_step rfl rfl (Below.refl _ _)
             ·
              intro w109 vq109 hB109 hH109
              have hS109 := hS76.below hB109
              refine W_guard_yes rfl ?_
              refine W_ix rfl Go.Proofs.Try.underlying23 Ty.cells39 Ty.info39 rfl rfl (he102.el hS109.agree) hp102 rfl ?_
              refine W_nil ?_
              exact N_step rfl rfl (Below.refl _ _)
             ·
              intro w110 vq110 hB110 hH110
              have hS110 := hS76.below hB110
              refine W_guard_yes rfl ?_
              refine W_fld 1 rfl Ty.field39_1 rfl (he102.el hS110.agree) ?_
              refine W_nil ?_
              exact N_step rfl rfl (Below.refl _ _)
             ·
              intro w111 vq111 hB111 hH111
              have hS111 := hS76.below hB111
              refine W_guard_yes rfl ?_
              refine W_fld 0 rfl Ty.field37_0 rfl (he102.el hS111.agree) ?_
              refine W_nil ?_
              exact N_step rfl rfl (Below.refl _ _)
             ·
              intro w112 vq112 hB112 hH112
              have hS112 := hS76.below hB112
              refine W_guard_yes rfl ?_
              refine W_ld1 1 rfl Ty.cell3 rfl (he102.el hS112.agree) (by omega) rfl ?_
              refine W_nil ?_
              exact N_step rfl rfl (Below.refl _ _)
             ·
              intro w113 vq113 hB113 hH113
              have hS113 := hS76.below hB113
              refine W_guard_yes rfl ?_
              refine W_move rfl rfl ?_
              refine W_nil ?_
              exact N_step rfl rfl (Below.refl _ _)
             ·
              intro w114 vq114 hB114 hH114
              have hS114 := hS76.below hB114
              refine W_guard_yes rfl ?_
              refine W_move rfl rfl ?_
              refine W_nil ?_
              exact N_step rfl rfl (Below.refl _ _)
             ·
              intro w115 vq115 hB115 hH115
              have hS115 := hS76.below hB115
              refine W_guard_yes rfl ?_
              refine W_ix rfl Go.Proofs.Try.underlying22 Ty.cells3 Ty.info3 rfl rfl (he104.below hB115) hp104 rfl ?_
              refine W_nil ?_
              exact N_step rfl rfl (Below.refl _ _)
             ·
              intro w116 vq116 hB116 hH116
              have hS116 := hS76.below hB116
              refine W_guard_yes rfl ?_
              refine W_ld1 0 rfl Ty.cell3 rfl (he104.below hB116) (by omega) rfl ?_
              refine W_nil ?_
              exact N_step rfl rfl (Below.refl _ _)
             ·
              intro w117 vq117 hB117 hH117
              have hS117 := hS76.below hB117
              refine W_guard_yes rfl ?_
              refine W_eql rfl rfl rfl ?_
              refine W_nil ?_
              exact N_step rfl rfl (Below.refl _ _)
            intro w118 vq118 hB118 hH118
            have hS118 := hS76.below hB118
            refine W_pick_f rfl rfl rfl ?_
            refine W_assign rfl rfl ?_
            refine W_nil ?_
            exact N_join _ ⟨rfl, F76, (Frz.le.refl _), hS118⟩ ⟨rfl, rfl, rfl, rfl, (look_bool rfl (by first | rfl | (rw [hb86]; first | done | rfl) | simp [hb86])), rfl, trivial⟩
          rintro E w85 ⟨rfl, F85, le85, hS85⟩
          refine N_block ?_
          refine N_code ?_
          refine C_region ?_
          refine W_move rfl rfl ?_
          refine W_add rfl rfl rfl rfl ?_
          refine W_assign rfl rfl ?_
          refine W_nil ?_
          exact N_againM ((b77 || decide (x81.loc.vol = x83)), wr (i78 + 1)) _ H ⟨F85, rfl, (le76.trans le85), hS85⟩ ⟨rfl, rfl, rfl, rfl, rfl, rfl, trivial⟩
         ·
          rw [if_f hc80] at H
          refine C_exit _ rfl ?_
          exact N_join _ ⟨b77, H, ⟨F76, rfl, le76, hS76⟩⟩ ⟨rfl, rfl, rfl, rfl, rfl, trivial⟩
       ·
        rintro E w73 ⟨b74, H, F73, rfl, le73, hS73⟩
        dsimp only [cellarerlaw21_PlanVols.k9] at H
        refine C_seq ?_
        refine C_region ?_
        refine W_move rfl rfl ?_
        refine W_not rfl rfl ?_
        refine W_nil ?_
        refine N_code ?_
        refine C_cond rfl (fun hc75 => ?_) (fun hc75 => ?_)
        ·
         rw [if_t hc75] at H
         refine C_seq ?_
         refine C_region ?_
         refine W_assign rfl rfl ?_
         refine W_nil ?_
         refine N_code ?_
         obtain rfl := Option.some.inj H
         refine C_ret rfl rfl ?_
         exact ⟨F73, rfl, hS73.pick [] (by decide)⟩
        ·
         rw [if_f hc75] at H
         refine C_skip ?_
         refine N_block ?_
         exact N_join _ ⟨H, ⟨F73, rfl, le73, hS73⟩⟩ ⟨rfl, rfl, rfl, rfl, trivial⟩
      ·
       rintro E w72 ⟨H, F72, rfl, le72, hS72⟩
       dsimp only [cellarerlaw21_PlanVols.k8] at H
       refine C_region ?_
       refine W_move rfl rfl ?_
       refine W_add rfl rfl rfl rfl ?_
       refine W_assign rfl rfl ?_
       refine W_nil ?_
       exact N_againM (wr (i69 + 1)) _ H ⟨F72, rfl, (le68.trans le72), hS72⟩ ⟨rfl, rfl, rfl, rfl, trivial⟩
     ·
      rw [if_f hc71] at H
      refine C_exit _ rfl ?_
      exact N_join _ ⟨H, ⟨F68, rfl, le68, hS68⟩⟩ ⟨rfl, rfl, rfl, trivial⟩
   ·
    rintro E w10 ⟨H, F10, rfl, le10, hS10⟩
    dsimp only [cellarerlaw21_PlanVols.k2] at H
    refine C_seq ?_
    obtain ⟨l12, hl12, H⟩ := bd_some H
    obtain ⟨l14, hl14, H⟩ := bd_some H
    obtain ⟨r16, hr16, H⟩ := bd_some H
    refine C_region ?_
    refine W_bs (t := Read.t) [] ([] : List Read) rfl Go.Proofs.Try.underlying23 Ty.cells39 rfl rfl Ty.zero39 rfl rfl trivial rfl rfl hS10 ?_
    intro u11 w11 hS11
    refine W_move rfl rfl ?_
    refine W_appM 0 rfl Go.Proofs.Try.underlying23 Ty.row39 rfl rfl rfl rfl rfl hS11 rfl ((h1.mono (((le2.trans ler7).trans le9).trans le10)).src hS11.agree) hl12 ?_
    intro v13 w13 hS13
    refine W_move rfl rfl ?_
    refine W_appM 0 rfl Go.Proofs.Try.underlying23 Ty.row39 rfl rfl rfl rfl rfl hS13 rfl ((h1.mono (((le2.trans ler7).trans le9).trans le10)).src hS13.agree) hl14 ?_
    intro v15 w15 hS15
    refine W_call rfl Ty.named32 rfl (plan_Vols_ok (now_agree _) (hS15.rowNow (k := 0) rfl) hr16) ?_
    rintro ur16_0 w17 ⟨Fr16, _, rfl, hT17⟩
    have hS17 := hS15.lentFlat hT17 ⟨fun h => h, trivial⟩
    refine W_assign rfl rfl ?_
    refine W_nil ?_
    refine N_code ?_
    refine C_seq ?_
    refine C_seq ?_
    refine C_region ?_
    refine W_move rfl rfl ?_
    refine W_lenv rfl Go.Proofs.Try.underlying22 rfl (hS17.rowLn (k := 0) rfl) ?_
    refine W_move rfl rfl ?_
    refine W_lenv rfl Go.Proofs.Try.underlying22 rfl (hS17.rowLn (k := 2) rfl) ?_
    refine W_neq rfl rfl rfl ?_
    refine W_nil ?_
    refine N_code ?_
    refine C_cond rfl (fun hc18 => ?_) (fun hc18 => ?_)
    ·
     rw [if_t hc18] at H
     refine C_seq ?_
     refine C_region ?_
     refine W_assign rfl rfl ?_
     refine W_nil ?_
     refine N_code ?_
     obtain rfl := Option.some.inj H
     refine C_ret rfl rfl ?_
     exact ⟨F10, rfl, hS17.pick [] (by decide)⟩
    ·
     rw [if_f hc18] at H
     refine C_skip ?_
     refine N_code ?_
     refine C_seq_join (fun E wq => cellarerlaw21_PlanVols.k3 x0 = some r ∧ ∃ (F19 : Frz), E = [(0, v0)] ∧ F10.le F19 ∧ St [] w F F19 [] wq) ?_ ?_
     ·
      refine C_seq ?_
      refine C_region ?_
      refine W_assign rfl rfl ?_
      refine W_nil ?_
      refine N_code ?_
      refine C_block ?_
      refine C_loopM (fun (s : Int) E wq => ∃ (F48 : Frz), E = [(0, v0), (5, ur7_0), (13, ur16_0), (14, .int .i64 s)] ∧ F10.le F48 ∧ St [] w F F48 [.row tI 3 ur16_0 r16, .row tI 3 ur7_0 r7] wq) H ?_ ?_
      ·
       exact ⟨_, ⟨F10, rfl, (Frz.le.refl _), hS17.pick [0, 2] (by decide)⟩, ⟨rfl, rfl, rfl, rfl, trivial⟩⟩
      ·
       rintro rec50 i49 E w48 hI H
       try dsimp only at hI
       obtain ⟨F48, rfl, le48, hS48⟩ := hI
       dsimp only [cellarerlaw21_PlanVols.l6] at H
       refine C_seq ?_
       refine C_seq ?_
       refine C_region ?_
       refine W_move rfl rfl ?_
       refine W_move rfl rfl ?_
       refine W_lenv rfl Go.Proofs.Try.underlying22 rfl (hS48.rowLn (k := 1) rfl) ?_
       refine W_lss rfl rfl rfl ?_
       refine W_nil ?_
       refine N_code ?_
       refine C_cond rfl (fun hc51 => ?_) (fun hc51 => ?_)
       ·
        rw [if_t hc51] at H
        refine C_skip ?_
        refine N_code ?_
        refine C_seq ?_
        refine C_block ?_
        refine C_seq ?_
        obtain ⟨x52, hx52, H⟩ := bd_some H
        obtain ⟨x54, hx54, H⟩ := bd_some H
        obtain ⟨hp56, hy56⟩ := ix_some hx52
        obtain ⟨cs56, hr56, he56⟩ := hS48.rowAt (k := 0) rfl hy56
        obtain rfl := hr56
        replace he56 : El _ _ 1 _ _ := he56
        obtain ⟨hp57, hy57⟩ := ix_some hx54
        obtain ⟨cs57, hr57, he57⟩ := hS48.rowAt (k := 1) rfl hy57
        obtain rfl := hr57
        replace he57 : El _ _ 1 _ _ := he57
        apply C_draw 8 [[], [], [0, 1], [2], [], [], [4, 5], [6]] [.val (ur16_0), .val (.int .i64 i49), .val (elp ur16_0 (i49.toNat * 1)), .val (.int .i64 x52), .val (ur7_0), .val (.int .i64 i49), .val (elp ur7_0 (i49.toNat * 1)), .val (.int .i64 x54)] Ty.mixed rfl rfl (by kernel_rfl) (by kernel_rfl) rfl
        ·
         refine ⟨?_, ?_, ?_, ?_, ?_, ?_, ?_, ?_, trivial⟩
         ·
          intro w58 vq58 hB58 hH58
          have hS58 := hS48.below hB58
          refine W_move rfl rfl ?_
          refine W_nil ?_
          exact N_step rfl rfl (Below.refl _ _)
         ·
          intro w59 vq59 hB59 hH59
          have hS59 := hS48.below hB59
          refine W_move rfl rfl ?_
          refine W_nil ?_
          exact N_step rfl rfl (Below.refl _ _)
         ·
          intro w60 vq60 hB60 hH60
          have hS60 := hS48.below hB60
          refine W_ix rfl Go.Proofs.Try.underlying22 Ty.cells3 Ty.info3 rfl rfl (he56.below hB60) hp56 rfl ?_
          refine W_nil ?_
          exact N_step rfl rfl (Below.refl _ _)
         ·
          intro w61 vq61 hB61 hH61
          have hS61 := hS48.below hB61
          refine W_ld1 0 rfl Ty.cell3 rfl (he56.below hB61) (by omega) rfl ?_
          refine W_nil ?_
          exact N_step rfl rfl (Below.refl _ _)
         ·
          intro w62 vq62 hB62 hH62
          have hS62 := hS48.below hB62
          refine W_move rfl rfl ?_
          refine W_nil ?_
          exact N_step rfl rfl (Below.refl _ _)
         ·
          intro w63 vq63 hB63 hH63
          have hS63 := hS48.below hB63
          refine W_move rfl rfl ?_
          refine W_nil ?_
          exact N_step rfl rfl (Below.refl _ _)
         ·
          intro w64 vq64 hB64 hH64
          have hS64 := hS48.below hB64
          refine W_ix rfl Go.Proofs.Try.underlying22 Ty.cells3 Ty.info3 rfl rfl (he57.below hB64) hp57 rfl ?_
          refine W_nil ?_
          exact N_step rfl rfl (Below.refl _ _)
         ·
          intro w65 vq65 hB65 hH65
          have hS65 := hS48.below hB65
          refine W_ld1 0 rfl Ty.cell3 rfl (he57.below hB65) (by omega) rfl ?_
          refine W_nil ?_
          exact N_step rfl rfl (Below.refl _ _)
        intro w66 vq66 hB66 hH66
        have hS66 := hS48.below hB66
        refine W_neq rfl rfl rfl ?_
        refine W_nil ?_
        refine N_code ?_
        refine C_cond rfl (fun hc67 => ?_) (fun hc67 => ?_)
        ·
         rw [if_t hc67] at H
         refine C_seq ?_
         refine C_region ?_
         refine W_assign rfl rfl ?_
         refine W_nil ?_
         refine N_code ?_
         obtain rfl := Option.some.inj H
         refine C_ret rfl rfl ?_
         exact ⟨F48, rfl, hS66.pick [] (by decide)⟩
        ·
         rw [if_f hc67] at H
         refine C_skip ?_
         refine N_block ?_
         refine N_code ?_
         refine C_region ?_
         refine W_move rfl rfl ?_
         refine W_add rfl rfl rfl rfl ?_
         refine W_assign rfl rfl ?_
         refine W_nil ?_
         exact N_againM (wr (i49 + 1)) _ H ⟨F48, rfl, le48, hS66⟩ ⟨rfl, rfl, rfl, rfl, trivial⟩
       ·
        rw [if_f hc51] at H
        refine C_exit _ rfl ?_
        exact N_join _ ⟨H, ⟨F48, rfl, le48, hS48.pick [] (by decide)⟩⟩ ⟨rfl, trivial⟩
     ·
      rintro E w19 ⟨H, F19, rfl, le19, hS19⟩
      dsimp only [cellarerlaw21_PlanVols.k3] at H
      refine C_seq ?_
      obtain ⟨r20, hr20, H⟩ := bd_some H
      refine C_region ?_
      refine W_move rfl rfl ?_
      refine W_call rfl Ty.named27 rfl (plan_Order_ok hS19.agree (h0.mono ((((le2.trans ler7).trans le9).trans le10).trans le19)) hr20) ?_
      rintro v21 w21 ⟨Fr20, ur20_0, ur20_1, rfl, hT21⟩
      have hS21 := hS19.call hT21
      have ler20 := hT21.ext
      refine W_move rfl rfl ?_
      refine W_extract rfl rfl rfl ?_
      refine W_extract rfl rfl rfl ?_
      refine W_assign rfl rfl ?_
      refine W_assign rfl rfl ?_
      refine W_nil ?_
      refine N_code ?_
      refine C_seq ?_
      obtain ⟨r22, hr22, H⟩ := bd_some H
      refine C_region ?_
      refine W_move rfl rfl ?_
      refine W_call rfl Ty.named32 rfl (plan_Vols_ok (now_agree _) (hS21.rowNow (k := 0) rfl) hr22) ?_
      rintro ur22_0 w23 ⟨Fr22, _, rfl, hT23⟩
      have hS23 := hS21.lentFlat hT23 ⟨fun h => h, trivial⟩
      refine W_assign rfl rfl ?_
      refine W_nil ?_
      refine N_code ?_
      refine C_seq_join (fun E wq => cellarerlaw21_PlanVols.k4 = some r ∧ ∃ (F24 : Frz), E = [] ∧ Fr20.le F24 ∧ St [] w F F24 [] wq) ?_ ?_
      ·
       refine C_seq ?_
       refine C_region ?_
       refine W_assign rfl rfl ?_
       refine W_nil ?_
       refine N_code ?_
       refine C_block ?_
       refine C_loopM (fun (s : Int) E wq => ∃ (F27 : Frz), E = [(17, ur22_0), (18, .int .i64 s)] ∧ Fr20.le F27 ∧ St [] w F F27 [.row tI 3 ur22_0 r22] wq) H ?_ ?_
       ·
        exact ⟨_, ⟨Fr20, rfl, (Frz.le.refl _), hS23.pick [0] (by decide)⟩, ⟨rfl, rfl, trivial⟩⟩
       ·
        rintro rec29 i28 E w27 hI H
        try dsimp only at hI
        obtain ⟨F27, rfl, le27, hS27⟩ := hI
        dsimp only [cellarerlaw21_PlanVols.l5] at H
        refine C_seq ?_
        refine C_seq ?_
        refine C_region ?_
        refine W_move rfl rfl ?_
        refine W_move rfl rfl ?_
        refine W_lenv rfl Go.Proofs.Try.underlying22 rfl (hS27.rowLn (k := 0) rfl) ?_
        refine W_lss rfl rfl rfl ?_
        refine W_nil ?_
        refine N_code ?_
        refine C_cond rfl (fun hc30 => ?_) (fun hc30 => ?_)
        ·
         rw [if_t hc30] at H
         refine C_skip ?_
         refine N_code ?_
         refine C_seq ?_
         refine C_block ?_
         refine C_seq ?_
         obtain ⟨x31, hx31, H⟩ := bd_some H
         obtain ⟨x33, hx33, H⟩ := bd_some H
         obtain ⟨hp35, hy35⟩ := ix_some hx31
         obtain ⟨cs35, hr35, he35⟩ := hS27.rowAt (k := 0) rfl hy35
         obtain rfl := hr35
         replace he35 : El _ _ 1 _ _ := he35
         obtain ⟨hp36, hy36⟩ := ix_some hx33
         obtain ⟨cs36, hr36, he36⟩ := hS27.rowAt (k := 0) rfl hy36
         obtain rfl := hr36
         replace he36 : El _ _ 1 _ _ := he36
         apply C_draw 9 [[], [], [0, 1], [2], [], [], [5], [4, 6], [7]] [.val (ur22_0), .val (.int .i64 i28), .val (elp ur22_0 (i28.toNat * 1)), .val (.int .i64 x31), .val (ur22_0), .val (.int .i64 i28), .val (.int .i64 (wr (i28 - 1))), .val (elp ur22_0 ((wr (i28 - 1)).toNat * 1)), .val (.int .i64 x33)] Ty.mixed rfl rfl (by kernel_rfl) (by kernel_rfl) rfl
         ·
          refine ⟨?_, ?_, ?_, ?_, ?_, ?_, ?_, ?_, ?_, trivial⟩
          ·
           intro w37 vq37 hB37 hH37
           have hS37 := hS27.below hB37
           refine W_move rfl rfl ?_
           refine W_nil ?_
           exact N_step rfl rfl (Below.refl _ _)
          ·
           intro w38 vq38 hB38 hH38
           have hS38 := hS27.below hB38
           refine W_move rfl rfl ?_
           refine W_nil ?_
           exact N_step rfl rfl (Below.refl _ _)
          ·
           intro w39 vq39 hB39 hH39
           have hS39 := hS27.below hB39
           refine W_ix rfl Go.Proofs.Try.underlying22 Ty.cells3 Ty.info3 rfl rfl (he35.below hB39) hp35 rfl ?_
           refine W_nil ?_
           exact N_step rfl rfl (Below.refl _ _)
          ·
           intro w40 vq40 hB40 hH40
           have hS40 := hS27.below hB40
           refine W_ld1 0 rfl Ty.cell3 rfl (he35.below hB40) (by omega) rfl ?_
           refine W_nil ?_
           exact N_step rfl rfl (Below.refl _ _)
          ·
           intro w41 vq41 hB41 hH41
           have hS41 := hS27.below hB41
           refine W_move rfl rfl ?_
           refine W_nil ?_
           exact N_step rfl rfl (Below.refl _ _)
          ·
           intro w42 vq42 hB42 hH42
           have hS42 := hS27.below hB42
           refine W_move rfl rfl ?_
           refine W_nil ?_
           exact N_step rfl rfl (Below.refl _ _)
          ·
           intro w43 vq43 hB43 hH43
           have hS43 := hS27.below hB43
           refine W_subi rfl rfl rfl rfl ?_
           refine W_nil ?_
           exact N_step rfl rfl (Below.refl _ _)
          ·
           intro w44 vq44 hB44 hH44
           have hS44 := hS27.below hB44
           refine W_ix rfl Go.Proofs.Try.underlying22 Ty.cells3 Ty.info3 rfl rfl (he36.below hB44) hp36 rfl ?_
           refine W_nil ?_
           exact N_step rfl rfl (Below.refl _ _)
          ·
           intro w45 vq45 hB45 hH45
           have hS45 := hS27.below hB45
           refine W_ld1 0 rfl Ty.cell3 rfl (he36.below hB45) (by omega) rfl ?_
           refine W_nil ?_
           exact N_step rfl rfl (Below.refl _ _)
         intro w46 vq46 hB46 hH46
         have hS46 := hS27.below hB46
         refine W_leq rfl rfl rfl ?_
         refine W_nil ?_
         refine N_code ?_
         refine C_cond rfl (fun hc47 => ?_) (fun hc47 => ?_)
         ·
          rw [if_t hc47] at H
          refine C_seq ?_
          refine C_region ?_
          refine W_assign rfl rfl ?_
          refine W_nil ?_
          refine N_code ?_
          obtain rfl := Option.some.inj H
          refine C_ret rfl rfl ?_
          exact ⟨F27, rfl, hS46.pick [] (by decide)⟩
         ·
          rw [if_f hc47] at H
          refine C_skip ?_
          refine N_block ?_
          refine N_code ?_
          refine C_region ?_
          refine W_move rfl rfl ?_
          refine W_add rfl rfl rfl rfl ?_
          refine W_assign rfl rfl ?_
          refine W_nil ?_
          exact N_againM (wr (i28 + 1)) _ H ⟨F27, rfl, le27, hS46⟩ ⟨rfl, rfl, trivial⟩
        ·
         rw [if_f hc30] at H
         refine C_exit _ rfl ?_
         exact N_join _ ⟨H, ⟨F27, rfl, le27, hS27.pick [] (by decide)⟩⟩ trivial
      ·
       rintro E w24 ⟨H, F24, rfl, le24, hS24⟩
       dsimp only [cellarerlaw21_PlanVols.k4] at H
       refine C_seq ?_
       obtain ⟨r25, hr25, H⟩ := bd_some H
       refine C_region ?_
       refine W_call rfl Ty.named30 rfl (cellarerlaw21_wakes_ok hS24.agree hr25) ?_
       rintro v26 w26 ⟨Fr25, rfl, hT26⟩
       have hS26 := hS24.lent hT26
       refine W_assign rfl rfl ?_
       refine W_nil ?_
       refine N_code ?_
       obtain rfl := Option.some.inj H
       refine C_ret rfl rfl ?_
       exact ⟨F24, rfl, hS26⟩

def cellarerkeep_Loc (x0 : Loc) (x1 : Loc) : Option Bool :=
  some (((decide (x0.vol = x1.vol) && decide (x0.file = x1.file)) && decide (x0.off = x1.off)) && decide (x0.len = x1.len))

theorem cellarerkeep_Loc_ok {F : Frz} {w : World} {x0 : Loc} {x1 : Loc} {r : Bool} (hA : Agree F w.heap) (H : cellarerkeep_Loc x0 x1 = some r) : Ret Try.prog 24 #[.agg (Loc.cells x0).toArray, .agg (Loc.cells x1).toArray] w fun v w' => ∃ (F' : Frz), v = .bool r ∧ St [] w F F' [] w' := by
 refine Ret_of (args := [.agg (Loc.cells x0).toArray, .agg (Loc.cells x1).toArray]) Go.Proofs.Try.func24 rfl rfl ?_
 change C _ _ _ _ [(0, .agg (Loc.cells x0).toArray), (1, .agg (Loc.cells x1).toArray)] _
 have hS := St.entry hA
 dsimp only [cellarerkeep_Loc] at H
 refine C_seq ?_
 refine C_region ?_
 refine W_bx (cs := [.int .i64 x0.vol, .int .i64 x0.file, .int .i64 x0.off, .int .i64 x0.len]) rfl rfl rfl hS ?_
 intro g1 w1 hS1
 refine W_bx (cs := [.int .i64 x1.vol, .int .i64 x1.file, .int .i64 x1.off, .int .i64 x1.len]) rfl rfl rfl hS1 ?_
 intro g2 w2 hS2
 refine W_assign rfl rfl ?_
 refine W_nil ?_
 refine N_code ?_
 refine C_seq ?_
 refine C_join (fun E wq => E = [(4, .bool (((decide (x0.vol = x1.vol) && decide (x0.file = x1.file)) && decide (x0.off = x1.off)) && decide (x0.len = x1.len)))] ∧ ∃ F3 : Frz, F.le F3 ∧ St [] w F F3 [.box g2 37 [.int .i64 x1.vol, .int .i64 x1.file, .int .i64 x1.off, .int .i64 x1.len], .box g1 37 [.int .i64 x0.vol, .int .i64 x0.file, .int .i64 x0.off, .int .i64 x0.len]] wq) ?_ ?_
 ·
  rcases Bool.eq_false_or_eq_true (decide (x0.vol = x1.vol)) with hb4 | hb4
  ·
   rcases Bool.eq_false_or_eq_true (decide (x0.file = x1.file)) with hb5 | hb5
   ·
    rcases Bool.eq_false_or_eq_true (decide (x0.off = x1.off)) with hb6 | hb6
    ·
     refine C_region ?_
     refine W_field_pl 0 rfl Ty.field37_0 rfl ?_
     refine W_bld1 1 rfl Ty.cell3 rfl hS2 rfl rfl ?_
     refine W_field_pl 0 rfl Ty.field37_0 rfl ?_
     refine W_bld1 0 rfl Ty.cell3 rfl hS2 rfl rfl ?_
     refine W_eql rfl rfl rfl ?_
     refine W_move rfl rfl ?_
     refine W_known (t := 10) true rfl hb4 ?_
     refine W_guard_yes rfl ?_
     refine W_field_pl 1 rfl Ty.field37_1 rfl ?_
     refine W_guard_yes rfl ?_
     refine W_bld1 1 rfl Ty.cell3 rfl hS2 rfl rfl ?_
     refine W_guard_yes rfl ?_
     refine W_field_pl 1 rfl Ty.field37_1 rfl ?_
     refine W_guard_yes rfl ?_
     refine W_bld1 0 rfl Ty.cell3 rfl hS2 rfl rfl ?_
     refine W_guard_yes rfl ?_
     refine W_eql rfl rfl rfl ?_
     refine W_pick_t rfl rfl rfl ?_
     refine W_move rfl rfl ?_
     refine W_known (t := 17) true rfl hb5 ?_
     refine W_guard_yes rfl ?_
     refine W_field_pl 2 rfl Ty.field37_2 rfl ?_
     refine W_guard_yes rfl ?_
     refine W_bld1 1 rfl Ty.cell3 rfl hS2 rfl rfl ?_
     refine W_guard_yes rfl ?_
     refine W_field_pl 2 rfl Ty.field37_2 rfl ?_
     refine W_guard_yes rfl ?_
     refine W_bld1 0 rfl Ty.cell3 rfl hS2 rfl rfl ?_
     refine W_guard_yes rfl ?_
     refine W_eql rfl rfl rfl ?_
     refine W_pick_t rfl rfl rfl ?_
     refine W_move rfl rfl ?_
     refine W_known (t := 24) true rfl hb6 ?_
     refine W_guard_yes rfl ?_
     refine W_field_pl 3 rfl Ty.field37_3 rfl ?_
     refine W_guard_yes rfl ?_
     refine W_bld1 1 rfl Ty.cell3 rfl hS2 rfl rfl ?_
     refine W_guard_yes rfl ?_
     refine W_field_pl 3 rfl Ty.field37_3 rfl ?_
     refine W_guard_yes rfl ?_
     refine W_bld1 0 rfl Ty.cell3 rfl hS2 rfl rfl ?_
     refine W_guard_yes rfl ?_
     refine W_eql rfl rfl rfl ?_
     refine W_pick_t rfl rfl rfl ?_
     refine W_assign rfl rfl ?_
     refine W_nil ?_
     exact N_join _ ⟨rfl, F, (Frz.le.refl _), hS2⟩ ⟨(look_bool rfl (by first | rfl | (rw [hb5, hb4, hb6]; first | done | rfl) | simp [hb4, hb5, hb6])), trivial⟩
    ·
     refine C_region ?_
     refine W_field_pl 0 rfl Ty.field37_0 rfl ?_
     refine W_bld1 1 rfl Ty.cell3 rfl hS2 rfl rfl ?_
     refine W_field_pl 0 rfl Ty.field37_0 rfl ?_
     refine W_bld1 0 rfl Ty.cell3 rfl hS2 rfl rfl ?_
     refine W_eql rfl rfl rfl ?_
     refine W_move rfl rfl ?_
     refine W_known (t := 10) true rfl hb4 ?_
     refine W_guard_yes rfl ?_
     refine W_field_pl 1 rfl Ty.field37_1 rfl ?_
     refine W_guard_yes rfl ?_
     refine W_bld1 1 rfl Ty.cell3 rfl hS2 rfl rfl ?_
     refine W_guard_yes rfl ?_
     refine W_field_pl 1 rfl Ty.field37_1 rfl ?_
     refine W_guard_yes rfl ?_
     refine W_bld1 0 rfl Ty.cell3 rfl hS2 rfl rfl ?_
     refine W_guard_yes rfl ?_
     refine W_eql rfl rfl rfl ?_
     refine W_pick_t rfl rfl rfl ?_
     refine W_move rfl rfl ?_
     refine W_known (t := 17) true rfl hb5 ?_
     refine W_guard_yes rfl ?_
     refine W_field_pl 2 rfl Ty.field37_2 rfl ?_
     refine W_guard_yes rfl ?_
     refine W_bld1 1 rfl Ty.cell3 rfl hS2 rfl rfl ?_
     refine W_guard_yes rfl ?_
     refine W_field_pl 2 rfl Ty.field37_2 rfl ?_
     refine W_guard_yes rfl ?_
     refine W_bld1 0 rfl Ty.cell3 rfl hS2 rfl rfl ?_
     refine W_guard_yes rfl ?_
     refine W_eql rfl rfl rfl ?_
     refine W_pick_t rfl rfl rfl ?_
     refine W_move rfl rfl ?_
     refine W_known (t := 24) false rfl hb6 ?_
     refine W_guard_no rfl rfl rfl rfl rfl ?_
     refine W_guard_no rfl rfl rfl rfl rfl ?_
     refine W_guard_no rfl rfl rfl rfl rfl ?_
     refine W_guard_no rfl rfl rfl rfl rfl ?_
     refine W_guard_no rfl rfl rfl rfl rfl ?_
     refine W_pick_f rfl rfl rfl ?_
     refine W_assign rfl rfl ?_
     refine W_nil ?_
     exact N_join _ ⟨rfl, F, (Frz.le.refl _), hS2⟩ ⟨(look_bool rfl (by first | rfl | (rw [hb5, hb4, hb6]; first | done | rfl) | simp [hb4, hb5, hb6])), trivial⟩
   ·
    refine C_region ?_
    refine W_field_pl 0 rfl Ty.field37_0 rfl ?_
    refine W_bld1 1 rfl Ty.cell3 rfl hS2 rfl rfl ?_
    refine W_field_pl 0 rfl Ty.field37_0 rfl ?_
    refine W_bld1 0 rfl Ty.cell3 rfl hS2 rfl rfl ?_
    refine W_eql rfl rfl rfl ?_
    refine W_move rfl rfl ?_
    refine W_known (t := 10) true rfl hb4 ?_
    refine W_guard_yes rfl ?_
    refine W_field_pl 1 rfl Ty.field37_1 rfl ?_
    refine W_guard_yes rfl ?_
    refine W_bld1 1 rfl Ty.cell3 rfl hS2 rfl rfl ?_
    refine W_guard_yes rfl ?_
    refine W_field_pl 1 rfl Ty.field37_1 rfl ?_
    refine W_guard_yes rfl ?_
    refine W_bld1 0 rfl Ty.cell3 rfl hS2 rfl rfl ?_
    refine W_guard_yes rfl ?_
    refine W_eql rfl rfl rfl ?_
    refine W_pick_t rfl rfl rfl ?_
    refine W_move rfl rfl ?_
    refine W_known (t := 17) false rfl hb5 ?_
    refine W_guard_no rfl rfl rfl rfl rfl ?_
    refine W_guard_no rfl rfl rfl rfl rfl ?_
    refine W_guard_no rfl rfl rfl rfl rfl ?_
    refine W_guard_no rfl rfl rfl rfl rfl ?_
    refine W_guard_no rfl rfl rfl rfl rfl ?_
    refine W_pick_f rfl rfl rfl ?_
    refine W_move rfl rfl ?_
    refine W_guard_no rfl rfl rfl rfl rfl ?_
    refine W_guard_no rfl rfl rfl rfl rfl ?_
    refine W_guard_no rfl rfl rfl rfl rfl ?_
    refine W_guard_no rfl rfl rfl rfl rfl ?_
    refine W_guard_no rfl rfl rfl rfl rfl ?_
    refine W_pick_f rfl rfl rfl ?_
    refine W_assign rfl rfl ?_
    refine W_nil ?_
    exact N_join _ ⟨rfl, F, (Frz.le.refl _), hS2⟩ ⟨(look_bool rfl (by first | rfl | (rw [hb5, hb4]; first | done | rfl) | simp [hb4, hb5])), trivial⟩
  ·
   refine C_region ?_
   refine W_field_pl 0 rfl Ty.field37_0 rfl ?_
   refine W_bld1 1 rfl Ty.cell3 rfl hS2 rfl rfl ?_
   refine W_field_pl 0 rfl Ty.field37_0 rfl ?_
   refine W_bld1 0 rfl Ty.cell3 rfl hS2 rfl rfl ?_
   refine W_eql rfl rfl rfl ?_
   refine W_move rfl rfl ?_
   refine W_known (t := 10) false rfl hb4 ?_
   refine W_guard_no rfl rfl rfl rfl rfl ?_
   refine W_guard_no rfl rfl rfl rfl rfl ?_
   refine W_guard_no rfl rfl rfl rfl rfl ?_
   refine W_guard_no rfl rfl rfl rfl rfl ?_
   refine W_guard_no rfl rfl rfl rfl rfl ?_
   refine W_pick_f rfl rfl rfl ?_
   refine W_move rfl rfl ?_
   refine W_guard_no rfl rfl rfl rfl rfl ?_
   refine W_guard_no rfl rfl rfl rfl rfl ?_
   refine W_guard_no rfl rfl rfl rfl rfl ?_
   refine W_guard_no rfl rfl rfl rfl rfl ?_
   refine W_guard_no rfl rfl rfl rfl rfl ?_
   refine W_pick_f rfl rfl rfl ?_
   refine W_move rfl rfl ?_
   refine W_guard_no rfl rfl rfl rfl rfl ?_
   refine W_guard_no rfl rfl rfl rfl rfl ?_
   refine W_guard_no rfl rfl rfl rfl rfl ?_
   refine W_guard_no rfl rfl rfl rfl rfl ?_
   refine W_guard_no rfl rfl rfl rfl rfl ?_
   refine W_pick_f rfl rfl rfl ?_
   refine W_assign rfl rfl ?_
   refine W_nil ?_
   exact N_join _ ⟨rfl, F, (Frz.le.refl _), hS2⟩ ⟨(look_bool rfl (by first | rfl | (rw [hb4]; first | done | rfl) | simp [hb4])), trivial⟩
 rintro E w3 ⟨rfl, F3, le3, hS3⟩
 refine N_code ?_
 obtain rfl := Option.some.inj H
 refine C_ret rfl rfl ?_
 exact ⟨F3, rfl, hS3.pick [] (by decide)⟩

def cellarerlaw21_PlanLess.k1 (r29 : (List Read) × (List Int)) (i32 : Int) : Option Bool :=
  bd (only (decide (i32 = (r29.1.length : Int))) (cellarerlaw21_wakes) false) fun r33 =>
  some (decide (i32 = (r29.1.length : Int)) && r33)


def cellarerlaw21_PlanLess.k3 (i40 : Int) (rec41 : (Int × Int) → Option Bool) (i44 : Int) : Option Bool :=
  rec41 (i44, wr (i40 + 1))


def cellarerlaw21_PlanLess.k4 (r9 : (List Read) × (List Int)) (r29 : (List Read) × (List Int)) (i39 : Int) (i40 : Int) (rec41 : (Int × Int) → Option Bool) (i53 : Int) : Option Bool :=
  bd (only (!decide ((r29.1.length : Int) ≤ i39)) (ix r29.1 i39) (Read.mk 0 (Loc.mk 0 0 0 0))) fun x54 =>
  bd (only (!(decide ((r29.1.length : Int) ≤ i39) || decide (x54.want ≠ i53))) (ix r29.1 i39) (Read.mk 0 (Loc.mk 0 0 0 0))) fun x56 =>
  bd (only (!(decide ((r29.1.length : Int) ≤ i39) || decide (x54.want ≠ i53))) (ix r9.1 i40) (Read.mk 0 (Loc.mk 0 0 0 0))) fun x58 =>
  bd (only (!(decide ((r29.1.length : Int) ≤ i39) || decide (x54.want ≠ i53))) (cellarerkeep_Loc x56.loc x58.loc) false) fun r60 =>
  if ((decide ((r29.1.length : Int) ≤ i39) || decide (x54.want ≠ i53)) || (!r60)) then
    some false
  else
    cellarerlaw21_PlanLess.k3 i40 rec41 (wr (i39 + 1))


def cellarerlaw21_PlanLess.l2 (x7 : Int) (r9 : (List Read) × (List Int)) (r29 : (List Read) × (List Int)) (rec41 : (Int × Int) → Option Bool) : (Int × Int) → Option Bool
  | (i39, i40) =>
    if decide (i40 < (r9.1.length : Int)) then
      bd (ix r9.1 i40) fun x45 =>
      if decide (x45.want = wr x7) then
        cellarerlaw21_PlanLess.k3 i40 rec41 i39
      else
        bd (ix r9.1 i40) fun x49 =>
        if decide (wr x7 < x49.want) then
          cellarerlaw21_PlanLess.k4 r9 r29 i39 i40 rec41 (wr (x49.want - 1))
        else
          cellarerlaw21_PlanLess.k4 r9 r29 i39 i40 rec41 x49.want
    else
      cellarerlaw21_PlanLess.k1 r29 i39

def cellarerlaw21_PlanLess (x0 : List Want) (x1 : Int) : Option Bool :=
  bd (cellarerlaw21_Heavy x0) fun r1 =>
  if (r1 || decide ((x0.length : Int) = 0)) then
    some true
  else
    bd (rem (wu x1) (wu (x0.length : Int))) fun x7 =>
    bd (plan_Order x0) fun r9 =>
    bd (cut (α := Want) x0 0 (wr x7)) fun l11 =>
    bd (app (α := Want) [] l11) fun l13 =>
    bd (cut (α := Want) x0 (wr (wr x7 + 1)) (x0.length : Int)) fun l15 =>
    bd (app (α := Want) l13 l15) fun l17 =>
    bd (plan_Order l17) fun r29 =>
    loop (cellarerlaw21_PlanLess.l2 x7 r9 r29) (0, 0)

theorem cellarerlaw21_PlanLess_ok {F : Frz} {w : World} {x0 : List Want} {x1 : Int} {r : Bool} {v0 : Value} (hA : Agree F w.heap) (h0 : SlF Want.t F v0 x0) (H : cellarerlaw21_PlanLess x0 x1 = some r) : Ret Try.prog 8 #[v0, .int .i64 x1] w fun v w' => ∃ (F' : Frz), v = .bool r ∧ St [] w F F' [] w' := by
 refine Ret_of (args := [v0, .int .i64 x1]) Go.Proofs.Try.func8 rfl rfl ?_
 change C _ _ _ _ [(0, v0), (1, .int .i64 x1)] _
 have hS := St.entry hA
 dsimp only [cellarerlaw21_PlanLess] at H
 refine C_seq ?_
 refine C_region ?_
 refine W_assign rfl rfl ?_
 refine W_nil ?_
 refine N_code ?_
 refine C_seq ?_
 refine C_seq ?_
 obtain ⟨r1, hr1, H⟩ := bd_some H
 refine C_join (fun E wq => E = [(0, v0), (1, .int .i64 x1), (19, .bool (r1 || decide ((x0.length : Int) = 0)))] ∧ ∃ F2 : Frz, F.le F2 ∧ St [] w F F2 [] wq) ?_ ?_
 ·
  rcases Bool.eq_false_or_eq_true r1 with hb3 | hb3
  ·
   refine C_region ?_
   refine W_move rfl rfl ?_
   refine W_call rfl Ty.named26 rfl (cellarerlaw21_Heavy_ok hS.agree h0 hr1) ?_
   rintro v4 w4 ⟨Fr1, rfl, hT4⟩
   have hS4 := hS.lent hT4
   refine W_move rfl rfl ?_
   refine W_known (t := 15) true rfl hb3 ?_
   refine W_guard_no rfl rfl rfl rfl rfl ?_
   refine W_guard_no rfl rfl rfl rfl rfl ?_
   refine W_guard_no rfl rfl rfl rfl rfl ?_
   refine W_pick_t rfl rfl rfl ?_
   refine W_nil ?_
   exact N_join _ ⟨rfl, F, (Frz.le.refl _), hS4⟩ ⟨rfl, rfl, (look_bool rfl (by first | rfl | (rw [hb3]; first | done | rfl) | simp [hb3])), trivial⟩
  ·
   refine C_region ?_
   refine W_move rfl rfl ?_
   refine W_call rfl Ty.named26 rfl (cellarerlaw21_Heavy_ok hS.agree h0 hr1) ?_
   rintro v5 w5 ⟨Fr1, rfl, hT5⟩
   have hS5 := hS.lent hT5
   refine W_move rfl rfl ?_
   refine W_known (t := 15) false rfl hb3 ?_
   refine W_guard_yes rfl ?_
   refine W_move rfl rfl ?_
   refine W_guard_yes rfl ?_
   refine W_lenv rfl Go.Proofs.Try.underlying47 rfl h0.ln ?_
   refine W_guard_yes rfl ?_
   refine W_eql rfl rfl rfl ?_
   refine W_pick_f rfl rfl rfl ?_
   refine W_nil ?_
   exact N_join _ ⟨rfl, F, (Frz.le.refl _), hS5⟩ ⟨rfl, rfl, (look_bool rfl (by first | rfl | (rw [hb3]; first | done | rfl) | simp [hb3])), trivial⟩
 rintro E w2 ⟨rfl, F2, le2, hS2⟩
 refine N_code ?_
 refine C_cond rfl (fun hc6 => ?_) (fun hc6 => ?_)
 ·
  rw [if_t hc6] at H
  refine C_seq ?_
  refine C_region ?_
  refine W_assign rfl rfl ?_
  refine W_nil ?_
  refine N_code ?_
  obtain rfl := Option.some.inj H
  refine C_ret rfl rfl ?_
  exact ⟨F2, rfl, hS2⟩
 ·
  rw [if_f hc6] at H
  refine C_skip ?_
  refine N_code ?_
  refine C_seq ?_
  obtain ⟨x7, hx7, H⟩ := bd_some H
  refine C_region ?_
  refine W_move rfl rfl ?_
  refine W_conv rfl rfl Ty.some3 Go.Proofs.Try.underlying44 (rfl) ?_
  refine W_move rfl rfl ?_
  refine W_lenv rfl Go.Proofs.Try.underlying47 rfl h0.ln ?_
  refine W_conv rfl rfl Ty.some3 Go.Proofs.Try.underlying44 (rfl) ?_
  obtain ⟨hz8, hw8⟩ := rem_some hx7
  refine W_rem rfl rfl rfl hz8 hw8.symm ?_
  refine W_conv rfl rfl Ty.some44 Go.Proofs.Try.underlying3 (rfl) ?_
  refine W_assign rfl rfl ?_
  refine W_nil ?_
  refine N_code ?_
  refine C_seq ?_
  obtain ⟨r9, hr9, H⟩ := bd_some H
  refine C_region ?_
  refine W_move rfl rfl ?_
  refine W_call rfl Ty.named27 rfl (plan_Order_ok hS2.agree (h0.mono le2) hr9) ?_
  rintro v10 w10 ⟨Fr9, ur9_0, ur9_1, rfl, hT10⟩
  have hS10 := hS2.call hT10
  have ler9 := hT10.ext
  refine W_move rfl rfl ?_
  refine W_extract rfl rfl rfl ?_
  refine W_extract rfl rfl rfl ?_
  refine W_assign rfl rfl ?_
  refine W_assign rfl rfl ?_
  refine W_nil ?_
  refine N_code ?_
  refine C_seq ?_
  refine C_region ?_
  refine W_assign rfl rfl ?_
  refine W_nil ?_
  refine N_code ?_
  refine C_seq ?_
  obtain ⟨l11, hl11, H⟩ := bd_some H
  obtain ⟨l13, hl13, H⟩ := bd_some H
  obtain ⟨l15, hl15, H⟩ := bd_some H
  obtain ⟨l17, hl17, H⟩ := bd_some H
  apply C_draw 9 [[], [], [], [1, 2], [0, 3], [], [], [6], [5, 7]] [.val (.slice none 0 0), .val (v0), .val (.int .i64 (wr x7)), .pred (fun v wr => SlF Want.t Fr9 v l11) stable_slf, .pred (fun v wr => Ob.ok Fr9 wr (.row Want.t 52 v l13) ∧ ∀ g, v.ownBlock = some g → w10.heap.size ≤ g) stable_row, .val (v0), .val (.int .i64 (wr x7)), .val (.int .i64 (wr (wr x7 + 1))), .pred (fun v wr => SlF Want.t Fr9 v l15) stable_slf] Ty.mixed rfl rfl (by kernel_rfl) (by kernel_rfl) rfl
  ·
   refine ⟨?_, ?_, ?_, ?_, ?_, ?_, ?_, ?_, ?_, trivial⟩
   ·
    intro w19 vq19 hB19 hH19
    have hS19 := hS10.below hB19
    refine W_move rfl rfl ?_
    refine W_nil ?_
    exact N_step rfl rfl (Below.refl _ _)
   ·
    intro w20 vq20 hB20 hH20
    have hS20 := hS10.below hB20
    refine W_move rfl rfl ?_
    refine W_nil ?_
    exact N_step rfl rfl (Below.refl _ _)
   ·
    intro w21 vq21 hB21 hH21
    have hS21 := hS10.below hB21
    refine W_move rfl rfl ?_
    refine W_nil ?_
    exact N_step rfl rfl (Below.refl _ _)
   ·
    intro w22 vq22 hB22 hH22
    have hS22 := hS10.below hB22
    refine W_cutM 0 (wr x7) rfl Go.Proofs.Try.underlying47 Ty.cells52 Ty.info52 rfl rfl ⟨_, rfl⟩ (h0.mono (le2.trans ler9)) hl11 ?_
    intro q12 hv12
    refine W_nil ?_
    exact N_step rfl hv12 (Below.refl _ _)
   ·
    intro w23 vq23 hB23 hH23
    obtain ⟨_, hp23_3, _⟩ := hH23
    have hS23 := hS10.below hB23
    refine W_app0 (t := Want.t) rfl Go.Proofs.Try.underlying47 Ty.row52 rfl rfl rfl rfl rfl hS23.agree (hp23_3.src hS23.agree) hl13 ?_
    intro v14 w14 hB14 hO14 hg14
    refine W_nil ?_
    exact N_step rfl ⟨hO14, fun g hg => Nat.le_trans hB23.size (hg14 g hg)⟩ hB14
   ·
    intro w24 vq24 hB24 hH24
    have hS24 := hS10.below hB24
    refine W_move rfl rfl ?_
    refine W_nil ?_
    exact N_step rfl rfl (Below.refl _ _)
   ·
    intro w25 vq25 hB25 hH25
    have hS25 := hS10.below hB25
    refine W_move rfl rfl ?_
    refine W_nil ?_
    exact N_step rfl rfl (Below.refl _ _)
   ·
    intro w26 vq26 hB26 hH26
    have hS26 := hS10.below hB26
    refine W_add rfl rfl rfl rfl ?_
    refine W_nil ?_
    exact N_step rfl rfl (Below.refl _ _)
   ·
    intro w27 vq27 hB27 hH27
    have hS27 := hS10.below hB27
    refine W_cutM (wr (wr x7 + 1)) (x0.length : Int) rfl Go.Proofs.Try.underlying47 Ty.cells52 Ty.info52 rfl ⟨_, rfl⟩ rfl (h0.mono (le2.trans ler9)) hl15 ?_
    intro q16 hv16
    refine W_nil ?_
    exact N_step rfl hv16 (Below.refl _ _)
  intro w28 vq28 hB28 hH28
  obtain ⟨_, _, _, hp28_3, hp28_4, _, _, _, hp28_8, _⟩ := hH28
  have hS28 := hS10.below hB28
  have hS28 := hS10.fresh hB28 hp28_4.1 hp28_4.2
  refine W_appM 0 rfl Go.Proofs.Try.underlying47 Ty.row52 rfl rfl rfl rfl rfl hS28 rfl (hp28_8.src hS28.agree) hl17 ?_
  intro v18 w18 hS18
  refine W_assign rfl rfl ?_
  refine W_nil ?_
  refine N_code ?_
  refine C_seq ?_
  obtain ⟨r29, hr29, H⟩ := bd_some H
  refine C_region ?_
  refine W_move rfl rfl ?_
  refine W_call rfl Ty.named27 rfl (plan_Order_ok (now_agree _) (hS18.rowNow (k := 0) rfl) hr29) ?_
  rintro v30 w30 ⟨Fr29, ur29_0, ur29_1, rfl, hT30⟩
  have hS30 := hS18.lentFlat hT30 ⟨fun h => h, ⟨fun h => h, trivial⟩⟩
  refine W_move rfl rfl ?_
  refine W_extract rfl rfl rfl ?_
  refine W_extract rfl rfl rfl ?_
  refine W_assign rfl rfl ?_
  refine W_assign rfl rfl ?_
  refine W_nil ?_
  refine N_code ?_
  refine C_seq ?_
  refine C_region ?_
  refine W_assign rfl rfl ?_
  refine W_nil ?_
  refine N_code ?_
  refine C_seq_join (fun E wq => ∃ i32 : Int, cellarerlaw21_PlanLess.k1 r29 i32 = some r ∧ ∃ (F31 : Frz), E = [(8, ur29_0), (10, .int .i64 i32)] ∧ Fr9.le F31 ∧ St [] w F F31 [.row Read.t 39 ur29_0 r29.1] wq) ?_ ?_
  ·
   refine C_seq ?_
   refine C_region ?_
   refine W_assign rfl rfl ?_
   refine W_nil ?_
   refine N_code ?_
   refine C_block ?_
   refine C_loopM (fun (s : Int × Int) E wq => ∃ (F38 : Frz), E = [(1, .int .i64 (wr x7)), (5, ur9_0), (8, ur29_0), (10, .int .i64 s.1), (11, .int .i64 s.2)] ∧ Fr9.le F38 ∧ St [] w F F38 [.row Read.t 39 ur29_0 r29.1, .row Read.t 39 ur9_0 r9.1] wq) H ?_ ?_
   ·
    exact ⟨_, ⟨Fr9, rfl, (Frz.le.refl _), hS30.pick [0, 3] (by decide)⟩, ⟨rfl, rfl, rfl, rfl, rfl, trivial⟩⟩
   ·
    rintro rec41 ⟨i39, i40⟩ E w38 hI H
    try dsimp only at hI
    obtain ⟨F38, rfl, le38, hS38⟩ := hI
    dsimp only [cellarerlaw21_PlanLess.l2] at H
    refine C_seq ?_
    refine C_seq ?_
    refine C_region ?_
    refine W_move rfl rfl ?_
    refine W_move rfl rfl ?_
    refine W_lenv rfl Go.Proofs.Try.underlying23 rfl (hS38.rowLn (k := 1) rfl) ?_
    refine W_lss rfl rfl rfl ?_
    refine W_nil ?_
    refine N_code ?_
    refine C_cond rfl (fun hc42 => ?_) (fun hc42 => ?_)
    ·
     rw [if_t hc42] at H
     refine C_skip ?_
     refine N_code ?_
     refine C_seq_join (fun E wq => ∃ i44 : Int, cellarerlaw21_PlanLess.k3 i40 rec41 i44 = some r ∧ ∃ (F43 : Frz), E = [(1, .int .i64 (wr x7)), (5, ur9_0), (8, ur29_0), (10, .int .i64 i44), (11, .int .i64 i40)] ∧ F38.le F43 ∧ St [] w F F43 [.row Read.t 39 ur29_0 r29.1, .row Read.t 39 ur9_0 r9.1] wq) ?_ ?_
     ·
      refine C_block ?_
      refine C_seq ?_
      refine C_seq ?_
      obtain ⟨x45, hx45, H⟩ := bd_some H
      refine C_region ?_
      refine W_move rfl rfl ?_
      refine W_move rfl rfl ?_
      obtain ⟨hp47, hy47⟩ := ix_some hx45
      obtain ⟨cs47, hr47, he47⟩ := hS38.rowAt (k := 1) rfl hy47
      obtain rfl := hr47
      replace he47 : El _ _ 5 _ _ := he47
      refine W_ix rfl Go.Proofs.Try.underlying23 Ty.cells39 Ty.info39 rfl rfl he47 hp47 rfl ?_
      refine W_fld 0 rfl Ty.field39_0 rfl he47 ?_
      refine W_ld1 0 rfl Ty.cell3 rfl he47 (by omega) rfl ?_
      refine W_move rfl rfl ?_
      refine W_eql rfl rfl rfl ?_
      refine W_nil ?_
      refine N_code ?_
      refine C_cond rfl (fun hc48 => ?_) (fun hc48 => ?_)
      ·
       rw [if_t hc48] at H
       refine C_exit _ rfl ?_
       exact N_join _ ⟨i39, H, ⟨F38, rfl, (Frz.le.refl _), hS38⟩⟩ ⟨rfl, rfl, rfl, rfl, rfl, trivial⟩
      ·
       rw [if_f hc48] at H
       refine C_skip ?_
       refine N_code ?_
       refine C_seq ?_
       obtain ⟨x49, hx49, H⟩ := bd_some H
       refine C_region ?_
       refine W_move rfl rfl ?_
       refine W_move rfl rfl ?_
       obtain ⟨hp51, hy51⟩ := ix_some hx49
       obtain ⟨cs51, hr51, he51⟩ := hS38.rowAt (k := 1) rfl hy51
       obtain rfl := hr51
       replace he51 : El _ _ 5 _ _ := he51
       refine W_ix rfl Go.Proofs.Try.underlying23 Ty.cells39 Ty.info39 rfl rfl he51 hp51 rfl ?_
       refine W_fld 0 rfl Ty.field39_0 rfl he51 ?_
       refine W_ld1 0 rfl Ty.cell3 rfl he51 (by omega) rfl ?_
       refine W_assign rfl rfl ?_
       refine W_nil ?_
       refine N_code ?_
       refine C_seq_join (fun E wq => ∃ i53 : Int, cellarerlaw21_PlanLess.k4 r9 r29 i39 i40 rec41 i53 = some r ∧ ∃ (F52 : Frz), E = [(1, .int .i64 (wr x7)), (5, ur9_0), (8, ur29_0), (10, .int .i64 i39), (11, .int .i64 i40), (12, .int .i64 i53)] ∧ F38.le F52 ∧ St [] w F F52 [.row Read.t 39 ur29_0 r29.1, .row Read.t 39 ur9_0 r9.1] wq) ?_ ?_
       ·
        refine C_seq ?_
        refine C_region ?_
        refine W_move rfl rfl ?_
        refine W_move rfl rfl ?_
        refine W_gtr rfl rfl rfl ?_
        refine W_nil ?_
        refine N_code ?_
        refine C_cond rfl (fun hc156 => ?_) (fun hc156 => ?_)
        ·
         rw [if_t hc156] at H
         refine C_region ?_
         refine W_move rfl rfl ?_
         refine W_subi rfl rfl rfl rfl ?_
         refine W_assign rfl rfl ?_
         refine W_nil ?_
         exact N_join _ ⟨wr (x49.want - 1), H, ⟨F38, rfl, (Frz.le.refl _), hS38⟩⟩ ⟨rfl, rfl, rfl, rfl, rfl, rfl, trivial⟩
        ·
         rw [if_f hc156] at H
         refine C_skip ?_
         exact N_join _ ⟨x49.want, H, ⟨F38, rfl, (Frz.le.refl _), hS38⟩⟩ ⟨rfl, rfl, rfl, rfl, rfl, rfl, trivial⟩
       ·
        rintro E w52 ⟨i53, H, F52, rfl, le52, hS52⟩
        dsimp only [cellarerlaw21_PlanLess.k4] at H
        refine C_seq ?_
        refine C_seq ?_
        obtain ⟨x54, hx54, H⟩ := bd_some H
        obtain ⟨x56, hx56, H⟩ := bd_some H
        obtain ⟨x58, hx58, H⟩ := bd_some H
        obtain ⟨r60, hr60, H⟩ := bd_some H
        refine C_join (fun E wq => E = [(1, .int .i64 (wr x7)), (5, ur9_0), (8, ur29_0), (10, .int .i64 i39), (11, .int .i64 i40), (96, .bool ((decide ((r29.1.length : Int) ≤ i39) || decide (x54.want ≠ i53)) || (!r60)))] ∧ ∃ F61 : Frz, F52.le F61 ∧ St [] w F F61 [.row Read.t 39 ur29_0 r29.1, .row Read.t 39 ur9_0 r9.1] wq) ?_ ?_
        ·
         rcases Bool.eq_false_or_eq_true (decide ((r29.1.length : Int) ≤ i39)) with hb62 | hb62
         ·
          apply C_draw 26 [[], [], [1], [0, 2], [3], [4], [4], [5, 6, 4], [7, 4], [8, 4], [4], [9, 10, 4], [4, 11], [12], [13], [13], [14, 15, 13], [16, 13], [17, 13], [13], [13], [19, 20, 13], [21, 13], [22, 13], [18, 23, 13], [24, 13]] [.val (.int .i64 i39), .val (ur29_0), .val (.int .i64 (r29.1.length : Int)), .val (.bool (decide ((r29.1.length : Int) ≤ i39))), .val (.bool true), .val undef, .val undef, .val undef, .val undef, .val undef, .val undef, .val undef, .val (.bool true), .val (.bool true), .val undef, .val undef, .val undef, .val undef, .val undef, .val undef, .val undef, .val undef, .val undef, .val undef, .val undef, .val undef] Ty.mixed rfl rfl (by kernel_rfl) (by kernel_rfl) rfl
          ·
           refine ⟨?_, ?_, ?_, ?_, ?_, ?_, ?_, ?_, ?_, ?_, ?_, ?_, ?_, ?_, ?_, ?_, ?_, ?_, ?_, ?_, ?_, ?_, ?_, ?_, ?_, ?_, trivial⟩
           ·
            intro w63 vq63 hB63 hH63
            have hS63 := hS52.below hB63
            refine W_move rfl rfl ?_
            refine W_nil ?_
            exact N_step rfl rfl (Below.refl _ _)
           ·
            intro w64 vq64 hB64 hH64
            have hS64 := hS52.below hB64
            refine W_move rfl rfl ?_
            refine W_nil ?_
            exact N_step rfl rfl (Below.refl _ _)
           ·
            intro w65 vq65 hB65 hH65
            have hS65 := hS52.below hB65
            refine W_lenv rfl Go.Proofs.Try.underlying23 rfl (hS65.rowLn (k := 0) rfl) ?_
            refine W_nil ?_
            exact N_step rfl rfl (Below.refl _ _)
           ·
            intro w66 vq66 hB66 hH66
            have hS66 := hS52.below hB66
            refine W_geq rfl rfl rfl ?_
            refine W_nil ?_
            exact N_step rfl rfl (Below.refl _ _)
           ·
            intro w67 vq67 hB67 hH67
            have hS67 := hS52.below hB67
            refine W_move rfl rfl ?_
            refine W_nil ?_
            exact N_step rfl (congrArg Value.bool hb62) (Below.refl _ _)
           ·
            intro w68 vq68 hB68 hH68
            have hS68 := hS52.below hB68
            refine W_guard_no rfl rfl rfl rfl rfl ?_
            refine W_nil ?_
            exact N_step rfl rfl (Below.refl _ _)
           ·
            intro w69 vq69 hB69 hH69
            have hS69 := hS52.below hB69
            refine W_guard_no rfl rfl rfl rfl rfl ?_
            refine W_nil ?_
            exact N_step rfl rfl (Below.refl _ _)
           ·
            intro w70 vq70 hB70 hH70
            have hS70 := hS52.below hB70
            refine W_guard_no rfl rfl rfl rfl rfl ?_
            refine W_nil ?_
            exact N_step rfl rfl (Below.refl _ _)
           ·
            intro w71 vq71 hB71 hH71
            have hS71 := hS52.below hB71
            refine W_guard_no rfl rfl rfl rfl rfl ?_
            refine W_nil ?_
            exact N_step rfl rfl (Below.refl _ _)
           ·
            intro w72 vq72 hB72 hH72
            have hS72 := hS52.below hB72
            refine W_guard_no rfl rfl rfl rfl rfl ?_
            refine W_nil ?_
            exact N_step rfl rfl (Below.refl _ _)
           ·
            intro w73 vq73 hB73 hH73
            have hS73 := hS52.below hB73
            refine W_guard_no rfl rfl rfl rfl rfl ?_
            refine W_nil ?_
            exact N_step rfl rfl (Below.refl _ _)
           ·
            intro w74 vq74 hB74 hH74
            have hS74 := hS52.below hB74
            refine W_guard_no rfl rfl rfl rfl rfl ?_
            refine W_nil ?_
            exact N_step rfl rfl (Below.refl _ _)
           ·
            intro w75 vq75 hB75 hH75
            have hS75 := hS52.below hB75
            refine W_pick_t rfl rfl rfl ?_
            refine W_nil ?_
            exact N_step rfl rfl (Below.refl _ _)
           ·
            intro w76 vq76 hB76 hH76
            have hS76 := hS52.below hB76
            refine W_move rfl rfl ?_
            refine W_nil ?_
            exact N_step rfl rfl (Below.refl _ _)
           ·
            intro w77 vq77 hB77 hH77
            have hS77 := hS52.below hB77
            refine W_guard_no rfl rfl rfl rfl rfl ?_
            refine W_nil ?_
            exact N_step rfl rfl (Below.refl _ _)
           ·
            intro w78 vq78 hB78 hH78
            have hS78 := hS52.below hB78
            refine W_guard_no rfl rfl rfl rfl rfl ?_
            refine W_nil ?_
            exact N_step rfl rfl (Below.refl _ _)
           ·
            intro w79 vq79 hB79 hH79
            have hS79 := hS52.below hB79
            refine W_guard_no rfl rfl rfl rfl rfl ?_
            refine W_nil ?_
            exact N_step rfl rfl (Below.refl _ _)
           ·
            intro w80 vq80 hB80 hH80
            have hS80 := hS52.below hB80
            refine W_guard_no rfl rfl rfl rfl rfl ?_
            refine W_nil ?_
            exact N_step rfl rfl (Below.refl _ _)
           ·
            intro w81 vq81 hB81 hH81
            have hS81 := hS52.below hB81
            refine W_guard_no rfl rfl rfl rfl rfl ?_
            refine W_nil ?_
            exact N_step rfl rfl (Below.refl _ _)
           ·
            intro w82 vq82 hB82 hH82
            have hS82 := hS52.below hB82
            refine W_guard_no rfl rfl rfl rfl rfl ?_
            refine W_nil ?_
            exact N_step rfl rfl (Below.refl _ _)
           ·
            intro w83 vq83 hB83 hH83
            have hS83 := hS52.below hB83
            refine W_guard_no rfl rfl rfl rfl rfl ?_
            refine W_nil ?_
            exact N_step rfl rfl (Below.refl _ _)
           ·
            intro w84 vq84 hB84 hH84
            have hS84 := hS52.below hB84
            refine W_guard_no rfl rfl rfl rfl rfl ?_
            refine W_nil ?_
            exact N_step rfl rfl (Below.refl _ _)
           ·
            intro w85 vq85 hB85 hH85
            have hS85 := hS52.below hB85
            refine W_guard_no rfl rfl rfl rfl rfl ?_
            refine W_nil ?_
            exact N_step rfl rfl (Below.refl _ _)
           ·
            intro w86 vq86 hB86 hH86
            have hS86 := hS52.below hB86
            refine W_guard_no rfl rfl rfl rfl rfl ?_
            refine W_nil ?_
            exact N_step rfl rfl (Below.refl _ _)
           ·
            intro w87 vq87 hB87 hH87
            have hS87 := hS52.below hB87
            refine W_guard_no rfl rfl rfl rfl rfl ?_
            refine W_nil ?_
            exact N_step rfl rfl (Below.refl _ _)
           ·
            intro w88 vq88 hB88 hH88
            have hS88 := hS52.below hB88
            refine W_guard_no rfl rfl rfl rfl rfl ?_
            refine W_nil ?_
            exact N_step rfl rfl (Below.refl _ _)
          intro w89 vq89 hB89 hH89
          have hS89 := hS52.below hB89
          refine W_pick_t rfl rfl rfl ?_
          refine W_nil ?_
          exact N_join _ ⟨rfl, F52, (Frz.le.refl _), hS89⟩ ⟨rfl, rfl, rfl, rfl, rfl, (look_bool rfl (by first | rfl | (rw [hb62]; first | done | rfl) | simp [hb62])), trivial⟩
         ·
          rcases Bool.eq_false_or_eq_true (decide (x54.want ≠ i53)) with hb90 | hb90
          ·
           have hy91 := hx54
           rw [only_t (by first | rfl | (rw [hb62]; first | done | rfl) | simp [hb62, hb90])] at hy91
           obtain ⟨hp92, hy92⟩ := ix_some hy91
           obtain ⟨cs92, hr92, he92⟩ := hS52.rowAt (k := 0) rfl hy92
           obtain rfl := hr92
           replace he92 : El _ _ 5 _ _ := he92
           apply C_draw 26 [[], [], [1], [0, 2], [3], [4], [4], [5, 6, 4], [7, 4], [8, 4], [4], [9, 10, 4], [4, 11], [12], [13], [13], [14, 15, 13], [16, 13], [17, 13], [13], [13], [19, 20, 13], [21, 13], [22, 13], [18, 23, 13], [24, 13]] [.val (.int .i64 i39), .val (ur29_0), .val (.int .i64 (r29.1.length : Int)), .val (.bool (decide ((r29.1.length : Int) ≤ i39))), .val (.bool false), .val (ur29_0), .val (.int .i64 i39), .val (elp ur29_0 (i39.toNat * 5)), .val (elp ur29_0 ((i39.toNat * 5) + 0)), .val (.int .i64 x54.want), .val (.int .i64 i53), .val (.bool (decide (x54.want ≠ i53))), .val (.bool (decide (x54.want ≠ i53))), .val (.bool true), .val undef, .val undef, .val undef, .val undef, .val undef, .val undef, .val undef, .val undef, .val undef, .val undef, .val undef, .val undef] Ty.mixed rfl rfl (by kernel_rfl) (by kernel_rfl) rfl
           ·
            refine ⟨?_, ?_, ?_, ?_, ?_, ?_, ?_, ?_, ?_, ?_, ?_, ?_, ?_, ?_, ?_, ?_, ?_, ?_, ?_, ?_, ?_, ?_, ?_, ?_, ?_, ?_, trivial⟩
            ·
             intro w93 vq93 hB93 hH93
             have hS93 := hS52.below hB93
             refine W_move rfl rfl ?_
             refine W_nil ?_
             exact N_step rfl rfl (Below.refl _ _)
            ·
             intro w94 vq94 hB94 hH94
             have hS94 := hS52.below hB94
             refine W_move rfl rfl ?_
             refine W_nil ?_
             exact N_step rfl rfl (Below.refl _ _)
            ·
             intro w95 vq95 hB95 hH95
             have hS95 := hS52.below hB95
             refine W_lenv rfl Go.Proofs.Try.underlying23 rfl (hS95.rowLn (k := 0) rfl) ?_
             refine W_nil ?_
             exact N_step rfl rfl (Below.refl _ _)
            ·
             intro w96 vq96 hB96 hH96
             have hS96 := hS52.below hB96
             refine W_geq rfl rfl rfl ?_
             refine W_nil ?_
             exact N_step rfl rfl (Below.refl _ _)
            ·
             intro w97 vq97 hB97 hH97
             have hS97 := hS52.below hB97
             refine W_move rfl rfl ?_
             refine W_nil ?_
             exact N_step rfl (congrArg Value.bool hb62) (Below.refl _ _)
            ·
             intro w98 vq98 hB98 hH98
             have hS98 := hS52.below hB98
             refine W_guard_yes rfl ?_
             refine W_move rfl rfl ?_
             refine W_nil ?_
             exact N_step rfl rfl (Below.refl _ _)
            ·
             intro w99 vq99 hB99 hH99
             have hS99 := hS52.below hB99
             refine W_guard_yes rfl ?_
             refine W_move rfl rfl ?_
             refine W_nil ?_
             exact N_step rfl rfl (Below.refl _ _)
            ·
             intro w100 vq100 hB100 hH100
             have hS100 := hS52.below hB100
             refine W_guard_yes rfl ?_
             refine W_ix rfl Go.Proofs.Try.underlying23 Ty.cells39 Ty.info39 rfl rfl (he92.below hB100) hp92 rfl ?_
             refine W_nil ?_
             exact N_step rfl rfl (Below.refl _ _)
            ·
             intro w101 vq101 hB101 hH101
             have hS101 := hS52.below hB101
             refine W_guard_yes rfl ?_
             refine W_fld 0 rfl Ty.field39_0 rfl (he92.below hB101) ?_
             refine W_nil ?_
             exact N_step rfl rfl (Below.refl _ _)
            ·
             intro w102 vq102 hB102 hH102
             have hS102 := hS52.below hB102
             refine W_guard_yes rfl ?_
             refine W_ld1 0 rfl Ty.cell3 rfl (he92.below hB102) (by omega) rfl ?_
             refine W_nil ?_
             exact N_step rfl rfl (Below.refl _ _)
            ·
             intro w103 vq103 hB103 hH103
             have hS103 := hS52.below hB103
             refine W_guard_yes rfl ?_
             refine W_move rfl rfl ?_
             refine W_nil ?_
             exact N_step rfl rfl (Below.refl _ _)
            ·
             intro w104 vq104 hB104 hH104
             have hS104 := hS52.below hB104
             refine W_guard_yes rfl ?_
             refine W_neq rfl rfl rfl ?_
             refine W_nil ?_
             exact N_step rfl rfl (Below.refl _ _)
            ·
             intro w105 vq105 hB105 hH105
             have hS105 := hS52.below hB105
             refine W_pick_f rfl rfl rfl ?_
             refine W_nil ?_
             exact N_step rfl rfl (Below.refl _ _)
            ·
             intro w106 vq106 hB106 hH106
             have hS106 := hS52.below hB106
             refine W_move rfl rfl ?_
             refine W_nil ?_
             exact N_step rfl (congrArg Value.bool hb90) (Below.refl _ _)
            ·
             intro w107 vq107 hB107 hH107
             have hS107 := hS52.below hB107
             refine W_guard_no rfl rfl rfl rfl rfl ?_
             refine W_nil ?_
             exact N_step rfl rfl (Below.refl _ _)
            ·
             intro w108 vq108 hB108 hH108
             have hS108 := hS52.below hB108
             refine W_guard_no rfl rfl rfl rfl rfl ?_
             refine W_nil ?_
             exact N_step rfl rfl (Below.refl _ _)
            ·
             intro w109 vq109 hB109 hH109
             have hS109 := hS52.below hB109
             refine W_guard_no rfl rfl rfl rfl rfl ?_
             refine W_nil ?_
             exact N_step rfl rfl (Below.refl _ _)
            ·
             intro w110 vq110 hB110 hH110
             have hS110 := hS52.below hB110
             refine W_guard_no rfl rfl rfl rfl rfl ?_
             refine W_nil ?_
             exact N_step rfl rfl (Below.refl _ _)
            ·
             intro w111 vq111 hB111 hH111
             have hS111 := hS52.below hB111
             refine W_guard_no rfl rfl rfl rfl rfl ?_
             refine W_nil ?_
             exact N_step rfl rfl (Below.refl _ _)
            ·
             intro w112 vq112 hB112 hH112
             have hS112 := hS52.below hB112
             refine W_guard_no rfl rfl rfl rfl rfl ?_
             refine W_nil ?_
             exact N_step rfl rfl (Below.refl _ _)
            ·
             intro w113 vq113 hB113 hH113
             have hS113 := hS52.below hB113
             refine W_guard_no rfl rfl rfl rfl rfl ?_
             refine W_nil ?_
             exact N_step rfl rfl (Below.refl _ _)
            ·
             intro w114 vq114 hB114 hH114
             have hS114 := hS52.below hB114
             refine W_guard_no rfl rfl rfl rfl rfl ?_
             refine W_nil ?_
             exact N_step rfl rfl (Below.refl _ _)
            ·
             intro w115 vq115 hB115 hH115
             have hS115 := hS52.below hB115
             refine W_guard_no rfl rfl rfl rfl rfl ?_
             refine W_nil ?_
             exact N_step rfl rfl (Below.refl _ _)
            ·
             intro w116 vq116 hB116 hH116
             have hS116 := hS52.below hB116
             refine W_guard_no rfl rfl rfl rfl rfl ?_
             refine W_nil ?_
             exact N_step rfl rfl (Below.refl _ _)
            ·
             intro w117 vq117 hB117 hH117
             have hS117 := hS52.below hB117
             refine W_guard_no rfl rfl rfl rfl rfl ?_
             refine W_nil ?_
             exact N_step rfl rfl (Below.refl _ _)
            ·
             intro w118 vq118 hB118 hH118
             have hS118 := hS52.below hB118
             refine W_guard_no rfl rfl rfl rfl rfl ?_
             refine W_nil ?_
             exact N_step rfl rfl (Below.refl _ _)
           intro w119 vq119 hB119 hH119
           have hS119 := hS52.below hB119
           refine W_pick_t rfl rfl rfl ?_
           refine W_nil ?_
           exact N_join _ ⟨rfl, F52, (Frz.le.refl _), hS119⟩ ⟨rfl, rfl, rfl, rfl, rfl, (look_bool rfl (by first | rfl | (rw [hb62, hb90]; first | done | rfl) | simp [hb62, hb90])), trivial⟩
          ·
           have hy120 := hx54
           rw [only_t (by first | rfl | (rw [hb62]; first | done | rfl) | simp [hb62, hb90])] at hy120
           obtain ⟨hp121, hy121⟩ := ix_some hy120
           obtain ⟨cs121, hr121, he121⟩ := hS52.rowAt (k := 0) rfl hy121
           obtain rfl := hr121
           replace he121 : El _ _ 5 _ _ := he121
           have hy122 := hx56
           rw [only_t (by first | rfl | (rw [hb62, hb90]; first | done | rfl) | simp [hb62, hb90])] at hy122
           obtain ⟨hp123, hy123⟩ := ix_some hy122
           obtain ⟨cs123, hr123, he123⟩ := hS52.rowAt (k := 0) rfl hy123
           obtain rfl := hr123
           replace he123 : El _ _ 5 _ _ := he123
           have hy124 := hx58
           rw [only_t (by first | rfl | (rw [hb62, hb90]; first | done | rfl) | simp [hb62, hb90])] at hy124
           obtain ⟨hp125, hy125⟩ := ix_some hy124
           obtain ⟨cs125, hr125, he125⟩ := hS52.rowAt (k := 1) rfl hy125
           obtain rfl := hr125
           replace he125 : El _ _ 5 _ _ := he125
           apply C_draw 26 [[], [], [1], [0, 2], [3], [4], [4], [5, 6, 4], [7, 4], [8, 4], [4], [9, 10, 4], [4, 11], [12], [13], [13], [14, 15, 13], [16, 13], [17, 13], [13], [13], [19, 20, 13], [21, 13], [22, 13], [18, 23, 13], [24, 13]] [.val (.int .i64 i39), .val (ur29_0), .val (.int .i64 (r29.1.length : Int)), .val (.bool (decide ((r29.1.length : Int) ≤ i39))), .val (.bool false), .val (ur29_0), .val (.int .i64 i39), .val (elp ur29_0 (i39.toNat * 5)), .val (elp ur29_0 ((i39.toNat * 5) + 0)), .val (.int .i64 x54.want), .val (.int .i64 i53), .val (.bool (decide (x54.want ≠ i53))), .val (.bool (decide (x54.want ≠ i53))), .val (.bool false), .val (ur29_0), .val (.int .i64 i39), .val (elp ur29_0 (i39.toNat * 5)), .val (elp ur29_0 ((i39.toNat * 5) + 1)), .val (.agg (Loc.cells x56.loc).toArray), .val (ur9_0), .val (.int .i64 i40), .val (elp ur9_0 (i40.toNat * 5)), .val (elp ur9_0 ((i40.toNat * 5) + 1)), .val (.agg (Loc.cells x58.loc).toArray), .val (.bool r60), .val (.bool (!r60))] Ty.mixed rfl rfl (by kernel_rfl) (by kernel_rfl) rfl
           ·
            refine ⟨?_, ?_, ?_, ?_, ?_, ?_, ?_, ?_, ?_, ?_, ?_, ?_, ?_, ?_, ?_, ?_, ?_, ?_, ?_, ?_, ?_, ?_, ?_, ?_, ?_, ?_, trivial⟩
            ·
             intro w126 vq126 hB126 hH126
             have hS126 := hS52.below hB126
             refine W_move rfl rfl ?_
             refine W_nil ?_
             exact N_step rfl rfl (Below.refl _ _)
            ·
             intro w127 vq127 hB127 hH127
             have hS127 := hS52.below hB127
             refine W_move rfl rfl ?_
             refine W_nil ?_
             exact N_step rfl rfl (Below.refl _ _)
            ·
             intro w128 vq128 hB128 hH128
             have hS128 := hS52.below hB128
             refine W_lenv rfl Go.Proofs.Try.underlying23 rfl (hS128.rowLn (k := 0) rfl) ?_
             refine W_nil ?_
             exact N_step rfl rfl (Below.refl _ _)
            ·
             intro w129 vq129 hB129 hH129
             have hS129 := hS52.below hB129
             refine W_geq rfl rfl rfl ?_
             refine W_nil ?_
             exact N_step rfl rfl (Below.refl _ _)
            ·
             intro w130 vq130 hB130 hH130
             have hS130 := hS52.below hB130
             refine W_move rfl rfl ?_
             refine W_nil ?_
             exact N_step rfl (congrArg Value.bool hb62) (Below.refl _ _)
            ·
             intro w131 vq131 hB131 hH131
             have hS131 := hS52.below hB131
             refine W_guard_yes rfl ?_
             refine W_move rfl rfl ?_
             refine W_nil ?_
             exact N_step rfl rfl (Below.refl _ _)
            ·
             intro w132 vq132 hB132 hH132
             have hS132 := hS52.below hB132
             refine W_guard_yes rfl ?_
             refine W_move rfl rfl ?_
             refine W_nil ?_
             exact N_step rfl rfl (Below.refl _ _)
            ·
             intro w133 vq133 hB133 hH133
             have hS133 := hS52.below hB133
             refine W_guard_yes rfl ?_
             refine W_ix rfl Go.Proofs.Try.underlying23 Ty.cells39 Ty.info39 rfl rfl (he121.below hB133) hp121 rfl ?_
             refine W_nil ?_
             exact N_step rfl rfl (Below.refl _ _)
            ·
             intro w134 vq134 hB134 hH134
             have hS134 := hS52.below hB134
             refine W_guard_yes rfl ?_
             refine W_fld 0 rfl Ty.field39_0 rfl (he121.below hB134) ?_
             refine W_nil ?_
             exact N_step rfl rfl (Below.refl _ _)
            ·
             intro w135 vq135 hB135 hH135
             have hS135 := hS52.below hB135
             refine W_guard_yes rfl ?_
             refine W_ld1 0 rfl Ty.cell3 rfl (he121.below hB135) (by omega) rfl ?_
             refine W_nil ?_
             exact N_step rfl rfl (Below.refl _ _)
            ·
             intro w136 vq136 hB136 hH136
             have hS136 := hS52.below hB136
             refine W_guard_yes rfl ?_
             refine W_move rfl rfl ?_
             refine W_nil ?_
             exact N_step rfl rfl (Below.refl _ _)
            ·
             intro w137 vq137 hB137 hH137
             have hS137 := hS52.below hB137
             refine W_guard_yes rfl ?_
             refine W_neq rfl rfl rfl ?_
             refine W_nil ?_
             exact N_step rfl rfl (Below.refl _ _)
            ·
             intro w138 vq138 hB138 hH138
             have hS138 := hS52.below hB138
             refine W_pick_f rfl rfl rfl ?_
             refine W_nil ?_
             exact N_step rfl rfl (Below.refl _ _)
            ·
             intro w139 vq139 hB139 hH139
             have hS139 := hS52.below hB139
             refine W_move rfl rfl ?_
             refine W_nil ?_
             exact N_step rfl (congrArg Value.bool hb90) (Below.refl _ _)
            ·
             intro w140 vq140 hB140 hH140
             have hS140 := hS52.below hB140
             refine W_guard_yes rfl ?_
             refine W_move rfl rfl ?_
             refine W_nil ?_
             exact N_step rfl rfl (Below.refl _ _)
            ·
             intro w141 vq141 hB141 hH141
             have hS141 := hS52.below hB141
             refine W_guard_yes rfl ?_
             refine W_move rfl rfl ?_
             refine W_nil ?_
             exact N_step rfl rfl (Below.refl _ _)
            ·
             intro w142 vq142 hB142 hH142
             have hS142 := hS52.below hB142
             refine W_guard_yes rfl ?_
             refine W_ix rfl Go.Proofs.Try.underlying23 Ty.cells39 Ty.info39 rfl rfl (he123.below hB142) hp123 rfl ?_
             refine W_nil ?_
             exact N_step rfl rfl (Below.refl _ _)
            ·
             intro w143 vq143 hB143 hH143
             have hS143 := hS52.below hB143
             refine W_guard_yes rfl ?_
             refine W_fld 1 rfl Ty.field39_1 rfl (he123.below hB143) ?_
             refine W_nil ?_
             exact N_step rfl rfl (Below.refl _ _)
            ·
             intro w144 vq144 hB144 hH144
             have hS144 := hS52.below hB144
             refine W_guard_yes rfl ?_
             refine W_ldg 1 ((Loc.cells x56.loc)) rfl Ty.agg37 Ty.size37 rfl (he123.below hB144) (by omega) (fun q u h => sub_at (post := []) rfl h) ?_
             refine W_nil ?_
             exact N_step rfl rfl (Below.refl _ _)
            ·
             intro w145 vq145 hB145 hH145
             have hS145 := hS52.below hB145
             refine W_guard_yes rfl ?_
             refine W_move rfl rfl ?_
             refine W_nil ?_
             exact N_step rfl rfl (Below.refl _ _)
            ·
             intro w146 vq146 hB146 hH146
             have hS146 := hS52.below hB146
             refine W_guard_yes rfl ?_
             refine W_move rfl rfl ?_
             refine W_nil ?_
             exact N_step rfl rfl (Below.refl _ _)
            ·
             intro w147 vq147 hB147 hH147
             have hS147 := hS52.below hB147
             refine W_guard_yes rfl ?_
             refine W_ix rfl Go.Proofs.Try.underlying23 Ty.cells39 Ty.info39 rfl rfl (he125.below hB147) hp125 rfl ?_
             refine W_nil ?_
             exact N_step rfl rfl (Below.refl _ _)
            ·
             intro w148 vq148 hB148 hH148
             have hS148 := hS52.below hB148
             refine W_guard_yes rfl ?_
             refine W_fld 1 rfl Ty.field39_1 rfl (he125.below hB148) ?_
             refine W_nil ?_
             exact N_step rfl rfl (Below.refl _ _)
            ·
             intro w149 vq149 hB149 hH149
             have hS149 := hS52.below hB149
             refine W_guard_yes rfl ?_
             refine W_ldg 1 ((Loc.cells x58.loc)) rfl Ty.agg37 Ty.size37 rfl (he125.below hB149) (by omega) (fun q u h => sub_at (post := []) rfl h) ?_
             refine W_nil ?_
             exact N_step rfl rfl (Below.refl _ _)
            ·
             intro w150 vq150 hB150 hH150
             have hS150 := hS52.below hB150
             refine W_guard_yes rfl ?_
             have hy151 := hr60
             rw [only_t (by first | rfl | (rw [hb62, hb90]; first | done | rfl) | simp [hb62, hb90])] at hy151
             refine W_call rfl Ty.named24 rfl (cellarerkeep_Loc_ok hS150.agree hy151) ?_
             rintro v152 w152 ⟨Fr60, rfl, hT152⟩
             have hS152 := hS150.lent hT152
             refine W_nil ?_
             exact N_step rfl rfl hT152.below0
            ·
             intro w153 vq153 hB153 hH153
             have hS153 := hS52.below hB153
             refine W_guard_yes rfl ?_
             refine W_not rfl rfl ?_
             refine W_nil ?_
             exact N_step rfl rfl (Below.refl _ _)
           intro w154 vq154 hB154 hH154
           have hS154 := hS52.below hB154
           refine W_pick_f rfl rfl rfl ?_
           refine W_nil ?_
           exact N_join _ ⟨rfl, F52, (Frz.le.refl _), hS154⟩ ⟨rfl, rfl, rfl, rfl, rfl, (look_bool rfl (by first | rfl | (rw [hb62, hb90]; first | done | rfl) | simp [hb62, hb90])), trivial⟩
        rintro E w61 ⟨rfl, F61, le61, hS61⟩
        refine N_code ?_
        refine C_cond rfl (fun hc155 => ?_) (fun hc155 => ?_)
        ·
         rw [if_t hc155] at H
         refine C_seq ?_
         refine C_region ?_
         refine W_assign rfl rfl ?_
         refine W_nil ?_
         refine N_code ?_
         obtain rfl := Option.some.inj H
         refine C_ret rfl rfl ?_
         exact ⟨F61, rfl, hS61.pick [] (by decide)⟩
        ·
         rw [if_f hc155] at H
         refine C_skip ?_
         refine N_code ?_
         refine C_region ?_
         refine W_move rfl rfl ?_
         refine W_add rfl rfl rfl rfl ?_
         refine W_assign rfl rfl ?_
         refine W_nil ?_
         refine N_block ?_
         exact N_join _ ⟨wr (i39 + 1), H, ⟨F61, rfl, (le52.trans le61), hS61⟩⟩ ⟨rfl, rfl, rfl, rfl, rfl, trivial⟩
     ·
      rintro E w43 ⟨i44, H, F43, rfl, le43, hS43⟩
      dsimp only [cellarerlaw21_PlanLess.k3] at H
      refine C_region ?_
      refine W_move rfl rfl ?_
      refine W_add rfl rfl rfl rfl ?_
      refine W_assign rfl rfl ?_
      refine W_nil ?_
      exact N_againM (i44, wr (i40 + 1)) _ H ⟨F43, rfl, (le38.trans le43), hS43⟩ ⟨rfl, rfl, rfl, rfl, rfl, trivial⟩
    ·
     rw [if_f hc42] at H
     refine C_exit _ rfl ?_
     exact N_join _ ⟨i39, H, ⟨F38, rfl, le38, hS38.pick [0] (by decide)⟩⟩ ⟨rfl, rfl, trivial⟩
  ·
   rintro E w31 ⟨i32, H, F31, rfl, le31, hS31⟩
   dsimp only [cellarerlaw21_PlanLess.k1] at H
   refine C_seq ?_
   obtain ⟨r33, hr33, H⟩ := bd_some H
   refine C_join (fun E wq => E = [(4, .bool (decide (i32 = (r29.1.length : Int)) && r33))] ∧ ∃ F34 : Frz, F31.le F34 ∧ St [] w F F34 [.row Read.t 39 ur29_0 r29.1] wq) ?_ ?_
   ·
    rcases Bool.eq_false_or_eq_true (decide (i32 = (r29.1.length : Int))) with hb35 | hb35
    ·
     refine C_region ?_
     refine W_move rfl rfl ?_
     refine W_move rfl rfl ?_
     refine W_lenv rfl Go.Proofs.Try.underlying23 rfl (hS31.rowLn (k := 0) rfl) ?_
     refine W_eql rfl rfl rfl ?_
     refine W_move rfl rfl ?_
     refine W_known (t := 103) true rfl hb35 ?_
     refine W_guard_yes rfl ?_
     have hy36 := hr33
     rw [only_t hb35] at hy36
     refine W_call rfl Ty.named30 rfl (cellarerlaw21_wakes_ok hS31.agree hy36) ?_
     rintro v37 w37 ⟨Fr33, rfl, hT37⟩
     have hS37 := hS31.lent hT37
     refine W_pick_t rfl rfl rfl ?_
     refine W_assign rfl rfl ?_
     refine W_nil ?_
     exact N_join _ ⟨rfl, F31, (Frz.le.refl _), hS37⟩ ⟨(look_bool rfl (by first | rfl | (rw [hb35]; first | done | rfl) | simp [hb35])), trivial⟩
    ·
     refine C_region ?_
     refine W_move rfl rfl ?_
     refine W_move rfl rfl ?_
     refine W_lenv rfl Go.Proofs.Try.underlying23 rfl (hS31.rowLn (k := 0) rfl) ?_
     refine W_eql rfl rfl rfl ?_
     refine W_move rfl rfl ?_
     refine W_known (t := 103) false rfl hb35 ?_
     refine W_guard_no rfl rfl rfl rfl rfl ?_
     refine W_pick_f rfl rfl rfl ?_
     refine W_assign rfl rfl ?_
     refine W_nil ?_
     exact N_join _ ⟨rfl, F31, (Frz.le.refl _), hS31⟩ ⟨(look_bool rfl (by first | rfl | (rw [hb35]; first | done | rfl) | simp [hb35])), trivial⟩
   rintro E w34 ⟨rfl, F34, le34, hS34⟩
   refine N_code ?_
   obtain rfl := Option.some.inj H
   refine C_ret rfl rfl ?_
   exact ⟨F34, rfl, hS34.pick [] (by decide)⟩

def plan_Ahead (x0 : Loc) (x1 : Loc) : Option Bool :=
  bd (plan_order x0 x1) fun r3 =>
  some (decide (r3 < 0))

theorem plan_Ahead_ok {F : Frz} {w : World} {x0 : Loc} {x1 : Loc} {r : Bool} (hA : Agree F w.heap) (H : plan_Ahead x0 x1 = some r) : Ret Try.prog 31 #[.agg (Loc.cells x0).toArray, .agg (Loc.cells x1).toArray] w fun v w' => ∃ (F' : Frz), v = .bool r ∧ St [] w F F' [] w' := by
 refine Ret_of (args := [.agg (Loc.cells x0).toArray, .agg (Loc.cells x1).toArray]) Go.Proofs.Try.func31 rfl rfl ?_
 change C _ _ _ _ [(0, .agg (Loc.cells x0).toArray), (1, .agg (Loc.cells x1).toArray)] _
 have hS := St.entry hA
 dsimp only [plan_Ahead] at H
 refine C_seq ?_
 refine C_region ?_
 refine W_bx (cs := [.int .i64 x0.vol, .int .i64 x0.file, .int .i64 x0.off, .int .i64 x0.len]) rfl rfl rfl hS ?_
 intro g1 w1 hS1
 refine W_bx (cs := [.int .i64 x1.vol, .int .i64 x1.file, .int .i64 x1.off, .int .i64 x1.len]) rfl rfl rfl hS1 ?_
 intro g2 w2 hS2
 refine W_assign rfl rfl ?_
 refine W_nil ?_
 refine N_code ?_
 refine C_seq ?_
 obtain ⟨r3, hr3, H⟩ := bd_some H
 refine C_region ?_
 refine W_bldg 1 ((Loc.cells x0)) rfl Ty.agg37 Ty.size37 rfl hS2 rfl (fun q u h => sub_at (post := []) rfl h) ?_
 refine W_bldg 0 ((Loc.cells x1)) rfl Ty.agg37 Ty.size37 rfl hS2 rfl (fun q u h => sub_at (post := []) rfl h) ?_
 refine W_call rfl Ty.named45 rfl (plan_order_ok hS2.agree hr3) ?_
 rintro v4 w4 ⟨Fr3, rfl, hT4⟩
 have hS4 := hS2.lent hT4
 refine W_lss rfl rfl rfl ?_
 refine W_assign rfl rfl ?_
 refine W_nil ?_
 refine N_code ?_
 obtain rfl := Option.some.inj H
 refine C_ret rfl rfl ?_
 exact ⟨F, rfl, hS4.pick [] (by decide)⟩

end Go.Wk.Lf
