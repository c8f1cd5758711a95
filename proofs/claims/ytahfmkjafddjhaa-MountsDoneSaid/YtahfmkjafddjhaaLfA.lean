import Derived.Test.YtahfmkjafddjhaaTy
import Derived.Test.YtahfmkjafddjhaaLfT
namespace Go.Wk.Lf
open Go.Proofs Go.RowKit
set_option linter.unusedVariables false
set_option linter.unusedSimpArgs false

def cmp_isNaN_int (x0 : Int) : Option Bool :=
  some (decide (x0 ≠ x0))

theorem cmp_isNaN_int_ok {F : Frz} {w : World} {x0 : Int} {r : Bool} (hA : Agree F w.heap) (H : cmp_isNaN_int x0 = some r) : Ret Try.prog 55 #[.int .i64 x0] w fun v w' => ∃ (F' : Frz), v = .bool r ∧ St [] w F F' [] w' := by
 refine Ret_of (args := [.int .i64 x0]) Go.Proofs.Try.func55 rfl rfl ?_
 change C _ _ _ _ [(0, .int .i64 x0)] _
 have hS := St.entry hA
 dsimp only [cmp_isNaN_int] at H
 refine C_seq ?_
 refine C_region ?_
 refine W_assign rfl rfl ?_
 refine W_nil ?_
 refine N_code ?_
 refine C_seq ?_
 refine C_region ?_
 refine W_move rfl rfl ?_
 refine W_move rfl rfl ?_
 refine W_neq rfl rfl rfl ?_
 refine W_assign rfl rfl ?_
 refine W_nil ?_
 refine N_code ?_
 obtain rfl := Option.some.inj H
 refine C_ret rfl rfl ?_
 exact ⟨F, rfl, hS⟩

def cmp_Compare_int (x0 : Int) (x1 : Int) : Option Int :=
  bd (cmp_isNaN_int x0) fun r1 =>
  bd (cmp_isNaN_int x1) fun r3 =>
  if r1 then
    if r3 then
      some 0
    else
      some (-1)
  else
    if r3 then
      some 1
    else
      if decide (x0 < x1) then
        some (-1)
      else
        if decide (x1 < x0) then
          some 1
        else
          some 0

theorem cmp_Compare_int_ok {F : Frz} {w : World} {x0 : Int} {x1 : Int} {r : Int} (hA : Agree F w.heap) (H : cmp_Compare_int x0 x1 = some r) : Ret Try.prog 46 #[.int .i64 x0, .int .i64 x1] w fun v w' => ∃ (F' : Frz), v = .int .i64 r ∧ St [] w F F' [] w' := by
 refine Ret_of (args := [.int .i64 x0, .int .i64 x1]) Go.Proofs.Try.func46 rfl rfl ?_
 change C _ _ _ _ [(0, .int .i64 x0), (1, .int .i64 x1)] _
 have hS := St.entry hA
 dsimp only [cmp_Compare_int] at H
 refine C_seq ?_
 refine C_region ?_
 refine W_assign rfl rfl ?_
 refine W_nil ?_
 refine N_code ?_
 refine C_seq ?_
 obtain ⟨r1, hr1, H⟩ := bd_some H
 refine C_region ?_
 refine W_move rfl rfl ?_
 refine W_call rfl Ty.named55 rfl (cmp_isNaN_int_ok hS.agree hr1) ?_
 rintro v2 w2 ⟨Fr1, rfl, hT2⟩
 have hS2 := hS.lent hT2
 refine W_assign rfl rfl ?_
 refine W_nil ?_
 refine N_code ?_
 refine C_seq ?_
 obtain ⟨r3, hr3, H⟩ := bd_some H
 refine C_region ?_
 refine W_move rfl rfl ?_
 refine W_call rfl Ty.named55 rfl (cmp_isNaN_int_ok hS2.agree hr3) ?_
 rintro v4 w4 ⟨Fr3, rfl, hT4⟩
 have hS4 := hS2.lent hT4
 refine W_assign rfl rfl ?_
 refine W_nil ?_
 refine N_code ?_
 refine C_seq ?_
 refine C_seq ?_
 refine C_region ?_
 refine W_move rfl rfl ?_
 refine W_nil ?_
 refine N_code ?_
 refine C_cond rfl (fun hc5 => ?_) (fun hc5 => ?_)
 ·
  rw [if_t hc5] at H
  refine C_seq ?_
  refine C_seq ?_
  refine C_region ?_
  refine W_move rfl rfl ?_
  refine W_nil ?_
  refine N_code ?_
  refine C_cond rfl (fun hc6 => ?_) (fun hc6 => ?_)
  ·
   rw [if_t hc6] at H
   refine C_seq ?_
   refine C_region ?_
   refine W_assign rfl rfl ?_
   refine W_nil ?_
   refine N_code ?_
   obtain rfl := Option.some.inj H
   refine C_ret rfl rfl ?_
   exact ⟨F, rfl, hS4⟩
  ·
   rw [if_f hc6] at H
   refine C_skip ?_
   refine N_code ?_
   refine C_seq ?_
   refine C_region ?_
   refine W_assign rfl rfl ?_
   refine W_nil ?_
   refine N_code ?_
   obtain rfl := Option.some.inj H
   refine C_ret rfl rfl ?_
   exact ⟨F, rfl, hS4⟩
 ·
  rw [if_f hc5] at H
  refine C_skip ?_
  refine N_code ?_
  refine C_seq ?_
  refine C_seq ?_
  refine C_region ?_
  refine W_move rfl rfl ?_
  refine W_nil ?_
  refine N_code ?_
  refine C_cond rfl (fun hc7 => ?_) (fun hc7 => ?_)
  ·
   rw [if_t hc7] at H
   refine C_seq ?_
   refine C_region ?_
   refine W_assign rfl rfl ?_
   refine W_nil ?_
   refine N_code ?_
   obtain rfl := Option.some.inj H
   refine C_ret rfl rfl ?_
   exact ⟨F, rfl, hS4⟩
  ·
   rw [if_f hc7] at H
   refine C_skip ?_
   refine N_code ?_
   refine C_seq ?_
   refine C_seq ?_
   refine C_region ?_
   refine W_move rfl rfl ?_
   refine W_move rfl rfl ?_
   refine W_lss rfl rfl rfl ?_
   refine W_nil ?_
   refine N_code ?_
   refine C_cond rfl (fun hc8 => ?_) (fun hc8 => ?_)
   ·
    rw [if_t hc8] at H
    refine C_seq ?_
    refine C_region ?_
    refine W_assign rfl rfl ?_
    refine W_nil ?_
    refine N_code ?_
    obtain rfl := Option.some.inj H
    refine C_ret rfl rfl ?_
    exact ⟨F, rfl, hS4⟩
   ·
    rw [if_f hc8] at H
    refine C_skip ?_
    refine N_code ?_
    refine C_seq ?_
    refine C_seq ?_
    refine C_region ?_
    refine W_move rfl rfl ?_
    refine W_move rfl rfl ?_
    refine W_gtr rfl rfl rfl ?_
    refine W_nil ?_
    refine N_code ?_
    refine C_cond rfl (fun hc9 => ?_) (fun hc9 => ?_)
    ·
     rw [if_t hc9] at H
     refine C_seq ?_
     refine C_region ?_
     refine W_assign rfl rfl ?_
     refine W_nil ?_
     refine N_code ?_
     obtain rfl := Option.some.inj H
     refine C_ret rfl rfl ?_
     exact ⟨F, rfl, hS4⟩
    ·
     rw [if_f hc9] at H
     refine C_skip ?_
     refine N_code ?_
     refine C_seq ?_
     refine C_region ?_
     refine W_assign rfl rfl ?_
     refine W_nil ?_
     refine N_code ?_
     obtain rfl := Option.some.inj H
     refine C_ret rfl rfl ?_
     exact ⟨F, rfl, hS4⟩

def cmp_Or_int.k1 : Option Int :=
  some 0


def cmp_Or_int.l2 (x0 : List Int) (rec4 : Int → Option Int) : Int → Option Int
  | i3 =>
    if decide (i3 < (x0.length : Int)) then
      bd (ix x0 i3) fun x6 =>
      if decide (x6 ≠ 0) then
        some x6
      else
        rec4 (wr (i3 + 1))
    else
      cmp_Or_int.k1

def cmp_Or_int (x0 : List Int) : Option Int :=
  loop (cmp_Or_int.l2 x0) 0

theorem cmp_Or_int_ok {F : Frz} {w : World} {x0 : List Int} {r : Int} {v0 : Value} (hA : Agree F w.heap) (h0 : SlF tI F v0 x0) (H : cmp_Or_int x0 = some r) : Ret Try.prog 44 #[v0] w fun v w' => ∃ (F' : Frz), v = .int .i64 r ∧ St [] w F F' [] w' := by
 refine Ret_of (args := [v0]) Go.Proofs.Try.func44 rfl rfl ?_
 change C _ _ _ _ [(0, v0)] _
 have hS := St.entry hA
 dsimp only [cmp_Or_int] at H
 refine C_seq ?_
 refine C_region ?_
 refine W_assign rfl rfl ?_
 refine W_nil ?_
 refine N_code ?_
 refine C_seq ?_
 refine C_region ?_
 refine W_assign rfl rfl ?_
 refine W_nil ?_
 refine N_code ?_
 refine C_seq_join (fun E wq => cmp_Or_int.k1 = some r ∧ ∃ (F1 : Frz), E = [(3, .int .i64 0)] ∧ F.le F1 ∧ St [] w F F1 [] wq) ?_ ?_
 ·
  refine C_seq ?_
  refine C_region ?_
  refine W_move rfl rfl ?_
  refine W_lenv rfl Go.Proofs.Try.underlying22 rfl h0.ln ?_
  refine W_move rfl rfl ?_
  refine W_nil ?_
  refine N_code ?_
  refine C_block ?_
  refine C_loopM (fun (s : Int) E wq => ∃ (F2 : Frz), E = [(3, .int .i64 0), (6, v0), (7, .int .i64 (x0.length : Int)), (8, .int .i64 s)] ∧ F.le F2 ∧ St [] w F F2 [] wq) H ?_ ?_
  ·
   exact ⟨_, ⟨F, rfl, (Frz.le.refl _), hS⟩, ⟨rfl, rfl, rfl, rfl, trivial⟩⟩
  ·
   rintro rec4 i3 E w2 hI H
   try dsimp only at hI
   obtain ⟨F2, rfl, le2, hS2⟩ := hI
   dsimp only [cmp_Or_int.l2] at H
   refine C_seq ?_
   refine C_region ?_
   refine W_lss rfl rfl rfl ?_
   refine W_nil ?_
   refine N_code ?_
   refine C_seq ?_
   refine C_cond rfl (fun hc5 => ?_) (fun hc5 => ?_)
   ·
    rw [if_t hc5] at H
    refine C_skip ?_
    refine N_code ?_
    refine C_seq ?_
    refine C_block ?_
    refine C_seq ?_
    obtain ⟨x6, hx6, H⟩ := bd_some H
    refine C_region ?_
    obtain ⟨hp8, hy8⟩ := ix_some hx6
    obtain ⟨cs8, hr8, he8⟩ := (h0.mono le2).at_ hy8
    obtain rfl := hr8
    replace he8 : Elf _ _ 1 _ _ := he8
    refine W_ix rfl Go.Proofs.Try.underlying22 Ty.cells3 Ty.info3 rfl rfl (he8.el hS2.agree) hp8 rfl ?_
    refine W_ld1 0 rfl Ty.cell3 rfl (he8.el hS2.agree) (by omega) rfl ?_
    refine W_assign rfl rfl ?_
    refine W_nil ?_
    refine N_code ?_
    refine C_seq ?_
    refine C_region ?_
    refine W_move rfl rfl ?_
    refine W_move rfl rfl ?_
    refine W_neq rfl rfl rfl ?_
    refine W_nil ?_
    refine N_code ?_
    refine C_cond rfl (fun hc9 => ?_) (fun hc9 => ?_)
    ·
     rw [if_t hc9] at H
     refine C_seq ?_
     refine C_region ?_
     refine W_move rfl rfl ?_
     refine W_assign rfl rfl ?_
     refine W_nil ?_
     refine N_code ?_
     obtain rfl := Option.some.inj H
     refine C_ret rfl rfl ?_
     exact ⟨F2, rfl, hS2⟩
    ·
     rw [if_f hc9] at H
     refine C_skip ?_
     refine N_block ?_
     refine N_code ?_
     refine C_region ?_
     refine W_add rfl rfl rfl rfl ?_
     refine W_move rfl rfl ?_
     refine W_nil ?_
     exact N_againM (wr (i3 + 1)) _ H ⟨F2, rfl, le2, hS2⟩ ⟨rfl, rfl, rfl, rfl, trivial⟩
   ·
    rw [if_f hc5] at H
    refine C_exit _ rfl ?_
    exact N_join _ ⟨H, ⟨F2, rfl, le2, hS2⟩⟩ ⟨rfl, trivial⟩
 ·
  rintro E w1 ⟨H, F1, rfl, le1, hS1⟩
  dsimp only [cmp_Or_int.k1] at H
  refine C_seq ?_
  refine C_region ?_
  refine W_move rfl rfl ?_
  refine W_assign rfl rfl ?_
  refine W_nil ?_
  refine N_code ?_
  obtain rfl := Option.some.inj H
  refine C_ret rfl rfl ?_
  exact ⟨F1, rfl, hS1⟩

def plan_order (x0 : Loc) (x1 : Loc) : Option Int :=
  bd (cmp_Compare_int x0.vol x1.vol) fun r3 =>
  bd (cmp_Compare_int x0.file x1.file) fun r4 =>
  bd (cmp_Compare_int x0.off x1.off) fun r5 =>
  bd (cmp_Compare_int x0.len x1.len) fun r6 =>
  bd (cmp_Or_int [r3, r4, r5, r6]) fun r8 =>
  some r8

theorem plan_order_ok {F : Frz} {w : World} {x0 : Loc} {x1 : Loc} {r : Int} (hA : Agree F w.heap) (H : plan_order x0 x1 = some r) : Ret Try.prog 45 #[.agg (Loc.cells x0).toArray, .agg (Loc.cells x1).toArray] w fun v w' => ∃ (F' : Frz), v = .int .i64 r ∧ St [] w F F' [] w' := by
 refine Ret_of (args := [.agg (Loc.cells x0).toArray, .agg (Loc.cells x1).toArray]) Go.Proofs.Try.func45 rfl rfl ?_
 change C _ _ _ _ [(0, .agg (Loc.cells x0).toArray), (1, .agg (Loc.cells x1).toArray)] _
 have hS := St.entry hA
 dsimp only [plan_order] at H
 refine C_seq ?_
 refine C_region ?_
 refine W_bx (cs := [.int .i64 x0.vol, .int .i64 x0.file, .int .i64 x0.off, .int .i64 x0.len]) rfl rfl rfl hS ?_
 intro g1 w1 hS1
 refine W_bx (cs := [.int .i64 x1.vol, .int .i64 x1.file, .int .i64 x1.off, .int .i64 x1.len]) rfl rfl rfl hS1 ?_
 intro g2 w2 hS2
 refine W_assign rfl rfl ?_
 refine W_nil ?_
 refine N_code ?_
 refine C_seq ?_
 obtain ⟨r3, hr3, H⟩ := bd_some H
 obtain ⟨r4, hr4, H⟩ := bd_some H
 obtain ⟨r5, hr5, H⟩ := bd_some H
 obtain ⟨r6, hr6, H⟩ := bd_some H
 obtain ⟨r8, hr8, H⟩ := bd_some H
 apply C_draw 20 [[], [0], [], [2], [1, 3], [], [5], [], [7], [6, 8], [], [10], [], [12], [11, 13], [], [15], [], [17], [16, 18]] [.val (pl g1 (0 + 0)), .val (.int .i64 x0.vol), .val (pl g2 (0 + 0)), .val (.int .i64 x1.vol), .val (.int .i64 r3), .val (pl g1 (0 + 1)), .val (.int .i64 x0.file), .val (pl g2 (0 + 1)), .val (.int .i64 x1.file), .val (.int .i64 r4), .val (pl g1 (0 + 2)), .val (.int .i64 x0.off), .val (pl g2 (0 + 2)), .val (.int .i64 x1.off), .val (.int .i64 r5), .val (pl g1 (0 + 3)), .val (.int .i64 x0.len), .val (pl g2 (0 + 3)), .val (.int .i64 x1.len), .val (.int .i64 r6)] Ty.mixed rfl rfl (by kernel_rfl) (by kernel_rfl) rfl
 ·
  refine ⟨?_, ?_, ?_, ?_, ?_, ?_, ?_, ?_, ?_, ?_, ?_, ?_, ?_, ?_, ?_, ?_, ?_, ?_, ?_, ?_, trivial⟩
  ·
   intro w9 vq9 hB9 hH9
   have hS9 := hS2.below hB9
   refine W_field_pl 0 rfl Ty.field37_0 rfl ?_
   refine W_nil ?_
   exact N_step rfl rfl (Below.refl _ _)
  ·
   intro w10 vq10 hB10 hH10
   have hS10 := hS2.below hB10
   refine W_bld1 1 rfl Ty.cell3 rfl hS10 rfl rfl ?_
   refine W_nil ?_
   exact N_step rfl rfl (Below.refl _ _)
  ·
   intro w11 vq11 hB11 hH11
   have hS11 := hS2.below hB11
   refine W_field_pl 0 rfl Ty.field37_0 rfl ?_
   refine W_nil ?_
   exact N_step rfl rfl (Below.refl _ _)
  ·
   intro w12 vq12 hB12 hH12
   have hS12 := hS2.below hB12
   refine W_bld1 0 rfl Ty.cell3 rfl hS12 rfl rfl ?_
   refine W_nil ?_
   exact N_step rfl rfl (Below.refl _ _)
  ·
   intro w13 vq13 hB13 hH13
   have hS13 := hS2.below hB13
   refine W_call rfl Ty.named46 rfl (cmp_Compare_int_ok hS13.agree hr3) ?_
   rintro v14 w14 ⟨Fr3, rfl, hT14⟩
   have hS14 := hS13.lent hT14
   refine W_nil ?_
   exact N_step rfl rfl hT14.below0
  ·
   intro w15 vq15 hB15 hH15
   have hS15 := hS2.below hB15
   refine W_field_pl 1 rfl Ty.field37_1 rfl ?_
   refine W_nil ?_
   exact N_step rfl rfl (Below.refl _ _)
  ·
   intro w16 vq16 hB16 hH16
   have hS16 := hS2.below hB16
   refine W_bld1 1 rfl Ty.cell3 rfl hS16 rfl rfl ?_
   refine W_nil ?_
   exact N_step rfl rfl (Below.refl _ _)
  ·
   intro w17 vq17 hB17 hH17
   have hS17 := hS2.below hB17
   refine W_field_pl 1 rfl Ty.field37_1 rfl ?_
   refine W_nil ?_
   exact N_step rfl rfl (Below.refl _ _)
  ·
   intro w18 vq18 hB18 hH18
   have hS18 := hS2.below hB18
   refine W_bld1 0 rfl Ty.cell3 rfl hS18 rfl rfl ?_
   refine W_nil ?_
   exact N_step rfl rfl (Below.refl _ _)
  ·
   intro w19 vq19 hB19 hH19
   have hS19 := hS2.below hB19
   refine W_call rfl Ty.named46 rfl (cmp_Compare_int_ok hS19.agree hr4) ?_
   rintro v20 w20 ⟨Fr4, rfl, hT20⟩
   have hS20 := hS19.lent hT20
   refine W_nil ?_
   exact N_step rfl rfl hT20.below0
  ·
   intro w21 vq21 hB21 hH21
   have hS21 := hS2.below hB21
   refine W_field_pl 2 rfl Ty.field37_2 rfl ?_
   refine W_nil ?_
   exact N_step rfl rfl (Below.refl _ _)
  ·
   intro w22 vq22 hB22 hH22
   have hS22 := hS2.below hB22
   refine W_bld1 1 rfl Ty.cell3 rfl hS22 rfl rfl ?_
   refine W_nil ?_
   exact N_step rfl rfl (Below.refl _ _)
  ·
   intro w23 vq23 hB23 hH23
   have hS23 := hS2.below hB23
   refine W_field_pl 2 rfl Ty.field37_2 rfl ?_
   refine W_nil ?_
   exact N_step rfl rfl (Below.refl _ _)
  ·
   intro w24 vq24 hB24 hH24
   have hS24 := hS2.below hB24
   refine W_bld1 0 rfl Ty.cell3 rfl hS24 rfl rfl ?_
   refine W_nil ?_
   exact N_step rfl rfl (Below.refl _ _)
  ·
   intro w25 vq25 hB25 hH25
   have hS25 := hS2.below hB25
   refine W_call rfl Ty.named46 rfl (cmp_Compare_int_ok hS25.agree hr5) ?_
   rintro v26 w26 ⟨Fr5, rfl, hT26⟩
   have hS26 := hS25.lent hT26
   refine W_nil ?_
   exact N_step rfl rfl hT26.below0
  ·
   intro w27 vq27 hB27 hH27
   have hS27 := hS2.below hB27
   refine W_field_pl 3 rfl Ty.field37_3 rfl ?_
   refine W_nil ?_
   exact N_step rfl rfl (Below.refl _ _)
  ·
   intro w28 vq28 hB28 hH28
   have hS28 := hS2.below hB28
   refine W_bld1 1 rfl Ty.cell3 rfl hS28 rfl rfl ?_
   refine W_nil ?_
   exact N_step rfl rfl (Below.refl _ _)
  ·
   intro w29 vq29 hB29 hH29
   have hS29 := hS2.below hB29
   refine W_field_pl 3 rfl Ty.field37_3 rfl ?_
   refine W_nil ?_
   exact N_step rfl rfl (Below.refl _ _)
  ·
   intro w30 vq30 hB30 hH30
   have hS30 := hS2.below hB30
   refine W_bld1 0 rfl Ty.cell3 rfl hS30 rfl rfl ?_
   refine W_nil ?_
   exact N_step rfl rfl (Below.refl _ _)
  ·
   intro w31 vq31 hB31 hH31
   have hS31 := hS2.below hB31
   refine W_call rfl Ty.named46 rfl (cmp_Compare_int_ok hS31.agree hr6) ?_
   rintro v32 w32 ⟨Fr6, rfl, hT32⟩
   have hS32 := hS31.lent hT32
   refine W_nil ?_
   exact N_step rfl rfl hT32.below0
 intro w33 vq33 hB33 hH33
 have hS33 := hS2.below hB33
 refine W_bs (t := tI) [[.int .i64 r3], [.int .i64 r4], [.int .i64 r5], [.int .i64 r6]] [r3, r4, r5, r6] rfl Go.Proofs.Try.underlying22 Ty.cells3 rfl rfl Ty.zero3 rfl rfl ⟨rfl, ⟨rfl, ⟨rfl, ⟨rfl, trivial⟩⟩⟩⟩ rfl rfl hS33 ?_
 intro u7 w7 hS7
 refine W_call rfl Ty.named44 rfl (cmp_Or_int_ok (now_agree _) (hS7.rowNow (k := 0) rfl) hr8) ?_
 rintro v34 w34 ⟨Fr8, rfl, hT34⟩
 have hS34 := hS7.lent hT34
 refine W_assign rfl rfl ?_
 refine W_nil ?_
 refine N_code ?_
 obtain rfl := Option.some.inj H
 refine C_ret rfl rfl ?_
 exact ⟨F, rfl, hS34.pick [] (by decide)⟩

def plan_Order_1 (x0 : Read) (x1 : Read) : Option Int :=
  bd (plan_order x0.loc x1.loc) fun r3 =>
  bd (cmp_Compare_int x0.want x1.want) fun r4 =>
  bd (cmp_Or_int [r3, r4]) fun r6 =>
  some r6

theorem plan_Order_1_ok {F : Frz} {w : World} {x0 : Read} {x1 : Read} {r : Int} (hA : Agree F w.heap) (H : plan_Order_1 x0 x1 = some r) : Ret Try.prog 43 #[.agg (Read.cells x0).toArray, .agg (Read.cells x1).toArray] w fun v w' => ∃ (F' : Frz), v = .int .i64 r ∧ St [] w F F' [] w' := by
 refine Ret_of (args := [.agg (Read.cells x0).toArray, .agg (Read.cells x1).toArray]) Go.Proofs.Try.func43 rfl rfl ?_
 change C _ _ _ _ [(0, .agg (Read.cells x0).toArray), (1, .agg (Read.cells x1).toArray)] _
 have hS := St.entry hA
 dsimp only [plan_Order_1] at H
 refine C_seq ?_
 refine C_region ?_
 refine W_bx (cs := [.int .i64 x0.want, .int .i64 x0.loc.vol, .int .i64 x0.loc.file, .int .i64 x0.loc.off, .int .i64 x0.loc.len]) rfl rfl rfl hS ?_
 intro g1 w1 hS1
 refine W_bx (cs := [.int .i64 x1.want, .int .i64 x1.loc.vol, .int .i64 x1.loc.file, .int .i64 x1.loc.off, .int .i64 x1.loc.len]) rfl rfl rfl hS1 ?_
 intro g2 w2 hS2
 refine W_assign rfl rfl ?_
 refine W_nil ?_
 refine N_code ?_
 refine C_seq ?_
 obtain ⟨r3, hr3, H⟩ := bd_some H
 obtain ⟨r4, hr4, H⟩ := bd_some H
 obtain ⟨r6, hr6, H⟩ := bd_some H
 apply C_draw 10 [[], [0], [], [2], [1, 3], [], [5], [], [7], [6, 8]] [.val (pl g1 (0 + 1)), .val (.agg (Loc.cells x0.loc).toArray), .val (pl g2 (0 + 1)), .val (.agg (Loc.cells x1.loc).toArray), .val (.int .i64 r3), .val (pl g1 (0 + 0)), .val (.int .i64 x0.want), .val (pl g2 (0 + 0)), .val (.int .i64 x1.want), .val (.int .i64 r4)] Ty.mixed rfl rfl (by kernel_rfl) (by kernel_rfl) rfl
 ·
  refine ⟨?_, ?_, ?_, ?_, ?_, ?_, ?_, ?_, ?_, ?_, trivial⟩
  ·
   intro w7 vq7 hB7 hH7
   have hS7 := hS2.below hB7
   refine W_field_pl 1 rfl Ty.field39_1 rfl ?_
   refine W_nil ?_
   exact N_step rfl rfl (Below.refl _ _)
  ·
   intro w8 vq8 hB8 hH8
   have hS8 := hS2.below hB8
   refine W_bldg 1 ((Loc.cells x0.loc)) rfl Ty.agg37 Ty.size37 rfl hS8 rfl (fun q u h => sub_at (post := []) rfl h) ?_
   refine W_nil ?_
   exact N_step rfl rfl (Below.refl _ _)
  ·
   intro w9 vq9 hB9 hH9
   have hS9 := hS2.below hB9
   refine W_field_pl 1 rfl Ty.field39_1 rfl ?_
   refine W_nil ?_
   exact N_step rfl rfl (Below.refl _ _)
  ·
   intro w10 vq10 hB10 hH10
   have hS10 := hS2.below hB10
   refine W_bldg 0 ((Loc.cells x1.loc)) rfl Ty.agg37 Ty.size37 rfl hS10 rfl (fun q u h => sub_at (post := []) rfl h) ?_
   refine W_nil ?_
   exact N_step rfl rfl (Below.refl _ _)
  ·
   intro w11 vq11 hB11 hH11
   have hS11 := hS2.below hB11
   refine W_call rfl Ty.named45 rfl (plan_order_ok hS11.agree hr3) ?_
   rintro v12 w12 ⟨Fr3, rfl, hT12⟩
   have hS12 := hS11.lent hT12
   refine W_nil ?_
   exact N_step rfl rfl hT12.below0
  ·
   intro w13 vq13 hB13 hH13
   have hS13 := hS2.below hB13
   refine W_field_pl 0 rfl Ty.field39_0 rfl ?_
   refine W_nil ?_
   exact N_step rfl rfl (Below.refl _ _)
  ·
   intro w14 vq14 hB14 hH14
   have hS14 := hS2.below hB14
   refine W_bld1 1 rfl Ty.cell3 rfl hS14 rfl rfl ?_
   refine W_nil ?_
   exact N_step rfl rfl (Below.refl _ _)
  ·
   intro w15 vq15 hB15 hH15
   have hS15 := hS2.below hB15
   refine W_field_pl 0 rfl Ty.field39_0 rfl ?_
   refine W_nil ?_
   exact N_step rfl rfl (Below.refl _ _)
  ·
   intro w16 vq16 hB16 hH16
   have hS16 := hS2.below hB16
   refine W_bld1 0 rfl Ty.cell3 rfl hS16 rfl rfl ?_
   refine W_nil ?_
   exact N_step rfl rfl (Below.refl _ _)
  ·
   intro w17 vq17 hB17 hH17
   have hS17 := hS2.below hB17
   refine W_call rfl Ty.named46 rfl (cmp_Compare_int_ok hS17.agree hr4) ?_
   rintro v18 w18 ⟨Fr4, rfl, hT18⟩
   have hS18 := hS17.lent hT18
   refine W_nil ?_
   exact N_step rfl rfl hT18.below0
 intro w19 vq19 hB19 hH19
 have hS19 := hS2.below hB19
 refine W_bs (t := tI) [[.int .i64 r3], [.int .i64 r4]] [r3, r4] rfl Go.Proofs.Try.underlying22 Ty.cells3 rfl rfl Ty.zero3 rfl rfl ⟨rfl, ⟨rfl, trivial⟩⟩ rfl rfl hS19 ?_
 intro u5 w5 hS5
 refine W_call rfl Ty.named44 rfl (cmp_Or_int_ok (now_agree _) (hS5.rowNow (k := 0) rfl) hr6) ?_
 rintro v20 w20 ⟨Fr6, rfl, hT20⟩
 have hS20 := hS5.lent hT20
 refine W_assign rfl rfl ?_
 refine W_nil ?_
 refine N_code ?_
 obtain rfl := Option.some.inj H
 refine C_ret rfl rfl ?_
 exact ⟨F, rfl, hS20.pick [] (by decide)⟩

end Go.Wk.Lf
