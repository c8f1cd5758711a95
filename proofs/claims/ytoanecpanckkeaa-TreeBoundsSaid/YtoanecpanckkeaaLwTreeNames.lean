import Derived.Test.YtoanecpanckkeaaLfB
namespace Go.Wk.Lf
open Go.Proofs Go.RowKit
set_option linter.unusedVariables false
set_option linter.unusedSimpArgs false
noncomputable section

def cellarerlaw05_TreeNames.k1 (x0 : List UInt8) (x1 : Int) (x2 : UInt8) (b5 : Bool) : Option Bool :=
  bd (tree_Name x0) fun r6 =>
  if (r6 != b5) then
    some false
  else
    if (!b5) then
      bd (cellarerlaw05_wakes) fun r10 =>
      some r10
    else
      bd (rem (wu x1) (wu (x0.length : Int))) fun x12 =>
      bd (cut (α := UInt8) x0 0 (wr x12)) fun s14 =>
      bd (cat s14 [x2]) fun s16 =>
      bd (cut (α := UInt8) x0 (wr (wr x12 + 1)) (x0.length : Int)) fun s17 =>
      bd (cat s16 s17) fun s18 =>
      bd (tree_Name s18) fun r31 =>
      bd (only (r31 == (decide (33 ≤ (x2.toNat : Int)) && decide ((x2.toNat : Int) ≤ 126))) (cat x0 x0) []) fun s32 =>
      bd (only (r31 == (decide (33 ≤ (x2.toNat : Int)) && decide ((x2.toNat : Int) ≤ 126))) (tree_Name s32) false) fun r33 =>
      bd (only ((r31 == (decide (33 ≤ (x2.toNat : Int)) && decide ((x2.toNat : Int) ≤ 126))) && (r33 == decide (wr (2 * (x0.length : Int)) ≤ 20))) (cellarerlaw05_wakes) false) fun r34 =>
      some (((r31 == (decide (33 ≤ (x2.toNat : Int)) && decide ((x2.toNat : Int) ≤ 126))) && (r33 == decide (wr (2 * (x0.length : Int)) ≤ 20))) && r34)


def cellarerlaw05_TreeNames.l2 (x0 : List UInt8) (x1 : Int) (x2 : UInt8) (rec66 : (Bool × Int) → Option Bool) : (Bool × Int) → Option Bool
  | (b64, i65) =>
    if decide (i65 < (x0.length : Int)) then
      bd (only b64 (ix x0 i65) 0) fun x68 =>
      bd (only (b64 && decide (33 ≤ (x68.toNat : Int))) (ix x0 i65) 0) fun x69 =>
      rec66 (((b64 && decide (33 ≤ (x68.toNat : Int))) && decide ((x69.toNat : Int) ≤ 126)), wr (i65 + 1))
    else
      cellarerlaw05_TreeNames.k1 x0 x1 x2 b64

def cellarerlaw05_TreeNames (x0 : List UInt8) (x1 : Int) (x2 : UInt8) : Option Bool :=
  if decide (60 < (x0.length : Int)) then
    some true
  else
    loop (cellarerlaw05_TreeNames.l2 x0 x1 x2) ((decide (1 ≤ (x0.length : Int)) && decide ((x0.length : Int) ≤ 20)), 0)

theorem cellarerlaw05_TreeNames_ok {F : Frz} {w : World} {x0 : List UInt8} {x1 : Int} {x2 : UInt8} {r : Bool} (hA : Agree F w.heap) (H : cellarerlaw05_TreeNames x0 x1 x2 = some r) : Ret Try.prog 3 #[strV x0, .int .i64 x1, .int .u8 (x2.toNat : Int)] w fun v w' => ∃ (F' : Frz), v = .bool r ∧ St [] w F F' [] w' := by
 refine Ret_of (args := [strV x0, .int .i64 x1, .int .u8 (x2.toNat : Int)]) Go.Proofs.Try.func3 rfl rfl ?_
 change C _ _ _ _ [(0, strV x0), (1, .int .i64 x1), (2, .int .u8 (x2.toNat : Int))] _
 have hS := St.entry hA
 dsimp only [cellarerlaw05_TreeNames] at H
 refine C_seq ?_
 refine C_region ?_
 refine W_assign rfl rfl ?_
 refine W_nil ?_
 refine N_code ?_
 refine C_seq ?_
 refine C_seq ?_
 refine C_region ?_
 refine W_move rfl rfl ?_
 refine W_lenS rfl Go.Proofs.Try.underlying9 rfl ?_
 refine W_gtr rfl rfl rfl ?_
 refine W_nil ?_
 refine N_code ?_
 refine C_cond rfl (fun hc1 => ?_) (fun hc1 => ?_)
 ·
  rw [if_t hc1] at H
  refine C_seq ?_
  refine C_region ?_
  refine W_assign rfl rfl ?_
  refine W_nil ?_
  refine N_code ?_
  obtain rfl := Option.some.inj H
  refine C_ret rfl rfl ?_
  exact ⟨F, rfl, hS⟩
 ·
  rw [if_f hc1] at H
  refine C_skip ?_
  refine N_code ?_
  refine C_seq ?_
  refine C_join (fun E wq => E = [(0, strV x0), (1, .int .i64 x1), (2, .int .u8 (x2.toNat : Int)), (7, .bool (decide (1 ≤ (x0.length : Int)) && decide ((x0.length : Int) ≤ 20)))] ∧ ∃ F2 : Frz, F.le F2 ∧ St [] w F F2 [] wq) ?_ ?_
  ·
   rcases Bool.eq_false_or_eq_true (decide (1 ≤ (x0.length : Int))) with hb3 | hb3
   ·
    refine C_region ?_
    refine W_move rfl rfl ?_
    refine W_lenS rfl Go.Proofs.Try.underlying9 rfl ?_
    refine W_geq rfl rfl rfl ?_
    refine W_move rfl rfl ?_
    refine W_known (t := 16) true rfl hb3 ?_
    refine W_guard_yes rfl ?_
    refine W_move rfl rfl ?_
    refine W_guard_yes rfl ?_
    refine W_lenS rfl Go.Proofs.Try.underlying9 rfl ?_
    refine W_guard_yes rfl ?_
    refine W_leq rfl rfl rfl ?_
    refine W_pick_t rfl rfl rfl ?_
    refine W_assign rfl rfl ?_
    refine W_nil ?_
    exact N_join _ ⟨rfl, F, (Frz.le.refl _), hS⟩ ⟨rfl, rfl, rfl, (look_bool rfl (by first | rfl | (rw [hb3]; first | done | rfl) | simp [hb3])), trivial⟩
   ·
    refine C_region ?_
    refine W_move rfl rfl ?_
    refine W_lenS rfl Go.Proofs.Try.underlying9 rfl ?_
    refine W_geq rfl rfl rfl ?_
    refine W_move rfl rfl ?_
    refine W_known (t := 16) false rfl hb3 ?_
    refine W_guard_no rfl rfl rfl rfl rfl ?_
    refine W_guard_no rfl rfl rfl rfl rfl ?_
    refine W_guard_no rfl rfl rfl rfl rfl ?_
    refine W_pick_f rfl rfl rfl ?_
    refine W_assign rfl rfl ?_
    refine W_nil ?_
    exact N_join _ ⟨rfl, F, (Frz.le.refl _), hS⟩ ⟨rfl, rfl, rfl, (look_bool rfl (by first | rfl | (rw [hb3]; first | done | rfl) | simp [hb3])), trivial⟩
  rintro E w2 ⟨rfl, F2, le2, hS2⟩
  refine N_code ?_
  refine C_seq_join (fun E wq => ∃ b5 : Bool, cellarerlaw05_TreeNames.k1 x0 x1 x2 b5 = some r ∧ ∃ (F4 : Frz), E = [(0, strV x0), (1, .int .i64 x1), (2, .int .u8 (x2.toNat : Int)), (7, .bool b5)] ∧ F2.le F4 ∧ St [] w F F4 [] wq) ?_ ?_
  ·
   refine C_seq ?_
   refine C_region ?_
   refine W_assign rfl rfl ?_
   refine W_nil ?_
   refine N_code ?_
   refine C_block ?_
   refine C_loopM (fun (s : Bool × Int) E wq => ∃ (F63 : Frz), E = [(0, strV x0), (1, .int .i64 x1), (2, .int .u8 (x2.toNat : Int)), (7, .bool s.1), (8, .int .i64 s.2)] ∧ F2.le F63 ∧ St [] w F F63 [] wq) H ?_ ?_
   ·
    exact ⟨_, ⟨F2, rfl, (Frz.le.refl _), hS2⟩, ⟨rfl, rfl, rfl, rfl, rfl, trivial⟩⟩
   ·
    rintro rec66 ⟨b64, i65⟩ E w63 hI H
    try dsimp only at hI
    obtain ⟨F63, rfl, le63, hS63⟩ := hI
    dsimp only [cellarerlaw05_TreeNames.l2] at H
    refine C_seq ?_
    refine C_seq ?_
    refine C_region ?_
    refine W_move rfl rfl ?_
    refine W_move rfl rfl ?_
    refine W_lenS rfl Go.Proofs.Try.underlying9 rfl ?_
    refine W_lss rfl rfl rfl ?_
    refine W_nil ?_
    refine N_code ?_
    refine C_cond rfl (fun hc67 => ?_) (fun hc67 => ?_)
    ·
     rw [if_t hc67] at H
     refine C_skip ?_
     refine N_code ?_
     refine C_seq ?_
     refine C_block ?_
     obtain ⟨x68, hx68, H⟩ := bd_some H
     obtain ⟨x69, hx69, H⟩ := bd_some H
     refine C_join (fun E wq => E = [(0, strV x0), (1, .int .i64 x1), (2, .int .u8 (x2.toNat : Int)), (7, .bool ((b64 && decide (33 ≤ (x68.toNat : Int))) && decide ((x69.toNat : Int) ≤ 126))), (8, .int .i64 i65)] ∧ ∃ F70 : Frz, F63.le F70 ∧ St [] w F F70 [] wq) ?_ ?_
     ·
      rcases Bool.eq_false_or_eq_true b64 with hb71 | hb71
      ·
       rcases Bool.eq_false_or_eq_true (decide (33 ≤ (x68.toNat : Int))) with hb72 | hb72
       ·
        refine C_region ?_
        refine W_move rfl rfl ?_
        refine W_move rfl rfl ?_
        refine W_known (t := 28) true rfl hb71 ?_
        refine W_guard_yes rfl ?_
        refine W_move rfl rfl ?_
        refine W_guard_yes rfl ?_
        refine W_move rfl rfl ?_
        refine W_guard_yes rfl ?_
        have hy74 := hx68
        rw [only_t hb71] at hy74
        obtain ⟨hp73, hy73⟩ := ix_some hy74
        refine W_ixS rfl Go.Proofs.Try.underlying9 rfl rfl hp73 rfl hy73 ?_
        refine W_guard_yes rfl ?_
        refine W_geq rfl rfl rfl ?_
        refine W_pick_t rfl rfl rfl ?_
        refine W_move rfl rfl ?_
        refine W_known (t := 34) true rfl hb72 ?_
        refine W_guard_yes rfl ?_
        refine W_move rfl rfl ?_
        refine W_guard_yes rfl ?_
        refine W_move rfl rfl ?_
        refine W_guard_yes rfl ?_
        have hy76 := hx69
        rw [only_t (by first | rfl | (rw [hb72, hb71]; first | done | rfl) | simp [hb71, hb72])] at hy76
        obtain ⟨hp75, hy75⟩ := ix_some hy76
        refine W_ixS rfl Go.Proofs.Try.underlying9 rfl rfl hp75 rfl hy75 ?_
        refine W_guard_yes rfl ?_
        refine W_leq rfl rfl rfl ?_
        refine W_pick_t rfl rfl rfl ?_
        refine W_assign rfl rfl ?_
        refine W_nil ?_
        exact N_join _ ⟨rfl, F63, (Frz.le.refl _), hS63⟩ ⟨rfl, rfl, rfl, (look_bool rfl (by first | rfl | (rw [hb72, hb71]; first | done | rfl) | simp [hb71, hb72])), rfl, trivial⟩
       ·
        refine C_region ?_
        refine W_move rfl rfl ?_
        refine W_move rfl rfl ?_
        refine W_known (t := 28) true rfl hb71 ?_
        refine W_guard_yes rfl ?_
        refine W_move rfl rfl ?_
        refine W_guard_yes rfl ?_
        refine W_move rfl rfl ?_
        refine W_guard_yes rfl ?_
        have hy78 := hx68
        rw [only_t hb71] at hy78
        obtain ⟨hp77, hy77⟩ := ix_some hy78
        refine W_ixS rfl Go.Proofs.Try.underlying9 rfl rfl hp77 rfl hy77 ?_
        refine W_guard_yes rfl ?_
        refine W_geq rfl rfl rfl ?_
        refine W_pick_t rfl rfl rfl ?_
        refine W_move rfl rfl ?_
        refine W_known (t := 34) false rfl hb72 ?_
        refine W_guard_no rfl rfl rfl rfl rfl ?_
        refine W_guard_no rfl rfl rfl rfl rfl ?_
        refine W_guard_no rfl rfl rfl rfl rfl ?_
        refine W_guard_no rfl rfl rfl rfl rfl ?_
        refine W_pick_f rfl rfl rfl ?_
        refine W_assign rfl rfl ?_
        refine W_nil ?_
        exact N_join _ ⟨rfl, F63, (Frz.le.refl _), hS63⟩ ⟨rfl, rfl, rfl, (look_bool rfl (by first | rfl | (rw [hb72, hb71]; first | done | rfl) | simp [hb71, hb72])), rfl, trivial⟩
      ·
       refine C_region ?_
       refine W_move rfl rfl ?_
       refine W_move rfl rfl ?_
       refine W_known (t := 28) false rfl hb71 ?_
       refine W_guard_no rfl rfl rfl rfl rfl ?_
       refine W_guard_no rfl rfl rfl rfl rfl ?_
       refine W_guard_no rfl rfl rfl rfl rfl ?_
       refine W_guard_no rfl rfl rfl rfl rfl ?_
       refine W_pick_f rfl rfl rfl ?_
       refine W_move rfl rfl ?_
       refine W_guard_no rfl rfl rfl rfl rfl ?_
       refine W_guard_no rfl rfl rfl rfl rfl ?_
       refine W_guard_no rfl rfl rfl rfl rfl ?_
       refine W_guard_no rfl rfl rfl rfl rfl ?_
       refine W_pick_f rfl rfl rfl ?_
       refine W_assign rfl rfl ?_
       refine W_nil ?_
       exact N_join _ ⟨rfl, F63, (Frz.le.refl _), hS63⟩ ⟨rfl, rfl, rfl, (look_bool rfl (by first | rfl | (rw [hb71]; first | done | rfl) | simp [hb71])), rfl, trivial⟩
     rintro E w70 ⟨rfl, F70, le70, hS70⟩
     refine N_block ?_
     refine N_code ?_
     refine C_region ?_
     refine W_move rfl rfl ?_
     refine W_add rfl rfl rfl rfl ?_
     refine W_assign rfl rfl ?_
     refine W_nil ?_
     exact N_againM (((b64 && decide (33 ≤ (x68.toNat : Int))) && decide ((x69.toNat : Int) ≤ 126)), wr (i65 + 1)) _ H ⟨F70, rfl, (le63.trans le70), hS70⟩ ⟨rfl, rfl, rfl, rfl, rfl, trivial⟩
    ·
     rw [if_f hc67] at H
     refine C_exit _ rfl ?_
     exact N_join _ ⟨b64, H, ⟨F63, rfl, le63, hS63⟩⟩ ⟨rfl, rfl, rfl, rfl, trivial⟩
  ·
   rintro E w4 ⟨b5, H, F4, rfl, le4, hS4⟩
   dsimp only [cellarerlaw05_TreeNames.k1] at H
   refine C_seq ?_
   refine C_seq ?_
   obtain ⟨r6, hr6, H⟩ := bd_some H
   refine C_region ?_
   refine W_move rfl rfl ?_
   refine W_call rfl Ty.named15 rfl (tree_Name_ok hS4.agree hr6) ?_
   rintro v7 w7 ⟨Fr6, rfl, hT7⟩
   have hS7 := hS4.lent hT7
   refine W_move rfl rfl ?_
   refine W_neqb rfl Go.Proofs.Try.underlying4 rfl rfl ?_
   refine W_nil ?_
   refine N_code ?_
   refine C_cond rfl (fun hc8 => ?_) (fun hc8 => ?_)
   ·
    rw [if_t hc8] at H
    refine C_seq ?_
    refine C_region ?_
    refine W_assign rfl rfl ?_
    refine W_nil ?_
    refine N_code ?_
    obtain rfl := Option.some.inj H
    refine C_ret rfl rfl ?_
    exact ⟨F4, rfl, hS7⟩
   ·
    rw [if_f hc8] at H
    refine C_skip ?_
    refine N_code ?_
    refine C_seq ?_
    refine C_seq ?_
    refine C_region ?_
    refine W_move rfl rfl ?_
    refine W_not rfl rfl ?_
    refine W_nil ?_
    refine N_code ?_
    refine C_cond rfl (fun hc9 => ?_) (fun hc9 => ?_)
    ·
     rw [if_t hc9] at H
     refine C_seq ?_
     obtain ⟨r10, hr10, H⟩ := bd_some H
     refine C_region ?_
     refine W_call rfl Ty.named16 rfl (cellarerlaw05_wakes_ok hS7.agree hr10) ?_
     rintro v11 w11 ⟨Fr10, rfl, hT11⟩
     have hS11 := hS7.lent hT11
     refine W_assign rfl rfl ?_
     refine W_nil ?_
     refine N_code ?_
     obtain rfl := Option.some.inj H
     refine C_ret rfl rfl ?_
     exact ⟨F4, rfl, hS11⟩
    ·
     rw [if_f hc9] at H
     refine C_skip ?_
     refine N_code ?_
     refine C_seq ?_
     obtain ⟨x12, hx12, H⟩ := bd_some H
     refine C_region ?_
     refine W_move rfl rfl ?_
     refine W_conv rfl rfl Ty.some3 Go.Proofs.Try.underlying24 (rfl) ?_
     refine W_move rfl rfl ?_
     refine W_lenS rfl Go.Proofs.Try.underlying9 rfl ?_
     refine W_conv rfl rfl Ty.some3 Go.Proofs.Try.underlying24 (rfl) ?_
     obtain ⟨hz13, hw13⟩ := rem_some hx12
     refine W_rem rfl rfl rfl hz13 hw13.symm ?_
     refine W_conv rfl rfl Ty.some24 Go.Proofs.Try.underlying3 (rfl) ?_
     refine W_assign rfl rfl ?_
     refine W_nil ?_
     refine N_code ?_
     refine C_seq ?_
     obtain ⟨s14, hs14, H⟩ := bd_some H
     obtain ⟨s16, hs16, H⟩ := bd_some H
     obtain ⟨s17, hs17, H⟩ := bd_some H
     obtain ⟨s18, hs18, H⟩ := bd_some H
     apply C_draw 11 [[], [], [0, 1], [], [3], [4], [2, 5], [], [], [8], [7, 9]] [.val (strV x0), .val (.int .i64 (wr x12)), .val (strV s14), .val (.int .u8 (x2.toNat : Int)), .pred (fun v wz => Src tB F4 wz v [x2]) stable_src, .val (strV [x2]), .val (strV s16), .val (strV x0), .val (.int .i64 (wr x12)), .val (.int .i64 (wr (wr x12 + 1))), .val (strV s17)] Ty.mixed rfl rfl (by kernel_rfl) (by kernel_rfl) rfl
     ·
      refine ⟨?_, ?_, ?_, ?_, ?_, ?_, ?_, ?_, ?_, ?_, ?_, trivial⟩
      ·
       intro w19 vq19 hB19 hH19
       have hS19 := hS7.below hB19
       refine W_move rfl rfl ?_
       refine W_nil ?_
       exact N_step rfl rfl (Below.refl _ _)
      ·
       intro w20 vq20 hB20 hH20
       have hS20 := hS7.below hB20
       refine W_move rfl rfl ?_
       refine W_nil ?_
       exact N_step rfl rfl (Below.refl _ _)
      ·
       intro w21 vq21 hB21 hH21
       have hS21 := hS7.below hB21
       refine W_cutT 0 (wr x12) rfl Go.Proofs.Try.underlying9 rfl rfl ⟨_, rfl⟩ hs14 ?_
       refine W_nil ?_
       exact N_step rfl rfl (Below.refl _ _)
      ·
       intro w22 vq22 hB22 hH22
       have hS22 := hS7.below hB22
       refine W_move rfl rfl ?_
       refine W_nil ?_
       exact N_step rfl rfl (Below.refl _ _)
      ·
       intro w23 vq23 hB23 hH23
       have hS23 := hS7.below hB23
       refine W_bs0 (t := tB) [[.int .u8 (x2.toNat : Int)]] [x2] rfl Go.Proofs.Try.underlying25 Ty.cells5 rfl rfl Ty.zero5 rfl rfl ⟨rfl, trivial⟩ rfl rfl hS23.agree ?_
       intro u15 w15 hB15 hs15
       refine W_nil ?_
       exact N_step rfl hs15 hB15
      ·
       intro w24 vq24 hB24 hH24
       obtain ⟨hp24_4, _⟩ := hH24
       have hS24 := hS7.below hB24
       refine W_bstr rfl Go.Proofs.Try.underlying25 Go.Proofs.Try.underlying5 Go.Proofs.Try.underlying9 rfl hp24_4 ?_
       refine W_nil ?_
       exact N_step rfl rfl (Below.refl _ _)
      ·
       intro w25 vq25 hB25 hH25
       have hS25 := hS7.below hB25
       refine W_catS rfl rfl rfl hs16 ?_
       refine W_nil ?_
       exact N_step rfl rfl (Below.refl _ _)
      ·
       intro w26 vq26 hB26 hH26
       have hS26 := hS7.below hB26
       refine W_move rfl rfl ?_
       refine W_nil ?_
       exact N_step rfl rfl (Below.refl _ _)
      ·
       intro w27 vq27 hB27 hH27
       have hS27 := hS7.below hB27
       refine W_move rfl rfl ?_
       refine W_nil ?_
       exact N_step rfl rfl (Below.refl _ _)
      ·
       intro w28 vq28 hB28 hH28
       have hS28 := hS7.below hB28
       refine W_add rfl rfl rfl rfl ?_
       refine W_nil ?_
       exact N_step rfl rfl (Below.refl _ _)
      ·
       intro w29 vq29 hB29 hH29
       have hS29 := hS7.below hB29
       refine W_cutT (wr (wr x12 + 1)) (x0.length : Int) rfl Go.Proofs.Try.underlying9 rfl ⟨_, rfl⟩ rfl hs17 ?_
       refine W_nil ?_
       exact N_step rfl rfl (Below.refl _ _)
     intro w30 vq30 hB30 hH30
     obtain ⟨_, _, _, _, hp30_4, _, _, _, _, _, _, _⟩ := hH30
     have hS30 := hS7.below hB30
     refine W_catS rfl rfl rfl hs18 ?_
     refine W_assign rfl rfl ?_
     refine W_nil ?_
     refine N_code ?_
     refine C_seq ?_
     obtain ⟨r31, hr31, H⟩ := bd_some H
     obtain ⟨s32, hs32, H⟩ := bd_some H
     obtain ⟨r33, hr33, H⟩ := bd_some H
     obtain ⟨r34, hr34, H⟩ := bd_some H
     refine C_join (fun E wq => E = [(6, .bool (((r31 == (decide (33 ≤ (x2.toNat : Int)) && decide ((x2.toNat : Int) ≤ 126))) && (r33 == decide (wr (2 * (x0.length : Int)) ≤ 20))) && r34))] ∧ ∃ F35 : Frz, F4.le F35 ∧ St [] w F F35 [] wq) ?_ ?_
     ·
      rcases Bool.eq_false_or_eq_true (decide (33 ≤ (x2.toNat : Int))) with hb36 | hb36
      ·
       rcases Bool.eq_false_or_eq_true (r31 == (decide (33 ≤ (x2.toNat : Int)) && decide ((x2.toNat : Int) ≤ 126))) with hb37 | hb37
       ·
        rcases Bool.eq_false_or_eq_true (r33 == decide (wr (2 * (x0.length : Int)) ≤ 20)) with hb38 | hb38
        ·
         refine C_region ?_
         refine W_move rfl rfl ?_
         refine W_call rfl Ty.named15 rfl (tree_Name_ok hS30.agree hr31) ?_
         rintro v39 w39 ⟨Fr31, rfl, hT39⟩
         have hS39 := hS30.lent hT39
         refine W_move rfl rfl ?_
         refine W_geq rfl rfl rfl ?_
         refine W_move rfl rfl ?_
         refine W_known (t := 70) true rfl hb36 ?_
         refine W_guard_yes rfl ?_
         refine W_move rfl rfl ?_
         refine W_guard_yes rfl ?_
         refine W_leq rfl rfl rfl ?_
         refine W_pick_t rfl rfl rfl ?_
         refine W_eqv (t := 73) rfl (congrArg Value.bool (show decide ((x2.toNat : Int) ≤ 126) = (decide (33 ≤ (x2.toNat : Int)) && decide ((x2.toNat : Int) ≤ 126)) from (by first | rfl | (rw [hb36]; first | done | rfl) | simp [hb36, hb37, hb38]))) ?_
         refine W_eqlb rfl Go.Proofs.Try.underlying4 rfl rfl ?_
         refine W_move rfl rfl ?_
         refine W_known (t := 75) true rfl hb37 ?_
         refine W_guard_yes rfl ?_
         refine W_move rfl rfl ?_
         refine W_guard_yes rfl ?_
         refine W_move rfl rfl ?_
         refine W_guard_yes rfl ?_
         have hy40 := hs32
         rw [only_t hb37] at hy40
         refine W_catS rfl rfl rfl hy40 ?_
         refine W_guard_yes rfl ?_
         have hy41 := hr33
         rw [only_t hb37] at hy41
         refine W_call rfl Ty.named15 rfl (tree_Name_ok hS39.agree hy41) ?_
         rintro v42 w42 ⟨Fr33, rfl, hT42⟩
         have hS42 := hS39.lent hT42
         refine W_guard_yes rfl ?_
         refine W_move rfl rfl ?_
         refine W_guard_yes rfl ?_
         refine W_lenS rfl Go.Proofs.Try.underlying9 rfl ?_
         refine W_guard_yes rfl ?_
         refine W_mul rfl rfl rfl rfl ?_
         refine W_guard_yes rfl ?_
         refine W_leq rfl rfl rfl ?_
         refine W_guard_yes rfl ?_
         refine W_eqlb rfl Go.Proofs.Try.underlying4 rfl rfl ?_
         refine W_pick_t rfl rfl rfl ?_
         refine W_move rfl rfl ?_
         refine W_known (t := 86) true rfl hb38 ?_
         refine W_guard_yes rfl ?_
         have hy43 := hr34
         rw [only_t (by first | rfl | (rw [hb37, hb38]; first | done | rfl) | simp [hb36, hb37, hb38])] at hy43
         refine W_call rfl Ty.named16 rfl (cellarerlaw05_wakes_ok hS42.agree hy43) ?_
         rintro v44 w44 ⟨Fr34, rfl, hT44⟩
         have hS44 := hS42.lent hT44
         refine W_pick_t rfl rfl rfl ?_
         refine W_assign rfl rfl ?_
         refine W_nil ?_
         exact N_join _ ⟨rfl, F4, (Frz.le.refl _), hS44⟩ ⟨(look_bool rfl (by first | rfl | (rw [hb37, hb38]; first | done | rfl) | simp [hb36, hb37, hb38])), trivial⟩
        ·
         refine C_region ?_
         refine W_move rfl rfl ?_
         refine W_call rfl Ty.named15 rfl (tree_Name_ok hS30.agree hr31) ?_
         rintro v45 w45 ⟨Fr31, rfl, hT45⟩
         have hS45 := hS30.lent hT45
         refine W_move rfl rfl ?_
         refine W_geq rfl rfl rfl ?_
         refine W_move rfl rfl ?_
         refine W_known (t := 70) true rfl hb36 ?_
         refine W_guard_yes rfl ?_
         refine W_move rfl rfl ?_
         refine W_guard_yes rfl ?_
         refine W_leq rfl rfl rfl ?_
         refine W_pick_t rfl rfl rfl ?_
         refine W_eqv (t := 73) rfl (congrArg Value.bool (show decide ((x2.toNat : Int) ≤ 126) = (decide (33 ≤ (x2.toNat : Int)) && decide ((x2.toNat : Int) ≤ 126)) from (by first | rfl | (rw [hb36]; first | done | rfl) | simp [hb36, hb37, hb38]))) ?_
         refine W_eqlb rfl Go.Proofs.Try.underlying4 rfl rfl ?_
         refine W_move rfl rfl ?_
         refine W_known (t := 75) true rfl hb37 ?_
         refine W_guard_yes rfl ?_
         refine W_move rfl rfl ?_
         refine W_guard_yes rfl ?_
         refine W_move rfl rfl ?_
         refine W_guard_yes rfl ?_
         have hy46 := hs32
         rw [only_t hb37] at hy46
         refine W_catS rfl rfl rfl hy46 ?_
         refine W_guard_yes rfl ?_
         have hy47 := hr33
         rw [only_t hb37] at hy47
         refine W_call rfl Ty.named15 rfl (tree_Name_ok hS45.agree hy47) ?_
         rintro v48 w48 ⟨Fr33, rfl, hT48⟩
         have hS48 := hS45.lent hT48
         refine W_guard_yes rfl ?_
         refine W_move rfl rfl ?_
         refine W_guard_yes rfl ?_
         refine W_lenS rfl Go.Proofs.Try.underlying9 rfl ?_
         refine W_guard_yes rfl ?_
         refine W_mul rfl rfl rfl rfl ?_
         refine W_guard_yes rfl ?_
         refine W_leq rfl rfl rfl ?_
         refine W_guard_yes rfl ?_
         refine W_eqlb rfl Go.Proofs.Try.underlying4 rfl rfl ?_
         refine W_pick_t rfl rfl rfl ?_
         refine W_move rfl rfl ?_
         refine W_known (t := 86) false rfl hb38 ?_
         refine W_guard_no rfl rfl rfl rfl rfl ?_
         refine W_pick_f rfl rfl rfl ?_
         refine W_assign rfl rfl ?_
         refine W_nil ?_
         exact N_join _ ⟨rfl, F4, (Frz.le.refl _), hS48⟩ ⟨(look_bool rfl (by first | rfl | (rw [hb37, hb38]; first | done | rfl) | simp [hb36, hb37, hb38])), trivial⟩
       ·
        refine C_region ?_
        refine W_move rfl rfl ?_
        refine W_call rfl Ty.named15 rfl (tree_Name_ok hS30.agree hr31) ?_
        rintro v49 w49 ⟨Fr31, rfl, hT49⟩
        have hS49 := hS30.lent hT49
        refine W_move rfl rfl ?_
        refine W_geq rfl rfl rfl ?_
        refine W_move rfl rfl ?_
        refine W_known (t := 70) true rfl hb36 ?_
        refine W_guard_yes rfl ?_
        refine W_move rfl rfl ?_
        refine W_guard_yes rfl ?_
        refine W_leq rfl rfl rfl ?_
        refine W_pick_t rfl rfl rfl ?_
        refine W_eqv (t := 73) rfl (congrArg Value.bool (show decide ((x2.toNat : Int) ≤ 126) = (decide (33 ≤ (x2.toNat : Int)) && decide ((x2.toNat : Int) ≤ 126)) from (by first | rfl | (rw [hb36]; first | done | rfl) | simp [hb36, hb37]))) ?_
        refine W_eqlb rfl Go.Proofs.Try.underlying4 rfl rfl ?_
        refine W_move rfl rfl ?_
        refine W_known (t := 75) false rfl hb37 ?_
        refine W_guard_no rfl rfl rfl rfl rfl ?_
        refine W_guard_no rfl rfl rfl rfl rfl ?_
        refine W_guard_no rfl rfl rfl rfl rfl ?_
        refine W_guard_no rfl rfl rfl rfl rfl ?_
        refine W_guard_no rfl rfl rfl rfl rfl ?_
        refine W_guard_no rfl rfl rfl rfl rfl ?_
        refine W_guard_no rfl rfl rfl rfl rfl ?_
        refine W_guard_no rfl rfl rfl rfl rfl ?_
        refine W_guard_no rfl rfl rfl rfl rfl ?_
        refine W_pick_f rfl rfl rfl ?_
        refine W_move rfl rfl ?_
        refine W_guard_no rfl rfl rfl rfl rfl ?_
        refine W_pick_f rfl rfl rfl ?_
        refine W_assign rfl rfl ?_
        refine W_nil ?_
        exact N_join _ ⟨rfl, F4, (Frz.le.refl _), hS49⟩ ⟨(look_bool rfl (by first | rfl | (rw [hb37]; first | done | rfl) | simp [hb36, hb37])), trivial⟩
      ·
       rcases Bool.eq_false_or_eq_true (r31 == (decide (33 ≤ (x2.toNat : Int)) && decide ((x2.toNat : Int) ≤ 126))) with hb50 | hb50
       ·
        rcases Bool.eq_false_or_eq_true (r33 == decide (wr (2 * (x0.length : Int)) ≤ 20)) with hb51 | hb51
        ·
         refine C_region ?_
         refine W_move rfl rfl ?_
         refine W_call rfl Ty.named15 rfl (tree_Name_ok hS30.agree hr31) ?_
         rintro v52 w52 ⟨Fr31, rfl, hT52⟩
         have hS52 := hS30.lent hT52
         refine W_move rfl rfl ?_
         refine W_geq rfl rfl rfl ?_
         refine W_move rfl rfl ?_
         refine W_known (t := 70) false rfl hb36 ?_
         refine W_guard_no rfl rfl rfl rfl rfl ?_
         refine W_guard_no rfl rfl rfl rfl rfl ?_
         refine W_pick_f rfl rfl rfl ?_
         refine W_eqv (t := 73) rfl (congrArg Value.bool (show false = (decide (33 ≤ (x2.toNat : Int)) && decide ((x2.toNat : Int) ≤ 126)) from (by first | rfl | (rw [hb36]; first | done | rfl) | simp [hb36, hb50, hb51]))) ?_
         refine W_eqlb rfl Go.Proofs.Try.underlying4 rfl rfl ?_
         refine W_move rfl rfl ?_
         refine W_known (t := 75) true rfl hb50 ?_
         refine W_guard_yes rfl ?_
         refine W_move rfl rfl ?_
         refine W_guard_yes rfl ?_
         refine W_move rfl rfl ?_
         refine W_guard_yes rfl ?_
         have hy53 := hs32
         rw [only_t hb50] at hy53
         refine W_catS rfl rfl rfl hy53 ?_
         refine W_guard_yes rfl ?_
         have hy54 := hr33
         rw [only_t hb50] at hy54
         refine W_call rfl Ty.named15 rfl (tree_Name_ok hS52.agree hy54) ?_
         rintro v55 w55 ⟨Fr33, rfl, hT55⟩
         have hS55 := hS52.lent hT55
         refine W_guard_yes rfl ?_
         refine W_move rfl rfl ?_
         refine W_guard_yes rfl ?_
         refine W_lenS rfl Go.Proofs.Try.underlying9 rfl ?_
         refine W_guard_yes rfl ?_
         refine W_mul rfl rfl rfl rfl ?_
         refine W_guard_yes rfl ?_
         refine W_leq rfl rfl rfl ?_
         refine W_guard_yes rfl ?_
         refine W_eqlb rfl Go.Proofs.Try.underlying4 rfl rfl ?_
         refine W_pick_t rfl rfl rfl ?_
         refine W_move rfl rfl ?_
         refine W_known (t := 86) true rfl hb51 ?_
         refine W_guard_yes rfl ?_
         have hy56 := hr34
         rw [only_t (by first | rfl | (rw [hb50, hb51]; first | done | rfl) | simp [hb36, hb50, hb51])] at hy56
         refine W_call rfl Ty.named16 rfl (cellarerlaw05_wakes_ok hS55.agree hy56) ?_
         rintro v57 w57 ⟨Fr34, rfl, hT57⟩
         have hS57 := hS55.lent hT57
         refine W_pick_t rfl rfl rfl ?_
         refine W_assign rfl rfl ?_
         refine W_nil ?_
         exact N_join _ ⟨rfl, F4, (Frz.le.refl _), hS57⟩ ⟨(look_bool rfl (by first | rfl | (rw [hb50, hb51]; first | done | rfl) | simp [hb36, hb50, hb51])), trivial⟩
        ·
         refine C_region ?_
         refine W_move rfl rfl ?_
         refine W_call rfl Ty.named15 rfl (tree_Name_ok hS30.agree hr31) ?_
         rintro v58 w58 ⟨Fr31, rfl, hT58⟩
         have hS58 := hS30.lent hT58
         refine W_move rfl rfl ?_
         refine W_geq rfl rfl rfl ?_
         refine W_move rfl rfl ?_
         refine W_known (t := 70) false rfl hb36 ?_
         refine W_guard_no rfl rfl rfl rfl rfl ?_
         refine W_guard_no rfl rfl rfl rfl rfl ?_
         refine W_pick_f rfl rfl rfl ?_
         refine W_eqv (t := 73) rfl (congrArg Value.bool (show false = (decide (33 ≤ (x2.toNat : Int)) && decide ((x2.toNat : Int) ≤ 126)) from (by first | rfl | (rw [hb36]; first | done | rfl) | simp [hb36, hb50, hb51]))) ?_
         refine W_eqlb rfl Go.Proofs.Try.underlying4 rfl rfl ?_
         refine W_move rfl rfl ?_
         refine W_known (t := 75) true rfl hb50 ?_
         refine W_guard_yes rfl ?_
         refine W_move rfl rfl ?_
         refine W_guard_yes rfl ?_
         refine W_move rfl rfl ?_
         refine W_guard_yes rfl ?_
         have hy59 := hs32
         rw [only_t hb50] at hy59
         refine W_catS rfl rfl rfl hy59 ?_
         refine W_guard_yes rfl ?_
         have hy60 := hr33
         rw [only_t hb50] at hy60
         refine W_call rfl Ty.named15 rfl (tree_Name_ok hS58.agree hy60) ?_
         rintro v61 w61 ⟨Fr33, rfl, hT61⟩
         have hS61 := hS58.lent hT61
         refine W_guard_yes rfl ?_
         refine W_move rfl rfl ?_
         refine W_guard_yes rfl ?_
         refine W_lenS rfl Go.Proofs.Try.underlying9 rfl ?_
         refine W_guard_yes rfl ?_
         refine W_mul rfl rfl rfl rfl ?_
         refine W_guard_yes rfl ?_
         refine W_leq rfl rfl rfl ?_
         refine W_guard_yes rfl ?_
         refine W_eqlb rfl Go.Proofs.Try.underlying4 rfl rfl ?_
         refine W_pick_t rfl rfl rfl ?_
         refine W_move rfl rfl ?_
         refine W_known (t := 86) false rfl hb51 ?_
         refine W_guard_no rfl rfl rfl rfl rfl ?_
         refine W_pick_f rfl rfl rfl ?_
         refine W_assign rfl rfl ?_
         refine W_nil ?_
         exact N_join _ ⟨rfl, F4, (Frz.le.refl _), hS61⟩ ⟨(look_bool rfl (by first | rfl | (rw [hb50, hb51]; first | done | rfl) | simp [hb36, hb50, hb51])), trivial⟩
       ·
        refine C_region ?_
        refine W_move rfl rfl ?_
        refine W_call rfl Ty.named15 rfl (tree_Name_ok hS30.agree hr31) ?_
        rintro v62 w62 ⟨Fr31, rfl, hT62⟩
        have hS62 := hS30.lent hT62
        refine W_move rfl rfl ?_
        refine W_geq rfl rfl rfl ?_
        refine W_move rfl rfl ?_
        refine W_known (t := 70) false rfl hb36 ?_
        refine W_guard_no rfl rfl rfl rfl rfl ?_
        refine W_guard_no rfl rfl rfl rfl rfl ?_
        refine W_pick_f rfl rfl rfl ?_
        refine W_eqv (t := 73) rfl (congrArg Value.bool (show false = (decide (33 ≤ (x2.toNat : Int)) && decide ((x2.toNat : Int) ≤ 126)) from (by first | rfl | (rw [hb36]; first | done | rfl) | simp [hb36, hb50]))) ?_
        refine W_eqlb rfl Go.Proofs.Try.underlying4 rfl rfl ?_
        refine W_move rfl rfl ?_
        refine W_known (t := 75) false rfl hb50 ?_
        refine W_guard_no rfl rfl rfl rfl rfl ?_
        refine W_guard_no rfl rfl rfl rfl rfl ?_
        refine W_guard_no rfl rfl rfl rfl rfl ?_
        refine W_guard_no rfl rfl rfl rfl rfl ?_
        refine W_guard_no rfl rfl rfl rfl rfl ?_
        refine W_guard_no rfl rfl rfl rfl rfl ?_
        refine W_guard_no rfl rfl rfl rfl rfl ?_
        refine W_guard_no rfl rfl rfl rfl rfl ?_
        refine W_guard_no rfl rfl rfl rfl rfl ?_
        refine W_pick_f rfl rfl rfl ?_
        refine W_move rfl rfl ?_
        refine W_guard_no rfl rfl rfl rfl rfl ?_
        refine W_pick_f rfl rfl rfl ?_
        refine W_assign rfl rfl ?_
        refine W_nil ?_
        exact N_join _ ⟨rfl, F4, (Frz.le.refl _), hS62⟩ ⟨(look_bool rfl (by first | rfl | (rw [hb50]; first | done | rfl) | simp [hb36, hb50])), trivial⟩
     rintro E w35 ⟨rfl, F35, le35, hS35⟩
     refine N_code ?_
     obtain rfl := Option.some.inj H
     refine C_ret rfl rfl ?_
     exact ⟨F35, rfl, hS35⟩

end
end Go.Wk.Lf
