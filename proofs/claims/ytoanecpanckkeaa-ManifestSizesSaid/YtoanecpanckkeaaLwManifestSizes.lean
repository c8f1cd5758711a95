import Derived.Test.YtoanecpanckkeaaLfM1
import Derived.Test.YtoanecpanckkeaaLfM6
namespace Go.Wk.Lf
open Go.Proofs Go.RowKit
set_option linter.unusedVariables false
set_option linter.unusedSimpArgs false
noncomputable section

def cellarerlaw17_ManifestSizes.k1 (x0 : Manifest) (r5 : (List UInt8) × Int) (i15 : Int) : Option Bool :=
  bd (only (decide ((r5.1.length : Int) = i15)) (ix r5.1 0) 0) fun x16 =>
  bd (only (decide ((r5.1.length : Int) = i15) && decide ((x16.toNat : Int) = (x0.name.length : Int))) (cut (α := UInt8) r5.1 1 (wr (1 + (x0.name.length : Int)))) []) fun l18 =>
  bd (only ((decide ((r5.1.length : Int) = i15) && decide ((x16.toNat : Int) = (x0.name.length : Int))) && (l18 == x0.name)) (ix r5.1 (wr (1 + (x0.name.length : Int)))) 0) fun x20 =>
  bd (only (((decide ((r5.1.length : Int) = i15) && decide ((x16.toNat : Int) = (x0.name.length : Int))) && (l18 == x0.name)) && decide ((x20.toNat : Int) = (x0.parts.length : Int))) (cellarerlaw17_wakes) false) fun r22 =>
  some ((((decide ((r5.1.length : Int) = i15) && decide ((x16.toNat : Int) = (x0.name.length : Int))) && (l18 == x0.name)) && decide ((x20.toNat : Int) = (x0.parts.length : Int))) && r22)


def cellarerlaw17_ManifestSizes.l2 (x0 : Manifest) (r5 : (List UInt8) × Int) (rec258 : (Int × Int) → Option Bool) : (Int × Int) → Option Bool
  | (i256, i257) =>
    if decide (i257 < (x0.parts.length : Int)) then
      bd (ix x0.parts i257) fun x260 =>
      rec258 (wr (wr (wr (i256 + 4) + (x260.path.length : Int)) + wr (32 * (x260.ids.length : Int))), wr (i257 + 1))
    else
      cellarerlaw17_ManifestSizes.k1 x0 r5 i256

def cellarerlaw17_ManifestSizes (x0 : Manifest) : Option Bool :=
  bd (cellarerlaw17_Heavy x0) fun r2 =>
  if r2 then
    some true
  else
    bd (manifest_Bytes x0) fun r5 =>
    if decide (r5.2 ≠ 0) then
      bd (only (decide (r5.2 = 1) && decide ((r5.1.length : Int) = 0)) (cellarerlaw17_wakes) false) fun r8 =>
      some ((decide (r5.2 = 1) && decide ((r5.1.length : Int) = 0)) && r8)
    else
      loop (cellarerlaw17_ManifestSizes.l2 x0 r5) (wr (2 + (x0.name.length : Int)), 0)

theorem cellarerlaw17_ManifestSizes_ok {F : Frz} {w : World} {x0 : Manifest} {r : Bool} {v0_0 : Value} (hA : Agree F w.heap) (h0_0 : SlF Part.t F v0_0 x0.parts) (H : cellarerlaw17_ManifestSizes x0 = some r) : Ret Try.prog 8 #[.agg (Manifest.cells x0 v0_0).toArray] w fun v w' => ∃ (F' : Frz), v = .bool r ∧ St [] w F F' [] w' := by
 refine Ret_of (args := [.agg (Manifest.cells x0 v0_0).toArray]) Try.func8 rfl rfl ?_;change C _ _ _ _ [(0, .agg (Manifest.cells x0 v0_0).toArray)] _;have hS := St.entry hA;dsimp only [cellarerlaw17_ManifestSizes] at H;refine C_seq ?_;refine C_region ?_;refine W_bx (cs := [strV x0.name, v0_0]) rfl rfl rfl hS ?_;intro g1 w1 hS1;refine W_assign rfl rfl ?_;refine W_nil ?_;refine N_code ?_;refine C_seq ?_;refine C_seq ?_;obtain ⟨r2, hr2, H⟩ := bd_some H;refine C_region ?_;refine W_bldg 0 ((Manifest.cells x0 v0_0)) rfl Ty.agg45 Ty.size45 rfl hS1 rfl (fun q u h => sub_at (post := []) rfl h) ?_;refine W_call rfl Ty.named29 rfl (cellarerlaw17_Heavy_ok hS1.agree h0_0 hr2) ?_;rintro v3 w3 ⟨Fr2, rfl, hT3⟩;have hS3 := hS1.lent hT3;refine W_nil ?_;refine N_code ?_;refine C_cond rfl (fun hc4 => ?_) (fun hc4 => ?_)
 ·rw [if_t hc4] at H;refine C_seq ?_;refine C_region ?_;refine W_assign rfl rfl ?_;refine W_nil ?_;refine N_code ?_;obtain rfl := Option.some.inj H;refine C_ret rfl rfl ?_;exact ⟨F, rfl, hS3.pick [] (by decide)⟩
 ·rw [if_f hc4] at H;refine C_skip ?_;refine N_code ?_;refine C_seq ?_;obtain ⟨r5, hr5, H⟩ := bd_some H;refine C_region ?_;refine W_bldg 0 ((Manifest.cells x0 v0_0)) rfl Ty.agg45 Ty.size45 rfl hS3 rfl (fun q u h => sub_at (post := []) rfl h) ?_;refine W_call rfl Ty.named30 rfl (manifest_Bytes_ok hS3.agree h0_0 hr5) ?_;rintro v6 w6 ⟨Fr5, ur5_0, rfl, hT6⟩;have hS6 := hS3.call hT6;have ler5 := hT6.ext;refine W_move rfl rfl ?_;refine W_extract rfl rfl rfl ?_;refine W_extract rfl rfl rfl ?_;refine W_assign rfl rfl ?_;refine W_assign rfl rfl ?_;refine W_nil ?_;refine N_code ?_;refine C_seq ?_;refine C_seq ?_;refine C_region ?_;refine W_move rfl rfl ?_;refine W_neq rfl rfl rfl ?_;refine W_nil ?_;refine N_code ?_;refine C_cond rfl (fun hc7 => ?_) (fun hc7 => ?_)
  ·rw [if_t hc7] at H;refine C_seq ?_;obtain ⟨r8, hr8, H⟩ := bd_some H;refine C_join (fun E wq => E = [(2, .bool ((decide (r5.2 = 1) && decide ((r5.1.length : Int) = 0)) && r8))] ∧ ∃ F9 : Frz, Fr5.le F9 ∧ St [] w F F9 [.row tB 5 ur5_0 r5.1, .box g1 45 [strV x0.name, v0_0]] wq) ?_ ?_
   ·
    rcases Bool.eq_false_or_eq_true (decide (r5.2 = 1)) with hb10 | hb10
    ·
     rcases Bool.eq_false_or_eq_true (decide ((r5.1.length : Int) = 0)) with hb11 | hb11
     ·refine C_region ?_;refine W_move rfl rfl ?_;refine W_eql rfl rfl rfl ?_;refine W_move rfl rfl ?_;refine W_known (t := 18) true rfl hb10 ?_;refine W_guard_yes rfl ?_;refine W_move rfl rfl ?_;refine W_guard_yes rfl ?_;refine W_lenv rfl Try.underlying25 rfl (hS6.rowLn (k := 0) rfl) ?_;refine W_guard_yes rfl ?_;refine W_eql rfl rfl rfl ?_;refine W_pick_t rfl rfl rfl ?_;refine W_move rfl rfl ?_;refine W_known (t := 23) true rfl hb11 ?_;refine W_guard_yes rfl ?_;have hy12 := hr8;rw [only_t (by first | rfl | (rw [hb11, hb10]; first | done | rfl) | simp [hb10, hb11])] at hy12;refine W_call rfl Ty.named31 rfl (cellarerlaw17_wakes_ok hS6.agree hy12) ?_;rintro v13 w13 ⟨Fr8, rfl, hT13⟩;have hS13 := hS6.lent hT13;refine W_pick_t rfl rfl rfl ?_;refine W_assign rfl rfl ?_;refine W_nil ?_;exact N_join _ ⟨rfl, Fr5, (Frz.le.refl _), hS13⟩ ⟨(look_bool rfl (by first | rfl | (rw [hb11, hb10]; first | done | rfl) | simp [hb10, hb11])), trivial⟩
     ·refine C_region ?_;refine W_move rfl rfl ?_;refine W_eql rfl rfl rfl ?_;refine W_move rfl rfl ?_;refine W_known (t := 18) true rfl hb10 ?_;refine W_guard_yes rfl ?_;refine W_move rfl rfl ?_;refine W_guard_yes rfl ?_;refine W_lenv rfl Try.underlying25 rfl (hS6.rowLn (k := 0) rfl) ?_;refine W_guard_yes rfl ?_;refine W_eql rfl rfl rfl ?_;refine W_pick_t rfl rfl rfl ?_;refine W_move rfl rfl ?_;refine W_known (t := 23) false rfl hb11 ?_;refine W_guard_no rfl rfl rfl rfl rfl ?_;refine W_pick_f rfl rfl rfl ?_;refine W_assign rfl rfl ?_;refine W_nil ?_;exact N_join _ ⟨rfl, Fr5, (Frz.le.refl _), hS6⟩ ⟨(look_bool rfl (by first | rfl | (rw [hb11, hb10]; first | done | rfl) | simp [hb10, hb11])), trivial⟩
    ·refine C_region ?_;refine W_move rfl rfl ?_;refine W_eql rfl rfl rfl ?_;refine W_move rfl rfl ?_;refine W_known (t := 18) false rfl hb10 ?_;refine W_guard_no rfl rfl rfl rfl rfl ?_;refine W_guard_no rfl rfl rfl rfl rfl ?_;refine W_guard_no rfl rfl rfl rfl rfl ?_;refine W_pick_f rfl rfl rfl ?_;refine W_move rfl rfl ?_;refine W_guard_no rfl rfl rfl rfl rfl ?_;refine W_pick_f rfl rfl rfl ?_;refine W_assign rfl rfl ?_;refine W_nil ?_;exact N_join _ ⟨rfl, Fr5, (Frz.le.refl _), hS6⟩ ⟨(look_bool rfl (by first | rfl | (rw [hb10]; first | done | rfl) | simp [hb10])), trivial⟩
   rintro E w9 ⟨rfl, F9, le9, hS9⟩;refine N_code ?_;obtain rfl := Option.some.inj H;refine C_ret rfl rfl ?_;exact ⟨F9, rfl, hS9.pick [] (by decide)⟩
  ·rw [if_f hc7] at H;refine C_skip ?_;refine N_code ?_;refine C_seq ?_;refine C_region ?_;refine W_field_pl 0 rfl Ty.field45_0 rfl ?_;refine W_bld1 1 rfl Ty.cell9 rfl hS6 rfl rfl ?_;refine W_lenS rfl Try.underlying9 rfl ?_;refine W_add rfl rfl rfl rfl ?_;refine W_assign rfl rfl ?_;refine W_nil ?_;refine N_code ?_;refine C_seq_join (fun E wq => ∃ i15 : Int, cellarerlaw17_ManifestSizes.k1 x0 r5 i15 = some r ∧ ∃ (F14 : Frz), E = [(1, pl g1 0), (3, ur5_0), (5, .int .i64 i15)] ∧ Fr5.le F14 ∧ St [] w F F14 [.row tB 5 ur5_0 r5.1, .box g1 45 [strV x0.name, v0_0]] wq) ?_ ?_
   ·refine C_seq ?_;refine C_region ?_;refine W_assign rfl rfl ?_;refine W_nil ?_;refine N_code ?_;refine C_block ?_;refine C_loopM (fun (s : Int × Int) E wq => ∃ (F255 : Frz), E = [(1, pl g1 0), (3, ur5_0), (5, .int .i64 s.1), (6, .int .i64 s.2)] ∧ Fr5.le F255 ∧ St [] w F F255 [.row tB 5 ur5_0 r5.1, .box g1 45 [strV x0.name, v0_0]] wq) H ?_ ?_
    ·exact ⟨_, ⟨Fr5, rfl, (Frz.le.refl _), hS6⟩, ⟨rfl, rfl, rfl, rfl, trivial⟩⟩
    ·rintro rec258 ⟨i256, i257⟩ E w255 hI H;(try dsimp only at hI);obtain ⟨F255, rfl, le255, hS255⟩ := hI;dsimp only [cellarerlaw17_ManifestSizes.l2] at H;refine C_seq ?_;refine C_seq ?_;refine C_region ?_;refine W_move rfl rfl ?_;refine W_field_pl 1 rfl Ty.field45_1 rfl ?_;refine W_bld1 1 rfl Ty.cell43 rfl hS255 rfl rfl ?_;refine W_lenv rfl Try.underlying43 rfl h0_0.ln ?_;refine W_lss rfl rfl rfl ?_;refine W_nil ?_;refine N_code ?_;refine C_cond rfl (fun hc259 => ?_) (fun hc259 => ?_)
     ·rw [if_t hc259] at H;refine C_skip ?_;refine N_code ?_;refine C_seq ?_;refine C_block ?_;obtain ⟨x260, hx260, H⟩ := bd_some H;obtain ⟨hp262, hy262⟩ := ix_some hx260;obtain ⟨cs262, hr262, he262⟩ := (h0_0.mono (ler5.trans le255)).at_ hy262;obtain ⟨ue261_0, rfl, hue261_0⟩ := hr262;replace he262 : Elf _ _ 3 _ _ := he262
      apply C_draw 18 [[], [0], [], [2], [], [3, 4], [5], [6], [7], [1, 8], [], [10], [], [11, 12], [13], [14], [15], [16]] [.val (.int .i64 i256), .val (.int .i64 (wr (i256 + 4))), .val (pl g1 (0 + 1)), .val (v0_0), .val (.int .i64 i257), .val (elp v0_0 (i257.toNat * 3)), .val (elp v0_0 ((i257.toNat * 3) + 0)), .val (strV x260.path), .val (.int .i64 (x260.path.length : Int)), .val (.int .i64 (wr (wr (i256 + 4) + (x260.path.length : Int)))), .val (pl g1 (0 + 1)), .val (v0_0), .val (.int .i64 i257), .val (elp v0_0 (i257.toNat * 3)), .val (elp v0_0 ((i257.toNat * 3) + 2)), .val (ue261_0), .val (.int .i64 (x260.ids.length : Int)), .val (.int .i64 (wr (32 * (x260.ids.length : Int))))] Ty.mixed rfl rfl (by kernel_rfl) (by kernel_rfl) rfl
      ·refine ⟨?_, ?_, ?_, ?_, ?_, ?_, ?_, ?_, ?_, ?_, ?_, ?_, ?_, ?_, ?_, ?_, ?_, ?_, trivial⟩
       ·intro _ _ _ _;refine W_move rfl rfl ?_;exact Zs rfl rfl
       ·intro _ _ _ _;refine W_add rfl rfl rfl rfl ?_;exact Zs rfl rfl
       ·intro _ _ _ _;refine W_field_pl 1 rfl Ty.field45_1 rfl ?_;exact Zs rfl rfl
       ·intro w266 vq266 hB266 hH266;have hS266 := hS255.below hB266;refine W_bld1 1 rfl Ty.cell43 rfl hS266 rfl rfl ?_;exact Zs rfl rfl
       ·intro _ _ _ _;refine W_move rfl rfl ?_;exact Zs rfl rfl
       ·intro w268 vq268 hB268 hH268;have hS268 := hS255.below hB268;refine W_ix rfl Try.underlying43 Ty.cells51 Ty.info51 rfl rfl (he262.el hS268.agree) hp262 rfl ?_;exact Zs rfl rfl
       ·intro w269 vq269 hB269 hH269;have hS269 := hS255.below hB269;refine W_fld 0 rfl Ty.field51_0 rfl (he262.el hS269.agree) ?_;exact Zs rfl rfl
       ·intro w270 vq270 hB270 hH270;have hS270 := hS255.below hB270;refine W_ld1 0 rfl Ty.cell9 rfl (he262.el hS270.agree) (by omega) rfl ?_;exact Zs rfl rfl
       ·intro _ _ _ _;refine W_lenS rfl Try.underlying9 rfl ?_;exact Zs rfl rfl
       ·intro _ _ _ _;refine W_add rfl rfl rfl rfl ?_;exact Zs rfl rfl
       ·intro _ _ _ _;refine W_field_pl 1 rfl Ty.field45_1 rfl ?_;exact Zs rfl rfl
       ·intro w274 vq274 hB274 hH274;have hS274 := hS255.below hB274;refine W_bld1 1 rfl Ty.cell43 rfl hS274 rfl rfl ?_;exact Zs rfl rfl
       ·intro _ _ _ _;refine W_move rfl rfl ?_;exact Zs rfl rfl
       ·intro w276 vq276 hB276 hH276;have hS276 := hS255.below hB276;refine W_ix rfl Try.underlying43 Ty.cells51 Ty.info51 rfl rfl (he262.el hS276.agree) hp262 rfl ?_;exact Zs rfl rfl
       ·intro w277 vq277 hB277 hH277;have hS277 := hS255.below hB277;refine W_fld 2 rfl Ty.field51_2 rfl (he262.el hS277.agree) ?_;exact Zs rfl rfl
       ·intro w278 vq278 hB278 hH278;have hS278 := hS255.below hB278;refine W_ld1 2 rfl Ty.cell49 rfl (he262.el hS278.agree) (by omega) rfl ?_;exact Zs rfl rfl
       ·intro _ _ _ _;refine W_lenv rfl Try.underlying49 rfl hue261_0.ln ?_;exact Zs rfl rfl
       ·intro _ _ _ _;refine W_mul rfl rfl rfl rfl ?_;exact Zs rfl rfl
      intro w281 vq281 hB281 hH281;have hS281 := hS255.below hB281;refine W_add rfl rfl rfl rfl ?_;refine W_assign rfl rfl ?_;refine W_nil ?_;refine N_block ?_;refine N_code ?_;refine C_region ?_;refine W_move rfl rfl ?_;refine W_add rfl rfl rfl rfl ?_;refine W_assign rfl rfl ?_;refine W_nil ?_;exact N_againM (wr (wr (wr (i256 + 4) + (x260.path.length : Int)) + wr (32 * (x260.ids.length : Int))), wr (i257 + 1)) _ H ⟨F255, rfl, le255, hS281⟩ ⟨rfl, rfl, rfl, rfl, trivial⟩
     ·rw [if_f hc259] at H;refine C_exit _ rfl ?_;exact N_join _ ⟨i256, H, ⟨F255, rfl, le255, hS255⟩⟩ ⟨rfl, rfl, rfl, trivial⟩
   ·rintro E w14 ⟨i15, H, F14, rfl, le14, hS14⟩;dsimp only [cellarerlaw17_ManifestSizes.k1] at H;refine C_seq ?_;obtain ⟨x16, hx16, H⟩ := bd_some H;obtain ⟨l18, hl18, H⟩ := bd_some H;obtain ⟨x20, hx20, H⟩ := bd_some H;obtain ⟨r22, hr22, H⟩ := bd_some H;refine C_join (fun E wq => E = [(2, .bool ((((decide ((r5.1.length : Int) = i15) && decide ((x16.toNat : Int) = (x0.name.length : Int))) && (l18 == x0.name)) && decide ((x20.toNat : Int) = (x0.parts.length : Int))) && r22))] ∧ ∃ F23 : Frz, F14.le F23 ∧ St [] w F F23 [.row tB 5 ur5_0 r5.1, .box g1 45 [strV x0.name, v0_0]] wq) ?_ ?_
    ·
     rcases Bool.eq_false_or_eq_true (decide ((r5.1.length : Int) = i15)) with hb24 | hb24
     ·
      rcases Bool.eq_false_or_eq_true (decide ((x16.toNat : Int) = (x0.name.length : Int))) with hb25 | hb25
      ·
       rcases Bool.eq_false_or_eq_true (l18 == x0.name) with hb26 | hb26
       ·
        rcases Bool.eq_false_or_eq_true (decide ((x20.toNat : Int) = (x0.parts.length : Int))) with hb27 | hb27
        ·have hy28 := hx16;rw [only_t hb24] at hy28;obtain ⟨hp29, hy29⟩ := ix_some hy28;obtain ⟨cs29, hr29, he29⟩ := hS14.rowAt (k := 0) rfl hy29;obtain rfl := hr29;replace he29 : El _ _ 1 _ _ := he29;have hy30 := hx20;rw [only_t (by first | rfl | (rw [hb25, hb24, hb26]; first | done | rfl) | simp [hb24, hb25, hb26, hb27])] at hy30;obtain ⟨hp31, hy31⟩ := ix_some hy30;obtain ⟨cs31, hr31, he31⟩ := hS14.rowAt (k := 0) rfl hy31;obtain rfl := hr31;replace he31 : El _ _ 1 _ _ := he31
         apply C_draw 41 [[], [0], [], [1, 2], [3], [4], [5, 4], [6, 4], [7, 4], [4], [9, 4], [10, 4], [8, 11, 4], [4, 12], [13], [14], [14], [16, 14], [17, 14], [18, 14], [15, 19, 14], [20, 14], [14], [22, 14], [21, 23, 14], [14, 24], [25], [26], [26], [28, 26], [29, 26], [30, 26], [27, 31, 26], [32, 26], [33, 26], [26], [35, 26], [36, 26], [34, 37, 26], [26, 38], [39]] [.val (ur5_0), .val (.int .i64 (r5.1.length : Int)), .val (.int .i64 i15), .val (.bool (decide ((r5.1.length : Int) = i15))), .val (.bool true), .val (ur5_0), .val (elp ur5_0 ((0 : Int).toNat * 1)), .val (.int .u8 (x16.toNat : Int)), .val (.int .i64 (x16.toNat : Int)), .val (pl g1 (0 + 0)), .val (strV x0.name), .val (.int .i64 (x0.name.length : Int)), .val (.bool (decide ((x16.toNat : Int) = (x0.name.length : Int)))), .val (.bool (decide ((x16.toNat : Int) = (x0.name.length : Int)))), .val (.bool true), .val (ur5_0), .val (pl g1 (0 + 0)), .val (strV x0.name), .val (.int .i64 (x0.name.length : Int)), .val (.int .i64 (wr (1 + (x0.name.length : Int)))), .pred (fun v wz => Src tB F14 wz v l18) stable_src, .val (strV l18), .val (pl g1 (0 + 0)), .val (strV x0.name), .val (.bool (l18 == x0.name)), .val (.bool (l18 == x0.name)), .val (.bool true), .val (ur5_0), .val (pl g1 (0 + 0)), .val (strV x0.name), .val (.int .i64 (x0.name.length : Int)), .val (.int .i64 (wr (1 + (x0.name.length : Int)))), .val (elp ur5_0 ((wr (1 + (x0.name.length : Int))).toNat * 1)), .val (.int .u8 (x20.toNat : Int)), .val (.int .i64 (x20.toNat : Int)), .val (pl g1 (0 + 1)), .val (v0_0), .val (.int .i64 (x0.parts.length : Int)), .val (.bool (decide ((x20.toNat : Int) = (x0.parts.length : Int)))), .val (.bool (decide ((x20.toNat : Int) = (x0.parts.length : Int)))), .val (.bool true)] Ty.mixed rfl rfl (by kernel_rfl) (by kernel_rfl) rfl
         ·refine ⟨?_, ?_, ?_, ?_, ?_, ?_, ?_, ?_, ?_, ?_, ?_, ?_, ?_, ?_, ?_, ?_, ?_, ?_, ?_, ?_, ?_, ?_, ?_, ?_, ?_, ?_, ?_, ?_, ?_, ?_, ?_, ?_, ?_, ?_, ?_, ?_, ?_, ?_, ?_, ?_, ?_, trivial⟩
          ·intro _ _ _ _;refine W_move rfl rfl ?_;exact Zs rfl rfl
          ·intro w33 vq33 hB33 hH33;have hS33 := hS14.below hB33;refine W_lenv rfl Try.underlying25 rfl (hS33.rowLn (k := 0) rfl) ?_;exact Zs rfl rfl
          ·intro _ _ _ _;refine W_move rfl rfl ?_;exact Zs rfl rfl
          ·intro _ _ _ _;refine W_eql rfl rfl rfl ?_;exact Zs rfl rfl
          ·intro w36 vq36 hB36 hH36;have hS36 := hS14.below hB36;refine W_move rfl rfl ?_;refine W_nil ?_;exact N_step rfl (congrArg Value.bool hb24) (Below.refl _ _)
          ·intro _ _ _ _;refine W_guard_yes rfl ?_;refine W_move rfl rfl ?_;exact Zs rfl rfl
          ·intro w38 vq38 hB38 hH38;have hS38 := hS14.below hB38;refine W_guard_yes rfl ?_;refine W_ix rfl Try.underlying25 Ty.cells5 Ty.info5 rfl rfl (he29.below hB38) hp29 rfl ?_;exact Zs rfl rfl
          ·intro w39 vq39 hB39 hH39;have hS39 := hS14.below hB39;refine W_guard_yes rfl ?_;refine W_ld1 0 rfl Ty.cell5 rfl (he29.below hB39) (by omega) rfl ?_;exact Zs rfl rfl
          ·intro _ _ _ _;refine W_guard_yes rfl ?_;refine W_conv rfl rfl Ty.some5 Try.underlying3 (u8_i64 _) ?_;exact Zs rfl rfl
          ·intro _ _ _ _;refine W_guard_yes rfl ?_;refine W_field_pl 0 rfl Ty.field45_0 rfl ?_;exact Zs rfl rfl
          ·intro w42 vq42 hB42 hH42;have hS42 := hS14.below hB42;refine W_guard_yes rfl ?_;refine W_bld1 1 rfl Ty.cell9 rfl hS42 rfl rfl ?_;exact Zs rfl rfl
          ·intro _ _ _ _;refine W_guard_yes rfl ?_;refine W_lenS rfl Try.underlying9 rfl ?_;exact Zs rfl rfl
          ·intro _ _ _ _;refine W_guard_yes rfl ?_;refine W_eql rfl rfl rfl ?_;exact Zs rfl rfl
          ·intro _ _ _ _;refine W_pick_t rfl rfl rfl ?_;exact Zs rfl rfl
          ·intro w46 vq46 hB46 hH46;have hS46 := hS14.below hB46;refine W_move rfl rfl ?_;refine W_nil ?_;exact N_step rfl (congrArg Value.bool hb25) (Below.refl _ _)
          ·intro _ _ _ _;refine W_guard_yes rfl ?_;refine W_move rfl rfl ?_;exact Zs rfl rfl
          ·intro _ _ _ _;refine W_guard_yes rfl ?_;refine W_field_pl 0 rfl Ty.field45_0 rfl ?_;exact Zs rfl rfl
          ·intro w49 vq49 hB49 hH49;have hS49 := hS14.below hB49;refine W_guard_yes rfl ?_;refine W_bld1 1 rfl Ty.cell9 rfl hS49 rfl rfl ?_;exact Zs rfl rfl
          ·intro _ _ _ _;refine W_guard_yes rfl ?_;refine W_lenS rfl Try.underlying9 rfl ?_;exact Zs rfl rfl
          ·intro _ _ _ _;refine W_guard_yes rfl ?_;refine W_add rfl rfl rfl rfl ?_;exact Zs rfl rfl
          ·intro w52 vq52 hB52 hH52;have hS52 := hS14.below hB52;refine W_guard_yes rfl ?_;have hy53 := hl18;rw [only_t (by first | rfl | (rw [hb25, hb24]; first | done | rfl) | simp [hb24, hb25, hb26, hb27])] at hy53;refine W_cutS 1 (wr (1 + (x0.name.length : Int))) rfl Try.underlying25 Ty.cells5 Ty.info5 rfl ⟨_, rfl⟩ ⟨_, rfl⟩ (hS52.rowSrc (j := 0) rfl) hy53 ?_;intro q19 hv19;refine W_nil ?_;exact N_step rfl hv19 (Below.refl _ _)
          ·intro w54 vq54 hB54 hH54;obtain ⟨hp54_20, _, _⟩ := hH54;have hS54 := hS14.below hB54;refine W_guard_yes rfl ?_;refine W_bstr rfl Try.underlying25 Try.underlying5 Try.underlying9 rfl hp54_20 ?_;exact Zs rfl rfl
          ·intro _ _ _ _;refine W_guard_yes rfl ?_;refine W_field_pl 0 rfl Ty.field45_0 rfl ?_;exact Zs rfl rfl
          ·intro w56 vq56 hB56 hH56;have hS56 := hS14.below hB56;refine W_guard_yes rfl ?_;refine W_bld1 1 rfl Ty.cell9 rfl hS56 rfl rfl ?_;exact Zs rfl rfl
          ·intro _ _ _ _;refine W_guard_yes rfl ?_;refine W_eqlS rfl rfl rfl ?_;exact Zs rfl rfl
          ·intro _ _ _ _;refine W_pick_t rfl rfl rfl ?_;exact Zs rfl rfl
          ·intro w59 vq59 hB59 hH59;have hS59 := hS14.below hB59;refine W_move rfl rfl ?_;refine W_nil ?_;exact N_step rfl (congrArg Value.bool hb26) (Below.refl _ _)
          ·intro _ _ _ _;refine W_guard_yes rfl ?_;refine W_move rfl rfl ?_;exact Zs rfl rfl
          ·intro _ _ _ _;refine W_guard_yes rfl ?_;refine W_field_pl 0 rfl Ty.field45_0 rfl ?_;exact Zs rfl rfl
          ·intro w62 vq62 hB62 hH62;have hS62 := hS14.below hB62;refine W_guard_yes rfl ?_;refine W_bld1 1 rfl Ty.cell9 rfl hS62 rfl rfl ?_;exact Zs rfl rfl
          ·intro _ _ _ _;refine W_guard_yes rfl ?_;refine W_lenS rfl Try.underlying9 rfl ?_;exact Zs rfl rfl
          ·intro _ _ _ _;refine W_guard_yes rfl ?_;refine W_add rfl rfl rfl rfl ?_;exact Zs rfl rfl
          ·intro w65 vq65 hB65 hH65;have hS65 := hS14.below hB65;refine W_guard_yes rfl ?_;refine W_ix rfl Try.underlying25 Ty.cells5 Ty.info5 rfl rfl (he31.below hB65) hp31 rfl ?_;exact Zs rfl rfl
          ·intro w66 vq66 hB66 hH66;have hS66 := hS14.below hB66;refine W_guard_yes rfl ?_;refine W_ld1 0 rfl Ty.cell5 rfl (he31.below hB66) (by omega) rfl ?_;exact Zs rfl rfl
          ·intro _ _ _ _;refine W_guard_yes rfl ?_;refine W_conv rfl rfl Ty.some5 Try.underlying3 (u8_i64 _) ?_;exact Zs rfl rfl
          ·intro _ _ _ _;refine W_guard_yes rfl ?_;refine W_field_pl 1 rfl Ty.field45_1 rfl ?_;exact Zs rfl rfl
          ·intro w69 vq69 hB69 hH69;have hS69 := hS14.below hB69;refine W_guard_yes rfl ?_;refine W_bld1 1 rfl Ty.cell43 rfl hS69 rfl rfl ?_;exact Zs rfl rfl
          ·intro _ _ _ _;refine W_guard_yes rfl ?_;refine W_lenv rfl Try.underlying43 rfl h0_0.ln ?_;exact Zs rfl rfl
          ·intro _ _ _ _;refine W_guard_yes rfl ?_;refine W_eql rfl rfl rfl ?_;exact Zs rfl rfl
          ·intro _ _ _ _;refine W_pick_t rfl rfl rfl ?_;exact Zs rfl rfl
          ·intro w73 vq73 hB73 hH73;have hS73 := hS14.below hB73;refine W_move rfl rfl ?_;refine W_nil ?_;exact N_step rfl (congrArg Value.bool hb27) (Below.refl _ _)
         intro w74 vq74 hB74 hH74;obtain ⟨_, _, _, _, _, _, _, _, _, _, _, _, _, _, _, _, _, _, _, _, hp74_20, _, _, _, _, _, _, _, _, _, _, _, _, _, _, _, _, _, _, _, _, _⟩ := hH74;have hS74 := hS14.below hB74;refine W_guard_yes rfl ?_;have hy75 := hr22;rw [only_t (by first | rfl | (rw [hb27, hb25, hb24, hb26]; first | done | rfl) | simp [hb24, hb25, hb26, hb27])] at hy75;refine W_call rfl Ty.named31 rfl (cellarerlaw17_wakes_ok hS74.agree hy75) ?_;rintro v76 w76 ⟨Fr22, rfl, hT76⟩;have hS76 := hS74.lent hT76;refine W_pick_t rfl rfl rfl ?_;refine W_assign rfl rfl ?_;refine W_nil ?_;exact N_join _ ⟨rfl, F14, (Frz.le.refl _), hS76⟩ ⟨(look_bool rfl (by first | rfl | (rw [hb27, hb25, hb24, hb26]; first | done | rfl) | simp [hb24, hb25, hb26, hb27])), trivial⟩
        ·have hy77 := hx16;rw [only_t hb24] at hy77;obtain ⟨hp78, hy78⟩ := ix_some hy77;obtain ⟨cs78, hr78, he78⟩ := hS14.rowAt (k := 0) rfl hy78;obtain rfl := hr78;replace he78 : El _ _ 1 _ _ := he78;have hy79 := hx20;rw [only_t (by first | rfl | (rw [hb25, hb24, hb26]; first | done | rfl) | simp [hb24, hb25, hb26, hb27])] at hy79;obtain ⟨hp80, hy80⟩ := ix_some hy79;obtain ⟨cs80, hr80, he80⟩ := hS14.rowAt (k := 0) rfl hy80;obtain rfl := hr80;replace he80 : El _ _ 1 _ _ := he80
         apply C_draw 41 [[], [0], [], [1, 2], [3], [4], [5, 4], [6, 4], [7, 4], [4], [9, 4], [10, 4], [8, 11, 4], [4, 12], [13], [14], [14], [16, 14], [17, 14], [18, 14], [15, 19, 14], [20, 14], [14], [22, 14], [21, 23, 14], [14, 24], [25], [26], [26], [28, 26], [29, 26], [30, 26], [27, 31, 26], [32, 26], [33, 26], [26], [35, 26], [36, 26], [34, 37, 26], [26, 38], [39]] [.val (ur5_0), .val (.int .i64 (r5.1.length : Int)), .val (.int .i64 i15), .val (.bool (decide ((r5.1.length : Int) = i15))), .val (.bool true), .val (ur5_0), .val (elp ur5_0 ((0 : Int).toNat * 1)), .val (.int .u8 (x16.toNat : Int)), .val (.int .i64 (x16.toNat : Int)), .val (pl g1 (0 + 0)), .val (strV x0.name), .val (.int .i64 (x0.name.length : Int)), .val (.bool (decide ((x16.toNat : Int) = (x0.name.length : Int)))), .val (.bool (decide ((x16.toNat : Int) = (x0.name.length : Int)))), .val (.bool true), .val (ur5_0), .val (pl g1 (0 + 0)), .val (strV x0.name), .val (.int .i64 (x0.name.length : Int)), .val (.int .i64 (wr (1 + (x0.name.length : Int)))), .pred (fun v wz => Src tB F14 wz v l18) stable_src, .val (strV l18), .val (pl g1 (0 + 0)), .val (strV x0.name), .val (.bool (l18 == x0.name)), .val (.bool (l18 == x0.name)), .val (.bool true), .val (ur5_0), .val (pl g1 (0 + 0)), .val (strV x0.name), .val (.int .i64 (x0.name.length : Int)), .val (.int .i64 (wr (1 + (x0.name.length : Int)))), .val (elp ur5_0 ((wr (1 + (x0.name.length : Int))).toNat * 1)), .val (.int .u8 (x20.toNat : Int)), .val (.int .i64 (x20.toNat : Int)), .val (pl g1 (0 + 1)), .val (v0_0), .val (.int .i64 (x0.parts.length : Int)), .val (.bool (decide ((x20.toNat : Int) = (x0.parts.length : Int)))), .val (.bool (decide ((x20.toNat : Int) = (x0.parts.length : Int)))), .val (.bool false)] Ty.mixed rfl rfl (by kernel_rfl) (by kernel_rfl) rfl
         ·refine ⟨?_, ?_, ?_, ?_, ?_, ?_, ?_, ?_, ?_, ?_, ?_, ?_, ?_, ?_, ?_, ?_, ?_, ?_, ?_, ?_, ?_, ?_, ?_, ?_, ?_, ?_, ?_, ?_, ?_, ?_, ?_, ?_, ?_, ?_, ?_, ?_, ?_, ?_, ?_, ?_, ?_, trivial⟩
          ·intro _ _ _ _;refine W_move rfl rfl ?_;exact Zs rfl rfl
          ·intro w82 vq82 hB82 hH82;have hS82 := hS14.below hB82;refine W_lenv rfl Try.underlying25 rfl (hS82.rowLn (k := 0) rfl) ?_;exact Zs rfl rfl
          ·intro _ _ _ _;refine W_move rfl rfl ?_;exact Zs rfl rfl
          ·intro _ _ _ _;refine W_eql rfl rfl rfl ?_;exact Zs rfl rfl
          ·intro w85 vq85 hB85 hH85;have hS85 := hS14.below hB85;refine W_move rfl rfl ?_;refine W_nil ?_;exact N_step rfl (congrArg Value.bool hb24) (Below.refl _ _)
          ·intro _ _ _ _;refine W_guard_yes rfl ?_;refine W_move rfl rfl ?_;exact Zs rfl rfl
          ·intro w87 vq87 hB87 hH87;have hS87 := hS14.below hB87;refine W_guard_yes rfl ?_;refine W_ix rfl Try.underlying25 Ty.cells5 Ty.info5 rfl rfl (he78.below hB87) hp78 rfl ?_;exact Zs rfl rfl
          ·intro w88 vq88 hB88 hH88;have hS88 := hS14.below hB88;refine W_guard_yes rfl ?_;refine W_ld1 0 rfl Ty.cell5 rfl (he78.below hB88) (by omega) rfl ?_;exact Zs rfl rfl
          ·intro _ _ _ _;refine W_guard_yes rfl ?_;refine W_conv rfl rfl Ty.some5 Try.underlying3 (u8_i64 _) ?_;exact Zs rfl rfl
          ·intro _ _ _ _;refine W_guard_yes rfl ?_;refine W_field_pl 0 rfl Ty.field45_0 rfl ?_;exact Zs rfl rfl
          ·intro w91 vq91 hB91 hH91;have hS91 := hS14.below hB91;refine W_guard_yes rfl ?_;refine W_bld1 1 rfl Ty.cell9 rfl hS91 rfl rfl ?_;exact Zs rfl rfl
          ·intro _ _ _ _;refine W_guard_yes rfl ?_;refine W_lenS rfl Try.underlying9 rfl ?_;exact Zs rfl rfl
          ·intro _ _ _ _;refine W_guard_yes rfl ?_;refine W_eql rfl rfl rfl ?_;exact Zs rfl rfl
          ·intro _ _ _ _;refine W_pick_t rfl rfl rfl ?_;exact Zs rfl rfl
          ·intro w95 vq95 hB95 hH95;have hS95 := hS14.below hB95;refine W_move rfl rfl ?_;refine W_nil ?_;exact N_step rfl (congrArg Value.bool hb25) (Below.refl _ _)
          ·intro _ _ _ _;refine W_guard_yes rfl ?_;refine W_move rfl rfl ?_;exact Zs rfl rfl
          ·intro _ _ _ _;refine W_guard_yes rfl ?_;refine W_field_pl 0 rfl Ty.field45_0 rfl ?_;exact Zs rfl rfl
          ·intro w98 vq98 hB98 hH98;have hS98 := hS14.below hB98;refine W_guard_yes rfl ?_;refine W_bld1 1 rfl Ty.cell9 rfl hS98 rfl rfl ?_;exact Zs rfl rfl
          ·intro _ _ _ _;refine W_guard_yes rfl ?_;refine W_lenS rfl Try.underlying9 rfl ?_;exact Zs rfl rfl
          ·intro _ _ _ _;refine W_guard_yes rfl ?_;refine W_add rfl rfl rfl rfl ?_;exact Zs rfl rfl
          ·intro w101 vq101 hB101 hH101;have hS101 := hS14.below hB101;refine W_guard_yes rfl ?_;have hy102 := hl18;rw [only_t (by first | rfl | (rw [hb25, hb24]; first | done | rfl) | simp [hb24, hb25, hb26, hb27])] at hy102;refine W_cutS 1 (wr (1 + (x0.name.length : Int))) rfl Try.underlying25 Ty.cells5 Ty.info5 rfl ⟨_, rfl⟩ ⟨_, rfl⟩ (hS101.rowSrc (j := 0) rfl) hy102 ?_;intro q19 hv19;refine W_nil ?_;exact N_step rfl hv19 (Below.refl _ _)
          ·intro w103 vq103 hB103 hH103;obtain ⟨hp103_20, _, _⟩ := hH103;have hS103 := hS14.below hB103;refine W_guard_yes rfl ?_;refine W_bstr rfl Try.underlying25 Try.underlying5 Try.underlying9 rfl hp103_20 ?_;exact Zs rfl rfl
          ·intro _ _ _ _;refine W_guard_yes rfl ?_;refine W_field_pl 0 rfl Ty.field45_0 rfl ?_;exact Zs rfl rfl
          ·intro w105 vq105 hB105 hH105;have hS105 := hS14.below hB105;refine W_guard_yes rfl ?_;refine W_bld1 1 rfl Ty.cell9 rfl hS105 rfl rfl ?_;exact Zs rfl rfl
          ·intro _ _ _ _;refine W_guard_yes rfl ?_;refine W_eqlS rfl rfl rfl ?_;exact Zs rfl rfl
          ·intro _ _ _ _;refine W_pick_t rfl rfl rfl ?_;exact Zs rfl rfl
          ·intro w108 vq108 hB108 hH108;have hS108 := hS14.below hB108;refine W_move rfl rfl ?_;refine W_nil ?_;exact N_step rfl (congrArg Value.bool hb26) (Below.refl _ _)
          ·intro _ _ _ _;refine W_guard_yes rfl ?_;refine W_move rfl rfl ?_;exact Zs rfl rfl
          ·intro _ _ _ _;refine W_guard_yes rfl ?_;refine W_field_pl 0 rfl Ty.field45_0 rfl ?_;exact Zs rfl rfl
          ·intro w111 vq111 hB111 hH111;have hS111 := hS14.below hB111;refine W_guard_yes rfl ?_;refine W_bld1 1 rfl Ty.cell9 rfl hS111 rfl rfl ?_;exact Zs rfl rfl
          ·intro _ _ _ _;refine W_guard_yes rfl ?_;refine W_lenS rfl Try.underlying9 rfl ?_;exact Zs rfl rfl
          ·intro _ _ _ _;refine W_guard_yes rfl ?_;refine W_add rfl rfl rfl rfl ?_;exact Zs rfl rfl
          ·intro w114 vq114 hB114 hH114;have hS114 := hS14.below hB114;refine W_guard_yes rfl ?_;refine W_ix rfl Try.underlying25 Ty.cells5 Ty.info5 rfl rfl (he80.below hB114) hp80 rfl ?_;exact Zs rfl rfl
          ·intro w115 vq115 hB115 hH115;have hS115 := hS14.below hB115;refine W_guard_yes rfl ?_;refine W_ld1 0 rfl Ty.cell5 rfl (he80.below hB115) (by omega) rfl ?_;exact Zs rfl rfl
          ·intro _ _ _ _;refine W_guard_yes rfl ?_;refine W_conv rfl rfl Ty.some5 Try.underlying3 (u8_i64 _) ?_;exact Zs rfl rfl
          ·intro _ _ _ _;refine W_guard_yes rfl ?_;refine W_field_pl 1 rfl Ty.field45_1 rfl ?_;exact Zs rfl rfl
          ·intro w118 vq118 hB118 hH118;have hS118 := hS14.below hB118;refine W_guard_yes rfl ?_;refine W_bld1 1 rfl Ty.cell43 rfl hS118 rfl rfl ?_;exact Zs rfl rfl
          ·intro _ _ _ _;refine W_guard_yes rfl ?_;refine W_lenv rfl Try.underlying43 rfl h0_0.ln ?_;exact Zs rfl rfl
          ·intro _ _ _ _;refine W_guard_yes rfl ?_;refine W_eql rfl rfl rfl ?_;exact Zs rfl rfl
          ·intro _ _ _ _;refine W_pick_t rfl rfl rfl ?_;exact Zs rfl rfl
          ·intro w122 vq122 hB122 hH122;have hS122 := hS14.below hB122;refine W_move rfl rfl ?_;refine W_nil ?_;exact N_step rfl (congrArg Value.bool hb27) (Below.refl _ _)
         intro w123 vq123 hB123 hH123;obtain ⟨_, _, _, _, _, _, _, _, _, _, _, _, _, _, _, _, _, _, _, _, hp123_20, _, _, _, _, _, _, _, _, _, _, _, _, _, _, _, _, _, _, _, _, _⟩ := hH123;have hS123 := hS14.below hB123;refine W_guard_no rfl rfl rfl rfl rfl ?_;refine W_pick_f rfl rfl rfl ?_;refine W_assign rfl rfl ?_;refine W_nil ?_;exact N_join _ ⟨rfl, F14, (Frz.le.refl _), hS123⟩ ⟨(look_bool rfl (by first | rfl | (rw [hb27, hb25, hb24, hb26]; first | done | rfl) | simp [hb24, hb25, hb26, hb27])), trivial⟩
       ·have hy124 := hx16;rw [only_t hb24] at hy124;obtain ⟨hp125, hy125⟩ := ix_some hy124;obtain ⟨cs125, hr125, he125⟩ := hS14.rowAt (k := 0) rfl hy125;obtain rfl := hr125;replace he125 : El _ _ 1 _ _ := he125
        apply C_draw 41 [[], [0], [], [1, 2], [3], [4], [5, 4], [6, 4], [7, 4], [4], [9, 4], [10, 4], [8, 11, 4], [4, 12], [13], [14], [14], [16, 14], [17, 14], [18, 14], [15, 19, 14], [20, 14], [14], [22, 14], [21, 23, 14], [14, 24], [25], [26], [26], [28, 26], [29, 26], [30, 26], [27, 31, 26], [32, 26], [33, 26], [26], [35, 26], [36, 26], [34, 37, 26], [26, 38], [39]] [.val (ur5_0), .val (.int .i64 (r5.1.length : Int)), .val (.int .i64 i15), .val (.bool (decide ((r5.1.length : Int) = i15))), .val (.bool true), .val (ur5_0), .val (elp ur5_0 ((0 : Int).toNat * 1)), .val (.int .u8 (x16.toNat : Int)), .val (.int .i64 (x16.toNat : Int)), .val (pl g1 (0 + 0)), .val (strV x0.name), .val (.int .i64 (x0.name.length : Int)), .val (.bool (decide ((x16.toNat : Int) = (x0.name.length : Int)))), .val (.bool (decide ((x16.toNat : Int) = (x0.name.length : Int)))), .val (.bool true), .val (ur5_0), .val (pl g1 (0 + 0)), .val (strV x0.name), .val (.int .i64 (x0.name.length : Int)), .val (.int .i64 (wr (1 + (x0.name.length : Int)))), .pred (fun v wz => Src tB F14 wz v l18) stable_src, .val (strV l18), .val (pl g1 (0 + 0)), .val (strV x0.name), .val (.bool (l18 == x0.name)), .val (.bool (l18 == x0.name)), .val (.bool false), .val undef, .val undef, .val undef, .val undef, .val undef, .val undef, .val undef, .val undef, .val undef, .val undef, .val undef, .val undef, .val (.bool false), .val (.bool false)] Ty.mixed rfl rfl (by kernel_rfl) (by kernel_rfl) rfl
        ·refine ⟨?_, ?_, ?_, ?_, ?_, ?_, ?_, ?_, ?_, ?_, ?_, ?_, ?_, ?_, ?_, ?_, ?_, ?_, ?_, ?_, ?_, ?_, ?_, ?_, ?_, ?_, ?_, ?_, ?_, ?_, ?_, ?_, ?_, ?_, ?_, ?_, ?_, ?_, ?_, ?_, ?_, trivial⟩
         ·intro _ _ _ _;refine W_move rfl rfl ?_;exact Zs rfl rfl
         ·intro w127 vq127 hB127 hH127;have hS127 := hS14.below hB127;refine W_lenv rfl Try.underlying25 rfl (hS127.rowLn (k := 0) rfl) ?_;exact Zs rfl rfl
         ·intro _ _ _ _;refine W_move rfl rfl ?_;exact Zs rfl rfl
         ·intro _ _ _ _;refine W_eql rfl rfl rfl ?_;exact Zs rfl rfl
         ·intro w130 vq130 hB130 hH130;have hS130 := hS14.below hB130;refine W_move rfl rfl ?_;refine W_nil ?_;exact N_step rfl (congrArg Value.bool hb24) (Below.refl _ _)
         ·intro _ _ _ _;refine W_guard_yes rfl ?_;refine W_move rfl rfl ?_;exact Zs rfl rfl
         ·intro w132 vq132 hB132 hH132;have hS132 := hS14.below hB132;refine W_guard_yes rfl ?_;refine W_ix rfl Try.underlying25 Ty.cells5 Ty.info5 rfl rfl (he125.below hB132) hp125 rfl ?_;exact Zs rfl rfl
         ·intro w133 vq133 hB133 hH133;have hS133 := hS14.below hB133;refine W_guard_yes rfl ?_;refine W_ld1 0 rfl Ty.cell5 rfl (he125.below hB133) (by omega) rfl ?_;exact Zs rfl rfl
         ·intro _ _ _ _;refine W_guard_yes rfl ?_;refine W_conv rfl rfl Ty.some5 Try.underlying3 (u8_i64 _) ?_;exact Zs rfl rfl
         ·intro _ _ _ _;refine W_guard_yes rfl ?_;refine W_field_pl 0 rfl Ty.field45_0 rfl ?_;exact Zs rfl rfl
         ·intro w136 vq136 hB136 hH136;have hS136 := hS14.below hB136;refine W_guard_yes rfl ?_;refine W_bld1 1 rfl Ty.cell9 rfl hS136 rfl rfl ?_;exact Zs rfl rfl
         ·intro _ _ _ _;refine W_guard_yes rfl ?_;refine W_lenS rfl Try.underlying9 rfl ?_;exact Zs rfl rfl
         ·intro _ _ _ _;refine W_guard_yes rfl ?_;refine W_eql rfl rfl rfl ?_;exact Zs rfl rfl
         ·intro _ _ _ _;refine W_pick_t rfl rfl rfl ?_;exact Zs rfl rfl
         ·intro w140 vq140 hB140 hH140;have hS140 := hS14.below hB140;refine W_move rfl rfl ?_;refine W_nil ?_;exact N_step rfl (congrArg Value.bool hb25) (Below.refl _ _)
         ·intro _ _ _ _;refine W_guard_yes rfl ?_;refine W_move rfl rfl ?_;exact Zs rfl rfl
         ·intro _ _ _ _;refine W_guard_yes rfl ?_;refine W_field_pl 0 rfl Ty.field45_0 rfl ?_;exact Zs rfl rfl
         ·intro w143 vq143 hB143 hH143;have hS143 := hS14.below hB143;refine W_guard_yes rfl ?_;refine W_bld1 1 rfl Ty.cell9 rfl hS143 rfl rfl ?_;exact Zs rfl rfl
         ·intro _ _ _ _;refine W_guard_yes rfl ?_;refine W_lenS rfl Try.underlying9 rfl ?_;exact Zs rfl rfl
         ·intro _ _ _ _;refine W_guard_yes rfl ?_;refine W_add rfl rfl rfl rfl ?_;exact Zs rfl rfl
         ·intro w146 vq146 hB146 hH146;have hS146 := hS14.below hB146;refine W_guard_yes rfl ?_;have hy147 := hl18;rw [only_t (by first | rfl | (rw [hb25, hb24]; first | done | rfl) | simp [hb24, hb25, hb26])] at hy147;refine W_cutS 1 (wr (1 + (x0.name.length : Int))) rfl Try.underlying25 Ty.cells5 Ty.info5 rfl ⟨_, rfl⟩ ⟨_, rfl⟩ (hS146.rowSrc (j := 0) rfl) hy147 ?_;intro q19 hv19;refine W_nil ?_;exact N_step rfl hv19 (Below.refl _ _)
         ·intro w148 vq148 hB148 hH148;obtain ⟨hp148_20, _, _⟩ := hH148;have hS148 := hS14.below hB148;refine W_guard_yes rfl ?_;refine W_bstr rfl Try.underlying25 Try.underlying5 Try.underlying9 rfl hp148_20 ?_;exact Zs rfl rfl
         ·intro _ _ _ _;refine W_guard_yes rfl ?_;refine W_field_pl 0 rfl Ty.field45_0 rfl ?_;exact Zs rfl rfl
         ·intro w150 vq150 hB150 hH150;have hS150 := hS14.below hB150;refine W_guard_yes rfl ?_;refine W_bld1 1 rfl Ty.cell9 rfl hS150 rfl rfl ?_;exact Zs rfl rfl
         ·intro _ _ _ _;refine W_guard_yes rfl ?_;refine W_eqlS rfl rfl rfl ?_;exact Zs rfl rfl
         ·intro _ _ _ _;refine W_pick_t rfl rfl rfl ?_;exact Zs rfl rfl
         ·intro w153 vq153 hB153 hH153;have hS153 := hS14.below hB153;refine W_move rfl rfl ?_;refine W_nil ?_;exact N_step rfl (congrArg Value.bool hb26) (Below.refl _ _)
         ·intro _ _ _ _;refine W_guard_no rfl rfl rfl rfl rfl ?_;exact Zs rfl rfl
         ·intro _ _ _ _;refine W_guard_no rfl rfl rfl rfl rfl ?_;exact Zs rfl rfl
         ·intro _ _ _ _;refine W_guard_no rfl rfl rfl rfl rfl ?_;exact Zs rfl rfl
         ·intro _ _ _ _;refine W_guard_no rfl rfl rfl rfl rfl ?_;exact Zs rfl rfl
         ·intro _ _ _ _;refine W_guard_no rfl rfl rfl rfl rfl ?_;exact Zs rfl rfl
         ·intro _ _ _ _;refine W_guard_no rfl rfl rfl rfl rfl ?_;exact Zs rfl rfl
         ·intro _ _ _ _;refine W_guard_no rfl rfl rfl rfl rfl ?_;exact Zs rfl rfl
         ·intro _ _ _ _;refine W_guard_no rfl rfl rfl rfl rfl ?_;exact Zs rfl rfl
         ·intro _ _ _ _;refine W_guard_no rfl rfl rfl rfl rfl ?_;exact Zs rfl rfl
         ·intro _ _ _ _;refine W_guard_no rfl rfl rfl rfl rfl ?_;exact Zs rfl rfl
         ·intro _ _ _ _;refine W_guard_no rfl rfl rfl rfl rfl ?_;exact Zs rfl rfl
         ·intro _ _ _ _;refine W_guard_no rfl rfl rfl rfl rfl ?_;exact Zs rfl rfl
         ·intro _ _ _ _;refine W_pick_f rfl rfl rfl ?_;exact Zs rfl rfl
         ·intro _ _ _ _;refine W_move rfl rfl ?_;exact Zs rfl rfl
        intro w168 vq168 hB168 hH168;obtain ⟨_, _, _, _, _, _, _, _, _, _, _, _, _, _, _, _, _, _, _, _, hp168_20, _, _, _, _, _, _, _, _, _, _, _, _, _, _, _, _, _, _, _, _, _⟩ := hH168;have hS168 := hS14.below hB168;refine W_guard_no rfl rfl rfl rfl rfl ?_;refine W_pick_f rfl rfl rfl ?_;refine W_assign rfl rfl ?_;refine W_nil ?_;exact N_join _ ⟨rfl, F14, (Frz.le.refl _), hS168⟩ ⟨(look_bool rfl (by first | rfl | (rw [hb25, hb24, hb26]; first | done | rfl) | simp [hb24, hb25, hb26])), trivial⟩
      ·have hy169 := hx16;rw [only_t hb24] at hy169;obtain ⟨hp170, hy170⟩ := ix_some hy169;obtain ⟨cs170, hr170, he170⟩ := hS14.rowAt (k := 0) rfl hy170;obtain rfl := hr170;replace he170 : El _ _ 1 _ _ := he170
       apply C_draw 41 [[], [0], [], [1, 2], [3], [4], [5, 4], [6, 4], [7, 4], [4], [9, 4], [10, 4], [8, 11, 4], [4, 12], [13], [14], [14], [16, 14], [17, 14], [18, 14], [15, 19, 14], [20, 14], [14], [22, 14], [21, 23, 14], [14, 24], [25], [26], [26], [28, 26], [29, 26], [30, 26], [27, 31, 26], [32, 26], [33, 26], [26], [35, 26], [36, 26], [34, 37, 26], [26, 38], [39]] [.val (ur5_0), .val (.int .i64 (r5.1.length : Int)), .val (.int .i64 i15), .val (.bool (decide ((r5.1.length : Int) = i15))), .val (.bool true), .val (ur5_0), .val (elp ur5_0 ((0 : Int).toNat * 1)), .val (.int .u8 (x16.toNat : Int)), .val (.int .i64 (x16.toNat : Int)), .val (pl g1 (0 + 0)), .val (strV x0.name), .val (.int .i64 (x0.name.length : Int)), .val (.bool (decide ((x16.toNat : Int) = (x0.name.length : Int)))), .val (.bool (decide ((x16.toNat : Int) = (x0.name.length : Int)))), .val (.bool false), .val undef, .val undef, .val undef, .val undef, .val undef, .val undef, .val undef, .val undef, .val undef, .val undef, .val (.bool false), .val (.bool false), .val undef, .val undef, .val undef, .val undef, .val undef, .val undef, .val undef, .val undef, .val undef, .val undef, .val undef, .val undef, .val (.bool false), .val (.bool false)] Ty.mixed rfl rfl (by kernel_rfl) (by kernel_rfl) rfl
       ·refine ⟨?_, ?_, ?_, ?_, ?_, ?_, ?_, ?_, ?_, ?_, ?_, ?_, ?_, ?_, ?_, ?_, ?_, ?_, ?_, ?_, ?_, ?_, ?_, ?_, ?_, ?_, ?_, ?_, ?_, ?_, ?_, ?_, ?_, ?_, ?_, ?_, ?_, ?_, ?_, ?_, ?_, trivial⟩
        ·intro _ _ _ _;refine W_move rfl rfl ?_;exact Zs rfl rfl
        ·intro w172 vq172 hB172 hH172;have hS172 := hS14.below hB172;refine W_lenv rfl Try.underlying25 rfl (hS172.rowLn (k := 0) rfl) ?_;exact Zs rfl rfl
        ·intro _ _ _ _;refine W_move rfl rfl ?_;exact Zs rfl rfl
        ·intro _ _ _ _;refine W_eql rfl rfl rfl ?_;exact Zs rfl rfl
        ·intro w175 vq175 hB175 hH175;have hS175 := hS14.below hB175;refine W_move rfl rfl ?_;refine W_nil ?_;exact N_step rfl (congrArg Value.bool hb24) (Below.refl _ _)
        ·intro _ _ _ _;refine W_guard_yes rfl ?_;refine W_move rfl rfl ?_;exact Zs rfl rfl
        ·intro w177 vq177 hB177 hH177;have hS177 := hS14.below hB177;refine W_guard_yes rfl ?_;refine W_ix rfl Try.underlying25 Ty.cells5 Ty.info5 rfl rfl (he170.below hB177) hp170 rfl ?_;exact Zs rfl rfl
        ·intro w178 vq178 hB178 hH178;have hS178 := hS14.below hB178;refine W_guard_yes rfl ?_;refine W_ld1 0 rfl Ty.cell5 rfl (he170.below hB178) (by omega) rfl ?_;exact Zs rfl rfl
        ·intro _ _ _ _;refine W_guard_yes rfl ?_;refine W_conv rfl rfl Ty.some5 Try.underlying3 (u8_i64 _) ?_;exact Zs rfl rfl
        ·intro _ _ _ _;refine W_guard_yes rfl ?_;refine W_field_pl 0 rfl Ty.field45_0 rfl ?_;exact Zs rfl rfl
        ·intro w181 vq181 hB181 hH181;have hS181 := hS14.below hB181;refine W_guard_yes rfl ?_;refine W_bld1 1 rfl Ty.cell9 rfl hS181 rfl rfl ?_;exact Zs rfl rfl
        ·intro _ _ _ _;refine W_guard_yes rfl ?_;refine W_lenS rfl Try.underlying9 rfl ?_;exact Zs rfl rfl
        ·intro _ _ _ _;refine W_guard_yes rfl ?_;refine W_eql rfl rfl rfl ?_;exact Zs rfl rfl
        ·intro _ _ _ _;refine W_pick_t rfl rfl rfl ?_;exact Zs rfl rfl
        ·intro w185 vq185 hB185 hH185;have hS185 := hS14.below hB185;refine W_move rfl rfl ?_;refine W_nil ?_;exact N_step rfl (congrArg Value.bool hb25) (Below.refl _ _)
        ·intro _ _ _ _;refine W_guard_no rfl rfl rfl rfl rfl ?_;exact Zs rfl rfl
        ·intro _ _ _ _;refine W_guard_no rfl rfl rfl rfl rfl ?_;exact Zs rfl rfl
        ·intro _ _ _ _;refine W_guard_no rfl rfl rfl rfl rfl ?_;exact Zs rfl rfl
        ·intro _ _ _ _;refine W_guard_no rfl rfl rfl rfl rfl ?_;exact Zs rfl rfl
        ·intro _ _ _ _;refine W_guard_no rfl rfl rfl rfl rfl ?_;exact Zs rfl rfl
        ·intro _ _ _ _;refine W_guard_no rfl rfl rfl rfl rfl ?_;exact Zs rfl rfl
        ·intro _ _ _ _;refine W_guard_no rfl rfl rfl rfl rfl ?_;exact Zs rfl rfl
        ·intro _ _ _ _;refine W_guard_no rfl rfl rfl rfl rfl ?_;exact Zs rfl rfl
        ·intro _ _ _ _;refine W_guard_no rfl rfl rfl rfl rfl ?_;exact Zs rfl rfl
        ·intro _ _ _ _;refine W_guard_no rfl rfl rfl rfl rfl ?_;exact Zs rfl rfl
        ·intro _ _ _ _;refine W_pick_f rfl rfl rfl ?_;exact Zs rfl rfl
        ·intro _ _ _ _;refine W_move rfl rfl ?_;exact Zs rfl rfl
        ·intro _ _ _ _;refine W_guard_no rfl rfl rfl rfl rfl ?_;exact Zs rfl rfl
        ·intro _ _ _ _;refine W_guard_no rfl rfl rfl rfl rfl ?_;exact Zs rfl rfl
        ·intro _ _ _ _;refine W_guard_no rfl rfl rfl rfl rfl ?_;exact Zs rfl rfl
        ·intro _ _ _ _;refine W_guard_no rfl rfl rfl rfl rfl ?_;exact Zs rfl rfl
        ·intro _ _ _ _;refine W_guard_no rfl rfl rfl rfl rfl ?_;exact Zs rfl rfl
        ·intro _ _ _ _;refine W_guard_no rfl rfl rfl rfl rfl ?_;exact Zs rfl rfl
        ·intro _ _ _ _;refine W_guard_no rfl rfl rfl rfl rfl ?_;exact Zs rfl rfl
        ·intro _ _ _ _;refine W_guard_no rfl rfl rfl rfl rfl ?_;exact Zs rfl rfl
        ·intro _ _ _ _;refine W_guard_no rfl rfl rfl rfl rfl ?_;exact Zs rfl rfl
        ·intro _ _ _ _;refine W_guard_no rfl rfl rfl rfl rfl ?_;exact Zs rfl rfl
        ·intro _ _ _ _;refine W_guard_no rfl rfl rfl rfl rfl ?_;exact Zs rfl rfl
        ·intro _ _ _ _;refine W_guard_no rfl rfl rfl rfl rfl ?_;exact Zs rfl rfl
        ·intro _ _ _ _;refine W_pick_f rfl rfl rfl ?_;exact Zs rfl rfl
        ·intro _ _ _ _;refine W_move rfl rfl ?_;exact Zs rfl rfl
       intro w212 vq212 hB212 hH212;have hS212 := hS14.below hB212;refine W_guard_no rfl rfl rfl rfl rfl ?_;refine W_pick_f rfl rfl rfl ?_;refine W_assign rfl rfl ?_;refine W_nil ?_;exact N_join _ ⟨rfl, F14, (Frz.le.refl _), hS212⟩ ⟨(look_bool rfl (by first | rfl | (rw [hb25, hb24]; first | done | rfl) | simp [hb24, hb25])), trivial⟩
     ·
      apply C_draw 41 [[], [0], [], [1, 2], [3], [4], [5, 4], [6, 4], [7, 4], [4], [9, 4], [10, 4], [8, 11, 4], [4, 12], [13], [14], [14], [16, 14], [17, 14], [18, 14], [15, 19, 14], [20, 14], [14], [22, 14], [21, 23, 14], [14, 24], [25], [26], [26], [28, 26], [29, 26], [30, 26], [27, 31, 26], [32, 26], [33, 26], [26], [35, 26], [36, 26], [34, 37, 26], [26, 38], [39]] [.val (ur5_0), .val (.int .i64 (r5.1.length : Int)), .val (.int .i64 i15), .val (.bool (decide ((r5.1.length : Int) = i15))), .val (.bool false), .val undef, .val undef, .val undef, .val undef, .val undef, .val undef, .val undef, .val undef, .val (.bool false), .val (.bool false), .val undef, .val undef, .val undef, .val undef, .val undef, .val undef, .val undef, .val undef, .val undef, .val undef, .val (.bool false), .val (.bool false), .val undef, .val undef, .val undef, .val undef, .val undef, .val undef, .val undef, .val undef, .val undef, .val undef, .val undef, .val undef, .val (.bool false), .val (.bool false)] Ty.mixed rfl rfl (by kernel_rfl) (by kernel_rfl) rfl
      ·refine ⟨?_, ?_, ?_, ?_, ?_, ?_, ?_, ?_, ?_, ?_, ?_, ?_, ?_, ?_, ?_, ?_, ?_, ?_, ?_, ?_, ?_, ?_, ?_, ?_, ?_, ?_, ?_, ?_, ?_, ?_, ?_, ?_, ?_, ?_, ?_, ?_, ?_, ?_, ?_, ?_, ?_, trivial⟩
       ·intro _ _ _ _;refine W_move rfl rfl ?_;exact Zs rfl rfl
       ·intro w214 vq214 hB214 hH214;have hS214 := hS14.below hB214;refine W_lenv rfl Try.underlying25 rfl (hS214.rowLn (k := 0) rfl) ?_;exact Zs rfl rfl
       ·intro _ _ _ _;refine W_move rfl rfl ?_;exact Zs rfl rfl
       ·intro _ _ _ _;refine W_eql rfl rfl rfl ?_;exact Zs rfl rfl
       ·intro w217 vq217 hB217 hH217;have hS217 := hS14.below hB217;refine W_move rfl rfl ?_;refine W_nil ?_;exact N_step rfl (congrArg Value.bool hb24) (Below.refl _ _)
       ·intro _ _ _ _;refine W_guard_no rfl rfl rfl rfl rfl ?_;exact Zs rfl rfl
       ·intro _ _ _ _;refine W_guard_no rfl rfl rfl rfl rfl ?_;exact Zs rfl rfl
       ·intro _ _ _ _;refine W_guard_no rfl rfl rfl rfl rfl ?_;exact Zs rfl rfl
       ·intro _ _ _ _;refine W_guard_no rfl rfl rfl rfl rfl ?_;exact Zs rfl rfl
       ·intro _ _ _ _;refine W_guard_no rfl rfl rfl rfl rfl ?_;exact Zs rfl rfl
       ·intro _ _ _ _;refine W_guard_no rfl rfl rfl rfl rfl ?_;exact Zs rfl rfl
       ·intro _ _ _ _;refine W_guard_no rfl rfl rfl rfl rfl ?_;exact Zs rfl rfl
       ·intro _ _ _ _;refine W_guard_no rfl rfl rfl rfl rfl ?_;exact Zs rfl rfl
       ·intro _ _ _ _;refine W_pick_f rfl rfl rfl ?_;exact Zs rfl rfl
       ·intro _ _ _ _;refine W_move rfl rfl ?_;exact Zs rfl rfl
       ·intro _ _ _ _;refine W_guard_no rfl rfl rfl rfl rfl ?_;exact Zs rfl rfl
       ·intro _ _ _ _;refine W_guard_no rfl rfl rfl rfl rfl ?_;exact Zs rfl rfl
       ·intro _ _ _ _;refine W_guard_no rfl rfl rfl rfl rfl ?_;exact Zs rfl rfl
       ·intro _ _ _ _;refine W_guard_no rfl rfl rfl rfl rfl ?_;exact Zs rfl rfl
       ·intro _ _ _ _;refine W_guard_no rfl rfl rfl rfl rfl ?_;exact Zs rfl rfl
       ·intro _ _ _ _;refine W_guard_no rfl rfl rfl rfl rfl ?_;exact Zs rfl rfl
       ·intro _ _ _ _;refine W_guard_no rfl rfl rfl rfl rfl ?_;exact Zs rfl rfl
       ·intro _ _ _ _;refine W_guard_no rfl rfl rfl rfl rfl ?_;exact Zs rfl rfl
       ·intro _ _ _ _;refine W_guard_no rfl rfl rfl rfl rfl ?_;exact Zs rfl rfl
       ·intro _ _ _ _;refine W_guard_no rfl rfl rfl rfl rfl ?_;exact Zs rfl rfl
       ·intro _ _ _ _;refine W_pick_f rfl rfl rfl ?_;exact Zs rfl rfl
       ·intro _ _ _ _;refine W_move rfl rfl ?_;exact Zs rfl rfl
       ·intro _ _ _ _;refine W_guard_no rfl rfl rfl rfl rfl ?_;exact Zs rfl rfl
       ·intro _ _ _ _;refine W_guard_no rfl rfl rfl rfl rfl ?_;exact Zs rfl rfl
       ·intro _ _ _ _;refine W_guard_no rfl rfl rfl rfl rfl ?_;exact Zs rfl rfl
       ·intro _ _ _ _;refine W_guard_no rfl rfl rfl rfl rfl ?_;exact Zs rfl rfl
       ·intro _ _ _ _;refine W_guard_no rfl rfl rfl rfl rfl ?_;exact Zs rfl rfl
       ·intro _ _ _ _;refine W_guard_no rfl rfl rfl rfl rfl ?_;exact Zs rfl rfl
       ·intro _ _ _ _;refine W_guard_no rfl rfl rfl rfl rfl ?_;exact Zs rfl rfl
       ·intro _ _ _ _;refine W_guard_no rfl rfl rfl rfl rfl ?_;exact Zs rfl rfl
       ·intro _ _ _ _;refine W_guard_no rfl rfl rfl rfl rfl ?_;exact Zs rfl rfl
       ·intro _ _ _ _;refine W_guard_no rfl rfl rfl rfl rfl ?_;exact Zs rfl rfl
       ·intro _ _ _ _;refine W_guard_no rfl rfl rfl rfl rfl ?_;exact Zs rfl rfl
       ·intro _ _ _ _;refine W_guard_no rfl rfl rfl rfl rfl ?_;exact Zs rfl rfl
       ·intro _ _ _ _;refine W_pick_f rfl rfl rfl ?_;exact Zs rfl rfl
       ·intro _ _ _ _;refine W_move rfl rfl ?_;exact Zs rfl rfl
      intro w254 vq254 hB254 hH254;have hS254 := hS14.below hB254;refine W_guard_no rfl rfl rfl rfl rfl ?_;refine W_pick_f rfl rfl rfl ?_;refine W_assign rfl rfl ?_;refine W_nil ?_;exact N_join _ ⟨rfl, F14, (Frz.le.refl _), hS254⟩ ⟨(look_bool rfl (by first | rfl | (rw [hb24]; first | done | rfl) | simp [hb24])), trivial⟩
    rintro E w23 ⟨rfl, F23, le23, hS23⟩;refine N_code ?_;obtain rfl := Option.some.inj H;refine C_ret rfl rfl ?_;exact ⟨F23, rfl, hS23.pick [] (by decide)⟩

end
end Go.Wk.Lf
