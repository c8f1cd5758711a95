import Derived.Test.YtoanecpanckkeaaLfS
namespace Go.Wk.Lf
open Go.Proofs Go.RowKit
set_option linter.unusedVariables false
set_option linter.unusedSimpArgs false
noncomputable section

def cellarerref01_Name.k1 (x0 : List UInt8) : Option Bool :=
  some (decide (1 ≤ (x0.length : Int)) && decide ((x0.length : Int) ≤ 20))


def cellarerref01_Name.l2 (x0 : List UInt8) (rec6 : Int → Option Bool) : Int → Option Bool
  | i5 =>
    if decide (i5 < (x0.length : Int)) then
      bd (ix x0 i5) fun x8 =>
      bd (only (!decide ((x8.toNat : Int) < 33)) (ix x0 i5) 0) fun x9 =>
      if (decide ((x8.toNat : Int) < 33) || decide (126 < (x9.toNat : Int))) then
        some false
      else
        rec6 (wr (i5 + 1))
    else
      cellarerref01_Name.k1 x0

def cellarerref01_Name (x0 : List UInt8) : Option Bool :=
  loop (cellarerref01_Name.l2 x0) 0

theorem cellarerref01_Name_ok {F : Frz} {w : World} {x0 : List UInt8} {r : Bool} (hA : Agree F w.heap) (H : cellarerref01_Name x0 = some r) : Ret Try.prog 25 #[strV x0] w fun v w' => ∃ (F' : Frz), v = .bool r ∧ St [] w F F' [] w' := by
 refine Ret_of (args := [strV x0]) Try.func25 rfl rfl ?_;change C _ _ _ _ [(0, strV x0)] _;have hS := St.entry hA;dsimp only [cellarerref01_Name] at H;refine C_seq ?_;refine C_region ?_;refine W_assign rfl rfl ?_;refine W_nil ?_;refine N_code ?_;refine C_seq_join (fun E wq => cellarerref01_Name.k1 x0 = some r ∧ ∃ (F1 : Frz), E = [(0, strV x0)] ∧ F.le F1 ∧ St [] w F F1 [] wq) ?_ ?_
 ·refine C_seq ?_;refine C_region ?_;refine W_assign rfl rfl ?_;refine W_nil ?_;refine N_code ?_;refine C_block ?_;refine C_loopM (fun (s : Int) E wq => ∃ (F4 : Frz), E = [(0, strV x0), (3, .int .i64 s)] ∧ F.le F4 ∧ St [] w F F4 [] wq) H ?_ ?_
  ·exact ⟨_, ⟨F, rfl, (Frz.le.refl _), hS⟩, ⟨rfl, rfl, trivial⟩⟩
  ·rintro rec6 i5 E w4 hI H;(try dsimp only at hI);obtain ⟨F4, rfl, le4, hS4⟩ := hI;dsimp only [cellarerref01_Name.l2] at H;refine C_seq ?_;refine C_seq ?_;refine C_region ?_;refine W_move rfl rfl ?_;refine W_move rfl rfl ?_;refine W_lenS rfl Try.underlying9 rfl ?_;refine W_lss rfl rfl rfl ?_;refine W_nil ?_;refine N_code ?_;refine C_cond rfl (fun hc7 => ?_) (fun hc7 => ?_)
   ·rw [if_t hc7] at H;refine C_skip ?_;refine N_code ?_;refine C_seq ?_;refine C_block ?_;refine C_seq ?_;obtain ⟨x8, hx8, H⟩ := bd_some H;obtain ⟨x9, hx9, H⟩ := bd_some H;refine C_join (fun E wq => E = [(0, strV x0), (3, .int .i64 i5), (19, .bool (decide ((x8.toNat : Int) < 33) || decide (126 < (x9.toNat : Int))))] ∧ ∃ F10 : Frz, F4.le F10 ∧ St [] w F F10 [] wq) ?_ ?_
    ·
     rcases Bool.eq_false_or_eq_true (decide ((x8.toNat : Int) < 33)) with hb11 | hb11
     ·refine C_region ?_;refine W_move rfl rfl ?_;refine W_move rfl rfl ?_;obtain ⟨hp12, hy12⟩ := ix_some hx8;refine W_ixS rfl Try.underlying9 rfl rfl hp12 rfl hy12 ?_;refine W_lss rfl rfl rfl ?_;refine W_move rfl rfl ?_;refine W_known (t := 14) true rfl hb11 ?_;refine W_guard_no rfl rfl rfl rfl rfl ?_;refine W_guard_no rfl rfl rfl rfl rfl ?_;refine W_guard_no rfl rfl rfl rfl rfl ?_;refine W_guard_no rfl rfl rfl rfl rfl ?_;refine W_pick_t rfl rfl rfl ?_;refine W_nil ?_;exact N_join _ ⟨rfl, F4, (Frz.le.refl _), hS4⟩ ⟨rfl, rfl, (look_bool rfl (by first | rfl | (rw [hb11]; first | done | rfl) | simp [hb11])), trivial⟩
     ·refine C_region ?_;refine W_move rfl rfl ?_;refine W_move rfl rfl ?_;obtain ⟨hp13, hy13⟩ := ix_some hx8;refine W_ixS rfl Try.underlying9 rfl rfl hp13 rfl hy13 ?_;refine W_lss rfl rfl rfl ?_;refine W_move rfl rfl ?_;refine W_known (t := 14) false rfl hb11 ?_;refine W_guard_yes rfl ?_;refine W_move rfl rfl ?_;refine W_guard_yes rfl ?_;refine W_move rfl rfl ?_;refine W_guard_yes rfl ?_;have hy15 := hx9;rw [only_t (by first | rfl | (rw [hb11]; first | done | rfl) | simp [hb11])] at hy15;obtain ⟨hp14, hy14⟩ := ix_some hy15;refine W_ixS rfl Try.underlying9 rfl rfl hp14 rfl hy14 ?_;refine W_guard_yes rfl ?_;refine W_gtr rfl rfl rfl ?_;refine W_pick_f rfl rfl rfl ?_;refine W_nil ?_;exact N_join _ ⟨rfl, F4, (Frz.le.refl _), hS4⟩ ⟨rfl, rfl, (look_bool rfl (by first | rfl | (rw [hb11]; first | done | rfl) | simp [hb11])), trivial⟩
    rintro E w10 ⟨rfl, F10, le10, hS10⟩;refine N_code ?_;refine C_cond rfl (fun hc16 => ?_) (fun hc16 => ?_)
    ·rw [if_t hc16] at H;refine C_seq ?_;refine C_region ?_;refine W_assign rfl rfl ?_;refine W_nil ?_;refine N_code ?_;obtain rfl := Option.some.inj H;refine C_ret rfl rfl ?_;exact ⟨F10, rfl, hS10⟩
    ·rw [if_f hc16] at H;refine C_skip ?_;refine N_block ?_;refine N_code ?_;refine C_region ?_;refine W_move rfl rfl ?_;refine W_add rfl rfl rfl rfl ?_;refine W_assign rfl rfl ?_;refine W_nil ?_;exact N_againM (wr (i5 + 1)) _ H ⟨F10, rfl, (le4.trans le10), hS10⟩ ⟨rfl, rfl, trivial⟩
   ·rw [if_f hc7] at H;refine C_exit _ rfl ?_;exact N_join _ ⟨H, ⟨F4, rfl, le4, hS4⟩⟩ ⟨rfl, trivial⟩
 ·rintro E w1 ⟨H, F1, rfl, le1, hS1⟩;dsimp only [cellarerref01_Name.k1] at H;refine C_seq ?_;refine C_join (fun E wq => E = [(2, .bool (decide (1 ≤ (x0.length : Int)) && decide ((x0.length : Int) ≤ 20)))] ∧ ∃ F2 : Frz, F1.le F2 ∧ St [] w F F2 [] wq) ?_ ?_
  ·
   rcases Bool.eq_false_or_eq_true (decide (1 ≤ (x0.length : Int))) with hb3 | hb3
   ·refine C_region ?_;refine W_move rfl rfl ?_;refine W_lenS rfl Try.underlying9 rfl ?_;refine W_geq rfl rfl rfl ?_;refine W_move rfl rfl ?_;refine W_known (t := 23) true rfl hb3 ?_;refine W_guard_yes rfl ?_;refine W_move rfl rfl ?_;refine W_guard_yes rfl ?_;refine W_lenS rfl Try.underlying9 rfl ?_;refine W_guard_yes rfl ?_;refine W_leq rfl rfl rfl ?_;refine W_pick_t rfl rfl rfl ?_;refine W_assign rfl rfl ?_;refine W_nil ?_;exact N_join _ ⟨rfl, F1, (Frz.le.refl _), hS1⟩ ⟨(look_bool rfl (by first | rfl | (rw [hb3]; first | done | rfl) | simp [hb3])), trivial⟩
   ·refine C_region ?_;refine W_move rfl rfl ?_;refine W_lenS rfl Try.underlying9 rfl ?_;refine W_geq rfl rfl rfl ?_;refine W_move rfl rfl ?_;refine W_known (t := 23) false rfl hb3 ?_;refine W_guard_no rfl rfl rfl rfl rfl ?_;refine W_guard_no rfl rfl rfl rfl rfl ?_;refine W_guard_no rfl rfl rfl rfl rfl ?_;refine W_pick_f rfl rfl rfl ?_;refine W_assign rfl rfl ?_;refine W_nil ?_;exact N_join _ ⟨rfl, F1, (Frz.le.refl _), hS1⟩ ⟨(look_bool rfl (by first | rfl | (rw [hb3]; first | done | rfl) | simp [hb3])), trivial⟩
  rintro E w2 ⟨rfl, F2, le2, hS2⟩;refine N_code ?_;obtain rfl := Option.some.inj H;refine C_ret rfl rfl ?_;exact ⟨F2, rfl, hS2⟩

def cellarerref14_Manifest.k1 : Option Bool :=
  some true


def cellarerref14_Manifest.l2 (x0 : Manifest) (rec11 : Int → Option Bool) : Int → Option Bool
  | i10 =>
    if decide (i10 < (x0.parts.length : Int)) then
      bd (ix x0.parts i10) fun x13 =>
      bd (cellarerref01_Name x13.path) fun r18 =>
      bd (only ((!(!r18)) && decide (0 < i10)) (ix x0.parts (wr (i10 - 1))) (Part.mk [] 0 [])) fun x19 =>
      if ((((((!r18) || (decide (0 < i10) && (sLt x13.path x19.path || x13.path == x19.path))) || decide (x13.size < 0)) || decide (200 < x13.size)) || decide (25 < (x13.ids.length : Int))) || (decide ((x13.ids.length : Int) = 0) != decide (x13.size = 0))) then
        some false
      else
        rec11 (wr (i10 + 1))
    else
      cellarerref14_Manifest.k1

def cellarerref14_Manifest (x0 : Manifest) : Option Bool :=
  bd (cellarerref01_Name x0.name) fun r2 =>
  if ((!r2) || decide (6 < (x0.parts.length : Int))) then
    some false
  else
    loop (cellarerref14_Manifest.l2 x0) 0

set_option maxHeartbeats 2000000 in
theorem cellarerref14_Manifest_ok {F : Frz} {w : World} {x0 : Manifest} {r : Bool} {v0_0 : Value} (hA : Agree F w.heap) (h0_0 : SlF Part.t F v0_0 x0.parts) (H : cellarerref14_Manifest x0 = some r) : Ret Try.prog 49 #[.agg (Manifest.cells x0 v0_0).toArray] w fun v w' => ∃ (F' : Frz), v = .bool r ∧ St [] w F F' [] w' := by
 refine Ret_of (args := [.agg (Manifest.cells x0 v0_0).toArray]) Try.func49 rfl rfl ?_;change C _ _ _ _ [(0, .agg (Manifest.cells x0 v0_0).toArray)] _;have hS := St.entry hA;dsimp only [cellarerref14_Manifest] at H;refine C_seq ?_;refine C_region ?_;refine W_bx (cs := [strV x0.name, v0_0]) rfl rfl rfl hS ?_;intro g1 w1 hS1;refine W_assign rfl rfl ?_;refine W_nil ?_;refine N_code ?_;refine C_seq ?_;refine C_seq ?_;obtain ⟨r2, hr2, H⟩ := bd_some H;refine C_join (fun E wq => E = [(1, pl g1 0), (14, .bool ((!r2) || decide (6 < (x0.parts.length : Int))))] ∧ ∃ F3 : Frz, F.le F3 ∧ St [] w F F3 [.box g1 45 [strV x0.name, v0_0]] wq) ?_ ?_
 ·
  rcases Bool.eq_false_or_eq_true (!r2) with hb4 | hb4
  ·refine C_region ?_;refine W_field_pl 0 rfl Ty.field45_0 rfl ?_;refine W_bld1 0 rfl Ty.cell9 rfl hS1 rfl rfl ?_;refine W_call rfl Ty.named25 rfl (cellarerref01_Name_ok hS1.agree hr2) ?_;rintro v5 w5 ⟨Fr2, rfl, hT5⟩;have hS5 := hS1.lent hT5;refine W_not rfl rfl ?_;refine W_move rfl rfl ?_;refine W_known (t := 9) true rfl hb4 ?_;refine W_guard_no rfl rfl rfl rfl rfl ?_;refine W_guard_no rfl rfl rfl rfl rfl ?_;refine W_guard_no rfl rfl rfl rfl rfl ?_;refine W_guard_no rfl rfl rfl rfl rfl ?_;refine W_pick_t rfl rfl rfl ?_;refine W_nil ?_;exact N_join _ ⟨rfl, F, (Frz.le.refl _), hS5⟩ ⟨rfl, (look_bool rfl (by first | rfl | (rw [hb4]; first | done | rfl) | simp [hb4])), trivial⟩
  ·refine C_region ?_;refine W_field_pl 0 rfl Ty.field45_0 rfl ?_;refine W_bld1 0 rfl Ty.cell9 rfl hS1 rfl rfl ?_;refine W_call rfl Ty.named25 rfl (cellarerref01_Name_ok hS1.agree hr2) ?_;rintro v6 w6 ⟨Fr2, rfl, hT6⟩;have hS6 := hS1.lent hT6;refine W_not rfl rfl ?_;refine W_move rfl rfl ?_;refine W_known (t := 9) false rfl hb4 ?_;refine W_guard_yes rfl ?_;refine W_field_pl 1 rfl Ty.field45_1 rfl ?_;refine W_guard_yes rfl ?_;refine W_bld1 0 rfl Ty.cell43 rfl hS6 rfl rfl ?_;refine W_guard_yes rfl ?_;refine W_lenv rfl Try.underlying43 rfl h0_0.ln ?_;refine W_guard_yes rfl ?_;refine W_gtr rfl rfl rfl ?_;refine W_pick_f rfl rfl rfl ?_;refine W_nil ?_;exact N_join _ ⟨rfl, F, (Frz.le.refl _), hS6⟩ ⟨rfl, (look_bool rfl (by first | rfl | (rw [hb4]; first | done | rfl) | simp [hb4])), trivial⟩
 rintro E w3 ⟨rfl, F3, le3, hS3⟩;refine N_code ?_;refine C_cond rfl (fun hc7 => ?_) (fun hc7 => ?_)
 ·rw [if_t hc7] at H;refine C_seq ?_;refine C_region ?_;refine W_assign rfl rfl ?_;refine W_nil ?_;refine N_code ?_;obtain rfl := Option.some.inj H;refine C_ret rfl rfl ?_;exact ⟨F3, rfl, hS3.pick [] (by decide)⟩
 ·rw [if_f hc7] at H;refine C_skip ?_;refine N_code ?_;refine C_seq_join (fun E wq => cellarerref14_Manifest.k1 = some r ∧ ∃ (F8 : Frz), E = [] ∧ F3.le F8 ∧ St [] w F F8 [] wq) ?_ ?_
  ·refine C_seq ?_;refine C_region ?_;refine W_assign rfl rfl ?_;refine W_nil ?_;refine N_code ?_;refine C_block ?_;refine C_loopM (fun (s : Int) E wq => ∃ (F9 : Frz), E = [(1, pl g1 0), (3, .int .i64 s)] ∧ F3.le F9 ∧ St [] w F F9 [.box g1 45 [strV x0.name, v0_0]] wq) H ?_ ?_
   ·exact ⟨_, ⟨F3, rfl, (Frz.le.refl _), hS3⟩, ⟨rfl, rfl, trivial⟩⟩
   ·rintro rec11 i10 E w9 hI H;(try dsimp only at hI);obtain ⟨F9, rfl, le9, hS9⟩ := hI;dsimp only [cellarerref14_Manifest.l2] at H;refine C_seq ?_;refine C_seq ?_;refine C_region ?_;refine W_move rfl rfl ?_;refine W_field_pl 1 rfl Ty.field45_1 rfl ?_;refine W_bld1 0 rfl Ty.cell43 rfl hS9 rfl rfl ?_;refine W_lenv rfl Try.underlying43 rfl h0_0.ln ?_;refine W_lss rfl rfl rfl ?_;refine W_nil ?_;refine N_code ?_;refine C_cond rfl (fun hc12 => ?_) (fun hc12 => ?_)
    ·rw [if_t hc12] at H;refine C_skip ?_;refine N_code ?_;refine C_seq ?_;refine C_block ?_;refine C_seq ?_;obtain ⟨x13, hx13, H⟩ := bd_some H;refine C_region ?_;refine W_field_pl 1 rfl Ty.field45_1 rfl ?_;refine W_bld1 0 rfl Ty.cell43 rfl hS9 rfl rfl ?_;refine W_move rfl rfl ?_;obtain ⟨hp16, hy16⟩ := ix_some hx13;obtain ⟨cs16, hr16, he16⟩ := (h0_0.mono (le3.trans le9)).at_ hy16;obtain ⟨ue14_0, rfl, hue14_0⟩ := hr16;replace he16 : Elf _ _ 3 _ _ := he16;refine W_ix rfl Try.underlying43 Ty.cells51 Ty.info51 rfl rfl (he16.el hS9.agree) hp16 rfl ?_;refine W_ldg 0 ((Part.cells x13 ue14_0)) rfl Ty.agg51 Ty.size51 rfl (he16.el hS9.agree) (by omega) (fun q u h => sub_at (post := []) rfl h) ?_;refine W_alc (cs := [strV [], .int .i64 0, .slice none 0 0]) rfl Ty.zero51 rfl hS9 ?_;intro g15 w15 hS15;refine W_bst (c := [strV x13.path, .int .i64 x13.size, ue14_0]) 0 ([strV x13.path, .int .i64 x13.size, ue14_0]) rfl rfl hS15 rfl rfl Ty.size51 (fun y hy => Part.t.one (F := F9) (x := x13) ⟨ue14_0, rfl, hue14_0⟩ y hy) (Nat.le_of_ble_eq_true rfl) rfl ?_;intro w17 hS17;refine W_nil ?_;refine N_code ?_;refine C_seq ?_;obtain ⟨r18, hr18, H⟩ := bd_some H;obtain ⟨x19, hx19, H⟩ := bd_some H;refine C_join (fun E wq => E = [(1, pl g1 0), (3, .int .i64 i10), (72, .bool ((((((!r18) || (decide (0 < i10) && (sLt x13.path x19.path || x13.path == x19.path))) || decide (x13.size < 0)) || decide (200 < x13.size)) || decide (25 < (x13.ids.length : Int))) || (decide ((x13.ids.length : Int) = 0) != decide (x13.size = 0))))] ∧ ∃ F21 : Frz, F9.le F21 ∧ St [] w F F21 [.box g15 51 [strV x13.path, .int .i64 x13.size, ue14_0], .box g1 45 [strV x0.name, v0_0]] wq) ?_ ?_
     ·
      rcases Bool.eq_false_or_eq_true (!r18) with hb22 | hb22
      ·
       apply C_draw 45 [[], [0], [1], [2], [3], [4], [5, 4], [6, 4], [7], [8, 7], [7], [10, 7], [7], [12, 7], [11, 13, 7], [14, 7], [15, 7], [9, 16, 7], [7, 17, 4], [4, 18], [19], [20], [21, 20], [22, 20], [20, 23], [24], [25], [26, 25], [27, 25], [25, 28], [29], [30], [31, 30], [32, 30], [33, 30], [30, 34], [35], [36], [37, 36], [38, 36], [39, 36], [36], [41, 36], [42, 36], [40, 43, 36]] [.val (pl g15 (0 + 0)), .val (strV x13.path), .val (.bool r18), .val (.bool (!r18)), .val (.bool true), .val undef, .val undef, .val undef, .val undef, .val undef, .val undef, .val undef, .val undef, .val undef, .val undef, .val undef, .val undef, .val undef, .val undef, .val (.bool true), .val (.bool true), .val undef, .val undef, .val undef, .val (.bool true), .val (.bool true), .val undef, .val undef, .val undef, .val (.bool true), .val (.bool true), .val undef, .val undef, .val undef, .val undef, .val (.bool true), .val (.bool true), .val undef, .val undef, .val undef, .val undef, .val undef, .val undef, .val undef, .val undef] Ty.mixed rfl rfl (by kernel_rfl) (by kernel_rfl) rfl
       ·refine ⟨?_, ?_, ?_, ?_, ?_, ?_, ?_, ?_, ?_, ?_, ?_, ?_, ?_, ?_, ?_, ?_, ?_, ?_, ?_, ?_, ?_, ?_, ?_, ?_, ?_, ?_, ?_, ?_, ?_, ?_, ?_, ?_, ?_, ?_, ?_, ?_, ?_, ?_, ?_, ?_, ?_, ?_, ?_, ?_, ?_, trivial⟩
        ·intro _ _ _ _;refine W_field_pl 0 rfl Ty.field51_0 rfl ?_;exact Zs rfl rfl
        ·intro w24 vq24 hB24 hH24;have hS24 := hS17.below hB24;refine W_bld1 0 rfl Ty.cell9 rfl hS24 rfl rfl ?_;exact Zs rfl rfl
        ·intro w25 vq25 hB25 hH25;have hS25 := hS17.below hB25;refine W_call rfl Ty.named25 rfl (cellarerref01_Name_ok hS25.agree hr18) ?_;rintro v26 w26 ⟨Fr18, rfl, hT26⟩;have hS26 := hS25.lent hT26;refine W_nil ?_;exact N_step rfl rfl hT26.below0
        ·intro _ _ _ _;refine W_not rfl rfl ?_;exact Zs rfl rfl
        ·intro w28 vq28 hB28 hH28;have hS28 := hS17.below hB28;refine W_move rfl rfl ?_;refine W_nil ?_;exact N_step rfl (congrArg Value.bool hb22) (Below.refl _ _)
        ·intro _ _ _ _;refine W_guard_no rfl rfl rfl rfl rfl ?_;exact Zs rfl rfl
        ·intro _ _ _ _;refine W_guard_no rfl rfl rfl rfl rfl ?_;exact Zs rfl rfl
        ·intro _ _ _ _;refine W_guard_no rfl rfl rfl rfl rfl ?_;exact Zs rfl rfl
        ·intro _ _ _ _;refine W_guard_un rfl rfl rfl rfl ?_;exact Zs rfl rfl
        ·intro _ _ _ _;refine W_guard_un rfl rfl rfl rfl ?_;exact Zs rfl rfl
        ·intro _ _ _ _;refine W_guard_un rfl rfl rfl rfl ?_;exact Zs rfl rfl
        ·intro _ _ _ _;refine W_guard_un rfl rfl rfl rfl ?_;exact Zs rfl rfl
        ·intro _ _ _ _;refine W_guard_un rfl rfl rfl rfl ?_;exact Zs rfl rfl
        ·intro _ _ _ _;refine W_guard_un rfl rfl rfl rfl ?_;exact Zs rfl rfl
        ·intro _ _ _ _;refine W_guard_un rfl rfl rfl rfl ?_;exact Zs rfl rfl
        ·intro _ _ _ _;refine W_guard_un rfl rfl rfl rfl ?_;exact Zs rfl rfl
        ·intro _ _ _ _;refine W_guard_un rfl rfl rfl rfl ?_;exact Zs rfl rfl
        ·intro _ _ _ _;refine W_guard_un rfl rfl rfl rfl ?_;exact Zs rfl rfl
        ·intro _ _ _ _;refine W_guard_no rfl rfl rfl rfl rfl ?_;exact Zs rfl rfl
        ·intro _ _ _ _;refine W_pick_t rfl rfl rfl ?_;exact Zs rfl rfl
        ·intro _ _ _ _;refine W_move rfl rfl ?_;exact Zs rfl rfl
        ·intro _ _ _ _;refine W_guard_no rfl rfl rfl rfl rfl ?_;exact Zs rfl rfl
        ·intro _ _ _ _;refine W_guard_no rfl rfl rfl rfl rfl ?_;exact Zs rfl rfl
        ·intro _ _ _ _;refine W_guard_no rfl rfl rfl rfl rfl ?_;exact Zs rfl rfl
        ·intro _ _ _ _;refine W_pick_t rfl rfl rfl ?_;exact Zs rfl rfl
        ·intro _ _ _ _;refine W_move rfl rfl ?_;exact Zs rfl rfl
        ·intro _ _ _ _;refine W_guard_no rfl rfl rfl rfl rfl ?_;exact Zs rfl rfl
        ·intro _ _ _ _;refine W_guard_no rfl rfl rfl rfl rfl ?_;exact Zs rfl rfl
        ·intro _ _ _ _;refine W_guard_no rfl rfl rfl rfl rfl ?_;exact Zs rfl rfl
        ·intro _ _ _ _;refine W_pick_t rfl rfl rfl ?_;exact Zs rfl rfl
        ·intro _ _ _ _;refine W_move rfl rfl ?_;exact Zs rfl rfl
        ·intro _ _ _ _;refine W_guard_no rfl rfl rfl rfl rfl ?_;exact Zs rfl rfl
        ·intro _ _ _ _;refine W_guard_no rfl rfl rfl rfl rfl ?_;exact Zs rfl rfl
        ·intro _ _ _ _;refine W_guard_no rfl rfl rfl rfl rfl ?_;exact Zs rfl rfl
        ·intro _ _ _ _;refine W_guard_no rfl rfl rfl rfl rfl ?_;exact Zs rfl rfl
        ·intro _ _ _ _;refine W_pick_t rfl rfl rfl ?_;exact Zs rfl rfl
        ·intro _ _ _ _;refine W_move rfl rfl ?_;exact Zs rfl rfl
        ·intro _ _ _ _;refine W_guard_no rfl rfl rfl rfl rfl ?_;exact Zs rfl rfl
        ·intro _ _ _ _;refine W_guard_no rfl rfl rfl rfl rfl ?_;exact Zs rfl rfl
        ·intro _ _ _ _;refine W_guard_no rfl rfl rfl rfl rfl ?_;exact Zs rfl rfl
        ·intro _ _ _ _;refine W_guard_no rfl rfl rfl rfl rfl ?_;exact Zs rfl rfl
        ·intro _ _ _ _;refine W_guard_no rfl rfl rfl rfl rfl ?_;exact Zs rfl rfl
        ·intro _ _ _ _;refine W_guard_no rfl rfl rfl rfl rfl ?_;exact Zs rfl rfl
        ·intro _ _ _ _;refine W_guard_no rfl rfl rfl rfl rfl ?_;exact Zs rfl rfl
        ·intro _ _ _ _;refine W_guard_no rfl rfl rfl rfl rfl ?_;exact Zs rfl rfl
       intro w69 vq69 hB69 hH69;have hS69 := hS17.below hB69;refine W_pick_t rfl rfl rfl ?_;refine W_nil ?_;exact N_join _ ⟨rfl, F9, (Frz.le.refl _), hS69⟩ ⟨rfl, rfl, (look_bool rfl (by first | rfl | (rw [hb22]; first | done | rfl) | simp [hb22])), trivial⟩
      ·
       rcases Bool.eq_false_or_eq_true (decide (0 < i10)) with hb70 | hb70
       ·
        rcases Bool.eq_false_or_eq_true (sLt x13.path x19.path || x13.path == x19.path) with hb71 | hb71
        ·have hy72 := hx19;rw [only_t (by first | rfl | (rw [hb70, hb22]; first | done | rfl) | simp [hb22, hb70, hb71])] at hy72;obtain ⟨hp73, hy73⟩ := ix_some hy72;obtain ⟨cs73, hr73, he73⟩ := (h0_0.mono (le3.trans le9)).at_ hy73;obtain ⟨ue20_0, rfl, hue20_0⟩ := hr73;replace he73 : Elf _ _ 3 _ _ := he73
         apply C_draw 45 [[], [0], [1], [2], [3], [4], [5, 4], [6, 4], [7], [8, 7], [7], [10, 7], [7], [12, 7], [11, 13, 7], [14, 7], [15, 7], [9, 16, 7], [7, 17, 4], [4, 18], [19], [20], [21, 20], [22, 20], [20, 23], [24], [25], [26, 25], [27, 25], [25, 28], [29], [30], [31, 30], [32, 30], [33, 30], [30, 34], [35], [36], [37, 36], [38, 36], [39, 36], [36], [41, 36], [42, 36], [40, 43, 36]] [.val (pl g15 (0 + 0)), .val (strV x13.path), .val (.bool r18), .val (.bool (!r18)), .val (.bool false), .val (.int .i64 i10), .val (.bool (decide (0 < i10))), .val (.bool true), .val (pl g15 (0 + 0)), .val (strV x13.path), .val (pl g1 (0 + 1)), .val (v0_0), .val (.int .i64 i10), .val (.int .i64 (wr (i10 - 1))), .val (elp v0_0 ((wr (i10 - 1)).toNat * 3)), .val (elp v0_0 (((wr (i10 - 1)).toNat * 3) + 0)), .val (strV x19.path), .val (.bool (sLt x13.path x19.path || x13.path == x19.path)), .val (.bool (sLt x13.path x19.path || x13.path == x19.path)), .val (.bool (sLt x13.path x19.path || x13.path == x19.path)), .val (.bool true), .val undef, .val undef, .val undef, .val (.bool true), .val (.bool true), .val undef, .val undef, .val undef, .val (.bool true), .val (.bool true), .val undef, .val undef, .val undef, .val undef, .val (.bool true), .val (.bool true), .val undef, .val undef, .val undef, .val undef, .val undef, .val undef, .val undef, .val undef] Ty.mixed rfl rfl (by kernel_rfl) (by kernel_rfl) rfl
         ·refine ⟨?_, ?_, ?_, ?_, ?_, ?_, ?_, ?_, ?_, ?_, ?_, ?_, ?_, ?_, ?_, ?_, ?_, ?_, ?_, ?_, ?_, ?_, ?_, ?_, ?_, ?_, ?_, ?_, ?_, ?_, ?_, ?_, ?_, ?_, ?_, ?_, ?_, ?_, ?_, ?_, ?_, ?_, ?_, ?_, ?_, trivial⟩
          ·intro _ _ _ _;refine W_field_pl 0 rfl Ty.field51_0 rfl ?_;exact Zs rfl rfl
          ·intro w75 vq75 hB75 hH75;have hS75 := hS17.below hB75;refine W_bld1 0 rfl Ty.cell9 rfl hS75 rfl rfl ?_;exact Zs rfl rfl
          ·intro w76 vq76 hB76 hH76;have hS76 := hS17.below hB76;refine W_call rfl Ty.named25 rfl (cellarerref01_Name_ok hS76.agree hr18) ?_;rintro v77 w77 ⟨Fr18, rfl, hT77⟩;have hS77 := hS76.lent hT77;refine W_nil ?_;exact N_step rfl rfl hT77.below0
          ·intro _ _ _ _;refine W_not rfl rfl ?_;exact Zs rfl rfl
          ·intro w79 vq79 hB79 hH79;have hS79 := hS17.below hB79;refine W_move rfl rfl ?_;refine W_nil ?_;exact N_step rfl (congrArg Value.bool hb22) (Below.refl _ _)
          ·intro _ _ _ _;refine W_guard_yes rfl ?_;refine W_move rfl rfl ?_;exact Zs rfl rfl
          ·intro _ _ _ _;refine W_guard_yes rfl ?_;refine W_gtr rfl rfl rfl ?_;exact Zs rfl rfl
          ·intro w82 vq82 hB82 hH82;have hS82 := hS17.below hB82;refine W_guard_yes rfl ?_;refine W_move rfl rfl ?_;refine W_nil ?_;exact N_step rfl (congrArg Value.bool hb70) (Below.refl _ _)
          ·intro _ _ _ _;refine W_guard_yes rfl ?_;refine W_field_pl 0 rfl Ty.field51_0 rfl ?_;exact Zs rfl rfl
          ·intro w84 vq84 hB84 hH84;have hS84 := hS17.below hB84;refine W_guard_yes rfl ?_;refine W_bld1 0 rfl Ty.cell9 rfl hS84 rfl rfl ?_;exact Zs rfl rfl
          ·intro _ _ _ _;refine W_guard_yes rfl ?_;refine W_field_pl 1 rfl Ty.field45_1 rfl ?_;exact Zs rfl rfl
          ·intro w86 vq86 hB86 hH86;have hS86 := hS17.below hB86;refine W_guard_yes rfl ?_;refine W_bld1 1 rfl Ty.cell43 rfl hS86 rfl rfl ?_;exact Zs rfl rfl
          ·intro _ _ _ _;refine W_guard_yes rfl ?_;refine W_move rfl rfl ?_;exact Zs rfl rfl
          ·intro _ _ _ _;refine W_guard_yes rfl ?_;refine W_subi rfl rfl rfl rfl ?_;exact Zs rfl rfl
          ·intro w89 vq89 hB89 hH89;have hS89 := hS17.below hB89;refine W_guard_yes rfl ?_;refine W_ix rfl Try.underlying43 Ty.cells51 Ty.info51 rfl rfl (he73.el hS89.agree) hp73 rfl ?_;exact Zs rfl rfl
          ·intro w90 vq90 hB90 hH90;have hS90 := hS17.below hB90;refine W_guard_yes rfl ?_;refine W_fld 0 rfl Ty.field51_0 rfl (he73.el hS90.agree) ?_;exact Zs rfl rfl
          ·intro w91 vq91 hB91 hH91;have hS91 := hS17.below hB91;refine W_guard_yes rfl ?_;refine W_ld1 0 rfl Ty.cell9 rfl (he73.el hS91.agree) (by omega) rfl ?_;exact Zs rfl rfl
          ·intro _ _ _ _;refine W_guard_yes rfl ?_;refine W_leqS rfl rfl rfl ?_;exact Zs rfl rfl
          ·intro _ _ _ _;refine W_guard_yes rfl ?_;refine W_pick_t rfl rfl rfl ?_;exact Zs rfl rfl
          ·intro _ _ _ _;refine W_pick_f rfl rfl rfl ?_;exact Zs rfl rfl
          ·intro w95 vq95 hB95 hH95;have hS95 := hS17.below hB95;refine W_move rfl rfl ?_;refine W_nil ?_;exact N_step rfl (congrArg Value.bool hb71) (Below.refl _ _)
          ·intro _ _ _ _;refine W_guard_no rfl rfl rfl rfl rfl ?_;exact Zs rfl rfl
          ·intro _ _ _ _;refine W_guard_no rfl rfl rfl rfl rfl ?_;exact Zs rfl rfl
          ·intro _ _ _ _;refine W_guard_no rfl rfl rfl rfl rfl ?_;exact Zs rfl rfl
          ·intro _ _ _ _;refine W_pick_t rfl rfl rfl ?_;exact Zs rfl rfl
          ·intro _ _ _ _;refine W_move rfl rfl ?_;exact Zs rfl rfl
          ·intro _ _ _ _;refine W_guard_no rfl rfl rfl rfl rfl ?_;exact Zs rfl rfl
          ·intro _ _ _ _;refine W_guard_no rfl rfl rfl rfl rfl ?_;exact Zs rfl rfl
          ·intro _ _ _ _;refine W_guard_no rfl rfl rfl rfl rfl ?_;exact Zs rfl rfl
          ·intro _ _ _ _;refine W_pick_t rfl rfl rfl ?_;exact Zs rfl rfl
          ·intro _ _ _ _;refine W_move rfl rfl ?_;exact Zs rfl rfl
          ·intro _ _ _ _;refine W_guard_no rfl rfl rfl rfl rfl ?_;exact Zs rfl rfl
          ·intro _ _ _ _;refine W_guard_no rfl rfl rfl rfl rfl ?_;exact Zs rfl rfl
          ·intro _ _ _ _;refine W_guard_no rfl rfl rfl rfl rfl ?_;exact Zs rfl rfl
          ·intro _ _ _ _;refine W_guard_no rfl rfl rfl rfl rfl ?_;exact Zs rfl rfl
          ·intro _ _ _ _;refine W_pick_t rfl rfl rfl ?_;exact Zs rfl rfl
          ·intro _ _ _ _;refine W_move rfl rfl ?_;exact Zs rfl rfl
          ·intro _ _ _ _;refine W_guard_no rfl rfl rfl rfl rfl ?_;exact Zs rfl rfl
          ·intro _ _ _ _;refine W_guard_no rfl rfl rfl rfl rfl ?_;exact Zs rfl rfl
          ·intro _ _ _ _;refine W_guard_no rfl rfl rfl rfl rfl ?_;exact Zs rfl rfl
          ·intro _ _ _ _;refine W_guard_no rfl rfl rfl rfl rfl ?_;exact Zs rfl rfl
          ·intro _ _ _ _;refine W_guard_no rfl rfl rfl rfl rfl ?_;exact Zs rfl rfl
          ·intro _ _ _ _;refine W_guard_no rfl rfl rfl rfl rfl ?_;exact Zs rfl rfl
          ·intro _ _ _ _;refine W_guard_no rfl rfl rfl rfl rfl ?_;exact Zs rfl rfl
          ·intro _ _ _ _;refine W_guard_no rfl rfl rfl rfl rfl ?_;exact Zs rfl rfl
         intro w120 vq120 hB120 hH120;have hS120 := hS17.below hB120;refine W_pick_t rfl rfl rfl ?_;refine W_nil ?_;exact N_join _ ⟨rfl, F9, (Frz.le.refl _), hS120⟩ ⟨rfl, rfl, (look_bool rfl (by first | rfl | (rw [hb71, hb70, hb22]; first | done | rfl) | simp [hb22, hb70, hb71])), trivial⟩
        ·
         rcases Bool.eq_false_or_eq_true (decide (x13.size < 0)) with hb121 | hb121
         ·have hy122 := hx19;rw [only_t (by first | rfl | (rw [hb70, hb22]; first | done | rfl) | simp [hb22, hb70, hb71, hb121])] at hy122;obtain ⟨hp123, hy123⟩ := ix_some hy122;obtain ⟨cs123, hr123, he123⟩ := (h0_0.mono (le3.trans le9)).at_ hy123;obtain ⟨ue20_0, rfl, hue20_0⟩ := hr123;replace he123 : Elf _ _ 3 _ _ := he123
          apply C_draw 45 [[], [0], [1], [2], [3], [4], [5, 4], [6, 4], [7], [8, 7], [7], [10, 7], [7], [12, 7], [11, 13, 7], [14, 7], [15, 7], [9, 16, 7], [7, 17, 4], [4, 18], [19], [20], [21, 20], [22, 20], [20, 23], [24], [25], [26, 25], [27, 25], [25, 28], [29], [30], [31, 30], [32, 30], [33, 30], [30, 34], [35], [36], [37, 36], [38, 36], [39, 36], [36], [41, 36], [42, 36], [40, 43, 36]] [.val (pl g15 (0 + 0)), .val (strV x13.path), .val (.bool r18), .val (.bool (!r18)), .val (.bool false), .val (.int .i64 i10), .val (.bool (decide (0 < i10))), .val (.bool true), .val (pl g15 (0 + 0)), .val (strV x13.path), .val (pl g1 (0 + 1)), .val (v0_0), .val (.int .i64 i10), .val (.int .i64 (wr (i10 - 1))), .val (elp v0_0 ((wr (i10 - 1)).toNat * 3)), .val (elp v0_0 (((wr (i10 - 1)).toNat * 3) + 0)), .val (strV x19.path), .val (.bool (sLt x13.path x19.path || x13.path == x19.path)), .val (.bool (sLt x13.path x19.path || x13.path == x19.path)), .val (.bool (sLt x13.path x19.path || x13.path == x19.path)), .val (.bool false), .val (pl g15 (0 + 1)), .val (.int .i64 x13.size), .val (.bool (decide (x13.size < 0))), .val (.bool (decide (x13.size < 0))), .val (.bool true), .val undef, .val undef, .val undef, .val (.bool true), .val (.bool true), .val undef, .val undef, .val undef, .val undef, .val (.bool true), .val (.bool true), .val undef, .val undef, .val undef, .val undef, .val undef, .val undef, .val undef, .val undef] Ty.mixed rfl rfl (by kernel_rfl) (by kernel_rfl) rfl
          ·refine ⟨?_, ?_, ?_, ?_, ?_, ?_, ?_, ?_, ?_, ?_, ?_, ?_, ?_, ?_, ?_, ?_, ?_, ?_, ?_, ?_, ?_, ?_, ?_, ?_, ?_, ?_, ?_, ?_, ?_, ?_, ?_, ?_, ?_, ?_, ?_, ?_, ?_, ?_, ?_, ?_, ?_, ?_, ?_, ?_, ?_, trivial⟩
           ·intro _ _ _ _;refine W_field_pl 0 rfl Ty.field51_0 rfl ?_;exact Zs rfl rfl
           ·intro w125 vq125 hB125 hH125;have hS125 := hS17.below hB125;refine W_bld1 0 rfl Ty.cell9 rfl hS125 rfl rfl ?_;exact Zs rfl rfl
           ·intro w126 vq126 hB126 hH126;have hS126 := hS17.below hB126;refine W_call rfl Ty.named25 rfl (cellarerref01_Name_ok hS126.agree hr18) ?_;rintro v127 w127 ⟨Fr18, rfl, hT127⟩;have hS127 := hS126.lent hT127;refine W_nil ?_;exact N_step rfl rfl hT127.below0
           ·intro _ _ _ _;refine W_not rfl rfl ?_;exact Zs rfl rfl
           ·intro w129 vq129 hB129 hH129;have hS129 := hS17.below hB129;refine W_move rfl rfl ?_;refine W_nil ?_;exact N_step rfl (congrArg Value.bool hb22) (Below.refl _ _)
           ·intro _ _ _ _;refine W_guard_yes rfl ?_;refine W_move rfl rfl ?_;exact Zs rfl rfl
           ·intro _ _ _ _;refine W_guard_yes rfl ?_;refine W_gtr rfl rfl rfl ?_;exact Zs rfl rfl
           ·intro w132 vq132 hB132 hH132;have hS132 := hS17.below hB132;refine W_guard_yes rfl ?_;refine W_move rfl rfl ?_;refine W_nil ?_;exact N_step rfl (congrArg Value.bool hb70) (Below.refl _ _)
           ·intro _ _ _ _;refine W_guard_yes rfl ?_;refine W_field_pl 0 rfl Ty.field51_0 rfl ?_;exact Zs rfl rfl
           ·intro w134 vq134 hB134 hH134;have hS134 := hS17.below hB134;refine W_guard_yes rfl ?_;refine W_bld1 0 rfl Ty.cell9 rfl hS134 rfl rfl ?_;exact Zs rfl rfl
           ·intro _ _ _ _;refine W_guard_yes rfl ?_;refine W_field_pl 1 rfl Ty.field45_1 rfl ?_;exact Zs rfl rfl
           ·intro w136 vq136 hB136 hH136;have hS136 := hS17.below hB136;refine W_guard_yes rfl ?_;refine W_bld1 1 rfl Ty.cell43 rfl hS136 rfl rfl ?_;exact Zs rfl rfl
           ·intro _ _ _ _;refine W_guard_yes rfl ?_;refine W_move rfl rfl ?_;exact Zs rfl rfl
           ·intro _ _ _ _;refine W_guard_yes rfl ?_;refine W_subi rfl rfl rfl rfl ?_;exact Zs rfl rfl
           ·intro w139 vq139 hB139 hH139;have hS139 := hS17.below hB139;refine W_guard_yes rfl ?_;refine W_ix rfl Try.underlying43 Ty.cells51 Ty.info51 rfl rfl (he123.el hS139.agree) hp123 rfl ?_;exact Zs rfl rfl
           ·intro w140 vq140 hB140 hH140;have hS140 := hS17.below hB140;refine W_guard_yes rfl ?_;refine W_fld 0 rfl Ty.field51_0 rfl (he123.el hS140.agree) ?_;exact Zs rfl rfl
           ·intro w141 vq141 hB141 hH141;have hS141 := hS17.below hB141;refine W_guard_yes rfl ?_;refine W_ld1 0 rfl Ty.cell9 rfl (he123.el hS141.agree) (by omega) rfl ?_;exact Zs rfl rfl
           ·intro _ _ _ _;refine W_guard_yes rfl ?_;refine W_leqS rfl rfl rfl ?_;exact Zs rfl rfl
           ·intro _ _ _ _;refine W_guard_yes rfl ?_;refine W_pick_t rfl rfl rfl ?_;exact Zs rfl rfl
           ·intro _ _ _ _;refine W_pick_f rfl rfl rfl ?_;exact Zs rfl rfl
           ·intro w145 vq145 hB145 hH145;have hS145 := hS17.below hB145;refine W_move rfl rfl ?_;refine W_nil ?_;exact N_step rfl (congrArg Value.bool hb71) (Below.refl _ _)
           ·intro _ _ _ _;refine W_guard_yes rfl ?_;refine W_field_pl 1 rfl Ty.field51_1 rfl ?_;exact Zs rfl rfl
           ·intro w147 vq147 hB147 hH147;have hS147 := hS17.below hB147;refine W_guard_yes rfl ?_;refine W_bld1 0 rfl Ty.cell3 rfl hS147 rfl rfl ?_;exact Zs rfl rfl
           ·intro _ _ _ _;refine W_guard_yes rfl ?_;refine W_lss rfl rfl rfl ?_;exact Zs rfl rfl
           ·intro _ _ _ _;refine W_pick_f rfl rfl rfl ?_;exact Zs rfl rfl
           ·intro w150 vq150 hB150 hH150;have hS150 := hS17.below hB150;refine W_move rfl rfl ?_;refine W_nil ?_;exact N_step rfl (congrArg Value.bool hb121) (Below.refl _ _)
           ·intro _ _ _ _;refine W_guard_no rfl rfl rfl rfl rfl ?_;exact Zs rfl rfl
           ·intro _ _ _ _;refine W_guard_no rfl rfl rfl rfl rfl ?_;exact Zs rfl rfl
           ·intro _ _ _ _;refine W_guard_no rfl rfl rfl rfl rfl ?_;exact Zs rfl rfl
           ·intro _ _ _ _;refine W_pick_t rfl rfl rfl ?_;exact Zs rfl rfl
           ·intro _ _ _ _;refine W_move rfl rfl ?_;exact Zs rfl rfl
           ·intro _ _ _ _;refine W_guard_no rfl rfl rfl rfl rfl ?_;exact Zs rfl rfl
           ·intro _ _ _ _;refine W_guard_no rfl rfl rfl rfl rfl ?_;exact Zs rfl rfl
           ·intro _ _ _ _;refine W_guard_no rfl rfl rfl rfl rfl ?_;exact Zs rfl rfl
           ·intro _ _ _ _;refine W_guard_no rfl rfl rfl rfl rfl ?_;exact Zs rfl rfl
           ·intro _ _ _ _;refine W_pick_t rfl rfl rfl ?_;exact Zs rfl rfl
           ·intro _ _ _ _;refine W_move rfl rfl ?_;exact Zs rfl rfl
           ·intro _ _ _ _;refine W_guard_no rfl rfl rfl rfl rfl ?_;exact Zs rfl rfl
           ·intro _ _ _ _;refine W_guard_no rfl rfl rfl rfl rfl ?_;exact Zs rfl rfl
           ·intro _ _ _ _;refine W_guard_no rfl rfl rfl rfl rfl ?_;exact Zs rfl rfl
           ·intro _ _ _ _;refine W_guard_no rfl rfl rfl rfl rfl ?_;exact Zs rfl rfl
           ·intro _ _ _ _;refine W_guard_no rfl rfl rfl rfl rfl ?_;exact Zs rfl rfl
           ·intro _ _ _ _;refine W_guard_no rfl rfl rfl rfl rfl ?_;exact Zs rfl rfl
           ·intro _ _ _ _;refine W_guard_no rfl rfl rfl rfl rfl ?_;exact Zs rfl rfl
           ·intro _ _ _ _;refine W_guard_no rfl rfl rfl rfl rfl ?_;exact Zs rfl rfl
          intro w170 vq170 hB170 hH170;have hS170 := hS17.below hB170;refine W_pick_t rfl rfl rfl ?_;refine W_nil ?_;exact N_join _ ⟨rfl, F9, (Frz.le.refl _), hS170⟩ ⟨rfl, rfl, (look_bool rfl (by first | rfl | (rw [hb71, hb121, hb70, hb22]; first | done | rfl) | simp [hb22, hb70, hb71, hb121])), trivial⟩
         ·
          rcases Bool.eq_false_or_eq_true (decide (200 < x13.size)) with hb171 | hb171
          ·have hy172 := hx19;rw [only_t (by first | rfl | (rw [hb70, hb22]; first | done | rfl) | simp [hb22, hb70, hb71, hb121, hb171])] at hy172;obtain ⟨hp173, hy173⟩ := ix_some hy172;obtain ⟨cs173, hr173, he173⟩ := (h0_0.mono (le3.trans le9)).at_ hy173;obtain ⟨ue20_0, rfl, hue20_0⟩ := hr173;replace he173 : Elf _ _ 3 _ _ := he173
           apply C_draw 45 [[], [0], [1], [2], [3], [4], [5, 4], [6, 4], [7], [8, 7], [7], [10, 7], [7], [12, 7], [11, 13, 7], [14, 7], [15, 7], [9, 16, 7], [7, 17, 4], [4, 18], [19], [20], [21, 20], [22, 20], [20, 23], [24], [25], [26, 25], [27, 25], [25, 28], [29], [30], [31, 30], [32, 30], [33, 30], [30, 34], [35], [36], [37, 36], [38, 36], [39, 36], [36], [41, 36], [42, 36], [40, 43, 36]] [.val (pl g15 (0 + 0)), .val (strV x13.path), .val (.bool r18), .val (.bool (!r18)), .val (.bool false), .val (.int .i64 i10), .val (.bool (decide (0 < i10))), .val (.bool true), .val (pl g15 (0 + 0)), .val (strV x13.path), .val (pl g1 (0 + 1)), .val (v0_0), .val (.int .i64 i10), .val (.int .i64 (wr (i10 - 1))), .val (elp v0_0 ((wr (i10 - 1)).toNat * 3)), .val (elp v0_0 (((wr (i10 - 1)).toNat * 3) + 0)), .val (strV x19.path), .val (.bool (sLt x13.path x19.path || x13.path == x19.path)), .val (.bool (sLt x13.path x19.path || x13.path == x19.path)), .val (.bool (sLt x13.path x19.path || x13.path == x19.path)), .val (.bool false), .val (pl g15 (0 + 1)), .val (.int .i64 x13.size), .val (.bool (decide (x13.size < 0))), .val (.bool (decide (x13.size < 0))), .val (.bool false), .val (pl g15 (0 + 1)), .val (.int .i64 x13.size), .val (.bool (decide (200 < x13.size))), .val (.bool (decide (200 < x13.size))), .val (.bool true), .val undef, .val undef, .val undef, .val undef, .val (.bool true), .val (.bool true), .val undef, .val undef, .val undef, .val undef, .val undef, .val undef, .val undef, .val undef] Ty.mixed rfl rfl (by kernel_rfl) (by kernel_rfl) rfl
           ·refine ⟨?_, ?_, ?_, ?_, ?_, ?_, ?_, ?_, ?_, ?_, ?_, ?_, ?_, ?_, ?_, ?_, ?_, ?_, ?_, ?_, ?_, ?_, ?_, ?_, ?_, ?_, ?_, ?_, ?_, ?_, ?_, ?_, ?_, ?_, ?_, ?_, ?_, ?_, ?_, ?_, ?_, ?_, ?_, ?_, ?_, trivial⟩
            ·intro _ _ _ _;refine W_field_pl 0 rfl Ty.field51_0 rfl ?_;exact Zs rfl rfl
            ·intro w175 vq175 hB175 hH175;have hS175 := hS17.below hB175;refine W_bld1 0 rfl Ty.cell9 rfl hS175 rfl rfl ?_;exact Zs rfl rfl
            ·intro w176 vq176 hB176 hH176;have hS176 := hS17.below hB176;refine W_call rfl Ty.named25 rfl (cellarerref01_Name_ok hS176.agree hr18) ?_;rintro v177 w177 ⟨Fr18, rfl, hT177⟩;have hS177 := hS176.lent hT177;refine W_nil ?_;exact N_step rfl rfl hT177.below0
            ·intro _ _ _ _;refine W_not rfl rfl ?_;exact Zs rfl rfl
            ·intro w179 vq179 hB179 hH179;have hS179 := hS17.below hB179;refine W_move rfl rfl ?_;refine W_nil ?_;exact N_step rfl (congrArg Value.bool hb22) (Below.refl _ _)
            ·intro _ _ _ _;refine W_guard_yes rfl ?_;refine W_move rfl rfl ?_;exact Zs rfl rfl
            ·intro _ _ _ _;refine W_guard_yes rfl ?_;refine W_gtr rfl rfl rfl ?_;exact Zs rfl rfl
            ·intro w182 vq182 hB182 hH182;have hS182 := hS17.below hB182;refine W_guard_yes rfl ?_;refine W_move rfl rfl ?_;refine W_nil ?_;exact N_step rfl (congrArg Value.bool hb70) (Below.refl _ _)
            ·intro _ _ _ _;refine W_guard_yes rfl ?_;refine W_field_pl 0 rfl Ty.field51_0 rfl ?_;exact Zs rfl rfl
            ·intro w184 vq184 hB184 hH184;have hS184 := hS17.below hB184;refine W_guard_yes rfl ?_;refine W_bld1 0 rfl Ty.cell9 rfl hS184 rfl rfl ?_;exact Zs rfl rfl
            ·intro _ _ _ _;refine W_guard_yes rfl ?_;refine W_field_pl 1 rfl Ty.field45_1 rfl ?_;exact Zs rfl rfl
            ·intro w186 vq186 hB186 hH186;have hS186 := hS17.below hB186;refine W_guard_yes rfl ?_;refine W_bld1 1 rfl Ty.cell43 rfl hS186 rfl rfl ?_;exact Zs rfl rfl
            ·intro _ _ _ _;refine W_guard_yes rfl ?_;refine W_move rfl rfl ?_;exact Zs rfl rfl
            ·intro _ _ _ _;refine W_guard_yes rfl ?_;refine W_subi rfl rfl rfl rfl ?_;exact Zs rfl rfl
            ·intro w189 vq189 hB189 hH189;have hS189 := hS17.below hB189;refine W_guard_yes rfl ?_;refine W_ix rfl Try.underlying43 Ty.cells51 Ty.info51 rfl rfl (he173.el hS189.agree) hp173 rfl ?_;exact Zs rfl rfl
            ·intro w190 vq190 hB190 hH190;have hS190 := hS17.below hB190;refine W_guard_yes rfl ?_;refine W_fld 0 rfl Ty.field51_0 rfl (he173.el hS190.agree) ?_;exact Zs rfl rfl
            ·intro w191 vq191 hB191 hH191;have hS191 := hS17.below hB191;refine W_guard_yes rfl ?_;refine W_ld1 0 rfl Ty.cell9 rfl (he173.el hS191.agree) (by omega) rfl ?_;exact Zs rfl rfl
            ·intro _ _ _ _;refine W_guard_yes rfl ?_;refine W_leqS rfl rfl rfl ?_;exact Zs rfl rfl
            ·intro _ _ _ _;refine W_guard_yes rfl ?_;refine W_pick_t rfl rfl rfl ?_;exact Zs rfl rfl
            ·intro _ _ _ _;refine W_pick_f rfl rfl rfl ?_;exact Zs rfl rfl
            ·intro w195 vq195 hB195 hH195;have hS195 := hS17.below hB195;refine W_move rfl rfl ?_;refine W_nil ?_;exact N_step rfl (congrArg Value.bool hb71) (Below.refl _ _)
            ·intro _ _ _ _;refine W_guard_yes rfl ?_;refine W_field_pl 1 rfl Ty.field51_1 rfl ?_;exact Zs rfl rfl
            ·intro w197 vq197 hB197 hH197;have hS197 := hS17.below hB197;refine W_guard_yes rfl ?_;refine W_bld1 0 rfl Ty.cell3 rfl hS197 rfl rfl ?_;exact Zs rfl rfl
            ·intro _ _ _ _;refine W_guard_yes rfl ?_;refine W_lss rfl rfl rfl ?_;exact Zs rfl rfl
            ·intro _ _ _ _;refine W_pick_f rfl rfl rfl ?_;exact Zs rfl rfl
            ·intro w200 vq200 hB200 hH200;have hS200 := hS17.below hB200;refine W_move rfl rfl ?_;refine W_nil ?_;exact N_step rfl (congrArg Value.bool hb121) (Below.refl _ _)
            ·intro _ _ _ _;refine W_guard_yes rfl ?_;refine W_field_pl 1 rfl Ty.field51_1 rfl ?_;exact Zs rfl rfl
            ·intro w202 vq202 hB202 hH202;have hS202 := hS17.below hB202;refine W_guard_yes rfl ?_;refine W_bld1 0 rfl Ty.cell3 rfl hS202 rfl rfl ?_;exact Zs rfl rfl
            ·intro _ _ _ _;refine W_guard_yes rfl ?_;refine W_gtr rfl rfl rfl ?_;exact Zs rfl rfl
            ·intro _ _ _ _;refine W_pick_f rfl rfl rfl ?_;exact Zs rfl rfl
            ·intro w205 vq205 hB205 hH205;have hS205 := hS17.below hB205;refine W_move rfl rfl ?_;refine W_nil ?_;exact N_step rfl (congrArg Value.bool hb171) (Below.refl _ _)
            ·intro _ _ _ _;refine W_guard_no rfl rfl rfl rfl rfl ?_;exact Zs rfl rfl
            ·intro _ _ _ _;refine W_guard_no rfl rfl rfl rfl rfl ?_;exact Zs rfl rfl
            ·intro _ _ _ _;refine W_guard_no rfl rfl rfl rfl rfl ?_;exact Zs rfl rfl
            ·intro _ _ _ _;refine W_guard_no rfl rfl rfl rfl rfl ?_;exact Zs rfl rfl
            ·intro _ _ _ _;refine W_pick_t rfl rfl rfl ?_;exact Zs rfl rfl
            ·intro _ _ _ _;refine W_move rfl rfl ?_;exact Zs rfl rfl
            ·intro _ _ _ _;refine W_guard_no rfl rfl rfl rfl rfl ?_;exact Zs rfl rfl
            ·intro _ _ _ _;refine W_guard_no rfl rfl rfl rfl rfl ?_;exact Zs rfl rfl
            ·intro _ _ _ _;refine W_guard_no rfl rfl rfl rfl rfl ?_;exact Zs rfl rfl
            ·intro _ _ _ _;refine W_guard_no rfl rfl rfl rfl rfl ?_;exact Zs rfl rfl
            ·intro _ _ _ _;refine W_guard_no rfl rfl rfl rfl rfl ?_;exact Zs rfl rfl
            ·intro _ _ _ _;refine W_guard_no rfl rfl rfl rfl rfl ?_;exact Zs rfl rfl
            ·intro _ _ _ _;refine W_guard_no rfl rfl rfl rfl rfl ?_;exact Zs rfl rfl
            ·intro _ _ _ _;refine W_guard_no rfl rfl rfl rfl rfl ?_;exact Zs rfl rfl
           intro w220 vq220 hB220 hH220;have hS220 := hS17.below hB220;refine W_pick_t rfl rfl rfl ?_;refine W_nil ?_;exact N_join _ ⟨rfl, F9, (Frz.le.refl _), hS220⟩ ⟨rfl, rfl, (look_bool rfl (by first | rfl | (rw [hb71, hb171, hb121, hb70, hb22]; first | done | rfl) | simp [hb22, hb70, hb71, hb121, hb171])), trivial⟩
          ·
           rcases Bool.eq_false_or_eq_true (decide (25 < (x13.ids.length : Int))) with hb221 | hb221
           ·have hy222 := hx19;rw [only_t (by first | rfl | (rw [hb70, hb22]; first | done | rfl) | simp [hb22, hb70, hb71, hb121, hb171, hb221])] at hy222;obtain ⟨hp223, hy223⟩ := ix_some hy222;obtain ⟨cs223, hr223, he223⟩ := (h0_0.mono (le3.trans le9)).at_ hy223;obtain ⟨ue20_0, rfl, hue20_0⟩ := hr223;replace he223 : Elf _ _ 3 _ _ := he223
            apply C_draw 45 [[], [0], [1], [2], [3], [4], [5, 4], [6, 4], [7], [8, 7], [7], [10, 7], [7], [12, 7], [11, 13, 7], [14, 7], [15, 7], [9, 16, 7], [7, 17, 4], [4, 18], [19], [20], [21, 20], [22, 20], [20, 23], [24], [25], [26, 25], [27, 25], [25, 28], [29], [30], [31, 30], [32, 30], [33, 30], [30, 34], [35], [36], [37, 36], [38, 36], [39, 36], [36], [41, 36], [42, 36], [40, 43, 36]] [.val (pl g15 (0 + 0)), .val (strV x13.path), .val (.bool r18), .val (.bool (!r18)), .val (.bool false), .val (.int .i64 i10), .val (.bool (decide (0 < i10))), .val (.bool true), .val (pl g15 (0 + 0)), .val (strV x13.path), .val (pl g1 (0 + 1)), .val (v0_0), .val (.int .i64 i10), .val (.int .i64 (wr (i10 - 1))), .val (elp v0_0 ((wr (i10 - 1)).toNat * 3)), .val (elp v0_0 (((wr (i10 - 1)).toNat * 3) + 0)), .val (strV x19.path), .val (.bool (sLt x13.path x19.path || x13.path == x19.path)), .val (.bool (sLt x13.path x19.path || x13.path == x19.path)), .val (.bool (sLt x13.path x19.path || x13.path == x19.path)), .val (.bool false), .val (pl g15 (0 + 1)), .val (.int .i64 x13.size), .val (.bool (decide (x13.size < 0))), .val (.bool (decide (x13.size < 0))), .val (.bool false), .val (pl g15 (0 + 1)), .val (.int .i64 x13.size), .val (.bool (decide (200 < x13.size))), .val (.bool (decide (200 < x13.size))), .val (.bool false), .val (pl g15 (0 + 2)), .val (ue14_0), .val (.int .i64 (x13.ids.length : Int)), .val (.bool (decide (25 < (x13.ids.length : Int)))), .val (.bool (decide (25 < (x13.ids.length : Int)))), .val (.bool true), .val undef, .val undef, .val undef, .val undef, .val undef, .val undef, .val undef, .val undef] Ty.mixed rfl rfl (by kernel_rfl) (by kernel_rfl) rfl
            ·refine ⟨?_, ?_, ?_, ?_, ?_, ?_, ?_, ?_, ?_, ?_, ?_, ?_, ?_, ?_, ?_, ?_, ?_, ?_, ?_, ?_, ?_, ?_, ?_, ?_, ?_, ?_, ?_, ?_, ?_, ?_, ?_, ?_, ?_, ?_, ?_, ?_, ?_, ?_, ?_, ?_, ?_, ?_, ?_, ?_, ?_, trivial⟩
             ·intro _ _ _ _;refine W_field_pl 0 rfl Ty.field51_0 rfl ?_;exact Zs rfl rfl
             ·intro w225 vq225 hB225 hH225;have hS225 := hS17.below hB225;refine W_bld1 0 rfl Ty.cell9 rfl hS225 rfl rfl ?_;exact Zs rfl rfl
             ·intro w226 vq226 hB226 hH226;have hS226 := hS17.below hB226;refine W_call rfl Ty.named25 rfl (cellarerref01_Name_ok hS226.agree hr18) ?_;rintro v227 w227 ⟨Fr18, rfl, hT227⟩;have hS227 := hS226.lent hT227;refine W_nil ?_;exact N_step rfl rfl hT227.below0
             ·intro _ _ _ _;refine W_not rfl rfl ?_;exact Zs rfl rfl
             ·intro w229 vq229 hB229 hH229;have hS229 := hS17.below hB229;refine W_move rfl rfl ?_;refine W_nil ?_;exact N_step rfl (congrArg Value.bool hb22) (Below.refl _ _)
             ·intro _ _ _ _;refine W_guard_yes rfl ?_;refine W_move rfl rfl ?_;exact Zs rfl rfl
             ·intro _ _ _ _;refine W_guard_yes rfl ?_;refine W_gtr rfl rfl rfl ?_;exact Zs rfl rfl
             ·intro w232 vq232 hB232 hH232;have hS232 := hS17.below hB232;refine W_guard_yes rfl ?_;refine W_move rfl rfl ?_;refine W_nil ?_;exact N_step rfl (congrArg Value.bool hb70) (Below.refl _ _)
             ·intro _ _ _ _;refine W_guard_yes rfl ?_;refine W_field_pl 0 rfl Ty.field51_0 rfl ?_;exact Zs rfl rfl
             ·intro w234 vq234 hB234 hH234;have hS234 := hS17.below hB234;refine W_guard_yes rfl ?_;refine W_bld1 0 rfl Ty.cell9 rfl hS234 rfl rfl ?_;exact Zs rfl rfl
             ·intro _ _ _ _;refine W_guard_yes rfl ?_;refine W_field_pl 1 rfl Ty.field45_1 rfl ?_;exact Zs rfl rfl
             ·intro w236 vq236 hB236 hH236;have hS236 := hS17.below hB236;refine W_guard_yes rfl ?_;refine W_bld1 1 rfl Ty.cell43 rfl hS236 rfl rfl ?_;exact Zs rfl rfl
             ·intro _ _ _ _;refine W_guard_yes rfl ?_;refine W_move rfl rfl ?_;exact Zs rfl rfl
             ·intro _ _ _ _;refine W_guard_yes rfl ?_;refine W_subi rfl rfl rfl rfl ?_;exact Zs rfl rfl
             ·intro w239 vq239 hB239 hH239;have hS239 := hS17.below hB239;refine W_guard_yes rfl ?_;refine W_ix rfl Try.underlying43 Ty.cells51 Ty.info51 rfl rfl (he223.el hS239.agree) hp223 rfl ?_;exact Zs rfl rfl
             ·intro w240 vq240 hB240 hH240;have hS240 := hS17.below hB240;refine W_guard_yes rfl ?_;refine W_fld 0 rfl Ty.field51_0 rfl (he223.el hS240.agree) ?_;exact Zs rfl rfl
             ·intro w241 vq241 hB241 hH241;have hS241 := hS17.below hB241;refine W_guard_yes rfl ?_;refine W_ld1 0 rfl Ty.cell9 rfl (he223.el hS241.agree) (by omega) rfl ?_;exact Zs rfl rfl
             ·intro _ _ _ _;refine W_guard_yes rfl ?_;refine W_leqS rfl rfl rfl ?_;exact Zs rfl rfl
             ·intro _ _ _ _;refine W_guard_yes rfl ?_;refine W_pick_t rfl rfl rfl ?_;exact Zs rfl rfl
             ·intro _ _ _ _;refine W_pick_f rfl rfl rfl ?_;exact Zs rfl rfl
             ·intro w245 vq245 hB245 hH245;have hS245 := hS17.below hB245;refine W_move rfl rfl ?_;refine W_nil ?_;exact N_step rfl (congrArg Value.bool hb71) (Below.refl _ _)
             ·intro _ _ _ _;refine W_guard_yes rfl ?_;refine W_field_pl 1 rfl Ty.field51_1 rfl ?_;exact Zs rfl rfl
             ·intro w247 vq247 hB247 hH247;have hS247 := hS17.below hB247;refine W_guard_yes rfl ?_;refine W_bld1 0 rfl Ty.cell3 rfl hS247 rfl rfl ?_;exact Zs rfl rfl
             ·intro _ _ _ _;refine W_guard_yes rfl ?_;refine W_lss rfl rfl rfl ?_;exact Zs rfl rfl
             ·intro _ _ _ _;refine W_pick_f rfl rfl rfl ?_;exact Zs rfl rfl
             ·intro w250 vq250 hB250 hH250;have hS250 := hS17.below hB250;refine W_move rfl rfl ?_;refine W_nil ?_;exact N_step rfl (congrArg Value.bool hb121) (Below.refl _ _)
             ·intro _ _ _ _;refine W_guard_yes rfl ?_;refine W_field_pl 1 rfl Ty.field51_1 rfl ?_;exact Zs rfl rfl
             ·intro w252 vq252 hB252 hH252;have hS252 := hS17.below hB252;refine W_guard_yes rfl ?_;refine W_bld1 0 rfl Ty.cell3 rfl hS252 rfl rfl ?_;exact Zs rfl rfl
             ·intro _ _ _ _;refine W_guard_yes rfl ?_;refine W_gtr rfl rfl rfl ?_;exact Zs rfl rfl
             ·intro _ _ _ _;refine W_pick_f rfl rfl rfl ?_;exact Zs rfl rfl
             ·intro w255 vq255 hB255 hH255;have hS255 := hS17.below hB255;refine W_move rfl rfl ?_;refine W_nil ?_;exact N_step rfl (congrArg Value.bool hb171) (Below.refl _ _)
             ·intro _ _ _ _;refine W_guard_yes rfl ?_;refine W_field_pl 2 rfl Ty.field51_2 rfl ?_;exact Zs rfl rfl
             ·intro w257 vq257 hB257 hH257;have hS257 := hS17.below hB257;refine W_guard_yes rfl ?_;refine W_bld1 0 rfl Ty.cell49 rfl hS257 rfl rfl ?_;exact Zs rfl rfl
             ·intro _ _ _ _;refine W_guard_yes rfl ?_;refine W_lenv rfl Try.underlying49 rfl hue14_0.ln ?_;exact Zs rfl rfl
             ·intro _ _ _ _;refine W_guard_yes rfl ?_;refine W_gtr rfl rfl rfl ?_;exact Zs rfl rfl
             ·intro _ _ _ _;refine W_pick_f rfl rfl rfl ?_;exact Zs rfl rfl
             ·intro w261 vq261 hB261 hH261;have hS261 := hS17.below hB261;refine W_move rfl rfl ?_;refine W_nil ?_;exact N_step rfl (congrArg Value.bool hb221) (Below.refl _ _)
             ·intro _ _ _ _;refine W_guard_no rfl rfl rfl rfl rfl ?_;exact Zs rfl rfl
             ·intro _ _ _ _;refine W_guard_no rfl rfl rfl rfl rfl ?_;exact Zs rfl rfl
             ·intro _ _ _ _;refine W_guard_no rfl rfl rfl rfl rfl ?_;exact Zs rfl rfl
             ·intro _ _ _ _;refine W_guard_no rfl rfl rfl rfl rfl ?_;exact Zs rfl rfl
             ·intro _ _ _ _;refine W_guard_no rfl rfl rfl rfl rfl ?_;exact Zs rfl rfl
             ·intro _ _ _ _;refine W_guard_no rfl rfl rfl rfl rfl ?_;exact Zs rfl rfl
             ·intro _ _ _ _;refine W_guard_no rfl rfl rfl rfl rfl ?_;exact Zs rfl rfl
             ·intro _ _ _ _;refine W_guard_no rfl rfl rfl rfl rfl ?_;exact Zs rfl rfl
            intro w270 vq270 hB270 hH270;have hS270 := hS17.below hB270;refine W_pick_t rfl rfl rfl ?_;refine W_nil ?_;exact N_join _ ⟨rfl, F9, (Frz.le.refl _), hS270⟩ ⟨rfl, rfl, (look_bool rfl (by first | rfl | (rw [hb71, hb221, hb171, hb121, hb70, hb22]; first | done | rfl) | simp [hb22, hb70, hb71, hb121, hb171, hb221])), trivial⟩
           ·have hy271 := hx19;rw [only_t (by first | rfl | (rw [hb70, hb22]; first | done | rfl) | simp [hb22, hb70, hb71, hb121, hb171, hb221])] at hy271;obtain ⟨hp272, hy272⟩ := ix_some hy271;obtain ⟨cs272, hr272, he272⟩ := (h0_0.mono (le3.trans le9)).at_ hy272;obtain ⟨ue20_0, rfl, hue20_0⟩ := hr272;replace he272 : Elf _ _ 3 _ _ := he272
            apply C_draw 45 [[], [0], [1], [2], [3], [4], [5, 4], [6, 4], [7], [8, 7], [7], [10, 7], [7], [12, 7], [11, 13, 7], [14, 7], [15, 7], [9, 16, 7], [7, 17, 4], [4, 18], [19], [20], [21, 20], [22, 20], [20, 23], [24], [25], [26, 25], [27, 25], [25, 28], [29], [30], [31, 30], [32, 30], [33, 30], [30, 34], [35], [36], [37, 36], [38, 36], [39, 36], [36], [41, 36], [42, 36], [40, 43, 36]] [.val (pl g15 (0 + 0)), .val (strV x13.path), .val (.bool r18), .val (.bool (!r18)), .val (.bool false), .val (.int .i64 i10), .val (.bool (decide (0 < i10))), .val (.bool true), .val (pl g15 (0 + 0)), .val (strV x13.path), .val (pl g1 (0 + 1)), .val (v0_0), .val (.int .i64 i10), .val (.int .i64 (wr (i10 - 1))), .val (elp v0_0 ((wr (i10 - 1)).toNat * 3)), .val (elp v0_0 (((wr (i10 - 1)).toNat * 3) + 0)), .val (strV x19.path), .val (.bool (sLt x13.path x19.path || x13.path == x19.path)), .val (.bool (sLt x13.path x19.path || x13.path == x19.path)), .val (.bool (sLt x13.path x19.path || x13.path == x19.path)), .val (.bool false), .val (pl g15 (0 + 1)), .val (.int .i64 x13.size), .val (.bool (decide (x13.size < 0))), .val (.bool (decide (x13.size < 0))), .val (.bool false), .val (pl g15 (0 + 1)), .val (.int .i64 x13.size), .val (.bool (decide (200 < x13.size))), .val (.bool (decide (200 < x13.size))), .val (.bool false), .val (pl g15 (0 + 2)), .val (ue14_0), .val (.int .i64 (x13.ids.length : Int)), .val (.bool (decide (25 < (x13.ids.length : Int)))), .val (.bool (decide (25 < (x13.ids.length : Int)))), .val (.bool false), .val (pl g15 (0 + 2)), .val (ue14_0), .val (.int .i64 (x13.ids.length : Int)), .val (.bool (decide ((x13.ids.length : Int) = 0))), .val (pl g15 (0 + 1)), .val (.int .i64 x13.size), .val (.bool (decide (x13.size = 0))), .val (.bool (decide ((x13.ids.length : Int) = 0) != decide (x13.size = 0)))] Ty.mixed rfl rfl (by kernel_rfl) (by kernel_rfl) rfl
            ·refine ⟨?_, ?_, ?_, ?_, ?_, ?_, ?_, ?_, ?_, ?_, ?_, ?_, ?_, ?_, ?_, ?_, ?_, ?_, ?_, ?_, ?_, ?_, ?_, ?_, ?_, ?_, ?_, ?_, ?_, ?_, ?_, ?_, ?_, ?_, ?_, ?_, ?_, ?_, ?_, ?_, ?_, ?_, ?_, ?_, ?_, trivial⟩
             ·intro _ _ _ _;refine W_field_pl 0 rfl Ty.field51_0 rfl ?_;exact Zs rfl rfl
             ·intro w274 vq274 hB274 hH274;have hS274 := hS17.below hB274;refine W_bld1 0 rfl Ty.cell9 rfl hS274 rfl rfl ?_;exact Zs rfl rfl
             ·intro w275 vq275 hB275 hH275;have hS275 := hS17.below hB275;refine W_call rfl Ty.named25 rfl (cellarerref01_Name_ok hS275.agree hr18) ?_;rintro v276 w276 ⟨Fr18, rfl, hT276⟩;have hS276 := hS275.lent hT276;refine W_nil ?_;exact N_step rfl rfl hT276.below0
             ·intro _ _ _ _;refine W_not rfl rfl ?_;exact Zs rfl rfl
             ·intro w278 vq278 hB278 hH278;have hS278 := hS17.below hB278;refine W_move rfl rfl ?_;refine W_nil ?_;exact N_step rfl (congrArg Value.bool hb22) (Below.refl _ _)
             ·intro _ _ _ _;refine W_guard_yes rfl ?_;refine W_move rfl rfl ?_;exact Zs rfl rfl
             ·intro _ _ _ _;refine W_guard_yes rfl ?_;refine W_gtr rfl rfl rfl ?_;exact Zs rfl rfl
             ·intro w281 vq281 hB281 hH281;have hS281 := hS17.below hB281;refine W_guard_yes rfl ?_;refine W_move rfl rfl ?_;refine W_nil ?_;exact N_step rfl (congrArg Value.bool hb70) (Below.refl _ _)
             ·intro _ _ _ _;refine W_guard_yes rfl ?_;refine W_field_pl 0 rfl Ty.field51_0 rfl ?_;exact Zs rfl rfl
             ·intro w283 vq283 hB283 hH283;have hS283 := hS17.below hB283;refine W_guard_yes rfl ?_;refine W_bld1 0 rfl Ty.cell9 rfl hS283 rfl rfl ?_;exact Zs rfl rfl
             ·intro _ _ _ _;refine W_guard_yes rfl ?_;refine W_field_pl 1 rfl Ty.field45_1 rfl ?_;exact Zs rfl rfl
             ·intro w285 vq285 hB285 hH285;have hS285 := hS17.below hB285;refine W_guard_yes rfl ?_;refine W_bld1 1 rfl Ty.cell43 rfl hS285 rfl rfl ?_;exact Zs rfl rfl
             ·intro _ _ _ _;refine W_guard_yes rfl ?_;refine W_move rfl rfl ?_;exact Zs rfl rfl
             ·intro _ _ _ _;refine W_guard_yes rfl ?_;refine W_subi rfl rfl rfl rfl ?_;exact Zs rfl rfl
             ·intro w288 vq288 hB288 hH288;have hS288 := hS17.below hB288;refine W_guard_yes rfl ?_;refine W_ix rfl Try.underlying43 Ty.cells51 Ty.info51 rfl rfl (he272.el hS288.agree) hp272 rfl ?_;exact Zs rfl rfl
             ·intro w289 vq289 hB289 hH289;have hS289 := hS17.below hB289;refine W_guard_yes rfl ?_;refine W_fld 0 rfl Ty.field51_0 rfl (he272.el hS289.agree) ?_;exact Zs rfl rfl
             ·intro w290 vq290 hB290 hH290;have hS290 := hS17.below hB290;refine W_guard_yes rfl ?_;refine W_ld1 0 rfl Ty.cell9 rfl (he272.el hS290.agree) (by omega) rfl ?_;exact Zs rfl rfl
             ·intro _ _ _ _;refine W_guard_yes rfl ?_;refine W_leqS rfl rfl rfl ?_;exact Zs rfl rfl
             ·intro _ _ _ _;refine W_guard_yes rfl ?_;refine W_pick_t rfl rfl rfl ?_;exact Zs rfl rfl
             ·intro _ _ _ _;refine W_pick_f rfl rfl rfl ?_;exact Zs rfl rfl
             ·intro w294 vq294 hB294 hH294;have hS294 := hS17.below hB294;refine W_move rfl rfl ?_;refine W_nil ?_;exact N_step rfl (congrArg Value.bool hb71) (Below.refl _ _)
             ·intro _ _ _ _;refine W_guard_yes rfl ?_;refine W_field_pl 1 rfl Ty.field51_1 rfl ?_;exact Zs rfl rfl
             ·intro w296 vq296 hB296 hH296;have hS296 := hS17.below hB296;refine W_guard_yes rfl ?_;refine W_bld1 0 rfl Ty.cell3 rfl hS296 rfl rfl ?_;exact Zs rfl rfl
             ·intro _ _ _ _;refine W_guard_yes rfl ?_;refine W_lss rfl rfl rfl ?_;exact Zs rfl rfl
             ·intro _ _ _ _;refine W_pick_f rfl rfl rfl ?_;exact Zs rfl rfl
             ·intro w299 vq299 hB299 hH299;have hS299 := hS17.below hB299;refine W_move rfl rfl ?_;refine W_nil ?_;exact N_step rfl (congrArg Value.bool hb121) (Below.refl _ _)
             ·intro _ _ _ _;refine W_guard_yes rfl ?_;refine W_field_pl 1 rfl Ty.field51_1 rfl ?_;exact Zs rfl rfl
             ·intro w301 vq301 hB301 hH301;have hS301 := hS17.below hB301;refine W_guard_yes rfl ?_;refine W_bld1 0 rfl Ty.cell3 rfl hS301 rfl rfl ?_;exact Zs rfl rfl
             ·intro _ _ _ _;refine W_guard_yes rfl ?_;refine W_gtr rfl rfl rfl ?_;exact Zs rfl rfl
             ·intro _ _ _ _;refine W_pick_f rfl rfl rfl ?_;exact Zs rfl rfl
             ·intro w304 vq304 hB304 hH304;have hS304 := hS17.below hB304;refine W_move rfl rfl ?_;refine W_nil ?_;exact N_step rfl (congrArg Value.bool hb171) (Below.refl _ _)
             ·intro _ _ _ _;refine W_guard_yes rfl ?_;refine W_field_pl 2 rfl Ty.field51_2 rfl ?_;exact Zs rfl rfl
             ·intro w306 vq306 hB306 hH306;have hS306 := hS17.below hB306;refine W_guard_yes rfl ?_;refine W_bld1 0 rfl Ty.cell49 rfl hS306 rfl rfl ?_;exact Zs rfl rfl
             ·intro _ _ _ _;refine W_guard_yes rfl ?_;refine W_lenv rfl Try.underlying49 rfl hue14_0.ln ?_;exact Zs rfl rfl
             ·intro _ _ _ _;refine W_guard_yes rfl ?_;refine W_gtr rfl rfl rfl ?_;exact Zs rfl rfl
             ·intro _ _ _ _;refine W_pick_f rfl rfl rfl ?_;exact Zs rfl rfl
             ·intro w310 vq310 hB310 hH310;have hS310 := hS17.below hB310;refine W_move rfl rfl ?_;refine W_nil ?_;exact N_step rfl (congrArg Value.bool hb221) (Below.refl _ _)
             ·intro _ _ _ _;refine W_guard_yes rfl ?_;refine W_field_pl 2 rfl Ty.field51_2 rfl ?_;exact Zs rfl rfl
             ·intro w312 vq312 hB312 hH312;have hS312 := hS17.below hB312;refine W_guard_yes rfl ?_;refine W_bld1 0 rfl Ty.cell49 rfl hS312 rfl rfl ?_;exact Zs rfl rfl
             ·intro _ _ _ _;refine W_guard_yes rfl ?_;refine W_lenv rfl Try.underlying49 rfl hue14_0.ln ?_;exact Zs rfl rfl
             ·intro _ _ _ _;refine W_guard_yes rfl ?_;refine W_eql rfl rfl rfl ?_;exact Zs rfl rfl
             ·intro _ _ _ _;refine W_guard_yes rfl ?_;refine W_field_pl 1 rfl Ty.field51_1 rfl ?_;exact Zs rfl rfl
             ·intro w316 vq316 hB316 hH316;have hS316 := hS17.below hB316;refine W_guard_yes rfl ?_;refine W_bld1 0 rfl Ty.cell3 rfl hS316 rfl rfl ?_;exact Zs rfl rfl
             ·intro _ _ _ _;refine W_guard_yes rfl ?_;refine W_eql rfl rfl rfl ?_;exact Zs rfl rfl
             ·intro _ _ _ _;refine W_guard_yes rfl ?_;refine W_neqb rfl Try.underlying4 rfl rfl ?_;exact Zs rfl rfl
            intro w319 vq319 hB319 hH319;have hS319 := hS17.below hB319;refine W_pick_f rfl rfl rfl ?_;refine W_nil ?_;exact N_join _ ⟨rfl, F9, (Frz.le.refl _), hS319⟩ ⟨rfl, rfl, (look_bool rfl (by first | rfl | (rw [hb71, hb221, hb171, hb121, hb70, hb22]; first | done | rfl) | simp [hb22, hb70, hb71, hb121, hb171, hb221])), trivial⟩
       ·
        rcases Bool.eq_false_or_eq_true (decide (x13.size < 0)) with hb320 | hb320
        ·
         apply C_draw 45 [[], [0], [1], [2], [3], [4], [5, 4], [6, 4], [7], [8, 7], [7], [10, 7], [7], [12, 7], [11, 13, 7], [14, 7], [15, 7], [9, 16, 7], [7, 17, 4], [4, 18], [19], [20], [21, 20], [22, 20], [20, 23], [24], [25], [26, 25], [27, 25], [25, 28], [29], [30], [31, 30], [32, 30], [33, 30], [30, 34], [35], [36], [37, 36], [38, 36], [39, 36], [36], [41, 36], [42, 36], [40, 43, 36]] [.val (pl g15 (0 + 0)), .val (strV x13.path), .val (.bool r18), .val (.bool (!r18)), .val (.bool false), .val (.int .i64 i10), .val (.bool (decide (0 < i10))), .val (.bool false), .val undef, .val undef, .val undef, .val undef, .val undef, .val undef, .val undef, .val undef, .val undef, .val undef, .val (.bool false), .val (.bool false), .val (.bool false), .val (pl g15 (0 + 1)), .val (.int .i64 x13.size), .val (.bool (decide (x13.size < 0))), .val (.bool (decide (x13.size < 0))), .val (.bool true), .val undef, .val undef, .val undef, .val (.bool true), .val (.bool true), .val undef, .val undef, .val undef, .val undef, .val (.bool true), .val (.bool true), .val undef, .val undef, .val undef, .val undef, .val undef, .val undef, .val undef, .val undef] Ty.mixed rfl rfl (by kernel_rfl) (by kernel_rfl) rfl
         ·refine ⟨?_, ?_, ?_, ?_, ?_, ?_, ?_, ?_, ?_, ?_, ?_, ?_, ?_, ?_, ?_, ?_, ?_, ?_, ?_, ?_, ?_, ?_, ?_, ?_, ?_, ?_, ?_, ?_, ?_, ?_, ?_, ?_, ?_, ?_, ?_, ?_, ?_, ?_, ?_, ?_, ?_, ?_, ?_, ?_, ?_, trivial⟩
          ·intro _ _ _ _;refine W_field_pl 0 rfl Ty.field51_0 rfl ?_;exact Zs rfl rfl
          ·intro w322 vq322 hB322 hH322;have hS322 := hS17.below hB322;refine W_bld1 0 rfl Ty.cell9 rfl hS322 rfl rfl ?_;exact Zs rfl rfl
          ·intro w323 vq323 hB323 hH323;have hS323 := hS17.below hB323;refine W_call rfl Ty.named25 rfl (cellarerref01_Name_ok hS323.agree hr18) ?_;rintro v324 w324 ⟨Fr18, rfl, hT324⟩;have hS324 := hS323.lent hT324;refine W_nil ?_;exact N_step rfl rfl hT324.below0
          ·intro _ _ _ _;refine W_not rfl rfl ?_;exact Zs rfl rfl
          ·intro w326 vq326 hB326 hH326;have hS326 := hS17.below hB326;refine W_move rfl rfl ?_;refine W_nil ?_;exact N_step rfl (congrArg Value.bool hb22) (Below.refl _ _)
          ·intro _ _ _ _;refine W_guard_yes rfl ?_;refine W_move rfl rfl ?_;exact Zs rfl rfl
          ·intro _ _ _ _;refine W_guard_yes rfl ?_;refine W_gtr rfl rfl rfl ?_;exact Zs rfl rfl
          ·intro w329 vq329 hB329 hH329;have hS329 := hS17.below hB329;refine W_guard_yes rfl ?_;refine W_move rfl rfl ?_;refine W_nil ?_;exact N_step rfl (congrArg Value.bool hb70) (Below.refl _ _)
          ·intro _ _ _ _;refine W_guard_no rfl rfl rfl rfl rfl ?_;exact Zs rfl rfl
          ·intro _ _ _ _;refine W_guard_no rfl rfl rfl rfl rfl ?_;exact Zs rfl rfl
          ·intro _ _ _ _;refine W_guard_no rfl rfl rfl rfl rfl ?_;exact Zs rfl rfl
          ·intro _ _ _ _;refine W_guard_no rfl rfl rfl rfl rfl ?_;exact Zs rfl rfl
          ·intro _ _ _ _;refine W_guard_no rfl rfl rfl rfl rfl ?_;exact Zs rfl rfl
          ·intro _ _ _ _;refine W_guard_no rfl rfl rfl rfl rfl ?_;exact Zs rfl rfl
          ·intro _ _ _ _;refine W_guard_no rfl rfl rfl rfl rfl ?_;exact Zs rfl rfl
          ·intro _ _ _ _;refine W_guard_no rfl rfl rfl rfl rfl ?_;exact Zs rfl rfl
          ·intro _ _ _ _;refine W_guard_no rfl rfl rfl rfl rfl ?_;exact Zs rfl rfl
          ·intro _ _ _ _;refine W_guard_no rfl rfl rfl rfl rfl ?_;exact Zs rfl rfl
          ·intro _ _ _ _;refine W_guard_yes rfl ?_;refine W_pick_f rfl rfl rfl ?_;exact Zs rfl rfl
          ·intro _ _ _ _;refine W_pick_f rfl rfl rfl ?_;exact Zs rfl rfl
          ·intro _ _ _ _;refine W_move rfl rfl ?_;exact Zs rfl rfl
          ·intro _ _ _ _;refine W_guard_yes rfl ?_;refine W_field_pl 1 rfl Ty.field51_1 rfl ?_;exact Zs rfl rfl
          ·intro w344 vq344 hB344 hH344;have hS344 := hS17.below hB344;refine W_guard_yes rfl ?_;refine W_bld1 0 rfl Ty.cell3 rfl hS344 rfl rfl ?_;exact Zs rfl rfl
          ·intro _ _ _ _;refine W_guard_yes rfl ?_;refine W_lss rfl rfl rfl ?_;exact Zs rfl rfl
          ·intro _ _ _ _;refine W_pick_f rfl rfl rfl ?_;exact Zs rfl rfl
          ·intro w347 vq347 hB347 hH347;have hS347 := hS17.below hB347;refine W_move rfl rfl ?_;refine W_nil ?_;exact N_step rfl (congrArg Value.bool hb320) (Below.refl _ _)
          ·intro _ _ _ _;refine W_guard_no rfl rfl rfl rfl rfl ?_;exact Zs rfl rfl
          ·intro _ _ _ _;refine W_guard_no rfl rfl rfl rfl rfl ?_;exact Zs rfl rfl
          ·intro _ _ _ _;refine W_guard_no rfl rfl rfl rfl rfl ?_;exact Zs rfl rfl
          ·intro _ _ _ _;refine W_pick_t rfl rfl rfl ?_;exact Zs rfl rfl
          ·intro _ _ _ _;refine W_move rfl rfl ?_;exact Zs rfl rfl
          ·intro _ _ _ _;refine W_guard_no rfl rfl rfl rfl rfl ?_;exact Zs rfl rfl
          ·intro _ _ _ _;refine W_guard_no rfl rfl rfl rfl rfl ?_;exact Zs rfl rfl
          ·intro _ _ _ _;refine W_guard_no rfl rfl rfl rfl rfl ?_;exact Zs rfl rfl
          ·intro _ _ _ _;refine W_guard_no rfl rfl rfl rfl rfl ?_;exact Zs rfl rfl
          ·intro _ _ _ _;refine W_pick_t rfl rfl rfl ?_;exact Zs rfl rfl
          ·intro _ _ _ _;refine W_move rfl rfl ?_;exact Zs rfl rfl
          ·intro _ _ _ _;refine W_guard_no rfl rfl rfl rfl rfl ?_;exact Zs rfl rfl
          ·intro _ _ _ _;refine W_guard_no rfl rfl rfl rfl rfl ?_;exact Zs rfl rfl
          ·intro _ _ _ _;refine W_guard_no rfl rfl rfl rfl rfl ?_;exact Zs rfl rfl
          ·intro _ _ _ _;refine W_guard_no rfl rfl rfl rfl rfl ?_;exact Zs rfl rfl
          ·intro _ _ _ _;refine W_guard_no rfl rfl rfl rfl rfl ?_;exact Zs rfl rfl
          ·intro _ _ _ _;refine W_guard_no rfl rfl rfl rfl rfl ?_;exact Zs rfl rfl
          ·intro _ _ _ _;refine W_guard_no rfl rfl rfl rfl rfl ?_;exact Zs rfl rfl
          ·intro _ _ _ _;refine W_guard_no rfl rfl rfl rfl rfl ?_;exact Zs rfl rfl
         intro w367 vq367 hB367 hH367;have hS367 := hS17.below hB367;refine W_pick_t rfl rfl rfl ?_;refine W_nil ?_;exact N_join _ ⟨rfl, F9, (Frz.le.refl _), hS367⟩ ⟨rfl, rfl, (look_bool rfl (by first | rfl | (rw [hb320, hb70, hb22]; first | done | rfl) | simp [hb22, hb70, hb320])), trivial⟩
        ·
         rcases Bool.eq_false_or_eq_true (decide (200 < x13.size)) with hb368 | hb368
         ·
          apply C_draw 45 [[], [0], [1], [2], [3], [4], [5, 4], [6, 4], [7], [8, 7], [7], [10, 7], [7], [12, 7], [11, 13, 7], [14, 7], [15, 7], [9, 16, 7], [7, 17, 4], [4, 18], [19], [20], [21, 20], [22, 20], [20, 23], [24], [25], [26, 25], [27, 25], [25, 28], [29], [30], [31, 30], [32, 30], [33, 30], [30, 34], [35], [36], [37, 36], [38, 36], [39, 36], [36], [41, 36], [42, 36], [40, 43, 36]] [.val (pl g15 (0 + 0)), .val (strV x13.path), .val (.bool r18), .val (.bool (!r18)), .val (.bool false), .val (.int .i64 i10), .val (.bool (decide (0 < i10))), .val (.bool false), .val undef, .val undef, .val undef, .val undef, .val undef, .val undef, .val undef, .val undef, .val undef, .val undef, .val (.bool false), .val (.bool false), .val (.bool false), .val (pl g15 (0 + 1)), .val (.int .i64 x13.size), .val (.bool (decide (x13.size < 0))), .val (.bool (decide (x13.size < 0))), .val (.bool false), .val (pl g15 (0 + 1)), .val (.int .i64 x13.size), .val (.bool (decide (200 < x13.size))), .val (.bool (decide (200 < x13.size))), .val (.bool true), .val undef, .val undef, .val undef, .val undef, .val (.bool true), .val (.bool true), .val undef, .val undef, .val undef, .val undef, .val undef, .val undef, .val undef, .val undef] Ty.mixed rfl rfl (by kernel_rfl) (by kernel_rfl) rfl
          ·refine ⟨?_, ?_, ?_, ?_, ?_, ?_, ?_, ?_, ?_, ?_, ?_, ?_, ?_, ?_, ?_, ?_, ?_, ?_, ?_, ?_, ?_, ?_, ?_, ?_, ?_, ?_, ?_, ?_, ?_, ?_, ?_, ?_, ?_, ?_, ?_, ?_, ?_, ?_, ?_, ?_, ?_, ?_, ?_, ?_, ?_, trivial⟩
           ·intro _ _ _ _;refine W_field_pl 0 rfl Ty.field51_0 rfl ?_;exact Zs rfl rfl
           ·intro w370 vq370 hB370 hH370;have hS370 := hS17.below hB370;refine W_bld1 0 rfl Ty.cell9 rfl hS370 rfl rfl ?_;exact Zs rfl rfl
           ·intro w371 vq371 hB371 hH371;have hS371 := hS17.below hB371;refine W_call rfl Ty.named25 rfl (cellarerref01_Name_ok hS371.agree hr18) ?_;rintro v372 w372 ⟨Fr18, rfl, hT372⟩;have hS372 := hS371.lent hT372;refine W_nil ?_;exact N_step rfl rfl hT372.below0
           ·intro _ _ _ _;refine W_not rfl rfl ?_;exact Zs rfl rfl
           ·intro w374 vq374 hB374 hH374;have hS374 := hS17.below hB374;refine W_move rfl rfl ?_;refine W_nil ?_;exact N_step rfl (congrArg Value.bool hb22) (Below.refl _ _)
           ·intro _ _ _ _;refine W_guard_yes rfl ?_;refine W_move rfl rfl ?_;exact Zs rfl rfl
           ·intro _ _ _ _;refine W_guard_yes rfl ?_;refine W_gtr rfl rfl rfl ?_;exact Zs rfl rfl
           ·intro w377 vq377 hB377 hH377;have hS377 := hS17.below hB377;refine W_guard_yes rfl ?_;refine W_move rfl rfl ?_;refine W_nil ?_;exact N_step rfl (congrArg Value.bool hb70) (Below.refl _ _)
           ·intro _ _ _ _;refine W_guard_no rfl rfl rfl rfl rfl ?_;exact Zs rfl rfl
           ·intro _ _ _ _;refine W_guard_no rfl rfl rfl rfl rfl ?_;exact Zs rfl rfl
           ·intro _ _ _ _;refine W_guard_no rfl rfl rfl rfl rfl ?_;exact Zs rfl rfl
           ·intro _ _ _ _;refine W_guard_no rfl rfl rfl rfl rfl ?_;exact Zs rfl rfl
           ·intro _ _ _ _;refine W_guard_no rfl rfl rfl rfl rfl ?_;exact Zs rfl rfl
           ·intro _ _ _ _;refine W_guard_no rfl rfl rfl rfl rfl ?_;exact Zs rfl rfl
           ·intro _ _ _ _;refine W_guard_no rfl rfl rfl rfl rfl ?_;exact Zs rfl rfl
           ·intro _ _ _ _;refine W_guard_no rfl rfl rfl rfl rfl ?_;exact Zs rfl rfl
           ·intro _ _ _ _;refine W_guard_no rfl rfl rfl rfl rfl ?_;exact Zs rfl rfl
           ·intro _ _ _ _;refine W_guard_no rfl rfl rfl rfl rfl ?_;exact Zs rfl rfl
           ·intro _ _ _ _;refine W_guard_yes rfl ?_;refine W_pick_f rfl rfl rfl ?_;exact Zs rfl rfl
           ·intro _ _ _ _;refine W_pick_f rfl rfl rfl ?_;exact Zs rfl rfl
           ·intro _ _ _ _;refine W_move rfl rfl ?_;exact Zs rfl rfl
           ·intro _ _ _ _;refine W_guard_yes rfl ?_;refine W_field_pl 1 rfl Ty.field51_1 rfl ?_;exact Zs rfl rfl
           ·intro w392 vq392 hB392 hH392;have hS392 := hS17.below hB392;refine W_guard_yes rfl ?_;refine W_bld1 0 rfl Ty.cell3 rfl hS392 rfl rfl ?_;exact Zs rfl rfl
           ·intro _ _ _ _;refine W_guard_yes rfl ?_;refine W_lss rfl rfl rfl ?_;exact Zs rfl rfl
           ·intro _ _ _ _;refine W_pick_f rfl rfl rfl ?_;exact Zs rfl rfl
           ·intro w395 vq395 hB395 hH395;have hS395 := hS17.below hB395;refine W_move rfl rfl ?_;refine W_nil ?_;exact N_step rfl (congrArg Value.bool hb320) (Below.refl _ _)
           ·intro _ _ _ _;refine W_guard_yes rfl ?_;refine W_field_pl 1 rfl Ty.field51_1 rfl ?_;exact Zs rfl rfl
           ·intro w397 vq397 hB397 hH397;have hS397 := hS17.below hB397;refine W_guard_yes rfl ?_;refine W_bld1 0 rfl Ty.cell3 rfl hS397 rfl rfl ?_;exact Zs rfl rfl
           ·intro _ _ _ _;refine W_guard_yes rfl ?_;refine W_gtr rfl rfl rfl ?_;exact Zs rfl rfl
           ·intro _ _ _ _;refine W_pick_f rfl rfl rfl ?_;exact Zs rfl rfl
           ·intro w400 vq400 hB400 hH400;have hS400 := hS17.below hB400;refine W_move rfl rfl ?_;refine W_nil ?_;exact N_step rfl (congrArg Value.bool hb368) (Below.refl _ _)
           ·intro _ _ _ _;refine W_guard_no rfl rfl rfl rfl rfl ?_;exact Zs rfl rfl
           ·intro _ _ _ _;refine W_guard_no rfl rfl rfl rfl rfl ?_;exact Zs rfl rfl
           ·intro _ _ _ _;refine W_guard_no rfl rfl rfl rfl rfl ?_;exact Zs rfl rfl
           ·intro _ _ _ _;refine W_guard_no rfl rfl rfl rfl rfl ?_;exact Zs rfl rfl
           ·intro _ _ _ _;refine W_pick_t rfl rfl rfl ?_;exact Zs rfl rfl
           ·intro _ _ _ _;refine W_move rfl rfl ?_;exact Zs rfl rfl
           ·intro _ _ _ _;refine W_guard_no rfl rfl rfl rfl rfl ?_;exact Zs rfl rfl
           ·intro _ _ _ _;refine W_guard_no rfl rfl rfl rfl rfl ?_;exact Zs rfl rfl
           ·intro _ _ _ _;refine W_guard_no rfl rfl rfl rfl rfl ?_;exact Zs rfl rfl
           ·intro _ _ _ _;refine W_guard_no rfl rfl rfl rfl rfl ?_;exact Zs rfl rfl
           ·intro _ _ _ _;refine W_guard_no rfl rfl rfl rfl rfl ?_;exact Zs rfl rfl
           ·intro _ _ _ _;refine W_guard_no rfl rfl rfl rfl rfl ?_;exact Zs rfl rfl
           ·intro _ _ _ _;refine W_guard_no rfl rfl rfl rfl rfl ?_;exact Zs rfl rfl
           ·intro _ _ _ _;refine W_guard_no rfl rfl rfl rfl rfl ?_;exact Zs rfl rfl
          intro w415 vq415 hB415 hH415;have hS415 := hS17.below hB415;refine W_pick_t rfl rfl rfl ?_;refine W_nil ?_;exact N_join _ ⟨rfl, F9, (Frz.le.refl _), hS415⟩ ⟨rfl, rfl, (look_bool rfl (by first | rfl | (rw [hb368, hb320, hb70, hb22]; first | done | rfl) | simp [hb22, hb70, hb320, hb368])), trivial⟩
         ·
          rcases Bool.eq_false_or_eq_true (decide (25 < (x13.ids.length : Int))) with hb416 | hb416
          ·
           apply C_draw 45 [[], [0], [1], [2], [3], [4], [5, 4], [6, 4], [7], [8, 7], [7], [10, 7], [7], [12, 7], [11, 13, 7], [14, 7], [15, 7], [9, 16, 7], [7, 17, 4], [4, 18], [19], [20], [21, 20], [22, 20], [20, 23], [24], [25], [26, 25], [27, 25], [25, 28], [29], [30], [31, 30], [32, 30], [33, 30], [30, 34], [35], [36], [37, 36], [38, 36], [39, 36], [36], [41, 36], [42, 36], [40, 43, 36]] [.val (pl g15 (0 + 0)), .val (strV x13.path), .val (.bool r18), .val (.bool (!r18)), .val (.bool false), .val (.int .i64 i10), .val (.bool (decide (0 < i10))), .val (.bool false), .val undef, .val undef, .val undef, .val undef, .val undef, .val undef, .val undef, .val undef, .val undef, .val undef, .val (.bool false), .val (.bool false), .val (.bool false), .val (pl g15 (0 + 1)), .val (.int .i64 x13.size), .val (.bool (decide (x13.size < 0))), .val (.bool (decide (x13.size < 0))), .val (.bool false), .val (pl g15 (0 + 1)), .val (.int .i64 x13.size), .val (.bool (decide (200 < x13.size))), .val (.bool (decide (200 < x13.size))), .val (.bool false), .val (pl g15 (0 + 2)), .val (ue14_0), .val (.int .i64 (x13.ids.length : Int)), .val (.bool (decide (25 < (x13.ids.length : Int)))), .val (.bool (decide (25 < (x13.ids.length : Int)))), .val (.bool true), .val undef, .val undef, .val undef, .val undef, .val undef, .val undef, .val undef, .val undef] Ty.mixed rfl rfl (by kernel_rfl) (by kernel_rfl) rfl
           ·refine ⟨?_, ?_, ?_, ?_, ?_, ?_, ?_, ?_, ?_, ?_, ?_, ?_, ?_, ?_, ?_, ?_, ?_, ?_, ?_, ?_, ?_, ?_, ?_, ?_, ?_, ?_, ?_, ?_, ?_, ?_, ?_, ?_, ?_, ?_, ?_, ?_, ?_, ?_, ?_, ?_, ?_, ?_, ?_, ?_, ?_, trivial⟩
            ·intro _ _ _ _;refine W_field_pl 0 rfl Ty.field51_0 rfl ?_;exact Zs rfl rfl
            ·intro w418 vq418 hB418 hH418;have hS418 := hS17.below hB418;refine W_bld1 0 rfl Ty.cell9 rfl hS418 rfl rfl ?_;exact Zs rfl rfl
            ·intro w419 vq419 hB419 hH419;have hS419 := hS17.below hB419;refine W_call rfl Ty.named25 rfl (cellarerref01_Name_ok hS419.agree hr18) ?_;rintro v420 w420 ⟨Fr18, rfl, hT420⟩;have hS420 := hS419.lent hT420;refine W_nil ?_;exact N_step rfl rfl hT420.below0
            ·intro _ _ _ _;refine W_not rfl rfl ?_;exact Zs rfl rfl
            ·intro w422 vq422 hB422 hH422;have hS422 := hS17.below hB422;refine W_move rfl rfl ?_;refine W_nil ?_;exact N_step rfl (congrArg Value.bool hb22) (Below.refl _ _)
            ·intro _ _ _ _;refine W_guard_yes rfl ?_;refine W_move rfl rfl ?_;exact Zs rfl rfl
            ·intro _ _ _ _;refine W_guard_yes rfl ?_;refine W_gtr rfl rfl rfl ?_;exact Zs rfl rfl
            ·intro w425 vq425 hB425 hH425;have hS425 := hS17.below hB425;refine W_guard_yes rfl ?_;refine W_move rfl rfl ?_;refine W_nil ?_;exact N_step rfl (congrArg Value.bool hb70) (Below.refl _ _)
            ·intro _ _ _ _;refine W_guard_no rfl rfl rfl rfl rfl ?_;exact Zs rfl rfl
            ·intro _ _ _ _;refine W_guard_no rfl rfl rfl rfl rfl ?_;exact Zs rfl rfl
            ·intro _ _ _ _;refine W_guard_no rfl rfl rfl rfl rfl ?_;exact Zs rfl rfl
            ·intro _ _ _ _;refine W_guard_no rfl rfl rfl rfl rfl ?_;exact Zs rfl rfl
            ·intro _ _ _ _;refine W_guard_no rfl rfl rfl rfl rfl ?_;exact Zs rfl rfl
            ·intro _ _ _ _;refine W_guard_no rfl rfl rfl rfl rfl ?_;exact Zs rfl rfl
            ·intro _ _ _ _;refine W_guard_no rfl rfl rfl rfl rfl ?_;exact Zs rfl rfl
            ·intro _ _ _ _;refine W_guard_no rfl rfl rfl rfl rfl ?_;exact Zs rfl rfl
            ·intro _ _ _ _;refine W_guard_no rfl rfl rfl rfl rfl ?_;exact Zs rfl rfl
            ·intro _ _ _ _;refine W_guard_no rfl rfl rfl rfl rfl ?_;exact Zs rfl rfl
            ·intro _ _ _ _;refine W_guard_yes rfl ?_;refine W_pick_f rfl rfl rfl ?_;exact Zs rfl rfl
            ·intro _ _ _ _;refine W_pick_f rfl rfl rfl ?_;exact Zs rfl rfl
            ·intro _ _ _ _;refine W_move rfl rfl ?_;exact Zs rfl rfl
            ·intro _ _ _ _;refine W_guard_yes rfl ?_;refine W_field_pl 1 rfl Ty.field51_1 rfl ?_;exact Zs rfl rfl
            ·intro w440 vq440 hB440 hH440;have hS440 := hS17.below hB440;refine W_guard_yes rfl ?_;refine W_bld1 0 rfl Ty.cell3 rfl hS440 rfl rfl ?_;exact Zs rfl rfl
            ·intro _ _ _ _;refine W_guard_yes rfl ?_;refine W_lss rfl rfl rfl ?_;exact Zs rfl rfl
            ·intro _ _ _ _;refine W_pick_f rfl rfl rfl ?_;exact Zs rfl rfl
            ·intro w443 vq443 hB443 hH443;have hS443 := hS17.below hB443;refine W_move rfl rfl ?_;refine W_nil ?_;exact N_step rfl (congrArg Value.bool hb320) (Below.refl _ _)
            ·intro _ _ _ _;refine W_guard_yes rfl ?_;refine W_field_pl 1 rfl Ty.field51_1 rfl ?_;exact Zs rfl rfl
            ·intro w445 vq445 hB445 hH445;have hS445 := hS17.below hB445;refine W_guard_yes rfl ?_;refine W_bld1 0 rfl Ty.cell3 rfl hS445 rfl rfl ?_;exact Zs rfl rfl
            ·intro _ _ _ _;refine W_guard_yes rfl ?_;refine W_gtr rfl rfl rfl ?_;exact Zs rfl rfl
            ·intro _ _ _ _;refine W_pick_f rfl rfl rfl ?_;exact Zs rfl rfl
            ·intro w448 vq448 hB448 hH448;have hS448 := hS17.below hB448;refine W_move rfl rfl ?_;refine W_nil ?_;exact N_step rfl (congrArg Value.bool hb368) (Below.refl _ _)
            ·intro _ _ _ _;refine W_guard_yes rfl ?_;refine W_field_pl 2 rfl Ty.field51_2 rfl ?_;exact Zs rfl rfl
            ·intro w450 vq450 hB450 hH450;have hS450 := hS17.below hB450;refine W_guard_yes rfl ?_;refine W_bld1 0 rfl Ty.cell49 rfl hS450 rfl rfl ?_;exact Zs rfl rfl
            ·intro _ _ _ _;refine W_guard_yes rfl ?_;refine W_lenv rfl Try.underlying49 rfl hue14_0.ln ?_;exact Zs rfl rfl
            ·intro _ _ _ _;refine W_guard_yes rfl ?_;refine W_gtr rfl rfl rfl ?_;exact Zs rfl rfl
            ·intro _ _ _ _;refine W_pick_f rfl rfl rfl ?_;exact Zs rfl rfl
            ·intro w454 vq454 hB454 hH454;have hS454 := hS17.below hB454;refine W_move rfl rfl ?_;refine W_nil ?_;exact N_step rfl (congrArg Value.bool hb416) (Below.refl _ _)
            ·intro _ _ _ _;refine W_guard_no rfl rfl rfl rfl rfl ?_;exact Zs rfl rfl
            ·intro _ _ _ _;refine W_guard_no rfl rfl rfl rfl rfl ?_;exact Zs rfl rfl
            ·intro _ _ _ _;refine W_guard_no rfl rfl rfl rfl rfl ?_;exact Zs rfl rfl
            ·intro _ _ _ _;refine W_guard_no rfl rfl rfl rfl rfl ?_;exact Zs rfl rfl
            ·intro _ _ _ _;refine W_guard_no rfl rfl rfl rfl rfl ?_;exact Zs rfl rfl
            ·intro _ _ _ _;refine W_guard_no rfl rfl rfl rfl rfl ?_;exact Zs rfl rfl
            ·intro _ _ _ _;refine W_guard_no rfl rfl rfl rfl rfl ?_;exact Zs rfl rfl
            ·intro _ _ _ _;refine W_guard_no rfl rfl rfl rfl rfl ?_;exact Zs rfl rfl
           intro w463 vq463 hB463 hH463;have hS463 := hS17.below hB463;refine W_pick_t rfl rfl rfl ?_;refine W_nil ?_;exact N_join _ ⟨rfl, F9, (Frz.le.refl _), hS463⟩ ⟨rfl, rfl, (look_bool rfl (by first | rfl | (rw [hb416, hb368, hb320, hb70, hb22]; first | done | rfl) | simp [hb22, hb70, hb320, hb368, hb416])), trivial⟩
          ·
           apply C_draw 45 [[], [0], [1], [2], [3], [4], [5, 4], [6, 4], [7], [8, 7], [7], [10, 7], [7], [12, 7], [11, 13, 7], [14, 7], [15, 7], [9, 16, 7], [7, 17, 4], [4, 18], [19], [20], [21, 20], [22, 20], [20, 23], [24], [25], [26, 25], [27, 25], [25, 28], [29], [30], [31, 30], [32, 30], [33, 30], [30, 34], [35], [36], [37, 36], [38, 36], [39, 36], [36], [41, 36], [42, 36], [40, 43, 36]] [.val (pl g15 (0 + 0)), .val (strV x13.path), .val (.bool r18), .val (.bool (!r18)), .val (.bool false), .val (.int .i64 i10), .val (.bool (decide (0 < i10))), .val (.bool false), .val undef, .val undef, .val undef, .val undef, .val undef, .val undef, .val undef, .val undef, .val undef, .val undef, .val (.bool false), .val (.bool false), .val (.bool false), .val (pl g15 (0 + 1)), .val (.int .i64 x13.size), .val (.bool (decide (x13.size < 0))), .val (.bool (decide (x13.size < 0))), .val (.bool false), .val (pl g15 (0 + 1)), .val (.int .i64 x13.size), .val (.bool (decide (200 < x13.size))), .val (.bool (decide (200 < x13.size))), .val (.bool false), .val (pl g15 (0 + 2)), .val (ue14_0), .val (.int .i64 (x13.ids.length : Int)), .val (.bool (decide (25 < (x13.ids.length : Int)))), .val (.bool (decide (25 < (x13.ids.length : Int)))), .val (.bool false), .val (pl g15 (0 + 2)), .val (ue14_0), .val (.int .i64 (x13.ids.length : Int)), .val (.bool (decide ((x13.ids.length : Int) = 0))), .val (pl g15 (0 + 1)), .val (.int .i64 x13.size), .val (.bool (decide (x13.size = 0))), .val (.bool (decide ((x13.ids.length : Int) = 0) != decide (x13.size = 0)))] Ty.mixed rfl rfl (by kernel_rfl) (by kernel_rfl) rfl
           ·refine ⟨?_, ?_, ?_, ?_, ?_, ?_, ?_, ?_, ?_, ?_, ?_, ?_, ?_, ?_, ?_, ?_, ?_, ?_, ?_, ?_, ?_, ?_, ?_, ?_, ?_, ?_, ?_, ?_, ?_, ?_, ?_, ?_, ?_, ?_, ?_, ?_, ?_, ?_, ?_, ?_, ?_, ?_, ?_, ?_, ?_, trivial⟩
            ·intro _ _ _ _;refine W_field_pl 0 rfl Ty.field51_0 rfl ?_;exact Zs rfl rfl
            ·intro w465 vq465 hB465 hH465;have hS465 := hS17.below hB465;refine W_bld1 0 rfl Ty.cell9 rfl hS465 rfl rfl ?_;exact Zs rfl rfl
            ·intro w466 vq466 hB466 hH466;have hS466 := hS17.below hB466;refine W_call rfl Ty.named25 rfl (cellarerref01_Name_ok hS466.agree hr18) ?_;rintro v467 w467 ⟨Fr18, rfl, hT467⟩;have hS467 := hS466.lent hT467;refine W_nil ?_;exact N_step rfl rfl hT467.below0
            ·intro _ _ _ _;refine W_not rfl rfl ?_;exact Zs rfl rfl
            ·intro w469 vq469 hB469 hH469;have hS469 := hS17.below hB469;refine W_move rfl rfl ?_;refine W_nil ?_;exact N_step rfl (congrArg Value.bool hb22) (Below.refl _ _)
            ·intro _ _ _ _;refine W_guard_yes rfl ?_;refine W_move rfl rfl ?_;exact Zs rfl rfl
            ·intro _ _ _ _;refine W_guard_yes rfl ?_;refine W_gtr rfl rfl rfl ?_;exact Zs rfl rfl
            ·intro w472 vq472 hB472 hH472;have hS472 := hS17.below hB472;refine W_guard_yes rfl ?_;refine W_move rfl rfl ?_;refine W_nil ?_;exact N_step rfl (congrArg Value.bool hb70) (Below.refl _ _)
            ·intro _ _ _ _;refine W_guard_no rfl rfl rfl rfl rfl ?_;exact Zs rfl rfl
            ·intro _ _ _ _;refine W_guard_no rfl rfl rfl rfl rfl ?_;exact Zs rfl rfl
            ·intro _ _ _ _;refine W_guard_no rfl rfl rfl rfl rfl ?_;exact Zs rfl rfl
            ·intro _ _ _ _;refine W_guard_no rfl rfl rfl rfl rfl ?_;exact Zs rfl rfl
            ·intro _ _ _ _;refine W_guard_no rfl rfl rfl rfl rfl ?_;exact Zs rfl rfl
            ·intro _ _ _ _;refine W_guard_no rfl rfl rfl rfl rfl ?_;exact Zs rfl rfl
            ·intro _ _ _ _;refine W_guard_no rfl rfl rfl rfl rfl ?_;exact Zs rfl rfl
            ·intro _ _ _ _;refine W_guard_no rfl rfl rfl rfl rfl ?_;exact Zs rfl rfl
            ·intro _ _ _ _;refine W_guard_no rfl rfl rfl rfl rfl ?_;exact Zs rfl rfl
            ·intro _ _ _ _;refine W_guard_no rfl rfl rfl rfl rfl ?_;exact Zs rfl rfl
            ·intro _ _ _ _;refine W_guard_yes rfl ?_;refine W_pick_f rfl rfl rfl ?_;exact Zs rfl rfl
            ·intro _ _ _ _;refine W_pick_f rfl rfl rfl ?_;exact Zs rfl rfl
            ·intro _ _ _ _;refine W_move rfl rfl ?_;exact Zs rfl rfl
            ·intro _ _ _ _;refine W_guard_yes rfl ?_;refine W_field_pl 1 rfl Ty.field51_1 rfl ?_;exact Zs rfl rfl
            ·intro w487 vq487 hB487 hH487;have hS487 := hS17.below hB487;refine W_guard_yes rfl ?_;refine W_bld1 0 rfl Ty.cell3 rfl hS487 rfl rfl ?_;exact Zs rfl rfl
            ·intro _ _ _ _;refine W_guard_yes rfl ?_;refine W_lss rfl rfl rfl ?_;exact Zs rfl rfl
            ·intro _ _ _ _;refine W_pick_f rfl rfl rfl ?_;exact Zs rfl rfl
            ·intro w490 vq490 hB490 hH490;have hS490 := hS17.below hB490;refine W_move rfl rfl ?_;refine W_nil ?_;exact N_step rfl (congrArg Value.bool hb320) (Below.refl _ _)
            ·intro _ _ _ _;refine W_guard_yes rfl ?_;refine W_field_pl 1 rfl Ty.field51_1 rfl ?_;exact Zs rfl rfl
            ·intro w492 vq492 hB492 hH492;have hS492 := hS17.below hB492;refine W_guard_yes rfl ?_;refine W_bld1 0 rfl Ty.cell3 rfl hS492 rfl rfl ?_;exact Zs rfl rfl
            ·intro _ _ _ _;refine W_guard_yes rfl ?_;refine W_gtr rfl rfl rfl ?_;exact Zs rfl rfl
            ·intro _ _ _ _;refine W_pick_f rfl rfl rfl ?_;exact Zs rfl rfl
            ·intro w495 vq495 hB495 hH495;have hS495 := hS17.below hB495;refine W_move rfl rfl ?_;refine W_nil ?_;exact N_step rfl (congrArg Value.bool hb368) (Below.refl _ _)
            ·intro _ _ _ _;refine W_guard_yes rfl ?_;refine W_field_pl 2 rfl Ty.field51_2 rfl ?_;exact Zs rfl rfl
            ·intro w497 vq497 hB497 hH497;have hS497 := hS17.below hB497;refine W_guard_yes rfl ?_;refine W_bld1 0 rfl Ty.cell49 rfl hS497 rfl rfl ?_;exact Zs rfl rfl
            ·intro _ _ _ _;refine W_guard_yes rfl ?_;refine W_lenv rfl Try.underlying49 rfl hue14_0.ln ?_;exact Zs rfl rfl
            ·intro _ _ _ _;refine W_guard_yes rfl ?_;refine W_gtr rfl rfl rfl ?_;exact Zs rfl rfl
            ·intro _ _ _ _;refine W_pick_f rfl rfl rfl ?_;exact Zs rfl rfl
            ·intro w501 vq501 hB501 hH501;have hS501 := hS17.below hB501;refine W_move rfl rfl ?_;refine W_nil ?_;exact N_step rfl (congrArg Value.bool hb416) (Below.refl _ _)
            ·intro _ _ _ _;refine W_guard_yes rfl ?_;refine W_field_pl 2 rfl Ty.field51_2 rfl ?_;exact Zs rfl rfl
            ·intro w503 vq503 hB503 hH503;have hS503 := hS17.below hB503;refine W_guard_yes rfl ?_;refine W_bld1 0 rfl Ty.cell49 rfl hS503 rfl rfl ?_;exact Zs rfl rfl
            ·intro _ _ _ _;refine W_guard_yes rfl ?_;refine W_lenv rfl Try.underlying49 rfl hue14_0.ln ?_;exact Zs rfl rfl
            ·intro _ _ _ _;refine W_guard_yes rfl ?_;refine W_eql rfl rfl rfl ?_;exact Zs rfl rfl
            ·intro _ _ _ _;refine W_guard_yes rfl ?_;refine W_field_pl 1 rfl Ty.field51_1 rfl ?_;exact Zs rfl rfl
            ·intro w507 vq507 hB507 hH507;have hS507 := hS17.below hB507;refine W_guard_yes rfl ?_;refine W_bld1 0 rfl Ty.cell3 rfl hS507 rfl rfl ?_;exact Zs rfl rfl
            ·intro _ _ _ _;refine W_guard_yes rfl ?_;refine W_eql rfl rfl rfl ?_;exact Zs rfl rfl
            ·intro _ _ _ _;refine W_guard_yes rfl ?_;refine W_neqb rfl Try.underlying4 rfl rfl ?_;exact Zs rfl rfl
           intro w510 vq510 hB510 hH510;have hS510 := hS17.below hB510;refine W_pick_f rfl rfl rfl ?_;refine W_nil ?_;exact N_join _ ⟨rfl, F9, (Frz.le.refl _), hS510⟩ ⟨rfl, rfl, (look_bool rfl (by first | rfl | (rw [hb416, hb368, hb320, hb70, hb22]; first | done | rfl) | simp [hb22, hb70, hb320, hb368, hb416])), trivial⟩
     rintro E w21 ⟨rfl, F21, le21, hS21⟩;refine N_code ?_;refine C_cond rfl (fun hc511 => ?_) (fun hc511 => ?_)
     ·rw [if_t hc511] at H;refine C_seq ?_;refine C_region ?_;refine W_assign rfl rfl ?_;refine W_nil ?_;refine N_code ?_;obtain rfl := Option.some.inj H;refine C_ret rfl rfl ?_;exact ⟨F21, rfl, hS21.pick [] (by decide)⟩
     ·rw [if_f hc511] at H;refine C_skip ?_;refine N_block ?_;refine N_code ?_;refine C_region ?_;refine W_move rfl rfl ?_;refine W_add rfl rfl rfl rfl ?_;refine W_assign rfl rfl ?_;refine W_nil ?_;exact N_againM (wr (i10 + 1)) _ H ⟨F21, rfl, (le9.trans le21), hS21.pick [1] (by decide)⟩ ⟨rfl, rfl, trivial⟩
    ·rw [if_f hc12] at H;refine C_exit _ rfl ?_;exact N_join _ ⟨H, ⟨F9, rfl, le9, hS9.pick [] (by decide)⟩⟩ trivial
  ·rintro E w8 ⟨H, F8, rfl, le8, hS8⟩;dsimp only [cellarerref14_Manifest.k1] at H;refine C_seq ?_;refine C_region ?_;refine W_assign rfl rfl ?_;refine W_nil ?_;refine N_code ?_;obtain rfl := Option.some.inj H;refine C_ret rfl rfl ?_;exact ⟨F8, rfl, hS8⟩

end
end Go.Wk.Lf
