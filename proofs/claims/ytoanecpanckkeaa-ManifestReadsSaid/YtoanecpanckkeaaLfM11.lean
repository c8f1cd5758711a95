import Derived.Test.YtoanecpanckkeaaLfM8
namespace Go.Wk.Lf
open Go.Proofs Go.RowKit
set_option linter.unusedVariables false
set_option linter.unusedSimpArgs false
noncomputable section

def cellarerref14_cutter_take_fz (x0 : Cellarerref14Cutter) (x1 : Int) : Option ((List UInt8) × Cellarerref14Cutter) :=
  if (x0.bad || decide (wr ((x0.b.length : Int) - x0.at_) < x1)) then
    bd (rep x1 0) fun l41 =>
    some (l41, (Cellarerref14Cutter.mk x0.b x0.at_ true))
  else
    bd (cut (α := UInt8) x0.b x0.at_ (wr (x0.at_ + x1))) fun l44 =>
    some (l44, (Cellarerref14Cutter.mk x0.b (wr (x0.at_ + x1)) x0.bad))

theorem cellarerref14_cutter_take_fz_ok {F : Frz} {w : World} {X : List Nat} {x0 : Cellarerref14Cutter} {x1 : Int} {r : (List UInt8) × Cellarerref14Cutter} {gp0 : Nat} {v0_0 : Value} (hS : St X w F F [.box gp0 111 [v0_0, .int .i64 x0.at_, .bool x0.bad]] w) (hv0_0 : SlF tB F v0_0 (x0.b)) (H : cellarerref14_cutter_take_fz x0 x1 = some r) : Ret Try.prog 81 #[pl gp0 0, .int .i64 x1] w fun v w' => ∃ (F' : Frz) (q0 : Value) (z0_0 : Value), v = q0 ∧ SlF tB F' q0 (r.1) ∧ SlF tB F' z0_0 (r.2.b) ∧ St X w F F' [.box gp0 111 [z0_0, .int .i64 r.2.at_, .bool r.2.bad]] w' := by
 refine Ret_of (args := [pl gp0 0, .int .i64 x1]) Try.func81 rfl rfl ?_;change C _ _ _ _ [(0, pl gp0 0), (1, .int .i64 x1)] _;dsimp only [cellarerref14_cutter_take_fz] at H;refine C_seq ?_;refine C_region ?_;refine W_assign rfl rfl ?_;refine W_nil ?_;refine N_code ?_;refine C_seq ?_;refine C_seq ?_;refine C_join (fun E wq => E = [(0, pl gp0 0), (1, .int .i64 x1), (23, .bool (x0.bad || decide (wr ((x0.b.length : Int) - x0.at_) < x1)))] ∧ ∃ F1 : Frz, F.le F1 ∧ St X w F F1 [.box gp0 111 [v0_0, .int .i64 x0.at_, .bool x0.bad]] wq) ?_ ?_
 ·
  rcases Bool.eq_false_or_eq_true x0.bad with hb2 | hb2
  ·
   apply C_draw 17 [[], [0], [1], [2], [3], [4], [4], [6, 4], [7, 4], [8, 4], [9, 4], [4], [11, 4], [12, 4], [13, 4], [10, 14, 4], [5, 15, 4]] [.val (pl gp0 0), .val (pl gp0 0), .val (pl gp0 (0 + 2)), .val (.bool x0.bad), .val (.bool true), .val undef, .val undef, .val undef, .val undef, .val undef, .val undef, .val undef, .val undef, .val undef, .val undef, .val undef, .val undef] Ty.mixed rfl rfl (by kernel_rfl) (by kernel_rfl) rfl
   ·refine ⟨?_, ?_, ?_, ?_, ?_, ?_, ?_, ?_, ?_, ?_, ?_, ?_, ?_, ?_, ?_, ?_, ?_, trivial⟩
    ·intro _ _ _ _;refine W_move rfl rfl ?_;exact Zs rfl rfl
    ·intro _ _ _ _;refine W_nil_pl rfl rfl ?_;exact Zs rfl rfl
    ·intro _ _ _ _;refine W_field_pl 2 rfl Ty.field111_2 rfl ?_;exact Zs rfl rfl
    ·intro w6 vq6 hB6 hH6;have hS6 := hS.below hB6;refine W_bld1 0 rfl Ty.cell4 rfl hS6 rfl rfl ?_;exact Zs rfl rfl
    ·intro w7 vq7 hB7 hH7;have hS7 := hS.below hB7;refine W_move rfl rfl ?_;refine W_nil ?_;exact N_step rfl (congrArg Value.bool hb2) (Below.refl _ _)
    ·intro _ _ _ _;refine W_guard_no rfl rfl rfl rfl rfl ?_;exact Zs rfl rfl
    ·intro _ _ _ _;refine W_guard_no rfl rfl rfl rfl rfl ?_;exact Zs rfl rfl
    ·intro _ _ _ _;refine W_guard_no rfl rfl rfl rfl rfl ?_;exact Zs rfl rfl
    ·intro _ _ _ _;refine W_guard_no rfl rfl rfl rfl rfl ?_;exact Zs rfl rfl
    ·intro _ _ _ _;refine W_guard_no rfl rfl rfl rfl rfl ?_;exact Zs rfl rfl
    ·intro _ _ _ _;refine W_guard_no rfl rfl rfl rfl rfl ?_;exact Zs rfl rfl
    ·intro _ _ _ _;refine W_guard_no rfl rfl rfl rfl rfl ?_;exact Zs rfl rfl
    ·intro _ _ _ _;refine W_guard_no rfl rfl rfl rfl rfl ?_;exact Zs rfl rfl
    ·intro _ _ _ _;refine W_guard_no rfl rfl rfl rfl rfl ?_;exact Zs rfl rfl
    ·intro _ _ _ _;refine W_guard_no rfl rfl rfl rfl rfl ?_;exact Zs rfl rfl
    ·intro _ _ _ _;refine W_guard_no rfl rfl rfl rfl rfl ?_;exact Zs rfl rfl
    ·intro _ _ _ _;refine W_guard_no rfl rfl rfl rfl rfl ?_;exact Zs rfl rfl
   intro w20 vq20 hB20 hH20;have hS20 := hS.below hB20;refine W_pick_t rfl rfl rfl ?_;refine W_nil ?_;exact N_join _ ⟨rfl, F, (Frz.le.refl _), hS20⟩ ⟨rfl, rfl, (look_bool rfl (by first | rfl | (rw [hb2]; first | done | rfl) | simp [hb2])), trivial⟩
  ·
   apply C_draw 17 [[], [0], [1], [2], [3], [4], [4], [6, 4], [7, 4], [8, 4], [9, 4], [4], [11, 4], [12, 4], [13, 4], [10, 14, 4], [5, 15, 4]] [.val (pl gp0 0), .val (pl gp0 0), .val (pl gp0 (0 + 2)), .val (.bool x0.bad), .val (.bool false), .val (.int .i64 x1), .val (pl gp0 0), .val (pl gp0 0), .val (pl gp0 (0 + 0)), .val (v0_0), .val (.int .i64 (x0.b.length : Int)), .val (pl gp0 0), .val (pl gp0 0), .val (pl gp0 (0 + 1)), .val (.int .i64 x0.at_), .val (.int .i64 (wr ((x0.b.length : Int) - x0.at_))), .val (.bool (decide (wr ((x0.b.length : Int) - x0.at_) < x1)))] Ty.mixed rfl rfl (by kernel_rfl) (by kernel_rfl) rfl
   ·refine ⟨?_, ?_, ?_, ?_, ?_, ?_, ?_, ?_, ?_, ?_, ?_, ?_, ?_, ?_, ?_, ?_, ?_, trivial⟩
    ·intro _ _ _ _;refine W_move rfl rfl ?_;exact Zs rfl rfl
    ·intro _ _ _ _;refine W_nil_pl rfl rfl ?_;exact Zs rfl rfl
    ·intro _ _ _ _;refine W_field_pl 2 rfl Ty.field111_2 rfl ?_;exact Zs rfl rfl
    ·intro w24 vq24 hB24 hH24;have hS24 := hS.below hB24;refine W_bld1 0 rfl Ty.cell4 rfl hS24 rfl rfl ?_;exact Zs rfl rfl
    ·intro w25 vq25 hB25 hH25;have hS25 := hS.below hB25;refine W_move rfl rfl ?_;refine W_nil ?_;exact N_step rfl (congrArg Value.bool hb2) (Below.refl _ _)
    ·intro _ _ _ _;refine W_guard_yes rfl ?_;refine W_move rfl rfl ?_;exact Zs rfl rfl
    ·intro _ _ _ _;refine W_guard_yes rfl ?_;refine W_move rfl rfl ?_;exact Zs rfl rfl
    ·intro _ _ _ _;refine W_guard_yes rfl ?_;refine W_nil_pl rfl rfl ?_;exact Zs rfl rfl
    ·intro _ _ _ _;refine W_guard_yes rfl ?_;refine W_field_pl 0 rfl Ty.field111_0 rfl ?_;exact Zs rfl rfl
    ·intro w30 vq30 hB30 hH30;have hS30 := hS.below hB30;refine W_guard_yes rfl ?_;refine W_bld1 0 rfl Ty.cell25 rfl hS30 rfl rfl ?_;exact Zs rfl rfl
    ·intro _ _ _ _;refine W_guard_yes rfl ?_;refine W_lenv rfl Try.underlying25 rfl hv0_0.ln ?_;exact Zs rfl rfl
    ·intro _ _ _ _;refine W_guard_yes rfl ?_;refine W_move rfl rfl ?_;exact Zs rfl rfl
    ·intro _ _ _ _;refine W_guard_yes rfl ?_;refine W_nil_pl rfl rfl ?_;exact Zs rfl rfl
    ·intro _ _ _ _;refine W_guard_yes rfl ?_;refine W_field_pl 1 rfl Ty.field111_1 rfl ?_;exact Zs rfl rfl
    ·intro w35 vq35 hB35 hH35;have hS35 := hS.below hB35;refine W_guard_yes rfl ?_;refine W_bld1 0 rfl Ty.cell3 rfl hS35 rfl rfl ?_;exact Zs rfl rfl
    ·intro _ _ _ _;refine W_guard_yes rfl ?_;refine W_subi rfl rfl rfl rfl ?_;exact Zs rfl rfl
    ·intro _ _ _ _;refine W_guard_yes rfl ?_;refine W_gtr rfl rfl rfl ?_;exact Zs rfl rfl
   intro w38 vq38 hB38 hH38;have hS38 := hS.below hB38;refine W_pick_f rfl rfl rfl ?_;refine W_nil ?_;exact N_join _ ⟨rfl, F, (Frz.le.refl _), hS38⟩ ⟨rfl, rfl, (look_bool rfl (by first | rfl | (rw [hb2]; first | done | rfl) | simp [hb2])), trivial⟩
 rintro E w1 ⟨rfl, F1, le1, hS1⟩;refine N_code ?_;refine C_cond rfl (fun hc39 => ?_) (fun hc39 => ?_)
 ·rw [if_t hc39] at H;refine C_seq ?_;refine C_region ?_;refine W_move rfl rfl ?_;refine W_nil_pl rfl rfl ?_;refine W_field_pl 2 rfl Ty.field111_2 rfl ?_;refine W_bst (c := [.bool true]) 0 ([v0_0, .int .i64 x0.at_, .bool true]) rfl rfl hS1 rfl rfl Ty.size4 (by intro y hy; simp at hy; subst hy; rfl) (Nat.le_of_ble_eq_true rfl) rfl ?_;intro w40 hS40;refine W_nil ?_;refine N_code ?_;refine C_seq ?_;obtain ⟨l41, hl41, H⟩ := bd_some H;refine C_region ?_;refine W_move rfl rfl ?_;refine W_mk (t := tB) (x0 := 0) rfl Try.underlying25 Ty.row5 rfl rfl rfl rfl hS40 rfl hl41 ?_;intro v42 w42 hS42;refine W_assign rfl rfl ?_;refine W_nil ?_;refine N_code ?_;obtain ⟨F43, le43, hf43, hS43⟩ := hS42.freeze 0 [1] rfl (by decide) (by decide);obtain rfl := Option.some.inj H;refine C_ret rfl rfl ?_;exact ⟨F43, v42, v0_0, rfl, hf43, (hv0_0.mono (le1.trans le43)), hS43⟩
 ·rw [if_f hc39] at H;refine C_skip ?_;refine N_code ?_;refine C_seq ?_;obtain ⟨l44, hl44, H⟩ := bd_some H
  apply C_draw 14 [[], [0], [1], [2], [], [4], [5], [6], [], [8], [9], [10], [], [11, 12]] [.val (pl gp0 0), .val (pl gp0 0), .val (pl gp0 (0 + 0)), .val (v0_0), .val (pl gp0 0), .val (pl gp0 0), .val (pl gp0 (0 + 1)), .val (.int .i64 x0.at_), .val (pl gp0 0), .val (pl gp0 0), .val (pl gp0 (0 + 1)), .val (.int .i64 x0.at_), .val (.int .i64 x1), .val (.int .i64 (wr (x0.at_ + x1)))] Ty.mixed rfl rfl (by kernel_rfl) (by kernel_rfl) rfl
  ·refine ⟨?_, ?_, ?_, ?_, ?_, ?_, ?_, ?_, ?_, ?_, ?_, ?_, ?_, ?_, trivial⟩
   ·intro _ _ _ _;refine W_move rfl rfl ?_;exact Zs rfl rfl
   ·intro _ _ _ _;refine W_nil_pl rfl rfl ?_;exact Zs rfl rfl
   ·intro _ _ _ _;refine W_field_pl 0 rfl Ty.field111_0 rfl ?_;exact Zs rfl rfl
   ·intro w49 vq49 hB49 hH49;have hS49 := hS1.below hB49;refine W_bld1 0 rfl Ty.cell25 rfl hS49 rfl rfl ?_;exact Zs rfl rfl
   ·intro _ _ _ _;refine W_move rfl rfl ?_;exact Zs rfl rfl
   ·intro _ _ _ _;refine W_nil_pl rfl rfl ?_;exact Zs rfl rfl
   ·intro _ _ _ _;refine W_field_pl 1 rfl Ty.field111_1 rfl ?_;exact Zs rfl rfl
   ·intro w53 vq53 hB53 hH53;have hS53 := hS1.below hB53;refine W_bld1 0 rfl Ty.cell3 rfl hS53 rfl rfl ?_;exact Zs rfl rfl
   ·intro _ _ _ _;refine W_move rfl rfl ?_;exact Zs rfl rfl
   ·intro _ _ _ _;refine W_nil_pl rfl rfl ?_;exact Zs rfl rfl
   ·intro _ _ _ _;refine W_field_pl 1 rfl Ty.field111_1 rfl ?_;exact Zs rfl rfl
   ·intro w57 vq57 hB57 hH57;have hS57 := hS1.below hB57;refine W_bld1 0 rfl Ty.cell3 rfl hS57 rfl rfl ?_;exact Zs rfl rfl
   ·intro _ _ _ _;refine W_move rfl rfl ?_;exact Zs rfl rfl
   ·intro _ _ _ _;refine W_add rfl rfl rfl rfl ?_;exact Zs rfl rfl
  intro w60 vq60 hB60 hH60;have hS60 := hS1.below hB60;refine W_cutM x0.at_ (wr (x0.at_ + x1)) rfl Try.underlying25 Ty.cells5 Ty.info5 rfl ⟨_, rfl⟩ ⟨_, rfl⟩ (hv0_0.mono le1) hl44 ?_;intro q45 hv45;refine W_assign rfl rfl ?_;refine W_nil ?_;refine N_code ?_;refine C_seq ?_;refine C_region ?_;refine W_move rfl rfl ?_;refine W_move rfl rfl ?_;refine W_nil_pl rfl rfl ?_;refine W_field_pl 1 rfl Ty.field111_1 rfl ?_;refine W_bld1 0 rfl Ty.cell3 rfl hS60 rfl rfl ?_;refine W_move rfl rfl ?_;refine W_add rfl rfl rfl rfl ?_;refine W_nil_pl rfl rfl ?_;refine W_field_pl 1 rfl Ty.field111_1 rfl ?_;refine W_bst (c := [.int .i64 (wr (x0.at_ + x1))]) 0 ([v0_0, .int .i64 (wr (x0.at_ + x1)), .bool x0.bad]) rfl rfl hS60 rfl rfl Ty.size3 (by intro y hy; simp at hy; subst hy; rfl) (Nat.le_of_ble_eq_true rfl) rfl ?_;intro w61 hS61;refine W_nil ?_;refine N_code ?_;refine C_seq ?_;refine C_region ?_;refine W_move rfl rfl ?_;refine W_assign rfl rfl ?_;refine W_nil ?_;refine N_code ?_;obtain rfl := Option.some.inj H;refine C_ret rfl rfl ?_;exact ⟨F1, q45, v0_0, rfl, hv45, (hv0_0.mono le1), hS61⟩

def cellarerref14_num.k1 (i2 : Int) : Option Int :=
  some i2


def cellarerref14_num.l2 (x0 : List UInt8) (rec6 : (Int × Int) → Option Int) : (Int × Int) → Option Int
  | (i4, i5) =>
    if decide (i5 < (x0.length : Int)) then
      bd (ix x0 i5) fun x8 =>
      rec6 (bits .or .i64 (wr (i4 * 2 ^ (8 : Int).toNat)) (x8.toNat : Int), wr (i5 + 1))
    else
      cellarerref14_num.k1 i4

def cellarerref14_num (x0 : List UInt8) : Option Int :=
  loop (cellarerref14_num.l2 x0) (0, 0)

theorem cellarerref14_num_ok {F : Frz} {w : World} {x0 : List UInt8} {r : Int} {v0 : Value} (hA : Agree F w.heap) (h0 : SlF tB F v0 x0) (H : cellarerref14_num x0 = some r) : Ret Try.prog 82 #[v0] w fun v w' => ∃ (F' : Frz), v = .int .i64 r ∧ St [] w F F' [] w' := by
 refine Ret_of (args := [v0]) Try.func82 rfl rfl ?_;change C _ _ _ _ [(0, v0)] _;have hS := St.entry hA;dsimp only [cellarerref14_num] at H;refine C_seq ?_;refine C_region ?_;refine W_assign rfl rfl ?_;refine W_nil ?_;refine N_code ?_;refine C_seq ?_;refine C_region ?_;refine W_assign rfl rfl ?_;refine W_nil ?_;refine N_code ?_;refine C_seq_join (fun E wq => ∃ i2 : Int, cellarerref14_num.k1 i2 = some r ∧ ∃ (F1 : Frz), E = [(3, .int .i64 i2)] ∧ F.le F1 ∧ St [] w F F1 [] wq) ?_ ?_
 ·refine C_seq ?_;refine C_region ?_;refine W_assign rfl rfl ?_;refine W_nil ?_;refine N_code ?_;refine C_block ?_;refine C_loopM (fun (s : Int × Int) E wq => ∃ (F3 : Frz), E = [(0, v0), (3, .int .i64 s.1), (4, .int .i64 s.2)] ∧ F.le F3 ∧ St [] w F F3 [] wq) H ?_ ?_
  ·exact ⟨_, ⟨F, rfl, (Frz.le.refl _), hS⟩, ⟨rfl, rfl, rfl, trivial⟩⟩
  ·rintro rec6 ⟨i4, i5⟩ E w3 hI H;(try dsimp only at hI);obtain ⟨F3, rfl, le3, hS3⟩ := hI;dsimp only [cellarerref14_num.l2] at H;refine C_seq ?_;refine C_seq ?_;refine C_region ?_;refine W_move rfl rfl ?_;refine W_move rfl rfl ?_;refine W_lenv rfl Try.underlying25 rfl h0.ln ?_;refine W_lss rfl rfl rfl ?_;refine W_nil ?_;refine N_code ?_;refine C_cond rfl (fun hc7 => ?_) (fun hc7 => ?_)
   ·rw [if_t hc7] at H;refine C_skip ?_;refine N_code ?_;refine C_seq ?_;refine C_block ?_;obtain ⟨x8, hx8, H⟩ := bd_some H;refine C_region ?_;refine W_move rfl rfl ?_;refine W_shl rfl rfl rfl (by decide) (by decide) rfl ?_;refine W_move rfl rfl ?_;refine W_move rfl rfl ?_;obtain ⟨hp10, hy10⟩ := ix_some hx8;obtain ⟨cs10, hr10, he10⟩ := (h0.mono le3).at_ hy10;obtain rfl := hr10;replace he10 : Elf _ _ 1 _ _ := he10;refine W_ix rfl Try.underlying25 Ty.cells5 Ty.info5 rfl rfl (he10.el hS3.agree) hp10 rfl ?_;refine W_ld1 0 rfl Ty.cell5 rfl (he10.el hS3.agree) (by omega) rfl ?_;refine W_conv rfl rfl Ty.some5 Try.underlying3 (u8_i64 _) ?_;refine W_bits (.inr (.inl rfl)) rfl rfl rfl rfl ?_;refine W_assign rfl rfl ?_;refine W_nil ?_;refine N_block ?_;refine N_code ?_;refine C_region ?_;refine W_move rfl rfl ?_;refine W_add rfl rfl rfl rfl ?_;refine W_assign rfl rfl ?_;refine W_nil ?_;exact N_againM (bits .or .i64 (wr (i4 * 2 ^ (8 : Int).toNat)) (x8.toNat : Int), wr (i5 + 1)) _ H ⟨F3, rfl, le3, hS3⟩ ⟨rfl, rfl, rfl, trivial⟩
   ·rw [if_f hc7] at H;refine C_exit _ rfl ?_;exact N_join _ ⟨i4, H, ⟨F3, rfl, le3, hS3⟩⟩ ⟨rfl, trivial⟩
 ·rintro E w1 ⟨i2, H, F1, rfl, le1, hS1⟩;dsimp only [cellarerref14_num.k1] at H;refine C_seq ?_;refine C_region ?_;refine W_move rfl rfl ?_;refine W_assign rfl rfl ?_;refine W_nil ?_;refine N_code ?_;obtain rfl := Option.some.inj H;refine C_ret rfl rfl ?_;exact ⟨F1, rfl, hS1⟩

def cellarerref14_ReadManifest.k1 (x0 : List UInt8) (r6 : (List UInt8) × Cellarerref14Cutter) (l17 : List UInt8) (i20 : Int) (b21 : Bool) (l22 : List Part) : Option (Manifest × Bool) :=
  bd (only (!(b21 || decide (i20 ≠ (x0.length : Int)))) (cellarerref14_Manifest (Manifest.mk r6.1 l22)) false) fun r25 =>
  if ((b21 || decide (i20 ≠ (x0.length : Int))) || (!r25)) then
    some ((Manifest.mk [] []), false)
  else
    some ((Manifest.mk r6.1 l22), true)


def cellarerref14_ReadManifest.k3 (i36 : Int) (rec45 : (Int × (List UInt8) × Int × Bool × (List Part)) → Option (Manifest × Bool)) (l50 : List UInt8) (i53 : Int) (b54 : Bool) (l55 : List Part) : Option (Manifest × Bool) :=
  rec45 (wr (i36 + 1), l50, i53, b54, l55)


def cellarerref14_ReadManifest.k4 (i36 : Int) (l42 : List Part) (rec45 : (Int × (List UInt8) × Int × Bool × (List Part)) → Option (Manifest × Bool)) (r60 : (List UInt8) × Cellarerref14Cutter) (r62 : Int) (l771 : List UInt8) (i774 : Int) (b775 : Bool) (l776 : List (List UInt8)) : Option (Manifest × Bool) :=
  bd (app (α := Part) l42 [(Part.mk r60.1 r62 l776)]) fun l780 =>
  cellarerref14_ReadManifest.k3 i36 rec45 l771 i774 b775 l780


def cellarerref14_ReadManifest.l5 (i36 : Int) (l42 : List Part) (rec45 : (Int × (List UInt8) × Int × Bool × (List Part)) → Option (Manifest × Bool)) (r60 : (List UInt8) × Cellarerref14Cutter) (r62 : Int) (r767 : Int) (rec794 : (Int × (List UInt8) × Int × Bool × (List (List UInt8))) → Option (Manifest × Bool)) : (Int × (List UInt8) × Int × Bool × (List (List UInt8))) → Option (Manifest × Bool)
  | (i785, l786, i789, b790, l791) =>
    if (decide (i785 < r767) && (!b790)) then
      bd (cellarerref14_cutter_take_fz (Cellarerref14Cutter.mk l786 i789 b790) 32) fun r800 =>
      bd (app (α := (List UInt8)) l791 [(cpy (List.replicate 32 (0 : UInt8)) r800.1)]) fun l813 =>
      rec794 (wr (i785 + 1), r800.2.b, r800.2.at_, r800.2.bad, l813)
    else
      cellarerref14_ReadManifest.k4 i36 l42 rec45 r60 r62 l786 i789 b790 l791


def cellarerref14_ReadManifest.l2 (x0 : List UInt8) (r6 : (List UInt8) × Cellarerref14Cutter) (r13 : Int) (rec45 : (Int × (List UInt8) × Int × Bool × (List Part)) → Option (Manifest × Bool)) : (Int × (List UInt8) × Int × Bool × (List Part)) → Option (Manifest × Bool)
  | (i36, l37, i40, b41, l42) =>
    if (decide (i36 < r13) && (!b41)) then
      bd (cellarerref14_cutter_take_fz (Cellarerref14Cutter.mk l37 i40 b41) 1) fun r58 =>
      bd (cellarerref14_num r58.1) fun r59 =>
      bd (cellarerref14_cutter_take_fz r58.2 r59) fun r60 =>
      bd (cellarerref14_cutter_take_fz r60.2 2) fun r61 =>
      bd (cellarerref14_num r61.1) fun r62 =>
      bd (cellarerref14_cutter_take_fz r61.2 1) fun r766 =>
      bd (cellarerref14_num r766.1) fun r767 =>
      loop (cellarerref14_ReadManifest.l5 i36 l42 rec45 r60 r62 r767) (0, r766.2.b, r766.2.at_, r766.2.bad, [])
    else
      cellarerref14_ReadManifest.k1 x0 r6 l37 i40 b41 l42

def cellarerref14_ReadManifest (x0 : List UInt8) : Option (Manifest × Bool) :=
  bd (cellarerref14_cutter_take_fz (Cellarerref14Cutter.mk x0 0 false) 1) fun r4 =>
  bd (cellarerref14_num r4.1) fun r5 =>
  bd (cellarerref14_cutter_take_fz r4.2 r5) fun r6 =>
  bd (cellarerref14_cutter_take_fz r6.2 1) fun r12 =>
  bd (cellarerref14_num r12.1) fun r13 =>
  loop (cellarerref14_ReadManifest.l2 x0 r6 r13) (0, r12.2.b, r12.2.at_, r12.2.bad, [])

set_option maxHeartbeats 2000000 in
theorem cellarerref14_ReadManifest_ok {F : Frz} {w : World} {x0 : List UInt8} {r : Manifest × Bool} {v0 : Value} (hA : Agree F w.heap) (h0 : SlF tB F v0 x0) (H : cellarerref14_ReadManifest x0 = some r) : Ret Try.prog 38 #[v0] w fun v w' => ∃ (F' : Frz) (q0_0 : Value), v = .tuple #[.agg (Manifest.cells r.1 q0_0).toArray, .bool r.2] ∧ SlF Part.t F' q0_0 (r.1.parts) ∧ St [] w F F' [] w' := by
 refine Ret_of (args := [v0]) Try.func38 rfl rfl ?_;change C _ _ _ _ [(0, v0)] _;have hS := St.entry hA;dsimp only [cellarerref14_ReadManifest] at H;refine C_seq ?_;refine C_region ?_;refine W_alc (cs := [strV [], .slice none 0 0]) rfl Ty.zero45 rfl hS ?_;intro g1 w1 hS1;refine W_assign rfl rfl ?_;refine W_nil ?_;refine N_code ?_;refine C_seq ?_;refine C_region ?_;refine W_move rfl rfl ?_;obtain ⟨ao3, m3, c3, hu3⟩ := h0.ln.form;refine W_build (v := .agg (Cellarerref14Cutter.cells (Cellarerref14Cutter.mk x0 0 false) v0).toArray) rfl rfl (fun _ => by rw [hu3]; kernel_rfl) ?_;refine W_bx (cs := [v0, .int .i64 0, .bool false]) rfl rfl rfl hS1 ?_;intro g2 w2 hS2;refine W_assign rfl rfl ?_;refine W_nil ?_;refine N_code ?_;refine C_seq ?_;obtain ⟨r4, hr4, H⟩ := bd_some H;obtain ⟨r5, hr5, H⟩ := bd_some H;obtain ⟨r6, hr6, H⟩ := bd_some H;refine C_region ?_;refine W_move rfl rfl ?_;refine W_move rfl rfl ?_;refine W_call rfl Ty.named81 rfl (cellarerref14_cutter_take_fz_ok (x0 := (Cellarerref14Cutter.mk x0 0 false)) (x1 := 1) (hS2.lendL [0] (by decide)) h0 hr4) ?_;rintro ur4_0 w8 ⟨Fr4, _, ur4_b0_0, rfl, hfr4_0, hfr4_b0_0, hT8⟩;have hS8 := hS2.backL [0] [1] (by decide) (by decide) hT8;have ler4 := hT8.ext;refine W_call rfl Ty.named82 rfl (cellarerref14_num_ok hS8.agree hfr4_0 hr5) ?_;rintro v9 w9 ⟨Fr5, rfl, hT9⟩;have hS9 := hS8.lent hT9;refine W_call rfl Ty.named81 rfl (cellarerref14_cutter_take_fz_ok (x0 := r4.2) (x1 := r5) (hS9.lendL [0] (by decide)) hfr4_b0_0 hr6) ?_;rintro ur6_0 w10 ⟨Fr6, _, ur6_b0_0, rfl, hfr6_0, hfr6_b0_0, hT10⟩;have hS10 := hS9.backL [0] [1] (by decide) (by decide) hT10;have ler6 := hT10.ext;refine W_bstr rfl Try.underlying25 Try.underlying5 Try.underlying9 rfl (hfr6_0.src hS10.agree) ?_;refine W_build (v := .agg (Manifest.cells (Manifest.mk r6.1 []) (.slice none 0 0)).toArray) rfl rfl (fun _ => by kernel_rfl) ?_;refine W_alc (cs := [strV [], .slice none 0 0]) rfl Ty.zero45 rfl hS10 ?_;intro g7 w7 hS7;refine W_bst (c := [strV r6.1, .slice none 0 0]) 0 ([strV r6.1, .slice none 0 0]) rfl rfl hS7 rfl rfl Ty.size45 (fun y hy => Manifest.t.one (F := Fr6) (x := (Manifest.mk r6.1 [])) ⟨.slice none 0 0, rfl, (SlF.nil _)⟩ y hy) (Nat.le_of_ble_eq_true rfl) rfl ?_;intro w11 hS11;refine W_nil ?_;refine N_code ?_;refine C_seq ?_;obtain ⟨r12, hr12, H⟩ := bd_some H;obtain ⟨r13, hr13, H⟩ := bd_some H;refine C_region ?_;refine W_move rfl rfl ?_;refine W_call rfl Ty.named81 rfl (cellarerref14_cutter_take_fz_ok (x0 := r6.2) (x1 := 1) (hS11.lendL [1] (by decide)) hfr6_b0_0 hr12) ?_;rintro ur12_0 w14 ⟨Fr12, _, ur12_b0_0, rfl, hfr12_0, hfr12_b0_0, hT14⟩;have hS14 := hS11.backL [1] [0, 2] (by decide) (by decide) hT14;have ler12 := hT14.ext;refine W_call rfl Ty.named82 rfl (cellarerref14_num_ok hS14.agree hfr12_0 hr13) ?_;rintro v15 w15 ⟨Fr13, rfl, hT15⟩;have hS15 := hS14.lent hT15;refine W_assign rfl rfl ?_;refine W_nil ?_;refine N_code ?_
 refine C_seq_join (fun E wq => ∃ l17 : List UInt8, ∃ i20 : Int, ∃ b21 : Bool, ∃ l22 : List Part, cellarerref14_ReadManifest.k1 x0 r6 l17 i20 b21 l22 = some r ∧ ∃ (F16 : Frz) (u18 : Value) (u23 : Value), E = [(0, v0), (2, pl g1 0), (4, pl g2 0), (5, pl g7 0)] ∧ Fr12.le F16 ∧ SlF tB F16 u18 l17 ∧ St [] w F F16 [.box g2 111 [u18, .int .i64 i20, .bool b21], .box g7 45 [strV r6.1, u23], .box g1 45 [strV [], .slice none 0 0], .row Part.t 51 u23 l22] wq) ?_ ?_
 ·refine C_seq ?_;refine C_region ?_;refine W_assign rfl rfl ?_;refine W_nil ?_;refine N_code ?_;refine C_block ?_;refine C_loopM (fun (s : Int × (List UInt8) × Int × Bool × (List Part)) E wq => ∃ (F35 : Frz) (u38 : Value) (u43 : Value), E = [(0, v0), (2, pl g1 0), (4, pl g2 0), (5, pl g7 0), (6, .int .i64 r13), (7, .int .i64 s.1)] ∧ Fr12.le F35 ∧ SlF tB F35 u38 s.2.1 ∧ St [] w F F35 [.box g2 111 [u38, .int .i64 s.2.2.1, .bool s.2.2.2.1], .box g7 45 [strV r6.1, u43], .box g1 45 [strV [], .slice none 0 0], .row Part.t 51 u43 s.2.2.2.2] wq) H ?_ ?_
  ·have hS819 := hS15.nilRow Part.t 51;exact ⟨_, ⟨Fr12, ur12_b0_0, (.slice none 0 0), rfl, (Frz.le.refl _), hfr12_b0_0, hS819.pick [1, 2, 3, 0] (by decide)⟩, ⟨rfl, rfl, rfl, rfl, rfl, rfl, trivial⟩⟩
  ·rintro rec45 ⟨i36, l37, i40, b41, l42⟩ E w35 hI H;(try dsimp only at hI);obtain ⟨F35, u38, u43, rfl, le35, hx39, hS35⟩ := hI;dsimp only [cellarerref14_ReadManifest.l2] at H;refine C_seq ?_;refine C_seq ?_;refine C_join (fun E wq => E = [(0, v0), (2, pl g1 0), (4, pl g2 0), (5, pl g7 0), (6, .int .i64 r13), (7, .int .i64 i36), (34, .bool (decide (i36 < r13) && (!b41)))] ∧ ∃ F46 : Frz, F35.le F46 ∧ St [] w F F46 [.box g2 111 [u38, .int .i64 i40, .bool b41], .box g7 45 [strV r6.1, u43], .box g1 45 [strV [], .slice none 0 0], .row Part.t 51 u43 l42] wq) ?_ ?_
   ·
    rcases Bool.eq_false_or_eq_true (decide (i36 < r13)) with hb47 | hb47
    ·refine C_region ?_;refine W_move rfl rfl ?_;refine W_move rfl rfl ?_;refine W_lss rfl rfl rfl ?_;refine W_move rfl rfl ?_;refine W_known (t := 28) true rfl hb47 ?_;refine W_guard_yes rfl ?_;refine W_move rfl rfl ?_;refine W_guard_yes rfl ?_;refine W_nil_pl rfl rfl ?_;refine W_guard_yes rfl ?_;refine W_field_pl 2 rfl Ty.field111_2 rfl ?_;refine W_guard_yes rfl ?_;refine W_bld1 0 rfl Ty.cell4 rfl hS35 rfl rfl ?_;refine W_guard_yes rfl ?_;refine W_not rfl rfl ?_;refine W_pick_t rfl rfl rfl ?_;refine W_nil ?_;exact N_join _ ⟨rfl, F35, (Frz.le.refl _), hS35⟩ ⟨rfl, rfl, rfl, rfl, rfl, rfl, (look_bool rfl (by first | rfl | (rw [hb47]; first | done | rfl) | simp [hb47])), trivial⟩
    ·refine C_region ?_;refine W_move rfl rfl ?_;refine W_move rfl rfl ?_;refine W_lss rfl rfl rfl ?_;refine W_move rfl rfl ?_;refine W_known (t := 28) false rfl hb47 ?_;refine W_guard_no rfl rfl rfl rfl rfl ?_;refine W_guard_no rfl rfl rfl rfl rfl ?_;refine W_guard_no rfl rfl rfl rfl rfl ?_;refine W_guard_no rfl rfl rfl rfl rfl ?_;refine W_guard_no rfl rfl rfl rfl rfl ?_;refine W_pick_f rfl rfl rfl ?_;refine W_nil ?_;exact N_join _ ⟨rfl, F35, (Frz.le.refl _), hS35⟩ ⟨rfl, rfl, rfl, rfl, rfl, rfl, (look_bool rfl (by first | rfl | (rw [hb47]; first | done | rfl) | simp [hb47])), trivial⟩
   rintro E w46 ⟨rfl, F46, le46, hS46⟩;refine N_code ?_;refine C_cond rfl (fun hc48 => ?_) (fun hc48 => ?_)
   ·rw [if_t hc48] at H;refine C_skip ?_;refine N_code ?_;refine C_seq_join (fun E wq => ∃ l50 : List UInt8, ∃ i53 : Int, ∃ b54 : Bool, ∃ l55 : List Part, cellarerref14_ReadManifest.k3 i36 rec45 l50 i53 b54 l55 = some r ∧ ∃ (F49 : Frz) (u51 : Value) (u56 : Value), E = [(0, v0), (2, pl g1 0), (4, pl g2 0), (5, pl g7 0), (6, .int .i64 r13), (7, .int .i64 i36)] ∧ F46.le F49 ∧ SlF tB F49 u51 l50 ∧ St [] w F F49 [.box g2 111 [u51, .int .i64 i53, .bool b54], .box g7 45 [strV r6.1, u56], .box g1 45 [strV [], .slice none 0 0], .row Part.t 51 u56 l55] wq) ?_ ?_
    ·refine C_block ?_;refine C_seq ?_;obtain ⟨r58, hr58, H⟩ := bd_some H;obtain ⟨r59, hr59, H⟩ := bd_some H;obtain ⟨r60, hr60, H⟩ := bd_some H;obtain ⟨r61, hr61, H⟩ := bd_some H;obtain ⟨r62, hr62, H⟩ := bd_some H
     apply C_drawJ (fun D vs wz => ∀ (b2 b3 b4 b5 b7 b8 b9 b10 : Bool), D 2 = b2 → D 3 = b3 → D 4 = b4 → D 5 = b5 → D 7 = b7 → D 8 = b8 → D 9 = b9 → D 10 = b10 → match b2, b3, b4, b5, b7, b8, b9, b10 with | false, false, false, false, false, false, false, false => ∃ FJ : Frz, F46.le FJ ∧ St [] w F FJ [.box g2 111 [u38, .int .i64 i40, .bool b41], .box g7 45 [strV r6.1, u43], .box g1 45 [strV [], .slice none 0 0], .row Part.t 51 u43 l42] wz | true, false, false, false, false, false, false, false => ∃ FJ : Frz, ∃ ur58_0 : Value, ∃ ur58_b0_0 : Value, vs 2 = ur58_0 ∧ F46.le FJ ∧ SlF tB FJ ur58_0 r58.1 ∧ SlF tB FJ ur58_b0_0 r58.2.b ∧ St [] w F FJ [.box g2 111 [ur58_b0_0, .int .i64 r58.2.at_, .bool r58.2.bad], .box g7 45 [strV r6.1, u43], .box g1 45 [strV [], .slice none 0 0], .row Part.t 51 u43 l42] wz | true, true, false, false, false, false, false, false => ∃ FJ : Frz, ∃ ur58_0 : Value, ∃ ur58_b0_0 : Value, vs 2 = ur58_0 ∧ vs 3 = .int .i64 r59 ∧ F46.le FJ ∧ SlF tB FJ ur58_0 r58.1 ∧ SlF tB FJ ur58_b0_0 r58.2.b ∧ St [] w F FJ [.box g2 111 [ur58_b0_0, .int .i64 r58.2.at_, .bool r58.2.bad], .box g7 45 [strV r6.1, u43], .box g1 45 [strV [], .slice none 0 0], .row Part.t 51 u43 l42] wz | true, true, true, false, false, false, false, false => ∃ FJ : Frz, ∃ ur58_0 : Value, ∃ ur58_b0_0 : Value, ∃ ur60_0 : Value, ∃ ur60_b0_0 : Value, vs 2 = ur58_0 ∧ vs 3 = .int .i64 r59 ∧ vs 4 = ur60_0 ∧ F46.le FJ ∧ SlF tB FJ ur58_0 r58.1 ∧ SlF tB FJ ur60_0 r60.1 ∧ SlF tB FJ ur60_b0_0 r60.2.b ∧ St [] w F FJ [.box g2 111 [ur60_b0_0, .int .i64 r60.2.at_, .bool r60.2.bad], .box g7 45 [strV r6.1, u43], .box g1 45 [strV [], .slice none 0 0], .row Part.t 51 u43 l42] wz | true, true, true, true, false, false, false, false => ∃ FJ : Frz, ∃ ur58_0 : Value, ∃ ur58_b0_0 : Value, ∃ ur60_0 : Value, ∃ ur60_b0_0 : Value, vs 2 = ur58_0 ∧ vs 3 = .int .i64 r59 ∧ vs 4 = ur60_0 ∧ vs 5 = strV r60.1 ∧ F46.le FJ ∧ SlF tB FJ ur58_0 r58.1 ∧ SlF tB FJ ur60_0 r60.1 ∧ SlF tB FJ ur60_b0_0 r60.2.b ∧ St [] w F FJ [.box g2 111 [ur60_b0_0, .int .i64 r60.2.at_, .bool r60.2.bad], .box g7 45 [strV r6.1, u43], .box g1 45 [strV [], .slice none 0 0], .row Part.t 51 u43 l42] wz | true, true, true, false, true, false, false, false => ∃ FJ : Frz, ∃ ur58_0 : Value, ∃ ur58_b0_0 : Value, ∃ ur60_0 : Value, ∃ ur60_b0_0 : Value, ∃ ur61_0 : Value, ∃ ur61_b0_0 : Value, vs 2 = ur58_0 ∧ vs 3 = .int .i64 r59 ∧ vs 4 = ur60_0 ∧ vs 7 = ur61_0 ∧ F46.le FJ ∧ SlF tB FJ ur58_0 r58.1 ∧ SlF tB FJ ur60_0 r60.1 ∧ SlF tB FJ ur61_0 r61.1 ∧ SlF tB FJ ur61_b0_0 r61.2.b ∧ St [] w F FJ [.box g2 111 [ur61_b0_0, .int .i64 r61.2.at_, .bool r61.2.bad], .box g7 45 [strV r6.1, u43], .box g1 45 [strV [], .slice none 0 0], .row Part.t 51 u43 l42] wz | true, true, true, true, true, false, false, false => ∃ FJ : Frz, ∃ ur58_0 : Value, ∃ ur58_b0_0 : Value, ∃ ur60_0 : Value, ∃ ur60_b0_0 : Value, ∃ ur61_0 : Value, ∃ ur61_b0_0 : Value, vs 2 = ur58_0 ∧ vs 3 = .int .i64 r59 ∧ vs 4 = ur60_0 ∧ vs 5 = strV r60.1 ∧ vs 7 = ur61_0 ∧ F46.le FJ ∧ SlF tB FJ ur58_0 r58.1 ∧ SlF tB FJ ur60_0 r60.1 ∧ SlF tB FJ ur61_0 r61.1 ∧ SlF tB FJ ur61_b0_0 r61.2.b ∧ St [] w F FJ [.box g2 111 [ur61_b0_0, .int .i64 r61.2.at_, .bool r61.2.bad], .box g7 45 [strV r6.1, u43], .box g1 45 [strV [], .slice none 0 0], .row Part.t 51 u43 l42] wz | true, true, true, false, true, true, false, false => ∃ FJ : Frz, ∃ ur58_0 : Value, ∃ ur58_b0_0 : Value, ∃ ur60_0 : Value, ∃ ur60_b0_0 : Value, ∃ ur61_0 : Value, ∃ ur61_b0_0 : Value, vs 2 = ur58_0 ∧ vs 3 = .int .i64 r59 ∧ vs 4 = ur60_0 ∧ vs 7 = ur61_0 ∧ vs 8 = .int .i64 r62 ∧ F46.le FJ ∧ SlF tB FJ ur58_0 r58.1 ∧ SlF tB FJ ur60_0 r60.1 ∧ SlF tB FJ ur61_0 r61.1 ∧ SlF tB FJ ur61_b0_0 r61.2.b ∧ St [] w F FJ [.box g2 111 [ur61_b0_0, .int .i64 r61.2.at_, .bool r61.2.bad], .box g7 45 [strV r6.1, u43], .box g1 45 [strV [], .slice none 0 0], .row Part.t 51 u43 l42] wz | true, true, true, true, true, true, false, false => ∃ FJ : Frz, ∃ ur58_0 : Value, ∃ ur58_b0_0 : Value, ∃ ur60_0 : Value, ∃ ur60_b0_0 : Value, ∃ ur61_0 : Value, ∃ ur61_b0_0 : Value, vs 2 = ur58_0 ∧ vs 3 = .int .i64 r59 ∧ vs 4 = ur60_0 ∧ vs 5 = strV r60.1 ∧ vs 7 = ur61_0 ∧ vs 8 = .int .i64 r62 ∧ F46.le FJ ∧ SlF tB FJ ur58_0 r58.1 ∧ SlF tB FJ ur60_0 r60.1 ∧ SlF tB FJ ur61_0 r61.1 ∧ SlF tB FJ ur61_b0_0 r61.2.b ∧ St [] w F FJ [.box g2 111 [ur61_b0_0, .int .i64 r61.2.at_, .bool r61.2.bad], .box g7 45 [strV r6.1, u43], .box g1 45 [strV [], .slice none 0 0], .row Part.t 51 u43 l42] wz | true, true, true, true, true, true, true, false => ∃ FJ : Frz, ∃ ur58_0 : Value, ∃ ur58_b0_0 : Value, ∃ ur60_0 : Value, ∃ ur60_b0_0 : Value, ∃ ur61_0 : Value, ∃ ur61_b0_0 : Value, vs 2 = ur58_0 ∧ vs 3 = .int .i64 r59 ∧ vs 4 = ur60_0 ∧ vs 5 = strV r60.1 ∧ vs 7 = ur61_0 ∧ vs 8 = .int .i64 r62 ∧ vs 9 = .agg (Part.cells (Part.mk r60.1 r62 []) (.slice none 0 0)).toArray ∧ F46.le FJ ∧ SlF tB FJ ur58_0 r58.1 ∧ SlF tB FJ ur60_0 r60.1 ∧ SlF tB FJ ur61_0 r61.1 ∧ SlF tB FJ ur61_b0_0 r61.2.b ∧ St [] w F FJ [.box g2 111 [ur61_b0_0, .int .i64 r61.2.at_, .bool r61.2.bad], .box g7 45 [strV r6.1, u43], .box g1 45 [strV [], .slice none 0 0], .row Part.t 51 u43 l42] wz | false, false, false, false, false, false, false, true => ∃ FJ : Frz, ∃ g63 : Nat, vs 10 = pl g63 0 ∧ F46.le FJ ∧ St [] w F FJ [.box g63 51 [strV [], .int .i64 0, .slice none 0 0], .box g2 111 [u38, .int .i64 i40, .bool b41], .box g7 45 [strV r6.1, u43], .box g1 45 [strV [], .slice none 0 0], .row Part.t 51 u43 l42] wz | true, false, false, false, false, false, false, true => ∃ FJ : Frz, ∃ ur58_0 : Value, ∃ ur58_b0_0 : Value, ∃ g63 : Nat, vs 2 = ur58_0 ∧ vs 10 = pl g63 0 ∧ F46.le FJ ∧ SlF tB FJ ur58_0 r58.1 ∧ SlF tB FJ ur58_b0_0 r58.2.b ∧ St [] w F FJ [.box g63 51 [strV [], .int .i64 0, .slice none 0 0], .box g2 111 [ur58_b0_0, .int .i64 r58.2.at_, .bool r58.2.bad], .box g7 45 [strV r6.1, u43], .box g1 45 [strV [], .slice none 0 0], .row Part.t 51 u43 l42] wz | true, true, false, false, false, false, false, true => ∃ FJ : Frz, ∃ ur58_0 : Value, ∃ ur58_b0_0 : Value, ∃ g63 : Nat, vs 2 = ur58_0 ∧ vs 3 = .int .i64 r59 ∧ vs 10 = pl g63 0 ∧ F46.le FJ ∧ SlF tB FJ ur58_0 r58.1 ∧ SlF tB FJ ur58_b0_0 r58.2.b ∧ St [] w F FJ [.box g63 51 [strV [], .int .i64 0, .slice none 0 0], .box g2 111 [ur58_b0_0, .int .i64 r58.2.at_, .bool r58.2.bad], .box g7 45 [strV r6.1, u43], .box g1 45 [strV [], .slice none 0 0], .row Part.t 51 u43 l42] wz | true, true, true, false, false, false, false, true => ∃ FJ : Frz, ∃ ur58_0 : Value, ∃ ur58_b0_0 : Value, ∃ ur60_0 : Value, ∃ ur60_b0_0 : Value, ∃ g63 : Nat, vs 2 = ur58_0 ∧ vs 3 = .int .i64 r59 ∧ vs 4 = ur60_0 ∧ vs 10 = pl g63 0 ∧ F46.le FJ ∧ SlF tB FJ ur58_0 r58.1 ∧ SlF tB FJ ur60_0 r60.1 ∧ SlF tB FJ ur60_b0_0 r60.2.b ∧ St [] w F FJ [.box g63 51 [strV [], .int .i64 0, .slice none 0 0], .box g2 111 [ur60_b0_0, .int .i64 r60.2.at_, .bool r60.2.bad], .box g7 45 [strV r6.1, u43], .box g1 45 [strV [], .slice none 0 0], .row Part.t 51 u43 l42] wz | true, true, true, true, false, false, false, true => ∃ FJ : Frz, ∃ ur58_0 : Value, ∃ ur58_b0_0 : Value, ∃ ur60_0 : Value, ∃ ur60_b0_0 : Value, ∃ g63 : Nat, vs 2 = ur58_0 ∧ vs 3 = .int .i64 r59 ∧ vs 4 = ur60_0 ∧ vs 5 = strV r60.1 ∧ vs 10 = pl g63 0 ∧ F46.le FJ ∧ SlF tB FJ ur58_0 r58.1 ∧ SlF tB FJ ur60_0 r60.1 ∧ SlF tB FJ ur60_b0_0 r60.2.b ∧ St [] w F FJ [.box g63 51 [strV [], .int .i64 0, .slice none 0 0], .box g2 111 [ur60_b0_0, .int .i64 r60.2.at_, .bool r60.2.bad], .box g7 45 [strV r6.1, u43], .box g1 45 [strV [], .slice none 0 0], .row Part.t 51 u43 l42] wz | true, true, true, false, true, false, false, true => ∃ FJ : Frz, ∃ ur58_0 : Value, ∃ ur58_b0_0 : Value, ∃ ur60_0 : Value, ∃ ur60_b0_0 : Value, ∃ ur61_0 : Value, ∃ ur61_b0_0 : Value, ∃ g63 : Nat, vs 2 = ur58_0 ∧ vs 3 = .int .i64 r59 ∧ vs 4 = ur60_0 ∧ vs 7 = ur61_0 ∧ vs 10 = pl g63 0 ∧ F46.le FJ ∧ SlF tB FJ ur58_0 r58.1 ∧ SlF tB FJ ur60_0 r60.1 ∧ SlF tB FJ ur61_0 r61.1 ∧ SlF tB FJ ur61_b0_0 r61.2.b ∧ St [] w F FJ [.box g63 51 [strV [], .int .i64 0, .slice none 0 0], .box g2 111 [ur61_b0_0, .int .i64 r61.2.at_, .bool r61.2.bad], .box g7 45 [strV r6.1, u43], .box g1 45 [strV [], .slice none 0 0], .row Part.t 51 u43 l42] wz | true, true, true, true, true, false, false, true => ∃ FJ : Frz, ∃ ur58_0 : Value, ∃ ur58_b0_0 : Value, ∃ ur60_0 : Value, ∃ ur60_b0_0 : Value, ∃ ur61_0 : Value, ∃ ur61_b0_0 : Value, ∃ g63 : Nat, vs 2 = ur58_0 ∧ vs 3 = .int .i64 r59 ∧ vs 4 = ur60_0 ∧ vs 5 = strV r60.1 ∧ vs 7 = ur61_0 ∧ vs 10 = pl g63 0 ∧ F46.le FJ ∧ SlF tB FJ ur58_0 r58.1 ∧ SlF tB FJ ur60_0 r60.1 ∧ SlF tB FJ ur61_0 r61.1 ∧ SlF tB FJ ur61_b0_0 r61.2.b ∧ St [] w F FJ [.box g63 51 [strV [], .int .i64 0, .slice none 0 0], .box g2 111 [ur61_b0_0, .int .i64 r61.2.at_, .bool r61.2.bad], .box g7 45 [strV r6.1, u43], .box g1 45 [strV [], .slice none 0 0], .row Part.t 51 u43 l42] wz | true, true, true, false, true, true, false, true => ∃ FJ : Frz, ∃ ur58_0 : Value, ∃ ur58_b0_0 : Value, ∃ ur60_0 : Value, ∃ ur60_b0_0 : Value, ∃ ur61_0 : Value, ∃ ur61_b0_0 : Value, ∃ g63 : Nat, vs 2 = ur58_0 ∧ vs 3 = .int .i64 r59 ∧ vs 4 = ur60_0 ∧ vs 7 = ur61_0 ∧ vs 8 = .int .i64 r62 ∧ vs 10 = pl g63 0 ∧ F46.le FJ ∧ SlF tB FJ ur58_0 r58.1 ∧ SlF tB FJ ur60_0 r60.1 ∧ SlF tB FJ ur61_0 r61.1 ∧ SlF tB FJ ur61_b0_0 r61.2.b ∧ St [] w F FJ [.box g63 51 [strV [], .int .i64 0, .slice none 0 0], .box g2 111 [ur61_b0_0, .int .i64 r61.2.at_, .bool r61.2.bad], .box g7 45 [strV r6.1, u43], .box g1 45 [strV [], .slice none 0 0], .row Part.t 51 u43 l42] wz | true, true, true, true, true, true, false, true => ∃ FJ : Frz, ∃ ur58_0 : Value, ∃ ur58_b0_0 : Value, ∃ ur60_0 : Value, ∃ ur60_b0_0 : Value, ∃ ur61_0 : Value, ∃ ur61_b0_0 : Value, ∃ g63 : Nat, vs 2 = ur58_0 ∧ vs 3 = .int .i64 r59 ∧ vs 4 = ur60_0 ∧ vs 5 = strV r60.1 ∧ vs 7 = ur61_0 ∧ vs 8 = .int .i64 r62 ∧ vs 10 = pl g63 0 ∧ F46.le FJ ∧ SlF tB FJ ur58_0 r58.1 ∧ SlF tB FJ ur60_0 r60.1 ∧ SlF tB FJ ur61_0 r61.1 ∧ SlF tB FJ ur61_b0_0 r61.2.b ∧ St [] w F FJ [.box g63 51 [strV [], .int .i64 0, .slice none 0 0], .box g2 111 [ur61_b0_0, .int .i64 r61.2.at_, .bool r61.2.bad], .box g7 45 [strV r6.1, u43], .box g1 45 [strV [], .slice none 0 0], .row Part.t 51 u43 l42] wz | true, true, true, true, true, true, true, true => ∃ FJ : Frz, ∃ ur58_0 : Value, ∃ ur58_b0_0 : Value, ∃ ur60_0 : Value, ∃ ur60_b0_0 : Value, ∃ ur61_0 : Value, ∃ ur61_b0_0 : Value, ∃ g63 : Nat, vs 2 = ur58_0 ∧ vs 3 = .int .i64 r59 ∧ vs 4 = ur60_0 ∧ vs 5 = strV r60.1 ∧ vs 7 = ur61_0 ∧ vs 8 = .int .i64 r62 ∧ vs 9 = .agg (Part.cells (Part.mk r60.1 r62 []) (.slice none 0 0)).toArray ∧ vs 10 = pl g63 0 ∧ F46.le FJ ∧ SlF tB FJ ur58_0 r58.1 ∧ SlF tB FJ ur60_0 r60.1 ∧ SlF tB FJ ur61_0 r61.1 ∧ SlF tB FJ ur61_b0_0 r61.2.b ∧ St [] w F FJ [.box g63 51 [strV [], .int .i64 0, .slice none 0 0], .box g2 111 [ur61_b0_0, .int .i64 r61.2.at_, .bool r61.2.bad], .box g7 45 [strV r6.1, u43], .box g1 45 [strV [], .slice none 0 0], .row Part.t 51 u43 l42] wz | _, _, _, _, _, _, _, _ => False) 11 [[], [], [1], [2], [0, 3], [4], [], [4, 6], [7], [5, 8], []] [some (pl g2 0), some (pl g2 0), none, none, none, none, some (pl g2 0), none, none, none, none] Ty.mixed rfl (by kernel_rfl) (by kernel_rfl) rfl
     ·intro vq138 b2 b3 b4 b5 b7 b8 b9 b10 h2 h3 h4 h5 h7 h8 h9 h10;obtain rfl : b2 = false := h2.symm;obtain rfl : b3 = false := h3.symm;obtain rfl : b4 = false := h4.symm;obtain rfl : b5 = false := h5.symm;obtain rfl : b7 = false := h7.symm;obtain rfl : b8 = false := h8.symm;obtain rfl : b9 = false := h9.symm;obtain rfl : b10 = false := h10.symm;exact ⟨F46, (Frz.le.refl _), (hS46.below (below_drew _))⟩
     ·refine ⟨?_, ?_, ?_, ?_, ?_, ?_, ?_, ?_, ?_, ?_, ?_, trivial⟩
      ·intro w139 vq139 D139 hD139 hd139 hJ139;refine W_move rfl rfl ?_;refine W_nil ?_;exact N_stepJ rfl (fun u hu => Option.some.inj hu) hJ139
      ·intro w140 vq140 D140 hD140 hd140 hJ140;refine W_move rfl rfl ?_;refine W_nil ?_;exact N_stepJ rfl (fun u hu => Option.some.inj hu) hJ140
      ·intro w141 vq141 D141 hD141 hd141 hJ141
       rcases Bool.eq_false_or_eq_true (D141 3) with hb142 | hb142
       ·
        rcases Bool.eq_false_or_eq_true (D141 4) with hb143 | hb143
        ·
         rcases Bool.eq_false_or_eq_true (D141 5) with hb144 | hb144
         ·
          rcases Bool.eq_false_or_eq_true (D141 7) with hb145 | hb145
          ·
           rcases Bool.eq_false_or_eq_true (D141 8) with hb146 | hb146
           ·
            rcases Bool.eq_false_or_eq_true (D141 9) with hb147 | hb147
            ·
             rcases Bool.eq_false_or_eq_true (D141 10) with hb148 | hb148
             ·exact False.elim (hJ141 false true true true true true true true hD141 hb142 hb143 hb144 hb145 hb146 hb147 hb148)
             ·exact False.elim (hJ141 false true true true true true true false hD141 hb142 hb143 hb144 hb145 hb146 hb147 hb148)
            ·
             rcases Bool.eq_false_or_eq_true (D141 10) with hb149 | hb149
             ·exact False.elim (hJ141 false true true true true true false true hD141 hb142 hb143 hb144 hb145 hb146 hb147 hb149)
             ·exact False.elim (hJ141 false true true true true true false false hD141 hb142 hb143 hb144 hb145 hb146 hb147 hb149)
           ·
            rcases Bool.eq_false_or_eq_true (D141 9) with hb150 | hb150
            ·
             rcases Bool.eq_false_or_eq_true (D141 10) with hb151 | hb151
             ·exact False.elim (hJ141 false true true true true false true true hD141 hb142 hb143 hb144 hb145 hb146 hb150 hb151)
             ·exact False.elim (hJ141 false true true true true false true false hD141 hb142 hb143 hb144 hb145 hb146 hb150 hb151)
            ·
             rcases Bool.eq_false_or_eq_true (D141 10) with hb152 | hb152
             ·exact False.elim (hJ141 false true true true true false false true hD141 hb142 hb143 hb144 hb145 hb146 hb150 hb152)
             ·exact False.elim (hJ141 false true true true true false false false hD141 hb142 hb143 hb144 hb145 hb146 hb150 hb152)
          ·
           rcases Bool.eq_false_or_eq_true (D141 8) with hb153 | hb153
           ·
            rcases Bool.eq_false_or_eq_true (D141 9) with hb154 | hb154
            ·
             rcases Bool.eq_false_or_eq_true (D141 10) with hb155 | hb155
             ·exact False.elim (hJ141 false true true true false true true true hD141 hb142 hb143 hb144 hb145 hb153 hb154 hb155)
             ·exact False.elim (hJ141 false true true true false true true false hD141 hb142 hb143 hb144 hb145 hb153 hb154 hb155)
            ·
             rcases Bool.eq_false_or_eq_true (D141 10) with hb156 | hb156
             ·exact False.elim (hJ141 false true true true false true false true hD141 hb142 hb143 hb144 hb145 hb153 hb154 hb156)
             ·exact False.elim (hJ141 false true true true false true false false hD141 hb142 hb143 hb144 hb145 hb153 hb154 hb156)
           ·
            rcases Bool.eq_false_or_eq_true (D141 9) with hb157 | hb157
            ·
             rcases Bool.eq_false_or_eq_true (D141 10) with hb158 | hb158
             ·exact False.elim (hJ141 false true true true false false true true hD141 hb142 hb143 hb144 hb145 hb153 hb157 hb158)
             ·exact False.elim (hJ141 false true true true false false true false hD141 hb142 hb143 hb144 hb145 hb153 hb157 hb158)
            ·
             rcases Bool.eq_false_or_eq_true (D141 10) with hb159 | hb159
             ·exact False.elim (hJ141 false true true true false false false true hD141 hb142 hb143 hb144 hb145 hb153 hb157 hb159)
             ·exact False.elim (hJ141 false true true true false false false false hD141 hb142 hb143 hb144 hb145 hb153 hb157 hb159)
         ·
          rcases Bool.eq_false_or_eq_true (D141 7) with hb160 | hb160
          ·
           rcases Bool.eq_false_or_eq_true (D141 8) with hb161 | hb161
           ·
            rcases Bool.eq_false_or_eq_true (D141 9) with hb162 | hb162
            ·
             rcases Bool.eq_false_or_eq_true (D141 10) with hb163 | hb163
             ·exact False.elim (hJ141 false true true false true true true true hD141 hb142 hb143 hb144 hb160 hb161 hb162 hb163)
             ·exact False.elim (hJ141 false true true false true true true false hD141 hb142 hb143 hb144 hb160 hb161 hb162 hb163)
            ·
             rcases Bool.eq_false_or_eq_true (D141 10) with hb164 | hb164
             ·exact False.elim (hJ141 false true true false true true false true hD141 hb142 hb143 hb144 hb160 hb161 hb162 hb164)
             ·exact False.elim (hJ141 false true true false true true false false hD141 hb142 hb143 hb144 hb160 hb161 hb162 hb164)
           ·
            rcases Bool.eq_false_or_eq_true (D141 9) with hb165 | hb165
            ·
             rcases Bool.eq_false_or_eq_true (D141 10) with hb166 | hb166
             ·exact False.elim (hJ141 false true true false true false true true hD141 hb142 hb143 hb144 hb160 hb161 hb165 hb166)
             ·exact False.elim (hJ141 false true true false true false true false hD141 hb142 hb143 hb144 hb160 hb161 hb165 hb166)
            ·
             rcases Bool.eq_false_or_eq_true (D141 10) with hb167 | hb167
             ·exact False.elim (hJ141 false true true false true false false true hD141 hb142 hb143 hb144 hb160 hb161 hb165 hb167)
             ·exact False.elim (hJ141 false true true false true false false false hD141 hb142 hb143 hb144 hb160 hb161 hb165 hb167)
          ·
           rcases Bool.eq_false_or_eq_true (D141 8) with hb168 | hb168
           ·
            rcases Bool.eq_false_or_eq_true (D141 9) with hb169 | hb169
            ·
             rcases Bool.eq_false_or_eq_true (D141 10) with hb170 | hb170
             ·exact False.elim (hJ141 false true true false false true true true hD141 hb142 hb143 hb144 hb160 hb168 hb169 hb170)
             ·exact False.elim (hJ141 false true true false false true true false hD141 hb142 hb143 hb144 hb160 hb168 hb169 hb170)
            ·
             rcases Bool.eq_false_or_eq_true (D141 10) with hb171 | hb171
             ·exact False.elim (hJ141 false true true false false true false true hD141 hb142 hb143 hb144 hb160 hb168 hb169 hb171)
             ·exact False.elim (hJ141 false true true false false true false false hD141 hb142 hb143 hb144 hb160 hb168 hb169 hb171)
           ·
            rcases Bool.eq_false_or_eq_true (D141 9) with hb172 | hb172
            ·
             rcases Bool.eq_false_or_eq_true (D141 10) with hb173 | hb173
             ·exact False.elim (hJ141 false true true false false false true true hD141 hb142 hb143 hb144 hb160 hb168 hb172 hb173)
             ·exact False.elim (hJ141 false true true false false false true false hD141 hb142 hb143 hb144 hb160 hb168 hb172 hb173)
            ·
             rcases Bool.eq_false_or_eq_true (D141 10) with hb174 | hb174
             ·exact False.elim (hJ141 false true true false false false false true hD141 hb142 hb143 hb144 hb160 hb168 hb172 hb174)
             ·exact False.elim (hJ141 false true true false false false false false hD141 hb142 hb143 hb144 hb160 hb168 hb172 hb174)
        ·
         rcases Bool.eq_false_or_eq_true (D141 5) with hb175 | hb175
         ·
          rcases Bool.eq_false_or_eq_true (D141 7) with hb176 | hb176
          ·
           rcases Bool.eq_false_or_eq_true (D141 8) with hb177 | hb177
           ·
            rcases Bool.eq_false_or_eq_true (D141 9) with hb178 | hb178
            ·
             rcases Bool.eq_false_or_eq_true (D141 10) with hb179 | hb179
             ·exact False.elim (hJ141 false true false true true true true true hD141 hb142 hb143 hb175 hb176 hb177 hb178 hb179)
             ·exact False.elim (hJ141 false true false true true true true false hD141 hb142 hb143 hb175 hb176 hb177 hb178 hb179)
            ·
             rcases Bool.eq_false_or_eq_true (D141 10) with hb180 | hb180
             ·exact False.elim (hJ141 false true false true true true false true hD141 hb142 hb143 hb175 hb176 hb177 hb178 hb180)
             ·exact False.elim (hJ141 false true false true true true false false hD141 hb142 hb143 hb175 hb176 hb177 hb178 hb180)
           ·
            rcases Bool.eq_false_or_eq_true (D141 9) with hb181 | hb181
            ·
             rcases Bool.eq_false_or_eq_true (D141 10) with hb182 | hb182
             ·exact False.elim (hJ141 false true false true true false true true hD141 hb142 hb143 hb175 hb176 hb177 hb181 hb182)
             ·exact False.elim (hJ141 false true false true true false true false hD141 hb142 hb143 hb175 hb176 hb177 hb181 hb182)
            ·
             rcases Bool.eq_false_or_eq_true (D141 10) with hb183 | hb183
             ·exact False.elim (hJ141 false true false true true false false true hD141 hb142 hb143 hb175 hb176 hb177 hb181 hb183)
             ·exact False.elim (hJ141 false true false true true false false false hD141 hb142 hb143 hb175 hb176 hb177 hb181 hb183)
          ·
           rcases Bool.eq_false_or_eq_true (D141 8) with hb184 | hb184
           ·
            rcases Bool.eq_false_or_eq_true (D141 9) with hb185 | hb185
            ·
             rcases Bool.eq_false_or_eq_true (D141 10) with hb186 | hb186
             ·exact False.elim (hJ141 false true false true false true true true hD141 hb142 hb143 hb175 hb176 hb184 hb185 hb186)
             ·exact False.elim (hJ141 false true false true false true true false hD141 hb142 hb143 hb175 hb176 hb184 hb185 hb186)
            ·
             rcases Bool.eq_false_or_eq_true (D141 10) with hb187 | hb187
             ·exact False.elim (hJ141 false true false true false true false true hD141 hb142 hb143 hb175 hb176 hb184 hb185 hb187)
             ·exact False.elim (hJ141 false true false true false true false false hD141 hb142 hb143 hb175 hb176 hb184 hb185 hb187)
           ·
            rcases Bool.eq_false_or_eq_true (D141 9) with hb188 | hb188
            ·
             rcases Bool.eq_false_or_eq_true (D141 10) with hb189 | hb189
             ·exact False.elim (hJ141 false true false true false false true true hD141 hb142 hb143 hb175 hb176 hb184 hb188 hb189)
             ·exact False.elim (hJ141 false true false true false false true false hD141 hb142 hb143 hb175 hb176 hb184 hb188 hb189)
            ·
             rcases Bool.eq_false_or_eq_true (D141 10) with hb190 | hb190
             ·exact False.elim (hJ141 false true false true false false false true hD141 hb142 hb143 hb175 hb176 hb184 hb188 hb190)
             ·exact False.elim (hJ141 false true false true false false false false hD141 hb142 hb143 hb175 hb176 hb184 hb188 hb190)
         ·
          rcases Bool.eq_false_or_eq_true (D141 7) with hb191 | hb191
          ·
           rcases Bool.eq_false_or_eq_true (D141 8) with hb192 | hb192
           ·
            rcases Bool.eq_false_or_eq_true (D141 9) with hb193 | hb193
            ·
             rcases Bool.eq_false_or_eq_true (D141 10) with hb194 | hb194
             ·exact False.elim (hJ141 false true false false true true true true hD141 hb142 hb143 hb175 hb191 hb192 hb193 hb194)
             ·exact False.elim (hJ141 false true false false true true true false hD141 hb142 hb143 hb175 hb191 hb192 hb193 hb194)
            ·
             rcases Bool.eq_false_or_eq_true (D141 10) with hb195 | hb195
             ·exact False.elim (hJ141 false true false false true true false true hD141 hb142 hb143 hb175 hb191 hb192 hb193 hb195)
             ·exact False.elim (hJ141 false true false false true true false false hD141 hb142 hb143 hb175 hb191 hb192 hb193 hb195)
           ·
            rcases Bool.eq_false_or_eq_true (D141 9) with hb196 | hb196
            ·
             rcases Bool.eq_false_or_eq_true (D141 10) with hb197 | hb197
             ·exact False.elim (hJ141 false true false false true false true true hD141 hb142 hb143 hb175 hb191 hb192 hb196 hb197)
             ·exact False.elim (hJ141 false true false false true false true false hD141 hb142 hb143 hb175 hb191 hb192 hb196 hb197)
            ·
             rcases Bool.eq_false_or_eq_true (D141 10) with hb198 | hb198
             ·exact False.elim (hJ141 false true false false true false false true hD141 hb142 hb143 hb175 hb191 hb192 hb196 hb198)
             ·exact False.elim (hJ141 false true false false true false false false hD141 hb142 hb143 hb175 hb191 hb192 hb196 hb198)
          ·
           rcases Bool.eq_false_or_eq_true (D141 8) with hb199 | hb199
           ·
            rcases Bool.eq_false_or_eq_true (D141 9) with hb200 | hb200
            ·
             rcases Bool.eq_false_or_eq_true (D141 10) with hb201 | hb201
             ·exact False.elim (hJ141 false true false false false true true true hD141 hb142 hb143 hb175 hb191 hb199 hb200 hb201)
             ·exact False.elim (hJ141 false true false false false true true false hD141 hb142 hb143 hb175 hb191 hb199 hb200 hb201)
            ·
             rcases Bool.eq_false_or_eq_true (D141 10) with hb202 | hb202
             ·exact False.elim (hJ141 false true false false false true false true hD141 hb142 hb143 hb175 hb191 hb199 hb200 hb202)
             ·exact False.elim (hJ141 false true false false false true false false hD141 hb142 hb143 hb175 hb191 hb199 hb200 hb202)
           ·
            rcases Bool.eq_false_or_eq_true (D141 9) with hb203 | hb203
            ·
             rcases Bool.eq_false_or_eq_true (D141 10) with hb204 | hb204
             ·exact False.elim (hJ141 false true false false false false true true hD141 hb142 hb143 hb175 hb191 hb199 hb203 hb204)
             ·exact False.elim (hJ141 false true false false false false true false hD141 hb142 hb143 hb175 hb191 hb199 hb203 hb204)
            ·
             rcases Bool.eq_false_or_eq_true (D141 10) with hb205 | hb205
             ·exact False.elim (hJ141 false true false false false false false true hD141 hb142 hb143 hb175 hb191 hb199 hb203 hb205)
             ·exact False.elim (hJ141 false true false false false false false false hD141 hb142 hb143 hb175 hb191 hb199 hb203 hb205)
       ·
        rcases Bool.eq_false_or_eq_true (D141 4) with hb206 | hb206
        ·
         rcases Bool.eq_false_or_eq_true (D141 5) with hb207 | hb207
         ·
          rcases Bool.eq_false_or_eq_true (D141 7) with hb208 | hb208
          ·
           rcases Bool.eq_false_or_eq_true (D141 8) with hb209 | hb209
           ·
            rcases Bool.eq_false_or_eq_true (D141 9) with hb210 | hb210
            ·
             rcases Bool.eq_false_or_eq_true (D141 10) with hb211 | hb211
             ·exact False.elim (hJ141 false false true true true true true true hD141 hb142 hb206 hb207 hb208 hb209 hb210 hb211)
             ·exact False.elim (hJ141 false false true true true true true false hD141 hb142 hb206 hb207 hb208 hb209 hb210 hb211)
            ·
             rcases Bool.eq_false_or_eq_true (D141 10) with hb212 | hb212
             ·exact False.elim (hJ141 false false true true true true false true hD141 hb142 hb206 hb207 hb208 hb209 hb210 hb212)
             ·exact False.elim (hJ141 false false true true true true false false hD141 hb142 hb206 hb207 hb208 hb209 hb210 hb212)
           ·
            rcases Bool.eq_false_or_eq_true (D141 9) with hb213 | hb213
            ·
             rcases Bool.eq_false_or_eq_true (D141 10) with hb214 | hb214
             ·exact False.elim (hJ141 false false true true true false true true hD141 hb142 hb206 hb207 hb208 hb209 hb213 hb214)
             ·exact False.elim (hJ141 false false true true true false true false hD141 hb142 hb206 hb207 hb208 hb209 hb213 hb214)
            ·
             rcases Bool.eq_false_or_eq_true (D141 10) with hb215 | hb215
             ·exact False.elim (hJ141 false false true true true false false true hD141 hb142 hb206 hb207 hb208 hb209 hb213 hb215)
             ·exact False.elim (hJ141 false false true true true false false false hD141 hb142 hb206 hb207 hb208 hb209 hb213 hb215)
          ·
           rcases Bool.eq_false_or_eq_true (D141 8) with hb216 | hb216
           ·
            rcases Bool.eq_false_or_eq_true (D141 9) with hb217 | hb217
            ·
             rcases Bool.eq_false_or_eq_true (D141 10) with hb218 | hb218
             ·exact False.elim (hJ141 false false true true false true true true hD141 hb142 hb206 hb207 hb208 hb216 hb217 hb218)
             ·exact False.elim (hJ141 false false true true false true true false hD141 hb142 hb206 hb207 hb208 hb216 hb217 hb218)
            ·
             rcases Bool.eq_false_or_eq_true (D141 10) with hb219 | hb219
             ·exact False.elim (hJ141 false false true true false true false true hD141 hb142 hb206 hb207 hb208 hb216 hb217 hb219)
             ·exact False.elim (hJ141 false false true true false true false false hD141 hb142 hb206 hb207 hb208 hb216 hb217 hb219)
           ·
            rcases Bool.eq_false_or_eq_true (D141 9) with hb220 | hb220
            ·
             rcases Bool.eq_false_or_eq_true (D141 10) with hb221 | hb221
             ·exact False.elim (hJ141 false false true true false false true true hD141 hb142 hb206 hb207 hb208 hb216 hb220 hb221)
             ·exact False.elim (hJ141 false false true true false false true false hD141 hb142 hb206 hb207 hb208 hb216 hb220 hb221)
            ·
             rcases Bool.eq_false_or_eq_true (D141 10) with hb222 | hb222
             ·exact False.elim (hJ141 false false true true false false false true hD141 hb142 hb206 hb207 hb208 hb216 hb220 hb222)
             ·exact False.elim (hJ141 false false true true false false false false hD141 hb142 hb206 hb207 hb208 hb216 hb220 hb222)
         ·
          rcases Bool.eq_false_or_eq_true (D141 7) with hb223 | hb223
          ·
           rcases Bool.eq_false_or_eq_true (D141 8) with hb224 | hb224
           ·
            rcases Bool.eq_false_or_eq_true (D141 9) with hb225 | hb225
            ·
             rcases Bool.eq_false_or_eq_true (D141 10) with hb226 | hb226
             ·exact False.elim (hJ141 false false true false true true true true hD141 hb142 hb206 hb207 hb223 hb224 hb225 hb226)
             ·exact False.elim (hJ141 false false true false true true true false hD141 hb142 hb206 hb207 hb223 hb224 hb225 hb226)
            ·
             rcases Bool.eq_false_or_eq_true (D141 10) with hb227 | hb227
             ·exact False.elim (hJ141 false false true false true true false true hD141 hb142 hb206 hb207 hb223 hb224 hb225 hb227)
             ·exact False.elim (hJ141 false false true false true true false false hD141 hb142 hb206 hb207 hb223 hb224 hb225 hb227)
           ·
            rcases Bool.eq_false_or_eq_true (D141 9) with hb228 | hb228
            ·
             rcases Bool.eq_false_or_eq_true (D141 10) with hb229 | hb229
             ·exact False.elim (hJ141 false false true false true false true true hD141 hb142 hb206 hb207 hb223 hb224 hb228 hb229)
             ·exact False.elim (hJ141 false false true false true false true false hD141 hb142 hb206 hb207 hb223 hb224 hb228 hb229)
            ·
             rcases Bool.eq_false_or_eq_true (D141 10) with hb230 | hb230
             ·exact False.elim (hJ141 false false true false true false false true hD141 hb142 hb206 hb207 hb223 hb224 hb228 hb230)
             ·exact False.elim (hJ141 false false true false true false false false hD141 hb142 hb206 hb207 hb223 hb224 hb228 hb230)
          ·
           rcases Bool.eq_false_or_eq_true (D141 8) with hb231 | hb231
           ·
            rcases Bool.eq_false_or_eq_true (D141 9) with hb232 | hb232
            ·
             rcases Bool.eq_false_or_eq_true (D141 10) with hb233 | hb233
             ·exact False.elim (hJ141 false false true false false true true true hD141 hb142 hb206 hb207 hb223 hb231 hb232 hb233)
             ·exact False.elim (hJ141 false false true false false true true false hD141 hb142 hb206 hb207 hb223 hb231 hb232 hb233)
            ·
             rcases Bool.eq_false_or_eq_true (D141 10) with hb234 | hb234
             ·exact False.elim (hJ141 false false true false false true false true hD141 hb142 hb206 hb207 hb223 hb231 hb232 hb234)
             ·exact False.elim (hJ141 false false true false false true false false hD141 hb142 hb206 hb207 hb223 hb231 hb232 hb234)
           ·
            rcases Bool.eq_false_or_eq_true (D141 9) with hb235 | hb235
            ·
             rcases Bool.eq_false_or_eq_true (D141 10) with hb236 | hb236
             ·exact False.elim (hJ141 false false true false false false true true hD141 hb142 hb206 hb207 hb223 hb231 hb235 hb236)
             ·exact False.elim (hJ141 false false true false false false true false hD141 hb142 hb206 hb207 hb223 hb231 hb235 hb236)
            ·
             rcases Bool.eq_false_or_eq_true (D141 10) with hb237 | hb237
             ·exact False.elim (hJ141 false false true false false false false true hD141 hb142 hb206 hb207 hb223 hb231 hb235 hb237)
             ·exact False.elim (hJ141 false false true false false false false false hD141 hb142 hb206 hb207 hb223 hb231 hb235 hb237)
        ·
         rcases Bool.eq_false_or_eq_true (D141 5) with hb238 | hb238
         ·
          rcases Bool.eq_false_or_eq_true (D141 7) with hb239 | hb239
          ·
           rcases Bool.eq_false_or_eq_true (D141 8) with hb240 | hb240
           ·
            rcases Bool.eq_false_or_eq_true (D141 9) with hb241 | hb241
            ·
             rcases Bool.eq_false_or_eq_true (D141 10) with hb242 | hb242
             ·exact False.elim (hJ141 false false false true true true true true hD141 hb142 hb206 hb238 hb239 hb240 hb241 hb242)
             ·exact False.elim (hJ141 false false false true true true true false hD141 hb142 hb206 hb238 hb239 hb240 hb241 hb242)
            ·
             rcases Bool.eq_false_or_eq_true (D141 10) with hb243 | hb243
             ·exact False.elim (hJ141 false false false true true true false true hD141 hb142 hb206 hb238 hb239 hb240 hb241 hb243)
             ·exact False.elim (hJ141 false false false true true true false false hD141 hb142 hb206 hb238 hb239 hb240 hb241 hb243)
           ·
            rcases Bool.eq_false_or_eq_true (D141 9) with hb244 | hb244
            ·
             rcases Bool.eq_false_or_eq_true (D141 10) with hb245 | hb245
             ·exact False.elim (hJ141 false false false true true false true true hD141 hb142 hb206 hb238 hb239 hb240 hb244 hb245)
             ·exact False.elim (hJ141 false false false true true false true false hD141 hb142 hb206 hb238 hb239 hb240 hb244 hb245)
            ·
             rcases Bool.eq_false_or_eq_true (D141 10) with hb246 | hb246
             ·exact False.elim (hJ141 false false false true true false false true hD141 hb142 hb206 hb238 hb239 hb240 hb244 hb246)
             ·exact False.elim (hJ141 false false false true true false false false hD141 hb142 hb206 hb238 hb239 hb240 hb244 hb246)
          ·
           rcases Bool.eq_false_or_eq_true (D141 8) with hb247 | hb247
           ·
            rcases Bool.eq_false_or_eq_true (D141 9) with hb248 | hb248
            ·
             rcases Bool.eq_false_or_eq_true (D141 10) with hb249 | hb249
             ·exact False.elim (hJ141 false false false true false true true true hD141 hb142 hb206 hb238 hb239 hb247 hb248 hb249)
             ·exact False.elim (hJ141 false false false true false true true false hD141 hb142 hb206 hb238 hb239 hb247 hb248 hb249)
            ·
             rcases Bool.eq_false_or_eq_true (D141 10) with hb250 | hb250
             ·exact False.elim (hJ141 false false false true false true false true hD141 hb142 hb206 hb238 hb239 hb247 hb248 hb250)
             ·exact False.elim (hJ141 false false false true false true false false hD141 hb142 hb206 hb238 hb239 hb247 hb248 hb250)
           ·
            rcases Bool.eq_false_or_eq_true (D141 9) with hb251 | hb251
            ·
             rcases Bool.eq_false_or_eq_true (D141 10) with hb252 | hb252
             ·exact False.elim (hJ141 false false false true false false true true hD141 hb142 hb206 hb238 hb239 hb247 hb251 hb252)
             ·exact False.elim (hJ141 false false false true false false true false hD141 hb142 hb206 hb238 hb239 hb247 hb251 hb252)
            ·
             rcases Bool.eq_false_or_eq_true (D141 10) with hb253 | hb253
             ·exact False.elim (hJ141 false false false true false false false true hD141 hb142 hb206 hb238 hb239 hb247 hb251 hb253)
             ·exact False.elim (hJ141 false false false true false false false false hD141 hb142 hb206 hb238 hb239 hb247 hb251 hb253)
         ·
          rcases Bool.eq_false_or_eq_true (D141 7) with hb254 | hb254
          ·
           rcases Bool.eq_false_or_eq_true (D141 8) with hb255 | hb255
           ·
            rcases Bool.eq_false_or_eq_true (D141 9) with hb256 | hb256
            ·
             rcases Bool.eq_false_or_eq_true (D141 10) with hb257 | hb257
             ·exact False.elim (hJ141 false false false false true true true true hD141 hb142 hb206 hb238 hb254 hb255 hb256 hb257)
             ·exact False.elim (hJ141 false false false false true true true false hD141 hb142 hb206 hb238 hb254 hb255 hb256 hb257)
            ·
             rcases Bool.eq_false_or_eq_true (D141 10) with hb258 | hb258
             ·exact False.elim (hJ141 false false false false true true false true hD141 hb142 hb206 hb238 hb254 hb255 hb256 hb258)
             ·exact False.elim (hJ141 false false false false true true false false hD141 hb142 hb206 hb238 hb254 hb255 hb256 hb258)
           ·
            rcases Bool.eq_false_or_eq_true (D141 9) with hb259 | hb259
            ·
             rcases Bool.eq_false_or_eq_true (D141 10) with hb260 | hb260
             ·exact False.elim (hJ141 false false false false true false true true hD141 hb142 hb206 hb238 hb254 hb255 hb259 hb260)
             ·exact False.elim (hJ141 false false false false true false true false hD141 hb142 hb206 hb238 hb254 hb255 hb259 hb260)
            ·
             rcases Bool.eq_false_or_eq_true (D141 10) with hb261 | hb261
             ·exact False.elim (hJ141 false false false false true false false true hD141 hb142 hb206 hb238 hb254 hb255 hb259 hb261)
             ·exact False.elim (hJ141 false false false false true false false false hD141 hb142 hb206 hb238 hb254 hb255 hb259 hb261)
          ·
           rcases Bool.eq_false_or_eq_true (D141 8) with hb262 | hb262
           ·
            rcases Bool.eq_false_or_eq_true (D141 9) with hb263 | hb263
            ·
             rcases Bool.eq_false_or_eq_true (D141 10) with hb264 | hb264
             ·exact False.elim (hJ141 false false false false false true true true hD141 hb142 hb206 hb238 hb254 hb262 hb263 hb264)
             ·exact False.elim (hJ141 false false false false false true true false hD141 hb142 hb206 hb238 hb254 hb262 hb263 hb264)
            ·
             rcases Bool.eq_false_or_eq_true (D141 10) with hb265 | hb265
             ·exact False.elim (hJ141 false false false false false true false true hD141 hb142 hb206 hb238 hb254 hb262 hb263 hb265)
             ·exact False.elim (hJ141 false false false false false true false false hD141 hb142 hb206 hb238 hb254 hb262 hb263 hb265)
           ·
            rcases Bool.eq_false_or_eq_true (D141 9) with hb266 | hb266
            ·
             rcases Bool.eq_false_or_eq_true (D141 10) with hb267 | hb267
             ·exact False.elim (hJ141 false false false false false false true true hD141 hb142 hb206 hb238 hb254 hb262 hb266 hb267)
             ·exact False.elim (hJ141 false false false false false false true false hD141 hb142 hb206 hb238 hb254 hb262 hb266 hb267)
            ·
             rcases Bool.eq_false_or_eq_true (D141 10) with hb268 | hb268
             ·obtain ⟨FJ141, g63, he141_10, leJ141, hSJ141⟩ := (hJ141 false false false false false false false true hD141 hb142 hb206 hb238 hb254 hb262 hb266 hb268);refine W_call rfl Ty.named81 rfl (cellarerref14_cutter_take_fz_ok (x0 := (Cellarerref14Cutter.mk l37 i40 b41)) (x1 := 1) (hSJ141.lendL [1] (by decide)) (hx39.mono (le46.trans leJ141)) hr58) ?_;rintro ur58_0 w269 ⟨Fr58, _, ur58_b0_0, rfl, hfr58_0, hfr58_b0_0, hT269⟩;have hS269 := hSJ141.backL [1] [0, 2, 3, 4] (by decide) (by decide) hT269;have ler58 := hT269.ext;refine W_nil ?_;exact N_stepJ rfl (fun u (hu : (none : Option Value) = some u) => by cases hu) (fun b2 b3 b4 b5 b7 b8 b9 b10 h2 h3 h4 h5 h7 h8 h9 h10 => by obtain rfl : b2 = true := h2.symm; obtain rfl : b3 = false := h3.symm.trans hb142; obtain rfl : b4 = false := h4.symm.trans hb206; obtain rfl : b5 = false := h5.symm.trans hb238; obtain rfl : b7 = false := h7.symm.trans hb254; obtain rfl : b8 = false := h8.symm.trans hb262; obtain rfl : b9 = false := h9.symm.trans hb266; obtain rfl : b10 = true := h10.symm.trans hb268; exact ⟨Fr58, ur58_0, ur58_b0_0, g63, rfl, he141_10, (leJ141.trans ler58), hfr58_0, hfr58_b0_0, hS269.pick [1, 0, 2, 3, 4] (by decide)⟩)
             ·obtain ⟨FJ141, leJ141, hSJ141⟩ := (hJ141 false false false false false false false false hD141 hb142 hb206 hb238 hb254 hb262 hb266 hb268);refine W_call rfl Ty.named81 rfl (cellarerref14_cutter_take_fz_ok (x0 := (Cellarerref14Cutter.mk l37 i40 b41)) (x1 := 1) (hSJ141.lendL [0] (by decide)) (hx39.mono (le46.trans leJ141)) hr58) ?_;rintro ur58_0 w270 ⟨Fr58, _, ur58_b0_0, rfl, hfr58_0, hfr58_b0_0, hT270⟩;have hS270 := hSJ141.backL [0] [1, 2, 3] (by decide) (by decide) hT270;have ler58 := hT270.ext;refine W_nil ?_;exact N_stepJ rfl (fun u (hu : (none : Option Value) = some u) => by cases hu) (fun b2 b3 b4 b5 b7 b8 b9 b10 h2 h3 h4 h5 h7 h8 h9 h10 => by obtain rfl : b2 = true := h2.symm; obtain rfl : b3 = false := h3.symm.trans hb142; obtain rfl : b4 = false := h4.symm.trans hb206; obtain rfl : b5 = false := h5.symm.trans hb238; obtain rfl : b7 = false := h7.symm.trans hb254; obtain rfl : b8 = false := h8.symm.trans hb262; obtain rfl : b9 = false := h9.symm.trans hb266; obtain rfl : b10 = false := h10.symm.trans hb268; exact ⟨Fr58, ur58_0, ur58_b0_0, rfl, (leJ141.trans ler58), hfr58_0, hfr58_b0_0, hS270⟩)
      ·intro w271 vq271 D271 hD271 hd271 hJ271
       rcases Bool.eq_false_or_eq_true (D271 4) with hb272 | hb272
       ·
        rcases Bool.eq_false_or_eq_true (D271 5) with hb273 | hb273
        ·
         rcases Bool.eq_false_or_eq_true (D271 7) with hb274 | hb274
         ·
          rcases Bool.eq_false_or_eq_true (D271 8) with hb275 | hb275
          ·
           rcases Bool.eq_false_or_eq_true (D271 9) with hb276 | hb276
           ·
            rcases Bool.eq_false_or_eq_true (D271 10) with hb277 | hb277
            ·exact False.elim (hJ271 true false true true true true true true (hd271 2 (by decide)) hD271 hb272 hb273 hb274 hb275 hb276 hb277)
            ·exact False.elim (hJ271 true false true true true true true false (hd271 2 (by decide)) hD271 hb272 hb273 hb274 hb275 hb276 hb277)
           ·
            rcases Bool.eq_false_or_eq_true (D271 10) with hb278 | hb278
            ·exact False.elim (hJ271 true false true true true true false true (hd271 2 (by decide)) hD271 hb272 hb273 hb274 hb275 hb276 hb278)
            ·exact False.elim (hJ271 true false true true true true false false (hd271 2 (by decide)) hD271 hb272 hb273 hb274 hb275 hb276 hb278)
          ·
           rcases Bool.eq_false_or_eq_true (D271 9) with hb279 | hb279
           ·
            rcases Bool.eq_false_or_eq_true (D271 10) with hb280 | hb280
            ·exact False.elim (hJ271 true false true true true false true true (hd271 2 (by decide)) hD271 hb272 hb273 hb274 hb275 hb279 hb280)
            ·exact False.elim (hJ271 true false true true true false true false (hd271 2 (by decide)) hD271 hb272 hb273 hb274 hb275 hb279 hb280)
           ·
            rcases Bool.eq_false_or_eq_true (D271 10) with hb281 | hb281
            ·exact False.elim (hJ271 true false true true true false false true (hd271 2 (by decide)) hD271 hb272 hb273 hb274 hb275 hb279 hb281)
            ·exact False.elim (hJ271 true false true true true false false false (hd271 2 (by decide)) hD271 hb272 hb273 hb274 hb275 hb279 hb281)
         ·
          rcases Bool.eq_false_or_eq_true (D271 8) with hb282 | hb282
          ·
           rcases Bool.eq_false_or_eq_true (D271 9) with hb283 | hb283
           ·
            rcases Bool.eq_false_or_eq_true (D271 10) with hb284 | hb284
            ·exact False.elim (hJ271 true false true true false true true true (hd271 2 (by decide)) hD271 hb272 hb273 hb274 hb282 hb283 hb284)
            ·exact False.elim (hJ271 true false true true false true true false (hd271 2 (by decide)) hD271 hb272 hb273 hb274 hb282 hb283 hb284)
           ·
            rcases Bool.eq_false_or_eq_true (D271 10) with hb285 | hb285
            ·exact False.elim (hJ271 true false true true false true false true (hd271 2 (by decide)) hD271 hb272 hb273 hb274 hb282 hb283 hb285)
            ·exact False.elim (hJ271 true false true true false true false false (hd271 2 (by decide)) hD271 hb272 hb273 hb274 hb282 hb283 hb285)
          ·
           rcases Bool.eq_false_or_eq_true (D271 9) with hb286 | hb286
           ·
            rcases Bool.eq_false_or_eq_true (D271 10) with hb287 | hb287
            ·exact False.elim (hJ271 true false true true false false true true (hd271 2 (by decide)) hD271 hb272 hb273 hb274 hb282 hb286 hb287)
            ·exact False.elim (hJ271 true false true true false false true false (hd271 2 (by decide)) hD271 hb272 hb273 hb274 hb282 hb286 hb287)
           ·
            rcases Bool.eq_false_or_eq_true (D271 10) with hb288 | hb288
            ·exact False.elim (hJ271 true false true true false false false true (hd271 2 (by decide)) hD271 hb272 hb273 hb274 hb282 hb286 hb288)
            ·exact False.elim (hJ271 true false true true false false false false (hd271 2 (by decide)) hD271 hb272 hb273 hb274 hb282 hb286 hb288)
        ·
         rcases Bool.eq_false_or_eq_true (D271 7) with hb289 | hb289
         ·
          rcases Bool.eq_false_or_eq_true (D271 8) with hb290 | hb290
          ·
           rcases Bool.eq_false_or_eq_true (D271 9) with hb291 | hb291
           ·
            rcases Bool.eq_false_or_eq_true (D271 10) with hb292 | hb292
            ·exact False.elim (hJ271 true false true false true true true true (hd271 2 (by decide)) hD271 hb272 hb273 hb289 hb290 hb291 hb292)
            ·exact False.elim (hJ271 true false true false true true true false (hd271 2 (by decide)) hD271 hb272 hb273 hb289 hb290 hb291 hb292)
           ·
            rcases Bool.eq_false_or_eq_true (D271 10) with hb293 | hb293
            ·exact False.elim (hJ271 true false true false true true false true (hd271 2 (by decide)) hD271 hb272 hb273 hb289 hb290 hb291 hb293)
            ·exact False.elim (hJ271 true false true false true true false false (hd271 2 (by decide)) hD271 hb272 hb273 hb289 hb290 hb291 hb293)
          ·
           rcases Bool.eq_false_or_eq_true (D271 9) with hb294 | hb294
           ·
            rcases Bool.eq_false_or_eq_true (D271 10) with hb295 | hb295
            ·exact False.elim (hJ271 true false true false true false true true (hd271 2 (by decide)) hD271 hb272 hb273 hb289 hb290 hb294 hb295)
            ·exact False.elim (hJ271 true false true false true false true false (hd271 2 (by decide)) hD271 hb272 hb273 hb289 hb290 hb294 hb295)
           ·
            rcases Bool.eq_false_or_eq_true (D271 10) with hb296 | hb296
            ·exact False.elim (hJ271 true false true false true false false true (hd271 2 (by decide)) hD271 hb272 hb273 hb289 hb290 hb294 hb296)
            ·exact False.elim (hJ271 true false true false true false false false (hd271 2 (by decide)) hD271 hb272 hb273 hb289 hb290 hb294 hb296)
         ·
          rcases Bool.eq_false_or_eq_true (D271 8) with hb297 | hb297
          ·
           rcases Bool.eq_false_or_eq_true (D271 9) with hb298 | hb298
           ·
            rcases Bool.eq_false_or_eq_true (D271 10) with hb299 | hb299
            ·exact False.elim (hJ271 true false true false false true true true (hd271 2 (by decide)) hD271 hb272 hb273 hb289 hb297 hb298 hb299)
            ·exact False.elim (hJ271 true false true false false true true false (hd271 2 (by decide)) hD271 hb272 hb273 hb289 hb297 hb298 hb299)
           ·
            rcases Bool.eq_false_or_eq_true (D271 10) with hb300 | hb300
            ·exact False.elim (hJ271 true false true false false true false true (hd271 2 (by decide)) hD271 hb272 hb273 hb289 hb297 hb298 hb300)
            ·exact False.elim (hJ271 true false true false false true false false (hd271 2 (by decide)) hD271 hb272 hb273 hb289 hb297 hb298 hb300)
          ·
           rcases Bool.eq_false_or_eq_true (D271 9) with hb301 | hb301
           ·
            rcases Bool.eq_false_or_eq_true (D271 10) with hb302 | hb302
            ·exact False.elim (hJ271 true false true false false false true true (hd271 2 (by decide)) hD271 hb272 hb273 hb289 hb297 hb301 hb302)
            ·exact False.elim (hJ271 true false true false false false true false (hd271 2 (by decide)) hD271 hb272 hb273 hb289 hb297 hb301 hb302)
           ·
            rcases Bool.eq_false_or_eq_true (D271 10) with hb303 | hb303
            ·exact False.elim (hJ271 true false true false false false false true (hd271 2 (by decide)) hD271 hb272 hb273 hb289 hb297 hb301 hb303)
            ·exact False.elim (hJ271 true false true false false false false false (hd271 2 (by decide)) hD271 hb272 hb273 hb289 hb297 hb301 hb303)
       ·
        rcases Bool.eq_false_or_eq_true (D271 5) with hb304 | hb304
        ·
         rcases Bool.eq_false_or_eq_true (D271 7) with hb305 | hb305
         ·
          rcases Bool.eq_false_or_eq_true (D271 8) with hb306 | hb306
          ·
           rcases Bool.eq_false_or_eq_true (D271 9) with hb307 | hb307
           ·
            rcases Bool.eq_false_or_eq_true (D271 10) with hb308 | hb308
            ·exact False.elim (hJ271 true false false true true true true true (hd271 2 (by decide)) hD271 hb272 hb304 hb305 hb306 hb307 hb308)
            ·exact False.elim (hJ271 true false false true true true true false (hd271 2 (by decide)) hD271 hb272 hb304 hb305 hb306 hb307 hb308)
           ·
            rcases Bool.eq_false_or_eq_true (D271 10) with hb309 | hb309
            ·exact False.elim (hJ271 true false false true true true false true (hd271 2 (by decide)) hD271 hb272 hb304 hb305 hb306 hb307 hb309)
            ·exact False.elim (hJ271 true false false true true true false false (hd271 2 (by decide)) hD271 hb272 hb304 hb305 hb306 hb307 hb309)
          ·
           rcases Bool.eq_false_or_eq_true (D271 9) with hb310 | hb310
           ·
            rcases Bool.eq_false_or_eq_true (D271 10) with hb311 | hb311
            ·exact False.elim (hJ271 true false false true true false true true (hd271 2 (by decide)) hD271 hb272 hb304 hb305 hb306 hb310 hb311)
            ·exact False.elim (hJ271 true false false true true false true false (hd271 2 (by decide)) hD271 hb272 hb304 hb305 hb306 hb310 hb311)
           ·
            rcases Bool.eq_false_or_eq_true (D271 10) with hb312 | hb312
            ·exact False.elim (hJ271 true false false true true false false true (hd271 2 (by decide)) hD271 hb272 hb304 hb305 hb306 hb310 hb312)
            ·exact False.elim (hJ271 true false false true true false false false (hd271 2 (by decide)) hD271 hb272 hb304 hb305 hb306 hb310 hb312)
         ·
          rcases Bool.eq_false_or_eq_true (D271 8) with hb313 | hb313
          ·
           rcases Bool.eq_false_or_eq_true (D271 9) with hb314 | hb314
           ·
            rcases Bool.eq_false_or_eq_true (D271 10) with hb315 | hb315
            ·exact False.elim (hJ271 true false false true false true true true (hd271 2 (by decide)) hD271 hb272 hb304 hb305 hb313 hb314 hb315)
            ·exact False.elim (hJ271 true false false true false true true false (hd271 2 (by decide)) hD271 hb272 hb304 hb305 hb313 hb314 hb315)
           ·
            rcases Bool.eq_false_or_eq_true (D271 10) with hb316 | hb316
            ·exact False.elim (hJ271 true false false true false true false true (hd271 2 (by decide)) hD271 hb272 hb304 hb305 hb313 hb314 hb316)
            ·exact False.elim (hJ271 true false false true false true false false (hd271 2 (by decide)) hD271 hb272 hb304 hb305 hb313 hb314 hb316)
          ·
           rcases Bool.eq_false_or_eq_true (D271 9) with hb317 | hb317
           ·
            rcases Bool.eq_false_or_eq_true (D271 10) with hb318 | hb318
            ·exact False.elim (hJ271 true false false true false false true true (hd271 2 (by decide)) hD271 hb272 hb304 hb305 hb313 hb317 hb318)
            ·exact False.elim (hJ271 true false false true false false true false (hd271 2 (by decide)) hD271 hb272 hb304 hb305 hb313 hb317 hb318)
           ·
            rcases Bool.eq_false_or_eq_true (D271 10) with hb319 | hb319
            ·exact False.elim (hJ271 true false false true false false false true (hd271 2 (by decide)) hD271 hb272 hb304 hb305 hb313 hb317 hb319)
            ·exact False.elim (hJ271 true false false true false false false false (hd271 2 (by decide)) hD271 hb272 hb304 hb305 hb313 hb317 hb319)
        ·
         rcases Bool.eq_false_or_eq_true (D271 7) with hb320 | hb320
         ·
          rcases Bool.eq_false_or_eq_true (D271 8) with hb321 | hb321
          ·
           rcases Bool.eq_false_or_eq_true (D271 9) with hb322 | hb322
           ·
            rcases Bool.eq_false_or_eq_true (D271 10) with hb323 | hb323
            ·exact False.elim (hJ271 true false false false true true true true (hd271 2 (by decide)) hD271 hb272 hb304 hb320 hb321 hb322 hb323)
            ·exact False.elim (hJ271 true false false false true true true false (hd271 2 (by decide)) hD271 hb272 hb304 hb320 hb321 hb322 hb323)
           ·
            rcases Bool.eq_false_or_eq_true (D271 10) with hb324 | hb324
            ·exact False.elim (hJ271 true false false false true true false true (hd271 2 (by decide)) hD271 hb272 hb304 hb320 hb321 hb322 hb324)
            ·exact False.elim (hJ271 true false false false true true false false (hd271 2 (by decide)) hD271 hb272 hb304 hb320 hb321 hb322 hb324)
          ·
           rcases Bool.eq_false_or_eq_true (D271 9) with hb325 | hb325
           ·
            rcases Bool.eq_false_or_eq_true (D271 10) with hb326 | hb326
            ·exact False.elim (hJ271 true false false false true false true true (hd271 2 (by decide)) hD271 hb272 hb304 hb320 hb321 hb325 hb326)
            ·exact False.elim (hJ271 true false false false true false true false (hd271 2 (by decide)) hD271 hb272 hb304 hb320 hb321 hb325 hb326)
           ·
            rcases Bool.eq_false_or_eq_true (D271 10) with hb327 | hb327
            ·exact False.elim (hJ271 true false false false true false false true (hd271 2 (by decide)) hD271 hb272 hb304 hb320 hb321 hb325 hb327)
            ·exact False.elim (hJ271 true false false false true false false false (hd271 2 (by decide)) hD271 hb272 hb304 hb320 hb321 hb325 hb327)
         ·
          rcases Bool.eq_false_or_eq_true (D271 8) with hb328 | hb328
          ·
           rcases Bool.eq_false_or_eq_true (D271 9) with hb329 | hb329
           ·
            rcases Bool.eq_false_or_eq_true (D271 10) with hb330 | hb330
            ·exact False.elim (hJ271 true false false false false true true true (hd271 2 (by decide)) hD271 hb272 hb304 hb320 hb328 hb329 hb330)
            ·exact False.elim (hJ271 true false false false false true true false (hd271 2 (by decide)) hD271 hb272 hb304 hb320 hb328 hb329 hb330)
           ·
            rcases Bool.eq_false_or_eq_true (D271 10) with hb331 | hb331
            ·exact False.elim (hJ271 true false false false false true false true (hd271 2 (by decide)) hD271 hb272 hb304 hb320 hb328 hb329 hb331)
            ·exact False.elim (hJ271 true false false false false true false false (hd271 2 (by decide)) hD271 hb272 hb304 hb320 hb328 hb329 hb331)
          ·
           rcases Bool.eq_false_or_eq_true (D271 9) with hb332 | hb332
           ·
            rcases Bool.eq_false_or_eq_true (D271 10) with hb333 | hb333
            ·exact False.elim (hJ271 true false false false false false true true (hd271 2 (by decide)) hD271 hb272 hb304 hb320 hb328 hb332 hb333)
            ·exact False.elim (hJ271 true false false false false false true false (hd271 2 (by decide)) hD271 hb272 hb304 hb320 hb328 hb332 hb333)
           ·
            rcases Bool.eq_false_or_eq_true (D271 10) with hb334 | hb334
            ·obtain ⟨FJ271, ur58_0, ur58_b0_0, g63, he271_2, he271_10, leJ271, hfr58_0, hfr58_b0_0, hSJ271⟩ := (hJ271 true false false false false false false true (hd271 2 (by decide)) hD271 hb272 hb304 hb320 hb328 hb332 hb334);refine W_eqv (t := 39) rfl he271_2 ?_;refine W_call rfl Ty.named82 rfl (cellarerref14_num_ok hSJ271.agree hfr58_0 hr59) ?_;rintro v335 w335 ⟨Fr59, rfl, hT335⟩;have hS335 := hSJ271.lent hT335;refine W_nil ?_;exact N_stepJ rfl (fun u (hu : (none : Option Value) = some u) => by cases hu) (fun b2 b3 b4 b5 b7 b8 b9 b10 h2 h3 h4 h5 h7 h8 h9 h10 => by obtain rfl : b2 = true := h2.symm.trans (hd271 2 (by decide)); obtain rfl : b3 = true := h3.symm; obtain rfl : b4 = false := h4.symm.trans hb272; obtain rfl : b5 = false := h5.symm.trans hb304; obtain rfl : b7 = false := h7.symm.trans hb320; obtain rfl : b8 = false := h8.symm.trans hb328; obtain rfl : b9 = false := h9.symm.trans hb332; obtain rfl : b10 = true := h10.symm.trans hb334; exact ⟨FJ271, ur58_0, ur58_b0_0, g63, he271_2, rfl, he271_10, leJ271, hfr58_0, hfr58_b0_0, hS335⟩)
            ·obtain ⟨FJ271, ur58_0, ur58_b0_0, he271_2, leJ271, hfr58_0, hfr58_b0_0, hSJ271⟩ := (hJ271 true false false false false false false false (hd271 2 (by decide)) hD271 hb272 hb304 hb320 hb328 hb332 hb334);refine W_eqv (t := 39) rfl he271_2 ?_;refine W_call rfl Ty.named82 rfl (cellarerref14_num_ok hSJ271.agree hfr58_0 hr59) ?_;rintro v336 w336 ⟨Fr59, rfl, hT336⟩;have hS336 := hSJ271.lent hT336;refine W_nil ?_;exact N_stepJ rfl (fun u (hu : (none : Option Value) = some u) => by cases hu) (fun b2 b3 b4 b5 b7 b8 b9 b10 h2 h3 h4 h5 h7 h8 h9 h10 => by obtain rfl : b2 = true := h2.symm.trans (hd271 2 (by decide)); obtain rfl : b3 = true := h3.symm; obtain rfl : b4 = false := h4.symm.trans hb272; obtain rfl : b5 = false := h5.symm.trans hb304; obtain rfl : b7 = false := h7.symm.trans hb320; obtain rfl : b8 = false := h8.symm.trans hb328; obtain rfl : b9 = false := h9.symm.trans hb332; obtain rfl : b10 = false := h10.symm.trans hb334; exact ⟨FJ271, ur58_0, ur58_b0_0, he271_2, rfl, leJ271, hfr58_0, hfr58_b0_0, hS336⟩)
      ·intro w337 vq337 D337 hD337 hd337 hJ337
       rcases Bool.eq_false_or_eq_true (D337 2) with hb338 | hb338
       ·
        rcases Bool.eq_false_or_eq_true (D337 5) with hb339 | hb339
        ·
         rcases Bool.eq_false_or_eq_true (D337 7) with hb340 | hb340
         ·
          rcases Bool.eq_false_or_eq_true (D337 8) with hb341 | hb341
          ·
           rcases Bool.eq_false_or_eq_true (D337 9) with hb342 | hb342
           ·
            rcases Bool.eq_false_or_eq_true (D337 10) with hb343 | hb343
            ·exact False.elim (hJ337 true true false true true true true true hb338 (hd337 3 (by decide)) hD337 hb339 hb340 hb341 hb342 hb343)
            ·exact False.elim (hJ337 true true false true true true true false hb338 (hd337 3 (by decide)) hD337 hb339 hb340 hb341 hb342 hb343)
           ·
            rcases Bool.eq_false_or_eq_true (D337 10) with hb344 | hb344
            ·exact False.elim (hJ337 true true false true true true false true hb338 (hd337 3 (by decide)) hD337 hb339 hb340 hb341 hb342 hb344)
            ·exact False.elim (hJ337 true true false true true true false false hb338 (hd337 3 (by decide)) hD337 hb339 hb340 hb341 hb342 hb344)
          ·
           rcases Bool.eq_false_or_eq_true (D337 9) with hb345 | hb345
           ·
            rcases Bool.eq_false_or_eq_true (D337 10) with hb346 | hb346
            ·exact False.elim (hJ337 true true false true true false true true hb338 (hd337 3 (by decide)) hD337 hb339 hb340 hb341 hb345 hb346)
            ·exact False.elim (hJ337 true true false true true false true false hb338 (hd337 3 (by decide)) hD337 hb339 hb340 hb341 hb345 hb346)
           ·
            rcases Bool.eq_false_or_eq_true (D337 10) with hb347 | hb347
            ·exact False.elim (hJ337 true true false true true false false true hb338 (hd337 3 (by decide)) hD337 hb339 hb340 hb341 hb345 hb347)
            ·exact False.elim (hJ337 true true false true true false false false hb338 (hd337 3 (by decide)) hD337 hb339 hb340 hb341 hb345 hb347)
         ·
          rcases Bool.eq_false_or_eq_true (D337 8) with hb348 | hb348
          ·
           rcases Bool.eq_false_or_eq_true (D337 9) with hb349 | hb349
           ·
            rcases Bool.eq_false_or_eq_true (D337 10) with hb350 | hb350
            ·exact False.elim (hJ337 true true false true false true true true hb338 (hd337 3 (by decide)) hD337 hb339 hb340 hb348 hb349 hb350)
            ·exact False.elim (hJ337 true true false true false true true false hb338 (hd337 3 (by decide)) hD337 hb339 hb340 hb348 hb349 hb350)
           ·
            rcases Bool.eq_false_or_eq_true (D337 10) with hb351 | hb351
            ·exact False.elim (hJ337 true true false true false true false true hb338 (hd337 3 (by decide)) hD337 hb339 hb340 hb348 hb349 hb351)
            ·exact False.elim (hJ337 true true false true false true false false hb338 (hd337 3 (by decide)) hD337 hb339 hb340 hb348 hb349 hb351)
          ·
           rcases Bool.eq_false_or_eq_true (D337 9) with hb352 | hb352
           ·
            rcases Bool.eq_false_or_eq_true (D337 10) with hb353 | hb353
            ·exact False.elim (hJ337 true true false true false false true true hb338 (hd337 3 (by decide)) hD337 hb339 hb340 hb348 hb352 hb353)
            ·exact False.elim (hJ337 true true false true false false true false hb338 (hd337 3 (by decide)) hD337 hb339 hb340 hb348 hb352 hb353)
           ·
            rcases Bool.eq_false_or_eq_true (D337 10) with hb354 | hb354
            ·exact False.elim (hJ337 true true false true false false false true hb338 (hd337 3 (by decide)) hD337 hb339 hb340 hb348 hb352 hb354)
            ·exact False.elim (hJ337 true true false true false false false false hb338 (hd337 3 (by decide)) hD337 hb339 hb340 hb348 hb352 hb354)
        ·
         rcases Bool.eq_false_or_eq_true (D337 7) with hb355 | hb355
         ·
          rcases Bool.eq_false_or_eq_true (D337 8) with hb356 | hb356
          ·
           rcases Bool.eq_false_or_eq_true (D337 9) with hb357 | hb357
           ·
            rcases Bool.eq_false_or_eq_true (D337 10) with hb358 | hb358
            ·exact False.elim (hJ337 true true false false true true true true hb338 (hd337 3 (by decide)) hD337 hb339 hb355 hb356 hb357 hb358)
            ·exact False.elim (hJ337 true true false false true true true false hb338 (hd337 3 (by decide)) hD337 hb339 hb355 hb356 hb357 hb358)
           ·
            rcases Bool.eq_false_or_eq_true (D337 10) with hb359 | hb359
            ·exact False.elim (hJ337 true true false false true true false true hb338 (hd337 3 (by decide)) hD337 hb339 hb355 hb356 hb357 hb359)
            ·exact False.elim (hJ337 true true false false true true false false hb338 (hd337 3 (by decide)) hD337 hb339 hb355 hb356 hb357 hb359)
          ·
           rcases Bool.eq_false_or_eq_true (D337 9) with hb360 | hb360
           ·
            rcases Bool.eq_false_or_eq_true (D337 10) with hb361 | hb361
            ·exact False.elim (hJ337 true true false false true false true true hb338 (hd337 3 (by decide)) hD337 hb339 hb355 hb356 hb360 hb361)
            ·exact False.elim (hJ337 true true false false true false true false hb338 (hd337 3 (by decide)) hD337 hb339 hb355 hb356 hb360 hb361)
           ·
            rcases Bool.eq_false_or_eq_true (D337 10) with hb362 | hb362
            ·exact False.elim (hJ337 true true false false true false false true hb338 (hd337 3 (by decide)) hD337 hb339 hb355 hb356 hb360 hb362)
            ·exact False.elim (hJ337 true true false false true false false false hb338 (hd337 3 (by decide)) hD337 hb339 hb355 hb356 hb360 hb362)
         ·
          rcases Bool.eq_false_or_eq_true (D337 8) with hb363 | hb363
          ·
           rcases Bool.eq_false_or_eq_true (D337 9) with hb364 | hb364
           ·
            rcases Bool.eq_false_or_eq_true (D337 10) with hb365 | hb365
            ·exact False.elim (hJ337 true true false false false true true true hb338 (hd337 3 (by decide)) hD337 hb339 hb355 hb363 hb364 hb365)
            ·exact False.elim (hJ337 true true false false false true true false hb338 (hd337 3 (by decide)) hD337 hb339 hb355 hb363 hb364 hb365)
           ·
            rcases Bool.eq_false_or_eq_true (D337 10) with hb366 | hb366
            ·exact False.elim (hJ337 true true false false false true false true hb338 (hd337 3 (by decide)) hD337 hb339 hb355 hb363 hb364 hb366)
            ·exact False.elim (hJ337 true true false false false true false false hb338 (hd337 3 (by decide)) hD337 hb339 hb355 hb363 hb364 hb366)
          ·
           rcases Bool.eq_false_or_eq_true (D337 9) with hb367 | hb367
           ·
            rcases Bool.eq_false_or_eq_true (D337 10) with hb368 | hb368
            ·exact False.elim (hJ337 true true false false false false true true hb338 (hd337 3 (by decide)) hD337 hb339 hb355 hb363 hb367 hb368)
            ·exact False.elim (hJ337 true true false false false false true false hb338 (hd337 3 (by decide)) hD337 hb339 hb355 hb363 hb367 hb368)
           ·
            rcases Bool.eq_false_or_eq_true (D337 10) with hb369 | hb369
            ·obtain ⟨FJ337, ur58_0, ur58_b0_0, g63, he337_2, he337_3, he337_10, leJ337, hfr58_0, hfr58_b0_0, hSJ337⟩ := (hJ337 true true false false false false false true hb338 (hd337 3 (by decide)) hD337 hb339 hb355 hb363 hb367 hb369);refine W_eqv (t := 40) rfl he337_3 ?_;refine W_call rfl Ty.named81 rfl (cellarerref14_cutter_take_fz_ok (x0 := r58.2) (x1 := r59) (hSJ337.lendL [1] (by decide)) hfr58_b0_0 hr60) ?_;rintro ur60_0 w370 ⟨Fr60, _, ur60_b0_0, rfl, hfr60_0, hfr60_b0_0, hT370⟩;have hS370 := hSJ337.backL [1] [0, 2, 3, 4] (by decide) (by decide) hT370;have ler60 := hT370.ext;refine W_nil ?_;exact N_stepJ rfl (fun u (hu : (none : Option Value) = some u) => by cases hu) (fun b2 b3 b4 b5 b7 b8 b9 b10 h2 h3 h4 h5 h7 h8 h9 h10 => by obtain rfl : b2 = true := h2.symm.trans hb338; obtain rfl : b3 = true := h3.symm.trans (hd337 3 (by decide)); obtain rfl : b4 = true := h4.symm; obtain rfl : b5 = false := h5.symm.trans hb339; obtain rfl : b7 = false := h7.symm.trans hb355; obtain rfl : b8 = false := h8.symm.trans hb363; obtain rfl : b9 = false := h9.symm.trans hb367; obtain rfl : b10 = true := h10.symm.trans hb369; exact ⟨Fr60, ur58_0, ur58_b0_0, ur60_0, ur60_b0_0, g63, he337_2, he337_3, rfl, he337_10, (leJ337.trans ler60), (hfr58_0.mono ler60), hfr60_0, hfr60_b0_0, hS370.pick [1, 0, 2, 3, 4] (by decide)⟩)
            ·obtain ⟨FJ337, ur58_0, ur58_b0_0, he337_2, he337_3, leJ337, hfr58_0, hfr58_b0_0, hSJ337⟩ := (hJ337 true true false false false false false false hb338 (hd337 3 (by decide)) hD337 hb339 hb355 hb363 hb367 hb369);refine W_eqv (t := 40) rfl he337_3 ?_;refine W_call rfl Ty.named81 rfl (cellarerref14_cutter_take_fz_ok (x0 := r58.2) (x1 := r59) (hSJ337.lendL [0] (by decide)) hfr58_b0_0 hr60) ?_;rintro ur60_0 w371 ⟨Fr60, _, ur60_b0_0, rfl, hfr60_0, hfr60_b0_0, hT371⟩;have hS371 := hSJ337.backL [0] [1, 2, 3] (by decide) (by decide) hT371;have ler60 := hT371.ext;refine W_nil ?_;exact N_stepJ rfl (fun u (hu : (none : Option Value) = some u) => by cases hu) (fun b2 b3 b4 b5 b7 b8 b9 b10 h2 h3 h4 h5 h7 h8 h9 h10 => by obtain rfl : b2 = true := h2.symm.trans hb338; obtain rfl : b3 = true := h3.symm.trans (hd337 3 (by decide)); obtain rfl : b4 = true := h4.symm; obtain rfl : b5 = false := h5.symm.trans hb339; obtain rfl : b7 = false := h7.symm.trans hb355; obtain rfl : b8 = false := h8.symm.trans hb363; obtain rfl : b9 = false := h9.symm.trans hb367; obtain rfl : b10 = false := h10.symm.trans hb369; exact ⟨Fr60, ur58_0, ur58_b0_0, ur60_0, ur60_b0_0, he337_2, he337_3, rfl, (leJ337.trans ler60), (hfr58_0.mono ler60), hfr60_0, hfr60_b0_0, hS371⟩)
       ·
        rcases Bool.eq_false_or_eq_true (D337 5) with hb372 | hb372
        ·
         rcases Bool.eq_false_or_eq_true (D337 7) with hb373 | hb373
         ·
          rcases Bool.eq_false_or_eq_true (D337 8) with hb374 | hb374
          ·
           rcases Bool.eq_false_or_eq_true (D337 9) with hb375 | hb375
           ·
            rcases Bool.eq_false_or_eq_true (D337 10) with hb376 | hb376
            ·exact False.elim (hJ337 false true false true true true true true hb338 (hd337 3 (by decide)) hD337 hb372 hb373 hb374 hb375 hb376)
            ·exact False.elim (hJ337 false true false true true true true false hb338 (hd337 3 (by decide)) hD337 hb372 hb373 hb374 hb375 hb376)
           ·
            rcases Bool.eq_false_or_eq_true (D337 10) with hb377 | hb377
            ·exact False.elim (hJ337 false true false true true true false true hb338 (hd337 3 (by decide)) hD337 hb372 hb373 hb374 hb375 hb377)
            ·exact False.elim (hJ337 false true false true true true false false hb338 (hd337 3 (by decide)) hD337 hb372 hb373 hb374 hb375 hb377)
          ·
           rcases Bool.eq_false_or_eq_true (D337 9) with hb378 | hb378
           ·
            rcases Bool.eq_false_or_eq_true (D337 10) with hb379 | hb379
            ·exact False.elim (hJ337 false true false true true false true true hb338 (hd337 3 (by decide)) hD337 hb372 hb373 hb374 hb378 hb379)
            ·exact False.elim (hJ337 false true false true true false true false hb338 (hd337 3 (by decide)) hD337 hb372 hb373 hb374 hb378 hb379)
           ·
            rcases Bool.eq_false_or_eq_true (D337 10) with hb380 | hb380
            ·exact False.elim (hJ337 false true false true true false false true hb338 (hd337 3 (by decide)) hD337 hb372 hb373 hb374 hb378 hb380)
            ·exact False.elim (hJ337 false true false true true false false false hb338 (hd337 3 (by decide)) hD337 hb372 hb373 hb374 hb378 hb380)
         ·
          rcases Bool.eq_false_or_eq_true (D337 8) with hb381 | hb381
          ·
           rcases Bool.eq_false_or_eq_true (D337 9) with hb382 | hb382
           ·
            rcases Bool.eq_false_or_eq_true (D337 10) with hb383 | hb383
            ·exact False.elim (hJ337 false true false true false true true true hb338 (hd337 3 (by decide)) hD337 hb372 hb373 hb381 hb382 hb383)
            ·exact False.elim (hJ337 false true false true false true true false hb338 (hd337 3 (by decide)) hD337 hb372 hb373 hb381 hb382 hb383)
           ·
            rcases Bool.eq_false_or_eq_true (D337 10) with hb384 | hb384
            ·exact False.elim (hJ337 false true false true false true false true hb338 (hd337 3 (by decide)) hD337 hb372 hb373 hb381 hb382 hb384)
            ·exact False.elim (hJ337 false true false true false true false false hb338 (hd337 3 (by decide)) hD337 hb372 hb373 hb381 hb382 hb384)
          ·
           rcases Bool.eq_false_or_eq_true (D337 9) with hb385 | hb385
           ·
            rcases Bool.eq_false_or_eq_true (D337 10) with hb386 | hb386
            ·exact False.elim (hJ337 false true false true false false true true hb338 (hd337 3 (by decide)) hD337 hb372 hb373 hb381 hb385 hb386)
            ·exact False.elim (hJ337 false true false true false false true false hb338 (hd337 3 (by decide)) hD337 hb372 hb373 hb381 hb385 hb386)
           ·
            rcases Bool.eq_false_or_eq_true (D337 10) with hb387 | hb387
            ·exact False.elim (hJ337 false true false true false false false true hb338 (hd337 3 (by decide)) hD337 hb372 hb373 hb381 hb385 hb387)
            ·exact False.elim (hJ337 false true false true false false false false hb338 (hd337 3 (by decide)) hD337 hb372 hb373 hb381 hb385 hb387)
        ·
         rcases Bool.eq_false_or_eq_true (D337 7) with hb388 | hb388
         ·
          rcases Bool.eq_false_or_eq_true (D337 8) with hb389 | hb389
          ·
           rcases Bool.eq_false_or_eq_true (D337 9) with hb390 | hb390
           ·
            rcases Bool.eq_false_or_eq_true (D337 10) with hb391 | hb391
            ·exact False.elim (hJ337 false true false false true true true true hb338 (hd337 3 (by decide)) hD337 hb372 hb388 hb389 hb390 hb391)
            ·exact False.elim (hJ337 false true false false true true true false hb338 (hd337 3 (by decide)) hD337 hb372 hb388 hb389 hb390 hb391)
           ·
            rcases Bool.eq_false_or_eq_true (D337 10) with hb392 | hb392
            ·exact False.elim (hJ337 false true false false true true false true hb338 (hd337 3 (by decide)) hD337 hb372 hb388 hb389 hb390 hb392)
            ·exact False.elim (hJ337 false true false false true true false false hb338 (hd337 3 (by decide)) hD337 hb372 hb388 hb389 hb390 hb392)
          ·
           rcases Bool.eq_false_or_eq_true (D337 9) with hb393 | hb393
           ·
            rcases Bool.eq_false_or_eq_true (D337 10) with hb394 | hb394
            ·exact False.elim (hJ337 false true false false true false true true hb338 (hd337 3 (by decide)) hD337 hb372 hb388 hb389 hb393 hb394)
            ·exact False.elim (hJ337 false true false false true false true false hb338 (hd337 3 (by decide)) hD337 hb372 hb388 hb389 hb393 hb394)
           ·
            rcases Bool.eq_false_or_eq_true (D337 10) with hb395 | hb395
            ·exact False.elim (hJ337 false true false false true false false true hb338 (hd337 3 (by decide)) hD337 hb372 hb388 hb389 hb393 hb395)
            ·exact False.elim (hJ337 false true false false true false false false hb338 (hd337 3 (by decide)) hD337 hb372 hb388 hb389 hb393 hb395)
         ·
          rcases Bool.eq_false_or_eq_true (D337 8) with hb396 | hb396
          ·
           rcases Bool.eq_false_or_eq_true (D337 9) with hb397 | hb397
           ·
            rcases Bool.eq_false_or_eq_true (D337 10) with hb398 | hb398
            ·exact False.elim (hJ337 false true false false false true true true hb338 (hd337 3 (by decide)) hD337 hb372 hb388 hb396 hb397 hb398)
            ·exact False.elim (hJ337 false true false false false true true false hb338 (hd337 3 (by decide)) hD337 hb372 hb388 hb396 hb397 hb398)
           ·
            rcases Bool.eq_false_or_eq_true (D337 10) with hb399 | hb399
            ·exact False.elim (hJ337 false true false false false true false true hb338 (hd337 3 (by decide)) hD337 hb372 hb388 hb396 hb397 hb399)
            ·exact False.elim (hJ337 false true false false false true false false hb338 (hd337 3 (by decide)) hD337 hb372 hb388 hb396 hb397 hb399)
          ·
           rcases Bool.eq_false_or_eq_true (D337 9) with hb400 | hb400
           ·
            rcases Bool.eq_false_or_eq_true (D337 10) with hb401 | hb401
            ·exact False.elim (hJ337 false true false false false false true true hb338 (hd337 3 (by decide)) hD337 hb372 hb388 hb396 hb400 hb401)
            ·exact False.elim (hJ337 false true false false false false true false hb338 (hd337 3 (by decide)) hD337 hb372 hb388 hb396 hb400 hb401)
           ·
            rcases Bool.eq_false_or_eq_true (D337 10) with hb402 | hb402
            ·exact False.elim (hJ337 false true false false false false false true hb338 (hd337 3 (by decide)) hD337 hb372 hb388 hb396 hb400 hb402)
            ·exact False.elim (hJ337 false true false false false false false false hb338 (hd337 3 (by decide)) hD337 hb372 hb388 hb396 hb400 hb402)
      ·intro w403 vq403 D403 hD403 hd403 hJ403
       rcases Bool.eq_false_or_eq_true (D403 2) with hb404 | hb404
       ·
        rcases Bool.eq_false_or_eq_true (D403 3) with hb405 | hb405
        ·
         rcases Bool.eq_false_or_eq_true (D403 7) with hb406 | hb406
         ·
          rcases Bool.eq_false_or_eq_true (D403 8) with hb407 | hb407
          ·
           rcases Bool.eq_false_or_eq_true (D403 9) with hb408 | hb408
           ·
            rcases Bool.eq_false_or_eq_true (D403 10) with hb409 | hb409
            ·exact False.elim (hJ403 true true true false true true true true hb404 hb405 (hd403 4 (by decide)) hD403 hb406 hb407 hb408 hb409)
            ·exact False.elim (hJ403 true true true false true true true false hb404 hb405 (hd403 4 (by decide)) hD403 hb406 hb407 hb408 hb409)
           ·
            rcases Bool.eq_false_or_eq_true (D403 10) with hb410 | hb410
            ·obtain ⟨FJ403, ur58_0, ur58_b0_0, ur60_0, ur60_b0_0, ur61_0, ur61_b0_0, g63, he403_2, he403_3, he403_4, he403_7, he403_8, he403_10, leJ403, hfr58_0, hfr60_0, hfr61_0, hfr61_b0_0, hSJ403⟩ := (hJ403 true true true false true true false true hb404 hb405 (hd403 4 (by decide)) hD403 hb406 hb407 hb408 hb410);refine W_eqv (t := 41) rfl he403_4 ?_;refine W_bstr rfl Try.underlying25 Try.underlying5 Try.underlying9 rfl (hfr60_0.src hSJ403.agree) ?_;refine W_nil ?_;exact N_stepJ rfl (fun u (hu : (none : Option Value) = some u) => by cases hu) (fun b2 b3 b4 b5 b7 b8 b9 b10 h2 h3 h4 h5 h7 h8 h9 h10 => by obtain rfl : b2 = true := h2.symm.trans hb404; obtain rfl : b3 = true := h3.symm.trans hb405; obtain rfl : b4 = true := h4.symm.trans (hd403 4 (by decide)); obtain rfl : b5 = true := h5.symm; obtain rfl : b7 = true := h7.symm.trans hb406; obtain rfl : b8 = true := h8.symm.trans hb407; obtain rfl : b9 = false := h9.symm.trans hb408; obtain rfl : b10 = true := h10.symm.trans hb410; exact ⟨FJ403, ur58_0, ur58_b0_0, ur60_0, ur60_b0_0, ur61_0, ur61_b0_0, g63, he403_2, he403_3, he403_4, rfl, he403_7, he403_8, he403_10, leJ403, hfr58_0, hfr60_0, hfr61_0, hfr61_b0_0, hSJ403⟩)
            ·obtain ⟨FJ403, ur58_0, ur58_b0_0, ur60_0, ur60_b0_0, ur61_0, ur61_b0_0, he403_2, he403_3, he403_4, he403_7, he403_8, leJ403, hfr58_0, hfr60_0, hfr61_0, hfr61_b0_0, hSJ403⟩ := (hJ403 true true true false true true false false hb404 hb405 (hd403 4 (by decide)) hD403 hb406 hb407 hb408 hb410);refine W_eqv (t := 41) rfl he403_4 ?_;refine W_bstr rfl Try.underlying25 Try.underlying5 Try.underlying9 rfl (hfr60_0.src hSJ403.agree) ?_;refine W_nil ?_;exact N_stepJ rfl (fun u (hu : (none : Option Value) = some u) => by cases hu) (fun b2 b3 b4 b5 b7 b8 b9 b10 h2 h3 h4 h5 h7 h8 h9 h10 => by obtain rfl : b2 = true := h2.symm.trans hb404; obtain rfl : b3 = true := h3.symm.trans hb405; obtain rfl : b4 = true := h4.symm.trans (hd403 4 (by decide)); obtain rfl : b5 = true := h5.symm; obtain rfl : b7 = true := h7.symm.trans hb406; obtain rfl : b8 = true := h8.symm.trans hb407; obtain rfl : b9 = false := h9.symm.trans hb408; obtain rfl : b10 = false := h10.symm.trans hb410; exact ⟨FJ403, ur58_0, ur58_b0_0, ur60_0, ur60_b0_0, ur61_0, ur61_b0_0, he403_2, he403_3, he403_4, rfl, he403_7, he403_8, leJ403, hfr58_0, hfr60_0, hfr61_0, hfr61_b0_0, hSJ403⟩)
          ·
           rcases Bool.eq_false_or_eq_true (D403 9) with hb411 | hb411
           ·
            rcases Bool.eq_false_or_eq_true (D403 10) with hb412 | hb412
            ·exact False.elim (hJ403 true true true false true false true true hb404 hb405 (hd403 4 (by decide)) hD403 hb406 hb407 hb411 hb412)
            ·exact False.elim (hJ403 true true true false true false true false hb404 hb405 (hd403 4 (by decide)) hD403 hb406 hb407 hb411 hb412)
           ·
            rcases Bool.eq_false_or_eq_true (D403 10) with hb413 | hb413
            ·obtain ⟨FJ403, ur58_0, ur58_b0_0, ur60_0, ur60_b0_0, ur61_0, ur61_b0_0, g63, he403_2, he403_3, he403_4, he403_7, he403_10, leJ403, hfr58_0, hfr60_0, hfr61_0, hfr61_b0_0, hSJ403⟩ := (hJ403 true true true false true false false true hb404 hb405 (hd403 4 (by decide)) hD403 hb406 hb407 hb411 hb413);refine W_eqv (t := 41) rfl he403_4 ?_;refine W_bstr rfl Try.underlying25 Try.underlying5 Try.underlying9 rfl (hfr60_0.src hSJ403.agree) ?_;refine W_nil ?_;exact N_stepJ rfl (fun u (hu : (none : Option Value) = some u) => by cases hu) (fun b2 b3 b4 b5 b7 b8 b9 b10 h2 h3 h4 h5 h7 h8 h9 h10 => by obtain rfl : b2 = true := h2.symm.trans hb404; obtain rfl : b3 = true := h3.symm.trans hb405; obtain rfl : b4 = true := h4.symm.trans (hd403 4 (by decide)); obtain rfl : b5 = true := h5.symm; obtain rfl : b7 = true := h7.symm.trans hb406; obtain rfl : b8 = false := h8.symm.trans hb407; obtain rfl : b9 = false := h9.symm.trans hb411; obtain rfl : b10 = true := h10.symm.trans hb413; exact ⟨FJ403, ur58_0, ur58_b0_0, ur60_0, ur60_b0_0, ur61_0, ur61_b0_0, g63, he403_2, he403_3, he403_4, rfl, he403_7, he403_10, leJ403, hfr58_0, hfr60_0, hfr61_0, hfr61_b0_0, hSJ403⟩)
            ·obtain ⟨FJ403, ur58_0, ur58_b0_0, ur60_0, ur60_b0_0, ur61_0, ur61_b0_0, he403_2, he403_3, he403_4, he403_7, leJ403, hfr58_0, hfr60_0, hfr61_0, hfr61_b0_0, hSJ403⟩ := (hJ403 true true true false true false false false hb404 hb405 (hd403 4 (by decide)) hD403 hb406 hb407 hb411 hb413);refine W_eqv (t := 41) rfl he403_4 ?_;refine W_bstr rfl Try.underlying25 Try.underlying5 Try.underlying9 rfl (hfr60_0.src hSJ403.agree) ?_;refine W_nil ?_;exact N_stepJ rfl (fun u (hu : (none : Option Value) = some u) => by cases hu) (fun b2 b3 b4 b5 b7 b8 b9 b10 h2 h3 h4 h5 h7 h8 h9 h10 => by obtain rfl : b2 = true := h2.symm.trans hb404; obtain rfl : b3 = true := h3.symm.trans hb405; obtain rfl : b4 = true := h4.symm.trans (hd403 4 (by decide)); obtain rfl : b5 = true := h5.symm; obtain rfl : b7 = true := h7.symm.trans hb406; obtain rfl : b8 = false := h8.symm.trans hb407; obtain rfl : b9 = false := h9.symm.trans hb411; obtain rfl : b10 = false := h10.symm.trans hb413; exact ⟨FJ403, ur58_0, ur58_b0_0, ur60_0, ur60_b0_0, ur61_0, ur61_b0_0, he403_2, he403_3, he403_4, rfl, he403_7, leJ403, hfr58_0, hfr60_0, hfr61_0, hfr61_b0_0, hSJ403⟩)
         ·
          rcases Bool.eq_false_or_eq_true (D403 8) with hb414 | hb414
          ·
           rcases Bool.eq_false_or_eq_true (D403 9) with hb415 | hb415
           ·
            rcases Bool.eq_false_or_eq_true (D403 10) with hb416 | hb416
            ·exact False.elim (hJ403 true true true false false true true true hb404 hb405 (hd403 4 (by decide)) hD403 hb406 hb414 hb415 hb416)
            ·exact False.elim (hJ403 true true true false false true true false hb404 hb405 (hd403 4 (by decide)) hD403 hb406 hb414 hb415 hb416)
           ·
            rcases Bool.eq_false_or_eq_true (D403 10) with hb417 | hb417
            ·exact False.elim (hJ403 true true true false false true false true hb404 hb405 (hd403 4 (by decide)) hD403 hb406 hb414 hb415 hb417)
            ·exact False.elim (hJ403 true true true false false true false false hb404 hb405 (hd403 4 (by decide)) hD403 hb406 hb414 hb415 hb417)
          ·
           rcases Bool.eq_false_or_eq_true (D403 9) with hb418 | hb418
           ·
            rcases Bool.eq_false_or_eq_true (D403 10) with hb419 | hb419
            ·exact False.elim (hJ403 true true true false false false true true hb404 hb405 (hd403 4 (by decide)) hD403 hb406 hb414 hb418 hb419)
            ·exact False.elim (hJ403 true true true false false false true false hb404 hb405 (hd403 4 (by decide)) hD403 hb406 hb414 hb418 hb419)
           ·
            rcases Bool.eq_false_or_eq_true (D403 10) with hb420 | hb420
            ·obtain ⟨FJ403, ur58_0, ur58_b0_0, ur60_0, ur60_b0_0, g63, he403_2, he403_3, he403_4, he403_10, leJ403, hfr58_0, hfr60_0, hfr60_b0_0, hSJ403⟩ := (hJ403 true true true false false false false true hb404 hb405 (hd403 4 (by decide)) hD403 hb406 hb414 hb418 hb420);refine W_eqv (t := 41) rfl he403_4 ?_;refine W_bstr rfl Try.underlying25 Try.underlying5 Try.underlying9 rfl (hfr60_0.src hSJ403.agree) ?_;refine W_nil ?_;exact N_stepJ rfl (fun u (hu : (none : Option Value) = some u) => by cases hu) (fun b2 b3 b4 b5 b7 b8 b9 b10 h2 h3 h4 h5 h7 h8 h9 h10 => by obtain rfl : b2 = true := h2.symm.trans hb404; obtain rfl : b3 = true := h3.symm.trans hb405; obtain rfl : b4 = true := h4.symm.trans (hd403 4 (by decide)); obtain rfl : b5 = true := h5.symm; obtain rfl : b7 = false := h7.symm.trans hb406; obtain rfl : b8 = false := h8.symm.trans hb414; obtain rfl : b9 = false := h9.symm.trans hb418; obtain rfl : b10 = true := h10.symm.trans hb420; exact ⟨FJ403, ur58_0, ur58_b0_0, ur60_0, ur60_b0_0, g63, he403_2, he403_3, he403_4, rfl, he403_10, leJ403, hfr58_0, hfr60_0, hfr60_b0_0, hSJ403⟩)
            ·obtain ⟨FJ403, ur58_0, ur58_b0_0, ur60_0, ur60_b0_0, he403_2, he403_3, he403_4, leJ403, hfr58_0, hfr60_0, hfr60_b0_0, hSJ403⟩ := (hJ403 true true true false false false false false hb404 hb405 (hd403 4 (by decide)) hD403 hb406 hb414 hb418 hb420);refine W_eqv (t := 41) rfl he403_4 ?_;refine W_bstr rfl Try.underlying25 Try.underlying5 Try.underlying9 rfl (hfr60_0.src hSJ403.agree) ?_;refine W_nil ?_;exact N_stepJ rfl (fun u (hu : (none : Option Value) = some u) => by cases hu) (fun b2 b3 b4 b5 b7 b8 b9 b10 h2 h3 h4 h5 h7 h8 h9 h10 => by obtain rfl : b2 = true := h2.symm.trans hb404; obtain rfl : b3 = true := h3.symm.trans hb405; obtain rfl : b4 = true := h4.symm.trans (hd403 4 (by decide)); obtain rfl : b5 = true := h5.symm; obtain rfl : b7 = false := h7.symm.trans hb406; obtain rfl : b8 = false := h8.symm.trans hb414; obtain rfl : b9 = false := h9.symm.trans hb418; obtain rfl : b10 = false := h10.symm.trans hb420; exact ⟨FJ403, ur58_0, ur58_b0_0, ur60_0, ur60_b0_0, he403_2, he403_3, he403_4, rfl, leJ403, hfr58_0, hfr60_0, hfr60_b0_0, hSJ403⟩)
        ·
         rcases Bool.eq_false_or_eq_true (D403 7) with hb421 | hb421
         ·
          rcases Bool.eq_false_or_eq_true (D403 8) with hb422 | hb422
          ·
           rcases Bool.eq_false_or_eq_true (D403 9) with hb423 | hb423
           ·
            rcases Bool.eq_false_or_eq_true (D403 10) with hb424 | hb424
            ·exact False.elim (hJ403 true false true false true true true true hb404 hb405 (hd403 4 (by decide)) hD403 hb421 hb422 hb423 hb424)
            ·exact False.elim (hJ403 true false true false true true true false hb404 hb405 (hd403 4 (by decide)) hD403 hb421 hb422 hb423 hb424)
           ·
            rcases Bool.eq_false_or_eq_true (D403 10) with hb425 | hb425
            ·exact False.elim (hJ403 true false true false true true false true hb404 hb405 (hd403 4 (by decide)) hD403 hb421 hb422 hb423 hb425)
            ·exact False.elim (hJ403 true false true false true true false false hb404 hb405 (hd403 4 (by decide)) hD403 hb421 hb422 hb423 hb425)
          ·
           rcases Bool.eq_false_or_eq_true (D403 9) with hb426 | hb426
           ·
            rcases Bool.eq_false_or_eq_true (D403 10) with hb427 | hb427
            ·exact False.elim (hJ403 true false true false true false true true hb404 hb405 (hd403 4 (by decide)) hD403 hb421 hb422 hb426 hb427)
            ·exact False.elim (hJ403 true false true false true false true false hb404 hb405 (hd403 4 (by decide)) hD403 hb421 hb422 hb426 hb427)
           ·
            rcases Bool.eq_false_or_eq_true (D403 10) with hb428 | hb428
            ·exact False.elim (hJ403 true false true false true false false true hb404 hb405 (hd403 4 (by decide)) hD403 hb421 hb422 hb426 hb428)
            ·exact False.elim (hJ403 true false true false true false false false hb404 hb405 (hd403 4 (by decide)) hD403 hb421 hb422 hb426 hb428)
         ·
          rcases Bool.eq_false_or_eq_true (D403 8) with hb429 | hb429
          ·
           rcases Bool.eq_false_or_eq_true (D403 9) with hb430 | hb430
           ·
            rcases Bool.eq_false_or_eq_true (D403 10) with hb431 | hb431
            ·exact False.elim (hJ403 true false true false false true true true hb404 hb405 (hd403 4 (by decide)) hD403 hb421 hb429 hb430 hb431)
            ·exact False.elim (hJ403 true false true false false true true false hb404 hb405 (hd403 4 (by decide)) hD403 hb421 hb429 hb430 hb431)
           ·
            rcases Bool.eq_false_or_eq_true (D403 10) with hb432 | hb432
            ·exact False.elim (hJ403 true false true false false true false true hb404 hb405 (hd403 4 (by decide)) hD403 hb421 hb429 hb430 hb432)
            ·exact False.elim (hJ403 true false true false false true false false hb404 hb405 (hd403 4 (by decide)) hD403 hb421 hb429 hb430 hb432)
          ·
           rcases Bool.eq_false_or_eq_true (D403 9) with hb433 | hb433
           ·
            rcases Bool.eq_false_or_eq_true (D403 10) with hb434 | hb434
            ·exact False.elim (hJ403 true false true false false false true true hb404 hb405 (hd403 4 (by decide)) hD403 hb421 hb429 hb433 hb434)
            ·exact False.elim (hJ403 true false true false false false true false hb404 hb405 (hd403 4 (by decide)) hD403 hb421 hb429 hb433 hb434)
           ·
            rcases Bool.eq_false_or_eq_true (D403 10) with hb435 | hb435
            ·exact False.elim (hJ403 true false true false false false false true hb404 hb405 (hd403 4 (by decide)) hD403 hb421 hb429 hb433 hb435)
            ·exact False.elim (hJ403 true false true false false false false false hb404 hb405 (hd403 4 (by decide)) hD403 hb421 hb429 hb433 hb435)
       ·
        rcases Bool.eq_false_or_eq_true (D403 3) with hb436 | hb436
        ·
         rcases Bool.eq_false_or_eq_true (D403 7) with hb437 | hb437
         ·
          rcases Bool.eq_false_or_eq_true (D403 8) with hb438 | hb438
          ·
           rcases Bool.eq_false_or_eq_true (D403 9) with hb439 | hb439
           ·
            rcases Bool.eq_false_or_eq_true (D403 10) with hb440 | hb440
            ·exact False.elim (hJ403 false true true false true true true true hb404 hb436 (hd403 4 (by decide)) hD403 hb437 hb438 hb439 hb440)
            ·exact False.elim (hJ403 false true true false true true true false hb404 hb436 (hd403 4 (by decide)) hD403 hb437 hb438 hb439 hb440)
           ·
            rcases Bool.eq_false_or_eq_true (D403 10) with hb441 | hb441
            ·exact False.elim (hJ403 false true true false true true false true hb404 hb436 (hd403 4 (by decide)) hD403 hb437 hb438 hb439 hb441)
            ·exact False.elim (hJ403 false true true false true true false false hb404 hb436 (hd403 4 (by decide)) hD403 hb437 hb438 hb439 hb441)
          ·
           rcases Bool.eq_false_or_eq_true (D403 9) with hb442 | hb442
           ·
            rcases Bool.eq_false_or_eq_true (D403 10) with hb443 | hb443
            ·exact False.elim (hJ403 false true true false true false true true hb404 hb436 (hd403 4 (by decide)) hD403 hb437 hb438 hb442 hb443)
            ·exact False.elim (hJ403 false true true false true false true false hb404 hb436 (hd403 4 (by decide)) hD403 hb437 hb438 hb442 hb443)
           ·
            rcases Bool.eq_false_or_eq_true (D403 10) with hb444 | hb444
            ·exact False.elim (hJ403 false true true false true false false true hb404 hb436 (hd403 4 (by decide)) hD403 hb437 hb438 hb442 hb444)
            ·exact False.elim (hJ403 false true true false true false false false hb404 hb436 (hd403 4 (by decide)) hD403 hb437 hb438 hb442 hb444)
         ·
          rcases Bool.eq_false_or_eq_true (D403 8) with hb445 | hb445
          ·
           rcases Bool.eq_false_or_eq_true (D403 9) with hb446 | hb446
           ·
            rcases Bool.eq_false_or_eq_true (D403 10) with hb447 | hb447
            ·exact False.elim (hJ403 false true true false false true true true hb404 hb436 (hd403 4 (by decide)) hD403 hb437 hb445 hb446 hb447)
            ·exact False.elim (hJ403 false true true false false true true false hb404 hb436 (hd403 4 (by decide)) hD403 hb437 hb445 hb446 hb447)
           ·
            rcases Bool.eq_false_or_eq_true (D403 10) with hb448 | hb448
            ·exact False.elim (hJ403 false true true false false true false true hb404 hb436 (hd403 4 (by decide)) hD403 hb437 hb445 hb446 hb448)
            ·exact False.elim (hJ403 false true true false false true false false hb404 hb436 (hd403 4 (by decide)) hD403 hb437 hb445 hb446 hb448)
          ·
           rcases Bool.eq_false_or_eq_true (D403 9) with hb449 | hb449
           ·
            rcases Bool.eq_false_or_eq_true (D403 10) with hb450 | hb450
            ·exact False.elim (hJ403 false true true false false false true true hb404 hb436 (hd403 4 (by decide)) hD403 hb437 hb445 hb449 hb450)
            ·exact False.elim (hJ403 false true true false false false true false hb404 hb436 (hd403 4 (by decide)) hD403 hb437 hb445 hb449 hb450)
           ·
            rcases Bool.eq_false_or_eq_true (D403 10) with hb451 | hb451
            ·exact False.elim (hJ403 false true true false false false false true hb404 hb436 (hd403 4 (by decide)) hD403 hb437 hb445 hb449 hb451)
            ·exact False.elim (hJ403 false true true false false false false false hb404 hb436 (hd403 4 (by decide)) hD403 hb437 hb445 hb449 hb451)
        ·
         rcases Bool.eq_false_or_eq_true (D403 7) with hb452 | hb452
         ·
          rcases Bool.eq_false_or_eq_true (D403 8) with hb453 | hb453
          ·
           rcases Bool.eq_false_or_eq_true (D403 9) with hb454 | hb454
           ·
            rcases Bool.eq_false_or_eq_true (D403 10) with hb455 | hb455
            ·exact False.elim (hJ403 false false true false true true true true hb404 hb436 (hd403 4 (by decide)) hD403 hb452 hb453 hb454 hb455)
            ·exact False.elim (hJ403 false false true false true true true false hb404 hb436 (hd403 4 (by decide)) hD403 hb452 hb453 hb454 hb455)
           ·
            rcases Bool.eq_false_or_eq_true (D403 10) with hb456 | hb456
            ·exact False.elim (hJ403 false false true false true true false true hb404 hb436 (hd403 4 (by decide)) hD403 hb452 hb453 hb454 hb456)
            ·exact False.elim (hJ403 false false true false true true false false hb404 hb436 (hd403 4 (by decide)) hD403 hb452 hb453 hb454 hb456)
          ·
           rcases Bool.eq_false_or_eq_true (D403 9) with hb457 | hb457
           ·
            rcases Bool.eq_false_or_eq_true (D403 10) with hb458 | hb458
            ·exact False.elim (hJ403 false false true false true false true true hb404 hb436 (hd403 4 (by decide)) hD403 hb452 hb453 hb457 hb458)
            ·exact False.elim (hJ403 false false true false true false true false hb404 hb436 (hd403 4 (by decide)) hD403 hb452 hb453 hb457 hb458)
           ·
            rcases Bool.eq_false_or_eq_true (D403 10) with hb459 | hb459
            ·exact False.elim (hJ403 false false true false true false false true hb404 hb436 (hd403 4 (by decide)) hD403 hb452 hb453 hb457 hb459)
            ·exact False.elim (hJ403 false false true false true false false false hb404 hb436 (hd403 4 (by decide)) hD403 hb452 hb453 hb457 hb459)
         ·
          rcases Bool.eq_false_or_eq_true (D403 8) with hb460 | hb460
          ·
           rcases Bool.eq_false_or_eq_true (D403 9) with hb461 | hb461
           ·
            rcases Bool.eq_false_or_eq_true (D403 10) with hb462 | hb462
            ·exact False.elim (hJ403 false false true false false true true true hb404 hb436 (hd403 4 (by decide)) hD403 hb452 hb460 hb461 hb462)
            ·exact False.elim (hJ403 false false true false false true true false hb404 hb436 (hd403 4 (by decide)) hD403 hb452 hb460 hb461 hb462)
           ·
            rcases Bool.eq_false_or_eq_true (D403 10) with hb463 | hb463
            ·exact False.elim (hJ403 false false true false false true false true hb404 hb436 (hd403 4 (by decide)) hD403 hb452 hb460 hb461 hb463)
            ·exact False.elim (hJ403 false false true false false true false false hb404 hb436 (hd403 4 (by decide)) hD403 hb452 hb460 hb461 hb463)
          ·
           rcases Bool.eq_false_or_eq_true (D403 9) with hb464 | hb464
           ·
            rcases Bool.eq_false_or_eq_true (D403 10) with hb465 | hb465
            ·exact False.elim (hJ403 false false true false false false true true hb404 hb436 (hd403 4 (by decide)) hD403 hb452 hb460 hb464 hb465)
            ·exact False.elim (hJ403 false false true false false false true false hb404 hb436 (hd403 4 (by decide)) hD403 hb452 hb460 hb464 hb465)
           ·
            rcases Bool.eq_false_or_eq_true (D403 10) with hb466 | hb466
            ·exact False.elim (hJ403 false false true false false false false true hb404 hb436 (hd403 4 (by decide)) hD403 hb452 hb460 hb464 hb466)
            ·exact False.elim (hJ403 false false true false false false false false hb404 hb436 (hd403 4 (by decide)) hD403 hb452 hb460 hb464 hb466)
      ·intro w467 vq467 D467 hD467 hd467 hJ467;refine W_move rfl rfl ?_;refine W_nil ?_;exact N_stepJ rfl (fun u hu => Option.some.inj hu) hJ467
      ·intro w468 vq468 D468 hD468 hd468 hJ468
       rcases Bool.eq_false_or_eq_true (D468 2) with hb469 | hb469
       ·
        rcases Bool.eq_false_or_eq_true (D468 3) with hb470 | hb470
        ·
         rcases Bool.eq_false_or_eq_true (D468 5) with hb471 | hb471
         ·
          rcases Bool.eq_false_or_eq_true (D468 8) with hb472 | hb472
          ·
           rcases Bool.eq_false_or_eq_true (D468 9) with hb473 | hb473
           ·
            rcases Bool.eq_false_or_eq_true (D468 10) with hb474 | hb474
            ·exact False.elim (hJ468 true true true true false true true true hb469 hb470 (hd468 4 (by decide)) hb471 hD468 hb472 hb473 hb474)
            ·exact False.elim (hJ468 true true true true false true true false hb469 hb470 (hd468 4 (by decide)) hb471 hD468 hb472 hb473 hb474)
           ·
            rcases Bool.eq_false_or_eq_true (D468 10) with hb475 | hb475
            ·exact False.elim (hJ468 true true true true false true false true hb469 hb470 (hd468 4 (by decide)) hb471 hD468 hb472 hb473 hb475)
            ·exact False.elim (hJ468 true true true true false true false false hb469 hb470 (hd468 4 (by decide)) hb471 hD468 hb472 hb473 hb475)
          ·
           rcases Bool.eq_false_or_eq_true (D468 9) with hb476 | hb476
           ·
            rcases Bool.eq_false_or_eq_true (D468 10) with hb477 | hb477
            ·exact False.elim (hJ468 true true true true false false true true hb469 hb470 (hd468 4 (by decide)) hb471 hD468 hb472 hb476 hb477)
            ·exact False.elim (hJ468 true true true true false false true false hb469 hb470 (hd468 4 (by decide)) hb471 hD468 hb472 hb476 hb477)
           ·
            rcases Bool.eq_false_or_eq_true (D468 10) with hb478 | hb478
            ·obtain ⟨FJ468, ur58_0, ur58_b0_0, ur60_0, ur60_b0_0, g63, he468_2, he468_3, he468_4, he468_5, he468_10, leJ468, hfr58_0, hfr60_0, hfr60_b0_0, hSJ468⟩ := (hJ468 true true true true false false false true hb469 hb470 (hd468 4 (by decide)) hb471 hD468 hb472 hb476 hb478);refine W_eqv (t := 41) rfl he468_4 ?_;refine W_call rfl Ty.named81 rfl (cellarerref14_cutter_take_fz_ok (x0 := r60.2) (x1 := 2) (hSJ468.lendL [1] (by decide)) hfr60_b0_0 hr61) ?_;rintro ur61_0 w479 ⟨Fr61, _, ur61_b0_0, rfl, hfr61_0, hfr61_b0_0, hT479⟩;have hS479 := hSJ468.backL [1] [0, 2, 3, 4] (by decide) (by decide) hT479;have ler61 := hT479.ext;refine W_nil ?_;exact N_stepJ rfl (fun u (hu : (none : Option Value) = some u) => by cases hu) (fun b2 b3 b4 b5 b7 b8 b9 b10 h2 h3 h4 h5 h7 h8 h9 h10 => by obtain rfl : b2 = true := h2.symm.trans hb469; obtain rfl : b3 = true := h3.symm.trans hb470; obtain rfl : b4 = true := h4.symm.trans (hd468 4 (by decide)); obtain rfl : b5 = true := h5.symm.trans hb471; obtain rfl : b7 = true := h7.symm; obtain rfl : b8 = false := h8.symm.trans hb472; obtain rfl : b9 = false := h9.symm.trans hb476; obtain rfl : b10 = true := h10.symm.trans hb478; exact ⟨Fr61, ur58_0, ur58_b0_0, ur60_0, ur60_b0_0, ur61_0, ur61_b0_0, g63, he468_2, he468_3, he468_4, he468_5, rfl, he468_10, (leJ468.trans ler61), (hfr58_0.mono ler61), (hfr60_0.mono ler61), hfr61_0, hfr61_b0_0, hS479.pick [1, 0, 2, 3, 4] (by decide)⟩)
            ·obtain ⟨FJ468, ur58_0, ur58_b0_0, ur60_0, ur60_b0_0, he468_2, he468_3, he468_4, he468_5, leJ468, hfr58_0, hfr60_0, hfr60_b0_0, hSJ468⟩ := (hJ468 true true true true false false false false hb469 hb470 (hd468 4 (by decide)) hb471 hD468 hb472 hb476 hb478);refine W_eqv (t := 41) rfl he468_4 ?_;refine W_call rfl Ty.named81 rfl (cellarerref14_cutter_take_fz_ok (x0 := r60.2) (x1 := 2) (hSJ468.lendL [0] (by decide)) hfr60_b0_0 hr61) ?_;rintro ur61_0 w480 ⟨Fr61, _, ur61_b0_0, rfl, hfr61_0, hfr61_b0_0, hT480⟩;have hS480 := hSJ468.backL [0] [1, 2, 3] (by decide) (by decide) hT480;have ler61 := hT480.ext;refine W_nil ?_;exact N_stepJ rfl (fun u (hu : (none : Option Value) = some u) => by cases hu) (fun b2 b3 b4 b5 b7 b8 b9 b10 h2 h3 h4 h5 h7 h8 h9 h10 => by obtain rfl : b2 = true := h2.symm.trans hb469; obtain rfl : b3 = true := h3.symm.trans hb470; obtain rfl : b4 = true := h4.symm.trans (hd468 4 (by decide)); obtain rfl : b5 = true := h5.symm.trans hb471; obtain rfl : b7 = true := h7.symm; obtain rfl : b8 = false := h8.symm.trans hb472; obtain rfl : b9 = false := h9.symm.trans hb476; obtain rfl : b10 = false := h10.symm.trans hb478; exact ⟨Fr61, ur58_0, ur58_b0_0, ur60_0, ur60_b0_0, ur61_0, ur61_b0_0, he468_2, he468_3, he468_4, he468_5, rfl, (leJ468.trans ler61), (hfr58_0.mono ler61), (hfr60_0.mono ler61), hfr61_0, hfr61_b0_0, hS480⟩)
         ·
          rcases Bool.eq_false_or_eq_true (D468 8) with hb481 | hb481
          ·
           rcases Bool.eq_false_or_eq_true (D468 9) with hb482 | hb482
           ·
            rcases Bool.eq_false_or_eq_true (D468 10) with hb483 | hb483
            ·exact False.elim (hJ468 true true true false false true true true hb469 hb470 (hd468 4 (by decide)) hb471 hD468 hb481 hb482 hb483)
            ·exact False.elim (hJ468 true true true false false true true false hb469 hb470 (hd468 4 (by decide)) hb471 hD468 hb481 hb482 hb483)
           ·
            rcases Bool.eq_false_or_eq_true (D468 10) with hb484 | hb484
            ·exact False.elim (hJ468 true true true false false true false true hb469 hb470 (hd468 4 (by decide)) hb471 hD468 hb481 hb482 hb484)
            ·exact False.elim (hJ468 true true true false false true false false hb469 hb470 (hd468 4 (by decide)) hb471 hD468 hb481 hb482 hb484)
          ·
           rcases Bool.eq_false_or_eq_true (D468 9) with hb485 | hb485
           ·
            rcases Bool.eq_false_or_eq_true (D468 10) with hb486 | hb486
            ·exact False.elim (hJ468 true true true false false false true true hb469 hb470 (hd468 4 (by decide)) hb471 hD468 hb481 hb485 hb486)
            ·exact False.elim (hJ468 true true true false false false true false hb469 hb470 (hd468 4 (by decide)) hb471 hD468 hb481 hb485 hb486)
           ·
            rcases Bool.eq_false_or_eq_true (D468 10) with hb487 | hb487
            ·obtain ⟨FJ468, ur58_0, ur58_b0_0, ur60_0, ur60_b0_0, g63, he468_2, he468_3, he468_4, he468_10, leJ468, hfr58_0, hfr60_0, hfr60_b0_0, hSJ468⟩ := (hJ468 true true true false false false false true hb469 hb470 (hd468 4 (by decide)) hb471 hD468 hb481 hb485 hb487);refine W_eqv (t := 41) rfl he468_4 ?_;refine W_call rfl Ty.named81 rfl (cellarerref14_cutter_take_fz_ok (x0 := r60.2) (x1 := 2) (hSJ468.lendL [1] (by decide)) hfr60_b0_0 hr61) ?_;rintro ur61_0 w488 ⟨Fr61, _, ur61_b0_0, rfl, hfr61_0, hfr61_b0_0, hT488⟩;have hS488 := hSJ468.backL [1] [0, 2, 3, 4] (by decide) (by decide) hT488;have ler61 := hT488.ext;refine W_nil ?_;exact N_stepJ rfl (fun u (hu : (none : Option Value) = some u) => by cases hu) (fun b2 b3 b4 b5 b7 b8 b9 b10 h2 h3 h4 h5 h7 h8 h9 h10 => by obtain rfl : b2 = true := h2.symm.trans hb469; obtain rfl : b3 = true := h3.symm.trans hb470; obtain rfl : b4 = true := h4.symm.trans (hd468 4 (by decide)); obtain rfl : b5 = false := h5.symm.trans hb471; obtain rfl : b7 = true := h7.symm; obtain rfl : b8 = false := h8.symm.trans hb481; obtain rfl : b9 = false := h9.symm.trans hb485; obtain rfl : b10 = true := h10.symm.trans hb487; exact ⟨Fr61, ur58_0, ur58_b0_0, ur60_0, ur60_b0_0, ur61_0, ur61_b0_0, g63, he468_2, he468_3, he468_4, rfl, he468_10, (leJ468.trans ler61), (hfr58_0.mono ler61), (hfr60_0.mono ler61), hfr61_0, hfr61_b0_0, hS488.pick [1, 0, 2, 3, 4] (by decide)⟩)
            ·obtain ⟨FJ468, ur58_0, ur58_b0_0, ur60_0, ur60_b0_0, he468_2, he468_3, he468_4, leJ468, hfr58_0, hfr60_0, hfr60_b0_0, hSJ468⟩ := (hJ468 true true true false false false false false hb469 hb470 (hd468 4 (by decide)) hb471 hD468 hb481 hb485 hb487);refine W_eqv (t := 41) rfl he468_4 ?_;refine W_call rfl Ty.named81 rfl (cellarerref14_cutter_take_fz_ok (x0 := r60.2) (x1 := 2) (hSJ468.lendL [0] (by decide)) hfr60_b0_0 hr61) ?_;rintro ur61_0 w489 ⟨Fr61, _, ur61_b0_0, rfl, hfr61_0, hfr61_b0_0, hT489⟩;have hS489 := hSJ468.backL [0] [1, 2, 3] (by decide) (by decide) hT489;have ler61 := hT489.ext;refine W_nil ?_;exact N_stepJ rfl (fun u (hu : (none : Option Value) = some u) => by cases hu) (fun b2 b3 b4 b5 b7 b8 b9 b10 h2 h3 h4 h5 h7 h8 h9 h10 => by obtain rfl : b2 = true := h2.symm.trans hb469; obtain rfl : b3 = true := h3.symm.trans hb470; obtain rfl : b4 = true := h4.symm.trans (hd468 4 (by decide)); obtain rfl : b5 = false := h5.symm.trans hb471; obtain rfl : b7 = true := h7.symm; obtain rfl : b8 = false := h8.symm.trans hb481; obtain rfl : b9 = false := h9.symm.trans hb485; obtain rfl : b10 = false := h10.symm.trans hb487; exact ⟨Fr61, ur58_0, ur58_b0_0, ur60_0, ur60_b0_0, ur61_0, ur61_b0_0, he468_2, he468_3, he468_4, rfl, (leJ468.trans ler61), (hfr58_0.mono ler61), (hfr60_0.mono ler61), hfr61_0, hfr61_b0_0, hS489⟩)
        ·
         rcases Bool.eq_false_or_eq_true (D468 5) with hb490 | hb490
         ·
          rcases Bool.eq_false_or_eq_true (D468 8) with hb491 | hb491
          ·
           rcases Bool.eq_false_or_eq_true (D468 9) with hb492 | hb492
           ·
            rcases Bool.eq_false_or_eq_true (D468 10) with hb493 | hb493
            ·exact False.elim (hJ468 true false true true false true true true hb469 hb470 (hd468 4 (by decide)) hb490 hD468 hb491 hb492 hb493)
            ·exact False.elim (hJ468 true false true true false true true false hb469 hb470 (hd468 4 (by decide)) hb490 hD468 hb491 hb492 hb493)
           ·
            rcases Bool.eq_false_or_eq_true (D468 10) with hb494 | hb494
            ·exact False.elim (hJ468 true false true true false true false true hb469 hb470 (hd468 4 (by decide)) hb490 hD468 hb491 hb492 hb494)
            ·exact False.elim (hJ468 true false true true false true false false hb469 hb470 (hd468 4 (by decide)) hb490 hD468 hb491 hb492 hb494)
          ·
           rcases Bool.eq_false_or_eq_true (D468 9) with hb495 | hb495
           ·
            rcases Bool.eq_false_or_eq_true (D468 10) with hb496 | hb496
            ·exact False.elim (hJ468 true false true true false false true true hb469 hb470 (hd468 4 (by decide)) hb490 hD468 hb491 hb495 hb496)
            ·exact False.elim (hJ468 true false true true false false true false hb469 hb470 (hd468 4 (by decide)) hb490 hD468 hb491 hb495 hb496)
           ·
            rcases Bool.eq_false_or_eq_true (D468 10) with hb497 | hb497
            ·exact False.elim (hJ468 true false true true false false false true hb469 hb470 (hd468 4 (by decide)) hb490 hD468 hb491 hb495 hb497)
            ·exact False.elim (hJ468 true false true true false false false false hb469 hb470 (hd468 4 (by decide)) hb490 hD468 hb491 hb495 hb497)
         ·
          rcases Bool.eq_false_or_eq_true (D468 8) with hb498 | hb498
          ·
           rcases Bool.eq_false_or_eq_true (D468 9) with hb499 | hb499
           ·
            rcases Bool.eq_false_or_eq_true (D468 10) with hb500 | hb500
            ·exact False.elim (hJ468 true false true false false true true true hb469 hb470 (hd468 4 (by decide)) hb490 hD468 hb498 hb499 hb500)
            ·exact False.elim (hJ468 true false true false false true true false hb469 hb470 (hd468 4 (by decide)) hb490 hD468 hb498 hb499 hb500)
           ·
            rcases Bool.eq_false_or_eq_true (D468 10) with hb501 | hb501
            ·exact False.elim (hJ468 true false true false false true false true hb469 hb470 (hd468 4 (by decide)) hb490 hD468 hb498 hb499 hb501)
            ·exact False.elim (hJ468 true false true false false true false false hb469 hb470 (hd468 4 (by decide)) hb490 hD468 hb498 hb499 hb501)
          ·
           rcases Bool.eq_false_or_eq_true (D468 9) with hb502 | hb502
           ·
            rcases Bool.eq_false_or_eq_true (D468 10) with hb503 | hb503
            ·exact False.elim (hJ468 true false true false false false true true hb469 hb470 (hd468 4 (by decide)) hb490 hD468 hb498 hb502 hb503)
            ·exact False.elim (hJ468 true false true false false false true false hb469 hb470 (hd468 4 (by decide)) hb490 hD468 hb498 hb502 hb503)
           ·
            rcases Bool.eq_false_or_eq_true (D468 10) with hb504 | hb504
            ·exact False.elim (hJ468 true false true false false false false true hb469 hb470 (hd468 4 (by decide)) hb490 hD468 hb498 hb502 hb504)
            ·exact False.elim (hJ468 true false true false false false false false hb469 hb470 (hd468 4 (by decide)) hb490 hD468 hb498 hb502 hb504)
       ·
        rcases Bool.eq_false_or_eq_true (D468 3) with hb505 | hb505
        ·
         rcases Bool.eq_false_or_eq_true (D468 5) with hb506 | hb506
         ·
          rcases Bool.eq_false_or_eq_true (D468 8) with hb507 | hb507
          ·
           rcases Bool.eq_false_or_eq_true (D468 9) with hb508 | hb508
           ·
            rcases Bool.eq_false_or_eq_true (D468 10) with hb509 | hb509
            ·exact False.elim (hJ468 false true true true false true true true hb469 hb505 (hd468 4 (by decide)) hb506 hD468 hb507 hb508 hb509)
            ·exact False.elim (hJ468 false true true true false true true false hb469 hb505 (hd468 4 (by decide)) hb506 hD468 hb507 hb508 hb509)
           ·
            rcases Bool.eq_false_or_eq_true (D468 10) with hb510 | hb510
            ·exact False.elim (hJ468 false true true true false true false true hb469 hb505 (hd468 4 (by decide)) hb506 hD468 hb507 hb508 hb510)
            ·exact False.elim (hJ468 false true true true false true false false hb469 hb505 (hd468 4 (by decide)) hb506 hD468 hb507 hb508 hb510)
          ·
           rcases Bool.eq_false_or_eq_true (D468 9) with hb511 | hb511
           ·
            rcases Bool.eq_false_or_eq_true (D468 10) with hb512 | hb512
            ·exact False.elim (hJ468 false true true true false false true true hb469 hb505 (hd468 4 (by decide)) hb506 hD468 hb507 hb511 hb512)
            ·exact False.elim (hJ468 false true true true false false true false hb469 hb505 (hd468 4 (by decide)) hb506 hD468 hb507 hb511 hb512)
           ·
            rcases Bool.eq_false_or_eq_true (D468 10) with hb513 | hb513
            ·exact False.elim (hJ468 false true true true false false false true hb469 hb505 (hd468 4 (by decide)) hb506 hD468 hb507 hb511 hb513)
            ·exact False.elim (hJ468 false true true true false false false false hb469 hb505 (hd468 4 (by decide)) hb506 hD468 hb507 hb511 hb513)
         ·
          rcases Bool.eq_false_or_eq_true (D468 8) with hb514 | hb514
          ·
           rcases Bool.eq_false_or_eq_true (D468 9) with hb515 | hb515
           ·
            rcases Bool.eq_false_or_eq_true (D468 10) with hb516 | hb516
            ·exact False.elim (hJ468 false true true false false true true true hb469 hb505 (hd468 4 (by decide)) hb506 hD468 hb514 hb515 hb516)
            ·exact False.elim (hJ468 false true true false false true true false hb469 hb505 (hd468 4 (by decide)) hb506 hD468 hb514 hb515 hb516)
           ·
            rcases Bool.eq_false_or_eq_true (D468 10) with hb517 | hb517
            ·exact False.elim (hJ468 false true true false false true false true hb469 hb505 (hd468 4 (by decide)) hb506 hD468 hb514 hb515 hb517)
            ·exact False.elim (hJ468 false true true false false true false false hb469 hb505 (hd468 4 (by decide)) hb506 hD468 hb514 hb515 hb517)
          ·
           rcases Bool.eq_false_or_eq_true (D468 9) with hb518 | hb518
           ·
            rcases Bool.eq_false_or_eq_true (D468 10) with hb519 | hb519
            ·exact False.elim (hJ468 false true true false false false true true hb469 hb505 (hd468 4 (by decide)) hb506 hD468 hb514 hb518 hb519)
            ·exact False.elim (hJ468 false true true false false false true false hb469 hb505 (hd468 4 (by decide)) hb506 hD468 hb514 hb518 hb519)
           ·
            rcases Bool.eq_false_or_eq_true (D468 10) with hb520 | hb520
            ·exact False.elim (hJ468 false true true false false false false true hb469 hb505 (hd468 4 (by decide)) hb506 hD468 hb514 hb518 hb520)
            ·exact False.elim (hJ468 false true true false false false false false hb469 hb505 (hd468 4 (by decide)) hb506 hD468 hb514 hb518 hb520)
        ·
         rcases Bool.eq_false_or_eq_true (D468 5) with hb521 | hb521
         ·
          rcases Bool.eq_false_or_eq_true (D468 8) with hb522 | hb522
          ·
           rcases Bool.eq_false_or_eq_true (D468 9) with hb523 | hb523
           ·
            rcases Bool.eq_false_or_eq_true (D468 10) with hb524 | hb524
            ·exact False.elim (hJ468 false false true true false true true true hb469 hb505 (hd468 4 (by decide)) hb521 hD468 hb522 hb523 hb524)
            ·exact False.elim (hJ468 false false true true false true true false hb469 hb505 (hd468 4 (by decide)) hb521 hD468 hb522 hb523 hb524)
           ·
            rcases Bool.eq_false_or_eq_true (D468 10) with hb525 | hb525
            ·exact False.elim (hJ468 false false true true false true false true hb469 hb505 (hd468 4 (by decide)) hb521 hD468 hb522 hb523 hb525)
            ·exact False.elim (hJ468 false false true true false true false false hb469 hb505 (hd468 4 (by decide)) hb521 hD468 hb522 hb523 hb525)
          ·
           rcases Bool.eq_false_or_eq_true (D468 9) with hb526 | hb526
           ·
            rcases Bool.eq_false_or_eq_true (D468 10) with hb527 | hb527
            ·exact False.elim (hJ468 false false true true false false true true hb469 hb505 (hd468 4 (by decide)) hb521 hD468 hb522 hb526 hb527)
            ·exact False.elim (hJ468 false false true true false false true false hb469 hb505 (hd468 4 (by decide)) hb521 hD468 hb522 hb526 hb527)
           ·
            rcases Bool.eq_false_or_eq_true (D468 10) with hb528 | hb528
            ·exact False.elim (hJ468 false false true true false false false true hb469 hb505 (hd468 4 (by decide)) hb521 hD468 hb522 hb526 hb528)
            ·exact False.elim (hJ468 false false true true false false false false hb469 hb505 (hd468 4 (by decide)) hb521 hD468 hb522 hb526 hb528)
         ·
          rcases Bool.eq_false_or_eq_true (D468 8) with hb529 | hb529
          ·
           rcases Bool.eq_false_or_eq_true (D468 9) with hb530 | hb530
           ·
            rcases Bool.eq_false_or_eq_true (D468 10) with hb531 | hb531
            ·exact False.elim (hJ468 false false true false false true true true hb469 hb505 (hd468 4 (by decide)) hb521 hD468 hb529 hb530 hb531)
            ·exact False.elim (hJ468 false false true false false true true false hb469 hb505 (hd468 4 (by decide)) hb521 hD468 hb529 hb530 hb531)
           ·
            rcases Bool.eq_false_or_eq_true (D468 10) with hb532 | hb532
            ·exact False.elim (hJ468 false false true false false true false true hb469 hb505 (hd468 4 (by decide)) hb521 hD468 hb529 hb530 hb532)
            ·exact False.elim (hJ468 false false true false false true false false hb469 hb505 (hd468 4 (by decide)) hb521 hD468 hb529 hb530 hb532)
          ·
           rcases Bool.eq_false_or_eq_true (D468 9) with hb533 | hb533
           ·
            rcases Bool.eq_false_or_eq_true (D468 10) with hb534 | hb534
            ·exact False.elim (hJ468 false false true false false false true true hb469 hb505 (hd468 4 (by decide)) hb521 hD468 hb529 hb533 hb534)
            ·exact False.elim (hJ468 false false true false false false true false hb469 hb505 (hd468 4 (by decide)) hb521 hD468 hb529 hb533 hb534)
           ·
            rcases Bool.eq_false_or_eq_true (D468 10) with hb535 | hb535
            ·exact False.elim (hJ468 false false true false false false false true hb469 hb505 (hd468 4 (by decide)) hb521 hD468 hb529 hb533 hb535)
            ·exact False.elim (hJ468 false false true false false false false false hb469 hb505 (hd468 4 (by decide)) hb521 hD468 hb529 hb533 hb535)
      ·intro w536 vq536 D536 hD536 hd536 hJ536
       rcases Bool.eq_false_or_eq_true (D536 2) with hb537 | hb537
       ·
        rcases Bool.eq_false_or_eq_true (D536 3) with hb538 | hb538
        ·
         rcases Bool.eq_false_or_eq_true (D536 4) with hb539 | hb539
         ·
          rcases Bool.eq_false_or_eq_true (D536 5) with hb540 | hb540
          ·
           rcases Bool.eq_false_or_eq_true (D536 9) with hb541 | hb541
           ·
            rcases Bool.eq_false_or_eq_true (D536 10) with hb542 | hb542
            ·exact False.elim (hJ536 true true true true true false true true hb537 hb538 hb539 hb540 (hd536 7 (by decide)) hD536 hb541 hb542)
            ·exact False.elim (hJ536 true true true true true false true false hb537 hb538 hb539 hb540 (hd536 7 (by decide)) hD536 hb541 hb542)
           ·
            rcases Bool.eq_false_or_eq_true (D536 10) with hb543 | hb543
            ·obtain ⟨FJ536, ur58_0, ur58_b0_0, ur60_0, ur60_b0_0, ur61_0, ur61_b0_0, g63, he536_2, he536_3, he536_4, he536_5, he536_7, he536_10, leJ536, hfr58_0, hfr60_0, hfr61_0, hfr61_b0_0, hSJ536⟩ := (hJ536 true true true true true false false true hb537 hb538 hb539 hb540 (hd536 7 (by decide)) hD536 hb541 hb543);refine W_eqv (t := 44) rfl he536_7 ?_;refine W_call rfl Ty.named82 rfl (cellarerref14_num_ok hSJ536.agree hfr61_0 hr62) ?_;rintro v544 w544 ⟨Fr62, rfl, hT544⟩;have hS544 := hSJ536.lent hT544;refine W_nil ?_;exact N_stepJ rfl (fun u (hu : (none : Option Value) = some u) => by cases hu) (fun b2 b3 b4 b5 b7 b8 b9 b10 h2 h3 h4 h5 h7 h8 h9 h10 => by obtain rfl : b2 = true := h2.symm.trans hb537; obtain rfl : b3 = true := h3.symm.trans hb538; obtain rfl : b4 = true := h4.symm.trans hb539; obtain rfl : b5 = true := h5.symm.trans hb540; obtain rfl : b7 = true := h7.symm.trans (hd536 7 (by decide)); obtain rfl : b8 = true := h8.symm; obtain rfl : b9 = false := h9.symm.trans hb541; obtain rfl : b10 = true := h10.symm.trans hb543; exact ⟨FJ536, ur58_0, ur58_b0_0, ur60_0, ur60_b0_0, ur61_0, ur61_b0_0, g63, he536_2, he536_3, he536_4, he536_5, he536_7, rfl, he536_10, leJ536, hfr58_0, hfr60_0, hfr61_0, hfr61_b0_0, hS544⟩)
            ·obtain ⟨FJ536, ur58_0, ur58_b0_0, ur60_0, ur60_b0_0, ur61_0, ur61_b0_0, he536_2, he536_3, he536_4, he536_5, he536_7, leJ536, hfr58_0, hfr60_0, hfr61_0, hfr61_b0_0, hSJ536⟩ := (hJ536 true true true true true false false false hb537 hb538 hb539 hb540 (hd536 7 (by decide)) hD536 hb541 hb543);refine W_eqv (t := 44) rfl he536_7 ?_;refine W_call rfl Ty.named82 rfl (cellarerref14_num_ok hSJ536.agree hfr61_0 hr62) ?_;rintro v545 w545 ⟨Fr62, rfl, hT545⟩;have hS545 := hSJ536.lent hT545;refine W_nil ?_;exact N_stepJ rfl (fun u (hu : (none : Option Value) = some u) => by cases hu) (fun b2 b3 b4 b5 b7 b8 b9 b10 h2 h3 h4 h5 h7 h8 h9 h10 => by obtain rfl : b2 = true := h2.symm.trans hb537; obtain rfl : b3 = true := h3.symm.trans hb538; obtain rfl : b4 = true := h4.symm.trans hb539; obtain rfl : b5 = true := h5.symm.trans hb540; obtain rfl : b7 = true := h7.symm.trans (hd536 7 (by decide)); obtain rfl : b8 = true := h8.symm; obtain rfl : b9 = false := h9.symm.trans hb541; obtain rfl : b10 = false := h10.symm.trans hb543; exact ⟨FJ536, ur58_0, ur58_b0_0, ur60_0, ur60_b0_0, ur61_0, ur61_b0_0, he536_2, he536_3, he536_4, he536_5, he536_7, rfl, leJ536, hfr58_0, hfr60_0, hfr61_0, hfr61_b0_0, hS545⟩)
          ·
           rcases Bool.eq_false_or_eq_true (D536 9) with hb546 | hb546
           ·
            rcases Bool.eq_false_or_eq_true (D536 10) with hb547 | hb547
            ·exact False.elim (hJ536 true true true false true false true true hb537 hb538 hb539 hb540 (hd536 7 (by decide)) hD536 hb546 hb547)
            ·exact False.elim (hJ536 true true true false true false true false hb537 hb538 hb539 hb540 (hd536 7 (by decide)) hD536 hb546 hb547)
           ·
            rcases Bool.eq_false_or_eq_true (D536 10) with hb548 | hb548
            ·obtain ⟨FJ536, ur58_0, ur58_b0_0, ur60_0, ur60_b0_0, ur61_0, ur61_b0_0, g63, he536_2, he536_3, he536_4, he536_7, he536_10, leJ536, hfr58_0, hfr60_0, hfr61_0, hfr61_b0_0, hSJ536⟩ := (hJ536 true true true false true false false true hb537 hb538 hb539 hb540 (hd536 7 (by decide)) hD536 hb546 hb548);refine W_eqv (t := 44) rfl he536_7 ?_;refine W_call rfl Ty.named82 rfl (cellarerref14_num_ok hSJ536.agree hfr61_0 hr62) ?_;rintro v549 w549 ⟨Fr62, rfl, hT549⟩;have hS549 := hSJ536.lent hT549;refine W_nil ?_;exact N_stepJ rfl (fun u (hu : (none : Option Value) = some u) => by cases hu) (fun b2 b3 b4 b5 b7 b8 b9 b10 h2 h3 h4 h5 h7 h8 h9 h10 => by obtain rfl : b2 = true := h2.symm.trans hb537; obtain rfl : b3 = true := h3.symm.trans hb538; obtain rfl : b4 = true := h4.symm.trans hb539; obtain rfl : b5 = false := h5.symm.trans hb540; obtain rfl : b7 = true := h7.symm.trans (hd536 7 (by decide)); obtain rfl : b8 = true := h8.symm; obtain rfl : b9 = false := h9.symm.trans hb546; obtain rfl : b10 = true := h10.symm.trans hb548; exact ⟨FJ536, ur58_0, ur58_b0_0, ur60_0, ur60_b0_0, ur61_0, ur61_b0_0, g63, he536_2, he536_3, he536_4, he536_7, rfl, he536_10, leJ536, hfr58_0, hfr60_0, hfr61_0, hfr61_b0_0, hS549⟩)
            ·obtain ⟨FJ536, ur58_0, ur58_b0_0, ur60_0, ur60_b0_0, ur61_0, ur61_b0_0, he536_2, he536_3, he536_4, he536_7, leJ536, hfr58_0, hfr60_0, hfr61_0, hfr61_b0_0, hSJ536⟩ := (hJ536 true true true false true false false false hb537 hb538 hb539 hb540 (hd536 7 (by decide)) hD536 hb546 hb548);refine W_eqv (t := 44) rfl he536_7 ?_;refine W_call rfl Ty.named82 rfl (cellarerref14_num_ok hSJ536.agree hfr61_0 hr62) ?_;rintro v550 w550 ⟨Fr62, rfl, hT550⟩;have hS550 := hSJ536.lent hT550;refine W_nil ?_;exact N_stepJ rfl (fun u (hu : (none : Option Value) = some u) => by cases hu) (fun b2 b3 b4 b5 b7 b8 b9 b10 h2 h3 h4 h5 h7 h8 h9 h10 => by obtain rfl : b2 = true := h2.symm.trans hb537; obtain rfl : b3 = true := h3.symm.trans hb538; obtain rfl : b4 = true := h4.symm.trans hb539; obtain rfl : b5 = false := h5.symm.trans hb540; obtain rfl : b7 = true := h7.symm.trans (hd536 7 (by decide)); obtain rfl : b8 = true := h8.symm; obtain rfl : b9 = false := h9.symm.trans hb546; obtain rfl : b10 = false := h10.symm.trans hb548; exact ⟨FJ536, ur58_0, ur58_b0_0, ur60_0, ur60_b0_0, ur61_0, ur61_b0_0, he536_2, he536_3, he536_4, he536_7, rfl, leJ536, hfr58_0, hfr60_0, hfr61_0, hfr61_b0_0, hS550⟩)
         ·
          rcases Bool.eq_false_or_eq_true (D536 5) with hb551 | hb551
          ·
           rcases Bool.eq_false_or_eq_true (D536 9) with hb552 | hb552
           ·
            rcases Bool.eq_false_or_eq_true (D536 10) with hb553 | hb553
            ·exact False.elim (hJ536 true true false true true false true true hb537 hb538 hb539 hb551 (hd536 7 (by decide)) hD536 hb552 hb553)
            ·exact False.elim (hJ536 true true false true true false true false hb537 hb538 hb539 hb551 (hd536 7 (by decide)) hD536 hb552 hb553)
           ·
            rcases Bool.eq_false_or_eq_true (D536 10) with hb554 | hb554
            ·exact False.elim (hJ536 true true false true true false false true hb537 hb538 hb539 hb551 (hd536 7 (by decide)) hD536 hb552 hb554)
            ·exact False.elim (hJ536 true true false true true false false false hb537 hb538 hb539 hb551 (hd536 7 (by decide)) hD536 hb552 hb554)
          ·
           rcases Bool.eq_false_or_eq_true (D536 9) with hb555 | hb555
           ·
            rcases Bool.eq_false_or_eq_true (D536 10) with hb556 | hb556
            ·exact False.elim (hJ536 true true false false true false true true hb537 hb538 hb539 hb551 (hd536 7 (by decide)) hD536 hb555 hb556)
            ·exact False.elim (hJ536 true true false false true false true false hb537 hb538 hb539 hb551 (hd536 7 (by decide)) hD536 hb555 hb556)
           ·
            rcases Bool.eq_false_or_eq_true (D536 10) with hb557 | hb557
            ·exact False.elim (hJ536 true true false false true false false true hb537 hb538 hb539 hb551 (hd536 7 (by decide)) hD536 hb555 hb557)
            ·exact False.elim (hJ536 true true false false true false false false hb537 hb538 hb539 hb551 (hd536 7 (by decide)) hD536 hb555 hb557)
        ·
         rcases Bool.eq_false_or_eq_true (D536 4) with hb558 | hb558
         ·
          rcases Bool.eq_false_or_eq_true (D536 5) with hb559 | hb559
          ·
           rcases Bool.eq_false_or_eq_true (D536 9) with hb560 | hb560
           ·
            rcases Bool.eq_false_or_eq_true (D536 10) with hb561 | hb561
            ·exact False.elim (hJ536 true false true true true false true true hb537 hb538 hb558 hb559 (hd536 7 (by decide)) hD536 hb560 hb561)
            ·exact False.elim (hJ536 true false true true true false true false hb537 hb538 hb558 hb559 (hd536 7 (by decide)) hD536 hb560 hb561)
           ·
            rcases Bool.eq_false_or_eq_true (D536 10) with hb562 | hb562
            ·exact False.elim (hJ536 true false true true true false false true hb537 hb538 hb558 hb559 (hd536 7 (by decide)) hD536 hb560 hb562)
            ·exact False.elim (hJ536 true false true true true false false false hb537 hb538 hb558 hb559 (hd536 7 (by decide)) hD536 hb560 hb562)
          ·
           rcases Bool.eq_false_or_eq_true (D536 9) with hb563 | hb563
           ·
            rcases Bool.eq_false_or_eq_true (D536 10) with hb564 | hb564
            ·exact False.elim (hJ536 true false true false true false true true hb537 hb538 hb558 hb559 (hd536 7 (by decide)) hD536 hb563 hb564)
            ·exact False.elim (hJ536 true false true false true false true false hb537 hb538 hb558 hb559 (hd536 7 (by decide)) hD536 hb563 hb564)
           ·
            rcases Bool.eq_false_or_eq_true (D536 10) with hb565 | hb565
            ·exact False.elim (hJ536 true false true false true false false true hb537 hb538 hb558 hb559 (hd536 7 (by decide)) hD536 hb563 hb565)
            ·exact False.elim (hJ536 true false true false true false false false hb537 hb538 hb558 hb559 (hd536 7 (by decide)) hD536 hb563 hb565)
         ·
          rcases Bool.eq_false_or_eq_true (D536 5) with hb566 | hb566
          ·
           rcases Bool.eq_false_or_eq_true (D536 9) with hb567 | hb567
           ·
            rcases Bool.eq_false_or_eq_true (D536 10) with hb568 | hb568
            ·exact False.elim (hJ536 true false false true true false true true hb537 hb538 hb558 hb566 (hd536 7 (by decide)) hD536 hb567 hb568)
            ·exact False.elim (hJ536 true false false true true false true false hb537 hb538 hb558 hb566 (hd536 7 (by decide)) hD536 hb567 hb568)
           ·
            rcases Bool.eq_false_or_eq_true (D536 10) with hb569 | hb569
            ·exact False.elim (hJ536 true false false true true false false true hb537 hb538 hb558 hb566 (hd536 7 (by decide)) hD536 hb567 hb569)
            ·exact False.elim (hJ536 true false false true true false false false hb537 hb538 hb558 hb566 (hd536 7 (by decide)) hD536 hb567 hb569)
          ·
           rcases Bool.eq_false_or_eq_true (D536 9) with hb570 | hb570
           ·
            rcases Bool.eq_false_or_eq_true (D536 10) with hb571 | hb571
            ·exact False.elim (hJ536 true false false false true false true true hb537 hb538 hb558 hb566 (hd536 7 (by decide)) hD536 hb570 hb571)
            ·exact False.elim (hJ536 true false false false true false true false hb537 hb538 hb558 hb566 (hd536 7 (by decide)) hD536 hb570 hb571)
           ·
            rcases Bool.eq_false_or_eq_true (D536 10) with hb572 | hb572
            ·exact False.elim (hJ536 true false false false true false false true hb537 hb538 hb558 hb566 (hd536 7 (by decide)) hD536 hb570 hb572)
            ·exact False.elim (hJ536 true false false false true false false false hb537 hb538 hb558 hb566 (hd536 7 (by decide)) hD536 hb570 hb572)
       ·
        rcases Bool.eq_false_or_eq_true (D536 3) with hb573 | hb573
        ·
         rcases Bool.eq_false_or_eq_true (D536 4) with hb574 | hb574
         ·
          rcases Bool.eq_false_or_eq_true (D536 5) with hb575 | hb575
          ·
           rcases Bool.eq_false_or_eq_true (D536 9) with hb576 | hb576
           ·
            rcases Bool.eq_false_or_eq_true (D536 10) with hb577 | hb577
            ·exact False.elim (hJ536 false true true true true false true true hb537 hb573 hb574 hb575 (hd536 7 (by decide)) hD536 hb576 hb577)
            ·exact False.elim (hJ536 false true true true true false true false hb537 hb573 hb574 hb575 (hd536 7 (by decide)) hD536 hb576 hb577)
           ·
            rcases Bool.eq_false_or_eq_true (D536 10) with hb578 | hb578
            ·exact False.elim (hJ536 false true true true true false false true hb537 hb573 hb574 hb575 (hd536 7 (by decide)) hD536 hb576 hb578)
            ·exact False.elim (hJ536 false true true true true false false false hb537 hb573 hb574 hb575 (hd536 7 (by decide)) hD536 hb576 hb578)
          ·
           rcases Bool.eq_false_or_eq_true (D536 9) with hb579 | hb579
           ·
            rcases Bool.eq_false_or_eq_true (D536 10) with hb580 | hb580
            ·exact False.elim (hJ536 false true true false true false true true hb537 hb573 hb574 hb575 (hd536 7 (by decide)) hD536 hb579 hb580)
            ·exact False.elim (hJ536 false true true false true false true false hb537 hb573 hb574 hb575 (hd536 7 (by decide)) hD536 hb579 hb580)
           ·
            rcases Bool.eq_false_or_eq_true (D536 10) with hb581 | hb581
            ·exact False.elim (hJ536 false true true false true false false true hb537 hb573 hb574 hb575 (hd536 7 (by decide)) hD536 hb579 hb581)
            ·exact False.elim (hJ536 false true true false true false false false hb537 hb573 hb574 hb575 (hd536 7 (by decide)) hD536 hb579 hb581)
         ·
          rcases Bool.eq_false_or_eq_true (D536 5) with hb582 | hb582
          ·
           rcases Bool.eq_false_or_eq_true (D536 9) with hb583 | hb583
           ·
            rcases Bool.eq_false_or_eq_true (D536 10) with hb584 | hb584
            ·exact False.elim (hJ536 false true false true true false true true hb537 hb573 hb574 hb582 (hd536 7 (by decide)) hD536 hb583 hb584)
            ·exact False.elim (hJ536 false true false true true false true false hb537 hb573 hb574 hb582 (hd536 7 (by decide)) hD536 hb583 hb584)
           ·
            rcases Bool.eq_false_or_eq_true (D536 10) with hb585 | hb585
            ·exact False.elim (hJ536 false true false true true false false true hb537 hb573 hb574 hb582 (hd536 7 (by decide)) hD536 hb583 hb585)
            ·exact False.elim (hJ536 false true false true true false false false hb537 hb573 hb574 hb582 (hd536 7 (by decide)) hD536 hb583 hb585)
          ·
           rcases Bool.eq_false_or_eq_true (D536 9) with hb586 | hb586
           ·
            rcases Bool.eq_false_or_eq_true (D536 10) with hb587 | hb587
            ·exact False.elim (hJ536 false true false false true false true true hb537 hb573 hb574 hb582 (hd536 7 (by decide)) hD536 hb586 hb587)
            ·exact False.elim (hJ536 false true false false true false true false hb537 hb573 hb574 hb582 (hd536 7 (by decide)) hD536 hb586 hb587)
           ·
            rcases Bool.eq_false_or_eq_true (D536 10) with hb588 | hb588
            ·exact False.elim (hJ536 false true false false true false false true hb537 hb573 hb574 hb582 (hd536 7 (by decide)) hD536 hb586 hb588)
            ·exact False.elim (hJ536 false true false false true false false false hb537 hb573 hb574 hb582 (hd536 7 (by decide)) hD536 hb586 hb588)
        ·
         rcases Bool.eq_false_or_eq_true (D536 4) with hb589 | hb589
         ·
          rcases Bool.eq_false_or_eq_true (D536 5) with hb590 | hb590
          ·
           rcases Bool.eq_false_or_eq_true (D536 9) with hb591 | hb591
           ·
            rcases Bool.eq_false_or_eq_true (D536 10) with hb592 | hb592
            ·exact False.elim (hJ536 false false true true true false true true hb537 hb573 hb589 hb590 (hd536 7 (by decide)) hD536 hb591 hb592)
            ·exact False.elim (hJ536 false false true true true false true false hb537 hb573 hb589 hb590 (hd536 7 (by decide)) hD536 hb591 hb592)
           ·
            rcases Bool.eq_false_or_eq_true (D536 10) with hb593 | hb593
            ·exact False.elim (hJ536 false false true true true false false true hb537 hb573 hb589 hb590 (hd536 7 (by decide)) hD536 hb591 hb593)
            ·exact False.elim (hJ536 false false true true true false false false hb537 hb573 hb589 hb590 (hd536 7 (by decide)) hD536 hb591 hb593)
          ·
           rcases Bool.eq_false_or_eq_true (D536 9) with hb594 | hb594
           ·
            rcases Bool.eq_false_or_eq_true (D536 10) with hb595 | hb595
            ·exact False.elim (hJ536 false false true false true false true true hb537 hb573 hb589 hb590 (hd536 7 (by decide)) hD536 hb594 hb595)
            ·exact False.elim (hJ536 false false true false true false true false hb537 hb573 hb589 hb590 (hd536 7 (by decide)) hD536 hb594 hb595)
           ·
            rcases Bool.eq_false_or_eq_true (D536 10) with hb596 | hb596
            ·exact False.elim (hJ536 false false true false true false false true hb537 hb573 hb589 hb590 (hd536 7 (by decide)) hD536 hb594 hb596)
            ·exact False.elim (hJ536 false false true false true false false false hb537 hb573 hb589 hb590 (hd536 7 (by decide)) hD536 hb594 hb596)
         ·
          rcases Bool.eq_false_or_eq_true (D536 5) with hb597 | hb597
          ·
           rcases Bool.eq_false_or_eq_true (D536 9) with hb598 | hb598
           ·
            rcases Bool.eq_false_or_eq_true (D536 10) with hb599 | hb599
            ·exact False.elim (hJ536 false false false true true false true true hb537 hb573 hb589 hb597 (hd536 7 (by decide)) hD536 hb598 hb599)
            ·exact False.elim (hJ536 false false false true true false true false hb537 hb573 hb589 hb597 (hd536 7 (by decide)) hD536 hb598 hb599)
           ·
            rcases Bool.eq_false_or_eq_true (D536 10) with hb600 | hb600
            ·exact False.elim (hJ536 false false false true true false false true hb537 hb573 hb589 hb597 (hd536 7 (by decide)) hD536 hb598 hb600)
            ·exact False.elim (hJ536 false false false true true false false false hb537 hb573 hb589 hb597 (hd536 7 (by decide)) hD536 hb598 hb600)
          ·
           rcases Bool.eq_false_or_eq_true (D536 9) with hb601 | hb601
           ·
            rcases Bool.eq_false_or_eq_true (D536 10) with hb602 | hb602
            ·exact False.elim (hJ536 false false false false true false true true hb537 hb573 hb589 hb597 (hd536 7 (by decide)) hD536 hb601 hb602)
            ·exact False.elim (hJ536 false false false false true false true false hb537 hb573 hb589 hb597 (hd536 7 (by decide)) hD536 hb601 hb602)
           ·
            rcases Bool.eq_false_or_eq_true (D536 10) with hb603 | hb603
            ·exact False.elim (hJ536 false false false false true false false true hb537 hb573 hb589 hb597 (hd536 7 (by decide)) hD536 hb601 hb603)
            ·exact False.elim (hJ536 false false false false true false false false hb537 hb573 hb589 hb597 (hd536 7 (by decide)) hD536 hb601 hb603)
      ·intro w604 vq604 D604 hD604 hd604 hJ604
       rcases Bool.eq_false_or_eq_true (D604 2) with hb605 | hb605
       ·
        rcases Bool.eq_false_or_eq_true (D604 3) with hb606 | hb606
        ·
         rcases Bool.eq_false_or_eq_true (D604 4) with hb607 | hb607
         ·
          rcases Bool.eq_false_or_eq_true (D604 7) with hb608 | hb608
          ·
           rcases Bool.eq_false_or_eq_true (D604 10) with hb609 | hb609
           ·obtain ⟨FJ604, ur58_0, ur58_b0_0, ur60_0, ur60_b0_0, ur61_0, ur61_b0_0, g63, he604_2, he604_3, he604_4, he604_5, he604_7, he604_8, he604_10, leJ604, hfr58_0, hfr60_0, hfr61_0, hfr61_b0_0, hSJ604⟩ := (hJ604 true true true true true true false true hb605 hb606 hb607 (hd604 5 (by decide)) hb608 (hd604 8 (by decide)) hD604 hb609);refine W_eqv (t := 42) rfl he604_5 ?_;refine W_eqv (t := 45) rfl he604_8 ?_;refine W_build (v := .agg (Part.cells (Part.mk r60.1 r62 []) (.slice none 0 0)).toArray) rfl rfl (fun _ => by kernel_rfl) ?_;refine W_nil ?_;exact N_stepJ rfl (fun u (hu : (none : Option Value) = some u) => by cases hu) (fun b2 b3 b4 b5 b7 b8 b9 b10 h2 h3 h4 h5 h7 h8 h9 h10 => by obtain rfl : b2 = true := h2.symm.trans hb605; obtain rfl : b3 = true := h3.symm.trans hb606; obtain rfl : b4 = true := h4.symm.trans hb607; obtain rfl : b5 = true := h5.symm.trans (hd604 5 (by decide)); obtain rfl : b7 = true := h7.symm.trans hb608; obtain rfl : b8 = true := h8.symm.trans (hd604 8 (by decide)); obtain rfl : b9 = true := h9.symm; obtain rfl : b10 = true := h10.symm.trans hb609; exact ⟨FJ604, ur58_0, ur58_b0_0, ur60_0, ur60_b0_0, ur61_0, ur61_b0_0, g63, he604_2, he604_3, he604_4, he604_5, he604_7, he604_8, rfl, he604_10, leJ604, hfr58_0, hfr60_0, hfr61_0, hfr61_b0_0, hSJ604⟩)
           ·obtain ⟨FJ604, ur58_0, ur58_b0_0, ur60_0, ur60_b0_0, ur61_0, ur61_b0_0, he604_2, he604_3, he604_4, he604_5, he604_7, he604_8, leJ604, hfr58_0, hfr60_0, hfr61_0, hfr61_b0_0, hSJ604⟩ := (hJ604 true true true true true true false false hb605 hb606 hb607 (hd604 5 (by decide)) hb608 (hd604 8 (by decide)) hD604 hb609);refine W_eqv (t := 42) rfl he604_5 ?_;refine W_eqv (t := 45) rfl he604_8 ?_;refine W_build (v := .agg (Part.cells (Part.mk r60.1 r62 []) (.slice none 0 0)).toArray) rfl rfl (fun _ => by kernel_rfl) ?_;refine W_nil ?_;exact N_stepJ rfl (fun u (hu : (none : Option Value) = some u) => by cases hu) (fun b2 b3 b4 b5 b7 b8 b9 b10 h2 h3 h4 h5 h7 h8 h9 h10 => by obtain rfl : b2 = true := h2.symm.trans hb605; obtain rfl : b3 = true := h3.symm.trans hb606; obtain rfl : b4 = true := h4.symm.trans hb607; obtain rfl : b5 = true := h5.symm.trans (hd604 5 (by decide)); obtain rfl : b7 = true := h7.symm.trans hb608; obtain rfl : b8 = true := h8.symm.trans (hd604 8 (by decide)); obtain rfl : b9 = true := h9.symm; obtain rfl : b10 = false := h10.symm.trans hb609; exact ⟨FJ604, ur58_0, ur58_b0_0, ur60_0, ur60_b0_0, ur61_0, ur61_b0_0, he604_2, he604_3, he604_4, he604_5, he604_7, he604_8, rfl, leJ604, hfr58_0, hfr60_0, hfr61_0, hfr61_b0_0, hSJ604⟩)
          ·
           rcases Bool.eq_false_or_eq_true (D604 10) with hb610 | hb610
           ·exact False.elim (hJ604 true true true true false true false true hb605 hb606 hb607 (hd604 5 (by decide)) hb608 (hd604 8 (by decide)) hD604 hb610)
           ·exact False.elim (hJ604 true true true true false true false false hb605 hb606 hb607 (hd604 5 (by decide)) hb608 (hd604 8 (by decide)) hD604 hb610)
         ·
          rcases Bool.eq_false_or_eq_true (D604 7) with hb611 | hb611
          ·
           rcases Bool.eq_false_or_eq_true (D604 10) with hb612 | hb612
           ·exact False.elim (hJ604 true true false true true true false true hb605 hb606 hb607 (hd604 5 (by decide)) hb611 (hd604 8 (by decide)) hD604 hb612)
           ·exact False.elim (hJ604 true true false true true true false false hb605 hb606 hb607 (hd604 5 (by decide)) hb611 (hd604 8 (by decide)) hD604 hb612)
          ·
           rcases Bool.eq_false_or_eq_true (D604 10) with hb613 | hb613
           ·exact False.elim (hJ604 true true false true false true false true hb605 hb606 hb607 (hd604 5 (by decide)) hb611 (hd604 8 (by decide)) hD604 hb613)
           ·exact False.elim (hJ604 true true false true false true false false hb605 hb606 hb607 (hd604 5 (by decide)) hb611 (hd604 8 (by decide)) hD604 hb613)
        ·
         rcases Bool.eq_false_or_eq_true (D604 4) with hb614 | hb614
         ·
          rcases Bool.eq_false_or_eq_true (D604 7) with hb615 | hb615
          ·
           rcases Bool.eq_false_or_eq_true (D604 10) with hb616 | hb616
           ·exact False.elim (hJ604 true false true true true true false true hb605 hb606 hb614 (hd604 5 (by decide)) hb615 (hd604 8 (by decide)) hD604 hb616)
           ·exact False.elim (hJ604 true false true true true true false false hb605 hb606 hb614 (hd604 5 (by decide)) hb615 (hd604 8 (by decide)) hD604 hb616)
          ·
           rcases Bool.eq_false_or_eq_true (D604 10) with hb617 | hb617
           ·exact False.elim (hJ604 true false true true false true false true hb605 hb606 hb614 (hd604 5 (by decide)) hb615 (hd604 8 (by decide)) hD604 hb617)
           ·exact False.elim (hJ604 true false true true false true false false hb605 hb606 hb614 (hd604 5 (by decide)) hb615 (hd604 8 (by decide)) hD604 hb617)
         ·
          rcases Bool.eq_false_or_eq_true (D604 7) with hb618 | hb618
          ·
           rcases Bool.eq_false_or_eq_true (D604 10) with hb619 | hb619
           ·exact False.elim (hJ604 true false false true true true false true hb605 hb606 hb614 (hd604 5 (by decide)) hb618 (hd604 8 (by decide)) hD604 hb619)
           ·exact False.elim (hJ604 true false false true true true false false hb605 hb606 hb614 (hd604 5 (by decide)) hb618 (hd604 8 (by decide)) hD604 hb619)
          ·
           rcases Bool.eq_false_or_eq_true (D604 10) with hb620 | hb620
           ·exact False.elim (hJ604 true false false true false true false true hb605 hb606 hb614 (hd604 5 (by decide)) hb618 (hd604 8 (by decide)) hD604 hb620)
           ·exact False.elim (hJ604 true false false true false true false false hb605 hb606 hb614 (hd604 5 (by decide)) hb618 (hd604 8 (by decide)) hD604 hb620)
       ·
        rcases Bool.eq_false_or_eq_true (D604 3) with hb621 | hb621
        ·
         rcases Bool.eq_false_or_eq_true (D604 4) with hb622 | hb622
         ·
          rcases Bool.eq_false_or_eq_true (D604 7) with hb623 | hb623
          ·
           rcases Bool.eq_false_or_eq_true (D604 10) with hb624 | hb624
           ·exact False.elim (hJ604 false true true true true true false true hb605 hb621 hb622 (hd604 5 (by decide)) hb623 (hd604 8 (by decide)) hD604 hb624)
           ·exact False.elim (hJ604 false true true true true true false false hb605 hb621 hb622 (hd604 5 (by decide)) hb623 (hd604 8 (by decide)) hD604 hb624)
          ·
           rcases Bool.eq_false_or_eq_true (D604 10) with hb625 | hb625
           ·exact False.elim (hJ604 false true true true false true false true hb605 hb621 hb622 (hd604 5 (by decide)) hb623 (hd604 8 (by decide)) hD604 hb625)
           ·exact False.elim (hJ604 false true true true false true false false hb605 hb621 hb622 (hd604 5 (by decide)) hb623 (hd604 8 (by decide)) hD604 hb625)
         ·
          rcases Bool.eq_false_or_eq_true (D604 7) with hb626 | hb626
          ·
           rcases Bool.eq_false_or_eq_true (D604 10) with hb627 | hb627
           ·exact False.elim (hJ604 false true false true true true false true hb605 hb621 hb622 (hd604 5 (by decide)) hb626 (hd604 8 (by decide)) hD604 hb627)
           ·exact False.elim (hJ604 false true false true true true false false hb605 hb621 hb622 (hd604 5 (by decide)) hb626 (hd604 8 (by decide)) hD604 hb627)
          ·
           rcases Bool.eq_false_or_eq_true (D604 10) with hb628 | hb628
           ·exact False.elim (hJ604 false true false true false true false true hb605 hb621 hb622 (hd604 5 (by decide)) hb626 (hd604 8 (by decide)) hD604 hb628)
           ·exact False.elim (hJ604 false true false true false true false false hb605 hb621 hb622 (hd604 5 (by decide)) hb626 (hd604 8 (by decide)) hD604 hb628)
        ·
         rcases Bool.eq_false_or_eq_true (D604 4) with hb629 | hb629
         ·
          rcases Bool.eq_false_or_eq_true (D604 7) with hb630 | hb630
          ·
           rcases Bool.eq_false_or_eq_true (D604 10) with hb631 | hb631
           ·exact False.elim (hJ604 false false true true true true false true hb605 hb621 hb629 (hd604 5 (by decide)) hb630 (hd604 8 (by decide)) hD604 hb631)
           ·exact False.elim (hJ604 false false true true true true false false hb605 hb621 hb629 (hd604 5 (by decide)) hb630 (hd604 8 (by decide)) hD604 hb631)
          ·
           rcases Bool.eq_false_or_eq_true (D604 10) with hb632 | hb632
           ·exact False.elim (hJ604 false false true true false true false true hb605 hb621 hb629 (hd604 5 (by decide)) hb630 (hd604 8 (by decide)) hD604 hb632)
           ·exact False.elim (hJ604 false false true true false true false false hb605 hb621 hb629 (hd604 5 (by decide)) hb630 (hd604 8 (by decide)) hD604 hb632)
         ·
          rcases Bool.eq_false_or_eq_true (D604 7) with hb633 | hb633
          ·
           rcases Bool.eq_false_or_eq_true (D604 10) with hb634 | hb634
           ·exact False.elim (hJ604 false false false true true true false true hb605 hb621 hb629 (hd604 5 (by decide)) hb633 (hd604 8 (by decide)) hD604 hb634)
           ·exact False.elim (hJ604 false false false true true true false false hb605 hb621 hb629 (hd604 5 (by decide)) hb633 (hd604 8 (by decide)) hD604 hb634)
          ·
           rcases Bool.eq_false_or_eq_true (D604 10) with hb635 | hb635
           ·exact False.elim (hJ604 false false false true false true false true hb605 hb621 hb629 (hd604 5 (by decide)) hb633 (hd604 8 (by decide)) hD604 hb635)
           ·exact False.elim (hJ604 false false false true false true false false hb605 hb621 hb629 (hd604 5 (by decide)) hb633 (hd604 8 (by decide)) hD604 hb635)
      ·intro w636 vq636 D636 hD636 hd636 hJ636
       rcases Bool.eq_false_or_eq_true (D636 2) with hb637 | hb637
       ·
        rcases Bool.eq_false_or_eq_true (D636 3) with hb638 | hb638
        ·
         rcases Bool.eq_false_or_eq_true (D636 4) with hb639 | hb639
         ·
          rcases Bool.eq_false_or_eq_true (D636 5) with hb640 | hb640
          ·
           rcases Bool.eq_false_or_eq_true (D636 7) with hb641 | hb641
           ·
            rcases Bool.eq_false_or_eq_true (D636 8) with hb642 | hb642
            ·
             rcases Bool.eq_false_or_eq_true (D636 9) with hb643 | hb643
             ·obtain ⟨FJ636, ur58_0, ur58_b0_0, ur60_0, ur60_b0_0, ur61_0, ur61_b0_0, he636_2, he636_3, he636_4, he636_5, he636_7, he636_8, he636_9, leJ636, hfr58_0, hfr60_0, hfr61_0, hfr61_b0_0, hSJ636⟩ := (hJ636 true true true true true true true false hb637 hb638 hb639 hb640 hb641 hb642 hb643 hD636);refine W_alc (cs := [strV [], .int .i64 0, .slice none 0 0]) rfl Ty.zero51 rfl hSJ636 ?_;intro g63 w63 hS63;refine W_nil ?_;exact N_stepJ rfl (fun u (hu : (none : Option Value) = some u) => by cases hu) (fun b2 b3 b4 b5 b7 b8 b9 b10 h2 h3 h4 h5 h7 h8 h9 h10 => by obtain rfl : b2 = true := h2.symm.trans hb637; obtain rfl : b3 = true := h3.symm.trans hb638; obtain rfl : b4 = true := h4.symm.trans hb639; obtain rfl : b5 = true := h5.symm.trans hb640; obtain rfl : b7 = true := h7.symm.trans hb641; obtain rfl : b8 = true := h8.symm.trans hb642; obtain rfl : b9 = true := h9.symm.trans hb643; obtain rfl : b10 = true := h10.symm; exact ⟨FJ636, ur58_0, ur58_b0_0, ur60_0, ur60_b0_0, ur61_0, ur61_b0_0, g63, he636_2, he636_3, he636_4, he636_5, he636_7, he636_8, he636_9, rfl, leJ636, hfr58_0, hfr60_0, hfr61_0, hfr61_b0_0, hS63⟩)
             ·obtain ⟨FJ636, ur58_0, ur58_b0_0, ur60_0, ur60_b0_0, ur61_0, ur61_b0_0, he636_2, he636_3, he636_4, he636_5, he636_7, he636_8, leJ636, hfr58_0, hfr60_0, hfr61_0, hfr61_b0_0, hSJ636⟩ := (hJ636 true true true true true true false false hb637 hb638 hb639 hb640 hb641 hb642 hb643 hD636);refine W_alc (cs := [strV [], .int .i64 0, .slice none 0 0]) rfl Ty.zero51 rfl hSJ636 ?_;intro g63 w63 hS63;refine W_nil ?_;exact N_stepJ rfl (fun u (hu : (none : Option Value) = some u) => by cases hu) (fun b2 b3 b4 b5 b7 b8 b9 b10 h2 h3 h4 h5 h7 h8 h9 h10 => by obtain rfl : b2 = true := h2.symm.trans hb637; obtain rfl : b3 = true := h3.symm.trans hb638; obtain rfl : b4 = true := h4.symm.trans hb639; obtain rfl : b5 = true := h5.symm.trans hb640; obtain rfl : b7 = true := h7.symm.trans hb641; obtain rfl : b8 = true := h8.symm.trans hb642; obtain rfl : b9 = false := h9.symm.trans hb643; obtain rfl : b10 = true := h10.symm; exact ⟨FJ636, ur58_0, ur58_b0_0, ur60_0, ur60_b0_0, ur61_0, ur61_b0_0, g63, he636_2, he636_3, he636_4, he636_5, he636_7, he636_8, rfl, leJ636, hfr58_0, hfr60_0, hfr61_0, hfr61_b0_0, hS63⟩)
            ·
             rcases Bool.eq_false_or_eq_true (D636 9) with hb644 | hb644
             ·exact False.elim (hJ636 true true true true true false true false hb637 hb638 hb639 hb640 hb641 hb642 hb644 hD636)
             ·obtain ⟨FJ636, ur58_0, ur58_b0_0, ur60_0, ur60_b0_0, ur61_0, ur61_b0_0, he636_2, he636_3, he636_4, he636_5, he636_7, leJ636, hfr58_0, hfr60_0, hfr61_0, hfr61_b0_0, hSJ636⟩ := (hJ636 true true true true true false false false hb637 hb638 hb639 hb640 hb641 hb642 hb644 hD636);refine W_alc (cs := [strV [], .int .i64 0, .slice none 0 0]) rfl Ty.zero51 rfl hSJ636 ?_;intro g63 w63 hS63;refine W_nil ?_;exact N_stepJ rfl (fun u (hu : (none : Option Value) = some u) => by cases hu) (fun b2 b3 b4 b5 b7 b8 b9 b10 h2 h3 h4 h5 h7 h8 h9 h10 => by obtain rfl : b2 = true := h2.symm.trans hb637; obtain rfl : b3 = true := h3.symm.trans hb638; obtain rfl : b4 = true := h4.symm.trans hb639; obtain rfl : b5 = true := h5.symm.trans hb640; obtain rfl : b7 = true := h7.symm.trans hb641; obtain rfl : b8 = false := h8.symm.trans hb642; obtain rfl : b9 = false := h9.symm.trans hb644; obtain rfl : b10 = true := h10.symm; exact ⟨FJ636, ur58_0, ur58_b0_0, ur60_0, ur60_b0_0, ur61_0, ur61_b0_0, g63, he636_2, he636_3, he636_4, he636_5, he636_7, rfl, leJ636, hfr58_0, hfr60_0, hfr61_0, hfr61_b0_0, hS63⟩)
           ·
            rcases Bool.eq_false_or_eq_true (D636 8) with hb645 | hb645
            ·
             rcases Bool.eq_false_or_eq_true (D636 9) with hb646 | hb646
             ·exact False.elim (hJ636 true true true true false true true false hb637 hb638 hb639 hb640 hb641 hb645 hb646 hD636)
             ·exact False.elim (hJ636 true true true true false true false false hb637 hb638 hb639 hb640 hb641 hb645 hb646 hD636)
            ·
             rcases Bool.eq_false_or_eq_true (D636 9) with hb647 | hb647
             ·exact False.elim (hJ636 true true true true false false true false hb637 hb638 hb639 hb640 hb641 hb645 hb647 hD636)
             ·obtain ⟨FJ636, ur58_0, ur58_b0_0, ur60_0, ur60_b0_0, he636_2, he636_3, he636_4, he636_5, leJ636, hfr58_0, hfr60_0, hfr60_b0_0, hSJ636⟩ := (hJ636 true true true true false false false false hb637 hb638 hb639 hb640 hb641 hb645 hb647 hD636);refine W_alc (cs := [strV [], .int .i64 0, .slice none 0 0]) rfl Ty.zero51 rfl hSJ636 ?_;intro g63 w63 hS63;refine W_nil ?_;exact N_stepJ rfl (fun u (hu : (none : Option Value) = some u) => by cases hu) (fun b2 b3 b4 b5 b7 b8 b9 b10 h2 h3 h4 h5 h7 h8 h9 h10 => by obtain rfl : b2 = true := h2.symm.trans hb637; obtain rfl : b3 = true := h3.symm.trans hb638; obtain rfl : b4 = true := h4.symm.trans hb639; obtain rfl : b5 = true := h5.symm.trans hb640; obtain rfl : b7 = false := h7.symm.trans hb641; obtain rfl : b8 = false := h8.symm.trans hb645; obtain rfl : b9 = false := h9.symm.trans hb647; obtain rfl : b10 = true := h10.symm; exact ⟨FJ636, ur58_0, ur58_b0_0, ur60_0, ur60_b0_0, g63, he636_2, he636_3, he636_4, he636_5, rfl, leJ636, hfr58_0, hfr60_0, hfr60_b0_0, hS63⟩)
          ·
           rcases Bool.eq_false_or_eq_true (D636 7) with hb648 | hb648
           ·
            rcases Bool.eq_false_or_eq_true (D636 8) with hb649 | hb649
            ·
             rcases Bool.eq_false_or_eq_true (D636 9) with hb650 | hb650
             ·exact False.elim (hJ636 true true true false true true true false hb637 hb638 hb639 hb640 hb648 hb649 hb650 hD636)
             ·obtain ⟨FJ636, ur58_0, ur58_b0_0, ur60_0, ur60_b0_0, ur61_0, ur61_b0_0, he636_2, he636_3, he636_4, he636_7, he636_8, leJ636, hfr58_0, hfr60_0, hfr61_0, hfr61_b0_0, hSJ636⟩ := (hJ636 true true true false true true false false hb637 hb638 hb639 hb640 hb648 hb649 hb650 hD636);refine W_alc (cs := [strV [], .int .i64 0, .slice none 0 0]) rfl Ty.zero51 rfl hSJ636 ?_;intro g63 w63 hS63;refine W_nil ?_;exact N_stepJ rfl (fun u (hu : (none : Option Value) = some u) => by cases hu) (fun b2 b3 b4 b5 b7 b8 b9 b10 h2 h3 h4 h5 h7 h8 h9 h10 => by obtain rfl : b2 = true := h2.symm.trans hb637; obtain rfl : b3 = true := h3.symm.trans hb638; obtain rfl : b4 = true := h4.symm.trans hb639; obtain rfl : b5 = false := h5.symm.trans hb640; obtain rfl : b7 = true := h7.symm.trans hb648; obtain rfl : b8 = true := h8.symm.trans hb649; obtain rfl : b9 = false := h9.symm.trans hb650; obtain rfl : b10 = true := h10.symm; exact ⟨FJ636, ur58_0, ur58_b0_0, ur60_0, ur60_b0_0, ur61_0, ur61_b0_0, g63, he636_2, he636_3, he636_4, he636_7, he636_8, rfl, leJ636, hfr58_0, hfr60_0, hfr61_0, hfr61_b0_0, hS63⟩)
            ·
             rcases Bool.eq_false_or_eq_true (D636 9) with hb651 | hb651
             ·exact False.elim (hJ636 true true true false true false true false hb637 hb638 hb639 hb640 hb648 hb649 hb651 hD636)
             ·obtain ⟨FJ636, ur58_0, ur58_b0_0, ur60_0, ur60_b0_0, ur61_0, ur61_b0_0, he636_2, he636_3, he636_4, he636_7, leJ636, hfr58_0, hfr60_0, hfr61_0, hfr61_b0_0, hSJ636⟩ := (hJ636 true true true false true false false false hb637 hb638 hb639 hb640 hb648 hb649 hb651 hD636);refine W_alc (cs := [strV [], .int .i64 0, .slice none 0 0]) rfl Ty.zero51 rfl hSJ636 ?_;intro g63 w63 hS63;refine W_nil ?_;exact N_stepJ rfl (fun u (hu : (none : Option Value) = some u) => by cases hu) (fun b2 b3 b4 b5 b7 b8 b9 b10 h2 h3 h4 h5 h7 h8 h9 h10 => by obtain rfl : b2 = true := h2.symm.trans hb637; obtain rfl : b3 = true := h3.symm.trans hb638; obtain rfl : b4 = true := h4.symm.trans hb639; obtain rfl : b5 = false := h5.symm.trans hb640; obtain rfl : b7 = true := h7.symm.trans hb648; obtain rfl : b8 = false := h8.symm.trans hb649; obtain rfl : b9 = false := h9.symm.trans hb651; obtain rfl : b10 = true := h10.symm; exact ⟨FJ636, ur58_0, ur58_b0_0, ur60_0, ur60_b0_0, ur61_0, ur61_b0_0, g63, he636_2, he636_3, he636_4, he636_7, rfl, leJ636, hfr58_0, hfr60_0, hfr61_0, hfr61_b0_0, hS63⟩)
           ·
            rcases Bool.eq_false_or_eq_true (D636 8) with hb652 | hb652
            ·
             rcases Bool.eq_false_or_eq_true (D636 9) with hb653 | hb653
             ·exact False.elim (hJ636 true true true false false true true false hb637 hb638 hb639 hb640 hb648 hb652 hb653 hD636)
             ·exact False.elim (hJ636 true true true false false true false false hb637 hb638 hb639 hb640 hb648 hb652 hb653 hD636)
            ·
             rcases Bool.eq_false_or_eq_true (D636 9) with hb654 | hb654
             ·exact False.elim (hJ636 true true true false false false true false hb637 hb638 hb639 hb640 hb648 hb652 hb654 hD636)
             ·obtain ⟨FJ636, ur58_0, ur58_b0_0, ur60_0, ur60_b0_0, he636_2, he636_3, he636_4, leJ636, hfr58_0, hfr60_0, hfr60_b0_0, hSJ636⟩ := (hJ636 true true true false false false false false hb637 hb638 hb639 hb640 hb648 hb652 hb654 hD636);refine W_alc (cs := [strV [], .int .i64 0, .slice none 0 0]) rfl Ty.zero51 rfl hSJ636 ?_;intro g63 w63 hS63;refine W_nil ?_;exact N_stepJ rfl (fun u (hu : (none : Option Value) = some u) => by cases hu) (fun b2 b3 b4 b5 b7 b8 b9 b10 h2 h3 h4 h5 h7 h8 h9 h10 => by obtain rfl : b2 = true := h2.symm.trans hb637; obtain rfl : b3 = true := h3.symm.trans hb638; obtain rfl : b4 = true := h4.symm.trans hb639; obtain rfl : b5 = false := h5.symm.trans hb640; obtain rfl : b7 = false := h7.symm.trans hb648; obtain rfl : b8 = false := h8.symm.trans hb652; obtain rfl : b9 = false := h9.symm.trans hb654; obtain rfl : b10 = true := h10.symm; exact ⟨FJ636, ur58_0, ur58_b0_0, ur60_0, ur60_b0_0, g63, he636_2, he636_3, he636_4, rfl, leJ636, hfr58_0, hfr60_0, hfr60_b0_0, hS63⟩)
         ·
          rcases Bool.eq_false_or_eq_true (D636 5) with hb655 | hb655
          ·
           rcases Bool.eq_false_or_eq_true (D636 7) with hb656 | hb656
           ·
            rcases Bool.eq_false_or_eq_true (D636 8) with hb657 | hb657
            ·
             rcases Bool.eq_false_or_eq_true (D636 9) with hb658 | hb658
             ·exact False.elim (hJ636 true true false true true true true false hb637 hb638 hb639 hb655 hb656 hb657 hb658 hD636)
             ·exact False.elim (hJ636 true true false true true true false false hb637 hb638 hb639 hb655 hb656 hb657 hb658 hD636)
            ·
             rcases Bool.eq_false_or_eq_true (D636 9) with hb659 | hb659
             ·exact False.elim (hJ636 true true false true true false true false hb637 hb638 hb639 hb655 hb656 hb657 hb659 hD636)
             ·exact False.elim (hJ636 true true false true true false false false hb637 hb638 hb639 hb655 hb656 hb657 hb659 hD636)
           ·
            rcases Bool.eq_false_or_eq_true (D636 8) with hb660 | hb660
            ·
             rcases Bool.eq_false_or_eq_true (D636 9) with hb661 | hb661
             ·exact False.elim (hJ636 true true false true false true true false hb637 hb638 hb639 hb655 hb656 hb660 hb661 hD636)
             ·exact False.elim (hJ636 true true false true false true false false hb637 hb638 hb639 hb655 hb656 hb660 hb661 hD636)
            ·
             rcases Bool.eq_false_or_eq_true (D636 9) with hb662 | hb662
             ·exact False.elim (hJ636 true true false true false false true false hb637 hb638 hb639 hb655 hb656 hb660 hb662 hD636)
             ·exact False.elim (hJ636 true true false true false false false false hb637 hb638 hb639 hb655 hb656 hb660 hb662 hD636)
          ·
           rcases Bool.eq_false_or_eq_true (D636 7) with hb663 | hb663
           ·
            rcases Bool.eq_false_or_eq_true (D636 8) with hb664 | hb664
            ·
             rcases Bool.eq_false_or_eq_true (D636 9) with hb665 | hb665
             ·exact False.elim (hJ636 true true false false true true true false hb637 hb638 hb639 hb655 hb663 hb664 hb665 hD636)
             ·exact False.elim (hJ636 true true false false true true false false hb637 hb638 hb639 hb655 hb663 hb664 hb665 hD636)
            ·
             rcases Bool.eq_false_or_eq_true (D636 9) with hb666 | hb666
             ·exact False.elim (hJ636 true true false false true false true false hb637 hb638 hb639 hb655 hb663 hb664 hb666 hD636)
             ·exact False.elim (hJ636 true true false false true false false false hb637 hb638 hb639 hb655 hb663 hb664 hb666 hD636)
           ·
            rcases Bool.eq_false_or_eq_true (D636 8) with hb667 | hb667
            ·
             rcases Bool.eq_false_or_eq_true (D636 9) with hb668 | hb668
             ·exact False.elim (hJ636 true true false false false true true false hb637 hb638 hb639 hb655 hb663 hb667 hb668 hD636)
             ·exact False.elim (hJ636 true true false false false true false false hb637 hb638 hb639 hb655 hb663 hb667 hb668 hD636)
            ·
             rcases Bool.eq_false_or_eq_true (D636 9) with hb669 | hb669
             ·exact False.elim (hJ636 true true false false false false true false hb637 hb638 hb639 hb655 hb663 hb667 hb669 hD636)
             ·obtain ⟨FJ636, ur58_0, ur58_b0_0, he636_2, he636_3, leJ636, hfr58_0, hfr58_b0_0, hSJ636⟩ := (hJ636 true true false false false false false false hb637 hb638 hb639 hb655 hb663 hb667 hb669 hD636);refine W_alc (cs := [strV [], .int .i64 0, .slice none 0 0]) rfl Ty.zero51 rfl hSJ636 ?_;intro g63 w63 hS63;refine W_nil ?_;exact N_stepJ rfl (fun u (hu : (none : Option Value) = some u) => by cases hu) (fun b2 b3 b4 b5 b7 b8 b9 b10 h2 h3 h4 h5 h7 h8 h9 h10 => by obtain rfl : b2 = true := h2.symm.trans hb637; obtain rfl : b3 = true := h3.symm.trans hb638; obtain rfl : b4 = false := h4.symm.trans hb639; obtain rfl : b5 = false := h5.symm.trans hb655; obtain rfl : b7 = false := h7.symm.trans hb663; obtain rfl : b8 = false := h8.symm.trans hb667; obtain rfl : b9 = false := h9.symm.trans hb669; obtain rfl : b10 = true := h10.symm; exact ⟨FJ636, ur58_0, ur58_b0_0, g63, he636_2, he636_3, rfl, leJ636, hfr58_0, hfr58_b0_0, hS63⟩)
        ·
         rcases Bool.eq_false_or_eq_true (D636 4) with hb670 | hb670
         ·
          rcases Bool.eq_false_or_eq_true (D636 5) with hb671 | hb671
          ·
           rcases Bool.eq_false_or_eq_true (D636 7) with hb672 | hb672
           ·
            rcases Bool.eq_false_or_eq_true (D636 8) with hb673 | hb673
            ·
             rcases Bool.eq_false_or_eq_true (D636 9) with hb674 | hb674
             ·exact False.elim (hJ636 true false true true true true true false hb637 hb638 hb670 hb671 hb672 hb673 hb674 hD636)
             ·exact False.elim (hJ636 true false true true true true false false hb637 hb638 hb670 hb671 hb672 hb673 hb674 hD636)
            ·
             rcases Bool.eq_false_or_eq_true (D636 9) with hb675 | hb675
             ·exact False.elim (hJ636 true false true true true false true false hb637 hb638 hb670 hb671 hb672 hb673 hb675 hD636)
             ·exact False.elim (hJ636 true false true true true false false false hb637 hb638 hb670 hb671 hb672 hb673 hb675 hD636)
           ·
            rcases Bool.eq_false_or_eq_true (D636 8) with hb676 | hb676
            ·
             rcases Bool.eq_false_or_eq_true (D636 9) with hb677 | hb677
             ·exact False.elim (hJ636 true false true true false true true false hb637 hb638 hb670 hb671 hb672 hb676 hb677 hD636)
             ·exact False.elim (hJ636 true false true true false true false false hb637 hb638 hb670 hb671 hb672 hb676 hb677 hD636)
            ·
             rcases Bool.eq_false_or_eq_true (D636 9) with hb678 | hb678
             ·exact False.elim (hJ636 true false true true false false true false hb637 hb638 hb670 hb671 hb672 hb676 hb678 hD636)
             ·exact False.elim (hJ636 true false true true false false false false hb637 hb638 hb670 hb671 hb672 hb676 hb678 hD636)
          ·
           rcases Bool.eq_false_or_eq_true (D636 7) with hb679 | hb679
           ·
            rcases Bool.eq_false_or_eq_true (D636 8) with hb680 | hb680
            ·
             rcases Bool.eq_false_or_eq_true (D636 9) with hb681 | hb681
             ·exact False.elim (hJ636 true false true false true true true false hb637 hb638 hb670 hb671 hb679 hb680 hb681 hD636)
             ·exact False.elim (hJ636 true false true false true true false false hb637 hb638 hb670 hb671 hb679 hb680 hb681 hD636)
            ·
             rcases Bool.eq_false_or_eq_true (D636 9) with hb682 | hb682
             ·exact False.elim (hJ636 true false true false true false true false hb637 hb638 hb670 hb671 hb679 hb680 hb682 hD636)
             ·exact False.elim (hJ636 true false true false true false false false hb637 hb638 hb670 hb671 hb679 hb680 hb682 hD636)
           ·
            rcases Bool.eq_false_or_eq_true (D636 8) with hb683 | hb683
            ·
             rcases Bool.eq_false_or_eq_true (D636 9) with hb684 | hb684
             ·exact False.elim (hJ636 true false true false false true true false hb637 hb638 hb670 hb671 hb679 hb683 hb684 hD636)
             ·exact False.elim (hJ636 true false true false false true false false hb637 hb638 hb670 hb671 hb679 hb683 hb684 hD636)
            ·
             rcases Bool.eq_false_or_eq_true (D636 9) with hb685 | hb685
             ·exact False.elim (hJ636 true false true false false false true false hb637 hb638 hb670 hb671 hb679 hb683 hb685 hD636)
             ·exact False.elim (hJ636 true false true false false false false false hb637 hb638 hb670 hb671 hb679 hb683 hb685 hD636)
         ·
          rcases Bool.eq_false_or_eq_true (D636 5) with hb686 | hb686
          ·
           rcases Bool.eq_false_or_eq_true (D636 7) with hb687 | hb687
           ·
            rcases Bool.eq_false_or_eq_true (D636 8) with hb688 | hb688
            ·
             rcases Bool.eq_false_or_eq_true (D636 9) with hb689 | hb689
             ·exact False.elim (hJ636 true false false true true true true false hb637 hb638 hb670 hb686 hb687 hb688 hb689 hD636)
             ·exact False.elim (hJ636 true false false true true true false false hb637 hb638 hb670 hb686 hb687 hb688 hb689 hD636)
            ·
             rcases Bool.eq_false_or_eq_true (D636 9) with hb690 | hb690
             ·exact False.elim (hJ636 true false false true true false true false hb637 hb638 hb670 hb686 hb687 hb688 hb690 hD636)
             ·exact False.elim (hJ636 true false false true true false false false hb637 hb638 hb670 hb686 hb687 hb688 hb690 hD636)
           ·
            rcases Bool.eq_false_or_eq_true (D636 8) with hb691 | hb691
            ·
             rcases Bool.eq_false_or_eq_true (D636 9) with hb692 | hb692
             ·exact False.elim (hJ636 true false false true false true true false hb637 hb638 hb670 hb686 hb687 hb691 hb692 hD636)
             ·exact False.elim (hJ636 true false false true false true false false hb637 hb638 hb670 hb686 hb687 hb691 hb692 hD636)
            ·
             rcases Bool.eq_false_or_eq_true (D636 9) with hb693 | hb693
             ·exact False.elim (hJ636 true false false true false false true false hb637 hb638 hb670 hb686 hb687 hb691 hb693 hD636)
             ·exact False.elim (hJ636 true false false true false false false false hb637 hb638 hb670 hb686 hb687 hb691 hb693 hD636)
          ·
           rcases Bool.eq_false_or_eq_true (D636 7) with hb694 | hb694
           ·
            rcases Bool.eq_false_or_eq_true (D636 8) with hb695 | hb695
            ·
             rcases Bool.eq_false_or_eq_true (D636 9) with hb696 | hb696
             ·exact False.elim (hJ636 true false false false true true true false hb637 hb638 hb670 hb686 hb694 hb695 hb696 hD636)
             ·exact False.elim (hJ636 true false false false true true false false hb637 hb638 hb670 hb686 hb694 hb695 hb696 hD636)
            ·
             rcases Bool.eq_false_or_eq_true (D636 9) with hb697 | hb697
             ·exact False.elim (hJ636 true false false false true false true false hb637 hb638 hb670 hb686 hb694 hb695 hb697 hD636)
             ·exact False.elim (hJ636 true false false false true false false false hb637 hb638 hb670 hb686 hb694 hb695 hb697 hD636)
           ·
            rcases Bool.eq_false_or_eq_true (D636 8) with hb698 | hb698
            ·
             rcases Bool.eq_false_or_eq_true (D636 9) with hb699 | hb699
             ·exact False.elim (hJ636 true false false false false true true false hb637 hb638 hb670 hb686 hb694 hb698 hb699 hD636)
             ·exact False.elim (hJ636 true false false false false true false false hb637 hb638 hb670 hb686 hb694 hb698 hb699 hD636)
            ·
             rcases Bool.eq_false_or_eq_true (D636 9) with hb700 | hb700
             ·exact False.elim (hJ636 true false false false false false true false hb637 hb638 hb670 hb686 hb694 hb698 hb700 hD636)
             ·obtain ⟨FJ636, ur58_0, ur58_b0_0, he636_2, leJ636, hfr58_0, hfr58_b0_0, hSJ636⟩ := (hJ636 true false false false false false false false hb637 hb638 hb670 hb686 hb694 hb698 hb700 hD636);refine W_alc (cs := [strV [], .int .i64 0, .slice none 0 0]) rfl Ty.zero51 rfl hSJ636 ?_;intro g63 w63 hS63;refine W_nil ?_;exact N_stepJ rfl (fun u (hu : (none : Option Value) = some u) => by cases hu) (fun b2 b3 b4 b5 b7 b8 b9 b10 h2 h3 h4 h5 h7 h8 h9 h10 => by obtain rfl : b2 = true := h2.symm.trans hb637; obtain rfl : b3 = false := h3.symm.trans hb638; obtain rfl : b4 = false := h4.symm.trans hb670; obtain rfl : b5 = false := h5.symm.trans hb686; obtain rfl : b7 = false := h7.symm.trans hb694; obtain rfl : b8 = false := h8.symm.trans hb698; obtain rfl : b9 = false := h9.symm.trans hb700; obtain rfl : b10 = true := h10.symm; exact ⟨FJ636, ur58_0, ur58_b0_0, g63, he636_2, rfl, leJ636, hfr58_0, hfr58_b0_0, hS63⟩)
       ·
        rcases Bool.eq_false_or_eq_true (D636 3) with hb701 | hb701
        ·
         rcases Bool.eq_false_or_eq_true (D636 4) with hb702 | hb702
         ·
          rcases Bool.eq_false_or_eq_true (D636 5) with hb703 | hb703
          ·
           rcases Bool.eq_false_or_eq_true (D636 7) with hb704 | hb704
           ·
            rcases Bool.eq_false_or_eq_true (D636 8) with hb705 | hb705
            ·
             rcases Bool.eq_false_or_eq_true (D636 9) with hb706 | hb706
             ·exact False.elim (hJ636 false true true true true true true false hb637 hb701 hb702 hb703 hb704 hb705 hb706 hD636)
             ·exact False.elim (hJ636 false true true true true true false false hb637 hb701 hb702 hb703 hb704 hb705 hb706 hD636)
            ·
             rcases Bool.eq_false_or_eq_true (D636 9) with hb707 | hb707
             ·exact False.elim (hJ636 false true true true true false true false hb637 hb701 hb702 hb703 hb704 hb705 hb707 hD636)
             ·exact False.elim (hJ636 false true true true true false false false hb637 hb701 hb702 hb703 hb704 hb705 hb707 hD636)
           ·
            rcases Bool.eq_false_or_eq_true (D636 8) with hb708 | hb708
            ·
             rcases Bool.eq_false_or_eq_true (D636 9) with hb709 | hb709
             ·exact False.elim (hJ636 false true true true false true true false hb637 hb701 hb702 hb703 hb704 hb708 hb709 hD636)
             ·exact False.elim (hJ636 false true true true false true false false hb637 hb701 hb702 hb703 hb704 hb708 hb709 hD636)
            ·
             rcases Bool.eq_false_or_eq_true (D636 9) with hb710 | hb710
             ·exact False.elim (hJ636 false true true true false false true false hb637 hb701 hb702 hb703 hb704 hb708 hb710 hD636)
             ·exact False.elim (hJ636 false true true true false false false false hb637 hb701 hb702 hb703 hb704 hb708 hb710 hD636)
          ·
           rcases Bool.eq_false_or_eq_true (D636 7) with hb711 | hb711
           ·
            rcases Bool.eq_false_or_eq_true (D636 8) with hb712 | hb712
            ·
             rcases Bool.eq_false_or_eq_true (D636 9) with hb713 | hb713
             ·exact False.elim (hJ636 false true true false true true true false hb637 hb701 hb702 hb703 hb711 hb712 hb713 hD636)
             ·exact False.elim (hJ636 false true true false true true false false hb637 hb701 hb702 hb703 hb711 hb712 hb713 hD636)
            ·
             rcases Bool.eq_false_or_eq_true (D636 9) with hb714 | hb714
             ·exact False.elim (hJ636 false true true false true false true false hb637 hb701 hb702 hb703 hb711 hb712 hb714 hD636)
             ·exact False.elim (hJ636 false true true false true false false false hb637 hb701 hb702 hb703 hb711 hb712 hb714 hD636)
           ·
            rcases Bool.eq_false_or_eq_true (D636 8) with hb715 | hb715
            ·
             rcases Bool.eq_false_or_eq_true (D636 9) with hb716 | hb716
             ·exact False.elim (hJ636 false true true false false true true false hb637 hb701 hb702 hb703 hb711 hb715 hb716 hD636)
             ·exact False.elim (hJ636 false true true false false true false false hb637 hb701 hb702 hb703 hb711 hb715 hb716 hD636)
            ·
             rcases Bool.eq_false_or_eq_true (D636 9) with hb717 | hb717
             ·exact False.elim (hJ636 false true true false false false true false hb637 hb701 hb702 hb703 hb711 hb715 hb717 hD636)
             ·exact False.elim (hJ636 false true true false false false false false hb637 hb701 hb702 hb703 hb711 hb715 hb717 hD636)
         ·
          rcases Bool.eq_false_or_eq_true (D636 5) with hb718 | hb718
          ·
           rcases Bool.eq_false_or_eq_true (D636 7) with hb719 | hb719
           ·
            rcases Bool.eq_false_or_eq_true (D636 8) with hb720 | hb720
            ·
             rcases Bool.eq_false_or_eq_true (D636 9) with hb721 | hb721
             ·exact False.elim (hJ636 false true false true true true true false hb637 hb701 hb702 hb718 hb719 hb720 hb721 hD636)
             ·exact False.elim (hJ636 false true false true true true false false hb637 hb701 hb702 hb718 hb719 hb720 hb721 hD636)
            ·
             rcases Bool.eq_false_or_eq_true (D636 9) with hb722 | hb722
             ·exact False.elim (hJ636 false true false true true false true false hb637 hb701 hb702 hb718 hb719 hb720 hb722 hD636)
             ·exact False.elim (hJ636 false true false true true false false false hb637 hb701 hb702 hb718 hb719 hb720 hb722 hD636)
           ·
            rcases Bool.eq_false_or_eq_true (D636 8) with hb723 | hb723
            ·
             rcases Bool.eq_false_or_eq_true (D636 9) with hb724 | hb724
             ·exact False.elim (hJ636 false true false true false true true false hb637 hb701 hb702 hb718 hb719 hb723 hb724 hD636)
             ·exact False.elim (hJ636 false true false true false true false false hb637 hb701 hb702 hb718 hb719 hb723 hb724 hD636)
            ·
             rcases Bool.eq_false_or_eq_true (D636 9) with hb725 | hb725
             ·exact False.elim (hJ636 false true false true false false true false hb637 hb701 hb702 hb718 hb719 hb723 hb725 hD636)
             ·exact False.elim (hJ636 false true false true false false false false hb637 hb701 hb702 hb718 hb719 hb723 hb725 hD636)
          ·
           rcases Bool.eq_false_or_eq_true (D636 7) with hb726 | hb726
           ·
            rcases Bool.eq_false_or_eq_true (D636 8) with hb727 | hb727
            ·
             rcases Bool.eq_false_or_eq_true (D636 9) with hb728 | hb728
             ·exact False.elim (hJ636 false true false false true true true false hb637 hb701 hb702 hb718 hb726 hb727 hb728 hD636)
             ·exact False.elim (hJ636 false true false false true true false false hb637 hb701 hb702 hb718 hb726 hb727 hb728 hD636)
            ·
             rcases Bool.eq_false_or_eq_true (D636 9) with hb729 | hb729
             ·exact False.elim (hJ636 false true false false true false true false hb637 hb701 hb702 hb718 hb726 hb727 hb729 hD636)
             ·exact False.elim (hJ636 false true false false true false false false hb637 hb701 hb702 hb718 hb726 hb727 hb729 hD636)
           ·
            rcases Bool.eq_false_or_eq_true (D636 8) with hb730 | hb730
            ·
             rcases Bool.eq_false_or_eq_true (D636 9) with hb731 | hb731
             ·exact False.elim (hJ636 false true false false false true true false hb637 hb701 hb702 hb718 hb726 hb730 hb731 hD636)
             ·exact False.elim (hJ636 false true false false false true false false hb637 hb701 hb702 hb718 hb726 hb730 hb731 hD636)
            ·
             rcases Bool.eq_false_or_eq_true (D636 9) with hb732 | hb732
             ·exact False.elim (hJ636 false true false false false false true false hb637 hb701 hb702 hb718 hb726 hb730 hb732 hD636)
             ·exact False.elim (hJ636 false true false false false false false false hb637 hb701 hb702 hb718 hb726 hb730 hb732 hD636)
        ·
         rcases Bool.eq_false_or_eq_true (D636 4) with hb733 | hb733
         ·
          rcases Bool.eq_false_or_eq_true (D636 5) with hb734 | hb734
          ·
           rcases Bool.eq_false_or_eq_true (D636 7) with hb735 | hb735
           ·
            rcases Bool.eq_false_or_eq_true (D636 8) with hb736 | hb736
            ·
             rcases Bool.eq_false_or_eq_true (D636 9) with hb737 | hb737
             ·exact False.elim (hJ636 false false true true true true true false hb637 hb701 hb733 hb734 hb735 hb736 hb737 hD636)
             ·exact False.elim (hJ636 false false true true true true false false hb637 hb701 hb733 hb734 hb735 hb736 hb737 hD636)
            ·
             rcases Bool.eq_false_or_eq_true (D636 9) with hb738 | hb738
             ·exact False.elim (hJ636 false false true true true false true false hb637 hb701 hb733 hb734 hb735 hb736 hb738 hD636)
             ·exact False.elim (hJ636 false false true true true false false false hb637 hb701 hb733 hb734 hb735 hb736 hb738 hD636)
           ·
            rcases Bool.eq_false_or_eq_true (D636 8) with hb739 | hb739
            ·
             rcases Bool.eq_false_or_eq_true (D636 9) with hb740 | hb740
             ·exact False.elim (hJ636 false false true true false true true false hb637 hb701 hb733 hb734 hb735 hb739 hb740 hD636)
             ·exact False.elim (hJ636 false false true true false true false false hb637 hb701 hb733 hb734 hb735 hb739 hb740 hD636)
            ·
             rcases Bool.eq_false_or_eq_true (D636 9) with hb741 | hb741
             ·exact False.elim (hJ636 false false true true false false true false hb637 hb701 hb733 hb734 hb735 hb739 hb741 hD636)
             ·exact False.elim (hJ636 false false true true false false false false hb637 hb701 hb733 hb734 hb735 hb739 hb741 hD636)
          ·
           rcases Bool.eq_false_or_eq_true (D636 7) with hb742 | hb742
           ·
            rcases Bool.eq_false_or_eq_true (D636 8) with hb743 | hb743
            ·
             rcases Bool.eq_false_or_eq_true (D636 9) with hb744 | hb744
             ·exact False.elim (hJ636 false false true false true true true false hb637 hb701 hb733 hb734 hb742 hb743 hb744 hD636)
             ·exact False.elim (hJ636 false false true false true true false false hb637 hb701 hb733 hb734 hb742 hb743 hb744 hD636)
            ·
             rcases Bool.eq_false_or_eq_true (D636 9) with hb745 | hb745
             ·exact False.elim (hJ636 false false true false true false true false hb637 hb701 hb733 hb734 hb742 hb743 hb745 hD636)
             ·exact False.elim (hJ636 false false true false true false false false hb637 hb701 hb733 hb734 hb742 hb743 hb745 hD636)
           ·
            rcases Bool.eq_false_or_eq_true (D636 8) with hb746 | hb746
            ·
             rcases Bool.eq_false_or_eq_true (D636 9) with hb747 | hb747
             ·exact False.elim (hJ636 false false true false false true true false hb637 hb701 hb733 hb734 hb742 hb746 hb747 hD636)
             ·exact False.elim (hJ636 false false true false false true false false hb637 hb701 hb733 hb734 hb742 hb746 hb747 hD636)
            ·
             rcases Bool.eq_false_or_eq_true (D636 9) with hb748 | hb748
             ·exact False.elim (hJ636 false false true false false false true false hb637 hb701 hb733 hb734 hb742 hb746 hb748 hD636)
             ·exact False.elim (hJ636 false false true false false false false false hb637 hb701 hb733 hb734 hb742 hb746 hb748 hD636)
         ·
          rcases Bool.eq_false_or_eq_true (D636 5) with hb749 | hb749
          ·
           rcases Bool.eq_false_or_eq_true (D636 7) with hb750 | hb750
           ·
            rcases Bool.eq_false_or_eq_true (D636 8) with hb751 | hb751
            ·
             rcases Bool.eq_false_or_eq_true (D636 9) with hb752 | hb752
             ·exact False.elim (hJ636 false false false true true true true false hb637 hb701 hb733 hb749 hb750 hb751 hb752 hD636)
             ·exact False.elim (hJ636 false false false true true true false false hb637 hb701 hb733 hb749 hb750 hb751 hb752 hD636)
            ·
             rcases Bool.eq_false_or_eq_true (D636 9) with hb753 | hb753
             ·exact False.elim (hJ636 false false false true true false true false hb637 hb701 hb733 hb749 hb750 hb751 hb753 hD636)
             ·exact False.elim (hJ636 false false false true true false false false hb637 hb701 hb733 hb749 hb750 hb751 hb753 hD636)
           ·
            rcases Bool.eq_false_or_eq_true (D636 8) with hb754 | hb754
            ·
             rcases Bool.eq_false_or_eq_true (D636 9) with hb755 | hb755
             ·exact False.elim (hJ636 false false false true false true true false hb637 hb701 hb733 hb749 hb750 hb754 hb755 hD636)
             ·exact False.elim (hJ636 false false false true false true false false hb637 hb701 hb733 hb749 hb750 hb754 hb755 hD636)
            ·
             rcases Bool.eq_false_or_eq_true (D636 9) with hb756 | hb756
             ·exact False.elim (hJ636 false false false true false false true false hb637 hb701 hb733 hb749 hb750 hb754 hb756 hD636)
             ·exact False.elim (hJ636 false false false true false false false false hb637 hb701 hb733 hb749 hb750 hb754 hb756 hD636)
          ·
           rcases Bool.eq_false_or_eq_true (D636 7) with hb757 | hb757
           ·
            rcases Bool.eq_false_or_eq_true (D636 8) with hb758 | hb758
            ·
             rcases Bool.eq_false_or_eq_true (D636 9) with hb759 | hb759
             ·exact False.elim (hJ636 false false false false true true true false hb637 hb701 hb733 hb749 hb757 hb758 hb759 hD636)
             ·exact False.elim (hJ636 false false false false true true false false hb637 hb701 hb733 hb749 hb757 hb758 hb759 hD636)
            ·
             rcases Bool.eq_false_or_eq_true (D636 9) with hb760 | hb760
             ·exact False.elim (hJ636 false false false false true false true false hb637 hb701 hb733 hb749 hb757 hb758 hb760 hD636)
             ·exact False.elim (hJ636 false false false false true false false false hb637 hb701 hb733 hb749 hb757 hb758 hb760 hD636)
           ·
            rcases Bool.eq_false_or_eq_true (D636 8) with hb761 | hb761
            ·
             rcases Bool.eq_false_or_eq_true (D636 9) with hb762 | hb762
             ·exact False.elim (hJ636 false false false false false true true false hb637 hb701 hb733 hb749 hb757 hb761 hb762 hD636)
             ·exact False.elim (hJ636 false false false false false true false false hb637 hb701 hb733 hb749 hb757 hb761 hb762 hD636)
            ·
             rcases Bool.eq_false_or_eq_true (D636 9) with hb763 | hb763
             ·exact False.elim (hJ636 false false false false false false true false hb637 hb701 hb733 hb749 hb757 hb761 hb763 hD636)
             ·obtain ⟨FJ636, leJ636, hSJ636⟩ := (hJ636 false false false false false false false false hb637 hb701 hb733 hb749 hb757 hb761 hb763 hD636);refine W_alc (cs := [strV [], .int .i64 0, .slice none 0 0]) rfl Ty.zero51 rfl hSJ636 ?_;intro g63 w63 hS63;refine W_nil ?_;exact N_stepJ rfl (fun u (hu : (none : Option Value) = some u) => by cases hu) (fun b2 b3 b4 b5 b7 b8 b9 b10 h2 h3 h4 h5 h7 h8 h9 h10 => by obtain rfl : b2 = false := h2.symm.trans hb637; obtain rfl : b3 = false := h3.symm.trans hb701; obtain rfl : b4 = false := h4.symm.trans hb733; obtain rfl : b5 = false := h5.symm.trans hb749; obtain rfl : b7 = false := h7.symm.trans hb757; obtain rfl : b8 = false := h8.symm.trans hb761; obtain rfl : b9 = false := h9.symm.trans hb763; obtain rfl : b10 = true := h10.symm; exact ⟨FJ636, g63, rfl, leJ636, hS63⟩)
     intro w764 vq764 D764 hA764 hJ764;obtain ⟨FJ764, ur58_0, ur58_b0_0, ur60_0, ur60_b0_0, ur61_0, ur61_b0_0, g63, he764_2, he764_3, he764_4, he764_5, he764_7, he764_8, he764_9, he764_10, leJ764, hfr58_0, hfr60_0, hfr61_0, hfr61_b0_0, hSJ764⟩ := (hJ764 true true true true true true true true (hA764 2 (by decide)) (hA764 3 (by decide)) (hA764 4 (by decide)) (hA764 5 (by decide)) (hA764 7 (by decide)) (hA764 8 (by decide)) (hA764 9 (by decide)) (hA764 10 (by decide)));refine W_eqv (t := 39) rfl he764_2 ?_;refine W_eqv (t := 40) rfl he764_3 ?_;refine W_eqv (t := 41) rfl he764_4 ?_;refine W_eqv (t := 42) rfl he764_5 ?_;refine W_eqv (t := 44) rfl he764_7 ?_;refine W_eqv (t := 45) rfl he764_8 ?_;refine W_eqv (t := 46) rfl he764_9 ?_;refine W_eqv (t := 8) rfl he764_10 ?_;refine W_bst (c := [strV r60.1, .int .i64 r62, .slice none 0 0]) 0 ([strV r60.1, .int .i64 r62, .slice none 0 0]) rfl rfl hSJ764 rfl rfl Ty.size51 (fun y hy => Part.t.one (F := FJ764) (x := (Part.mk r60.1 r62 [])) ⟨.slice none 0 0, rfl, (SlF.nil _)⟩ y hy) (Nat.le_of_ble_eq_true rfl) rfl ?_;intro w765 hS765;refine W_nil ?_;refine N_code ?_;refine C_seq ?_;obtain ⟨r766, hr766, H⟩ := bd_some H;obtain ⟨r767, hr767, H⟩ := bd_some H;refine C_region ?_;refine W_move rfl rfl ?_;refine W_call rfl Ty.named81 rfl (cellarerref14_cutter_take_fz_ok (x0 := r61.2) (x1 := 1) (hS765.lendL [1] (by decide)) hfr61_b0_0 hr766) ?_;rintro ur766_0 w768 ⟨Fr766, _, ur766_b0_0, rfl, hfr766_0, hfr766_b0_0, hT768⟩;have hS768 := hS765.backL [1] [0, 2, 3, 4] (by decide) (by decide) hT768;have ler766 := hT768.ext;refine W_call rfl Ty.named82 rfl (cellarerref14_num_ok hS768.agree hfr766_0 hr767) ?_;rintro v769 w769 ⟨Fr767, rfl, hT769⟩;have hS769 := hS768.lent hT769;refine W_assign rfl rfl ?_;refine W_nil ?_;refine N_code ?_;refine C_seq_join (fun E wq => ∃ l771 : List UInt8, ∃ i774 : Int, ∃ b775 : Bool, ∃ l776 : List (List UInt8), cellarerref14_ReadManifest.k4 i36 l42 rec45 r60 r62 l771 i774 b775 l776 = some r ∧ ∃ (F770 : Frz) (u772 : Value) (u777 : Value), E = [(0, v0), (2, pl g1 0), (4, pl g2 0), (5, pl g7 0), (6, .int .i64 r13), (7, .int .i64 i36), (8, pl g63 0)] ∧ Fr766.le F770 ∧ SlF tB F770 u772 l771 ∧ St [] w F F770 [.box g2 111 [u772, .int .i64 i774, .bool b775], .box g63 51 [strV r60.1, .int .i64 r62, u777], .box g7 45 [strV r6.1, u43], .box g1 45 [strV [], .slice none 0 0], .row Part.t 51 u43 l42, .row tId 57 u777 l776] wq) ?_ ?_
     ·refine C_seq ?_;refine C_region ?_;refine W_assign rfl rfl ?_;refine W_nil ?_;refine N_code ?_;refine C_block ?_;refine C_loopM (fun (s : Int × (List UInt8) × Int × Bool × (List (List UInt8))) E wq => ∃ (F784 : Frz) (u787 : Value) (u792 : Value), E = [(0, v0), (2, pl g1 0), (4, pl g2 0), (5, pl g7 0), (6, .int .i64 r13), (7, .int .i64 i36), (8, pl g63 0), (9, .int .i64 r767), (10, .int .i64 s.1)] ∧ Fr766.le F784 ∧ SlF tB F784 u787 s.2.1 ∧ St [] w F F784 [.box g2 111 [u787, .int .i64 s.2.2.1, .bool s.2.2.2.1], .box g63 51 [strV r60.1, .int .i64 r62, u792], .box g7 45 [strV r6.1, u43], .box g1 45 [strV [], .slice none 0 0], .row Part.t 51 u43 l42, .row tId 57 u792 s.2.2.2.2] wq) H ?_ ?_
      ·have hS817 := hS769.nilRow tId 57;exact ⟨_, ⟨Fr766, ur766_b0_0, (.slice none 0 0), rfl, (Frz.le.refl _), hfr766_b0_0, hS817.pick [1, 2, 3, 4, 5, 0] (by decide)⟩, ⟨rfl, rfl, rfl, rfl, rfl, rfl, rfl, rfl, rfl, trivial⟩⟩
      ·rintro rec794 ⟨i785, l786, i789, b790, l791⟩ E w784 hI H;(try dsimp only at hI);obtain ⟨F784, u787, u792, rfl, le784, hx788, hS784⟩ := hI;dsimp only [cellarerref14_ReadManifest.l5] at H;refine C_seq ?_;refine C_seq ?_;refine C_join (fun E wq => E = [(0, v0), (2, pl g1 0), (4, pl g2 0), (5, pl g7 0), (6, .int .i64 r13), (7, .int .i64 i36), (8, pl g63 0), (9, .int .i64 r767), (10, .int .i64 i785), (59, .bool (decide (i785 < r767) && (!b790)))] ∧ ∃ F795 : Frz, F784.le F795 ∧ St [] w F F795 [.box g2 111 [u787, .int .i64 i789, .bool b790], .box g63 51 [strV r60.1, .int .i64 r62, u792], .box g7 45 [strV r6.1, u43], .box g1 45 [strV [], .slice none 0 0], .row Part.t 51 u43 l42, .row tId 57 u792 l791] wq) ?_ ?_
       ·
        rcases Bool.eq_false_or_eq_true (decide (i785 < r767)) with hb796 | hb796
        ·refine C_region ?_;refine W_move rfl rfl ?_;refine W_move rfl rfl ?_;refine W_lss rfl rfl rfl ?_;refine W_move rfl rfl ?_;refine W_known (t := 53) true rfl hb796 ?_;refine W_guard_yes rfl ?_;refine W_move rfl rfl ?_;refine W_guard_yes rfl ?_;refine W_nil_pl rfl rfl ?_;refine W_guard_yes rfl ?_;refine W_field_pl 2 rfl Ty.field111_2 rfl ?_;refine W_guard_yes rfl ?_;refine W_bld1 0 rfl Ty.cell4 rfl hS784 rfl rfl ?_;refine W_guard_yes rfl ?_;refine W_not rfl rfl ?_;refine W_pick_t rfl rfl rfl ?_;refine W_nil ?_;exact N_join _ ⟨rfl, F784, (Frz.le.refl _), hS784⟩ ⟨rfl, rfl, rfl, rfl, rfl, rfl, rfl, rfl, rfl, (look_bool rfl (by first | rfl | (rw [hb796]; first | done | rfl) | simp [hb796])), trivial⟩
        ·refine C_region ?_;refine W_move rfl rfl ?_;refine W_move rfl rfl ?_;refine W_lss rfl rfl rfl ?_;refine W_move rfl rfl ?_;refine W_known (t := 53) false rfl hb796 ?_;refine W_guard_no rfl rfl rfl rfl rfl ?_;refine W_guard_no rfl rfl rfl rfl rfl ?_;refine W_guard_no rfl rfl rfl rfl rfl ?_;refine W_guard_no rfl rfl rfl rfl rfl ?_;refine W_guard_no rfl rfl rfl rfl rfl ?_;refine W_pick_f rfl rfl rfl ?_;refine W_nil ?_;exact N_join _ ⟨rfl, F784, (Frz.le.refl _), hS784⟩ ⟨rfl, rfl, rfl, rfl, rfl, rfl, rfl, rfl, rfl, (look_bool rfl (by first | rfl | (rw [hb796]; first | done | rfl) | simp [hb796])), trivial⟩
       rintro E w795 ⟨rfl, F795, le795, hS795⟩;refine N_code ?_;refine C_cond rfl (fun hc797 => ?_) (fun hc797 => ?_)
       ·rw [if_t hc797] at H;refine C_skip ?_;refine N_code ?_;refine C_seq ?_;refine C_block ?_;refine C_seq ?_;refine C_region ?_;refine W_alc (cs := idCells (List.replicate 32 (0 : UInt8))) rfl Ty.zero57 rfl hS795 ?_;intro g798 w798 hS798;refine W_nil ?_;refine N_code ?_;refine C_seq ?_;obtain ⟨r800, hr800, H⟩ := bd_some H
        apply C_drawJ (fun D vs wz => ∀ (b2 : Bool), D 2 = b2 → match b2 with | false => ∃ FJ : Frz, F795.le FJ ∧ St [] w F FJ [.box g798 57 (idCells (List.replicate 32 (0 : UInt8))), .box g2 111 [u787, .int .i64 i789, .bool b790], .box g63 51 [strV r60.1, .int .i64 r62, u792], .box g7 45 [strV r6.1, u43], .box g1 45 [strV [], .slice none 0 0], .row Part.t 51 u43 l42, .row tId 57 u792 l791] wz | true => ∃ FJ : Frz, ∃ ur800_0 : Value, ∃ ur800_b0_0 : Value, vs 2 = ur800_0 ∧ F795.le FJ ∧ SlF tB FJ ur800_0 r800.1 ∧ SlF tB FJ ur800_b0_0 r800.2.b ∧ St [] w F FJ [.box g2 111 [ur800_b0_0, .int .i64 r800.2.at_, .bool r800.2.bad], .box g798 57 (idCells (List.replicate 32 (0 : UInt8))), .box g63 51 [strV r60.1, .int .i64 r62, u792], .box g7 45 [strV r6.1, u43], .box g1 45 [strV [], .slice none 0 0], .row Part.t 51 u43 l42, .row tId 57 u792 l791] wz) 3 [[], [], [1]] [some (.slice (some ⟨g798, 0, none⟩) 32 32), some (pl g2 0), none] Ty.mixed rfl (by kernel_rfl) (by kernel_rfl) rfl
        ·intro vq804 b2 h2;obtain rfl : b2 = false := h2.symm;exact ⟨F795, (Frz.le.refl _), (hS798.below (below_drew _))⟩
        ·refine ⟨?_, ?_, ?_, trivial⟩
         ·intro w805 vq805 D805 hD805 hd805 hJ805
          rcases Bool.eq_false_or_eq_true (D805 2) with hb806 | hb806
          ·obtain ⟨FJ805, ur800_0, ur800_b0_0, he805_2, leJ805, hfr800_0, hfr800_b0_0, hSJ805⟩ := (hJ805 true hb806);refine W_slC rfl Try.underlying57 Ty.info5 rfl ?_;refine W_nil ?_;exact N_stepJ rfl (fun u hu => Option.some.inj hu) (fun b2 h2 => by obtain rfl : b2 = true := h2.symm.trans hb806; exact ⟨FJ805, ur800_0, ur800_b0_0, he805_2, leJ805, hfr800_0, hfr800_b0_0, hSJ805⟩)
          ·obtain ⟨FJ805, leJ805, hSJ805⟩ := (hJ805 false hb806);refine W_slC rfl Try.underlying57 Ty.info5 rfl ?_;refine W_nil ?_;exact N_stepJ rfl (fun u hu => Option.some.inj hu) (fun b2 h2 => by obtain rfl : b2 = false := h2.symm.trans hb806; exact ⟨FJ805, leJ805, hSJ805⟩)
         ·intro w807 vq807 D807 hD807 hd807 hJ807;refine W_move rfl rfl ?_;refine W_nil ?_;exact N_stepJ rfl (fun u hu => Option.some.inj hu) hJ807
         ·intro w808 vq808 D808 hD808 hd808 hJ808;obtain ⟨FJ808, leJ808, hSJ808⟩ := (hJ808 false hD808);refine W_call rfl Ty.named81 rfl (cellarerref14_cutter_take_fz_ok (x0 := (Cellarerref14Cutter.mk l786 i789 b790)) (x1 := 32) (hSJ808.lendL [1] (by decide)) (hx788.mono (le795.trans leJ808)) hr800) ?_;rintro ur800_0 w809 ⟨Fr800, _, ur800_b0_0, rfl, hfr800_0, hfr800_b0_0, hT809⟩;have hS809 := hSJ808.backL [1] [0, 2, 3, 4, 5, 6] (by decide) (by decide) hT809;have ler800 := hT809.ext;refine W_nil ?_;exact N_stepJ rfl (fun u (hu : (none : Option Value) = some u) => by cases hu) (fun b2 h2 => by obtain rfl : b2 = true := h2.symm; exact ⟨Fr800, ur800_0, ur800_b0_0, rfl, (leJ808.trans ler800), hfr800_0, hfr800_b0_0, hS809⟩)
        intro w810 vq810 D810 hA810 hJ810;obtain ⟨FJ810, ur800_0, ur800_b0_0, he810_2, leJ810, hfr800_0, hfr800_b0_0, hSJ810⟩ := (hJ810 true (hA810 2 (by decide)));refine W_eqv (t := 64) rfl he810_2 ?_;refine W_cpB 1 rfl Try.underlying25 Ty.size5 rfl rfl hSJ810 rfl (List.length_replicate) (hfr800_0.src hSJ810.agree) ?_;intro w811 hS811;refine W_nil ?_;refine N_code ?_;obtain ⟨l813, hl813, H⟩ := bd_some H;refine C_region ?_;refine W_field_pl 2 rfl Ty.field51_2 rfl ?_;refine W_bld1 2 rfl Ty.cell49 rfl hS811 rfl rfl ?_;refine W_bldg 1 ((idCells (cpy (List.replicate 32 (0 : UInt8)) r800.1))) rfl Ty.agg57 Ty.size57 rfl hS811 rfl (fun q u h => sub_at (post := []) rfl h) ?_;refine W_bs (t := tId) [(idCells (cpy (List.replicate 32 (0 : UInt8)) r800.1))] [(cpy (List.replicate 32 (0 : UInt8)) r800.1)] rfl Try.underlying49 Ty.cells57 rfl rfl Ty.zero57 rfl rfl ⟨⟨rfl, (cpy_len (List.length_replicate))⟩, trivial⟩ rfl rfl hS811 ?_;intro u812 w812 hS812;refine W_appM 7 rfl Try.underlying49 Ty.row57 rfl rfl rfl rfl rfl hS812 rfl (hS812.rowSrc (j := 0) rfl) hl813 ?_;intro v814 w814 hS814;refine W_field_pl 2 rfl Ty.field51_2 rfl ?_;refine W_bst (c := [v814]) 3 ([strV r60.1, .int .i64 r62, v814]) rfl rfl hS814 rfl (by rw [(hS814.rowLn (k := 7) rfl).cells]) Ty.size49 (by intro y hy; simp at hy; subst hy; exact (hS814.rowLn (k := 7) rfl).one) (Nat.le_of_ble_eq_true rfl) rfl ?_;intro w815 hS815;refine W_nil ?_;refine N_block ?_;refine N_code ?_;refine C_region ?_;refine W_move rfl rfl ?_;refine W_add rfl rfl rfl rfl ?_;refine W_assign rfl rfl ?_;refine W_nil ?_;exact N_againM (wr (i785 + 1), r800.2.b, r800.2.at_, r800.2.bad, l813) _ H ⟨FJ810, ur800_b0_0, v814, rfl, ((le784.trans le795).trans leJ810), hfr800_b0_0, hS815.pick [1, 3, 4, 5, 6, 7] (by decide)⟩ ⟨rfl, rfl, rfl, rfl, rfl, rfl, rfl, rfl, rfl, trivial⟩
       ·rw [if_f hc797] at H;refine C_exit _ rfl ?_;exact N_join _ ⟨l786, i789, b790, l791, H, ⟨F795, u787, u792, rfl, (le784.trans le795), (hx788.mono le795), hS795⟩⟩ ⟨rfl, rfl, rfl, rfl, rfl, rfl, rfl, trivial⟩
     ·rintro E w770 ⟨l771, i774, b775, l776, H, F770, u772, u777, rfl, le770, hx773, hS770⟩;dsimp only [cellarerref14_ReadManifest.k4] at H;obtain ⟨l780, hl780, H⟩ := bd_some H;refine C_region ?_;refine W_field_pl 1 rfl Ty.field45_1 rfl ?_;refine W_bld1 2 rfl Ty.cell43 rfl hS770 rfl rfl ?_;refine W_bldg 1 ((Part.cells (Part.mk r60.1 r62 l776) u777)) rfl Ty.agg51 Ty.size51 rfl hS770 rfl (fun q u h => sub_at (post := []) rfl h) ?_;obtain ⟨F782, le782, hf782, hS782⟩ := hS770.freeze 5 [0, 1, 2, 3, 4] rfl (by decide) (by decide);refine W_bs (t := Part.t) [(Part.cells (Part.mk r60.1 r62 l776) u777)] [(Part.mk r60.1 r62 l776)] rfl Try.underlying43 Ty.cells51 rfl rfl Ty.zero51 rfl rfl ⟨⟨u777, rfl, hf782⟩, trivial⟩ rfl rfl hS782 ?_;intro u779 w779 hS779;refine W_appM 5 rfl Try.underlying43 Ty.row51 rfl rfl rfl rfl rfl hS779 rfl (hS779.rowSrc (j := 0) rfl) hl780 ?_;intro v781 w781 hS781;refine W_field_pl 1 rfl Ty.field45_1 rfl ?_;refine W_bst (c := [v781]) 3 ([strV r6.1, v781]) rfl rfl hS781 rfl (by rw [(hS781.rowLn (k := 5) rfl).cells]) Ty.size43 (by intro y hy; simp at hy; subst hy; exact (hS781.rowLn (k := 5) rfl).one) (Nat.le_of_ble_eq_true rfl) rfl ?_;intro w783 hS783;refine W_nil ?_;refine N_block ?_;exact N_join _ ⟨l771, i774, b775, l780, H, ⟨F782, u772, v781, rfl, (((leJ764.trans ler766).trans le770).trans le782), (hx773.mono le782), hS783.pick [1, 3, 4, 5] (by decide)⟩⟩ ⟨rfl, rfl, rfl, rfl, rfl, rfl, trivial⟩
    ·rintro E w49 ⟨l50, i53, b54, l55, H, F49, u51, u56, rfl, le49, hx52, hS49⟩;dsimp only [cellarerref14_ReadManifest.k3] at H;refine C_region ?_;refine W_move rfl rfl ?_;refine W_add rfl rfl rfl rfl ?_;refine W_assign rfl rfl ?_;refine W_nil ?_;exact N_againM (wr (i36 + 1), l50, i53, b54, l55) _ H ⟨F49, u51, u56, rfl, ((le35.trans le46).trans le49), hx52, hS49⟩ ⟨rfl, rfl, rfl, rfl, rfl, rfl, trivial⟩
   ·rw [if_f hc48] at H;refine C_exit _ rfl ?_;exact N_join _ ⟨l37, i40, b41, l42, H, ⟨F46, u38, u43, rfl, (le35.trans le46), (hx39.mono le46), hS46⟩⟩ ⟨rfl, rfl, rfl, rfl, trivial⟩
 ·rintro E w16 ⟨l17, i20, b21, l22, H, F16, u18, u23, rfl, le16, hx19, hS16⟩;dsimp only [cellarerref14_ReadManifest.k1] at H;refine C_seq ?_;refine C_seq ?_;obtain ⟨r25, hr25, H⟩ := bd_some H;refine C_join (fun E wq => E = [(2, pl g1 0), (5, pl g7 0), (95, .bool ((b21 || decide (i20 ≠ (x0.length : Int))) || (!r25)))] ∧ ∃ F26 : Frz, F16.le F26 ∧ St [] w F F26 [.box g2 111 [u18, .int .i64 i20, .bool b21], .box g7 45 [strV r6.1, u23], .box g1 45 [strV [], .slice none 0 0], .row Part.t 51 u23 l22] wq) ?_ ?_
  ·
   rcases Bool.eq_false_or_eq_true b21 with hb27 | hb27
   ·refine C_region ?_;refine W_move rfl rfl ?_;refine W_nil_pl rfl rfl ?_;refine W_field_pl 2 rfl Ty.field111_2 rfl ?_;refine W_bld1 0 rfl Ty.cell4 rfl hS16 rfl rfl ?_;refine W_move rfl rfl ?_;refine W_known (t := 82) true rfl hb27 ?_;refine W_guard_no rfl rfl rfl rfl rfl ?_;refine W_guard_no rfl rfl rfl rfl rfl ?_;refine W_guard_no rfl rfl rfl rfl rfl ?_;refine W_guard_no rfl rfl rfl rfl rfl ?_;refine W_guard_no rfl rfl rfl rfl rfl ?_;refine W_guard_no rfl rfl rfl rfl rfl ?_;refine W_guard_no rfl rfl rfl rfl rfl ?_;refine W_pick_t rfl rfl rfl ?_;refine W_move rfl rfl ?_;refine W_guard_no rfl rfl rfl rfl rfl ?_;refine W_guard_no rfl rfl rfl rfl rfl ?_;refine W_guard_no rfl rfl rfl rfl rfl ?_;refine W_pick_t rfl rfl rfl ?_;refine W_nil ?_;exact N_join _ ⟨rfl, F16, (Frz.le.refl _), hS16⟩ ⟨rfl, rfl, (look_bool rfl (by first | rfl | (rw [hb27]; first | done | rfl) | simp [hb27])), trivial⟩
   ·
    rcases Bool.eq_false_or_eq_true (decide (i20 ≠ (x0.length : Int))) with hb28 | hb28
    ·refine C_region ?_;refine W_move rfl rfl ?_;refine W_nil_pl rfl rfl ?_;refine W_field_pl 2 rfl Ty.field111_2 rfl ?_;refine W_bld1 0 rfl Ty.cell4 rfl hS16 rfl rfl ?_;refine W_move rfl rfl ?_;refine W_known (t := 82) false rfl hb27 ?_;refine W_guard_yes rfl ?_;refine W_move rfl rfl ?_;refine W_guard_yes rfl ?_;refine W_nil_pl rfl rfl ?_;refine W_guard_yes rfl ?_;refine W_field_pl 1 rfl Ty.field111_1 rfl ?_;refine W_guard_yes rfl ?_;refine W_bld1 0 rfl Ty.cell3 rfl hS16 rfl rfl ?_;refine W_guard_yes rfl ?_;refine W_move rfl rfl ?_;refine W_guard_yes rfl ?_;refine W_lenv rfl Try.underlying25 rfl h0.ln ?_;refine W_guard_yes rfl ?_;refine W_neq rfl rfl rfl ?_;refine W_pick_f rfl rfl rfl ?_;refine W_move rfl rfl ?_;refine W_known (t := 91) true rfl hb28 ?_;refine W_guard_no rfl rfl rfl rfl rfl ?_;refine W_guard_no rfl rfl rfl rfl rfl ?_;refine W_guard_no rfl rfl rfl rfl rfl ?_;refine W_pick_t rfl rfl rfl ?_;refine W_nil ?_;exact N_join _ ⟨rfl, F16, (Frz.le.refl _), hS16⟩ ⟨rfl, rfl, (look_bool rfl (by first | rfl | (rw [hb28, hb27]; first | done | rfl) | simp [hb27, hb28])), trivial⟩
    ·refine C_region ?_;refine W_move rfl rfl ?_;refine W_nil_pl rfl rfl ?_;refine W_field_pl 2 rfl Ty.field111_2 rfl ?_;refine W_bld1 0 rfl Ty.cell4 rfl hS16 rfl rfl ?_;refine W_move rfl rfl ?_;refine W_known (t := 82) false rfl hb27 ?_;refine W_guard_yes rfl ?_;refine W_move rfl rfl ?_;refine W_guard_yes rfl ?_;refine W_nil_pl rfl rfl ?_;refine W_guard_yes rfl ?_;refine W_field_pl 1 rfl Ty.field111_1 rfl ?_;refine W_guard_yes rfl ?_;refine W_bld1 0 rfl Ty.cell3 rfl hS16 rfl rfl ?_;refine W_guard_yes rfl ?_;refine W_move rfl rfl ?_;refine W_guard_yes rfl ?_;refine W_lenv rfl Try.underlying25 rfl h0.ln ?_;refine W_guard_yes rfl ?_;refine W_neq rfl rfl rfl ?_;refine W_pick_f rfl rfl rfl ?_;refine W_move rfl rfl ?_;refine W_known (t := 91) false rfl hb28 ?_;refine W_guard_yes rfl ?_;refine W_bldg 1 ((Manifest.cells (Manifest.mk r6.1 l22) u23)) rfl Ty.agg45 Ty.size45 rfl hS16 rfl (fun q u h => sub_at (post := []) rfl h) ?_;refine W_guard_yes rfl ?_;have hy29 := hr25;rw [only_t (by first | rfl | (rw [hb28, hb27]; first | done | rfl) | simp [hb27, hb28])] at hy29;refine W_call rfl Ty.named49 rfl (cellarerref14_Manifest_ok (now_agree _) (hS16.rowNow (k := 3) rfl) hy29) ?_;rintro v30 w30 ⟨Fr25, rfl, hT30⟩;have hS30 := hS16.lent hT30;refine W_guard_yes rfl ?_;refine W_not rfl rfl ?_;refine W_pick_f rfl rfl rfl ?_;refine W_nil ?_;exact N_join _ ⟨rfl, F16, (Frz.le.refl _), hS30⟩ ⟨rfl, rfl, (look_bool rfl (by first | rfl | (rw [hb28, hb27]; first | done | rfl) | simp [hb27, hb28])), trivial⟩
  rintro E w26 ⟨rfl, F26, le26, hS26⟩;refine N_code ?_;refine C_cond rfl (fun hc31 => ?_) (fun hc31 => ?_)
  ·rw [if_t hc31] at H;refine C_seq ?_;refine C_region ?_;refine W_build (v := .agg (Manifest.cells (Manifest.mk [] []) (.slice none 0 0)).toArray) rfl rfl (fun _ => by kernel_rfl) ?_;refine W_bst (c := [strV [], .slice none 0 0]) 2 ([strV [], .slice none 0 0]) rfl rfl hS26 rfl rfl Ty.size45 (fun y hy => Manifest.t.one (F := F26) (x := (Manifest.mk [] [])) ⟨.slice none 0 0, rfl, (SlF.nil _)⟩ y hy) (Nat.le_of_ble_eq_true rfl) rfl ?_;intro w32 hS32;refine W_assign rfl rfl ?_;refine W_nil ?_;refine N_code ?_;obtain rfl := Option.some.inj H;refine C_retM (vs := [.agg (Manifest.cells (Manifest.mk [] []) (.slice none 0 0)).toArray, .bool false]) rfl ⟨(box_out 2 Ty.agg45 Ty.size45 hS32 rfl rfl), rfl, trivial⟩ ?_;exact ⟨F26, .slice none 0 0, rfl, (SlF.nil _), hS32.pick [] (by decide)⟩
  ·rw [if_f hc31] at H;refine C_skip ?_;refine N_code ?_;refine C_seq ?_;refine C_region ?_;refine W_bldg 1 ((Manifest.cells (Manifest.mk r6.1 l22) u23)) rfl Ty.agg45 Ty.size45 rfl hS26 rfl (fun q u h => sub_at (post := []) rfl h) ?_;refine W_bst (c := [strV r6.1, u23]) 2 ([strV r6.1, u23]) rfl rfl hS26 rfl rfl Ty.size45 (by intro y hy; simp only [List.mem_append, List.mem_cons, List.not_mem_nil, or_false, or_assoc] at hy; rcases hy with hy | hy <;> first | (subst hy; rfl) | (subst hy; exact (hS26.rowLn (k := 3) rfl).one)) (Nat.le_of_ble_eq_true rfl) rfl ?_;intro w33 hS33;refine W_assign rfl rfl ?_;refine W_nil ?_;refine N_code ?_;obtain ⟨F34, le34, hf34, hS34⟩ := hS33.freeze 3 [0, 1, 2] rfl (by decide) (by decide);obtain rfl := Option.some.inj H;refine C_retM (vs := [.agg (Manifest.cells (Manifest.mk r6.1 l22) u23).toArray, .bool true]) rfl ⟨(box_out 2 Ty.agg45 Ty.size45 hS34 rfl rfl), rfl, trivial⟩ ?_;exact ⟨F34, u23, rfl, hf34, hS34.pick [] (by decide)⟩

end
end Go.Wk.Lf
