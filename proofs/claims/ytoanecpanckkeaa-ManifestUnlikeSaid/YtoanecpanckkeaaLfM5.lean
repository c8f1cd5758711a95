import Derived.Test.YtoanecpanckkeaaLfM1
namespace Go.Wk.Lf
open Go.Proofs Go.RowKit
set_option linter.unusedVariables false
set_option linter.unusedSimpArgs false
noncomputable section

def manifest_reader_take_fz (x0 : ManifestReader) (x1 : Int) : Option ((List UInt8) × ManifestReader) :=
  if (x0.bad || decide ((x0.b.length : Int) < x1)) then
    bd (rep x1 0) fun l5 =>
    some (l5, (ManifestReader.mk x0.b true))
  else
    bd (cut (α := UInt8) x0.b 0 x1) fun l8 =>
    bd (cut (α := UInt8) x0.b x1 (x0.b.length : Int)) fun l10 =>
    some (l8, (ManifestReader.mk l10 x0.bad))

theorem manifest_reader_take_fz_ok {F : Frz} {w : World} {X : List Nat} {x0 : ManifestReader} {x1 : Int} {r : (List UInt8) × ManifestReader} {gp0 : Nat} {v0_0 : Value} (hS : St X w F F [.box gp0 106 [v0_0, .bool x0.bad]] w) (hv0_0 : SlF tB F v0_0 (x0.b)) (H : manifest_reader_take_fz x0 x1 = some r) : Ret Try.prog 79 #[pl gp0 0, .int .i64 x1] w fun v w' => ∃ (F' : Frz) (q0 : Value) (z0_0 : Value), v = q0 ∧ SlF tB F' q0 (r.1) ∧ SlF tB F' z0_0 (r.2.b) ∧ St X w F F' [.box gp0 106 [z0_0, .bool r.2.bad]] w' := by
 refine Ret_of (args := [pl gp0 0, .int .i64 x1]) Try.func79 rfl rfl ?_;change C _ _ _ _ [(0, pl gp0 0), (1, .int .i64 x1)] _;dsimp only [manifest_reader_take_fz] at H;refine C_seq ?_;refine C_region ?_;refine W_assign rfl rfl ?_;refine W_nil ?_;refine N_code ?_;refine C_seq ?_;refine C_seq ?_;refine C_join (fun E wq => E = [(0, pl gp0 0), (1, .int .i64 x1), (18, .bool (x0.bad || decide ((x0.b.length : Int) < x1)))] ∧ ∃ F1 : Frz, F.le F1 ∧ St X w F F1 [.box gp0 106 [v0_0, .bool x0.bad]] wq) ?_ ?_
 ·
  rcases Bool.eq_false_or_eq_true x0.bad with hb2 | hb2
  ·refine C_region ?_;refine W_move rfl rfl ?_;refine W_nil_pl rfl rfl ?_;refine W_field_pl 1 rfl Ty.field106_1 rfl ?_;refine W_bld1 0 rfl Ty.cell4 rfl hS rfl rfl ?_;refine W_move rfl rfl ?_;refine W_known (t := 10) true rfl hb2 ?_;refine W_guard_no rfl rfl rfl rfl rfl ?_;refine W_guard_no rfl rfl rfl rfl rfl ?_;refine W_guard_no rfl rfl rfl rfl rfl ?_;refine W_guard_no rfl rfl rfl rfl rfl ?_;refine W_guard_no rfl rfl rfl rfl rfl ?_;refine W_guard_no rfl rfl rfl rfl rfl ?_;refine W_guard_no rfl rfl rfl rfl rfl ?_;refine W_pick_t rfl rfl rfl ?_;refine W_nil ?_;exact N_join _ ⟨rfl, F, (Frz.le.refl _), hS⟩ ⟨rfl, rfl, (look_bool rfl (by first | rfl | (rw [hb2]; first | done | rfl) | simp [hb2])), trivial⟩
  ·refine C_region ?_;refine W_move rfl rfl ?_;refine W_nil_pl rfl rfl ?_;refine W_field_pl 1 rfl Ty.field106_1 rfl ?_;refine W_bld1 0 rfl Ty.cell4 rfl hS rfl rfl ?_;refine W_move rfl rfl ?_;refine W_known (t := 10) false rfl hb2 ?_;refine W_guard_yes rfl ?_;refine W_move rfl rfl ?_;refine W_guard_yes rfl ?_;refine W_nil_pl rfl rfl ?_;refine W_guard_yes rfl ?_;refine W_field_pl 0 rfl Ty.field106_0 rfl ?_;refine W_guard_yes rfl ?_;refine W_bld1 0 rfl Ty.cell25 rfl hS rfl rfl ?_;refine W_guard_yes rfl ?_;refine W_lenv rfl Try.underlying25 rfl hv0_0.ln ?_;refine W_guard_yes rfl ?_;refine W_move rfl rfl ?_;refine W_guard_yes rfl ?_;refine W_lss rfl rfl rfl ?_;refine W_pick_f rfl rfl rfl ?_;refine W_nil ?_;exact N_join _ ⟨rfl, F, (Frz.le.refl _), hS⟩ ⟨rfl, rfl, (look_bool rfl (by first | rfl | (rw [hb2]; first | done | rfl) | simp [hb2])), trivial⟩
 rintro E w1 ⟨rfl, F1, le1, hS1⟩;refine N_code ?_;refine C_cond rfl (fun hc3 => ?_) (fun hc3 => ?_)
 ·rw [if_t hc3] at H;refine C_seq ?_;refine C_region ?_;refine W_move rfl rfl ?_;refine W_nil_pl rfl rfl ?_;refine W_field_pl 1 rfl Ty.field106_1 rfl ?_;refine W_bst (c := [.bool true]) 0 ([v0_0, .bool true]) rfl rfl hS1 rfl rfl Ty.size4 (by intro y hy; simp at hy; subst hy; rfl) (Nat.le_of_ble_eq_true rfl) rfl ?_;intro w4 hS4;refine W_nil ?_;refine N_code ?_;refine C_seq ?_;obtain ⟨l5, hl5, H⟩ := bd_some H;refine C_region ?_;refine W_move rfl rfl ?_;refine W_mk (t := tB) (x0 := 0) rfl Try.underlying25 Ty.row5 rfl rfl rfl rfl hS4 rfl hl5 ?_;intro v6 w6 hS6;refine W_assign rfl rfl ?_;refine W_nil ?_;refine N_code ?_;obtain ⟨F7, le7, hf7, hS7⟩ := hS6.freeze 0 [1] rfl (by decide) (by decide);obtain rfl := Option.some.inj H;refine C_ret rfl rfl ?_;exact ⟨F7, v6, v0_0, rfl, hf7, (hv0_0.mono (le1.trans le7)), hS7⟩
 ·rw [if_f hc3] at H;refine C_skip ?_;refine N_code ?_;refine C_seq ?_;obtain ⟨l8, hl8, H⟩ := bd_some H;refine C_region ?_;refine W_move rfl rfl ?_;refine W_nil_pl rfl rfl ?_;refine W_field_pl 0 rfl Ty.field106_0 rfl ?_;refine W_bld1 0 rfl Ty.cell25 rfl hS1 rfl rfl ?_;refine W_move rfl rfl ?_;refine W_cutM 0 x1 rfl Try.underlying25 Ty.cells5 Ty.info5 rfl rfl ⟨_, rfl⟩ (hv0_0.mono le1) hl8 ?_;intro q9 hv9;refine W_assign rfl rfl ?_;refine W_nil ?_;refine N_code ?_;refine C_seq ?_;obtain ⟨l10, hl10, H⟩ := bd_some H;refine C_region ?_;refine W_move rfl rfl ?_;refine W_move rfl rfl ?_;refine W_nil_pl rfl rfl ?_;refine W_field_pl 0 rfl Ty.field106_0 rfl ?_;refine W_bld1 0 rfl Ty.cell25 rfl hS1 rfl rfl ?_;refine W_move rfl rfl ?_;refine W_cutM x1 (x0.b.length : Int) rfl Try.underlying25 Ty.cells5 Ty.info5 rfl ⟨_, rfl⟩ rfl (hv0_0.mono le1) hl10 ?_;intro q11 hv11;refine W_nil_pl rfl rfl ?_;refine W_field_pl 0 rfl Ty.field106_0 rfl ?_;refine W_bst (c := [q11]) 0 ([q11, .bool x0.bad]) rfl rfl hS1 rfl (by rw [hv11.ln.cells]) Ty.size25 (by intro y hy; simp at hy; subst hy; exact hv11.ln.one) (Nat.le_of_ble_eq_true rfl) rfl ?_;intro w12 hS12;refine W_nil ?_;refine N_code ?_;refine C_seq ?_;refine C_region ?_;refine W_move rfl rfl ?_;refine W_assign rfl rfl ?_;refine W_nil ?_;refine N_code ?_;obtain rfl := Option.some.inj H;refine C_ret rfl rfl ?_;exact ⟨F1, q9, q11, rfl, hv9, hv11, hS12⟩

def bin_Get.k1 (x1 : Int) (x2 : Int) (i8 : Int) : Option (Int × Int × Int) :=
  some (i8, wr (x1 + x2), 0)


def bin_Get.l2 (x1 : Int) (x2 : Int) (l9 : List UInt8) (rec14 : (Int × Int) → Option (Int × Int × Int)) : (Int × Int) → Option (Int × Int × Int)
  | (i12, i13) =>
    if decide (i13 < (l9.length : Int)) then
      bd (ix l9 i13) fun x16 =>
      rec14 (bits .or .i64 (wr (i12 * 2 ^ (8 : Int).toNat)) (x16.toNat : Int), wr (i13 + 1))
    else
      bin_Get.k1 x1 x2 i12

def bin_Get (x0 : List UInt8) (x1 : Int) (x2 : Int) : Option (Int × Int × Int) :=
  if (((decide (x2 < 1) || decide (7 < x2)) || decide (x1 < 0)) || decide ((x0.length : Int) < x1)) then
    some (0, 0, 1)
  else
    if decide (wr ((x0.length : Int) - x1) < x2) then
      some (0, 0, 3)
    else
      bd (cut (α := UInt8) x0 x1 (wr (x1 + x2))) fun l9 =>
      loop (bin_Get.l2 x1 x2 l9) (0, 0)

theorem bin_Get_ok {F : Frz} {w : World} {x0 : List UInt8} {x1 : Int} {x2 : Int} {r : Int × Int × Int} {v0 : Value} (hA : Agree F w.heap) (h0 : SlF tB F v0 x0) (H : bin_Get x0 x1 x2 = some r) : Ret Try.prog 99 #[v0, .int .i64 x1, .int .i64 x2] w fun v w' => ∃ (F' : Frz), v = .tuple #[.int .i64 r.1, .int .i64 r.2.1, .int .i64 r.2.2] ∧ St [] w F F' [] w' := by
 refine Ret_of (args := [v0, .int .i64 x1, .int .i64 x2]) Try.func99 rfl rfl ?_;change C _ _ _ _ [(0, v0), (1, .int .i64 x1), (2, .int .i64 x2)] _;have hS := St.entry hA;dsimp only [bin_Get] at H;refine C_seq ?_;refine C_region ?_;refine W_assign rfl rfl ?_;refine W_assign rfl rfl ?_;refine W_assign rfl rfl ?_;refine W_nil ?_;refine N_code ?_;refine C_seq ?_;refine C_block ?_;refine C_seq ?_;refine C_join (fun E wq => E = [(0, v0), (1, .int .i64 x1), (2, .int .i64 x2), (6, .int .i64 0), (11, .bool (((decide (x2 < 1) || decide (7 < x2)) || decide (x1 < 0)) || decide ((x0.length : Int) < x1)))] ∧ ∃ F1 : Frz, F.le F1 ∧ St [] w F F1 [] wq) ?_ ?_
 ·
  rcases Bool.eq_false_or_eq_true (decide (x2 < 1)) with hb2 | hb2
  ·refine C_region ?_;refine W_move rfl rfl ?_;refine W_lss rfl rfl rfl ?_;refine W_move rfl rfl ?_;refine W_known (t := 14) true rfl hb2 ?_;refine W_guard_no rfl rfl rfl rfl rfl ?_;refine W_guard_no rfl rfl rfl rfl rfl ?_;refine W_pick_t rfl rfl rfl ?_;refine W_move rfl rfl ?_;refine W_guard_no rfl rfl rfl rfl rfl ?_;refine W_guard_no rfl rfl rfl rfl rfl ?_;refine W_pick_t rfl rfl rfl ?_;refine W_move rfl rfl ?_;refine W_guard_no rfl rfl rfl rfl rfl ?_;refine W_guard_no rfl rfl rfl rfl rfl ?_;refine W_guard_no rfl rfl rfl rfl rfl ?_;refine W_guard_no rfl rfl rfl rfl rfl ?_;refine W_pick_t rfl rfl rfl ?_;refine W_assign rfl rfl ?_;refine W_nil ?_;exact N_join _ ⟨rfl, F, (Frz.le.refl _), hS⟩ ⟨rfl, rfl, rfl, rfl, (look_bool rfl (by first | rfl | (rw [hb2]; first | done | rfl) | simp [hb2])), trivial⟩
  ·
   rcases Bool.eq_false_or_eq_true (decide (7 < x2)) with hb3 | hb3
   ·refine C_region ?_;refine W_move rfl rfl ?_;refine W_lss rfl rfl rfl ?_;refine W_move rfl rfl ?_;refine W_known (t := 14) false rfl hb2 ?_;refine W_guard_yes rfl ?_;refine W_move rfl rfl ?_;refine W_guard_yes rfl ?_;refine W_gtr rfl rfl rfl ?_;refine W_pick_f rfl rfl rfl ?_;refine W_move rfl rfl ?_;refine W_known (t := 18) true rfl hb3 ?_;refine W_guard_no rfl rfl rfl rfl rfl ?_;refine W_guard_no rfl rfl rfl rfl rfl ?_;refine W_pick_t rfl rfl rfl ?_;refine W_move rfl rfl ?_;refine W_guard_no rfl rfl rfl rfl rfl ?_;refine W_guard_no rfl rfl rfl rfl rfl ?_;refine W_guard_no rfl rfl rfl rfl rfl ?_;refine W_guard_no rfl rfl rfl rfl rfl ?_;refine W_pick_t rfl rfl rfl ?_;refine W_assign rfl rfl ?_;refine W_nil ?_;exact N_join _ ⟨rfl, F, (Frz.le.refl _), hS⟩ ⟨rfl, rfl, rfl, rfl, (look_bool rfl (by first | rfl | (rw [hb2, hb3]; first | done | rfl) | simp [hb2, hb3])), trivial⟩
   ·
    rcases Bool.eq_false_or_eq_true (decide (x1 < 0)) with hb4 | hb4
    ·refine C_region ?_;refine W_move rfl rfl ?_;refine W_lss rfl rfl rfl ?_;refine W_move rfl rfl ?_;refine W_known (t := 14) false rfl hb2 ?_;refine W_guard_yes rfl ?_;refine W_move rfl rfl ?_;refine W_guard_yes rfl ?_;refine W_gtr rfl rfl rfl ?_;refine W_pick_f rfl rfl rfl ?_;refine W_move rfl rfl ?_;refine W_known (t := 18) false rfl hb3 ?_;refine W_guard_yes rfl ?_;refine W_move rfl rfl ?_;refine W_guard_yes rfl ?_;refine W_lss rfl rfl rfl ?_;refine W_pick_f rfl rfl rfl ?_;refine W_move rfl rfl ?_;refine W_known (t := 22) true rfl hb4 ?_;refine W_guard_no rfl rfl rfl rfl rfl ?_;refine W_guard_no rfl rfl rfl rfl rfl ?_;refine W_guard_no rfl rfl rfl rfl rfl ?_;refine W_guard_no rfl rfl rfl rfl rfl ?_;refine W_pick_t rfl rfl rfl ?_;refine W_assign rfl rfl ?_;refine W_nil ?_;exact N_join _ ⟨rfl, F, (Frz.le.refl _), hS⟩ ⟨rfl, rfl, rfl, rfl, (look_bool rfl (by first | rfl | (rw [hb2, hb3, hb4]; first | done | rfl) | simp [hb2, hb3, hb4])), trivial⟩
    ·refine C_region ?_;refine W_move rfl rfl ?_;refine W_lss rfl rfl rfl ?_;refine W_move rfl rfl ?_;refine W_known (t := 14) false rfl hb2 ?_;refine W_guard_yes rfl ?_;refine W_move rfl rfl ?_;refine W_guard_yes rfl ?_;refine W_gtr rfl rfl rfl ?_;refine W_pick_f rfl rfl rfl ?_;refine W_move rfl rfl ?_;refine W_known (t := 18) false rfl hb3 ?_;refine W_guard_yes rfl ?_;refine W_move rfl rfl ?_;refine W_guard_yes rfl ?_;refine W_lss rfl rfl rfl ?_;refine W_pick_f rfl rfl rfl ?_;refine W_move rfl rfl ?_;refine W_known (t := 22) false rfl hb4 ?_;refine W_guard_yes rfl ?_;refine W_move rfl rfl ?_;refine W_guard_yes rfl ?_;refine W_move rfl rfl ?_;refine W_guard_yes rfl ?_;refine W_lenv rfl Try.underlying25 rfl h0.ln ?_;refine W_guard_yes rfl ?_;refine W_gtr rfl rfl rfl ?_;refine W_pick_f rfl rfl rfl ?_;refine W_assign rfl rfl ?_;refine W_nil ?_;exact N_join _ ⟨rfl, F, (Frz.le.refl _), hS⟩ ⟨rfl, rfl, rfl, rfl, (look_bool rfl (by first | rfl | (rw [hb2, hb3, hb4]; first | done | rfl) | simp [hb2, hb3, hb4])), trivial⟩
 rintro E w1 ⟨rfl, F1, le1, hS1⟩;refine N_code ?_;refine C_cond rfl (fun hc5 => ?_) (fun hc5 => ?_)
 ·rw [if_t hc5] at H;refine C_seq ?_;refine C_region ?_;refine W_assign rfl rfl ?_;refine W_assign rfl rfl ?_;refine W_assign rfl rfl ?_;refine W_nil ?_;refine N_code ?_;obtain rfl := Option.some.inj H;refine C_ret rfl rfl ?_;exact ⟨F1, rfl, hS1⟩
 ·rw [if_f hc5] at H;refine C_seq ?_;refine C_region ?_;refine W_move rfl rfl ?_;refine W_lenv rfl Try.underlying25 rfl h0.ln ?_;refine W_move rfl rfl ?_;refine W_subi rfl rfl rfl rfl ?_;refine W_move rfl rfl ?_;refine W_lss rfl rfl rfl ?_;refine W_assign rfl rfl ?_;refine W_nil ?_;refine N_code ?_;refine C_cond rfl (fun hc6 => ?_) (fun hc6 => ?_)
  ·rw [if_t hc6] at H;refine C_seq ?_;refine C_region ?_;refine W_assign rfl rfl ?_;refine W_assign rfl rfl ?_;refine W_assign rfl rfl ?_;refine W_nil ?_;refine N_code ?_;obtain rfl := Option.some.inj H;refine C_ret rfl rfl ?_;exact ⟨F1, rfl, hS1⟩
  ·rw [if_f hc6] at H;refine C_skip ?_;refine N_block ?_;refine N_code ?_;refine C_seq_join (fun E wq => ∃ i8 : Int, bin_Get.k1 x1 x2 i8 = some r ∧ ∃ (F7 : Frz), E = [(1, .int .i64 x1), (2, .int .i64 x2), (6, .int .i64 i8)] ∧ F1.le F7 ∧ St [] w F F7 [] wq) ?_ ?_
   ·refine C_seq ?_;obtain ⟨l9, hl9, H⟩ := bd_some H;refine C_region ?_;refine W_move rfl rfl ?_;refine W_move rfl rfl ?_;refine W_move rfl rfl ?_;refine W_move rfl rfl ?_;refine W_add rfl rfl rfl rfl ?_;refine W_cutM x1 (wr (x1 + x2)) rfl Try.underlying25 Ty.cells5 Ty.info5 rfl ⟨_, rfl⟩ ⟨_, rfl⟩ (h0.mono le1) hl9 ?_;intro q10 hv10;refine W_lenv rfl Try.underlying25 rfl hv10.ln ?_;refine W_move rfl rfl ?_;refine W_nil ?_;refine N_code ?_;refine C_block ?_;refine C_loopM (fun (s : Int × Int) E wq => ∃ (F11 : Frz), E = [(1, .int .i64 x1), (2, .int .i64 x2), (6, .int .i64 s.1), (40, q10), (41, .int .i64 (l9.length : Int)), (42, .int .i64 s.2)] ∧ F1.le F11 ∧ St [] w F F11 [] wq) H ?_ ?_
    ·exact ⟨_, ⟨F1, rfl, (Frz.le.refl _), hS1⟩, ⟨rfl, rfl, rfl, rfl, rfl, rfl, trivial⟩⟩
    ·rintro rec14 ⟨i12, i13⟩ E w11 hI H;(try dsimp only at hI);obtain ⟨F11, rfl, le11, hS11⟩ := hI;dsimp only [bin_Get.l2] at H;refine C_seq ?_;refine C_region ?_;refine W_lss rfl rfl rfl ?_;refine W_nil ?_;refine N_code ?_;refine C_seq ?_;refine C_cond rfl (fun hc15 => ?_) (fun hc15 => ?_)
     ·rw [if_t hc15] at H;refine C_skip ?_;refine N_code ?_;refine C_seq ?_;refine C_block ?_;refine C_seq ?_;obtain ⟨x16, hx16, H⟩ := bd_some H;refine C_region ?_;obtain ⟨hp18, hy18⟩ := ix_some hx16;obtain ⟨cs18, hr18, he18⟩ := (hv10.mono le11).at_ hy18;obtain rfl := hr18;replace he18 : Elf _ _ 1 _ _ := he18;refine W_ix rfl Try.underlying25 Ty.cells5 Ty.info5 rfl rfl (he18.el hS11.agree) hp18 rfl ?_;refine W_ld1 0 rfl Ty.cell5 rfl (he18.el hS11.agree) (by omega) rfl ?_;refine W_assign rfl rfl ?_;refine W_nil ?_;refine N_code ?_;refine C_region ?_;refine W_move rfl rfl ?_;refine W_shl rfl rfl rfl (by decide) (by decide) rfl ?_;refine W_move rfl rfl ?_;refine W_conv rfl rfl Ty.some5 Try.underlying3 (u8_i64 _) ?_;refine W_bits (.inr (.inl rfl)) rfl rfl rfl rfl ?_;refine W_assign rfl rfl ?_;refine W_nil ?_;refine N_block ?_;refine N_code ?_;refine C_region ?_;refine W_add rfl rfl rfl rfl ?_;refine W_move rfl rfl ?_;refine W_nil ?_;exact N_againM (bits .or .i64 (wr (i12 * 2 ^ (8 : Int).toNat)) (x16.toNat : Int), wr (i13 + 1)) _ H ⟨F11, rfl, le11, hS11⟩ ⟨rfl, rfl, rfl, rfl, rfl, rfl, trivial⟩
     ·rw [if_f hc15] at H;refine C_exit _ rfl ?_;exact N_join _ ⟨i12, H, ⟨F11, rfl, le11, hS11⟩⟩ ⟨rfl, rfl, rfl, trivial⟩
   ·rintro E w7 ⟨i8, H, F7, rfl, le7, hS7⟩;dsimp only [bin_Get.k1] at H;refine C_seq ?_;refine C_region ?_;refine W_move rfl rfl ?_;refine W_move rfl rfl ?_;refine W_move rfl rfl ?_;refine W_add rfl rfl rfl rfl ?_;refine W_assign rfl rfl ?_;refine W_assign rfl rfl ?_;refine W_assign rfl rfl ?_;refine W_nil ?_;refine N_code ?_;obtain rfl := Option.some.inj H;refine C_ret rfl rfl ?_;exact ⟨F7, rfl, hS7⟩

def manifest_reader_num_fz (x0 : ManifestReader) (x1 : Int) : Option (Int × ManifestReader) :=
  bd (manifest_reader_take_fz x0 x1) fun r1 =>
  bd (bin_Get r1.1 0 x1) fun r2 =>
  some (r2.1, r1.2)

theorem manifest_reader_num_fz_ok {F : Frz} {w : World} {X : List Nat} {x0 : ManifestReader} {x1 : Int} {r : Int × ManifestReader} {gp0 : Nat} {v0_0 : Value} (hS : St X w F F [.box gp0 106 [v0_0, .bool x0.bad]] w) (hv0_0 : SlF tB F v0_0 (x0.b)) (H : manifest_reader_num_fz x0 x1 = some r) : Ret Try.prog 80 #[pl gp0 0, .int .i64 x1] w fun v w' => ∃ (F' : Frz) (z0_0 : Value), v = .int .i64 r.1 ∧ SlF tB F' z0_0 (r.2.b) ∧ St X w F F' [.box gp0 106 [z0_0, .bool r.2.bad]] w' := by
 refine Ret_of (args := [pl gp0 0, .int .i64 x1]) Try.func80 rfl rfl ?_;change C _ _ _ _ [(0, pl gp0 0), (1, .int .i64 x1)] _;dsimp only [manifest_reader_num_fz] at H;refine C_seq ?_;refine C_region ?_;refine W_assign rfl rfl ?_;refine W_nil ?_;refine N_code ?_;refine C_seq ?_;obtain ⟨r1, hr1, H⟩ := bd_some H;obtain ⟨r2, hr2, H⟩ := bd_some H;refine C_region ?_;refine W_move rfl rfl ?_;refine W_move rfl rfl ?_;refine W_call rfl Ty.named79 rfl (manifest_reader_take_fz_ok (x0 := x0) (x1 := x1) (hS.lendL [0] (by decide)) hv0_0 hr1) ?_;rintro ur1_0 w3 ⟨Fr1, _, ur1_b0_0, rfl, hfr1_0, hfr1_b0_0, hT3⟩;have hS3 := hS.backL [0] [] (by decide) (by decide) hT3;have ler1 := hT3.ext;refine W_move rfl rfl ?_;refine W_call rfl Ty.named99 rfl (bin_Get_ok hS3.agree hfr1_0 hr2) ?_;rintro v4 w4 ⟨Fr2, rfl, hT4⟩;have hS4 := hS3.lent hT4;refine W_move rfl rfl ?_;refine W_extract rfl rfl rfl ?_;refine W_extract rfl rfl rfl ?_;refine W_extract rfl rfl rfl ?_;refine W_assign rfl rfl ?_;refine W_assign rfl rfl ?_;refine W_assign rfl rfl ?_;refine W_nil ?_;refine N_code ?_;refine C_seq ?_;refine C_region ?_;refine W_move rfl rfl ?_;refine W_assign rfl rfl ?_;refine W_nil ?_;refine N_code ?_;obtain rfl := Option.some.inj H;refine C_ret rfl rfl ?_;exact ⟨Fr1, ur1_b0_0, rfl, hfr1_b0_0, hS4⟩

def manifest_Read.k1 (r5 : (List UInt8) × ManifestReader) (l11 : List Part) (l14 : List UInt8) (b17 : Bool) : Option (Manifest × Int) :=
  bd (only (!(b17 || decide (0 < (l14.length : Int)))) (manifest_Check (Manifest.mk r5.1 l11)) 0) fun r18 =>
  if ((b17 || decide (0 < (l14.length : Int))) || decide (r18 ≠ 0)) then
    some ((Manifest.mk [] []), 3)
  else
    some ((Manifest.mk r5.1 l11), 0)


def manifest_Read.k3 (i31 : Int) (rec39 : (Int × (List UInt8) × Bool × (List Part)) → Option (Manifest × Int)) (l42 : List UInt8) (b45 : Bool) (l46 : List Part) : Option (Manifest × Int) :=
  rec39 (wr (i31 + 1), l42, b45, l46)


def manifest_Read.k4 (r5 : (List UInt8) × ManifestReader) (i31 : Int) (l36 : List Part) (rec39 : (Int × (List UInt8) × Bool × (List Part)) → Option (Manifest × Int)) (r50 : (List UInt8) × ManifestReader) (r51 : Int × ManifestReader) (l222 : List (List UInt8)) (l225 : List UInt8) (b228 : Bool) : Option (Manifest × Int) :=
  bd (app (α := Part) l36 [(Part.mk r50.1 r51.1 l222)]) fun l230 =>
  if b228 then
    manifest_Read.k1 r5 l230 l225 b228
  else
    manifest_Read.k3 i31 rec39 l225 b228 l230


def manifest_Read.l5 (r5 : (List UInt8) × ManifestReader) (i31 : Int) (l36 : List Part) (rec39 : (Int × (List UInt8) × Bool × (List Part)) → Option (Manifest × Int)) (r50 : (List UInt8) × ManifestReader) (r51 : Int × ManifestReader) (r235 : Int × ManifestReader) (rec246 : (Int × (List UInt8) × Bool × (List (List UInt8))) → Option (Manifest × Int)) : (Int × (List UInt8) × Bool × (List (List UInt8))) → Option (Manifest × Int)
  | (i238, l239, b242, l243) =>
    if decide (i238 < r235.1) then
      bd (manifest_reader_take_fz (ManifestReader.mk l239 b242) 32) fun r248 =>
      bd (arr32 r248.1) fun a249 =>
      bd (app (α := (List UInt8)) l243 [a249]) fun l251 =>
      rec246 (wr (i238 + 1), r248.2.b, r248.2.bad, l251)
    else
      manifest_Read.k4 r5 i31 l36 rec39 r50 r51 l243 l239 b242


def manifest_Read.l2 (r5 : (List UInt8) × ManifestReader) (r28 : Int × ManifestReader) (rec39 : (Int × (List UInt8) × Bool × (List Part)) → Option (Manifest × Int)) : (Int × (List UInt8) × Bool × (List Part)) → Option (Manifest × Int)
  | (i31, l32, b35, l36) =>
    if decide (i31 < r28.1) then
      bd (manifest_reader_num_fz (ManifestReader.mk l32 b35) 1) fun r49 =>
      bd (manifest_reader_take_fz r49.2 r49.1) fun r50 =>
      bd (manifest_reader_num_fz r50.2 2) fun r51 =>
      bd (manifest_reader_num_fz r51.2 1) fun r235 =>
      loop (manifest_Read.l5 r5 i31 l36 rec39 r50 r51 r235) (0, r235.2.b, r235.2.bad, [])
    else
      manifest_Read.k1 r5 l36 l32 b35

def manifest_Read (x0 : List UInt8) : Option (Manifest × Int) :=
  bd (manifest_reader_num_fz (ManifestReader.mk x0 false) 1) fun r4 =>
  bd (manifest_reader_take_fz r4.2 r4.1) fun r5 =>
  bd (manifest_reader_num_fz r5.2 1) fun r28 =>
  loop (manifest_Read.l2 r5 r28) (0, r28.2.b, r28.2.bad, [])

set_option maxHeartbeats 2000000 in
theorem manifest_Read_ok {F : Frz} {w : World} {x0 : List UInt8} {r : Manifest × Int} {v0 : Value} (hA : Agree F w.heap) (h0 : SlF tB F v0 x0) (H : manifest_Read x0 = some r) : Ret Try.prog 37 #[v0] w fun v w' => ∃ (F' : Frz) (q0_0 : Value), v = .tuple #[.agg (Manifest.cells r.1 q0_0).toArray, .int .i64 r.2] ∧ SlF Part.t F' q0_0 (r.1.parts) ∧ St [] w F F' [] w' := by
 refine Ret_of (args := [v0]) Try.func37 rfl rfl ?_;change C _ _ _ _ [(0, v0)] _;have hS := St.entry hA;dsimp only [manifest_Read] at H;refine C_seq ?_;refine C_region ?_;refine W_alc (cs := [strV [], .slice none 0 0]) rfl Ty.zero45 rfl hS ?_;intro g1 w1 hS1;refine W_assign rfl rfl ?_;refine W_nil ?_;refine N_code ?_;refine C_seq ?_;refine C_region ?_;refine W_move rfl rfl ?_;obtain ⟨ao3, m3, c3, hu3⟩ := h0.ln.form;refine W_build (v := .agg (ManifestReader.cells (ManifestReader.mk x0 false) v0).toArray) rfl rfl (fun _ => by rw [hu3]; kernel_rfl) ?_;refine W_bx (cs := [v0, .bool false]) rfl rfl rfl hS1 ?_;intro g2 w2 hS2;refine W_assign rfl rfl ?_;refine W_nil ?_;refine N_code ?_;refine C_seq ?_;obtain ⟨r4, hr4, H⟩ := bd_some H;obtain ⟨r5, hr5, H⟩ := bd_some H;refine C_region ?_;refine W_move rfl rfl ?_;refine W_move rfl rfl ?_;refine W_call rfl Ty.named80 rfl (manifest_reader_num_fz_ok (x0 := (ManifestReader.mk x0 false)) (x1 := 1) (hS2.lendL [0] (by decide)) h0 hr4) ?_;rintro v7 w7 ⟨Fr4, ur4_b0_0, rfl, hfr4_b0_0, hT7⟩;have hS7 := hS2.backL [0] [1] (by decide) (by decide) hT7;have ler4 := hT7.ext;refine W_call rfl Ty.named79 rfl (manifest_reader_take_fz_ok (x0 := r4.2) (x1 := r4.1) (hS7.lendL [0] (by decide)) hfr4_b0_0 hr5) ?_;rintro ur5_0 w8 ⟨Fr5, _, ur5_b0_0, rfl, hfr5_0, hfr5_b0_0, hT8⟩;have hS8 := hS7.backL [0] [1] (by decide) (by decide) hT8;have ler5 := hT8.ext;refine W_bstr rfl Try.underlying25 Try.underlying5 Try.underlying9 rfl (hfr5_0.src hS8.agree) ?_;refine W_build (v := .agg (Manifest.cells (Manifest.mk r5.1 []) (.slice none 0 0)).toArray) rfl rfl (fun _ => by kernel_rfl) ?_;refine W_alc (cs := [strV [], .slice none 0 0]) rfl Ty.zero45 rfl hS8 ?_;intro g6 w6 hS6;refine W_bst (c := [strV r5.1, .slice none 0 0]) 0 ([strV r5.1, .slice none 0 0]) rfl rfl hS6 rfl rfl Ty.size45 (fun y hy => Manifest.t.one (F := Fr5) (x := (Manifest.mk r5.1 [])) ⟨.slice none 0 0, rfl, (SlF.nil _)⟩ y hy) (Nat.le_of_ble_eq_true rfl) rfl ?_;intro w9 hS9;refine W_nil ?_;refine N_code ?_;refine C_seq_join (fun E wq => ∃ l11 : List Part, ∃ l14 : List UInt8, ∃ b17 : Bool, manifest_Read.k1 r5 l11 l14 b17 = some r ∧ ∃ (F10 : Frz) (u12 : Value) (u15 : Value), E = [(2, pl g1 0), (4, pl g2 0), (5, pl g6 0)] ∧ Fr5.le F10 ∧ SlF tB F10 u15 l14 ∧ St [] w F F10 [.box g6 45 [strV r5.1, u12], .box g2 106 [u15, .bool b17], .box g1 45 [strV [], .slice none 0 0], .row Part.t 51 u12 l11] wq) ?_ ?_
 ·refine C_seq ?_;obtain ⟨r28, hr28, H⟩ := bd_some H;refine C_region ?_;refine W_move rfl rfl ?_;refine W_call rfl Ty.named80 rfl (manifest_reader_num_fz_ok (x0 := r5.2) (x1 := 1) (hS9.lendL [1] (by decide)) hfr5_b0_0 hr28) ?_;rintro v29 w29 ⟨Fr28, ur28_b0_0, rfl, hfr28_b0_0, hT29⟩;have hS29 := hS9.backL [1] [0, 2] (by decide) (by decide) hT29;have ler28 := hT29.ext;refine W_move rfl rfl ?_;refine W_nil ?_;refine N_code ?_;refine C_block ?_;refine C_loopM (fun (s : Int × (List UInt8) × Bool × (List Part)) E wq => ∃ (F30 : Frz) (u33 : Value) (u37 : Value), E = [(2, pl g1 0), (4, pl g2 0), (5, pl g6 0), (17, .int .i64 r28.1), (18, .int .i64 s.1)] ∧ Fr28.le F30 ∧ SlF tB F30 u33 s.2.1 ∧ St [] w F F30 [.box g2 106 [u33, .bool s.2.2.1], .box g6 45 [strV r5.1, u37], .box g1 45 [strV [], .slice none 0 0], .row Part.t 51 u37 s.2.2.2] wq) H ?_ ?_
  ·have hS319 := hS29.nilRow Part.t 51;exact ⟨_, ⟨Fr28, ur28_b0_0, (.slice none 0 0), rfl, (Frz.le.refl _), hfr28_b0_0, hS319.pick [1, 2, 3, 0] (by decide)⟩, ⟨rfl, rfl, rfl, rfl, rfl, trivial⟩⟩
  ·rintro rec39 ⟨i31, l32, b35, l36⟩ E w30 hI H;(try dsimp only at hI);obtain ⟨F30, u33, u37, rfl, le30, hx34, hS30⟩ := hI;dsimp only [manifest_Read.l2] at H;refine C_seq ?_;refine C_region ?_;refine W_lss rfl rfl rfl ?_;refine W_nil ?_;refine N_code ?_;refine C_seq ?_;refine C_cond rfl (fun hc40 => ?_) (fun hc40 => ?_)
   ·rw [if_t hc40] at H;refine C_skip ?_;refine N_code ?_;refine C_seq_join (fun E wq => ∃ l42 : List UInt8, ∃ b45 : Bool, ∃ l46 : List Part, manifest_Read.k3 i31 rec39 l42 b45 l46 = some r ∧ ∃ (F41 : Frz) (u43 : Value) (u47 : Value), E = [(2, pl g1 0), (4, pl g2 0), (5, pl g6 0), (17, .int .i64 r28.1), (18, .int .i64 i31)] ∧ F30.le F41 ∧ SlF tB F41 u43 l42 ∧ St [] w F F41 [.box g2 106 [u43, .bool b45], .box g6 45 [strV r5.1, u47], .box g1 45 [strV [], .slice none 0 0], .row Part.t 51 u47 l46] wq) ?_ ?_
    ·refine C_block ?_;refine C_seq ?_;obtain ⟨r49, hr49, H⟩ := bd_some H;obtain ⟨r50, hr50, H⟩ := bd_some H;obtain ⟨r51, hr51, H⟩ := bd_some H
     apply C_drawJ (fun D vs wz => ∀ (b2 b3 b4 b6 b7 b8 : Bool), D 2 = b2 → D 3 = b3 → D 4 = b4 → D 6 = b6 → D 7 = b7 → D 8 = b8 → match b2, b3, b4, b6, b7, b8 with | false, false, false, false, false, false => ∃ FJ : Frz, F30.le FJ ∧ St [] w F FJ [.box g2 106 [u33, .bool b35], .box g6 45 [strV r5.1, u37], .box g1 45 [strV [], .slice none 0 0], .row Part.t 51 u37 l36] wz | true, false, false, false, false, false => ∃ FJ : Frz, ∃ ur49_b0_0 : Value, vs 2 = .int .i64 r49.1 ∧ F30.le FJ ∧ SlF tB FJ ur49_b0_0 r49.2.b ∧ St [] w F FJ [.box g2 106 [ur49_b0_0, .bool r49.2.bad], .box g6 45 [strV r5.1, u37], .box g1 45 [strV [], .slice none 0 0], .row Part.t 51 u37 l36] wz | true, true, false, false, false, false => ∃ FJ : Frz, ∃ ur49_b0_0 : Value, ∃ ur50_0 : Value, ∃ ur50_b0_0 : Value, vs 2 = .int .i64 r49.1 ∧ vs 3 = ur50_0 ∧ F30.le FJ ∧ SlF tB FJ ur50_0 r50.1 ∧ SlF tB FJ ur50_b0_0 r50.2.b ∧ St [] w F FJ [.box g2 106 [ur50_b0_0, .bool r50.2.bad], .box g6 45 [strV r5.1, u37], .box g1 45 [strV [], .slice none 0 0], .row Part.t 51 u37 l36] wz | true, true, true, false, false, false => ∃ FJ : Frz, ∃ ur49_b0_0 : Value, ∃ ur50_0 : Value, ∃ ur50_b0_0 : Value, vs 2 = .int .i64 r49.1 ∧ vs 3 = ur50_0 ∧ vs 4 = strV r50.1 ∧ F30.le FJ ∧ SlF tB FJ ur50_0 r50.1 ∧ SlF tB FJ ur50_b0_0 r50.2.b ∧ St [] w F FJ [.box g2 106 [ur50_b0_0, .bool r50.2.bad], .box g6 45 [strV r5.1, u37], .box g1 45 [strV [], .slice none 0 0], .row Part.t 51 u37 l36] wz | true, true, false, true, false, false => ∃ FJ : Frz, ∃ ur49_b0_0 : Value, ∃ ur50_0 : Value, ∃ ur50_b0_0 : Value, ∃ ur51_b0_0 : Value, vs 2 = .int .i64 r49.1 ∧ vs 3 = ur50_0 ∧ vs 6 = .int .i64 r51.1 ∧ F30.le FJ ∧ SlF tB FJ ur50_0 r50.1 ∧ SlF tB FJ ur51_b0_0 r51.2.b ∧ St [] w F FJ [.box g2 106 [ur51_b0_0, .bool r51.2.bad], .box g6 45 [strV r5.1, u37], .box g1 45 [strV [], .slice none 0 0], .row Part.t 51 u37 l36] wz | true, true, true, true, false, false => ∃ FJ : Frz, ∃ ur49_b0_0 : Value, ∃ ur50_0 : Value, ∃ ur50_b0_0 : Value, ∃ ur51_b0_0 : Value, vs 2 = .int .i64 r49.1 ∧ vs 3 = ur50_0 ∧ vs 4 = strV r50.1 ∧ vs 6 = .int .i64 r51.1 ∧ F30.le FJ ∧ SlF tB FJ ur50_0 r50.1 ∧ SlF tB FJ ur51_b0_0 r51.2.b ∧ St [] w F FJ [.box g2 106 [ur51_b0_0, .bool r51.2.bad], .box g6 45 [strV r5.1, u37], .box g1 45 [strV [], .slice none 0 0], .row Part.t 51 u37 l36] wz | true, true, true, true, true, false => ∃ FJ : Frz, ∃ ur49_b0_0 : Value, ∃ ur50_0 : Value, ∃ ur50_b0_0 : Value, ∃ ur51_b0_0 : Value, vs 2 = .int .i64 r49.1 ∧ vs 3 = ur50_0 ∧ vs 4 = strV r50.1 ∧ vs 6 = .int .i64 r51.1 ∧ vs 7 = .agg (Part.cells (Part.mk r50.1 r51.1 []) (.slice none 0 0)).toArray ∧ F30.le FJ ∧ SlF tB FJ ur50_0 r50.1 ∧ SlF tB FJ ur51_b0_0 r51.2.b ∧ St [] w F FJ [.box g2 106 [ur51_b0_0, .bool r51.2.bad], .box g6 45 [strV r5.1, u37], .box g1 45 [strV [], .slice none 0 0], .row Part.t 51 u37 l36] wz | false, false, false, false, false, true => ∃ FJ : Frz, ∃ g52 : Nat, vs 8 = pl g52 0 ∧ F30.le FJ ∧ St [] w F FJ [.box g52 51 [strV [], .int .i64 0, .slice none 0 0], .box g2 106 [u33, .bool b35], .box g6 45 [strV r5.1, u37], .box g1 45 [strV [], .slice none 0 0], .row Part.t 51 u37 l36] wz | true, false, false, false, false, true => ∃ FJ : Frz, ∃ ur49_b0_0 : Value, ∃ g52 : Nat, vs 2 = .int .i64 r49.1 ∧ vs 8 = pl g52 0 ∧ F30.le FJ ∧ SlF tB FJ ur49_b0_0 r49.2.b ∧ St [] w F FJ [.box g52 51 [strV [], .int .i64 0, .slice none 0 0], .box g2 106 [ur49_b0_0, .bool r49.2.bad], .box g6 45 [strV r5.1, u37], .box g1 45 [strV [], .slice none 0 0], .row Part.t 51 u37 l36] wz | true, true, false, false, false, true => ∃ FJ : Frz, ∃ ur49_b0_0 : Value, ∃ ur50_0 : Value, ∃ ur50_b0_0 : Value, ∃ g52 : Nat, vs 2 = .int .i64 r49.1 ∧ vs 3 = ur50_0 ∧ vs 8 = pl g52 0 ∧ F30.le FJ ∧ SlF tB FJ ur50_0 r50.1 ∧ SlF tB FJ ur50_b0_0 r50.2.b ∧ St [] w F FJ [.box g52 51 [strV [], .int .i64 0, .slice none 0 0], .box g2 106 [ur50_b0_0, .bool r50.2.bad], .box g6 45 [strV r5.1, u37], .box g1 45 [strV [], .slice none 0 0], .row Part.t 51 u37 l36] wz | true, true, true, false, false, true => ∃ FJ : Frz, ∃ ur49_b0_0 : Value, ∃ ur50_0 : Value, ∃ ur50_b0_0 : Value, ∃ g52 : Nat, vs 2 = .int .i64 r49.1 ∧ vs 3 = ur50_0 ∧ vs 4 = strV r50.1 ∧ vs 8 = pl g52 0 ∧ F30.le FJ ∧ SlF tB FJ ur50_0 r50.1 ∧ SlF tB FJ ur50_b0_0 r50.2.b ∧ St [] w F FJ [.box g52 51 [strV [], .int .i64 0, .slice none 0 0], .box g2 106 [ur50_b0_0, .bool r50.2.bad], .box g6 45 [strV r5.1, u37], .box g1 45 [strV [], .slice none 0 0], .row Part.t 51 u37 l36] wz | true, true, false, true, false, true => ∃ FJ : Frz, ∃ ur49_b0_0 : Value, ∃ ur50_0 : Value, ∃ ur50_b0_0 : Value, ∃ ur51_b0_0 : Value, ∃ g52 : Nat, vs 2 = .int .i64 r49.1 ∧ vs 3 = ur50_0 ∧ vs 6 = .int .i64 r51.1 ∧ vs 8 = pl g52 0 ∧ F30.le FJ ∧ SlF tB FJ ur50_0 r50.1 ∧ SlF tB FJ ur51_b0_0 r51.2.b ∧ St [] w F FJ [.box g52 51 [strV [], .int .i64 0, .slice none 0 0], .box g2 106 [ur51_b0_0, .bool r51.2.bad], .box g6 45 [strV r5.1, u37], .box g1 45 [strV [], .slice none 0 0], .row Part.t 51 u37 l36] wz | true, true, true, true, false, true => ∃ FJ : Frz, ∃ ur49_b0_0 : Value, ∃ ur50_0 : Value, ∃ ur50_b0_0 : Value, ∃ ur51_b0_0 : Value, ∃ g52 : Nat, vs 2 = .int .i64 r49.1 ∧ vs 3 = ur50_0 ∧ vs 4 = strV r50.1 ∧ vs 6 = .int .i64 r51.1 ∧ vs 8 = pl g52 0 ∧ F30.le FJ ∧ SlF tB FJ ur50_0 r50.1 ∧ SlF tB FJ ur51_b0_0 r51.2.b ∧ St [] w F FJ [.box g52 51 [strV [], .int .i64 0, .slice none 0 0], .box g2 106 [ur51_b0_0, .bool r51.2.bad], .box g6 45 [strV r5.1, u37], .box g1 45 [strV [], .slice none 0 0], .row Part.t 51 u37 l36] wz | true, true, true, true, true, true => ∃ FJ : Frz, ∃ ur49_b0_0 : Value, ∃ ur50_0 : Value, ∃ ur50_b0_0 : Value, ∃ ur51_b0_0 : Value, ∃ g52 : Nat, vs 2 = .int .i64 r49.1 ∧ vs 3 = ur50_0 ∧ vs 4 = strV r50.1 ∧ vs 6 = .int .i64 r51.1 ∧ vs 7 = .agg (Part.cells (Part.mk r50.1 r51.1 []) (.slice none 0 0)).toArray ∧ vs 8 = pl g52 0 ∧ F30.le FJ ∧ SlF tB FJ ur50_0 r50.1 ∧ SlF tB FJ ur51_b0_0 r51.2.b ∧ St [] w F FJ [.box g52 51 [strV [], .int .i64 0, .slice none 0 0], .box g2 106 [ur51_b0_0, .bool r51.2.bad], .box g6 45 [strV r5.1, u37], .box g1 45 [strV [], .slice none 0 0], .row Part.t 51 u37 l36] wz | _, _, _, _, _, _ => False) 9 [[], [], [1], [0, 2], [3], [], [3, 5], [4, 6], []] [some (pl g2 0), some (pl g2 0), none, none, none, some (pl g2 0), none, none, none] Ty.mixed rfl (by kernel_rfl) (by kernel_rfl) rfl
     ·intro vq87 b2 b3 b4 b6 b7 b8 h2 h3 h4 h6 h7 h8;obtain rfl : b2 = false := h2.symm;obtain rfl : b3 = false := h3.symm;obtain rfl : b4 = false := h4.symm;obtain rfl : b6 = false := h6.symm;obtain rfl : b7 = false := h7.symm;obtain rfl : b8 = false := h8.symm;exact ⟨F30, (Frz.le.refl _), (hS30.below (below_drew _))⟩
     ·refine ⟨?_, ?_, ?_, ?_, ?_, ?_, ?_, ?_, ?_, trivial⟩
      ·intro w88 vq88 D88 hD88 hd88 hJ88;refine W_move rfl rfl ?_;refine W_nil ?_;exact N_stepJ rfl (fun u hu => Option.some.inj hu) hJ88
      ·intro w89 vq89 D89 hD89 hd89 hJ89;refine W_move rfl rfl ?_;refine W_nil ?_;exact N_stepJ rfl (fun u hu => Option.some.inj hu) hJ89
      ·intro w90 vq90 D90 hD90 hd90 hJ90
       rcases Bool.eq_false_or_eq_true (D90 3) with hb91 | hb91
       ·
        rcases Bool.eq_false_or_eq_true (D90 4) with hb92 | hb92
        ·
         rcases Bool.eq_false_or_eq_true (D90 6) with hb93 | hb93
         ·
          rcases Bool.eq_false_or_eq_true (D90 7) with hb94 | hb94
          ·
           rcases Bool.eq_false_or_eq_true (D90 8) with hb95 | hb95
           ·exact False.elim (hJ90 false true true true true true hD90 hb91 hb92 hb93 hb94 hb95)
           ·exact False.elim (hJ90 false true true true true false hD90 hb91 hb92 hb93 hb94 hb95)
          ·
           rcases Bool.eq_false_or_eq_true (D90 8) with hb96 | hb96
           ·exact False.elim (hJ90 false true true true false true hD90 hb91 hb92 hb93 hb94 hb96)
           ·exact False.elim (hJ90 false true true true false false hD90 hb91 hb92 hb93 hb94 hb96)
         ·
          rcases Bool.eq_false_or_eq_true (D90 7) with hb97 | hb97
          ·
           rcases Bool.eq_false_or_eq_true (D90 8) with hb98 | hb98
           ·exact False.elim (hJ90 false true true false true true hD90 hb91 hb92 hb93 hb97 hb98)
           ·exact False.elim (hJ90 false true true false true false hD90 hb91 hb92 hb93 hb97 hb98)
          ·
           rcases Bool.eq_false_or_eq_true (D90 8) with hb99 | hb99
           ·exact False.elim (hJ90 false true true false false true hD90 hb91 hb92 hb93 hb97 hb99)
           ·exact False.elim (hJ90 false true true false false false hD90 hb91 hb92 hb93 hb97 hb99)
        ·
         rcases Bool.eq_false_or_eq_true (D90 6) with hb100 | hb100
         ·
          rcases Bool.eq_false_or_eq_true (D90 7) with hb101 | hb101
          ·
           rcases Bool.eq_false_or_eq_true (D90 8) with hb102 | hb102
           ·exact False.elim (hJ90 false true false true true true hD90 hb91 hb92 hb100 hb101 hb102)
           ·exact False.elim (hJ90 false true false true true false hD90 hb91 hb92 hb100 hb101 hb102)
          ·
           rcases Bool.eq_false_or_eq_true (D90 8) with hb103 | hb103
           ·exact False.elim (hJ90 false true false true false true hD90 hb91 hb92 hb100 hb101 hb103)
           ·exact False.elim (hJ90 false true false true false false hD90 hb91 hb92 hb100 hb101 hb103)
         ·
          rcases Bool.eq_false_or_eq_true (D90 7) with hb104 | hb104
          ·
           rcases Bool.eq_false_or_eq_true (D90 8) with hb105 | hb105
           ·exact False.elim (hJ90 false true false false true true hD90 hb91 hb92 hb100 hb104 hb105)
           ·exact False.elim (hJ90 false true false false true false hD90 hb91 hb92 hb100 hb104 hb105)
          ·
           rcases Bool.eq_false_or_eq_true (D90 8) with hb106 | hb106
           ·exact False.elim (hJ90 false true false false false true hD90 hb91 hb92 hb100 hb104 hb106)
           ·exact False.elim (hJ90 false true false false false false hD90 hb91 hb92 hb100 hb104 hb106)
       ·
        rcases Bool.eq_false_or_eq_true (D90 4) with hb107 | hb107
        ·
         rcases Bool.eq_false_or_eq_true (D90 6) with hb108 | hb108
         ·
          rcases Bool.eq_false_or_eq_true (D90 7) with hb109 | hb109
          ·
           rcases Bool.eq_false_or_eq_true (D90 8) with hb110 | hb110
           ·exact False.elim (hJ90 false false true true true true hD90 hb91 hb107 hb108 hb109 hb110)
           ·exact False.elim (hJ90 false false true true true false hD90 hb91 hb107 hb108 hb109 hb110)
          ·
           rcases Bool.eq_false_or_eq_true (D90 8) with hb111 | hb111
           ·exact False.elim (hJ90 false false true true false true hD90 hb91 hb107 hb108 hb109 hb111)
           ·exact False.elim (hJ90 false false true true false false hD90 hb91 hb107 hb108 hb109 hb111)
         ·
          rcases Bool.eq_false_or_eq_true (D90 7) with hb112 | hb112
          ·
           rcases Bool.eq_false_or_eq_true (D90 8) with hb113 | hb113
           ·exact False.elim (hJ90 false false true false true true hD90 hb91 hb107 hb108 hb112 hb113)
           ·exact False.elim (hJ90 false false true false true false hD90 hb91 hb107 hb108 hb112 hb113)
          ·
           rcases Bool.eq_false_or_eq_true (D90 8) with hb114 | hb114
           ·exact False.elim (hJ90 false false true false false true hD90 hb91 hb107 hb108 hb112 hb114)
           ·exact False.elim (hJ90 false false true false false false hD90 hb91 hb107 hb108 hb112 hb114)
        ·
         rcases Bool.eq_false_or_eq_true (D90 6) with hb115 | hb115
         ·
          rcases Bool.eq_false_or_eq_true (D90 7) with hb116 | hb116
          ·
           rcases Bool.eq_false_or_eq_true (D90 8) with hb117 | hb117
           ·exact False.elim (hJ90 false false false true true true hD90 hb91 hb107 hb115 hb116 hb117)
           ·exact False.elim (hJ90 false false false true true false hD90 hb91 hb107 hb115 hb116 hb117)
          ·
           rcases Bool.eq_false_or_eq_true (D90 8) with hb118 | hb118
           ·exact False.elim (hJ90 false false false true false true hD90 hb91 hb107 hb115 hb116 hb118)
           ·exact False.elim (hJ90 false false false true false false hD90 hb91 hb107 hb115 hb116 hb118)
         ·
          rcases Bool.eq_false_or_eq_true (D90 7) with hb119 | hb119
          ·
           rcases Bool.eq_false_or_eq_true (D90 8) with hb120 | hb120
           ·exact False.elim (hJ90 false false false false true true hD90 hb91 hb107 hb115 hb119 hb120)
           ·exact False.elim (hJ90 false false false false true false hD90 hb91 hb107 hb115 hb119 hb120)
          ·
           rcases Bool.eq_false_or_eq_true (D90 8) with hb121 | hb121
           ·obtain ⟨FJ90, g52, he90_8, leJ90, hSJ90⟩ := (hJ90 false false false false false true hD90 hb91 hb107 hb115 hb119 hb121);refine W_call rfl Ty.named80 rfl (manifest_reader_num_fz_ok (x0 := (ManifestReader.mk l32 b35)) (x1 := 1) (hSJ90.lendL [1] (by decide)) (hx34.mono leJ90) hr49) ?_;rintro v122 w122 ⟨Fr49, ur49_b0_0, rfl, hfr49_b0_0, hT122⟩;have hS122 := hSJ90.backL [1] [0, 2, 3, 4] (by decide) (by decide) hT122;have ler49 := hT122.ext;refine W_nil ?_;exact N_stepJ rfl (fun u (hu : (none : Option Value) = some u) => by cases hu) (fun b2 b3 b4 b6 b7 b8 h2 h3 h4 h6 h7 h8 => by obtain rfl : b2 = true := h2.symm; obtain rfl : b3 = false := h3.symm.trans hb91; obtain rfl : b4 = false := h4.symm.trans hb107; obtain rfl : b6 = false := h6.symm.trans hb115; obtain rfl : b7 = false := h7.symm.trans hb119; obtain rfl : b8 = true := h8.symm.trans hb121; exact ⟨Fr49, ur49_b0_0, g52, rfl, he90_8, (leJ90.trans ler49), hfr49_b0_0, hS122.pick [1, 0, 2, 3, 4] (by decide)⟩)
           ·obtain ⟨FJ90, leJ90, hSJ90⟩ := (hJ90 false false false false false false hD90 hb91 hb107 hb115 hb119 hb121);refine W_call rfl Ty.named80 rfl (manifest_reader_num_fz_ok (x0 := (ManifestReader.mk l32 b35)) (x1 := 1) (hSJ90.lendL [0] (by decide)) (hx34.mono leJ90) hr49) ?_;rintro v123 w123 ⟨Fr49, ur49_b0_0, rfl, hfr49_b0_0, hT123⟩;have hS123 := hSJ90.backL [0] [1, 2, 3] (by decide) (by decide) hT123;have ler49 := hT123.ext;refine W_nil ?_;exact N_stepJ rfl (fun u (hu : (none : Option Value) = some u) => by cases hu) (fun b2 b3 b4 b6 b7 b8 h2 h3 h4 h6 h7 h8 => by obtain rfl : b2 = true := h2.symm; obtain rfl : b3 = false := h3.symm.trans hb91; obtain rfl : b4 = false := h4.symm.trans hb107; obtain rfl : b6 = false := h6.symm.trans hb115; obtain rfl : b7 = false := h7.symm.trans hb119; obtain rfl : b8 = false := h8.symm.trans hb121; exact ⟨Fr49, ur49_b0_0, rfl, (leJ90.trans ler49), hfr49_b0_0, hS123⟩)
      ·intro w124 vq124 D124 hD124 hd124 hJ124
       rcases Bool.eq_false_or_eq_true (D124 4) with hb125 | hb125
       ·
        rcases Bool.eq_false_or_eq_true (D124 6) with hb126 | hb126
        ·
         rcases Bool.eq_false_or_eq_true (D124 7) with hb127 | hb127
         ·
          rcases Bool.eq_false_or_eq_true (D124 8) with hb128 | hb128
          ·exact False.elim (hJ124 true false true true true true (hd124 2 (by decide)) hD124 hb125 hb126 hb127 hb128)
          ·exact False.elim (hJ124 true false true true true false (hd124 2 (by decide)) hD124 hb125 hb126 hb127 hb128)
         ·
          rcases Bool.eq_false_or_eq_true (D124 8) with hb129 | hb129
          ·exact False.elim (hJ124 true false true true false true (hd124 2 (by decide)) hD124 hb125 hb126 hb127 hb129)
          ·exact False.elim (hJ124 true false true true false false (hd124 2 (by decide)) hD124 hb125 hb126 hb127 hb129)
        ·
         rcases Bool.eq_false_or_eq_true (D124 7) with hb130 | hb130
         ·
          rcases Bool.eq_false_or_eq_true (D124 8) with hb131 | hb131
          ·exact False.elim (hJ124 true false true false true true (hd124 2 (by decide)) hD124 hb125 hb126 hb130 hb131)
          ·exact False.elim (hJ124 true false true false true false (hd124 2 (by decide)) hD124 hb125 hb126 hb130 hb131)
         ·
          rcases Bool.eq_false_or_eq_true (D124 8) with hb132 | hb132
          ·exact False.elim (hJ124 true false true false false true (hd124 2 (by decide)) hD124 hb125 hb126 hb130 hb132)
          ·exact False.elim (hJ124 true false true false false false (hd124 2 (by decide)) hD124 hb125 hb126 hb130 hb132)
       ·
        rcases Bool.eq_false_or_eq_true (D124 6) with hb133 | hb133
        ·
         rcases Bool.eq_false_or_eq_true (D124 7) with hb134 | hb134
         ·
          rcases Bool.eq_false_or_eq_true (D124 8) with hb135 | hb135
          ·exact False.elim (hJ124 true false false true true true (hd124 2 (by decide)) hD124 hb125 hb133 hb134 hb135)
          ·exact False.elim (hJ124 true false false true true false (hd124 2 (by decide)) hD124 hb125 hb133 hb134 hb135)
         ·
          rcases Bool.eq_false_or_eq_true (D124 8) with hb136 | hb136
          ·exact False.elim (hJ124 true false false true false true (hd124 2 (by decide)) hD124 hb125 hb133 hb134 hb136)
          ·exact False.elim (hJ124 true false false true false false (hd124 2 (by decide)) hD124 hb125 hb133 hb134 hb136)
        ·
         rcases Bool.eq_false_or_eq_true (D124 7) with hb137 | hb137
         ·
          rcases Bool.eq_false_or_eq_true (D124 8) with hb138 | hb138
          ·exact False.elim (hJ124 true false false false true true (hd124 2 (by decide)) hD124 hb125 hb133 hb137 hb138)
          ·exact False.elim (hJ124 true false false false true false (hd124 2 (by decide)) hD124 hb125 hb133 hb137 hb138)
         ·
          rcases Bool.eq_false_or_eq_true (D124 8) with hb139 | hb139
          ·obtain ⟨FJ124, ur49_b0_0, g52, he124_2, he124_8, leJ124, hfr49_b0_0, hSJ124⟩ := (hJ124 true false false false false true (hd124 2 (by decide)) hD124 hb125 hb133 hb137 hb139);refine W_eqv (t := 22) rfl he124_2 ?_;refine W_call rfl Ty.named79 rfl (manifest_reader_take_fz_ok (x0 := r49.2) (x1 := r49.1) (hSJ124.lendL [1] (by decide)) hfr49_b0_0 hr50) ?_;rintro ur50_0 w140 ⟨Fr50, _, ur50_b0_0, rfl, hfr50_0, hfr50_b0_0, hT140⟩;have hS140 := hSJ124.backL [1] [0, 2, 3, 4] (by decide) (by decide) hT140;have ler50 := hT140.ext;refine W_nil ?_;exact N_stepJ rfl (fun u (hu : (none : Option Value) = some u) => by cases hu) (fun b2 b3 b4 b6 b7 b8 h2 h3 h4 h6 h7 h8 => by obtain rfl : b2 = true := h2.symm.trans (hd124 2 (by decide)); obtain rfl : b3 = true := h3.symm; obtain rfl : b4 = false := h4.symm.trans hb125; obtain rfl : b6 = false := h6.symm.trans hb133; obtain rfl : b7 = false := h7.symm.trans hb137; obtain rfl : b8 = true := h8.symm.trans hb139; exact ⟨Fr50, ur49_b0_0, ur50_0, ur50_b0_0, g52, he124_2, rfl, he124_8, (leJ124.trans ler50), hfr50_0, hfr50_b0_0, hS140.pick [1, 0, 2, 3, 4] (by decide)⟩)
          ·obtain ⟨FJ124, ur49_b0_0, he124_2, leJ124, hfr49_b0_0, hSJ124⟩ := (hJ124 true false false false false false (hd124 2 (by decide)) hD124 hb125 hb133 hb137 hb139);refine W_eqv (t := 22) rfl he124_2 ?_;refine W_call rfl Ty.named79 rfl (manifest_reader_take_fz_ok (x0 := r49.2) (x1 := r49.1) (hSJ124.lendL [0] (by decide)) hfr49_b0_0 hr50) ?_;rintro ur50_0 w141 ⟨Fr50, _, ur50_b0_0, rfl, hfr50_0, hfr50_b0_0, hT141⟩;have hS141 := hSJ124.backL [0] [1, 2, 3] (by decide) (by decide) hT141;have ler50 := hT141.ext;refine W_nil ?_;exact N_stepJ rfl (fun u (hu : (none : Option Value) = some u) => by cases hu) (fun b2 b3 b4 b6 b7 b8 h2 h3 h4 h6 h7 h8 => by obtain rfl : b2 = true := h2.symm.trans (hd124 2 (by decide)); obtain rfl : b3 = true := h3.symm; obtain rfl : b4 = false := h4.symm.trans hb125; obtain rfl : b6 = false := h6.symm.trans hb133; obtain rfl : b7 = false := h7.symm.trans hb137; obtain rfl : b8 = false := h8.symm.trans hb139; exact ⟨Fr50, ur49_b0_0, ur50_0, ur50_b0_0, he124_2, rfl, (leJ124.trans ler50), hfr50_0, hfr50_b0_0, hS141⟩)
      ·intro w142 vq142 D142 hD142 hd142 hJ142
       rcases Bool.eq_false_or_eq_true (D142 2) with hb143 | hb143
       ·
        rcases Bool.eq_false_or_eq_true (D142 6) with hb144 | hb144
        ·
         rcases Bool.eq_false_or_eq_true (D142 7) with hb145 | hb145
         ·
          rcases Bool.eq_false_or_eq_true (D142 8) with hb146 | hb146
          ·exact False.elim (hJ142 true true false true true true hb143 (hd142 3 (by decide)) hD142 hb144 hb145 hb146)
          ·exact False.elim (hJ142 true true false true true false hb143 (hd142 3 (by decide)) hD142 hb144 hb145 hb146)
         ·
          rcases Bool.eq_false_or_eq_true (D142 8) with hb147 | hb147
          ·obtain ⟨FJ142, ur49_b0_0, ur50_0, ur50_b0_0, ur51_b0_0, g52, he142_2, he142_3, he142_6, he142_8, leJ142, hfr50_0, hfr51_b0_0, hSJ142⟩ := (hJ142 true true false true false true hb143 (hd142 3 (by decide)) hD142 hb144 hb145 hb147);refine W_eqv (t := 23) rfl he142_3 ?_;refine W_bstr rfl Try.underlying25 Try.underlying5 Try.underlying9 rfl (hfr50_0.src hSJ142.agree) ?_;refine W_nil ?_;exact N_stepJ rfl (fun u (hu : (none : Option Value) = some u) => by cases hu) (fun b2 b3 b4 b6 b7 b8 h2 h3 h4 h6 h7 h8 => by obtain rfl : b2 = true := h2.symm.trans hb143; obtain rfl : b3 = true := h3.symm.trans (hd142 3 (by decide)); obtain rfl : b4 = true := h4.symm; obtain rfl : b6 = true := h6.symm.trans hb144; obtain rfl : b7 = false := h7.symm.trans hb145; obtain rfl : b8 = true := h8.symm.trans hb147; exact ⟨FJ142, ur49_b0_0, ur50_0, ur50_b0_0, ur51_b0_0, g52, he142_2, he142_3, rfl, he142_6, he142_8, leJ142, hfr50_0, hfr51_b0_0, hSJ142⟩)
          ·obtain ⟨FJ142, ur49_b0_0, ur50_0, ur50_b0_0, ur51_b0_0, he142_2, he142_3, he142_6, leJ142, hfr50_0, hfr51_b0_0, hSJ142⟩ := (hJ142 true true false true false false hb143 (hd142 3 (by decide)) hD142 hb144 hb145 hb147);refine W_eqv (t := 23) rfl he142_3 ?_;refine W_bstr rfl Try.underlying25 Try.underlying5 Try.underlying9 rfl (hfr50_0.src hSJ142.agree) ?_;refine W_nil ?_;exact N_stepJ rfl (fun u (hu : (none : Option Value) = some u) => by cases hu) (fun b2 b3 b4 b6 b7 b8 h2 h3 h4 h6 h7 h8 => by obtain rfl : b2 = true := h2.symm.trans hb143; obtain rfl : b3 = true := h3.symm.trans (hd142 3 (by decide)); obtain rfl : b4 = true := h4.symm; obtain rfl : b6 = true := h6.symm.trans hb144; obtain rfl : b7 = false := h7.symm.trans hb145; obtain rfl : b8 = false := h8.symm.trans hb147; exact ⟨FJ142, ur49_b0_0, ur50_0, ur50_b0_0, ur51_b0_0, he142_2, he142_3, rfl, he142_6, leJ142, hfr50_0, hfr51_b0_0, hSJ142⟩)
        ·
         rcases Bool.eq_false_or_eq_true (D142 7) with hb148 | hb148
         ·
          rcases Bool.eq_false_or_eq_true (D142 8) with hb149 | hb149
          ·exact False.elim (hJ142 true true false false true true hb143 (hd142 3 (by decide)) hD142 hb144 hb148 hb149)
          ·exact False.elim (hJ142 true true false false true false hb143 (hd142 3 (by decide)) hD142 hb144 hb148 hb149)
         ·
          rcases Bool.eq_false_or_eq_true (D142 8) with hb150 | hb150
          ·obtain ⟨FJ142, ur49_b0_0, ur50_0, ur50_b0_0, g52, he142_2, he142_3, he142_8, leJ142, hfr50_0, hfr50_b0_0, hSJ142⟩ := (hJ142 true true false false false true hb143 (hd142 3 (by decide)) hD142 hb144 hb148 hb150);refine W_eqv (t := 23) rfl he142_3 ?_;refine W_bstr rfl Try.underlying25 Try.underlying5 Try.underlying9 rfl (hfr50_0.src hSJ142.agree) ?_;refine W_nil ?_;exact N_stepJ rfl (fun u (hu : (none : Option Value) = some u) => by cases hu) (fun b2 b3 b4 b6 b7 b8 h2 h3 h4 h6 h7 h8 => by obtain rfl : b2 = true := h2.symm.trans hb143; obtain rfl : b3 = true := h3.symm.trans (hd142 3 (by decide)); obtain rfl : b4 = true := h4.symm; obtain rfl : b6 = false := h6.symm.trans hb144; obtain rfl : b7 = false := h7.symm.trans hb148; obtain rfl : b8 = true := h8.symm.trans hb150; exact ⟨FJ142, ur49_b0_0, ur50_0, ur50_b0_0, g52, he142_2, he142_3, rfl, he142_8, leJ142, hfr50_0, hfr50_b0_0, hSJ142⟩)
          ·obtain ⟨FJ142, ur49_b0_0, ur50_0, ur50_b0_0, he142_2, he142_3, leJ142, hfr50_0, hfr50_b0_0, hSJ142⟩ := (hJ142 true true false false false false hb143 (hd142 3 (by decide)) hD142 hb144 hb148 hb150);refine W_eqv (t := 23) rfl he142_3 ?_;refine W_bstr rfl Try.underlying25 Try.underlying5 Try.underlying9 rfl (hfr50_0.src hSJ142.agree) ?_;refine W_nil ?_;exact N_stepJ rfl (fun u (hu : (none : Option Value) = some u) => by cases hu) (fun b2 b3 b4 b6 b7 b8 h2 h3 h4 h6 h7 h8 => by obtain rfl : b2 = true := h2.symm.trans hb143; obtain rfl : b3 = true := h3.symm.trans (hd142 3 (by decide)); obtain rfl : b4 = true := h4.symm; obtain rfl : b6 = false := h6.symm.trans hb144; obtain rfl : b7 = false := h7.symm.trans hb148; obtain rfl : b8 = false := h8.symm.trans hb150; exact ⟨FJ142, ur49_b0_0, ur50_0, ur50_b0_0, he142_2, he142_3, rfl, leJ142, hfr50_0, hfr50_b0_0, hSJ142⟩)
       ·
        rcases Bool.eq_false_or_eq_true (D142 6) with hb151 | hb151
        ·
         rcases Bool.eq_false_or_eq_true (D142 7) with hb152 | hb152
         ·
          rcases Bool.eq_false_or_eq_true (D142 8) with hb153 | hb153
          ·exact False.elim (hJ142 false true false true true true hb143 (hd142 3 (by decide)) hD142 hb151 hb152 hb153)
          ·exact False.elim (hJ142 false true false true true false hb143 (hd142 3 (by decide)) hD142 hb151 hb152 hb153)
         ·
          rcases Bool.eq_false_or_eq_true (D142 8) with hb154 | hb154
          ·exact False.elim (hJ142 false true false true false true hb143 (hd142 3 (by decide)) hD142 hb151 hb152 hb154)
          ·exact False.elim (hJ142 false true false true false false hb143 (hd142 3 (by decide)) hD142 hb151 hb152 hb154)
        ·
         rcases Bool.eq_false_or_eq_true (D142 7) with hb155 | hb155
         ·
          rcases Bool.eq_false_or_eq_true (D142 8) with hb156 | hb156
          ·exact False.elim (hJ142 false true false false true true hb143 (hd142 3 (by decide)) hD142 hb151 hb155 hb156)
          ·exact False.elim (hJ142 false true false false true false hb143 (hd142 3 (by decide)) hD142 hb151 hb155 hb156)
         ·
          rcases Bool.eq_false_or_eq_true (D142 8) with hb157 | hb157
          ·exact False.elim (hJ142 false true false false false true hb143 (hd142 3 (by decide)) hD142 hb151 hb155 hb157)
          ·exact False.elim (hJ142 false true false false false false hb143 (hd142 3 (by decide)) hD142 hb151 hb155 hb157)
      ·intro w158 vq158 D158 hD158 hd158 hJ158;refine W_move rfl rfl ?_;refine W_nil ?_;exact N_stepJ rfl (fun u hu => Option.some.inj hu) hJ158
      ·intro w159 vq159 D159 hD159 hd159 hJ159
       rcases Bool.eq_false_or_eq_true (D159 2) with hb160 | hb160
       ·
        rcases Bool.eq_false_or_eq_true (D159 4) with hb161 | hb161
        ·
         rcases Bool.eq_false_or_eq_true (D159 7) with hb162 | hb162
         ·
          rcases Bool.eq_false_or_eq_true (D159 8) with hb163 | hb163
          ·exact False.elim (hJ159 true true true false true true hb160 (hd159 3 (by decide)) hb161 hD159 hb162 hb163)
          ·exact False.elim (hJ159 true true true false true false hb160 (hd159 3 (by decide)) hb161 hD159 hb162 hb163)
         ·
          rcases Bool.eq_false_or_eq_true (D159 8) with hb164 | hb164
          ·obtain ⟨FJ159, ur49_b0_0, ur50_0, ur50_b0_0, g52, he159_2, he159_3, he159_4, he159_8, leJ159, hfr50_0, hfr50_b0_0, hSJ159⟩ := (hJ159 true true true false false true hb160 (hd159 3 (by decide)) hb161 hD159 hb162 hb164);refine W_eqv (t := 23) rfl he159_3 ?_;refine W_call rfl Ty.named80 rfl (manifest_reader_num_fz_ok (x0 := r50.2) (x1 := 2) (hSJ159.lendL [1] (by decide)) hfr50_b0_0 hr51) ?_;rintro v165 w165 ⟨Fr51, ur51_b0_0, rfl, hfr51_b0_0, hT165⟩;have hS165 := hSJ159.backL [1] [0, 2, 3, 4] (by decide) (by decide) hT165;have ler51 := hT165.ext;refine W_nil ?_;exact N_stepJ rfl (fun u (hu : (none : Option Value) = some u) => by cases hu) (fun b2 b3 b4 b6 b7 b8 h2 h3 h4 h6 h7 h8 => by obtain rfl : b2 = true := h2.symm.trans hb160; obtain rfl : b3 = true := h3.symm.trans (hd159 3 (by decide)); obtain rfl : b4 = true := h4.symm.trans hb161; obtain rfl : b6 = true := h6.symm; obtain rfl : b7 = false := h7.symm.trans hb162; obtain rfl : b8 = true := h8.symm.trans hb164; exact ⟨Fr51, ur49_b0_0, ur50_0, ur50_b0_0, ur51_b0_0, g52, he159_2, he159_3, he159_4, rfl, he159_8, (leJ159.trans ler51), (hfr50_0.mono ler51), hfr51_b0_0, hS165.pick [1, 0, 2, 3, 4] (by decide)⟩)
          ·obtain ⟨FJ159, ur49_b0_0, ur50_0, ur50_b0_0, he159_2, he159_3, he159_4, leJ159, hfr50_0, hfr50_b0_0, hSJ159⟩ := (hJ159 true true true false false false hb160 (hd159 3 (by decide)) hb161 hD159 hb162 hb164);refine W_eqv (t := 23) rfl he159_3 ?_;refine W_call rfl Ty.named80 rfl (manifest_reader_num_fz_ok (x0 := r50.2) (x1 := 2) (hSJ159.lendL [0] (by decide)) hfr50_b0_0 hr51) ?_;rintro v166 w166 ⟨Fr51, ur51_b0_0, rfl, hfr51_b0_0, hT166⟩;have hS166 := hSJ159.backL [0] [1, 2, 3] (by decide) (by decide) hT166;have ler51 := hT166.ext;refine W_nil ?_;exact N_stepJ rfl (fun u (hu : (none : Option Value) = some u) => by cases hu) (fun b2 b3 b4 b6 b7 b8 h2 h3 h4 h6 h7 h8 => by obtain rfl : b2 = true := h2.symm.trans hb160; obtain rfl : b3 = true := h3.symm.trans (hd159 3 (by decide)); obtain rfl : b4 = true := h4.symm.trans hb161; obtain rfl : b6 = true := h6.symm; obtain rfl : b7 = false := h7.symm.trans hb162; obtain rfl : b8 = false := h8.symm.trans hb164; exact ⟨Fr51, ur49_b0_0, ur50_0, ur50_b0_0, ur51_b0_0, he159_2, he159_3, he159_4, rfl, (leJ159.trans ler51), (hfr50_0.mono ler51), hfr51_b0_0, hS166⟩)
        ·
         rcases Bool.eq_false_or_eq_true (D159 7) with hb167 | hb167
         ·
          rcases Bool.eq_false_or_eq_true (D159 8) with hb168 | hb168
          ·exact False.elim (hJ159 true true false false true true hb160 (hd159 3 (by decide)) hb161 hD159 hb167 hb168)
          ·exact False.elim (hJ159 true true false false true false hb160 (hd159 3 (by decide)) hb161 hD159 hb167 hb168)
         ·
          rcases Bool.eq_false_or_eq_true (D159 8) with hb169 | hb169
          ·obtain ⟨FJ159, ur49_b0_0, ur50_0, ur50_b0_0, g52, he159_2, he159_3, he159_8, leJ159, hfr50_0, hfr50_b0_0, hSJ159⟩ := (hJ159 true true false false false true hb160 (hd159 3 (by decide)) hb161 hD159 hb167 hb169);refine W_eqv (t := 23) rfl he159_3 ?_;refine W_call rfl Ty.named80 rfl (manifest_reader_num_fz_ok (x0 := r50.2) (x1 := 2) (hSJ159.lendL [1] (by decide)) hfr50_b0_0 hr51) ?_;rintro v170 w170 ⟨Fr51, ur51_b0_0, rfl, hfr51_b0_0, hT170⟩;have hS170 := hSJ159.backL [1] [0, 2, 3, 4] (by decide) (by decide) hT170;have ler51 := hT170.ext;refine W_nil ?_;exact N_stepJ rfl (fun u (hu : (none : Option Value) = some u) => by cases hu) (fun b2 b3 b4 b6 b7 b8 h2 h3 h4 h6 h7 h8 => by obtain rfl : b2 = true := h2.symm.trans hb160; obtain rfl : b3 = true := h3.symm.trans (hd159 3 (by decide)); obtain rfl : b4 = false := h4.symm.trans hb161; obtain rfl : b6 = true := h6.symm; obtain rfl : b7 = false := h7.symm.trans hb167; obtain rfl : b8 = true := h8.symm.trans hb169; exact ⟨Fr51, ur49_b0_0, ur50_0, ur50_b0_0, ur51_b0_0, g52, he159_2, he159_3, rfl, he159_8, (leJ159.trans ler51), (hfr50_0.mono ler51), hfr51_b0_0, hS170.pick [1, 0, 2, 3, 4] (by decide)⟩)
          ·obtain ⟨FJ159, ur49_b0_0, ur50_0, ur50_b0_0, he159_2, he159_3, leJ159, hfr50_0, hfr50_b0_0, hSJ159⟩ := (hJ159 true true false false false false hb160 (hd159 3 (by decide)) hb161 hD159 hb167 hb169);refine W_eqv (t := 23) rfl he159_3 ?_;refine W_call rfl Ty.named80 rfl (manifest_reader_num_fz_ok (x0 := r50.2) (x1 := 2) (hSJ159.lendL [0] (by decide)) hfr50_b0_0 hr51) ?_;rintro v171 w171 ⟨Fr51, ur51_b0_0, rfl, hfr51_b0_0, hT171⟩;have hS171 := hSJ159.backL [0] [1, 2, 3] (by decide) (by decide) hT171;have ler51 := hT171.ext;refine W_nil ?_;exact N_stepJ rfl (fun u (hu : (none : Option Value) = some u) => by cases hu) (fun b2 b3 b4 b6 b7 b8 h2 h3 h4 h6 h7 h8 => by obtain rfl : b2 = true := h2.symm.trans hb160; obtain rfl : b3 = true := h3.symm.trans (hd159 3 (by decide)); obtain rfl : b4 = false := h4.symm.trans hb161; obtain rfl : b6 = true := h6.symm; obtain rfl : b7 = false := h7.symm.trans hb167; obtain rfl : b8 = false := h8.symm.trans hb169; exact ⟨Fr51, ur49_b0_0, ur50_0, ur50_b0_0, ur51_b0_0, he159_2, he159_3, rfl, (leJ159.trans ler51), (hfr50_0.mono ler51), hfr51_b0_0, hS171⟩)
       ·
        rcases Bool.eq_false_or_eq_true (D159 4) with hb172 | hb172
        ·
         rcases Bool.eq_false_or_eq_true (D159 7) with hb173 | hb173
         ·
          rcases Bool.eq_false_or_eq_true (D159 8) with hb174 | hb174
          ·exact False.elim (hJ159 false true true false true true hb160 (hd159 3 (by decide)) hb172 hD159 hb173 hb174)
          ·exact False.elim (hJ159 false true true false true false hb160 (hd159 3 (by decide)) hb172 hD159 hb173 hb174)
         ·
          rcases Bool.eq_false_or_eq_true (D159 8) with hb175 | hb175
          ·exact False.elim (hJ159 false true true false false true hb160 (hd159 3 (by decide)) hb172 hD159 hb173 hb175)
          ·exact False.elim (hJ159 false true true false false false hb160 (hd159 3 (by decide)) hb172 hD159 hb173 hb175)
        ·
         rcases Bool.eq_false_or_eq_true (D159 7) with hb176 | hb176
         ·
          rcases Bool.eq_false_or_eq_true (D159 8) with hb177 | hb177
          ·exact False.elim (hJ159 false true false false true true hb160 (hd159 3 (by decide)) hb172 hD159 hb176 hb177)
          ·exact False.elim (hJ159 false true false false true false hb160 (hd159 3 (by decide)) hb172 hD159 hb176 hb177)
         ·
          rcases Bool.eq_false_or_eq_true (D159 8) with hb178 | hb178
          ·exact False.elim (hJ159 false true false false false true hb160 (hd159 3 (by decide)) hb172 hD159 hb176 hb178)
          ·exact False.elim (hJ159 false true false false false false hb160 (hd159 3 (by decide)) hb172 hD159 hb176 hb178)
      ·intro w179 vq179 D179 hD179 hd179 hJ179
       rcases Bool.eq_false_or_eq_true (D179 2) with hb180 | hb180
       ·
        rcases Bool.eq_false_or_eq_true (D179 3) with hb181 | hb181
        ·
         rcases Bool.eq_false_or_eq_true (D179 8) with hb182 | hb182
         ·obtain ⟨FJ179, ur49_b0_0, ur50_0, ur50_b0_0, ur51_b0_0, g52, he179_2, he179_3, he179_4, he179_6, he179_8, leJ179, hfr50_0, hfr51_b0_0, hSJ179⟩ := (hJ179 true true true true false true hb180 hb181 (hd179 4 (by decide)) (hd179 6 (by decide)) hD179 hb182);refine W_eqv (t := 24) rfl he179_4 ?_;refine W_eqv (t := 26) rfl he179_6 ?_;refine W_build (v := .agg (Part.cells (Part.mk r50.1 r51.1 []) (.slice none 0 0)).toArray) rfl rfl (fun _ => by kernel_rfl) ?_;refine W_nil ?_;exact N_stepJ rfl (fun u (hu : (none : Option Value) = some u) => by cases hu) (fun b2 b3 b4 b6 b7 b8 h2 h3 h4 h6 h7 h8 => by obtain rfl : b2 = true := h2.symm.trans hb180; obtain rfl : b3 = true := h3.symm.trans hb181; obtain rfl : b4 = true := h4.symm.trans (hd179 4 (by decide)); obtain rfl : b6 = true := h6.symm.trans (hd179 6 (by decide)); obtain rfl : b7 = true := h7.symm; obtain rfl : b8 = true := h8.symm.trans hb182; exact ⟨FJ179, ur49_b0_0, ur50_0, ur50_b0_0, ur51_b0_0, g52, he179_2, he179_3, he179_4, he179_6, rfl, he179_8, leJ179, hfr50_0, hfr51_b0_0, hSJ179⟩)
         ·obtain ⟨FJ179, ur49_b0_0, ur50_0, ur50_b0_0, ur51_b0_0, he179_2, he179_3, he179_4, he179_6, leJ179, hfr50_0, hfr51_b0_0, hSJ179⟩ := (hJ179 true true true true false false hb180 hb181 (hd179 4 (by decide)) (hd179 6 (by decide)) hD179 hb182);refine W_eqv (t := 24) rfl he179_4 ?_;refine W_eqv (t := 26) rfl he179_6 ?_;refine W_build (v := .agg (Part.cells (Part.mk r50.1 r51.1 []) (.slice none 0 0)).toArray) rfl rfl (fun _ => by kernel_rfl) ?_;refine W_nil ?_;exact N_stepJ rfl (fun u (hu : (none : Option Value) = some u) => by cases hu) (fun b2 b3 b4 b6 b7 b8 h2 h3 h4 h6 h7 h8 => by obtain rfl : b2 = true := h2.symm.trans hb180; obtain rfl : b3 = true := h3.symm.trans hb181; obtain rfl : b4 = true := h4.symm.trans (hd179 4 (by decide)); obtain rfl : b6 = true := h6.symm.trans (hd179 6 (by decide)); obtain rfl : b7 = true := h7.symm; obtain rfl : b8 = false := h8.symm.trans hb182; exact ⟨FJ179, ur49_b0_0, ur50_0, ur50_b0_0, ur51_b0_0, he179_2, he179_3, he179_4, he179_6, rfl, leJ179, hfr50_0, hfr51_b0_0, hSJ179⟩)
        ·
         rcases Bool.eq_false_or_eq_true (D179 8) with hb183 | hb183
         ·exact False.elim (hJ179 true false true true false true hb180 hb181 (hd179 4 (by decide)) (hd179 6 (by decide)) hD179 hb183)
         ·exact False.elim (hJ179 true false true true false false hb180 hb181 (hd179 4 (by decide)) (hd179 6 (by decide)) hD179 hb183)
       ·
        rcases Bool.eq_false_or_eq_true (D179 3) with hb184 | hb184
        ·
         rcases Bool.eq_false_or_eq_true (D179 8) with hb185 | hb185
         ·exact False.elim (hJ179 false true true true false true hb180 hb184 (hd179 4 (by decide)) (hd179 6 (by decide)) hD179 hb185)
         ·exact False.elim (hJ179 false true true true false false hb180 hb184 (hd179 4 (by decide)) (hd179 6 (by decide)) hD179 hb185)
        ·
         rcases Bool.eq_false_or_eq_true (D179 8) with hb186 | hb186
         ·exact False.elim (hJ179 false false true true false true hb180 hb184 (hd179 4 (by decide)) (hd179 6 (by decide)) hD179 hb186)
         ·exact False.elim (hJ179 false false true true false false hb180 hb184 (hd179 4 (by decide)) (hd179 6 (by decide)) hD179 hb186)
      ·intro w187 vq187 D187 hD187 hd187 hJ187
       rcases Bool.eq_false_or_eq_true (D187 2) with hb188 | hb188
       ·
        rcases Bool.eq_false_or_eq_true (D187 3) with hb189 | hb189
        ·
         rcases Bool.eq_false_or_eq_true (D187 4) with hb190 | hb190
         ·
          rcases Bool.eq_false_or_eq_true (D187 6) with hb191 | hb191
          ·
           rcases Bool.eq_false_or_eq_true (D187 7) with hb192 | hb192
           ·obtain ⟨FJ187, ur49_b0_0, ur50_0, ur50_b0_0, ur51_b0_0, he187_2, he187_3, he187_4, he187_6, he187_7, leJ187, hfr50_0, hfr51_b0_0, hSJ187⟩ := (hJ187 true true true true true false hb188 hb189 hb190 hb191 hb192 hD187);refine W_alc (cs := [strV [], .int .i64 0, .slice none 0 0]) rfl Ty.zero51 rfl hSJ187 ?_;intro g52 w52 hS52;refine W_nil ?_;exact N_stepJ rfl (fun u (hu : (none : Option Value) = some u) => by cases hu) (fun b2 b3 b4 b6 b7 b8 h2 h3 h4 h6 h7 h8 => by obtain rfl : b2 = true := h2.symm.trans hb188; obtain rfl : b3 = true := h3.symm.trans hb189; obtain rfl : b4 = true := h4.symm.trans hb190; obtain rfl : b6 = true := h6.symm.trans hb191; obtain rfl : b7 = true := h7.symm.trans hb192; obtain rfl : b8 = true := h8.symm; exact ⟨FJ187, ur49_b0_0, ur50_0, ur50_b0_0, ur51_b0_0, g52, he187_2, he187_3, he187_4, he187_6, he187_7, rfl, leJ187, hfr50_0, hfr51_b0_0, hS52⟩)
           ·obtain ⟨FJ187, ur49_b0_0, ur50_0, ur50_b0_0, ur51_b0_0, he187_2, he187_3, he187_4, he187_6, leJ187, hfr50_0, hfr51_b0_0, hSJ187⟩ := (hJ187 true true true true false false hb188 hb189 hb190 hb191 hb192 hD187);refine W_alc (cs := [strV [], .int .i64 0, .slice none 0 0]) rfl Ty.zero51 rfl hSJ187 ?_;intro g52 w52 hS52;refine W_nil ?_;exact N_stepJ rfl (fun u (hu : (none : Option Value) = some u) => by cases hu) (fun b2 b3 b4 b6 b7 b8 h2 h3 h4 h6 h7 h8 => by obtain rfl : b2 = true := h2.symm.trans hb188; obtain rfl : b3 = true := h3.symm.trans hb189; obtain rfl : b4 = true := h4.symm.trans hb190; obtain rfl : b6 = true := h6.symm.trans hb191; obtain rfl : b7 = false := h7.symm.trans hb192; obtain rfl : b8 = true := h8.symm; exact ⟨FJ187, ur49_b0_0, ur50_0, ur50_b0_0, ur51_b0_0, g52, he187_2, he187_3, he187_4, he187_6, rfl, leJ187, hfr50_0, hfr51_b0_0, hS52⟩)
          ·
           rcases Bool.eq_false_or_eq_true (D187 7) with hb193 | hb193
           ·exact False.elim (hJ187 true true true false true false hb188 hb189 hb190 hb191 hb193 hD187)
           ·obtain ⟨FJ187, ur49_b0_0, ur50_0, ur50_b0_0, he187_2, he187_3, he187_4, leJ187, hfr50_0, hfr50_b0_0, hSJ187⟩ := (hJ187 true true true false false false hb188 hb189 hb190 hb191 hb193 hD187);refine W_alc (cs := [strV [], .int .i64 0, .slice none 0 0]) rfl Ty.zero51 rfl hSJ187 ?_;intro g52 w52 hS52;refine W_nil ?_;exact N_stepJ rfl (fun u (hu : (none : Option Value) = some u) => by cases hu) (fun b2 b3 b4 b6 b7 b8 h2 h3 h4 h6 h7 h8 => by obtain rfl : b2 = true := h2.symm.trans hb188; obtain rfl : b3 = true := h3.symm.trans hb189; obtain rfl : b4 = true := h4.symm.trans hb190; obtain rfl : b6 = false := h6.symm.trans hb191; obtain rfl : b7 = false := h7.symm.trans hb193; obtain rfl : b8 = true := h8.symm; exact ⟨FJ187, ur49_b0_0, ur50_0, ur50_b0_0, g52, he187_2, he187_3, he187_4, rfl, leJ187, hfr50_0, hfr50_b0_0, hS52⟩)
         ·
          rcases Bool.eq_false_or_eq_true (D187 6) with hb194 | hb194
          ·
           rcases Bool.eq_false_or_eq_true (D187 7) with hb195 | hb195
           ·exact False.elim (hJ187 true true false true true false hb188 hb189 hb190 hb194 hb195 hD187)
           ·obtain ⟨FJ187, ur49_b0_0, ur50_0, ur50_b0_0, ur51_b0_0, he187_2, he187_3, he187_6, leJ187, hfr50_0, hfr51_b0_0, hSJ187⟩ := (hJ187 true true false true false false hb188 hb189 hb190 hb194 hb195 hD187);refine W_alc (cs := [strV [], .int .i64 0, .slice none 0 0]) rfl Ty.zero51 rfl hSJ187 ?_;intro g52 w52 hS52;refine W_nil ?_;exact N_stepJ rfl (fun u (hu : (none : Option Value) = some u) => by cases hu) (fun b2 b3 b4 b6 b7 b8 h2 h3 h4 h6 h7 h8 => by obtain rfl : b2 = true := h2.symm.trans hb188; obtain rfl : b3 = true := h3.symm.trans hb189; obtain rfl : b4 = false := h4.symm.trans hb190; obtain rfl : b6 = true := h6.symm.trans hb194; obtain rfl : b7 = false := h7.symm.trans hb195; obtain rfl : b8 = true := h8.symm; exact ⟨FJ187, ur49_b0_0, ur50_0, ur50_b0_0, ur51_b0_0, g52, he187_2, he187_3, he187_6, rfl, leJ187, hfr50_0, hfr51_b0_0, hS52⟩)
          ·
           rcases Bool.eq_false_or_eq_true (D187 7) with hb196 | hb196
           ·exact False.elim (hJ187 true true false false true false hb188 hb189 hb190 hb194 hb196 hD187)
           ·obtain ⟨FJ187, ur49_b0_0, ur50_0, ur50_b0_0, he187_2, he187_3, leJ187, hfr50_0, hfr50_b0_0, hSJ187⟩ := (hJ187 true true false false false false hb188 hb189 hb190 hb194 hb196 hD187);refine W_alc (cs := [strV [], .int .i64 0, .slice none 0 0]) rfl Ty.zero51 rfl hSJ187 ?_;intro g52 w52 hS52;refine W_nil ?_;exact N_stepJ rfl (fun u (hu : (none : Option Value) = some u) => by cases hu) (fun b2 b3 b4 b6 b7 b8 h2 h3 h4 h6 h7 h8 => by obtain rfl : b2 = true := h2.symm.trans hb188; obtain rfl : b3 = true := h3.symm.trans hb189; obtain rfl : b4 = false := h4.symm.trans hb190; obtain rfl : b6 = false := h6.symm.trans hb194; obtain rfl : b7 = false := h7.symm.trans hb196; obtain rfl : b8 = true := h8.symm; exact ⟨FJ187, ur49_b0_0, ur50_0, ur50_b0_0, g52, he187_2, he187_3, rfl, leJ187, hfr50_0, hfr50_b0_0, hS52⟩)
        ·
         rcases Bool.eq_false_or_eq_true (D187 4) with hb197 | hb197
         ·
          rcases Bool.eq_false_or_eq_true (D187 6) with hb198 | hb198
          ·
           rcases Bool.eq_false_or_eq_true (D187 7) with hb199 | hb199
           ·exact False.elim (hJ187 true false true true true false hb188 hb189 hb197 hb198 hb199 hD187)
           ·exact False.elim (hJ187 true false true true false false hb188 hb189 hb197 hb198 hb199 hD187)
          ·
           rcases Bool.eq_false_or_eq_true (D187 7) with hb200 | hb200
           ·exact False.elim (hJ187 true false true false true false hb188 hb189 hb197 hb198 hb200 hD187)
           ·exact False.elim (hJ187 true false true false false false hb188 hb189 hb197 hb198 hb200 hD187)
         ·
          rcases Bool.eq_false_or_eq_true (D187 6) with hb201 | hb201
          ·
           rcases Bool.eq_false_or_eq_true (D187 7) with hb202 | hb202
           ·exact False.elim (hJ187 true false false true true false hb188 hb189 hb197 hb201 hb202 hD187)
           ·exact False.elim (hJ187 true false false true false false hb188 hb189 hb197 hb201 hb202 hD187)
          ·
           rcases Bool.eq_false_or_eq_true (D187 7) with hb203 | hb203
           ·exact False.elim (hJ187 true false false false true false hb188 hb189 hb197 hb201 hb203 hD187)
           ·obtain ⟨FJ187, ur49_b0_0, he187_2, leJ187, hfr49_b0_0, hSJ187⟩ := (hJ187 true false false false false false hb188 hb189 hb197 hb201 hb203 hD187);refine W_alc (cs := [strV [], .int .i64 0, .slice none 0 0]) rfl Ty.zero51 rfl hSJ187 ?_;intro g52 w52 hS52;refine W_nil ?_;exact N_stepJ rfl (fun u (hu : (none : Option Value) = some u) => by cases hu) (fun b2 b3 b4 b6 b7 b8 h2 h3 h4 h6 h7 h8 => by obtain rfl : b2 = true := h2.symm.trans hb188; obtain rfl : b3 = false := h3.symm.trans hb189; obtain rfl : b4 = false := h4.symm.trans hb197; obtain rfl : b6 = false := h6.symm.trans hb201; obtain rfl : b7 = false := h7.symm.trans hb203; obtain rfl : b8 = true := h8.symm; exact ⟨FJ187, ur49_b0_0, g52, he187_2, rfl, leJ187, hfr49_b0_0, hS52⟩)
       ·
        rcases Bool.eq_false_or_eq_true (D187 3) with hb204 | hb204
        ·
         rcases Bool.eq_false_or_eq_true (D187 4) with hb205 | hb205
         ·
          rcases Bool.eq_false_or_eq_true (D187 6) with hb206 | hb206
          ·
           rcases Bool.eq_false_or_eq_true (D187 7) with hb207 | hb207
           ·exact False.elim (hJ187 false true true true true false hb188 hb204 hb205 hb206 hb207 hD187)
           ·exact False.elim (hJ187 false true true true false false hb188 hb204 hb205 hb206 hb207 hD187)
          ·
           rcases Bool.eq_false_or_eq_true (D187 7) with hb208 | hb208
           ·exact False.elim (hJ187 false true true false true false hb188 hb204 hb205 hb206 hb208 hD187)
           ·exact False.elim (hJ187 false true true false false false hb188 hb204 hb205 hb206 hb208 hD187)
         ·
          rcases Bool.eq_false_or_eq_true (D187 6) with hb209 | hb209
          ·
           rcases Bool.eq_false_or_eq_true (D187 7) with hb210 | hb210
           ·exact False.elim (hJ187 false true false true true false hb188 hb204 hb205 hb209 hb210 hD187)
           ·exact False.elim (hJ187 false true false true false false hb188 hb204 hb205 hb209 hb210 hD187)
          ·
           rcases Bool.eq_false_or_eq_true (D187 7) with hb211 | hb211
           ·exact False.elim (hJ187 false true false false true false hb188 hb204 hb205 hb209 hb211 hD187)
           ·exact False.elim (hJ187 false true false false false false hb188 hb204 hb205 hb209 hb211 hD187)
        ·
         rcases Bool.eq_false_or_eq_true (D187 4) with hb212 | hb212
         ·
          rcases Bool.eq_false_or_eq_true (D187 6) with hb213 | hb213
          ·
           rcases Bool.eq_false_or_eq_true (D187 7) with hb214 | hb214
           ·exact False.elim (hJ187 false false true true true false hb188 hb204 hb212 hb213 hb214 hD187)
           ·exact False.elim (hJ187 false false true true false false hb188 hb204 hb212 hb213 hb214 hD187)
          ·
           rcases Bool.eq_false_or_eq_true (D187 7) with hb215 | hb215
           ·exact False.elim (hJ187 false false true false true false hb188 hb204 hb212 hb213 hb215 hD187)
           ·exact False.elim (hJ187 false false true false false false hb188 hb204 hb212 hb213 hb215 hD187)
         ·
          rcases Bool.eq_false_or_eq_true (D187 6) with hb216 | hb216
          ·
           rcases Bool.eq_false_or_eq_true (D187 7) with hb217 | hb217
           ·exact False.elim (hJ187 false false false true true false hb188 hb204 hb212 hb216 hb217 hD187)
           ·exact False.elim (hJ187 false false false true false false hb188 hb204 hb212 hb216 hb217 hD187)
          ·
           rcases Bool.eq_false_or_eq_true (D187 7) with hb218 | hb218
           ·exact False.elim (hJ187 false false false false true false hb188 hb204 hb212 hb216 hb218 hD187)
           ·obtain ⟨FJ187, leJ187, hSJ187⟩ := (hJ187 false false false false false false hb188 hb204 hb212 hb216 hb218 hD187);refine W_alc (cs := [strV [], .int .i64 0, .slice none 0 0]) rfl Ty.zero51 rfl hSJ187 ?_;intro g52 w52 hS52;refine W_nil ?_;exact N_stepJ rfl (fun u (hu : (none : Option Value) = some u) => by cases hu) (fun b2 b3 b4 b6 b7 b8 h2 h3 h4 h6 h7 h8 => by obtain rfl : b2 = false := h2.symm.trans hb188; obtain rfl : b3 = false := h3.symm.trans hb204; obtain rfl : b4 = false := h4.symm.trans hb212; obtain rfl : b6 = false := h6.symm.trans hb216; obtain rfl : b7 = false := h7.symm.trans hb218; obtain rfl : b8 = true := h8.symm; exact ⟨FJ187, g52, rfl, leJ187, hS52⟩)
     intro w219 vq219 D219 hA219 hJ219;obtain ⟨FJ219, ur49_b0_0, ur50_0, ur50_b0_0, ur51_b0_0, g52, he219_2, he219_3, he219_4, he219_6, he219_7, he219_8, leJ219, hfr50_0, hfr51_b0_0, hSJ219⟩ := (hJ219 true true true true true true (hA219 2 (by decide)) (hA219 3 (by decide)) (hA219 4 (by decide)) (hA219 6 (by decide)) (hA219 7 (by decide)) (hA219 8 (by decide)));refine W_eqv (t := 22) rfl he219_2 ?_;refine W_eqv (t := 23) rfl he219_3 ?_;refine W_eqv (t := 24) rfl he219_4 ?_;refine W_eqv (t := 26) rfl he219_6 ?_;refine W_eqv (t := 27) rfl he219_7 ?_;refine W_eqv (t := 6) rfl he219_8 ?_;refine W_bst (c := [strV r50.1, .int .i64 r51.1, .slice none 0 0]) 0 ([strV r50.1, .int .i64 r51.1, .slice none 0 0]) rfl rfl hSJ219 rfl rfl Ty.size51 (fun y hy => Part.t.one (F := FJ219) (x := (Part.mk r50.1 r51.1 [])) ⟨.slice none 0 0, rfl, (SlF.nil _)⟩ y hy) (Nat.le_of_ble_eq_true rfl) rfl ?_;intro w220 hS220;refine W_nil ?_;refine N_code ?_;refine C_seq_join (fun E wq => ∃ l222 : List (List UInt8), ∃ l225 : List UInt8, ∃ b228 : Bool, manifest_Read.k4 r5 i31 l36 rec39 r50 r51 l222 l225 b228 = some r ∧ ∃ (F221 : Frz) (u223 : Value) (u226 : Value), E = [(2, pl g1 0), (4, pl g2 0), (5, pl g6 0), (6, pl g52 0), (17, .int .i64 r28.1), (18, .int .i64 i31)] ∧ FJ219.le F221 ∧ SlF tB F221 u226 l225 ∧ St [] w F F221 [.box g52 51 [strV r50.1, .int .i64 r51.1, u223], .box g2 106 [u226, .bool b228], .box g6 45 [strV r5.1, u37], .box g1 45 [strV [], .slice none 0 0], .row Part.t 51 u37 l36, .row tId 57 u223 l222] wq) ?_ ?_
     ·refine C_seq ?_;obtain ⟨r235, hr235, H⟩ := bd_some H;refine C_region ?_;refine W_move rfl rfl ?_;refine W_call rfl Ty.named80 rfl (manifest_reader_num_fz_ok (x0 := r51.2) (x1 := 1) (hS220.lendL [1] (by decide)) hfr51_b0_0 hr235) ?_;rintro v236 w236 ⟨Fr235, ur235_b0_0, rfl, hfr235_b0_0, hT236⟩;have hS236 := hS220.backL [1] [0, 2, 3, 4] (by decide) (by decide) hT236;have ler235 := hT236.ext;refine W_move rfl rfl ?_;refine W_nil ?_;refine N_code ?_;refine C_block ?_;refine C_loopM (fun (s : Int × (List UInt8) × Bool × (List (List UInt8))) E wq => ∃ (F237 : Frz) (u240 : Value) (u244 : Value), E = [(2, pl g1 0), (4, pl g2 0), (5, pl g6 0), (6, pl g52 0), (17, .int .i64 r28.1), (18, .int .i64 i31), (29, .int .i64 r235.1), (30, .int .i64 s.1)] ∧ Fr235.le F237 ∧ SlF tB F237 u240 s.2.1 ∧ St [] w F F237 [.box g2 106 [u240, .bool s.2.2.1], .box g52 51 [strV r50.1, .int .i64 r51.1, u244], .box g6 45 [strV r5.1, u37], .box g1 45 [strV [], .slice none 0 0], .row Part.t 51 u37 l36, .row tId 57 u244 s.2.2.2] wq) H ?_ ?_
      ·have hS317 := hS236.nilRow tId 57;exact ⟨_, ⟨Fr235, ur235_b0_0, (.slice none 0 0), rfl, (Frz.le.refl _), hfr235_b0_0, hS317.pick [1, 2, 3, 4, 5, 0] (by decide)⟩, ⟨rfl, rfl, rfl, rfl, rfl, rfl, rfl, rfl, trivial⟩⟩
      ·rintro rec246 ⟨i238, l239, b242, l243⟩ E w237 hI H;(try dsimp only at hI);obtain ⟨F237, u240, u244, rfl, le237, hx241, hS237⟩ := hI;dsimp only [manifest_Read.l5] at H;refine C_seq ?_;refine C_region ?_;refine W_lss rfl rfl rfl ?_;refine W_nil ?_;refine N_code ?_;refine C_seq ?_;refine C_cond rfl (fun hc247 => ?_) (fun hc247 => ?_)
       ·rw [if_t hc247] at H;refine C_skip ?_;refine N_code ?_;refine C_seq ?_;refine C_block ?_;obtain ⟨r248, hr248, H⟩ := bd_some H;obtain ⟨a249, ha249, H⟩ := bd_some H;have hla249 : a249.length = 32 := arr32_len ha249;obtain ⟨l251, hl251, H⟩ := bd_some H
        apply C_drawJ (fun D vs wz => ∀ (b3 b4 b5 b6 : Bool), D 3 = b3 → D 4 = b4 → D 5 = b5 → D 6 = b6 → match b3, b4, b5, b6 with | false, false, false, false => ∃ FJ : Frz, F237.le FJ ∧ St [] w F FJ [.box g2 106 [u240, .bool b242], .box g52 51 [strV r50.1, .int .i64 r51.1, u244], .box g6 45 [strV r5.1, u37], .box g1 45 [strV [], .slice none 0 0], .row Part.t 51 u37 l36, .row tId 57 u244 l243] wz | true, false, false, false => ∃ FJ : Frz, ∃ ur248_0 : Value, ∃ ur248_b0_0 : Value, vs 3 = ur248_0 ∧ F237.le FJ ∧ SlF tB FJ ur248_0 r248.1 ∧ SlF tB FJ ur248_b0_0 r248.2.b ∧ St [] w F FJ [.box g2 106 [ur248_b0_0, .bool r248.2.bad], .box g52 51 [strV r50.1, .int .i64 r51.1, u244], .box g6 45 [strV r5.1, u37], .box g1 45 [strV [], .slice none 0 0], .row Part.t 51 u37 l36, .row tId 57 u244 l243] wz | true, true, false, false => ∃ FJ : Frz, ∃ ur248_0 : Value, ∃ ur248_b0_0 : Value, vs 3 = ur248_0 ∧ vs 4 = elp ur248_0 0 ∧ F237.le FJ ∧ SlF tB FJ ur248_0 r248.1 ∧ SlF tB FJ ur248_b0_0 r248.2.b ∧ St [] w F FJ [.box g2 106 [ur248_b0_0, .bool r248.2.bad], .box g52 51 [strV r50.1, .int .i64 r51.1, u244], .box g6 45 [strV r5.1, u37], .box g1 45 [strV [], .slice none 0 0], .row Part.t 51 u37 l36, .row tId 57 u244 l243] wz | true, true, true, false => ∃ FJ : Frz, ∃ ur248_0 : Value, ∃ ur248_b0_0 : Value, vs 3 = ur248_0 ∧ vs 4 = elp ur248_0 0 ∧ vs 5 = .agg (idCells a249).toArray ∧ F237.le FJ ∧ SlF tB FJ ur248_0 r248.1 ∧ SlF tB FJ ur248_b0_0 r248.2.b ∧ (a249).length = 32 ∧ St [] w F FJ [.box g2 106 [ur248_b0_0, .bool r248.2.bad], .box g52 51 [strV r50.1, .int .i64 r51.1, u244], .box g6 45 [strV r5.1, u37], .box g1 45 [strV [], .slice none 0 0], .row Part.t 51 u37 l36, .row tId 57 u244 l243] wz | true, true, true, true => ∃ FJ : Frz, ∃ ur248_0 : Value, ∃ ur248_b0_0 : Value, ∃ u250 : Value, vs 3 = ur248_0 ∧ vs 4 = elp ur248_0 0 ∧ vs 5 = .agg (idCells a249).toArray ∧ vs 6 = u250 ∧ F237.le FJ ∧ SlF tB FJ ur248_0 r248.1 ∧ SlF tB FJ ur248_b0_0 r248.2.b ∧ (a249).length = 32 ∧ St [] w F FJ [.row tId 57 u250 [a249], .box g2 106 [ur248_b0_0, .bool r248.2.bad], .box g52 51 [strV r50.1, .int .i64 r51.1, u244], .box g6 45 [strV r5.1, u37], .box g1 45 [strV [], .slice none 0 0], .row Part.t 51 u37 l36, .row tId 57 u244 l243] wz | _, _, _, _ => False) 7 [[], [0], [], [2], [3], [4], [5]] [some (pl g52 (0 + 2)), some (u244), some (pl g2 0), none, none, none, none] Ty.mixed rfl (by kernel_rfl) (by kernel_rfl) rfl
        ·intro vq259 b3 b4 b5 b6 h3 h4 h5 h6;obtain rfl : b3 = false := h3.symm;obtain rfl : b4 = false := h4.symm;obtain rfl : b5 = false := h5.symm;obtain rfl : b6 = false := h6.symm;exact ⟨F237, (Frz.le.refl _), (hS237.below (below_drew _))⟩
        ·refine ⟨?_, ?_, ?_, ?_, ?_, ?_, ?_, trivial⟩
         ·intro w260 vq260 D260 hD260 hd260 hJ260
          rcases Bool.eq_false_or_eq_true (D260 3) with hb261 | hb261
          ·
           rcases Bool.eq_false_or_eq_true (D260 4) with hb262 | hb262
           ·
            rcases Bool.eq_false_or_eq_true (D260 5) with hb263 | hb263
            ·
             rcases Bool.eq_false_or_eq_true (D260 6) with hb264 | hb264
             ·obtain ⟨FJ260, ur248_0, ur248_b0_0, u250, he260_3, he260_4, he260_5, he260_6, leJ260, hfr248_0, hfr248_b0_0, hla249, hSJ260⟩ := (hJ260 true true true true hb261 hb262 hb263 hb264);refine W_field_pl 2 rfl Ty.field51_2 rfl ?_;refine W_nil ?_;exact N_stepJ rfl (fun u hu => Option.some.inj hu) (fun b3 b4 b5 b6 h3 h4 h5 h6 => by obtain rfl : b3 = true := h3.symm.trans hb261; obtain rfl : b4 = true := h4.symm.trans hb262; obtain rfl : b5 = true := h5.symm.trans hb263; obtain rfl : b6 = true := h6.symm.trans hb264; exact ⟨FJ260, ur248_0, ur248_b0_0, u250, he260_3, he260_4, he260_5, he260_6, leJ260, hfr248_0, hfr248_b0_0, hla249, hSJ260⟩)
             ·obtain ⟨FJ260, ur248_0, ur248_b0_0, he260_3, he260_4, he260_5, leJ260, hfr248_0, hfr248_b0_0, hla249, hSJ260⟩ := (hJ260 true true true false hb261 hb262 hb263 hb264);refine W_field_pl 2 rfl Ty.field51_2 rfl ?_;refine W_nil ?_;exact N_stepJ rfl (fun u hu => Option.some.inj hu) (fun b3 b4 b5 b6 h3 h4 h5 h6 => by obtain rfl : b3 = true := h3.symm.trans hb261; obtain rfl : b4 = true := h4.symm.trans hb262; obtain rfl : b5 = true := h5.symm.trans hb263; obtain rfl : b6 = false := h6.symm.trans hb264; exact ⟨FJ260, ur248_0, ur248_b0_0, he260_3, he260_4, he260_5, leJ260, hfr248_0, hfr248_b0_0, hla249, hSJ260⟩)
            ·
             rcases Bool.eq_false_or_eq_true (D260 6) with hb265 | hb265
             ·exact False.elim (hJ260 true true false true hb261 hb262 hb263 hb265)
             ·obtain ⟨FJ260, ur248_0, ur248_b0_0, he260_3, he260_4, leJ260, hfr248_0, hfr248_b0_0, hSJ260⟩ := (hJ260 true true false false hb261 hb262 hb263 hb265);refine W_field_pl 2 rfl Ty.field51_2 rfl ?_;refine W_nil ?_;exact N_stepJ rfl (fun u hu => Option.some.inj hu) (fun b3 b4 b5 b6 h3 h4 h5 h6 => by obtain rfl : b3 = true := h3.symm.trans hb261; obtain rfl : b4 = true := h4.symm.trans hb262; obtain rfl : b5 = false := h5.symm.trans hb263; obtain rfl : b6 = false := h6.symm.trans hb265; exact ⟨FJ260, ur248_0, ur248_b0_0, he260_3, he260_4, leJ260, hfr248_0, hfr248_b0_0, hSJ260⟩)
           ·
            rcases Bool.eq_false_or_eq_true (D260 5) with hb266 | hb266
            ·
             rcases Bool.eq_false_or_eq_true (D260 6) with hb267 | hb267
             ·exact False.elim (hJ260 true false true true hb261 hb262 hb266 hb267)
             ·exact False.elim (hJ260 true false true false hb261 hb262 hb266 hb267)
            ·
             rcases Bool.eq_false_or_eq_true (D260 6) with hb268 | hb268
             ·exact False.elim (hJ260 true false false true hb261 hb262 hb266 hb268)
             ·obtain ⟨FJ260, ur248_0, ur248_b0_0, he260_3, leJ260, hfr248_0, hfr248_b0_0, hSJ260⟩ := (hJ260 true false false false hb261 hb262 hb266 hb268);refine W_field_pl 2 rfl Ty.field51_2 rfl ?_;refine W_nil ?_;exact N_stepJ rfl (fun u hu => Option.some.inj hu) (fun b3 b4 b5 b6 h3 h4 h5 h6 => by obtain rfl : b3 = true := h3.symm.trans hb261; obtain rfl : b4 = false := h4.symm.trans hb262; obtain rfl : b5 = false := h5.symm.trans hb266; obtain rfl : b6 = false := h6.symm.trans hb268; exact ⟨FJ260, ur248_0, ur248_b0_0, he260_3, leJ260, hfr248_0, hfr248_b0_0, hSJ260⟩)
          ·
           rcases Bool.eq_false_or_eq_true (D260 4) with hb269 | hb269
           ·
            rcases Bool.eq_false_or_eq_true (D260 5) with hb270 | hb270
            ·
             rcases Bool.eq_false_or_eq_true (D260 6) with hb271 | hb271
             ·exact False.elim (hJ260 false true true true hb261 hb269 hb270 hb271)
             ·exact False.elim (hJ260 false true true false hb261 hb269 hb270 hb271)
            ·
             rcases Bool.eq_false_or_eq_true (D260 6) with hb272 | hb272
             ·exact False.elim (hJ260 false true false true hb261 hb269 hb270 hb272)
             ·exact False.elim (hJ260 false true false false hb261 hb269 hb270 hb272)
           ·
            rcases Bool.eq_false_or_eq_true (D260 5) with hb273 | hb273
            ·
             rcases Bool.eq_false_or_eq_true (D260 6) with hb274 | hb274
             ·exact False.elim (hJ260 false false true true hb261 hb269 hb273 hb274)
             ·exact False.elim (hJ260 false false true false hb261 hb269 hb273 hb274)
            ·
             rcases Bool.eq_false_or_eq_true (D260 6) with hb275 | hb275
             ·exact False.elim (hJ260 false false false true hb261 hb269 hb273 hb275)
             ·obtain ⟨FJ260, leJ260, hSJ260⟩ := (hJ260 false false false false hb261 hb269 hb273 hb275);refine W_field_pl 2 rfl Ty.field51_2 rfl ?_;refine W_nil ?_;exact N_stepJ rfl (fun u hu => Option.some.inj hu) (fun b3 b4 b5 b6 h3 h4 h5 h6 => by obtain rfl : b3 = false := h3.symm.trans hb261; obtain rfl : b4 = false := h4.symm.trans hb269; obtain rfl : b5 = false := h5.symm.trans hb273; obtain rfl : b6 = false := h6.symm.trans hb275; exact ⟨FJ260, leJ260, hSJ260⟩)
         ·intro w276 vq276 D276 hD276 hd276 hJ276
          rcases Bool.eq_false_or_eq_true (D276 3) with hb277 | hb277
          ·
           rcases Bool.eq_false_or_eq_true (D276 4) with hb278 | hb278
           ·
            rcases Bool.eq_false_or_eq_true (D276 5) with hb279 | hb279
            ·
             rcases Bool.eq_false_or_eq_true (D276 6) with hb280 | hb280
             ·obtain ⟨FJ276, ur248_0, ur248_b0_0, u250, he276_3, he276_4, he276_5, he276_6, leJ276, hfr248_0, hfr248_b0_0, hla249, hSJ276⟩ := (hJ276 true true true true hb277 hb278 hb279 hb280);refine W_bld1 2 rfl Ty.cell49 rfl hSJ276 rfl rfl ?_;refine W_nil ?_;exact N_stepJ rfl (fun u hu => Option.some.inj hu) (fun b3 b4 b5 b6 h3 h4 h5 h6 => by obtain rfl : b3 = true := h3.symm.trans hb277; obtain rfl : b4 = true := h4.symm.trans hb278; obtain rfl : b5 = true := h5.symm.trans hb279; obtain rfl : b6 = true := h6.symm.trans hb280; exact ⟨FJ276, ur248_0, ur248_b0_0, u250, he276_3, he276_4, he276_5, he276_6, leJ276, hfr248_0, hfr248_b0_0, hla249, hSJ276⟩)
             ·obtain ⟨FJ276, ur248_0, ur248_b0_0, he276_3, he276_4, he276_5, leJ276, hfr248_0, hfr248_b0_0, hla249, hSJ276⟩ := (hJ276 true true true false hb277 hb278 hb279 hb280);refine W_bld1 1 rfl Ty.cell49 rfl hSJ276 rfl rfl ?_;refine W_nil ?_;exact N_stepJ rfl (fun u hu => Option.some.inj hu) (fun b3 b4 b5 b6 h3 h4 h5 h6 => by obtain rfl : b3 = true := h3.symm.trans hb277; obtain rfl : b4 = true := h4.symm.trans hb278; obtain rfl : b5 = true := h5.symm.trans hb279; obtain rfl : b6 = false := h6.symm.trans hb280; exact ⟨FJ276, ur248_0, ur248_b0_0, he276_3, he276_4, he276_5, leJ276, hfr248_0, hfr248_b0_0, hla249, hSJ276⟩)
            ·
             rcases Bool.eq_false_or_eq_true (D276 6) with hb281 | hb281
             ·exact False.elim (hJ276 true true false true hb277 hb278 hb279 hb281)
             ·obtain ⟨FJ276, ur248_0, ur248_b0_0, he276_3, he276_4, leJ276, hfr248_0, hfr248_b0_0, hSJ276⟩ := (hJ276 true true false false hb277 hb278 hb279 hb281);refine W_bld1 1 rfl Ty.cell49 rfl hSJ276 rfl rfl ?_;refine W_nil ?_;exact N_stepJ rfl (fun u hu => Option.some.inj hu) (fun b3 b4 b5 b6 h3 h4 h5 h6 => by obtain rfl : b3 = true := h3.symm.trans hb277; obtain rfl : b4 = true := h4.symm.trans hb278; obtain rfl : b5 = false := h5.symm.trans hb279; obtain rfl : b6 = false := h6.symm.trans hb281; exact ⟨FJ276, ur248_0, ur248_b0_0, he276_3, he276_4, leJ276, hfr248_0, hfr248_b0_0, hSJ276⟩)
           ·
            rcases Bool.eq_false_or_eq_true (D276 5) with hb282 | hb282
            ·
             rcases Bool.eq_false_or_eq_true (D276 6) with hb283 | hb283
             ·exact False.elim (hJ276 true false true true hb277 hb278 hb282 hb283)
             ·exact False.elim (hJ276 true false true false hb277 hb278 hb282 hb283)
            ·
             rcases Bool.eq_false_or_eq_true (D276 6) with hb284 | hb284
             ·exact False.elim (hJ276 true false false true hb277 hb278 hb282 hb284)
             ·obtain ⟨FJ276, ur248_0, ur248_b0_0, he276_3, leJ276, hfr248_0, hfr248_b0_0, hSJ276⟩ := (hJ276 true false false false hb277 hb278 hb282 hb284);refine W_bld1 1 rfl Ty.cell49 rfl hSJ276 rfl rfl ?_;refine W_nil ?_;exact N_stepJ rfl (fun u hu => Option.some.inj hu) (fun b3 b4 b5 b6 h3 h4 h5 h6 => by obtain rfl : b3 = true := h3.symm.trans hb277; obtain rfl : b4 = false := h4.symm.trans hb278; obtain rfl : b5 = false := h5.symm.trans hb282; obtain rfl : b6 = false := h6.symm.trans hb284; exact ⟨FJ276, ur248_0, ur248_b0_0, he276_3, leJ276, hfr248_0, hfr248_b0_0, hSJ276⟩)
          ·
           rcases Bool.eq_false_or_eq_true (D276 4) with hb285 | hb285
           ·
            rcases Bool.eq_false_or_eq_true (D276 5) with hb286 | hb286
            ·
             rcases Bool.eq_false_or_eq_true (D276 6) with hb287 | hb287
             ·exact False.elim (hJ276 false true true true hb277 hb285 hb286 hb287)
             ·exact False.elim (hJ276 false true true false hb277 hb285 hb286 hb287)
            ·
             rcases Bool.eq_false_or_eq_true (D276 6) with hb288 | hb288
             ·exact False.elim (hJ276 false true false true hb277 hb285 hb286 hb288)
             ·exact False.elim (hJ276 false true false false hb277 hb285 hb286 hb288)
           ·
            rcases Bool.eq_false_or_eq_true (D276 5) with hb289 | hb289
            ·
             rcases Bool.eq_false_or_eq_true (D276 6) with hb290 | hb290
             ·exact False.elim (hJ276 false false true true hb277 hb285 hb289 hb290)
             ·exact False.elim (hJ276 false false true false hb277 hb285 hb289 hb290)
            ·
             rcases Bool.eq_false_or_eq_true (D276 6) with hb291 | hb291
             ·exact False.elim (hJ276 false false false true hb277 hb285 hb289 hb291)
             ·obtain ⟨FJ276, leJ276, hSJ276⟩ := (hJ276 false false false false hb277 hb285 hb289 hb291);refine W_bld1 1 rfl Ty.cell49 rfl hSJ276 rfl rfl ?_;refine W_nil ?_;exact N_stepJ rfl (fun u hu => Option.some.inj hu) (fun b3 b4 b5 b6 h3 h4 h5 h6 => by obtain rfl : b3 = false := h3.symm.trans hb277; obtain rfl : b4 = false := h4.symm.trans hb285; obtain rfl : b5 = false := h5.symm.trans hb289; obtain rfl : b6 = false := h6.symm.trans hb291; exact ⟨FJ276, leJ276, hSJ276⟩)
         ·intro w292 vq292 D292 hD292 hd292 hJ292;refine W_move rfl rfl ?_;refine W_nil ?_;exact N_stepJ rfl (fun u hu => Option.some.inj hu) hJ292
         ·intro w293 vq293 D293 hD293 hd293 hJ293
          rcases Bool.eq_false_or_eq_true (D293 4) with hb294 | hb294
          ·
           rcases Bool.eq_false_or_eq_true (D293 5) with hb295 | hb295
           ·
            rcases Bool.eq_false_or_eq_true (D293 6) with hb296 | hb296
            ·exact False.elim (hJ293 false true true true hD293 hb294 hb295 hb296)
            ·exact False.elim (hJ293 false true true false hD293 hb294 hb295 hb296)
           ·
            rcases Bool.eq_false_or_eq_true (D293 6) with hb297 | hb297
            ·exact False.elim (hJ293 false true false true hD293 hb294 hb295 hb297)
            ·exact False.elim (hJ293 false true false false hD293 hb294 hb295 hb297)
          ·
           rcases Bool.eq_false_or_eq_true (D293 5) with hb298 | hb298
           ·
            rcases Bool.eq_false_or_eq_true (D293 6) with hb299 | hb299
            ·exact False.elim (hJ293 false false true true hD293 hb294 hb298 hb299)
            ·exact False.elim (hJ293 false false true false hD293 hb294 hb298 hb299)
           ·
            rcases Bool.eq_false_or_eq_true (D293 6) with hb300 | hb300
            ·exact False.elim (hJ293 false false false true hD293 hb294 hb298 hb300)
            ·obtain ⟨FJ293, leJ293, hSJ293⟩ := (hJ293 false false false false hD293 hb294 hb298 hb300);refine W_call rfl Ty.named79 rfl (manifest_reader_take_fz_ok (x0 := (ManifestReader.mk l239 b242)) (x1 := 32) (hSJ293.lendL [0] (by decide)) (hx241.mono leJ293) hr248) ?_;rintro ur248_0 w301 ⟨Fr248, _, ur248_b0_0, rfl, hfr248_0, hfr248_b0_0, hT301⟩;have hS301 := hSJ293.backL [0] [1, 2, 3, 4, 5] (by decide) (by decide) hT301;have ler248 := hT301.ext;refine W_nil ?_;exact N_stepJ rfl (fun u (hu : (none : Option Value) = some u) => by cases hu) (fun b3 b4 b5 b6 h3 h4 h5 h6 => by obtain rfl : b3 = true := h3.symm; obtain rfl : b4 = false := h4.symm.trans hb294; obtain rfl : b5 = false := h5.symm.trans hb298; obtain rfl : b6 = false := h6.symm.trans hb300; exact ⟨Fr248, ur248_0, ur248_b0_0, rfl, (leJ293.trans ler248), hfr248_0, hfr248_b0_0, hS301⟩)
         ·intro w302 vq302 D302 hD302 hd302 hJ302
          rcases Bool.eq_false_or_eq_true (D302 5) with hb303 | hb303
          ·
           rcases Bool.eq_false_or_eq_true (D302 6) with hb304 | hb304
           ·exact False.elim (hJ302 true false true true (hd302 3 (by decide)) hD302 hb303 hb304)
           ·exact False.elim (hJ302 true false true false (hd302 3 (by decide)) hD302 hb303 hb304)
          ·
           rcases Bool.eq_false_or_eq_true (D302 6) with hb305 | hb305
           ·exact False.elim (hJ302 true false false true (hd302 3 (by decide)) hD302 hb303 hb305)
           ·obtain ⟨FJ302, ur248_0, ur248_b0_0, he302_3, leJ302, hfr248_0, hfr248_b0_0, hSJ302⟩ := (hJ302 true false false false (hd302 3 (by decide)) hD302 hb303 hb305);refine W_eqv (t := 35) rfl he302_3 ?_;refine W_s2a rfl Try.underlying57 rfl (hfr248_0.src hSJ302.agree) ha249 ?_;refine W_nil ?_;exact N_stepJ rfl (fun u (hu : (none : Option Value) = some u) => by cases hu) (fun b3 b4 b5 b6 h3 h4 h5 h6 => by obtain rfl : b3 = true := h3.symm.trans (hd302 3 (by decide)); obtain rfl : b4 = true := h4.symm; obtain rfl : b5 = false := h5.symm.trans hb303; obtain rfl : b6 = false := h6.symm.trans hb305; exact ⟨FJ302, ur248_0, ur248_b0_0, he302_3, rfl, leJ302, hfr248_0, hfr248_b0_0, hSJ302⟩)
         ·intro w306 vq306 D306 hD306 hd306 hJ306
          rcases Bool.eq_false_or_eq_true (D306 3) with hb307 | hb307
          ·
           rcases Bool.eq_false_or_eq_true (D306 6) with hb308 | hb308
           ·exact False.elim (hJ306 true true false true hb307 (hd306 4 (by decide)) hD306 hb308)
           ·obtain ⟨FJ306, ur248_0, ur248_b0_0, he306_3, he306_4, leJ306, hfr248_0, hfr248_b0_0, hSJ306⟩ := (hJ306 true true false false hb307 (hd306 4 (by decide)) hD306 hb308);refine W_eqv (t := 36) rfl he306_4 ?_;refine W_lda rfl Ty.agg57 Ty.size57 rfl (hfr248_0.src hSJ306.agree) ha249 ?_;refine W_nil ?_;exact N_stepJ rfl (fun u (hu : (none : Option Value) = some u) => by cases hu) (fun b3 b4 b5 b6 h3 h4 h5 h6 => by obtain rfl : b3 = true := h3.symm.trans hb307; obtain rfl : b4 = true := h4.symm.trans (hd306 4 (by decide)); obtain rfl : b5 = true := h5.symm; obtain rfl : b6 = false := h6.symm.trans hb308; exact ⟨FJ306, ur248_0, ur248_b0_0, he306_3, he306_4, rfl, leJ306, hfr248_0, hfr248_b0_0, hla249, hSJ306⟩)
          ·
           rcases Bool.eq_false_or_eq_true (D306 6) with hb309 | hb309
           ·exact False.elim (hJ306 false true false true hb307 (hd306 4 (by decide)) hD306 hb309)
           ·exact False.elim (hJ306 false true false false hb307 (hd306 4 (by decide)) hD306 hb309)
         ·intro w310 vq310 D310 hD310 hd310 hJ310
          rcases Bool.eq_false_or_eq_true (D310 3) with hb311 | hb311
          ·
           rcases Bool.eq_false_or_eq_true (D310 4) with hb312 | hb312
           ·obtain ⟨FJ310, ur248_0, ur248_b0_0, he310_3, he310_4, he310_5, leJ310, hfr248_0, hfr248_b0_0, hla249, hSJ310⟩ := (hJ310 true true true false hb311 hb312 (hd310 5 (by decide)) hD310);refine W_eqv (t := 37) rfl he310_5 ?_;refine W_bs (t := tId) [(idCells a249)] [a249] rfl Try.underlying49 Ty.cells57 rfl rfl Ty.zero57 rfl rfl ⟨⟨rfl, hla249⟩, trivial⟩ rfl rfl hSJ310 ?_;intro u250 w250 hS250;refine W_nil ?_;exact N_stepJ rfl (fun u (hu : (none : Option Value) = some u) => by cases hu) (fun b3 b4 b5 b6 h3 h4 h5 h6 => by obtain rfl : b3 = true := h3.symm.trans hb311; obtain rfl : b4 = true := h4.symm.trans hb312; obtain rfl : b5 = true := h5.symm.trans (hd310 5 (by decide)); obtain rfl : b6 = true := h6.symm; exact ⟨FJ310, ur248_0, ur248_b0_0, u250, he310_3, he310_4, he310_5, rfl, leJ310, hfr248_0, hfr248_b0_0, hla249, hS250⟩)
           ·exact False.elim (hJ310 true false true false hb311 hb312 (hd310 5 (by decide)) hD310)
          ·
           rcases Bool.eq_false_or_eq_true (D310 4) with hb313 | hb313
           ·exact False.elim (hJ310 false true true false hb311 hb313 (hd310 5 (by decide)) hD310)
           ·exact False.elim (hJ310 false false true false hb311 hb313 (hd310 5 (by decide)) hD310)
        intro w314 vq314 D314 hA314 hJ314;obtain ⟨FJ314, ur248_0, ur248_b0_0, u250, he314_3, he314_4, he314_5, he314_6, leJ314, hfr248_0, hfr248_b0_0, hla249, hSJ314⟩ := (hJ314 true true true true (hA314 3 (by decide)) (hA314 4 (by decide)) (hA314 5 (by decide)) (hA314 6 (by decide)));refine W_eqv (t := 35) rfl he314_3 ?_;refine W_eqv (t := 36) rfl he314_4 ?_;refine W_eqv (t := 37) rfl he314_5 ?_;refine W_eqv (t := 38) rfl he314_6 ?_;refine W_appM 6 rfl Try.underlying49 Ty.row57 rfl rfl rfl rfl rfl hSJ314 rfl (hSJ314.rowSrc (j := 0) rfl) hl251 ?_;intro v252 w252 hS252;refine W_field_pl 2 rfl Ty.field51_2 rfl ?_;refine W_bst (c := [v252]) 2 ([strV r50.1, .int .i64 r51.1, v252]) rfl rfl hS252 rfl (by rw [(hS252.rowLn (k := 6) rfl).cells]) Ty.size49 (by intro y hy; simp at hy; subst hy; exact (hS252.rowLn (k := 6) rfl).one) (Nat.le_of_ble_eq_true rfl) rfl ?_;intro w315 hS315;refine W_nil ?_;refine N_block ?_;refine N_code ?_;refine C_region ?_;refine W_add rfl rfl rfl rfl ?_;refine W_move rfl rfl ?_;refine W_nil ?_;exact N_againM (wr (i238 + 1), r248.2.b, r248.2.bad, l251) _ H ⟨FJ314, ur248_b0_0, v252, rfl, (le237.trans leJ314), hfr248_b0_0, hS315.pick [1, 2, 3, 4, 5, 6] (by decide)⟩ ⟨rfl, rfl, rfl, rfl, rfl, rfl, rfl, rfl, trivial⟩
       ·rw [if_f hc247] at H;refine C_exit _ rfl ?_;exact N_join _ ⟨l243, l239, b242, H, ⟨F237, u244, u240, rfl, (ler235.trans le237), hx241, hS237.pick [1, 0, 2, 3, 4, 5] (by decide)⟩⟩ ⟨rfl, rfl, rfl, rfl, rfl, rfl, trivial⟩
     ·rintro E w221 ⟨l222, l225, b228, H, F221, u223, u226, rfl, le221, hx227, hS221⟩;dsimp only [manifest_Read.k4] at H;refine C_seq ?_;obtain ⟨l230, hl230, H⟩ := bd_some H;refine C_region ?_;refine W_field_pl 1 rfl Ty.field45_1 rfl ?_;refine W_bld1 2 rfl Ty.cell43 rfl hS221 rfl rfl ?_;refine W_bldg 0 ((Part.cells (Part.mk r50.1 r51.1 l222) u223)) rfl Ty.agg51 Ty.size51 rfl hS221 rfl (fun q u h => sub_at (post := []) rfl h) ?_;obtain ⟨F232, le232, hf232, hS232⟩ := hS221.freeze 5 [0, 1, 2, 3, 4] rfl (by decide) (by decide);refine W_bs (t := Part.t) [(Part.cells (Part.mk r50.1 r51.1 l222) u223)] [(Part.mk r50.1 r51.1 l222)] rfl Try.underlying43 Ty.cells51 rfl rfl Ty.zero51 rfl rfl ⟨⟨u223, rfl, hf232⟩, trivial⟩ rfl rfl hS232 ?_;intro u229 w229 hS229;refine W_appM 5 rfl Try.underlying43 Ty.row51 rfl rfl rfl rfl rfl hS229 rfl (hS229.rowSrc (j := 0) rfl) hl230 ?_;intro v231 w231 hS231;refine W_field_pl 1 rfl Ty.field45_1 rfl ?_;refine W_bst (c := [v231]) 3 ([strV r5.1, v231]) rfl rfl hS231 rfl (by rw [(hS231.rowLn (k := 5) rfl).cells]) Ty.size43 (by intro y hy; simp at hy; subst hy; exact (hS231.rowLn (k := 5) rfl).one) (Nat.le_of_ble_eq_true rfl) rfl ?_;intro w233 hS233;refine W_nil ?_;refine N_code ?_;refine C_seq ?_;refine C_region ?_;refine W_move rfl rfl ?_;refine W_nil_pl rfl rfl ?_;refine W_field_pl 1 rfl Ty.field106_1 rfl ?_;refine W_bld1 2 rfl Ty.cell4 rfl hS233 rfl rfl ?_;refine W_nil ?_;refine N_code ?_;refine C_cond rfl (fun hc234 => ?_) (fun hc234 => ?_)
      ·rw [if_t hc234] at H;refine C_exit _ rfl ?_;exact N_join _ ⟨l230, l225, b228, H, ⟨F232, v231, u226, rfl, ((((ler28.trans le30).trans leJ219).trans le221).trans le232), (hx227.mono le232), hS233.pick [3, 2, 4, 5] (by decide)⟩⟩ ⟨rfl, rfl, rfl, trivial⟩
      ·rw [if_f hc234] at H;refine C_skip ?_;refine N_block ?_;exact N_join _ ⟨l225, b228, l230, H, ⟨F232, u226, v231, rfl, ((leJ219.trans le221).trans le232), (hx227.mono le232), hS233.pick [2, 3, 4, 5] (by decide)⟩⟩ ⟨rfl, rfl, rfl, rfl, rfl, trivial⟩
    ·rintro E w41 ⟨l42, b45, l46, H, F41, u43, u47, rfl, le41, hx44, hS41⟩;dsimp only [manifest_Read.k3] at H;refine C_region ?_;refine W_add rfl rfl rfl rfl ?_;refine W_move rfl rfl ?_;refine W_nil ?_;exact N_againM (wr (i31 + 1), l42, b45, l46) _ H ⟨F41, u43, u47, rfl, (le30.trans le41), hx44, hS41⟩ ⟨rfl, rfl, rfl, rfl, rfl, trivial⟩
   ·rw [if_f hc40] at H;refine C_exit _ rfl ?_;exact N_join _ ⟨l36, l32, b35, H, ⟨F30, u37, u33, rfl, (ler28.trans le30), hx34, hS30.pick [1, 0, 2, 3] (by decide)⟩⟩ ⟨rfl, rfl, rfl, trivial⟩
 ·rintro E w10 ⟨l11, l14, b17, H, F10, u12, u15, rfl, le10, hx16, hS10⟩;dsimp only [manifest_Read.k1] at H;refine C_seq ?_;refine C_seq ?_;obtain ⟨r18, hr18, H⟩ := bd_some H;refine C_join (fun E wq => E = [(2, pl g1 0), (5, pl g6 0), (69, .bool ((b17 || decide (0 < (l14.length : Int))) || decide (r18 ≠ 0)))] ∧ ∃ F19 : Frz, F10.le F19 ∧ St [] w F F19 [.box g6 45 [strV r5.1, u12], .box g2 106 [u15, .bool b17], .box g1 45 [strV [], .slice none 0 0], .row Part.t 51 u12 l11] wq) ?_ ?_
  ·
   rcases Bool.eq_false_or_eq_true b17 with hb20 | hb20
   ·refine C_region ?_;refine W_move rfl rfl ?_;refine W_nil_pl rfl rfl ?_;refine W_field_pl 1 rfl Ty.field106_1 rfl ?_;refine W_bld1 1 rfl Ty.cell4 rfl hS10 rfl rfl ?_;refine W_move rfl rfl ?_;refine W_known (t := 57) true rfl hb20 ?_;refine W_guard_no rfl rfl rfl rfl rfl ?_;refine W_guard_no rfl rfl rfl rfl rfl ?_;refine W_guard_no rfl rfl rfl rfl rfl ?_;refine W_guard_no rfl rfl rfl rfl rfl ?_;refine W_guard_no rfl rfl rfl rfl rfl ?_;refine W_guard_no rfl rfl rfl rfl rfl ?_;refine W_pick_t rfl rfl rfl ?_;refine W_move rfl rfl ?_;refine W_guard_no rfl rfl rfl rfl rfl ?_;refine W_guard_no rfl rfl rfl rfl rfl ?_;refine W_guard_no rfl rfl rfl rfl rfl ?_;refine W_pick_t rfl rfl rfl ?_;refine W_nil ?_;exact N_join _ ⟨rfl, F10, (Frz.le.refl _), hS10⟩ ⟨rfl, rfl, (look_bool rfl (by first | rfl | (rw [hb20]; first | done | rfl) | simp [hb20])), trivial⟩
   ·
    rcases Bool.eq_false_or_eq_true (decide (0 < (l14.length : Int))) with hb21 | hb21
    ·refine C_region ?_;refine W_move rfl rfl ?_;refine W_nil_pl rfl rfl ?_;refine W_field_pl 1 rfl Ty.field106_1 rfl ?_;refine W_bld1 1 rfl Ty.cell4 rfl hS10 rfl rfl ?_;refine W_move rfl rfl ?_;refine W_known (t := 57) false rfl hb20 ?_;refine W_guard_yes rfl ?_;refine W_move rfl rfl ?_;refine W_guard_yes rfl ?_;refine W_nil_pl rfl rfl ?_;refine W_guard_yes rfl ?_;refine W_field_pl 0 rfl Ty.field106_0 rfl ?_;refine W_guard_yes rfl ?_;refine W_bld1 1 rfl Ty.cell25 rfl hS10 rfl rfl ?_;refine W_guard_yes rfl ?_;refine W_lenv rfl Try.underlying25 rfl hx16.ln ?_;refine W_guard_yes rfl ?_;refine W_gtr rfl rfl rfl ?_;refine W_pick_f rfl rfl rfl ?_;refine W_move rfl rfl ?_;refine W_known (t := 65) true rfl hb21 ?_;refine W_guard_no rfl rfl rfl rfl rfl ?_;refine W_guard_no rfl rfl rfl rfl rfl ?_;refine W_guard_no rfl rfl rfl rfl rfl ?_;refine W_pick_t rfl rfl rfl ?_;refine W_nil ?_;exact N_join _ ⟨rfl, F10, (Frz.le.refl _), hS10⟩ ⟨rfl, rfl, (look_bool rfl (by first | rfl | (rw [hb21, hb20]; first | done | rfl) | simp [hb20, hb21])), trivial⟩
    ·refine C_region ?_;refine W_move rfl rfl ?_;refine W_nil_pl rfl rfl ?_;refine W_field_pl 1 rfl Ty.field106_1 rfl ?_;refine W_bld1 1 rfl Ty.cell4 rfl hS10 rfl rfl ?_;refine W_move rfl rfl ?_;refine W_known (t := 57) false rfl hb20 ?_;refine W_guard_yes rfl ?_;refine W_move rfl rfl ?_;refine W_guard_yes rfl ?_;refine W_nil_pl rfl rfl ?_;refine W_guard_yes rfl ?_;refine W_field_pl 0 rfl Ty.field106_0 rfl ?_;refine W_guard_yes rfl ?_;refine W_bld1 1 rfl Ty.cell25 rfl hS10 rfl rfl ?_;refine W_guard_yes rfl ?_;refine W_lenv rfl Try.underlying25 rfl hx16.ln ?_;refine W_guard_yes rfl ?_;refine W_gtr rfl rfl rfl ?_;refine W_pick_f rfl rfl rfl ?_;refine W_move rfl rfl ?_;refine W_known (t := 65) false rfl hb21 ?_;refine W_guard_yes rfl ?_;refine W_bldg 0 ((Manifest.cells (Manifest.mk r5.1 l11) u12)) rfl Ty.agg45 Ty.size45 rfl hS10 rfl (fun q u h => sub_at (post := []) rfl h) ?_;refine W_guard_yes rfl ?_;have hy22 := hr18;rw [only_t (by first | rfl | (rw [hb21, hb20]; first | done | rfl) | simp [hb20, hb21])] at hy22;refine W_call rfl Ty.named47 rfl (manifest_Check_ok (now_agree _) (hS10.rowNow (k := 3) rfl) hy22) ?_;rintro v23 w23 ⟨Fr18, rfl, hT23⟩;have hS23 := hS10.lent hT23;refine W_guard_yes rfl ?_;refine W_neq rfl rfl rfl ?_;refine W_pick_f rfl rfl rfl ?_;refine W_nil ?_;exact N_join _ ⟨rfl, F10, (Frz.le.refl _), hS23⟩ ⟨rfl, rfl, (look_bool rfl (by first | rfl | (rw [hb21, hb20]; first | done | rfl) | simp [hb20, hb21])), trivial⟩
  rintro E w19 ⟨rfl, F19, le19, hS19⟩;refine N_code ?_;refine C_cond rfl (fun hc24 => ?_) (fun hc24 => ?_)
  ·rw [if_t hc24] at H;refine C_seq ?_;refine C_region ?_;refine W_build (v := .agg (Manifest.cells (Manifest.mk [] []) (.slice none 0 0)).toArray) rfl rfl (fun _ => by kernel_rfl) ?_;refine W_bst (c := [strV [], .slice none 0 0]) 2 ([strV [], .slice none 0 0]) rfl rfl hS19 rfl rfl Ty.size45 (fun y hy => Manifest.t.one (F := F19) (x := (Manifest.mk [] [])) ⟨.slice none 0 0, rfl, (SlF.nil _)⟩ y hy) (Nat.le_of_ble_eq_true rfl) rfl ?_;intro w25 hS25;refine W_assign rfl rfl ?_;refine W_nil ?_;refine N_code ?_;obtain rfl := Option.some.inj H;refine C_retM (vs := [.agg (Manifest.cells (Manifest.mk [] []) (.slice none 0 0)).toArray, .int .i64 3]) rfl ⟨(box_out 2 Ty.agg45 Ty.size45 hS25 rfl rfl), rfl, trivial⟩ ?_;exact ⟨F19, .slice none 0 0, rfl, (SlF.nil _), hS25.pick [] (by decide)⟩
  ·rw [if_f hc24] at H;refine C_skip ?_;refine N_code ?_;refine C_seq ?_;refine C_region ?_;refine W_bldg 0 ((Manifest.cells (Manifest.mk r5.1 l11) u12)) rfl Ty.agg45 Ty.size45 rfl hS19 rfl (fun q u h => sub_at (post := []) rfl h) ?_;refine W_bst (c := [strV r5.1, u12]) 2 ([strV r5.1, u12]) rfl rfl hS19 rfl rfl Ty.size45 (by intro y hy; simp only [List.mem_append, List.mem_cons, List.not_mem_nil, or_false, or_assoc] at hy; rcases hy with hy | hy <;> first | (subst hy; rfl) | (subst hy; exact (hS19.rowLn (k := 3) rfl).one)) (Nat.le_of_ble_eq_true rfl) rfl ?_;intro w26 hS26;refine W_assign rfl rfl ?_;refine W_nil ?_;refine N_code ?_;obtain ⟨F27, le27, hf27, hS27⟩ := hS26.freeze 3 [0, 1, 2] rfl (by decide) (by decide);obtain rfl := Option.some.inj H;refine C_retM (vs := [.agg (Manifest.cells (Manifest.mk r5.1 l11) u12).toArray, .int .i64 0]) rfl ⟨(box_out 2 Ty.agg45 Ty.size45 hS27 rfl rfl), rfl, trivial⟩ ?_;exact ⟨F27, u12, rfl, hf27, hS27.pick [] (by decide)⟩

def cellarerkeep_Ids.k1 : Option Bool :=
  some true


def cellarerkeep_Ids.l2 (x0 : List (List UInt8)) (x1 : List (List UInt8)) (rec5 : Int → Option Bool) : Int → Option Bool
  | i4 =>
    if decide (i4 < (x0.length : Int)) then
      bd (ix x0 i4) fun x7 =>
      bd (ix x1 i4) fun x9 =>
      if (!decide (x7 = x9)) then
        some false
      else
        rec5 (wr (i4 + 1))
    else
      cellarerkeep_Ids.k1

def cellarerkeep_Ids (x0 : List (List UInt8)) (x1 : List (List UInt8)) : Option Bool :=
  if decide ((x0.length : Int) ≠ (x1.length : Int)) then
    some false
  else
    loop (cellarerkeep_Ids.l2 x0 x1) 0

theorem cellarerkeep_Ids_ok {F : Frz} {w : World} {x0 : List (List UInt8)} {x1 : List (List UInt8)} {r : Bool} {v0 : Value} {v1 : Value} (hA : Agree F w.heap) (h0 : SlF tId F v0 x0) (h1 : SlF tId F v1 x1) (H : cellarerkeep_Ids x0 x1 = some r) : Ret Try.prog 50 #[v0, v1] w fun v w' => ∃ (F' : Frz), v = .bool r ∧ St [] w F F' [] w' := by
 refine Ret_of (args := [v0, v1]) Try.func50 rfl rfl ?_;change C _ _ _ _ [(0, v0), (1, v1)] _;have hS := St.entry hA;dsimp only [cellarerkeep_Ids] at H;refine C_seq ?_;refine C_region ?_;refine W_assign rfl rfl ?_;refine W_nil ?_;refine N_code ?_;refine C_seq ?_;refine C_seq ?_;refine C_region ?_;refine W_move rfl rfl ?_;refine W_lenv rfl Try.underlying49 rfl h0.ln ?_;refine W_move rfl rfl ?_;refine W_lenv rfl Try.underlying49 rfl h1.ln ?_;refine W_neq rfl rfl rfl ?_;refine W_nil ?_;refine N_code ?_;refine C_cond rfl (fun hc1 => ?_) (fun hc1 => ?_)
 ·rw [if_t hc1] at H;refine C_seq ?_;refine C_region ?_;refine W_assign rfl rfl ?_;refine W_nil ?_;refine N_code ?_;obtain rfl := Option.some.inj H;refine C_ret rfl rfl ?_;exact ⟨F, rfl, hS⟩
 ·rw [if_f hc1] at H;refine C_skip ?_;refine N_code ?_;refine C_seq_join (fun E wq => cellarerkeep_Ids.k1 = some r ∧ ∃ (F2 : Frz), E = [] ∧ F.le F2 ∧ St [] w F F2 [] wq) ?_ ?_
  ·refine C_seq ?_;refine C_region ?_;refine W_assign rfl rfl ?_;refine W_nil ?_;refine N_code ?_;refine C_block ?_;refine C_loopM (fun (s : Int) E wq => ∃ (F3 : Frz), E = [(0, v0), (1, v1), (5, .int .i64 s)] ∧ F.le F3 ∧ St [] w F F3 [] wq) H ?_ ?_
   ·exact ⟨_, ⟨F, rfl, (Frz.le.refl _), hS⟩, ⟨rfl, rfl, rfl, trivial⟩⟩
   ·rintro rec5 i4 E w3 hI H;(try dsimp only at hI);obtain ⟨F3, rfl, le3, hS3⟩ := hI;dsimp only [cellarerkeep_Ids.l2] at H;refine C_seq ?_;refine C_seq ?_;refine C_region ?_;refine W_move rfl rfl ?_;refine W_move rfl rfl ?_;refine W_lenv rfl Try.underlying49 rfl h0.ln ?_;refine W_lss rfl rfl rfl ?_;refine W_nil ?_;refine N_code ?_;refine C_cond rfl (fun hc6 => ?_) (fun hc6 => ?_)
    ·rw [if_t hc6] at H;refine C_skip ?_;refine N_code ?_;refine C_seq ?_;refine C_block ?_;refine C_seq ?_;obtain ⟨x7, hx7, H⟩ := bd_some H;obtain ⟨x9, hx9, H⟩ := bd_some H;obtain ⟨hp11, hy11⟩ := ix_some hx7;obtain ⟨cs11, hr11, he11⟩ := (h0.mono le3).at_ hy11;obtain ⟨rfl, hle8⟩ := hr11;replace he11 : Elf _ _ 32 _ _ := he11;obtain ⟨hp12, hy12⟩ := ix_some hx9;obtain ⟨cs12, hr12, he12⟩ := (h1.mono le3).at_ hy12;obtain ⟨rfl, hle10⟩ := hr12;replace he12 : Elf _ _ 32 _ _ := he12
     apply C_draw 8 [[], [], [0, 1], [2], [], [], [4, 5], [6]] [.val (v0), .val (.int .i64 i4), .val (elp v0 (i4.toNat * 32)), .val (.agg (idCells x7).toArray), .val (v1), .val (.int .i64 i4), .val (elp v1 (i4.toNat * 32)), .val (.agg (idCells x9).toArray)] Ty.mixed rfl rfl (by kernel_rfl) (by kernel_rfl) rfl
     ·refine ⟨?_, ?_, ?_, ?_, ?_, ?_, ?_, ?_, trivial⟩
      ·intro _ _ _ _;refine W_move rfl rfl ?_;exact Zs rfl rfl
      ·intro _ _ _ _;refine W_move rfl rfl ?_;exact Zs rfl rfl
      ·intro w15 vq15 hB15 hH15;have hS15 := hS3.below hB15;refine W_ix rfl Try.underlying49 Ty.cells57 Ty.info57 rfl rfl (he11.el hS15.agree) hp11 rfl ?_;exact Zs rfl rfl
      ·intro w16 vq16 hB16 hH16;have hS16 := hS3.below hB16;refine W_ldg 0 ((idCells x7)) rfl Ty.agg57 Ty.size57 rfl (he11.el hS16.agree) (by omega) (fun q u h => sub_at (post := []) rfl h) ?_;exact Zs rfl rfl
      ·intro _ _ _ _;refine W_move rfl rfl ?_;exact Zs rfl rfl
      ·intro _ _ _ _;refine W_move rfl rfl ?_;exact Zs rfl rfl
      ·intro w19 vq19 hB19 hH19;have hS19 := hS3.below hB19;refine W_ix rfl Try.underlying49 Ty.cells57 Ty.info57 rfl rfl (he12.el hS19.agree) hp12 rfl ?_;exact Zs rfl rfl
      ·intro w20 vq20 hB20 hH20;have hS20 := hS3.below hB20;refine W_ldg 0 ((idCells x9)) rfl Ty.agg57 Ty.size57 rfl (he12.el hS20.agree) (by omega) (fun q u h => sub_at (post := []) rfl h) ?_;exact Zs rfl rfl
     intro w21 vq21 hB21 hH21;have hS21 := hS3.below hB21;refine W_neqI rfl Try.underlying57 Try.underlying5 Ty.cells5 Ty.info5 (by kernel_rfl) rfl rfl hle8 hle10 ?_;refine W_nil ?_;refine N_code ?_;refine C_cond rfl (fun hc22 => ?_) (fun hc22 => ?_)
     ·rw [if_t hc22] at H;refine C_seq ?_;refine C_region ?_;refine W_assign rfl rfl ?_;refine W_nil ?_;refine N_code ?_;obtain rfl := Option.some.inj H;refine C_ret rfl rfl ?_;exact ⟨F3, rfl, hS21⟩
     ·rw [if_f hc22] at H;refine C_skip ?_;refine N_block ?_;refine N_code ?_;refine C_region ?_;refine W_move rfl rfl ?_;refine W_add rfl rfl rfl rfl ?_;refine W_assign rfl rfl ?_;refine W_nil ?_;exact N_againM (wr (i4 + 1)) _ H ⟨F3, rfl, le3, hS21⟩ ⟨rfl, rfl, rfl, trivial⟩
    ·rw [if_f hc6] at H;refine C_exit _ rfl ?_;exact N_join _ ⟨H, ⟨F3, rfl, le3, hS3⟩⟩ trivial
  ·rintro E w2 ⟨H, F2, rfl, le2, hS2⟩;dsimp only [cellarerkeep_Ids.k1] at H;refine C_seq ?_;refine C_region ?_;refine W_assign rfl rfl ?_;refine W_nil ?_;refine N_code ?_;obtain rfl := Option.some.inj H;refine C_ret rfl rfl ?_;exact ⟨F2, rfl, hS2⟩

def cellarerkeep_Manifest.k1 : Option Bool :=
  some true


def cellarerkeep_Manifest.l2 (x0 : Manifest) (x1 : Manifest) (rec9 : Int → Option Bool) : Int → Option Bool
  | i8 =>
    if decide (i8 < (x0.parts.length : Int)) then
      bd (ix x0.parts i8) fun x11 =>
      bd (ix x1.parts i8) fun x13 =>
      bd (only (!((!(x11.path == x13.path)) || decide (x11.size ≠ x13.size))) (cellarerkeep_Ids x11.ids x13.ids) false) fun r101 =>
      if (((!(x11.path == x13.path)) || decide (x11.size ≠ x13.size)) || (!r101)) then
        some false
      else
        rec9 (wr (i8 + 1))
    else
      cellarerkeep_Manifest.k1

def cellarerkeep_Manifest (x0 : Manifest) (x1 : Manifest) : Option Bool :=
  if ((!(x0.name == x1.name)) || decide ((x0.parts.length : Int) ≠ (x1.parts.length : Int))) then
    some false
  else
    loop (cellarerkeep_Manifest.l2 x0 x1) 0

theorem cellarerkeep_Manifest_ok {F : Frz} {w : World} {x0 : Manifest} {x1 : Manifest} {r : Bool} {v0_0 : Value} {v1_0 : Value} (hA : Agree F w.heap) (h0_0 : SlF Part.t F v0_0 x0.parts) (h1_0 : SlF Part.t F v1_0 x1.parts) (H : cellarerkeep_Manifest x0 x1 = some r) : Ret Try.prog 39 #[.agg (Manifest.cells x0 v0_0).toArray, .agg (Manifest.cells x1 v1_0).toArray] w fun v w' => ∃ (F' : Frz), v = .bool r ∧ St [] w F F' [] w' := by
 refine Ret_of (args := [.agg (Manifest.cells x0 v0_0).toArray, .agg (Manifest.cells x1 v1_0).toArray]) Try.func39 rfl rfl ?_;change C _ _ _ _ [(0, .agg (Manifest.cells x0 v0_0).toArray), (1, .agg (Manifest.cells x1 v1_0).toArray)] _;have hS := St.entry hA;dsimp only [cellarerkeep_Manifest] at H;refine C_seq ?_;refine C_region ?_;refine W_bx (cs := [strV x0.name, v0_0]) rfl rfl rfl hS ?_;intro g1 w1 hS1;refine W_bx (cs := [strV x1.name, v1_0]) rfl rfl rfl hS1 ?_;intro g2 w2 hS2;refine W_assign rfl rfl ?_;refine W_nil ?_;refine N_code ?_;refine C_seq ?_;refine C_seq ?_;refine C_join (fun E wq => E = [(2, pl g1 0), (3, pl g2 0), (21, .bool ((!(x0.name == x1.name)) || decide ((x0.parts.length : Int) ≠ (x1.parts.length : Int))))] ∧ ∃ F3 : Frz, F.le F3 ∧ St [] w F F3 [.box g2 45 [strV x1.name, v1_0], .box g1 45 [strV x0.name, v0_0]] wq) ?_ ?_
 ·
  rcases Bool.eq_false_or_eq_true (!(x0.name == x1.name)) with hb4 | hb4
  ·refine C_region ?_;refine W_field_pl 0 rfl Ty.field45_0 rfl ?_;refine W_bld1 1 rfl Ty.cell9 rfl hS2 rfl rfl ?_;refine W_field_pl 0 rfl Ty.field45_0 rfl ?_;refine W_bld1 0 rfl Ty.cell9 rfl hS2 rfl rfl ?_;refine W_neqS rfl rfl rfl ?_;refine W_move rfl rfl ?_;refine W_known (t := 13) true rfl hb4 ?_;refine W_guard_no rfl rfl rfl rfl rfl ?_;refine W_guard_no rfl rfl rfl rfl rfl ?_;refine W_guard_no rfl rfl rfl rfl rfl ?_;refine W_guard_no rfl rfl rfl rfl rfl ?_;refine W_guard_no rfl rfl rfl rfl rfl ?_;refine W_guard_no rfl rfl rfl rfl rfl ?_;refine W_guard_no rfl rfl rfl rfl rfl ?_;refine W_pick_t rfl rfl rfl ?_;refine W_nil ?_;exact N_join _ ⟨rfl, F, (Frz.le.refl _), hS2⟩ ⟨rfl, rfl, (look_bool rfl (by first | rfl | (rw [hb4]; first | done | rfl) | simp [hb4])), trivial⟩
  ·refine C_region ?_;refine W_field_pl 0 rfl Ty.field45_0 rfl ?_;refine W_bld1 1 rfl Ty.cell9 rfl hS2 rfl rfl ?_;refine W_field_pl 0 rfl Ty.field45_0 rfl ?_;refine W_bld1 0 rfl Ty.cell9 rfl hS2 rfl rfl ?_;refine W_neqS rfl rfl rfl ?_;refine W_move rfl rfl ?_;refine W_known (t := 13) false rfl hb4 ?_;refine W_guard_yes rfl ?_;refine W_field_pl 1 rfl Ty.field45_1 rfl ?_;refine W_guard_yes rfl ?_;refine W_bld1 1 rfl Ty.cell43 rfl hS2 rfl rfl ?_;refine W_guard_yes rfl ?_;refine W_lenv rfl Try.underlying43 rfl h0_0.ln ?_;refine W_guard_yes rfl ?_;refine W_field_pl 1 rfl Ty.field45_1 rfl ?_;refine W_guard_yes rfl ?_;refine W_bld1 0 rfl Ty.cell43 rfl hS2 rfl rfl ?_;refine W_guard_yes rfl ?_;refine W_lenv rfl Try.underlying43 rfl h1_0.ln ?_;refine W_guard_yes rfl ?_;refine W_neq rfl rfl rfl ?_;refine W_pick_f rfl rfl rfl ?_;refine W_nil ?_;exact N_join _ ⟨rfl, F, (Frz.le.refl _), hS2⟩ ⟨rfl, rfl, (look_bool rfl (by first | rfl | (rw [hb4]; first | done | rfl) | simp [hb4])), trivial⟩
 rintro E w3 ⟨rfl, F3, le3, hS3⟩;refine N_code ?_;refine C_cond rfl (fun hc5 => ?_) (fun hc5 => ?_)
 ·rw [if_t hc5] at H;refine C_seq ?_;refine C_region ?_;refine W_assign rfl rfl ?_;refine W_nil ?_;refine N_code ?_;obtain rfl := Option.some.inj H;refine C_ret rfl rfl ?_;exact ⟨F3, rfl, hS3.pick [] (by decide)⟩
 ·rw [if_f hc5] at H;refine C_skip ?_;refine N_code ?_;refine C_seq_join (fun E wq => cellarerkeep_Manifest.k1 = some r ∧ ∃ (F6 : Frz), E = [] ∧ F3.le F6 ∧ St [] w F F6 [] wq) ?_ ?_
  ·refine C_seq ?_;refine C_region ?_;refine W_assign rfl rfl ?_;refine W_nil ?_;refine N_code ?_;refine C_block ?_;refine C_loopM (fun (s : Int) E wq => ∃ (F7 : Frz), E = [(2, pl g1 0), (3, pl g2 0), (5, .int .i64 s)] ∧ F3.le F7 ∧ St [] w F F7 [.box g2 45 [strV x1.name, v1_0], .box g1 45 [strV x0.name, v0_0]] wq) H ?_ ?_
   ·exact ⟨_, ⟨F3, rfl, (Frz.le.refl _), hS3⟩, ⟨rfl, rfl, rfl, trivial⟩⟩
   ·rintro rec9 i8 E w7 hI H;(try dsimp only at hI);obtain ⟨F7, rfl, le7, hS7⟩ := hI;dsimp only [cellarerkeep_Manifest.l2] at H;refine C_seq ?_;refine C_seq ?_;refine C_region ?_;refine W_move rfl rfl ?_;refine W_field_pl 1 rfl Ty.field45_1 rfl ?_;refine W_bld1 1 rfl Ty.cell43 rfl hS7 rfl rfl ?_;refine W_lenv rfl Try.underlying43 rfl h0_0.ln ?_;refine W_lss rfl rfl rfl ?_;refine W_nil ?_;refine N_code ?_;refine C_cond rfl (fun hc10 => ?_) (fun hc10 => ?_)
    ·rw [if_t hc10] at H;refine C_skip ?_;refine N_code ?_;refine C_seq ?_;refine C_block ?_;refine C_seq ?_;obtain ⟨x11, hx11, H⟩ := bd_some H;obtain ⟨x13, hx13, H⟩ := bd_some H;obtain ⟨hp17, hy17⟩ := ix_some hx11;obtain ⟨cs17, hr17, he17⟩ := (h0_0.mono (le3.trans le7)).at_ hy17;obtain ⟨ue12_0, rfl, hue12_0⟩ := hr17;replace he17 : Elf _ _ 3 _ _ := he17;obtain ⟨hp18, hy18⟩ := ix_some hx13;obtain ⟨cs18, hr18, he18⟩ := (h1_0.mono (le3.trans le7)).at_ hy18;obtain ⟨ue14_0, rfl, hue14_0⟩ := hr18;replace he18 : Elf _ _ 3 _ _ := he18
     apply C_drawJ (fun D vs wz => ∀ (b10 b11 b12 : Bool), D 10 = b10 → D 11 = b11 → D 12 = b12 → match b10, b11, b12 with | false, false, false => ∃ FJ : Frz, F7.le FJ ∧ St [] w F FJ [.box g2 45 [strV x1.name, v1_0], .box g1 45 [strV x0.name, v0_0]] wz | true, false, false => ∃ FJ : Frz, ∃ g15 : Nat, vs 10 = pl g15 0 ∧ F7.le FJ ∧ St [] w F FJ [.box g15 51 [strV [], .int .i64 0, .slice none 0 0], .box g2 45 [strV x1.name, v1_0], .box g1 45 [strV x0.name, v0_0]] wz | false, true, false => ∃ FJ : Frz, ∃ g16 : Nat, vs 11 = pl g16 0 ∧ F7.le FJ ∧ St [] w F FJ [.box g16 51 [strV [], .int .i64 0, .slice none 0 0], .box g2 45 [strV x1.name, v1_0], .box g1 45 [strV x0.name, v0_0]] wz | true, true, false => ∃ FJ : Frz, ∃ g15 : Nat, ∃ g16 : Nat, vs 10 = pl g15 0 ∧ vs 11 = pl g16 0 ∧ F7.le FJ ∧ St [] w F FJ [.box g16 51 [strV [], .int .i64 0, .slice none 0 0], .box g15 51 [strV [], .int .i64 0, .slice none 0 0], .box g2 45 [strV x1.name, v1_0], .box g1 45 [strV x0.name, v0_0]] wz | true, true, true => ∃ FJ : Frz, ∃ g15 : Nat, ∃ g16 : Nat, vs 10 = pl g15 0 ∧ vs 11 = pl g16 0 ∧ F7.le FJ ∧ St [] w F FJ [.box g16 51 [strV [], .int .i64 0, .slice none 0 0], .box g15 51 [strV x11.path, .int .i64 x11.size, ue12_0], .box g2 45 [strV x1.name, v1_0], .box g1 45 [strV x0.name, v0_0]] wz | _, _, _ => False) 13 [[], [0], [], [1, 2], [3], [], [5], [], [6, 7], [8], [], [], [0, 1, 2, 3, 4, 10, 11]] [some (pl g1 (0 + 1)), some (v0_0), some (.int .i64 i8), some (elp v0_0 (i8.toNat * 3)), some (.agg (Part.cells x11 ue12_0).toArray), some (pl g2 (0 + 1)), some (v1_0), some (.int .i64 i8), some (elp v1_0 (i8.toNat * 3)), some (.agg (Part.cells x13 ue14_0).toArray), none, none, none] Ty.mixed rfl (by kernel_rfl) (by kernel_rfl) rfl
     ·intro vq22 b10 b11 b12 h10 h11 h12;obtain rfl : b10 = false := h10.symm;obtain rfl : b11 = false := h11.symm;obtain rfl : b12 = false := h12.symm;exact ⟨F7, (Frz.le.refl _), (hS7.below (below_drew _))⟩
     ·refine ⟨?_, ?_, ?_, ?_, ?_, ?_, ?_, ?_, ?_, ?_, ?_, ?_, ?_, trivial⟩
      ·intro w23 vq23 D23 hD23 hd23 hJ23
       rcases Bool.eq_false_or_eq_true (D23 10) with hb24 | hb24
       ·
        rcases Bool.eq_false_or_eq_true (D23 11) with hb25 | hb25
        ·
         rcases Bool.eq_false_or_eq_true (D23 12) with hb26 | hb26
         ·obtain ⟨FJ23, g15, g16, he23_10, he23_11, leJ23, hSJ23⟩ := (hJ23 true true true hb24 hb25 hb26);refine W_field_pl 1 rfl Ty.field45_1 rfl ?_;refine W_nil ?_;exact N_stepJ rfl (fun u hu => Option.some.inj hu) (fun b10 b11 b12 h10 h11 h12 => by obtain rfl : b10 = true := h10.symm.trans hb24; obtain rfl : b11 = true := h11.symm.trans hb25; obtain rfl : b12 = true := h12.symm.trans hb26; exact ⟨FJ23, g15, g16, he23_10, he23_11, leJ23, hSJ23⟩)
         ·obtain ⟨FJ23, g15, g16, he23_10, he23_11, leJ23, hSJ23⟩ := (hJ23 true true false hb24 hb25 hb26);refine W_field_pl 1 rfl Ty.field45_1 rfl ?_;refine W_nil ?_;exact N_stepJ rfl (fun u hu => Option.some.inj hu) (fun b10 b11 b12 h10 h11 h12 => by obtain rfl : b10 = true := h10.symm.trans hb24; obtain rfl : b11 = true := h11.symm.trans hb25; obtain rfl : b12 = false := h12.symm.trans hb26; exact ⟨FJ23, g15, g16, he23_10, he23_11, leJ23, hSJ23⟩)
        ·
         rcases Bool.eq_false_or_eq_true (D23 12) with hb27 | hb27
         ·exact False.elim (hJ23 true false true hb24 hb25 hb27)
         ·obtain ⟨FJ23, g15, he23_10, leJ23, hSJ23⟩ := (hJ23 true false false hb24 hb25 hb27);refine W_field_pl 1 rfl Ty.field45_1 rfl ?_;refine W_nil ?_;exact N_stepJ rfl (fun u hu => Option.some.inj hu) (fun b10 b11 b12 h10 h11 h12 => by obtain rfl : b10 = true := h10.symm.trans hb24; obtain rfl : b11 = false := h11.symm.trans hb25; obtain rfl : b12 = false := h12.symm.trans hb27; exact ⟨FJ23, g15, he23_10, leJ23, hSJ23⟩)
       ·
        rcases Bool.eq_false_or_eq_true (D23 11) with hb28 | hb28
        ·
         rcases Bool.eq_false_or_eq_true (D23 12) with hb29 | hb29
         ·exact False.elim (hJ23 false true true hb24 hb28 hb29)
         ·obtain ⟨FJ23, g16, he23_11, leJ23, hSJ23⟩ := (hJ23 false true false hb24 hb28 hb29);refine W_field_pl 1 rfl Ty.field45_1 rfl ?_;refine W_nil ?_;exact N_stepJ rfl (fun u hu => Option.some.inj hu) (fun b10 b11 b12 h10 h11 h12 => by obtain rfl : b10 = false := h10.symm.trans hb24; obtain rfl : b11 = true := h11.symm.trans hb28; obtain rfl : b12 = false := h12.symm.trans hb29; exact ⟨FJ23, g16, he23_11, leJ23, hSJ23⟩)
        ·
         rcases Bool.eq_false_or_eq_true (D23 12) with hb30 | hb30
         ·exact False.elim (hJ23 false false true hb24 hb28 hb30)
         ·obtain ⟨FJ23, leJ23, hSJ23⟩ := (hJ23 false false false hb24 hb28 hb30);refine W_field_pl 1 rfl Ty.field45_1 rfl ?_;refine W_nil ?_;exact N_stepJ rfl (fun u hu => Option.some.inj hu) (fun b10 b11 b12 h10 h11 h12 => by obtain rfl : b10 = false := h10.symm.trans hb24; obtain rfl : b11 = false := h11.symm.trans hb28; obtain rfl : b12 = false := h12.symm.trans hb30; exact ⟨FJ23, leJ23, hSJ23⟩)
      ·intro w31 vq31 D31 hD31 hd31 hJ31
       rcases Bool.eq_false_or_eq_true (D31 10) with hb32 | hb32
       ·
        rcases Bool.eq_false_or_eq_true (D31 11) with hb33 | hb33
        ·
         rcases Bool.eq_false_or_eq_true (D31 12) with hb34 | hb34
         ·obtain ⟨FJ31, g15, g16, he31_10, he31_11, leJ31, hSJ31⟩ := (hJ31 true true true hb32 hb33 hb34);refine W_bld1 3 rfl Ty.cell43 rfl hSJ31 rfl rfl ?_;refine W_nil ?_;exact N_stepJ rfl (fun u hu => Option.some.inj hu) (fun b10 b11 b12 h10 h11 h12 => by obtain rfl : b10 = true := h10.symm.trans hb32; obtain rfl : b11 = true := h11.symm.trans hb33; obtain rfl : b12 = true := h12.symm.trans hb34; exact ⟨FJ31, g15, g16, he31_10, he31_11, leJ31, hSJ31⟩)
         ·obtain ⟨FJ31, g15, g16, he31_10, he31_11, leJ31, hSJ31⟩ := (hJ31 true true false hb32 hb33 hb34);refine W_bld1 3 rfl Ty.cell43 rfl hSJ31 rfl rfl ?_;refine W_nil ?_;exact N_stepJ rfl (fun u hu => Option.some.inj hu) (fun b10 b11 b12 h10 h11 h12 => by obtain rfl : b10 = true := h10.symm.trans hb32; obtain rfl : b11 = true := h11.symm.trans hb33; obtain rfl : b12 = false := h12.symm.trans hb34; exact ⟨FJ31, g15, g16, he31_10, he31_11, leJ31, hSJ31⟩)
        ·
         rcases Bool.eq_false_or_eq_true (D31 12) with hb35 | hb35
         ·exact False.elim (hJ31 true false true hb32 hb33 hb35)
         ·obtain ⟨FJ31, g15, he31_10, leJ31, hSJ31⟩ := (hJ31 true false false hb32 hb33 hb35);refine W_bld1 2 rfl Ty.cell43 rfl hSJ31 rfl rfl ?_;refine W_nil ?_;exact N_stepJ rfl (fun u hu => Option.some.inj hu) (fun b10 b11 b12 h10 h11 h12 => by obtain rfl : b10 = true := h10.symm.trans hb32; obtain rfl : b11 = false := h11.symm.trans hb33; obtain rfl : b12 = false := h12.symm.trans hb35; exact ⟨FJ31, g15, he31_10, leJ31, hSJ31⟩)
       ·
        rcases Bool.eq_false_or_eq_true (D31 11) with hb36 | hb36
        ·
         rcases Bool.eq_false_or_eq_true (D31 12) with hb37 | hb37
         ·exact False.elim (hJ31 false true true hb32 hb36 hb37)
         ·obtain ⟨FJ31, g16, he31_11, leJ31, hSJ31⟩ := (hJ31 false true false hb32 hb36 hb37);refine W_bld1 2 rfl Ty.cell43 rfl hSJ31 rfl rfl ?_;refine W_nil ?_;exact N_stepJ rfl (fun u hu => Option.some.inj hu) (fun b10 b11 b12 h10 h11 h12 => by obtain rfl : b10 = false := h10.symm.trans hb32; obtain rfl : b11 = true := h11.symm.trans hb36; obtain rfl : b12 = false := h12.symm.trans hb37; exact ⟨FJ31, g16, he31_11, leJ31, hSJ31⟩)
        ·
         rcases Bool.eq_false_or_eq_true (D31 12) with hb38 | hb38
         ·exact False.elim (hJ31 false false true hb32 hb36 hb38)
         ·obtain ⟨FJ31, leJ31, hSJ31⟩ := (hJ31 false false false hb32 hb36 hb38);refine W_bld1 1 rfl Ty.cell43 rfl hSJ31 rfl rfl ?_;refine W_nil ?_;exact N_stepJ rfl (fun u hu => Option.some.inj hu) (fun b10 b11 b12 h10 h11 h12 => by obtain rfl : b10 = false := h10.symm.trans hb32; obtain rfl : b11 = false := h11.symm.trans hb36; obtain rfl : b12 = false := h12.symm.trans hb38; exact ⟨FJ31, leJ31, hSJ31⟩)
      ·intro w39 vq39 D39 hD39 hd39 hJ39;refine W_move rfl rfl ?_;refine W_nil ?_;exact N_stepJ rfl (fun u hu => Option.some.inj hu) hJ39
      ·intro w40 vq40 D40 hD40 hd40 hJ40
       rcases Bool.eq_false_or_eq_true (D40 10) with hb41 | hb41
       ·
        rcases Bool.eq_false_or_eq_true (D40 11) with hb42 | hb42
        ·
         rcases Bool.eq_false_or_eq_true (D40 12) with hb43 | hb43
         ·obtain ⟨FJ40, g15, g16, he40_10, he40_11, leJ40, hSJ40⟩ := (hJ40 true true true hb41 hb42 hb43);refine W_ix rfl Try.underlying43 Ty.cells51 Ty.info51 rfl rfl (he17.el (hSJ40.agree.le leJ40)) hp17 rfl ?_;refine W_nil ?_;exact N_stepJ rfl (fun u hu => Option.some.inj hu) (fun b10 b11 b12 h10 h11 h12 => by obtain rfl : b10 = true := h10.symm.trans hb41; obtain rfl : b11 = true := h11.symm.trans hb42; obtain rfl : b12 = true := h12.symm.trans hb43; exact ⟨FJ40, g15, g16, he40_10, he40_11, leJ40, hSJ40⟩)
         ·obtain ⟨FJ40, g15, g16, he40_10, he40_11, leJ40, hSJ40⟩ := (hJ40 true true false hb41 hb42 hb43);refine W_ix rfl Try.underlying43 Ty.cells51 Ty.info51 rfl rfl (he17.el (hSJ40.agree.le leJ40)) hp17 rfl ?_;refine W_nil ?_;exact N_stepJ rfl (fun u hu => Option.some.inj hu) (fun b10 b11 b12 h10 h11 h12 => by obtain rfl : b10 = true := h10.symm.trans hb41; obtain rfl : b11 = true := h11.symm.trans hb42; obtain rfl : b12 = false := h12.symm.trans hb43; exact ⟨FJ40, g15, g16, he40_10, he40_11, leJ40, hSJ40⟩)
        ·
         rcases Bool.eq_false_or_eq_true (D40 12) with hb44 | hb44
         ·exact False.elim (hJ40 true false true hb41 hb42 hb44)
         ·obtain ⟨FJ40, g15, he40_10, leJ40, hSJ40⟩ := (hJ40 true false false hb41 hb42 hb44);refine W_ix rfl Try.underlying43 Ty.cells51 Ty.info51 rfl rfl (he17.el (hSJ40.agree.le leJ40)) hp17 rfl ?_;refine W_nil ?_;exact N_stepJ rfl (fun u hu => Option.some.inj hu) (fun b10 b11 b12 h10 h11 h12 => by obtain rfl : b10 = true := h10.symm.trans hb41; obtain rfl : b11 = false := h11.symm.trans hb42; obtain rfl : b12 = false := h12.symm.trans hb44; exact ⟨FJ40, g15, he40_10, leJ40, hSJ40⟩)
       ·
        rcases Bool.eq_false_or_eq_true (D40 11) with hb45 | hb45
        ·
         rcases Bool.eq_false_or_eq_true (D40 12) with hb46 | hb46
         ·exact False.elim (hJ40 false true true hb41 hb45 hb46)
         ·obtain ⟨FJ40, g16, he40_11, leJ40, hSJ40⟩ := (hJ40 false true false hb41 hb45 hb46);refine W_ix rfl Try.underlying43 Ty.cells51 Ty.info51 rfl rfl (he17.el (hSJ40.agree.le leJ40)) hp17 rfl ?_;refine W_nil ?_;exact N_stepJ rfl (fun u hu => Option.some.inj hu) (fun b10 b11 b12 h10 h11 h12 => by obtain rfl : b10 = false := h10.symm.trans hb41; obtain rfl : b11 = true := h11.symm.trans hb45; obtain rfl : b12 = false := h12.symm.trans hb46; exact ⟨FJ40, g16, he40_11, leJ40, hSJ40⟩)
        ·
         rcases Bool.eq_false_or_eq_true (D40 12) with hb47 | hb47
         ·exact False.elim (hJ40 false false true hb41 hb45 hb47)
         ·obtain ⟨FJ40, leJ40, hSJ40⟩ := (hJ40 false false false hb41 hb45 hb47);refine W_ix rfl Try.underlying43 Ty.cells51 Ty.info51 rfl rfl (he17.el (hSJ40.agree.le leJ40)) hp17 rfl ?_;refine W_nil ?_;exact N_stepJ rfl (fun u hu => Option.some.inj hu) (fun b10 b11 b12 h10 h11 h12 => by obtain rfl : b10 = false := h10.symm.trans hb41; obtain rfl : b11 = false := h11.symm.trans hb45; obtain rfl : b12 = false := h12.symm.trans hb47; exact ⟨FJ40, leJ40, hSJ40⟩)
      ·intro w48 vq48 D48 hD48 hd48 hJ48
       rcases Bool.eq_false_or_eq_true (D48 10) with hb49 | hb49
       ·
        rcases Bool.eq_false_or_eq_true (D48 11) with hb50 | hb50
        ·
         rcases Bool.eq_false_or_eq_true (D48 12) with hb51 | hb51
         ·obtain ⟨FJ48, g15, g16, he48_10, he48_11, leJ48, hSJ48⟩ := (hJ48 true true true hb49 hb50 hb51);refine W_ldg 0 ((Part.cells x11 ue12_0)) rfl Ty.agg51 Ty.size51 rfl (he17.el (hSJ48.agree.le leJ48)) (by omega) (fun q u h => sub_at (post := []) rfl h) ?_;refine W_nil ?_;exact N_stepJ rfl (fun u hu => Option.some.inj hu) (fun b10 b11 b12 h10 h11 h12 => by obtain rfl : b10 = true := h10.symm.trans hb49; obtain rfl : b11 = true := h11.symm.trans hb50; obtain rfl : b12 = true := h12.symm.trans hb51; exact ⟨FJ48, g15, g16, he48_10, he48_11, leJ48, hSJ48⟩)
         ·obtain ⟨FJ48, g15, g16, he48_10, he48_11, leJ48, hSJ48⟩ := (hJ48 true true false hb49 hb50 hb51);refine W_ldg 0 ((Part.cells x11 ue12_0)) rfl Ty.agg51 Ty.size51 rfl (he17.el (hSJ48.agree.le leJ48)) (by omega) (fun q u h => sub_at (post := []) rfl h) ?_;refine W_nil ?_;exact N_stepJ rfl (fun u hu => Option.some.inj hu) (fun b10 b11 b12 h10 h11 h12 => by obtain rfl : b10 = true := h10.symm.trans hb49; obtain rfl : b11 = true := h11.symm.trans hb50; obtain rfl : b12 = false := h12.symm.trans hb51; exact ⟨FJ48, g15, g16, he48_10, he48_11, leJ48, hSJ48⟩)
        ·
         rcases Bool.eq_false_or_eq_true (D48 12) with hb52 | hb52
         ·exact False.elim (hJ48 true false true hb49 hb50 hb52)
         ·obtain ⟨FJ48, g15, he48_10, leJ48, hSJ48⟩ := (hJ48 true false false hb49 hb50 hb52);refine W_ldg 0 ((Part.cells x11 ue12_0)) rfl Ty.agg51 Ty.size51 rfl (he17.el (hSJ48.agree.le leJ48)) (by omega) (fun q u h => sub_at (post := []) rfl h) ?_;refine W_nil ?_;exact N_stepJ rfl (fun u hu => Option.some.inj hu) (fun b10 b11 b12 h10 h11 h12 => by obtain rfl : b10 = true := h10.symm.trans hb49; obtain rfl : b11 = false := h11.symm.trans hb50; obtain rfl : b12 = false := h12.symm.trans hb52; exact ⟨FJ48, g15, he48_10, leJ48, hSJ48⟩)
       ·
        rcases Bool.eq_false_or_eq_true (D48 11) with hb53 | hb53
        ·
         rcases Bool.eq_false_or_eq_true (D48 12) with hb54 | hb54
         ·exact False.elim (hJ48 false true true hb49 hb53 hb54)
         ·obtain ⟨FJ48, g16, he48_11, leJ48, hSJ48⟩ := (hJ48 false true false hb49 hb53 hb54);refine W_ldg 0 ((Part.cells x11 ue12_0)) rfl Ty.agg51 Ty.size51 rfl (he17.el (hSJ48.agree.le leJ48)) (by omega) (fun q u h => sub_at (post := []) rfl h) ?_;refine W_nil ?_;exact N_stepJ rfl (fun u hu => Option.some.inj hu) (fun b10 b11 b12 h10 h11 h12 => by obtain rfl : b10 = false := h10.symm.trans hb49; obtain rfl : b11 = true := h11.symm.trans hb53; obtain rfl : b12 = false := h12.symm.trans hb54; exact ⟨FJ48, g16, he48_11, leJ48, hSJ48⟩)
        ·
         rcases Bool.eq_false_or_eq_true (D48 12) with hb55 | hb55
         ·exact False.elim (hJ48 false false true hb49 hb53 hb55)
         ·obtain ⟨FJ48, leJ48, hSJ48⟩ := (hJ48 false false false hb49 hb53 hb55);refine W_ldg 0 ((Part.cells x11 ue12_0)) rfl Ty.agg51 Ty.size51 rfl (he17.el (hSJ48.agree.le leJ48)) (by omega) (fun q u h => sub_at (post := []) rfl h) ?_;refine W_nil ?_;exact N_stepJ rfl (fun u hu => Option.some.inj hu) (fun b10 b11 b12 h10 h11 h12 => by obtain rfl : b10 = false := h10.symm.trans hb49; obtain rfl : b11 = false := h11.symm.trans hb53; obtain rfl : b12 = false := h12.symm.trans hb55; exact ⟨FJ48, leJ48, hSJ48⟩)
      ·intro w56 vq56 D56 hD56 hd56 hJ56
       rcases Bool.eq_false_or_eq_true (D56 10) with hb57 | hb57
       ·
        rcases Bool.eq_false_or_eq_true (D56 11) with hb58 | hb58
        ·
         rcases Bool.eq_false_or_eq_true (D56 12) with hb59 | hb59
         ·obtain ⟨FJ56, g15, g16, he56_10, he56_11, leJ56, hSJ56⟩ := (hJ56 true true true hb57 hb58 hb59);refine W_field_pl 1 rfl Ty.field45_1 rfl ?_;refine W_nil ?_;exact N_stepJ rfl (fun u hu => Option.some.inj hu) (fun b10 b11 b12 h10 h11 h12 => by obtain rfl : b10 = true := h10.symm.trans hb57; obtain rfl : b11 = true := h11.symm.trans hb58; obtain rfl : b12 = true := h12.symm.trans hb59; exact ⟨FJ56, g15, g16, he56_10, he56_11, leJ56, hSJ56⟩)
         ·obtain ⟨FJ56, g15, g16, he56_10, he56_11, leJ56, hSJ56⟩ := (hJ56 true true false hb57 hb58 hb59);refine W_field_pl 1 rfl Ty.field45_1 rfl ?_;refine W_nil ?_;exact N_stepJ rfl (fun u hu => Option.some.inj hu) (fun b10 b11 b12 h10 h11 h12 => by obtain rfl : b10 = true := h10.symm.trans hb57; obtain rfl : b11 = true := h11.symm.trans hb58; obtain rfl : b12 = false := h12.symm.trans hb59; exact ⟨FJ56, g15, g16, he56_10, he56_11, leJ56, hSJ56⟩)
        ·
         rcases Bool.eq_false_or_eq_true (D56 12) with hb60 | hb60
         ·exact False.elim (hJ56 true false true hb57 hb58 hb60)
         ·obtain ⟨FJ56, g15, he56_10, leJ56, hSJ56⟩ := (hJ56 true false false hb57 hb58 hb60);refine W_field_pl 1 rfl Ty.field45_1 rfl ?_;refine W_nil ?_;exact N_stepJ rfl (fun u hu => Option.some.inj hu) (fun b10 b11 b12 h10 h11 h12 => by obtain rfl : b10 = true := h10.symm.trans hb57; obtain rfl : b11 = false := h11.symm.trans hb58; obtain rfl : b12 = false := h12.symm.trans hb60; exact ⟨FJ56, g15, he56_10, leJ56, hSJ56⟩)
       ·
        rcases Bool.eq_false_or_eq_true (D56 11) with hb61 | hb61
        ·
         rcases Bool.eq_false_or_eq_true (D56 12) with hb62 | hb62
         ·exact False.elim (hJ56 false true true hb57 hb61 hb62)
         ·obtain ⟨FJ56, g16, he56_11, leJ56, hSJ56⟩ := (hJ56 false true false hb57 hb61 hb62);refine W_field_pl 1 rfl Ty.field45_1 rfl ?_;refine W_nil ?_;exact N_stepJ rfl (fun u hu => Option.some.inj hu) (fun b10 b11 b12 h10 h11 h12 => by obtain rfl : b10 = false := h10.symm.trans hb57; obtain rfl : b11 = true := h11.symm.trans hb61; obtain rfl : b12 = false := h12.symm.trans hb62; exact ⟨FJ56, g16, he56_11, leJ56, hSJ56⟩)
        ·
         rcases Bool.eq_false_or_eq_true (D56 12) with hb63 | hb63
         ·exact False.elim (hJ56 false false true hb57 hb61 hb63)
         ·obtain ⟨FJ56, leJ56, hSJ56⟩ := (hJ56 false false false hb57 hb61 hb63);refine W_field_pl 1 rfl Ty.field45_1 rfl ?_;refine W_nil ?_;exact N_stepJ rfl (fun u hu => Option.some.inj hu) (fun b10 b11 b12 h10 h11 h12 => by obtain rfl : b10 = false := h10.symm.trans hb57; obtain rfl : b11 = false := h11.symm.trans hb61; obtain rfl : b12 = false := h12.symm.trans hb63; exact ⟨FJ56, leJ56, hSJ56⟩)
      ·intro w64 vq64 D64 hD64 hd64 hJ64
       rcases Bool.eq_false_or_eq_true (D64 10) with hb65 | hb65
       ·
        rcases Bool.eq_false_or_eq_true (D64 11) with hb66 | hb66
        ·
         rcases Bool.eq_false_or_eq_true (D64 12) with hb67 | hb67
         ·obtain ⟨FJ64, g15, g16, he64_10, he64_11, leJ64, hSJ64⟩ := (hJ64 true true true hb65 hb66 hb67);refine W_bld1 2 rfl Ty.cell43 rfl hSJ64 rfl rfl ?_;refine W_nil ?_;exact N_stepJ rfl (fun u hu => Option.some.inj hu) (fun b10 b11 b12 h10 h11 h12 => by obtain rfl : b10 = true := h10.symm.trans hb65; obtain rfl : b11 = true := h11.symm.trans hb66; obtain rfl : b12 = true := h12.symm.trans hb67; exact ⟨FJ64, g15, g16, he64_10, he64_11, leJ64, hSJ64⟩)
         ·obtain ⟨FJ64, g15, g16, he64_10, he64_11, leJ64, hSJ64⟩ := (hJ64 true true false hb65 hb66 hb67);refine W_bld1 2 rfl Ty.cell43 rfl hSJ64 rfl rfl ?_;refine W_nil ?_;exact N_stepJ rfl (fun u hu => Option.some.inj hu) (fun b10 b11 b12 h10 h11 h12 => by obtain rfl : b10 = true := h10.symm.trans hb65; obtain rfl : b11 = true := h11.symm.trans hb66; obtain rfl : b12 = false := h12.symm.trans hb67; exact ⟨FJ64, g15, g16, he64_10, he64_11, leJ64, hSJ64⟩)
        ·
         rcases Bool.eq_false_or_eq_true (D64 12) with hb68 | hb68
         ·exact False.elim (hJ64 true false true hb65 hb66 hb68)
         ·obtain ⟨FJ64, g15, he64_10, leJ64, hSJ64⟩ := (hJ64 true false false hb65 hb66 hb68);refine W_bld1 1 rfl Ty.cell43 rfl hSJ64 rfl rfl ?_;refine W_nil ?_;exact N_stepJ rfl (fun u hu => Option.some.inj hu) (fun b10 b11 b12 h10 h11 h12 => by obtain rfl : b10 = true := h10.symm.trans hb65; obtain rfl : b11 = false := h11.symm.trans hb66; obtain rfl : b12 = false := h12.symm.trans hb68; exact ⟨FJ64, g15, he64_10, leJ64, hSJ64⟩)
       ·
        rcases Bool.eq_false_or_eq_true (D64 11) with hb69 | hb69
        ·
         rcases Bool.eq_false_or_eq_true (D64 12) with hb70 | hb70
         ·exact False.elim (hJ64 false true true hb65 hb69 hb70)
         ·obtain ⟨FJ64, g16, he64_11, leJ64, hSJ64⟩ := (hJ64 false true false hb65 hb69 hb70);refine W_bld1 1 rfl Ty.cell43 rfl hSJ64 rfl rfl ?_;refine W_nil ?_;exact N_stepJ rfl (fun u hu => Option.some.inj hu) (fun b10 b11 b12 h10 h11 h12 => by obtain rfl : b10 = false := h10.symm.trans hb65; obtain rfl : b11 = true := h11.symm.trans hb69; obtain rfl : b12 = false := h12.symm.trans hb70; exact ⟨FJ64, g16, he64_11, leJ64, hSJ64⟩)
        ·
         rcases Bool.eq_false_or_eq_true (D64 12) with hb71 | hb71
         ·exact False.elim (hJ64 false false true hb65 hb69 hb71)
         ·obtain ⟨FJ64, leJ64, hSJ64⟩ := (hJ64 false false false hb65 hb69 hb71);refine W_bld1 0 rfl Ty.cell43 rfl hSJ64 rfl rfl ?_;refine W_nil ?_;exact N_stepJ rfl (fun u hu => Option.some.inj hu) (fun b10 b11 b12 h10 h11 h12 => by obtain rfl : b10 = false := h10.symm.trans hb65; obtain rfl : b11 = false := h11.symm.trans hb69; obtain rfl : b12 = false := h12.symm.trans hb71; exact ⟨FJ64, leJ64, hSJ64⟩)
      ·intro w72 vq72 D72 hD72 hd72 hJ72;refine W_move rfl rfl ?_;refine W_nil ?_;exact N_stepJ rfl (fun u hu => Option.some.inj hu) hJ72
      ·intro w73 vq73 D73 hD73 hd73 hJ73
       rcases Bool.eq_false_or_eq_true (D73 10) with hb74 | hb74
       ·
        rcases Bool.eq_false_or_eq_true (D73 11) with hb75 | hb75
        ·
         rcases Bool.eq_false_or_eq_true (D73 12) with hb76 | hb76
         ·obtain ⟨FJ73, g15, g16, he73_10, he73_11, leJ73, hSJ73⟩ := (hJ73 true true true hb74 hb75 hb76);refine W_ix rfl Try.underlying43 Ty.cells51 Ty.info51 rfl rfl (he18.el (hSJ73.agree.le leJ73)) hp18 rfl ?_;refine W_nil ?_;exact N_stepJ rfl (fun u hu => Option.some.inj hu) (fun b10 b11 b12 h10 h11 h12 => by obtain rfl : b10 = true := h10.symm.trans hb74; obtain rfl : b11 = true := h11.symm.trans hb75; obtain rfl : b12 = true := h12.symm.trans hb76; exact ⟨FJ73, g15, g16, he73_10, he73_11, leJ73, hSJ73⟩)
         ·obtain ⟨FJ73, g15, g16, he73_10, he73_11, leJ73, hSJ73⟩ := (hJ73 true true false hb74 hb75 hb76);refine W_ix rfl Try.underlying43 Ty.cells51 Ty.info51 rfl rfl (he18.el (hSJ73.agree.le leJ73)) hp18 rfl ?_;refine W_nil ?_;exact N_stepJ rfl (fun u hu => Option.some.inj hu) (fun b10 b11 b12 h10 h11 h12 => by obtain rfl : b10 = true := h10.symm.trans hb74; obtain rfl : b11 = true := h11.symm.trans hb75; obtain rfl : b12 = false := h12.symm.trans hb76; exact ⟨FJ73, g15, g16, he73_10, he73_11, leJ73, hSJ73⟩)
        ·
         rcases Bool.eq_false_or_eq_true (D73 12) with hb77 | hb77
         ·exact False.elim (hJ73 true false true hb74 hb75 hb77)
         ·obtain ⟨FJ73, g15, he73_10, leJ73, hSJ73⟩ := (hJ73 true false false hb74 hb75 hb77);refine W_ix rfl Try.underlying43 Ty.cells51 Ty.info51 rfl rfl (he18.el (hSJ73.agree.le leJ73)) hp18 rfl ?_;refine W_nil ?_;exact N_stepJ rfl (fun u hu => Option.some.inj hu) (fun b10 b11 b12 h10 h11 h12 => by obtain rfl : b10 = true := h10.symm.trans hb74; obtain rfl : b11 = false := h11.symm.trans hb75; obtain rfl : b12 = false := h12.symm.trans hb77; exact ⟨FJ73, g15, he73_10, leJ73, hSJ73⟩)
       ·
        rcases Bool.eq_false_or_eq_true (D73 11) with hb78 | hb78
        ·
         rcases Bool.eq_false_or_eq_true (D73 12) with hb79 | hb79
         ·exact False.elim (hJ73 false true true hb74 hb78 hb79)
         ·obtain ⟨FJ73, g16, he73_11, leJ73, hSJ73⟩ := (hJ73 false true false hb74 hb78 hb79);refine W_ix rfl Try.underlying43 Ty.cells51 Ty.info51 rfl rfl (he18.el (hSJ73.agree.le leJ73)) hp18 rfl ?_;refine W_nil ?_;exact N_stepJ rfl (fun u hu => Option.some.inj hu) (fun b10 b11 b12 h10 h11 h12 => by obtain rfl : b10 = false := h10.symm.trans hb74; obtain rfl : b11 = true := h11.symm.trans hb78; obtain rfl : b12 = false := h12.symm.trans hb79; exact ⟨FJ73, g16, he73_11, leJ73, hSJ73⟩)
        ·
         rcases Bool.eq_false_or_eq_true (D73 12) with hb80 | hb80
         ·exact False.elim (hJ73 false false true hb74 hb78 hb80)
         ·obtain ⟨FJ73, leJ73, hSJ73⟩ := (hJ73 false false false hb74 hb78 hb80);refine W_ix rfl Try.underlying43 Ty.cells51 Ty.info51 rfl rfl (he18.el (hSJ73.agree.le leJ73)) hp18 rfl ?_;refine W_nil ?_;exact N_stepJ rfl (fun u hu => Option.some.inj hu) (fun b10 b11 b12 h10 h11 h12 => by obtain rfl : b10 = false := h10.symm.trans hb74; obtain rfl : b11 = false := h11.symm.trans hb78; obtain rfl : b12 = false := h12.symm.trans hb80; exact ⟨FJ73, leJ73, hSJ73⟩)
      ·intro w81 vq81 D81 hD81 hd81 hJ81
       rcases Bool.eq_false_or_eq_true (D81 10) with hb82 | hb82
       ·
        rcases Bool.eq_false_or_eq_true (D81 11) with hb83 | hb83
        ·
         rcases Bool.eq_false_or_eq_true (D81 12) with hb84 | hb84
         ·obtain ⟨FJ81, g15, g16, he81_10, he81_11, leJ81, hSJ81⟩ := (hJ81 true true true hb82 hb83 hb84);refine W_ldg 0 ((Part.cells x13 ue14_0)) rfl Ty.agg51 Ty.size51 rfl (he18.el (hSJ81.agree.le leJ81)) (by omega) (fun q u h => sub_at (post := []) rfl h) ?_;refine W_nil ?_;exact N_stepJ rfl (fun u hu => Option.some.inj hu) (fun b10 b11 b12 h10 h11 h12 => by obtain rfl : b10 = true := h10.symm.trans hb82; obtain rfl : b11 = true := h11.symm.trans hb83; obtain rfl : b12 = true := h12.symm.trans hb84; exact ⟨FJ81, g15, g16, he81_10, he81_11, leJ81, hSJ81⟩)
         ·obtain ⟨FJ81, g15, g16, he81_10, he81_11, leJ81, hSJ81⟩ := (hJ81 true true false hb82 hb83 hb84);refine W_ldg 0 ((Part.cells x13 ue14_0)) rfl Ty.agg51 Ty.size51 rfl (he18.el (hSJ81.agree.le leJ81)) (by omega) (fun q u h => sub_at (post := []) rfl h) ?_;refine W_nil ?_;exact N_stepJ rfl (fun u hu => Option.some.inj hu) (fun b10 b11 b12 h10 h11 h12 => by obtain rfl : b10 = true := h10.symm.trans hb82; obtain rfl : b11 = true := h11.symm.trans hb83; obtain rfl : b12 = false := h12.symm.trans hb84; exact ⟨FJ81, g15, g16, he81_10, he81_11, leJ81, hSJ81⟩)
        ·
         rcases Bool.eq_false_or_eq_true (D81 12) with hb85 | hb85
         ·exact False.elim (hJ81 true false true hb82 hb83 hb85)
         ·obtain ⟨FJ81, g15, he81_10, leJ81, hSJ81⟩ := (hJ81 true false false hb82 hb83 hb85);refine W_ldg 0 ((Part.cells x13 ue14_0)) rfl Ty.agg51 Ty.size51 rfl (he18.el (hSJ81.agree.le leJ81)) (by omega) (fun q u h => sub_at (post := []) rfl h) ?_;refine W_nil ?_;exact N_stepJ rfl (fun u hu => Option.some.inj hu) (fun b10 b11 b12 h10 h11 h12 => by obtain rfl : b10 = true := h10.symm.trans hb82; obtain rfl : b11 = false := h11.symm.trans hb83; obtain rfl : b12 = false := h12.symm.trans hb85; exact ⟨FJ81, g15, he81_10, leJ81, hSJ81⟩)
       ·
        rcases Bool.eq_false_or_eq_true (D81 11) with hb86 | hb86
        ·
         rcases Bool.eq_false_or_eq_true (D81 12) with hb87 | hb87
         ·exact False.elim (hJ81 false true true hb82 hb86 hb87)
         ·obtain ⟨FJ81, g16, he81_11, leJ81, hSJ81⟩ := (hJ81 false true false hb82 hb86 hb87);refine W_ldg 0 ((Part.cells x13 ue14_0)) rfl Ty.agg51 Ty.size51 rfl (he18.el (hSJ81.agree.le leJ81)) (by omega) (fun q u h => sub_at (post := []) rfl h) ?_;refine W_nil ?_;exact N_stepJ rfl (fun u hu => Option.some.inj hu) (fun b10 b11 b12 h10 h11 h12 => by obtain rfl : b10 = false := h10.symm.trans hb82; obtain rfl : b11 = true := h11.symm.trans hb86; obtain rfl : b12 = false := h12.symm.trans hb87; exact ⟨FJ81, g16, he81_11, leJ81, hSJ81⟩)
        ·
         rcases Bool.eq_false_or_eq_true (D81 12) with hb88 | hb88
         ·exact False.elim (hJ81 false false true hb82 hb86 hb88)
         ·obtain ⟨FJ81, leJ81, hSJ81⟩ := (hJ81 false false false hb82 hb86 hb88);refine W_ldg 0 ((Part.cells x13 ue14_0)) rfl Ty.agg51 Ty.size51 rfl (he18.el (hSJ81.agree.le leJ81)) (by omega) (fun q u h => sub_at (post := []) rfl h) ?_;refine W_nil ?_;exact N_stepJ rfl (fun u hu => Option.some.inj hu) (fun b10 b11 b12 h10 h11 h12 => by obtain rfl : b10 = false := h10.symm.trans hb82; obtain rfl : b11 = false := h11.symm.trans hb86; obtain rfl : b12 = false := h12.symm.trans hb88; exact ⟨FJ81, leJ81, hSJ81⟩)
      ·intro w89 vq89 D89 hD89 hd89 hJ89
       rcases Bool.eq_false_or_eq_true (D89 11) with hb90 | hb90
       ·
        rcases Bool.eq_false_or_eq_true (D89 12) with hb91 | hb91
        ·exact False.elim (hJ89 false true true hD89 hb90 hb91)
        ·obtain ⟨FJ89, g16, he89_11, leJ89, hSJ89⟩ := (hJ89 false true false hD89 hb90 hb91);refine W_alc (cs := [strV [], .int .i64 0, .slice none 0 0]) rfl Ty.zero51 rfl hSJ89 ?_;intro g15 w15 hS15;refine W_nil ?_;exact N_stepJ rfl (fun u (hu : (none : Option Value) = some u) => by cases hu) (fun b10 b11 b12 h10 h11 h12 => by obtain rfl : b10 = true := h10.symm; obtain rfl : b11 = true := h11.symm.trans hb90; obtain rfl : b12 = false := h12.symm.trans hb91; exact ⟨FJ89, g15, g16, rfl, he89_11, leJ89, hS15.pick [1, 0, 2, 3] (by decide)⟩)
       ·
        rcases Bool.eq_false_or_eq_true (D89 12) with hb92 | hb92
        ·exact False.elim (hJ89 false false true hD89 hb90 hb92)
        ·obtain ⟨FJ89, leJ89, hSJ89⟩ := (hJ89 false false false hD89 hb90 hb92);refine W_alc (cs := [strV [], .int .i64 0, .slice none 0 0]) rfl Ty.zero51 rfl hSJ89 ?_;intro g15 w15 hS15;refine W_nil ?_;exact N_stepJ rfl (fun u (hu : (none : Option Value) = some u) => by cases hu) (fun b10 b11 b12 h10 h11 h12 => by obtain rfl : b10 = true := h10.symm; obtain rfl : b11 = false := h11.symm.trans hb90; obtain rfl : b12 = false := h12.symm.trans hb92; exact ⟨FJ89, g15, rfl, leJ89, hS15⟩)
      ·intro w93 vq93 D93 hD93 hd93 hJ93
       rcases Bool.eq_false_or_eq_true (D93 10) with hb94 | hb94
       ·
        rcases Bool.eq_false_or_eq_true (D93 12) with hb95 | hb95
        ·exact False.elim (hJ93 true false true hb94 hD93 hb95)
        ·obtain ⟨FJ93, g15, he93_10, leJ93, hSJ93⟩ := (hJ93 true false false hb94 hD93 hb95);refine W_alc (cs := [strV [], .int .i64 0, .slice none 0 0]) rfl Ty.zero51 rfl hSJ93 ?_;intro g16 w16 hS16;refine W_nil ?_;exact N_stepJ rfl (fun u (hu : (none : Option Value) = some u) => by cases hu) (fun b10 b11 b12 h10 h11 h12 => by obtain rfl : b10 = true := h10.symm.trans hb94; obtain rfl : b11 = true := h11.symm; obtain rfl : b12 = false := h12.symm.trans hb95; exact ⟨FJ93, g15, g16, he93_10, rfl, leJ93, hS16⟩)
       ·
        rcases Bool.eq_false_or_eq_true (D93 12) with hb96 | hb96
        ·exact False.elim (hJ93 false false true hb94 hD93 hb96)
        ·obtain ⟨FJ93, leJ93, hSJ93⟩ := (hJ93 false false false hb94 hD93 hb96);refine W_alc (cs := [strV [], .int .i64 0, .slice none 0 0]) rfl Ty.zero51 rfl hSJ93 ?_;intro g16 w16 hS16;refine W_nil ?_;exact N_stepJ rfl (fun u (hu : (none : Option Value) = some u) => by cases hu) (fun b10 b11 b12 h10 h11 h12 => by obtain rfl : b10 = false := h10.symm.trans hb94; obtain rfl : b11 = true := h11.symm; obtain rfl : b12 = false := h12.symm.trans hb96; exact ⟨FJ93, g16, rfl, leJ93, hS16⟩)
      ·intro w97 vq97 D97 hD97 hd97 hJ97;obtain ⟨FJ97, g15, g16, he97_10, he97_11, leJ97, hSJ97⟩ := (hJ97 true true false (hd97 10 (by decide)) (hd97 11 (by decide)) hD97);refine W_eqv (t := 6) rfl he97_10 ?_;refine W_eqv (t := 7) rfl he97_11 ?_;refine W_bst (c := [strV x11.path, .int .i64 x11.size, ue12_0]) 1 ([strV x11.path, .int .i64 x11.size, ue12_0]) rfl rfl hSJ97 rfl rfl Ty.size51 (fun y hy => Part.t.one (F := FJ97) (x := x11) ⟨ue12_0, rfl, (hue12_0.mono leJ97)⟩ y hy) (Nat.le_of_ble_eq_true rfl) rfl ?_;intro w98 hS98;refine W_nil ?_;exact N_stepJ0 (fun b10 b11 b12 h10 h11 h12 => by obtain rfl : b10 = true := h10.symm.trans (hd97 10 (by decide)); obtain rfl : b11 = true := h11.symm.trans (hd97 11 (by decide)); obtain rfl : b12 = true := h12.symm; exact ⟨FJ97, g15, g16, he97_10, he97_11, leJ97, hS98⟩)
     intro w99 vq99 D99 hA99 hJ99;obtain ⟨FJ99, g15, g16, he99_10, he99_11, leJ99, hSJ99⟩ := (hJ99 true true true (hA99 10 (by decide)) (hA99 11 (by decide)) (hA99 12 (by decide)));refine W_eqv (t := 6) rfl he99_10 ?_;refine W_eqv (t := 7) rfl he99_11 ?_;refine W_bst (c := [strV x13.path, .int .i64 x13.size, ue14_0]) 0 ([strV x13.path, .int .i64 x13.size, ue14_0]) rfl rfl hSJ99 rfl rfl Ty.size51 (fun y hy => Part.t.one (F := FJ99) (x := x13) ⟨ue14_0, rfl, (hue14_0.mono leJ99)⟩ y hy) (Nat.le_of_ble_eq_true rfl) rfl ?_;intro w100 hS100;refine W_nil ?_;refine N_code ?_;refine C_seq ?_;obtain ⟨r101, hr101, H⟩ := bd_some H;refine C_join (fun E wq => E = [(2, pl g1 0), (3, pl g2 0), (5, .int .i64 i8), (58, .bool (((!(x11.path == x13.path)) || decide (x11.size ≠ x13.size)) || (!r101)))] ∧ ∃ F102 : Frz, FJ99.le F102 ∧ St [] w F F102 [.box g16 51 [strV x13.path, .int .i64 x13.size, ue14_0], .box g15 51 [strV x11.path, .int .i64 x11.size, ue12_0], .box g2 45 [strV x1.name, v1_0], .box g1 45 [strV x0.name, v0_0]] wq) ?_ ?_
     ·
      rcases Bool.eq_false_or_eq_true (!(x11.path == x13.path)) with hb103 | hb103
      ·refine C_region ?_;refine W_field_pl 0 rfl Ty.field51_0 rfl ?_;refine W_bld1 1 rfl Ty.cell9 rfl hS100 rfl rfl ?_;refine W_field_pl 0 rfl Ty.field51_0 rfl ?_;refine W_bld1 0 rfl Ty.cell9 rfl hS100 rfl rfl ?_;refine W_neqS rfl rfl rfl ?_;refine W_move rfl rfl ?_;refine W_known (t := 44) true rfl hb103 ?_;refine W_guard_no rfl rfl rfl rfl rfl ?_;refine W_guard_no rfl rfl rfl rfl rfl ?_;refine W_guard_no rfl rfl rfl rfl rfl ?_;refine W_guard_no rfl rfl rfl rfl rfl ?_;refine W_guard_no rfl rfl rfl rfl rfl ?_;refine W_pick_t rfl rfl rfl ?_;refine W_move rfl rfl ?_;refine W_guard_no rfl rfl rfl rfl rfl ?_;refine W_guard_no rfl rfl rfl rfl rfl ?_;refine W_guard_no rfl rfl rfl rfl rfl ?_;refine W_guard_no rfl rfl rfl rfl rfl ?_;refine W_guard_no rfl rfl rfl rfl rfl ?_;refine W_guard_no rfl rfl rfl rfl rfl ?_;refine W_pick_t rfl rfl rfl ?_;refine W_nil ?_;exact N_join _ ⟨rfl, FJ99, (Frz.le.refl _), hS100⟩ ⟨rfl, rfl, rfl, (look_bool rfl (by first | rfl | (rw [hb103]; first | done | rfl) | simp [hb103])), trivial⟩
      ·
       rcases Bool.eq_false_or_eq_true (decide (x11.size ≠ x13.size)) with hb104 | hb104
       ·refine C_region ?_;refine W_field_pl 0 rfl Ty.field51_0 rfl ?_;refine W_bld1 1 rfl Ty.cell9 rfl hS100 rfl rfl ?_;refine W_field_pl 0 rfl Ty.field51_0 rfl ?_;refine W_bld1 0 rfl Ty.cell9 rfl hS100 rfl rfl ?_;refine W_neqS rfl rfl rfl ?_;refine W_move rfl rfl ?_;refine W_known (t := 44) false rfl hb103 ?_;refine W_guard_yes rfl ?_;refine W_field_pl 1 rfl Ty.field51_1 rfl ?_;refine W_guard_yes rfl ?_;refine W_bld1 1 rfl Ty.cell3 rfl hS100 rfl rfl ?_;refine W_guard_yes rfl ?_;refine W_field_pl 1 rfl Ty.field51_1 rfl ?_;refine W_guard_yes rfl ?_;refine W_bld1 0 rfl Ty.cell3 rfl hS100 rfl rfl ?_;refine W_guard_yes rfl ?_;refine W_neq rfl rfl rfl ?_;refine W_pick_f rfl rfl rfl ?_;refine W_move rfl rfl ?_;refine W_known (t := 51) true rfl hb104 ?_;refine W_guard_no rfl rfl rfl rfl rfl ?_;refine W_guard_no rfl rfl rfl rfl rfl ?_;refine W_guard_no rfl rfl rfl rfl rfl ?_;refine W_guard_no rfl rfl rfl rfl rfl ?_;refine W_guard_no rfl rfl rfl rfl rfl ?_;refine W_guard_no rfl rfl rfl rfl rfl ?_;refine W_pick_t rfl rfl rfl ?_;refine W_nil ?_;exact N_join _ ⟨rfl, FJ99, (Frz.le.refl _), hS100⟩ ⟨rfl, rfl, rfl, (look_bool rfl (by first | rfl | (rw [hb104, hb103]; first | done | rfl) | simp [hb103, hb104])), trivial⟩
       ·refine C_region ?_;refine W_field_pl 0 rfl Ty.field51_0 rfl ?_;refine W_bld1 1 rfl Ty.cell9 rfl hS100 rfl rfl ?_;refine W_field_pl 0 rfl Ty.field51_0 rfl ?_;refine W_bld1 0 rfl Ty.cell9 rfl hS100 rfl rfl ?_;refine W_neqS rfl rfl rfl ?_;refine W_move rfl rfl ?_;refine W_known (t := 44) false rfl hb103 ?_;refine W_guard_yes rfl ?_;refine W_field_pl 1 rfl Ty.field51_1 rfl ?_;refine W_guard_yes rfl ?_;refine W_bld1 1 rfl Ty.cell3 rfl hS100 rfl rfl ?_;refine W_guard_yes rfl ?_;refine W_field_pl 1 rfl Ty.field51_1 rfl ?_;refine W_guard_yes rfl ?_;refine W_bld1 0 rfl Ty.cell3 rfl hS100 rfl rfl ?_;refine W_guard_yes rfl ?_;refine W_neq rfl rfl rfl ?_;refine W_pick_f rfl rfl rfl ?_;refine W_move rfl rfl ?_;refine W_known (t := 51) false rfl hb104 ?_;refine W_guard_yes rfl ?_;refine W_field_pl 2 rfl Ty.field51_2 rfl ?_;refine W_guard_yes rfl ?_;refine W_bld1 1 rfl Ty.cell49 rfl hS100 rfl rfl ?_;refine W_guard_yes rfl ?_;refine W_field_pl 2 rfl Ty.field51_2 rfl ?_;refine W_guard_yes rfl ?_;refine W_bld1 0 rfl Ty.cell49 rfl hS100 rfl rfl ?_;refine W_guard_yes rfl ?_;have hy105 := hr101;rw [only_t (by first | rfl | (rw [hb104, hb103]; first | done | rfl) | simp [hb103, hb104])] at hy105;refine W_call rfl Ty.named50 rfl (cellarerkeep_Ids_ok hS100.agree (hue12_0.mono leJ99) (hue14_0.mono leJ99) hy105) ?_;rintro v106 w106 ⟨Fr101, rfl, hT106⟩;have hS106 := hS100.lent hT106;refine W_guard_yes rfl ?_;refine W_not rfl rfl ?_;refine W_pick_f rfl rfl rfl ?_;refine W_nil ?_;exact N_join _ ⟨rfl, FJ99, (Frz.le.refl _), hS106⟩ ⟨rfl, rfl, rfl, (look_bool rfl (by first | rfl | (rw [hb104, hb103]; first | done | rfl) | simp [hb103, hb104])), trivial⟩
     rintro E w102 ⟨rfl, F102, le102, hS102⟩;refine N_code ?_;refine C_cond rfl (fun hc107 => ?_) (fun hc107 => ?_)
     ·rw [if_t hc107] at H;refine C_seq ?_;refine C_region ?_;refine W_assign rfl rfl ?_;refine W_nil ?_;refine N_code ?_;obtain rfl := Option.some.inj H;refine C_ret rfl rfl ?_;exact ⟨F102, rfl, hS102.pick [] (by decide)⟩
     ·rw [if_f hc107] at H;refine C_skip ?_;refine N_block ?_;refine N_code ?_;refine C_region ?_;refine W_move rfl rfl ?_;refine W_add rfl rfl rfl rfl ?_;refine W_assign rfl rfl ?_;refine W_nil ?_;exact N_againM (wr (i8 + 1)) _ H ⟨F102, rfl, ((le7.trans leJ99).trans le102), hS102.pick [2, 3] (by decide)⟩ ⟨rfl, rfl, rfl, trivial⟩
    ·rw [if_f hc10] at H;refine C_exit _ rfl ?_;exact N_join _ ⟨H, ⟨F7, rfl, le7, hS7.pick [] (by decide)⟩⟩ trivial
  ·rintro E w6 ⟨H, F6, rfl, le6, hS6⟩;dsimp only [cellarerkeep_Manifest.k1] at H;refine C_seq ?_;refine C_region ?_;refine W_assign rfl rfl ?_;refine W_nil ?_;refine N_code ?_;obtain rfl := Option.some.inj H;refine C_ret rfl rfl ?_;exact ⟨F6, rfl, hS6⟩

end
end Go.Wk.Lf
