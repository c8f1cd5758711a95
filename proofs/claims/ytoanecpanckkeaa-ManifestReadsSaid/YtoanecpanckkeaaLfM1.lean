import Derived.Test.YtoanecpanckkeaaLfS
namespace Go.Wk.Lf
open Go.Proofs Go.RowKit
set_option linter.unusedVariables false
set_option linter.unusedSimpArgs false
noncomputable section

def tree_Name.k1 : Option Bool :=
  some true


def tree_Name.l2 (x0 : List UInt8) (rec7 : Int → Option Bool) : Int → Option Bool
  | i6 =>
    if decide (i6 < (x0.length : Int)) then
      bd (ix x0 i6) fun x9 =>
      bd (only (!decide ((x9.toNat : Int) < 33)) (ix x0 i6) 0) fun x10 =>
      if (decide ((x9.toNat : Int) < 33) || decide (126 < (x10.toNat : Int))) then
        some false
      else
        rec7 (wr (i6 + 1))
    else
      tree_Name.k1

def tree_Name (x0 : List UInt8) : Option Bool :=
  if (decide ((x0.length : Int) < 1) || decide (20 < (x0.length : Int))) then
    some false
  else
    loop (tree_Name.l2 x0) 0

theorem tree_Name_ok {F : Frz} {w : World} {x0 : List UInt8} {r : Bool} (hA : Agree F w.heap) (H : tree_Name x0 = some r) : Ret Try.prog 15 #[strV x0] w fun v w' => ∃ (F' : Frz), v = .bool r ∧ St [] w F F' [] w' := by
 refine Ret_of (args := [strV x0]) Try.func15 rfl rfl ?_;change C _ _ _ _ [(0, strV x0)] _;have hS := St.entry hA;dsimp only [tree_Name] at H;refine C_seq ?_;refine C_region ?_;refine W_assign rfl rfl ?_;refine W_nil ?_;refine N_code ?_;refine C_seq ?_;refine C_seq ?_;refine C_join (fun E wq => E = [(0, strV x0), (11, .bool (decide ((x0.length : Int) < 1) || decide (20 < (x0.length : Int))))] ∧ ∃ F1 : Frz, F.le F1 ∧ St [] w F F1 [] wq) ?_ ?_
 ·
  rcases Bool.eq_false_or_eq_true (decide ((x0.length : Int) < 1)) with hb2 | hb2
  ·refine C_region ?_;refine W_move rfl rfl ?_;refine W_lenS rfl Try.underlying9 rfl ?_;refine W_lss rfl rfl rfl ?_;refine W_move rfl rfl ?_;refine W_known (t := 7) true rfl hb2 ?_;refine W_guard_no rfl rfl rfl rfl rfl ?_;refine W_guard_no rfl rfl rfl rfl rfl ?_;refine W_guard_no rfl rfl rfl rfl rfl ?_;refine W_pick_t rfl rfl rfl ?_;refine W_nil ?_;exact N_join _ ⟨rfl, F, (Frz.le.refl _), hS⟩ ⟨rfl, (look_bool rfl (by first | rfl | (rw [hb2]; first | done | rfl) | simp [hb2])), trivial⟩
  ·refine C_region ?_;refine W_move rfl rfl ?_;refine W_lenS rfl Try.underlying9 rfl ?_;refine W_lss rfl rfl rfl ?_;refine W_move rfl rfl ?_;refine W_known (t := 7) false rfl hb2 ?_;refine W_guard_yes rfl ?_;refine W_move rfl rfl ?_;refine W_guard_yes rfl ?_;refine W_lenS rfl Try.underlying9 rfl ?_;refine W_guard_yes rfl ?_;refine W_gtr rfl rfl rfl ?_;refine W_pick_f rfl rfl rfl ?_;refine W_nil ?_;exact N_join _ ⟨rfl, F, (Frz.le.refl _), hS⟩ ⟨rfl, (look_bool rfl (by first | rfl | (rw [hb2]; first | done | rfl) | simp [hb2])), trivial⟩
 rintro E w1 ⟨rfl, F1, le1, hS1⟩;refine N_code ?_;refine C_cond rfl (fun hc3 => ?_) (fun hc3 => ?_)
 ·rw [if_t hc3] at H;refine C_seq ?_;refine C_region ?_;refine W_assign rfl rfl ?_;refine W_nil ?_;refine N_code ?_;obtain rfl := Option.some.inj H;refine C_ret rfl rfl ?_;exact ⟨F1, rfl, hS1⟩
 ·rw [if_f hc3] at H;refine C_skip ?_;refine N_code ?_;refine C_seq_join (fun E wq => tree_Name.k1 = some r ∧ ∃ (F4 : Frz), E = [] ∧ F1.le F4 ∧ St [] w F F4 [] wq) ?_ ?_
  ·refine C_seq ?_;refine C_region ?_;refine W_move rfl rfl ?_;refine W_lenS rfl Try.underlying9 rfl ?_;refine W_move rfl rfl ?_;refine W_nil ?_;refine N_code ?_;refine C_block ?_;refine C_loopM (fun (s : Int) E wq => ∃ (F5 : Frz), E = [(0, strV x0), (13, .int .i64 (x0.length : Int)), (14, .int .i64 s)] ∧ F1.le F5 ∧ St [] w F F5 [] wq) H ?_ ?_
   ·exact ⟨_, ⟨F1, rfl, (Frz.le.refl _), hS1⟩, ⟨rfl, rfl, rfl, trivial⟩⟩
   ·rintro rec7 i6 E w5 hI H;(try dsimp only at hI);obtain ⟨F5, rfl, le5, hS5⟩ := hI;dsimp only [tree_Name.l2] at H;refine C_seq ?_;refine C_region ?_;refine W_lss rfl rfl rfl ?_;refine W_nil ?_;refine N_code ?_;refine C_seq ?_;refine C_cond rfl (fun hc8 => ?_) (fun hc8 => ?_)
    ·rw [if_t hc8] at H;refine C_skip ?_;refine N_code ?_;refine C_seq ?_;refine C_block ?_;refine C_seq ?_;refine C_region ?_;refine W_move rfl rfl ?_;refine W_assign rfl rfl ?_;refine W_nil ?_;refine N_code ?_;refine C_seq ?_;obtain ⟨x9, hx9, H⟩ := bd_some H;obtain ⟨x10, hx10, H⟩ := bd_some H;refine C_join (fun E wq => E = [(0, strV x0), (13, .int .i64 (x0.length : Int)), (14, .int .i64 i6), (26, .bool (decide ((x9.toNat : Int) < 33) || decide (126 < (x10.toNat : Int))))] ∧ ∃ F11 : Frz, F5.le F11 ∧ St [] w F F11 [] wq) ?_ ?_
     ·
      rcases Bool.eq_false_or_eq_true (decide ((x9.toNat : Int) < 33)) with hb12 | hb12
      ·refine C_region ?_;refine W_move rfl rfl ?_;refine W_move rfl rfl ?_;obtain ⟨hp13, hy13⟩ := ix_some hx9;refine W_ixS rfl Try.underlying9 rfl rfl hp13 rfl hy13 ?_;refine W_lss rfl rfl rfl ?_;refine W_move rfl rfl ?_;refine W_known (t := 21) true rfl hb12 ?_;refine W_guard_no rfl rfl rfl rfl rfl ?_;refine W_guard_no rfl rfl rfl rfl rfl ?_;refine W_guard_no rfl rfl rfl rfl rfl ?_;refine W_guard_no rfl rfl rfl rfl rfl ?_;refine W_pick_t rfl rfl rfl ?_;refine W_nil ?_;exact N_join _ ⟨rfl, F5, (Frz.le.refl _), hS5⟩ ⟨rfl, rfl, rfl, (look_bool rfl (by first | rfl | (rw [hb12]; first | done | rfl) | simp [hb12])), trivial⟩
      ·refine C_region ?_;refine W_move rfl rfl ?_;refine W_move rfl rfl ?_;obtain ⟨hp14, hy14⟩ := ix_some hx9;refine W_ixS rfl Try.underlying9 rfl rfl hp14 rfl hy14 ?_;refine W_lss rfl rfl rfl ?_;refine W_move rfl rfl ?_;refine W_known (t := 21) false rfl hb12 ?_;refine W_guard_yes rfl ?_;refine W_move rfl rfl ?_;refine W_guard_yes rfl ?_;refine W_move rfl rfl ?_;refine W_guard_yes rfl ?_;have hy16 := hx10;rw [only_t (by first | rfl | (rw [hb12]; first | done | rfl) | simp [hb12])] at hy16;obtain ⟨hp15, hy15⟩ := ix_some hy16;refine W_ixS rfl Try.underlying9 rfl rfl hp15 rfl hy15 ?_;refine W_guard_yes rfl ?_;refine W_gtr rfl rfl rfl ?_;refine W_pick_f rfl rfl rfl ?_;refine W_nil ?_;exact N_join _ ⟨rfl, F5, (Frz.le.refl _), hS5⟩ ⟨rfl, rfl, rfl, (look_bool rfl (by first | rfl | (rw [hb12]; first | done | rfl) | simp [hb12])), trivial⟩
     rintro E w11 ⟨rfl, F11, le11, hS11⟩;refine N_code ?_;refine C_cond rfl (fun hc17 => ?_) (fun hc17 => ?_)
     ·rw [if_t hc17] at H;refine C_seq ?_;refine C_region ?_;refine W_assign rfl rfl ?_;refine W_nil ?_;refine N_code ?_;obtain rfl := Option.some.inj H;refine C_ret rfl rfl ?_;exact ⟨F11, rfl, hS11⟩
     ·rw [if_f hc17] at H;refine C_skip ?_;refine N_block ?_;refine N_code ?_;refine C_region ?_;refine W_add rfl rfl rfl rfl ?_;refine W_move rfl rfl ?_;refine W_nil ?_;exact N_againM (wr (i6 + 1)) _ H ⟨F11, rfl, (le5.trans le11), hS11⟩ ⟨rfl, rfl, rfl, trivial⟩
    ·rw [if_f hc8] at H;refine C_exit _ rfl ?_;exact N_join _ ⟨H, ⟨F5, rfl, le5, hS5⟩⟩ trivial
  ·rintro E w4 ⟨H, F4, rfl, le4, hS4⟩;dsimp only [tree_Name.k1] at H;refine C_seq ?_;refine C_region ?_;refine W_assign rfl rfl ?_;refine W_nil ?_;refine N_code ?_;obtain rfl := Option.some.inj H;refine C_ret rfl rfl ?_;exact ⟨F4, rfl, hS4⟩

def manifest_part (x0 : Part) : Option Bool :=
  bd (tree_Name x0.path) fun r2 =>
  some ((((r2 && decide (0 ≤ x0.size)) && decide (x0.size ≤ 200)) && decide ((x0.ids.length : Int) ≤ 25)) && (decide ((x0.ids.length : Int) = 0) == decide (x0.size = 0)))

theorem manifest_part_ok {F : Frz} {w : World} {x0 : Part} {r : Bool} {v0_0 : Value} (hA : Agree F w.heap) (h0_0 : SlF tId F v0_0 x0.ids) (H : manifest_part x0 = some r) : Ret Try.prog 86 #[.agg (Part.cells x0 v0_0).toArray] w fun v w' => ∃ (F' : Frz), v = .bool r ∧ St [] w F F' [] w' := by
 refine Ret_of (args := [.agg (Part.cells x0 v0_0).toArray]) Try.func86 rfl rfl ?_;change C _ _ _ _ [(0, .agg (Part.cells x0 v0_0).toArray)] _;have hS := St.entry hA;dsimp only [manifest_part] at H;refine C_seq ?_;refine C_region ?_;refine W_bx (cs := [strV x0.path, .int .i64 x0.size, v0_0]) rfl rfl rfl hS ?_;intro g1 w1 hS1;refine W_assign rfl rfl ?_;refine W_nil ?_;refine N_code ?_;refine C_seq ?_;obtain ⟨r2, hr2, H⟩ := bd_some H;refine C_join (fun E wq => E = [(2, .bool ((((r2 && decide (0 ≤ x0.size)) && decide (x0.size ≤ 200)) && decide ((x0.ids.length : Int) ≤ 25)) && (decide ((x0.ids.length : Int) = 0) == decide (x0.size = 0))))] ∧ ∃ F3 : Frz, F.le F3 ∧ St [] w F F3 [.box g1 51 [strV x0.path, .int .i64 x0.size, v0_0]] wq) ?_ ?_
 ·
  rcases Bool.eq_false_or_eq_true r2 with hb4 | hb4
  ·
   rcases Bool.eq_false_or_eq_true (decide (0 ≤ x0.size)) with hb5 | hb5
   ·
    rcases Bool.eq_false_or_eq_true (decide (x0.size ≤ 200)) with hb6 | hb6
    ·
     rcases Bool.eq_false_or_eq_true (decide ((x0.ids.length : Int) ≤ 25)) with hb7 | hb7
     ·refine C_region ?_;refine W_field_pl 0 rfl Ty.field51_0 rfl ?_;refine W_bld1 0 rfl Ty.cell9 rfl hS1 rfl rfl ?_;refine W_call rfl Ty.named15 rfl (tree_Name_ok hS1.agree hr2) ?_;rintro v8 w8 ⟨Fr2, rfl, hT8⟩;have hS8 := hS1.lent hT8;refine W_move rfl rfl ?_;refine W_known (t := 6) true rfl hb4 ?_;refine W_guard_yes rfl ?_;refine W_field_pl 1 rfl Ty.field51_1 rfl ?_;refine W_guard_yes rfl ?_;refine W_bld1 0 rfl Ty.cell3 rfl hS8 rfl rfl ?_;refine W_guard_yes rfl ?_;refine W_geq rfl rfl rfl ?_;refine W_pick_t rfl rfl rfl ?_;refine W_move rfl rfl ?_;refine W_known (t := 11) true rfl hb5 ?_;refine W_guard_yes rfl ?_;refine W_field_pl 1 rfl Ty.field51_1 rfl ?_;refine W_guard_yes rfl ?_;refine W_bld1 0 rfl Ty.cell3 rfl hS8 rfl rfl ?_;refine W_guard_yes rfl ?_;refine W_leq rfl rfl rfl ?_;refine W_pick_t rfl rfl rfl ?_;refine W_move rfl rfl ?_;refine W_known (t := 16) true rfl hb6 ?_;refine W_guard_yes rfl ?_;refine W_field_pl 2 rfl Ty.field51_2 rfl ?_;refine W_guard_yes rfl ?_;refine W_bld1 0 rfl Ty.cell49 rfl hS8 rfl rfl ?_;refine W_guard_yes rfl ?_;refine W_lenv rfl Try.underlying49 rfl h0_0.ln ?_;refine W_guard_yes rfl ?_;refine W_leq rfl rfl rfl ?_;refine W_pick_t rfl rfl rfl ?_;refine W_move rfl rfl ?_;refine W_known (t := 22) true rfl hb7 ?_;refine W_guard_yes rfl ?_;refine W_field_pl 2 rfl Ty.field51_2 rfl ?_;refine W_guard_yes rfl ?_;refine W_bld1 0 rfl Ty.cell49 rfl hS8 rfl rfl ?_;refine W_guard_yes rfl ?_;refine W_lenv rfl Try.underlying49 rfl h0_0.ln ?_;refine W_guard_yes rfl ?_;refine W_eql rfl rfl rfl ?_;refine W_guard_yes rfl ?_;refine W_field_pl 1 rfl Ty.field51_1 rfl ?_;refine W_guard_yes rfl ?_;refine W_bld1 0 rfl Ty.cell3 rfl hS8 rfl rfl ?_;refine W_guard_yes rfl ?_;refine W_eql rfl rfl rfl ?_;refine W_guard_yes rfl ?_;refine W_eqlb rfl Try.underlying4 rfl rfl ?_;refine W_pick_t rfl rfl rfl ?_;refine W_assign rfl rfl ?_;refine W_nil ?_;exact N_join _ ⟨rfl, F, (Frz.le.refl _), hS8⟩ ⟨(look_bool rfl (by first | rfl | (rw [hb7, hb6, hb5, hb4]; first | done | rfl) | simp [hb4, hb5, hb6, hb7])), trivial⟩
     ·refine C_region ?_;refine W_field_pl 0 rfl Ty.field51_0 rfl ?_;refine W_bld1 0 rfl Ty.cell9 rfl hS1 rfl rfl ?_;refine W_call rfl Ty.named15 rfl (tree_Name_ok hS1.agree hr2) ?_;rintro v9 w9 ⟨Fr2, rfl, hT9⟩;have hS9 := hS1.lent hT9;refine W_move rfl rfl ?_;refine W_known (t := 6) true rfl hb4 ?_;refine W_guard_yes rfl ?_;refine W_field_pl 1 rfl Ty.field51_1 rfl ?_;refine W_guard_yes rfl ?_;refine W_bld1 0 rfl Ty.cell3 rfl hS9 rfl rfl ?_;refine W_guard_yes rfl ?_;refine W_geq rfl rfl rfl ?_;refine W_pick_t rfl rfl rfl ?_;refine W_move rfl rfl ?_;refine W_known (t := 11) true rfl hb5 ?_;refine W_guard_yes rfl ?_;refine W_field_pl 1 rfl Ty.field51_1 rfl ?_;refine W_guard_yes rfl ?_;refine W_bld1 0 rfl Ty.cell3 rfl hS9 rfl rfl ?_;refine W_guard_yes rfl ?_;refine W_leq rfl rfl rfl ?_;refine W_pick_t rfl rfl rfl ?_;refine W_move rfl rfl ?_;refine W_known (t := 16) true rfl hb6 ?_;refine W_guard_yes rfl ?_;refine W_field_pl 2 rfl Ty.field51_2 rfl ?_;refine W_guard_yes rfl ?_;refine W_bld1 0 rfl Ty.cell49 rfl hS9 rfl rfl ?_;refine W_guard_yes rfl ?_;refine W_lenv rfl Try.underlying49 rfl h0_0.ln ?_;refine W_guard_yes rfl ?_;refine W_leq rfl rfl rfl ?_;refine W_pick_t rfl rfl rfl ?_;refine W_move rfl rfl ?_;refine W_known (t := 22) false rfl hb7 ?_;refine W_guard_no rfl rfl rfl rfl rfl ?_;refine W_guard_no rfl rfl rfl rfl rfl ?_;refine W_guard_no rfl rfl rfl rfl rfl ?_;refine W_guard_no rfl rfl rfl rfl rfl ?_;refine W_guard_no rfl rfl rfl rfl rfl ?_;refine W_guard_no rfl rfl rfl rfl rfl ?_;refine W_guard_no rfl rfl rfl rfl rfl ?_;refine W_guard_no rfl rfl rfl rfl rfl ?_;refine W_pick_f rfl rfl rfl ?_;refine W_assign rfl rfl ?_;refine W_nil ?_;exact N_join _ ⟨rfl, F, (Frz.le.refl _), hS9⟩ ⟨(look_bool rfl (by first | rfl | (rw [hb7, hb6, hb5, hb4]; first | done | rfl) | simp [hb4, hb5, hb6, hb7])), trivial⟩
    ·refine C_region ?_;refine W_field_pl 0 rfl Ty.field51_0 rfl ?_;refine W_bld1 0 rfl Ty.cell9 rfl hS1 rfl rfl ?_;refine W_call rfl Ty.named15 rfl (tree_Name_ok hS1.agree hr2) ?_;rintro v10 w10 ⟨Fr2, rfl, hT10⟩;have hS10 := hS1.lent hT10;refine W_move rfl rfl ?_;refine W_known (t := 6) true rfl hb4 ?_;refine W_guard_yes rfl ?_;refine W_field_pl 1 rfl Ty.field51_1 rfl ?_;refine W_guard_yes rfl ?_;refine W_bld1 0 rfl Ty.cell3 rfl hS10 rfl rfl ?_;refine W_guard_yes rfl ?_;refine W_geq rfl rfl rfl ?_;refine W_pick_t rfl rfl rfl ?_;refine W_move rfl rfl ?_;refine W_known (t := 11) true rfl hb5 ?_;refine W_guard_yes rfl ?_;refine W_field_pl 1 rfl Ty.field51_1 rfl ?_;refine W_guard_yes rfl ?_;refine W_bld1 0 rfl Ty.cell3 rfl hS10 rfl rfl ?_;refine W_guard_yes rfl ?_;refine W_leq rfl rfl rfl ?_;refine W_pick_t rfl rfl rfl ?_;refine W_move rfl rfl ?_;refine W_known (t := 16) false rfl hb6 ?_;refine W_guard_no rfl rfl rfl rfl rfl ?_;refine W_guard_no rfl rfl rfl rfl rfl ?_;refine W_guard_no rfl rfl rfl rfl rfl ?_;refine W_guard_no rfl rfl rfl rfl rfl ?_;refine W_pick_f rfl rfl rfl ?_;refine W_move rfl rfl ?_;refine W_guard_no rfl rfl rfl rfl rfl ?_;refine W_guard_no rfl rfl rfl rfl rfl ?_;refine W_guard_no rfl rfl rfl rfl rfl ?_;refine W_guard_no rfl rfl rfl rfl rfl ?_;refine W_guard_no rfl rfl rfl rfl rfl ?_;refine W_guard_no rfl rfl rfl rfl rfl ?_;refine W_guard_no rfl rfl rfl rfl rfl ?_;refine W_guard_no rfl rfl rfl rfl rfl ?_;refine W_pick_f rfl rfl rfl ?_;refine W_assign rfl rfl ?_;refine W_nil ?_;exact N_join _ ⟨rfl, F, (Frz.le.refl _), hS10⟩ ⟨(look_bool rfl (by first | rfl | (rw [hb6, hb5, hb4]; first | done | rfl) | simp [hb4, hb5, hb6])), trivial⟩
   ·refine C_region ?_;refine W_field_pl 0 rfl Ty.field51_0 rfl ?_;refine W_bld1 0 rfl Ty.cell9 rfl hS1 rfl rfl ?_;refine W_call rfl Ty.named15 rfl (tree_Name_ok hS1.agree hr2) ?_;rintro v11 w11 ⟨Fr2, rfl, hT11⟩;have hS11 := hS1.lent hT11;refine W_move rfl rfl ?_;refine W_known (t := 6) true rfl hb4 ?_;refine W_guard_yes rfl ?_;refine W_field_pl 1 rfl Ty.field51_1 rfl ?_;refine W_guard_yes rfl ?_;refine W_bld1 0 rfl Ty.cell3 rfl hS11 rfl rfl ?_;refine W_guard_yes rfl ?_;refine W_geq rfl rfl rfl ?_;refine W_pick_t rfl rfl rfl ?_;refine W_move rfl rfl ?_;refine W_known (t := 11) false rfl hb5 ?_;refine W_guard_no rfl rfl rfl rfl rfl ?_;refine W_guard_no rfl rfl rfl rfl rfl ?_;refine W_guard_no rfl rfl rfl rfl rfl ?_;refine W_pick_f rfl rfl rfl ?_;refine W_move rfl rfl ?_;refine W_guard_no rfl rfl rfl rfl rfl ?_;refine W_guard_no rfl rfl rfl rfl rfl ?_;refine W_guard_no rfl rfl rfl rfl rfl ?_;refine W_guard_no rfl rfl rfl rfl rfl ?_;refine W_pick_f rfl rfl rfl ?_;refine W_move rfl rfl ?_;refine W_guard_no rfl rfl rfl rfl rfl ?_;refine W_guard_no rfl rfl rfl rfl rfl ?_;refine W_guard_no rfl rfl rfl rfl rfl ?_;refine W_guard_no rfl rfl rfl rfl rfl ?_;refine W_guard_no rfl rfl rfl rfl rfl ?_;refine W_guard_no rfl rfl rfl rfl rfl ?_;refine W_guard_no rfl rfl rfl rfl rfl ?_;refine W_guard_no rfl rfl rfl rfl rfl ?_;refine W_pick_f rfl rfl rfl ?_;refine W_assign rfl rfl ?_;refine W_nil ?_;exact N_join _ ⟨rfl, F, (Frz.le.refl _), hS11⟩ ⟨(look_bool rfl (by first | rfl | (rw [hb5, hb4]; first | done | rfl) | simp [hb4, hb5])), trivial⟩
  ·refine C_region ?_;refine W_field_pl 0 rfl Ty.field51_0 rfl ?_;refine W_bld1 0 rfl Ty.cell9 rfl hS1 rfl rfl ?_;refine W_call rfl Ty.named15 rfl (tree_Name_ok hS1.agree hr2) ?_;rintro v12 w12 ⟨Fr2, rfl, hT12⟩;have hS12 := hS1.lent hT12;refine W_move rfl rfl ?_;refine W_known (t := 6) false rfl hb4 ?_;refine W_guard_no rfl rfl rfl rfl rfl ?_;refine W_guard_no rfl rfl rfl rfl rfl ?_;refine W_guard_no rfl rfl rfl rfl rfl ?_;refine W_pick_f rfl rfl rfl ?_;refine W_move rfl rfl ?_;refine W_guard_no rfl rfl rfl rfl rfl ?_;refine W_guard_no rfl rfl rfl rfl rfl ?_;refine W_guard_no rfl rfl rfl rfl rfl ?_;refine W_pick_f rfl rfl rfl ?_;refine W_move rfl rfl ?_;refine W_guard_no rfl rfl rfl rfl rfl ?_;refine W_guard_no rfl rfl rfl rfl rfl ?_;refine W_guard_no rfl rfl rfl rfl rfl ?_;refine W_guard_no rfl rfl rfl rfl rfl ?_;refine W_pick_f rfl rfl rfl ?_;refine W_move rfl rfl ?_;refine W_guard_no rfl rfl rfl rfl rfl ?_;refine W_guard_no rfl rfl rfl rfl rfl ?_;refine W_guard_no rfl rfl rfl rfl rfl ?_;refine W_guard_no rfl rfl rfl rfl rfl ?_;refine W_guard_no rfl rfl rfl rfl rfl ?_;refine W_guard_no rfl rfl rfl rfl rfl ?_;refine W_guard_no rfl rfl rfl rfl rfl ?_;refine W_guard_no rfl rfl rfl rfl rfl ?_;refine W_pick_f rfl rfl rfl ?_;refine W_assign rfl rfl ?_;refine W_nil ?_;exact N_join _ ⟨rfl, F, (Frz.le.refl _), hS12⟩ ⟨(look_bool rfl (by first | rfl | (rw [hb4]; first | done | rfl) | simp [hb4])), trivial⟩
 rintro E w3 ⟨rfl, F3, le3, hS3⟩;refine N_code ?_;obtain rfl := Option.some.inj H;refine C_ret rfl rfl ?_;exact ⟨F3, rfl, hS3.pick [] (by decide)⟩

def manifest_Check.k1 : Option Int :=
  some 0


def manifest_Check.l2 (x0 : Manifest) (rec11 : Int → Option Int) : Int → Option Int
  | i10 =>
    if decide (i10 < (x0.parts.length : Int)) then
      bd (ix x0.parts i10) fun x13 =>
      bd (manifest_part x13) fun r18 =>
      bd (only ((!(!r18)) && decide (0 < i10)) (ix x0.parts (wr (i10 - 1))) (Part.mk [] 0 [])) fun x19 =>
      if ((!r18) || (decide (0 < i10) && (sLt x13.path x19.path || x13.path == x19.path))) then
        some 1
      else
        rec11 (wr (i10 + 1))
    else
      manifest_Check.k1

def manifest_Check (x0 : Manifest) : Option Int :=
  bd (tree_Name x0.name) fun r2 =>
  if ((!r2) || decide (6 < (x0.parts.length : Int))) then
    some 1
  else
    loop (manifest_Check.l2 x0) 0

theorem manifest_Check_ok {F : Frz} {w : World} {x0 : Manifest} {r : Int} {v0_0 : Value} (hA : Agree F w.heap) (h0_0 : SlF Part.t F v0_0 x0.parts) (H : manifest_Check x0 = some r) : Ret Try.prog 47 #[.agg (Manifest.cells x0 v0_0).toArray] w fun v w' => ∃ (F' : Frz), v = .int .i64 r ∧ St [] w F F' [] w' := by
 refine Ret_of (args := [.agg (Manifest.cells x0 v0_0).toArray]) Try.func47 rfl rfl ?_;change C _ _ _ _ [(0, .agg (Manifest.cells x0 v0_0).toArray)] _;have hS := St.entry hA;dsimp only [manifest_Check] at H;refine C_seq ?_;refine C_region ?_;refine W_bx (cs := [strV x0.name, v0_0]) rfl rfl rfl hS ?_;intro g1 w1 hS1;refine W_assign rfl rfl ?_;refine W_nil ?_;refine N_code ?_;refine C_seq ?_;refine C_seq ?_;obtain ⟨r2, hr2, H⟩ := bd_some H;refine C_join (fun E wq => E = [(1, pl g1 0), (14, .bool ((!r2) || decide (6 < (x0.parts.length : Int))))] ∧ ∃ F3 : Frz, F.le F3 ∧ St [] w F F3 [.box g1 45 [strV x0.name, v0_0]] wq) ?_ ?_
 ·
  rcases Bool.eq_false_or_eq_true (!r2) with hb4 | hb4
  ·refine C_region ?_;refine W_field_pl 0 rfl Ty.field45_0 rfl ?_;refine W_bld1 0 rfl Ty.cell9 rfl hS1 rfl rfl ?_;refine W_call rfl Ty.named15 rfl (tree_Name_ok hS1.agree hr2) ?_;rintro v5 w5 ⟨Fr2, rfl, hT5⟩;have hS5 := hS1.lent hT5;refine W_not rfl rfl ?_;refine W_move rfl rfl ?_;refine W_known (t := 9) true rfl hb4 ?_;refine W_guard_no rfl rfl rfl rfl rfl ?_;refine W_guard_no rfl rfl rfl rfl rfl ?_;refine W_guard_no rfl rfl rfl rfl rfl ?_;refine W_guard_no rfl rfl rfl rfl rfl ?_;refine W_pick_t rfl rfl rfl ?_;refine W_nil ?_;exact N_join _ ⟨rfl, F, (Frz.le.refl _), hS5⟩ ⟨rfl, (look_bool rfl (by first | rfl | (rw [hb4]; first | done | rfl) | simp [hb4])), trivial⟩
  ·refine C_region ?_;refine W_field_pl 0 rfl Ty.field45_0 rfl ?_;refine W_bld1 0 rfl Ty.cell9 rfl hS1 rfl rfl ?_;refine W_call rfl Ty.named15 rfl (tree_Name_ok hS1.agree hr2) ?_;rintro v6 w6 ⟨Fr2, rfl, hT6⟩;have hS6 := hS1.lent hT6;refine W_not rfl rfl ?_;refine W_move rfl rfl ?_;refine W_known (t := 9) false rfl hb4 ?_;refine W_guard_yes rfl ?_;refine W_field_pl 1 rfl Ty.field45_1 rfl ?_;refine W_guard_yes rfl ?_;refine W_bld1 0 rfl Ty.cell43 rfl hS6 rfl rfl ?_;refine W_guard_yes rfl ?_;refine W_lenv rfl Try.underlying43 rfl h0_0.ln ?_;refine W_guard_yes rfl ?_;refine W_gtr rfl rfl rfl ?_;refine W_pick_f rfl rfl rfl ?_;refine W_nil ?_;exact N_join _ ⟨rfl, F, (Frz.le.refl _), hS6⟩ ⟨rfl, (look_bool rfl (by first | rfl | (rw [hb4]; first | done | rfl) | simp [hb4])), trivial⟩
 rintro E w3 ⟨rfl, F3, le3, hS3⟩;refine N_code ?_;refine C_cond rfl (fun hc7 => ?_) (fun hc7 => ?_)
 ·rw [if_t hc7] at H;refine C_seq ?_;refine C_region ?_;refine W_assign rfl rfl ?_;refine W_nil ?_;refine N_code ?_;obtain rfl := Option.some.inj H;refine C_ret rfl rfl ?_;exact ⟨F3, rfl, hS3.pick [] (by decide)⟩
 ·rw [if_f hc7] at H;refine C_skip ?_;refine N_code ?_;refine C_seq_join (fun E wq => manifest_Check.k1 = some r ∧ ∃ (F8 : Frz), E = [] ∧ F3.le F8 ∧ St [] w F F8 [] wq) ?_ ?_
  ·refine C_seq ?_;refine C_region ?_;refine W_field_pl 1 rfl Ty.field45_1 rfl ?_;refine W_bld1 0 rfl Ty.cell43 rfl hS3 rfl rfl ?_;refine W_lenv rfl Try.underlying43 rfl h0_0.ln ?_;refine W_move rfl rfl ?_;refine W_nil ?_;refine N_code ?_;refine C_block ?_;refine C_loopM (fun (s : Int) E wq => ∃ (F9 : Frz), E = [(1, pl g1 0), (16, v0_0), (17, .int .i64 (x0.parts.length : Int)), (18, .int .i64 s)] ∧ F3.le F9 ∧ St [] w F F9 [.box g1 45 [strV x0.name, v0_0]] wq) H ?_ ?_
   ·exact ⟨_, ⟨F3, rfl, (Frz.le.refl _), hS3⟩, ⟨rfl, rfl, rfl, rfl, trivial⟩⟩
   ·rintro rec11 i10 E w9 hI H;(try dsimp only at hI);obtain ⟨F9, rfl, le9, hS9⟩ := hI;dsimp only [manifest_Check.l2] at H;refine C_seq ?_;refine C_region ?_;refine W_lss rfl rfl rfl ?_;refine W_nil ?_;refine N_code ?_;refine C_seq ?_;refine C_cond rfl (fun hc12 => ?_) (fun hc12 => ?_)
    ·rw [if_t hc12] at H;refine C_skip ?_;refine N_code ?_;refine C_seq ?_;refine C_block ?_;refine C_seq ?_;obtain ⟨x13, hx13, H⟩ := bd_some H;refine C_region ?_;refine W_move rfl rfl ?_;obtain ⟨hp16, hy16⟩ := ix_some hx13;obtain ⟨cs16, hr16, he16⟩ := (h0_0.mono (le3.trans le9)).at_ hy16;obtain ⟨ue14_0, rfl, hue14_0⟩ := hr16;replace he16 : Elf _ _ 3 _ _ := he16;refine W_ix rfl Try.underlying43 Ty.cells51 Ty.info51 rfl rfl (he16.el hS9.agree) hp16 rfl ?_;refine W_ldg 0 ((Part.cells x13 ue14_0)) rfl Ty.agg51 Ty.size51 rfl (he16.el hS9.agree) (by omega) (fun q u h => sub_at (post := []) rfl h) ?_;refine W_alc (cs := [strV [], .int .i64 0, .slice none 0 0]) rfl Ty.zero51 rfl hS9 ?_;intro g15 w15 hS15;refine W_assign rfl rfl ?_;refine W_bst (c := [strV x13.path, .int .i64 x13.size, ue14_0]) 0 ([strV x13.path, .int .i64 x13.size, ue14_0]) rfl rfl hS15 rfl rfl Ty.size51 (fun y hy => Part.t.one (F := F9) (x := x13) ⟨ue14_0, rfl, hue14_0⟩ y hy) (Nat.le_of_ble_eq_true rfl) rfl ?_;intro w17 hS17;refine W_nil ?_;refine N_code ?_;refine C_seq ?_;obtain ⟨r18, hr18, H⟩ := bd_some H;obtain ⟨x19, hx19, H⟩ := bd_some H;refine C_join (fun E wq => E = [(1, pl g1 0), (16, v0_0), (17, .int .i64 (x0.parts.length : Int)), (18, .int .i64 i10), (41, .bool ((!r18) || (decide (0 < i10) && (sLt x13.path x19.path || x13.path == x19.path))))] ∧ ∃ F21 : Frz, F9.le F21 ∧ St [] w F F21 [.box g15 51 [strV x13.path, .int .i64 x13.size, ue14_0], .box g1 45 [strV x0.name, v0_0]] wq) ?_ ?_
     ·
      rcases Bool.eq_false_or_eq_true (!r18) with hb22 | hb22
      ·
       apply C_draw 18 [[], [0], [1], [2], [3], [4, 3], [5, 3], [6], [7, 6], [6], [9, 6], [6], [11, 6], [10, 12, 6], [13, 6], [14, 6], [8, 15, 6], [6, 16, 3]] [.val (.agg (Part.cells x13 ue14_0).toArray), .val (.bool r18), .val (.bool (!r18)), .val (.bool true), .val undef, .val undef, .val undef, .val undef, .val undef, .val undef, .val undef, .val undef, .val undef, .val undef, .val undef, .val undef, .val undef, .val undef] Ty.mixed rfl rfl (by kernel_rfl) (by kernel_rfl) rfl
       ·refine ⟨?_, ?_, ?_, ?_, ?_, ?_, ?_, ?_, ?_, ?_, ?_, ?_, ?_, ?_, ?_, ?_, ?_, ?_, trivial⟩
        ·intro w23 vq23 hB23 hH23;have hS23 := hS17.below hB23;refine W_bldg 0 ((Part.cells x13 ue14_0)) rfl Ty.agg51 Ty.size51 rfl hS23 rfl (fun q u h => sub_at (post := []) rfl h) ?_;exact Zs rfl rfl
        ·intro w24 vq24 hB24 hH24;have hS24 := hS17.below hB24;refine W_call rfl Ty.named86 rfl (manifest_part_ok hS24.agree hue14_0 hr18) ?_;rintro v25 w25 ⟨Fr18, rfl, hT25⟩;have hS25 := hS24.lent hT25;refine W_nil ?_;exact N_step rfl rfl hT25.below0
        ·intro _ _ _ _;refine W_not rfl rfl ?_;exact Zs rfl rfl
        ·intro w27 vq27 hB27 hH27;have hS27 := hS17.below hB27;refine W_move rfl rfl ?_;refine W_nil ?_;exact N_step rfl (congrArg Value.bool hb22) (Below.refl _ _)
        ·intro _ _ _ _;refine W_guard_no rfl rfl rfl rfl rfl ?_;exact Zs rfl rfl
        ·intro _ _ _ _;refine W_guard_no rfl rfl rfl rfl rfl ?_;exact Zs rfl rfl
        ·intro _ _ _ _;refine W_guard_no rfl rfl rfl rfl rfl ?_;exact Zs rfl rfl
        ·intro _ _ _ _;refine W_guard_un rfl rfl rfl rfl ?_;exact Zs rfl rfl
        ·intro _ _ _ _;refine W_guard_un rfl rfl rfl rfl ?_;exact Zs rfl rfl
        ·intro _ _ _ _;refine W_guard_un rfl rfl rfl rfl ?_;exact Zs rfl rfl
        ·intro _ _ _ _;refine W_guard_un rfl rfl rfl rfl ?_;exact Zs rfl rfl
        ·intro _ _ _ _;refine W_guard_un rfl rfl rfl rfl ?_;exact Zs rfl rfl
        ·intro _ _ _ _;refine W_guard_un rfl rfl rfl rfl ?_;exact Zs rfl rfl
        ·intro _ _ _ _;refine W_guard_un rfl rfl rfl rfl ?_;exact Zs rfl rfl
        ·intro _ _ _ _;refine W_guard_un rfl rfl rfl rfl ?_;exact Zs rfl rfl
        ·intro _ _ _ _;refine W_guard_un rfl rfl rfl rfl ?_;exact Zs rfl rfl
        ·intro _ _ _ _;refine W_guard_un rfl rfl rfl rfl ?_;exact Zs rfl rfl
        ·intro _ _ _ _;refine W_guard_no rfl rfl rfl rfl rfl ?_;exact Zs rfl rfl
       intro w42 vq42 hB42 hH42;have hS42 := hS17.below hB42;refine W_pick_t rfl rfl rfl ?_;refine W_nil ?_;exact N_join _ ⟨rfl, F9, (Frz.le.refl _), hS42⟩ ⟨rfl, rfl, rfl, rfl, (look_bool rfl (by first | rfl | (rw [hb22]; first | done | rfl) | simp [hb22])), trivial⟩
      ·
       rcases Bool.eq_false_or_eq_true (decide (0 < i10)) with hb43 | hb43
       ·have hy44 := hx19;rw [only_t (by first | rfl | (rw [hb43, hb22]; first | done | rfl) | simp [hb22, hb43])] at hy44;obtain ⟨hp45, hy45⟩ := ix_some hy44;obtain ⟨cs45, hr45, he45⟩ := (h0_0.mono (le3.trans le9)).at_ hy45;obtain ⟨ue20_0, rfl, hue20_0⟩ := hr45;replace he45 : Elf _ _ 3 _ _ := he45
        apply C_draw 18 [[], [0], [1], [2], [3], [4, 3], [5, 3], [6], [7, 6], [6], [9, 6], [6], [11, 6], [10, 12, 6], [13, 6], [14, 6], [8, 15, 6], [6, 16, 3]] [.val (.agg (Part.cells x13 ue14_0).toArray), .val (.bool r18), .val (.bool (!r18)), .val (.bool false), .val (.int .i64 i10), .val (.bool (decide (0 < i10))), .val (.bool true), .val (pl g15 (0 + 0)), .val (strV x13.path), .val (pl g1 (0 + 1)), .val (v0_0), .val (.int .i64 i10), .val (.int .i64 (wr (i10 - 1))), .val (elp v0_0 ((wr (i10 - 1)).toNat * 3)), .val (elp v0_0 (((wr (i10 - 1)).toNat * 3) + 0)), .val (strV x19.path), .val (.bool (sLt x13.path x19.path || x13.path == x19.path)), .val (.bool (sLt x13.path x19.path || x13.path == x19.path))] Ty.mixed rfl rfl (by kernel_rfl) (by kernel_rfl) rfl
        ·refine ⟨?_, ?_, ?_, ?_, ?_, ?_, ?_, ?_, ?_, ?_, ?_, ?_, ?_, ?_, ?_, ?_, ?_, ?_, trivial⟩
         ·intro w46 vq46 hB46 hH46;have hS46 := hS17.below hB46;refine W_bldg 0 ((Part.cells x13 ue14_0)) rfl Ty.agg51 Ty.size51 rfl hS46 rfl (fun q u h => sub_at (post := []) rfl h) ?_;exact Zs rfl rfl
         ·intro w47 vq47 hB47 hH47;have hS47 := hS17.below hB47;refine W_call rfl Ty.named86 rfl (manifest_part_ok hS47.agree hue14_0 hr18) ?_;rintro v48 w48 ⟨Fr18, rfl, hT48⟩;have hS48 := hS47.lent hT48;refine W_nil ?_;exact N_step rfl rfl hT48.below0
         ·intro _ _ _ _;refine W_not rfl rfl ?_;exact Zs rfl rfl
         ·intro w50 vq50 hB50 hH50;have hS50 := hS17.below hB50;refine W_move rfl rfl ?_;refine W_nil ?_;exact N_step rfl (congrArg Value.bool hb22) (Below.refl _ _)
         ·intro _ _ _ _;refine W_guard_yes rfl ?_;refine W_move rfl rfl ?_;exact Zs rfl rfl
         ·intro _ _ _ _;refine W_guard_yes rfl ?_;refine W_gtr rfl rfl rfl ?_;exact Zs rfl rfl
         ·intro w53 vq53 hB53 hH53;have hS53 := hS17.below hB53;refine W_guard_yes rfl ?_;refine W_move rfl rfl ?_;refine W_nil ?_;exact N_step rfl (congrArg Value.bool hb43) (Below.refl _ _)
         ·intro _ _ _ _;refine W_guard_yes rfl ?_;refine W_field_pl 0 rfl Ty.field51_0 rfl ?_;exact Zs rfl rfl
         ·intro w55 vq55 hB55 hH55;have hS55 := hS17.below hB55;refine W_guard_yes rfl ?_;refine W_bld1 0 rfl Ty.cell9 rfl hS55 rfl rfl ?_;exact Zs rfl rfl
         ·intro _ _ _ _;refine W_guard_yes rfl ?_;refine W_field_pl 1 rfl Ty.field45_1 rfl ?_;exact Zs rfl rfl
         ·intro w57 vq57 hB57 hH57;have hS57 := hS17.below hB57;refine W_guard_yes rfl ?_;refine W_bld1 1 rfl Ty.cell43 rfl hS57 rfl rfl ?_;exact Zs rfl rfl
         ·intro _ _ _ _;refine W_guard_yes rfl ?_;refine W_move rfl rfl ?_;exact Zs rfl rfl
         ·intro _ _ _ _;refine W_guard_yes rfl ?_;refine W_subi rfl rfl rfl rfl ?_;exact Zs rfl rfl
         ·intro w60 vq60 hB60 hH60;have hS60 := hS17.below hB60;refine W_guard_yes rfl ?_;refine W_ix rfl Try.underlying43 Ty.cells51 Ty.info51 rfl rfl (he45.el hS60.agree) hp45 rfl ?_;exact Zs rfl rfl
         ·intro w61 vq61 hB61 hH61;have hS61 := hS17.below hB61;refine W_guard_yes rfl ?_;refine W_fld 0 rfl Ty.field51_0 rfl (he45.el hS61.agree) ?_;exact Zs rfl rfl
         ·intro w62 vq62 hB62 hH62;have hS62 := hS17.below hB62;refine W_guard_yes rfl ?_;refine W_ld1 0 rfl Ty.cell9 rfl (he45.el hS62.agree) (by omega) rfl ?_;exact Zs rfl rfl
         ·intro _ _ _ _;refine W_guard_yes rfl ?_;refine W_leqS rfl rfl rfl ?_;exact Zs rfl rfl
         ·intro _ _ _ _;refine W_guard_yes rfl ?_;refine W_pick_t rfl rfl rfl ?_;exact Zs rfl rfl
        intro w65 vq65 hB65 hH65;have hS65 := hS17.below hB65;refine W_pick_f rfl rfl rfl ?_;refine W_nil ?_;exact N_join _ ⟨rfl, F9, (Frz.le.refl _), hS65⟩ ⟨rfl, rfl, rfl, rfl, (look_bool rfl (by first | rfl | (rw [hb43, hb22]; first | done | rfl) | simp [hb22, hb43])), trivial⟩
       ·
        apply C_draw 18 [[], [0], [1], [2], [3], [4, 3], [5, 3], [6], [7, 6], [6], [9, 6], [6], [11, 6], [10, 12, 6], [13, 6], [14, 6], [8, 15, 6], [6, 16, 3]] [.val (.agg (Part.cells x13 ue14_0).toArray), .val (.bool r18), .val (.bool (!r18)), .val (.bool false), .val (.int .i64 i10), .val (.bool (decide (0 < i10))), .val (.bool false), .val undef, .val undef, .val undef, .val undef, .val undef, .val undef, .val undef, .val undef, .val undef, .val undef, .val (.bool false)] Ty.mixed rfl rfl (by kernel_rfl) (by kernel_rfl) rfl
        ·refine ⟨?_, ?_, ?_, ?_, ?_, ?_, ?_, ?_, ?_, ?_, ?_, ?_, ?_, ?_, ?_, ?_, ?_, ?_, trivial⟩
         ·intro w66 vq66 hB66 hH66;have hS66 := hS17.below hB66;refine W_bldg 0 ((Part.cells x13 ue14_0)) rfl Ty.agg51 Ty.size51 rfl hS66 rfl (fun q u h => sub_at (post := []) rfl h) ?_;exact Zs rfl rfl
         ·intro w67 vq67 hB67 hH67;have hS67 := hS17.below hB67;refine W_call rfl Ty.named86 rfl (manifest_part_ok hS67.agree hue14_0 hr18) ?_;rintro v68 w68 ⟨Fr18, rfl, hT68⟩;have hS68 := hS67.lent hT68;refine W_nil ?_;exact N_step rfl rfl hT68.below0
         ·intro _ _ _ _;refine W_not rfl rfl ?_;exact Zs rfl rfl
         ·intro w70 vq70 hB70 hH70;have hS70 := hS17.below hB70;refine W_move rfl rfl ?_;refine W_nil ?_;exact N_step rfl (congrArg Value.bool hb22) (Below.refl _ _)
         ·intro _ _ _ _;refine W_guard_yes rfl ?_;refine W_move rfl rfl ?_;exact Zs rfl rfl
         ·intro _ _ _ _;refine W_guard_yes rfl ?_;refine W_gtr rfl rfl rfl ?_;exact Zs rfl rfl
         ·intro w73 vq73 hB73 hH73;have hS73 := hS17.below hB73;refine W_guard_yes rfl ?_;refine W_move rfl rfl ?_;refine W_nil ?_;exact N_step rfl (congrArg Value.bool hb43) (Below.refl _ _)
         ·intro _ _ _ _;refine W_guard_no rfl rfl rfl rfl rfl ?_;exact Zs rfl rfl
         ·intro _ _ _ _;refine W_guard_no rfl rfl rfl rfl rfl ?_;exact Zs rfl rfl
         ·intro _ _ _ _;refine W_guard_no rfl rfl rfl rfl rfl ?_;exact Zs rfl rfl
         ·intro _ _ _ _;refine W_guard_no rfl rfl rfl rfl rfl ?_;exact Zs rfl rfl
         ·intro _ _ _ _;refine W_guard_no rfl rfl rfl rfl rfl ?_;exact Zs rfl rfl
         ·intro _ _ _ _;refine W_guard_no rfl rfl rfl rfl rfl ?_;exact Zs rfl rfl
         ·intro _ _ _ _;refine W_guard_no rfl rfl rfl rfl rfl ?_;exact Zs rfl rfl
         ·intro _ _ _ _;refine W_guard_no rfl rfl rfl rfl rfl ?_;exact Zs rfl rfl
         ·intro _ _ _ _;refine W_guard_no rfl rfl rfl rfl rfl ?_;exact Zs rfl rfl
         ·intro _ _ _ _;refine W_guard_no rfl rfl rfl rfl rfl ?_;exact Zs rfl rfl
         ·intro _ _ _ _;refine W_guard_yes rfl ?_;refine W_pick_f rfl rfl rfl ?_;exact Zs rfl rfl
        intro w85 vq85 hB85 hH85;have hS85 := hS17.below hB85;refine W_pick_f rfl rfl rfl ?_;refine W_nil ?_;exact N_join _ ⟨rfl, F9, (Frz.le.refl _), hS85⟩ ⟨rfl, rfl, rfl, rfl, (look_bool rfl (by first | rfl | (rw [hb43, hb22]; first | done | rfl) | simp [hb22, hb43])), trivial⟩
     rintro E w21 ⟨rfl, F21, le21, hS21⟩;refine N_code ?_;refine C_cond rfl (fun hc86 => ?_) (fun hc86 => ?_)
     ·rw [if_t hc86] at H;refine C_seq ?_;refine C_region ?_;refine W_assign rfl rfl ?_;refine W_nil ?_;refine N_code ?_;obtain rfl := Option.some.inj H;refine C_ret rfl rfl ?_;exact ⟨F21, rfl, hS21.pick [] (by decide)⟩
     ·rw [if_f hc86] at H;refine C_skip ?_;refine N_block ?_;refine N_code ?_;refine C_region ?_;refine W_add rfl rfl rfl rfl ?_;refine W_move rfl rfl ?_;refine W_nil ?_;exact N_againM (wr (i10 + 1)) _ H ⟨F21, rfl, (le9.trans le21), hS21.pick [1] (by decide)⟩ ⟨rfl, rfl, rfl, rfl, trivial⟩
    ·rw [if_f hc12] at H;refine C_exit _ rfl ?_;exact N_join _ ⟨H, ⟨F9, rfl, le9, hS9.pick [] (by decide)⟩⟩ trivial
  ·rintro E w8 ⟨H, F8, rfl, le8, hS8⟩;dsimp only [manifest_Check.k1] at H;refine C_seq ?_;refine C_region ?_;refine W_assign rfl rfl ?_;refine W_nil ?_;refine N_code ?_;obtain rfl := Option.some.inj H;refine C_ret rfl rfl ?_;exact ⟨F8, rfl, hS8⟩

def bin_room (x0 : Int) : Option Int :=
  bd (shlI 1 (wr (8 * x0))) fun x1 =>
  some x1

theorem bin_room_ok {F : Frz} {w : World} {x0 : Int} {r : Int} (hA : Agree F w.heap) (H : bin_room x0 = some r) : Ret Try.prog 94 #[.int .i64 x0] w fun v w' => ∃ (F' : Frz), v = .int .i64 r ∧ St [] w F F' [] w' := by
 refine Ret_of (args := [.int .i64 x0]) Try.func94 rfl rfl ?_;change C _ _ _ _ [(0, .int .i64 x0)] _;have hS := St.entry hA;dsimp only [bin_room] at H;refine C_seq ?_;refine C_region ?_;refine W_assign rfl rfl ?_;refine W_nil ?_;refine N_code ?_;refine C_seq ?_;obtain ⟨x1, hx1, H⟩ := bd_some H;refine C_region ?_;refine W_move rfl rfl ?_;refine W_mul rfl rfl rfl rfl ?_;obtain ⟨hz2, hv2, hw2⟩ := shlI_some hx1;refine W_shl rfl rfl rfl hz2 hv2 hw2.symm ?_;refine W_assign rfl rfl ?_;refine W_nil ?_;refine N_code ?_;obtain rfl := Option.some.inj H;refine C_ret rfl rfl ?_;exact ⟨F, rfl, hS⟩

def slices_Clone_byte_byte (x0 : List UInt8) : Option (List UInt8) :=
  bd (app (α := UInt8) ([] : List UInt8) x0) fun l6 =>
  some l6

theorem slices_Clone_byte_byte_ok {F : Frz} {w : World} {x0 : List UInt8} {r : (List UInt8)} {v0 : Value} (hA : Agree F w.heap) (h0 : SlF tB F v0 x0) (H : slices_Clone_byte_byte x0 = some r) : Ret Try.prog 70 #[v0] w fun v w' => ∃ (F' : Frz) (q0 : Value), v = q0 ∧ St [] w F F' [.row tB 5 q0 (r)] w' := by
 refine Ret_of (args := [v0]) Try.func70 rfl rfl ?_;change C _ _ _ _ [(0, v0)] _;have hS := St.entry hA;dsimp only [slices_Clone_byte_byte] at H;refine C_seq ?_;refine C_region ?_;refine W_assign rfl rfl ?_;refine W_nil ?_;refine N_code ?_;refine C_seq ?_;refine C_seq ?_;refine C_region ?_;refine W_move rfl rfl ?_;refine W_nilq rfl Try.underlying25 rfl h0.ln ?_;intro b1 hb1;refine W_nil ?_;refine N_code ?_;refine C_cond rfl (fun hc2 => ?_) (fun hc2 => ?_)
 ·have hx2 : x0 = [] := List.eq_nil_of_length_eq_zero (hb1 hc2);have H : (some [] : Option (List UInt8)) = some r := by first | (rw [hx2] at H; exact H) | (subst hx2; exact H)
  refine C_seq ?_;refine C_region ?_;refine W_assign rfl rfl ?_;refine W_nil ?_;refine N_code ?_;have hS4 := hS.nilRow tB 5;obtain rfl := Option.some.inj H;refine C_ret rfl rfl ?_;exact ⟨F, (.slice none 0 0), rfl, hS4⟩
 ·refine C_skip ?_;refine N_code ?_;refine C_seq ?_;obtain ⟨l6, hl6, H⟩ := bd_some H;refine C_region ?_;refine W_bs (t := tB) [] ([] : List UInt8) rfl Try.underlying25 Ty.cells5 rfl rfl Ty.zero5 rfl rfl trivial rfl rfl hS ?_;intro u5 w5 hS5;refine W_move rfl rfl ?_;refine W_appM 0 rfl Try.underlying25 Ty.row5 rfl rfl rfl rfl rfl hS5 rfl (h0.src hS5.agree) hl6 ?_;intro v7 w7 hS7;refine W_assign rfl rfl ?_;refine W_nil ?_;refine N_code ?_;obtain rfl := Option.some.inj H;refine C_ret rfl rfl ?_;exact ⟨F, v7, rfl, hS7⟩

def bin_Put.k1 (l14 : List UInt8) : Option ((List UInt8) × Int) :=
  some (l14, 0)


def bin_Put.l2 (x1 : Int) (rec20 : (Int × (List UInt8)) → Option ((List UInt8) × Int)) : (Int × (List UInt8)) → Option ((List UInt8) × Int)
  | (i17, l18) =>
    if decide (0 ≤ i17) then
      bd (shrI x1 (wr (8 * i17))) fun x22 =>
      bd (app (α := UInt8) l18 [(toB8 x22)]) fun l24 =>
      rec20 (wr (i17 - 1), l24)
    else
      bin_Put.k1 l18

def bin_Put (x0 : List UInt8) (x1 : Int) (x2 : Int) : Option ((List UInt8) × Int) :=
  bd (only (!((decide (x2 < 1) || decide (7 < x2)) || decide (x1 < 0))) (bin_room x2) 0) fun r1 =>
  if (((decide (x2 < 1) || decide (7 < x2)) || decide (x1 < 0)) || decide (r1 ≤ x1)) then
    some ([], 1)
  else
    bd (slices_Clone_byte_byte x0) fun r11 =>
    loop (bin_Put.l2 x1) (wr (x2 - 1), r11)

theorem bin_Put_ok {F : Frz} {w : World} {x0 : List UInt8} {x1 : Int} {x2 : Int} {r : (List UInt8) × Int} {v0 : Value} (hA : Agree F w.heap) (h0 : SlF tB F v0 x0) (H : bin_Put x0 x1 x2 = some r) : Ret Try.prog 65 #[v0, .int .i64 x1, .int .i64 x2] w fun v w' => ∃ (F' : Frz) (q0 : Value), v = .tuple #[q0, .int .i64 r.2] ∧ St [] w F F' [.row tB 5 q0 (r.1)] w' := by
 refine Ret_of (args := [v0, .int .i64 x1, .int .i64 x2]) Try.func65 rfl rfl ?_;change C _ _ _ _ [(0, v0), (1, .int .i64 x1), (2, .int .i64 x2)] _;have hS := St.entry hA;dsimp only [bin_Put] at H;refine C_seq ?_;refine C_region ?_;refine W_assign rfl rfl ?_;refine W_assign rfl rfl ?_;refine W_nil ?_;refine N_code ?_;refine C_seq ?_;refine C_seq ?_;obtain ⟨r1, hr1, H⟩ := bd_some H;refine C_join (fun E wq => E = [(0, v0), (1, .int .i64 x1), (2, .int .i64 x2), (25, .bool (((decide (x2 < 1) || decide (7 < x2)) || decide (x1 < 0)) || decide (r1 ≤ x1)))] ∧ ∃ F2 : Frz, F.le F2 ∧ St [] w F F2 [] wq) ?_ ?_
 ·
  rcases Bool.eq_false_or_eq_true (decide (x2 < 1)) with hb3 | hb3
  ·refine C_region ?_;refine W_move rfl rfl ?_;refine W_lss rfl rfl rfl ?_;refine W_move rfl rfl ?_;refine W_known (t := 12) true rfl hb3 ?_;refine W_guard_no rfl rfl rfl rfl rfl ?_;refine W_guard_no rfl rfl rfl rfl rfl ?_;refine W_pick_t rfl rfl rfl ?_;refine W_move rfl rfl ?_;refine W_guard_no rfl rfl rfl rfl rfl ?_;refine W_guard_no rfl rfl rfl rfl rfl ?_;refine W_pick_t rfl rfl rfl ?_;refine W_move rfl rfl ?_;refine W_guard_no rfl rfl rfl rfl rfl ?_;refine W_guard_no rfl rfl rfl rfl rfl ?_;refine W_guard_no rfl rfl rfl rfl rfl ?_;refine W_guard_no rfl rfl rfl rfl rfl ?_;refine W_pick_t rfl rfl rfl ?_;refine W_nil ?_;exact N_join _ ⟨rfl, F, (Frz.le.refl _), hS⟩ ⟨rfl, rfl, rfl, (look_bool rfl (by first | rfl | (rw [hb3]; first | done | rfl) | simp [hb3])), trivial⟩
  ·
   rcases Bool.eq_false_or_eq_true (decide (7 < x2)) with hb4 | hb4
   ·refine C_region ?_;refine W_move rfl rfl ?_;refine W_lss rfl rfl rfl ?_;refine W_move rfl rfl ?_;refine W_known (t := 12) false rfl hb3 ?_;refine W_guard_yes rfl ?_;refine W_move rfl rfl ?_;refine W_guard_yes rfl ?_;refine W_gtr rfl rfl rfl ?_;refine W_pick_f rfl rfl rfl ?_;refine W_move rfl rfl ?_;refine W_known (t := 16) true rfl hb4 ?_;refine W_guard_no rfl rfl rfl rfl rfl ?_;refine W_guard_no rfl rfl rfl rfl rfl ?_;refine W_pick_t rfl rfl rfl ?_;refine W_move rfl rfl ?_;refine W_guard_no rfl rfl rfl rfl rfl ?_;refine W_guard_no rfl rfl rfl rfl rfl ?_;refine W_guard_no rfl rfl rfl rfl rfl ?_;refine W_guard_no rfl rfl rfl rfl rfl ?_;refine W_pick_t rfl rfl rfl ?_;refine W_nil ?_;exact N_join _ ⟨rfl, F, (Frz.le.refl _), hS⟩ ⟨rfl, rfl, rfl, (look_bool rfl (by first | rfl | (rw [hb3, hb4]; first | done | rfl) | simp [hb3, hb4])), trivial⟩
   ·
    rcases Bool.eq_false_or_eq_true (decide (x1 < 0)) with hb5 | hb5
    ·refine C_region ?_;refine W_move rfl rfl ?_;refine W_lss rfl rfl rfl ?_;refine W_move rfl rfl ?_;refine W_known (t := 12) false rfl hb3 ?_;refine W_guard_yes rfl ?_;refine W_move rfl rfl ?_;refine W_guard_yes rfl ?_;refine W_gtr rfl rfl rfl ?_;refine W_pick_f rfl rfl rfl ?_;refine W_move rfl rfl ?_;refine W_known (t := 16) false rfl hb4 ?_;refine W_guard_yes rfl ?_;refine W_move rfl rfl ?_;refine W_guard_yes rfl ?_;refine W_lss rfl rfl rfl ?_;refine W_pick_f rfl rfl rfl ?_;refine W_move rfl rfl ?_;refine W_known (t := 20) true rfl hb5 ?_;refine W_guard_no rfl rfl rfl rfl rfl ?_;refine W_guard_no rfl rfl rfl rfl rfl ?_;refine W_guard_no rfl rfl rfl rfl rfl ?_;refine W_guard_no rfl rfl rfl rfl rfl ?_;refine W_pick_t rfl rfl rfl ?_;refine W_nil ?_;exact N_join _ ⟨rfl, F, (Frz.le.refl _), hS⟩ ⟨rfl, rfl, rfl, (look_bool rfl (by first | rfl | (rw [hb3, hb4, hb5]; first | done | rfl) | simp [hb3, hb4, hb5])), trivial⟩
    ·refine C_region ?_;refine W_move rfl rfl ?_;refine W_lss rfl rfl rfl ?_;refine W_move rfl rfl ?_;refine W_known (t := 12) false rfl hb3 ?_;refine W_guard_yes rfl ?_;refine W_move rfl rfl ?_;refine W_guard_yes rfl ?_;refine W_gtr rfl rfl rfl ?_;refine W_pick_f rfl rfl rfl ?_;refine W_move rfl rfl ?_;refine W_known (t := 16) false rfl hb4 ?_;refine W_guard_yes rfl ?_;refine W_move rfl rfl ?_;refine W_guard_yes rfl ?_;refine W_lss rfl rfl rfl ?_;refine W_pick_f rfl rfl rfl ?_;refine W_move rfl rfl ?_;refine W_known (t := 20) false rfl hb5 ?_;refine W_guard_yes rfl ?_;refine W_move rfl rfl ?_;refine W_guard_yes rfl ?_;refine W_move rfl rfl ?_;refine W_guard_yes rfl ?_;have hy6 := hr1;rw [only_t (by first | rfl | (rw [hb3, hb4, hb5]; first | done | rfl) | simp [hb3, hb4, hb5])] at hy6;refine W_call rfl Ty.named94 rfl (bin_room_ok hS.agree hy6) ?_;rintro v7 w7 ⟨Fr1, rfl, hT7⟩;have hS7 := hS.lent hT7;refine W_guard_yes rfl ?_;refine W_geq rfl rfl rfl ?_;refine W_pick_f rfl rfl rfl ?_;refine W_nil ?_;exact N_join _ ⟨rfl, F, (Frz.le.refl _), hS7⟩ ⟨rfl, rfl, rfl, (look_bool rfl (by first | rfl | (rw [hb3, hb4, hb5]; first | done | rfl) | simp [hb3, hb4, hb5])), trivial⟩
 rintro E w2 ⟨rfl, F2, le2, hS2⟩;refine N_code ?_;refine C_cond rfl (fun hc8 => ?_) (fun hc8 => ?_)
 ·rw [if_t hc8] at H;refine C_seq ?_;refine C_region ?_;refine W_assign rfl rfl ?_;refine W_assign rfl rfl ?_;refine W_nil ?_;refine N_code ?_;have hS10 := hS2.nilRow tB 5;obtain rfl := Option.some.inj H;refine C_ret rfl rfl ?_;exact ⟨F2, (.slice none 0 0), rfl, hS10⟩
 ·rw [if_f hc8] at H;refine C_skip ?_;refine N_code ?_;refine C_seq ?_;obtain ⟨r11, hr11, H⟩ := bd_some H;refine C_region ?_;refine W_move rfl rfl ?_;refine W_call rfl Ty.named70 rfl (slices_Clone_byte_byte_ok hS2.agree (h0.mono le2) hr11) ?_;rintro ur11_0 w12 ⟨Fr11, _, rfl, hT12⟩;have hS12 := hS2.call hT12;have ler11 := hT12.ext;refine W_assign rfl rfl ?_;refine W_nil ?_;refine N_code ?_;refine C_seq_join (fun E wq => ∃ l14 : List UInt8, bin_Put.k1 l14 = some r ∧ ∃ (F13 : Frz) (u15 : Value), E = [(8, u15)] ∧ Fr11.le F13 ∧ St [] w F F13 [.row tB 5 u15 l14] wq) ?_ ?_
  ·refine C_seq ?_;refine C_region ?_;refine W_move rfl rfl ?_;refine W_subi rfl rfl rfl rfl ?_;refine W_assign rfl rfl ?_;refine W_nil ?_;refine N_code ?_;refine C_block ?_;refine C_loopM (fun (s : Int × (List UInt8)) E wq => ∃ (F16 : Frz) (u19 : Value), E = [(1, .int .i64 x1), (8, u19), (9, .int .i64 s.1)] ∧ Fr11.le F16 ∧ St [] w F F16 [.row tB 5 u19 s.2] wq) H ?_ ?_
   ·exact ⟨_, ⟨Fr11, ur11_0, rfl, (Frz.le.refl _), hS12⟩, ⟨rfl, rfl, rfl, trivial⟩⟩
   ·rintro rec20 ⟨i17, l18⟩ E w16 hI H;(try dsimp only at hI);obtain ⟨F16, u19, rfl, le16, hS16⟩ := hI;dsimp only [bin_Put.l2] at H;refine C_seq ?_;refine C_seq ?_;refine C_region ?_;refine W_move rfl rfl ?_;refine W_geq rfl rfl rfl ?_;refine W_nil ?_;refine N_code ?_;refine C_cond rfl (fun hc21 => ?_) (fun hc21 => ?_)
    ·rw [if_t hc21] at H;refine C_skip ?_;refine N_code ?_;refine C_seq ?_;refine C_block ?_;obtain ⟨x22, hx22, H⟩ := bd_some H;obtain ⟨l24, hl24, H⟩ := bd_some H;refine C_region ?_;refine W_move rfl rfl ?_;refine W_move rfl rfl ?_;refine W_move rfl rfl ?_;refine W_mul rfl rfl rfl rfl ?_;obtain ⟨hz26, hv26, hw26⟩ := shrI_some hx22;refine W_shr rfl rfl rfl hz26 hv26 hw26.symm ?_;refine W_conv rfl rfl Ty.some3 Try.underlying5 (i8_of _) ?_;refine W_bs (t := tB) [[.int .u8 ((toB8 x22).toNat : Int)]] [(toB8 x22)] rfl Try.underlying25 Ty.cells5 rfl rfl Ty.zero5 rfl rfl ⟨rfl, trivial⟩ rfl rfl hS16 ?_;intro u23 w23 hS23;refine W_appM 1 rfl Try.underlying25 Ty.row5 rfl rfl rfl rfl rfl hS23 rfl (hS23.rowSrc (j := 0) rfl) hl24 ?_;intro v25 w25 hS25;refine W_assign rfl rfl ?_;refine W_nil ?_;refine N_block ?_;refine N_code ?_;refine C_region ?_;refine W_move rfl rfl ?_;refine W_subi rfl rfl rfl rfl ?_;refine W_assign rfl rfl ?_;refine W_nil ?_;exact N_againM (wr (i17 - 1), l24) _ H ⟨F16, v25, rfl, le16, hS25.pick [1] (by decide)⟩ ⟨rfl, rfl, rfl, trivial⟩
    ·rw [if_f hc21] at H;refine C_exit _ rfl ?_;exact N_join _ ⟨l18, H, ⟨F16, u19, rfl, le16, hS16⟩⟩ ⟨rfl, trivial⟩
  ·rintro E w13 ⟨l14, H, F13, u15, rfl, le13, hS13⟩;dsimp only [bin_Put.k1] at H;refine C_seq ?_;refine C_region ?_;refine W_move rfl rfl ?_;refine W_assign rfl rfl ?_;refine W_assign rfl rfl ?_;refine W_nil ?_;refine N_code ?_;obtain rfl := Option.some.inj H;refine C_ret rfl rfl ?_;exact ⟨F13, u15, rfl, hS13⟩

def manifest_Bytes.k1 (l14 : List UInt8) : Option ((List UInt8) × Int) :=
  some (l14, 0)


def manifest_Bytes.k3 (i21 : Int) (rec22 : ((List UInt8) × Int) → Option ((List UInt8) × Int)) (l25 : List UInt8) : Option ((List UInt8) × Int) :=
  rec22 (l25, wr (i21 + 1))


def manifest_Bytes.l4 (i21 : Int) (rec22 : ((List UInt8) × Int) → Option ((List UInt8) × Int)) (x28 : Part) (rec106 : (Int × (List UInt8)) → Option ((List UInt8) × Int)) : (Int × (List UInt8)) → Option ((List UInt8) × Int)
  | (i103, l104) =>
    if decide (i103 < (x28.ids.length : Int)) then
      bd (ix x28.ids i103) fun x108 =>
      bd (app (α := UInt8) l104 x108) fun l114 =>
      rec106 (wr (i103 + 1), l114)
    else
      manifest_Bytes.k3 i21 rec22 l104


def manifest_Bytes.l2 (x0 : Manifest) (rec22 : ((List UInt8) × Int) → Option ((List UInt8) × Int)) : ((List UInt8) × Int) → Option ((List UInt8) × Int)
  | (l18, i21) =>
    if decide (i21 < (x0.parts.length : Int)) then
      bd (ix x0.parts i21) fun x28 =>
      bd (app (α := UInt8) l18 [(toB8 (x28.path.length : Int))]) fun l34 =>
      bd (app (α := UInt8) l34 x28.path) fun l36 =>
      bd (bin_Put l36 x28.size 2) fun r97 =>
      bd (app (α := UInt8) r97.1 [(toB8 (x28.ids.length : Int))]) fun l100 =>
      loop (manifest_Bytes.l4 i21 rec22 x28) (0, l100)
    else
      manifest_Bytes.k1 l18

def manifest_Bytes (x0 : Manifest) : Option ((List UInt8) × Int) :=
  bd (manifest_Check x0) fun r2 =>
  if decide (r2 ≠ 0) then
    some ([], r2)
  else
    bd (app (α := UInt8) [(toB8 (x0.name.length : Int))] x0.name) fun l8 =>
    bd (app (α := UInt8) l8 [(toB8 (x0.parts.length : Int))]) fun l11 =>
    loop (manifest_Bytes.l2 x0) (l11, 0)

theorem manifest_Bytes_ok {F : Frz} {w : World} {x0 : Manifest} {r : (List UInt8) × Int} {v0_0 : Value} (hA : Agree F w.heap) (h0_0 : SlF Part.t F v0_0 x0.parts) (H : manifest_Bytes x0 = some r) : Ret Try.prog 30 #[.agg (Manifest.cells x0 v0_0).toArray] w fun v w' => ∃ (F' : Frz) (q0 : Value), v = .tuple #[q0, .int .i64 r.2] ∧ St [] w F F' [.row tB 5 q0 (r.1)] w' := by
 refine Ret_of (args := [.agg (Manifest.cells x0 v0_0).toArray]) Try.func30 rfl rfl ?_;change C _ _ _ _ [(0, .agg (Manifest.cells x0 v0_0).toArray)] _;have hS := St.entry hA;dsimp only [manifest_Bytes] at H;refine C_seq ?_;refine C_region ?_;refine W_bx (cs := [strV x0.name, v0_0]) rfl rfl rfl hS ?_;intro g1 w1 hS1;refine W_assign rfl rfl ?_;refine W_assign rfl rfl ?_;refine W_nil ?_;refine N_code ?_;refine C_seq ?_;obtain ⟨r2, hr2, H⟩ := bd_some H;refine C_region ?_;refine W_bldg 0 ((Manifest.cells x0 v0_0)) rfl Ty.agg45 Ty.size45 rfl hS1 rfl (fun q u h => sub_at (post := []) rfl h) ?_;refine W_call rfl Ty.named47 rfl (manifest_Check_ok hS1.agree h0_0 hr2) ?_;rintro v3 w3 ⟨Fr2, rfl, hT3⟩;have hS3 := hS1.lent hT3;refine W_assign rfl rfl ?_;refine W_nil ?_;refine N_code ?_;refine C_seq ?_;refine C_seq ?_;refine C_region ?_;refine W_move rfl rfl ?_;refine W_neq rfl rfl rfl ?_;refine W_nil ?_;refine N_code ?_;refine C_cond rfl (fun hc4 => ?_) (fun hc4 => ?_)
 ·rw [if_t hc4] at H;refine C_seq ?_;refine C_region ?_;refine W_move rfl rfl ?_;refine W_assign rfl rfl ?_;refine W_assign rfl rfl ?_;refine W_nil ?_;refine N_code ?_;have hS6 := hS3.nilRow tB 5;obtain rfl := Option.some.inj H;refine C_ret rfl rfl ?_;exact ⟨F, (.slice none 0 0), rfl, hS6.pick [0] (by decide)⟩
 ·rw [if_f hc4] at H;refine C_skip ?_;refine N_code ?_;refine C_seq ?_;obtain ⟨l8, hl8, H⟩ := bd_some H;refine C_region ?_;refine W_field_pl 0 rfl Ty.field45_0 rfl ?_;refine W_bld1 0 rfl Ty.cell9 rfl hS3 rfl rfl ?_;refine W_lenS rfl Try.underlying9 rfl ?_;refine W_conv rfl rfl Ty.some3 Try.underlying5 (i8_of _) ?_;refine W_bs (t := tB) [[.int .u8 ((toB8 (x0.name.length : Int)).toNat : Int)]] [(toB8 (x0.name.length : Int))] rfl Try.underlying25 Ty.cells5 rfl rfl Ty.zero5 rfl rfl ⟨rfl, trivial⟩ rfl rfl hS3 ?_;intro u7 w7 hS7;refine W_field_pl 0 rfl Ty.field45_0 rfl ?_;refine W_bld1 1 rfl Ty.cell9 rfl hS7 rfl rfl ?_;refine W_appS 0 rfl Try.underlying25 Try.underlying9 Ty.row5 rfl rfl rfl rfl hS7 rfl hl8 ?_;intro v9 w9 hS9;refine W_assign rfl rfl ?_;refine W_nil ?_;refine N_code ?_;refine C_seq ?_;obtain ⟨l11, hl11, H⟩ := bd_some H;refine C_region ?_;refine W_move rfl rfl ?_;refine W_field_pl 1 rfl Ty.field45_1 rfl ?_;refine W_bld1 1 rfl Ty.cell43 rfl hS9 rfl rfl ?_;refine W_lenv rfl Try.underlying43 rfl h0_0.ln ?_;refine W_conv rfl rfl Ty.some3 Try.underlying5 (i8_of _) ?_;refine W_bs (t := tB) [[.int .u8 ((toB8 (x0.parts.length : Int)).toNat : Int)]] [(toB8 (x0.parts.length : Int))] rfl Try.underlying25 Ty.cells5 rfl rfl Ty.zero5 rfl rfl ⟨rfl, trivial⟩ rfl rfl hS9 ?_;intro u10 w10 hS10;refine W_appM 1 rfl Try.underlying25 Ty.row5 rfl rfl rfl rfl rfl hS10 rfl (hS10.rowSrc (j := 0) rfl) hl11 ?_;intro v12 w12 hS12;refine W_assign rfl rfl ?_;refine W_nil ?_;refine N_code ?_;refine C_seq_join (fun E wq => ∃ l14 : List UInt8, manifest_Bytes.k1 l14 = some r ∧ ∃ (F13 : Frz) (u15 : Value), E = [(5, u15)] ∧ F.le F13 ∧ St [] w F F13 [.row tB 5 u15 l14] wq) ?_ ?_
  ·refine C_seq ?_;refine C_region ?_;refine W_field_pl 1 rfl Ty.field45_1 rfl ?_;refine W_bld1 2 rfl Ty.cell43 rfl hS12 rfl rfl ?_;refine W_lenv rfl Try.underlying43 rfl h0_0.ln ?_;refine W_move rfl rfl ?_;refine W_nil ?_;refine N_code ?_;refine C_block ?_;refine C_loopM (fun (s : (List UInt8) × Int) E wq => ∃ (F17 : Frz) (u19 : Value), E = [(5, u19), (31, v0_0), (32, .int .i64 (x0.parts.length : Int)), (33, .int .i64 s.2)] ∧ F.le F17 ∧ St [] w F F17 [.row tB 5 u19 s.1] wq) H ?_ ?_
   ·exact ⟨_, ⟨F, v12, rfl, (Frz.le.refl _), hS12.pick [1] (by decide)⟩, ⟨rfl, rfl, rfl, rfl, trivial⟩⟩
   ·rintro rec22 ⟨l18, i21⟩ E w17 hI H;(try dsimp only at hI);obtain ⟨F17, u19, rfl, le17, hS17⟩ := hI;dsimp only [manifest_Bytes.l2] at H;refine C_seq ?_;refine C_region ?_;refine W_lss rfl rfl rfl ?_;refine W_nil ?_;refine N_code ?_;refine C_seq ?_;refine C_cond rfl (fun hc23 => ?_) (fun hc23 => ?_)
    ·rw [if_t hc23] at H;refine C_skip ?_;refine N_code ?_;refine C_seq_join (fun E wq => ∃ l25 : List UInt8, manifest_Bytes.k3 i21 rec22 l25 = some r ∧ ∃ (F24 : Frz) (u26 : Value), E = [(5, u26), (31, v0_0), (32, .int .i64 (x0.parts.length : Int)), (33, .int .i64 i21)] ∧ F17.le F24 ∧ St [] w F F24 [.row tB 5 u26 l25] wq) ?_ ?_
     ·refine C_block ?_;refine C_seq ?_;obtain ⟨x28, hx28, H⟩ := bd_some H;refine C_region ?_;obtain ⟨hp31, hy31⟩ := ix_some hx28;obtain ⟨cs31, hr31, he31⟩ := (h0_0.mono le17).at_ hy31;obtain ⟨ue29_0, rfl, hue29_0⟩ := hr31;replace he31 : Elf _ _ 3 _ _ := he31;refine W_ix rfl Try.underlying43 Ty.cells51 Ty.info51 rfl rfl (he31.el hS17.agree) hp31 rfl ?_;refine W_ldg 0 ((Part.cells x28 ue29_0)) rfl Ty.agg51 Ty.size51 rfl (he31.el hS17.agree) (by omega) (fun q u h => sub_at (post := []) rfl h) ?_;refine W_alc (cs := [strV [], .int .i64 0, .slice none 0 0]) rfl Ty.zero51 rfl hS17 ?_;intro g30 w30 hS30;refine W_bst (c := [strV x28.path, .int .i64 x28.size, ue29_0]) 0 ([strV x28.path, .int .i64 x28.size, ue29_0]) rfl rfl hS30 rfl rfl Ty.size51 (fun y hy => Part.t.one (F := F17) (x := x28) ⟨ue29_0, rfl, hue29_0⟩ y hy) (Nat.le_of_ble_eq_true rfl) rfl ?_;intro w32 hS32;refine W_nil ?_;refine N_code ?_;refine C_seq ?_;obtain ⟨l34, hl34, H⟩ := bd_some H;obtain ⟨l36, hl36, H⟩ := bd_some H
      apply C_drawJ (fun D vs wz => ∀ (b0 b5 b6 : Bool), D 0 = b0 → D 5 = b5 → D 6 = b6 → match b0, b5, b6 with | false, false, false => ∃ FJ : Frz, F17.le FJ ∧ St [] w F FJ [.box g30 51 [strV x28.path, .int .i64 x28.size, ue29_0], .row tB 5 u19 l18] wz | true, false, false => ∃ FJ : Frz, vs 0 = u19 ∧ F17.le FJ ∧ St [] w F FJ [.box g30 51 [strV x28.path, .int .i64 x28.size, ue29_0], .row tB 5 u19 l18] wz | false, true, false => ∃ FJ : Frz, ∃ u33 : Value, vs 5 = u33 ∧ F17.le FJ ∧ St [] w F FJ [.row tB 5 u33 [(toB8 (x28.path.length : Int))], .box g30 51 [strV x28.path, .int .i64 x28.size, ue29_0], .row tB 5 u19 l18] wz | true, true, false => ∃ FJ : Frz, ∃ u33 : Value, vs 0 = u19 ∧ vs 5 = u33 ∧ F17.le FJ ∧ St [] w F FJ [.row tB 5 u33 [(toB8 (x28.path.length : Int))], .box g30 51 [strV x28.path, .int .i64 x28.size, ue29_0], .row tB 5 u19 l18] wz | true, true, true => ∃ FJ : Frz, ∃ u33 : Value, ∃ v35 : Value, vs 0 = u19 ∧ vs 5 = u33 ∧ vs 6 = v35 ∧ F17.le FJ ∧ St [] w F FJ [.row tB 5 u33 [(toB8 (x28.path.length : Int))], .box g30 51 [strV x28.path, .int .i64 x28.size, ue29_0], .row tB 5 v35 l34] wz | _, _, _ => False) 9 [[], [], [1], [2], [3], [4], [0, 5], [], [7]] [none, some (pl g30 (0 + 0)), some (strV x28.path), some (.int .i64 (x28.path.length : Int)), some (.int .u8 ((toB8 (x28.path.length : Int)).toNat : Int)), none, none, some (pl g30 (0 + 0)), some (strV x28.path)] Ty.mixed rfl (by kernel_rfl) (by kernel_rfl) rfl
      ·intro vq38 b0 b5 b6 h0 h5 h6;obtain rfl : b0 = false := h0.symm;obtain rfl : b5 = false := h5.symm;obtain rfl : b6 = false := h6.symm;exact ⟨F17, (Frz.le.refl _), (hS32.below (below_drew _))⟩
      ·refine ⟨?_, ?_, ?_, ?_, ?_, ?_, ?_, ?_, ?_, trivial⟩
       ·intro w39 vq39 D39 hD39 hd39 hJ39
        rcases Bool.eq_false_or_eq_true (D39 5) with hb40 | hb40
        ·
         rcases Bool.eq_false_or_eq_true (D39 6) with hb41 | hb41
         ·exact False.elim (hJ39 false true true hD39 hb40 hb41)
         ·obtain ⟨FJ39, u33, he39_5, leJ39, hSJ39⟩ := (hJ39 false true false hD39 hb40 hb41);refine W_move rfl rfl ?_;refine W_nil ?_;exact N_stepJ rfl (fun u (hu : (none : Option Value) = some u) => by cases hu) (fun b0 b5 b6 h0 h5 h6 => by obtain rfl : b0 = true := h0.symm; obtain rfl : b5 = true := h5.symm.trans hb40; obtain rfl : b6 = false := h6.symm.trans hb41; exact ⟨FJ39, u33, rfl, he39_5, leJ39, hSJ39⟩)
        ·
         rcases Bool.eq_false_or_eq_true (D39 6) with hb42 | hb42
         ·exact False.elim (hJ39 false false true hD39 hb40 hb42)
         ·obtain ⟨FJ39, leJ39, hSJ39⟩ := (hJ39 false false false hD39 hb40 hb42);refine W_move rfl rfl ?_;refine W_nil ?_;exact N_stepJ rfl (fun u (hu : (none : Option Value) = some u) => by cases hu) (fun b0 b5 b6 h0 h5 h6 => by obtain rfl : b0 = true := h0.symm; obtain rfl : b5 = false := h5.symm.trans hb40; obtain rfl : b6 = false := h6.symm.trans hb42; exact ⟨FJ39, rfl, leJ39, hSJ39⟩)
       ·intro w43 vq43 D43 hD43 hd43 hJ43
        rcases Bool.eq_false_or_eq_true (D43 0) with hb44 | hb44
        ·
         rcases Bool.eq_false_or_eq_true (D43 5) with hb45 | hb45
         ·
          rcases Bool.eq_false_or_eq_true (D43 6) with hb46 | hb46
          ·obtain ⟨FJ43, u33, v35, he43_0, he43_5, he43_6, leJ43, hSJ43⟩ := (hJ43 true true true hb44 hb45 hb46);refine W_field_pl 0 rfl Ty.field51_0 rfl ?_;refine W_nil ?_;exact N_stepJ rfl (fun u hu => Option.some.inj hu) (fun b0 b5 b6 h0 h5 h6 => by obtain rfl : b0 = true := h0.symm.trans hb44; obtain rfl : b5 = true := h5.symm.trans hb45; obtain rfl : b6 = true := h6.symm.trans hb46; exact ⟨FJ43, u33, v35, he43_0, he43_5, he43_6, leJ43, hSJ43⟩)
          ·obtain ⟨FJ43, u33, he43_0, he43_5, leJ43, hSJ43⟩ := (hJ43 true true false hb44 hb45 hb46);refine W_field_pl 0 rfl Ty.field51_0 rfl ?_;refine W_nil ?_;exact N_stepJ rfl (fun u hu => Option.some.inj hu) (fun b0 b5 b6 h0 h5 h6 => by obtain rfl : b0 = true := h0.symm.trans hb44; obtain rfl : b5 = true := h5.symm.trans hb45; obtain rfl : b6 = false := h6.symm.trans hb46; exact ⟨FJ43, u33, he43_0, he43_5, leJ43, hSJ43⟩)
         ·
          rcases Bool.eq_false_or_eq_true (D43 6) with hb47 | hb47
          ·exact False.elim (hJ43 true false true hb44 hb45 hb47)
          ·obtain ⟨FJ43, he43_0, leJ43, hSJ43⟩ := (hJ43 true false false hb44 hb45 hb47);refine W_field_pl 0 rfl Ty.field51_0 rfl ?_;refine W_nil ?_;exact N_stepJ rfl (fun u hu => Option.some.inj hu) (fun b0 b5 b6 h0 h5 h6 => by obtain rfl : b0 = true := h0.symm.trans hb44; obtain rfl : b5 = false := h5.symm.trans hb45; obtain rfl : b6 = false := h6.symm.trans hb47; exact ⟨FJ43, he43_0, leJ43, hSJ43⟩)
        ·
         rcases Bool.eq_false_or_eq_true (D43 5) with hb48 | hb48
         ·
          rcases Bool.eq_false_or_eq_true (D43 6) with hb49 | hb49
          ·exact False.elim (hJ43 false true true hb44 hb48 hb49)
          ·obtain ⟨FJ43, u33, he43_5, leJ43, hSJ43⟩ := (hJ43 false true false hb44 hb48 hb49);refine W_field_pl 0 rfl Ty.field51_0 rfl ?_;refine W_nil ?_;exact N_stepJ rfl (fun u hu => Option.some.inj hu) (fun b0 b5 b6 h0 h5 h6 => by obtain rfl : b0 = false := h0.symm.trans hb44; obtain rfl : b5 = true := h5.symm.trans hb48; obtain rfl : b6 = false := h6.symm.trans hb49; exact ⟨FJ43, u33, he43_5, leJ43, hSJ43⟩)
         ·
          rcases Bool.eq_false_or_eq_true (D43 6) with hb50 | hb50
          ·exact False.elim (hJ43 false false true hb44 hb48 hb50)
          ·obtain ⟨FJ43, leJ43, hSJ43⟩ := (hJ43 false false false hb44 hb48 hb50);refine W_field_pl 0 rfl Ty.field51_0 rfl ?_;refine W_nil ?_;exact N_stepJ rfl (fun u hu => Option.some.inj hu) (fun b0 b5 b6 h0 h5 h6 => by obtain rfl : b0 = false := h0.symm.trans hb44; obtain rfl : b5 = false := h5.symm.trans hb48; obtain rfl : b6 = false := h6.symm.trans hb50; exact ⟨FJ43, leJ43, hSJ43⟩)
       ·intro w51 vq51 D51 hD51 hd51 hJ51
        rcases Bool.eq_false_or_eq_true (D51 0) with hb52 | hb52
        ·
         rcases Bool.eq_false_or_eq_true (D51 5) with hb53 | hb53
         ·
          rcases Bool.eq_false_or_eq_true (D51 6) with hb54 | hb54
          ·obtain ⟨FJ51, u33, v35, he51_0, he51_5, he51_6, leJ51, hSJ51⟩ := (hJ51 true true true hb52 hb53 hb54);refine W_bld1 1 rfl Ty.cell9 rfl hSJ51 rfl rfl ?_;refine W_nil ?_;exact N_stepJ rfl (fun u hu => Option.some.inj hu) (fun b0 b5 b6 h0 h5 h6 => by obtain rfl : b0 = true := h0.symm.trans hb52; obtain rfl : b5 = true := h5.symm.trans hb53; obtain rfl : b6 = true := h6.symm.trans hb54; exact ⟨FJ51, u33, v35, he51_0, he51_5, he51_6, leJ51, hSJ51⟩)
          ·obtain ⟨FJ51, u33, he51_0, he51_5, leJ51, hSJ51⟩ := (hJ51 true true false hb52 hb53 hb54);refine W_bld1 1 rfl Ty.cell9 rfl hSJ51 rfl rfl ?_;refine W_nil ?_;exact N_stepJ rfl (fun u hu => Option.some.inj hu) (fun b0 b5 b6 h0 h5 h6 => by obtain rfl : b0 = true := h0.symm.trans hb52; obtain rfl : b5 = true := h5.symm.trans hb53; obtain rfl : b6 = false := h6.symm.trans hb54; exact ⟨FJ51, u33, he51_0, he51_5, leJ51, hSJ51⟩)
         ·
          rcases Bool.eq_false_or_eq_true (D51 6) with hb55 | hb55
          ·exact False.elim (hJ51 true false true hb52 hb53 hb55)
          ·obtain ⟨FJ51, he51_0, leJ51, hSJ51⟩ := (hJ51 true false false hb52 hb53 hb55);refine W_bld1 0 rfl Ty.cell9 rfl hSJ51 rfl rfl ?_;refine W_nil ?_;exact N_stepJ rfl (fun u hu => Option.some.inj hu) (fun b0 b5 b6 h0 h5 h6 => by obtain rfl : b0 = true := h0.symm.trans hb52; obtain rfl : b5 = false := h5.symm.trans hb53; obtain rfl : b6 = false := h6.symm.trans hb55; exact ⟨FJ51, he51_0, leJ51, hSJ51⟩)
        ·
         rcases Bool.eq_false_or_eq_true (D51 5) with hb56 | hb56
         ·
          rcases Bool.eq_false_or_eq_true (D51 6) with hb57 | hb57
          ·exact False.elim (hJ51 false true true hb52 hb56 hb57)
          ·obtain ⟨FJ51, u33, he51_5, leJ51, hSJ51⟩ := (hJ51 false true false hb52 hb56 hb57);refine W_bld1 1 rfl Ty.cell9 rfl hSJ51 rfl rfl ?_;refine W_nil ?_;exact N_stepJ rfl (fun u hu => Option.some.inj hu) (fun b0 b5 b6 h0 h5 h6 => by obtain rfl : b0 = false := h0.symm.trans hb52; obtain rfl : b5 = true := h5.symm.trans hb56; obtain rfl : b6 = false := h6.symm.trans hb57; exact ⟨FJ51, u33, he51_5, leJ51, hSJ51⟩)
         ·
          rcases Bool.eq_false_or_eq_true (D51 6) with hb58 | hb58
          ·exact False.elim (hJ51 false false true hb52 hb56 hb58)
          ·obtain ⟨FJ51, leJ51, hSJ51⟩ := (hJ51 false false false hb52 hb56 hb58);refine W_bld1 0 rfl Ty.cell9 rfl hSJ51 rfl rfl ?_;refine W_nil ?_;exact N_stepJ rfl (fun u hu => Option.some.inj hu) (fun b0 b5 b6 h0 h5 h6 => by obtain rfl : b0 = false := h0.symm.trans hb52; obtain rfl : b5 = false := h5.symm.trans hb56; obtain rfl : b6 = false := h6.symm.trans hb58; exact ⟨FJ51, leJ51, hSJ51⟩)
       ·intro w59 vq59 D59 hD59 hd59 hJ59
        rcases Bool.eq_false_or_eq_true (D59 0) with hb60 | hb60
        ·
         rcases Bool.eq_false_or_eq_true (D59 5) with hb61 | hb61
         ·
          rcases Bool.eq_false_or_eq_true (D59 6) with hb62 | hb62
          ·obtain ⟨FJ59, u33, v35, he59_0, he59_5, he59_6, leJ59, hSJ59⟩ := (hJ59 true true true hb60 hb61 hb62);refine W_lenS rfl Try.underlying9 rfl ?_;refine W_nil ?_;exact N_stepJ rfl (fun u hu => Option.some.inj hu) (fun b0 b5 b6 h0 h5 h6 => by obtain rfl : b0 = true := h0.symm.trans hb60; obtain rfl : b5 = true := h5.symm.trans hb61; obtain rfl : b6 = true := h6.symm.trans hb62; exact ⟨FJ59, u33, v35, he59_0, he59_5, he59_6, leJ59, hSJ59⟩)
          ·obtain ⟨FJ59, u33, he59_0, he59_5, leJ59, hSJ59⟩ := (hJ59 true true false hb60 hb61 hb62);refine W_lenS rfl Try.underlying9 rfl ?_;refine W_nil ?_;exact N_stepJ rfl (fun u hu => Option.some.inj hu) (fun b0 b5 b6 h0 h5 h6 => by obtain rfl : b0 = true := h0.symm.trans hb60; obtain rfl : b5 = true := h5.symm.trans hb61; obtain rfl : b6 = false := h6.symm.trans hb62; exact ⟨FJ59, u33, he59_0, he59_5, leJ59, hSJ59⟩)
         ·
          rcases Bool.eq_false_or_eq_true (D59 6) with hb63 | hb63
          ·exact False.elim (hJ59 true false true hb60 hb61 hb63)
          ·obtain ⟨FJ59, he59_0, leJ59, hSJ59⟩ := (hJ59 true false false hb60 hb61 hb63);refine W_lenS rfl Try.underlying9 rfl ?_;refine W_nil ?_;exact N_stepJ rfl (fun u hu => Option.some.inj hu) (fun b0 b5 b6 h0 h5 h6 => by obtain rfl : b0 = true := h0.symm.trans hb60; obtain rfl : b5 = false := h5.symm.trans hb61; obtain rfl : b6 = false := h6.symm.trans hb63; exact ⟨FJ59, he59_0, leJ59, hSJ59⟩)
        ·
         rcases Bool.eq_false_or_eq_true (D59 5) with hb64 | hb64
         ·
          rcases Bool.eq_false_or_eq_true (D59 6) with hb65 | hb65
          ·exact False.elim (hJ59 false true true hb60 hb64 hb65)
          ·obtain ⟨FJ59, u33, he59_5, leJ59, hSJ59⟩ := (hJ59 false true false hb60 hb64 hb65);refine W_lenS rfl Try.underlying9 rfl ?_;refine W_nil ?_;exact N_stepJ rfl (fun u hu => Option.some.inj hu) (fun b0 b5 b6 h0 h5 h6 => by obtain rfl : b0 = false := h0.symm.trans hb60; obtain rfl : b5 = true := h5.symm.trans hb64; obtain rfl : b6 = false := h6.symm.trans hb65; exact ⟨FJ59, u33, he59_5, leJ59, hSJ59⟩)
         ·
          rcases Bool.eq_false_or_eq_true (D59 6) with hb66 | hb66
          ·exact False.elim (hJ59 false false true hb60 hb64 hb66)
          ·obtain ⟨FJ59, leJ59, hSJ59⟩ := (hJ59 false false false hb60 hb64 hb66);refine W_lenS rfl Try.underlying9 rfl ?_;refine W_nil ?_;exact N_stepJ rfl (fun u hu => Option.some.inj hu) (fun b0 b5 b6 h0 h5 h6 => by obtain rfl : b0 = false := h0.symm.trans hb60; obtain rfl : b5 = false := h5.symm.trans hb64; obtain rfl : b6 = false := h6.symm.trans hb66; exact ⟨FJ59, leJ59, hSJ59⟩)
       ·intro w67 vq67 D67 hD67 hd67 hJ67
        rcases Bool.eq_false_or_eq_true (D67 0) with hb68 | hb68
        ·
         rcases Bool.eq_false_or_eq_true (D67 5) with hb69 | hb69
         ·
          rcases Bool.eq_false_or_eq_true (D67 6) with hb70 | hb70
          ·obtain ⟨FJ67, u33, v35, he67_0, he67_5, he67_6, leJ67, hSJ67⟩ := (hJ67 true true true hb68 hb69 hb70);refine W_conv rfl rfl Ty.some3 Try.underlying5 (i8_of _) ?_;refine W_nil ?_;exact N_stepJ rfl (fun u hu => Option.some.inj hu) (fun b0 b5 b6 h0 h5 h6 => by obtain rfl : b0 = true := h0.symm.trans hb68; obtain rfl : b5 = true := h5.symm.trans hb69; obtain rfl : b6 = true := h6.symm.trans hb70; exact ⟨FJ67, u33, v35, he67_0, he67_5, he67_6, leJ67, hSJ67⟩)
          ·obtain ⟨FJ67, u33, he67_0, he67_5, leJ67, hSJ67⟩ := (hJ67 true true false hb68 hb69 hb70);refine W_conv rfl rfl Ty.some3 Try.underlying5 (i8_of _) ?_;refine W_nil ?_;exact N_stepJ rfl (fun u hu => Option.some.inj hu) (fun b0 b5 b6 h0 h5 h6 => by obtain rfl : b0 = true := h0.symm.trans hb68; obtain rfl : b5 = true := h5.symm.trans hb69; obtain rfl : b6 = false := h6.symm.trans hb70; exact ⟨FJ67, u33, he67_0, he67_5, leJ67, hSJ67⟩)
         ·
          rcases Bool.eq_false_or_eq_true (D67 6) with hb71 | hb71
          ·exact False.elim (hJ67 true false true hb68 hb69 hb71)
          ·obtain ⟨FJ67, he67_0, leJ67, hSJ67⟩ := (hJ67 true false false hb68 hb69 hb71);refine W_conv rfl rfl Ty.some3 Try.underlying5 (i8_of _) ?_;refine W_nil ?_;exact N_stepJ rfl (fun u hu => Option.some.inj hu) (fun b0 b5 b6 h0 h5 h6 => by obtain rfl : b0 = true := h0.symm.trans hb68; obtain rfl : b5 = false := h5.symm.trans hb69; obtain rfl : b6 = false := h6.symm.trans hb71; exact ⟨FJ67, he67_0, leJ67, hSJ67⟩)
        ·
         rcases Bool.eq_false_or_eq_true (D67 5) with hb72 | hb72
         ·
          rcases Bool.eq_false_or_eq_true (D67 6) with hb73 | hb73
          ·exact False.elim (hJ67 false true true hb68 hb72 hb73)
          ·obtain ⟨FJ67, u33, he67_5, leJ67, hSJ67⟩ := (hJ67 false true false hb68 hb72 hb73);refine W_conv rfl rfl Ty.some3 Try.underlying5 (i8_of _) ?_;refine W_nil ?_;exact N_stepJ rfl (fun u hu => Option.some.inj hu) (fun b0 b5 b6 h0 h5 h6 => by obtain rfl : b0 = false := h0.symm.trans hb68; obtain rfl : b5 = true := h5.symm.trans hb72; obtain rfl : b6 = false := h6.symm.trans hb73; exact ⟨FJ67, u33, he67_5, leJ67, hSJ67⟩)
         ·
          rcases Bool.eq_false_or_eq_true (D67 6) with hb74 | hb74
          ·exact False.elim (hJ67 false false true hb68 hb72 hb74)
          ·obtain ⟨FJ67, leJ67, hSJ67⟩ := (hJ67 false false false hb68 hb72 hb74);refine W_conv rfl rfl Ty.some3 Try.underlying5 (i8_of _) ?_;refine W_nil ?_;exact N_stepJ rfl (fun u hu => Option.some.inj hu) (fun b0 b5 b6 h0 h5 h6 => by obtain rfl : b0 = false := h0.symm.trans hb68; obtain rfl : b5 = false := h5.symm.trans hb72; obtain rfl : b6 = false := h6.symm.trans hb74; exact ⟨FJ67, leJ67, hSJ67⟩)
       ·intro w75 vq75 D75 hD75 hd75 hJ75
        rcases Bool.eq_false_or_eq_true (D75 0) with hb76 | hb76
        ·
         rcases Bool.eq_false_or_eq_true (D75 6) with hb77 | hb77
         ·exact False.elim (hJ75 true false true hb76 hD75 hb77)
         ·obtain ⟨FJ75, he75_0, leJ75, hSJ75⟩ := (hJ75 true false false hb76 hD75 hb77);refine W_bs (t := tB) [[.int .u8 ((toB8 (x28.path.length : Int)).toNat : Int)]] [(toB8 (x28.path.length : Int))] rfl Try.underlying25 Ty.cells5 rfl rfl Ty.zero5 rfl rfl ⟨rfl, trivial⟩ rfl rfl hSJ75 ?_;intro u33 w33 hS33;refine W_nil ?_;exact N_stepJ rfl (fun u (hu : (none : Option Value) = some u) => by cases hu) (fun b0 b5 b6 h0 h5 h6 => by obtain rfl : b0 = true := h0.symm.trans hb76; obtain rfl : b5 = true := h5.symm; obtain rfl : b6 = false := h6.symm.trans hb77; exact ⟨FJ75, u33, he75_0, rfl, leJ75, hS33⟩)
        ·
         rcases Bool.eq_false_or_eq_true (D75 6) with hb78 | hb78
         ·exact False.elim (hJ75 false false true hb76 hD75 hb78)
         ·obtain ⟨FJ75, leJ75, hSJ75⟩ := (hJ75 false false false hb76 hD75 hb78);refine W_bs (t := tB) [[.int .u8 ((toB8 (x28.path.length : Int)).toNat : Int)]] [(toB8 (x28.path.length : Int))] rfl Try.underlying25 Ty.cells5 rfl rfl Ty.zero5 rfl rfl ⟨rfl, trivial⟩ rfl rfl hSJ75 ?_;intro u33 w33 hS33;refine W_nil ?_;exact N_stepJ rfl (fun u (hu : (none : Option Value) = some u) => by cases hu) (fun b0 b5 b6 h0 h5 h6 => by obtain rfl : b0 = false := h0.symm.trans hb76; obtain rfl : b5 = true := h5.symm; obtain rfl : b6 = false := h6.symm.trans hb78; exact ⟨FJ75, u33, rfl, leJ75, hS33⟩)
       ·intro w79 vq79 D79 hD79 hd79 hJ79;obtain ⟨FJ79, u33, he79_0, he79_5, leJ79, hSJ79⟩ := (hJ79 true true false (hd79 0 (by decide)) (hd79 5 (by decide)) hD79);refine W_eqv (t := 37) rfl he79_0 ?_;refine W_eqv (t := 42) rfl he79_5 ?_;refine W_appM 2 rfl Try.underlying25 Ty.row5 rfl rfl rfl rfl rfl hSJ79 rfl (hSJ79.rowSrc (j := 0) rfl) hl34 ?_;intro v35 w35 hS35;refine W_nil ?_;exact N_stepJ rfl (fun u (hu : (none : Option Value) = some u) => by cases hu) (fun b0 b5 b6 h0 h5 h6 => by obtain rfl : b0 = true := h0.symm.trans (hd79 0 (by decide)); obtain rfl : b5 = true := h5.symm.trans (hd79 5 (by decide)); obtain rfl : b6 = true := h6.symm; exact ⟨FJ79, u33, v35, he79_0, he79_5, rfl, leJ79, hS35⟩)
       ·intro w80 vq80 D80 hD80 hd80 hJ80
        rcases Bool.eq_false_or_eq_true (D80 0) with hb81 | hb81
        ·
         rcases Bool.eq_false_or_eq_true (D80 5) with hb82 | hb82
         ·
          rcases Bool.eq_false_or_eq_true (D80 6) with hb83 | hb83
          ·obtain ⟨FJ80, u33, v35, he80_0, he80_5, he80_6, leJ80, hSJ80⟩ := (hJ80 true true true hb81 hb82 hb83);refine W_field_pl 0 rfl Ty.field51_0 rfl ?_;refine W_nil ?_;exact N_stepJ rfl (fun u hu => Option.some.inj hu) (fun b0 b5 b6 h0 h5 h6 => by obtain rfl : b0 = true := h0.symm.trans hb81; obtain rfl : b5 = true := h5.symm.trans hb82; obtain rfl : b6 = true := h6.symm.trans hb83; exact ⟨FJ80, u33, v35, he80_0, he80_5, he80_6, leJ80, hSJ80⟩)
          ·obtain ⟨FJ80, u33, he80_0, he80_5, leJ80, hSJ80⟩ := (hJ80 true true false hb81 hb82 hb83);refine W_field_pl 0 rfl Ty.field51_0 rfl ?_;refine W_nil ?_;exact N_stepJ rfl (fun u hu => Option.some.inj hu) (fun b0 b5 b6 h0 h5 h6 => by obtain rfl : b0 = true := h0.symm.trans hb81; obtain rfl : b5 = true := h5.symm.trans hb82; obtain rfl : b6 = false := h6.symm.trans hb83; exact ⟨FJ80, u33, he80_0, he80_5, leJ80, hSJ80⟩)
         ·
          rcases Bool.eq_false_or_eq_true (D80 6) with hb84 | hb84
          ·exact False.elim (hJ80 true false true hb81 hb82 hb84)
          ·obtain ⟨FJ80, he80_0, leJ80, hSJ80⟩ := (hJ80 true false false hb81 hb82 hb84);refine W_field_pl 0 rfl Ty.field51_0 rfl ?_;refine W_nil ?_;exact N_stepJ rfl (fun u hu => Option.some.inj hu) (fun b0 b5 b6 h0 h5 h6 => by obtain rfl : b0 = true := h0.symm.trans hb81; obtain rfl : b5 = false := h5.symm.trans hb82; obtain rfl : b6 = false := h6.symm.trans hb84; exact ⟨FJ80, he80_0, leJ80, hSJ80⟩)
        ·
         rcases Bool.eq_false_or_eq_true (D80 5) with hb85 | hb85
         ·
          rcases Bool.eq_false_or_eq_true (D80 6) with hb86 | hb86
          ·exact False.elim (hJ80 false true true hb81 hb85 hb86)
          ·obtain ⟨FJ80, u33, he80_5, leJ80, hSJ80⟩ := (hJ80 false true false hb81 hb85 hb86);refine W_field_pl 0 rfl Ty.field51_0 rfl ?_;refine W_nil ?_;exact N_stepJ rfl (fun u hu => Option.some.inj hu) (fun b0 b5 b6 h0 h5 h6 => by obtain rfl : b0 = false := h0.symm.trans hb81; obtain rfl : b5 = true := h5.symm.trans hb85; obtain rfl : b6 = false := h6.symm.trans hb86; exact ⟨FJ80, u33, he80_5, leJ80, hSJ80⟩)
         ·
          rcases Bool.eq_false_or_eq_true (D80 6) with hb87 | hb87
          ·exact False.elim (hJ80 false false true hb81 hb85 hb87)
          ·obtain ⟨FJ80, leJ80, hSJ80⟩ := (hJ80 false false false hb81 hb85 hb87);refine W_field_pl 0 rfl Ty.field51_0 rfl ?_;refine W_nil ?_;exact N_stepJ rfl (fun u hu => Option.some.inj hu) (fun b0 b5 b6 h0 h5 h6 => by obtain rfl : b0 = false := h0.symm.trans hb81; obtain rfl : b5 = false := h5.symm.trans hb85; obtain rfl : b6 = false := h6.symm.trans hb87; exact ⟨FJ80, leJ80, hSJ80⟩)
       ·intro w88 vq88 D88 hD88 hd88 hJ88
        rcases Bool.eq_false_or_eq_true (D88 0) with hb89 | hb89
        ·
         rcases Bool.eq_false_or_eq_true (D88 5) with hb90 | hb90
         ·
          rcases Bool.eq_false_or_eq_true (D88 6) with hb91 | hb91
          ·obtain ⟨FJ88, u33, v35, he88_0, he88_5, he88_6, leJ88, hSJ88⟩ := (hJ88 true true true hb89 hb90 hb91);refine W_bld1 1 rfl Ty.cell9 rfl hSJ88 rfl rfl ?_;refine W_nil ?_;exact N_stepJ rfl (fun u hu => Option.some.inj hu) (fun b0 b5 b6 h0 h5 h6 => by obtain rfl : b0 = true := h0.symm.trans hb89; obtain rfl : b5 = true := h5.symm.trans hb90; obtain rfl : b6 = true := h6.symm.trans hb91; exact ⟨FJ88, u33, v35, he88_0, he88_5, he88_6, leJ88, hSJ88⟩)
          ·obtain ⟨FJ88, u33, he88_0, he88_5, leJ88, hSJ88⟩ := (hJ88 true true false hb89 hb90 hb91);refine W_bld1 1 rfl Ty.cell9 rfl hSJ88 rfl rfl ?_;refine W_nil ?_;exact N_stepJ rfl (fun u hu => Option.some.inj hu) (fun b0 b5 b6 h0 h5 h6 => by obtain rfl : b0 = true := h0.symm.trans hb89; obtain rfl : b5 = true := h5.symm.trans hb90; obtain rfl : b6 = false := h6.symm.trans hb91; exact ⟨FJ88, u33, he88_0, he88_5, leJ88, hSJ88⟩)
         ·
          rcases Bool.eq_false_or_eq_true (D88 6) with hb92 | hb92
          ·exact False.elim (hJ88 true false true hb89 hb90 hb92)
          ·obtain ⟨FJ88, he88_0, leJ88, hSJ88⟩ := (hJ88 true false false hb89 hb90 hb92);refine W_bld1 0 rfl Ty.cell9 rfl hSJ88 rfl rfl ?_;refine W_nil ?_;exact N_stepJ rfl (fun u hu => Option.some.inj hu) (fun b0 b5 b6 h0 h5 h6 => by obtain rfl : b0 = true := h0.symm.trans hb89; obtain rfl : b5 = false := h5.symm.trans hb90; obtain rfl : b6 = false := h6.symm.trans hb92; exact ⟨FJ88, he88_0, leJ88, hSJ88⟩)
        ·
         rcases Bool.eq_false_or_eq_true (D88 5) with hb93 | hb93
         ·
          rcases Bool.eq_false_or_eq_true (D88 6) with hb94 | hb94
          ·exact False.elim (hJ88 false true true hb89 hb93 hb94)
          ·obtain ⟨FJ88, u33, he88_5, leJ88, hSJ88⟩ := (hJ88 false true false hb89 hb93 hb94);refine W_bld1 1 rfl Ty.cell9 rfl hSJ88 rfl rfl ?_;refine W_nil ?_;exact N_stepJ rfl (fun u hu => Option.some.inj hu) (fun b0 b5 b6 h0 h5 h6 => by obtain rfl : b0 = false := h0.symm.trans hb89; obtain rfl : b5 = true := h5.symm.trans hb93; obtain rfl : b6 = false := h6.symm.trans hb94; exact ⟨FJ88, u33, he88_5, leJ88, hSJ88⟩)
         ·
          rcases Bool.eq_false_or_eq_true (D88 6) with hb95 | hb95
          ·exact False.elim (hJ88 false false true hb89 hb93 hb95)
          ·obtain ⟨FJ88, leJ88, hSJ88⟩ := (hJ88 false false false hb89 hb93 hb95);refine W_bld1 0 rfl Ty.cell9 rfl hSJ88 rfl rfl ?_;refine W_nil ?_;exact N_stepJ rfl (fun u hu => Option.some.inj hu) (fun b0 b5 b6 h0 h5 h6 => by obtain rfl : b0 = false := h0.symm.trans hb89; obtain rfl : b5 = false := h5.symm.trans hb93; obtain rfl : b6 = false := h6.symm.trans hb95; exact ⟨FJ88, leJ88, hSJ88⟩)
      intro w96 vq96 D96 hA96 hJ96;obtain ⟨FJ96, u33, v35, he96_0, he96_5, he96_6, leJ96, hSJ96⟩ := (hJ96 true true true (hA96 0 (by decide)) (hA96 5 (by decide)) (hA96 6 (by decide)));refine W_eqv (t := 37) rfl he96_0 ?_;refine W_eqv (t := 42) rfl he96_5 ?_;refine W_eqv (t := 43) rfl he96_6 ?_;refine W_appS 2 rfl Try.underlying25 Try.underlying9 Ty.row5 rfl rfl rfl rfl hSJ96 rfl hl36 ?_;intro v37 w37 hS37;refine W_assign rfl rfl ?_;refine W_nil ?_;refine N_code ?_;refine C_seq ?_;obtain ⟨r97, hr97, H⟩ := bd_some H;refine C_region ?_;refine W_move rfl rfl ?_;refine W_field_pl 1 rfl Ty.field51_1 rfl ?_;refine W_bld1 1 rfl Ty.cell3 rfl hS37 rfl rfl ?_;refine W_call rfl Ty.named65 rfl (bin_Put_ok (now_agree _) (hS37.rowNow (k := 2) rfl) hr97) ?_;rintro v98 w98 ⟨Fr97, ur97_0, rfl, hT98⟩;have hS98 := hS37.lentFlat hT98 ⟨fun h => h, trivial⟩;refine W_move rfl rfl ?_;refine W_extract rfl rfl rfl ?_;refine W_extract rfl rfl rfl ?_;refine W_assign rfl rfl ?_;refine W_nil ?_;refine N_code ?_;refine C_seq ?_;obtain ⟨l100, hl100, H⟩ := bd_some H;refine C_region ?_;refine W_move rfl rfl ?_;refine W_field_pl 2 rfl Ty.field51_2 rfl ?_;refine W_bld1 2 rfl Ty.cell49 rfl hS98 rfl rfl ?_;refine W_lenv rfl Try.underlying49 rfl hue29_0.ln ?_;refine W_conv rfl rfl Ty.some3 Try.underlying5 (i8_of _) ?_;refine W_bs (t := tB) [[.int .u8 ((toB8 (x28.ids.length : Int)).toNat : Int)]] [(toB8 (x28.ids.length : Int))] rfl Try.underlying25 Ty.cells5 rfl rfl Ty.zero5 rfl rfl ⟨rfl, trivial⟩ rfl rfl hS98 ?_;intro u99 w99 hS99;refine W_appM 1 rfl Try.underlying25 Ty.row5 rfl rfl rfl rfl rfl hS99 rfl (hS99.rowSrc (j := 0) rfl) hl100 ?_;intro v101 w101 hS101;refine W_assign rfl rfl ?_;refine W_nil ?_;refine N_code ?_;refine C_seq ?_;refine C_region ?_;refine W_field_pl 2 rfl Ty.field51_2 rfl ?_;refine W_bld1 3 rfl Ty.cell49 rfl hS101 rfl rfl ?_;refine W_lenv rfl Try.underlying49 rfl hue29_0.ln ?_;refine W_move rfl rfl ?_;refine W_nil ?_;refine N_code ?_;refine C_block ?_;refine C_loopM (fun (s : Int × (List UInt8)) E wq => ∃ (F102 : Frz) (u105 : Value), E = [(5, u105), (31, v0_0), (32, .int .i64 (x0.parts.length : Int)), (33, .int .i64 i21), (62, ue29_0), (63, .int .i64 (x28.ids.length : Int)), (64, .int .i64 s.1)] ∧ FJ96.le F102 ∧ St [] w F F102 [.row tB 5 u105 s.2] wq) H ?_ ?_
      ·exact ⟨_, ⟨FJ96, v101, rfl, (Frz.le.refl _), hS101.pick [1] (by decide)⟩, ⟨rfl, rfl, rfl, rfl, rfl, rfl, rfl, trivial⟩⟩
      ·rintro rec106 ⟨i103, l104⟩ E w102 hI H;(try dsimp only at hI);obtain ⟨F102, u105, rfl, le102, hS102⟩ := hI;dsimp only [manifest_Bytes.l4] at H;refine C_seq ?_;refine C_region ?_;refine W_lss rfl rfl rfl ?_;refine W_nil ?_;refine N_code ?_;refine C_seq ?_;refine C_cond rfl (fun hc107 => ?_) (fun hc107 => ?_)
       ·rw [if_t hc107] at H;refine C_skip ?_;refine N_code ?_;refine C_seq ?_;refine C_block ?_;refine C_seq ?_;obtain ⟨x108, hx108, H⟩ := bd_some H;refine C_region ?_;obtain ⟨hp111, hy111⟩ := ix_some hx108;obtain ⟨cs111, hr111, he111⟩ := (hue29_0.mono (leJ96.trans le102)).at_ hy111;obtain ⟨rfl, hle109⟩ := hr111;replace he111 : Elf _ _ 32 _ _ := he111;refine W_ix rfl Try.underlying49 Ty.cells57 Ty.info57 rfl rfl (he111.el hS102.agree) hp111 rfl ?_;refine W_ldg 0 ((idCells x108)) rfl Ty.agg57 Ty.size57 rfl (he111.el hS102.agree) (by omega) (fun q u h => sub_at (post := []) rfl h) ?_;refine W_alc (cs := idCells (List.replicate 32 (0 : UInt8))) rfl Ty.zero57 rfl hS102 ?_;intro g110 w110 hS110;refine W_bst (c := idCells x108) 0 (idCells x108) rfl rfl hS110 rfl rfl (by rw [Ty.size57]; simp [idCells_len]) (by intro y hy; simp [idCells] at hy; obtain ⟨_, _, rfl⟩ := hy; rfl) (by simp [idCells_len]) (by simp [idCells_len, List.take_append, List.drop_append, List.take_of_length_le, List.drop_eq_nil_of_le]) ?_;intro w112 hS112;refine W_nil ?_;refine N_code ?_;obtain ⟨l114, hl114, H⟩ := bd_some H;refine C_region ?_;refine W_move rfl rfl ?_;refine W_slB 0 rfl Try.underlying57 Ty.info5 rfl hS112 rfl hle109 ?_;intro q113 hv113;refine W_appM 1 rfl Try.underlying25 Ty.row5 rfl rfl rfl rfl rfl hS112 rfl hv113 hl114 ?_;intro v115 w115 hS115;refine W_assign rfl rfl ?_;refine W_nil ?_;refine N_block ?_;refine N_code ?_;refine C_region ?_;refine W_add rfl rfl rfl rfl ?_;refine W_move rfl rfl ?_;refine W_nil ?_;exact N_againM (wr (i103 + 1), l114) _ H ⟨F102, v115, rfl, le102, hS115.pick [1] (by decide)⟩ ⟨rfl, rfl, rfl, rfl, rfl, rfl, rfl, trivial⟩
       ·rw [if_f hc107] at H;refine C_exit _ rfl ?_;refine N_block ?_;exact N_join _ ⟨l104, H, ⟨F102, u105, rfl, (leJ96.trans le102), hS102⟩⟩ ⟨rfl, rfl, rfl, rfl, trivial⟩
     ·rintro E w24 ⟨l25, H, F24, u26, rfl, le24, hS24⟩;dsimp only [manifest_Bytes.k3] at H;refine C_region ?_;refine W_add rfl rfl rfl rfl ?_;refine W_move rfl rfl ?_;refine W_nil ?_;exact N_againM (l25, wr (i21 + 1)) _ H ⟨F24, u26, rfl, (le17.trans le24), hS24⟩ ⟨rfl, rfl, rfl, rfl, trivial⟩
    ·rw [if_f hc23] at H;refine C_exit _ rfl ?_;exact N_join _ ⟨l18, H, ⟨F17, u19, rfl, le17, hS17⟩⟩ ⟨rfl, trivial⟩
  ·rintro E w13 ⟨l14, H, F13, u15, rfl, le13, hS13⟩;dsimp only [manifest_Bytes.k1] at H;refine C_seq ?_;refine C_region ?_;refine W_move rfl rfl ?_;refine W_assign rfl rfl ?_;refine W_assign rfl rfl ?_;refine W_nil ?_;refine N_code ?_;obtain rfl := Option.some.inj H;refine C_ret rfl rfl ?_;exact ⟨F13, u15, rfl, hS13⟩

def tree_long_1 (x0 : File) : Option Bool :=
  some (decide (200 < (x0.data.length : Int)))

theorem tree_long_1_ok {F : Frz} {w : World} {x0 : File} {r : Bool} {v0_0 : Value} (hA : Agree F w.heap) (h0_0 : SlF tB F v0_0 x0.data) (H : tree_long_1 x0 = some r) : Ret Try.prog 88 #[.agg (File.cells x0 v0_0).toArray] w fun v w' => ∃ (F' : Frz), v = .bool r ∧ St [] w F F' [] w' := by
 refine Ret_of (args := [.agg (File.cells x0 v0_0).toArray]) Try.func88 rfl rfl ?_;change C _ _ _ _ [(0, .agg (File.cells x0 v0_0).toArray)] _;have hS := St.entry hA;dsimp only [tree_long_1] at H;refine C_seq ?_;refine C_region ?_;refine W_bx (cs := [strV x0.path, v0_0]) rfl rfl rfl hS ?_;intro g1 w1 hS1;refine W_assign rfl rfl ?_;refine W_nil ?_;refine N_code ?_;refine C_seq ?_;refine C_region ?_;refine W_field_pl 1 rfl Ty.field34_1 rfl ?_;refine W_bld1 0 rfl Ty.cell25 rfl hS1 rfl rfl ?_;refine W_lenv rfl Try.underlying25 rfl h0_0.ln ?_;refine W_gtr rfl rfl rfl ?_;refine W_assign rfl rfl ?_;refine W_nil ?_;refine N_code ?_;obtain rfl := Option.some.inj H;refine C_ret rfl rfl ?_;exact ⟨F, rfl, hS1.pick [] (by decide)⟩

def slices_IndexFunc_api_File_api_File_tree_long_1.k1 : Option Int :=
  some (-1)


def slices_IndexFunc_api_File_api_File_tree_long_1.l2 (x0 : List File) (rec4 : Int → Option Int) : Int → Option Int
  | i3 =>
    if decide (i3 < (x0.length : Int)) then
      bd (ix x0 i3) fun x6 =>
      bd (tree_long_1 x6) fun r8 =>
      if r8 then
        some i3
      else
        rec4 (wr (i3 + 1))
    else
      slices_IndexFunc_api_File_api_File_tree_long_1.k1

def slices_IndexFunc_api_File_api_File_tree_long_1 (x0 : List File) : Option Int :=
  loop (slices_IndexFunc_api_File_api_File_tree_long_1.l2 x0) 0

theorem slices_IndexFunc_api_File_api_File_tree_long_1_ok {F : Frz} {w : World} {x0 : List File} {r : Int} {v0 : Value} (hA : Agree F w.heap) (h0 : SlF File.t F v0 x0) (H : slices_IndexFunc_api_File_api_File_tree_long_1 x0 = some r) : Ret Try.prog 89 #[v0, .func (.func 88) #[] #[]] w fun v w' => ∃ (F' : Frz), v = .int .i64 r ∧ St [] w F F' [] w' := by
 refine Ret_of (args := [v0, .func (.func 88) #[] #[]]) Try.func89 rfl rfl ?_;change C _ _ _ _ [(0, v0), (1, .func (.func 88) #[] #[])] _;have hS := St.entry hA;dsimp only [slices_IndexFunc_api_File_api_File_tree_long_1] at H;refine C_seq ?_;refine C_region ?_;refine W_assign rfl rfl ?_;refine W_nil ?_;refine N_code ?_;refine C_seq_join (fun E wq => slices_IndexFunc_api_File_api_File_tree_long_1.k1 = some r ∧ ∃ (F1 : Frz), E = [] ∧ F.le F1 ∧ St [] w F F1 [] wq) ?_ ?_
 ·refine C_seq ?_;refine C_region ?_;refine W_move rfl rfl ?_;refine W_lenv rfl Try.underlying27 rfl h0.ln ?_;refine W_move rfl rfl ?_;refine W_nil ?_;refine N_code ?_;refine C_block ?_;refine C_loopM (fun (s : Int) E wq => ∃ (F2 : Frz), E = [(0, v0), (1, .func (.func 88) #[] #[]), (7, .int .i64 (x0.length : Int)), (8, .int .i64 s)] ∧ F.le F2 ∧ St [] w F F2 [] wq) H ?_ ?_
  ·exact ⟨_, ⟨F, rfl, (Frz.le.refl _), hS⟩, ⟨rfl, rfl, rfl, rfl, trivial⟩⟩
  ·rintro rec4 i3 E w2 hI H;(try dsimp only at hI);obtain ⟨F2, rfl, le2, hS2⟩ := hI;dsimp only [slices_IndexFunc_api_File_api_File_tree_long_1.l2] at H;refine C_seq ?_;refine C_region ?_;refine W_lss rfl rfl rfl ?_;refine W_nil ?_;refine N_code ?_;refine C_seq ?_;refine C_cond rfl (fun hc5 => ?_) (fun hc5 => ?_)
   ·rw [if_t hc5] at H;refine C_skip ?_;refine N_code ?_;refine C_seq ?_;refine C_block ?_;refine C_seq ?_;refine C_region ?_;refine W_move rfl rfl ?_;refine W_assign rfl rfl ?_;refine W_nil ?_;refine N_code ?_;refine C_seq ?_;obtain ⟨x6, hx6, H⟩ := bd_some H;obtain ⟨r8, hr8, H⟩ := bd_some H;refine C_region ?_;refine W_move rfl rfl ?_;refine W_move rfl rfl ?_;refine W_move rfl rfl ?_;obtain ⟨hp9, hy9⟩ := ix_some hx6;obtain ⟨cs9, hr9, he9⟩ := (h0.mono le2).at_ hy9;obtain ⟨ue7_0, rfl, hue7_0⟩ := hr9;replace he9 : Elf _ _ 2 _ _ := he9;refine W_ix rfl Try.underlying27 Ty.cells34 Ty.info34 rfl rfl (he9.el hS2.agree) hp9 rfl ?_;refine W_ldg 0 ((File.cells x6 ue7_0)) rfl Ty.agg34 Ty.size34 rfl (he9.el hS2.agree) (by omega) (fun q u h => sub_at (post := []) rfl h) ?_;refine W_callv rfl Ty.named88 rfl rfl (tree_long_1_ok hS2.agree hue7_0 hr8) ?_;rintro v10 w10 ⟨Fr8, rfl, hT10⟩;have hS10 := hS2.lent hT10;refine W_nil ?_;refine N_code ?_;refine C_cond rfl (fun hc11 => ?_) (fun hc11 => ?_)
    ·rw [if_t hc11] at H;refine C_seq ?_;refine C_region ?_;refine W_move rfl rfl ?_;refine W_assign rfl rfl ?_;refine W_nil ?_;refine N_code ?_;obtain rfl := Option.some.inj H;refine C_ret rfl rfl ?_;exact ⟨F2, rfl, hS10⟩
    ·rw [if_f hc11] at H;refine C_skip ?_;refine N_block ?_;refine N_code ?_;refine C_region ?_;refine W_add rfl rfl rfl rfl ?_;refine W_move rfl rfl ?_;refine W_nil ?_;exact N_againM (wr (i3 + 1)) _ H ⟨F2, rfl, le2, hS10⟩ ⟨rfl, rfl, rfl, rfl, trivial⟩
   ·rw [if_f hc5] at H;refine C_exit _ rfl ?_;exact N_join _ ⟨H, ⟨F2, rfl, le2, hS2⟩⟩ trivial
 ·rintro E w1 ⟨H, F1, rfl, le1, hS1⟩;dsimp only [slices_IndexFunc_api_File_api_File_tree_long_1.k1] at H;refine C_seq ?_;refine C_region ?_;refine W_assign rfl rfl ?_;refine W_nil ?_;refine N_code ?_;obtain rfl := Option.some.inj H;refine C_ret rfl rfl ?_;exact ⟨F1, rfl, hS1⟩

def slices_ContainsFunc_api_File_api_File_tree_long_1 (x0 : List File) : Option Bool :=
  bd (slices_IndexFunc_api_File_api_File_tree_long_1 x0) fun r1 =>
  some (decide (0 ≤ r1))

theorem slices_ContainsFunc_api_File_api_File_tree_long_1_ok {F : Frz} {w : World} {x0 : List File} {r : Bool} {v0 : Value} (hA : Agree F w.heap) (h0 : SlF File.t F v0 x0) (H : slices_ContainsFunc_api_File_api_File_tree_long_1 x0 = some r) : Ret Try.prog 54 #[v0, .func (.func 88) #[] #[]] w fun v w' => ∃ (F' : Frz), v = .bool r ∧ St [] w F F' [] w' := by
 refine Ret_of (args := [v0, .func (.func 88) #[] #[]]) Try.func54 rfl rfl ?_;change C _ _ _ _ [(0, v0), (1, .func (.func 88) #[] #[])] _;have hS := St.entry hA;dsimp only [slices_ContainsFunc_api_File_api_File_tree_long_1] at H;refine C_seq ?_;refine C_region ?_;refine W_assign rfl rfl ?_;refine W_nil ?_;refine N_code ?_;refine C_seq ?_;obtain ⟨r1, hr1, H⟩ := bd_some H;refine C_region ?_;refine W_move rfl rfl ?_;refine W_move rfl rfl ?_;refine W_call rfl Ty.named89 rfl (slices_IndexFunc_api_File_api_File_tree_long_1_ok hS.agree h0 hr1) ?_;rintro v2 w2 ⟨Fr1, rfl, hT2⟩;have hS2 := hS.lent hT2;refine W_geq rfl rfl rfl ?_;refine W_assign rfl rfl ?_;refine W_nil ?_;refine N_code ?_;obtain rfl := Option.some.inj H;refine C_ret rfl rfl ?_;exact ⟨F, rfl, hS2⟩

def tree_long (x0 : List File) : Option Bool :=
  bd (only (!decide (6 < (x0.length : Int))) (slices_ContainsFunc_api_File_api_File_tree_long_1 x0) false) fun r1 =>
  some (decide (6 < (x0.length : Int)) || r1)

theorem tree_long_ok {F : Frz} {w : World} {x0 : List File} {r : Bool} {v0 : Value} (hA : Agree F w.heap) (h0 : SlF File.t F v0 x0) (H : tree_long x0 = some r) : Ret Try.prog 53 #[v0] w fun v w' => ∃ (F' : Frz), v = .bool r ∧ St [] w F F' [] w' := by
 refine Ret_of (args := [v0]) Try.func53 rfl rfl ?_;change C _ _ _ _ [(0, v0)] _;have hS := St.entry hA;dsimp only [tree_long] at H;refine C_seq ?_;refine C_region ?_;refine W_assign rfl rfl ?_;refine W_nil ?_;refine N_code ?_;refine C_seq ?_;obtain ⟨r1, hr1, H⟩ := bd_some H;refine C_join (fun E wq => E = [(2, .bool (decide (6 < (x0.length : Int)) || r1))] ∧ ∃ F2 : Frz, F.le F2 ∧ St [] w F F2 [] wq) ?_ ?_
 ·
  rcases Bool.eq_false_or_eq_true (decide (6 < (x0.length : Int))) with hb3 | hb3
  ·refine C_region ?_;refine W_move rfl rfl ?_;refine W_lenv rfl Try.underlying27 rfl h0.ln ?_;refine W_gtr rfl rfl rfl ?_;refine W_move rfl rfl ?_;refine W_known (t := 6) true rfl hb3 ?_;refine W_guard_no rfl rfl rfl rfl rfl ?_;refine W_guard_no rfl rfl rfl rfl rfl ?_;refine W_pick_t rfl rfl rfl ?_;refine W_assign rfl rfl ?_;refine W_nil ?_;exact N_join _ ⟨rfl, F, (Frz.le.refl _), hS⟩ ⟨(look_bool rfl (by first | rfl | (rw [hb3]; first | done | rfl) | simp [hb3])), trivial⟩
  ·refine C_region ?_;refine W_move rfl rfl ?_;refine W_lenv rfl Try.underlying27 rfl h0.ln ?_;refine W_gtr rfl rfl rfl ?_;refine W_move rfl rfl ?_;refine W_known (t := 6) false rfl hb3 ?_;refine W_guard_yes rfl ?_;refine W_move rfl rfl ?_;refine W_guard_yes rfl ?_;have hy4 := hr1;rw [only_t (by first | rfl | (rw [hb3]; first | done | rfl) | simp [hb3])] at hy4;refine W_call rfl Ty.named54 rfl (slices_ContainsFunc_api_File_api_File_tree_long_1_ok hS.agree h0 hy4) ?_;rintro v5 w5 ⟨Fr1, rfl, hT5⟩;have hS5 := hS.lent hT5;refine W_pick_f rfl rfl rfl ?_;refine W_assign rfl rfl ?_;refine W_nil ?_;exact N_join _ ⟨rfl, F, (Frz.le.refl _), hS5⟩ ⟨(look_bool rfl (by first | rfl | (rw [hb3]; first | done | rfl) | simp [hb3])), trivial⟩
 rintro E w2 ⟨rfl, F2, le2, hS2⟩;refine N_code ?_;obtain rfl := Option.some.inj H;refine C_ret rfl rfl ?_;exact ⟨F2, rfl, hS2⟩

def tree_Check.k1 : Option Int :=
  some 0


def tree_Check.l2 (x0 : List File) (rec7 : Int → Option Int) : Int → Option Int
  | i6 =>
    if decide (i6 < (x0.length : Int)) then
      bd (ix x0 i6) fun x9 =>
      bd (tree_Name x9.path) fun r14 =>
      bd (only ((!(!r14)) && decide (0 < i6)) (ix x0 (wr (i6 - 1))) (File.mk [] [])) fun x15 =>
      if ((!r14) || (decide (0 < i6) && (sLt x9.path x15.path || x9.path == x15.path))) then
        some 1
      else
        rec7 (wr (i6 + 1))
    else
      tree_Check.k1

def tree_Check (x0 : List File) : Option Int :=
  bd (tree_long x0) fun r1 =>
  if r1 then
    some 2
  else
    loop (tree_Check.l2 x0) 0

theorem tree_Check_ok {F : Frz} {w : World} {x0 : List File} {r : Int} {v0 : Value} (hA : Agree F w.heap) (h0 : SlF File.t F v0 x0) (H : tree_Check x0 = some r) : Ret Try.prog 21 #[v0] w fun v w' => ∃ (F' : Frz), v = .int .i64 r ∧ St [] w F F' [] w' := by
 refine Ret_of (args := [v0]) Try.func21 rfl rfl ?_;change C _ _ _ _ [(0, v0)] _;have hS := St.entry hA;dsimp only [tree_Check] at H;refine C_seq ?_;refine C_region ?_;refine W_assign rfl rfl ?_;refine W_nil ?_;refine N_code ?_;refine C_seq ?_;refine C_seq ?_;obtain ⟨r1, hr1, H⟩ := bd_some H;refine C_region ?_;refine W_move rfl rfl ?_;refine W_call rfl Ty.named53 rfl (tree_long_ok hS.agree h0 hr1) ?_;rintro v2 w2 ⟨Fr1, rfl, hT2⟩;have hS2 := hS.lent hT2;refine W_nil ?_;refine N_code ?_;refine C_cond rfl (fun hc3 => ?_) (fun hc3 => ?_)
 ·rw [if_t hc3] at H;refine C_seq ?_;refine C_region ?_;refine W_assign rfl rfl ?_;refine W_nil ?_;refine N_code ?_;obtain rfl := Option.some.inj H;refine C_ret rfl rfl ?_;exact ⟨F, rfl, hS2⟩
 ·rw [if_f hc3] at H;refine C_skip ?_;refine N_code ?_;refine C_seq_join (fun E wq => tree_Check.k1 = some r ∧ ∃ (F4 : Frz), E = [] ∧ F.le F4 ∧ St [] w F F4 [] wq) ?_ ?_
  ·refine C_seq ?_;refine C_region ?_;refine W_move rfl rfl ?_;refine W_lenv rfl Try.underlying27 rfl h0.ln ?_;refine W_move rfl rfl ?_;refine W_nil ?_;refine N_code ?_;refine C_block ?_;refine C_loopM (fun (s : Int) E wq => ∃ (F5 : Frz), E = [(0, v0), (7, v0), (8, .int .i64 (x0.length : Int)), (9, .int .i64 s)] ∧ F.le F5 ∧ St [] w F F5 [] wq) H ?_ ?_
   ·exact ⟨_, ⟨F, rfl, (Frz.le.refl _), hS2⟩, ⟨rfl, rfl, rfl, rfl, trivial⟩⟩
   ·rintro rec7 i6 E w5 hI H;(try dsimp only at hI);obtain ⟨F5, rfl, le5, hS5⟩ := hI;dsimp only [tree_Check.l2] at H;refine C_seq ?_;refine C_region ?_;refine W_lss rfl rfl rfl ?_;refine W_nil ?_;refine N_code ?_;refine C_seq ?_;refine C_cond rfl (fun hc8 => ?_) (fun hc8 => ?_)
    ·rw [if_t hc8] at H;refine C_skip ?_;refine N_code ?_;refine C_seq ?_;refine C_block ?_;refine C_seq ?_;obtain ⟨x9, hx9, H⟩ := bd_some H;refine C_region ?_;refine W_move rfl rfl ?_;obtain ⟨hp12, hy12⟩ := ix_some hx9;obtain ⟨cs12, hr12, he12⟩ := (h0.mono le5).at_ hy12;obtain ⟨ue10_0, rfl, hue10_0⟩ := hr12;replace he12 : Elf _ _ 2 _ _ := he12;refine W_ix rfl Try.underlying27 Ty.cells34 Ty.info34 rfl rfl (he12.el hS5.agree) hp12 rfl ?_;refine W_ldg 0 ((File.cells x9 ue10_0)) rfl Ty.agg34 Ty.size34 rfl (he12.el hS5.agree) (by omega) (fun q u h => sub_at (post := []) rfl h) ?_;refine W_alc (cs := [strV [], .slice none 0 0]) rfl Ty.zero34 rfl hS5 ?_;intro g11 w11 hS11;refine W_assign rfl rfl ?_;refine W_bst (c := [strV x9.path, ue10_0]) 0 ([strV x9.path, ue10_0]) rfl rfl hS11 rfl rfl Ty.size34 (fun y hy => File.t.one (F := F5) (x := x9) ⟨ue10_0, rfl, hue10_0⟩ y hy) (Nat.le_of_ble_eq_true rfl) rfl ?_;intro w13 hS13;refine W_nil ?_;refine N_code ?_;refine C_seq ?_;obtain ⟨r14, hr14, H⟩ := bd_some H;obtain ⟨x15, hx15, H⟩ := bd_some H;refine C_join (fun E wq => E = [(0, v0), (7, v0), (8, .int .i64 (x0.length : Int)), (9, .int .i64 i6), (32, .bool ((!r14) || (decide (0 < i6) && (sLt x9.path x15.path || x9.path == x15.path))))] ∧ ∃ F17 : Frz, F5.le F17 ∧ St [] w F F17 [.box g11 34 [strV x9.path, ue10_0]] wq) ?_ ?_
     ·
      rcases Bool.eq_false_or_eq_true (!r14) with hb18 | hb18
      ·
       apply C_draw 18 [[], [0], [1], [2], [3], [4], [5, 4], [6, 4], [7], [8, 7], [7], [7], [11, 7], [10, 12, 7], [13, 7], [14, 7], [9, 15, 7], [7, 16, 4]] [.val (pl g11 (0 + 0)), .val (strV x9.path), .val (.bool r14), .val (.bool (!r14)), .val (.bool true), .val undef, .val undef, .val undef, .val undef, .val undef, .val undef, .val undef, .val undef, .val undef, .val undef, .val undef, .val undef, .val undef] Ty.mixed rfl rfl (by kernel_rfl) (by kernel_rfl) rfl
       ·refine ⟨?_, ?_, ?_, ?_, ?_, ?_, ?_, ?_, ?_, ?_, ?_, ?_, ?_, ?_, ?_, ?_, ?_, ?_, trivial⟩
        ·intro _ _ _ _;refine W_field_pl 0 rfl Ty.field34_0 rfl ?_;exact Zs rfl rfl
        ·intro w20 vq20 hB20 hH20;have hS20 := hS13.below hB20;refine W_bld1 0 rfl Ty.cell9 rfl hS20 rfl rfl ?_;exact Zs rfl rfl
        ·intro w21 vq21 hB21 hH21;have hS21 := hS13.below hB21;refine W_call rfl Ty.named15 rfl (tree_Name_ok hS21.agree hr14) ?_;rintro v22 w22 ⟨Fr14, rfl, hT22⟩;have hS22 := hS21.lent hT22;refine W_nil ?_;exact N_step rfl rfl hT22.below0
        ·intro _ _ _ _;refine W_not rfl rfl ?_;exact Zs rfl rfl
        ·intro w24 vq24 hB24 hH24;have hS24 := hS13.below hB24;refine W_move rfl rfl ?_;refine W_nil ?_;exact N_step rfl (congrArg Value.bool hb18) (Below.refl _ _)
        ·intro _ _ _ _;refine W_guard_no rfl rfl rfl rfl rfl ?_;exact Zs rfl rfl
        ·intro _ _ _ _;refine W_guard_no rfl rfl rfl rfl rfl ?_;exact Zs rfl rfl
        ·intro _ _ _ _;refine W_guard_no rfl rfl rfl rfl rfl ?_;exact Zs rfl rfl
        ·intro _ _ _ _;refine W_guard_un rfl rfl rfl rfl ?_;exact Zs rfl rfl
        ·intro _ _ _ _;refine W_guard_un rfl rfl rfl rfl ?_;exact Zs rfl rfl
        ·intro _ _ _ _;refine W_guard_un rfl rfl rfl rfl ?_;exact Zs rfl rfl
        ·intro _ _ _ _;refine W_guard_un rfl rfl rfl rfl ?_;exact Zs rfl rfl
        ·intro _ _ _ _;refine W_guard_un rfl rfl rfl rfl ?_;exact Zs rfl rfl
        ·intro _ _ _ _;refine W_guard_un rfl rfl rfl rfl ?_;exact Zs rfl rfl
        ·intro _ _ _ _;refine W_guard_un rfl rfl rfl rfl ?_;exact Zs rfl rfl
        ·intro _ _ _ _;refine W_guard_un rfl rfl rfl rfl ?_;exact Zs rfl rfl
        ·intro _ _ _ _;refine W_guard_un rfl rfl rfl rfl ?_;exact Zs rfl rfl
        ·intro _ _ _ _;refine W_guard_no rfl rfl rfl rfl rfl ?_;exact Zs rfl rfl
       intro w38 vq38 hB38 hH38;have hS38 := hS13.below hB38;refine W_pick_t rfl rfl rfl ?_;refine W_nil ?_;exact N_join _ ⟨rfl, F5, (Frz.le.refl _), hS38⟩ ⟨rfl, rfl, rfl, rfl, (look_bool rfl (by first | rfl | (rw [hb18]; first | done | rfl) | simp [hb18])), trivial⟩
      ·
       rcases Bool.eq_false_or_eq_true (decide (0 < i6)) with hb39 | hb39
       ·have hy40 := hx15;rw [only_t (by first | rfl | (rw [hb39, hb18]; first | done | rfl) | simp [hb18, hb39])] at hy40;obtain ⟨hp41, hy41⟩ := ix_some hy40;obtain ⟨cs41, hr41, he41⟩ := (h0.mono le5).at_ hy41;obtain ⟨ue16_0, rfl, hue16_0⟩ := hr41;replace he41 : Elf _ _ 2 _ _ := he41
        apply C_draw 18 [[], [0], [1], [2], [3], [4], [5, 4], [6, 4], [7], [8, 7], [7], [7], [11, 7], [10, 12, 7], [13, 7], [14, 7], [9, 15, 7], [7, 16, 4]] [.val (pl g11 (0 + 0)), .val (strV x9.path), .val (.bool r14), .val (.bool (!r14)), .val (.bool false), .val (.int .i64 i6), .val (.bool (decide (0 < i6))), .val (.bool true), .val (pl g11 (0 + 0)), .val (strV x9.path), .val (v0), .val (.int .i64 i6), .val (.int .i64 (wr (i6 - 1))), .val (elp v0 ((wr (i6 - 1)).toNat * 2)), .val (elp v0 (((wr (i6 - 1)).toNat * 2) + 0)), .val (strV x15.path), .val (.bool (sLt x9.path x15.path || x9.path == x15.path)), .val (.bool (sLt x9.path x15.path || x9.path == x15.path))] Ty.mixed rfl rfl (by kernel_rfl) (by kernel_rfl) rfl
        ·refine ⟨?_, ?_, ?_, ?_, ?_, ?_, ?_, ?_, ?_, ?_, ?_, ?_, ?_, ?_, ?_, ?_, ?_, ?_, trivial⟩
         ·intro _ _ _ _;refine W_field_pl 0 rfl Ty.field34_0 rfl ?_;exact Zs rfl rfl
         ·intro w43 vq43 hB43 hH43;have hS43 := hS13.below hB43;refine W_bld1 0 rfl Ty.cell9 rfl hS43 rfl rfl ?_;exact Zs rfl rfl
         ·intro w44 vq44 hB44 hH44;have hS44 := hS13.below hB44;refine W_call rfl Ty.named15 rfl (tree_Name_ok hS44.agree hr14) ?_;rintro v45 w45 ⟨Fr14, rfl, hT45⟩;have hS45 := hS44.lent hT45;refine W_nil ?_;exact N_step rfl rfl hT45.below0
         ·intro _ _ _ _;refine W_not rfl rfl ?_;exact Zs rfl rfl
         ·intro w47 vq47 hB47 hH47;have hS47 := hS13.below hB47;refine W_move rfl rfl ?_;refine W_nil ?_;exact N_step rfl (congrArg Value.bool hb18) (Below.refl _ _)
         ·intro _ _ _ _;refine W_guard_yes rfl ?_;refine W_move rfl rfl ?_;exact Zs rfl rfl
         ·intro _ _ _ _;refine W_guard_yes rfl ?_;refine W_gtr rfl rfl rfl ?_;exact Zs rfl rfl
         ·intro w50 vq50 hB50 hH50;have hS50 := hS13.below hB50;refine W_guard_yes rfl ?_;refine W_move rfl rfl ?_;refine W_nil ?_;exact N_step rfl (congrArg Value.bool hb39) (Below.refl _ _)
         ·intro _ _ _ _;refine W_guard_yes rfl ?_;refine W_field_pl 0 rfl Ty.field34_0 rfl ?_;exact Zs rfl rfl
         ·intro w52 vq52 hB52 hH52;have hS52 := hS13.below hB52;refine W_guard_yes rfl ?_;refine W_bld1 0 rfl Ty.cell9 rfl hS52 rfl rfl ?_;exact Zs rfl rfl
         ·intro _ _ _ _;refine W_guard_yes rfl ?_;refine W_move rfl rfl ?_;exact Zs rfl rfl
         ·intro _ _ _ _;refine W_guard_yes rfl ?_;refine W_move rfl rfl ?_;exact Zs rfl rfl
         ·intro _ _ _ _;refine W_guard_yes rfl ?_;refine W_subi rfl rfl rfl rfl ?_;exact Zs rfl rfl
         ·intro w56 vq56 hB56 hH56;have hS56 := hS13.below hB56;refine W_guard_yes rfl ?_;refine W_ix rfl Try.underlying27 Ty.cells34 Ty.info34 rfl rfl (he41.el hS56.agree) hp41 rfl ?_;exact Zs rfl rfl
         ·intro w57 vq57 hB57 hH57;have hS57 := hS13.below hB57;refine W_guard_yes rfl ?_;refine W_fld 0 rfl Ty.field34_0 rfl (he41.el hS57.agree) ?_;exact Zs rfl rfl
         ·intro w58 vq58 hB58 hH58;have hS58 := hS13.below hB58;refine W_guard_yes rfl ?_;refine W_ld1 0 rfl Ty.cell9 rfl (he41.el hS58.agree) (by omega) rfl ?_;exact Zs rfl rfl
         ·intro _ _ _ _;refine W_guard_yes rfl ?_;refine W_leqS rfl rfl rfl ?_;exact Zs rfl rfl
         ·intro _ _ _ _;refine W_guard_yes rfl ?_;refine W_pick_t rfl rfl rfl ?_;exact Zs rfl rfl
        intro w61 vq61 hB61 hH61;have hS61 := hS13.below hB61;refine W_pick_f rfl rfl rfl ?_;refine W_nil ?_;exact N_join _ ⟨rfl, F5, (Frz.le.refl _), hS61⟩ ⟨rfl, rfl, rfl, rfl, (look_bool rfl (by first | rfl | (rw [hb39, hb18]; first | done | rfl) | simp [hb18, hb39])), trivial⟩
       ·
        apply C_draw 18 [[], [0], [1], [2], [3], [4], [5, 4], [6, 4], [7], [8, 7], [7], [7], [11, 7], [10, 12, 7], [13, 7], [14, 7], [9, 15, 7], [7, 16, 4]] [.val (pl g11 (0 + 0)), .val (strV x9.path), .val (.bool r14), .val (.bool (!r14)), .val (.bool false), .val (.int .i64 i6), .val (.bool (decide (0 < i6))), .val (.bool false), .val undef, .val undef, .val undef, .val undef, .val undef, .val undef, .val undef, .val undef, .val undef, .val (.bool false)] Ty.mixed rfl rfl (by kernel_rfl) (by kernel_rfl) rfl
        ·refine ⟨?_, ?_, ?_, ?_, ?_, ?_, ?_, ?_, ?_, ?_, ?_, ?_, ?_, ?_, ?_, ?_, ?_, ?_, trivial⟩
         ·intro _ _ _ _;refine W_field_pl 0 rfl Ty.field34_0 rfl ?_;exact Zs rfl rfl
         ·intro w63 vq63 hB63 hH63;have hS63 := hS13.below hB63;refine W_bld1 0 rfl Ty.cell9 rfl hS63 rfl rfl ?_;exact Zs rfl rfl
         ·intro w64 vq64 hB64 hH64;have hS64 := hS13.below hB64;refine W_call rfl Ty.named15 rfl (tree_Name_ok hS64.agree hr14) ?_;rintro v65 w65 ⟨Fr14, rfl, hT65⟩;have hS65 := hS64.lent hT65;refine W_nil ?_;exact N_step rfl rfl hT65.below0
         ·intro _ _ _ _;refine W_not rfl rfl ?_;exact Zs rfl rfl
         ·intro w67 vq67 hB67 hH67;have hS67 := hS13.below hB67;refine W_move rfl rfl ?_;refine W_nil ?_;exact N_step rfl (congrArg Value.bool hb18) (Below.refl _ _)
         ·intro _ _ _ _;refine W_guard_yes rfl ?_;refine W_move rfl rfl ?_;exact Zs rfl rfl
         ·intro _ _ _ _;refine W_guard_yes rfl ?_;refine W_gtr rfl rfl rfl ?_;exact Zs rfl rfl
         ·intro w70 vq70 hB70 hH70;have hS70 := hS13.below hB70;refine W_guard_yes rfl ?_;refine W_move rfl rfl ?_;refine W_nil ?_;exact N_step rfl (congrArg Value.bool hb39) (Below.refl _ _)
         ·intro _ _ _ _;refine W_guard_no rfl rfl rfl rfl rfl ?_;exact Zs rfl rfl
         ·intro _ _ _ _;refine W_guard_no rfl rfl rfl rfl rfl ?_;exact Zs rfl rfl
         ·intro _ _ _ _;refine W_guard_no rfl rfl rfl rfl rfl ?_;exact Zs rfl rfl
         ·intro _ _ _ _;refine W_guard_no rfl rfl rfl rfl rfl ?_;exact Zs rfl rfl
         ·intro _ _ _ _;refine W_guard_no rfl rfl rfl rfl rfl ?_;exact Zs rfl rfl
         ·intro _ _ _ _;refine W_guard_no rfl rfl rfl rfl rfl ?_;exact Zs rfl rfl
         ·intro _ _ _ _;refine W_guard_no rfl rfl rfl rfl rfl ?_;exact Zs rfl rfl
         ·intro _ _ _ _;refine W_guard_no rfl rfl rfl rfl rfl ?_;exact Zs rfl rfl
         ·intro _ _ _ _;refine W_guard_no rfl rfl rfl rfl rfl ?_;exact Zs rfl rfl
         ·intro _ _ _ _;refine W_guard_yes rfl ?_;refine W_pick_f rfl rfl rfl ?_;exact Zs rfl rfl
        intro w81 vq81 hB81 hH81;have hS81 := hS13.below hB81;refine W_pick_f rfl rfl rfl ?_;refine W_nil ?_;exact N_join _ ⟨rfl, F5, (Frz.le.refl _), hS81⟩ ⟨rfl, rfl, rfl, rfl, (look_bool rfl (by first | rfl | (rw [hb39, hb18]; first | done | rfl) | simp [hb18, hb39])), trivial⟩
     rintro E w17 ⟨rfl, F17, le17, hS17⟩;refine N_code ?_;refine C_cond rfl (fun hc82 => ?_) (fun hc82 => ?_)
     ·rw [if_t hc82] at H;refine C_seq ?_;refine C_region ?_;refine W_assign rfl rfl ?_;refine W_nil ?_;refine N_code ?_;obtain rfl := Option.some.inj H;refine C_ret rfl rfl ?_;exact ⟨F17, rfl, hS17.pick [] (by decide)⟩
     ·rw [if_f hc82] at H;refine C_skip ?_;refine N_block ?_;refine N_code ?_;refine C_region ?_;refine W_add rfl rfl rfl rfl ?_;refine W_move rfl rfl ?_;refine W_nil ?_;exact N_againM (wr (i6 + 1)) _ H ⟨F17, rfl, (le5.trans le17), hS17.pick [] (by decide)⟩ ⟨rfl, rfl, rfl, rfl, trivial⟩
    ·rw [if_f hc8] at H;refine C_exit _ rfl ?_;exact N_join _ ⟨H, ⟨F5, rfl, le5, hS5⟩⟩ trivial
  ·rintro E w4 ⟨H, F4, rfl, le4, hS4⟩;dsimp only [tree_Check.k1] at H;refine C_seq ?_;refine C_region ?_;refine W_assign rfl rfl ?_;refine W_nil ?_;refine N_code ?_;obtain rfl := Option.some.inj H;refine C_ret rfl rfl ?_;exact ⟨F4, rfl, hS4⟩

def cdc_Next.k1 (x0 : List UInt8) : Option Int :=
  some (x0.length : Int)


def cdc_Next.l2 (x0 : List UInt8) (rec5 : (UInt32 × Int) → Option Int) : (UInt32 × Int) → Option Int
  | (i3, i4) =>
    if decide (i4 < (x0.length : Int)) then
      bd (ix x0 i4) fun x7 =>
      if (decide (64 ≤ wr (i4 + 1)) || (decide (8 ≤ wr (i4 + 1)) && decide (((((i3 <<< UInt32.ofNat 1) + ((x7.toUInt32 + (1 : UInt32)) * (2654435761 : UInt32))) >>> UInt32.ofNat 28).toNat : Int) = 0))) then
        some (wr (i4 + 1))
      else
        rec5 (((i3 <<< UInt32.ofNat 1) + ((x7.toUInt32 + (1 : UInt32)) * (2654435761 : UInt32))), wr (i4 + 1))
    else
      cdc_Next.k1 x0

def cdc_Next (x0 : List UInt8) : Option Int :=
  loop (cdc_Next.l2 x0) ((0 : UInt32), 0)

theorem cdc_Next_ok {F : Frz} {w : World} {x0 : List UInt8} {r : Int} {v0 : Value} (hA : Agree F w.heap) (h0 : SlF tB F v0 x0) (H : cdc_Next x0 = some r) : Ret Try.prog 69 #[v0] w fun v w' => ∃ (F' : Frz), v = .int .i64 r ∧ St [] w F F' [] w' := by
 refine Ret_of (args := [v0]) Try.func69 rfl rfl ?_;change C _ _ _ _ [(0, v0)] _;have hS := St.entry hA;dsimp only [cdc_Next] at H;refine C_seq ?_;refine C_region ?_;refine W_assign rfl rfl ?_;refine W_nil ?_;refine N_code ?_;refine C_seq ?_;refine C_region ?_;refine W_assign rfl rfl ?_;refine W_nil ?_;refine N_code ?_;refine C_seq_join (fun E wq => cdc_Next.k1 x0 = some r ∧ ∃ (F1 : Frz), E = [(0, v0)] ∧ F.le F1 ∧ St [] w F F1 [] wq) ?_ ?_
 ·refine C_seq ?_;refine C_region ?_;refine W_move rfl rfl ?_;refine W_lenv rfl Try.underlying25 rfl h0.ln ?_;refine W_move rfl rfl ?_;refine W_nil ?_;refine N_code ?_;refine C_block ?_;refine C_loopM (fun (s : UInt32 × Int) E wq => ∃ (F2 : Frz), E = [(0, v0), (3, .int .u32 (s.1.toNat : Int)), (7, v0), (8, .int .i64 (x0.length : Int)), (9, .int .i64 s.2)] ∧ F.le F2 ∧ St [] w F F2 [] wq) H ?_ ?_
  ·exact ⟨_, ⟨F, rfl, (Frz.le.refl _), hS⟩, ⟨rfl, rfl, rfl, rfl, rfl, trivial⟩⟩
  ·rintro rec5 ⟨i3, i4⟩ E w2 hI H;(try dsimp only at hI);obtain ⟨F2, rfl, le2, hS2⟩ := hI;dsimp only [cdc_Next.l2] at H;refine C_seq ?_;refine C_region ?_;refine W_lss rfl rfl rfl ?_;refine W_nil ?_;refine N_code ?_;refine C_seq ?_;refine C_cond rfl (fun hc6 => ?_) (fun hc6 => ?_)
   ·rw [if_t hc6] at H;refine C_skip ?_;refine N_code ?_;refine C_seq ?_;refine C_block ?_;refine C_seq ?_;obtain ⟨x7, hx7, H⟩ := bd_some H;refine C_region ?_;refine W_move rfl rfl ?_;obtain ⟨hp9, hy9⟩ := ix_some hx7;obtain ⟨cs9, hr9, he9⟩ := (h0.mono le2).at_ hy9;obtain rfl := hr9;replace he9 : Elf _ _ 1 _ _ := he9;refine W_ix rfl Try.underlying25 Ty.cells5 Ty.info5 rfl rfl (he9.el hS2.agree) hp9 rfl ?_;refine W_ld1 0 rfl Ty.cell5 rfl (he9.el hS2.agree) (by omega) rfl ?_;refine W_assign rfl rfl ?_;refine W_assign rfl rfl ?_;refine W_nil ?_;refine N_code ?_;refine C_seq ?_;refine C_region ?_;refine W_move rfl rfl ?_;refine W_shl rfl rfl rfl (by decide) (by decide) (u32_shl _ _ 1 rfl (by decide)) ?_;refine W_move rfl rfl ?_;refine W_conv rfl rfl Ty.some5 Try.underlying94 (u8_u32 _) ?_;refine W_add rfl rfl rfl (u32_addc x7.toUInt32 (1 : UInt32) (by decide)) ?_;refine W_mul rfl rfl rfl (u32_mulc (x7.toUInt32 + (1 : UInt32)) (2654435761 : UInt32) (by decide)) ?_;refine W_add rfl rfl rfl (u32_add (i3 <<< UInt32.ofNat 1) ((x7.toUInt32 + (1 : UInt32)) * (2654435761 : UInt32))) ?_;refine W_assign rfl rfl ?_;refine W_nil ?_;refine N_code ?_;refine C_seq ?_;refine C_region ?_;refine W_move rfl rfl ?_;refine W_add rfl rfl rfl rfl ?_;refine W_assign rfl rfl ?_;refine W_nil ?_;refine N_code ?_;refine C_seq ?_;refine C_join (fun E wq => E = [(0, v0), (3, .int .u32 (((i3 <<< UInt32.ofNat 1) + ((x7.toUInt32 + (1 : UInt32)) * (2654435761 : UInt32))).toNat : Int)), (6, .int .i64 (wr (i4 + 1))), (7, v0), (8, .int .i64 (x0.length : Int)), (9, .int .i64 i4), (33, .bool (decide (64 ≤ wr (i4 + 1)) || (decide (8 ≤ wr (i4 + 1)) && decide (((((i3 <<< UInt32.ofNat 1) + ((x7.toUInt32 + (1 : UInt32)) * (2654435761 : UInt32))) >>> UInt32.ofNat 28).toNat : Int) = 0))))] ∧ ∃ F10 : Frz, F2.le F10 ∧ St [] w F F10 [] wq) ?_ ?_
    ·
     rcases Bool.eq_false_or_eq_true (decide (64 ≤ wr (i4 + 1))) with hb11 | hb11
     ·refine C_region ?_;refine W_move rfl rfl ?_;refine W_geq rfl rfl rfl ?_;refine W_move rfl rfl ?_;refine W_known (t := 25) true rfl hb11 ?_;refine W_guard_no rfl rfl rfl rfl rfl ?_;refine W_guard_no rfl rfl rfl rfl rfl ?_;refine W_guard_no rfl rfl rfl rfl rfl ?_;refine W_guard_un rfl rfl rfl rfl ?_;refine W_guard_un rfl rfl rfl rfl ?_;refine W_guard_un rfl rfl rfl rfl ?_;refine W_guard_no rfl rfl rfl rfl rfl ?_;refine W_pick_t rfl rfl rfl ?_;refine W_nil ?_;exact N_join _ ⟨rfl, F2, (Frz.le.refl _), hS2⟩ ⟨rfl, rfl, rfl, rfl, rfl, rfl, (look_bool rfl (by simp only [hb11, Bool.false_or, Bool.true_or, Bool.or_false, Bool.or_true, Bool.true_and, Bool.false_and, Bool.and_true, Bool.and_false, Bool.not_true, Bool.not_false])), trivial⟩
     ·
      rcases Bool.eq_false_or_eq_true (decide (8 ≤ wr (i4 + 1))) with hb12 | hb12
      ·refine C_region ?_;refine W_move rfl rfl ?_;refine W_geq rfl rfl rfl ?_;refine W_move rfl rfl ?_;refine W_known (t := 25) false rfl hb11 ?_;refine W_guard_yes rfl ?_;refine W_move rfl rfl ?_;refine W_guard_yes rfl ?_;refine W_geq rfl rfl rfl ?_;refine W_guard_yes rfl ?_;refine W_move rfl rfl ?_;refine W_known (t := 28) true rfl hb12 ?_;refine W_guard_yes rfl ?_;refine W_move rfl rfl ?_;refine W_guard_yes rfl ?_;refine W_shr rfl rfl rfl (by decide) (by decide) (u32_shr _ _ 28 rfl (by decide)) ?_;refine W_guard_yes rfl ?_;refine W_eql rfl rfl rfl ?_;refine W_guard_yes rfl ?_;refine W_pick_t rfl rfl rfl ?_;refine W_pick_f rfl rfl rfl ?_;refine W_nil ?_;exact N_join _ ⟨rfl, F2, (Frz.le.refl _), hS2⟩ ⟨rfl, rfl, rfl, rfl, rfl, rfl, (look_bool rfl (by simp only [hb11, hb12, Bool.false_or, Bool.true_or, Bool.or_false, Bool.or_true, Bool.true_and, Bool.false_and, Bool.and_true, Bool.and_false, Bool.not_true, Bool.not_false])), trivial⟩
      ·refine C_region ?_;refine W_move rfl rfl ?_;refine W_geq rfl rfl rfl ?_;refine W_move rfl rfl ?_;refine W_known (t := 25) false rfl hb11 ?_;refine W_guard_yes rfl ?_;refine W_move rfl rfl ?_;refine W_guard_yes rfl ?_;refine W_geq rfl rfl rfl ?_;refine W_guard_yes rfl ?_;refine W_move rfl rfl ?_;refine W_known (t := 28) false rfl hb12 ?_;refine W_guard_no rfl rfl rfl rfl rfl ?_;refine W_guard_no rfl rfl rfl rfl rfl ?_;refine W_guard_no rfl rfl rfl rfl rfl ?_;refine W_guard_yes rfl ?_;refine W_pick_f rfl rfl rfl ?_;refine W_pick_f rfl rfl rfl ?_;refine W_nil ?_;exact N_join _ ⟨rfl, F2, (Frz.le.refl _), hS2⟩ ⟨rfl, rfl, rfl, rfl, rfl, rfl, (look_bool rfl (by simp only [hb11, hb12, Bool.false_or, Bool.true_or, Bool.or_false, Bool.or_true, Bool.true_and, Bool.false_and, Bool.and_true, Bool.and_false, Bool.not_true, Bool.not_false])), trivial⟩
    rintro E w10 ⟨rfl, F10, le10, hS10⟩;refine N_code ?_;refine C_cond rfl (fun hc13 => ?_) (fun hc13 => ?_)
    ·rw [if_t hc13] at H;refine C_seq ?_;refine C_region ?_;refine W_move rfl rfl ?_;refine W_assign rfl rfl ?_;refine W_nil ?_;refine N_code ?_;obtain rfl := Option.some.inj H;refine C_ret rfl rfl ?_;exact ⟨F10, rfl, hS10⟩
    ·rw [if_f hc13] at H;refine C_skip ?_;refine N_block ?_;refine N_code ?_;refine C_region ?_;refine W_add rfl rfl rfl rfl ?_;refine W_move rfl rfl ?_;refine W_nil ?_;exact N_againM (((i3 <<< UInt32.ofNat 1) + ((x7.toUInt32 + (1 : UInt32)) * (2654435761 : UInt32))), wr (i4 + 1)) _ H ⟨F10, rfl, (le2.trans le10), hS10⟩ ⟨rfl, rfl, rfl, rfl, rfl, trivial⟩
   ·rw [if_f hc6] at H;refine C_exit _ rfl ?_;exact N_join _ ⟨H, ⟨F2, rfl, le2, hS2⟩⟩ ⟨rfl, trivial⟩
 ·rintro E w1 ⟨H, F1, rfl, le1, hS1⟩;dsimp only [cdc_Next.k1] at H;refine C_seq ?_;refine C_region ?_;refine W_move rfl rfl ?_;refine W_lenv rfl Try.underlying25 rfl h0.ln ?_;refine W_assign rfl rfl ?_;refine W_nil ?_;refine N_code ?_;obtain rfl := Option.some.inj H;refine C_ret rfl rfl ?_;exact ⟨F1, rfl, hS1⟩

def cdc_Cut.k1 (l5 : List (List UInt8)) : Option ((List (List UInt8)) × Int) :=
  some (l5, 0)


def cdc_Cut.l2 (rec15 : ((List UInt8) × (List (List UInt8))) → Option ((List (List UInt8)) × Int)) : ((List UInt8) × (List (List UInt8))) → Option ((List (List UInt8)) × Int)
  | (l9, l12) =>
    if decide (0 < (l9.length : Int)) then
      bd (cdc_Next l9) fun r17 =>
      bd (cut (α := UInt8) l9 0 r17) fun l19 =>
      bd (slices_Clone_byte_byte l19) fun r21 =>
      bd (app (α := (List UInt8)) l12 [r21]) fun l23 =>
      bd (cut (α := UInt8) l9 r17 (l9.length : Int)) fun l27 =>
      rec15 (l27, l23)
    else
      cdc_Cut.k1 l12

def cdc_Cut (x0 : List UInt8) : Option ((List (List UInt8)) × Int) :=
  if decide (32768 < (x0.length : Int)) then
    some ([], 2)
  else
    loop (cdc_Cut.l2) (x0, [])

theorem cdc_Cut_ok {F : Frz} {w : World} {x0 : List UInt8} {r : (List (List UInt8)) × Int} {v0 : Value} (hA : Agree F w.heap) (h0 : SlF tB F v0 x0) (H : cdc_Cut x0 = some r) : Ret Try.prog 33 #[v0] w fun v w' => ∃ (F' : Frz) (q0 : Value), v = .tuple #[q0, .int .i64 r.2] ∧ St [] w F F' [.row (tSl tB) 25 q0 (r.1)] w' := by
 refine Ret_of (args := [v0]) Try.func33 rfl rfl ?_;change C _ _ _ _ [(0, v0)] _;have hS := St.entry hA;dsimp only [cdc_Cut] at H;refine C_seq ?_;refine C_region ?_;refine W_assign rfl rfl ?_;refine W_assign rfl rfl ?_;refine W_nil ?_;refine N_code ?_;refine C_seq ?_;refine C_seq ?_;refine C_region ?_;refine W_move rfl rfl ?_;refine W_lenv rfl Try.underlying25 rfl h0.ln ?_;refine W_gtr rfl rfl rfl ?_;refine W_nil ?_;refine N_code ?_;refine C_cond rfl (fun hc1 => ?_) (fun hc1 => ?_)
 ·rw [if_t hc1] at H;refine C_seq ?_;refine C_region ?_;refine W_assign rfl rfl ?_;refine W_assign rfl rfl ?_;refine W_nil ?_;refine N_code ?_;have hS3 := hS.nilRow (tSl tB) 25;obtain rfl := Option.some.inj H;refine C_ret rfl rfl ?_;exact ⟨F, (.slice none 0 0), rfl, hS3⟩
 ·rw [if_f hc1] at H;refine C_skip ?_;refine N_code ?_;refine C_seq ?_;refine C_region ?_;refine W_assign rfl rfl ?_;refine W_nil ?_;refine N_code ?_;refine C_seq_join (fun E wq => ∃ l5 : List (List UInt8), cdc_Cut.k1 l5 = some r ∧ ∃ (F4 : Frz) (u6 : Value), E = [(4, u6)] ∧ F.le F4 ∧ St [] w F F4 [.row (tSl tB) 25 u6 l5] wq) ?_ ?_
  ·refine C_block ?_;refine C_loopM (fun (s : (List UInt8) × (List (List UInt8))) E wq => ∃ (F8 : Frz) (u10 : Value) (u13 : Value), E = [(0, u10), (4, u13)] ∧ F.le F8 ∧ SlF tB F8 u10 s.1 ∧ St [] w F F8 [.row (tSl tB) 25 u13 s.2] wq) H ?_ ?_
   ·have hS30 := hS.nilRow (tSl tB) 25;exact ⟨_, ⟨F, v0, (.slice none 0 0), rfl, (Frz.le.refl _), h0, hS30⟩, ⟨rfl, rfl, trivial⟩⟩
   ·rintro rec15 ⟨l9, l12⟩ E w8 hI H;(try dsimp only at hI);obtain ⟨F8, u10, u13, rfl, le8, hx11, hS8⟩ := hI;dsimp only [cdc_Cut.l2] at H;refine C_seq ?_;refine C_seq ?_;refine C_region ?_;refine W_move rfl rfl ?_;refine W_lenv rfl Try.underlying25 rfl hx11.ln ?_;refine W_gtr rfl rfl rfl ?_;refine W_nil ?_;refine N_code ?_;refine C_cond rfl (fun hc16 => ?_) (fun hc16 => ?_)
    ·rw [if_t hc16] at H;refine C_skip ?_;refine N_code ?_;refine C_block ?_;refine C_seq ?_;obtain ⟨r17, hr17, H⟩ := bd_some H;refine C_region ?_;refine W_move rfl rfl ?_;refine W_call rfl Ty.named69 rfl (cdc_Next_ok hS8.agree hx11 hr17) ?_;rintro v18 w18 ⟨Fr17, rfl, hT18⟩;have hS18 := hS8.lent hT18;refine W_assign rfl rfl ?_;refine W_nil ?_;refine N_code ?_;refine C_seq ?_;obtain ⟨l19, hl19, H⟩ := bd_some H;obtain ⟨r21, hr21, H⟩ := bd_some H;obtain ⟨l23, hl23, H⟩ := bd_some H;refine C_region ?_;refine W_move rfl rfl ?_;refine W_move rfl rfl ?_;refine W_move rfl rfl ?_;refine W_cutM 0 r17 rfl Try.underlying25 Ty.cells5 Ty.info5 rfl rfl ⟨_, rfl⟩ hx11 hl19 ?_;intro q20 hv20;refine W_call rfl Ty.named70 rfl (slices_Clone_byte_byte_ok hS18.agree hv20 hr21) ?_;rintro ur21_0 w25 ⟨Fr21, _, rfl, hT25⟩;have hS25 := hS18.call hT25;have ler21 := hT25.ext;obtain ⟨F26, le26, hf26, hS26⟩ := hS25.freeze 0 [1] rfl (by decide) (by decide);refine W_bs (t := (tSl tB)) [[ur21_0]] [r21] rfl Try.underlying52 Ty.cells25 rfl rfl Ty.zero25 rfl (by simp [(hf26.ln).cells]) ⟨⟨_, rfl, hf26⟩, trivial⟩ rfl rfl hS26 ?_;intro u22 w22 hS22;refine W_appM 1 rfl Try.underlying52 Ty.row25 rfl rfl rfl rfl rfl hS22 rfl (hS22.rowSrc (j := 0) rfl) hl23 ?_;intro v24 w24 hS24;refine W_assign rfl rfl ?_;refine W_nil ?_;refine N_code ?_;obtain ⟨l27, hl27, H⟩ := bd_some H;refine C_region ?_;refine W_move rfl rfl ?_;refine W_move rfl rfl ?_;refine W_cutM r17 (l9.length : Int) rfl Try.underlying25 Ty.cells5 Ty.info5 rfl ⟨_, rfl⟩ rfl (hx11.mono (ler21.trans le26)) hl27 ?_;intro q28 hv28;refine W_assign rfl rfl ?_;refine W_nil ?_;refine N_block ?_;exact N_againM (l27, l23) _ H ⟨F26, q28, v24, rfl, ((le8.trans ler21).trans le26), hv28, hS24.pick [1] (by decide)⟩ ⟨rfl, rfl, trivial⟩
    ·rw [if_f hc16] at H;refine C_exit _ rfl ?_;exact N_join _ ⟨l12, H, ⟨F8, u13, rfl, le8, hS8⟩⟩ ⟨rfl, trivial⟩
  ·rintro E w4 ⟨l5, H, F4, u6, rfl, le4, hS4⟩;dsimp only [cdc_Cut.k1] at H;refine C_seq ?_;refine C_region ?_;refine W_move rfl rfl ?_;refine W_assign rfl rfl ?_;refine W_assign rfl rfl ?_;refine W_nil ?_;refine N_code ?_;obtain rfl := Option.some.inj H;refine C_ret rfl rfl ?_;exact ⟨F4, u6, rfl, hS4⟩

def manifest_Build.k1 (x0 : List UInt8) (l17 : List (List UInt8)) (l20 : List Part) : Option (Manifest × (List (List UInt8)) × Int) :=
  bd (limRows l17) fun q23 =>
  bdS ordRow l17 fun l24 =>
  some ((Manifest.mk x0 l20), l24, 0)


def manifest_Build.k3 (i32 : Int) (rec37 : ((List (List UInt8)) × Int × ((List UInt8) → Option Bool) × (List Part)) → Option (Manifest × (List (List UInt8)) × Int)) (l40 : List (List UInt8)) (m43 : (List UInt8) → Option Bool) (l44 : List Part) : Option (Manifest × (List (List UInt8)) × Int) :=
  rec37 (l40, wr (i32 + 1), m43, l44)


def manifest_Build.k4 (i32 : Int) (l34 : List Part) (rec37 : ((List (List UInt8)) × Int × ((List UInt8) → Option Bool) × (List Part)) → Option (Manifest × (List (List UInt8)) × Int)) (x47 : File) (l61 : List (List UInt8)) (l64 : List (List UInt8)) (m67 : (List UInt8) → Option Bool) : Option (Manifest × (List (List UInt8)) × Int) :=
  bd (app (α := Part) l34 [(Part.mk x47.path (x47.data.length : Int) l64)]) fun l69 =>
  manifest_Build.k3 i32 rec37 l61 m67 l69


def manifest_Build.k6 (i77 : Int) (rec82 : ((List (List UInt8)) × Int × (List (List UInt8)) × ((List UInt8) → Option Bool)) → Option (Manifest × (List (List UInt8)) × Int)) (l85 : List (List UInt8)) (l88 : List (List UInt8)) (m91 : (List UInt8) → Option Bool) : Option (Manifest × (List (List UInt8)) × Int) :=
  rec82 (l85, wr (i77 + 1), l88, m91)


def manifest_Build.l5 (i32 : Int) (l34 : List Part) (rec37 : ((List (List UInt8)) × Int × ((List UInt8) → Option Bool) × (List Part)) → Option (Manifest × (List (List UInt8)) × Int)) (x47 : File) (r52 : (List (List UInt8)) × Int) (rec82 : ((List (List UInt8)) × Int × (List (List UInt8)) × ((List UInt8) → Option Bool)) → Option (Manifest × (List (List UInt8)) × Int)) : ((List (List UInt8)) × Int × (List (List UInt8)) × ((List UInt8) → Option Bool)) → Option (Manifest × (List (List UInt8)) × Int)
  | (l74, i77, l78, m81) =>
    if decide (i77 < (r52.1.length : Int)) then
      bd (ix r52.1 i77) fun x92 =>
      bd (shaSum [x92]) fun r96 =>
      bd (app (α := (List UInt8)) l78 [r96]) fun l101 =>
      if (!((m81 r96).getD false)) then
        bd (app (α := (List UInt8)) l74 [x92]) fun l107 =>
        manifest_Build.k6 i77 rec82 l107 l101 (mput m81 r96 true)
      else
        manifest_Build.k6 i77 rec82 l74 l101 m81
    else
      manifest_Build.k4 i32 l34 rec37 x47 l74 l78 m81


def manifest_Build.l2 (x0 : List UInt8) (x1 : List File) (rec37 : ((List (List UInt8)) × Int × ((List UInt8) → Option Bool) × (List Part)) → Option (Manifest × (List (List UInt8)) × Int)) : ((List (List UInt8)) × Int × ((List UInt8) → Option Bool) × (List Part)) → Option (Manifest × (List (List UInt8)) × Int)
  | (l29, i32, m33, l34) =>
    if decide (i32 < (x1.length : Int)) then
      bd (ix x1 i32) fun x47 =>
      bd (cdc_Cut x47.data) fun r52 =>
      if decide (r52.2 ≠ 0) then
        some ((Manifest.mk [] []), [], r52.2)
      else
        loop (manifest_Build.l5 i32 l34 rec37 x47 r52) (l29, 0, [], m33)
    else
      manifest_Build.k1 x0 l29 l34

def manifest_Build (x0 : List UInt8) (x1 : List File) : Option (Manifest × (List (List UInt8)) × Int) :=
  bd (tree_Name x0) fun r2 =>
  if (!r2) then
    some ((Manifest.mk [] []), [], 1)
  else
    bd (tree_Check x1) fun r8 =>
    if decide (r8 ≠ 0) then
      some ((Manifest.mk [] []), [], r8)
    else
      loop (manifest_Build.l2 x0 x1) ([], 0, (mnil : (List UInt8) → Option Bool), [])

theorem manifest_Build_ok {F : Frz} {w : World} {x0 : List UInt8} {x1 : List File} {r : Manifest × (List (List UInt8)) × Int} {v1 : Value} (hA : Agree F w.heap) (h1 : SlF File.t F v1 x1) (H : manifest_Build x0 x1 = some r) : Ret Try.prog 32 #[strV x0, v1] w fun v w' => ∃ (F' : Frz) (q0_0 : Value) (q1 : Value), v = .tuple #[.agg (Manifest.cells r.1 q0_0).toArray, q1, .int .i64 r.2.2] ∧ SlF Part.t F' q0_0 (r.1.parts) ∧ St [] w F F' [.row (tSl tB) 25 q1 (r.2.1)] w' := by
 refine Ret_of (args := [strV x0, v1]) Try.func32 rfl rfl ?_;change C _ _ _ _ [(0, strV x0), (1, v1)] _;have hS := St.entry hA;dsimp only [manifest_Build] at H;refine C_seq ?_;refine C_region ?_;refine W_alc (cs := [strV [], .slice none 0 0]) rfl Ty.zero45 rfl hS ?_;intro g1 w1 hS1;refine W_assign rfl rfl ?_;refine W_assign rfl rfl ?_;refine W_nil ?_;refine N_code ?_;refine C_seq ?_;refine C_seq ?_;obtain ⟨r2, hr2, H⟩ := bd_some H;refine C_region ?_;refine W_move rfl rfl ?_;refine W_call rfl Ty.named15 rfl (tree_Name_ok hS1.agree hr2) ?_;rintro v3 w3 ⟨Fr2, rfl, hT3⟩;have hS3 := hS1.lent hT3;refine W_not rfl rfl ?_;refine W_nil ?_;refine N_code ?_;refine C_cond rfl (fun hc4 => ?_) (fun hc4 => ?_)
 ·rw [if_t hc4] at H;refine C_seq ?_;refine C_region ?_;refine W_build (v := .agg (Manifest.cells (Manifest.mk [] []) (.slice none 0 0)).toArray) rfl rfl (fun _ => by kernel_rfl) ?_;refine W_bst (c := [strV [], .slice none 0 0]) 0 ([strV [], .slice none 0 0]) rfl rfl hS3 rfl rfl Ty.size45 (fun y hy => Manifest.t.one (F := F) (x := (Manifest.mk [] [])) ⟨.slice none 0 0, rfl, (SlF.nil _)⟩ y hy) (Nat.le_of_ble_eq_true rfl) rfl ?_;intro w5 hS5;refine W_assign rfl rfl ?_;refine W_assign rfl rfl ?_;refine W_nil ?_;refine N_code ?_;have hS7 := hS5.nilRow (tSl tB) 25;obtain rfl := Option.some.inj H;refine C_retM (vs := [.agg (Manifest.cells (Manifest.mk [] []) (.slice none 0 0)).toArray, (.slice none 0 0), .int .i64 1]) rfl ⟨(box_out 1 Ty.agg45 Ty.size45 hS7 rfl rfl), rfl, rfl, trivial⟩ ?_;exact ⟨F, .slice none 0 0, (.slice none 0 0), rfl, (SlF.nil _), hS7.pick [0] (by decide)⟩
 ·rw [if_f hc4] at H;refine C_skip ?_;refine N_code ?_;refine C_seq ?_;obtain ⟨r8, hr8, H⟩ := bd_some H;refine C_region ?_;refine W_move rfl rfl ?_;refine W_call rfl Ty.named21 rfl (tree_Check_ok hS3.agree h1 hr8) ?_;rintro v9 w9 ⟨Fr8, rfl, hT9⟩;have hS9 := hS3.lent hT9;refine W_assign rfl rfl ?_;refine W_nil ?_;refine N_code ?_;refine C_seq ?_;refine C_seq ?_;refine C_region ?_;refine W_move rfl rfl ?_;refine W_neq rfl rfl rfl ?_;refine W_nil ?_;refine N_code ?_;refine C_cond rfl (fun hc10 => ?_) (fun hc10 => ?_)
  ·rw [if_t hc10] at H;refine C_seq ?_;refine C_region ?_;refine W_build (v := .agg (Manifest.cells (Manifest.mk [] []) (.slice none 0 0)).toArray) rfl rfl (fun _ => by kernel_rfl) ?_;refine W_move rfl rfl ?_;refine W_bst (c := [strV [], .slice none 0 0]) 0 ([strV [], .slice none 0 0]) rfl rfl hS9 rfl rfl Ty.size45 (fun y hy => Manifest.t.one (F := F) (x := (Manifest.mk [] [])) ⟨.slice none 0 0, rfl, (SlF.nil _)⟩ y hy) (Nat.le_of_ble_eq_true rfl) rfl ?_;intro w11 hS11;refine W_assign rfl rfl ?_;refine W_assign rfl rfl ?_;refine W_nil ?_;refine N_code ?_;have hS13 := hS11.nilRow (tSl tB) 25;obtain rfl := Option.some.inj H;refine C_retM (vs := [.agg (Manifest.cells (Manifest.mk [] []) (.slice none 0 0)).toArray, (.slice none 0 0), .int .i64 r8]) rfl ⟨(box_out 1 Ty.agg45 Ty.size45 hS13 rfl rfl), rfl, rfl, trivial⟩ ?_;exact ⟨F, .slice none 0 0, (.slice none 0 0), rfl, (SlF.nil _), hS13.pick [0] (by decide)⟩
  ·rw [if_f hc10] at H;refine C_skip ?_;refine N_code ?_;refine C_seq ?_;refine C_region ?_;refine W_move rfl rfl ?_;refine W_field_pl 0 rfl Ty.field45_0 rfl ?_;refine W_bst (c := [strV x0]) 0 ([strV x0, .slice none 0 0]) rfl rfl hS9 rfl rfl Ty.size9 (by intro y hy; simp at hy; subst hy; rfl) (Nat.le_of_ble_eq_true rfl) rfl ?_;intro w14 hS14;refine W_nil ?_;refine N_code ?_;refine C_seq ?_;refine C_region ?_;refine W_mkmap (ktId Try.underlying57 Try.underlying5 Ty.cells5 Ty.info5) (tFz tBool) rfl hS14 ?_;intro g15 w15 hS15;refine W_assign rfl rfl ?_;refine W_nil ?_;refine N_code ?_;refine C_seq_join (fun E wq => ∃ l17 : List (List UInt8), ∃ l20 : List Part, manifest_Build.k1 x0 l17 l20 = some r ∧ ∃ (F16 : Frz) (u18 : Value) (u21 : Value), E = [(4, pl g1 0), (5, u18)] ∧ F.le F16 ∧ St [] w F F16 [.box g1 45 [strV x0, u21], .row (tSl tB) 25 u18 l17, .row Part.t 51 u21 l20] wq) ?_ ?_
   ·refine C_seq ?_;refine C_region ?_;refine W_move rfl rfl ?_;refine W_lenv rfl Try.underlying27 rfl h1.ln ?_;refine W_move rfl rfl ?_;refine W_nil ?_;refine N_code ?_;refine C_block ?_;refine C_loopM (fun (s : (List (List UInt8)) × Int × ((List UInt8) → Option Bool) × (List Part)) E wq => ∃ (F28 : Frz) (u30 : Value) (u35 : Value), E = [(4, pl g1 0), (5, u30), (7, .map (some g15)), (29, v1), (30, .int .i64 (x1.length : Int)), (31, .int .i64 s.2.1)] ∧ F.le F28 ∧ St [] w F F28 [.deep (tMap (ktId Try.underlying57 Try.underlying5 Ty.cells5 Ty.info5) (tFz tBool) noHole) [g15] [.map (some g15)] s.2.2.1, .box g1 45 [strV x0, u35], .row (tSl tB) 25 u30 s.1, .row Part.t 51 u35 s.2.2.2] wq) H ?_ ?_
    ·have hS134 := hS15.nilRow (tSl tB) 25;have hS136 := hS134.nilRow Part.t 51;exact ⟨_, ⟨F, (.slice none 0 0), (.slice none 0 0), rfl, (Frz.le.refl _), hS136.pick [2, 3, 1, 0] (by decide)⟩, ⟨rfl, rfl, rfl, rfl, rfl, rfl, trivial⟩⟩
    ·rintro rec37 ⟨l29, i32, m33, l34⟩ E w28 hI H;(try dsimp only at hI);obtain ⟨F28, u30, u35, rfl, le28, hS28⟩ := hI;dsimp only [manifest_Build.l2] at H;refine C_seq ?_;refine C_region ?_;refine W_lss rfl rfl rfl ?_;refine W_nil ?_;refine N_code ?_;refine C_seq ?_;refine C_cond rfl (fun hc38 => ?_) (fun hc38 => ?_)
     ·rw [if_t hc38] at H;refine C_skip ?_;refine N_code ?_;refine C_seq_join (fun E wq => ∃ l40 : List (List UInt8), ∃ m43 : (List UInt8) → Option Bool, ∃ l44 : List Part, manifest_Build.k3 i32 rec37 l40 m43 l44 = some r ∧ ∃ (F39 : Frz) (u41 : Value) (u45 : Value), E = [(4, pl g1 0), (5, u41), (7, .map (some g15)), (29, v1), (30, .int .i64 (x1.length : Int)), (31, .int .i64 i32)] ∧ F28.le F39 ∧ St [] w F F39 [.deep (tMap (ktId Try.underlying57 Try.underlying5 Ty.cells5 Ty.info5) (tFz tBool) noHole) [g15] [.map (some g15)] m43, .box g1 45 [strV x0, u45], .row (tSl tB) 25 u41 l40, .row Part.t 51 u45 l44] wq) ?_ ?_
      ·refine C_block ?_;refine C_seq ?_;obtain ⟨x47, hx47, H⟩ := bd_some H;refine C_region ?_;obtain ⟨hp50, hy50⟩ := ix_some hx47;obtain ⟨cs50, hr50, he50⟩ := (h1.mono le28).at_ hy50;obtain ⟨ue48_0, rfl, hue48_0⟩ := hr50;replace he50 : Elf _ _ 2 _ _ := he50;refine W_ix rfl Try.underlying27 Ty.cells34 Ty.info34 rfl rfl (he50.el hS28.agree) hp50 rfl ?_;refine W_ldg 0 ((File.cells x47 ue48_0)) rfl Ty.agg34 Ty.size34 rfl (he50.el hS28.agree) (by omega) (fun q u h => sub_at (post := []) rfl h) ?_;refine W_alc (cs := [strV [], .slice none 0 0]) rfl Ty.zero34 rfl hS28 ?_;intro g49 w49 hS49;refine W_bst (c := [strV x47.path, ue48_0]) 0 ([strV x47.path, ue48_0]) rfl rfl hS49 rfl rfl Ty.size34 (fun y hy => File.t.one (F := F28) (x := x47) ⟨ue48_0, rfl, hue48_0⟩ y hy) (Nat.le_of_ble_eq_true rfl) rfl ?_;intro w51 hS51;refine W_nil ?_;refine N_code ?_;refine C_seq ?_;obtain ⟨r52, hr52, H⟩ := bd_some H;refine C_region ?_;refine W_field_pl 1 rfl Ty.field34_1 rfl ?_;refine W_bld1 0 rfl Ty.cell25 rfl hS51 rfl rfl ?_;refine W_call rfl Ty.named33 rfl (cdc_Cut_ok hS51.agree hue48_0 hr52) ?_;rintro v53 w53 ⟨Fr52, ur52_0, rfl, hT53⟩;have hS53 := hS51.call hT53;have ler52 := hT53.ext;refine W_move rfl rfl ?_;refine W_extract rfl rfl rfl ?_;refine W_extract rfl rfl rfl ?_;refine W_assign rfl rfl ?_;refine W_assign rfl rfl ?_;refine W_nil ?_;refine N_code ?_;refine C_seq ?_;refine C_seq ?_;refine C_region ?_;refine W_move rfl rfl ?_;refine W_neq rfl rfl rfl ?_;refine W_nil ?_;refine N_code ?_;refine C_cond rfl (fun hc54 => ?_) (fun hc54 => ?_)
       ·rw [if_t hc54] at H;refine C_seq ?_;refine C_region ?_;refine W_build (v := .agg (Manifest.cells (Manifest.mk [] []) (.slice none 0 0)).toArray) rfl rfl (fun _ => by kernel_rfl) ?_;refine W_move rfl rfl ?_;refine W_bst (c := [strV [], .slice none 0 0]) 3 ([strV [], .slice none 0 0]) rfl rfl hS53 rfl rfl Ty.size45 (fun y hy => Manifest.t.one (F := Fr52) (x := (Manifest.mk [] [])) ⟨.slice none 0 0, rfl, (SlF.nil _)⟩ y hy) (Nat.le_of_ble_eq_true rfl) rfl ?_;intro w55 hS55;refine W_assign rfl rfl ?_;refine W_assign rfl rfl ?_;refine W_nil ?_;refine N_code ?_;have hS57 := hS55.nilRow (tSl tB) 25;obtain rfl := Option.some.inj H;refine C_retM (vs := [.agg (Manifest.cells (Manifest.mk [] []) (.slice none 0 0)).toArray, (.slice none 0 0), .int .i64 r52.2]) rfl ⟨(box_out 4 Ty.agg45 Ty.size45 hS57 rfl rfl), rfl, rfl, trivial⟩ ?_;exact ⟨Fr52, .slice none 0 0, (.slice none 0 0), rfl, (SlF.nil _), hS57.pick [0] (by decide)⟩
       ·rw [if_f hc54] at H;refine C_skip ?_;refine N_code ?_;refine C_seq ?_;refine C_region ?_;refine W_field_pl 0 rfl Ty.field34_0 rfl ?_;refine W_bld1 1 rfl Ty.cell9 rfl hS53 rfl rfl ?_;refine W_field_pl 1 rfl Ty.field34_1 rfl ?_;refine W_bld1 1 rfl Ty.cell25 rfl hS53 rfl rfl ?_;refine W_lenv rfl Try.underlying25 rfl hue48_0.ln ?_;refine W_build (v := .agg (Part.cells (Part.mk x47.path (x47.data.length : Int) []) (.slice none 0 0)).toArray) rfl rfl (fun _ => by kernel_rfl) ?_;refine W_alc (cs := [strV [], .int .i64 0, .slice none 0 0]) rfl Ty.zero51 rfl hS53 ?_;intro g58 w58 hS58;refine W_bst (c := [strV x47.path, .int .i64 (x47.data.length : Int), .slice none 0 0]) 0 ([strV x47.path, .int .i64 (x47.data.length : Int), .slice none 0 0]) rfl rfl hS58 rfl rfl Ty.size51 (fun y hy => Part.t.one (F := Fr52) (x := (Part.mk x47.path (x47.data.length : Int) [])) ⟨.slice none 0 0, rfl, (SlF.nil _)⟩ y hy) (Nat.le_of_ble_eq_true rfl) rfl ?_;intro w59 hS59;refine W_nil ?_;refine N_code ?_;refine C_seq_join (fun E wq => ∃ l61 : List (List UInt8), ∃ l64 : List (List UInt8), ∃ m67 : (List UInt8) → Option Bool, manifest_Build.k4 i32 l34 rec37 x47 l61 l64 m67 = some r ∧ ∃ (F60 : Frz) (u62 : Value) (u65 : Value), E = [(4, pl g1 0), (5, u62), (7, .map (some g15)), (12, pl g58 0), (29, v1), (30, .int .i64 (x1.length : Int)), (31, .int .i64 i32)] ∧ Fr52.le F60 ∧ St [] w F F60 [.box g58 51 [strV x47.path, .int .i64 (x47.data.length : Int), u65], .deep (tMap (ktId Try.underlying57 Try.underlying5 Ty.cells5 Ty.info5) (tFz tBool) noHole) [g15] [.map (some g15)] m67, .box g1 45 [strV x0, u35], .row Part.t 51 u35 l34, .row (tSl tB) 25 u62 l61, .row tId 57 u65 l64] wq) ?_ ?_
        ·refine C_seq ?_;refine C_region ?_;refine W_move rfl rfl ?_;refine W_lenv rfl Try.underlying52 rfl (hS59.rowLn (k := 1) rfl) ?_;refine W_move rfl rfl ?_;refine W_nil ?_;refine N_code ?_;refine C_block ?_;refine C_loopM (fun (s : (List (List UInt8)) × Int × (List (List UInt8)) × ((List UInt8) → Option Bool)) E wq => ∃ (F73 : Frz) (u75 : Value) (u79 : Value), E = [(4, pl g1 0), (5, u75), (7, .map (some g15)), (12, pl g58 0), (29, v1), (30, .int .i64 (x1.length : Int)), (31, .int .i64 i32), (51, ur52_0), (52, .int .i64 (r52.1.length : Int)), (53, .int .i64 s.2.1)] ∧ Fr52.le F73 ∧ St [] w F F73 [.box g58 51 [strV x47.path, .int .i64 (x47.data.length : Int), u79], .row (tSl tB) 25 ur52_0 r52.1, .deep (tMap (ktId Try.underlying57 Try.underlying5 Ty.cells5 Ty.info5) (tFz tBool) noHole) [g15] [.map (some g15)] s.2.2.2, .box g1 45 [strV x0, u35], .row Part.t 51 u35 l34, .row (tSl tB) 25 u75 s.1, .row tId 57 u79 s.2.2.1] wq) H ?_ ?_
         ·have hS132 := hS59.nilRow tId 57;exact ⟨_, ⟨Fr52, u30, (.slice none 0 0), rfl, (Frz.le.refl _), hS132.pick [1, 2, 4, 5, 7, 6, 0] (by decide)⟩, ⟨rfl, rfl, rfl, rfl, rfl, rfl, rfl, rfl, rfl, rfl, trivial⟩⟩
         ·rintro rec82 ⟨l74, i77, l78, m81⟩ E w73 hI H;(try dsimp only at hI);obtain ⟨F73, u75, u79, rfl, le73, hS73⟩ := hI;dsimp only [manifest_Build.l5] at H;refine C_seq ?_;refine C_region ?_;refine W_lss rfl rfl rfl ?_;refine W_nil ?_;refine N_code ?_;refine C_seq ?_;refine C_cond rfl (fun hc83 => ?_) (fun hc83 => ?_)
          ·rw [if_t hc83] at H;refine C_skip ?_;refine N_code ?_;refine C_seq_join (fun E wq => ∃ l85 : List (List UInt8), ∃ l88 : List (List UInt8), ∃ m91 : (List UInt8) → Option Bool, manifest_Build.k6 i77 rec82 l85 l88 m91 = some r ∧ ∃ (F84 : Frz) (u86 : Value) (u89 : Value), E = [(4, pl g1 0), (5, u86), (7, .map (some g15)), (12, pl g58 0), (29, v1), (30, .int .i64 (x1.length : Int)), (31, .int .i64 i32), (51, ur52_0), (52, .int .i64 (r52.1.length : Int)), (53, .int .i64 i77)] ∧ F73.le F84 ∧ St [] w F F84 [.box g58 51 [strV x47.path, .int .i64 (x47.data.length : Int), u89], .row (tSl tB) 25 ur52_0 r52.1, .deep (tMap (ktId Try.underlying57 Try.underlying5 Ty.cells5 Ty.info5) (tFz tBool) noHole) [g15] [.map (some g15)] m91, .box g1 45 [strV x0, u35], .row Part.t 51 u35 l34, .row (tSl tB) 25 u86 l85, .row tId 57 u89 l88] wq) ?_ ?_
           ·refine C_block ?_;refine C_seq ?_;obtain ⟨x92, hx92, H⟩ := bd_some H;refine C_region ?_;obtain ⟨hp94, hy94⟩ := ix_some hx92;obtain ⟨cs94, hr94, he94⟩ := hS73.rowAt (k := 1) rfl hy94;obtain ⟨ue93, rfl, hue93⟩ := hr94;replace he94 : El _ _ 1 _ _ := he94;refine W_ix rfl Try.underlying52 Ty.cells25 Ty.info25 rfl rfl he94 hp94 rfl ?_;refine W_ld1 0 rfl Ty.cell25 rfl he94 (by omega) rfl ?_;refine W_assign rfl rfl ?_;refine W_nil ?_;refine N_code ?_;refine C_seq ?_;obtain ⟨r96, hr96, H⟩ := bd_some H;refine C_region ?_;refine W_move rfl rfl ?_;refine W_bs (t := (tSl tB)) [[ue93]] [x92] rfl Try.underlying52 Ty.cells25 rfl rfl Ty.zero25 rfl (by simp [(hue93.ln).cells]) ⟨⟨_, rfl, hue93⟩, trivial⟩ rfl rfl hS73 ?_;intro u95 w95 hS95;refine W_call rfl Ty.named34 rfl (shaSum_ok (now_agree _) (hS95.rowNow (k := 0) rfl) hr96) ?_;rintro v98 w98 ⟨Fr96, rfl, hlr96_0, hT98⟩;have hS98 := hS95.lentFlat hT98 trivial;refine W_alc (cs := idCells (List.replicate 32 (0 : UInt8))) rfl Ty.zero57 rfl hS98 ?_;intro g97 w97 hS97;refine W_bst (c := idCells r96) 0 (idCells r96) rfl rfl hS97 rfl rfl (by rw [Ty.size57]; simp [idCells_len]) (by intro y hy; simp [idCells] at hy; obtain ⟨_, _, rfl⟩ := hy; rfl) (by simp [idCells_len]) (by simp [idCells_len, List.take_append, List.drop_append, List.take_of_length_le, List.drop_eq_nil_of_le]) ?_;intro w99 hS99;refine W_nil ?_;refine N_code ?_;refine C_seq ?_;obtain ⟨l101, hl101, H⟩ := bd_some H;refine C_region ?_;refine W_field_pl 2 rfl Ty.field51_2 rfl ?_;refine W_bld1 2 rfl Ty.cell49 rfl hS99 rfl rfl ?_;refine W_bldg 0 ((idCells r96)) rfl Ty.agg57 Ty.size57 rfl hS99 rfl (fun q u h => sub_at (post := []) rfl h) ?_;refine W_bs (t := tId) [(idCells r96)] [r96] rfl Try.underlying49 Ty.cells57 rfl rfl Ty.zero57 rfl rfl ⟨⟨rfl, hlr96_0⟩, trivial⟩ rfl rfl hS99 ?_;intro u100 w100 hS100;refine W_appM 9 rfl Try.underlying49 Ty.row57 rfl rfl rfl rfl rfl hS100 rfl (hS100.rowSrc (j := 0) rfl) hl101 ?_;intro v102 w102 hS102;refine W_field_pl 2 rfl Ty.field51_2 rfl ?_;refine W_bst (c := [v102]) 3 ([strV x47.path, .int .i64 (x47.data.length : Int), v102]) rfl rfl hS102 rfl (by rw [(hS102.rowLn (k := 9) rfl).cells]) Ty.size49 (by intro y hy; simp at hy; subst hy; exact (hS102.rowLn (k := 9) rfl).one) (Nat.le_of_ble_eq_true rfl) rfl ?_;intro w103 hS103;refine W_nil ?_;refine N_code ?_;refine C_seq ?_;refine C_region ?_;refine W_move rfl rfl ?_;refine W_bldg 1 ((idCells r96)) rfl Ty.agg57 Ty.size57 rfl hS103 rfl (fun q u h => sub_at (post := []) rfl h) ?_;refine W_lookV (a := r96) (fun b => .bool b) false 5 rfl Try.underlying88 Try.zeroValue4 (by rintro _ _ _ h; exact List.head_eq_of_cons_eq h) rfl rfl rfl rfl hlr96_0 hS103 rfl ?_;refine W_not rfl rfl ?_;refine W_nil ?_;refine N_code ?_;refine C_cond rfl (fun hc105 => ?_) (fun hc105 => ?_)
            ·rw [if_t hc105] at H;obtain ⟨l107, hl107, H⟩ := bd_some H
             apply C_drawJ (fun D vs wz => ∀ (b2 b4 b5 : Bool), D 2 = b2 → D 4 = b4 → D 5 = b5 → match b2, b4, b5 with | false, false, false => ∃ FJ : Frz, F73.le FJ ∧ St [] w F FJ [.row tId 57 u100 [r96], .box g97 57 (idCells r96), .row (tSl tB) 25 u95 [x92], .box g58 51 [strV x47.path, .int .i64 (x47.data.length : Int), v102], .row (tSl tB) 25 ur52_0 r52.1, .deep (tMap (ktId Try.underlying57 Try.underlying5 Ty.cells5 Ty.info5) (tFz tBool) noHole) [g15] [.map (some g15)] m81, .box g1 45 [strV x0, u35], .row Part.t 51 u35 l34, .row (tSl tB) 25 u75 l74, .row tId 57 v102 l101] wz | true, false, false => ∃ FJ : Frz, vs 2 = u75 ∧ F73.le FJ ∧ St [] w F FJ [.row tId 57 u100 [r96], .box g97 57 (idCells r96), .row (tSl tB) 25 u95 [x92], .box g58 51 [strV x47.path, .int .i64 (x47.data.length : Int), v102], .row (tSl tB) 25 ur52_0 r52.1, .deep (tMap (ktId Try.underlying57 Try.underlying5 Ty.cells5 Ty.info5) (tFz tBool) noHole) [g15] [.map (some g15)] m81, .box g1 45 [strV x0, u35], .row Part.t 51 u35 l34, .row (tSl tB) 25 u75 l74, .row tId 57 v102 l101] wz | false, true, false => ∃ FJ : Frz, ∃ u106 : Value, vs 4 = u106 ∧ F73.le FJ ∧ St [] w F FJ [.row (tSl tB) 25 u106 [x92], .row tId 57 u100 [r96], .box g97 57 (idCells r96), .row (tSl tB) 25 u95 [x92], .box g58 51 [strV x47.path, .int .i64 (x47.data.length : Int), v102], .row (tSl tB) 25 ur52_0 r52.1, .deep (tMap (ktId Try.underlying57 Try.underlying5 Ty.cells5 Ty.info5) (tFz tBool) noHole) [g15] [.map (some g15)] m81, .box g1 45 [strV x0, u35], .row Part.t 51 u35 l34, .row (tSl tB) 25 u75 l74, .row tId 57 v102 l101] wz | true, true, false => ∃ FJ : Frz, ∃ u106 : Value, vs 2 = u75 ∧ vs 4 = u106 ∧ F73.le FJ ∧ St [] w F FJ [.row (tSl tB) 25 u106 [x92], .row tId 57 u100 [r96], .box g97 57 (idCells r96), .row (tSl tB) 25 u95 [x92], .box g58 51 [strV x47.path, .int .i64 (x47.data.length : Int), v102], .row (tSl tB) 25 ur52_0 r52.1, .deep (tMap (ktId Try.underlying57 Try.underlying5 Ty.cells5 Ty.info5) (tFz tBool) noHole) [g15] [.map (some g15)] m81, .box g1 45 [strV x0, u35], .row Part.t 51 u35 l34, .row (tSl tB) 25 u75 l74, .row tId 57 v102 l101] wz | true, true, true => ∃ FJ : Frz, ∃ u106 : Value, ∃ v108 : Value, vs 2 = u75 ∧ vs 4 = u106 ∧ vs 5 = v108 ∧ F73.le FJ ∧ St [] w F FJ [.row (tSl tB) 25 u106 [x92], .row tId 57 u100 [r96], .box g97 57 (idCells r96), .row (tSl tB) 25 u95 [x92], .box g58 51 [strV x47.path, .int .i64 (x47.data.length : Int), v102], .row (tSl tB) 25 ur52_0 r52.1, .deep (tMap (ktId Try.underlying57 Try.underlying5 Ty.cells5 Ty.info5) (tFz tBool) noHole) [g15] [.map (some g15)] m81, .box g1 45 [strV x0, u35], .row Part.t 51 u35 l34, .row (tSl tB) 25 v108 l107, .row tId 57 v102 l101] wz | _, _, _ => False) 6 [[], [], [], [], [3], [2, 4]] [some (.map (some g15)), some (.agg (idCells r96).toArray), none, some (ue93), none, none] Ty.mixed rfl (by kernel_rfl) (by kernel_rfl) rfl
             ·intro vq110 b2 b4 b5 h2 h4 h5;obtain rfl : b2 = false := h2.symm;obtain rfl : b4 = false := h4.symm;obtain rfl : b5 = false := h5.symm;exact ⟨F73, (Frz.le.refl _), (hS103.below (below_drew _))⟩
             ·refine ⟨?_, ?_, ?_, ?_, ?_, ?_, trivial⟩
              ·intro w111 vq111 D111 hD111 hd111 hJ111;refine W_move rfl rfl ?_;refine W_nil ?_;exact N_stepJ rfl (fun u hu => Option.some.inj hu) hJ111
              ·intro w112 vq112 D112 hD112 hd112 hJ112
               rcases Bool.eq_false_or_eq_true (D112 2) with hb113 | hb113
               ·
                rcases Bool.eq_false_or_eq_true (D112 4) with hb114 | hb114
                ·
                 rcases Bool.eq_false_or_eq_true (D112 5) with hb115 | hb115
                 ·obtain ⟨FJ112, u106, v108, he112_2, he112_4, he112_5, leJ112, hSJ112⟩ := (hJ112 true true true hb113 hb114 hb115);refine W_bldg 2 ((idCells r96)) rfl Ty.agg57 Ty.size57 rfl hSJ112 rfl (fun q u h => sub_at (post := []) rfl h) ?_;refine W_nil ?_;exact N_stepJ rfl (fun u hu => Option.some.inj hu) (fun b2 b4 b5 h2 h4 h5 => by obtain rfl : b2 = true := h2.symm.trans hb113; obtain rfl : b4 = true := h4.symm.trans hb114; obtain rfl : b5 = true := h5.symm.trans hb115; exact ⟨FJ112, u106, v108, he112_2, he112_4, he112_5, leJ112, hSJ112⟩)
                 ·obtain ⟨FJ112, u106, he112_2, he112_4, leJ112, hSJ112⟩ := (hJ112 true true false hb113 hb114 hb115);refine W_bldg 2 ((idCells r96)) rfl Ty.agg57 Ty.size57 rfl hSJ112 rfl (fun q u h => sub_at (post := []) rfl h) ?_;refine W_nil ?_;exact N_stepJ rfl (fun u hu => Option.some.inj hu) (fun b2 b4 b5 h2 h4 h5 => by obtain rfl : b2 = true := h2.symm.trans hb113; obtain rfl : b4 = true := h4.symm.trans hb114; obtain rfl : b5 = false := h5.symm.trans hb115; exact ⟨FJ112, u106, he112_2, he112_4, leJ112, hSJ112⟩)
                ·
                 rcases Bool.eq_false_or_eq_true (D112 5) with hb116 | hb116
                 ·exact False.elim (hJ112 true false true hb113 hb114 hb116)
                 ·obtain ⟨FJ112, he112_2, leJ112, hSJ112⟩ := (hJ112 true false false hb113 hb114 hb116);refine W_bldg 1 ((idCells r96)) rfl Ty.agg57 Ty.size57 rfl hSJ112 rfl (fun q u h => sub_at (post := []) rfl h) ?_;refine W_nil ?_;exact N_stepJ rfl (fun u hu => Option.some.inj hu) (fun b2 b4 b5 h2 h4 h5 => by obtain rfl : b2 = true := h2.symm.trans hb113; obtain rfl : b4 = false := h4.symm.trans hb114; obtain rfl : b5 = false := h5.symm.trans hb116; exact ⟨FJ112, he112_2, leJ112, hSJ112⟩)
               ·
                rcases Bool.eq_false_or_eq_true (D112 4) with hb117 | hb117
                ·
                 rcases Bool.eq_false_or_eq_true (D112 5) with hb118 | hb118
                 ·exact False.elim (hJ112 false true true hb113 hb117 hb118)
                 ·obtain ⟨FJ112, u106, he112_4, leJ112, hSJ112⟩ := (hJ112 false true false hb113 hb117 hb118);refine W_bldg 2 ((idCells r96)) rfl Ty.agg57 Ty.size57 rfl hSJ112 rfl (fun q u h => sub_at (post := []) rfl h) ?_;refine W_nil ?_;exact N_stepJ rfl (fun u hu => Option.some.inj hu) (fun b2 b4 b5 h2 h4 h5 => by obtain rfl : b2 = false := h2.symm.trans hb113; obtain rfl : b4 = true := h4.symm.trans hb117; obtain rfl : b5 = false := h5.symm.trans hb118; exact ⟨FJ112, u106, he112_4, leJ112, hSJ112⟩)
                ·
                 rcases Bool.eq_false_or_eq_true (D112 5) with hb119 | hb119
                 ·exact False.elim (hJ112 false false true hb113 hb117 hb119)
                 ·obtain ⟨FJ112, leJ112, hSJ112⟩ := (hJ112 false false false hb113 hb117 hb119);refine W_bldg 1 ((idCells r96)) rfl Ty.agg57 Ty.size57 rfl hSJ112 rfl (fun q u h => sub_at (post := []) rfl h) ?_;refine W_nil ?_;exact N_stepJ rfl (fun u hu => Option.some.inj hu) (fun b2 b4 b5 h2 h4 h5 => by obtain rfl : b2 = false := h2.symm.trans hb113; obtain rfl : b4 = false := h4.symm.trans hb117; obtain rfl : b5 = false := h5.symm.trans hb119; exact ⟨FJ112, leJ112, hSJ112⟩)
              ·intro w120 vq120 D120 hD120 hd120 hJ120
               rcases Bool.eq_false_or_eq_true (D120 4) with hb121 | hb121
               ·
                rcases Bool.eq_false_or_eq_true (D120 5) with hb122 | hb122
                ·exact False.elim (hJ120 false true true hD120 hb121 hb122)
                ·obtain ⟨FJ120, u106, he120_4, leJ120, hSJ120⟩ := (hJ120 false true false hD120 hb121 hb122);refine W_move rfl rfl ?_;refine W_nil ?_;exact N_stepJ rfl (fun u (hu : (none : Option Value) = some u) => by cases hu) (fun b2 b4 b5 h2 h4 h5 => by obtain rfl : b2 = true := h2.symm; obtain rfl : b4 = true := h4.symm.trans hb121; obtain rfl : b5 = false := h5.symm.trans hb122; exact ⟨FJ120, u106, rfl, he120_4, leJ120, hSJ120⟩)
               ·
                rcases Bool.eq_false_or_eq_true (D120 5) with hb123 | hb123
                ·exact False.elim (hJ120 false false true hD120 hb121 hb123)
                ·obtain ⟨FJ120, leJ120, hSJ120⟩ := (hJ120 false false false hD120 hb121 hb123);refine W_move rfl rfl ?_;refine W_nil ?_;exact N_stepJ rfl (fun u (hu : (none : Option Value) = some u) => by cases hu) (fun b2 b4 b5 h2 h4 h5 => by obtain rfl : b2 = true := h2.symm; obtain rfl : b4 = false := h4.symm.trans hb121; obtain rfl : b5 = false := h5.symm.trans hb123; exact ⟨FJ120, rfl, leJ120, hSJ120⟩)
              ·intro w124 vq124 D124 hD124 hd124 hJ124;refine W_move rfl rfl ?_;refine W_nil ?_;exact N_stepJ rfl (fun u hu => Option.some.inj hu) hJ124
              ·intro w125 vq125 D125 hD125 hd125 hJ125
               rcases Bool.eq_false_or_eq_true (D125 2) with hb126 | hb126
               ·
                rcases Bool.eq_false_or_eq_true (D125 5) with hb127 | hb127
                ·exact False.elim (hJ125 true false true hb126 hD125 hb127)
                ·obtain ⟨FJ125, he125_2, leJ125, hSJ125⟩ := (hJ125 true false false hb126 hD125 hb127);refine W_bs (t := (tSl tB)) [[ue93]] [x92] rfl Try.underlying52 Ty.cells25 rfl rfl Ty.zero25 rfl (by first | (simp [(hue93.ln).cells]; done) | (simp; exact congrArg Array.toList (hue93.ln).cells)) ⟨⟨_, rfl, (hue93.mono leJ125)⟩, trivial⟩ rfl rfl hSJ125 ?_;intro u106 w106 hS106;refine W_nil ?_;exact N_stepJ rfl (fun u (hu : (none : Option Value) = some u) => by cases hu) (fun b2 b4 b5 h2 h4 h5 => by obtain rfl : b2 = true := h2.symm.trans hb126; obtain rfl : b4 = true := h4.symm; obtain rfl : b5 = false := h5.symm.trans hb127; exact ⟨FJ125, u106, he125_2, rfl, leJ125, hS106⟩)
               ·
                rcases Bool.eq_false_or_eq_true (D125 5) with hb128 | hb128
                ·exact False.elim (hJ125 false false true hb126 hD125 hb128)
                ·obtain ⟨FJ125, leJ125, hSJ125⟩ := (hJ125 false false false hb126 hD125 hb128);refine W_bs (t := (tSl tB)) [[ue93]] [x92] rfl Try.underlying52 Ty.cells25 rfl rfl Ty.zero25 rfl (by first | (simp [(hue93.ln).cells]; done) | (simp; exact congrArg Array.toList (hue93.ln).cells)) ⟨⟨_, rfl, (hue93.mono leJ125)⟩, trivial⟩ rfl rfl hSJ125 ?_;intro u106 w106 hS106;refine W_nil ?_;exact N_stepJ rfl (fun u (hu : (none : Option Value) = some u) => by cases hu) (fun b2 b4 b5 h2 h4 h5 => by obtain rfl : b2 = false := h2.symm.trans hb126; obtain rfl : b4 = true := h4.symm; obtain rfl : b5 = false := h5.symm.trans hb128; exact ⟨FJ125, u106, rfl, leJ125, hS106⟩)
              ·intro w129 vq129 D129 hD129 hd129 hJ129;obtain ⟨FJ129, u106, he129_2, he129_4, leJ129, hSJ129⟩ := (hJ129 true true false (hd129 2 (by decide)) (hd129 4 (by decide)) hD129);refine W_eqv (t := 72) rfl he129_2 ?_;refine W_eqv (t := 74) rfl he129_4 ?_;refine W_appM 9 rfl Try.underlying52 Ty.row25 rfl rfl rfl rfl rfl hSJ129 rfl (hSJ129.rowSrc (j := 0) rfl) hl107 ?_;intro v108 w108 hS108;refine W_nil ?_;exact N_stepJ rfl (fun u (hu : (none : Option Value) = some u) => by cases hu) (fun b2 b4 b5 h2 h4 h5 => by obtain rfl : b2 = true := h2.symm.trans (hd129 2 (by decide)); obtain rfl : b4 = true := h4.symm.trans (hd129 4 (by decide)); obtain rfl : b5 = true := h5.symm; exact ⟨FJ129, u106, v108, he129_2, he129_4, rfl, leJ129, hS108⟩)
             intro w130 vq130 D130 hA130 hJ130;obtain ⟨FJ130, u106, v108, he130_2, he130_4, he130_5, leJ130, hSJ130⟩ := (hJ130 true true true (hA130 2 (by decide)) (hA130 4 (by decide)) (hA130 5 (by decide)));refine W_eqv (t := 72) rfl he130_2 ?_;refine W_eqv (t := 74) rfl he130_4 ?_;refine W_eqv (t := 75) rfl he130_5 ?_;refine W_mapF (tr := tBool) (a := r96) (x1 := true) 6 Try.underlying88 Try.zeroValue4 rfl rfl rfl hlr96_0 rfl rfl hSJ130 rfl ?_;intro w109 hS109;refine W_assign rfl rfl ?_;refine W_nil ?_;refine N_block ?_;exact N_join _ ⟨l107, l101, (mput m81 r96 true), H, ⟨FJ130, v108, v102, rfl, leJ130, hS109.pick [4, 5, 6, 7, 8, 9, 10] (by decide)⟩⟩ ⟨rfl, rfl, rfl, rfl, rfl, rfl, rfl, rfl, rfl, rfl, trivial⟩
            ·rw [if_f hc105] at H;refine C_skip ?_;refine N_block ?_;exact N_join _ ⟨l74, l101, m81, H, ⟨F73, u75, v102, rfl, (Frz.le.refl _), hS103.pick [3, 4, 5, 6, 7, 8, 9] (by decide)⟩⟩ ⟨rfl, rfl, rfl, rfl, rfl, rfl, rfl, rfl, rfl, rfl, trivial⟩
           ·rintro E w84 ⟨l85, l88, m91, H, F84, u86, u89, rfl, le84, hS84⟩;dsimp only [manifest_Build.k6] at H;refine C_region ?_;refine W_add rfl rfl rfl rfl ?_;refine W_move rfl rfl ?_;refine W_nil ?_;exact N_againM (l85, wr (i77 + 1), l88, m91) _ H ⟨F84, u86, u89, rfl, (le73.trans le84), hS84⟩ ⟨rfl, rfl, rfl, rfl, rfl, rfl, rfl, rfl, rfl, rfl, trivial⟩
          ·rw [if_f hc83] at H;refine C_exit _ rfl ?_;exact N_join _ ⟨l74, l78, m81, H, ⟨F73, u75, u79, rfl, le73, hS73.pick [0, 2, 3, 4, 5, 6] (by decide)⟩⟩ ⟨rfl, rfl, rfl, rfl, rfl, rfl, rfl, trivial⟩
        ·rintro E w60 ⟨l61, l64, m67, H, F60, u62, u65, rfl, le60, hS60⟩;dsimp only [manifest_Build.k4] at H;obtain ⟨l69, hl69, H⟩ := bd_some H;refine C_region ?_;refine W_field_pl 1 rfl Ty.field45_1 rfl ?_;refine W_bld1 2 rfl Ty.cell43 rfl hS60 rfl rfl ?_;refine W_bldg 0 ((Part.cells (Part.mk x47.path (x47.data.length : Int) l64) u65)) rfl Ty.agg51 Ty.size51 rfl hS60 rfl (fun q u h => sub_at (post := []) rfl h) ?_;obtain ⟨F71, le71, hf71, hS71⟩ := hS60.freeze 5 [0, 1, 2, 3, 4] rfl (by decide) (by decide);refine W_bs (t := Part.t) [(Part.cells (Part.mk x47.path (x47.data.length : Int) l64) u65)] [(Part.mk x47.path (x47.data.length : Int) l64)] rfl Try.underlying43 Ty.cells51 rfl rfl Ty.zero51 rfl rfl ⟨⟨u65, rfl, hf71⟩, trivial⟩ rfl rfl hS71 ?_;intro u68 w68 hS68;refine W_appM 4 rfl Try.underlying43 Ty.row51 rfl rfl rfl rfl rfl hS68 rfl (hS68.rowSrc (j := 0) rfl) hl69 ?_;intro v70 w70 hS70;refine W_field_pl 1 rfl Ty.field45_1 rfl ?_;refine W_bst (c := [v70]) 3 ([strV x0, v70]) rfl rfl hS70 rfl (by rw [(hS70.rowLn (k := 4) rfl).cells]) Ty.size43 (by intro y hy; simp at hy; subst hy; exact (hS70.rowLn (k := 4) rfl).one) (Nat.le_of_ble_eq_true rfl) rfl ?_;intro w72 hS72;refine W_nil ?_;refine N_block ?_;exact N_join _ ⟨l61, m67, l69, H, ⟨F71, u62, v70, rfl, ((ler52.trans le60).trans le71), hS72.pick [2, 3, 5, 4] (by decide)⟩⟩ ⟨rfl, rfl, rfl, rfl, rfl, rfl, trivial⟩
      ·rintro E w39 ⟨l40, m43, l44, H, F39, u41, u45, rfl, le39, hS39⟩;dsimp only [manifest_Build.k3] at H;refine C_region ?_;refine W_add rfl rfl rfl rfl ?_;refine W_move rfl rfl ?_;refine W_nil ?_;exact N_againM (l40, wr (i32 + 1), m43, l44) _ H ⟨F39, u41, u45, rfl, (le28.trans le39), hS39⟩ ⟨rfl, rfl, rfl, rfl, rfl, rfl, trivial⟩
     ·rw [if_f hc38] at H;refine C_exit _ rfl ?_;exact N_join _ ⟨l29, l34, H, ⟨F28, u30, u35, rfl, le28, hS28.pick [1, 2, 3] (by decide)⟩⟩ ⟨rfl, rfl, trivial⟩
   ·rintro E w16 ⟨l17, l20, H, F16, u18, u21, rfl, le16, hS16⟩;dsimp only [manifest_Build.k1] at H;refine C_seq ?_;obtain ⟨q23, hq23, H⟩ := bd_some H;obtain ⟨hlenl24, H⟩ := bdS_some H;refine C_region ?_;refine W_move rfl rfl ?_;refine W_call rfl Ty.named66 rfl (sortRows_ok (hS16.lendRow 1 rfl) hlenl24 hq23) ?_;rintro v25 w25 ⟨F25, l24, hpl24, hrl24, hT25⟩;replace H := H l24 hpl24 hrl24;have hS25 := hS16.backRow 1 [0, 2] rfl (by decide) (by decide) hT25;have le25 := hT25.ext;refine W_nil ?_;refine N_code ?_;refine C_seq ?_;refine C_region ?_;refine W_bldg 1 ((Manifest.cells (Manifest.mk x0 l20) u21)) rfl Ty.agg45 Ty.size45 rfl hS25 rfl (fun q u h => sub_at (post := []) rfl h) ?_;refine W_move rfl rfl ?_;refine W_bst (c := [strV x0, u21]) 1 ([strV x0, u21]) rfl rfl hS25 rfl rfl Ty.size45 (by intro y hy; simp only [List.mem_append, List.mem_cons, List.not_mem_nil, or_false, or_assoc] at hy; rcases hy with hy | hy <;> first | (subst hy; rfl) | (subst hy; exact (hS25.rowLn (k := 2) rfl).one)) (Nat.le_of_ble_eq_true rfl) rfl ?_;intro w26 hS26;refine W_assign rfl rfl ?_;refine W_assign rfl rfl ?_;refine W_nil ?_;refine N_code ?_;obtain ⟨F27, le27, hf27, hS27⟩ := hS26.freeze 2 [0, 1] rfl (by decide) (by decide);obtain rfl := Option.some.inj H;refine C_retM (vs := [.agg (Manifest.cells (Manifest.mk x0 l20) u21).toArray, u18, .int .i64 0]) rfl ⟨(box_out 1 Ty.agg45 Ty.size45 hS27 rfl rfl), rfl, rfl, trivial⟩ ?_;exact ⟨F27, u21, u18, rfl, hf27, hS27.pick [0] (by decide)⟩

def cellarerlaw17_wakes : Option Bool :=
  bd (manifest_Build ([97] : List UInt8) []) fun r1 =>
  bd (manifest_Bytes r1.1) fun r5 =>
  some ((((decide (r1.2.2 = 0) && decide (r5.2 = 0)) && decide ((r1.2.1.length : Int) = 0)) && (r1.1.name == ([97] : List UInt8))) && decide ((r5.1.length : Int) = 3))

theorem cellarerlaw17_wakes_ok {F : Frz} {w : World} {r : Bool} (hA : Agree F w.heap) (H : cellarerlaw17_wakes = some r) : Ret Try.prog 31 #[] w fun v w' => ∃ (F' : Frz), v = .bool r ∧ St [] w F F' [] w' := by
 refine Ret_of (args := []) Try.func31 rfl rfl ?_;change C _ _ _ _ [] _;have hS := St.entry hA;dsimp only [cellarerlaw17_wakes] at H;refine C_seq ?_;refine C_region ?_;refine W_assign rfl rfl ?_;refine W_nil ?_;refine N_code ?_;refine C_seq ?_;obtain ⟨r1, hr1, H⟩ := bd_some H;refine C_region ?_;refine W_call rfl Ty.named32 rfl (manifest_Build_ok hS.agree (SlF.nil _) hr1) ?_;rintro v3 w3 ⟨Fr1, ur1_0_0, ur1_1, rfl, hfr1_0_0, hT3⟩;have hS3 := hS.call hT3;have ler1 := hT3.ext;refine W_move rfl rfl ?_;refine W_extract rfl rfl rfl ?_;refine W_extract rfl rfl rfl ?_;refine W_extract rfl rfl rfl ?_;refine W_alc (cs := [strV [], .slice none 0 0]) rfl Ty.zero45 rfl hS3 ?_;intro g2 w2 hS2;refine W_bst (c := [strV r1.1.name, ur1_0_0]) 0 ([strV r1.1.name, ur1_0_0]) rfl rfl hS2 rfl rfl Ty.size45 (fun y hy => Manifest.t.one (F := Fr1) (x := r1.1) ⟨ur1_0_0, rfl, hfr1_0_0⟩ y hy) (Nat.le_of_ble_eq_true rfl) rfl ?_;intro w4 hS4;refine W_assign rfl rfl ?_;refine W_assign rfl rfl ?_;refine W_nil ?_;refine N_code ?_;refine C_seq ?_;obtain ⟨r5, hr5, H⟩ := bd_some H;refine C_region ?_;refine W_bldg 0 ((Manifest.cells r1.1 ur1_0_0)) rfl Ty.agg45 Ty.size45 rfl hS4 rfl (fun q u h => sub_at (post := []) rfl h) ?_;refine W_call rfl Ty.named30 rfl (manifest_Bytes_ok hS4.agree hfr1_0_0 hr5) ?_;rintro v6 w6 ⟨Fr5, ur5_0, rfl, hT6⟩;have hS6 := hS4.call hT6;have ler5 := hT6.ext;refine W_move rfl rfl ?_;refine W_extract rfl rfl rfl ?_;refine W_extract rfl rfl rfl ?_;refine W_assign rfl rfl ?_;refine W_assign rfl rfl ?_;refine W_nil ?_;refine N_code ?_;refine C_seq ?_;refine C_join (fun E wq => E = [(0, .bool ((((decide (r1.2.2 = 0) && decide (r5.2 = 0)) && decide ((r1.2.1.length : Int) = 0)) && (r1.1.name == ([97] : List UInt8))) && decide ((r5.1.length : Int) = 3)))] ∧ ∃ F7 : Frz, Fr5.le F7 ∧ St [] w F F7 [.row tB 5 ur5_0 r5.1, .box g2 45 [strV r1.1.name, ur1_0_0], .row (tSl tB) 25 ur1_1 r1.2.1] wq) ?_ ?_
 ·
  rcases Bool.eq_false_or_eq_true (decide (r1.2.2 = 0)) with hb8 | hb8
  ·
   rcases Bool.eq_false_or_eq_true (decide (r5.2 = 0)) with hb9 | hb9
   ·
    rcases Bool.eq_false_or_eq_true (decide ((r1.2.1.length : Int) = 0)) with hb10 | hb10
    ·
     rcases Bool.eq_false_or_eq_true (r1.1.name == ([97] : List UInt8)) with hb11 | hb11
     ·refine C_region ?_;refine W_move rfl rfl ?_;refine W_eql rfl rfl rfl ?_;refine W_move rfl rfl ?_;refine W_known (t := 18) true rfl hb8 ?_;refine W_guard_yes rfl ?_;refine W_move rfl rfl ?_;refine W_guard_yes rfl ?_;refine W_eql rfl rfl rfl ?_;refine W_pick_t rfl rfl rfl ?_;refine W_move rfl rfl ?_;refine W_known (t := 22) true rfl hb9 ?_;refine W_guard_yes rfl ?_;refine W_move rfl rfl ?_;refine W_guard_yes rfl ?_;refine W_lenv rfl Try.underlying52 rfl (hS6.rowLn (k := 2) rfl) ?_;refine W_guard_yes rfl ?_;refine W_eql rfl rfl rfl ?_;refine W_pick_t rfl rfl rfl ?_;refine W_move rfl rfl ?_;refine W_known (t := 27) true rfl hb10 ?_;refine W_guard_yes rfl ?_;refine W_field_pl 0 rfl Ty.field45_0 rfl ?_;refine W_guard_yes rfl ?_;refine W_bld1 1 rfl Ty.cell9 rfl hS6 rfl rfl ?_;refine W_guard_yes rfl ?_;refine W_eqlS rfl rfl rfl ?_;refine W_pick_t rfl rfl rfl ?_;refine W_move rfl rfl ?_;refine W_known (t := 32) true rfl hb11 ?_;refine W_guard_yes rfl ?_;refine W_move rfl rfl ?_;refine W_guard_yes rfl ?_;refine W_lenv rfl Try.underlying25 rfl (hS6.rowLn (k := 0) rfl) ?_;refine W_guard_yes rfl ?_;refine W_eql rfl rfl rfl ?_;refine W_pick_t rfl rfl rfl ?_;refine W_assign rfl rfl ?_;refine W_nil ?_;exact N_join _ ⟨rfl, Fr5, (Frz.le.refl _), hS6⟩ ⟨(look_bool rfl (by first | rfl | (rw [hb10, hb11, hb8, hb9]; first | done | rfl) | simp [hb8, hb9, hb10, hb11])), trivial⟩
     ·refine C_region ?_;refine W_move rfl rfl ?_;refine W_eql rfl rfl rfl ?_;refine W_move rfl rfl ?_;refine W_known (t := 18) true rfl hb8 ?_;refine W_guard_yes rfl ?_;refine W_move rfl rfl ?_;refine W_guard_yes rfl ?_;refine W_eql rfl rfl rfl ?_;refine W_pick_t rfl rfl rfl ?_;refine W_move rfl rfl ?_;refine W_known (t := 22) true rfl hb9 ?_;refine W_guard_yes rfl ?_;refine W_move rfl rfl ?_;refine W_guard_yes rfl ?_;refine W_lenv rfl Try.underlying52 rfl (hS6.rowLn (k := 2) rfl) ?_;refine W_guard_yes rfl ?_;refine W_eql rfl rfl rfl ?_;refine W_pick_t rfl rfl rfl ?_;refine W_move rfl rfl ?_;refine W_known (t := 27) true rfl hb10 ?_;refine W_guard_yes rfl ?_;refine W_field_pl 0 rfl Ty.field45_0 rfl ?_;refine W_guard_yes rfl ?_;refine W_bld1 1 rfl Ty.cell9 rfl hS6 rfl rfl ?_;refine W_guard_yes rfl ?_;refine W_eqlS rfl rfl rfl ?_;refine W_pick_t rfl rfl rfl ?_;refine W_move rfl rfl ?_;refine W_known (t := 32) false rfl hb11 ?_;refine W_guard_no rfl rfl rfl rfl rfl ?_;refine W_guard_no rfl rfl rfl rfl rfl ?_;refine W_guard_no rfl rfl rfl rfl rfl ?_;refine W_pick_f rfl rfl rfl ?_;refine W_assign rfl rfl ?_;refine W_nil ?_;exact N_join _ ⟨rfl, Fr5, (Frz.le.refl _), hS6⟩ ⟨(look_bool rfl (by first | rfl | (rw [hb10, hb11, hb8, hb9]; first | done | rfl) | simp [hb8, hb9, hb10, hb11])), trivial⟩
    ·refine C_region ?_;refine W_move rfl rfl ?_;refine W_eql rfl rfl rfl ?_;refine W_move rfl rfl ?_;refine W_known (t := 18) true rfl hb8 ?_;refine W_guard_yes rfl ?_;refine W_move rfl rfl ?_;refine W_guard_yes rfl ?_;refine W_eql rfl rfl rfl ?_;refine W_pick_t rfl rfl rfl ?_;refine W_move rfl rfl ?_;refine W_known (t := 22) true rfl hb9 ?_;refine W_guard_yes rfl ?_;refine W_move rfl rfl ?_;refine W_guard_yes rfl ?_;refine W_lenv rfl Try.underlying52 rfl (hS6.rowLn (k := 2) rfl) ?_;refine W_guard_yes rfl ?_;refine W_eql rfl rfl rfl ?_;refine W_pick_t rfl rfl rfl ?_;refine W_move rfl rfl ?_;refine W_known (t := 27) false rfl hb10 ?_;refine W_guard_no rfl rfl rfl rfl rfl ?_;refine W_guard_no rfl rfl rfl rfl rfl ?_;refine W_guard_no rfl rfl rfl rfl rfl ?_;refine W_pick_f rfl rfl rfl ?_;refine W_move rfl rfl ?_;refine W_guard_no rfl rfl rfl rfl rfl ?_;refine W_guard_no rfl rfl rfl rfl rfl ?_;refine W_guard_no rfl rfl rfl rfl rfl ?_;refine W_pick_f rfl rfl rfl ?_;refine W_assign rfl rfl ?_;refine W_nil ?_;exact N_join _ ⟨rfl, Fr5, (Frz.le.refl _), hS6⟩ ⟨(look_bool rfl (by first | rfl | (rw [hb10, hb8, hb9]; first | done | rfl) | simp [hb8, hb9, hb10])), trivial⟩
   ·refine C_region ?_;refine W_move rfl rfl ?_;refine W_eql rfl rfl rfl ?_;refine W_move rfl rfl ?_;refine W_known (t := 18) true rfl hb8 ?_;refine W_guard_yes rfl ?_;refine W_move rfl rfl ?_;refine W_guard_yes rfl ?_;refine W_eql rfl rfl rfl ?_;refine W_pick_t rfl rfl rfl ?_;refine W_move rfl rfl ?_;refine W_known (t := 22) false rfl hb9 ?_;refine W_guard_no rfl rfl rfl rfl rfl ?_;refine W_guard_no rfl rfl rfl rfl rfl ?_;refine W_guard_no rfl rfl rfl rfl rfl ?_;refine W_pick_f rfl rfl rfl ?_;refine W_move rfl rfl ?_;refine W_guard_no rfl rfl rfl rfl rfl ?_;refine W_guard_no rfl rfl rfl rfl rfl ?_;refine W_guard_no rfl rfl rfl rfl rfl ?_;refine W_pick_f rfl rfl rfl ?_;refine W_move rfl rfl ?_;refine W_guard_no rfl rfl rfl rfl rfl ?_;refine W_guard_no rfl rfl rfl rfl rfl ?_;refine W_guard_no rfl rfl rfl rfl rfl ?_;refine W_pick_f rfl rfl rfl ?_;refine W_assign rfl rfl ?_;refine W_nil ?_;exact N_join _ ⟨rfl, Fr5, (Frz.le.refl _), hS6⟩ ⟨(look_bool rfl (by first | rfl | (rw [hb8, hb9]; first | done | rfl) | simp [hb8, hb9])), trivial⟩
  ·refine C_region ?_;refine W_move rfl rfl ?_;refine W_eql rfl rfl rfl ?_;refine W_move rfl rfl ?_;refine W_known (t := 18) false rfl hb8 ?_;refine W_guard_no rfl rfl rfl rfl rfl ?_;refine W_guard_no rfl rfl rfl rfl rfl ?_;refine W_pick_f rfl rfl rfl ?_;refine W_move rfl rfl ?_;refine W_guard_no rfl rfl rfl rfl rfl ?_;refine W_guard_no rfl rfl rfl rfl rfl ?_;refine W_guard_no rfl rfl rfl rfl rfl ?_;refine W_pick_f rfl rfl rfl ?_;refine W_move rfl rfl ?_;refine W_guard_no rfl rfl rfl rfl rfl ?_;refine W_guard_no rfl rfl rfl rfl rfl ?_;refine W_guard_no rfl rfl rfl rfl rfl ?_;refine W_pick_f rfl rfl rfl ?_;refine W_move rfl rfl ?_;refine W_guard_no rfl rfl rfl rfl rfl ?_;refine W_guard_no rfl rfl rfl rfl rfl ?_;refine W_guard_no rfl rfl rfl rfl rfl ?_;refine W_pick_f rfl rfl rfl ?_;refine W_assign rfl rfl ?_;refine W_nil ?_;exact N_join _ ⟨rfl, Fr5, (Frz.le.refl _), hS6⟩ ⟨(look_bool rfl (by first | rfl | (rw [hb8]; first | done | rfl) | simp [hb8])), trivial⟩
 rintro E w7 ⟨rfl, F7, le7, hS7⟩;refine N_code ?_;obtain rfl := Option.some.inj H;refine C_ret rfl rfl ?_;exact ⟨F7, rfl, hS7.pick [] (by decide)⟩

end
end Go.Wk.Lf
