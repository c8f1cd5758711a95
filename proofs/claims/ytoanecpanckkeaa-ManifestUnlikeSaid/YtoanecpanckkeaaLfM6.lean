import Derived.Test.YtoanecpanckkeaaLfS
namespace Go.Wk.Lf
open Go.Proofs Go.RowKit
set_option linter.unusedVariables false
set_option linter.unusedSimpArgs false
noncomputable section

def cellarerlaw17_Heavy.k1 : Option Bool :=
  some false


def cellarerlaw17_Heavy.l2 (x0 : Manifest) (rec8 : Int → Option Bool) : Int → Option Bool
  | i7 =>
    if decide (i7 < (x0.parts.length : Int)) then
      bd (ix x0.parts i7) fun x10 =>
      bd (only (!decide (100 < (x10.path.length : Int))) (ix x0.parts i7) (Part.mk [] 0 [])) fun x12 =>
      if (decide (100 < (x10.path.length : Int)) || decide (40 < (x12.ids.length : Int))) then
        some true
      else
        rec8 (wr (i7 + 1))
    else
      cellarerlaw17_Heavy.k1

def cellarerlaw17_Heavy (x0 : Manifest) : Option Bool :=
  if (decide (100 < (x0.name.length : Int)) || decide (10 < (x0.parts.length : Int))) then
    some true
  else
    loop (cellarerlaw17_Heavy.l2 x0) 0

theorem cellarerlaw17_Heavy_ok {F : Frz} {w : World} {x0 : Manifest} {r : Bool} {v0_0 : Value} (hA : Agree F w.heap) (h0_0 : SlF Part.t F v0_0 x0.parts) (H : cellarerlaw17_Heavy x0 = some r) : Ret Try.prog 29 #[.agg (Manifest.cells x0 v0_0).toArray] w fun v w' => ∃ (F' : Frz), v = .bool r ∧ St [] w F F' [] w' := by
 refine Ret_of (args := [.agg (Manifest.cells x0 v0_0).toArray]) Try.func29 rfl rfl ?_;change C _ _ _ _ [(0, .agg (Manifest.cells x0 v0_0).toArray)] _;have hS := St.entry hA;dsimp only [cellarerlaw17_Heavy] at H;refine C_seq ?_;refine C_region ?_;refine W_bx (cs := [strV x0.name, v0_0]) rfl rfl rfl hS ?_;intro g1 w1 hS1;refine W_assign rfl rfl ?_;refine W_nil ?_;refine N_code ?_;refine C_seq ?_;refine C_seq ?_;refine C_join (fun E wq => E = [(1, pl g1 0), (13, .bool (decide (100 < (x0.name.length : Int)) || decide (10 < (x0.parts.length : Int))))] ∧ ∃ F2 : Frz, F.le F2 ∧ St [] w F F2 [.box g1 45 [strV x0.name, v0_0]] wq) ?_ ?_
 ·
  rcases Bool.eq_false_or_eq_true (decide (100 < (x0.name.length : Int))) with hb3 | hb3
  ·refine C_region ?_;refine W_field_pl 0 rfl Ty.field45_0 rfl ?_;refine W_bld1 0 rfl Ty.cell9 rfl hS1 rfl rfl ?_;refine W_lenS rfl Try.underlying9 rfl ?_;refine W_gtr rfl rfl rfl ?_;refine W_move rfl rfl ?_;refine W_known (t := 8) true rfl hb3 ?_;refine W_guard_no rfl rfl rfl rfl rfl ?_;refine W_guard_no rfl rfl rfl rfl rfl ?_;refine W_guard_no rfl rfl rfl rfl rfl ?_;refine W_guard_no rfl rfl rfl rfl rfl ?_;refine W_pick_t rfl rfl rfl ?_;refine W_nil ?_;exact N_join _ ⟨rfl, F, (Frz.le.refl _), hS1⟩ ⟨rfl, (look_bool rfl (by first | rfl | (rw [hb3]; first | done | rfl) | simp [hb3])), trivial⟩
  ·refine C_region ?_;refine W_field_pl 0 rfl Ty.field45_0 rfl ?_;refine W_bld1 0 rfl Ty.cell9 rfl hS1 rfl rfl ?_;refine W_lenS rfl Try.underlying9 rfl ?_;refine W_gtr rfl rfl rfl ?_;refine W_move rfl rfl ?_;refine W_known (t := 8) false rfl hb3 ?_;refine W_guard_yes rfl ?_;refine W_field_pl 1 rfl Ty.field45_1 rfl ?_;refine W_guard_yes rfl ?_;refine W_bld1 0 rfl Ty.cell43 rfl hS1 rfl rfl ?_;refine W_guard_yes rfl ?_;refine W_lenv rfl Try.underlying43 rfl h0_0.ln ?_;refine W_guard_yes rfl ?_;refine W_gtr rfl rfl rfl ?_;refine W_pick_f rfl rfl rfl ?_;refine W_nil ?_;exact N_join _ ⟨rfl, F, (Frz.le.refl _), hS1⟩ ⟨rfl, (look_bool rfl (by first | rfl | (rw [hb3]; first | done | rfl) | simp [hb3])), trivial⟩
 rintro E w2 ⟨rfl, F2, le2, hS2⟩;refine N_code ?_;refine C_cond rfl (fun hc4 => ?_) (fun hc4 => ?_)
 ·rw [if_t hc4] at H;refine C_seq ?_;refine C_region ?_;refine W_assign rfl rfl ?_;refine W_nil ?_;refine N_code ?_;obtain rfl := Option.some.inj H;refine C_ret rfl rfl ?_;exact ⟨F2, rfl, hS2.pick [] (by decide)⟩
 ·rw [if_f hc4] at H;refine C_skip ?_;refine N_code ?_;refine C_seq_join (fun E wq => cellarerlaw17_Heavy.k1 = some r ∧ ∃ (F5 : Frz), E = [] ∧ F2.le F5 ∧ St [] w F F5 [] wq) ?_ ?_
  ·refine C_seq ?_;refine C_region ?_;refine W_assign rfl rfl ?_;refine W_nil ?_;refine N_code ?_;refine C_block ?_;refine C_loopM (fun (s : Int) E wq => ∃ (F6 : Frz), E = [(1, pl g1 0), (3, .int .i64 s)] ∧ F2.le F6 ∧ St [] w F F6 [.box g1 45 [strV x0.name, v0_0]] wq) H ?_ ?_
   ·exact ⟨_, ⟨F2, rfl, (Frz.le.refl _), hS2⟩, ⟨rfl, rfl, trivial⟩⟩
   ·rintro rec8 i7 E w6 hI H;(try dsimp only at hI);obtain ⟨F6, rfl, le6, hS6⟩ := hI;dsimp only [cellarerlaw17_Heavy.l2] at H;refine C_seq ?_;refine C_seq ?_;refine C_region ?_;refine W_move rfl rfl ?_;refine W_field_pl 1 rfl Ty.field45_1 rfl ?_;refine W_bld1 0 rfl Ty.cell43 rfl hS6 rfl rfl ?_;refine W_lenv rfl Try.underlying43 rfl h0_0.ln ?_;refine W_lss rfl rfl rfl ?_;refine W_nil ?_;refine N_code ?_;refine C_cond rfl (fun hc9 => ?_) (fun hc9 => ?_)
    ·rw [if_t hc9] at H;refine C_skip ?_;refine N_code ?_;refine C_seq ?_;refine C_block ?_;refine C_seq ?_;obtain ⟨x10, hx10, H⟩ := bd_some H;obtain ⟨x12, hx12, H⟩ := bd_some H;refine C_join (fun E wq => E = [(1, pl g1 0), (3, .int .i64 i7), (38, .bool (decide (100 < (x10.path.length : Int)) || decide (40 < (x12.ids.length : Int))))] ∧ ∃ F14 : Frz, F6.le F14 ∧ St [] w F F14 [.box g1 45 [strV x0.name, v0_0]] wq) ?_ ?_
     ·
      rcases Bool.eq_false_or_eq_true (decide (100 < (x10.path.length : Int))) with hb15 | hb15
      ·refine C_region ?_;refine W_field_pl 1 rfl Ty.field45_1 rfl ?_;refine W_bld1 0 rfl Ty.cell43 rfl hS6 rfl rfl ?_;refine W_move rfl rfl ?_;obtain ⟨hp16, hy16⟩ := ix_some hx10;obtain ⟨cs16, hr16, he16⟩ := (h0_0.mono (le2.trans le6)).at_ hy16;obtain ⟨ue11_0, rfl, hue11_0⟩ := hr16;replace he16 : Elf _ _ 3 _ _ := he16;refine W_ix rfl Try.underlying43 Ty.cells51 Ty.info51 rfl rfl (he16.el hS6.agree) hp16 rfl ?_;refine W_fld 0 rfl Ty.field51_0 rfl (he16.el hS6.agree) ?_;refine W_ld1 0 rfl Ty.cell9 rfl (he16.el hS6.agree) (by omega) rfl ?_;refine W_lenS rfl Try.underlying9 rfl ?_;refine W_gtr rfl rfl rfl ?_;refine W_move rfl rfl ?_;refine W_known (t := 29) true rfl hb15 ?_;refine W_guard_no rfl rfl rfl rfl rfl ?_;refine W_guard_no rfl rfl rfl rfl rfl ?_;refine W_guard_no rfl rfl rfl rfl rfl ?_;refine W_guard_no rfl rfl rfl rfl rfl ?_;refine W_guard_no rfl rfl rfl rfl rfl ?_;refine W_guard_no rfl rfl rfl rfl rfl ?_;refine W_guard_no rfl rfl rfl rfl rfl ?_;refine W_guard_no rfl rfl rfl rfl rfl ?_;refine W_pick_t rfl rfl rfl ?_;refine W_nil ?_;exact N_join _ ⟨rfl, F6, (Frz.le.refl _), hS6⟩ ⟨rfl, rfl, (look_bool rfl (by first | rfl | (rw [hb15]; first | done | rfl) | simp [hb15])), trivial⟩
      ·refine C_region ?_;refine W_field_pl 1 rfl Ty.field45_1 rfl ?_;refine W_bld1 0 rfl Ty.cell43 rfl hS6 rfl rfl ?_;refine W_move rfl rfl ?_;obtain ⟨hp17, hy17⟩ := ix_some hx10;obtain ⟨cs17, hr17, he17⟩ := (h0_0.mono (le2.trans le6)).at_ hy17;obtain ⟨ue11_0, rfl, hue11_0⟩ := hr17;replace he17 : Elf _ _ 3 _ _ := he17;refine W_ix rfl Try.underlying43 Ty.cells51 Ty.info51 rfl rfl (he17.el hS6.agree) hp17 rfl ?_;refine W_fld 0 rfl Ty.field51_0 rfl (he17.el hS6.agree) ?_;refine W_ld1 0 rfl Ty.cell9 rfl (he17.el hS6.agree) (by omega) rfl ?_;refine W_lenS rfl Try.underlying9 rfl ?_;refine W_gtr rfl rfl rfl ?_;refine W_move rfl rfl ?_;refine W_known (t := 29) false rfl hb15 ?_;refine W_guard_yes rfl ?_;refine W_field_pl 1 rfl Ty.field45_1 rfl ?_;refine W_guard_yes rfl ?_;refine W_bld1 0 rfl Ty.cell43 rfl hS6 rfl rfl ?_;refine W_guard_yes rfl ?_;refine W_move rfl rfl ?_;refine W_guard_yes rfl ?_;have hy18 := hx12;rw [only_t (by first | rfl | (rw [hb15]; first | done | rfl) | simp [hb15])] at hy18;obtain ⟨hp19, hy19⟩ := ix_some hy18;obtain ⟨cs19, hr19, he19⟩ := (h0_0.mono (le2.trans le6)).at_ hy19;obtain ⟨ue13_0, rfl, hue13_0⟩ := hr19;replace he19 : Elf _ _ 3 _ _ := he19;refine W_ix rfl Try.underlying43 Ty.cells51 Ty.info51 rfl rfl (he19.el hS6.agree) hp19 rfl ?_;refine W_guard_yes rfl ?_;refine W_fld 2 rfl Ty.field51_2 rfl (he19.el hS6.agree) ?_;refine W_guard_yes rfl ?_;refine W_ld1 2 rfl Ty.cell49 rfl (he19.el hS6.agree) (by omega) rfl ?_;refine W_guard_yes rfl ?_;refine W_lenv rfl Try.underlying49 rfl hue13_0.ln ?_;refine W_guard_yes rfl ?_;refine W_gtr rfl rfl rfl ?_;refine W_pick_f rfl rfl rfl ?_;refine W_nil ?_;exact N_join _ ⟨rfl, F6, (Frz.le.refl _), hS6⟩ ⟨rfl, rfl, (look_bool rfl (by first | rfl | (rw [hb15]; first | done | rfl) | simp [hb15])), trivial⟩
     rintro E w14 ⟨rfl, F14, le14, hS14⟩;refine N_code ?_;refine C_cond rfl (fun hc20 => ?_) (fun hc20 => ?_)
     ·rw [if_t hc20] at H;refine C_seq ?_;refine C_region ?_;refine W_assign rfl rfl ?_;refine W_nil ?_;refine N_code ?_;obtain rfl := Option.some.inj H;refine C_ret rfl rfl ?_;exact ⟨F14, rfl, hS14.pick [] (by decide)⟩
     ·rw [if_f hc20] at H;refine C_skip ?_;refine N_block ?_;refine N_code ?_;refine C_region ?_;refine W_move rfl rfl ?_;refine W_add rfl rfl rfl rfl ?_;refine W_assign rfl rfl ?_;refine W_nil ?_;exact N_againM (wr (i7 + 1)) _ H ⟨F14, rfl, (le6.trans le14), hS14⟩ ⟨rfl, rfl, trivial⟩
    ·rw [if_f hc9] at H;refine C_exit _ rfl ?_;exact N_join _ ⟨H, ⟨F6, rfl, le6, hS6.pick [] (by decide)⟩⟩ trivial
  ·rintro E w5 ⟨H, F5, rfl, le5, hS5⟩;dsimp only [cellarerlaw17_Heavy.k1] at H;refine C_seq ?_;refine C_region ?_;refine W_assign rfl rfl ?_;refine W_nil ?_;refine N_code ?_;obtain rfl := Option.some.inj H;refine C_ret rfl rfl ?_;exact ⟨F5, rfl, hS5⟩

end
end Go.Wk.Lf
