import Derived.Test.YtoanecpanckkeaaLfS
namespace Go.Wk.Lf
open Go.Proofs Go.RowKit
set_option linter.unusedVariables false
set_option linter.unusedSimpArgs false
noncomputable section

def cellarerlaw05_Heavy.k1 : Option Bool :=
  some false


def cellarerlaw05_Heavy.l2 (x0 : List File) (rec5 : Int → Option Bool) : Int → Option Bool
  | i4 =>
    if decide (i4 < (x0.length : Int)) then
      bd (ix x0 i4) fun x7 =>
      bd (only (!decide (500 < (x7.data.length : Int))) (ix x0 i4) (File.mk [] [])) fun x9 =>
      if (decide (500 < (x7.data.length : Int)) || decide (100 < (x9.path.length : Int))) then
        some true
      else
        rec5 (wr (i4 + 1))
    else
      cellarerlaw05_Heavy.k1

def cellarerlaw05_Heavy (x0 : List File) : Option Bool :=
  if decide (20 < (x0.length : Int)) then
    some true
  else
    loop (cellarerlaw05_Heavy.l2 x0) 0

theorem cellarerlaw05_Heavy_ok {F : Frz} {w : World} {x0 : List File} {r : Bool} {v0 : Value} (hA : Agree F w.heap) (h0 : SlF File.t F v0 x0) (H : cellarerlaw05_Heavy x0 = some r) : Ret Try.prog 17 #[v0] w fun v w' => ∃ (F' : Frz), v = .bool r ∧ St [] w F F' [] w' := by
 refine Ret_of (args := [v0]) Try.func17 rfl rfl ?_;change C _ _ _ _ [(0, v0)] _;have hS := St.entry hA;dsimp only [cellarerlaw05_Heavy] at H;refine C_seq ?_;refine C_region ?_;refine W_assign rfl rfl ?_;refine W_nil ?_;refine N_code ?_;refine C_seq ?_;refine C_seq ?_;refine C_region ?_;refine W_move rfl rfl ?_;refine W_lenv rfl Try.underlying27 rfl h0.ln ?_;refine W_gtr rfl rfl rfl ?_;refine W_nil ?_;refine N_code ?_;refine C_cond rfl (fun hc1 => ?_) (fun hc1 => ?_)
 ·rw [if_t hc1] at H;refine C_seq ?_;refine C_region ?_;refine W_assign rfl rfl ?_;refine W_nil ?_;refine N_code ?_;obtain rfl := Option.some.inj H;refine C_ret rfl rfl ?_;exact ⟨F, rfl, hS⟩
 ·rw [if_f hc1] at H;refine C_skip ?_;refine N_code ?_;refine C_seq_join (fun E wq => cellarerlaw05_Heavy.k1 = some r ∧ ∃ (F2 : Frz), E = [] ∧ F.le F2 ∧ St [] w F F2 [] wq) ?_ ?_
  ·refine C_seq ?_;refine C_region ?_;refine W_assign rfl rfl ?_;refine W_nil ?_;refine N_code ?_;refine C_block ?_;refine C_loopM (fun (s : Int) E wq => ∃ (F3 : Frz), E = [(0, v0), (3, .int .i64 s)] ∧ F.le F3 ∧ St [] w F F3 [] wq) H ?_ ?_
   ·exact ⟨_, ⟨F, rfl, (Frz.le.refl _), hS⟩, ⟨rfl, rfl, trivial⟩⟩
   ·rintro rec5 i4 E w3 hI H;(try dsimp only at hI);obtain ⟨F3, rfl, le3, hS3⟩ := hI;dsimp only [cellarerlaw05_Heavy.l2] at H;refine C_seq ?_;refine C_seq ?_;refine C_region ?_;refine W_move rfl rfl ?_;refine W_move rfl rfl ?_;refine W_lenv rfl Try.underlying27 rfl h0.ln ?_;refine W_lss rfl rfl rfl ?_;refine W_nil ?_;refine N_code ?_;refine C_cond rfl (fun hc6 => ?_) (fun hc6 => ?_)
    ·rw [if_t hc6] at H;refine C_skip ?_;refine N_code ?_;refine C_seq ?_;refine C_block ?_;refine C_seq ?_;obtain ⟨x7, hx7, H⟩ := bd_some H;obtain ⟨x9, hx9, H⟩ := bd_some H;refine C_join (fun E wq => E = [(0, v0), (3, .int .i64 i4), (28, .bool (decide (500 < (x7.data.length : Int)) || decide (100 < (x9.path.length : Int))))] ∧ ∃ F11 : Frz, F3.le F11 ∧ St [] w F F11 [] wq) ?_ ?_
     ·
      rcases Bool.eq_false_or_eq_true (decide (500 < (x7.data.length : Int))) with hb12 | hb12
      ·refine C_region ?_;refine W_move rfl rfl ?_;refine W_move rfl rfl ?_;obtain ⟨hp13, hy13⟩ := ix_some hx7;obtain ⟨cs13, hr13, he13⟩ := (h0.mono le3).at_ hy13;obtain ⟨ue8_0, rfl, hue8_0⟩ := hr13;replace he13 : Elf _ _ 2 _ _ := he13;refine W_ix rfl Try.underlying27 Ty.cells34 Ty.info34 rfl rfl (he13.el hS3.agree) hp13 rfl ?_;refine W_fld 1 rfl Ty.field34_1 rfl (he13.el hS3.agree) ?_;refine W_ld1 1 rfl Ty.cell25 rfl (he13.el hS3.agree) (by omega) rfl ?_;refine W_lenv rfl Try.underlying25 rfl hue8_0.ln ?_;refine W_gtr rfl rfl rfl ?_;refine W_move rfl rfl ?_;refine W_known (t := 20) true rfl hb12 ?_;refine W_guard_no rfl rfl rfl rfl rfl ?_;refine W_guard_no rfl rfl rfl rfl rfl ?_;refine W_guard_no rfl rfl rfl rfl rfl ?_;refine W_guard_no rfl rfl rfl rfl rfl ?_;refine W_guard_no rfl rfl rfl rfl rfl ?_;refine W_guard_no rfl rfl rfl rfl rfl ?_;refine W_guard_no rfl rfl rfl rfl rfl ?_;refine W_pick_t rfl rfl rfl ?_;refine W_nil ?_;exact N_join _ ⟨rfl, F3, (Frz.le.refl _), hS3⟩ ⟨rfl, rfl, (look_bool rfl (by first | rfl | (rw [hb12]; first | done | rfl) | simp [hb12])), trivial⟩
      ·refine C_region ?_;refine W_move rfl rfl ?_;refine W_move rfl rfl ?_;obtain ⟨hp14, hy14⟩ := ix_some hx7;obtain ⟨cs14, hr14, he14⟩ := (h0.mono le3).at_ hy14;obtain ⟨ue8_0, rfl, hue8_0⟩ := hr14;replace he14 : Elf _ _ 2 _ _ := he14;refine W_ix rfl Try.underlying27 Ty.cells34 Ty.info34 rfl rfl (he14.el hS3.agree) hp14 rfl ?_;refine W_fld 1 rfl Ty.field34_1 rfl (he14.el hS3.agree) ?_;refine W_ld1 1 rfl Ty.cell25 rfl (he14.el hS3.agree) (by omega) rfl ?_;refine W_lenv rfl Try.underlying25 rfl hue8_0.ln ?_;refine W_gtr rfl rfl rfl ?_;refine W_move rfl rfl ?_;refine W_known (t := 20) false rfl hb12 ?_;refine W_guard_yes rfl ?_;refine W_move rfl rfl ?_;refine W_guard_yes rfl ?_;refine W_move rfl rfl ?_;refine W_guard_yes rfl ?_;have hy15 := hx9;rw [only_t (by first | rfl | (rw [hb12]; first | done | rfl) | simp [hb12])] at hy15;obtain ⟨hp16, hy16⟩ := ix_some hy15;obtain ⟨cs16, hr16, he16⟩ := (h0.mono le3).at_ hy16;obtain ⟨ue10_0, rfl, hue10_0⟩ := hr16;replace he16 : Elf _ _ 2 _ _ := he16;refine W_ix rfl Try.underlying27 Ty.cells34 Ty.info34 rfl rfl (he16.el hS3.agree) hp16 rfl ?_;refine W_guard_yes rfl ?_;refine W_fld 0 rfl Ty.field34_0 rfl (he16.el hS3.agree) ?_;refine W_guard_yes rfl ?_;refine W_ld1 0 rfl Ty.cell9 rfl (he16.el hS3.agree) (by omega) rfl ?_;refine W_guard_yes rfl ?_;refine W_lenS rfl Try.underlying9 rfl ?_;refine W_guard_yes rfl ?_;refine W_gtr rfl rfl rfl ?_;refine W_pick_f rfl rfl rfl ?_;refine W_nil ?_;exact N_join _ ⟨rfl, F3, (Frz.le.refl _), hS3⟩ ⟨rfl, rfl, (look_bool rfl (by first | rfl | (rw [hb12]; first | done | rfl) | simp [hb12])), trivial⟩
     rintro E w11 ⟨rfl, F11, le11, hS11⟩;refine N_code ?_;refine C_cond rfl (fun hc17 => ?_) (fun hc17 => ?_)
     ·rw [if_t hc17] at H;refine C_seq ?_;refine C_region ?_;refine W_assign rfl rfl ?_;refine W_nil ?_;refine N_code ?_;obtain rfl := Option.some.inj H;refine C_ret rfl rfl ?_;exact ⟨F11, rfl, hS11⟩
     ·rw [if_f hc17] at H;refine C_skip ?_;refine N_block ?_;refine N_code ?_;refine C_region ?_;refine W_move rfl rfl ?_;refine W_add rfl rfl rfl rfl ?_;refine W_assign rfl rfl ?_;refine W_nil ?_;exact N_againM (wr (i4 + 1)) _ H ⟨F11, rfl, (le3.trans le11), hS11⟩ ⟨rfl, rfl, trivial⟩
    ·rw [if_f hc6] at H;refine C_exit _ rfl ?_;exact N_join _ ⟨H, ⟨F3, rfl, le3, hS3⟩⟩ trivial
  ·rintro E w2 ⟨H, F2, rfl, le2, hS2⟩;dsimp only [cellarerlaw05_Heavy.k1] at H;refine C_seq ?_;refine C_region ?_;refine W_assign rfl rfl ?_;refine W_nil ?_;refine N_code ?_;obtain rfl := Option.some.inj H;refine C_ret rfl rfl ?_;exact ⟨F2, rfl, hS2⟩

end
end Go.Wk.Lf
