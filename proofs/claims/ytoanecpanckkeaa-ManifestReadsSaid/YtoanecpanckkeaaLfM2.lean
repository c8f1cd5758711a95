import Derived.Test.YtoanecpanckkeaaLfS
namespace Go.Wk.Lf
open Go.Proofs Go.RowKit
set_option linter.unusedVariables false
set_option linter.unusedSimpArgs false
noncomputable section

def cellarerkeep_Bytes.k1 : Option Bool :=
  some true


def cellarerkeep_Bytes.l2 (x0 : List UInt8) (x1 : List UInt8) (rec5 : Int → Option Bool) : Int → Option Bool
  | i4 =>
    if decide (i4 < (x0.length : Int)) then
      bd (ix x0 i4) fun x7 =>
      bd (ix x1 i4) fun x9 =>
      if decide ((x7.toNat : Int) ≠ (x9.toNat : Int)) then
        some false
      else
        rec5 (wr (i4 + 1))
    else
      cellarerkeep_Bytes.k1

def cellarerkeep_Bytes (x0 : List UInt8) (x1 : List UInt8) : Option Bool :=
  if decide ((x0.length : Int) ≠ (x1.length : Int)) then
    some false
  else
    loop (cellarerkeep_Bytes.l2 x0 x1) 0

theorem cellarerkeep_Bytes_ok {F : Frz} {w : World} {x0 : List UInt8} {x1 : List UInt8} {r : Bool} {v0 : Value} {v1 : Value} (hA : Agree F w.heap) (h0 : SlF tB F v0 x0) (h1 : SlF tB F v1 x1) (H : cellarerkeep_Bytes x0 x1 = some r) : Ret Try.prog 28 #[v0, v1] w fun v w' => ∃ (F' : Frz), v = .bool r ∧ St [] w F F' [] w' := by
 refine Ret_of (args := [v0, v1]) Try.func28 rfl rfl ?_;change C _ _ _ _ [(0, v0), (1, v1)] _;have hS := St.entry hA;dsimp only [cellarerkeep_Bytes] at H;refine C_seq ?_;refine C_region ?_;refine W_assign rfl rfl ?_;refine W_nil ?_;refine N_code ?_;refine C_seq ?_;refine C_seq ?_;refine C_region ?_;refine W_move rfl rfl ?_;refine W_lenv rfl Try.underlying25 rfl h0.ln ?_;refine W_move rfl rfl ?_;refine W_lenv rfl Try.underlying25 rfl h1.ln ?_;refine W_neq rfl rfl rfl ?_;refine W_nil ?_;refine N_code ?_;refine C_cond rfl (fun hc1 => ?_) (fun hc1 => ?_)
 ·rw [if_t hc1] at H;refine C_seq ?_;refine C_region ?_;refine W_assign rfl rfl ?_;refine W_nil ?_;refine N_code ?_;obtain rfl := Option.some.inj H;refine C_ret rfl rfl ?_;exact ⟨F, rfl, hS⟩
 ·rw [if_f hc1] at H;refine C_skip ?_;refine N_code ?_;refine C_seq_join (fun E wq => cellarerkeep_Bytes.k1 = some r ∧ ∃ (F2 : Frz), E = [] ∧ F.le F2 ∧ St [] w F F2 [] wq) ?_ ?_
  ·refine C_seq ?_;refine C_region ?_;refine W_assign rfl rfl ?_;refine W_nil ?_;refine N_code ?_;refine C_block ?_;refine C_loopM (fun (s : Int) E wq => ∃ (F3 : Frz), E = [(0, v0), (1, v1), (5, .int .i64 s)] ∧ F.le F3 ∧ St [] w F F3 [] wq) H ?_ ?_
   ·exact ⟨_, ⟨F, rfl, (Frz.le.refl _), hS⟩, ⟨rfl, rfl, rfl, trivial⟩⟩
   ·rintro rec5 i4 E w3 hI H;(try dsimp only at hI);obtain ⟨F3, rfl, le3, hS3⟩ := hI;dsimp only [cellarerkeep_Bytes.l2] at H;refine C_seq ?_;refine C_seq ?_;refine C_region ?_;refine W_move rfl rfl ?_;refine W_move rfl rfl ?_;refine W_lenv rfl Try.underlying25 rfl h0.ln ?_;refine W_lss rfl rfl rfl ?_;refine W_nil ?_;refine N_code ?_;refine C_cond rfl (fun hc6 => ?_) (fun hc6 => ?_)
    ·rw [if_t hc6] at H;refine C_skip ?_;refine N_code ?_;refine C_seq ?_;refine C_block ?_;refine C_seq ?_;obtain ⟨x7, hx7, H⟩ := bd_some H;obtain ⟨x9, hx9, H⟩ := bd_some H;obtain ⟨hp11, hy11⟩ := ix_some hx7;obtain ⟨cs11, hr11, he11⟩ := (h0.mono le3).at_ hy11;obtain rfl := hr11;replace he11 : Elf _ _ 1 _ _ := he11;obtain ⟨hp12, hy12⟩ := ix_some hx9;obtain ⟨cs12, hr12, he12⟩ := (h1.mono le3).at_ hy12;obtain rfl := hr12;replace he12 : Elf _ _ 1 _ _ := he12
     apply C_draw 8 [[], [], [0, 1], [2], [], [], [4, 5], [6]] [.val (v0), .val (.int .i64 i4), .val (elp v0 (i4.toNat * 1)), .val (.int .u8 (x7.toNat : Int)), .val (v1), .val (.int .i64 i4), .val (elp v1 (i4.toNat * 1)), .val (.int .u8 (x9.toNat : Int))] Ty.mixed rfl rfl (by kernel_rfl) (by kernel_rfl) rfl
     ·refine ⟨?_, ?_, ?_, ?_, ?_, ?_, ?_, ?_, trivial⟩
      ·intro _ _ _ _;refine W_move rfl rfl ?_;exact Zs rfl rfl
      ·intro _ _ _ _;refine W_move rfl rfl ?_;exact Zs rfl rfl
      ·intro w15 vq15 hB15 hH15;have hS15 := hS3.below hB15;refine W_ix rfl Try.underlying25 Ty.cells5 Ty.info5 rfl rfl (he11.el hS15.agree) hp11 rfl ?_;exact Zs rfl rfl
      ·intro w16 vq16 hB16 hH16;have hS16 := hS3.below hB16;refine W_ld1 0 rfl Ty.cell5 rfl (he11.el hS16.agree) (by omega) rfl ?_;exact Zs rfl rfl
      ·intro _ _ _ _;refine W_move rfl rfl ?_;exact Zs rfl rfl
      ·intro _ _ _ _;refine W_move rfl rfl ?_;exact Zs rfl rfl
      ·intro w19 vq19 hB19 hH19;have hS19 := hS3.below hB19;refine W_ix rfl Try.underlying25 Ty.cells5 Ty.info5 rfl rfl (he12.el hS19.agree) hp12 rfl ?_;exact Zs rfl rfl
      ·intro w20 vq20 hB20 hH20;have hS20 := hS3.below hB20;refine W_ld1 0 rfl Ty.cell5 rfl (he12.el hS20.agree) (by omega) rfl ?_;exact Zs rfl rfl
     intro w21 vq21 hB21 hH21;have hS21 := hS3.below hB21;refine W_neq rfl rfl rfl ?_;refine W_nil ?_;refine N_code ?_;refine C_cond rfl (fun hc22 => ?_) (fun hc22 => ?_)
     ·rw [if_t hc22] at H;refine C_seq ?_;refine C_region ?_;refine W_assign rfl rfl ?_;refine W_nil ?_;refine N_code ?_;obtain rfl := Option.some.inj H;refine C_ret rfl rfl ?_;exact ⟨F3, rfl, hS21⟩
     ·rw [if_f hc22] at H;refine C_skip ?_;refine N_block ?_;refine N_code ?_;refine C_region ?_;refine W_move rfl rfl ?_;refine W_add rfl rfl rfl rfl ?_;refine W_assign rfl rfl ?_;refine W_nil ?_;exact N_againM (wr (i4 + 1)) _ H ⟨F3, rfl, le3, hS21⟩ ⟨rfl, rfl, rfl, trivial⟩
    ·rw [if_f hc6] at H;refine C_exit _ rfl ?_;exact N_join _ ⟨H, ⟨F3, rfl, le3, hS3⟩⟩ trivial
  ·rintro E w2 ⟨H, F2, rfl, le2, hS2⟩;dsimp only [cellarerkeep_Bytes.k1] at H;refine C_seq ?_;refine C_region ?_;refine W_assign rfl rfl ?_;refine W_nil ?_;refine N_code ?_;obtain rfl := Option.some.inj H;refine C_ret rfl rfl ?_;exact ⟨F2, rfl, hS2⟩

end
end Go.Wk.Lf
