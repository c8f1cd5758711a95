import Derived.Test.YtoanecpanckkeaaLfS
namespace Go.Wk.Lf
open Go.Proofs Go.RowKit
set_option linter.unusedVariables false
set_option linter.unusedSimpArgs false
noncomputable section

def cellarerkeep_Twin (x0 : List UInt8) : Option (List UInt8) :=
  bd (app (α := UInt8) [] x0) fun l1 =>
  some l1

theorem cellarerkeep_Twin_ok {F : Frz} {w : World} {x0 : List UInt8} {r : (List UInt8)} {v0 : Value} (hA : Agree F w.heap) (h0 : SlF tB F v0 x0) (H : cellarerkeep_Twin x0 = some r) : Ret Try.prog 36 #[v0] w fun v w' => ∃ (F' : Frz) (q0 : Value), v = q0 ∧ St [] w F F' [.row tB 5 q0 (r)] w' := by
 refine Ret_of (args := [v0]) Try.func36 rfl rfl ?_;change C _ _ _ _ [(0, v0)] _;have hS := St.entry hA;dsimp only [cellarerkeep_Twin] at H;refine C_seq ?_;refine C_region ?_;refine W_assign rfl rfl ?_;refine W_nil ?_;refine N_code ?_;refine C_seq ?_;refine C_region ?_;refine W_assign rfl rfl ?_;refine W_nil ?_;refine N_code ?_;refine C_seq ?_;obtain ⟨l1, hl1, H⟩ := bd_some H;refine C_region ?_;refine W_move rfl rfl ?_;refine W_move rfl rfl ?_;have hS3 := hS.nilRow tB 5;refine W_appM 0 rfl Try.underlying25 Ty.row5 rfl rfl rfl rfl rfl hS3 rfl (h0.src hS3.agree) hl1 ?_;intro v2 w2 hS2;refine W_assign rfl rfl ?_;refine W_nil ?_;refine N_code ?_;obtain rfl := Option.some.inj H;refine C_ret rfl rfl ?_;exact ⟨F, v2, rfl, hS2⟩

end
end Go.Wk.Lf
