import Derived.Test.YtoanecpanckkeaaTy
import Derived.Test.YtoanecpanckkeaaLfT
namespace Go.Wk.Lf
open Go.Proofs Go.RowKit
set_option linter.unusedVariables false
set_option linter.unusedSimpArgs false

def cmp_isNaN_string (x0 : List UInt8) : Option Bool :=
  some (!(x0 == x0))

theorem cmp_isNaN_string_ok {F : Frz} {w : World} {x0 : List UInt8} {r : Bool} (hA : Agree F w.heap) (H : cmp_isNaN_string x0 = some r) : Ret Try.prog 93 #[strV x0] w fun v w' => ∃ (F' : Frz), v = .bool r ∧ St [] w F F' [] w' := by
 refine Ret_of (args := [strV x0]) Go.Proofs.Try.func93 rfl rfl ?_
 change C _ _ _ _ [(0, strV x0)] _
 have hS := St.entry hA
 dsimp only [cmp_isNaN_string] at H
 refine C_seq ?_
 refine C_region ?_
 refine W_assign rfl rfl ?_
 refine W_nil ?_
 refine N_code ?_
 refine C_seq ?_
 refine C_region ?_
 refine W_move rfl rfl ?_
 refine W_move rfl rfl ?_
 refine W_neqS rfl rfl rfl ?_
 refine W_assign rfl rfl ?_
 refine W_nil ?_
 refine N_code ?_
 obtain rfl := Option.some.inj H
 refine C_ret rfl rfl ?_
 exact ⟨F, rfl, hS⟩

def cmp_Compare_string (x0 : List UInt8) (x1 : List UInt8) : Option Int :=
  bd (cmp_isNaN_string x0) fun r1 =>
  bd (cmp_isNaN_string x1) fun r3 =>
  if r1 then
    if r3 then
      some 0
    else
      some (-1)
  else
    if r3 then
      some 1
    else
      if (sLt x0 x1) then
        some (-1)
      else
        if (!(sLt x0 x1 || x0 == x1)) then
          some 1
        else
          some 0

theorem cmp_Compare_string_ok {F : Frz} {w : World} {x0 : List UInt8} {x1 : List UInt8} {r : Int} (hA : Agree F w.heap) (H : cmp_Compare_string x0 x1 = some r) : Ret Try.prog 59 #[strV x0, strV x1] w fun v w' => ∃ (F' : Frz), v = .int .i64 r ∧ St [] w F F' [] w' := by
 refine Ret_of (args := [strV x0, strV x1]) Go.Proofs.Try.func59 rfl rfl ?_
 change C _ _ _ _ [(0, strV x0), (1, strV x1)] _
 have hS := St.entry hA
 dsimp only [cmp_Compare_string] at H
 refine C_seq ?_
 refine C_region ?_
 refine W_assign rfl rfl ?_
 refine W_nil ?_
 refine N_code ?_
 refine C_seq ?_
 obtain ⟨r1, hr1, H⟩ := bd_some H
 refine C_region ?_
 refine W_move rfl rfl ?_
 refine W_call rfl Ty.named93 rfl (cmp_isNaN_string_ok hS.agree hr1) ?_
 rintro v2 w2 ⟨Fr1, rfl, hT2⟩
 have hS2 := hS.lent hT2
 refine W_assign rfl rfl ?_
 refine W_nil ?_
 refine N_code ?_
 refine C_seq ?_
 obtain ⟨r3, hr3, H⟩ := bd_some H
 refine C_region ?_
 refine W_move rfl rfl ?_
 refine W_call rfl Ty.named93 rfl (cmp_isNaN_string_ok hS2.agree hr3) ?_
 rintro v4 w4 ⟨Fr3, rfl, hT4⟩
 have hS4 := hS2.lent hT4
 refine W_assign rfl rfl ?_
 refine W_nil ?_
 refine N_code ?_
 refine C_seq ?_
 refine C_seq ?_
 refine C_region ?_
 refine W_move rfl rfl ?_
 refine W_nil ?_
 refine N_code ?_
 refine C_cond rfl (fun hc5 => ?_) (fun hc5 => ?_)
 ·
  rw [if_t hc5] at H
  refine C_seq ?_
  refine C_seq ?_
  refine C_region ?_
  refine W_move rfl rfl ?_
  refine W_nil ?_
  refine N_code ?_
  refine C_cond rfl (fun hc6 => ?_) (fun hc6 => ?_)
  ·
   rw [if_t hc6] at H
   refine C_seq ?_
   refine C_region ?_
   refine W_assign rfl rfl ?_
   refine W_nil ?_
   refine N_code ?_
   obtain rfl := Option.some.inj H
   refine C_ret rfl rfl ?_
   exact ⟨F, rfl, hS4⟩
  ·
   rw [if_f hc6] at H
   refine C_skip ?_
   refine N_code ?_
   refine C_seq ?_
   refine C_region ?_
   refine W_assign rfl rfl ?_
   refine W_nil ?_
   refine N_code ?_
   obtain rfl := Option.some.inj H
   refine C_ret rfl rfl ?_
   exact ⟨F, rfl, hS4⟩
 ·
  rw [if_f hc5] at H
  refine C_skip ?_
  refine N_code ?_
  refine C_seq ?_
  refine C_seq ?_
  refine C_region ?_
  refine W_move rfl rfl ?_
  refine W_nil ?_
  refine N_code ?_
  refine C_cond rfl (fun hc7 => ?_) (fun hc7 => ?_)
  ·
   rw [if_t hc7] at H
   refine C_seq ?_
   refine C_region ?_
   refine W_assign rfl rfl ?_
   refine W_nil ?_
   refine N_code ?_
   obtain rfl := Option.some.inj H
   refine C_ret rfl rfl ?_
   exact ⟨F, rfl, hS4⟩
  ·
   rw [if_f hc7] at H
   refine C_skip ?_
   refine N_code ?_
   refine C_seq ?_
   refine C_seq ?_
   refine C_region ?_
   refine W_move rfl rfl ?_
   refine W_move rfl rfl ?_
   refine W_lssS rfl rfl rfl ?_
   refine W_nil ?_
   refine N_code ?_
   refine C_cond rfl (fun hc8 => ?_) (fun hc8 => ?_)
   ·
    rw [if_t hc8] at H
    refine C_seq ?_
    refine C_region ?_
    refine W_assign rfl rfl ?_
    refine W_nil ?_
    refine N_code ?_
    obtain rfl := Option.some.inj H
    refine C_ret rfl rfl ?_
    exact ⟨F, rfl, hS4⟩
   ·
    rw [if_f hc8] at H
    refine C_skip ?_
    refine N_code ?_
    refine C_seq ?_
    refine C_seq ?_
    refine C_region ?_
    refine W_move rfl rfl ?_
    refine W_move rfl rfl ?_
    refine W_gtrS rfl rfl rfl ?_
    refine W_nil ?_
    refine N_code ?_
    refine C_cond rfl (fun hc9 => ?_) (fun hc9 => ?_)
    ·
     rw [if_t hc9] at H
     refine C_seq ?_
     refine C_region ?_
     refine W_assign rfl rfl ?_
     refine W_nil ?_
     refine N_code ?_
     obtain rfl := Option.some.inj H
     refine C_ret rfl rfl ?_
     exact ⟨F, rfl, hS4⟩
    ·
     rw [if_f hc9] at H
     refine C_skip ?_
     refine N_code ?_
     refine C_seq ?_
     refine C_region ?_
     refine W_assign rfl rfl ?_
     refine W_nil ?_
     refine N_code ?_
     obtain rfl := Option.some.inj H
     refine C_ret rfl rfl ?_
     exact ⟨F, rfl, hS4⟩

def tree_Sort_2 (x0 : File) (x1 : File) : Option Int :=
  bd (cmp_Compare_string x0.path x1.path) fun r3 =>
  some r3

theorem tree_Sort_2_ok {F : Frz} {w : World} {x0 : File} {x1 : File} {r : Int} {v0_0 : Value} {v1_0 : Value} (hA : Agree F w.heap) (h0_0 : SlF tB F v0_0 x0.data) (h1_0 : SlF tB F v1_0 x1.data) (H : tree_Sort_2 x0 x1 = some r) : Ret Try.prog 58 #[.agg (File.cells x0 v0_0).toArray, .agg (File.cells x1 v1_0).toArray] w fun v w' => ∃ (F' : Frz), v = .int .i64 r ∧ St [] w F F' [] w' := by
 refine Ret_of (args := [.agg (File.cells x0 v0_0).toArray, .agg (File.cells x1 v1_0).toArray]) Go.Proofs.Try.func58 rfl rfl ?_
 change C _ _ _ _ [(0, .agg (File.cells x0 v0_0).toArray), (1, .agg (File.cells x1 v1_0).toArray)] _
 have hS := St.entry hA
 dsimp only [tree_Sort_2] at H
 refine C_seq ?_
 refine C_region ?_
 refine W_bx (cs := [strV x0.path, v0_0]) rfl rfl rfl hS ?_
 intro g1 w1 hS1
 refine W_bx (cs := [strV x1.path, v1_0]) rfl rfl rfl hS1 ?_
 intro g2 w2 hS2
 refine W_assign rfl rfl ?_
 refine W_nil ?_
 refine N_code ?_
 refine C_seq ?_
 obtain ⟨r3, hr3, H⟩ := bd_some H
 refine C_region ?_
 refine W_field_pl 0 rfl Ty.field34_0 rfl ?_
 refine W_bld1 1 rfl Ty.cell9 rfl hS2 rfl rfl ?_
 refine W_field_pl 0 rfl Ty.field34_0 rfl ?_
 refine W_bld1 0 rfl Ty.cell9 rfl hS2 rfl rfl ?_
 refine W_call rfl Ty.named59 rfl (cmp_Compare_string_ok hS2.agree hr3) ?_
 rintro v4 w4 ⟨Fr3, rfl, hT4⟩
 have hS4 := hS2.lent hT4
 refine W_assign rfl rfl ?_
 refine W_nil ?_
 refine N_code ?_
 obtain rfl := Option.some.inj H
 refine C_ret rfl rfl ?_
 exact ⟨F, rfl, hS4.pick [] (by decide)⟩

end Go.Wk.Lf
