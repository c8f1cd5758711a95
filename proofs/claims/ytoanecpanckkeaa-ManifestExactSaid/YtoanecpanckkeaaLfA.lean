import Derived.Test.YtoanecpanckkeaaTy
import Derived.Test.YtoanecpanckkeaaLfT
import Derived.Test.YtoanecpanckkeaaSham
import Derived.Test.YtoanecpanckkeaaCmp
namespace Go.Wk.Lf
open Go.Proofs Go.RowKit
set_option linter.unusedVariables false
set_option linter.unusedSimpArgs false

def bytes_Compare (x0 : List UInt8) (x1 : List UInt8) : Option Int :=
  some (cmpT x0 x1)

theorem bytes_Compare_ok {F : Frz} {w : World} {x0 : List UInt8} {x1 : List UInt8} {r : Int} {v0 : Value} {v1 : Value} (hA : Agree F w.heap) (h0 : SlF tB F v0 x0) (h1 : SlF tB F v1 x1) (H : bytes_Compare x0 x1 = some r) : Ret Try.prog 96 #[v0, v1] w fun v w' => ∃ (F' : Frz), v = .int .i64 r ∧ St [] w F F' [] w' := by
 refine Ret_of (args := [v0, v1]) Go.Proofs.Try.func96 rfl rfl ?_
 change C _ _ _ _ [(0, v0), (1, v1)] _
 have hS := St.entry hA
 dsimp only [bytes_Compare] at H
 refine C_seq ?_
 refine C_region ?_
 refine W_assign rfl rfl ?_
 refine W_nil ?_
 refine N_code ?_
 refine C_seq ?_
 refine C_region ?_
 refine W_move rfl rfl ?_
 refine W_move rfl rfl ?_
 refine W_cmpB rfl Go.Proofs.Try.func123 (by kernel_rfl) rfl (by kernel_rfl) (by kernel_rfl) rfl rfl (h0.src hS.agree) (h1.src hS.agree) ?_
 refine W_assign rfl rfl ?_
 refine W_nil ?_
 refine N_code ?_
 obtain rfl := Option.some.inj H
 refine C_ret rfl rfl ?_
 exact ⟨F, rfl, hS⟩

def manifest_order (x0 : List UInt8) (x1 : List UInt8) : Option Int :=
  bd (bytes_Compare x0 x1) fun r5 =>
  some r5

theorem manifest_order_ok {F : Frz} {w : World} {x0 : List UInt8} {x1 : List UInt8} {r : Int} (hA : Agree F w.heap) (h0 : x0.length = 32) (h1 : x1.length = 32) (H : manifest_order x0 x1 = some r) : Ret Try.prog 68 #[.agg (idCells x0).toArray, .agg (idCells x1).toArray] w fun v w' => ∃ (F' : Frz), v = .int .i64 r ∧ St [] w F F' [] w' := by
 refine Ret_of (args := [.agg (idCells x0).toArray, .agg (idCells x1).toArray]) Go.Proofs.Try.func68 rfl rfl ?_
 change C _ _ _ _ [(0, .agg (idCells x0).toArray), (1, .agg (idCells x1).toArray)] _
 have hS := St.entry hA
 dsimp only [manifest_order] at H
 refine C_seq ?_
 refine C_region ?_
 refine W_bx (cs := idCells x0) rfl rfl rfl hS ?_
 intro g1 w1 hS1
 refine W_bx (cs := idCells x1) rfl rfl rfl hS1 ?_
 intro g2 w2 hS2
 refine W_assign rfl rfl ?_
 refine W_nil ?_
 refine N_code ?_
 refine C_seq ?_
 obtain ⟨r5, hr5, H⟩ := bd_some H
 apply C_draw 2 [[], []] [.pred (fun v wz => Src tB F wz v x0) stable_src, .pred (fun v wz => Src tB F wz v x1) stable_src] Ty.mixed rfl rfl (by kernel_rfl) (by kernel_rfl) rfl
 ·
  refine ⟨?_, ?_, trivial⟩
  ·
   intro w6 vq6 hB6 hH6
   have hS6 := hS2.below hB6
   refine W_slB 1 rfl Go.Proofs.Try.underlying57 Ty.info5 rfl hS6 rfl h0 ?_
   intro q3 hv3
   refine W_nil ?_
   exact N_step rfl hv3 (Below.refl _ _)
  ·
   intro w7 vq7 hB7 hH7
   have hS7 := hS2.below hB7
   refine W_slB 0 rfl Go.Proofs.Try.underlying57 Ty.info5 rfl hS7 rfl h1 ?_
   intro q4 hv4
   refine W_nil ?_
   exact N_step rfl hv4 (Below.refl _ _)
 intro w8 vq8 hB8 hH8
 obtain ⟨hp8_0, hp8_1, _⟩ := hH8
 have hS8 := hS2.below hB8
 refine W_call rfl Ty.named96 rfl (bytes_Compare_ok (now_agree _) (hp8_0.now hS8.agree) (hp8_1.now hS8.agree) hr5) ?_
 rintro v9 w9 ⟨Fr5, rfl, hT9⟩
 have hS9 := hS8.lent hT9
 refine W_assign rfl rfl ?_
 refine W_nil ?_
 refine N_code ?_
 obtain rfl := Option.some.inj H
 refine C_ret rfl rfl ?_
 exact ⟨F, rfl, hS9.pick [] (by decide)⟩

def manifest_Build_1 (x0 : List UInt8) (x1 : List UInt8) : Option Int :=
  bd (shaSum [x0]) fun r2 =>
  bd (shaSum [x1]) fun r4 =>
  bd (manifest_order r2 r4) fun r5 =>
  some r5

theorem manifest_Build_1_ok {F : Frz} {w : World} {x0 : List UInt8} {x1 : List UInt8} {r : Int} {v0 : Value} {v1 : Value} (hA : Agree F w.heap) (h0 : SlF tB F v0 x0) (h1 : SlF tB F v1 x1) (H : manifest_Build_1 x0 x1 = some r) : Ret Try.prog 67 #[v0, v1] w fun v w' => ∃ (F' : Frz), v = .int .i64 r ∧ St [] w F F' [] w' := by
 refine Ret_of (args := [v0, v1]) Go.Proofs.Try.func67 rfl rfl ?_
 change C _ _ _ _ [(0, v0), (1, v1)] _
 have hS := St.entry hA
 dsimp only [manifest_Build_1] at H
 refine C_seq ?_
 refine C_region ?_
 refine W_assign rfl rfl ?_
 refine W_nil ?_
 refine N_code ?_
 refine C_seq ?_
 obtain ⟨r2, hr2, H⟩ := bd_some H
 obtain ⟨r4, hr4, H⟩ := bd_some H
 obtain ⟨r5, hr5, H⟩ := bd_some H
 refine C_region ?_
 refine W_move rfl rfl ?_
 refine W_bs (t := (tSl tB)) [[v0]] [x0] rfl Go.Proofs.Try.underlying52 Ty.cells25 rfl rfl Ty.zero25 rfl (by simp [(h0.ln).cells]) ⟨⟨_, rfl, h0⟩, trivial⟩ rfl rfl hS ?_
 intro u1 w1 hS1
 refine W_call rfl Ty.named34 rfl (shaSum_ok (now_agree _) (hS1.rowNow (k := 0) rfl) hr2) ?_
 rintro v6 w6 ⟨Fr2, rfl, hlr2_0, hT6⟩
 have hS6 := hS1.lentFlat hT6 trivial
 refine W_move rfl rfl ?_
 refine W_bs (t := (tSl tB)) [[v1]] [x1] rfl Go.Proofs.Try.underlying52 Ty.cells25 rfl rfl Ty.zero25 rfl (by simp [(h1.ln).cells]) ⟨⟨_, rfl, h1⟩, trivial⟩ rfl rfl hS6 ?_
 intro u3 w3 hS3
 refine W_call rfl Ty.named34 rfl (shaSum_ok (now_agree _) (hS3.rowNow (k := 0) rfl) hr4) ?_
 rintro v7 w7 ⟨Fr4, rfl, hlr4_0, hT7⟩
 have hS7 := hS3.lentFlat hT7 trivial
 refine W_call rfl Ty.named68 rfl (manifest_order_ok hS7.agree hlr2_0 hlr4_0 hr5) ?_
 rintro v8 w8 ⟨Fr5, rfl, hT8⟩
 have hS8 := hS7.lent hT8
 refine W_assign rfl rfl ?_
 refine W_nil ?_
 refine N_code ?_
 obtain rfl := Option.some.inj H
 refine C_ret rfl rfl ?_
 exact ⟨F, rfl, hS8.pick [] (by decide)⟩

def cmp_isNaN_string (x0 : List UInt8) : Option Bool :=
  some (!(x0 == x0))

theorem cmp_isNaN_string_ok {F : Frz} {w : World} {x0 : List UInt8} {r : Bool} (hA : Agree F w.heap) (H : cmp_isNaN_string x0 = some r) : Ret Try.prog 93 #[strV x0] w fun v w' => ∃ (F' : Frz), v = .bool r ∧ St [] w F F' [] w' := by
 refine Ret_of (args := [strV x0]) Go.Proofs.Try.func93 rfl rfl ?_
 change C _ _ _ _ [(0, strV x0)] _
 have hS := St.entry hA
 dsimp only [cmp_isNaN_string] at H
 refine C_seq ?_
 refine C_region ?_
 refine W_assign rfl rfl ?_
 refine W_nil ?_
 refine N_code ?_
 refine C_seq ?_
 refine C_region ?_
 refine W_move rfl rfl ?_
 refine W_move rfl rfl ?_
 refine W_neqS rfl rfl rfl ?_
 refine W_assign rfl rfl ?_
 refine W_nil ?_
 refine N_code ?_
 obtain rfl := Option.some.inj H
 refine C_ret rfl rfl ?_
 exact ⟨F, rfl, hS⟩

def cmp_Compare_string (x0 : List UInt8) (x1 : List UInt8) : Option Int :=
  bd (cmp_isNaN_string x0) fun r1 =>
  bd (cmp_isNaN_string x1) fun r3 =>
  if r1 then
    if r3 then
      some 0
    else
      some (-1)
  else
    if r3 then
      some 1
    else
      if (sLt x0 x1) then
        some (-1)
      else
        if (!(sLt x0 x1 || x0 == x1)) then
          some 1
        else
          some 0

theorem cmp_Compare_string_ok {F : Frz} {w : World} {x0 : List UInt8} {x1 : List UInt8} {r : Int} (hA : Agree F w.heap) (H : cmp_Compare_string x0 x1 = some r) : Ret Try.prog 59 #[strV x0, strV x1] w fun v w' => ∃ (F' : Frz), v = .int .i64 r ∧ St [] w F F' [] w' := by
 refine Ret_of (args := [strV x0, strV x1]) Go.Proofs.Try.func59 rfl rfl ?_
 change C _ _ _ _ [(0, strV x0), (1, strV x1)] _
 have hS := St.entry hA
 dsimp only [cmp_Compare_string] at H
 refine C_seq ?_
 refine C_region ?_
 refine W_assign rfl rfl ?_
 refine W_nil ?_
 refine N_code ?_
 refine C_seq ?_
 obtain ⟨r1, hr1, H⟩ := bd_some H
 refine C_region ?_
 refine W_move rfl rfl ?_
 refine W_call rfl Ty.named93 rfl (cmp_isNaN_string_ok hS.agree hr1) ?_
 rintro v2 w2 ⟨Fr1, rfl, hT2⟩
 have hS2 := hS.lent hT2
 refine W_assign rfl rfl ?_
 refine W_nil ?_
 refine N_code ?_
 refine C_seq ?_
 obtain ⟨r3, hr3, H⟩ := bd_some H
 refine C_region ?_
 refine W_move rfl rfl ?_
 refine W_call rfl Ty.named93 rfl (cmp_isNaN_string_ok hS2.agree hr3) ?_
 rintro v4 w4 ⟨Fr3, rfl, hT4⟩
 have hS4 := hS2.lent hT4
 refine W_assign rfl rfl ?_
 refine W_nil ?_
 refine N_code ?_
 refine C_seq ?_
 refine C_seq ?_
 refine C_region ?_
 refine W_move rfl rfl ?_
 refine W_nil ?_
 refine N_code ?_
 refine C_cond rfl (fun hc5 => ?_) (fun hc5 => ?_)
 ·
  rw [if_t hc5] at H
  refine C_seq ?_
  refine C_seq ?_
  refine C_region ?_
  refine W_move rfl rfl ?_
  refine W_nil ?_
  refine N_code ?_
  refine C_cond rfl (fun hc6 => ?_) (fun hc6 => ?_)
  ·
   rw [if_t hc6] at H
   refine C_seq ?_
   refine C_region ?_
   refine W_assign rfl rfl ?_
   refine W_nil ?_
   refine N_code ?_
   obtain rfl := Option.some.inj H
   refine C_ret rfl rfl ?_
   exact ⟨F, rfl, hS4⟩
  ·
   rw [if_f hc6] at H
   refine C_skip ?_
   refine N_code ?_
   refine C_seq ?_
   refine C_region ?_
   refine W_assign rfl rfl ?_
   refine W_nil ?_
   refine N_code ?_
   obtain rfl := Option.some.inj H
   refine C_ret rfl rfl ?_
   exact ⟨F, rfl, hS4⟩
 ·
  rw [if_f hc5] at H
  refine C_skip ?_
  refine N_code ?_
  refine C_seq ?_
  refine C_seq ?_
  refine C_region ?_
  refine W_move rfl rfl ?_
  refine W_nil ?_
  refine N_code ?_
  refine C_cond rfl (fun hc7 => ?_) (fun hc7 => ?_)
  ·
   rw [if_t hc7] at H
   refine C_seq ?_
   refine C_region ?_
   refine W_assign rfl rfl ?_
   refine W_nil ?_
   refine N_code ?_
   obtain rfl := Option.some.inj H
   refine C_ret rfl rfl ?_
   exact ⟨F, rfl, hS4⟩
  ·
   rw [if_f hc7] at H
   refine C_skip ?_
   refine N_code ?_
   refine C_seq ?_
   refine C_seq ?_
   refine C_region ?_
   refine W_move rfl rfl ?_
   refine W_move rfl rfl ?_
   refine W_lssS rfl rfl rfl ?_
   refine W_nil ?_
   refine N_code ?_
   refine C_cond rfl (fun hc8 => ?_) (fun hc8 => ?_)
   ·
    rw [if_t hc8] at H
    refine C_seq ?_
    refine C_region ?_
    refine W_assign rfl rfl ?_
    refine W_nil ?_
    refine N_code ?_
    obtain rfl := Option.some.inj H
    refine C_ret rfl rfl ?_
    exact ⟨F, rfl, hS4⟩
   ·
    rw [if_f hc8] at H
    refine C_skip ?_
    refine N_code ?_
    refine C_seq ?_
    refine C_seq ?_
    refine C_region ?_
    refine W_move rfl rfl ?_
    refine W_move rfl rfl ?_
    refine W_gtrS rfl rfl rfl ?_
    refine W_nil ?_
    refine N_code ?_
    refine C_cond rfl (fun hc9 => ?_) (fun hc9 => ?_)
    ·
     rw [if_t hc9] at H
     refine C_seq ?_
     refine C_region ?_
     refine W_assign rfl rfl ?_
     refine W_nil ?_
     refine N_code ?_
     obtain rfl := Option.some.inj H
     refine C_ret rfl rfl ?_
     exact ⟨F, rfl, hS4⟩
    ·
     rw [if_f hc9] at H
     refine C_skip ?_
     refine N_code ?_
     refine C_seq ?_
     refine C_region ?_
     refine W_assign rfl rfl ?_
     refine W_nil ?_
     refine N_code ?_
     obtain rfl := Option.some.inj H
     refine C_ret rfl rfl ?_
     exact ⟨F, rfl, hS4⟩

def tree_Sort_2 (x0 : File) (x1 : File) : Option Int :=
  bd (cmp_Compare_string x0.path x1.path) fun r3 =>
  some r3

theorem tree_Sort_2_ok {F : Frz} {w : World} {x0 : File} {x1 : File} {r : Int} {v0_0 : Value} {v1_0 : Value} (hA : Agree F w.heap) (h0_0 : SlF tB F v0_0 x0.data) (h1_0 : SlF tB F v1_0 x1.data) (H : tree_Sort_2 x0 x1 = some r) : Ret Try.prog 58 #[.agg (File.cells x0 v0_0).toArray, .agg (File.cells x1 v1_0).toArray] w fun v w' => ∃ (F' : Frz), v = .int .i64 r ∧ St [] w F F' [] w' := by
 refine Ret_of (args := [.agg (File.cells x0 v0_0).toArray, .agg (File.cells x1 v1_0).toArray]) Go.Proofs.Try.func58 rfl rfl ?_
 change C _ _ _ _ [(0, .agg (File.cells x0 v0_0).toArray), (1, .agg (File.cells x1 v1_0).toArray)] _
 have hS := St.entry hA
 dsimp only [tree_Sort_2] at H
 refine C_seq ?_
 refine C_region ?_
 refine W_bx (cs := [strV x0.path, v0_0]) rfl rfl rfl hS ?_
 intro g1 w1 hS1
 refine W_bx (cs := [strV x1.path, v1_0]) rfl rfl rfl hS1 ?_
 intro g2 w2 hS2
 refine W_assign rfl rfl ?_
 refine W_nil ?_
 refine N_code ?_
 refine C_seq ?_
 obtain ⟨r3, hr3, H⟩ := bd_some H
 refine C_region ?_
 refine W_field_pl 0 rfl Ty.field34_0 rfl ?_
 refine W_bld1 1 rfl Ty.cell9 rfl hS2 rfl rfl ?_
 refine W_field_pl 0 rfl Ty.field34_0 rfl ?_
 refine W_bld1 0 rfl Ty.cell9 rfl hS2 rfl rfl ?_
 refine W_call rfl Ty.named59 rfl (cmp_Compare_string_ok hS2.agree hr3) ?_
 rintro v4 w4 ⟨Fr3, rfl, hT4⟩
 have hS4 := hS2.lent hT4
 refine W_assign rfl rfl ?_
 refine W_nil ?_
 refine N_code ?_
 obtain rfl := Option.some.inj H
 refine C_ret rfl rfl ?_
 exact ⟨F, rfl, hS4.pick [] (by decide)⟩

end Go.Wk.Lf
