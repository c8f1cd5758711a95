/-  -/
import Derived.Test.YtfphkkaifgnlgaaGreatG3
set_option linter.unusedVariables false
set_option linter.unusedSimpArgs false
section
namespace Go.Wk.Lf
open Go.V Go.Proofs
noncomputable section
def cmp_isNaN_int (x0 : Int) : Option Bool :=
  some (decide (x0 ≠ x0))
set_option maxRecDepth 100000 in
theorem cmp_isNaN_int_ok {K : Tb} {F : Frz} {w : Hp} {x0 : Int} {r : Bool} (hA : Gd F w) (H : cmp_isNaN_int x0 = some r) : Ret Tryz.prog K 140 [.i .i64 x0] w fun v w' => ∃ (F' : Frz), v = .b r ∧ St [] w F F' [] w' := by
 refine qa1 Tryz.func140 ?_;have hS := St.start hA;dsimp only [cmp_isNaN_int] at H;refine qs ?_;refine qm ?_;refine qs ?_;refine q2 ?_;refine qr (O_bin rfl rfl bI_neq) ?_;refine qm ?_;obtain rfl := oi H;refine C_ret rfl rfl ?_;exact ⟨F, rfl, hS⟩
def cmp_Compare_int (x0 : Int) (x1 : Int) : Option Int :=
  bd (cmp_isNaN_int x0) fun r1 =>
  bd (cmp_isNaN_int x1) fun r3 =>
  if r1 then
    if r3 then
      some 0
    else
      some (-1)
  else
    if r3 then
      some 1
    else
      if decide (x0 < x1) then
        some (-1)
      else
        if decide (x1 < x0) then
          some 1
        else
          some 0
set_option maxRecDepth 100000 in
theorem cmp_Compare_int_ok {K : Tb} {F : Frz} {w : Hp} {x0 : Int} {x1 : Int} {r : Int} (hA : Gd F w) (H : cmp_Compare_int x0 x1 = some r) : Ret Tryz.prog K 90 [.i .i64 x0, .i .i64 x1] w fun v w' => ∃ (F' : Frz), v = .i .i64 r ∧ St [] w F F' [] w' := by
 refine qa2 Tryz.func90 ?_;have hS := St.start hA;dsimp only [cmp_Compare_int] at H;refine qs ?_;refine qm ?_;refine C_seq ?_;obtain ⟨r1, hr1, H⟩ := bd_some H;refine qd ?_;refine qc ?_;refine lm (cmp_isNaN_int_ok hS.good hr1) ?_;rintro v2 w2 ⟨Fr1, rfl, hT2⟩;have hS2 := hS.lent hT2;refine qm ?_;refine C_seq ?_;obtain ⟨r3, hr3, H⟩ := bd_some H;refine qd ?_;refine qc ?_;refine lm (cmp_isNaN_int_ok hS2.good hr3) ?_;rintro v4 w4 ⟨Fr3, rfl, hT4⟩;have hS4 := hS2.lent hT4;refine qm ?_;refine C_seq ?_;refine qs ?_;refine qm ?_;refine C_cond rfl (fun hc5 => ?_) (fun hc5 => ?_)
 ·rw [if_t hc5] at H;refine C_seq ?_;refine qs ?_;refine qm ?_;refine C_cond rfl (fun hc6 => ?_) (fun hc6 => ?_)
  ·rw [if_t hc6] at H;refine qs ?_;refine qm ?_;obtain rfl := oi H;refine C_ret rfl rfl ?_;exact ⟨F, rfl, hS4⟩
  ·rw [if_f hc6] at H;refine qk ?_;refine qs ?_;refine qm ?_;obtain rfl := oi H;refine C_ret rfl rfl ?_;exact ⟨F, rfl, hS4⟩
 ·rw [if_f hc5] at H;refine qk ?_;refine C_seq ?_;refine qs ?_;refine qm ?_;refine C_cond rfl (fun hc7 => ?_) (fun hc7 => ?_)
  ·rw [if_t hc7] at H;refine qs ?_;refine qm ?_;obtain rfl := oi H;refine C_ret rfl rfl ?_;exact ⟨F, rfl, hS4⟩
  ·rw [if_f hc7] at H;refine qk ?_;refine C_seq ?_;refine qs ?_;refine q2 ?_;refine qr (O_bin rfl rfl bI_lss) ?_;refine qn ?_;refine C_cond rfl (fun hc8 => ?_) (fun hc8 => ?_)
   ·rw [if_t hc8] at H;refine qs ?_;refine qm ?_;obtain rfl := oi H;refine C_ret rfl rfl ?_;exact ⟨F, rfl, hS4⟩
   ·rw [if_f hc8] at H;refine qk ?_;refine C_seq ?_;refine qs ?_;refine q2 ?_;refine qr (O_bin rfl rfl bI_gtr) ?_;refine qn ?_;refine C_cond rfl (fun hc9 => ?_) (fun hc9 => ?_)
    ·rw [if_t hc9] at H;refine qs ?_;refine qm ?_;obtain rfl := oi H;refine C_ret rfl rfl ?_;exact ⟨F, rfl, hS4⟩
    ·rw [if_f hc9] at H;refine qk ?_;refine qs ?_;refine qm ?_;obtain rfl := oi H;refine C_ret rfl rfl ?_;exact ⟨F, rfl, hS4⟩
def cmp_Or_int.k1 : Option Int :=
  some 0
def cmp_Or_int.l2 (x0 : List Int) (rec4 : Int → Option Int) : Int → Option Int
  | i3 =>
    if decide (i3 < (x0.length : Int)) then
      bd (ix x0 i3) fun x6 =>
      if decide (x6 ≠ 0) then
        some x6
      else
        rec4 (wr (i3 + 1))
    else
      cmp_Or_int.k1
def cmp_Or_int (x0 : List Int) : Option Int :=
  loop (cmp_Or_int.l2 x0) 0
set_option maxRecDepth 100000 in
theorem cmp_Or_int_ok {K : Tb} {F : Frz} {w : Hp} {x0 : List Int} {r : Int} {v0 : Val} (hA : Gd F w) (h0 : SlF tI F v0 x0) (H : cmp_Or_int x0 = some r) : Ret Tryz.prog K 152 [v0] w fun v w' => ∃ (F' : Frz), v = .i .i64 r ∧ St [] w F F' [] w' := by
 refine qa1 Tryz.func152 ?_;have hS := St.start hA;dsimp only [cmp_Or_int] at H;refine qs ?_;refine qm ?_;refine qs ?_;refine qm ?_;refine C_seq_join (fun E wq => cmp_Or_int.k1 = some r ∧ ∃ (F1 : Frz), E = [(3, .i .i64 0)] ∧ F.le F1 ∧ St [] w F F1 [] wq) ?_ ?_
 ·refine qs ?_;refine qc ?_;refine qr (O_len Tryz.underlying72 rfl h0.ln) ?_;refine qm ?_;refine C_block ?_;refine C_loopM (fun (s : Int) E wq => ∃ (F2 : Frz), E = [(3, .i .i64 0), (6, v0), (7, .i .i64 (x0.length : Int)), (8, .i .i64 s)] ∧ F.le F2 ∧ St [] w F F2 [] wq) H ?_ ?_
  ·exact ⟨_, ⟨F, rfl, (Frz.le.refl _), hS⟩, ⟨rfl, rfl, rfl, rfl, trivial⟩⟩
  ·rintro rec4 i3 E w2 hI H
   try dsimp only at hI
   obtain ⟨F2, rfl, le2, hS2⟩ := hI;dsimp only [cmp_Or_int.l2] at H;refine qs ?_;refine qr (O_bin rfl rfl bI_lss) ?_;refine qn ?_;refine C_seq ?_;refine C_cond rfl (fun hc5 => ?_) (fun hc5 => ?_)
   ·rw [if_t hc5] at H;refine qk ?_;refine C_seq ?_;refine C_block ?_;refine C_seq ?_;obtain ⟨x6, hx6, H⟩ := bd_some H;refine qd ?_;obtain ⟨hp8, hy8⟩ := ix_some hx6;obtain ⟨cs8, hr8, he8⟩ := (h0.mono le2).el hy8;obtain rfl := hr8;replace he8 : Elf _ _ 1 _ _ := he8;have hi8 := he8.ixd;refine qi Tryz.underlying72 Ty.size3 hi8 hp8 ?_;refine qr (O_ld1 0 Ty.cell3 rfl (he8.mono hS2.agree) (by omega) rfl) ?_;refine qm ?_;refine qs ?_;refine q2 ?_;refine qr (O_bin rfl rfl bI_neq) ?_;refine qn ?_;refine C_cond rfl (fun hc9 => ?_) (fun hc9 => ?_)
    ·rw [if_t hc9] at H;refine qs ?_;refine qc ?_;refine qm ?_;obtain rfl := oi H;refine C_ret rfl rfl ?_;exact ⟨F2, rfl, hS2⟩
    ·rw [if_f hc9] at H;refine C_skip ?_;refine N_block ?_;refine N_code ?_;refine qd ?_;refine q2 ?_;refine W_nil ?_;exact N_againM (wr (i3 + 1)) _ H ⟨F2, rfl, le2, hS2⟩ ⟨rfl, rfl, rfl, rfl, trivial⟩
   ·rw [if_f hc5] at H;refine C_exit _ rfl ?_;exact N_join _ ⟨H, ⟨F2, rfl, le2, hS2⟩⟩ ⟨rfl, trivial⟩
 ·rintro E w1 ⟨H, F1, rfl, le1, hS1⟩;dsimp only [cmp_Or_int.k1] at H;refine qs ?_;refine qc ?_;refine qm ?_;obtain rfl := oi H;refine C_ret rfl rfl ?_;exact ⟨F1, rfl, hS1⟩
def plan_order (x0 : Loc) (x1 : Loc) : Option Int :=
  bd (cmp_Compare_int x0.vol x1.vol) fun r3 =>
  bd (cmp_Compare_int x0.file x1.file) fun r4 =>
  bd (cmp_Compare_int x0.off x1.off) fun r5 =>
  bd (cmp_Compare_int x0.len x1.len) fun r6 =>
  bd (cmp_Or_int [r3, r4, r5, r6]) fun r8 =>
  some r8
set_option maxRecDepth 100000 in
theorem plan_order_ok {K : Tb} {F : Frz} {w : Hp} {x0 : Loc} {x1 : Loc} {r : Int} (hA : Gd F w) (H : plan_order x0 x1 = some r) : Ret Tryz.prog K 100 [.agg (Loc.cells x0), .agg (Loc.cells x1)] w fun v w' => ∃ (F' : Frz), v = .i .i64 r ∧ St [] w F F' [] w' := by
 refine qa2 Tryz.func100 ?_;have hS := St.start hA;dsimp only [plan_order] at H;refine qs ?_;refine xm (E_bx (cs := [.i .i64 x0.vol, .i .i64 x0.file, .i .i64 x0.off, .i .i64 x0.len]) rfl rfl rfl hS) ?_;rintro _ w1 ⟨g1, rfl, hS1⟩;refine xm (E_bx (cs := [.i .i64 x1.vol, .i .i64 x1.file, .i .i64 x1.off, .i .i64 x1.len]) rfl rfl rfl hS1) ?_;rintro _ w2 ⟨g2, rfl, hS2⟩;refine qm ?_;refine C_seq ?_;obtain ⟨r3, hr3, H⟩ := bd_some H;obtain ⟨r4, hr4, H⟩ := bd_some H;obtain ⟨r5, hr5, H⟩ := bd_some H;obtain ⟨r6, hr6, H⟩ := bd_some H;obtain ⟨r8, hr8, H⟩ := bd_some H;have hb9 := hS2.boxAt 1 rfl;have hb10 := hS2.boxAt 0 rfl;refine C_regionD (G := (F.hold w2 [g1, g2])) [0, 1, 2, 3, 5, 6, 7, 8, 10, 11, 12, 13, 15, 16, 17, 18, 4, 9, 14, 19, 20, 21, 22] rfl Ty.mixed (by kernel_rfl) (HB.agree (HB.cons 1 hb9 hS2 rfl (HB.cons 0 hb10 hS2 rfl HB.nil)) hS2.agree) ?_;refine qf Ty.field51_0 ?_;refine qbq 1 Ty.cell3 hS2 ?_;refine qf Ty.field51_0 ?_;refine qbq 0 Ty.cell3 hS2 ?_;refine qf Ty.field51_1 ?_;refine qr (O_fld1 Ty.cell3 rfl (hb9.held (HB.cons 1 hb9 hS2 rfl (HB.cons 0 hb10 hS2 rfl HB.nil)) (by simp)) rfl) ?_;refine qf Ty.field51_1 ?_;refine qr (O_fld1 Ty.cell3 rfl (hb10.held (HB.cons 1 hb9 hS2 rfl (HB.cons 0 hb10 hS2 rfl HB.nil)) (by simp)) rfl) ?_;refine qf Ty.field51_2 ?_;refine qr (O_fld1 Ty.cell3 rfl (hb9.held (HB.cons 1 hb9 hS2 rfl (HB.cons 0 hb10 hS2 rfl HB.nil)) (by simp)) rfl) ?_;refine qf Ty.field51_2 ?_;refine qr (O_fld1 Ty.cell3 rfl (hb10.held (HB.cons 1 hb9 hS2 rfl (HB.cons 0 hb10 hS2 rfl HB.nil)) (by simp)) rfl) ?_;refine qf Ty.field51_3 ?_;refine qr (O_fld1 Ty.cell3 rfl (hb9.held (HB.cons 1 hb9 hS2 rfl (HB.cons 0 hb10 hS2 rfl HB.nil)) (by simp)) rfl) ?_;refine qf Ty.field51_3 ?_;refine qr (O_fld1 Ty.cell3 rfl (hb10.held (HB.cons 1 hb9 hS2 rfl (HB.cons 0 hb10 hS2 rfl HB.nil)) (by simp)) rfl) ?_;refine ql (cmp_Compare_int_ok hS2.good hr3) ?_;rintro v11 w11 ⟨Fr3, rfl, hT11⟩;have hS11 := hS2.lent hT11;refine Nxt.frz (HB.le (HB.cons 1 hb9 hS11 rfl (HB.cons 0 hb10 hS11 rfl HB.nil)) (Frz.le.refl _)) (HB.agree (HB.cons 1 hb9 hS11 rfl (HB.cons 0 hb10 hS11 rfl HB.nil)) hS11.agree) ?_;refine ql (cmp_Compare_int_ok hS11.good hr4) ?_;rintro v12 w12 ⟨Fr4, rfl, hT12⟩;have hS12 := hS11.lent hT12;refine Nxt.frz (HB.le (HB.cons 1 hb9 hS12 rfl (HB.cons 0 hb10 hS12 rfl HB.nil)) (Frz.le.refl _)) (HB.agree (HB.cons 1 hb9 hS12 rfl (HB.cons 0 hb10 hS12 rfl HB.nil)) hS12.agree) ?_;refine ql (cmp_Compare_int_ok hS12.good hr5) ?_;rintro v13 w13 ⟨Fr5, rfl, hT13⟩;have hS13 := hS12.lent hT13
 refine Nxt.frz (HB.le (HB.cons 1 hb9 hS13 rfl (HB.cons 0 hb10 hS13 rfl HB.nil)) (Frz.le.refl _)) (HB.agree (HB.cons 1 hb9 hS13 rfl (HB.cons 0 hb10 hS13 rfl HB.nil)) hS13.agree) ?_;refine ql (cmp_Compare_int_ok hS13.good hr6) ?_;rintro v14 w14 ⟨Fr6, rfl, hT14⟩;have hS14 := hS13.lent hT14;refine Nxt.frz (HB.le (HB.cons 1 hb9 hS14 rfl (HB.cons 0 hb10 hS14 rfl HB.nil)) (Frz.le.refl _)) (HB.agree (HB.cons 1 hb9 hS14 rfl (HB.cons 0 hb10 hS14 rfl HB.nil)) hS14.agree) ?_;refine qx (E_bs (t := tI) (vs := [.i .i64 r3, .i .i64 r4, .i .i64 r5, .i .i64 r6]) (xs := [r3, r4, r5, r6]) Tryz.underlying72 Ty.row3 rfl ⟨rfl, ⟨rfl, ⟨rfl, ⟨rfl, trivial⟩⟩⟩⟩ rfl rfl hS14) ?_;rintro u7 w7 hS7;refine Nxt.frz (HB.le (HB.cons 2 hb9 hS7 rfl (HB.cons 1 hb10 hS7 rfl HB.nil)) (Frz.le.refl _)) (HB.agree (HB.cons 2 hb9 hS7 rfl (HB.cons 1 hb10 hS7 rfl HB.nil)) hS7.agree) ?_;refine ql (cmp_Or_int_ok (Gd.now hS7.wf) (hS7.rowNow (k := 0) rfl) hr8) ?_;rintro v15 w15 ⟨Fr8, rfl, hT15⟩;have hS15 := hS7.lent hT15;refine Nxt.frz (HB.le (HB.cons 2 hb9 hS15 rfl (HB.cons 1 hb10 hS15 rfl HB.nil)) (Frz.le.refl _)) (HB.agree (HB.cons 2 hb9 hS15 rfl (HB.cons 1 hb10 hS15 rfl HB.nil)) hS15.agree) ?_;refine qm ?_;obtain rfl := oi H;refine C_ret rfl rfl ?_;exact ⟨F, rfl, hS15.pick [] (by decide)⟩
def bytes_Compare (x0 : List UInt8) (x1 : List UInt8) : Option Int :=
  some (cmpT x0 x1)
set_option maxRecDepth 100000 in
theorem bytes_Compare_ok {K : Tb} [Kn (KExt Tryz.prog) K] {F : Frz} {w : Hp} {x0 : List UInt8} {x1 : List UInt8} {r : Int} {v0 : Val} {v1 : Val} (hA : Gd F w) (h0 : SlF tB F v0 x0) (h1 : SlF tB F v1 x1) (H : bytes_Compare x0 x1 = some r) : Ret Tryz.prog K 158 [v0, v1] w fun v w' => ∃ (F' : Frz), v = .i .i64 r ∧ St [] w F F' [] w' := by
 refine qa2 Tryz.func158 ?_;have hS := St.start hA;dsimp only [bytes_Compare] at H;refine qs ?_;refine qm ?_;refine qs ?_;refine q2 ?_;refine lm (compare_known Tryz.func181 rfl rfl (by kernel_rfl) (by kernel_rfl) (h0.mono hS.agree) (h1.mono hS.agree)) ?_;rintro _ _ ⟨rfl, rfl⟩;refine qm ?_;obtain rfl := oi H;refine C_ret rfl rfl ?_;exact ⟨F, rfl, hS⟩
def manifest_order (x0 : List UInt8) (x1 : List UInt8) : Option Int :=
  bd (bytes_Compare x0 x1) fun r7 =>
  some r7
set_option maxRecDepth 100000 in
theorem manifest_order_ok {K : Tb} [Kn (KExt Tryz.prog) K] {F : Frz} {w : Hp} {x0 : List UInt8} {x1 : List UInt8} {r : Int} (hA : Gd F w) (h0 : x0.length = 32) (h1 : x1.length = 32) (H : manifest_order x0 x1 = some r) : Ret Tryz.prog K 169 [.agg (idCells x0), .agg (idCells x1)] w fun v w' => ∃ (F' : Frz), v = .i .i64 r ∧ St [] w F F' [] w' := by
 refine qa2 Tryz.func169 ?_;have hS := St.start hA;dsimp only [manifest_order] at H;refine qs ?_;refine xm (E_bx (cs := idCells x0) rfl rfl rfl hS) ?_;rintro _ w1 ⟨g1, rfl, hS1⟩;refine xm (E_bx (cs := idCells x1) rfl rfl rfl hS1) ?_;rintro _ w2 ⟨g2, rfl, hS2⟩;refine qm ?_;refine C_seq ?_;obtain ⟨F3, le3, hbx3, hS3⟩ := hS2.freezeB 1 [0] rfl (by decide) (by decide);obtain ⟨F4, le4, hbx4, hS4⟩ := hS3.freezeB 0 [] rfl (by decide) (by decide);obtain ⟨r7, hr7, H⟩ := bd_some H;refine C_regionD (G := F4) [0, 1, 2, 3] rfl Ty.mixed (by kernel_rfl) hS4.agree ?_;refine W_slB rfl rfl rfl rfl Tryz.underlying58 Ty.size5 rfl (hbx3.at (fun q u h => by simpa using h)) h0 ?_;intro q5 hv5;refine W_slB rfl rfl rfl rfl Tryz.underlying58 Ty.size5 rfl (hbx4.at (fun q u h => by simpa using h)) h1 ?_;intro q6 hv6;refine ql (bytes_Compare_ok hS4.good (hv5.mono le4) hv6 hr7) ?_;rintro v8 w8 ⟨Fr7, rfl, hT8⟩;have hS8 := hS4.lent hT8;refine Nxt.frz (Frz.le.refl _) hS8.agree ?_;refine qm ?_;obtain rfl := oi H;refine C_ret rfl rfl ?_;exact ⟨F4, rfl, hS8⟩
def cellarerlaw19_Pools.k2 (l6 : List Int) : Option (List Int) :=
  some l6
def cellarerlaw19_Pools.k1 (l2 : List Int) : Option (List Int) :=
  if decide ((l2.length : Int) = 0) then
    cellarerlaw19_Pools.k2 [0]
  else
    cellarerlaw19_Pools.k2 l2
def cellarerlaw19_Pools.l3 (x0 : List Int) (rec16 : ((List Int) × Int) → Option (List Int)) : ((List Int) × Int) → Option (List Int)
  | (l12, i15) =>
    if (decide (i15 < (x0.length : Int)) && decide (i15 < 8)) then
      bd (ix x0 i15) fun x20 =>
      bd (app (α := Int) l12 [bits .and .i64 x20 1]) fun l23 =>
      rec16 (l23, wr (i15 + 1))
    else
      cellarerlaw19_Pools.k1 l12
def cellarerlaw19_Pools (x0 : List Int) : Option (List Int) :=
  loop (cellarerlaw19_Pools.l3 x0) ([], 0)
set_option maxRecDepth 100000 in
theorem cellarerlaw19_Pools_ok {K : Tb} {F : Frz} {w : Hp} {x0 : List Int} {r : (List Int)} {v0 : Val} (hA : Gd F w) (h0 : SlF tI F v0 x0) (H : cellarerlaw19_Pools x0 = some r) : Ret Tryz.prog K 27 [v0] w fun v w' => ∃ (F' : Frz) (q0 : Val), v = q0 ∧ St [] w F F' [.row tI q0 (r)] w' := by
 refine qa1 Tryz.func27 ?_;have hS := St.start hA;dsimp only [cellarerlaw19_Pools] at H;refine qs ?_;refine qm ?_;refine qs ?_;refine qm ?_;refine C_seq_join (fun E wq => ∃ l2 : List Int, cellarerlaw19_Pools.k1 l2 = some r ∧ ∃ (F1 : Frz) (u3 : Val), E = [(3, u3)] ∧ F.le F1 ∧ St [] w F F1 [.row tI u3 l2] wq) ?_ ?_
 ·refine qs ?_;refine qm ?_;refine C_block ?_;refine C_loopM (fun (s : (List Int) × Int) E wq => ∃ (F11 : Frz) (u13 : Val), E = [(0, v0), (3, u13), (4, .i .i64 s.2)] ∧ F.le F11 ∧ St [] w F F11 [.row tI u13 s.1] wq) H ?_ ?_
  ·have hS27 := hS.nilRow tI;exact ⟨_, ⟨F, (.sl none 0 (.k 0)), rfl, (Frz.le.refl _), hS27⟩, ⟨rfl, rfl, rfl, trivial⟩⟩
  ·rintro rec16 ⟨l12, i15⟩ E w11 hI H
   try dsimp only at hI
   obtain ⟨F11, u13, rfl, le11, hS11⟩ := hI;dsimp only [cellarerlaw19_Pools.l3] at H;refine C_seq ?_;refine qs ?_;refine q2 ?_;refine qr (O_len Tryz.underlying72 rfl h0.ln) ?_;refine qr (O_bin rfl rfl bI_lss) ?_;refine qc ?_;refine W_gs (v := .i .i64 i15) rfl rfl rfl rfl (fun ⟨hb17, _⟩ => ?_) ?_
   ·rw [hb17];intro hK;refine qc ?_;exact hK
   refine W_gs (v := .b (decide (i15 < 8))) rfl rfl rfl rfl (fun ⟨hb18, _⟩ => ?_) ?_
   ·rw [hb18];intro hK;refine qr (O_bin rfl rfl bI_lss) ?_;exact hK
   refine W_pkA rfl rfl rfl rfl rfl (fun hc => by rw [hc]; rfl) rfl ?_;refine qn ?_;refine C_cond rfl (fun hc19 => ?_) (fun hc19 => ?_)
   ·rw [if_t hc19] at H;refine qk ?_;refine C_seq ?_;refine C_block ?_;obtain ⟨x20, hx20, H⟩ := bd_some H;obtain ⟨l23, hl23, H⟩ := bd_some H;refine qd ?_;refine q3 ?_;obtain ⟨hp25, hy25⟩ := ix_some hx20;obtain ⟨cs25, hr25, he25⟩ := (h0.mono le11).el hy25;obtain rfl := hr25;replace he25 : Elf _ _ 1 _ _ := he25;have hi25 := he25.ixd;refine qi Tryz.underlying72 Ty.size3 hi25 hp25 ?_;refine qr (O_ld1 0 Ty.cell3 rfl (he25.mono hS11.agree) (by omega) rfl) ?_;refine qr (O_bin rfl rfl (bI_bits (.inl rfl))) ?_;refine xm (E_bs (t := tI) (vs := [.i .i64 (bits .and .i64 x20 1)]) (xs := [bits .and .i64 x20 1]) Tryz.underlying72 Ty.row3 rfl ⟨rfl, trivial⟩ rfl rfl hS11) ?_;rintro u22 w22 hS22;refine xm (E_app (t := tI) 1 Tryz.underlying72 Ty.row3 Ty.zk72 rfl rfl hS22 rfl (hS22.rowSrc (k := 0) rfl) hl23) ?_;rintro v24 w24 hS24;refine qc ?_;refine W_nil ?_;refine N_block ?_;refine N_code ?_;refine qd ?_;refine q3 ?_;refine W_nil ?_;exact N_againM (l23, wr (i15 + 1)) _ H ⟨F11, v24, rfl, le11, hS24.pick [1] (by decide)⟩ ⟨rfl, rfl, rfl, trivial⟩
   ·rw [if_f hc19] at H;refine C_exit _ rfl ?_;exact N_join _ ⟨l12, H, ⟨F11, u13, rfl, le11, hS11⟩⟩ ⟨rfl, trivial⟩
 ·rintro E w1 ⟨l2, H, F1, u3, rfl, le1, hS1⟩;dsimp only [cellarerlaw19_Pools.k1] at H;refine C_seq_join (fun E wq => ∃ l6 : List Int, cellarerlaw19_Pools.k2 l6 = some r ∧ ∃ (F5 : Frz) (u7 : Val), E = [(3, u7)] ∧ F1.le F5 ∧ St [] w F F5 [.row tI u7 l6] wq) ?_ ?_
  ·refine qs ?_;refine qc ?_;refine qr (O_len Tryz.underlying72 rfl (hS1.rowLn (k := 0) rfl)) ?_;refine qr (O_bin rfl rfl bI_eql) ?_;refine qn ?_;refine C_cond rfl (fun hc9 => ?_) (fun hc9 => ?_)
   ·rw [if_t hc9] at H;refine qd ?_;refine xm (E_bs (t := tI) (vs := [.i .i64 0]) (xs := [0]) Tryz.underlying72 Ty.row3 rfl ⟨rfl, trivial⟩ rfl rfl hS1) ?_;rintro u10 w10 hS10;refine qc ?_;refine W_nil ?_;exact N_join _ ⟨[0], H, ⟨F1, u10, rfl, (Frz.le.refl _), hS10.pick [0] (by decide)⟩⟩ ⟨rfl, trivial⟩
   ·rw [if_f hc9] at H;refine C_skip ?_;exact N_join _ ⟨l2, H, ⟨F1, u3, rfl, (Frz.le.refl _), hS1⟩⟩ ⟨rfl, trivial⟩
  ·rintro E w5 ⟨l6, H, F5, u7, rfl, le5, hS5⟩;dsimp only [cellarerlaw19_Pools.k2] at H;refine qs ?_;refine qc ?_;refine qm ?_;obtain rfl := oi H;refine C_ret rfl rfl ?_;exact ⟨F5, u7, rfl, hS5⟩
def catalog_in (x0 : Int) (x1 : Int) (x2 : Int) : Option Bool :=
  some (decide (x1 ≤ x0) && decide (x0 ≤ x2))
set_option maxRecDepth 100000 in
theorem catalog_in_ok {K : Tb} {F : Frz} {w : Hp} {x0 : Int} {x1 : Int} {x2 : Int} {r : Bool} (hA : Gd F w) (H : catalog_in x0 x1 x2 = some r) : Ret Tryz.prog K 76 [.i .i64 x0, .i .i64 x1, .i .i64 x2] w fun v w' => ∃ (F' : Frz), v = .b r ∧ St [] w F F' [] w' := by
 refine qa3 Tryz.func76 ?_;have hS := St.start hA;dsimp only [catalog_in] at H;refine qs ?_;refine qm ?_;refine qs ?_;refine q2 ?_;refine qr (O_bin rfl rfl bI_geq) ?_;refine qc ?_;refine W_gs (v := .i .i64 x0) rfl rfl rfl rfl (fun ⟨hb1, _⟩ => ?_) ?_
 ·rw [hb1];intro hK;refine qc ?_;exact hK
 refine W_gs (v := .i .i64 x2) rfl rfl rfl rfl (fun ⟨hb2, _⟩ => ?_) ?_
 ·rw [hb2];intro hK;refine qc ?_;exact hK
 refine W_gs (v := .b (decide (x0 ≤ x2))) rfl rfl rfl rfl (fun ⟨hb3, _⟩ => ?_) ?_
 ·rw [hb3];intro hK;refine qr (O_bin rfl rfl bI_leq) ?_;exact hK
 refine W_pkA rfl rfl rfl rfl rfl (fun hc => by rw [hc]; rfl) rfl ?_;refine qm ?_;obtain rfl := oi H;refine C_ret rfl rfl ?_;exact ⟨F, rfl, hS⟩
def catalog_New.k1 (l16 : List Vol) : Option (Catalog × Int) :=
  some ((Catalog.mk 0 [] [] [] l16), 0)
def catalog_New.l2 (x0 : List Int) (rec31 : (Int × (List Vol)) → Option (Catalog × Int)) : (Int × (List Vol)) → Option (Catalog × Int)
  | (i27, l28) =>
    if decide (i27 < (x0.length : Int)) then
      bd (ix x0 i27) fun x33 =>
      bd (catalog_in x33 0 1) fun r36 =>
      if (!r36) then
        some ((Catalog.mk 0 [] [] [] []), 1)
      else
        bd (app (α := Vol) l28 [(Vol.mk x33 0 1 0)]) fun l49 =>
        rec31 (wr (i27 + 1), l49)
    else
      catalog_New.k1 l28
def catalog_New (x0 : List Int) : Option (Catalog × Int) :=
  bd (catalog_in (x0.length : Int) 1 8) fun r2 =>
  if (!r2) then
    some ((Catalog.mk 0 [] [] [] []), 2)
  else
    loop (catalog_New.l2 x0) (0, [])
set_option maxRecDepth 100000 in
theorem catalog_New_ok {K : Tb} {F : Frz} {w : Hp} {x0 : List Int} {r : Catalog × Int} {v0 : Val} (hA : Gd F w) (h0 : SlF tI F v0 x0) (H : catalog_New x0 = some r) : Ret Tryz.prog K 38 [v0] w fun v w' => ∃ (F' : Frz) (q0_0 : Val) (q0_1 : Val) (q0_2 : Val) (q0_3 : Val), v = .tup [.agg (Catalog.cells r.1 q0_0 q0_1 q0_2 q0_3), .i .i64 r.2] ∧ St [] w F F' [.row Snap.t q0_0 (r.1.snaps), .row Chunk.t q0_1 (r.1.chunks), .row Exp.t q0_2 (r.1.exps), .row Vol.t q0_3 (r.1.vols)] w' := by
 refine qa1 Tryz.func38 ?_;have hS := St.start hA;dsimp only [catalog_New] at H;refine qs ?_;refine xm (E_alc (cs := [.i .i64 0, .sl none 0 (.k 0), .sl none 0 (.k 0), .sl none 0 (.k 0), .sl none 0 (.k 0)]) Ty.zero38 rfl hS) ?_;rintro _ w1 ⟨g1, rfl, hS1⟩;refine qm ?_;refine C_seq ?_;refine C_seq ?_;obtain ⟨r2, hr2, H⟩ := bd_some H;refine qd ?_;refine qc ?_;refine qr (O_len Tryz.underlying72 rfl h0.ln) ?_;refine lm (catalog_in_ok hS1.good hr2) ?_;rintro v3 w3 ⟨Fr2, rfl, hT3⟩;have hS3 := hS1.lent hT3;refine qm ?_;refine C_cond rfl (fun hc4 => ?_) (fun hc4 => ?_)
 ·rw [if_t hc4] at H;refine qs ?_;refine W_c (v := .agg (Catalog.cells (Catalog.mk 0 [] [] [] []) (.sl none 0 (.k 0)) (.sl none 0 (.k 0)) (.sl none 0 (.k 0)) (.sl none 0 (.k 0)))) rfl rfl rfl rfl (fun _ => rfl) ?_;refine um (E_bst (c := [.i .i64 0, .sl none 0 (.k 0), .sl none 0 (.k 0), .sl none 0 (.k 0), .sl none 0 (.k 0)]) 0 ([.i .i64 0, .sl none 0 (.k 0), .sl none 0 (.k 0), .sl none 0 (.k 0), .sl none 0 (.k 0)]) rfl rfl hS3 rfl rfl Ty.size38 rfl rfl rfl) ?_;rintro _ w5 hS5;refine qm ?_;have hS7 := hS5.nilRow Snap.t;have hS9 := hS7.nilRow Chunk.t;have hS11 := hS9.nilRow Exp.t;have hS13 := hS11.nilRow Vol.t;obtain rfl := oi H;refine C_retM (vs := [.agg (Catalog.cells (Catalog.mk 0 [] [] [] []) (.sl none 0 (.k 0)) (.sl none 0 (.k 0)) (.sl none 0 (.k 0)) (.sl none 0 (.k 0))), .i .i64 2]) rfl ⟨(box_out 4 Ty.agg38 Ty.size38 hS13 rfl rfl), rfl, trivial⟩ ?_;exact ⟨F, (.sl none 0 (.k 0)), (.sl none 0 (.k 0)), (.sl none 0 (.k 0)), (.sl none 0 (.k 0)), rfl, hS13.pick [3, 2, 1, 0] (by decide)⟩
 ·rw [if_f hc4] at H;refine qk ?_;refine qs ?_;refine xm (E_alc (cs := [.i .i64 0, .sl none 0 (.k 0), .sl none 0 (.k 0), .sl none 0 (.k 0), .sl none 0 (.k 0)]) Ty.zero38 rfl hS3) ?_;rintro _ w14 ⟨g14, rfl, hS14⟩;refine qn ?_;refine C_seq_join (fun E wq => ∃ l16 : List Vol, catalog_New.k1 l16 = some r ∧ ∃ (F15 : Frz) (u17 : Val), E = [(2, pl g1 0), (4, pl g14 0)] ∧ F.le F15 ∧ St [] w F F15 [.box g14 [.i .i64 0, .sl none 0 (.k 0), .sl none 0 (.k 0), .sl none 0 (.k 0), u17], .box g1 [.i .i64 0, .sl none 0 (.k 0), .sl none 0 (.k 0), .sl none 0 (.k 0), .sl none 0 (.k 0)], .row Vol.t u17 l16] wq) ?_ ?_
  ·refine qs ?_;refine qc ?_;refine qr (O_len Tryz.underlying72 rfl h0.ln) ?_;refine qm ?_;refine C_block ?_;refine C_loopM (fun (s : Int × (List Vol)) E wq => ∃ (F26 : Frz) (u29 : Val), E = [(2, pl g1 0), (4, pl g14 0), (12, v0), (13, .i .i64 (x0.length : Int)), (14, .i .i64 s.1)] ∧ F.le F26 ∧ St [] w F F26 [.box g14 [.i .i64 0, .sl none 0 (.k 0), .sl none 0 (.k 0), .sl none 0 (.k 0), u29], .box g1 [.i .i64 0, .sl none 0 (.k 0), .sl none 0 (.k 0), .sl none 0 (.k 0), .sl none 0 (.k 0)], .row Vol.t u29 s.2] wq) H ?_ ?_
   ·have hS53 := hS14.nilRow Vol.t;exact ⟨_, ⟨F, (.sl none 0 (.k 0)), rfl, (Frz.le.refl _), hS53.pick [1, 2, 0] (by decide)⟩, ⟨rfl, rfl, rfl, rfl, rfl, trivial⟩⟩
   ·rintro rec31 ⟨i27, l28⟩ E w26 hI H
    try dsimp only at hI
    obtain ⟨F26, u29, rfl, le26, hS26⟩ := hI;dsimp only [catalog_New.l2] at H;refine qs ?_;refine qr (O_bin rfl rfl bI_lss) ?_;refine qn ?_;refine C_seq ?_;refine C_cond rfl (fun hc32 => ?_) (fun hc32 => ?_)
    ·rw [if_t hc32] at H;refine qk ?_;refine C_seq ?_;refine C_block ?_;refine C_seq ?_;obtain ⟨x33, hx33, H⟩ := bd_some H;refine qd ?_;obtain ⟨hp35, hy35⟩ := ix_some hx33;obtain ⟨cs35, hr35, he35⟩ := (h0.mono le26).el hy35;obtain rfl := hr35;replace he35 : Elf _ _ 1 _ _ := he35;have hi35 := he35.ixd;refine qi Tryz.underlying72 Ty.size3 hi35 hp35 ?_;refine qr (O_ld1 0 Ty.cell3 rfl (he35.mono hS26.agree) (by omega) rfl) ?_;refine qm ?_;refine C_seq ?_;refine C_seq ?_;obtain ⟨r36, hr36, H⟩ := bd_some H;refine qd ?_;refine qc ?_;refine lm (catalog_in_ok hS26.good hr36) ?_;rintro v37 w37 ⟨Fr36, rfl, hT37⟩;have hS37 := hS26.lent hT37;refine qm ?_;refine C_cond rfl (fun hc38 => ?_) (fun hc38 => ?_)
     ·rw [if_t hc38] at H;refine qs ?_;refine W_c (v := .agg (Catalog.cells (Catalog.mk 0 [] [] [] []) (.sl none 0 (.k 0)) (.sl none 0 (.k 0)) (.sl none 0 (.k 0)) (.sl none 0 (.k 0)))) rfl rfl rfl rfl (fun _ => rfl) ?_;refine um (E_bst (c := [.i .i64 0, .sl none 0 (.k 0), .sl none 0 (.k 0), .sl none 0 (.k 0), .sl none 0 (.k 0)]) 1 ([.i .i64 0, .sl none 0 (.k 0), .sl none 0 (.k 0), .sl none 0 (.k 0), .sl none 0 (.k 0)]) rfl rfl hS37 rfl rfl Ty.size38 rfl rfl rfl) ?_;rintro _ w39 hS39;refine qm ?_;have hS41 := hS39.nilRow Snap.t;have hS43 := hS41.nilRow Chunk.t;have hS45 := hS43.nilRow Exp.t;have hS47 := hS45.nilRow Vol.t;obtain rfl := oi H;refine C_retM (vs := [.agg (Catalog.cells (Catalog.mk 0 [] [] [] []) (.sl none 0 (.k 0)) (.sl none 0 (.k 0)) (.sl none 0 (.k 0)) (.sl none 0 (.k 0))), .i .i64 1]) rfl ⟨(box_out 5 Ty.agg38 Ty.size38 hS47 rfl rfl), rfl, trivial⟩ ?_;exact ⟨F26, (.sl none 0 (.k 0)), (.sl none 0 (.k 0)), (.sl none 0 (.k 0)), (.sl none 0 (.k 0)), rfl, hS47.pick [3, 2, 1, 0] (by decide)⟩
     ·rw [if_f hc38] at H;refine qk ?_;obtain ⟨l49, hl49, H⟩ := bd_some H;refine qd ?_;refine qf Ty.field38_4 ?_;refine qb 0 Ty.cell33 hS37 ?_;refine qc ?_;refine W_c (v := .agg (Vol.cells (Vol.mk x33 0 1 0))) rfl rfl rfl rfl (fun _ => rfl) ?_;refine xm (E_bs (t := Vol.t) (vs := [.agg (Vol.cells (Vol.mk x33 0 1 0))]) (xs := [(Vol.mk x33 0 1 0)]) Tryz.underlying33 Ty.row32 rfl ⟨rfl, trivial⟩ rfl rfl hS37) ?_;rintro u48 w48 hS48;refine xm (E_app (t := Vol.t) 3 Tryz.underlying33 Ty.row32 Ty.zk33 rfl rfl hS48 rfl (hS48.rowSrc (k := 0) rfl) hl49) ?_;rintro v50 w50 hS50;refine qf Ty.field38_4 ?_;refine um (E_bst (c := [v50]) 1 ([.i .i64 0, .sl none 0 (.k 0), .sl none 0 (.k 0), .sl none 0 (.k 0), v50]) rfl rfl hS50 rfl (hS50.rowLn (k := 3) rfl).cells Ty.size33 (by simp only [List.all_cons, List.all_nil, List.all_append, (hS50.rowLn (k := 3) rfl).one]; rfl) rfl rfl) ?_;rintro _ w51 hS51;refine W_nil ?_;refine N_block ?_;refine N_code ?_;refine qd ?_;refine q2 ?_;refine W_nil ?_;exact N_againM (wr (i27 + 1), l49) _ H ⟨F26, v50, rfl, le26, hS51.pick [1, 2, 3] (by decide)⟩ ⟨rfl, rfl, rfl, rfl, rfl, trivial⟩
    ·rw [if_f hc32] at H;refine C_exit _ rfl ?_;exact N_join _ ⟨l28, H, ⟨F26, u29, rfl, le26, hS26⟩⟩ ⟨rfl, rfl, trivial⟩
  ·rintro E w15 ⟨l16, H, F15, u17, rfl, le15, hS15⟩;dsimp only [catalog_New.k1] at H;refine qs ?_;refine qr (O_bldg 0 (Catalog.cells (Catalog.mk 0 [] [] [] l16) (.sl none 0 (.k 0)) (.sl none 0 (.k 0)) (.sl none 0 (.k 0)) u17) Ty.agg38 Ty.size38 (Nat.zero_lt_succ _) rfl hS15 rfl (fun q u h => sub_at (post := []) rfl h)) ?_;refine um (E_bst (c := [.i .i64 0, .sl none 0 (.k 0), .sl none 0 (.k 0), .sl none 0 (.k 0), u17]) 1 ([.i .i64 0, .sl none 0 (.k 0), .sl none 0 (.k 0), .sl none 0 (.k 0), u17]) rfl rfl hS15 rfl rfl Ty.size38 (by simp only [List.all_cons, List.all_nil, List.all_append, (hS15.rowLn (k := 2) rfl).one]; rfl) rfl rfl) ?_;rintro _ w19 hS19;refine qm ?_;have hS21 := hS19.nilRow Snap.t;have hS23 := hS21.nilRow Chunk.t;have hS25 := hS23.nilRow Exp.t;obtain rfl := oi H;refine C_retM (vs := [.agg (Catalog.cells (Catalog.mk 0 [] [] [] l16) (.sl none 0 (.k 0)) (.sl none 0 (.k 0)) (.sl none 0 (.k 0)) u17), .i .i64 0]) rfl ⟨(box_out 4 Ty.agg38 Ty.size38 hS25 rfl rfl), rfl, trivial⟩ ?_;exact ⟨F15, (.sl none 0 (.k 0)), (.sl none 0 (.k 0)), (.sl none 0 (.k 0)), u17, rfl, hS25.pick [2, 1, 0, 5] (by decide)⟩
def slices_Clone_api_Vol_api_Vol (x0 : List Vol) : Option (List Vol) :=
  bd (app (α := Vol) ([] : List Vol) x0) fun l6 =>
  some l6
set_option maxRecDepth 100000 in
theorem slices_Clone_api_Vol_api_Vol_ok {K : Tb} {F : Frz} {w : Hp} {x0 : List Vol} {r : (List Vol)} {v0 : Val} (hA : Gd F w) (h0 : SlF Vol.t F v0 x0) (H : slices_Clone_api_Vol_api_Vol x0 = some r) : Ret Tryz.prog K 42 [v0] w fun v w' => ∃ (F' : Frz) (q0 : Val), v = q0 ∧ St [] w F F' [.row Vol.t q0 (r)] w' := by
 refine qa1 Tryz.func42 ?_;have hS := St.start hA;dsimp only [slices_Clone_api_Vol_api_Vol] at H;refine qs ?_;refine qm ?_;refine C_seq ?_;refine qs ?_;refine qc ?_;refine W_nilq rfl rfl rfl rfl Tryz.underlying33 rfl rfl h0.ln ?_;intro b1 hb1;refine qn ?_;refine C_cond rfl (fun hc2 => ?_) (fun hc2 => ?_)
 ·have hx2 : x0 = [] := List.eq_nil_of_length_eq_zero (hb1 hc2);have H : (some [] : Option (List Vol)) = some r := by first | (rw [hx2] at H; exact H) | (subst hx2; exact H)
  refine qs ?_;refine qm ?_;have hS4 := hS.nilRow Vol.t;obtain rfl := oi H;refine C_ret rfl rfl ?_;exact ⟨F, (.sl none 0 (.k 0)), rfl, hS4⟩
 ·refine qk ?_;refine C_seq ?_;obtain ⟨l6, hl6, H⟩ := bd_some H;refine qd ?_;refine xm (E_bs (t := Vol.t) (vs := []) (xs := ([] : List Vol)) Tryz.underlying33 Ty.row32 rfl trivial rfl rfl hS) ?_;rintro u5 w5 hS5;refine qc ?_;refine xm (E_app (t := Vol.t) 0 Tryz.underlying33 Ty.row32 Ty.zk33 rfl rfl hS5 rfl (h0.src hS5.agree) hl6) ?_;rintro v7 w7 hS7;refine qm ?_;obtain rfl := oi H;refine C_ret rfl rfl ?_;exact ⟨F, v7, rfl, hS7⟩
def slices_Grow_byte_byte.k2 (l3 : List UInt8) : Option (List UInt8) :=
  some l3
def slices_Grow_byte_byte.k1 (x1 : Int) : Option (List UInt8) :=
  if decide (0 < wr (x1 - wr (0 - 0))) then
    bd (appZ (α := UInt8) [] (wr (x1 - wr (0 - 0))) 0) fun l7 =>
    bd (cut (α := UInt8) l7 0 0) fun l9 =>
    bd (nz l7) fun _ =>
    slices_Grow_byte_byte.k2 l9
  else
    slices_Grow_byte_byte.k2 []
def slices_Grow_byte_byte (x1 : Int) : Option (List UInt8) :=
  if decide (x1 < 0) then
    none
  else
    slices_Grow_byte_byte.k1 x1
set_option maxRecDepth 100000 in
theorem slices_Grow_byte_byte_ok {K : Tb} {F : Frz} {w : Hp} {x1 : Int} {r : (List UInt8)} (hA : Gd F w) (H : slices_Grow_byte_byte x1 = some r) : Ret Tryz.prog K 162 [.sl none 0 (.k 0), .i .i64 x1] w fun v w' => ∃ (F' : Frz) (q0 : Val), v = q0 ∧ St [] w F F' [.row tB q0 (r)] w' := by
 refine qa2 Tryz.func162 ?_;have hS := St.start hA;dsimp only [slices_Grow_byte_byte] at H;refine qs ?_;refine qm ?_;refine C_seq_join (fun E wq => slices_Grow_byte_byte.k1 x1 = some r ∧ ∃ (F1 : Frz), E = [(0, .sl none 0 (.k 0)), (1, .i .i64 x1)] ∧ F.le F1 ∧ St [] w F F1 [] wq) ?_ ?_
 ·refine qs ?_;refine qc ?_;refine qr (O_bin rfl rfl bI_lss) ?_;refine qn ?_;refine C_cond rfl (fun hc15 => ?_) (fun hc15 => ?_)
  ·rw [if_t hc15] at H
   cases H
  ·rw [if_f hc15] at H;refine C_skip ?_;exact N_join _ ⟨H, ⟨F, rfl, (Frz.le.refl _), hS⟩⟩ ⟨rfl, rfl, trivial⟩
 ·rintro E w1 ⟨H, F1, rfl, le1, hS1⟩;dsimp only [slices_Grow_byte_byte.k1] at H;refine C_seq_join (fun E wq => ∃ l3 : List UInt8, slices_Grow_byte_byte.k2 l3 = some r ∧ ∃ (F2 : Frz) (u4 : Val), E = [(0, u4)] ∧ F1.le F2 ∧ St [] w F F2 [.row tB u4 l3] wq) ?_ ?_
  ·refine qs ?_;refine q2 ?_;refine qr (O_cap0 Tryz.underlying47 rfl) ?_;refine qc ?_;refine qr (O_len0 Tryz.underlying47 rfl) ?_;refine q2 ?_;refine qm ?_;refine qs ?_;refine qc ?_;refine qr (O_bin rfl rfl bI_gtr) ?_;refine qn ?_;refine C_cond rfl (fun hc6 => ?_) (fun hc6 => ?_)
   ·rw [if_t hc6] at H;obtain ⟨l7, hl7, H⟩ := bd_some H;obtain ⟨l9, hl9, H⟩ := bd_some H;refine qd ?_;refine q2 ?_;refine qr (O_cap0 Tryz.underlying47 rfl) ?_;refine qr (O_slN Tryz.underlying47 Ty.size5 rfl (.inl ⟨rfl, rfl⟩) (.inr ⟨_, _, rfl, rfl⟩)) ?_;refine qc ?_;have hS11 := hS1.nilRow tB;refine xm (E_appZ (t := tB) (d := 0) 0 Tryz.underlying47 Ty.row5 Ty.zkt3 (zero_rel Ty.zero5 rfl) rfl rfl hS11 rfl hl7) ?_;rintro v8 w8 hS8;refine qc ?_;refine qr (O_len0 Tryz.underlying47 rfl) ?_;refine W_cutR 0 0 0 rfl rfl rfl rfl Tryz.underlying47 Ty.size5 rfl (.inl ⟨rfl, rfl⟩) (.inr ⟨_, _, rfl, rfl⟩) hS8 rfl hl9 ?_;intro q10 hv10 hw10;refine qc ?_;refine W_nil ?_;obtain ⟨_, hnz12, H⟩ := bd_some H;have hS12 := hS8.shrink 0 rfl hw10 hl9 hnz12;exact N_join _ ⟨l9, H, ⟨F1, q10, rfl, (Frz.le.refl _), hS12⟩⟩ ⟨rfl, trivial⟩
   ·rw [if_f hc6] at H;refine C_skip ?_;have hS14 := hS1.nilRow tB;exact N_join _ ⟨[], H, ⟨F1, (.sl none 0 (.k 0)), rfl, (Frz.le.refl _), hS14⟩⟩ ⟨rfl, trivial⟩
  ·rintro E w2 ⟨l3, H, F2, u4, rfl, le2, hS2⟩;dsimp only [slices_Grow_byte_byte.k2] at H;refine qs ?_;refine qc ?_;refine qm ?_;obtain rfl := oi H;refine C_ret rfl rfl ?_;exact ⟨F2, u4, rfl, hS2⟩
def slices_Concat_byte_byte.k2 (l6 : List UInt8) : Option (List UInt8) :=
  some l6
def slices_Concat_byte_byte.l3 (x0 : List (List UInt8)) (rec12 : (Int × (List UInt8)) → Option (List UInt8)) : (Int × (List UInt8)) → Option (List UInt8)
  | (i9, l10) =>
    if decide (i9 < (x0.length : Int)) then
      bd (ix x0 i9) fun x14 =>
      bd (app (α := UInt8) l10 x14) fun l17 =>
      rec12 (wr (i9 + 1), l17)
    else
      slices_Concat_byte_byte.k2 l10
def slices_Concat_byte_byte.k1 (x0 : List (List UInt8)) (i2 : Int) : Option (List UInt8) :=
  bd (slices_Grow_byte_byte i2) fun r3 =>
  loop (slices_Concat_byte_byte.l3 x0) (0, r3)
def slices_Concat_byte_byte.k5 (i21 : Int) (rec22 : (Int × Int) → Option (List UInt8)) (i25 : Int) : Option (List UInt8) :=
  rec22 (i25, wr (i21 + 1))
def slices_Concat_byte_byte.l4 (x0 : List (List UInt8)) (rec22 : (Int × Int) → Option (List UInt8)) : (Int × Int) → Option (List UInt8)
  | (i20, i21) =>
    if decide (i21 < (x0.length : Int)) then
      bd (ix x0 i21) fun x26 =>
      if decide (wr (i20 + (x26.length : Int)) < 0) then
        none
      else
        slices_Concat_byte_byte.k5 i21 rec22 (wr (i20 + (x26.length : Int)))
    else
      slices_Concat_byte_byte.k1 x0 i20
def slices_Concat_byte_byte (x0 : List (List UInt8)) : Option (List UInt8) :=
  loop (slices_Concat_byte_byte.l4 x0) (0, 0)
set_option maxRecDepth 100000 in
theorem slices_Concat_byte_byte_ok {K : Tb} {F : Frz} {w : Hp} {x0 : List (List UInt8)} {r : (List UInt8)} {v0 : Val} (hA : Gd F w) (h0 : SlF (tSl tB) F v0 x0) (H : slices_Concat_byte_byte x0 = some r) : Ret Tryz.prog K 129 [v0] w fun v w' => ∃ (F' : Frz) (q0 : Val), v = q0 ∧ St [] w F F' [.row tB q0 (r)] w' := by
 refine qa1 Tryz.func129 ?_;have hS := St.start hA;dsimp only [slices_Concat_byte_byte] at H;refine qs ?_;refine qm ?_;refine qs ?_;refine qm ?_;refine C_seq_join (fun E wq => ∃ i2 : Int, slices_Concat_byte_byte.k1 x0 i2 = some r ∧ ∃ (F1 : Frz), E = [(0, v0), (3, .i .i64 i2)] ∧ F.le F1 ∧ St [] w F F1 [] wq) ?_ ?_
 ·refine qs ?_;refine qc ?_;refine qr (O_len Tryz.underlying95 rfl h0.ln) ?_;refine qm ?_;refine C_block ?_;refine C_loopM (fun (s : Int × Int) E wq => ∃ (F19 : Frz), E = [(0, v0), (3, .i .i64 s.1), (9, v0), (10, .i .i64 (x0.length : Int)), (11, .i .i64 s.2)] ∧ F.le F19 ∧ St [] w F F19 [] wq) H ?_ ?_
  ·exact ⟨_, ⟨F, rfl, (Frz.le.refl _), hS⟩, ⟨rfl, rfl, rfl, rfl, rfl, trivial⟩⟩
  ·rintro rec22 ⟨i20, i21⟩ E w19 hI H
   try dsimp only at hI
   obtain ⟨F19, rfl, le19, hS19⟩ := hI;dsimp only [slices_Concat_byte_byte.l4] at H;refine qs ?_;refine qr (O_bin rfl rfl bI_lss) ?_;refine qn ?_;refine C_seq ?_;refine C_cond rfl (fun hc23 => ?_) (fun hc23 => ?_)
   ·rw [if_t hc23] at H;refine qk ?_;refine C_seq_join (fun E wq => ∃ i25 : Int, slices_Concat_byte_byte.k5 i21 rec22 i25 = some r ∧ ∃ (F24 : Frz), E = [(0, v0), (3, .i .i64 i25), (9, v0), (10, .i .i64 (x0.length : Int)), (11, .i .i64 i21)] ∧ F19.le F24 ∧ St [] w F F24 [] wq) ?_ ?_
    ·refine C_block ?_;refine C_seq ?_;obtain ⟨x26, hx26, H⟩ := bd_some H;refine qd ?_;obtain ⟨hp28, hy28⟩ := ix_some hx26;obtain ⟨cs28, hr28, he28⟩ := (h0.mono le19).el hy28;obtain ⟨ue27, rfl, hue27⟩ := hr28;replace he28 : Elf _ _ 1 _ _ := he28;have hi28 := he28.ixd;refine qi Tryz.underlying95 Ty.size47 hi28 hp28 ?_;refine qr (O_ld1 0 Ty.cell47 rfl (he28.mono hS19.agree) (by omega) rfl) ?_;refine qm ?_;refine qs ?_;refine q2 ?_;refine qr (O_len Tryz.underlying47 rfl hue27.ln) ?_;refine qc ?_;refine qm ?_;refine qs ?_;refine qc ?_;refine qr (O_bin rfl rfl bI_lss) ?_;refine qn ?_;refine C_cond rfl (fun hc29 => ?_) (fun hc29 => ?_)
     ·rw [if_t hc29] at H
      cases H
     ·rw [if_f hc29] at H;refine C_skip ?_;refine N_block ?_;exact N_join _ ⟨wr (i20 + (x26.length : Int)), H, ⟨F19, rfl, (Frz.le.refl _), hS19⟩⟩ ⟨rfl, rfl, rfl, rfl, rfl, trivial⟩
    ·rintro E w24 ⟨i25, H, F24, rfl, le24, hS24⟩;dsimp only [slices_Concat_byte_byte.k5] at H;refine qd ?_;refine q2 ?_;refine W_nil ?_;exact N_againM (i25, wr (i21 + 1)) _ H ⟨F24, rfl, (le19.trans le24), hS24⟩ ⟨rfl, rfl, rfl, rfl, rfl, trivial⟩
   ·rw [if_f hc23] at H;refine C_exit _ rfl ?_;exact N_join _ ⟨i20, H, ⟨F19, rfl, le19, hS19⟩⟩ ⟨rfl, rfl, trivial⟩
 ·rintro E w1 ⟨i2, H, F1, rfl, le1, hS1⟩;dsimp only [slices_Concat_byte_byte.k1] at H;refine C_seq ?_;obtain ⟨r3, hr3, H⟩ := bd_some H;refine qd ?_;refine qc ?_;refine lm (slices_Grow_byte_byte_ok hS1.good hr3) ?_;rintro ur3_0 w4 ⟨Fr3, _, rfl, hT4⟩;have hS4 := hS1.call hT4;have ler3 := hT4.ext;refine qm ?_;refine C_seq_join (fun E wq => ∃ l6 : List UInt8, slices_Concat_byte_byte.k2 l6 = some r ∧ ∃ (F5 : Frz) (u7 : Val), E = [(6, u7)] ∧ Fr3.le F5 ∧ St [] w F F5 [.row tB u7 l6] wq) ?_ ?_
  ·refine qs ?_;refine qc ?_;refine qr (O_len Tryz.underlying95 rfl h0.ln) ?_;refine qm ?_;refine C_block ?_;refine C_loopM (fun (s : Int × (List UInt8)) E wq => ∃ (F8 : Frz) (u11 : Val), E = [(6, u11), (25, v0), (26, .i .i64 (x0.length : Int)), (27, .i .i64 s.1)] ∧ Fr3.le F8 ∧ St [] w F F8 [.row tB u11 s.2] wq) H ?_ ?_
   ·exact ⟨_, ⟨Fr3, ur3_0, rfl, (Frz.le.refl _), hS4⟩, ⟨rfl, rfl, rfl, rfl, trivial⟩⟩
   ·rintro rec12 ⟨i9, l10⟩ E w8 hI H
    try dsimp only at hI
    obtain ⟨F8, u11, rfl, le8, hS8⟩ := hI;dsimp only [slices_Concat_byte_byte.l3] at H;refine qs ?_;refine qr (O_bin rfl rfl bI_lss) ?_;refine qn ?_;refine C_seq ?_;refine C_cond rfl (fun hc13 => ?_) (fun hc13 => ?_)
    ·rw [if_t hc13] at H;refine qk ?_;refine C_seq ?_;refine C_block ?_;refine C_seq ?_;obtain ⟨x14, hx14, H⟩ := bd_some H;refine qd ?_;obtain ⟨hp16, hy16⟩ := ix_some hx14;obtain ⟨cs16, hr16, he16⟩ := (h0.mono ((le1.trans ler3).trans le8)).el hy16;obtain ⟨ue15, rfl, hue15⟩ := hr16;replace he16 : Elf _ _ 1 _ _ := he16;have hi16 := he16.ixd;refine qi Tryz.underlying95 Ty.size47 hi16 hp16 ?_;refine qr (O_ld1 0 Ty.cell47 rfl (he16.mono hS8.agree) (by omega) rfl) ?_;refine qm ?_;obtain ⟨l17, hl17, H⟩ := bd_some H;refine qd ?_;refine q2 ?_;refine xm (E_app (t := tB) 0 Tryz.underlying47 Ty.row5 Ty.zk47 rfl rfl hS8 rfl (hue15.src hS8.agree) hl17) ?_;rintro v18 w18 hS18;refine qc ?_;refine W_nil ?_;refine N_block ?_;refine N_code ?_;refine qd ?_;refine q2 ?_;refine W_nil ?_;exact N_againM (wr (i9 + 1), l17) _ H ⟨F8, v18, rfl, le8, hS18⟩ ⟨rfl, rfl, rfl, rfl, trivial⟩
    ·rw [if_f hc13] at H;refine C_exit _ rfl ?_;exact N_join _ ⟨l10, H, ⟨F8, u11, rfl, le8, hS8⟩⟩ ⟨rfl, trivial⟩
  ·rintro E w5 ⟨l6, H, F5, u7, rfl, le5, hS5⟩;dsimp only [slices_Concat_byte_byte.k2] at H;refine qs ?_;refine qc ?_;refine qm ?_;obtain rfl := oi H;refine C_ret rfl rfl ?_;exact ⟨F5, u7, rfl, hS5⟩
def sha_rounds : Option (List UInt32) :=
  some [(1116352408 : UInt32), (1899447441 : UInt32), (3049323471 : UInt32), (3921009573 : UInt32), (961987163 : UInt32), (1508970993 : UInt32), (2453635748 : UInt32), (2870763221 : UInt32), (3624381080 : UInt32), (310598401 : UInt32), (607225278 : UInt32), (1426881987 : UInt32), (1925078388 : UInt32), (2162078206 : UInt32), (2614888103 : UInt32), (3248222580 : UInt32), (3835390401 : UInt32), (4022224774 : UInt32), (264347078 : UInt32), (604807628 : UInt32), (770255983 : UInt32), (1249150122 : UInt32), (1555081692 : UInt32), (1996064986 : UInt32), (2554220882 : UInt32), (2821834349 : UInt32), (2952996808 : UInt32), (3210313671 : UInt32), (3336571891 : UInt32), (3584528711 : UInt32), (113926993 : UInt32), (338241895 : UInt32), (666307205 : UInt32), (773529912 : UInt32), (1294757372 : UInt32), (1396182291 : UInt32), (1695183700 : UInt32), (1986661051 : UInt32), (2177026350 : UInt32), (2456956037 : UInt32), (2730485921 : UInt32), (2820302411 : UInt32), (3259730800 : UInt32), (3345764771 : UInt32), (3516065817 : UInt32), (3600352804 : UInt32), (4094571909 : UInt32), (275423344 : UInt32), (430227734 : UInt32), (506948616 : UInt32), (659060556 : UInt32), (883997877 : UInt32), (958139571 : UInt32), (1322822218 : UInt32), (1537002063 : UInt32), (1747873779 : UInt32), (1955562222 : UInt32), (2024104815 : UInt32), (2227730452 : UInt32), (2361852424 : UInt32), (2428436474 : UInt32), (2756734187 : UInt32), (3204031479 : UInt32), (3329325298 : UInt32)]
set_option maxRecDepth 100000 in
theorem sha_rounds_ok {K : Tb} {F : Frz} {w : Hp} {r : (List UInt32)} (hA : Gd F w) (H : sha_rounds = some r) : Ret Tryz.prog K 130 [] w fun v w' => ∃ (F' : Frz) (q0 : Val), v = q0 ∧ St [] w F F' [.row tW q0 (r)] w' := by
 refine Ret_of (args := []) Tryz.func130 rfl (by decide) rfl ?_;change C _ _ _ _ _ [] _;have hS := St.start hA;dsimp only [sha_rounds] at H;refine qs ?_;refine qm ?_;refine qs ?_;refine xm (E_bs (t := tW) (vs := [.i .u32 ((1116352408 : UInt32).toNat : Int), .i .u32 ((1899447441 : UInt32).toNat : Int), .i .u32 ((3049323471 : UInt32).toNat : Int), .i .u32 ((3921009573 : UInt32).toNat : Int), .i .u32 ((961987163 : UInt32).toNat : Int), .i .u32 ((1508970993 : UInt32).toNat : Int), .i .u32 ((2453635748 : UInt32).toNat : Int), .i .u32 ((2870763221 : UInt32).toNat : Int), .i .u32 ((3624381080 : UInt32).toNat : Int), .i .u32 ((310598401 : UInt32).toNat : Int), .i .u32 ((607225278 : UInt32).toNat : Int), .i .u32 ((1426881987 : UInt32).toNat : Int), .i .u32 ((1925078388 : UInt32).toNat : Int), .i .u32 ((2162078206 : UInt32).toNat : Int), .i .u32 ((2614888103 : UInt32).toNat : Int), .i .u32 ((3248222580 : UInt32).toNat : Int), .i .u32 ((3835390401 : UInt32).toNat : Int), .i .u32 ((4022224774 : UInt32).toNat : Int), .i .u32 ((264347078 : UInt32).toNat : Int), .i .u32 ((604807628 : UInt32).toNat : Int), .i .u32 ((770255983 : UInt32).toNat : Int), .i .u32 ((1249150122 : UInt32).toNat : Int), .i .u32 ((1555081692 : UInt32).toNat : Int), .i .u32 ((1996064986 : UInt32).toNat : Int), .i .u32 ((2554220882 : UInt32).toNat : Int), .i .u32 ((2821834349 : UInt32).toNat : Int), .i .u32 ((2952996808 : UInt32).toNat : Int), .i .u32 ((3210313671 : UInt32).toNat : Int), .i .u32 ((3336571891 : UInt32).toNat : Int), .i .u32 ((3584528711 : UInt32).toNat : Int), .i .u32 ((113926993 : UInt32).toNat : Int), .i .u32 ((338241895 : UInt32).toNat : Int), .i .u32 ((666307205 : UInt32).toNat : Int), .i .u32 ((773529912 : UInt32).toNat : Int), .i .u32 ((1294757372 : UInt32).toNat : Int), .i .u32 ((1396182291 : UInt32).toNat : Int), .i .u32 ((1695183700 : UInt32).toNat : Int), .i .u32 ((1986661051 : UInt32).toNat : Int), .i .u32 ((2177026350 : UInt32).toNat : Int), .i .u32 ((2456956037 : UInt32).toNat : Int), .i .u32 ((2730485921 : UInt32).toNat : Int), .i .u32 ((2820302411 : UInt32).toNat : Int), .i .u32 ((3259730800 : UInt32).toNat : Int), .i .u32 ((3345764771 : UInt32).toNat : Int), .i .u32 ((3516065817 : UInt32).toNat : Int), .i .u32 ((3600352804 : UInt32).toNat : Int), .i .u32 ((4094571909 : UInt32).toNat : Int), .i .u32 ((275423344 : UInt32).toNat : Int), .i .u32 ((430227734 : UInt32).toNat : Int), .i .u32 ((506948616 : UInt32).toNat : Int), .i .u32 ((659060556 : UInt32).toNat : Int), .i .u32 ((883997877 : UInt32).toNat : Int), .i .u32 ((958139571 : UInt32).toNat : Int), .i .u32 ((1322822218 : UInt32).toNat : Int), .i .u32 ((1537002063 : UInt32).toNat : Int), .i .u32 ((1747873779 : UInt32).toNat : Int), .i .u32 ((1955562222 : UInt32).toNat : Int), .i .u32 ((2024104815 : UInt32).toNat : Int), .i .u32 ((2227730452 : UInt32).toNat : Int), .i .u32 ((2361852424 : UInt32).toNat : Int), .i .u32 ((2428436474 : UInt32).toNat : Int), .i .u32 ((2756734187 : UInt32).toNat : Int), .i .u32 ((3204031479 : UInt32).toNat : Int), .i .u32 ((3329325298 : UInt32).toNat : Int)]) (xs := [(1116352408 : UInt32), (1899447441 : UInt32), (3049323471 : UInt32), (3921009573 : UInt32), (961987163 : UInt32), (1508970993 : UInt32), (2453635748 : UInt32), (2870763221 : UInt32), (3624381080 : UInt32), (310598401 : UInt32), (607225278 : UInt32), (1426881987 : UInt32), (1925078388 : UInt32), (2162078206 : UInt32), (2614888103 : UInt32), (3248222580 : UInt32), (3835390401 : UInt32), (4022224774 : UInt32), (264347078 : UInt32), (604807628 : UInt32), (770255983 : UInt32), (1249150122 : UInt32), (1555081692 : UInt32), (1996064986 : UInt32), (2554220882 : UInt32), (2821834349 : UInt32), (2952996808 : UInt32), (3210313671 : UInt32), (3336571891 : UInt32), (3584528711 : UInt32), (113926993 : UInt32), (338241895 : UInt32), (666307205 : UInt32), (773529912 : UInt32), (1294757372 : UInt32), (1396182291 : UInt32), (1695183700 : UInt32), (1986661051 : UInt32), (2177026350 : UInt32), (2456956037 : UInt32), (2730485921 : UInt32), (2820302411 : UInt32), (3259730800 : UInt32), (3345764771 : UInt32), (3516065817 : UInt32), (3600352804 : UInt32), (4094571909 : UInt32), (275423344 : UInt32), (430227734 : UInt32), (506948616 : UInt32), (659060556 : UInt32), (883997877 : UInt32), (958139571 : UInt32), (1322822218 : UInt32), (1537002063 : UInt32), (1747873779 : UInt32), (1955562222 : UInt32), (2024104815 : UInt32), (2227730452 : UInt32), (2361852424 : UInt32), (2428436474 : UInt32), (2756734187 : UInt32), (3204031479 : UInt32), (3329325298 : UInt32)]) Tryz.underlying192 Ty.row169 rfl (by exact ⟨rfl, ⟨rfl, ⟨rfl, ⟨rfl, ⟨rfl, ⟨rfl, ⟨rfl, ⟨rfl, ⟨rfl, ⟨rfl, ⟨rfl, ⟨rfl, ⟨rfl, ⟨rfl, ⟨rfl, ⟨rfl, ⟨rfl, ⟨rfl, ⟨rfl, ⟨rfl, ⟨rfl, ⟨rfl, ⟨rfl, ⟨rfl, ⟨rfl, ⟨rfl, ⟨rfl, ⟨rfl, ⟨rfl, ⟨rfl, ⟨rfl, ⟨rfl, ⟨rfl, ⟨rfl, ⟨rfl, ⟨rfl, ⟨rfl, ⟨rfl, ⟨rfl, ⟨rfl, ⟨rfl, ⟨rfl, ⟨rfl, ⟨rfl, ⟨rfl, ⟨rfl, ⟨rfl, ⟨rfl, ⟨rfl, ⟨rfl, ⟨rfl, ⟨rfl, ⟨rfl, ⟨rfl, ⟨rfl, ⟨rfl, ⟨rfl, ⟨rfl, ⟨rfl, ⟨rfl, ⟨rfl, ⟨rfl, ⟨rfl, ⟨rfl, trivial⟩⟩⟩⟩⟩⟩⟩⟩⟩⟩⟩⟩⟩⟩⟩⟩⟩⟩⟩⟩⟩⟩⟩⟩⟩⟩⟩⟩⟩⟩⟩⟩⟩⟩⟩⟩⟩⟩⟩⟩⟩⟩⟩⟩⟩⟩⟩⟩⟩⟩⟩⟩⟩⟩⟩⟩⟩⟩⟩⟩⟩⟩⟩⟩) rfl rfl hS) ?_
 rintro u1 w1 hS1;refine qm ?_;obtain rfl := oi H;refine C_ret rfl rfl ?_;exact ⟨F, u1, rfl, hS1⟩
def sha_padded.k2 (l11 : List UInt8) : Option (List UInt8) :=
  some l11
def sha_padded.l3 (x0 : List UInt8) (rec17 : (Int × (List UInt8)) → Option (List UInt8)) : (Int × (List UInt8)) → Option (List UInt8)
  | (i14, l15) =>
    if decide (0 ≤ i14) then
      bd (shrU (wu ((wu (x0.length : Int)) * 2 ^ (3 : Int).toNat)) (wr (8 * i14))) fun x19 =>
      bd (app (α := UInt8) l15 [(toB8 x19)]) fun l21 =>
      rec17 (wr (i14 - 1), l21)
    else
      sha_padded.k2 l15
def sha_padded.k1 (x0 : List UInt8) (l8 : List UInt8) : Option (List UInt8) :=
  loop (sha_padded.l3 x0) (7, l8)
def sha_padded.l4 (x0 : List UInt8) (rec27 : (List UInt8) → Option (List UInt8)) : (List UInt8) → Option (List UInt8)
  | l25 =>
    if decide ((l25.length : Int).tmod 64 ≠ 56) then
      bd (app (α := UInt8) l25 [(0 : UInt8)]) fun l30 =>
      rec27 l30
    else
      sha_padded.k1 x0 l25
def sha_padded (x0 : List UInt8) : Option (List UInt8) :=
  bd (app (α := UInt8) ([] : List UInt8) x0) fun l2 =>
  bd (app (α := UInt8) l2 [(128 : UInt8)]) fun l5 =>
  loop (sha_padded.l4 x0) l5
set_option maxRecDepth 100000 in
theorem sha_padded_ok {K : Tb} {F : Frz} {w : Hp} {x0 : List UInt8} {r : (List UInt8)} {v0 : Val} (hA : Gd F w) (h0 : SlF tB F v0 x0) (H : sha_padded x0 = some r) : Ret Tryz.prog K 131 [v0] w fun v w' => ∃ (F' : Frz) (q0 : Val), v = q0 ∧ St [] w F F' [.row tB q0 (r)] w' := by
 refine qa1 Tryz.func131 ?_;have hS := St.start hA;dsimp only [sha_padded] at H;refine qs ?_;refine qm ?_;refine C_seq ?_;obtain ⟨l2, hl2, H⟩ := bd_some H;obtain ⟨l5, hl5, H⟩ := bd_some H;refine qd ?_;refine xm (E_bs (t := tB) (vs := []) (xs := ([] : List UInt8)) Tryz.underlying47 Ty.row5 rfl trivial rfl rfl hS) ?_;rintro u1 w1 hS1;refine qc ?_;refine xm (E_app (t := tB) 0 Tryz.underlying47 Ty.row5 Ty.zk47 rfl rfl hS1 rfl (h0.src hS1.agree) hl2) ?_;rintro v3 w3 hS3;refine xm (E_bs (t := tB) (vs := [.i .u8 ((128 : UInt8).toNat : Int)]) (xs := [(128 : UInt8)]) Tryz.underlying47 Ty.row5 rfl ⟨rfl, trivial⟩ rfl rfl hS3) ?_;rintro u4 w4 hS4;refine xm (E_app (t := tB) 1 Tryz.underlying47 Ty.row5 Ty.zk47 rfl rfl hS4 rfl (hS4.rowSrc (k := 0) rfl) hl5) ?_;rintro v6 w6 hS6;refine qm ?_;refine C_seq_join (fun E wq => ∃ l8 : List UInt8, sha_padded.k1 x0 l8 = some r ∧ ∃ (F7 : Frz) (u9 : Val), E = [(0, v0), (3, u9)] ∧ F.le F7 ∧ St [] w F F7 [.row tB u9 l8] wq) ?_ ?_
 ·refine C_block ?_;refine C_loopM (fun (s : (List UInt8)) E wq => ∃ (F24 : Frz) (u26 : Val), E = [(0, v0), (3, u26)] ∧ F.le F24 ∧ St [] w F F24 [.row tB u26 s] wq) H ?_ ?_
  ·exact ⟨_, ⟨F, v6, rfl, (Frz.le.refl _), hS6.pick [1] (by decide)⟩, ⟨rfl, rfl, trivial⟩⟩
  ·rintro rec27 l25 E w24 hI H
   try dsimp only at hI
   obtain ⟨F24, u26, rfl, le24, hS24⟩ := hI;dsimp only [sha_padded.l4] at H;refine C_seq ?_;refine qs ?_;refine qc ?_;refine qr (O_len Tryz.underlying47 rfl (hS24.rowLn (k := 0) rfl)) ?_;refine qr (O_bin rfl rfl (by first | rfl | simp [binV, ibin])) ?_;refine qr (O_bin rfl rfl bI_neq) ?_;refine qn ?_;refine C_cond rfl (fun hc28 => ?_) (fun hc28 => ?_)
   ·rw [if_t hc28] at H;refine qk ?_;refine C_block ?_;obtain ⟨l30, hl30, H⟩ := bd_some H;refine qd ?_;refine qc ?_;refine xm (E_bs (t := tB) (vs := [.i .u8 ((0 : UInt8).toNat : Int)]) (xs := [(0 : UInt8)]) Tryz.underlying47 Ty.row5 rfl ⟨rfl, trivial⟩ rfl rfl hS24) ?_;rintro u29 w29 hS29;refine xm (E_app (t := tB) 1 Tryz.underlying47 Ty.row5 Ty.zk47 rfl rfl hS29 rfl (hS29.rowSrc (k := 0) rfl) hl30) ?_;rintro v31 w31 hS31;refine qc ?_;refine W_nil ?_;refine N_block ?_;exact N_againM l30 _ H ⟨F24, v31, rfl, le24, hS31.pick [1] (by decide)⟩ ⟨rfl, rfl, trivial⟩
   ·rw [if_f hc28] at H;refine C_exit _ rfl ?_;exact N_join _ ⟨l25, H, ⟨F24, u26, rfl, le24, hS24⟩⟩ ⟨rfl, rfl, trivial⟩
 ·rintro E w7 ⟨l8, H, F7, u9, rfl, le7, hS7⟩;dsimp only [sha_padded.k1] at H;refine qs ?_;refine qc ?_;refine qr (O_len Tryz.underlying47 rfl h0.ln) ?_;refine qr (O_conv Tryz.underlying3 Tryz.underlying194 rfl (rfl)) ?_;refine qr (O_bin rfl rfl (bI_shl (by decide) (by decide))) ?_;refine qm ?_;refine C_seq_join (fun E wq => ∃ l11 : List UInt8, sha_padded.k2 l11 = some r ∧ ∃ (F10 : Frz) (u12 : Val), E = [(3, u12)] ∧ F7.le F10 ∧ St [] w F F10 [.row tB u12 l11] wq) ?_ ?_
  ·refine qs ?_;refine qm ?_;refine C_block ?_;refine C_loopM (fun (s : Int × (List UInt8)) E wq => ∃ (F13 : Frz) (u16 : Val), E = [(3, u16), (4, .i .u64 (wu ((wu (x0.length : Int)) * 2 ^ (3 : Int).toNat))), (5, .i .i64 s.1)] ∧ F7.le F13 ∧ St [] w F F13 [.row tB u16 s.2] wq) H ?_ ?_
   ·exact ⟨_, ⟨F7, u9, rfl, (Frz.le.refl _), hS7⟩, ⟨rfl, rfl, rfl, trivial⟩⟩
   ·rintro rec17 ⟨i14, l15⟩ E w13 hI H
    try dsimp only at hI
    obtain ⟨F13, u16, rfl, le13, hS13⟩ := hI;dsimp only [sha_padded.l3] at H;refine C_seq ?_;refine qs ?_;refine qc ?_;refine qr (O_bin rfl rfl bI_geq) ?_;refine qn ?_;refine C_cond rfl (fun hc18 => ?_) (fun hc18 => ?_)
    ·rw [if_t hc18] at H;refine qk ?_;refine C_seq ?_;refine C_block ?_;obtain ⟨x19, hx19, H⟩ := bd_some H;obtain ⟨l21, hl21, H⟩ := bd_some H;refine qd ?_;refine q4 ?_;obtain ⟨hz23, hv23, hw23⟩ := shrU_some hx19;refine qr (O_bin rfl rfl (by rw [bI_shr hz23 hv23, ← hw23])) ?_;refine qr (O_conv Tryz.underlying194 Tryz.underlying5 rfl (i8_of _)) ?_;refine xm (E_bs (t := tB) (vs := [.i .u8 ((toB8 x19).toNat : Int)]) (xs := [(toB8 x19)]) Tryz.underlying47 Ty.row5 rfl ⟨rfl, trivial⟩ rfl rfl hS13) ?_;rintro u20 w20 hS20;refine xm (E_app (t := tB) 1 Tryz.underlying47 Ty.row5 Ty.zk47 rfl rfl hS20 rfl (hS20.rowSrc (k := 0) rfl) hl21) ?_;rintro v22 w22 hS22;refine qc ?_;refine W_nil ?_;refine N_block ?_;refine N_code ?_;refine qd ?_;refine q3 ?_;refine W_nil ?_;exact N_againM (wr (i14 - 1), l21) _ H ⟨F13, v22, rfl, le13, hS22.pick [1] (by decide)⟩ ⟨rfl, rfl, rfl, trivial⟩
    ·rw [if_f hc18] at H;refine C_exit _ rfl ?_;exact N_join _ ⟨l15, H, ⟨F13, u16, rfl, le13, hS13⟩⟩ ⟨rfl, trivial⟩
  ·rintro E w10 ⟨l11, H, F10, u12, rfl, le10, hS10⟩;dsimp only [sha_padded.k2] at H;refine qs ?_;refine qc ?_;refine qm ?_;obtain rfl := oi H;refine C_ret rfl rfl ?_;exact ⟨F10, u12, rfl, hS10⟩
def sha_high.k1 (i2 : Int) : Option Int :=
  some i2
def sha_high.l2 (x0 : List UInt8) (rec6 : (Int × Int) → Option Int) : (Int × Int) → Option Int
  | (i4, i5) =>
    if decide (i5 < (x0.length : Int)) then
      bd (ix x0 i5) fun x8 =>
      rec6 (bits .or .u64 (wu (i4 * 2 ^ (8 : Int).toNat)) (x8.toNat : Int), wr (i5 + 1))
    else
      sha_high.k1 i4
def sha_high (x0 : List UInt8) : Option Int :=
  loop (sha_high.l2 x0) (0, 0)
set_option maxRecDepth 100000 in
theorem sha_high_ok {K : Tb} {F : Frz} {w : Hp} {x0 : List UInt8} {r : Int} {v0 : Val} (hA : Gd F w) (h0 : SlF tB F v0 x0) (H : sha_high x0 = some r) : Ret Tryz.prog K 132 [v0] w fun v w' => ∃ (F' : Frz), v = .i .u64 r ∧ St [] w F F' [] w' := by
 refine qa1 Tryz.func132 ?_;have hS := St.start hA;dsimp only [sha_high] at H;refine qs ?_;refine qm ?_;refine qs ?_;refine qm ?_;refine C_seq_join (fun E wq => ∃ i2 : Int, sha_high.k1 i2 = some r ∧ ∃ (F1 : Frz), E = [(3, .i .u64 i2)] ∧ F.le F1 ∧ St [] w F F1 [] wq) ?_ ?_
 ·refine qs ?_;refine qc ?_;refine qr (O_len Tryz.underlying47 rfl h0.ln) ?_;refine qm ?_;refine C_block ?_;refine C_loopM (fun (s : Int × Int) E wq => ∃ (F3 : Frz), E = [(3, .i .u64 s.1), (6, v0), (7, .i .i64 (x0.length : Int)), (8, .i .i64 s.2)] ∧ F.le F3 ∧ St [] w F F3 [] wq) H ?_ ?_
  ·exact ⟨_, ⟨F, rfl, (Frz.le.refl _), hS⟩, ⟨rfl, rfl, rfl, rfl, trivial⟩⟩
  ·rintro rec6 ⟨i4, i5⟩ E w3 hI H
   try dsimp only at hI
   obtain ⟨F3, rfl, le3, hS3⟩ := hI;dsimp only [sha_high.l2] at H;refine qs ?_;refine qr (O_bin rfl rfl bI_lss) ?_;refine qn ?_;refine C_seq ?_;refine C_cond rfl (fun hc7 => ?_) (fun hc7 => ?_)
   ·rw [if_t hc7] at H;refine qk ?_;refine C_seq ?_;refine C_block ?_;refine C_seq ?_;obtain ⟨x8, hx8, H⟩ := bd_some H;refine qd ?_;obtain ⟨hp10, hy10⟩ := ix_some hx8;obtain ⟨cs10, hr10, he10⟩ := (h0.mono le3).el hy10;obtain rfl := hr10;replace he10 : Elf _ _ 1 _ _ := he10;have hi10 := he10.ixd;refine qi Tryz.underlying47 Ty.size5 hi10 hp10 ?_;refine qr (O_ld1 0 Ty.cell5 rfl (he10.mono hS3.agree) (by omega) rfl) ?_;refine qm ?_;refine qd ?_;refine qc ?_;refine qr (O_bin rfl rfl (bI_shl (by decide) (by decide))) ?_;refine qc ?_;refine qr (O_conv Tryz.underlying5 Tryz.underlying194 rfl (u8_u64 _)) ?_;refine qr (O_bin rfl rfl (bI_bits (.inr (.inl rfl)))) ?_;refine qc ?_;refine W_nil ?_;refine N_block ?_;refine N_code ?_;refine qd ?_;refine q2 ?_;refine W_nil ?_;exact N_againM (bits .or .u64 (wu (i4 * 2 ^ (8 : Int).toNat)) (x8.toNat : Int), wr (i5 + 1)) _ H ⟨F3, rfl, le3, hS3⟩ ⟨rfl, rfl, rfl, rfl, trivial⟩
   ·rw [if_f hc7] at H;refine C_exit _ rfl ?_;exact N_join _ ⟨i4, H, ⟨F3, rfl, le3, hS3⟩⟩ ⟨rfl, trivial⟩
 ·rintro E w1 ⟨i2, H, F1, rfl, le1, hS1⟩;dsimp only [sha_high.k1] at H;refine qs ?_;refine qc ?_;refine qm ?_;obtain rfl := oi H;refine C_ret rfl rfl ?_;exact ⟨F1, rfl, hS1⟩
def math_bits_RotateLeft32 (x0 : UInt32) (x1 : Int) : Option UInt32 :=
  bd (shlW x0 (bits .and .u64 (wu x1) 31)) fun x2 =>
  bd (shrW x0 (wu (32 - bits .and .u64 (wu x1) 31))) fun x3 =>
  some (x2 ||| x3)
set_option maxRecDepth 100000 in
theorem math_bits_RotateLeft32_ok {K : Tb} {F : Frz} {w : Hp} {x0 : UInt32} {x1 : Int} {r : UInt32} (hA : Gd F w) (H : math_bits_RotateLeft32 x0 x1 = some r) : Ret Tryz.prog K 133 [.i .u32 (x0.toNat : Int), .i .i64 x1] w fun v w' => ∃ (F' : Frz), v = .i .u32 (r.toNat : Int) ∧ St [] w F F' [] w' := by
 refine qa2 Tryz.func133 ?_;have hS := St.start hA;dsimp only [math_bits_RotateLeft32] at H;refine qs ?_;refine qm ?_;refine qs ?_;refine qc ?_;refine qr (O_conv Tryz.underlying3 Tryz.underlying26 rfl (rfl)) ?_;refine qr (O_bin rfl rfl (bI_bits (.inl rfl))) ?_;refine qm ?_;refine C_seq ?_;obtain ⟨x2, hx2, H⟩ := bd_some H;obtain ⟨x3, hx3, H⟩ := bd_some H;refine qd ?_;refine q2 ?_;refine qr (O_bin rfl rfl (bW_shl hx2)) ?_;refine q3 ?_;refine qr (O_bin rfl rfl (bW_shr hx3)) ?_;refine qr (O_bin rfl rfl ((bI_bits (.inr (.inl rfl))).trans (congrArg (fun z => some (Val.i .u32 z)) (Go.Wk.u32_or x2 x3)))) ?_;refine qm ?_;obtain rfl := oi H;refine C_ret rfl rfl ?_;exact ⟨F, rfl, hS⟩
def sha_Sum.k2 (s13 : List UInt8) : Option (List UInt8) :=
  some s13
def sha_Sum.l3 (s9 : List UInt32) (rec20 : (Int × (List UInt8)) → Option (List UInt8)) : (Int × (List UInt8)) → Option (List UInt8)
  | (i17, s18) =>
    if decide (i17 < 32) then
      bd (ix s9 (wr (i17.tdiv 4))) fun x22 =>
      bd (shrW x22 (wr (24 - wr (8 * i17.tmod 4)))) fun x23 =>
      bd (ix s18 i17) fun x24 =>
      rec20 (wr (i17 + 1), (s18.set i17.toNat x23.toUInt8))
    else
      sha_Sum.k2 s18
def sha_Sum.k1 (s9 : List UInt32) : Option (List UInt8) :=
  loop (sha_Sum.l3 s9) (0, (List.replicate 32 (0 : UInt8)))
def sha_Sum.k5 (l32 : List UInt8) (rec37 : ((List UInt8) × (List UInt32)) → Option (List UInt8)) (s40 : List UInt32) : Option (List UInt8) :=
  bd (cut (α := UInt8) l32 64 (l32.length : Int)) fun l42 =>
  rec37 (l42, s40)
def sha_Sum.l8 (l32 : List UInt8) (rec37 : ((List UInt8) × (List UInt32)) → Option (List UInt8)) (s51 : List UInt32) (rec57 : (Int × (List UInt32)) → Option (List UInt8)) : (Int × (List UInt32)) → Option (List UInt8)
  | (i54, s55) =>
    if decide (i54 < 8) then
      bd (ix s55 i54) fun x59 =>
      bd (ix s51 i54) fun x60 =>
      bd (ix s55 i54) fun x61 =>
      rec57 (wr (i54 + 1), (s55.set i54.toNat (x59 + x60)))
    else
      sha_Sum.k5 l32 rec37 s55
def sha_Sum.k7 (l32 : List UInt8) (s35 : List UInt32) (rec37 : ((List UInt8) × (List UInt32)) → Option (List UInt8)) (s51 : List UInt32) : Option (List UInt8) :=
  loop (sha_Sum.l8 l32 rec37 s51) (0, s35)
def sha_Sum.l9 (r6 : (List UInt32)) (l32 : List UInt8) (s35 : List UInt32) (rec37 : ((List UInt8) × (List UInt32)) → Option (List UInt8)) (s46 : List UInt32) (rec72 : (Int × (List UInt32)) → Option (List UInt8)) : (Int × (List UInt32)) → Option (List UInt8)
  | (i69, s70) =>
    if decide (i69 < 64) then
      bd (ix s70 4) fun x74 =>
      bd (ix s70 0) fun x75 =>
      bd (math_bits_RotateLeft32 x74 (-6)) fun r80 =>
      bd (math_bits_RotateLeft32 x74 (-11)) fun r81 =>
      bd (math_bits_RotateLeft32 x74 (-25)) fun r82 =>
      bd (ix s70 7) fun x86 =>
      bd (ix s70 5) fun x87 =>
      bd (ix s70 6) fun x88 =>
      bd (ix r6 i69) fun x89 =>
      bd (ix s46 i69) fun x91 =>
      bd (math_bits_RotateLeft32 x75 (-2)) fun r101 =>
      bd (math_bits_RotateLeft32 x75 (-13)) fun r102 =>
      bd (math_bits_RotateLeft32 x75 (-22)) fun r103 =>
      bd (ix s70 1) fun x107 =>
      bd (ix s70 2) fun x108 =>
      bd (ix s70 1) fun x109 =>
      bd (ix s70 2) fun x110 =>
      bd (ix s70 1) fun x119 =>
      bd (ix s70 2) fun x120 =>
      bd (ix s70 3) fun x121 =>
      bd (ix s70 5) fun x122 =>
      bd (ix s70 6) fun x123 =>
      rec72 (wr (i69 + 1), ([(((((x86 + ((r80 ^^^ r81) ^^^ r82)) + ((x74 &&& x87) ^^^ ((~~~x74) &&& x88))) + x89) + x91) + (((r101 ^^^ r102) ^^^ r103) + (((x75 &&& x107) ^^^ (x75 &&& x108)) ^^^ (x109 &&& x110)))), x75, x119, x120, (x121 + ((((x86 + ((r80 ^^^ r81) ^^^ r82)) + ((x74 &&& x87) ^^^ ((~~~x74) &&& x88))) + x89) + x91)), x74, x122, x123] : List UInt32))
    else
      sha_Sum.k7 l32 s35 rec37 s70
def sha_Sum.k6 (r6 : (List UInt32)) (l32 : List UInt8) (s35 : List UInt32) (rec37 : ((List UInt8) × (List UInt32)) → Option (List UInt8)) (s46 : List UInt32) : Option (List UInt8) :=
  loop (sha_Sum.l9 r6 l32 s35 rec37 s46) (0, s35)
def sha_Sum.k11 (i136 : Int) (rec139 : (Int × (List UInt32)) → Option (List UInt8)) (s142 : List UInt32) : Option (List UInt8) :=
  rec139 (wr (i136 + 1), s142)
def sha_Sum.l10 (r6 : (List UInt32)) (l32 : List UInt8) (s35 : List UInt32) (rec37 : ((List UInt8) × (List UInt32)) → Option (List UInt8)) (rec139 : (Int × (List UInt32)) → Option (List UInt8)) : (Int × (List UInt32)) → Option (List UInt8)
  | (i136, s137) =>
    if decide (i136 < 64) then
      if decide (i136 < 16) then
        bd (cut (α := UInt8) l32 (wr (4 * i136)) (wr (wr (4 * i136) + 4))) fun l145 =>
        bd (sha_high l145) fun r147 =>
        bd (ix s137 i136) fun x148 =>
        sha_Sum.k11 i136 rec139 (s137.set i136.toNat (toW r147))
      else
        bd (ix s137 (wr (i136 - 15))) fun x152 =>
        bd (ix s137 (wr (i136 - 2))) fun x153 =>
        bd (math_bits_RotateLeft32 x152 (-7)) fun r158 =>
        bd (math_bits_RotateLeft32 x152 (-18)) fun r159 =>
        bd (math_bits_RotateLeft32 x153 (-17)) fun r162 =>
        bd (math_bits_RotateLeft32 x153 (-19)) fun r163 =>
        bd (ix s137 (wr (i136 - 16))) fun x166 =>
        bd (ix s137 (wr (i136 - 7))) fun x167 =>
        bd (ix s137 i136) fun x168 =>
        sha_Sum.k11 i136 rec139 (s137.set i136.toNat (((x166 + ((r158 ^^^ r159) ^^^ (x152 >>> UInt32.ofNat 3))) + x167) + ((r162 ^^^ r163) ^^^ (x153 >>> UInt32.ofNat 10))))
    else
      sha_Sum.k6 r6 l32 s35 rec37 s137
def sha_Sum.l4 (r6 : (List UInt32)) (rec37 : ((List UInt8) × (List UInt32)) → Option (List UInt8)) : ((List UInt8) × (List UInt32)) → Option (List UInt8)
  | (l32, s35) =>
    if decide (0 < (l32.length : Int)) then
      loop (sha_Sum.l10 r6 l32 s35 rec37) (0, (List.replicate 64 (0 : UInt32)))
    else
      sha_Sum.k1 s35
def sha_Sum (x0 : List (List UInt8)) : Option (List UInt8) :=
  bd (slices_Concat_byte_byte x0) fun r2 =>
  bd (sha_rounds) fun r6 =>
  bd (sha_padded r2) fun r29 =>
  loop (sha_Sum.l4 r6) (r29, ([(1779033703 : UInt32), (3144134277 : UInt32), (1013904242 : UInt32), (2773480762 : UInt32), (1359893119 : UInt32), (2600822924 : UInt32), (528734635 : UInt32), (1541459225 : UInt32)] : List UInt32))
set_option maxRecDepth 100000 in
set_option maxHeartbeats 2000000 in
theorem sha_Sum_ok {K : Tb} {F : Frz} {w : Hp} {x0 : List (List UInt8)} {r : (List UInt8)} {v0 : Val} (hA : Gd F w) (h0 : SlF (tSl tB) F v0 x0) (H : sha_Sum x0 = some r) : Ret Tryz.prog K 84 [v0] w fun v w' => ∃ (F' : Frz), v = .agg (idCells r) ∧ (r).length = 32 ∧ St [] w F F' [] w' := by
 refine qa1 Tryz.func84 ?_;have hS := St.start hA;dsimp only [sha_Sum] at H;refine qs ?_;refine xm (E_alc (cs := idCells (List.replicate 32 (0 : UInt8))) Ty.zero58 rfl hS) ?_;rintro _ w1 ⟨g1, rfl, hS1⟩;refine qn ?_;refine C_seq ?_;obtain ⟨r2, hr2, H⟩ := bd_some H;refine qd ?_;refine qc ?_;refine lm (slices_Concat_byte_byte_ok hS1.good h0 hr2) ?_;rintro ur2_0 w3 ⟨Fr2, _, rfl, hT3⟩;have hS3 := hS1.call hT3;have ler2 := hT3.ext;refine qm ?_;refine qs ?_;refine qr (O_buildA (vs := [(0, .i .u32 ((1779033703 : UInt32).toNat : Int)), (1, .i .u32 ((3144134277 : UInt32).toNat : Int)), (2, .i .u32 ((1013904242 : UInt32).toNat : Int)), (3, .i .u32 ((2773480762 : UInt32).toNat : Int)), (4, .i .u32 ((1359893119 : UInt32).toNat : Int)), (5, .i .u32 ((2600822924 : UInt32).toNat : Int)), (6, .i .u32 ((528734635 : UInt32).toNat : Int)), (7, .i .u32 ((1541459225 : UInt32).toNat : Int))]) (v := .agg (arrC 8 cW 0 ([(1779033703 : UInt32), (3144134277 : UInt32), (1013904242 : UInt32), (2773480762 : UInt32), (1359893119 : UInt32), (2600822924 : UInt32), (528734635 : UInt32), (1541459225 : UInt32)] : List UInt32))) Ty.blda172 rfl rfl) ?_;refine xm (E_alc (cs := arrC 8 cW 0 (List.replicate 8 (0 : UInt32))) Ty.zero172 rfl hS3) ?_;rintro _ w4 ⟨g4, rfl, hS4⟩;refine um (E_bst (c := arrC 8 cW 0 ([(1779033703 : UInt32), (3144134277 : UInt32), (1013904242 : UInt32), (2773480762 : UInt32), (1359893119 : UInt32), (2600822924 : UInt32), (528734635 : UInt32), (1541459225 : UInt32)] : List UInt32)) 0 (arrC 8 cW 0 ([(1779033703 : UInt32), (3144134277 : UInt32), (1013904242 : UInt32), (2773480762 : UInt32), (1359893119 : UInt32), (2600822924 : UInt32), (528734635 : UInt32), (1541459225 : UInt32)] : List UInt32)) rfl rfl hS4 rfl rfl Ty.size172 rfl rfl rfl) ?_;rintro _ w5 hS5;refine qn ?_;refine C_seq ?_;obtain ⟨r6, hr6, H⟩ := bd_some H;refine qd ?_;refine lm (sha_rounds_ok hS5.good hr6) ?_;rintro ur6_0 w7 ⟨Fr6, _, rfl, hT7⟩;have hS7 := hS5.call hT7;have ler6 := hT7.ext;refine qm ?_;refine C_seq_join (fun E wq => ∃ s9 : List UInt32, sha_Sum.k1 s9 = some r ∧ ∃ (F8 : Frz), E = [(2, pl g1 0), (4, pl g4 0)] ∧ Fr6.le F8 ∧ (s9).length = 8 ∧ St [] w F F8 [.box g4 (arrC 8 cW 0 s9), .box g1 (idCells (List.replicate 32 (0 : UInt8)))] wq) ?_ ?_
 ·refine C_seq ?_;obtain ⟨r29, hr29, H⟩ := bd_some H;refine qd ?_;refine qc ?_;refine lm (sha_padded_ok (Gd.now hS7.wf) (hS7.rowNow (k := 2) rfl) hr29) ?_;rintro ur29_0 w30 ⟨Fr29, _, rfl, hT30⟩;have hS30 := hS7.lentFlat hT30 ⟨fun _ _ _ h => row_flat (t := tB) (fun h => h) h, trivial⟩;refine qm ?_;refine C_block ?_;refine C_loopM (fun (s : (List UInt8) × (List UInt32)) E wq => ∃ (F31 : Frz) (u33 : Val), E = [(2, pl g1 0), (4, pl g4 0), (5, ur6_0), (6, u33)] ∧ Fr6.le F31 ∧ SlF tB F31 u33 s.1 ∧ (s.2).length = 8 ∧ St [] w F F31 [.row tW ur6_0 r6, .box g4 (arrC 8 cW 0 s.2), .box g1 (idCells (List.replicate 32 (0 : UInt8)))] wq) H ?_ ?_
  ·obtain ⟨F175, le175, hf175, hS175⟩ := hS30.freezeR 0 [1, 2, 3, 4] rfl (by decide) (by decide);exact ⟨_, ⟨F175, ur29_0, rfl, le175, hf175, rfl, hS175.pick [0, 1, 3] (by decide)⟩, ⟨rfl, rfl, rfl, rfl, trivial⟩⟩
  ·rintro rec37 ⟨l32, s35⟩ E w31 hI H
   try dsimp only at hI
   obtain ⟨F31, u33, rfl, le31, hx34, hl36, hS31⟩ := hI;dsimp only [sha_Sum.l4] at H;refine C_seq ?_;refine qs ?_;refine qc ?_;refine qr (O_len Tryz.underlying47 rfl hx34.ln) ?_;refine qr (O_bin rfl rfl bI_gtr) ?_;refine qn ?_;refine C_cond rfl (fun hc38 => ?_) (fun hc38 => ?_)
   ·rw [if_t hc38] at H;refine qk ?_;refine C_seq_join (fun E wq => ∃ s40 : List UInt32, sha_Sum.k5 l32 rec37 s40 = some r ∧ ∃ (F39 : Frz), E = [(2, pl g1 0), (4, pl g4 0), (5, ur6_0), (6, u33)] ∧ F31.le F39 ∧ (s40).length = 8 ∧ St [] w F F39 [.row tW ur6_0 r6, .box g4 (arrC 8 cW 0 s40), .box g1 (idCells (List.replicate 32 (0 : UInt8)))] wq) ?_ ?_
    ·refine C_block ?_;refine qs ?_;refine xm (E_alc (cs := arrC 64 cW 0 (List.replicate 64 (0 : UInt32))) Ty.zero170 rfl hS31) ?_;rintro _ w44 ⟨g44, rfl, hS44⟩;refine qn ?_;refine C_seq_join (fun E wq => ∃ s46 : List UInt32, sha_Sum.k6 r6 l32 s35 rec37 s46 = some r ∧ ∃ (F45 : Frz), E = [(2, pl g1 0), (4, pl g4 0), (5, ur6_0), (6, u33), (7, pl g44 0)] ∧ F31.le F45 ∧ (s46).length = 64 ∧ St [] w F F45 [.box g44 (arrC 64 cW 0 s46), .row tW ur6_0 r6, .box g4 (arrC 8 cW 0 s35), .box g1 (idCells (List.replicate 32 (0 : UInt8)))] wq) ?_ ?_
     ·refine qs ?_;refine qm ?_;refine C_block ?_;refine C_loopM (fun (s : Int × (List UInt32)) E wq => ∃ (F135 : Frz), E = [(2, pl g1 0), (4, pl g4 0), (5, ur6_0), (6, u33), (7, pl g44 0), (35, .i .i64 s.1)] ∧ F31.le F135 ∧ (s.2).length = 64 ∧ St [] w F F135 [.box g44 (arrC 64 cW 0 s.2), .row tW ur6_0 r6, .box g4 (arrC 8 cW 0 s35), .box g1 (idCells (List.replicate 32 (0 : UInt8)))] wq) H ?_ ?_
      ·exact ⟨_, ⟨F31, rfl, (Frz.le.refl _), (List.length_replicate), hS44⟩, ⟨rfl, rfl, rfl, rfl, rfl, rfl, trivial⟩⟩
      ·rintro rec139 ⟨i136, s137⟩ E w135 hI H
       try dsimp only at hI
       obtain ⟨F135, rfl, le135, hl138, hS135⟩ := hI;dsimp only [sha_Sum.l10] at H;refine qs ?_;refine qr (O_bin rfl rfl bI_lss) ?_;refine qn ?_;refine C_seq ?_;refine C_cond rfl (fun hc140 => ?_) (fun hc140 => ?_)
       ·rw [if_t hc140] at H;refine qk ?_;refine C_seq_join (fun E wq => ∃ s142 : List UInt32, sha_Sum.k11 i136 rec139 s142 = some r ∧ ∃ (F141 : Frz), E = [(2, pl g1 0), (4, pl g4 0), (5, ur6_0), (6, u33), (7, pl g44 0), (35, .i .i64 i136)] ∧ F135.le F141 ∧ (s142).length = 64 ∧ St [] w F F141 [.box g44 (arrC 64 cW 0 s142), .row tW ur6_0 r6, .box g4 (arrC 8 cW 0 s35), .box g1 (idCells (List.replicate 32 (0 : UInt8)))] wq) ?_ ?_
        ·refine C_block ?_;refine qs ?_;refine qc ?_;refine qm ?_;refine C_seq ?_;refine qs ?_;refine qc ?_;refine qr (O_bin rfl rfl bI_lss) ?_;refine qn ?_;refine C_cond rfl (fun hc144 => ?_) (fun hc144 => ?_)
         ·rw [if_t hc144] at H;refine C_seq ?_;obtain ⟨l145, hl145, H⟩ := bd_some H;obtain ⟨r147, hr147, H⟩ := bd_some H;obtain ⟨x148, hx148, H⟩ := bd_some H;refine qd ?_;refine q4 ?_;refine q3 ?_;refine W_cutF (wr (4 * i136)) (wr (wr (4 * i136) + 4)) rfl rfl rfl rfl Tryz.underlying47 Ty.size5 rfl (.inr ⟨_, _, rfl, rfl⟩) (.inr ⟨_, _, rfl, rfl⟩) hx34 hl145 ?_;intro q146 hv146;refine lm (sha_high_ok hS135.good (hv146.mono le135) hr147) ?_;rintro v149 w149 ⟨Fr147, rfl, hT149⟩;have hS149 := hS135.lent hT149;refine qr (O_conv Tryz.underlying194 Tryz.underlying169 rfl (toW_of _)) ?_;obtain ⟨hp150, hy150⟩ := ix_some hx148;refine qr (O_ixA Tryz.underlying170 Ty.size169 rfl rfl hp150 (arr_lt hl138 hy150)) ?_;refine um (E_bsti (cs' := arrC 64 cW 0 (s137.set i136.toNat (toW r147))) 0 rfl rfl hS149 rfl rfl Ty.size169 (by rw [arrC_len, Nat.zero_add]; exact (arr_lt hl138 hy150)) (arr_put hl138 (arr_lt hl138 hy150) _)) ?_;rintro _ w151 hS151;refine qn ?_;refine C_exit _ rfl ?_;exact N_join _ ⟨(s137.set i136.toNat (toW r147)), H, ⟨F135, rfl, (Frz.le.refl _), (by rw [List.length_set]; exact hl138), hS151⟩⟩ ⟨rfl, rfl, rfl, rfl, rfl, rfl, trivial⟩
         ·rw [if_f hc144] at H;refine qk ?_;refine C_seq ?_;obtain ⟨x152, hx152, H⟩ := bd_some H;obtain ⟨x153, hx153, H⟩ := bd_some H;refine C_regionD (G := (nowF _)) [0, 1, 2, 3, 4, 5, 6, 7, 8, 9] rfl Ty.mixed (by kernel_rfl) (nowF_agree _) ?_;refine q2 ?_;obtain ⟨hp154, hy154⟩ := ix_some hx152;refine qr (O_ixA Tryz.underlying170 Ty.size169 rfl rfl hp154 (arr_lt hl138 hy154)) ?_;obtain ⟨_, hy155⟩ := ix_some hx152;refine qr (O_bld1 0 Ty.cell169 rfl hS135 rfl (by rw [Nat.zero_add]; exact arr_at hl138 hy155)) ?_;refine q2 ?_;obtain ⟨hp156, hy156⟩ := ix_some hx153;refine qr (O_ixA Tryz.underlying170 Ty.size169 rfl rfl hp156 (arr_lt hl138 hy156)) ?_;obtain ⟨_, hy157⟩ := ix_some hx153;refine qr (O_bld1 0 Ty.cell169 rfl hS135 rfl (by rw [Nat.zero_add]; exact arr_at hl138 hy157)) ?_;refine qc ?_;refine qm ?_;refine C_seq ?_;obtain ⟨r158, hr158, H⟩ := bd_some H;obtain ⟨r159, hr159, H⟩ := bd_some H;refine qd ?_;refine qc ?_;refine lm (math_bits_RotateLeft32_ok hS135.good hr158) ?_;rintro v160 w160 ⟨Fr158, rfl, hT160⟩;have hS160 := hS135.lent hT160;refine qc ?_;refine lm (math_bits_RotateLeft32_ok hS160.good hr159) ?_;rintro v161 w161 ⟨Fr159, rfl, hT161⟩;have hS161 := hS160.lent hT161;refine qr (O_bin rfl rfl ((bI_bits (.inr (.inr rfl))).trans (congrArg (fun z => some (Val.i .u32 z)) (Go.Wk.u32_xor r158 r159)))) ?_;refine qc ?_;refine qr (O_bin rfl rfl ((bI_shr (by decide) (by decide)).trans (congrArg (fun z => some (Val.i .u32 z)) (u32_shr _ _ 3 rfl (by decide))))) ?_;refine qr (O_bin rfl rfl ((bI_bits (.inr (.inr rfl))).trans (congrArg (fun z => some (Val.i .u32 z)) (Go.Wk.u32_xor (r158 ^^^ r159) (x152 >>> UInt32.ofNat 3))))) ?_;refine qm ?_;refine C_seq ?_;obtain ⟨r162, hr162, H⟩ := bd_some H;obtain ⟨r163, hr163, H⟩ := bd_some H;refine qd ?_;refine qc ?_;refine lm (math_bits_RotateLeft32_ok hS161.good hr162) ?_;rintro v164 w164 ⟨Fr162, rfl, hT164⟩;have hS164 := hS161.lent hT164;refine qc ?_;refine lm (math_bits_RotateLeft32_ok hS164.good hr163) ?_;rintro v165 w165 ⟨Fr163, rfl, hT165⟩;have hS165 := hS164.lent hT165;refine qr (O_bin rfl rfl ((bI_bits (.inr (.inr rfl))).trans (congrArg (fun z => some (Val.i .u32 z)) (Go.Wk.u32_xor r162 r163)))) ?_;refine qc ?_;refine qr (O_bin rfl rfl ((bI_shr (by decide) (by decide)).trans (congrArg (fun z => some (Val.i .u32 z)) (u32_shr _ _ 10 rfl (by decide))))) ?_;refine qr (O_bin rfl rfl ((bI_bits (.inr (.inr rfl))).trans (congrArg (fun z => some (Val.i .u32 z)) (Go.Wk.u32_xor (r162 ^^^ r163) (x153 >>> UInt32.ofNat 10))))) ?_
          refine qm ?_;obtain ⟨x166, hx166, H⟩ := bd_some H;obtain ⟨x167, hx167, H⟩ := bd_some H;obtain ⟨x168, hx168, H⟩ := bd_some H;refine C_regionD (G := F135) [0, 1, 2, 3, 4, 5, 6, 7, 8, 9, 10, 11, 12, 13, 14, 15] rfl Ty.mixed (by kernel_rfl) hS165.agree ?_;refine q3 ?_;obtain ⟨hp169, hy169⟩ := ix_some hx166;refine qr (O_ixA Tryz.underlying170 Ty.size169 rfl rfl hp169 (arr_lt hl138 hy169)) ?_;obtain ⟨_, hy170⟩ := ix_some hx166;refine qq (O_bld1 0 Ty.cell169 rfl hS165 rfl (by rw [Nat.zero_add]; exact arr_at hl138 hy170)) ?_;refine qc ?_;refine qr (O_bin rfl rfl (congrArg (fun z => some (Val.i .u32 z)) (u32_add x166 ((r158 ^^^ r159) ^^^ (x152 >>> UInt32.ofNat 3))))) ?_;refine q2 ?_;obtain ⟨hp171, hy171⟩ := ix_some hx167;refine qr (O_ixA Tryz.underlying170 Ty.size169 rfl rfl hp171 (arr_lt hl138 hy171)) ?_;obtain ⟨_, hy172⟩ := ix_some hx167;refine qq (O_bld1 0 Ty.cell169 rfl hS165 rfl (by rw [Nat.zero_add]; exact arr_at hl138 hy172)) ?_;refine qr (O_bin rfl rfl (congrArg (fun z => some (Val.i .u32 z)) (u32_add (x166 + ((r158 ^^^ r159) ^^^ (x152 >>> UInt32.ofNat 3))) x167))) ?_;refine qc ?_;refine qr (O_bin rfl rfl (congrArg (fun z => some (Val.i .u32 z)) (u32_add ((x166 + ((r158 ^^^ r159) ^^^ (x152 >>> UInt32.ofNat 3))) + x167) ((r162 ^^^ r163) ^^^ (x153 >>> UInt32.ofNat 10))))) ?_;obtain ⟨hp173, hy173⟩ := ix_some hx168;refine qr (O_ixA Tryz.underlying170 Ty.size169 rfl rfl hp173 (arr_lt hl138 hy173)) ?_;refine qu (E_bsti (cs' := arrC 64 cW 0 (s137.set i136.toNat (((x166 + ((r158 ^^^ r159) ^^^ (x152 >>> UInt32.ofNat 3))) + x167) + ((r162 ^^^ r163) ^^^ (x153 >>> UInt32.ofNat 10))))) 0 rfl rfl hS165 rfl rfl Ty.size169 (by rw [arrC_len, Nat.zero_add]; exact (arr_lt hl138 hy173)) (arr_put hl138 (arr_lt hl138 hy173) _)) ?_;rintro _ w174 hS174;refine Nxt.frz (Frz.le.refl _) hS174.agree ?_;refine W_nil ?_;refine N_block ?_;exact N_join _ ⟨(s137.set i136.toNat (((x166 + ((r158 ^^^ r159) ^^^ (x152 >>> UInt32.ofNat 3))) + x167) + ((r162 ^^^ r163) ^^^ (x153 >>> UInt32.ofNat 10)))), H, ⟨F135, rfl, (Frz.le.refl _), (by rw [List.length_set]; exact hl138), hS174⟩⟩ ⟨rfl, rfl, rfl, rfl, rfl, rfl, trivial⟩
        ·rintro E w141 ⟨s142, H, F141, rfl, le141, hl143, hS141⟩;dsimp only [sha_Sum.k11] at H;refine qd ?_;refine q2 ?_;refine W_nil ?_;exact N_againM (wr (i136 + 1), s142) _ H ⟨F141, rfl, (le135.trans le141), hl143, hS141⟩ ⟨rfl, rfl, rfl, rfl, rfl, rfl, trivial⟩
       ·rw [if_f hc140] at H;refine C_exit _ rfl ?_;exact N_join _ ⟨s137, H, ⟨F135, rfl, le135, hl138, hS135⟩⟩ ⟨rfl, rfl, rfl, rfl, rfl, trivial⟩
     ·rintro E w45 ⟨s46, H, F45, rfl, le45, hl47, hS45⟩;dsimp only [sha_Sum.k6] at H;refine qs ?_;refine qr (O_bldg 2 (arrC 8 cW 0 s35) Ty.agg172 Ty.size172 (Nat.zero_lt_succ _) rfl hS45 rfl (fun q u h => sub_at (post := []) rfl h)) ?_;refine xm (E_alc (cs := arrC 8 cW 0 (List.replicate 8 (0 : UInt32))) Ty.zero172 rfl hS45) ?_;rintro _ w48 ⟨g48, rfl, hS48⟩;refine um (E_bst (c := arrC 8 cW 0 s35) 0 (arrC 8 cW 0 s35) rfl rfl hS48 rfl rfl Ty.size172 rfl rfl rfl) ?_;rintro _ w49 hS49;refine qn ?_;refine C_seq_join (fun E wq => ∃ s51 : List UInt32, sha_Sum.k7 l32 s35 rec37 s51 = some r ∧ ∃ (F50 : Frz), E = [(2, pl g1 0), (4, pl g4 0), (5, ur6_0), (6, u33), (13, pl g48 0)] ∧ F45.le F50 ∧ (s51).length = 8 ∧ St [] w F F50 [.box g48 (arrC 8 cW 0 s51), .row tW ur6_0 r6, .box g4 (arrC 8 cW 0 s35), .box g1 (idCells (List.replicate 32 (0 : UInt8)))] wq) ?_ ?_
      ·refine qs ?_;refine qm ?_;refine C_block ?_;refine C_loopM (fun (s : Int × (List UInt32)) E wq => ∃ (F68 : Frz), E = [(2, pl g1 0), (4, pl g4 0), (5, ur6_0), (6, u33), (7, pl g44 0), (13, pl g48 0), (92, .i .i64 s.1)] ∧ F45.le F68 ∧ (s.2).length = 8 ∧ St [] w F F68 [.box g48 (arrC 8 cW 0 s.2), .box g44 (arrC 64 cW 0 s46), .row tW ur6_0 r6, .box g4 (arrC 8 cW 0 s35), .box g1 (idCells (List.replicate 32 (0 : UInt8)))] wq) H ?_ ?_
       ·exact ⟨_, ⟨F45, rfl, (Frz.le.refl _), hl36, hS49⟩, ⟨rfl, rfl, rfl, rfl, rfl, rfl, rfl, trivial⟩⟩
       ·rintro rec72 ⟨i69, s70⟩ E w68 hI H
        try dsimp only at hI
        obtain ⟨F68, rfl, le68, hl71, hS68⟩ := hI;dsimp only [sha_Sum.l9] at H;refine qs ?_;refine qr (O_bin rfl rfl bI_lss) ?_;refine qn ?_;refine C_seq ?_;refine C_cond rfl (fun hc73 => ?_) (fun hc73 => ?_)
        ·rw [if_t hc73] at H;refine qk ?_;refine C_seq ?_;refine C_block ?_;refine qs ?_;refine qc ?_;refine qm ?_;refine C_seq ?_;obtain ⟨x74, hx74, H⟩ := bd_some H;obtain ⟨x75, hx75, H⟩ := bd_some H;refine C_regionD (G := (nowF _)) [0, 1, 2, 3, 4, 5] rfl Ty.mixed (by kernel_rfl) (nowF_agree _) ?_;obtain ⟨hp76, hy76⟩ := ix_some hx74;refine qr (O_ixA Tryz.underlying172 Ty.size169 rfl rfl hp76 (arr_lt hl71 hy76)) ?_;obtain ⟨_, hy77⟩ := ix_some hx74;refine qr (O_bld1 0 Ty.cell169 rfl hS68 rfl (by rw [Nat.zero_add]; exact arr_at hl71 hy77)) ?_;obtain ⟨hp78, hy78⟩ := ix_some hx75;refine qr (O_ixA Tryz.underlying172 Ty.size169 rfl rfl hp78 (arr_lt hl71 hy78)) ?_;obtain ⟨_, hy79⟩ := ix_some hx75;refine qr (O_bld1 0 Ty.cell169 rfl hS68 rfl (by rw [Nat.zero_add]; exact arr_at hl71 hy79)) ?_;refine qc ?_;refine qm ?_;refine C_seq ?_;obtain ⟨r80, hr80, H⟩ := bd_some H;obtain ⟨r81, hr81, H⟩ := bd_some H;obtain ⟨r82, hr82, H⟩ := bd_some H;refine qd ?_;refine qc ?_;refine lm (math_bits_RotateLeft32_ok hS68.good hr80) ?_;rintro v83 w83 ⟨Fr80, rfl, hT83⟩;have hS83 := hS68.lent hT83;refine qc ?_;refine lm (math_bits_RotateLeft32_ok hS83.good hr81) ?_;rintro v84 w84 ⟨Fr81, rfl, hT84⟩;have hS84 := hS83.lent hT84;refine qr (O_bin rfl rfl ((bI_bits (.inr (.inr rfl))).trans (congrArg (fun z => some (Val.i .u32 z)) (Go.Wk.u32_xor r80 r81)))) ?_;refine qc ?_;refine lm (math_bits_RotateLeft32_ok hS84.good hr82) ?_;rintro v85 w85 ⟨Fr82, rfl, hT85⟩;have hS85 := hS84.lent hT85;refine qr (O_bin rfl rfl ((bI_bits (.inr (.inr rfl))).trans (congrArg (fun z => some (Val.i .u32 z)) (Go.Wk.u32_xor (r80 ^^^ r81) r82)))) ?_;refine qm ?_;refine C_seq ?_;obtain ⟨x86, hx86, H⟩ := bd_some H;obtain ⟨x87, hx87, H⟩ := bd_some H;obtain ⟨x88, hx88, H⟩ := bd_some H;obtain ⟨x89, hx89, H⟩ := bd_some H;obtain ⟨x91, hx91, H⟩ := bd_some H;refine C_regionD (G := (nowF _)) [0, 1, 2, 3, 4, 5, 6, 7, 8, 9, 10, 11, 12, 13, 14, 15, 16, 17, 18, 19, 20, 21, 22, 23, 24] rfl Ty.mixed (by kernel_rfl) (nowF_agree _) ?_;obtain ⟨hp92, hy92⟩ := ix_some hx86;refine qr (O_ixA Tryz.underlying172 Ty.size169 rfl rfl hp92 (arr_lt hl71 hy92)) ?_;obtain ⟨_, hy93⟩ := ix_some hx86;refine qr (O_bld1 0 Ty.cell169 rfl hS85 rfl (by rw [Nat.zero_add]; exact arr_at hl71 hy93)) ?_;refine qc ?_;refine qr (O_bin rfl rfl (congrArg (fun z => some (Val.i .u32 z)) (u32_add x86 ((r80 ^^^ r81) ^^^ r82)))) ?_;refine qc ?_;obtain ⟨hp94, hy94⟩ := ix_some hx87;refine qr (O_ixA Tryz.underlying172 Ty.size169 rfl rfl hp94 (arr_lt hl71 hy94)) ?_
         obtain ⟨_, hy95⟩ := ix_some hx87;refine qr (O_bld1 0 Ty.cell169 rfl hS85 rfl (by rw [Nat.zero_add]; exact arr_at hl71 hy95)) ?_;refine qr (O_bin rfl rfl ((bI_bits (.inl rfl)).trans (congrArg (fun z => some (Val.i .u32 z)) (Go.Wk.u32_and x74 x87)))) ?_;refine qc ?_;refine qr (O_un rfl (uW_not x74)) ?_;obtain ⟨hp96, hy96⟩ := ix_some hx88;refine qr (O_ixA Tryz.underlying172 Ty.size169 rfl rfl hp96 (arr_lt hl71 hy96)) ?_;obtain ⟨_, hy97⟩ := ix_some hx88;refine qr (O_bld1 0 Ty.cell169 rfl hS85 rfl (by rw [Nat.zero_add]; exact arr_at hl71 hy97)) ?_;refine qr (O_bin rfl rfl ((bI_bits (.inl rfl)).trans (congrArg (fun z => some (Val.i .u32 z)) (Go.Wk.u32_and (~~~x74) x88)))) ?_;refine qr (O_bin rfl rfl ((bI_bits (.inr (.inr rfl))).trans (congrArg (fun z => some (Val.i .u32 z)) (Go.Wk.u32_xor (x74 &&& x87) ((~~~x74) &&& x88))))) ?_;refine qr (O_bin rfl rfl (congrArg (fun z => some (Val.i .u32 z)) (u32_add (x86 + ((r80 ^^^ r81) ^^^ r82)) ((x74 &&& x87) ^^^ ((~~~x74) &&& x88))))) ?_;refine q2 ?_;obtain ⟨hp98, hy98⟩ := ix_some hx89;obtain ⟨cs98, hr98, he98⟩ := hS85.rowAt (k := 2) rfl hy98;obtain rfl := hr98;replace he98 : Elf _ _ 1 _ _ := he98;have hi98 := he98.ixd;refine qi Tryz.underlying192 Ty.size169 hi98 hp98 ?_;refine qr (O_ld1 0 Ty.cell169 rfl he98 (by omega) rfl) ?_;refine qr (O_bin rfl rfl (congrArg (fun z => some (Val.i .u32 z)) (u32_add ((x86 + ((r80 ^^^ r81) ^^^ r82)) + ((x74 &&& x87) ^^^ ((~~~x74) &&& x88))) x89))) ?_;refine qc ?_;obtain ⟨hp99, hy99⟩ := ix_some hx91;refine qr (O_ixA Tryz.underlying170 Ty.size169 rfl rfl hp99 (arr_lt hl47 hy99)) ?_;obtain ⟨_, hy100⟩ := ix_some hx91;refine qr (O_bld1 1 Ty.cell169 rfl hS85 rfl (by rw [Nat.zero_add]; exact arr_at hl47 hy100)) ?_;refine qr (O_bin rfl rfl (congrArg (fun z => some (Val.i .u32 z)) (u32_add (((x86 + ((r80 ^^^ r81) ^^^ r82)) + ((x74 &&& x87) ^^^ ((~~~x74) &&& x88))) + x89) x91))) ?_;refine qm ?_;refine C_seq ?_;obtain ⟨r101, hr101, H⟩ := bd_some H;obtain ⟨r102, hr102, H⟩ := bd_some H;obtain ⟨r103, hr103, H⟩ := bd_some H;refine qd ?_;refine qc ?_;refine lm (math_bits_RotateLeft32_ok hS85.good hr101) ?_;rintro v104 w104 ⟨Fr101, rfl, hT104⟩;have hS104 := hS85.lent hT104;refine qc ?_;refine lm (math_bits_RotateLeft32_ok hS104.good hr102) ?_;rintro v105 w105 ⟨Fr102, rfl, hT105⟩;have hS105 := hS104.lent hT105;refine qr (O_bin rfl rfl ((bI_bits (.inr (.inr rfl))).trans (congrArg (fun z => some (Val.i .u32 z)) (Go.Wk.u32_xor r101 r102)))) ?_;refine qc ?_;refine lm (math_bits_RotateLeft32_ok hS105.good hr103) ?_
         rintro v106 w106 ⟨Fr103, rfl, hT106⟩;have hS106 := hS105.lent hT106;refine qr (O_bin rfl rfl ((bI_bits (.inr (.inr rfl))).trans (congrArg (fun z => some (Val.i .u32 z)) (Go.Wk.u32_xor (r101 ^^^ r102) r103)))) ?_;refine qm ?_;refine C_seq ?_;obtain ⟨x107, hx107, H⟩ := bd_some H;obtain ⟨x108, hx108, H⟩ := bd_some H;obtain ⟨x109, hx109, H⟩ := bd_some H;obtain ⟨x110, hx110, H⟩ := bd_some H;refine qd ?_;refine q2 ?_;obtain ⟨hp111, hy111⟩ := ix_some hx107;refine qr (O_ixA Tryz.underlying172 Ty.size169 rfl rfl hp111 (arr_lt hl71 hy111)) ?_;obtain ⟨_, hy112⟩ := ix_some hx107;refine qr (O_bld1 0 Ty.cell169 rfl hS106 rfl (by rw [Nat.zero_add]; exact arr_at hl71 hy112)) ?_;refine qr (O_bin rfl rfl ((bI_bits (.inl rfl)).trans (congrArg (fun z => some (Val.i .u32 z)) (Go.Wk.u32_and x75 x107)))) ?_;refine qc ?_;obtain ⟨hp113, hy113⟩ := ix_some hx108;refine qr (O_ixA Tryz.underlying172 Ty.size169 rfl rfl hp113 (arr_lt hl71 hy113)) ?_;obtain ⟨_, hy114⟩ := ix_some hx108;refine qr (O_bld1 0 Ty.cell169 rfl hS106 rfl (by rw [Nat.zero_add]; exact arr_at hl71 hy114)) ?_;refine qr (O_bin rfl rfl ((bI_bits (.inl rfl)).trans (congrArg (fun z => some (Val.i .u32 z)) (Go.Wk.u32_and x75 x108)))) ?_;refine qr (O_bin rfl rfl ((bI_bits (.inr (.inr rfl))).trans (congrArg (fun z => some (Val.i .u32 z)) (Go.Wk.u32_xor (x75 &&& x107) (x75 &&& x108))))) ?_;obtain ⟨hp115, hy115⟩ := ix_some hx109;refine qr (O_ixA Tryz.underlying172 Ty.size169 rfl rfl hp115 (arr_lt hl71 hy115)) ?_;obtain ⟨_, hy116⟩ := ix_some hx109;refine qr (O_bld1 0 Ty.cell169 rfl hS106 rfl (by rw [Nat.zero_add]; exact arr_at hl71 hy116)) ?_;obtain ⟨hp117, hy117⟩ := ix_some hx110;refine qr (O_ixA Tryz.underlying172 Ty.size169 rfl rfl hp117 (arr_lt hl71 hy117)) ?_;obtain ⟨_, hy118⟩ := ix_some hx110;refine qr (O_bld1 0 Ty.cell169 rfl hS106 rfl (by rw [Nat.zero_add]; exact arr_at hl71 hy118)) ?_;refine qr (O_bin rfl rfl ((bI_bits (.inl rfl)).trans (congrArg (fun z => some (Val.i .u32 z)) (Go.Wk.u32_and x109 x110)))) ?_;refine qr (O_bin rfl rfl ((bI_bits (.inr (.inr rfl))).trans (congrArg (fun z => some (Val.i .u32 z)) (Go.Wk.u32_xor ((x75 &&& x107) ^^^ (x75 &&& x108)) (x109 &&& x110))))) ?_;refine qr (O_bin rfl rfl (congrArg (fun z => some (Val.i .u32 z)) (u32_add ((r101 ^^^ r102) ^^^ r103) (((x75 &&& x107) ^^^ (x75 &&& x108)) ^^^ (x109 &&& x110))))) ?_;refine qm ?_;obtain ⟨x119, hx119, H⟩ := bd_some H;obtain ⟨x120, hx120, H⟩ := bd_some H;obtain ⟨x121, hx121, H⟩ := bd_some H;obtain ⟨x122, hx122, H⟩ := bd_some H
         obtain ⟨x123, hx123, H⟩ := bd_some H;refine qd ?_;refine q2 ?_;refine qr (O_bin rfl rfl (congrArg (fun z => some (Val.i .u32 z)) (u32_add ((((x86 + ((r80 ^^^ r81) ^^^ r82)) + ((x74 &&& x87) ^^^ ((~~~x74) &&& x88))) + x89) + x91) (((r101 ^^^ r102) ^^^ r103) + (((x75 &&& x107) ^^^ (x75 &&& x108)) ^^^ (x109 &&& x110)))))) ?_;refine qc ?_;obtain ⟨hp124, hy124⟩ := ix_some hx119;refine qr (O_ixA Tryz.underlying172 Ty.size169 rfl rfl hp124 (arr_lt hl71 hy124)) ?_;obtain ⟨_, hy125⟩ := ix_some hx119;refine qr (O_bld1 0 Ty.cell169 rfl hS106 rfl (by rw [Nat.zero_add]; exact arr_at hl71 hy125)) ?_;obtain ⟨hp126, hy126⟩ := ix_some hx120;refine qr (O_ixA Tryz.underlying172 Ty.size169 rfl rfl hp126 (arr_lt hl71 hy126)) ?_;obtain ⟨_, hy127⟩ := ix_some hx120;refine qr (O_bld1 0 Ty.cell169 rfl hS106 rfl (by rw [Nat.zero_add]; exact arr_at hl71 hy127)) ?_;obtain ⟨hp128, hy128⟩ := ix_some hx121;refine qr (O_ixA Tryz.underlying172 Ty.size169 rfl rfl hp128 (arr_lt hl71 hy128)) ?_;obtain ⟨_, hy129⟩ := ix_some hx121;refine qr (O_bld1 0 Ty.cell169 rfl hS106 rfl (by rw [Nat.zero_add]; exact arr_at hl71 hy129)) ?_;refine qc ?_;refine qr (O_bin rfl rfl (congrArg (fun z => some (Val.i .u32 z)) (u32_add x121 ((((x86 + ((r80 ^^^ r81) ^^^ r82)) + ((x74 &&& x87) ^^^ ((~~~x74) &&& x88))) + x89) + x91)))) ?_;refine qc ?_;obtain ⟨hp130, hy130⟩ := ix_some hx122;refine qr (O_ixA Tryz.underlying172 Ty.size169 rfl rfl hp130 (arr_lt hl71 hy130)) ?_;obtain ⟨_, hy131⟩ := ix_some hx122;refine qr (O_bld1 0 Ty.cell169 rfl hS106 rfl (by rw [Nat.zero_add]; exact arr_at hl71 hy131)) ?_;obtain ⟨hp132, hy132⟩ := ix_some hx123;refine qr (O_ixA Tryz.underlying172 Ty.size169 rfl rfl hp132 (arr_lt hl71 hy132)) ?_;obtain ⟨_, hy133⟩ := ix_some hx123;refine qr (O_bld1 0 Ty.cell169 rfl hS106 rfl (by rw [Nat.zero_add]; exact arr_at hl71 hy133)) ?_;refine qr (O_buildA (vs := [(0, .i .u32 ((((((x86 + ((r80 ^^^ r81) ^^^ r82)) + ((x74 &&& x87) ^^^ ((~~~x74) &&& x88))) + x89) + x91) + (((r101 ^^^ r102) ^^^ r103) + (((x75 &&& x107) ^^^ (x75 &&& x108)) ^^^ (x109 &&& x110)))).toNat : Int)), (1, .i .u32 (x75.toNat : Int)), (2, .i .u32 (x119.toNat : Int)), (3, .i .u32 (x120.toNat : Int)), (4, .i .u32 ((x121 + ((((x86 + ((r80 ^^^ r81) ^^^ r82)) + ((x74 &&& x87) ^^^ ((~~~x74) &&& x88))) + x89) + x91)).toNat : Int)), (5, .i .u32 (x74.toNat : Int)), (6, .i .u32 (x122.toNat : Int)), (7, .i .u32 (x123.toNat : Int))]) (v := .agg (arrC 8 cW 0 ([(((((x86 + ((r80 ^^^ r81) ^^^ r82)) + ((x74 &&& x87) ^^^ ((~~~x74) &&& x88))) + x89) + x91) + (((r101 ^^^ r102) ^^^ r103) + (((x75 &&& x107) ^^^ (x75 &&& x108)) ^^^ (x109 &&& x110)))), x75, x119, x120, (x121 + ((((x86 + ((r80 ^^^ r81) ^^^ r82)) + ((x74 &&& x87) ^^^ ((~~~x74) &&& x88))) + x89) + x91)), x74, x122, x123] : List UInt32))) Ty.blda172 rfl rfl) ?_
         refine um (E_bst (c := arrC 8 cW 0 ([(((((x86 + ((r80 ^^^ r81) ^^^ r82)) + ((x74 &&& x87) ^^^ ((~~~x74) &&& x88))) + x89) + x91) + (((r101 ^^^ r102) ^^^ r103) + (((x75 &&& x107) ^^^ (x75 &&& x108)) ^^^ (x109 &&& x110)))), x75, x119, x120, (x121 + ((((x86 + ((r80 ^^^ r81) ^^^ r82)) + ((x74 &&& x87) ^^^ ((~~~x74) &&& x88))) + x89) + x91)), x74, x122, x123] : List UInt32)) 0 (arrC 8 cW 0 ([(((((x86 + ((r80 ^^^ r81) ^^^ r82)) + ((x74 &&& x87) ^^^ ((~~~x74) &&& x88))) + x89) + x91) + (((r101 ^^^ r102) ^^^ r103) + (((x75 &&& x107) ^^^ (x75 &&& x108)) ^^^ (x109 &&& x110)))), x75, x119, x120, (x121 + ((((x86 + ((r80 ^^^ r81) ^^^ r82)) + ((x74 &&& x87) ^^^ ((~~~x74) &&& x88))) + x89) + x91)), x74, x122, x123] : List UInt32)) rfl rfl hS106 rfl rfl Ty.size172 rfl rfl rfl) ?_;rintro _ w134 hS134;refine W_nil ?_;refine N_block ?_;refine N_code ?_;refine qd ?_;refine q2 ?_;refine W_nil ?_;exact N_againM (wr (i69 + 1), ([(((((x86 + ((r80 ^^^ r81) ^^^ r82)) + ((x74 &&& x87) ^^^ ((~~~x74) &&& x88))) + x89) + x91) + (((r101 ^^^ r102) ^^^ r103) + (((x75 &&& x107) ^^^ (x75 &&& x108)) ^^^ (x109 &&& x110)))), x75, x119, x120, (x121 + ((((x86 + ((r80 ^^^ r81) ^^^ r82)) + ((x74 &&& x87) ^^^ ((~~~x74) &&& x88))) + x89) + x91)), x74, x122, x123] : List UInt32)) _ H ⟨F68, rfl, le68, rfl, hS134⟩ ⟨rfl, rfl, rfl, rfl, rfl, rfl, rfl, trivial⟩
        ·rw [if_f hc73] at H;refine C_exit _ rfl ?_;exact N_join _ ⟨s70, H, ⟨F68, rfl, le68, hl71, hS68.pick [0, 2, 3, 4] (by decide)⟩⟩ ⟨rfl, rfl, rfl, rfl, rfl, trivial⟩
      ·rintro E w50 ⟨s51, H, F50, rfl, le50, hl52, hS50⟩;dsimp only [sha_Sum.k7] at H;refine qs ?_;refine qm ?_;refine C_block ?_;refine C_loopM (fun (s : Int × (List UInt32)) E wq => ∃ (F53 : Frz), E = [(2, pl g1 0), (4, pl g4 0), (5, ur6_0), (6, u33), (13, pl g48 0), (175, .i .i64 s.1)] ∧ F50.le F53 ∧ (s.2).length = 8 ∧ St [] w F F53 [.box g48 (arrC 8 cW 0 s51), .row tW ur6_0 r6, .box g4 (arrC 8 cW 0 s.2), .box g1 (idCells (List.replicate 32 (0 : UInt8)))] wq) H ?_ ?_
       ·exact ⟨_, ⟨F50, rfl, (Frz.le.refl _), hl36, hS50⟩, ⟨rfl, rfl, rfl, rfl, rfl, rfl, trivial⟩⟩
       ·rintro rec57 ⟨i54, s55⟩ E w53 hI H
        try dsimp only at hI
        obtain ⟨F53, rfl, le53, hl56, hS53⟩ := hI;dsimp only [sha_Sum.l8] at H;refine qs ?_;refine qr (O_bin rfl rfl bI_lss) ?_;refine qn ?_;refine C_seq ?_;refine C_cond rfl (fun hc58 => ?_) (fun hc58 => ?_)
        ·rw [if_t hc58] at H;refine qk ?_;refine C_seq ?_;refine C_block ?_;refine qs ?_;refine qc ?_;refine qm ?_;obtain ⟨x59, hx59, H⟩ := bd_some H;obtain ⟨x60, hx60, H⟩ := bd_some H;obtain ⟨x61, hx61, H⟩ := bd_some H;refine C_regionD (G := F53) [0, 1, 2, 3, 4, 5, 6, 7, 8] rfl Ty.mixed (by kernel_rfl) hS53.agree ?_;refine qc ?_;obtain ⟨hp62, hy62⟩ := ix_some hx59;refine qr (O_ixA Tryz.underlying172 Ty.size169 rfl rfl hp62 (arr_lt hl56 hy62)) ?_;obtain ⟨_, hy63⟩ := ix_some hx59;refine qq (O_bld1 2 Ty.cell169 rfl hS53 rfl (by rw [Nat.zero_add]; exact arr_at hl56 hy63)) ?_;refine qc ?_;obtain ⟨hp64, hy64⟩ := ix_some hx60;refine qr (O_ixA Tryz.underlying172 Ty.size169 rfl rfl hp64 (arr_lt hl52 hy64)) ?_;obtain ⟨_, hy65⟩ := ix_some hx60;refine qq (O_bld1 0 Ty.cell169 rfl hS53 rfl (by rw [Nat.zero_add]; exact arr_at hl52 hy65)) ?_;refine qr (O_bin rfl rfl (congrArg (fun z => some (Val.i .u32 z)) (u32_add x59 x60))) ?_;obtain ⟨hp66, hy66⟩ := ix_some hx61;refine qr (O_ixA Tryz.underlying172 Ty.size169 rfl rfl hp66 (arr_lt hl56 hy66)) ?_;refine qu (E_bsti (cs' := arrC 8 cW 0 (s55.set i54.toNat (x59 + x60))) 2 rfl rfl hS53 rfl rfl Ty.size169 (by rw [arrC_len, Nat.zero_add]; exact (arr_lt hl56 hy66)) (arr_put hl56 (arr_lt hl56 hy66) _)) ?_;rintro _ w67 hS67;refine Nxt.frz (Frz.le.refl _) hS67.agree ?_;refine W_nil ?_;refine N_block ?_;refine N_code ?_;refine qd ?_;refine q2 ?_;refine W_nil ?_;exact N_againM (wr (i54 + 1), (s55.set i54.toNat (x59 + x60))) _ H ⟨F53, rfl, le53, (by rw [List.length_set]; exact hl56), hS67⟩ ⟨rfl, rfl, rfl, rfl, rfl, rfl, trivial⟩
        ·rw [if_f hc58] at H;refine C_exit _ rfl ?_;refine N_block ?_;exact N_join _ ⟨s55, H, ⟨F53, rfl, ((le45.trans le50).trans le53), hl56, hS53.pick [1, 2, 3] (by decide)⟩⟩ ⟨rfl, rfl, rfl, rfl, trivial⟩
    ·rintro E w39 ⟨s40, H, F39, rfl, le39, hl41, hS39⟩;dsimp only [sha_Sum.k5] at H;obtain ⟨l42, hl42, H⟩ := bd_some H;refine qd ?_;refine qc ?_;refine W_cutF 64 (l32.length : Int) rfl rfl rfl rfl Tryz.underlying47 Ty.size5 rfl (.inr ⟨_, _, rfl, rfl⟩) (.inl ⟨rfl, rfl⟩) hx34 hl42 ?_;intro q43 hv43;refine qc ?_;refine W_nil ?_;exact N_againM (l42, s40) _ H ⟨F39, q43, rfl, (le31.trans le39), (hv43.mono le39), hl41, hS39⟩ ⟨rfl, rfl, rfl, rfl, trivial⟩
   ·rw [if_f hc38] at H;refine C_exit _ rfl ?_;exact N_join _ ⟨s35, H, ⟨F31, rfl, le31, hl36, hS31.pick [1, 2] (by decide)⟩⟩ ⟨rfl, rfl, trivial⟩
 ·rintro E w8 ⟨s9, H, F8, rfl, le8, hl10, hS8⟩;dsimp only [sha_Sum.k1] at H;refine qs ?_;refine xm (E_alc (cs := idCells (List.replicate 32 (0 : UInt8))) Ty.zero58 rfl hS8) ?_;rintro _ w11 ⟨g11, rfl, hS11⟩;refine qn ?_;refine C_seq_join (fun E wq => ∃ s13 : List UInt8, sha_Sum.k2 s13 = some r ∧ ∃ (F12 : Frz), E = [(2, pl g1 0), (22, pl g11 0)] ∧ F8.le F12 ∧ (s13).length = 32 ∧ St [] w F F12 [.box g11 (idCells s13), .box g1 (idCells (List.replicate 32 (0 : UInt8)))] wq) ?_ ?_
  ·refine qs ?_;refine qm ?_;refine C_block ?_;refine C_loopM (fun (s : Int × (List UInt8)) E wq => ∃ (F16 : Frz), E = [(2, pl g1 0), (4, pl g4 0), (22, pl g11 0), (187, .i .i64 s.1)] ∧ F8.le F16 ∧ (s.2).length = 32 ∧ St [] w F F16 [.box g11 (idCells s.2), .box g4 (arrC 8 cW 0 s9), .box g1 (idCells (List.replicate 32 (0 : UInt8)))] wq) H ?_ ?_
   ·exact ⟨_, ⟨F8, rfl, (Frz.le.refl _), (List.length_replicate), hS11⟩, ⟨rfl, rfl, rfl, rfl, trivial⟩⟩
   ·rintro rec20 ⟨i17, s18⟩ E w16 hI H
    try dsimp only at hI
    obtain ⟨F16, rfl, le16, hl19, hS16⟩ := hI;dsimp only [sha_Sum.l3] at H;refine qs ?_;refine qr (O_bin rfl rfl bI_lss) ?_;refine qn ?_;refine C_seq ?_;refine C_cond rfl (fun hc21 => ?_) (fun hc21 => ?_)
    ·rw [if_t hc21] at H;refine qk ?_;refine C_seq ?_;refine C_block ?_;refine qs ?_;refine qc ?_;refine qm ?_;obtain ⟨x22, hx22, H⟩ := bd_some H;obtain ⟨x23, hx23, H⟩ := bd_some H;obtain ⟨x24, hx24, H⟩ := bd_some H;refine qd ?_;refine q2 ?_;refine qr (O_bin rfl rfl (by first | rfl | simp [binV, ibin])) ?_;obtain ⟨hp25, hy25⟩ := ix_some hx22;refine qr (O_ixA Tryz.underlying172 Ty.size169 rfl rfl hp25 (arr_lt hl10 hy25)) ?_;obtain ⟨_, hy26⟩ := ix_some hx22;refine qr (O_bld1 1 Ty.cell169 rfl hS16 rfl (by rw [Nat.zero_add]; exact arr_at hl10 hy26)) ?_;refine qc ?_;refine qr (O_bin rfl rfl (by first | rfl | simp [binV, ibin])) ?_;refine q2 ?_;refine qr (O_bin rfl rfl (bW_shr hx23)) ?_;refine qr (O_conv Tryz.underlying169 Tryz.underlying5 rfl (u32_u8 _)) ?_;obtain ⟨hp27, hy27⟩ := ix_some hx24;refine qr (O_ixA Tryz.underlying58 Ty.size5 rfl rfl hp27 (arr_lt hl19 hy27)) ?_;refine um (E_bsti (cs' := idCells (s18.set i17.toNat x23.toUInt8)) 0 rfl rfl hS16 rfl rfl Ty.size5 (by rw [idCells_len, Nat.zero_add]; exact (arr_lt hl19 hy27)) (id_put hl19 (arr_lt hl19 hy27) _)) ?_;rintro _ w28 hS28;refine W_nil ?_;refine N_block ?_;refine N_code ?_;refine qd ?_;refine q2 ?_;refine W_nil ?_;exact N_againM (wr (i17 + 1), (s18.set i17.toNat x23.toUInt8)) _ H ⟨F16, rfl, le16, (by rw [List.length_set]; exact hl19), hS28⟩ ⟨rfl, rfl, rfl, rfl, trivial⟩
    ·rw [if_f hc21] at H;refine C_exit _ rfl ?_;exact N_join _ ⟨s18, H, ⟨F16, rfl, le16, hl19, hS16.pick [0, 2] (by decide)⟩⟩ ⟨rfl, rfl, trivial⟩
  ·rintro E w12 ⟨s13, H, F12, rfl, le12, hl14, hS12⟩;dsimp only [sha_Sum.k2] at H;refine qs ?_;refine qr (O_bldg 0 (idCells s13) Ty.agg58 Ty.size58 (Nat.zero_lt_succ _) rfl hS12 rfl (fun q u h => sub_at (post := []) rfl h)) ?_;refine um (E_bst (c := idCells s13) 1 (idCells s13) rfl rfl hS12 rfl rfl Ty.size58 rfl rfl rfl) ?_;rintro _ w15 hS15;refine qn ?_;obtain rfl := oi H;refine C_retM (vs := [.agg (idCells s13)]) rfl ⟨(box_out 1 Ty.agg58 Ty.size58 hS15 rfl rfl), trivial⟩ ?_;exact ⟨F12, rfl, hl14, hS15.pick [] (by decide)⟩
def catalog_order (x0 : List UInt8) (x1 : List UInt8) : Option Int :=
  bd (bytes_Compare x0 x1) fun r7 =>
  some r7
set_option maxRecDepth 100000 in
theorem catalog_order_ok {K : Tb} [Kn (KExt Tryz.prog) K] {F : Frz} {w : Hp} {x0 : List UInt8} {x1 : List UInt8} {r : Int} (hA : Gd F w) (h0 : x0.length = 32) (h1 : x1.length = 32) (H : catalog_order x0 x1 = some r) : Ret Tryz.prog K 122 [.agg (idCells x0), .agg (idCells x1)] w fun v w' => ∃ (F' : Frz), v = .i .i64 r ∧ St [] w F F' [] w' := by
 refine qa2 Tryz.func122 ?_;have hS := St.start hA;dsimp only [catalog_order] at H;refine qs ?_;refine xm (E_bx (cs := idCells x0) rfl rfl rfl hS) ?_;rintro _ w1 ⟨g1, rfl, hS1⟩;refine xm (E_bx (cs := idCells x1) rfl rfl rfl hS1) ?_;rintro _ w2 ⟨g2, rfl, hS2⟩;refine qm ?_;refine C_seq ?_;obtain ⟨F3, le3, hbx3, hS3⟩ := hS2.freezeB 1 [0] rfl (by decide) (by decide);obtain ⟨F4, le4, hbx4, hS4⟩ := hS3.freezeB 0 [] rfl (by decide) (by decide);obtain ⟨r7, hr7, H⟩ := bd_some H;refine C_regionD (G := F4) [0, 1, 2, 3] rfl Ty.mixed (by kernel_rfl) hS4.agree ?_;refine W_slB rfl rfl rfl rfl Tryz.underlying58 Ty.size5 rfl (hbx3.at (fun q u h => by simpa using h)) h0 ?_;intro q5 hv5;refine W_slB rfl rfl rfl rfl Tryz.underlying58 Ty.size5 rfl (hbx4.at (fun q u h => by simpa using h)) h1 ?_;intro q6 hv6;refine ql (bytes_Compare_ok hS4.good (hv5.mono le4) hv6 hr7) ?_;rintro v8 w8 ⟨Fr7, rfl, hT8⟩;have hS8 := hS4.lent hT8;refine Nxt.frz (Frz.le.refl _) hS8.agree ?_;refine qm ?_;obtain rfl := oi H;refine C_ret rfl rfl ?_;exact ⟨F4, rfl, hS8⟩
def catalog_Place_1 (x0 : Chunk) (x1 : List UInt8) : Option Int :=
  bd (catalog_order x0.id x1) fun r3 =>
  some r3
set_option maxRecDepth 100000 in
theorem catalog_Place_1_ok {K : Tb} [Kn (KExt Tryz.prog) K] {F : Frz} {w : Hp} {x0 : Chunk} {x1 : List UInt8} {r : Int} {v0_0 : Val} {v0_1 : Val} (hA : Gd F w) (h0_0 : SlF tB F v0_0 x0.data) (h0_1 : SlF Loc.t F v0_1 x0.locs) (l0_0 : (x0.id).length = 32) (h1 : x1.length = 32) (H : catalog_Place_1 x0 x1 = some r) : Ret Tryz.prog K 135 [.agg (Chunk.cells x0 v0_0 v0_1), .agg (idCells x1)] w fun v w' => ∃ (F' : Frz), v = .i .i64 r ∧ St [] w F F' [] w' := by
 refine qa2 Tryz.func135 ?_;have hS := St.start hA;dsimp only [catalog_Place_1] at H;refine qs ?_;refine xm (E_bx (cs := idCells x0.id ++ [.b x0.staged, v0_0, v0_1]) rfl rfl (by simp only [List.all_cons, List.all_nil, List.all_append, h0_0.ln.one, h0_1.ln.one]; rfl) hS) ?_;rintro _ w1 ⟨g1, rfl, hS1⟩;refine xm (E_bx (cs := idCells x1) rfl rfl rfl hS1) ?_;rintro _ w2 ⟨g2, rfl, hS2⟩;refine qm ?_;refine C_seq ?_;obtain ⟨r3, hr3, H⟩ := bd_some H;refine qd ?_;refine qf Ty.field60_0 ?_;refine qr (O_bldg 1 (idCells x0.id) Ty.agg58 Ty.size58 (Nat.zero_lt_succ _) rfl hS2 rfl (fun q u h => sub_at (post := [.b x0.staged, v0_0, v0_1]) rfl h)) ?_;refine qr (O_bldg 0 (idCells x1) Ty.agg58 Ty.size58 (Nat.zero_lt_succ _) rfl hS2 rfl (fun q u h => sub_at (post := []) rfl h)) ?_;refine lm (catalog_order_ok hS2.good l0_0 h1 hr3) ?_;rintro v4 w4 ⟨Fr3, rfl, hT4⟩;have hS4 := hS2.lent hT4;refine qm ?_;obtain rfl := oi H;refine C_ret rfl rfl ?_;exact ⟨F, rfl, hS4.pick [] (by decide)⟩
def slices_BinarySearchFunc_api_Chunk_api_Chunk_32_byte_catalog_Place_1.k1 (x0 : List Chunk) (x1 : List UInt8) (i3 : Int) : Option (Int × Bool) :=
  bd (only (decide (i3 < (x0.length : Int))) (ix x0 i3) (Chunk.mk (List.replicate 32 (0 : UInt8)) false [] [])) fun x4 =>
  bd (only (decide (i3 < (x0.length : Int))) (catalog_Place_1 x4 x1) 0) fun r6 =>
  some (i3, (decide (i3 < (x0.length : Int)) && decide (r6 = 0)))
def slices_BinarySearchFunc_api_Chunk_api_Chunk_32_byte_catalog_Place_1.l2 (x0 : List Chunk) (x1 : List UInt8) (rec16 : (Int × Int) → Option (Int × Bool)) : (Int × Int) → Option (Int × Bool)
  | (i14, i15) =>
    if decide (i14 < i15) then
      bd (ix x0 (wr ((wu (wr (i14 + i15))) / 2 ^ (1 : Int).toNat))) fun x18 =>
      bd (catalog_Place_1 x18 x1) fun r20 =>
      if decide (r20 < 0) then
        rec16 (wr (wr ((wu (wr (i14 + i15))) / 2 ^ (1 : Int).toNat) + 1), i15)
      else
        rec16 (i14, wr ((wu (wr (i14 + i15))) / 2 ^ (1 : Int).toNat))
    else
      slices_BinarySearchFunc_api_Chunk_api_Chunk_32_byte_catalog_Place_1.k1 x0 x1 i14
def slices_BinarySearchFunc_api_Chunk_api_Chunk_32_byte_catalog_Place_1 (x0 : List Chunk) (x1 : List UInt8) : Option (Int × Bool) :=
  loop (slices_BinarySearchFunc_api_Chunk_api_Chunk_32_byte_catalog_Place_1.l2 x0 x1) (0, (x0.length : Int))
set_option maxRecDepth 100000 in
theorem slices_BinarySearchFunc_api_Chunk_api_Chunk_32_byte_catalog_Place_1_ok {K : Tb} [Kn (KExt Tryz.prog) K] {F : Frz} {w : Hp} {x0 : List Chunk} {x1 : List UInt8} {r : Int × Bool} {v0 : Val} (hA : Gd F w) (h0 : SlF Chunk.t F v0 x0) (h1 : x1.length = 32) (H : slices_BinarySearchFunc_api_Chunk_api_Chunk_32_byte_catalog_Place_1 x0 x1 = some r) : Ret Tryz.prog K 134 [v0, .agg (idCells x1), .f 135 []] w fun v w' => ∃ (F' : Frz), v = .tup [.i .i64 r.1, .b r.2] ∧ St [] w F F' [] w' := by
 refine qa3 Tryz.func134 ?_;have hS := St.start hA;dsimp only [slices_BinarySearchFunc_api_Chunk_api_Chunk_32_byte_catalog_Place_1] at H;refine qs ?_;refine xm (E_bx (cs := idCells x1) rfl rfl rfl hS) ?_;rintro _ w1 ⟨g1, rfl, hS1⟩;refine qc ?_;refine qm ?_;refine qs ?_;refine qc ?_;refine qr (O_len Tryz.underlying35 rfl h0.ln) ?_;refine qm ?_;refine qs ?_;refine q2 ?_;refine qm ?_;refine C_seq_join (fun E wq => ∃ i3 : Int, slices_BinarySearchFunc_api_Chunk_api_Chunk_32_byte_catalog_Place_1.k1 x0 x1 i3 = some r ∧ ∃ (F2 : Frz), E = [(0, v0), (2, .f 135 []), (4, pl g1 0), (8, .i .i64 (x0.length : Int)), (9, .i .i64 i3)] ∧ F.le F2 ∧ St [] w F F2 [.box g1 (idCells x1)] wq) ?_ ?_
 ·refine C_block ?_;refine C_loopM (fun (s : Int × Int) E wq => ∃ (F13 : Frz), E = [(0, v0), (2, .f 135 []), (4, pl g1 0), (8, .i .i64 (x0.length : Int)), (9, .i .i64 s.1), (10, .i .i64 s.2)] ∧ F.le F13 ∧ St [] w F F13 [.box g1 (idCells x1)] wq) H ?_ ?_
  ·exact ⟨_, ⟨F, rfl, (Frz.le.refl _), hS1⟩, ⟨rfl, rfl, rfl, rfl, rfl, rfl, trivial⟩⟩
  ·rintro rec16 ⟨i14, i15⟩ E w13 hI H
   try dsimp only at hI
   obtain ⟨F13, rfl, le13, hS13⟩ := hI;dsimp only [slices_BinarySearchFunc_api_Chunk_api_Chunk_32_byte_catalog_Place_1.l2] at H;refine C_seq ?_;refine qs ?_;refine q2 ?_;refine qr (O_bin rfl rfl bI_lss) ?_;refine qn ?_;refine C_cond rfl (fun hc17 => ?_) (fun hc17 => ?_)
   ·rw [if_t hc17] at H;refine qk ?_;refine C_block ?_;refine qs ?_;refine q3 ?_;refine qr (O_conv Tryz.underlying3 Tryz.underlying26 rfl (rfl)) ?_;refine qr (O_bin rfl rfl (bI_shr (by decide) (by decide))) ?_;refine qr (O_conv Tryz.underlying26 Tryz.underlying3 rfl (rfl)) ?_;refine qm ?_;refine C_seq ?_;obtain ⟨x18, hx18, H⟩ := bd_some H;obtain ⟨r20, hr20, H⟩ := bd_some H;refine C_regionD (G := F13) [0, 1, 2, 3, 4, 5, 6, 7] rfl Ty.mixed (by kernel_rfl) hS13.agree ?_;refine q3 ?_;obtain ⟨hp21, hy21⟩ := ix_some hx18;obtain ⟨cs21, hr21, he21⟩ := (h0.mono le13).el hy21;obtain ⟨ue19_0, ue19_1, rfl, hle19_0, hue19_0, hue19_1⟩ := hr21;replace he21 : Elf _ _ 35 _ _ := he21;have hi21 := he21.ixd;refine qi Tryz.underlying35 Ty.size60 hi21 hp21 ?_;refine qq (O_ldg 0 (Chunk.cells x18 ue19_0 ue19_1) Ty.agg60 Ty.size60 rfl (he21.mono hS13.agree) (by omega) rfl (Nat.le_of_ble_eq_true rfl)) ?_;refine qq (O_bldg 0 (idCells x1) Ty.agg58 Ty.size58 (Nat.zero_lt_succ _) rfl hS13 rfl (fun q u h => sub_at (post := []) rfl h)) ?_;refine ql (catalog_Place_1_ok hS13.good hue19_0 hue19_1 hle19_0 h1 hr20) ?_;rintro v22 w22 ⟨Fr20, rfl, hT22⟩;have hS22 := hS13.lent hT22;refine Nxt.frz (Frz.le.refl _) hS22.agree ?_;refine qr (O_bin rfl rfl bI_lss) ?_;refine qn ?_;refine C_cond rfl (fun hc23 => ?_) (fun hc23 => ?_)
    ·rw [if_t hc23] at H;refine qd ?_;refine q3 ?_;refine W_nil ?_;refine N_block ?_;exact N_againM (wr (wr ((wu (wr (i14 + i15))) / 2 ^ (1 : Int).toNat) + 1), i15) _ H ⟨F13, rfl, le13, hS22⟩ ⟨rfl, rfl, rfl, rfl, rfl, rfl, trivial⟩
    ·rw [if_f hc23] at H;refine qd ?_;refine q2 ?_;refine W_nil ?_;refine N_block ?_;exact N_againM (i14, wr ((wu (wr (i14 + i15))) / 2 ^ (1 : Int).toNat)) _ H ⟨F13, rfl, le13, hS22⟩ ⟨rfl, rfl, rfl, rfl, rfl, rfl, trivial⟩
   ·rw [if_f hc17] at H;refine C_exit _ rfl ?_;exact N_join _ ⟨i14, H, ⟨F13, rfl, le13, hS13⟩⟩ ⟨rfl, rfl, rfl, rfl, rfl, trivial⟩
 ·rintro E w2 ⟨i3, H, F2, rfl, le2, hS2⟩;dsimp only [slices_BinarySearchFunc_api_Chunk_api_Chunk_32_byte_catalog_Place_1.k1] at H;refine C_seq ?_;obtain ⟨x4, hx4, H⟩ := bd_some H;obtain ⟨r6, hr6, H⟩ := bd_some H;refine C_join (fun E wq => E = [(6, .i .i64 i3), (7, .b (decide (i3 < (x0.length : Int)) && decide (r6 = 0)))] ∧ ∃ F7 : Frz, F2.le F7 ∧ St [] w F F7 [.box g1 (idCells x1)] wq) ?_ ?_
  ·
   rcases Bool.eq_false_or_eq_true (decide (i3 < (x0.length : Int))) with hb8 | hb8
   ·refine C_regionD (G := F2) [0, 1, 2, 3, 4, 5, 6, 7, 8, 9, 10, 11, 12, 13, 14, 15] rfl Ty.mixed (by kernel_rfl) hS2.agree ?_;refine q3 ?_;refine qr (O_bin rfl rfl bI_lss) ?_;refine qc ?_;refine W_eqv (t := 39) (v' := .b true) rfl (congrArg Val.b hb8) ?_;refine q3 ?_;have hy9 := hx4;rw [only_t hb8] at hy9;obtain ⟨hp10, hy10⟩ := ix_some hy9;obtain ⟨cs10, hr10, he10⟩ := (h0.mono le2).el hy10;obtain ⟨ue5_0, ue5_1, rfl, hle5_0, hue5_0, hue5_1⟩ := hr10;replace he10 : Elf _ _ 35 _ _ := he10;have hi10 := he10.ixd;refine qi Tryz.underlying35 Ty.size60 hi10 hp10 ?_;refine qq (O_ldg 0 (Chunk.cells x4 ue5_0 ue5_1) Ty.agg60 Ty.size60 rfl (he10.mono hS2.agree) (by omega) rfl (Nat.le_of_ble_eq_true rfl)) ?_;refine qq (O_bldg 0 (idCells x1) Ty.agg58 Ty.size58 (Nat.zero_lt_succ _) rfl hS2 rfl (fun q u h => sub_at (post := []) rfl h)) ?_;have hy11 := hr6;rw [only_t hb8] at hy11;refine ql (catalog_Place_1_ok hS2.good hue5_0 hue5_1 hle5_0 h1 hy11) ?_;rintro v12 w12 ⟨Fr6, rfl, hT12⟩;have hS12 := hS2.lent hT12;refine Nxt.frz (Frz.le.refl _) hS12.agree ?_;refine qr (O_bin rfl rfl bI_eql) ?_;refine q3 ?_;refine W_nil ?_;exact N_join _ ⟨rfl, F2, (Frz.le.refl _), hS12⟩ ⟨rfl, (look_bool rfl (by first | rfl | (rw [hb8]; first | done | rfl) | simp [hb8])), trivial⟩
   ·refine C_regionD (G := F2) [0, 1, 2, 3, 4, 5, 6, 7, 8, 9, 10, 11, 12, 13, 14, 15] rfl Ty.mixed (by kernel_rfl) hS2.agree ?_;refine q3 ?_;refine qr (O_bin rfl rfl bI_lss) ?_;refine qc ?_;refine W_eqv (t := 39) (v' := .b false) rfl (congrArg Val.b hb8) ?_;refine qz ?_;refine qz ?_;refine qz ?_;refine qz ?_;refine qz ?_;refine qz ?_;refine qz ?_;refine qz ?_;refine q3 ?_;refine W_nil ?_;exact N_join _ ⟨rfl, F2, (Frz.le.refl _), hS2⟩ ⟨rfl, (look_bool rfl (by first | rfl | (rw [hb8]; first | done | rfl) | simp [hb8])), trivial⟩
  rintro E w7 ⟨rfl, F7, le7, hS7⟩;refine N_code ?_;obtain rfl := oi H;refine C_ret rfl rfl ?_;exact ⟨F7, rfl, hS7.pick [] (by decide)⟩
def catalog_Place (x0 : List Chunk) (x1 : List UInt8) : Option (Int × Bool) :=
  bd (slices_BinarySearchFunc_api_Chunk_api_Chunk_32_byte_catalog_Place_1 x0 x1) fun r2 =>
  some (r2.1, r2.2)
set_option maxRecDepth 100000 in
theorem catalog_Place_ok {K : Tb} [Kn (KExt Tryz.prog) K] {F : Frz} {w : Hp} {x0 : List Chunk} {x1 : List UInt8} {r : Int × Bool} {v0 : Val} (hA : Gd F w) (h0 : SlF Chunk.t F v0 x0) (h1 : x1.length = 32) (H : catalog_Place x0 x1 = some r) : Ret Tryz.prog K 85 [v0, .agg (idCells x1)] w fun v w' => ∃ (F' : Frz), v = .tup [.i .i64 r.1, .b r.2] ∧ St [] w F F' [] w' := by
 refine qa2 Tryz.func85 ?_;have hS := St.start hA;dsimp only [catalog_Place] at H;refine qs ?_;refine xm (E_bx (cs := idCells x1) rfl rfl rfl hS) ?_;rintro _ w1 ⟨g1, rfl, hS1⟩;refine qc ?_;refine qm ?_;refine C_seq ?_;obtain ⟨r2, hr2, H⟩ := bd_some H;refine qd ?_;refine qc ?_;refine qr (O_bldg 0 (idCells x1) Ty.agg58 Ty.size58 (Nat.zero_lt_succ _) rfl hS1 rfl (fun q u h => sub_at (post := []) rfl h)) ?_;refine lm (slices_BinarySearchFunc_api_Chunk_api_Chunk_32_byte_catalog_Place_1_ok hS1.good h0 h1 hr2) ?_;rintro v3 w3 ⟨Fr2, rfl, hT3⟩;have hS3 := hS1.lent hT3;refine q3 ?_;refine qm ?_;obtain rfl := oi H;refine C_ret rfl rfl ?_;exact ⟨F, rfl, hS3.pick [] (by decide)⟩
def manifest_reader_take_fz (x0 : ManifestReader) (x1 : Int) : Option ((List UInt8) × ManifestReader) :=
  if (x0.bad || decide ((x0.b.length : Int) < x1)) then
    bd (rep x1 0) fun l10 =>
    some (l10, (ManifestReader.mk x0.b true))
  else
    bd (cut (α := UInt8) x0.b 0 x1) fun l13 =>
    bd (cut (α := UInt8) x0.b x1 (x0.b.length : Int)) fun l15 =>
    some (l13, (ManifestReader.mk l15 x0.bad))
set_option maxRecDepth 100000 in
theorem manifest_reader_take_fz_ok {K : Tb} {F : Frz} {w : Hp} {X : List Nat} {x0 : ManifestReader} {x1 : Int} {r : (List UInt8) × ManifestReader} {gp0 : Nat} {v0_0 : Val} (hS : St X w F F [.box gp0 [v0_0, .b x0.bad]] w) (hv0_0 : SlF tB F v0_0 (x0.b)) (H : manifest_reader_take_fz x0 x1 = some r) : Ret Tryz.prog K 138 [pl gp0 0, .i .i64 x1] w fun v w' => ∃ (F' : Frz) (q0 : Val) (z0_0 : Val), v = q0 ∧ SlF tB F' q0 (r.1) ∧ SlF tB F' z0_0 (r.2.b) ∧ St X w F F' [.box gp0 [z0_0, .b r.2.bad]] w' := by
 refine qa2 Tryz.func138 ?_;dsimp only [manifest_reader_take_fz] at H;refine qs ?_;refine qm ?_;refine C_seq ?_;refine qs ?_;refine q2 ?_;refine qf Ty.field202_1 ?_;refine qb 0 Ty.cell4 hS ?_;refine qc ?_;refine W_gs (v := pl gp0 0) rfl rfl rfl rfl (fun ⟨hb1, _⟩ => ?_) ?_
 ·rw [hb1];intro hK;refine qc ?_;exact hK
 refine W_gs (v := pl gp0 0) rfl rfl rfl rfl (fun ⟨hb2, _⟩ => ?_) ?_
 ·rw [hb2];intro hK;refine qc ?_;exact hK
 refine W_gs (v := pl gp0 (0 + 0)) rfl rfl rfl rfl (fun ⟨hb3, _⟩ => ?_) ?_
 ·rw [hb3];intro hK;refine qf Ty.field202_0 ?_;exact hK
 refine W_gs (v := v0_0) rfl rfl rfl rfl (fun ⟨hb4, _⟩ => ?_) ?_
 ·rw [hb4];intro hK;refine qb 0 Ty.cell47 hS ?_;exact hK
 refine W_gs (v := .i .i64 (x0.b.length : Int)) rfl rfl rfl rfl (fun ⟨hb5, _⟩ => ?_) ?_
 ·rw [hb5];intro hK;refine qr (O_len Tryz.underlying47 rfl hv0_0.ln) ?_;exact hK
 refine W_gs (v := .i .i64 x1) rfl rfl rfl rfl (fun ⟨hb6, _⟩ => ?_) ?_
 ·rw [hb6];intro hK;refine qc ?_;exact hK
 refine W_gs (v := .b (decide ((x0.b.length : Int) < x1))) rfl rfl rfl rfl (fun ⟨hb7, _⟩ => ?_) ?_
 ·rw [hb7];intro hK;refine qr (O_bin rfl rfl bI_lss) ?_;exact hK
 refine W_pkO rfl rfl rfl rfl rfl rfl (fun hc => by rw [hc]; rfl) ?_;refine qn ?_;refine C_cond rfl (fun hc8 => ?_) (fun hc8 => ?_)
 ·rw [if_t hc8] at H;refine qs ?_;refine q2 ?_;refine qf Ty.field202_1 ?_;refine um (E_bst (c := [.b true]) 0 ([v0_0, .b true]) rfl rfl hS rfl rfl Ty.size4 rfl rfl rfl) ?_;rintro _ w9 hS9;refine qn ?_;refine C_seq ?_;obtain ⟨l10, hl10, H⟩ := bd_some H;refine qd ?_;refine qc ?_;refine xm (E_mk (t := tB) (x0 := 0) Tryz.underlying47 Ty.row5 rfl rfl (zero_rel Ty.zero5 rfl) hl10 hS9) ?_;rintro v11 w11 hS11;refine qm ?_;obtain ⟨F12, le12, hf12, hS12⟩ := hS11.freezeR 0 [1] rfl (by decide) (by decide);obtain rfl := oi H;refine C_ret rfl rfl ?_;exact ⟨F12, v11, v0_0, rfl, hf12, (hv0_0.mono le12), hS12⟩
 ·rw [if_f hc8] at H;refine qk ?_;refine C_seq ?_;obtain ⟨l13, hl13, H⟩ := bd_some H;refine qd ?_;refine q2 ?_;refine qf Ty.field202_0 ?_;refine qb 0 Ty.cell47 hS ?_;refine qc ?_;refine W_cutF 0 x1 rfl rfl rfl rfl Tryz.underlying47 Ty.size5 rfl (.inl ⟨rfl, rfl⟩) (.inr ⟨_, _, rfl, rfl⟩) hv0_0 hl13 ?_;intro q14 hv14;refine qm ?_;refine C_seq ?_;obtain ⟨l15, hl15, H⟩ := bd_some H;refine qd ?_;refine q3 ?_;refine qf Ty.field202_0 ?_;refine qb 0 Ty.cell47 hS ?_;refine qc ?_;refine W_cutF x1 (x0.b.length : Int) rfl rfl rfl rfl Tryz.underlying47 Ty.size5 rfl (.inr ⟨_, _, rfl, rfl⟩) (.inl ⟨rfl, rfl⟩) hv0_0 hl15 ?_;intro q16 hv16;refine qc ?_;refine qf Ty.field202_0 ?_;refine um (E_bst (c := [q16]) 0 ([q16, .b x0.bad]) rfl rfl hS rfl hv16.ln.cells Ty.size47 (by simp only [List.all_cons, List.all_nil, List.all_append, hv16.ln.one]; rfl) rfl rfl) ?_;rintro _ w17 hS17;refine qn ?_;refine qs ?_;refine qc ?_;refine qm ?_;obtain rfl := oi H;refine C_ret rfl rfl ?_;exact ⟨F, q14, q16, rfl, hv14, hv16, hS17⟩
def bin_Get.k1 (x1 : Int) (x2 : Int) (i12 : Int) : Option (Int × Int × Int) :=
  some (i12, wr (x1 + x2), 0)
def bin_Get.l2 (x1 : Int) (x2 : Int) (l13 : List UInt8) (rec18 : (Int × Int) → Option (Int × Int × Int)) : (Int × Int) → Option (Int × Int × Int)
  | (i16, i17) =>
    if decide (i17 < (l13.length : Int)) then
      bd (ix l13 i17) fun x20 =>
      rec18 (bits .or .i64 (wr (i16 * 2 ^ (8 : Int).toNat)) (x20.toNat : Int), wr (i17 + 1))
    else
      bin_Get.k1 x1 x2 i16
def bin_Get (x0 : List UInt8) (x1 : Int) (x2 : Int) : Option (Int × Int × Int) :=
  if (((decide (x2 < 1) || decide (7 < x2)) || decide (x1 < 0)) || decide ((x0.length : Int) < x1)) then
    some (0, 0, 1)
  else
    if decide (wr ((x0.length : Int) - x1) < x2) then
      some (0, 0, 3)
    else
      bd (cut (α := UInt8) x0 x1 (wr (x1 + x2))) fun l13 =>
      loop (bin_Get.l2 x1 x2 l13) (0, 0)
set_option maxRecDepth 100000 in
theorem bin_Get_ok {K : Tb} {F : Frz} {w : Hp} {x0 : List UInt8} {x1 : Int} {x2 : Int} {r : Int × Int × Int} {v0 : Val} (hA : Gd F w) (h0 : SlF tB F v0 x0) (H : bin_Get x0 x1 x2 = some r) : Ret Tryz.prog K 92 [v0, .i .i64 x1, .i .i64 x2] w fun v w' => ∃ (F' : Frz), v = .tup [.i .i64 r.1, .i .i64 r.2.1, .i .i64 r.2.2] ∧ St [] w F F' [] w' := by
 refine qa3 Tryz.func92 ?_;have hS := St.start hA;dsimp only [bin_Get] at H;refine qs ?_;refine q2 ?_;refine qm ?_;refine C_seq ?_;refine C_block ?_;refine qs ?_;refine qc ?_;refine qr (O_bin rfl rfl bI_lss) ?_;refine qc ?_;refine W_gs (v := .i .i64 x2) rfl rfl rfl rfl (fun ⟨hb1, _⟩ => ?_) ?_
 ·rw [hb1];intro hK;refine qc ?_;exact hK
 refine W_gs (v := .b (decide (7 < x2))) rfl rfl rfl rfl (fun ⟨hb2, _⟩ => ?_) ?_
 ·rw [hb2];intro hK;refine qr (O_bin rfl rfl bI_gtr) ?_;exact hK
 refine W_pkO rfl rfl rfl rfl rfl rfl (fun hc => by rw [hc]; rfl) ?_;refine qc ?_;refine W_gs (v := .i .i64 x1) rfl rfl rfl rfl (fun ⟨hb3, _⟩ => ?_) ?_
 ·rw [hb3];intro hK;refine qc ?_;exact hK
 refine W_gs (v := .b (decide (x1 < 0))) rfl rfl rfl rfl (fun ⟨hb4, _⟩ => ?_) ?_
 ·rw [hb4];intro hK;refine qr (O_bin rfl rfl bI_lss) ?_;exact hK
 refine W_pkO rfl rfl rfl rfl rfl rfl (fun hc => by rw [hc]; rfl) ?_;refine qc ?_;refine W_gs (v := .i .i64 x1) rfl rfl rfl rfl (fun ⟨hb5, _⟩ => ?_) ?_
 ·rw [hb5];intro hK;refine qc ?_;exact hK
 refine W_gs (v := v0) rfl rfl rfl rfl (fun ⟨hb6, _⟩ => ?_) ?_
 ·rw [hb6];intro hK;refine qc ?_;exact hK
 refine W_gs (v := .i .i64 (x0.length : Int)) rfl rfl rfl rfl (fun ⟨hb7, _⟩ => ?_) ?_
 ·rw [hb7];intro hK;refine qr (O_len Tryz.underlying47 rfl h0.ln) ?_;exact hK
 refine W_gs (v := .b (decide ((x0.length : Int) < x1))) rfl rfl rfl rfl (fun ⟨hb8, _⟩ => ?_) ?_
 ·rw [hb8];intro hK;refine qr (O_bin rfl rfl bI_gtr) ?_;exact hK
 refine W_pkO rfl rfl rfl rfl rfl rfl (fun hc => by rw [hc]; rfl) ?_;refine qm ?_;refine C_cond rfl (fun hc9 => ?_) (fun hc9 => ?_)
 ·rw [if_t hc9] at H;refine qs ?_;refine q2 ?_;refine qm ?_;obtain rfl := oi H;refine C_ret rfl rfl ?_;exact ⟨F, rfl, hS⟩
 ·rw [if_f hc9] at H;refine qs ?_;refine qc ?_;refine qr (O_len Tryz.underlying47 rfl h0.ln) ?_;refine q3 ?_;refine qr (O_bin rfl rfl bI_lss) ?_;refine qm ?_;refine C_cond rfl (fun hc10 => ?_) (fun hc10 => ?_)
  ·rw [if_t hc10] at H;refine qs ?_;refine q2 ?_;refine qm ?_;obtain rfl := oi H;refine C_ret rfl rfl ?_;exact ⟨F, rfl, hS⟩
  ·rw [if_f hc10] at H;refine C_skip ?_;refine N_block ?_;refine N_code ?_;refine C_seq_join (fun E wq => ∃ i12 : Int, bin_Get.k1 x1 x2 i12 = some r ∧ ∃ (F11 : Frz), E = [(1, .i .i64 x1), (2, .i .i64 x2), (6, .i .i64 i12)] ∧ F.le F11 ∧ St [] w F F11 [] wq) ?_ ?_
   ·refine C_seq ?_;obtain ⟨l13, hl13, H⟩ := bd_some H;refine qd ?_;refine q4 ?_;refine qc ?_;refine W_cutF x1 (wr (x1 + x2)) rfl rfl rfl rfl Tryz.underlying47 Ty.size5 rfl (.inr ⟨_, _, rfl, rfl⟩) (.inr ⟨_, _, rfl, rfl⟩) h0 hl13 ?_;intro q14 hv14;refine qr (O_len Tryz.underlying47 rfl hv14.ln) ?_;refine qm ?_;refine C_block ?_;refine C_loopM (fun (s : Int × Int) E wq => ∃ (F15 : Frz), E = [(1, .i .i64 x1), (2, .i .i64 x2), (6, .i .i64 s.1), (40, q14), (41, .i .i64 (l13.length : Int)), (42, .i .i64 s.2)] ∧ F.le F15 ∧ St [] w F F15 [] wq) H ?_ ?_
    ·exact ⟨_, ⟨F, rfl, (Frz.le.refl _), hS⟩, ⟨rfl, rfl, rfl, rfl, rfl, rfl, trivial⟩⟩
    ·rintro rec18 ⟨i16, i17⟩ E w15 hI H
     try dsimp only at hI
     obtain ⟨F15, rfl, le15, hS15⟩ := hI;dsimp only [bin_Get.l2] at H;refine qs ?_;refine qr (O_bin rfl rfl bI_lss) ?_;refine qn ?_;refine C_seq ?_;refine C_cond rfl (fun hc19 => ?_) (fun hc19 => ?_)
     ·rw [if_t hc19] at H;refine qk ?_;refine C_seq ?_;refine C_block ?_;refine C_seq ?_;obtain ⟨x20, hx20, H⟩ := bd_some H;refine qd ?_;obtain ⟨hp22, hy22⟩ := ix_some hx20;obtain ⟨cs22, hr22, he22⟩ := (hv14.mono le15).el hy22;obtain rfl := hr22;replace he22 : Elf _ _ 1 _ _ := he22;have hi22 := he22.ixd;refine qi Tryz.underlying47 Ty.size5 hi22 hp22 ?_;refine qr (O_ld1 0 Ty.cell5 rfl (he22.mono hS15.agree) (by omega) rfl) ?_;refine qm ?_;refine qd ?_;refine qc ?_;refine qr (O_bin rfl rfl (bI_shl (by decide) (by decide))) ?_;refine qc ?_;refine qr (O_conv Tryz.underlying5 Tryz.underlying3 rfl (u8_i64 _)) ?_;refine qr (O_bin rfl rfl (bI_bits (.inr (.inl rfl)))) ?_;refine qc ?_;refine W_nil ?_;refine N_block ?_;refine N_code ?_;refine qd ?_;refine q2 ?_;refine W_nil ?_;exact N_againM (bits .or .i64 (wr (i16 * 2 ^ (8 : Int).toNat)) (x20.toNat : Int), wr (i17 + 1)) _ H ⟨F15, rfl, le15, hS15⟩ ⟨rfl, rfl, rfl, rfl, rfl, rfl, trivial⟩
     ·rw [if_f hc19] at H;refine C_exit _ rfl ?_;exact N_join _ ⟨i16, H, ⟨F15, rfl, le15, hS15⟩⟩ ⟨rfl, rfl, rfl, trivial⟩
   ·rintro E w11 ⟨i12, H, F11, rfl, le11, hS11⟩;dsimp only [bin_Get.k1] at H;refine qs ?_;refine q4 ?_;refine q2 ?_;refine qm ?_;obtain rfl := oi H;refine C_ret rfl rfl ?_;exact ⟨F11, rfl, hS11⟩
def manifest_reader_num_fz (x0 : ManifestReader) (x1 : Int) : Option (Int × ManifestReader) :=
  bd (manifest_reader_take_fz x0 x1) fun r1 =>
  bd (bin_Get r1.1 0 x1) fun r2 =>
  some (r2.1, r1.2)
set_option maxRecDepth 100000 in
theorem manifest_reader_num_fz_ok {K : Tb} {F : Frz} {w : Hp} {X : List Nat} {x0 : ManifestReader} {x1 : Int} {r : Int × ManifestReader} {gp0 : Nat} {v0_0 : Val} (hS : St X w F F [.box gp0 [v0_0, .b x0.bad]] w) (hv0_0 : SlF tB F v0_0 (x0.b)) (H : manifest_reader_num_fz x0 x1 = some r) : Ret Tryz.prog K 139 [pl gp0 0, .i .i64 x1] w fun v w' => ∃ (F' : Frz) (z0_0 : Val), v = .i .i64 r.1 ∧ SlF tB F' z0_0 (r.2.b) ∧ St X w F F' [.box gp0 [z0_0, .b r.2.bad]] w' := by
 refine qa2 Tryz.func139 ?_;dsimp only [manifest_reader_num_fz] at H;refine qs ?_;refine qm ?_;refine C_seq ?_;obtain ⟨r1, hr1, H⟩ := bd_some H;obtain ⟨r2, hr2, H⟩ := bd_some H;refine qd ?_;refine q2 ?_;refine lm (manifest_reader_take_fz_ok (x0 := x0) (x1 := x1) (hS.lendL [0] (by decide)) hv0_0 hr1) ?_;rintro ur1_0 w3 ⟨Fr1, _, ur1_b0_0, rfl, hfr1_0, hfr1_b0_0, hT3⟩;have hS3 := hS.backL [0] [] (by decide) (by decide) hT3;have ler1 := hT3.ext;refine qc ?_;refine lm (bin_Get_ok hS3.good hfr1_0 hr2) ?_;rintro v4 w4 ⟨Fr2, rfl, hT4⟩;have hS4 := hS3.lent hT4;refine q4 ?_;refine q2 ?_;refine qm ?_;refine qs ?_;refine qc ?_;refine qm ?_;obtain rfl := oi H;refine C_ret rfl rfl ?_;exact ⟨Fr1, ur1_b0_0, rfl, hfr1_b0_0, hS4⟩
def tree_Name.k1 : Option Bool :=
  some true
def tree_Name.l2 (x0 : List UInt8) (rec8 : Int → Option Bool) : Int → Option Bool
  | i7 =>
    if decide (i7 < (x0.length : Int)) then
      bd (ix x0 i7) fun x10 =>
      bd (only (!decide ((x10.toNat : Int) < 33)) (ix x0 i7) 0) fun x11 =>
      if (decide ((x10.toNat : Int) < 33) || decide (126 < (x11.toNat : Int))) then
        some false
      else
        rec8 (wr (i7 + 1))
    else
      tree_Name.k1
def tree_Name (x0 : List UInt8) : Option Bool :=
  if (decide ((x0.length : Int) < 1) || decide (20 < (x0.length : Int))) then
    some false
  else
    loop (tree_Name.l2 x0) 0
set_option maxRecDepth 100000 in
theorem tree_Name_ok {K : Tb} {F : Frz} {w : Hp} {x0 : List UInt8} {r : Bool} (hA : Gd F w) (H : tree_Name x0 = some r) : Ret Tryz.prog K 160 [.s x0] w fun v w' => ∃ (F' : Frz), v = .b r ∧ St [] w F F' [] w' := by
 refine qa1 Tryz.func160 ?_;have hS := St.start hA;dsimp only [tree_Name] at H;refine qs ?_;refine qm ?_;refine C_seq ?_;refine qs ?_;refine qc ?_;refine qr (O_lenS Tryz.underlying9 rfl) ?_;refine qr (O_bin rfl rfl bI_lss) ?_;refine qc ?_;refine W_gs (v := .s x0) rfl rfl rfl rfl (fun ⟨hb1, _⟩ => ?_) ?_
 ·rw [hb1];intro hK;refine qc ?_;exact hK
 refine W_gs (v := .i .i64 (x0.length : Int)) rfl rfl rfl rfl (fun ⟨hb2, _⟩ => ?_) ?_
 ·rw [hb2];intro hK;refine qr (O_lenS Tryz.underlying9 rfl) ?_;exact hK
 refine W_gs (v := .b (decide (20 < (x0.length : Int)))) rfl rfl rfl rfl (fun ⟨hb3, _⟩ => ?_) ?_
 ·rw [hb3];intro hK;refine qr (O_bin rfl rfl bI_gtr) ?_;exact hK
 refine W_pkO rfl rfl rfl rfl rfl rfl (fun hc => by rw [hc]; rfl) ?_;refine qn ?_;refine C_cond rfl (fun hc4 => ?_) (fun hc4 => ?_)
 ·rw [if_t hc4] at H;refine qs ?_;refine qm ?_;obtain rfl := oi H;refine C_ret rfl rfl ?_;exact ⟨F, rfl, hS⟩
 ·rw [if_f hc4] at H;refine qk ?_;refine C_seq_join (fun E wq => tree_Name.k1 = some r ∧ ∃ (F5 : Frz), E = [] ∧ F.le F5 ∧ St [] w F F5 [] wq) ?_ ?_
  ·refine qs ?_;refine qc ?_;refine qr (O_lenS Tryz.underlying9 rfl) ?_;refine qm ?_;refine C_block ?_;refine C_loopM (fun (s : Int) E wq => ∃ (F6 : Frz), E = [(0, .s x0), (13, .i .i64 (x0.length : Int)), (14, .i .i64 s)] ∧ F.le F6 ∧ St [] w F F6 [] wq) H ?_ ?_
   ·exact ⟨_, ⟨F, rfl, (Frz.le.refl _), hS⟩, ⟨rfl, rfl, rfl, trivial⟩⟩
   ·rintro rec8 i7 E w6 hI H
    try dsimp only at hI
    obtain ⟨F6, rfl, le6, hS6⟩ := hI;dsimp only [tree_Name.l2] at H;refine qs ?_;refine qr (O_bin rfl rfl bI_lss) ?_;refine qn ?_;refine C_seq ?_;refine C_cond rfl (fun hc9 => ?_) (fun hc9 => ?_)
    ·rw [if_t hc9] at H;refine qk ?_;refine C_seq ?_;refine C_block ?_;refine qs ?_;refine qc ?_;refine qm ?_;refine C_seq ?_;obtain ⟨x10, hx10, H⟩ := bd_some H;obtain ⟨x11, hx11, H⟩ := bd_some H;refine qd ?_;refine q2 ?_;obtain ⟨hp12, hy12⟩ := ix_some hx10;refine qr (O_ixS Tryz.underlying9 rfl rfl hp12 hy12) ?_;refine qr (O_bin rfl rfl bI_lss) ?_;refine qc ?_;refine W_gs (v := .s x0) rfl rfl rfl rfl (fun ⟨hb13, _⟩ => ?_) ?_
     ·rw [hb13];intro hK;refine qc ?_;exact hK
     refine W_gs (v := .i .i64 i7) rfl rfl rfl rfl (fun ⟨hb14, _⟩ => ?_) ?_
     ·rw [hb14];intro hK;refine qc ?_;exact hK
     refine W_gs (v := .i .u8 (x11.toNat : Int)) rfl rfl rfl rfl (fun ⟨hb15, _⟩ => ?_) ?_
     ·rw [hb15];intro hK;have hy17 := hx11;rw [only_t (by first | rfl | (rw [hb15]; first | done | rfl) | simp [hb15])] at hy17;obtain ⟨hp16, hy16⟩ := ix_some hy17;refine qr (O_ixS Tryz.underlying9 rfl rfl hp16 hy16) ?_;exact hK
     refine W_gs (v := .b (decide (126 < (x11.toNat : Int)))) rfl rfl rfl rfl (fun ⟨hb18, _⟩ => ?_) ?_
     ·rw [hb18];intro hK;refine qr (O_bin rfl rfl bI_gtr) ?_;exact hK
     refine W_pkO rfl rfl rfl rfl rfl rfl (fun hc => by rw [hc]; rfl) ?_;refine qn ?_;refine C_cond rfl (fun hc19 => ?_) (fun hc19 => ?_)
     ·rw [if_t hc19] at H;refine qs ?_;refine qm ?_;obtain rfl := oi H;refine C_ret rfl rfl ?_;exact ⟨F6, rfl, hS6⟩
     ·rw [if_f hc19] at H;refine C_skip ?_;refine N_block ?_;refine N_code ?_;refine qd ?_;refine q2 ?_;refine W_nil ?_;exact N_againM (wr (i7 + 1)) _ H ⟨F6, rfl, le6, hS6⟩ ⟨rfl, rfl, rfl, trivial⟩
    ·rw [if_f hc9] at H;refine C_exit _ rfl ?_;exact N_join _ ⟨H, ⟨F6, rfl, le6, hS6⟩⟩ trivial
  ·rintro E w5 ⟨H, F5, rfl, le5, hS5⟩;dsimp only [tree_Name.k1] at H;refine qs ?_;refine qm ?_;obtain rfl := oi H;refine C_ret rfl rfl ?_;exact ⟨F5, rfl, hS5⟩
def manifest_part (x0 : Part) : Option Bool :=
  bd (tree_Name x0.path) fun r2 =>
  some ((((r2 && decide (0 ≤ x0.size)) && decide (x0.size ≤ 200)) && decide ((x0.ids.length : Int) ≤ 25)) && (decide ((x0.ids.length : Int) = 0) == decide (x0.size = 0)))
set_option maxRecDepth 100000 in
theorem manifest_part_ok {K : Tb} {F : Frz} {w : Hp} {x0 : Part} {r : Bool} {v0_0 : Val} (hA : Gd F w) (h0_0 : SlF tId F v0_0 x0.ids) (H : manifest_part x0 = some r) : Ret Tryz.prog K 161 [.agg (Part.cells x0 v0_0)] w fun v w' => ∃ (F' : Frz), v = .b r ∧ St [] w F F' [] w' := by
 refine qa1 Tryz.func161 ?_;have hS := St.start hA;dsimp only [manifest_part] at H;refine qs ?_;refine xm (E_bx (cs := [.s x0.path, .i .i64 x0.size, v0_0]) rfl rfl (by simp only [List.all_cons, List.all_nil, List.all_append, h0_0.ln.one]; rfl) hS) ?_;rintro _ w1 ⟨g1, rfl, hS1⟩;refine qm ?_;refine C_seq ?_;obtain ⟨r2, hr2, H⟩ := bd_some H;refine qd ?_;refine qf Ty.field138_0 ?_;refine qb 0 Ty.cell9 hS1 ?_;refine lm (tree_Name_ok hS1.good hr2) ?_;rintro v3 w3 ⟨Fr2, rfl, hT3⟩;have hS3 := hS1.lent hT3;refine qc ?_;refine W_gs (v := pl g1 (0 + 1)) rfl rfl rfl rfl (fun ⟨hb4, _⟩ => ?_) ?_
 ·rw [hb4];intro hK;refine qf Ty.field138_1 ?_;exact hK
 refine W_gs (v := .i .i64 x0.size) rfl rfl rfl rfl (fun ⟨hb5, _⟩ => ?_) ?_
 ·rw [hb5];intro hK;refine qb 0 Ty.cell3 hS3 ?_;exact hK
 refine W_gs (v := .b (decide (0 ≤ x0.size))) rfl rfl rfl rfl (fun ⟨hb6, _⟩ => ?_) ?_
 ·rw [hb6];intro hK;refine qr (O_bin rfl rfl bI_geq) ?_;exact hK
 refine W_pkA rfl rfl rfl rfl rfl (fun hc => by rw [hc]; rfl) rfl ?_;refine qc ?_;refine W_gs (v := pl g1 (0 + 1)) rfl rfl rfl rfl (fun ⟨hb7, _⟩ => ?_) ?_
 ·rw [hb7];intro hK;refine qf Ty.field138_1 ?_;exact hK
 refine W_gs (v := .i .i64 x0.size) rfl rfl rfl rfl (fun ⟨hb8, _⟩ => ?_) ?_
 ·rw [hb8];intro hK;refine qb 0 Ty.cell3 hS3 ?_;exact hK
 refine W_gs (v := .b (decide (x0.size ≤ 200))) rfl rfl rfl rfl (fun ⟨hb9, _⟩ => ?_) ?_
 ·rw [hb9];intro hK;refine qr (O_bin rfl rfl bI_leq) ?_;exact hK
 refine W_pkA rfl rfl rfl rfl rfl (fun hc => by rw [hc]; rfl) rfl ?_;refine qc ?_;refine W_gs (v := pl g1 (0 + 2)) rfl rfl rfl rfl (fun ⟨hb10, _⟩ => ?_) ?_
 ·rw [hb10];intro hK;refine qf Ty.field138_2 ?_;exact hK
 refine W_gs (v := v0_0) rfl rfl rfl rfl (fun ⟨hb11, _⟩ => ?_) ?_
 ·rw [hb11];intro hK;refine qb 0 Ty.cell118 hS3 ?_;exact hK
 refine W_gs (v := .i .i64 (x0.ids.length : Int)) rfl rfl rfl rfl (fun ⟨hb12, _⟩ => ?_) ?_
 ·rw [hb12];intro hK;refine qr (O_len Tryz.underlying118 rfl h0_0.ln) ?_;exact hK
 refine W_gs (v := .b (decide ((x0.ids.length : Int) ≤ 25))) rfl rfl rfl rfl (fun ⟨hb13, _⟩ => ?_) ?_
 ·rw [hb13];intro hK;refine qr (O_bin rfl rfl bI_leq) ?_;exact hK
 refine W_pkA rfl rfl rfl rfl rfl (fun hc => by rw [hc]; rfl) rfl ?_;refine qc ?_;refine W_gs (v := pl g1 (0 + 2)) rfl rfl rfl rfl (fun ⟨hb14, _⟩ => ?_) ?_
 ·rw [hb14];intro hK;refine qf Ty.field138_2 ?_;exact hK
 refine W_gs (v := v0_0) rfl rfl rfl rfl (fun ⟨hb15, _⟩ => ?_) ?_
 ·rw [hb15];intro hK;refine qb 0 Ty.cell118 hS3 ?_;exact hK
 refine W_gs (v := .i .i64 (x0.ids.length : Int)) rfl rfl rfl rfl (fun ⟨hb16, _⟩ => ?_) ?_
 ·rw [hb16];intro hK;refine qr (O_len Tryz.underlying118 rfl h0_0.ln) ?_;exact hK
 refine W_gs (v := .b (decide ((x0.ids.length : Int) = 0))) rfl rfl rfl rfl (fun ⟨hb17, _⟩ => ?_) ?_
 ·rw [hb17];intro hK;refine qr (O_bin rfl rfl bI_eql) ?_;exact hK
 refine W_gs (v := pl g1 (0 + 1)) rfl rfl rfl rfl (fun ⟨hb18, _⟩ => ?_) ?_
 ·rw [hb18];intro hK;refine qf Ty.field138_1 ?_;exact hK
 refine W_gs (v := .i .i64 x0.size) rfl rfl rfl rfl (fun ⟨hb19, _⟩ => ?_) ?_
 ·rw [hb19];intro hK;refine qb 0 Ty.cell3 hS3 ?_;exact hK
 refine W_gs (v := .b (decide (x0.size = 0))) rfl rfl rfl rfl (fun ⟨hb20, _⟩ => ?_) ?_
 ·rw [hb20];intro hK;refine qr (O_bin rfl rfl bI_eql) ?_;exact hK
 refine W_gs (v := .b (decide ((x0.ids.length : Int) = 0) == decide (x0.size = 0))) rfl rfl rfl rfl (fun ⟨hb21, _⟩ => ?_) ?_
 ·rw [hb21];intro hK;refine qr (O_bin rfl rfl (bB_eql Tryz.underlying4)) ?_;exact hK
 refine W_pkA rfl rfl rfl rfl rfl (fun hc => by rw [hc]; rfl) rfl ?_;refine qm ?_;obtain rfl := oi H;refine C_ret rfl rfl ?_;exact ⟨F, rfl, hS3.pick [] (by decide)⟩
def manifest_Check.k1 : Option Int :=
  some 0
def manifest_Check.l2 (x0 : Manifest) (rec12 : Int → Option Int) : Int → Option Int
  | i11 =>
    if decide (i11 < (x0.parts.length : Int)) then
      bd (ix x0.parts i11) fun x14 =>
      bd (manifest_part x14) fun r19 =>
      bd (only ((!(!r19)) && decide (0 < i11)) (ix x0.parts (wr (i11 - 1))) (Part.mk [] 0 [])) fun x20 =>
      if ((!r19) || (decide (0 < i11) && (sLt x14.path x20.path || x14.path == x20.path))) then
        some 1
      else
        rec12 (wr (i11 + 1))
    else
      manifest_Check.k1
def manifest_Check (x0 : Manifest) : Option Int :=
  bd (tree_Name x0.name) fun r2 =>
  if ((!r2) || decide (6 < (x0.parts.length : Int))) then
    some 1
  else
    loop (manifest_Check.l2 x0) 0
set_option maxRecDepth 100000 in
theorem manifest_Check_ok {K : Tb} {F : Frz} {w : Hp} {x0 : Manifest} {r : Int} {v0_0 : Val} (hA : Gd F w) (h0_0 : SlF Part.t F v0_0 x0.parts) (H : manifest_Check x0 = some r) : Ret Tryz.prog K 124 [.agg (Manifest.cells x0 v0_0)] w fun v w' => ∃ (F' : Frz), v = .i .i64 r ∧ St [] w F F' [] w' := by
 refine qa1 Tryz.func124 ?_;have hS := St.start hA;dsimp only [manifest_Check] at H;refine qs ?_;refine xm (E_bx (cs := [.s x0.name, v0_0]) rfl rfl (by simp only [List.all_cons, List.all_nil, List.all_append, h0_0.ln.one]; rfl) hS) ?_;rintro _ w1 ⟨g1, rfl, hS1⟩;refine qm ?_;refine C_seq ?_;refine C_seq ?_;obtain ⟨r2, hr2, H⟩ := bd_some H;refine qd ?_;refine qf Ty.field43_0 ?_;refine qb 0 Ty.cell9 hS1 ?_;refine lm (tree_Name_ok hS1.good hr2) ?_;rintro v3 w3 ⟨Fr2, rfl, hT3⟩;have hS3 := hS1.lent hT3;refine q2 ?_;refine W_gs (v := pl g1 (0 + 1)) rfl rfl rfl rfl (fun ⟨hb4, _⟩ => ?_) ?_
 ·rw [hb4];intro hK;refine qf Ty.field43_1 ?_;exact hK
 refine W_gs (v := v0_0) rfl rfl rfl rfl (fun ⟨hb5, _⟩ => ?_) ?_
 ·rw [hb5];intro hK;refine qb 0 Ty.cell41 hS3 ?_;exact hK
 refine W_gs (v := .i .i64 (x0.parts.length : Int)) rfl rfl rfl rfl (fun ⟨hb6, _⟩ => ?_) ?_
 ·rw [hb6];intro hK;refine qr (O_len Tryz.underlying41 rfl h0_0.ln) ?_;exact hK
 refine W_gs (v := .b (decide (6 < (x0.parts.length : Int)))) rfl rfl rfl rfl (fun ⟨hb7, _⟩ => ?_) ?_
 ·rw [hb7];intro hK;refine qr (O_bin rfl rfl bI_gtr) ?_;exact hK
 refine W_pkO rfl rfl rfl rfl rfl rfl (fun hc => by rw [hc]; rfl) ?_;refine qn ?_;refine C_cond rfl (fun hc8 => ?_) (fun hc8 => ?_)
 ·rw [if_t hc8] at H;refine qs ?_;refine qm ?_;obtain rfl := oi H;refine C_ret rfl rfl ?_;exact ⟨F, rfl, hS3.pick [] (by decide)⟩
 ·rw [if_f hc8] at H;refine qk ?_;refine C_seq_join (fun E wq => manifest_Check.k1 = some r ∧ ∃ (F9 : Frz), E = [] ∧ F.le F9 ∧ St [] w F F9 [] wq) ?_ ?_
  ·refine qs ?_;refine qf Ty.field43_1 ?_;refine qb 0 Ty.cell41 hS3 ?_;refine qr (O_len Tryz.underlying41 rfl h0_0.ln) ?_;refine qm ?_;refine C_block ?_;refine C_loopM (fun (s : Int) E wq => ∃ (F10 : Frz), E = [(1, pl g1 0), (16, v0_0), (17, .i .i64 (x0.parts.length : Int)), (18, .i .i64 s)] ∧ F.le F10 ∧ St [] w F F10 [.box g1 [.s x0.name, v0_0]] wq) H ?_ ?_
   ·exact ⟨_, ⟨F, rfl, (Frz.le.refl _), hS3⟩, ⟨rfl, rfl, rfl, rfl, trivial⟩⟩
   ·rintro rec12 i11 E w10 hI H
    try dsimp only at hI
    obtain ⟨F10, rfl, le10, hS10⟩ := hI;dsimp only [manifest_Check.l2] at H;refine qs ?_;refine qr (O_bin rfl rfl bI_lss) ?_;refine qn ?_;refine C_seq ?_;refine C_cond rfl (fun hc13 => ?_) (fun hc13 => ?_)
    ·rw [if_t hc13] at H;refine qk ?_;refine C_seq ?_;refine C_block ?_;refine C_seq ?_;obtain ⟨x14, hx14, H⟩ := bd_some H;refine qd ?_;refine qc ?_;obtain ⟨hp17, hy17⟩ := ix_some hx14;obtain ⟨cs17, hr17, he17⟩ := (h0_0.mono le10).el hy17;obtain ⟨ue15_0, rfl, hue15_0⟩ := hr17;replace he17 : Elf _ _ 3 _ _ := he17;have hi17 := he17.ixd;refine qi Tryz.underlying41 Ty.size138 hi17 hp17 ?_;refine qr (O_ldg 0 (Part.cells x14 ue15_0) Ty.agg138 Ty.size138 rfl (he17.mono hS10.agree) (by omega) rfl (Nat.le_of_ble_eq_true rfl)) ?_;refine xm (E_alc (cs := [.s [], .i .i64 0, .sl none 0 (.k 0)]) Ty.zero138 rfl hS10) ?_;rintro _ w16 ⟨g16, rfl, hS16⟩;refine qc ?_;refine um (E_bst (c := [.s x14.path, .i .i64 x14.size, ue15_0]) 0 ([.s x14.path, .i .i64 x14.size, ue15_0]) rfl rfl hS16 rfl rfl Ty.size138 (by simp only [List.all_cons, List.all_nil, List.all_append, hue15_0.ln.one]; rfl) rfl rfl) ?_;rintro _ w18 hS18;refine qn ?_;refine C_seq ?_;obtain ⟨r19, hr19, H⟩ := bd_some H;obtain ⟨x20, hx20, H⟩ := bd_some H;refine C_regionD (G := F10) [0, 1, 2, 3, 4, 5, 6, 7, 8, 9, 10, 11, 12, 13, 14, 15, 16, 17, 18] rfl Ty.mixed (by kernel_rfl) hS18.agree ?_;refine qq (O_bldg 0 (Part.cells x14 ue15_0) Ty.agg138 Ty.size138 (Nat.zero_lt_succ _) rfl hS18 rfl (fun q u h => sub_at (post := []) rfl h)) ?_;refine ql (manifest_part_ok hS18.good hue15_0 hr19) ?_;rintro v22 w22 ⟨Fr19, rfl, hT22⟩;have hS22 := hS18.lent hT22;refine Nxt.frz (Frz.le.refl _) hS22.agree ?_;refine q2 ?_;refine W_gs (v := .i .i64 i11) rfl rfl rfl rfl (fun ⟨hb23, _⟩ => ?_) ?_
     ·rw [hb23];intro hK;refine qc ?_;exact hK
     refine W_gs (v := .b (decide (0 < i11))) rfl rfl rfl rfl (fun ⟨hb24, _⟩ => ?_) ?_
     ·rw [hb24];intro hK;refine qr (O_bin rfl rfl bI_gtr) ?_;exact hK
     refine W_gs (v := .b (decide (0 < i11))) rfl rfl rfl rfl (fun ⟨hb25, _⟩ => ?_) ?_
     ·rw [hb25];intro hK;refine qc ?_;exact hK
     refine W_gsc (v := pl g16 (0 + 0)) rfl rfl rfl rfl (fun ⟨hb26, hb27, _⟩ => ?_) ?_
     ·rw [hb27, hb26];intro hK;refine qf Ty.field138_0 ?_;exact hK
     refine W_gsc (v := .s x14.path) rfl rfl rfl rfl (fun ⟨hb28, hb29, _⟩ => ?_) ?_
     ·rw [hb29, hb28];intro hK;refine qbq 0 Ty.cell9 hS22 ?_;exact hK
     refine W_gsc (v := pl g1 (0 + 1)) rfl rfl rfl rfl (fun ⟨hb30, hb31, _⟩ => ?_) ?_
     ·rw [hb31, hb30];intro hK;refine qf Ty.field43_1 ?_;exact hK
     refine W_gsc (v := v0_0) rfl rfl rfl rfl (fun ⟨hb32, hb33, _⟩ => ?_) ?_
     ·rw [hb33, hb32];intro hK;refine qbq 1 Ty.cell41 hS22 ?_;exact hK
     refine W_gsc (v := .i .i64 i11) rfl rfl rfl rfl (fun ⟨hb34, hb35, _⟩ => ?_) ?_
     ·rw [hb35, hb34];intro hK;refine qc ?_;exact hK
     refine W_gsc (v := .i .i64 (wr (i11 - 1))) rfl rfl rfl rfl (fun ⟨hb36, hb37, _⟩ => ?_) ?_
     ·rw [hb37, hb36];intro hK;refine qc ?_;exact hK
     refine W_gsc (v := elp v0_0 ((wr (i11 - 1)).toNat * 3)) rfl rfl rfl rfl (fun ⟨hb38, hb39, _⟩ => ?_) ?_
     ·rw [hb39, hb38];intro hK;have hy40 := hx20;rw [only_t (by first | rfl | (rw [hb39, hb38]; first | done | rfl) | simp [hb38, hb39])] at hy40;obtain ⟨hp41, hy41⟩ := ix_some hy40;obtain ⟨cs41, hr41, he41⟩ := (h0_0.mono le10).el hy41;obtain ⟨ue21_0, rfl, hue21_0⟩ := hr41;replace he41 : Elf _ _ 3 _ _ := he41;have hi41 := he41.ixd;refine qi Tryz.underlying41 Ty.size138 hi41 hp41 ?_;exact hK
     refine W_gsc (v := elp v0_0 (((wr (i11 - 1)).toNat * 3) + 0)) rfl rfl rfl rfl (fun ⟨hb42, hb43, _⟩ => ?_) ?_
     ·rw [hb43, hb42];intro hK;have hy44 := hx20;rw [only_t (by first | rfl | (rw [hb43, hb42]; first | done | rfl) | simp [hb42, hb43])] at hy44;obtain ⟨hp45, hy45⟩ := ix_some hy44;obtain ⟨cs45, hr45, he45⟩ := (h0_0.mono le10).el hy45;obtain ⟨ue21_0, rfl, hue21_0⟩ := hr45;replace he45 : Elf _ _ 3 _ _ := he45;have hi45 := he45.ixd;refine qr (O_fld 0 Ty.field138_0 rfl hi45) ?_;exact hK
     refine W_gsc (v := .s x20.path) rfl rfl rfl rfl (fun ⟨hb46, hb47, _⟩ => ?_) ?_
     ·rw [hb47, hb46];intro hK;have hy48 := hx20;rw [only_t (by first | rfl | (rw [hb47, hb46]; first | done | rfl) | simp [hb46, hb47])] at hy48;obtain ⟨hp49, hy49⟩ := ix_some hy48;obtain ⟨cs49, hr49, he49⟩ := (h0_0.mono le10).el hy49;obtain ⟨ue21_0, rfl, hue21_0⟩ := hr49;replace he49 : Elf _ _ 3 _ _ := he49;have hi49 := he49.ixd;refine qq (O_ld1 0 Ty.cell9 rfl (he49.mono hS22.agree) (by omega) rfl) ?_;exact hK
     refine W_gsc (v := .b (sLt x14.path x20.path || x14.path == x20.path)) rfl rfl rfl rfl (fun ⟨hb50, hb51, _⟩ => ?_) ?_
     ·rw [hb51, hb50];intro hK;refine qr (O_bin rfl rfl bS_leq) ?_;exact hK
     refine W_gs (v := .b (decide (0 < i11) && (sLt x14.path x20.path || x14.path == x20.path))) rfl rfl rfl rfl (fun ⟨hb52, _⟩ => ?_) ?_
     ·rw [hb52];intro hK;refine W_pkA rfl rfl rfl rfl rfl (fun hc => by rw [hc]; rfl) rfl ?_;exact hK
     refine W_pkO rfl rfl rfl rfl rfl rfl (fun hc => by rw [hc]; rfl) ?_;refine qn ?_;refine C_cond rfl (fun hc53 => ?_) (fun hc53 => ?_)
     ·rw [if_t hc53] at H;refine qs ?_;refine qm ?_;obtain rfl := oi H;refine C_ret rfl rfl ?_;exact ⟨F10, rfl, hS22.pick [] (by decide)⟩
     ·rw [if_f hc53] at H;refine C_skip ?_;refine N_block ?_;refine N_code ?_;refine qd ?_;refine q2 ?_;refine W_nil ?_;exact N_againM (wr (i11 + 1)) _ H ⟨F10, rfl, le10, hS22.pick [1] (by decide)⟩ ⟨rfl, rfl, rfl, rfl, trivial⟩
    ·rw [if_f hc13] at H;refine C_exit _ rfl ?_;exact N_join _ ⟨H, ⟨F10, rfl, le10, hS10.pick [] (by decide)⟩⟩ trivial
  ·rintro E w9 ⟨H, F9, rfl, le9, hS9⟩;dsimp only [manifest_Check.k1] at H;refine qs ?_;refine qm ?_;obtain rfl := oi H;refine C_ret rfl rfl ?_;exact ⟨F9, rfl, hS9⟩
def manifest_Read.k1 (r5 : (List UInt8) × ManifestReader) (l11 : List Part) (l14 : List UInt8) (b17 : Bool) : Option (Manifest × Int) :=
  bd (only (!(b17 || decide (0 < (l14.length : Int)))) (manifest_Check (Manifest.mk r5.1 l11)) 0) fun r18 =>
  if ((b17 || decide (0 < (l14.length : Int))) || decide (r18 ≠ 0)) then
    some ((Manifest.mk [] []), 3)
  else
    some ((Manifest.mk r5.1 l11), 0)
def manifest_Read.k3 (i31 : Int) (rec39 : (Int × (List UInt8) × Bool × (List Part)) → Option (Manifest × Int)) (l42 : List UInt8) (b45 : Bool) (l46 : List Part) : Option (Manifest × Int) :=
  rec39 (wr (i31 + 1), l42, b45, l46)
def manifest_Read.k4 (r5 : (List UInt8) × ManifestReader) (i31 : Int) (l36 : List Part) (rec39 : (Int × (List UInt8) × Bool × (List Part)) → Option (Manifest × Int)) (r51 : (List UInt8) × ManifestReader) (r52 : Int × ManifestReader) (l58 : List UInt8) (b61 : Bool) (l62 : List (List UInt8)) : Option (Manifest × Int) :=
  bd (app (α := Part) l36 [(Part.mk r51.1 r52.1 l62)]) fun l66 =>
  if b61 then
    manifest_Read.k1 r5 l66 l58 b61
  else
    manifest_Read.k3 i31 rec39 l58 b61 l66
def manifest_Read.l5 (r5 : (List UInt8) × ManifestReader) (i31 : Int) (l36 : List Part) (rec39 : (Int × (List UInt8) × Bool × (List Part)) → Option (Manifest × Int)) (r51 : (List UInt8) × ManifestReader) (r52 : Int × ManifestReader) (r71 : Int × ManifestReader) (rec82 : (Int × (List UInt8) × Bool × (List (List UInt8))) → Option (Manifest × Int)) : (Int × (List UInt8) × Bool × (List (List UInt8))) → Option (Manifest × Int)
  | (i74, l75, b78, l79) =>
    if decide (i74 < r71.1) then
      bd (manifest_reader_take_fz (ManifestReader.mk l75 b78) 32) fun r84 =>
      bd (arr32 r84.1) fun a85 =>
      bd (app (α := (List UInt8)) l79 [a85]) fun l88 =>
      rec82 (wr (i74 + 1), r84.2.b, r84.2.bad, l88)
    else
      manifest_Read.k4 r5 i31 l36 rec39 r51 r52 l75 b78 l79
def manifest_Read.l2 (r5 : (List UInt8) × ManifestReader) (r28 : Int × ManifestReader) (rec39 : (Int × (List UInt8) × Bool × (List Part)) → Option (Manifest × Int)) : (Int × (List UInt8) × Bool × (List Part)) → Option (Manifest × Int)
  | (i31, l32, b35, l36) =>
    if decide (i31 < r28.1) then
      bd (manifest_reader_num_fz (ManifestReader.mk l32 b35) 1) fun r50 =>
      bd (manifest_reader_take_fz r50.2 r50.1) fun r51 =>
      bd (manifest_reader_num_fz r51.2 2) fun r52 =>
      bd (manifest_reader_num_fz r52.2 1) fun r71 =>
      loop (manifest_Read.l5 r5 i31 l36 rec39 r51 r52 r71) (0, r71.2.b, r71.2.bad, [])
    else
      manifest_Read.k1 r5 l36 l32 b35
def manifest_Read (x0 : List UInt8) : Option (Manifest × Int) :=
  bd (manifest_reader_num_fz (ManifestReader.mk x0 false) 1) fun r4 =>
  bd (manifest_reader_take_fz r4.2 r4.1) fun r5 =>
  bd (manifest_reader_num_fz r5.2 1) fun r28 =>
  loop (manifest_Read.l2 r5 r28) (0, r28.2.b, r28.2.bad, [])
set_option maxRecDepth 100000 in
set_option maxHeartbeats 2000000 in
theorem manifest_Read_ok {K : Tb} {F : Frz} {w : Hp} {x0 : List UInt8} {r : Manifest × Int} {v0 : Val} (hA : Gd F w) (h0 : SlF tB F v0 x0) (H : manifest_Read x0 = some r) : Ret Tryz.prog K 87 [v0] w fun v w' => ∃ (F' : Frz) (q0_0 : Val), v = .tup [.agg (Manifest.cells r.1 q0_0), .i .i64 r.2] ∧ SlF Part.t F' q0_0 (r.1.parts) ∧ St [] w F F' [] w' := by
 refine qa1 Tryz.func87 ?_;have hS := St.start hA;dsimp only [manifest_Read] at H;refine qs ?_;refine xm (E_alc (cs := [.s [], .sl none 0 (.k 0)]) Ty.zero43 rfl hS) ?_;rintro _ w1 ⟨g1, rfl, hS1⟩;refine qm ?_;refine qs ?_;refine qc ?_;have hcl3 := h0.ln.cells;refine qr (O_build (vs := [(0, v0)]) (v := .agg (ManifestReader.cells (ManifestReader.mk x0 false) v0)) Ty.bld202 rfl (by simp only [fillV, hcl3]; rfl)) ?_;refine xm (E_bx (cs := [v0, .b false]) rfl rfl (by simp only [List.all_cons, List.all_nil, List.all_append, h0.ln.one]; rfl) hS1) ?_;rintro _ w2 ⟨g2, rfl, hS2⟩;refine qm ?_;refine C_seq ?_;obtain ⟨r4, hr4, H⟩ := bd_some H;obtain ⟨r5, hr5, H⟩ := bd_some H;refine qd ?_;refine q2 ?_;refine lm (manifest_reader_num_fz_ok (x0 := (ManifestReader.mk x0 false)) (x1 := 1) (hS2.lendL [0] (by decide)) h0 hr4) ?_;rintro v7 w7 ⟨Fr4, ur4_b0_0, rfl, hfr4_b0_0, hT7⟩;have hS7 := hS2.backL [0] [1] (by decide) (by decide) hT7;have ler4 := hT7.ext;refine lm (manifest_reader_take_fz_ok (x0 := r4.2) (x1 := r4.1) (hS7.lendL [0] (by decide)) hfr4_b0_0 hr5) ?_;rintro ur5_0 w8 ⟨Fr5, _, ur5_b0_0, rfl, hfr5_0, hfr5_b0_0, hT8⟩;have hS8 := hS7.backL [0] [1] (by decide) (by decide) hT8;have ler5 := hT8.ext;refine qr (O_bstr Tryz.underlying47 Tryz.underlying5 Tryz.underlying9 rfl (hfr5_0.mono hS8.agree)) ?_;refine W_c (v := .agg (Manifest.cells (Manifest.mk r5.1 []) (.sl none 0 (.k 0)))) rfl rfl rfl rfl (fun _ => rfl) ?_;refine xm (E_alc (cs := [.s [], .sl none 0 (.k 0)]) Ty.zero43 rfl hS8) ?_;rintro _ w6 ⟨g6, rfl, hS6⟩;refine um (E_bst (c := [.s r5.1, .sl none 0 (.k 0)]) 0 ([.s r5.1, .sl none 0 (.k 0)]) rfl rfl hS6 rfl rfl Ty.size43 rfl rfl rfl) ?_;rintro _ w9 hS9;refine qn ?_;refine C_seq_join (fun E wq => ∃ l11 : List Part, ∃ l14 : List UInt8, ∃ b17 : Bool, manifest_Read.k1 r5 l11 l14 b17 = some r ∧ ∃ (F10 : Frz) (u12 : Val) (u15 : Val), E = [(2, pl g1 0), (4, pl g2 0), (5, pl g6 0)] ∧ Fr5.le F10 ∧ SlF tB F10 u15 l14 ∧ St [] w F F10 [.box g6 [.s r5.1, u12], .box g2 [u15, .b b17], .box g1 [.s [], .sl none 0 (.k 0)], .row Part.t u12 l11] wq) ?_ ?_
 ·refine C_seq ?_;obtain ⟨r28, hr28, H⟩ := bd_some H;refine qd ?_;refine qc ?_;refine lm (manifest_reader_num_fz_ok (x0 := r5.2) (x1 := 1) (hS9.lendL [1] (by decide)) hfr5_b0_0 hr28) ?_;rintro v29 w29 ⟨Fr28, ur28_b0_0, rfl, hfr28_b0_0, hT29⟩;have hS29 := hS9.backL [1] [0, 2] (by decide) (by decide) hT29;have ler28 := hT29.ext;refine qm ?_;refine C_block ?_;refine C_loopM (fun (s : Int × (List UInt8) × Bool × (List Part)) E wq => ∃ (F30 : Frz) (u33 : Val) (u37 : Val), E = [(2, pl g1 0), (4, pl g2 0), (5, pl g6 0), (17, .i .i64 r28.1), (18, .i .i64 s.1)] ∧ Fr28.le F30 ∧ SlF tB F30 u33 s.2.1 ∧ St [] w F F30 [.box g2 [u33, .b s.2.2.1], .box g6 [.s r5.1, u37], .box g1 [.s [], .sl none 0 (.k 0)], .row Part.t u37 s.2.2.2] wq) H ?_ ?_
  ·have hS96 := hS29.nilRow Part.t;exact ⟨_, ⟨Fr28, ur28_b0_0, (.sl none 0 (.k 0)), rfl, (Frz.le.refl _), hfr28_b0_0, hS96.pick [1, 2, 3, 0] (by decide)⟩, ⟨rfl, rfl, rfl, rfl, rfl, trivial⟩⟩
  ·rintro rec39 ⟨i31, l32, b35, l36⟩ E w30 hI H
   try dsimp only at hI
   obtain ⟨F30, u33, u37, rfl, le30, hx34, hS30⟩ := hI;dsimp only [manifest_Read.l2] at H;refine qs ?_;refine qr (O_bin rfl rfl bI_lss) ?_;refine qn ?_;refine C_seq ?_;refine C_cond rfl (fun hc40 => ?_) (fun hc40 => ?_)
   ·rw [if_t hc40] at H;refine qk ?_;refine C_seq_join (fun E wq => ∃ l42 : List UInt8, ∃ b45 : Bool, ∃ l46 : List Part, manifest_Read.k3 i31 rec39 l42 b45 l46 = some r ∧ ∃ (F41 : Frz) (u43 : Val) (u47 : Val), E = [(2, pl g1 0), (4, pl g2 0), (5, pl g6 0), (17, .i .i64 r28.1), (18, .i .i64 i31)] ∧ F30.le F41 ∧ SlF tB F41 u43 l42 ∧ St [] w F F41 [.box g2 [u43, .b b45], .box g6 [.s r5.1, u47], .box g1 [.s [], .sl none 0 (.k 0)], .row Part.t u47 l46] wq) ?_ ?_
    ·refine C_block ?_;refine C_seq ?_;obtain ⟨r50, hr50, H⟩ := bd_some H;obtain ⟨r51, hr51, H⟩ := bd_some H;obtain ⟨r52, hr52, H⟩ := bd_some H;refine C_regionD (G := F30) [0, 1, 5, 8, 2, 3, 4, 6, 7, 9] rfl Ty.mixed (by kernel_rfl) hS30.agree ?_;refine q3 ?_;refine qx (E_alc (cs := [.s [], .i .i64 0, .sl none 0 (.k 0)]) Ty.zero138 rfl hS30) ?_;rintro _ w49 ⟨g49, rfl, hS49⟩;refine Nxt.frz (Frz.le.refl _) hS49.agree ?_;refine ql (manifest_reader_num_fz_ok (x0 := (ManifestReader.mk l32 b35)) (x1 := 1) (hS49.lendL [1] (by decide)) hx34 hr50) ?_;rintro v53 w53 ⟨Fr50, ur50_b0_0, rfl, hfr50_b0_0, hT53⟩;have hS53 := hS49.backL [1] [0, 2, 3, 4] (by decide) (by decide) hT53;have ler50 := hT53.ext;refine Nxt.frz ler50 hS53.agree ?_;refine ql (manifest_reader_take_fz_ok (x0 := r50.2) (x1 := r50.1) (hS53.lendL [0] (by decide)) hfr50_b0_0 hr51) ?_;rintro ur51_0 w54 ⟨Fr51, _, ur51_b0_0, rfl, hfr51_0, hfr51_b0_0, hT54⟩;have hS54 := hS53.backL [0] [1, 2, 3, 4] (by decide) (by decide) hT54;have ler51 := hT54.ext;refine Nxt.frz ler51 hS54.agree ?_;refine qr (O_bstr Tryz.underlying47 Tryz.underlying5 Tryz.underlying9 rfl hfr51_0) ?_;refine ql (manifest_reader_num_fz_ok (x0 := r51.2) (x1 := 2) (hS54.lendL [0] (by decide)) hfr51_b0_0 hr52) ?_;rintro v55 w55 ⟨Fr52, ur52_b0_0, rfl, hfr52_b0_0, hT55⟩;have hS55 := hS54.backL [0] [1, 2, 3, 4] (by decide) (by decide) hT55;have ler52 := hT55.ext;refine Nxt.frz ler52 hS55.agree ?_;refine W_c (v := .agg (Part.cells (Part.mk r51.1 r52.1 []) (.sl none 0 (.k 0)))) rfl rfl rfl rfl (fun _ => rfl) ?_;refine qu (E_bst (c := [.s r51.1, .i .i64 r52.1, .sl none 0 (.k 0)]) 1 ([.s r51.1, .i .i64 r52.1, .sl none 0 (.k 0)]) rfl rfl hS55 rfl rfl Ty.size138 rfl rfl rfl) ?_;rintro _ w56 hS56;refine Nxt.frz (Frz.le.refl _) hS56.agree ?_;refine qn ?_;refine C_seq_join (fun E wq => ∃ l58 : List UInt8, ∃ b61 : Bool, ∃ l62 : List (List UInt8), manifest_Read.k4 r5 i31 l36 rec39 r51 r52 l58 b61 l62 = some r ∧ ∃ (F57 : Frz) (u59 : Val) (u63 : Val), E = [(2, pl g1 0), (4, pl g2 0), (5, pl g6 0), (6, pl g49 0), (17, .i .i64 r28.1), (18, .i .i64 i31)] ∧ Fr52.le F57 ∧ SlF tB F57 u59 l58 ∧ St [] w F F57 [.box g2 [u59, .b b61], .box g49 [.s r51.1, .i .i64 r52.1, u63], .box g6 [.s r5.1, u37], .box g1 [.s [], .sl none 0 (.k 0)], .row Part.t u37 l36, .row tId u63 l62] wq) ?_ ?_
     ·refine C_seq ?_;obtain ⟨r71, hr71, H⟩ := bd_some H;refine qd ?_;refine qc ?_;refine lm (manifest_reader_num_fz_ok (x0 := r52.2) (x1 := 1) (hS56.lendL [0] (by decide)) hfr52_b0_0 hr71) ?_;rintro v72 w72 ⟨Fr71, ur71_b0_0, rfl, hfr71_b0_0, hT72⟩;have hS72 := hS56.backL [0] [1, 2, 3, 4] (by decide) (by decide) hT72;have ler71 := hT72.ext;refine qm ?_;refine C_block ?_;refine C_loopM (fun (s : Int × (List UInt8) × Bool × (List (List UInt8))) E wq => ∃ (F73 : Frz) (u76 : Val) (u80 : Val), E = [(2, pl g1 0), (4, pl g2 0), (5, pl g6 0), (6, pl g49 0), (17, .i .i64 r28.1), (18, .i .i64 i31), (29, .i .i64 r71.1), (30, .i .i64 s.1)] ∧ Fr71.le F73 ∧ SlF tB F73 u76 s.2.1 ∧ St [] w F F73 [.box g2 [u76, .b s.2.2.1], .box g49 [.s r51.1, .i .i64 r52.1, u80], .box g6 [.s r5.1, u37], .box g1 [.s [], .sl none 0 (.k 0)], .row Part.t u37 l36, .row tId u80 s.2.2.2] wq) H ?_ ?_
      ·have hS94 := hS72.nilRow tId;exact ⟨_, ⟨Fr71, ur71_b0_0, (.sl none 0 (.k 0)), rfl, (Frz.le.refl _), hfr71_b0_0, hS94.pick [1, 2, 3, 4, 5, 0] (by decide)⟩, ⟨rfl, rfl, rfl, rfl, rfl, rfl, rfl, rfl, trivial⟩⟩
      ·rintro rec82 ⟨i74, l75, b78, l79⟩ E w73 hI H
       try dsimp only at hI
       obtain ⟨F73, u76, u80, rfl, le73, hx77, hS73⟩ := hI;dsimp only [manifest_Read.l5] at H;refine qs ?_;refine qr (O_bin rfl rfl bI_lss) ?_;refine qn ?_;refine C_seq ?_;refine C_cond rfl (fun hc83 => ?_) (fun hc83 => ?_)
       ·rw [if_t hc83] at H;refine qk ?_;refine C_seq ?_;refine C_block ?_;obtain ⟨r84, hr84, H⟩ := bd_some H;obtain ⟨a85, ha85, H⟩ := bd_some H;have hla85 : a85.length = 32 := arr32_len ha85;obtain ⟨l88, hl88, H⟩ := bd_some H;have hb90 := hS73.boxAt 1 rfl;refine C_regionD (G := (F73.hold w73 [g49])) [0, 1, 2, 3, 4, 5, 6, 7, 8, 9] rfl Ty.mixed (by kernel_rfl) (HB.agree (HB.cons 1 hb90 hS73 rfl HB.nil) hS73.agree) ?_;refine qf Ty.field138_2 ?_;refine qr (O_fld1 Ty.cell118 rfl (hb90.held (HB.cons 1 hb90 hS73 rfl HB.nil) (by simp)) rfl) ?_;refine qc ?_;refine ql (manifest_reader_take_fz_ok (x0 := (ManifestReader.mk l75 b78)) (x1 := 32) (hS73.lendL [0] (by decide)) hx77 hr84) ?_;rintro ur84_0 w91 ⟨Fr84, _, ur84_b0_0, rfl, hfr84_0, hfr84_b0_0, hT91⟩;have hS91 := hS73.backL [0] [1, 2, 3, 4, 5] (by decide) (by decide) hT91;have ler84 := hT91.ext;refine Nxt.frz (HB.le (HB.cons 1 hb90 hS91 rfl HB.nil) ler84) (HB.agree (HB.cons 1 hb90 hS91 rfl HB.nil) hS91.agree) ?_;refine W_s2a rfl rfl rfl rfl Tryz.underlying58 rfl hfr84_0 ha85 ?_;intro ga86 oa86 ha86;refine qq (O_lda Ty.agg58 Ty.size58 rfl (ha86.mono hS91.agree)) ?_;refine qx (E_bs (t := tId) (vs := [.agg (idCells a85)]) (xs := [a85]) Tryz.underlying118 Ty.row58 rfl ⟨⟨rfl, hla85⟩, trivial⟩ rfl rfl hS91) ?_;rintro u87 w87 hS87;refine qh 2 hb90 hS87 ?_;refine qx (E_app (t := tId) 6 Tryz.underlying118 Ty.row58 Ty.zk118 rfl rfl hS87 rfl (hS87.rowSrc (k := 0) rfl) hl88) ?_;rintro v89 w89 hS89;refine qh 2 hb90 hS89 ?_;refine qf Ty.field138_2 ?_;refine W_drop (by kernel_rfl) hS89.agree ?_;refine qu (E_bst (c := [v89]) 2 ([.s r51.1, .i .i64 r52.1, v89]) rfl rfl hS89 rfl (hS89.rowLn (k := 6) rfl).cells Ty.size118 (by simp only [List.all_cons, List.all_nil, List.all_append, (hS89.rowLn (k := 6) rfl).one]; rfl) rfl rfl) ?_;rintro _ w92 hS92;refine Nxt.frz (Frz.le.refl _) hS92.agree ?_;refine W_nil ?_;refine N_block ?_;refine N_code ?_;refine qd ?_;refine q2 ?_;refine W_nil ?_;exact N_againM (wr (i74 + 1), r84.2.b, r84.2.bad, l88) _ H ⟨Fr84, ur84_b0_0, v89, rfl, (le73.trans ler84), hfr84_b0_0, hS92.pick [1, 2, 3, 4, 5, 6] (by decide)⟩ ⟨rfl, rfl, rfl, rfl, rfl, rfl, rfl, rfl, trivial⟩
       ·rw [if_f hc83] at H;refine C_exit _ rfl ?_;exact N_join _ ⟨l75, b78, l79, H, ⟨F73, u76, u80, rfl, (ler71.trans le73), hx77, hS73⟩⟩ ⟨rfl, rfl, rfl, rfl, rfl, rfl, trivial⟩
     ·rintro E w57 ⟨l58, b61, l62, H, F57, u59, u63, rfl, le57, hx60, hS57⟩;dsimp only [manifest_Read.k4] at H;refine C_seq ?_;obtain ⟨l66, hl66, H⟩ := bd_some H;refine qd ?_;refine qf Ty.field43_1 ?_;refine qb 2 Ty.cell41 hS57 ?_;refine qr (O_bldg 1 (Part.cells (Part.mk r51.1 r52.1 l62) u63) Ty.agg138 Ty.size138 (Nat.zero_lt_succ _) rfl hS57 rfl (fun q u h => sub_at (post := []) rfl h)) ?_;obtain ⟨F68, le68, hf68, hS68⟩ := hS57.freezeR 5 [0, 1, 2, 3, 4] rfl (by decide) (by decide);refine xm (E_bs (t := Part.t) (vs := [.agg (Part.cells (Part.mk r51.1 r52.1 l62) u63)]) (xs := [(Part.mk r51.1 r52.1 l62)]) Tryz.underlying41 Ty.row138 rfl ⟨⟨u63, rfl, hf68⟩, trivial⟩ rfl rfl hS68) ?_;rintro u65 w65 hS65;refine xm (E_app (t := Part.t) 5 Tryz.underlying41 Ty.row138 Ty.zk41 rfl rfl hS65 rfl (hS65.rowSrc (k := 0) rfl) hl66) ?_;rintro v67 w67 hS67;refine qf Ty.field43_1 ?_;refine um (E_bst (c := [v67]) 3 ([.s r5.1, v67]) rfl rfl hS67 rfl (hS67.rowLn (k := 5) rfl).cells Ty.size41 (by simp only [List.all_cons, List.all_nil, List.all_append, (hS67.rowLn (k := 5) rfl).one]; rfl) rfl rfl) ?_;rintro _ w69 hS69;refine qn ?_;refine qs ?_;refine q2 ?_;refine qf Ty.field202_1 ?_;refine qb 1 Ty.cell4 hS69 ?_;refine qn ?_;refine C_cond rfl (fun hc70 => ?_) (fun hc70 => ?_)
      ·rw [if_t hc70] at H;refine C_exit _ rfl ?_;exact N_join _ ⟨l66, l58, b61, H, ⟨F68, v67, u59, rfl, ((((((ler28.trans le30).trans ler50).trans ler51).trans ler52).trans le57).trans le68), (hx60.mono le68), hS69.pick [3, 1, 4, 5] (by decide)⟩⟩ ⟨rfl, rfl, rfl, trivial⟩
      ·rw [if_f hc70] at H;refine C_skip ?_;refine N_block ?_;exact N_join _ ⟨l58, b61, l66, H, ⟨F68, u59, v67, rfl, ((((ler50.trans ler51).trans ler52).trans le57).trans le68), (hx60.mono le68), hS69.pick [1, 3, 4, 5] (by decide)⟩⟩ ⟨rfl, rfl, rfl, rfl, rfl, trivial⟩
    ·rintro E w41 ⟨l42, b45, l46, H, F41, u43, u47, rfl, le41, hx44, hS41⟩;dsimp only [manifest_Read.k3] at H;refine qd ?_;refine q2 ?_;refine W_nil ?_;exact N_againM (wr (i31 + 1), l42, b45, l46) _ H ⟨F41, u43, u47, rfl, (le30.trans le41), hx44, hS41⟩ ⟨rfl, rfl, rfl, rfl, rfl, trivial⟩
   ·rw [if_f hc40] at H;refine C_exit _ rfl ?_;exact N_join _ ⟨l36, l32, b35, H, ⟨F30, u37, u33, rfl, (ler28.trans le30), hx34, hS30.pick [1, 0, 2, 3] (by decide)⟩⟩ ⟨rfl, rfl, rfl, trivial⟩
 ·rintro E w10 ⟨l11, l14, b17, H, F10, u12, u15, rfl, le10, hx16, hS10⟩;dsimp only [manifest_Read.k1] at H;refine C_seq ?_;refine C_seq ?_;obtain ⟨r18, hr18, H⟩ := bd_some H;refine C_join (fun E wq => E = [(2, pl g1 0), (5, pl g6 0), (69, .b ((b17 || decide (0 < (l14.length : Int))) || decide (r18 ≠ 0)))] ∧ ∃ F19 : Frz, F10.le F19 ∧ St [] w F F19 [.box g6 [.s r5.1, u12], .box g2 [u15, .b b17], .box g1 [.s [], .sl none 0 (.k 0)], .row Part.t u12 l11] wq) ?_ ?_
  ·
   rcases Bool.eq_false_or_eq_true b17 with hb20 | hb20
   ·refine qd ?_;refine q2 ?_;refine qf Ty.field202_1 ?_;refine qb 1 Ty.cell4 hS10 ?_;refine qc ?_;refine W_eqv (t := 57) (v' := .b true) rfl (congrArg Val.b hb20) ?_;refine qz ?_;refine qz ?_;refine qz ?_;refine qz ?_;refine qz ?_;refine qz ?_;refine q2 ?_;refine qz ?_;refine qz ?_;refine qz ?_;refine qc ?_;refine W_nil ?_;exact N_join _ ⟨rfl, F10, (Frz.le.refl _), hS10⟩ ⟨rfl, rfl, (look_bool rfl (by first | rfl | (rw [hb20]; first | done | rfl) | simp [hb20])), trivial⟩
   ·
    rcases Bool.eq_false_or_eq_true (decide (0 < (l14.length : Int))) with hb21 | hb21
    ·refine qd ?_;refine q2 ?_;refine qf Ty.field202_1 ?_;refine qb 1 Ty.cell4 hS10 ?_;refine qc ?_;refine W_eqv (t := 57) (v' := .b false) rfl (congrArg Val.b hb20) ?_;refine q2 ?_;refine qf Ty.field202_0 ?_;refine qb 1 Ty.cell47 hS10 ?_;refine qr (O_len Tryz.underlying47 rfl hx16.ln) ?_;refine qr (O_bin rfl rfl bI_gtr) ?_;refine q2 ?_;refine W_eqv (t := 65) (v' := .b true) rfl (congrArg Val.b hb21) ?_;refine qz ?_;refine qz ?_;refine qz ?_;refine qc ?_;refine W_nil ?_;exact N_join _ ⟨rfl, F10, (Frz.le.refl _), hS10⟩ ⟨rfl, rfl, (look_bool rfl (by first | rfl | (rw [hb21, hb20]; first | done | rfl) | simp [hb20, hb21])), trivial⟩
    ·refine qd ?_;refine q2 ?_;refine qf Ty.field202_1 ?_;refine qb 1 Ty.cell4 hS10 ?_;refine qc ?_;refine W_eqv (t := 57) (v' := .b false) rfl (congrArg Val.b hb20) ?_;refine q2 ?_;refine qf Ty.field202_0 ?_;refine qb 1 Ty.cell47 hS10 ?_;refine qr (O_len Tryz.underlying47 rfl hx16.ln) ?_;refine qr (O_bin rfl rfl bI_gtr) ?_;refine q2 ?_;refine W_eqv (t := 65) (v' := .b false) rfl (congrArg Val.b hb21) ?_;refine qr (O_bldg 0 (Manifest.cells (Manifest.mk r5.1 l11) u12) Ty.agg43 Ty.size43 (Nat.zero_lt_succ _) rfl hS10 rfl (fun q u h => sub_at (post := []) rfl h)) ?_;have hy22 := hr18;rw [only_t (by first | rfl | (rw [hb21, hb20]; first | done | rfl) | simp [hb20, hb21])] at hy22;refine lm (manifest_Check_ok (Gd.now hS10.wf) (hS10.rowNow (k := 3) rfl) hy22) ?_;rintro v23 w23 ⟨Fr18, rfl, hT23⟩;have hS23 := hS10.lent hT23;refine qr (O_bin rfl rfl bI_neq) ?_;refine qc ?_;refine W_nil ?_;exact N_join _ ⟨rfl, F10, (Frz.le.refl _), hS23⟩ ⟨rfl, rfl, (look_bool rfl (by first | rfl | (rw [hb21, hb20]; first | done | rfl) | simp [hb20, hb21])), trivial⟩
  rintro E w19 ⟨rfl, F19, le19, hS19⟩;refine N_code ?_;refine C_cond rfl (fun hc24 => ?_) (fun hc24 => ?_)
  ·rw [if_t hc24] at H;refine qs ?_;refine W_c (v := .agg (Manifest.cells (Manifest.mk [] []) (.sl none 0 (.k 0)))) rfl rfl rfl rfl (fun _ => rfl) ?_;refine um (E_bst (c := [.s [], .sl none 0 (.k 0)]) 2 ([.s [], .sl none 0 (.k 0)]) rfl rfl hS19 rfl rfl Ty.size43 rfl rfl rfl) ?_;rintro _ w25 hS25;refine qm ?_;obtain rfl := oi H;refine C_retM (vs := [.agg (Manifest.cells (Manifest.mk [] []) (.sl none 0 (.k 0))), .i .i64 3]) rfl ⟨(box_out 2 Ty.agg43 Ty.size43 hS25 rfl rfl), rfl, trivial⟩ ?_;exact ⟨F19, .sl none 0 (.k 0), rfl, (SlF.nil _), hS25.pick [] (by decide)⟩
  ·rw [if_f hc24] at H;refine qk ?_;refine qs ?_;refine qr (O_bldg 0 (Manifest.cells (Manifest.mk r5.1 l11) u12) Ty.agg43 Ty.size43 (Nat.zero_lt_succ _) rfl hS19 rfl (fun q u h => sub_at (post := []) rfl h)) ?_;refine um (E_bst (c := [.s r5.1, u12]) 2 ([.s r5.1, u12]) rfl rfl hS19 rfl rfl Ty.size43 (by simp only [List.all_cons, List.all_nil, List.all_append, (hS19.rowLn (k := 3) rfl).one]; rfl) rfl rfl) ?_;rintro _ w26 hS26;refine qm ?_;obtain ⟨F27, le27, hf27, hS27⟩ := hS26.freezeR 3 [0, 1, 2] rfl (by decide) (by decide);obtain rfl := oi H;refine C_retM (vs := [.agg (Manifest.cells (Manifest.mk r5.1 l11) u12), .i .i64 0]) rfl ⟨(box_out 2 Ty.agg43 Ty.size43 hS27 rfl rfl), rfl, trivial⟩ ?_;exact ⟨F27, u12, rfl, hf27, hS27.pick [] (by decide)⟩
def rebuild_snap_1 (x0 : Snap) (x1 : Int) : Option Int :=
  bd (cmp_Compare_int x0.seq x1) fun r2 =>
  some r2
set_option maxRecDepth 100000 in
theorem rebuild_snap_1_ok {K : Tb} {F : Frz} {w : Hp} {x0 : Snap} {x1 : Int} {r : Int} {v0_0 : Val} {v0_1 : Val} (hA : Gd F w) (h0_0 : SlF Part.t F v0_0 x0.man.parts) (h0_1 : SlF Loc.t F v0_1 x0.locs) (H : rebuild_snap_1 x0 x1 = some r) : Ret Tryz.prog K 89 [.agg (Snap.cells x0 v0_0 v0_1), .i .i64 x1] w fun v w' => ∃ (F' : Frz), v = .i .i64 r ∧ St [] w F F' [] w' := by
 refine qa2 Tryz.func89 ?_;have hS := St.start hA;dsimp only [rebuild_snap_1] at H;refine qs ?_;refine xm (E_bx (cs := [.i .i64 x0.seq, .s x0.man.name, v0_0, v0_1]) rfl rfl (by simp only [List.all_cons, List.all_nil, List.all_append, h0_0.ln.one, h0_1.ln.one]; rfl) hS) ?_;rintro _ w1 ⟨g1, rfl, hS1⟩;refine qm ?_;refine C_seq ?_;obtain ⟨r2, hr2, H⟩ := bd_some H;refine qd ?_;refine qf Ty.field46_0 ?_;refine qb 0 Ty.cell3 hS1 ?_;refine qc ?_;refine lm (cmp_Compare_int_ok hS1.good hr2) ?_;rintro v3 w3 ⟨Fr2, rfl, hT3⟩;have hS3 := hS1.lent hT3;refine qm ?_;obtain rfl := oi H;refine C_ret rfl rfl ?_;exact ⟨F, rfl, hS3.pick [] (by decide)⟩
def slices_BinarySearchFunc_api_Snap_api_Snap_int_rebuild_snap_1.k1 (x0 : List Snap) (x1 : Int) (i2 : Int) : Option (Int × Bool) :=
  bd (only (decide (i2 < (x0.length : Int))) (ix x0 i2) (Snap.mk 0 (Manifest.mk [] []) [])) fun x3 =>
  bd (only (decide (i2 < (x0.length : Int))) (rebuild_snap_1 x3 x1) 0) fun r5 =>
  some (i2, (decide (i2 < (x0.length : Int)) && decide (r5 = 0)))
def slices_BinarySearchFunc_api_Snap_api_Snap_int_rebuild_snap_1.l2 (x0 : List Snap) (x1 : Int) (rec15 : (Int × Int) → Option (Int × Bool)) : (Int × Int) → Option (Int × Bool)
  | (i13, i14) =>
    if decide (i13 < i14) then
      bd (ix x0 (wr ((wu (wr (i13 + i14))) / 2 ^ (1 : Int).toNat))) fun x17 =>
      bd (rebuild_snap_1 x17 x1) fun r19 =>
      if decide (r19 < 0) then
        rec15 (wr (wr ((wu (wr (i13 + i14))) / 2 ^ (1 : Int).toNat) + 1), i14)
      else
        rec15 (i13, wr ((wu (wr (i13 + i14))) / 2 ^ (1 : Int).toNat))
    else
      slices_BinarySearchFunc_api_Snap_api_Snap_int_rebuild_snap_1.k1 x0 x1 i13
def slices_BinarySearchFunc_api_Snap_api_Snap_int_rebuild_snap_1 (x0 : List Snap) (x1 : Int) : Option (Int × Bool) :=
  loop (slices_BinarySearchFunc_api_Snap_api_Snap_int_rebuild_snap_1.l2 x0 x1) (0, (x0.length : Int))
set_option maxRecDepth 100000 in
theorem slices_BinarySearchFunc_api_Snap_api_Snap_int_rebuild_snap_1_ok {K : Tb} {F : Frz} {w : Hp} {x0 : List Snap} {x1 : Int} {r : Int × Bool} {v0 : Val} (hA : Gd F w) (h0 : SlF Snap.t F v0 x0) (H : slices_BinarySearchFunc_api_Snap_api_Snap_int_rebuild_snap_1 x0 x1 = some r) : Ret Tryz.prog K 88 [v0, .i .i64 x1, .f 89 []] w fun v w' => ∃ (F' : Frz), v = .tup [.i .i64 r.1, .b r.2] ∧ St [] w F F' [] w' := by
 refine qa3 Tryz.func88 ?_;have hS := St.start hA;dsimp only [slices_BinarySearchFunc_api_Snap_api_Snap_int_rebuild_snap_1] at H;refine qs ?_;refine qc ?_;refine qm ?_;refine qs ?_;refine qc ?_;refine qr (O_len Tryz.underlying34 rfl h0.ln) ?_;refine qm ?_;refine qs ?_;refine q2 ?_;refine qm ?_;refine C_seq_join (fun E wq => ∃ i2 : Int, slices_BinarySearchFunc_api_Snap_api_Snap_int_rebuild_snap_1.k1 x0 x1 i2 = some r ∧ ∃ (F1 : Frz), E = [(0, v0), (1, .i .i64 x1), (2, .f 89 []), (8, .i .i64 (x0.length : Int)), (9, .i .i64 i2)] ∧ F.le F1 ∧ St [] w F F1 [] wq) ?_ ?_
 ·refine C_block ?_;refine C_loopM (fun (s : Int × Int) E wq => ∃ (F12 : Frz), E = [(0, v0), (1, .i .i64 x1), (2, .f 89 []), (8, .i .i64 (x0.length : Int)), (9, .i .i64 s.1), (10, .i .i64 s.2)] ∧ F.le F12 ∧ St [] w F F12 [] wq) H ?_ ?_
  ·exact ⟨_, ⟨F, rfl, (Frz.le.refl _), hS⟩, ⟨rfl, rfl, rfl, rfl, rfl, rfl, trivial⟩⟩
  ·rintro rec15 ⟨i13, i14⟩ E w12 hI H
   try dsimp only at hI
   obtain ⟨F12, rfl, le12, hS12⟩ := hI;dsimp only [slices_BinarySearchFunc_api_Snap_api_Snap_int_rebuild_snap_1.l2] at H;refine C_seq ?_;refine qs ?_;refine q2 ?_;refine qr (O_bin rfl rfl bI_lss) ?_;refine qn ?_;refine C_cond rfl (fun hc16 => ?_) (fun hc16 => ?_)
   ·rw [if_t hc16] at H;refine qk ?_;refine C_block ?_;refine qs ?_;refine q3 ?_;refine qr (O_conv Tryz.underlying3 Tryz.underlying26 rfl (rfl)) ?_;refine qr (O_bin rfl rfl (bI_shr (by decide) (by decide))) ?_;refine qr (O_conv Tryz.underlying26 Tryz.underlying3 rfl (rfl)) ?_;refine qm ?_;refine C_seq ?_;obtain ⟨x17, hx17, H⟩ := bd_some H;obtain ⟨r19, hr19, H⟩ := bd_some H;refine qd ?_;refine q3 ?_;obtain ⟨hp20, hy20⟩ := ix_some hx17;obtain ⟨cs20, hr20, he20⟩ := (h0.mono le12).el hy20;obtain ⟨ue18_0, ue18_1, rfl, hue18_0, hue18_1⟩ := hr20;replace he20 : Elf _ _ 4 _ _ := he20;have hi20 := he20.ixd;refine qi Tryz.underlying34 Ty.size46 hi20 hp20 ?_;refine qr (O_ldg 0 (Snap.cells x17 ue18_0 ue18_1) Ty.agg46 Ty.size46 rfl (he20.mono hS12.agree) (by omega) rfl (Nat.le_of_ble_eq_true rfl)) ?_;refine qc ?_;refine lm (rebuild_snap_1_ok hS12.good hue18_0 hue18_1 hr19) ?_;rintro v21 w21 ⟨Fr19, rfl, hT21⟩;have hS21 := hS12.lent hT21;refine qr (O_bin rfl rfl bI_lss) ?_;refine qn ?_;refine C_cond rfl (fun hc22 => ?_) (fun hc22 => ?_)
    ·rw [if_t hc22] at H;refine qd ?_;refine q3 ?_;refine W_nil ?_;refine N_block ?_;exact N_againM (wr (wr ((wu (wr (i13 + i14))) / 2 ^ (1 : Int).toNat) + 1), i14) _ H ⟨F12, rfl, le12, hS21⟩ ⟨rfl, rfl, rfl, rfl, rfl, rfl, trivial⟩
    ·rw [if_f hc22] at H;refine qd ?_;refine q2 ?_;refine W_nil ?_;refine N_block ?_;exact N_againM (i13, wr ((wu (wr (i13 + i14))) / 2 ^ (1 : Int).toNat)) _ H ⟨F12, rfl, le12, hS21⟩ ⟨rfl, rfl, rfl, rfl, rfl, rfl, trivial⟩
   ·rw [if_f hc16] at H;refine C_exit _ rfl ?_;exact N_join _ ⟨i13, H, ⟨F12, rfl, le12, hS12⟩⟩ ⟨rfl, rfl, rfl, rfl, rfl, trivial⟩
 ·rintro E w1 ⟨i2, H, F1, rfl, le1, hS1⟩;dsimp only [slices_BinarySearchFunc_api_Snap_api_Snap_int_rebuild_snap_1.k1] at H;refine C_seq ?_;obtain ⟨x3, hx3, H⟩ := bd_some H;obtain ⟨r5, hr5, H⟩ := bd_some H;refine C_join (fun E wq => E = [(6, .i .i64 i2), (7, .b (decide (i2 < (x0.length : Int)) && decide (r5 = 0)))] ∧ ∃ F6 : Frz, F1.le F6 ∧ St [] w F F6 [] wq) ?_ ?_
  ·
   rcases Bool.eq_false_or_eq_true (decide (i2 < (x0.length : Int))) with hb7 | hb7
   ·refine qd ?_;refine q3 ?_;refine qr (O_bin rfl rfl bI_lss) ?_;refine qc ?_;refine W_eqv (t := 39) (v' := .b true) rfl (congrArg Val.b hb7) ?_;refine q3 ?_;have hy8 := hx3;rw [only_t hb7] at hy8;obtain ⟨hp9, hy9⟩ := ix_some hy8;obtain ⟨cs9, hr9, he9⟩ := (h0.mono le1).el hy9;obtain ⟨ue4_0, ue4_1, rfl, hue4_0, hue4_1⟩ := hr9;replace he9 : Elf _ _ 4 _ _ := he9;have hi9 := he9.ixd;refine qi Tryz.underlying34 Ty.size46 hi9 hp9 ?_;refine qr (O_ldg 0 (Snap.cells x3 ue4_0 ue4_1) Ty.agg46 Ty.size46 rfl (he9.mono hS1.agree) (by omega) rfl (Nat.le_of_ble_eq_true rfl)) ?_;refine qc ?_;have hy10 := hr5;rw [only_t hb7] at hy10;refine lm (rebuild_snap_1_ok hS1.good hue4_0 hue4_1 hy10) ?_;rintro v11 w11 ⟨Fr5, rfl, hT11⟩;have hS11 := hS1.lent hT11;refine qr (O_bin rfl rfl bI_eql) ?_;refine q3 ?_;refine W_nil ?_;exact N_join _ ⟨rfl, F1, (Frz.le.refl _), hS11⟩ ⟨rfl, (look_bool rfl (by first | rfl | (rw [hb7]; first | done | rfl) | simp [hb7])), trivial⟩
   ·refine qd ?_;refine q3 ?_;refine qr (O_bin rfl rfl bI_lss) ?_;refine qc ?_;refine W_eqv (t := 39) (v' := .b false) rfl (congrArg Val.b hb7) ?_;refine qz ?_;refine qz ?_;refine qz ?_;refine qz ?_;refine qz ?_;refine qz ?_;refine qz ?_;refine qz ?_;refine q3 ?_;refine W_nil ?_;exact N_join _ ⟨rfl, F1, (Frz.le.refl _), hS1⟩ ⟨rfl, (look_bool rfl (by first | rfl | (rw [hb7]; first | done | rfl) | simp [hb7])), trivial⟩
  rintro E w6 ⟨rfl, F6, le6, hS6⟩;refine N_code ?_;obtain rfl := oi H;refine C_ret rfl rfl ?_;exact ⟨F6, rfl, hS6⟩
def rebuild_exp_1 (x0 : Exp) (x1 : Int) : Option Int :=
  bd (cmp_Compare_int x0.seq x1) fun r2 =>
  some r2
set_option maxRecDepth 100000 in
theorem rebuild_exp_1_ok {K : Tb} {F : Frz} {w : Hp} {x0 : Exp} {x1 : Int} {r : Int} {v0_0 : Val} (hA : Gd F w) (h0_0 : SlF Loc.t F v0_0 x0.locs) (H : rebuild_exp_1 x0 x1 = some r) : Ret Tryz.prog K 94 [.agg (Exp.cells x0 v0_0), .i .i64 x1] w fun v w' => ∃ (F' : Frz), v = .i .i64 r ∧ St [] w F F' [] w' := by
 refine qa2 Tryz.func94 ?_;have hS := St.start hA;dsimp only [rebuild_exp_1] at H;refine qs ?_;refine xm (E_bx (cs := [.i .i64 x0.seq, .i .i64 x0.of, v0_0]) rfl rfl (by simp only [List.all_cons, List.all_nil, List.all_append, h0_0.ln.one]; rfl) hS) ?_;rintro _ w1 ⟨g1, rfl, hS1⟩;refine qm ?_;refine C_seq ?_;obtain ⟨r2, hr2, H⟩ := bd_some H;refine qd ?_;refine qf Ty.field55_0 ?_;refine qb 0 Ty.cell3 hS1 ?_;refine qc ?_;refine lm (cmp_Compare_int_ok hS1.good hr2) ?_;rintro v3 w3 ⟨Fr2, rfl, hT3⟩;have hS3 := hS1.lent hT3;refine qm ?_;obtain rfl := oi H;refine C_ret rfl rfl ?_;exact ⟨F, rfl, hS3.pick [] (by decide)⟩
end
end Go.Wk.Lf
end
