/-  -/
import Derived.Test.YtfphkkaifgnlgaaGreatG4
set_option linter.unusedVariables false
set_option linter.unusedSimpArgs false
section
namespace Go.Wk.Lf
open Go.V Go.Proofs
noncomputable section
def slices_BinarySearchFunc_api_Exp_api_Exp_int_rebuild_exp_1.k1 (x0 : List Exp) (x1 : Int) (i2 : Int) : Option (Int × Bool) :=
  bd (only (decide (i2 < (x0.length : Int))) (ix x0 i2) (Exp.mk 0 0 [])) fun x3 =>
  bd (only (decide (i2 < (x0.length : Int))) (rebuild_exp_1 x3 x1) 0) fun r5 =>
  some (i2, (decide (i2 < (x0.length : Int)) && decide (r5 = 0)))
def slices_BinarySearchFunc_api_Exp_api_Exp_int_rebuild_exp_1.l2 (x0 : List Exp) (x1 : Int) (rec15 : (Int × Int) → Option (Int × Bool)) : (Int × Int) → Option (Int × Bool)
  | (i13, i14) =>
    if decide (i13 < i14) then
      bd (ix x0 (wr ((wu (wr (i13 + i14))) / 2 ^ (1 : Int).toNat))) fun x17 =>
      bd (rebuild_exp_1 x17 x1) fun r19 =>
      if decide (r19 < 0) then
        rec15 (wr (wr ((wu (wr (i13 + i14))) / 2 ^ (1 : Int).toNat) + 1), i14)
      else
        rec15 (i13, wr ((wu (wr (i13 + i14))) / 2 ^ (1 : Int).toNat))
    else
      slices_BinarySearchFunc_api_Exp_api_Exp_int_rebuild_exp_1.k1 x0 x1 i13
def slices_BinarySearchFunc_api_Exp_api_Exp_int_rebuild_exp_1 (x0 : List Exp) (x1 : Int) : Option (Int × Bool) :=
  loop (slices_BinarySearchFunc_api_Exp_api_Exp_int_rebuild_exp_1.l2 x0 x1) (0, (x0.length : Int))
set_option maxRecDepth 100000 in
theorem slices_BinarySearchFunc_api_Exp_api_Exp_int_rebuild_exp_1_ok {K : Tb} {F : Frz} {w : Hp} {x0 : List Exp} {x1 : Int} {r : Int × Bool} {v0 : Val} (hA : Gd F w) (h0 : SlF Exp.t F v0 x0) (H : slices_BinarySearchFunc_api_Exp_api_Exp_int_rebuild_exp_1 x0 x1 = some r) : Ret Tryz.prog K 93 [v0, .i .i64 x1, .f 94 []] w fun v w' => ∃ (F' : Frz), v = .tup [.i .i64 r.1, .b r.2] ∧ St [] w F F' [] w' := by
 refine qa3 Tryz.func93 ?_;have hS := St.start hA;dsimp only [slices_BinarySearchFunc_api_Exp_api_Exp_int_rebuild_exp_1] at H;refine qs ?_;refine qc ?_;refine qm ?_;refine qs ?_;refine qc ?_;refine qr (O_len Tryz.underlying36 rfl h0.ln) ?_;refine qm ?_;refine qs ?_;refine q2 ?_;refine qm ?_;refine C_seq_join (fun E wq => ∃ i2 : Int, slices_BinarySearchFunc_api_Exp_api_Exp_int_rebuild_exp_1.k1 x0 x1 i2 = some r ∧ ∃ (F1 : Frz), E = [(0, v0), (1, .i .i64 x1), (2, .f 94 []), (8, .i .i64 (x0.length : Int)), (9, .i .i64 i2)] ∧ F.le F1 ∧ St [] w F F1 [] wq) ?_ ?_
 ·refine C_block ?_;refine C_loopM (fun (s : Int × Int) E wq => ∃ (F12 : Frz), E = [(0, v0), (1, .i .i64 x1), (2, .f 94 []), (8, .i .i64 (x0.length : Int)), (9, .i .i64 s.1), (10, .i .i64 s.2)] ∧ F.le F12 ∧ St [] w F F12 [] wq) H ?_ ?_
  ·exact ⟨_, ⟨F, rfl, (Frz.le.refl _), hS⟩, ⟨rfl, rfl, rfl, rfl, rfl, rfl, trivial⟩⟩
  ·rintro rec15 ⟨i13, i14⟩ E w12 hI H
   try dsimp only at hI
   obtain ⟨F12, rfl, le12, hS12⟩ := hI;dsimp only [slices_BinarySearchFunc_api_Exp_api_Exp_int_rebuild_exp_1.l2] at H;refine C_seq ?_;refine qs ?_;refine q2 ?_;refine qr (O_bin rfl rfl bI_lss) ?_;refine qn ?_;refine C_cond rfl (fun hc16 => ?_) (fun hc16 => ?_)
   ·rw [if_t hc16] at H;refine qk ?_;refine C_block ?_;refine qs ?_;refine q3 ?_;refine qr (O_conv Tryz.underlying3 Tryz.underlying26 rfl (rfl)) ?_;refine qr (O_bin rfl rfl (bI_shr (by decide) (by decide))) ?_;refine qr (O_conv Tryz.underlying26 Tryz.underlying3 rfl (rfl)) ?_;refine qm ?_;refine C_seq ?_;obtain ⟨x17, hx17, H⟩ := bd_some H;obtain ⟨r19, hr19, H⟩ := bd_some H;refine qd ?_;refine q3 ?_;obtain ⟨hp20, hy20⟩ := ix_some hx17;obtain ⟨cs20, hr20, he20⟩ := (h0.mono le12).el hy20;obtain ⟨ue18_0, rfl, hue18_0⟩ := hr20;replace he20 : Elf _ _ 3 _ _ := he20;have hi20 := he20.ixd;refine qi Tryz.underlying36 Ty.size55 hi20 hp20 ?_;refine qr (O_ldg 0 (Exp.cells x17 ue18_0) Ty.agg55 Ty.size55 rfl (he20.mono hS12.agree) (by omega) rfl (Nat.le_of_ble_eq_true rfl)) ?_;refine qc ?_;refine lm (rebuild_exp_1_ok hS12.good hue18_0 hr19) ?_;rintro v21 w21 ⟨Fr19, rfl, hT21⟩;have hS21 := hS12.lent hT21;refine qr (O_bin rfl rfl bI_lss) ?_;refine qn ?_;refine C_cond rfl (fun hc22 => ?_) (fun hc22 => ?_)
    ·rw [if_t hc22] at H;refine qd ?_;refine q3 ?_;refine W_nil ?_;refine N_block ?_;exact N_againM (wr (wr ((wu (wr (i13 + i14))) / 2 ^ (1 : Int).toNat) + 1), i14) _ H ⟨F12, rfl, le12, hS21⟩ ⟨rfl, rfl, rfl, rfl, rfl, rfl, trivial⟩
    ·rw [if_f hc22] at H;refine qd ?_;refine q2 ?_;refine W_nil ?_;refine N_block ?_;exact N_againM (i13, wr ((wu (wr (i13 + i14))) / 2 ^ (1 : Int).toNat)) _ H ⟨F12, rfl, le12, hS21⟩ ⟨rfl, rfl, rfl, rfl, rfl, rfl, trivial⟩
   ·rw [if_f hc16] at H;refine C_exit _ rfl ?_;exact N_join _ ⟨i13, H, ⟨F12, rfl, le12, hS12⟩⟩ ⟨rfl, rfl, rfl, rfl, rfl, trivial⟩
 ·rintro E w1 ⟨i2, H, F1, rfl, le1, hS1⟩;dsimp only [slices_BinarySearchFunc_api_Exp_api_Exp_int_rebuild_exp_1.k1] at H;refine C_seq ?_;obtain ⟨x3, hx3, H⟩ := bd_some H;obtain ⟨r5, hr5, H⟩ := bd_some H;refine C_join (fun E wq => E = [(6, .i .i64 i2), (7, .b (decide (i2 < (x0.length : Int)) && decide (r5 = 0)))] ∧ ∃ F6 : Frz, F1.le F6 ∧ St [] w F F6 [] wq) ?_ ?_
  ·
   rcases Bool.eq_false_or_eq_true (decide (i2 < (x0.length : Int))) with hb7 | hb7
   ·refine qd ?_;refine q3 ?_;refine qr (O_bin rfl rfl bI_lss) ?_;refine qc ?_;refine W_eqv (t := 39) (v' := .b true) rfl (congrArg Val.b hb7) ?_;refine q3 ?_;have hy8 := hx3;rw [only_t hb7] at hy8;obtain ⟨hp9, hy9⟩ := ix_some hy8;obtain ⟨cs9, hr9, he9⟩ := (h0.mono le1).el hy9;obtain ⟨ue4_0, rfl, hue4_0⟩ := hr9;replace he9 : Elf _ _ 3 _ _ := he9;have hi9 := he9.ixd;refine qi Tryz.underlying36 Ty.size55 hi9 hp9 ?_;refine qr (O_ldg 0 (Exp.cells x3 ue4_0) Ty.agg55 Ty.size55 rfl (he9.mono hS1.agree) (by omega) rfl (Nat.le_of_ble_eq_true rfl)) ?_;refine qc ?_;have hy10 := hr5;rw [only_t hb7] at hy10;refine lm (rebuild_exp_1_ok hS1.good hue4_0 hy10) ?_;rintro v11 w11 ⟨Fr5, rfl, hT11⟩;have hS11 := hS1.lent hT11;refine qr (O_bin rfl rfl bI_eql) ?_;refine q3 ?_;refine W_nil ?_;exact N_join _ ⟨rfl, F1, (Frz.le.refl _), hS11⟩ ⟨rfl, (look_bool rfl (by first | rfl | (rw [hb7]; first | done | rfl) | simp [hb7])), trivial⟩
   ·refine qd ?_;refine q3 ?_;refine qr (O_bin rfl rfl bI_lss) ?_;refine qc ?_;refine W_eqv (t := 39) (v' := .b false) rfl (congrArg Val.b hb7) ?_;refine qz ?_;refine qz ?_;refine qz ?_;refine qz ?_;refine qz ?_;refine qz ?_;refine qz ?_;refine qz ?_;refine q3 ?_;refine W_nil ?_;exact N_join _ ⟨rfl, F1, (Frz.le.refl _), hS1⟩ ⟨rfl, (look_bool rfl (by first | rfl | (rw [hb7]; first | done | rfl) | simp [hb7])), trivial⟩
  rintro E w6 ⟨rfl, F6, le6, hS6⟩;refine N_code ?_;obtain rfl := oi H;refine C_ret rfl rfl ?_;exact ⟨F6, rfl, hS6⟩
def rebuild_stays_1 (x0 : Exp) (x1 : Snap) : Option Bool :=
  some (decide (x0.of = x1.seq))
set_option maxRecDepth 100000 in
theorem rebuild_stays_1_ok {K : Tb} {F : Frz} {w : Hp} {x0 : Exp} {x1 : Snap} {r : Bool} {v0_0 : Val} {gp1 : Nat} {v1_0 : Val} {v1_1 : Val} (hA : Gd F w) (h0_0 : SlF Loc.t F v0_0 x0.locs) (h1_0 : SlF Part.t F v1_0 x1.man.parts) (h1_1 : SlF Loc.t F v1_1 x1.locs) (hb1 : BxF F gp1 [.i .i64 x1.seq, .s x1.man.name, v1_0, v1_1]) (H : rebuild_stays_1 x0 x1 = some r) : Ret Tryz.prog K 146 [.agg (Exp.cells x0 v0_0), pl gp1 0] w fun v w' => ∃ (F' : Frz), v = .b r ∧ St [] w F F' [] w' := by
 refine qa2 Tryz.func146 ?_;have hS := St.start hA;dsimp only [rebuild_stays_1] at H;refine qs ?_;refine xm (E_bx (cs := [.i .i64 x0.seq, .i .i64 x0.of, v0_0]) rfl rfl (by simp only [List.all_cons, List.all_nil, List.all_append, h0_0.ln.one]; rfl) hS) ?_;rintro _ w1 ⟨g1, rfl, hS1⟩;refine qm ?_;refine qs ?_;refine qf Ty.field55_1 ?_;refine qb 0 Ty.cell3 hS1 ?_;refine qf Ty.field46_0 ?_;refine qr (O_fld1 Ty.cell3 rfl (hb1.mono hS1.agree) rfl) ?_;refine qr (O_bin rfl rfl bI_eql) ?_;refine qm ?_;obtain rfl := oi H;refine C_ret rfl rfl ?_;exact ⟨F, rfl, hS1.pick [] (by decide)⟩
def slices_IndexFunc_api_Exp_api_Exp_rebuild_stays_1.k1 : Option Int :=
  some (-1)
def slices_IndexFunc_api_Exp_api_Exp_rebuild_stays_1.l2 (x0 : List Exp) (x1_0 : Snap) (rec4 : Int → Option Int) : Int → Option Int
  | i3 =>
    if decide (i3 < (x0.length : Int)) then
      bd (ix x0 i3) fun x6 =>
      bd (rebuild_stays_1 x6 x1_0) fun r8 =>
      if r8 then
        some i3
      else
        rec4 (wr (i3 + 1))
    else
      slices_IndexFunc_api_Exp_api_Exp_rebuild_stays_1.k1
def slices_IndexFunc_api_Exp_api_Exp_rebuild_stays_1 (x0 : List Exp) (x1_0 : Snap) : Option Int :=
  loop (slices_IndexFunc_api_Exp_api_Exp_rebuild_stays_1.l2 x0 x1_0) 0
set_option maxRecDepth 100000 in
theorem slices_IndexFunc_api_Exp_api_Exp_rebuild_stays_1_ok {K : Tb} {F : Frz} {w : Hp} {x0 : List Exp} {x1_0 : Snap} {r : Int} {v0 : Val} {gp1_0 : Nat} {v1_0_0 : Val} {v1_0_1 : Val} (hA : Gd F w) (h0 : SlF Exp.t F v0 x0) (h1_0_0 : SlF Part.t F v1_0_0 x1_0.man.parts) (h1_0_1 : SlF Loc.t F v1_0_1 x1_0.locs) (hb1_0 : BxF F gp1_0 [.i .i64 x1_0.seq, .s x1_0.man.name, v1_0_0, v1_0_1]) (H : slices_IndexFunc_api_Exp_api_Exp_rebuild_stays_1 x0 x1_0 = some r) : Ret Tryz.prog K 166 [v0, .f 146 [pl gp1_0 0]] w fun v w' => ∃ (F' : Frz), v = .i .i64 r ∧ St [] w F F' [] w' := by
 refine qa2 Tryz.func166 ?_;have hS := St.start hA;dsimp only [slices_IndexFunc_api_Exp_api_Exp_rebuild_stays_1] at H;refine qs ?_;refine qm ?_;refine C_seq_join (fun E wq => slices_IndexFunc_api_Exp_api_Exp_rebuild_stays_1.k1 = some r ∧ ∃ (F1 : Frz), E = [] ∧ F.le F1 ∧ St [] w F F1 [] wq) ?_ ?_
 ·refine qs ?_;refine qc ?_;refine qr (O_len Tryz.underlying36 rfl h0.ln) ?_;refine qm ?_;refine C_block ?_;refine C_loopM (fun (s : Int) E wq => ∃ (F2 : Frz), E = [(0, v0), (1, .f 146 [pl gp1_0 0]), (7, .i .i64 (x0.length : Int)), (8, .i .i64 s)] ∧ F.le F2 ∧ St [] w F F2 [] wq) H ?_ ?_
  ·exact ⟨_, ⟨F, rfl, (Frz.le.refl _), hS⟩, ⟨rfl, rfl, rfl, rfl, trivial⟩⟩
  ·rintro rec4 i3 E w2 hI H
   try dsimp only at hI
   obtain ⟨F2, rfl, le2, hS2⟩ := hI;dsimp only [slices_IndexFunc_api_Exp_api_Exp_rebuild_stays_1.l2] at H;refine qs ?_;refine qr (O_bin rfl rfl bI_lss) ?_;refine qn ?_;refine C_seq ?_;refine C_cond rfl (fun hc5 => ?_) (fun hc5 => ?_)
   ·rw [if_t hc5] at H;refine qk ?_;refine C_seq ?_;refine C_block ?_;refine qs ?_;refine qc ?_;refine qm ?_;refine C_seq ?_;obtain ⟨x6, hx6, H⟩ := bd_some H;obtain ⟨r8, hr8, H⟩ := bd_some H;refine qd ?_;refine q3 ?_;obtain ⟨hp9, hy9⟩ := ix_some hx6;obtain ⟨cs9, hr9, he9⟩ := (h0.mono le2).el hy9;obtain ⟨ue7_0, rfl, hue7_0⟩ := hr9;replace he9 : Elf _ _ 3 _ _ := he9;have hi9 := he9.ixd;refine qi Tryz.underlying36 Ty.size55 hi9 hp9 ?_;refine qr (O_ldg 0 (Exp.cells x6 ue7_0) Ty.agg55 Ty.size55 rfl (he9.mono hS2.agree) (by omega) rfl (Nat.le_of_ble_eq_true rfl)) ?_;refine lm (rebuild_stays_1_ok hS2.good hue7_0 (h1_0_0.mono le2) (h1_0_1.mono le2) (hb1_0.mono le2) hr8) ?_;rintro v10 w10 ⟨Fr8, rfl, hT10⟩;have hS10 := hS2.lent hT10;refine qn ?_;refine C_cond rfl (fun hc11 => ?_) (fun hc11 => ?_)
    ·rw [if_t hc11] at H;refine qs ?_;refine qc ?_;refine qm ?_;obtain rfl := oi H;refine C_ret rfl rfl ?_;exact ⟨F2, rfl, hS10⟩
    ·rw [if_f hc11] at H;refine C_skip ?_;refine N_block ?_;refine N_code ?_;refine qd ?_;refine q2 ?_;refine W_nil ?_;exact N_againM (wr (i3 + 1)) _ H ⟨F2, rfl, le2, hS10⟩ ⟨rfl, rfl, rfl, rfl, trivial⟩
   ·rw [if_f hc5] at H;refine C_exit _ rfl ?_;exact N_join _ ⟨H, ⟨F2, rfl, le2, hS2⟩⟩ trivial
 ·rintro E w1 ⟨H, F1, rfl, le1, hS1⟩;dsimp only [slices_IndexFunc_api_Exp_api_Exp_rebuild_stays_1.k1] at H;refine qs ?_;refine qm ?_;obtain rfl := oi H;refine C_ret rfl rfl ?_;exact ⟨F1, rfl, hS1⟩
def slices_ContainsFunc_api_Exp_api_Exp_rebuild_stays_1 (x0 : List Exp) (x1_0 : Snap) : Option Bool :=
  bd (slices_IndexFunc_api_Exp_api_Exp_rebuild_stays_1 x0 x1_0) fun r1 =>
  some (decide (0 ≤ r1))
set_option maxRecDepth 100000 in
theorem slices_ContainsFunc_api_Exp_api_Exp_rebuild_stays_1_ok {K : Tb} {F : Frz} {w : Hp} {x0 : List Exp} {x1_0 : Snap} {r : Bool} {v0 : Val} {gp1_0 : Nat} {v1_0_0 : Val} {v1_0_1 : Val} (hA : Gd F w) (h0 : SlF Exp.t F v0 x0) (h1_0_0 : SlF Part.t F v1_0_0 x1_0.man.parts) (h1_0_1 : SlF Loc.t F v1_0_1 x1_0.locs) (hb1_0 : BxF F gp1_0 [.i .i64 x1_0.seq, .s x1_0.man.name, v1_0_0, v1_0_1]) (H : slices_ContainsFunc_api_Exp_api_Exp_rebuild_stays_1 x0 x1_0 = some r) : Ret Tryz.prog K 145 [v0, .f 146 [pl gp1_0 0]] w fun v w' => ∃ (F' : Frz), v = .b r ∧ St [] w F F' [] w' := by
 refine qa2 Tryz.func145 ?_;have hS := St.start hA;dsimp only [slices_ContainsFunc_api_Exp_api_Exp_rebuild_stays_1] at H;refine qs ?_;refine qm ?_;refine C_seq ?_;obtain ⟨r1, hr1, H⟩ := bd_some H;refine qd ?_;refine q2 ?_;refine lm (slices_IndexFunc_api_Exp_api_Exp_rebuild_stays_1_ok hS.good h0 h1_0_0 h1_0_1 hb1_0 hr1) ?_;rintro v2 w2 ⟨Fr1, rfl, hT2⟩;have hS2 := hS.lent hT2;refine qr (O_bin rfl rfl bI_geq) ?_;refine qm ?_;obtain rfl := oi H;refine C_ret rfl rfl ?_;exact ⟨F, rfl, hS2⟩
def slices_Compact_32_byte_32_byte.k1 (x0 : List (List UInt8)) : Option (List (List UInt8)) :=
  some x0
def slices_Compact_32_byte_32_byte.k3 (i4 : Int) (rec5 : Int → Option (List (List UInt8))) : Option (List (List UInt8)) :=
  rec5 (wr (i4 + 1))
def slices_Compact_32_byte_32_byte.k4 (i18 : Int) (l19 : List (List UInt8)) : Option (List (List UInt8)) :=
  bd (cut (α := (List UInt8)) l19 i18 (l19.length : Int)) fun l20 =>
  bd (clr l19 i18.toNat ((l19.length : Int).toNat - i18.toNat) (List.replicate 32 (0 : UInt8))) fun l22 =>
  bd (cut (α := (List UInt8)) l22 0 i18) fun l24 =>
  bd (nz l22) fun _ =>
  some l24
def slices_Compact_32_byte_32_byte.k6 (i29 : Int) (rec31 : (Int × Int × (List (List UInt8))) → Option (List (List UInt8))) (i34 : Int) (l35 : List (List UInt8)) : Option (List (List UInt8)) :=
  rec31 (i34, wr (i29 + 1), l35)
def slices_Compact_32_byte_32_byte.l5 (x0 : List (List UInt8)) (i4 : Int) (rec31 : (Int × Int × (List (List UInt8))) → Option (List (List UInt8))) : (Int × Int × (List (List UInt8))) → Option (List (List UInt8))
  | (i28, i29, l30) =>
    if decide (i29 < (((x0.length : Int).toNat - i4.toNat : Nat) : Int)) then
      bd (ixp l30 i4.toNat ((x0.length : Int).toNat - i4.toNat) i29) fun x36 =>
      bd (ixp l30 i4.toNat ((x0.length : Int).toNat - i4.toNat) (wr (i29 - 1))) fun x38 =>
      if (!decide (x36 = x38)) then
        bd (ixp l30 i4.toNat ((x0.length : Int).toNat - i4.toNat) i29) fun x43 =>
        bd (ix l30 i28) fun x45 =>
        slices_Compact_32_byte_32_byte.k6 i29 rec31 (wr (i28 + 1)) (l30.set i28.toNat x43)
      else
        slices_Compact_32_byte_32_byte.k6 i29 rec31 i28 l30
    else
      slices_Compact_32_byte_32_byte.k4 i28 l30
def slices_Compact_32_byte_32_byte.l2 (x0 : List (List UInt8)) (rec5 : Int → Option (List (List UInt8))) : Int → Option (List (List UInt8))
  | i4 =>
    if decide (i4 < (x0.length : Int)) then
      bd (ix x0 i4) fun x8 =>
      bd (ix x0 (wr (i4 - 1))) fun x10 =>
      if decide (x8 = x10) then
        bd (cut (α := (List UInt8)) x0 i4 (x0.length : Int)) fun l15 =>
        loop (slices_Compact_32_byte_32_byte.l5 x0 i4) (i4, 1, x0)
      else
        slices_Compact_32_byte_32_byte.k3 i4 rec5
    else
      slices_Compact_32_byte_32_byte.k1 x0
def slices_Compact_32_byte_32_byte (x0 : List (List UInt8)) : Option (List (List UInt8)) :=
  if decide ((x0.length : Int) < 2) then
    some x0
  else
    loop (slices_Compact_32_byte_32_byte.l2 x0) 1
set_option maxRecDepth 100000 in
theorem slices_Compact_32_byte_32_byte_ok {K : Tb} {F : Frz} {w : Hp} {x0 : List (List UInt8)} {r : (List (List UInt8))} {v0 : Val} (hS : St v0.own w F F [.row tId v0 x0] w) (H : slices_Compact_32_byte_32_byte x0 = some r) : Ret Tryz.prog K 170 [v0] w fun v w' => ∃ (F' : Frz) (q0 : Val), v = q0 ∧ St v0.own w F F' [.row tId q0 (r)] w' := by
 refine qa1 Tryz.func170 ?_;dsimp only [slices_Compact_32_byte_32_byte] at H;refine qs ?_;refine qm ?_;refine C_seq ?_;refine qs ?_;refine qc ?_;refine qr (O_len Tryz.underlying118 rfl (hS.rowLn (k := 0) rfl)) ?_;refine qr (O_bin rfl rfl bI_lss) ?_;refine qn ?_;refine C_cond rfl (fun hc1 => ?_) (fun hc1 => ?_)
 ·rw [if_t hc1] at H;refine qs ?_;refine qc ?_;refine qm ?_;obtain rfl := oi H;refine C_ret rfl rfl ?_;exact ⟨F, v0, rfl, hS⟩
 ·rw [if_f hc1] at H;refine qk ?_;refine C_seq_join (fun E wq => slices_Compact_32_byte_32_byte.k1 x0 = some r ∧ ∃ (F2 : Frz), E = [(0, v0)] ∧ F.le F2 ∧ St v0.own w F F2 [.row tId v0 x0] wq) ?_ ?_
  ·refine qs ?_;refine qm ?_;refine C_block ?_;refine C_loopM (fun (s : Int) E wq => ∃ (F3 : Frz), E = [(0, v0), (3, .i .i64 s)] ∧ F.le F3 ∧ St v0.own w F F3 [.row tId v0 x0] wq) H ?_ ?_
   ·exact ⟨_, ⟨F, rfl, (Frz.le.refl _), hS⟩, ⟨rfl, rfl, trivial⟩⟩
   ·rintro rec5 i4 E w3 hI H
    try dsimp only at hI
    obtain ⟨F3, rfl, le3, hS3⟩ := hI;dsimp only [slices_Compact_32_byte_32_byte.l2] at H;refine C_seq ?_;refine qs ?_;refine q2 ?_;refine qr (O_len Tryz.underlying118 rfl (hS3.rowLn (k := 0) rfl)) ?_;refine qr (O_bin rfl rfl bI_lss) ?_;refine qn ?_;refine C_cond rfl (fun hc6 => ?_) (fun hc6 => ?_)
    ·rw [if_t hc6] at H;refine qk ?_;refine C_seq_join (fun E wq => slices_Compact_32_byte_32_byte.k3 i4 rec5 = some r ∧ ∃ (F7 : Frz), E = [(0, v0), (3, .i .i64 i4)] ∧ F3.le F7 ∧ St v0.own w F F7 [.row tId v0 x0] wq) ?_ ?_
     ·refine C_block ?_;refine C_seq ?_;obtain ⟨x8, hx8, H⟩ := bd_some H;obtain ⟨x10, hx10, H⟩ := bd_some H;refine C_regionD (G := (nowF _)) [0, 1, 2, 3, 4, 5, 6, 7, 8, 9] rfl Ty.mixed (by kernel_rfl) (nowF_agree _) ?_;refine q2 ?_;obtain ⟨hp12, hy12⟩ := ix_some hx8;obtain ⟨cs12, hr12, he12⟩ := hS3.rowAt (k := 0) rfl hy12;obtain ⟨rfl, hle9⟩ := hr12;replace he12 : Elf _ _ 32 _ _ := he12;have hi12 := he12.ixd;refine qi Tryz.underlying118 Ty.size58 hi12 hp12 ?_;refine qr (O_ldg 0 (idCells x8) Ty.agg58 Ty.size58 rfl he12 (by omega) rfl (Nat.le_of_ble_eq_true rfl)) ?_;refine q3 ?_;obtain ⟨hp13, hy13⟩ := ix_some hx10;obtain ⟨cs13, hr13, he13⟩ := hS3.rowAt (k := 0) rfl hy13;obtain ⟨rfl, hle11⟩ := hr13;replace he13 : Elf _ _ 32 _ _ := he13;have hi13 := he13.ixd;refine qi Tryz.underlying118 Ty.size58 hi13 hp13 ?_;refine qr (O_ldg 0 (idCells x10) Ty.agg58 Ty.size58 rfl he13 (by omega) rfl (Nat.le_of_ble_eq_true rfl)) ?_;refine qr (O_bin rfl rfl (bA_eql Ty.eqt58 rfl rfl (eqL_id hle9 hle11))) ?_;refine qn ?_;refine C_cond rfl (fun hc14 => ?_) (fun hc14 => ?_)
      ·rw [if_t hc14] at H;refine C_seq ?_;obtain ⟨l15, hl15, H⟩ := bd_some H;refine qd ?_;refine q2 ?_;refine W_cutR 0 i4 (x0.length : Int) rfl rfl rfl rfl Tryz.underlying118 Ty.size58 rfl (.inr ⟨_, _, rfl, rfl⟩) (.inl ⟨rfl, rfl⟩) hS3 rfl hl15 ?_;intro q16 hv16 hw16;refine qm ?_;refine C_seq_join (fun E wq => ∃ i18 : Int, ∃ l19 : List (List UInt8), slices_Compact_32_byte_32_byte.k4 i18 l19 = some r ∧ ∃ (F17 : Frz), E = [(0, v0), (3, .i .i64 i18)] ∧ F3.le F17 ∧ St v0.own w F F17 [.row tId v0 l19] wq) ?_ ?_
       ·refine qs ?_;refine qm ?_;refine C_block ?_;refine C_loopM (fun (s : Int × Int × (List (List UInt8))) E wq => ∃ (F27 : Frz), E = [(0, v0), (3, .i .i64 s.1), (4, q16), (5, .i .i64 s.2.1)] ∧ F3.le F27 ∧ St v0.own w F F27 [.row tId v0 s.2.2] wq) H ?_ ?_
        ·exact ⟨_, ⟨F3, rfl, (Frz.le.refl _), hS3⟩, ⟨rfl, rfl, rfl, rfl, trivial⟩⟩
        ·rintro rec31 ⟨i28, i29, l30⟩ E w27 hI H
         try dsimp only at hI
         obtain ⟨F27, rfl, le27, hS27⟩ := hI;dsimp only [slices_Compact_32_byte_32_byte.l5] at H;refine C_seq ?_;refine qs ?_;refine q2 ?_;refine qr (O_len Tryz.underlying118 rfl hw16.ln) ?_;refine qr (O_bin rfl rfl bI_lss) ?_;refine qn ?_;refine C_cond rfl (fun hc32 => ?_) (fun hc32 => ?_)
         ·rw [if_t hc32] at H;refine qk ?_;refine C_seq_join (fun E wq => ∃ i34 : Int, ∃ l35 : List (List UInt8), slices_Compact_32_byte_32_byte.k6 i29 rec31 i34 l35 = some r ∧ ∃ (F33 : Frz), E = [(0, v0), (3, .i .i64 i34), (4, q16), (5, .i .i64 i29)] ∧ F27.le F33 ∧ St v0.own w F F33 [.row tId v0 l35] wq) ?_ ?_
          ·refine C_block ?_;refine C_seq ?_;obtain ⟨x36, hx36, H⟩ := bd_some H;obtain ⟨x38, hx38, H⟩ := bd_some H;refine C_regionD (G := (nowF _)) [0, 1, 2, 3, 4, 5, 6, 7, 8, 9] rfl Ty.mixed (by kernel_rfl) (nowF_agree _) ?_;refine q2 ?_;obtain ⟨hp40, hz40, hy40⟩ := ixp_some hx36;obtain ⟨cs40, hr40, he40⟩ := hS27.rowAt (k := 0) rfl hy40;obtain ⟨rfl, hle37⟩ := hr40;replace he40 := he40.piece hw16 hz40;replace he40 : Elf _ _ 32 _ _ := he40;have hi40 := he40.ixd;refine qi Tryz.underlying118 Ty.size58 hi40 hp40 ?_;refine qr (O_ldg 0 (idCells x36) Ty.agg58 Ty.size58 rfl he40 (by omega) rfl (Nat.le_of_ble_eq_true rfl)) ?_;refine q3 ?_;obtain ⟨hp41, hz41, hy41⟩ := ixp_some hx38;obtain ⟨cs41, hr41, he41⟩ := hS27.rowAt (k := 0) rfl hy41;obtain ⟨rfl, hle39⟩ := hr41;replace he41 := he41.piece hw16 hz41;replace he41 : Elf _ _ 32 _ _ := he41;have hi41 := he41.ixd;refine qi Tryz.underlying118 Ty.size58 hi41 hp41 ?_;refine qr (O_ldg 0 (idCells x38) Ty.agg58 Ty.size58 rfl he41 (by omega) rfl (Nat.le_of_ble_eq_true rfl)) ?_;refine qr (O_bin rfl rfl (bA_neq Ty.eqt58 rfl rfl (eqL_id hle37 hle39))) ?_;refine qn ?_;refine C_cond rfl (fun hc42 => ?_) (fun hc42 => ?_)
           ·rw [if_t hc42] at H;refine C_seq ?_;obtain ⟨x43, hx43, H⟩ := bd_some H;obtain ⟨x45, hx45, H⟩ := bd_some H;refine qd ?_;refine q4 ?_;obtain ⟨hp47, hz47, hy47⟩ := ixp_some hx43;obtain ⟨cs47, hr47, he47⟩ := hS27.rowAt (k := 0) rfl hy47;obtain ⟨rfl, hle44⟩ := hr47;replace he47 := he47.piece hw16 hz47;replace he47 : Elf _ _ 32 _ _ := he47;have hi47 := he47.ixd;refine qi Tryz.underlying118 Ty.size58 hi47 hp47 ?_;refine qr (O_ldg 0 (idCells x43) Ty.agg58 Ty.size58 rfl he47 (by omega) rfl (Nat.le_of_ble_eq_true rfl)) ?_;obtain ⟨hp48, hy48⟩ := ix_some hx45;obtain ⟨cs48, hr48, he48⟩ := hS27.rowAt (k := 0) rfl hy48;obtain ⟨rfl, hle46⟩ := hr48;replace he48 : Elf _ _ 32 _ _ := he48;have hi48 := he48.ixd;refine qi Tryz.underlying118 Ty.size58 hi48 hp48 ?_;refine um (E_put (c := idCells x43) 0 (i28.toNat) 0 x45 x43 rfl rfl hS27 rfl (ix_some hx45).2 (by first | rfl | (show _ = _ * 32 + _; omega)) rfl Ty.size58 rfl (Nat.le_of_ble_eq_true rfl) (by rintro cs ⟨rfl, c0⟩; exact ⟨rfl, hle44⟩)) ?_;rintro _ w49 hS49;refine qn ?_;refine qd ?_;refine q3 ?_;refine W_nil ?_;refine N_block ?_;exact N_join _ ⟨wr (i28 + 1), (l30.set i28.toNat x43), H, ⟨F27, rfl, (Frz.le.refl _), hS49⟩⟩ ⟨rfl, rfl, rfl, rfl, trivial⟩
           ·rw [if_f hc42] at H;refine C_skip ?_;refine N_block ?_;exact N_join _ ⟨i28, l30, H, ⟨F27, rfl, (Frz.le.refl _), hS27⟩⟩ ⟨rfl, rfl, rfl, rfl, trivial⟩
          ·rintro E w33 ⟨i34, l35, H, F33, rfl, le33, hS33⟩;dsimp only [slices_Compact_32_byte_32_byte.k6] at H;refine qd ?_;refine q3 ?_;refine W_nil ?_;exact N_againM (i34, wr (i29 + 1), l35) _ H ⟨F33, rfl, (le27.trans le33), hS33⟩ ⟨rfl, rfl, rfl, rfl, trivial⟩
         ·rw [if_f hc32] at H;refine C_exit _ rfl ?_;exact N_join _ ⟨i28, l30, H, ⟨F27, rfl, le27, hS27⟩⟩ ⟨rfl, rfl, trivial⟩
       ·rintro E w17 ⟨i18, l19, H, F17, rfl, le17, hS17⟩;dsimp only [slices_Compact_32_byte_32_byte.k4] at H;refine C_seq ?_;obtain ⟨l20, hl20, H⟩ := bd_some H;obtain ⟨l22, hl22, H⟩ := bd_some H;refine qd ?_;refine q2 ?_;refine W_cutR 0 i18 (l19.length : Int) rfl rfl rfl rfl Tryz.underlying118 Ty.size58 rfl (.inr ⟨_, _, rfl, rfl⟩) (.inl ⟨rfl, rfl⟩) hS17 rfl hl20 ?_;intro q21 hv21 hw21;refine um (E_clr (tr := tId) (x0 := (List.replicate 32 (0 : UInt8))) 0 Tryz.underlying118 Ty.zero58 ⟨rfl, (List.length_replicate)⟩ rfl hS17 rfl hw21 hl22) ?_;rintro _ w23 hS23;refine qn ?_;refine C_seq ?_;obtain ⟨l24, hl24, H⟩ := bd_some H;refine qd ?_;refine q2 ?_;refine W_cutR 0 0 i18 rfl rfl rfl rfl Tryz.underlying118 Ty.size58 rfl (.inl ⟨rfl, rfl⟩) (.inr ⟨_, _, rfl, rfl⟩) hS23 rfl hl24 ?_;intro q25 hv25 hw25;refine qm ?_;obtain ⟨_, hnz26, H⟩ := bd_some H;have hS26 := hS23.shrink 0 rfl hw25 hl24 hnz26;obtain rfl := oi H;refine C_ret rfl rfl ?_;exact ⟨F17, q25, rfl, hS26⟩
      ·rw [if_f hc14] at H;refine C_skip ?_;refine N_block ?_;exact N_join _ ⟨H, ⟨F3, rfl, (Frz.le.refl _), hS3⟩⟩ ⟨rfl, rfl, trivial⟩
     ·rintro E w7 ⟨H, F7, rfl, le7, hS7⟩;dsimp only [slices_Compact_32_byte_32_byte.k3] at H;refine qd ?_;refine q3 ?_;refine W_nil ?_;exact N_againM (wr (i4 + 1)) _ H ⟨F7, rfl, (le3.trans le7), hS7⟩ ⟨rfl, rfl, trivial⟩
    ·rw [if_f hc6] at H;refine C_exit _ rfl ?_;exact N_join _ ⟨H, ⟨F3, rfl, le3, hS3⟩⟩ ⟨rfl, trivial⟩
  ·rintro E w2 ⟨H, F2, rfl, le2, hS2⟩;dsimp only [slices_Compact_32_byte_32_byte.k1] at H;refine qs ?_;refine qc ?_;refine qm ?_;obtain rfl := oi H;refine C_ret rfl rfl ?_;exact ⟨F2, v0, rfl, hS2⟩
def slices_Clone_32_byte_32_byte (x0 : List (List UInt8)) : Option (List (List UInt8)) :=
  bd (app (α := (List UInt8)) ([] : List (List UInt8)) x0) fun l6 =>
  some l6
set_option maxRecDepth 100000 in
theorem slices_Clone_32_byte_32_byte_ok {K : Tb} {F : Frz} {w : Hp} {x0 : List (List UInt8)} {r : (List (List UInt8))} {v0 : Val} (hA : Gd F w) (h0 : SlF tId F v0 x0) (H : slices_Clone_32_byte_32_byte x0 = some r) : Ret Tryz.prog K 154 [v0] w fun v w' => ∃ (F' : Frz) (q0 : Val), v = q0 ∧ St [] w F F' [.row tId q0 (r)] w' := by
 refine qa1 Tryz.func154 ?_;have hS := St.start hA;dsimp only [slices_Clone_32_byte_32_byte] at H;refine qs ?_;refine qm ?_;refine C_seq ?_;refine qs ?_;refine qc ?_;refine W_nilq rfl rfl rfl rfl Tryz.underlying118 rfl rfl h0.ln ?_;intro b1 hb1;refine qn ?_;refine C_cond rfl (fun hc2 => ?_) (fun hc2 => ?_)
 ·have hx2 : x0 = [] := List.eq_nil_of_length_eq_zero (hb1 hc2);have H : (some [] : Option (List (List UInt8))) = some r := by first | (rw [hx2] at H; exact H) | (subst hx2; exact H)
  refine qs ?_;refine qm ?_;have hS4 := hS.nilRow tId;obtain rfl := oi H;refine C_ret rfl rfl ?_;exact ⟨F, (.sl none 0 (.k 0)), rfl, hS4⟩
 ·refine qk ?_;refine C_seq ?_;obtain ⟨l6, hl6, H⟩ := bd_some H;refine qd ?_;refine xm (E_bs (t := tId) (vs := []) (xs := ([] : List (List UInt8))) Tryz.underlying118 Ty.row58 rfl trivial rfl rfl hS) ?_;rintro u5 w5 hS5;refine qc ?_;refine xm (E_app (t := tId) 0 Tryz.underlying118 Ty.row58 Ty.zk118 rfl rfl hS5 rfl (h0.src hS5.agree) hl6) ?_;rintro v7 w7 hS7;refine qm ?_;obtain rfl := oi H;refine C_ret rfl rfl ?_;exact ⟨F, v7, rfl, hS7⟩
def rebuild_stays_2 (x0 : List UInt8) (x1 : Catalog) : Option Bool :=
  bd (catalog_Place x1.chunks x0) fun r2 =>
  some (!r2.2)
set_option maxRecDepth 100000 in
theorem rebuild_stays_2_ok {K : Tb} [Kn (KExt Tryz.prog) K] {F : Frz} {w : Hp} {x0 : List UInt8} {x1 : Catalog} {r : Bool} {gp1 : Nat} {v1_0 : Val} {v1_1 : Val} {v1_2 : Val} {v1_3 : Val} (hA : Gd F w) (h0 : x0.length = 32) (h1_0 : SlF Snap.t F v1_0 x1.snaps) (h1_1 : SlF Chunk.t F v1_1 x1.chunks) (h1_2 : SlF Exp.t F v1_2 x1.exps) (h1_3 : SlF Vol.t F v1_3 x1.vols) (hb1 : BxF F gp1 [.i .i64 x1.seq, v1_0, v1_1, v1_2, v1_3]) (H : rebuild_stays_2 x0 x1 = some r) : Ret Tryz.prog K 149 [.agg (idCells x0), pl gp1 0] w fun v w' => ∃ (F' : Frz), v = .b r ∧ St [] w F F' [] w' := by
 refine qa2 Tryz.func149 ?_;have hS := St.start hA;dsimp only [rebuild_stays_2] at H;refine qs ?_;refine xm (E_bx (cs := idCells x0) rfl rfl rfl hS) ?_;rintro _ w1 ⟨g1, rfl, hS1⟩;refine qm ?_;refine C_seq ?_;obtain ⟨r2, hr2, H⟩ := bd_some H;refine qd ?_;refine qf Ty.field38_2 ?_;refine qr (O_fld1 Ty.cell35 rfl (hb1.mono hS1.agree) rfl) ?_;refine qr (O_bldg 0 (idCells x0) Ty.agg58 Ty.size58 (Nat.zero_lt_succ _) rfl hS1 rfl (fun q u h => sub_at (post := []) rfl h)) ?_;refine lm (catalog_Place_ok hS1.good h1_1 h0 hr2) ?_;rintro v3 w3 ⟨Fr2, rfl, hT3⟩;have hS3 := hS1.lent hT3;refine q4 ?_;refine qm ?_;refine qs ?_;refine q2 ?_;refine qm ?_;obtain rfl := oi H;refine C_ret rfl rfl ?_;exact ⟨F, rfl, hS3.pick [] (by decide)⟩
def slices_IndexFunc_32_byte_32_byte_rebuild_stays_2.k1 : Option Int :=
  some (-1)
def slices_IndexFunc_32_byte_32_byte_rebuild_stays_2.l2 (x0 : List (List UInt8)) (x1_0 : Catalog) (rec4 : Int → Option Int) : Int → Option Int
  | i3 =>
    if decide (i3 < (x0.length : Int)) then
      bd (ix x0 i3) fun x6 =>
      bd (rebuild_stays_2 x6 x1_0) fun r8 =>
      if r8 then
        some i3
      else
        rec4 (wr (i3 + 1))
    else
      slices_IndexFunc_32_byte_32_byte_rebuild_stays_2.k1
def slices_IndexFunc_32_byte_32_byte_rebuild_stays_2 (x0 : List (List UInt8)) (x1_0 : Catalog) : Option Int :=
  loop (slices_IndexFunc_32_byte_32_byte_rebuild_stays_2.l2 x0 x1_0) 0
set_option maxRecDepth 100000 in
theorem slices_IndexFunc_32_byte_32_byte_rebuild_stays_2_ok {K : Tb} [Kn (KExt Tryz.prog) K] {F : Frz} {w : Hp} {x0 : List (List UInt8)} {x1_0 : Catalog} {r : Int} {v0 : Val} {gp1_0 : Nat} {v1_0_0 : Val} {v1_0_1 : Val} {v1_0_2 : Val} {v1_0_3 : Val} (hA : Gd F w) (h0 : SlF tId F v0 x0) (h1_0_0 : SlF Snap.t F v1_0_0 x1_0.snaps) (h1_0_1 : SlF Chunk.t F v1_0_1 x1_0.chunks) (h1_0_2 : SlF Exp.t F v1_0_2 x1_0.exps) (h1_0_3 : SlF Vol.t F v1_0_3 x1_0.vols) (hb1_0 : BxF F gp1_0 [.i .i64 x1_0.seq, v1_0_0, v1_0_1, v1_0_2, v1_0_3]) (H : slices_IndexFunc_32_byte_32_byte_rebuild_stays_2 x0 x1_0 = some r) : Ret Tryz.prog K 167 [v0, .f 149 [pl gp1_0 0]] w fun v w' => ∃ (F' : Frz), v = .i .i64 r ∧ St [] w F F' [] w' := by
 refine qa2 Tryz.func167 ?_;have hS := St.start hA;dsimp only [slices_IndexFunc_32_byte_32_byte_rebuild_stays_2] at H;refine qs ?_;refine qm ?_;refine C_seq_join (fun E wq => slices_IndexFunc_32_byte_32_byte_rebuild_stays_2.k1 = some r ∧ ∃ (F1 : Frz), E = [] ∧ F.le F1 ∧ St [] w F F1 [] wq) ?_ ?_
 ·refine qs ?_;refine qc ?_;refine qr (O_len Tryz.underlying118 rfl h0.ln) ?_;refine qm ?_;refine C_block ?_;refine C_loopM (fun (s : Int) E wq => ∃ (F2 : Frz), E = [(0, v0), (1, .f 149 [pl gp1_0 0]), (7, .i .i64 (x0.length : Int)), (8, .i .i64 s)] ∧ F.le F2 ∧ St [] w F F2 [] wq) H ?_ ?_
  ·exact ⟨_, ⟨F, rfl, (Frz.le.refl _), hS⟩, ⟨rfl, rfl, rfl, rfl, trivial⟩⟩
  ·rintro rec4 i3 E w2 hI H
   try dsimp only at hI
   obtain ⟨F2, rfl, le2, hS2⟩ := hI;dsimp only [slices_IndexFunc_32_byte_32_byte_rebuild_stays_2.l2] at H;refine qs ?_;refine qr (O_bin rfl rfl bI_lss) ?_;refine qn ?_;refine C_seq ?_;refine C_cond rfl (fun hc5 => ?_) (fun hc5 => ?_)
   ·rw [if_t hc5] at H;refine qk ?_;refine C_seq ?_;refine C_block ?_;refine qs ?_;refine qc ?_;refine qm ?_;refine C_seq ?_;obtain ⟨x6, hx6, H⟩ := bd_some H;obtain ⟨r8, hr8, H⟩ := bd_some H;refine qd ?_;refine q3 ?_;obtain ⟨hp9, hy9⟩ := ix_some hx6;obtain ⟨cs9, hr9, he9⟩ := (h0.mono le2).el hy9;obtain ⟨rfl, hle7⟩ := hr9;replace he9 : Elf _ _ 32 _ _ := he9;have hi9 := he9.ixd;refine qi Tryz.underlying118 Ty.size58 hi9 hp9 ?_;refine qr (O_ldg 0 (idCells x6) Ty.agg58 Ty.size58 rfl (he9.mono hS2.agree) (by omega) rfl (Nat.le_of_ble_eq_true rfl)) ?_;refine lm (rebuild_stays_2_ok hS2.good hle7 (h1_0_0.mono le2) (h1_0_1.mono le2) (h1_0_2.mono le2) (h1_0_3.mono le2) (hb1_0.mono le2) hr8) ?_;rintro v10 w10 ⟨Fr8, rfl, hT10⟩;have hS10 := hS2.lent hT10;refine qn ?_;refine C_cond rfl (fun hc11 => ?_) (fun hc11 => ?_)
    ·rw [if_t hc11] at H;refine qs ?_;refine qc ?_;refine qm ?_;obtain rfl := oi H;refine C_ret rfl rfl ?_;exact ⟨F2, rfl, hS10⟩
    ·rw [if_f hc11] at H;refine C_skip ?_;refine N_block ?_;refine N_code ?_;refine qd ?_;refine q2 ?_;refine W_nil ?_;exact N_againM (wr (i3 + 1)) _ H ⟨F2, rfl, le2, hS10⟩ ⟨rfl, rfl, rfl, rfl, trivial⟩
   ·rw [if_f hc5] at H;refine C_exit _ rfl ?_;exact N_join _ ⟨H, ⟨F2, rfl, le2, hS2⟩⟩ trivial
 ·rintro E w1 ⟨H, F1, rfl, le1, hS1⟩;dsimp only [slices_IndexFunc_32_byte_32_byte_rebuild_stays_2.k1] at H;refine qs ?_;refine qm ?_;obtain rfl := oi H;refine C_ret rfl rfl ?_;exact ⟨F1, rfl, hS1⟩
def slices_ContainsFunc_32_byte_32_byte_rebuild_stays_2 (x0 : List (List UInt8)) (x1_0 : Catalog) : Option Bool :=
  bd (slices_IndexFunc_32_byte_32_byte_rebuild_stays_2 x0 x1_0) fun r1 =>
  some (decide (0 ≤ r1))
set_option maxRecDepth 100000 in
theorem slices_ContainsFunc_32_byte_32_byte_rebuild_stays_2_ok {K : Tb} [Kn (KExt Tryz.prog) K] {F : Frz} {w : Hp} {x0 : List (List UInt8)} {x1_0 : Catalog} {r : Bool} {v0 : Val} {gp1_0 : Nat} {v1_0_0 : Val} {v1_0_1 : Val} {v1_0_2 : Val} {v1_0_3 : Val} (hA : Gd F w) (h0 : SlF tId F v0 x0) (h1_0_0 : SlF Snap.t F v1_0_0 x1_0.snaps) (h1_0_1 : SlF Chunk.t F v1_0_1 x1_0.chunks) (h1_0_2 : SlF Exp.t F v1_0_2 x1_0.exps) (h1_0_3 : SlF Vol.t F v1_0_3 x1_0.vols) (hb1_0 : BxF F gp1_0 [.i .i64 x1_0.seq, v1_0_0, v1_0_1, v1_0_2, v1_0_3]) (H : slices_ContainsFunc_32_byte_32_byte_rebuild_stays_2 x0 x1_0 = some r) : Ret Tryz.prog K 147 [v0, .f 149 [pl gp1_0 0]] w fun v w' => ∃ (F' : Frz), v = .b r ∧ St [] w F F' [] w' := by
 refine qa2 Tryz.func147 ?_;have hS := St.start hA;dsimp only [slices_ContainsFunc_32_byte_32_byte_rebuild_stays_2] at H;refine qs ?_;refine qm ?_;refine C_seq ?_;obtain ⟨r1, hr1, H⟩ := bd_some H;refine qd ?_;refine q2 ?_;refine lm (slices_IndexFunc_32_byte_32_byte_rebuild_stays_2_ok hS.good h0 h1_0_0 h1_0_1 h1_0_2 h1_0_3 hb1_0 hr1) ?_;rintro v2 w2 ⟨Fr1, rfl, hT2⟩;have hS2 := hS.lent hT2;refine qr (O_bin rfl rfl bI_geq) ?_;refine qm ?_;obtain rfl := oi H;refine C_ret rfl rfl ?_;exact ⟨F, rfl, hS2⟩
def rebuild_snaps_1 (x0 : Snap) (x1 : Snap) : Option Bool :=
  some (x0.man.name == x1.man.name)
set_option maxRecDepth 100000 in
theorem rebuild_snaps_1_ok {K : Tb} {F : Frz} {w : Hp} {x0 : Snap} {x1 : Snap} {r : Bool} {v0_0 : Val} {v0_1 : Val} {gp1 : Nat} {v1_0 : Val} {v1_1 : Val} (hA : Gd F w) (h0_0 : SlF Part.t F v0_0 x0.man.parts) (h0_1 : SlF Loc.t F v0_1 x0.locs) (h1_0 : SlF Part.t F v1_0 x1.man.parts) (h1_1 : SlF Loc.t F v1_1 x1.locs) (hb1 : BxF F gp1 [.i .i64 x1.seq, .s x1.man.name, v1_0, v1_1]) (H : rebuild_snaps_1 x0 x1 = some r) : Ret Tryz.prog K 97 [.agg (Snap.cells x0 v0_0 v0_1), pl gp1 0] w fun v w' => ∃ (F' : Frz), v = .b r ∧ St [] w F F' [] w' := by
 refine qa2 Tryz.func97 ?_;have hS := St.start hA;dsimp only [rebuild_snaps_1] at H;refine qs ?_;refine xm (E_bx (cs := [.i .i64 x0.seq, .s x0.man.name, v0_0, v0_1]) rfl rfl (by simp only [List.all_cons, List.all_nil, List.all_append, h0_0.ln.one, h0_1.ln.one]; rfl) hS) ?_;rintro _ w1 ⟨g1, rfl, hS1⟩;refine qm ?_;refine qs ?_;refine qf Ty.field46_1 ?_;refine qf Ty.field43_0 ?_;refine qb 0 Ty.cell9 hS1 ?_;refine qf Ty.field46_1 ?_;refine qf Ty.field43_0 ?_;refine qr (O_fld1 Ty.cell9 rfl (hb1.mono hS1.agree) rfl) ?_;refine qr (O_bin rfl rfl bS_eql) ?_;refine qm ?_;obtain rfl := oi H;refine C_ret rfl rfl ?_;exact ⟨F, rfl, hS1.pick [] (by decide)⟩
def slices_IndexFunc_api_Snap_api_Snap_rebuild_snaps_1.k1 : Option Int :=
  some (-1)
def slices_IndexFunc_api_Snap_api_Snap_rebuild_snaps_1.l2 (x0 : List Snap) (x1_0 : Snap) (rec4 : Int → Option Int) : Int → Option Int
  | i3 =>
    if decide (i3 < (x0.length : Int)) then
      bd (ix x0 i3) fun x6 =>
      bd (rebuild_snaps_1 x6 x1_0) fun r8 =>
      if r8 then
        some i3
      else
        rec4 (wr (i3 + 1))
    else
      slices_IndexFunc_api_Snap_api_Snap_rebuild_snaps_1.k1
def slices_IndexFunc_api_Snap_api_Snap_rebuild_snaps_1 (x0 : List Snap) (x1_0 : Snap) : Option Int :=
  loop (slices_IndexFunc_api_Snap_api_Snap_rebuild_snaps_1.l2 x0 x1_0) 0
set_option maxRecDepth 100000 in
theorem slices_IndexFunc_api_Snap_api_Snap_rebuild_snaps_1_ok {K : Tb} {F : Frz} {w : Hp} {x0 : List Snap} {x1_0 : Snap} {r : Int} {v0 : Val} {gp1_0 : Nat} {v1_0_0 : Val} {v1_0_1 : Val} (hA : Gd F w) (h0 : SlF Snap.t F v0 x0) (h1_0_0 : SlF Part.t F v1_0_0 x1_0.man.parts) (h1_0_1 : SlF Loc.t F v1_0_1 x1_0.locs) (hb1_0 : BxF F gp1_0 [.i .i64 x1_0.seq, .s x1_0.man.name, v1_0_0, v1_0_1]) (H : slices_IndexFunc_api_Snap_api_Snap_rebuild_snaps_1 x0 x1_0 = some r) : Ret Tryz.prog K 115 [v0, .f 97 [pl gp1_0 0]] w fun v w' => ∃ (F' : Frz), v = .i .i64 r ∧ St [] w F F' [] w' := by
 refine qa2 Tryz.func115 ?_;have hS := St.start hA;dsimp only [slices_IndexFunc_api_Snap_api_Snap_rebuild_snaps_1] at H;refine qs ?_;refine qm ?_;refine C_seq_join (fun E wq => slices_IndexFunc_api_Snap_api_Snap_rebuild_snaps_1.k1 = some r ∧ ∃ (F1 : Frz), E = [] ∧ F.le F1 ∧ St [] w F F1 [] wq) ?_ ?_
 ·refine qs ?_;refine qc ?_;refine qr (O_len Tryz.underlying34 rfl h0.ln) ?_;refine qm ?_;refine C_block ?_;refine C_loopM (fun (s : Int) E wq => ∃ (F2 : Frz), E = [(0, v0), (1, .f 97 [pl gp1_0 0]), (7, .i .i64 (x0.length : Int)), (8, .i .i64 s)] ∧ F.le F2 ∧ St [] w F F2 [] wq) H ?_ ?_
  ·exact ⟨_, ⟨F, rfl, (Frz.le.refl _), hS⟩, ⟨rfl, rfl, rfl, rfl, trivial⟩⟩
  ·rintro rec4 i3 E w2 hI H
   try dsimp only at hI
   obtain ⟨F2, rfl, le2, hS2⟩ := hI;dsimp only [slices_IndexFunc_api_Snap_api_Snap_rebuild_snaps_1.l2] at H;refine qs ?_;refine qr (O_bin rfl rfl bI_lss) ?_;refine qn ?_;refine C_seq ?_;refine C_cond rfl (fun hc5 => ?_) (fun hc5 => ?_)
   ·rw [if_t hc5] at H;refine qk ?_;refine C_seq ?_;refine C_block ?_;refine qs ?_;refine qc ?_;refine qm ?_;refine C_seq ?_;obtain ⟨x6, hx6, H⟩ := bd_some H;obtain ⟨r8, hr8, H⟩ := bd_some H;refine qd ?_;refine q3 ?_;obtain ⟨hp9, hy9⟩ := ix_some hx6;obtain ⟨cs9, hr9, he9⟩ := (h0.mono le2).el hy9;obtain ⟨ue7_0, ue7_1, rfl, hue7_0, hue7_1⟩ := hr9;replace he9 : Elf _ _ 4 _ _ := he9;have hi9 := he9.ixd;refine qi Tryz.underlying34 Ty.size46 hi9 hp9 ?_;refine qr (O_ldg 0 (Snap.cells x6 ue7_0 ue7_1) Ty.agg46 Ty.size46 rfl (he9.mono hS2.agree) (by omega) rfl (Nat.le_of_ble_eq_true rfl)) ?_;refine lm (rebuild_snaps_1_ok hS2.good hue7_0 hue7_1 (h1_0_0.mono le2) (h1_0_1.mono le2) (hb1_0.mono le2) hr8) ?_;rintro v10 w10 ⟨Fr8, rfl, hT10⟩;have hS10 := hS2.lent hT10;refine qn ?_;refine C_cond rfl (fun hc11 => ?_) (fun hc11 => ?_)
    ·rw [if_t hc11] at H;refine qs ?_;refine qc ?_;refine qm ?_;obtain rfl := oi H;refine C_ret rfl rfl ?_;exact ⟨F2, rfl, hS10⟩
    ·rw [if_f hc11] at H;refine C_skip ?_;refine N_block ?_;refine N_code ?_;refine qd ?_;refine q2 ?_;refine W_nil ?_;exact N_againM (wr (i3 + 1)) _ H ⟨F2, rfl, le2, hS10⟩ ⟨rfl, rfl, rfl, rfl, trivial⟩
   ·rw [if_f hc5] at H;refine C_exit _ rfl ?_;exact N_join _ ⟨H, ⟨F2, rfl, le2, hS2⟩⟩ trivial
 ·rintro E w1 ⟨H, F1, rfl, le1, hS1⟩;dsimp only [slices_IndexFunc_api_Snap_api_Snap_rebuild_snaps_1.k1] at H;refine qs ?_;refine qm ?_;obtain rfl := oi H;refine C_ret rfl rfl ?_;exact ⟨F1, rfl, hS1⟩
def slices_DeleteFunc_api_Snap_api_Snap_rebuild_snaps_1.k1 (i5 : Int) (l6 : List Snap) : Option (List Snap) :=
  bd (cut (α := Snap) l6 i5 (l6.length : Int)) fun l7 =>
  bd (clr l6 i5.toNat ((l6.length : Int).toNat - i5.toNat) (Snap.mk 0 (Manifest.mk [] []) [])) fun l9 =>
  bd (cut (α := Snap) l9 0 i5) fun l11 =>
  bd (nz l9) fun _ =>
  some l11
def slices_DeleteFunc_api_Snap_api_Snap_rebuild_snaps_1.k3 (i16 : Int) (rec18 : (Int × Int × (List Snap)) → Option (List Snap)) (i21 : Int) (l22 : List Snap) : Option (List Snap) :=
  rec18 (i21, wr (i16 + 1), l22)
def slices_DeleteFunc_api_Snap_api_Snap_rebuild_snaps_1.l2 (x1_0 : Snap) (rec18 : (Int × Int × (List Snap)) → Option (List Snap)) : (Int × Int × (List Snap)) → Option (List Snap)
  | (i15, i16, l17) =>
    if decide (i16 < (l17.length : Int)) then
      bd (ix l17 i16) fun x23 =>
      bd (rebuild_snaps_1 x23 x1_0) fun r28 =>
      if (!r28) then
        bd (ix l17 i15) fun x31 =>
        slices_DeleteFunc_api_Snap_api_Snap_rebuild_snaps_1.k3 i16 rec18 (wr (i15 + 1)) (l17.set i15.toNat x23)
      else
        slices_DeleteFunc_api_Snap_api_Snap_rebuild_snaps_1.k3 i16 rec18 i15 l17
    else
      slices_DeleteFunc_api_Snap_api_Snap_rebuild_snaps_1.k1 i15 l17
def slices_DeleteFunc_api_Snap_api_Snap_rebuild_snaps_1 (x0 : List Snap) (x1_0 : Snap) : Option (List Snap) :=
  bd (slices_IndexFunc_api_Snap_api_Snap_rebuild_snaps_1 x0 x1_0) fun r1 =>
  if decide (r1 = (-1)) then
    some x0
  else
    loop (slices_DeleteFunc_api_Snap_api_Snap_rebuild_snaps_1.l2 x1_0) (r1, wr (r1 + 1), x0)
set_option maxRecDepth 100000 in
theorem slices_DeleteFunc_api_Snap_api_Snap_rebuild_snaps_1_ok {K : Tb} {F : Frz} {w : Hp} {x0 : List Snap} {x1_0 : Snap} {r : (List Snap)} {v0 : Val} {gp1_0 : Nat} {v1_0_0 : Val} {v1_0_1 : Val} (hS : St v0.own w F F [.row Snap.t v0 x0] w) (h1_0_0 : SlF Part.t F v1_0_0 x1_0.man.parts) (h1_0_1 : SlF Loc.t F v1_0_1 x1_0.locs) (hb1_0 : BxF F gp1_0 [.i .i64 x1_0.seq, .s x1_0.man.name, v1_0_0, v1_0_1]) (H : slices_DeleteFunc_api_Snap_api_Snap_rebuild_snaps_1 x0 x1_0 = some r) : Ret Tryz.prog K 65 [v0, .f 97 [pl gp1_0 0]] w fun v w' => ∃ (F' : Frz) (q0 : Val), v = q0 ∧ St v0.own w F F' [.row Snap.t q0 (r)] w' := by
 refine qa2 Tryz.func65 ?_;dsimp only [slices_DeleteFunc_api_Snap_api_Snap_rebuild_snaps_1] at H;refine qs ?_;refine qm ?_;refine C_seq ?_;obtain ⟨r1, hr1, H⟩ := bd_some H;refine qd ?_;refine q2 ?_;refine lm (slices_IndexFunc_api_Snap_api_Snap_rebuild_snaps_1_ok (Gd.now hS.wf) (hS.rowNow (k := 0) rfl) (h1_0_0.mono hS.agree) (h1_0_1.mono hS.agree) (hb1_0.mono hS.agree) hr1) ?_;rintro v2 w2 ⟨Fr1, rfl, hT2⟩;have hS2 := hS.lent hT2;refine qm ?_;refine C_seq ?_;refine qs ?_;refine qc ?_;refine qr (O_bin rfl rfl bI_eql) ?_;refine qn ?_;refine C_cond rfl (fun hc3 => ?_) (fun hc3 => ?_)
 ·rw [if_t hc3] at H;refine qs ?_;refine qc ?_;refine qm ?_;obtain rfl := oi H;refine C_ret rfl rfl ?_;exact ⟨F, v0, rfl, hS2⟩
 ·rw [if_f hc3] at H;refine qk ?_;refine C_seq_join (fun E wq => ∃ i5 : Int, ∃ l6 : List Snap, slices_DeleteFunc_api_Snap_api_Snap_rebuild_snaps_1.k1 i5 l6 = some r ∧ ∃ (F4 : Frz), E = [(0, v0), (5, .i .i64 i5)] ∧ F.le F4 ∧ St v0.own w F F4 [.row Snap.t v0 l6] wq) ?_ ?_
  ·refine qs ?_;refine q2 ?_;refine qm ?_;refine C_block ?_;refine C_loopM (fun (s : Int × Int × (List Snap)) E wq => ∃ (F14 : Frz), E = [(0, v0), (1, .f 97 [pl gp1_0 0]), (5, .i .i64 s.1), (6, .i .i64 s.2.1)] ∧ F.le F14 ∧ St v0.own w F F14 [.row Snap.t v0 s.2.2] wq) H ?_ ?_
   ·exact ⟨_, ⟨F, rfl, (Frz.le.refl _), hS2⟩, ⟨rfl, rfl, rfl, rfl, trivial⟩⟩
   ·rintro rec18 ⟨i15, i16, l17⟩ E w14 hI H
    try dsimp only at hI
    obtain ⟨F14, rfl, le14, hS14⟩ := hI;dsimp only [slices_DeleteFunc_api_Snap_api_Snap_rebuild_snaps_1.l2] at H;refine C_seq ?_;refine qs ?_;refine q2 ?_;refine qr (O_len Tryz.underlying34 rfl (hS14.rowLn (k := 0) rfl)) ?_;refine qr (O_bin rfl rfl bI_lss) ?_;refine qn ?_;refine C_cond rfl (fun hc19 => ?_) (fun hc19 => ?_)
    ·rw [if_t hc19] at H;refine qk ?_;refine C_seq_join (fun E wq => ∃ i21 : Int, ∃ l22 : List Snap, slices_DeleteFunc_api_Snap_api_Snap_rebuild_snaps_1.k3 i16 rec18 i21 l22 = some r ∧ ∃ (F20 : Frz), E = [(0, v0), (1, .f 97 [pl gp1_0 0]), (5, .i .i64 i21), (6, .i .i64 i16)] ∧ F14.le F20 ∧ St v0.own w F F20 [.row Snap.t v0 l22] wq) ?_ ?_
     ·refine C_block ?_;refine C_seq ?_;obtain ⟨x23, hx23, H⟩ := bd_some H;refine qd ?_;refine q2 ?_;obtain ⟨hp26, hy26⟩ := ix_some hx23;obtain ⟨cs26, hr26, he26⟩ := hS14.rowAt (k := 0) rfl hy26;obtain ⟨ue24_0, ue24_1, rfl, hue24_0, hue24_1⟩ := hr26;replace he26 : Elf _ _ 4 _ _ := he26;have hi26 := he26.ixd;refine qi Tryz.underlying34 Ty.size46 hi26 hp26 ?_;refine qr (O_ldg 0 (Snap.cells x23 ue24_0 ue24_1) Ty.agg46 Ty.size46 rfl he26 (by omega) rfl (Nat.le_of_ble_eq_true rfl)) ?_;refine xm (E_alc (cs := [.i .i64 0, .s [], .sl none 0 (.k 0), .sl none 0 (.k 0)]) Ty.zero46 rfl hS14) ?_;rintro _ w25 ⟨g25, rfl, hS25⟩;refine um (E_bst (c := [.i .i64 x23.seq, .s x23.man.name, ue24_0, ue24_1]) 0 ([.i .i64 x23.seq, .s x23.man.name, ue24_0, ue24_1]) rfl rfl hS25 rfl rfl Ty.size46 (by simp only [List.all_cons, List.all_nil, List.all_append, hue24_0.ln.one, hue24_1.ln.one]; rfl) rfl rfl) ?_;rintro _ w27 hS27;refine qn ?_;refine C_seq ?_;obtain ⟨r28, hr28, H⟩ := bd_some H;refine qd ?_;refine qc ?_;refine qr (O_bldg 0 (Snap.cells x23 ue24_0 ue24_1) Ty.agg46 Ty.size46 (Nat.zero_lt_succ _) rfl hS27 rfl (fun q u h => sub_at (post := []) rfl h)) ?_;refine lm (rebuild_snaps_1_ok hS27.good hue24_0 hue24_1 (h1_0_0.mono le14) (h1_0_1.mono le14) (hb1_0.mono le14) hr28) ?_;rintro v29 w29 ⟨Fr28, rfl, hT29⟩;have hS29 := hS27.lent hT29;refine qm ?_;refine C_cond rfl (fun hc30 => ?_) (fun hc30 => ?_)
      ·rw [if_t hc30] at H;refine C_seq ?_;obtain ⟨x31, hx31, H⟩ := bd_some H;refine qd ?_;refine q2 ?_;refine qr (O_bldg 0 (Snap.cells x23 ue24_0 ue24_1) Ty.agg46 Ty.size46 (Nat.zero_lt_succ _) rfl hS29 rfl (fun q u h => sub_at (post := []) rfl h)) ?_;obtain ⟨hp33, hy33⟩ := ix_some hx31;obtain ⟨cs33, hr33, he33⟩ := hS29.rowAt (k := 1) rfl hy33;obtain ⟨ue32_0, ue32_1, rfl, hue32_0, hue32_1⟩ := hr33;replace he33 : Elf _ _ 4 _ _ := he33;have hi33 := he33.ixd;refine qi Tryz.underlying34 Ty.size46 hi33 hp33 ?_;refine um (E_put (c := [.i .i64 x23.seq, .s x23.man.name, ue24_0, ue24_1]) 1 (i15.toNat) 0 x31 x23 rfl rfl hS29 rfl (ix_some hx31).2 (by first | rfl | (show _ = _ * 4 + _; omega)) rfl Ty.size46 (by simp only [List.all_cons, List.all_nil, List.all_append, hue24_0.ln.one, hue24_1.ln.one]; rfl) (Nat.le_of_ble_eq_true rfl) (by rintro cs ⟨a2, a3, rfl, b2, b3⟩; exact ⟨ue24_0, ue24_1, rfl, hue24_0, hue24_1⟩)) ?_;rintro _ w34 hS34;refine qn ?_;refine qd ?_;refine q3 ?_;refine W_nil ?_;refine N_block ?_;exact N_join _ ⟨wr (i15 + 1), (l17.set i15.toNat x23), H, ⟨F14, rfl, (Frz.le.refl _), hS34.pick [1] (by decide)⟩⟩ ⟨rfl, rfl, rfl, rfl, trivial⟩
      ·rw [if_f hc30] at H;refine C_skip ?_;refine N_block ?_;exact N_join _ ⟨i15, l17, H, ⟨F14, rfl, (Frz.le.refl _), hS29.pick [1] (by decide)⟩⟩ ⟨rfl, rfl, rfl, rfl, trivial⟩
     ·rintro E w20 ⟨i21, l22, H, F20, rfl, le20, hS20⟩;dsimp only [slices_DeleteFunc_api_Snap_api_Snap_rebuild_snaps_1.k3] at H;refine qd ?_;refine q3 ?_;refine W_nil ?_;exact N_againM (i21, wr (i16 + 1), l22) _ H ⟨F20, rfl, (le14.trans le20), hS20⟩ ⟨rfl, rfl, rfl, rfl, trivial⟩
    ·rw [if_f hc19] at H;refine C_exit _ rfl ?_;exact N_join _ ⟨i15, l17, H, ⟨F14, rfl, le14, hS14⟩⟩ ⟨rfl, rfl, trivial⟩
  ·rintro E w4 ⟨i5, l6, H, F4, rfl, le4, hS4⟩;dsimp only [slices_DeleteFunc_api_Snap_api_Snap_rebuild_snaps_1.k1] at H;refine C_seq ?_;obtain ⟨l7, hl7, H⟩ := bd_some H;obtain ⟨l9, hl9, H⟩ := bd_some H;refine qd ?_;refine q2 ?_;refine W_cutR 0 i5 (l6.length : Int) rfl rfl rfl rfl Tryz.underlying34 Ty.size46 rfl (.inr ⟨_, _, rfl, rfl⟩) (.inl ⟨rfl, rfl⟩) hS4 rfl hl7 ?_;intro q8 hv8 hw8;refine um (E_clr (tr := Snap.t) (x0 := (Snap.mk 0 (Manifest.mk [] []) [])) 0 Tryz.underlying34 Ty.zero46 ⟨.sl none 0 (.k 0), .sl none 0 (.k 0), rfl, (SlF.nil _), (SlF.nil _)⟩ rfl hS4 rfl hw8 hl9) ?_;rintro _ w10 hS10;refine qn ?_;refine C_seq ?_;obtain ⟨l11, hl11, H⟩ := bd_some H;refine qd ?_;refine q2 ?_;refine W_cutR 0 0 i5 rfl rfl rfl rfl Tryz.underlying34 Ty.size46 rfl (.inl ⟨rfl, rfl⟩) (.inr ⟨_, _, rfl, rfl⟩) hS10 rfl hl11 ?_;intro q12 hv12 hw12;refine qm ?_;obtain ⟨_, hnz13, H⟩ := bd_some H;have hS13 := hS10.shrink 0 rfl hw12 hl11 hnz13;obtain rfl := oi H;refine C_ret rfl rfl ?_;exact ⟨F4, q12, rfl, hS13⟩
def slices_Clone_api_Loc_api_Loc (x0 : List Loc) : Option (List Loc) :=
  bd (app (α := Loc) ([] : List Loc) x0) fun l6 =>
  some l6
set_option maxRecDepth 100000 in
theorem slices_Clone_api_Loc_api_Loc_ok {K : Tb} {F : Frz} {w : Hp} {x0 : List Loc} {r : (List Loc)} {v0 : Val} (hA : Gd F w) (h0 : SlF Loc.t F v0 x0) (H : slices_Clone_api_Loc_api_Loc x0 = some r) : Ret Tryz.prog K 98 [v0] w fun v w' => ∃ (F' : Frz) (q0 : Val), v = q0 ∧ St [] w F F' [.row Loc.t q0 (r)] w' := by
 refine qa1 Tryz.func98 ?_;have hS := St.start hA;dsimp only [slices_Clone_api_Loc_api_Loc] at H;refine qs ?_;refine qm ?_;refine C_seq ?_;refine qs ?_;refine qc ?_;refine W_nilq rfl rfl rfl rfl Tryz.underlying44 rfl rfl h0.ln ?_;intro b1 hb1;refine qn ?_;refine C_cond rfl (fun hc2 => ?_) (fun hc2 => ?_)
 ·have hx2 : x0 = [] := List.eq_nil_of_length_eq_zero (hb1 hc2);have H : (some [] : Option (List Loc)) = some r := by first | (rw [hx2] at H; exact H) | (subst hx2; exact H)
  refine qs ?_;refine qm ?_;have hS4 := hS.nilRow Loc.t;obtain rfl := oi H;refine C_ret rfl rfl ?_;exact ⟨F, (.sl none 0 (.k 0)), rfl, hS4⟩
 ·refine qk ?_;refine C_seq ?_;obtain ⟨l6, hl6, H⟩ := bd_some H;refine qd ?_;refine xm (E_bs (t := Loc.t) (vs := []) (xs := ([] : List Loc)) Tryz.underlying44 Ty.row51 rfl trivial rfl rfl hS) ?_;rintro u5 w5 hS5;refine qc ?_;refine xm (E_app (t := Loc.t) 0 Tryz.underlying44 Ty.row51 Ty.zk44 rfl rfl hS5 rfl (h0.src hS5.agree) hl6) ?_;rintro v7 w7 hS7;refine qm ?_;obtain rfl := oi H;refine C_ret rfl rfl ?_;exact ⟨F, v7, rfl, hS7⟩
def slices_Compact_api_Loc_api_Loc.k1 (x0 : List Loc) : Option (List Loc) :=
  some x0
def slices_Compact_api_Loc_api_Loc.k3 (i4 : Int) (rec5 : Int → Option (List Loc)) : Option (List Loc) :=
  rec5 (wr (i4 + 1))
def slices_Compact_api_Loc_api_Loc.k4 (i18 : Int) (l19 : List Loc) : Option (List Loc) :=
  bd (cut (α := Loc) l19 i18 (l19.length : Int)) fun l20 =>
  bd (clr l19 i18.toNat ((l19.length : Int).toNat - i18.toNat) (Loc.mk 0 0 0 0)) fun l22 =>
  bd (cut (α := Loc) l22 0 i18) fun l24 =>
  bd (nz l22) fun _ =>
  some l24
def slices_Compact_api_Loc_api_Loc.k6 (i29 : Int) (rec31 : (Int × Int × (List Loc)) → Option (List Loc)) (i34 : Int) (l35 : List Loc) : Option (List Loc) :=
  rec31 (i34, wr (i29 + 1), l35)
def slices_Compact_api_Loc_api_Loc.l5 (x0 : List Loc) (i4 : Int) (rec31 : (Int × Int × (List Loc)) → Option (List Loc)) : (Int × Int × (List Loc)) → Option (List Loc)
  | (i28, i29, l30) =>
    if decide (i29 < (((x0.length : Int).toNat - i4.toNat : Nat) : Int)) then
      bd (ixp l30 i4.toNat ((x0.length : Int).toNat - i4.toNat) i29) fun x36 =>
      bd (ixp l30 i4.toNat ((x0.length : Int).toNat - i4.toNat) (wr (i29 - 1))) fun x38 =>
      if (!decide (x36 = x38)) then
        bd (ixp l30 i4.toNat ((x0.length : Int).toNat - i4.toNat) i29) fun x43 =>
        bd (ix l30 i28) fun x45 =>
        slices_Compact_api_Loc_api_Loc.k6 i29 rec31 (wr (i28 + 1)) (l30.set i28.toNat x43)
      else
        slices_Compact_api_Loc_api_Loc.k6 i29 rec31 i28 l30
    else
      slices_Compact_api_Loc_api_Loc.k4 i28 l30
def slices_Compact_api_Loc_api_Loc.l2 (x0 : List Loc) (rec5 : Int → Option (List Loc)) : Int → Option (List Loc)
  | i4 =>
    if decide (i4 < (x0.length : Int)) then
      bd (ix x0 i4) fun x8 =>
      bd (ix x0 (wr (i4 - 1))) fun x10 =>
      if decide (x8 = x10) then
        bd (cut (α := Loc) x0 i4 (x0.length : Int)) fun l15 =>
        loop (slices_Compact_api_Loc_api_Loc.l5 x0 i4) (i4, 1, x0)
      else
        slices_Compact_api_Loc_api_Loc.k3 i4 rec5
    else
      slices_Compact_api_Loc_api_Loc.k1 x0
def slices_Compact_api_Loc_api_Loc (x0 : List Loc) : Option (List Loc) :=
  if decide ((x0.length : Int) < 2) then
    some x0
  else
    loop (slices_Compact_api_Loc_api_Loc.l2 x0) 1
set_option maxRecDepth 100000 in
theorem slices_Compact_api_Loc_api_Loc_ok {K : Tb} {F : Frz} {w : Hp} {x0 : List Loc} {r : (List Loc)} {v0 : Val} (hS : St v0.own w F F [.row Loc.t v0 x0] w) (H : slices_Compact_api_Loc_api_Loc x0 = some r) : Ret Tryz.prog K 101 [v0] w fun v w' => ∃ (F' : Frz) (q0 : Val), v = q0 ∧ St v0.own w F F' [.row Loc.t q0 (r)] w' := by
 refine qa1 Tryz.func101 ?_;dsimp only [slices_Compact_api_Loc_api_Loc] at H;refine qs ?_;refine qm ?_;refine C_seq ?_;refine qs ?_;refine qc ?_;refine qr (O_len Tryz.underlying44 rfl (hS.rowLn (k := 0) rfl)) ?_;refine qr (O_bin rfl rfl bI_lss) ?_;refine qn ?_;refine C_cond rfl (fun hc1 => ?_) (fun hc1 => ?_)
 ·rw [if_t hc1] at H;refine qs ?_;refine qc ?_;refine qm ?_;obtain rfl := oi H;refine C_ret rfl rfl ?_;exact ⟨F, v0, rfl, hS⟩
 ·rw [if_f hc1] at H;refine qk ?_;refine C_seq_join (fun E wq => slices_Compact_api_Loc_api_Loc.k1 x0 = some r ∧ ∃ (F2 : Frz), E = [(0, v0)] ∧ F.le F2 ∧ St v0.own w F F2 [.row Loc.t v0 x0] wq) ?_ ?_
  ·refine qs ?_;refine qm ?_;refine C_block ?_;refine C_loopM (fun (s : Int) E wq => ∃ (F3 : Frz), E = [(0, v0), (3, .i .i64 s)] ∧ F.le F3 ∧ St v0.own w F F3 [.row Loc.t v0 x0] wq) H ?_ ?_
   ·exact ⟨_, ⟨F, rfl, (Frz.le.refl _), hS⟩, ⟨rfl, rfl, trivial⟩⟩
   ·rintro rec5 i4 E w3 hI H
    try dsimp only at hI
    obtain ⟨F3, rfl, le3, hS3⟩ := hI;dsimp only [slices_Compact_api_Loc_api_Loc.l2] at H;refine C_seq ?_;refine qs ?_;refine q2 ?_;refine qr (O_len Tryz.underlying44 rfl (hS3.rowLn (k := 0) rfl)) ?_;refine qr (O_bin rfl rfl bI_lss) ?_;refine qn ?_;refine C_cond rfl (fun hc6 => ?_) (fun hc6 => ?_)
    ·rw [if_t hc6] at H;refine qk ?_;refine C_seq_join (fun E wq => slices_Compact_api_Loc_api_Loc.k3 i4 rec5 = some r ∧ ∃ (F7 : Frz), E = [(0, v0), (3, .i .i64 i4)] ∧ F3.le F7 ∧ St v0.own w F F7 [.row Loc.t v0 x0] wq) ?_ ?_
     ·refine C_block ?_;refine C_seq ?_;obtain ⟨x8, hx8, H⟩ := bd_some H;obtain ⟨x10, hx10, H⟩ := bd_some H;refine C_regionD (G := (nowF _)) [0, 1, 2, 3, 4, 5, 6, 7, 8, 9] rfl Ty.mixed (by kernel_rfl) (nowF_agree _) ?_;refine q2 ?_;obtain ⟨hp12, hy12⟩ := ix_some hx8;obtain ⟨cs12, hr12, he12⟩ := hS3.rowAt (k := 0) rfl hy12;obtain rfl := hr12;replace he12 : Elf _ _ 4 _ _ := he12;have hi12 := he12.ixd;refine qi Tryz.underlying44 Ty.size51 hi12 hp12 ?_;refine qr (O_ldg 0 (Loc.cells x8) Ty.agg51 Ty.size51 rfl he12 (by omega) rfl (Nat.le_of_ble_eq_true rfl)) ?_;refine q3 ?_;obtain ⟨hp13, hy13⟩ := ix_some hx10;obtain ⟨cs13, hr13, he13⟩ := hS3.rowAt (k := 0) rfl hy13;obtain rfl := hr13;replace he13 : Elf _ _ 4 _ _ := he13;have hi13 := he13.ixd;refine qi Tryz.underlying44 Ty.size51 hi13 hp13 ?_;refine qr (O_ldg 0 (Loc.cells x10) Ty.agg51 Ty.size51 rfl he13 (by omega) rfl (Nat.le_of_ble_eq_true rfl)) ?_;refine qr (O_bin rfl rfl (bA_eql Ty.eqt51 rfl rfl (Loc.eqc _ _))) ?_;refine qn ?_;refine C_cond rfl (fun hc14 => ?_) (fun hc14 => ?_)
      ·rw [if_t hc14] at H;refine C_seq ?_;obtain ⟨l15, hl15, H⟩ := bd_some H;refine qd ?_;refine q2 ?_;refine W_cutR 0 i4 (x0.length : Int) rfl rfl rfl rfl Tryz.underlying44 Ty.size51 rfl (.inr ⟨_, _, rfl, rfl⟩) (.inl ⟨rfl, rfl⟩) hS3 rfl hl15 ?_;intro q16 hv16 hw16;refine qm ?_;refine C_seq_join (fun E wq => ∃ i18 : Int, ∃ l19 : List Loc, slices_Compact_api_Loc_api_Loc.k4 i18 l19 = some r ∧ ∃ (F17 : Frz), E = [(0, v0), (3, .i .i64 i18)] ∧ F3.le F17 ∧ St v0.own w F F17 [.row Loc.t v0 l19] wq) ?_ ?_
       ·refine qs ?_;refine qm ?_;refine C_block ?_;refine C_loopM (fun (s : Int × Int × (List Loc)) E wq => ∃ (F27 : Frz), E = [(0, v0), (3, .i .i64 s.1), (4, q16), (5, .i .i64 s.2.1)] ∧ F3.le F27 ∧ St v0.own w F F27 [.row Loc.t v0 s.2.2] wq) H ?_ ?_
        ·exact ⟨_, ⟨F3, rfl, (Frz.le.refl _), hS3⟩, ⟨rfl, rfl, rfl, rfl, trivial⟩⟩
        ·rintro rec31 ⟨i28, i29, l30⟩ E w27 hI H
         try dsimp only at hI
         obtain ⟨F27, rfl, le27, hS27⟩ := hI;dsimp only [slices_Compact_api_Loc_api_Loc.l5] at H;refine C_seq ?_;refine qs ?_;refine q2 ?_;refine qr (O_len Tryz.underlying44 rfl hw16.ln) ?_;refine qr (O_bin rfl rfl bI_lss) ?_;refine qn ?_;refine C_cond rfl (fun hc32 => ?_) (fun hc32 => ?_)
         ·rw [if_t hc32] at H;refine qk ?_;refine C_seq_join (fun E wq => ∃ i34 : Int, ∃ l35 : List Loc, slices_Compact_api_Loc_api_Loc.k6 i29 rec31 i34 l35 = some r ∧ ∃ (F33 : Frz), E = [(0, v0), (3, .i .i64 i34), (4, q16), (5, .i .i64 i29)] ∧ F27.le F33 ∧ St v0.own w F F33 [.row Loc.t v0 l35] wq) ?_ ?_
          ·refine C_block ?_;refine C_seq ?_;obtain ⟨x36, hx36, H⟩ := bd_some H;obtain ⟨x38, hx38, H⟩ := bd_some H;refine C_regionD (G := (nowF _)) [0, 1, 2, 3, 4, 5, 6, 7, 8, 9] rfl Ty.mixed (by kernel_rfl) (nowF_agree _) ?_;refine q2 ?_;obtain ⟨hp40, hz40, hy40⟩ := ixp_some hx36;obtain ⟨cs40, hr40, he40⟩ := hS27.rowAt (k := 0) rfl hy40;obtain rfl := hr40;replace he40 := he40.piece hw16 hz40;replace he40 : Elf _ _ 4 _ _ := he40;have hi40 := he40.ixd;refine qi Tryz.underlying44 Ty.size51 hi40 hp40 ?_;refine qr (O_ldg 0 (Loc.cells x36) Ty.agg51 Ty.size51 rfl he40 (by omega) rfl (Nat.le_of_ble_eq_true rfl)) ?_;refine q3 ?_;obtain ⟨hp41, hz41, hy41⟩ := ixp_some hx38;obtain ⟨cs41, hr41, he41⟩ := hS27.rowAt (k := 0) rfl hy41;obtain rfl := hr41;replace he41 := he41.piece hw16 hz41;replace he41 : Elf _ _ 4 _ _ := he41;have hi41 := he41.ixd;refine qi Tryz.underlying44 Ty.size51 hi41 hp41 ?_;refine qr (O_ldg 0 (Loc.cells x38) Ty.agg51 Ty.size51 rfl he41 (by omega) rfl (Nat.le_of_ble_eq_true rfl)) ?_;refine qr (O_bin rfl rfl (bA_neq Ty.eqt51 rfl rfl (Loc.eqc _ _))) ?_;refine qn ?_;refine C_cond rfl (fun hc42 => ?_) (fun hc42 => ?_)
           ·rw [if_t hc42] at H;refine C_seq ?_;obtain ⟨x43, hx43, H⟩ := bd_some H;obtain ⟨x45, hx45, H⟩ := bd_some H;refine qd ?_;refine q4 ?_;obtain ⟨hp47, hz47, hy47⟩ := ixp_some hx43;obtain ⟨cs47, hr47, he47⟩ := hS27.rowAt (k := 0) rfl hy47;obtain rfl := hr47;replace he47 := he47.piece hw16 hz47;replace he47 : Elf _ _ 4 _ _ := he47;have hi47 := he47.ixd;refine qi Tryz.underlying44 Ty.size51 hi47 hp47 ?_;refine qr (O_ldg 0 (Loc.cells x43) Ty.agg51 Ty.size51 rfl he47 (by omega) rfl (Nat.le_of_ble_eq_true rfl)) ?_;obtain ⟨hp48, hy48⟩ := ix_some hx45;obtain ⟨cs48, hr48, he48⟩ := hS27.rowAt (k := 0) rfl hy48;obtain rfl := hr48;replace he48 : Elf _ _ 4 _ _ := he48;have hi48 := he48.ixd;refine qi Tryz.underlying44 Ty.size51 hi48 hp48 ?_;refine um (E_put (c := [.i .i64 x43.vol, .i .i64 x43.file, .i .i64 x43.off, .i .i64 x43.len]) 0 (i28.toNat) 0 x45 x43 rfl rfl hS27 rfl (ix_some hx45).2 (by first | rfl | (show _ = _ * 4 + _; omega)) rfl Ty.size51 rfl (Nat.le_of_ble_eq_true rfl) (by rintro cs rfl; rfl)) ?_;rintro _ w49 hS49;refine qn ?_;refine qd ?_;refine q3 ?_;refine W_nil ?_;refine N_block ?_;exact N_join _ ⟨wr (i28 + 1), (l30.set i28.toNat x43), H, ⟨F27, rfl, (Frz.le.refl _), hS49⟩⟩ ⟨rfl, rfl, rfl, rfl, trivial⟩
           ·rw [if_f hc42] at H;refine C_skip ?_;refine N_block ?_;exact N_join _ ⟨i28, l30, H, ⟨F27, rfl, (Frz.le.refl _), hS27⟩⟩ ⟨rfl, rfl, rfl, rfl, trivial⟩
          ·rintro E w33 ⟨i34, l35, H, F33, rfl, le33, hS33⟩;dsimp only [slices_Compact_api_Loc_api_Loc.k6] at H;refine qd ?_;refine q3 ?_;refine W_nil ?_;exact N_againM (i34, wr (i29 + 1), l35) _ H ⟨F33, rfl, (le27.trans le33), hS33⟩ ⟨rfl, rfl, rfl, rfl, trivial⟩
         ·rw [if_f hc32] at H;refine C_exit _ rfl ?_;exact N_join _ ⟨i28, l30, H, ⟨F27, rfl, le27, hS27⟩⟩ ⟨rfl, rfl, trivial⟩
       ·rintro E w17 ⟨i18, l19, H, F17, rfl, le17, hS17⟩;dsimp only [slices_Compact_api_Loc_api_Loc.k4] at H;refine C_seq ?_;obtain ⟨l20, hl20, H⟩ := bd_some H;obtain ⟨l22, hl22, H⟩ := bd_some H;refine qd ?_;refine q2 ?_;refine W_cutR 0 i18 (l19.length : Int) rfl rfl rfl rfl Tryz.underlying44 Ty.size51 rfl (.inr ⟨_, _, rfl, rfl⟩) (.inl ⟨rfl, rfl⟩) hS17 rfl hl20 ?_;intro q21 hv21 hw21;refine um (E_clr (tr := Loc.t) (x0 := (Loc.mk 0 0 0 0)) 0 Tryz.underlying44 Ty.zero51 rfl rfl hS17 rfl hw21 hl22) ?_;rintro _ w23 hS23;refine qn ?_;refine C_seq ?_;obtain ⟨l24, hl24, H⟩ := bd_some H;refine qd ?_;refine q2 ?_;refine W_cutR 0 0 i18 rfl rfl rfl rfl Tryz.underlying44 Ty.size51 rfl (.inl ⟨rfl, rfl⟩) (.inr ⟨_, _, rfl, rfl⟩) hS23 rfl hl24 ?_;intro q25 hv25 hw25;refine qm ?_;obtain ⟨_, hnz26, H⟩ := bd_some H;have hS26 := hS23.shrink 0 rfl hw25 hl24 hnz26;obtain rfl := oi H;refine C_ret rfl rfl ?_;exact ⟨F17, q25, rfl, hS26⟩
      ·rw [if_f hc14] at H;refine C_skip ?_;refine N_block ?_;exact N_join _ ⟨H, ⟨F3, rfl, (Frz.le.refl _), hS3⟩⟩ ⟨rfl, rfl, trivial⟩
     ·rintro E w7 ⟨H, F7, rfl, le7, hS7⟩;dsimp only [slices_Compact_api_Loc_api_Loc.k3] at H;refine qd ?_;refine q3 ?_;refine W_nil ?_;exact N_againM (wr (i4 + 1)) _ H ⟨F7, rfl, (le3.trans le7), hS7⟩ ⟨rfl, rfl, trivial⟩
    ·rw [if_f hc6] at H;refine C_exit _ rfl ?_;exact N_join _ ⟨H, ⟨F3, rfl, le3, hS3⟩⟩ ⟨rfl, trivial⟩
  ·rintro E w2 ⟨H, F2, rfl, le2, hS2⟩;dsimp only [slices_Compact_api_Loc_api_Loc.k1] at H;refine qs ?_;refine qc ?_;refine qm ?_;obtain rfl := oi H;refine C_ret rfl rfl ?_;exact ⟨F2, v0, rfl, hS2⟩
def catalog_vols.k1 (x0 : List Vol) : Option Bool :=
  bd (catalog_in (x0.length : Int) 1 8) fun r2 =>
  some r2
def catalog_vols.l2 (x0 : List Vol) (rec6 : Int → Option Bool) : Int → Option Bool
  | i5 =>
    if decide (i5 < (x0.length : Int)) then
      bd (ix x0 i5) fun x8 =>
      bd (only (decide (x8.state = 2)) (catalog_in x8.files 1 65535) false) fun r13 =>
      bd (catalog_in x8.pool 0 1) fun r27 =>
      bd (only (!(!r27)) (catalog_in x8.epoch 0 1048576) false) fun r28 =>
      if (((!r27) || (!r28)) || ((!(decide (x8.state = 2) && r13)) && (!((decide (x8.state = 1) || decide (x8.state = 3)) && decide (x8.files = 0))))) then
        some false
      else
        rec6 (wr (i5 + 1))
    else
      catalog_vols.k1 x0
def catalog_vols (x0 : List Vol) : Option Bool :=
  loop (catalog_vols.l2 x0) 0
set_option maxRecDepth 100000 in
theorem catalog_vols_ok {K : Tb} {F : Frz} {w : Hp} {x0 : List Vol} {r : Bool} {v0 : Val} (hA : Gd F w) (h0 : SlF Vol.t F v0 x0) (H : catalog_vols x0 = some r) : Ret Tryz.prog K 77 [v0] w fun v w' => ∃ (F' : Frz), v = .b r ∧ St [] w F F' [] w' := by
 refine qa1 Tryz.func77 ?_;have hS := St.start hA;dsimp only [catalog_vols] at H;refine qs ?_;refine qm ?_;refine C_seq_join (fun E wq => catalog_vols.k1 x0 = some r ∧ ∃ (F1 : Frz), E = [(0, v0)] ∧ F.le F1 ∧ St [] w F F1 [] wq) ?_ ?_
 ·refine qs ?_;refine qc ?_;refine qr (O_len Tryz.underlying33 rfl h0.ln) ?_;refine qm ?_;refine C_block ?_;refine C_loopM (fun (s : Int) E wq => ∃ (F4 : Frz), E = [(0, v0), (7, v0), (8, .i .i64 (x0.length : Int)), (9, .i .i64 s)] ∧ F.le F4 ∧ St [] w F F4 [] wq) H ?_ ?_
  ·exact ⟨_, ⟨F, rfl, (Frz.le.refl _), hS⟩, ⟨rfl, rfl, rfl, rfl, trivial⟩⟩
  ·rintro rec6 i5 E w4 hI H
   try dsimp only at hI
   obtain ⟨F4, rfl, le4, hS4⟩ := hI;dsimp only [catalog_vols.l2] at H;refine qs ?_;refine qr (O_bin rfl rfl bI_lss) ?_;refine qn ?_;refine C_seq ?_;refine C_cond rfl (fun hc7 => ?_) (fun hc7 => ?_)
   ·rw [if_t hc7] at H;refine qk ?_;refine C_seq ?_;refine C_block ?_;refine C_seq ?_;obtain ⟨x8, hx8, H⟩ := bd_some H;refine qd ?_;obtain ⟨hp11, hy11⟩ := ix_some hx8;obtain ⟨cs11, hr11, he11⟩ := (h0.mono le4).el hy11;obtain rfl := hr11;replace he11 : Elf _ _ 4 _ _ := he11;have hi11 := he11.ixd;refine qi Tryz.underlying33 Ty.size32 hi11 hp11 ?_;refine qr (O_ldg 0 (Vol.cells x8) Ty.agg32 Ty.size32 rfl (he11.mono hS4.agree) (by omega) rfl (Nat.le_of_ble_eq_true rfl)) ?_;refine xm (E_alc (cs := [.i .i64 0, .i .i64 0, .i .i64 0, .i .i64 0]) Ty.zero32 rfl hS4) ?_;rintro _ w10 ⟨g10, rfl, hS10⟩;refine um (E_bst (c := [.i .i64 x8.pool, .i .i64 x8.epoch, .i .i64 x8.state, .i .i64 x8.files]) 0 ([.i .i64 x8.pool, .i .i64 x8.epoch, .i .i64 x8.state, .i .i64 x8.files]) rfl rfl hS10 rfl rfl Ty.size32 rfl rfl rfl) ?_;rintro _ w12 hS12;refine qn ?_;refine C_seq ?_;obtain ⟨r13, hr13, H⟩ := bd_some H;refine qd ?_;refine qf Ty.field32_2 ?_;refine qb 0 Ty.cell3 hS12 ?_;refine qr (O_bin rfl rfl bI_eql) ?_;refine qc ?_;refine W_gs (v := pl g10 (0 + 3)) rfl rfl rfl rfl (fun ⟨hb14, _⟩ => ?_) ?_
    ·rw [hb14];intro hK;refine qf Ty.field32_3 ?_;exact hK
    refine W_gs (v := .i .i64 x8.files) rfl rfl rfl rfl (fun ⟨hb15, _⟩ => ?_) ?_
    ·rw [hb15];intro hK;refine qb 0 Ty.cell3 hS12 ?_;exact hK
    obtain ⟨Q17, hQ17⟩ : ∃ Q : Hp → Prop, Q = fun wq => St [] w F F4 [.box g10 [.i .i64 x8.pool, .i .i64 x8.epoch, .i .i64 x8.state, .i .i64 x8.files]] wq := ⟨_, rfl⟩;refine W_gw (v := .b r13) (Q := Q17) (by rw [hQ17]; exact hS12) rfl rfl rfl rfl (fun ⟨hb16, _⟩ => ?_) ?_
    ·rw [hb16];intro hK;have hy18 := hr13;rw [only_t hb16] at hy18;refine ql (catalog_in_ok hS12.good hy18) ?_;rintro v19 w19 ⟨Fr13, rfl, hT19⟩;have hS19 := hS12.lent hT19;exact hK _ (by rw [hQ17]; exact hS19)
    intro w20 hS20;rw [hQ17] at hS20;refine Nxt.now ?_;refine W_pkA rfl rfl rfl rfl rfl (fun hc => by rw [hc]; rfl) rfl ?_;refine qm ?_;refine qs ?_;refine qf Ty.field32_2 ?_;refine qb 0 Ty.cell3 hS20 ?_;refine qr (O_bin rfl rfl bI_eql) ?_;refine qc ?_;refine W_gs (v := pl g10 (0 + 2)) rfl rfl rfl rfl (fun ⟨hb21, _⟩ => ?_) ?_
    ·rw [hb21];intro hK;refine qf Ty.field32_2 ?_;exact hK
    refine W_gs (v := .i .i64 x8.state) rfl rfl rfl rfl (fun ⟨hb22, _⟩ => ?_) ?_
    ·rw [hb22];intro hK;refine qb 0 Ty.cell3 hS20 ?_;exact hK
    refine W_gs (v := .b (decide (x8.state = 3))) rfl rfl rfl rfl (fun ⟨hb23, _⟩ => ?_) ?_
    ·rw [hb23];intro hK;refine qr (O_bin rfl rfl bI_eql) ?_;exact hK
    refine W_pkO rfl rfl rfl rfl rfl rfl (fun hc => by rw [hc]; rfl) ?_;refine qc ?_;refine W_gs (v := pl g10 (0 + 3)) rfl rfl rfl rfl (fun ⟨hb24, _⟩ => ?_) ?_
    ·rw [hb24];intro hK;refine qf Ty.field32_3 ?_;exact hK
    refine W_gs (v := .i .i64 x8.files) rfl rfl rfl rfl (fun ⟨hb25, _⟩ => ?_) ?_
    ·rw [hb25];intro hK;refine qb 0 Ty.cell3 hS20 ?_;exact hK
    refine W_gs (v := .b (decide (x8.files = 0))) rfl rfl rfl rfl (fun ⟨hb26, _⟩ => ?_) ?_
    ·rw [hb26];intro hK;refine qr (O_bin rfl rfl bI_eql) ?_;exact hK
    refine W_pkA rfl rfl rfl rfl rfl (fun hc => by rw [hc]; rfl) rfl ?_;refine qm ?_;refine C_seq ?_;obtain ⟨r27, hr27, H⟩ := bd_some H;obtain ⟨r28, hr28, H⟩ := bd_some H;refine qd ?_;refine qf Ty.field32_0 ?_;refine qb 0 Ty.cell3 hS20 ?_;refine lm (catalog_in_ok hS20.good hr27) ?_;rintro v29 w29 ⟨Fr27, rfl, hT29⟩;have hS29 := hS20.lent hT29;refine q2 ?_;refine W_gs (v := pl g10 (0 + 1)) rfl rfl rfl rfl (fun ⟨hb30, _⟩ => ?_) ?_
    ·rw [hb30];intro hK;refine qf Ty.field32_1 ?_;exact hK
    refine W_gs (v := .i .i64 x8.epoch) rfl rfl rfl rfl (fun ⟨hb31, _⟩ => ?_) ?_
    ·rw [hb31];intro hK;refine qb 0 Ty.cell3 hS29 ?_;exact hK
    obtain ⟨Q33, hQ33⟩ : ∃ Q : Hp → Prop, Q = fun wq => St [] w F F4 [.box g10 [.i .i64 x8.pool, .i .i64 x8.epoch, .i .i64 x8.state, .i .i64 x8.files]] wq := ⟨_, rfl⟩;refine W_gw (v := .b r28) (Q := Q33) (by rw [hQ33]; exact hS29) rfl rfl rfl rfl (fun ⟨hb32, _⟩ => ?_) ?_
    ·rw [hb32];intro hK;have hy34 := hr28;rw [only_t (by first | rfl | (rw [hb32]; first | done | rfl) | simp [hb32])] at hy34;refine ql (catalog_in_ok hS29.good hy34) ?_;rintro v35 w35 ⟨Fr28, rfl, hT35⟩;have hS35 := hS29.lent hT35;exact hK _ (by rw [hQ33]; exact hS35)
    intro w36 hS36;rw [hQ33] at hS36;refine Nxt.now ?_;refine W_gs (v := .b (!r28)) rfl rfl rfl rfl (fun ⟨hb37, _⟩ => ?_) ?_
    ·rw [hb37];intro hK;refine qc ?_;exact hK
    refine W_pkO rfl rfl rfl rfl rfl rfl (fun hc => by rw [hc]; rfl) ?_;refine qc ?_;refine W_gs (v := .b (decide (x8.state = 2) && r13)) rfl rfl rfl rfl (fun ⟨hb38, _⟩ => ?_) ?_
    ·rw [hb38];intro hK;refine qc ?_;exact hK
    refine W_gs (v := .b (!(decide (x8.state = 2) && r13))) rfl rfl rfl rfl (fun ⟨hb39, _⟩ => ?_) ?_
    ·rw [hb39];intro hK;refine qc ?_;exact hK
    refine W_gs (v := .b (!(decide (x8.state = 2) && r13))) rfl rfl rfl rfl (fun ⟨hb40, _⟩ => ?_) ?_
    ·rw [hb40];intro hK;refine qc ?_;exact hK
    refine W_gsc (v := .b ((decide (x8.state = 1) || decide (x8.state = 3)) && decide (x8.files = 0))) rfl rfl rfl rfl (fun ⟨hb41, hb42, _⟩ => ?_) ?_
    ·rw [hb42, hb41];intro hK;refine qc ?_;exact hK
    refine W_gsc (v := .b (!((decide (x8.state = 1) || decide (x8.state = 3)) && decide (x8.files = 0)))) rfl rfl rfl rfl (fun ⟨hb43, hb44, _⟩ => ?_) ?_
    ·rw [hb44, hb43];intro hK;refine qc ?_;exact hK
    refine W_gs (v := .b ((!(decide (x8.state = 2) && r13)) && (!((decide (x8.state = 1) || decide (x8.state = 3)) && decide (x8.files = 0))))) rfl rfl rfl rfl (fun ⟨hb45, _⟩ => ?_) ?_
    ·rw [hb45];intro hK;refine W_pkA rfl rfl rfl rfl rfl (fun hc => by rw [hc]; rfl) rfl ?_;exact hK
    refine W_pkO rfl rfl rfl rfl rfl rfl (fun hc => by rw [hc]; rfl) ?_;refine qn ?_;refine C_cond rfl (fun hc46 => ?_) (fun hc46 => ?_)
    ·rw [if_t hc46] at H;refine qs ?_;refine qm ?_;obtain rfl := oi H;refine C_ret rfl rfl ?_;exact ⟨F4, rfl, hS36.pick [] (by decide)⟩
    ·rw [if_f hc46] at H;refine C_skip ?_;refine N_block ?_;refine N_code ?_;refine qd ?_;refine q2 ?_;refine W_nil ?_;exact N_againM (wr (i5 + 1)) _ H ⟨F4, rfl, le4, hS36.pick [] (by decide)⟩ ⟨rfl, rfl, rfl, rfl, trivial⟩
   ·rw [if_f hc7] at H;refine C_exit _ rfl ?_;exact N_join _ ⟨H, ⟨F4, rfl, le4, hS4⟩⟩ ⟨rfl, trivial⟩
 ·rintro E w1 ⟨H, F1, rfl, le1, hS1⟩;dsimp only [catalog_vols.k1] at H;refine C_seq ?_;obtain ⟨r2, hr2, H⟩ := bd_some H;refine qd ?_;refine qc ?_;refine qr (O_len Tryz.underlying33 rfl h0.ln) ?_;refine lm (catalog_in_ok hS1.good hr2) ?_;rintro v3 w3 ⟨Fr2, rfl, hT3⟩;have hS3 := hS1.lent hT3;refine qm ?_;obtain rfl := oi H;refine C_ret rfl rfl ?_;exact ⟨F1, rfl, hS3⟩
def catalog_after (x0 : Loc) (x1 : Loc) : Option Bool :=
  if decide (x0.vol ≠ x1.vol) then
    some (decide (x1.vol < x0.vol))
  else
    if decide (x0.file ≠ x1.file) then
      some (decide (x1.file < x0.file))
    else
      some (decide (x1.off < x0.off))
set_option maxRecDepth 100000 in
theorem catalog_after_ok {K : Tb} {F : Frz} {w : Hp} {x0 : Loc} {x1 : Loc} {r : Bool} (hA : Gd F w) (H : catalog_after x0 x1 = some r) : Ret Tryz.prog K 159 [.agg (Loc.cells x0), .agg (Loc.cells x1)] w fun v w' => ∃ (F' : Frz), v = .b r ∧ St [] w F F' [] w' := by
 refine qa2 Tryz.func159 ?_;have hS := St.start hA;dsimp only [catalog_after] at H;refine qs ?_;refine xm (E_bx (cs := [.i .i64 x0.vol, .i .i64 x0.file, .i .i64 x0.off, .i .i64 x0.len]) rfl rfl rfl hS) ?_;rintro _ w1 ⟨g1, rfl, hS1⟩;refine xm (E_bx (cs := [.i .i64 x1.vol, .i .i64 x1.file, .i .i64 x1.off, .i .i64 x1.len]) rfl rfl rfl hS1) ?_;rintro _ w2 ⟨g2, rfl, hS2⟩;refine qm ?_;refine C_seq ?_;refine C_block ?_;refine qs ?_;refine qf Ty.field51_0 ?_;refine qb 1 Ty.cell3 hS2 ?_;refine qf Ty.field51_0 ?_;refine qb 0 Ty.cell3 hS2 ?_;refine qr (O_bin rfl rfl bI_neq) ?_;refine qm ?_;refine C_cond rfl (fun hc3 => ?_) (fun hc3 => ?_)
 ·rw [if_t hc3] at H;refine qs ?_;refine qf Ty.field51_0 ?_;refine qb 1 Ty.cell3 hS2 ?_;refine qf Ty.field51_0 ?_;refine qb 0 Ty.cell3 hS2 ?_;refine qr (O_bin rfl rfl bI_gtr) ?_;refine qm ?_;obtain rfl := oi H;refine C_ret rfl rfl ?_;exact ⟨F, rfl, hS2.pick [] (by decide)⟩
 ·rw [if_f hc3] at H;refine qs ?_;refine qf Ty.field51_1 ?_;refine qb 1 Ty.cell3 hS2 ?_;refine qf Ty.field51_1 ?_;refine qb 0 Ty.cell3 hS2 ?_;refine qr (O_bin rfl rfl bI_neq) ?_;refine qm ?_;refine C_cond rfl (fun hc4 => ?_) (fun hc4 => ?_)
  ·rw [if_t hc4] at H;refine qs ?_;refine qf Ty.field51_1 ?_;refine qb 1 Ty.cell3 hS2 ?_;refine qf Ty.field51_1 ?_;refine qb 0 Ty.cell3 hS2 ?_;refine qr (O_bin rfl rfl bI_gtr) ?_;refine qm ?_;obtain rfl := oi H;refine C_ret rfl rfl ?_;exact ⟨F, rfl, hS2.pick [] (by decide)⟩
  ·rw [if_f hc4] at H;refine C_skip ?_;refine N_block ?_;refine N_code ?_;refine qs ?_;refine qf Ty.field51_2 ?_;refine qb 1 Ty.cell3 hS2 ?_;refine qf Ty.field51_2 ?_;refine qb 0 Ty.cell3 hS2 ?_;refine qr (O_bin rfl rfl bI_gtr) ?_;refine qm ?_;obtain rfl := oi H;refine C_ret rfl rfl ?_;exact ⟨F, rfl, hS2.pick [] (by decide)⟩
def catalog_locs.k1 : Option Bool :=
  some true
def catalog_locs.l2 (x0 : Catalog) (x1 : List Loc) (rec6 : Int → Option Bool) : Int → Option Bool
  | i5 =>
    if decide (i5 < (x1.length : Int)) then
      bd (ix x1 i5) fun x8 =>
      bd (catalog_in x8.vol 0 (wr ((x0.vols.length : Int) - 1))) fun r13 =>
      bd (only (!(!r13)) (ix x0.vols x8.vol) (Vol.mk 0 0 0 0)) fun x14 =>
      bd (only (!((!r13) || decide (x14.state ≠ 2))) (ix x0.vols x8.vol) (Vol.mk 0 0 0 0)) fun x16 =>
      bd (only (!((!r13) || decide (x14.state ≠ 2))) (catalog_in x8.file 1 x16.files) false) fun r18 =>
      bd (only (!(((!r13) || decide (x14.state ≠ 2)) || (!r18))) (catalog_in x8.off 0 16777215) false) fun r19 =>
      bd (only (!((((!r13) || decide (x14.state ≠ 2)) || (!r18)) || (!r19))) (catalog_in x8.len 13 8013) false) fun r20 =>
      bd (only ((!(((((!r13) || decide (x14.state ≠ 2)) || (!r18)) || (!r19)) || (!r20))) && decide (0 < i5)) (ix x1 (wr (i5 - 1))) (Loc.mk 0 0 0 0)) fun x21 =>
      bd (only ((!(((((!r13) || decide (x14.state ≠ 2)) || (!r18)) || (!r19)) || (!r20))) && decide (0 < i5)) (catalog_after x8 x21) false) fun r23 =>
      if ((((((!r13) || decide (x14.state ≠ 2)) || (!r18)) || (!r19)) || (!r20)) || (decide (0 < i5) && (!r23))) then
        some false
      else
        rec6 (wr (i5 + 1))
    else
      catalog_locs.k1
def catalog_locs (x0 : Catalog) (x1 : List Loc) : Option Bool :=
  if decide (200 < (x1.length : Int)) then
    some false
  else
    loop (catalog_locs.l2 x0 x1) 0
set_option maxRecDepth 100000 in
set_option maxHeartbeats 2000000 in
theorem catalog_locs_ok {K : Tb} {F : Frz} {w : Hp} {x0 : Catalog} {x1 : List Loc} {r : Bool} {v0_0 : Val} {v0_1 : Val} {v0_2 : Val} {v0_3 : Val} {v1 : Val} (hA : Gd F w) (h0_0 : SlF Snap.t F v0_0 x0.snaps) (h0_1 : SlF Chunk.t F v0_1 x0.chunks) (h0_2 : SlF Exp.t F v0_2 x0.exps) (h0_3 : SlF Vol.t F v0_3 x0.vols) (h1 : SlF Loc.t F v1 x1) (H : catalog_locs x0 x1 = some r) : Ret Tryz.prog K 123 [.agg (Catalog.cells x0 v0_0 v0_1 v0_2 v0_3), v1] w fun v w' => ∃ (F' : Frz), v = .b r ∧ St [] w F F' [] w' := by
 refine qa2 Tryz.func123 ?_;have hS := St.start hA;dsimp only [catalog_locs] at H;refine qs ?_;refine xm (E_bx (cs := [.i .i64 x0.seq, v0_0, v0_1, v0_2, v0_3]) rfl rfl (by simp only [List.all_cons, List.all_nil, List.all_append, h0_0.ln.one, h0_1.ln.one, h0_2.ln.one, h0_3.ln.one]; rfl) hS) ?_;rintro _ w1 ⟨g1, rfl, hS1⟩;refine qm ?_;refine C_seq ?_;refine qs ?_;refine qc ?_;refine qr (O_len Tryz.underlying44 rfl h1.ln) ?_;refine qr (O_bin rfl rfl bI_gtr) ?_;refine qn ?_;refine C_cond rfl (fun hc2 => ?_) (fun hc2 => ?_)
 ·rw [if_t hc2] at H;refine qs ?_;refine qm ?_;obtain rfl := oi H;refine C_ret rfl rfl ?_;exact ⟨F, rfl, hS1.pick [] (by decide)⟩
 ·rw [if_f hc2] at H;refine qk ?_;refine C_seq_join (fun E wq => catalog_locs.k1 = some r ∧ ∃ (F3 : Frz), E = [] ∧ F.le F3 ∧ St [] w F F3 [] wq) ?_ ?_
  ·refine qs ?_;refine qc ?_;refine qr (O_len Tryz.underlying44 rfl h1.ln) ?_;refine qm ?_;refine C_block ?_;refine C_loopM (fun (s : Int) E wq => ∃ (F4 : Frz), E = [(1, v1), (2, pl g1 0), (10, v1), (11, .i .i64 (x1.length : Int)), (12, .i .i64 s)] ∧ F.le F4 ∧ St [] w F F4 [.box g1 [.i .i64 x0.seq, v0_0, v0_1, v0_2, v0_3]] wq) H ?_ ?_
   ·exact ⟨_, ⟨F, rfl, (Frz.le.refl _), hS1⟩, ⟨rfl, rfl, rfl, rfl, rfl, trivial⟩⟩
   ·rintro rec6 i5 E w4 hI H
    try dsimp only at hI
    obtain ⟨F4, rfl, le4, hS4⟩ := hI;dsimp only [catalog_locs.l2] at H;refine qs ?_;refine qr (O_bin rfl rfl bI_lss) ?_;refine qn ?_;refine C_seq ?_;refine C_cond rfl (fun hc7 => ?_) (fun hc7 => ?_)
    ·rw [if_t hc7] at H;refine qk ?_;refine C_seq ?_;refine C_block ?_;refine C_seq ?_;obtain ⟨x8, hx8, H⟩ := bd_some H;refine qd ?_;refine qc ?_;obtain ⟨hp11, hy11⟩ := ix_some hx8;obtain ⟨cs11, hr11, he11⟩ := (h1.mono le4).el hy11;obtain rfl := hr11;replace he11 : Elf _ _ 4 _ _ := he11;have hi11 := he11.ixd;refine qi Tryz.underlying44 Ty.size51 hi11 hp11 ?_;refine qr (O_ldg 0 (Loc.cells x8) Ty.agg51 Ty.size51 rfl (he11.mono hS4.agree) (by omega) rfl (Nat.le_of_ble_eq_true rfl)) ?_;refine xm (E_alc (cs := [.i .i64 0, .i .i64 0, .i .i64 0, .i .i64 0]) Ty.zero51 rfl hS4) ?_;rintro _ w10 ⟨g10, rfl, hS10⟩;refine qc ?_;refine um (E_bst (c := [.i .i64 x8.vol, .i .i64 x8.file, .i .i64 x8.off, .i .i64 x8.len]) 0 ([.i .i64 x8.vol, .i .i64 x8.file, .i .i64 x8.off, .i .i64 x8.len]) rfl rfl hS10 rfl rfl Ty.size51 rfl rfl rfl) ?_;rintro _ w12 hS12;refine qn ?_;refine C_seq ?_;obtain ⟨r13, hr13, H⟩ := bd_some H;obtain ⟨x14, hx14, H⟩ := bd_some H;obtain ⟨x16, hx16, H⟩ := bd_some H;obtain ⟨r18, hr18, H⟩ := bd_some H;obtain ⟨r19, hr19, H⟩ := bd_some H;obtain ⟨r20, hr20, H⟩ := bd_some H;obtain ⟨x21, hx21, H⟩ := bd_some H;obtain ⟨r23, hr23, H⟩ := bd_some H;refine C_regionD (G := F4) [0, 1, 2, 3, 4, 5, 6, 7, 8, 9, 10, 11, 12, 13, 14, 15, 16, 17, 18, 19, 20, 21, 22, 23, 24, 25, 26, 27, 28, 29, 30, 31, 32, 33, 34, 35, 36, 37, 38, 39, 40, 41, 42, 43, 44, 45, 46, 47, 48, 49, 50, 51, 52, 53, 54, 55, 56] rfl Ty.mixed (by kernel_rfl) hS12.agree ?_;refine qf Ty.field51_0 ?_;refine qbq 0 Ty.cell3 hS12 ?_;refine qf Ty.field38_4 ?_;refine qbq 1 Ty.cell33 hS12 ?_;refine qr (O_len Tryz.underlying33 rfl h0_3.ln) ?_;refine qc ?_;refine ql (catalog_in_ok hS12.good hr13) ?_;rintro v24 w24 ⟨Fr13, rfl, hT24⟩;have hS24 := hS12.lent hT24;refine Nxt.frz (Frz.le.refl _) hS24.agree ?_;refine q2 ?_;refine W_gs (v := pl g1 (0 + 4)) rfl rfl rfl rfl (fun ⟨hb25, _⟩ => ?_) ?_
     ·rw [hb25];intro hK;refine qf Ty.field38_4 ?_;exact hK
     refine W_gs (v := v0_3) rfl rfl rfl rfl (fun ⟨hb26, _⟩ => ?_) ?_
     ·rw [hb26];intro hK;refine qbq 1 Ty.cell33 hS24 ?_;exact hK
     refine W_gs (v := pl g10 (0 + 0)) rfl rfl rfl rfl (fun ⟨hb27, _⟩ => ?_) ?_
     ·rw [hb27];intro hK;refine qf Ty.field51_0 ?_;exact hK
     refine W_gs (v := .i .i64 x8.vol) rfl rfl rfl rfl (fun ⟨hb28, _⟩ => ?_) ?_
     ·rw [hb28];intro hK;refine qbq 0 Ty.cell3 hS24 ?_;exact hK
     refine W_gs (v := elp v0_3 (x8.vol.toNat * 4)) rfl rfl rfl rfl (fun ⟨hb29, _⟩ => ?_) ?_
     ·rw [hb29];intro hK;have hy30 := hx14;rw [only_t (by first | rfl | (rw [hb29]; first | done | rfl) | simp [hb29])] at hy30;obtain ⟨hp31, hy31⟩ := ix_some hy30;obtain ⟨cs31, hr31, he31⟩ := (h0_3.mono le4).el hy31;obtain rfl := hr31;replace he31 : Elf _ _ 4 _ _ := he31;have hi31 := he31.ixd;refine qi Tryz.underlying33 Ty.size32 hi31 hp31 ?_;exact hK
     refine W_gs (v := elp v0_3 ((x8.vol.toNat * 4) + 2)) rfl rfl rfl rfl (fun ⟨hb32, _⟩ => ?_) ?_
     ·rw [hb32];intro hK;have hy33 := hx14;rw [only_t (by first | rfl | (rw [hb32]; first | done | rfl) | simp [hb32])] at hy33;obtain ⟨hp34, hy34⟩ := ix_some hy33;obtain ⟨cs34, hr34, he34⟩ := (h0_3.mono le4).el hy34;obtain rfl := hr34;replace he34 : Elf _ _ 4 _ _ := he34;have hi34 := he34.ixd;refine qr (O_fld 2 Ty.field32_2 rfl hi34) ?_;exact hK
     refine W_gs (v := .i .i64 x14.state) rfl rfl rfl rfl (fun ⟨hb35, _⟩ => ?_) ?_
     ·rw [hb35];intro hK;have hy36 := hx14;rw [only_t (by first | rfl | (rw [hb35]; first | done | rfl) | simp [hb35])] at hy36;obtain ⟨hp37, hy37⟩ := ix_some hy36;obtain ⟨cs37, hr37, he37⟩ := (h0_3.mono le4).el hy37;obtain rfl := hr37;replace he37 : Elf _ _ 4 _ _ := he37;have hi37 := he37.ixd;refine qq (O_ld1 2 Ty.cell3 rfl (he37.mono hS24.agree) (by omega) rfl) ?_;exact hK
     refine W_gs (v := .b (decide (x14.state ≠ 2))) rfl rfl rfl rfl (fun ⟨hb38, _⟩ => ?_) ?_
     ·rw [hb38];intro hK;refine qr (O_bin rfl rfl bI_neq) ?_;exact hK
     refine W_pkO rfl rfl rfl rfl rfl rfl (fun hc => by rw [hc]; rfl) ?_;refine qc ?_;refine W_gs (v := pl g10 (0 + 1)) rfl rfl rfl rfl (fun ⟨hb39, _⟩ => ?_) ?_
     ·rw [hb39];intro hK;refine qf Ty.field51_1 ?_;exact hK
     refine W_gs (v := .i .i64 x8.file) rfl rfl rfl rfl (fun ⟨hb40, _⟩ => ?_) ?_
     ·rw [hb40];intro hK;refine qbq 0 Ty.cell3 hS24 ?_;exact hK
     refine W_gs (v := pl g1 (0 + 4)) rfl rfl rfl rfl (fun ⟨hb41, _⟩ => ?_) ?_
     ·rw [hb41];intro hK;refine qf Ty.field38_4 ?_;exact hK
     refine W_gs (v := v0_3) rfl rfl rfl rfl (fun ⟨hb42, _⟩ => ?_) ?_
     ·rw [hb42];intro hK;refine qbq 1 Ty.cell33 hS24 ?_;exact hK
     refine W_gs (v := pl g10 (0 + 0)) rfl rfl rfl rfl (fun ⟨hb43, _⟩ => ?_) ?_
     ·rw [hb43];intro hK;refine qf Ty.field51_0 ?_;exact hK
     refine W_gs (v := .i .i64 x8.vol) rfl rfl rfl rfl (fun ⟨hb44, _⟩ => ?_) ?_
     ·rw [hb44];intro hK;refine qbq 0 Ty.cell3 hS24 ?_;exact hK
     refine W_gs (v := elp v0_3 (x8.vol.toNat * 4)) rfl rfl rfl rfl (fun ⟨hb45, _⟩ => ?_) ?_
     ·rw [hb45];intro hK;have hy46 := hx16;rw [only_t (by first | rfl | (rw [hb45]; first | done | rfl) | simp [hb45])] at hy46;obtain ⟨hp47, hy47⟩ := ix_some hy46;obtain ⟨cs47, hr47, he47⟩ := (h0_3.mono le4).el hy47;obtain rfl := hr47;replace he47 : Elf _ _ 4 _ _ := he47;have hi47 := he47.ixd;refine qi Tryz.underlying33 Ty.size32 hi47 hp47 ?_;exact hK
     refine W_gs (v := elp v0_3 ((x8.vol.toNat * 4) + 3)) rfl rfl rfl rfl (fun ⟨hb48, _⟩ => ?_) ?_
     ·rw [hb48];intro hK;have hy49 := hx16;rw [only_t (by first | rfl | (rw [hb48]; first | done | rfl) | simp [hb48])] at hy49;obtain ⟨hp50, hy50⟩ := ix_some hy49;obtain ⟨cs50, hr50, he50⟩ := (h0_3.mono le4).el hy50;obtain rfl := hr50;replace he50 : Elf _ _ 4 _ _ := he50;have hi50 := he50.ixd;refine qr (O_fld 3 Ty.field32_3 rfl hi50) ?_;exact hK
     refine W_gs (v := .i .i64 x16.files) rfl rfl rfl rfl (fun ⟨hb51, _⟩ => ?_) ?_
     ·rw [hb51];intro hK;have hy52 := hx16;rw [only_t (by first | rfl | (rw [hb51]; first | done | rfl) | simp [hb51])] at hy52;obtain ⟨hp53, hy53⟩ := ix_some hy52;obtain ⟨cs53, hr53, he53⟩ := (h0_3.mono le4).el hy53;obtain rfl := hr53;replace he53 : Elf _ _ 4 _ _ := he53;have hi53 := he53.ixd;refine qq (O_ld1 3 Ty.cell3 rfl (he53.mono hS24.agree) (by omega) rfl) ?_;exact hK
     obtain ⟨Q55, hQ55⟩ : ∃ Q : Hp → Prop, Q = fun wq => St [] w F F4 [.box g10 [.i .i64 x8.vol, .i .i64 x8.file, .i .i64 x8.off, .i .i64 x8.len], .box g1 [.i .i64 x0.seq, v0_0, v0_1, v0_2, v0_3]] wq := ⟨_, rfl⟩;refine W_gw (v := .b r18) (Q := Q55) (by rw [hQ55]; exact hS24) rfl rfl rfl rfl (fun ⟨hb54, _⟩ => ?_) ?_
     ·rw [hb54];intro hK;have hy56 := hr18;rw [only_t (by first | rfl | (rw [hb54]; first | done | rfl) | simp [hb54])] at hy56;refine ql (catalog_in_ok hS24.good hy56) ?_;rintro v57 w57 ⟨Fr18, rfl, hT57⟩;have hS57 := hS24.lent hT57;exact hK _ (by rw [hQ55]; exact hS57)
     intro w58 hS58;rw [hQ55] at hS58;refine Nxt.frz (Frz.le.refl _) hS58.agree ?_;refine W_gs (v := .b (!r18)) rfl rfl rfl rfl (fun ⟨hb59, _⟩ => ?_) ?_
     ·rw [hb59];intro hK;refine qc ?_;exact hK
     refine W_pkO rfl rfl rfl rfl rfl rfl (fun hc => by rw [hc]; rfl) ?_;refine qc ?_;refine W_gs (v := pl g10 (0 + 2)) rfl rfl rfl rfl (fun ⟨hb60, _⟩ => ?_) ?_
     ·rw [hb60];intro hK;refine qf Ty.field51_2 ?_;exact hK
     refine W_gs (v := .i .i64 x8.off) rfl rfl rfl rfl (fun ⟨hb61, _⟩ => ?_) ?_
     ·rw [hb61];intro hK;refine qbq 0 Ty.cell3 hS58 ?_;exact hK
     obtain ⟨Q63, hQ63⟩ : ∃ Q : Hp → Prop, Q = fun wq => St [] w F F4 [.box g10 [.i .i64 x8.vol, .i .i64 x8.file, .i .i64 x8.off, .i .i64 x8.len], .box g1 [.i .i64 x0.seq, v0_0, v0_1, v0_2, v0_3]] wq := ⟨_, rfl⟩;refine W_gw (v := .b r19) (Q := Q63) (by rw [hQ63]; exact hS58) rfl rfl rfl rfl (fun ⟨hb62, _⟩ => ?_) ?_
     ·rw [hb62];intro hK;have hy64 := hr19;rw [only_t (by first | rfl | (rw [hb62]; first | done | rfl) | simp [hb62])] at hy64;refine ql (catalog_in_ok hS58.good hy64) ?_;rintro v65 w65 ⟨Fr19, rfl, hT65⟩;have hS65 := hS58.lent hT65;exact hK _ (by rw [hQ63]; exact hS65)
     intro w66 hS66;rw [hQ63] at hS66;refine Nxt.frz (Frz.le.refl _) hS66.agree ?_;refine W_gs (v := .b (!r19)) rfl rfl rfl rfl (fun ⟨hb67, _⟩ => ?_) ?_
     ·rw [hb67];intro hK;refine qc ?_;exact hK
     refine W_pkO rfl rfl rfl rfl rfl rfl (fun hc => by rw [hc]; rfl) ?_;refine qc ?_;refine W_gs (v := pl g10 (0 + 3)) rfl rfl rfl rfl (fun ⟨hb68, _⟩ => ?_) ?_
     ·rw [hb68];intro hK;refine qf Ty.field51_3 ?_;exact hK
     refine W_gs (v := .i .i64 x8.len) rfl rfl rfl rfl (fun ⟨hb69, _⟩ => ?_) ?_
     ·rw [hb69];intro hK;refine qbq 0 Ty.cell3 hS66 ?_;exact hK
     obtain ⟨Q71, hQ71⟩ : ∃ Q : Hp → Prop, Q = fun wq => St [] w F F4 [.box g10 [.i .i64 x8.vol, .i .i64 x8.file, .i .i64 x8.off, .i .i64 x8.len], .box g1 [.i .i64 x0.seq, v0_0, v0_1, v0_2, v0_3]] wq := ⟨_, rfl⟩;refine W_gw (v := .b r20) (Q := Q71) (by rw [hQ71]; exact hS66) rfl rfl rfl rfl (fun ⟨hb70, _⟩ => ?_) ?_
     ·rw [hb70];intro hK;have hy72 := hr20;rw [only_t (by first | rfl | (rw [hb70]; first | done | rfl) | simp [hb70])] at hy72;refine ql (catalog_in_ok hS66.good hy72) ?_;rintro v73 w73 ⟨Fr20, rfl, hT73⟩;have hS73 := hS66.lent hT73;exact hK _ (by rw [hQ71]; exact hS73)
     intro w74 hS74;rw [hQ71] at hS74;refine Nxt.frz (Frz.le.refl _) hS74.agree ?_;refine W_gs (v := .b (!r20)) rfl rfl rfl rfl (fun ⟨hb75, _⟩ => ?_) ?_
     ·rw [hb75];intro hK;refine qc ?_;exact hK
     refine W_pkO rfl rfl rfl rfl rfl rfl (fun hc => by rw [hc]; rfl) ?_;refine qc ?_;refine W_gs (v := .i .i64 i5) rfl rfl rfl rfl (fun ⟨hb76, _⟩ => ?_) ?_
     ·rw [hb76];intro hK;refine qc ?_;exact hK
     refine W_gs (v := .b (decide (0 < i5))) rfl rfl rfl rfl (fun ⟨hb77, _⟩ => ?_) ?_
     ·rw [hb77];intro hK;refine qr (O_bin rfl rfl bI_gtr) ?_;exact hK
     refine W_gs (v := .b (decide (0 < i5))) rfl rfl rfl rfl (fun ⟨hb78, _⟩ => ?_) ?_
     ·rw [hb78];intro hK;refine qc ?_;exact hK
     refine W_gsc (v := .agg (Loc.cells x8)) rfl rfl rfl rfl (fun ⟨hb79, hb80, _⟩ => ?_) ?_
     ·rw [hb79, hb80];intro hK;refine qq (O_bldg 0 (Loc.cells x8) Ty.agg51 Ty.size51 (Nat.zero_lt_succ _) rfl hS74 rfl (fun q u h => sub_at (post := []) rfl h)) ?_;exact hK
     refine W_gsc (v := v1) rfl rfl rfl rfl (fun ⟨hb81, hb82, _⟩ => ?_) ?_
     ·rw [hb81, hb82];intro hK;refine qc ?_;exact hK
     refine W_gsc (v := .i .i64 i5) rfl rfl rfl rfl (fun ⟨hb83, hb84, _⟩ => ?_) ?_
     ·rw [hb83, hb84];intro hK;refine qc ?_;exact hK
     refine W_gsc (v := .i .i64 (wr (i5 - 1))) rfl rfl rfl rfl (fun ⟨hb85, hb86, _⟩ => ?_) ?_
     ·rw [hb85, hb86];intro hK;refine qc ?_;exact hK
     refine W_gsc (v := elp v1 ((wr (i5 - 1)).toNat * 4)) rfl rfl rfl rfl (fun ⟨hb87, hb88, _⟩ => ?_) ?_
     ·rw [hb87, hb88];intro hK;have hy89 := hx21;rw [only_t (by first | rfl | (rw [hb87, hb88]; first | done | rfl) | simp [hb87, hb88])] at hy89;obtain ⟨hp90, hy90⟩ := ix_some hy89;obtain ⟨cs90, hr90, he90⟩ := (h1.mono le4).el hy90;obtain rfl := hr90;replace he90 : Elf _ _ 4 _ _ := he90;have hi90 := he90.ixd;refine qi Tryz.underlying44 Ty.size51 hi90 hp90 ?_;exact hK
     refine W_gsc (v := .agg (Loc.cells x21)) rfl rfl rfl rfl (fun ⟨hb91, hb92, _⟩ => ?_) ?_
     ·rw [hb91, hb92];intro hK;have hy93 := hx21;rw [only_t (by first | rfl | (rw [hb91, hb92]; first | done | rfl) | simp [hb91, hb92])] at hy93;obtain ⟨hp94, hy94⟩ := ix_some hy93;obtain ⟨cs94, hr94, he94⟩ := (h1.mono le4).el hy94;obtain rfl := hr94;replace he94 : Elf _ _ 4 _ _ := he94;have hi94 := he94.ixd;refine qq (O_ldg 0 (Loc.cells x21) Ty.agg51 Ty.size51 rfl (he94.mono hS74.agree) (by omega) rfl (Nat.le_of_ble_eq_true rfl)) ?_;exact hK
     obtain ⟨Q97, hQ97⟩ : ∃ Q : Hp → Prop, Q = fun wq => St [] w F F4 [.box g10 [.i .i64 x8.vol, .i .i64 x8.file, .i .i64 x8.off, .i .i64 x8.len], .box g1 [.i .i64 x0.seq, v0_0, v0_1, v0_2, v0_3]] wq := ⟨_, rfl⟩;refine W_gwc (v := .b r23) (Q := Q97) (by rw [hQ97]; exact hS74) rfl rfl rfl rfl (fun ⟨hb95, hb96, _⟩ => ?_) ?_
     ·rw [hb95, hb96];intro hK;have hy98 := hr23;rw [only_t (by first | rfl | (rw [hb95, hb96]; first | done | rfl) | simp [hb95, hb96])] at hy98;refine ql (catalog_after_ok hS74.good hy98) ?_;rintro v99 w99 ⟨Fr23, rfl, hT99⟩;have hS99 := hS74.lent hT99;exact hK _ (by rw [hQ97]; exact hS99)
     intro w100 hS100;rw [hQ97] at hS100;refine Nxt.frz (Frz.le.refl _) hS100.agree ?_;refine W_gsc (v := .b (!r23)) rfl rfl rfl rfl (fun ⟨hb101, hb102, _⟩ => ?_) ?_
     ·rw [hb101, hb102];intro hK;refine qc ?_;exact hK
     refine W_gs (v := .b (decide (0 < i5) && (!r23))) rfl rfl rfl rfl (fun ⟨hb103, _⟩ => ?_) ?_
     ·rw [hb103];intro hK;refine W_pkA rfl rfl rfl rfl rfl (fun hc => by rw [hc]; rfl) rfl ?_;exact hK
     refine W_pkO rfl rfl rfl rfl rfl rfl (fun hc => by rw [hc]; rfl) ?_;refine qn ?_;refine C_cond rfl (fun hc104 => ?_) (fun hc104 => ?_)
     ·rw [if_t hc104] at H;refine qs ?_;refine qm ?_;obtain rfl := oi H;refine C_ret rfl rfl ?_;exact ⟨F4, rfl, hS100.pick [] (by decide)⟩
     ·rw [if_f hc104] at H;refine C_skip ?_;refine N_block ?_;refine N_code ?_;refine qd ?_;refine q2 ?_;refine W_nil ?_;exact N_againM (wr (i5 + 1)) _ H ⟨F4, rfl, le4, hS100.pick [1] (by decide)⟩ ⟨rfl, rfl, rfl, rfl, rfl, trivial⟩
    ·rw [if_f hc7] at H;refine C_exit _ rfl ?_;exact N_join _ ⟨H, ⟨F4, rfl, le4, hS4.pick [] (by decide)⟩⟩ trivial
  ·rintro E w3 ⟨H, F3, rfl, le3, hS3⟩;dsimp only [catalog_locs.k1] at H;refine qs ?_;refine qm ?_;obtain rfl := oi H;refine C_ret rfl rfl ?_;exact ⟨F3, rfl, hS3⟩
def catalog_chunks.k1 (x0 : Catalog) : Option Bool :=
  some (decide ((x0.chunks.length : Int) ≤ 200))
def catalog_chunks.l2 (x0 : Catalog) (rec5 : Int → Option Bool) : Int → Option Bool
  | i4 =>
    if decide (i4 < (x0.chunks.length : Int)) then
      bd (ix x0.chunks i4) fun x7 =>
      bd (only (decide (0 < i4)) (ix x0.chunks (wr (i4 - 1))) (Chunk.mk (List.replicate 32 (0 : UInt8)) false [] [])) fun x12 =>
      bd (only (decide (0 < i4)) (catalog_order x12.id x7.id) 0) fun r14 =>
      bd (only (!(decide (0 < i4) && decide (0 ≤ r14))) (catalog_locs x0 x7.locs) false) fun r15 =>
      bd (only ((!(((decide (0 < i4) && decide (0 ≤ r14)) || (!r15)) || ((!x7.staged) && (decide (0 < (x7.data.length : Int)) || decide ((x7.locs.length : Int) = 0))))) && x7.staged) (catalog_in (x7.data.length : Int) 1 64) false) fun r16 =>
      if ((((decide (0 < i4) && decide (0 ≤ r14)) || (!r15)) || ((!x7.staged) && (decide (0 < (x7.data.length : Int)) || decide ((x7.locs.length : Int) = 0)))) || (x7.staged && (!r16))) then
        some false
      else
        rec5 (wr (i4 + 1))
    else
      catalog_chunks.k1 x0
def catalog_chunks (x0 : Catalog) : Option Bool :=
  loop (catalog_chunks.l2 x0) 0
set_option maxRecDepth 100000 in
set_option maxHeartbeats 2000000 in
theorem catalog_chunks_ok {K : Tb} [Kn (KExt Tryz.prog) K] {F : Frz} {w : Hp} {x0 : Catalog} {r : Bool} {v0_0 : Val} {v0_1 : Val} {v0_2 : Val} {v0_3 : Val} (hA : Gd F w) (h0_0 : SlF Snap.t F v0_0 x0.snaps) (h0_1 : SlF Chunk.t F v0_1 x0.chunks) (h0_2 : SlF Exp.t F v0_2 x0.exps) (h0_3 : SlF Vol.t F v0_3 x0.vols) (H : catalog_chunks x0 = some r) : Ret Tryz.prog K 78 [.agg (Catalog.cells x0 v0_0 v0_1 v0_2 v0_3)] w fun v w' => ∃ (F' : Frz), v = .b r ∧ St [] w F F' [] w' := by
 refine qa1 Tryz.func78 ?_;have hS := St.start hA;dsimp only [catalog_chunks] at H;refine qs ?_;refine xm (E_bx (cs := [.i .i64 x0.seq, v0_0, v0_1, v0_2, v0_3]) rfl rfl (by simp only [List.all_cons, List.all_nil, List.all_append, h0_0.ln.one, h0_1.ln.one, h0_2.ln.one, h0_3.ln.one]; rfl) hS) ?_;rintro _ w1 ⟨g1, rfl, hS1⟩;refine qm ?_;refine C_seq_join (fun E wq => catalog_chunks.k1 x0 = some r ∧ ∃ (F2 : Frz), E = [(1, pl g1 0)] ∧ F.le F2 ∧ St [] w F F2 [.box g1 [.i .i64 x0.seq, v0_0, v0_1, v0_2, v0_3]] wq) ?_ ?_
 ·refine qs ?_;refine qf Ty.field38_2 ?_;refine qb 0 Ty.cell35 hS1 ?_;refine qr (O_len Tryz.underlying35 rfl h0_1.ln) ?_;refine qm ?_;refine C_block ?_;refine C_loopM (fun (s : Int) E wq => ∃ (F3 : Frz), E = [(1, pl g1 0), (6, v0_1), (7, .i .i64 (x0.chunks.length : Int)), (8, .i .i64 s)] ∧ F.le F3 ∧ St [] w F F3 [.box g1 [.i .i64 x0.seq, v0_0, v0_1, v0_2, v0_3]] wq) H ?_ ?_
  ·exact ⟨_, ⟨F, rfl, (Frz.le.refl _), hS1⟩, ⟨rfl, rfl, rfl, rfl, trivial⟩⟩
  ·rintro rec5 i4 E w3 hI H
   try dsimp only at hI
   obtain ⟨F3, rfl, le3, hS3⟩ := hI;dsimp only [catalog_chunks.l2] at H;refine qs ?_;refine qr (O_bin rfl rfl bI_lss) ?_;refine qn ?_;refine C_seq ?_;refine C_cond rfl (fun hc6 => ?_) (fun hc6 => ?_)
   ·rw [if_t hc6] at H;refine qk ?_;refine C_seq ?_;refine C_block ?_;refine C_seq ?_;obtain ⟨x7, hx7, H⟩ := bd_some H;refine qd ?_;refine qc ?_;obtain ⟨hp10, hy10⟩ := ix_some hx7;obtain ⟨cs10, hr10, he10⟩ := (h0_1.mono le3).el hy10;obtain ⟨ue8_0, ue8_1, rfl, hle8_0, hue8_0, hue8_1⟩ := hr10;replace he10 : Elf _ _ 35 _ _ := he10;have hi10 := he10.ixd;refine qi Tryz.underlying35 Ty.size60 hi10 hp10 ?_;refine qr (O_ldg 0 (Chunk.cells x7 ue8_0 ue8_1) Ty.agg60 Ty.size60 rfl (he10.mono hS3.agree) (by omega) rfl (Nat.le_of_ble_eq_true rfl)) ?_;refine xm (E_alc (cs := idCells (List.replicate 32 (0 : UInt8)) ++ [.b false, .sl none 0 (.k 0), .sl none 0 (.k 0)]) Ty.zero60 rfl hS3) ?_;rintro _ w9 ⟨g9, rfl, hS9⟩;refine qc ?_;refine um (E_bst (c := idCells x7.id ++ [.b x7.staged, ue8_0, ue8_1]) 0 (idCells x7.id ++ [.b x7.staged, ue8_0, ue8_1]) rfl rfl hS9 rfl rfl Ty.size60 (by simp only [List.all_cons, List.all_nil, List.all_append, hue8_0.ln.one, hue8_1.ln.one]; rfl) rfl rfl) ?_;rintro _ w11 hS11;refine qn ?_;refine C_seq ?_;obtain ⟨x12, hx12, H⟩ := bd_some H;obtain ⟨r14, hr14, H⟩ := bd_some H;obtain ⟨r15, hr15, H⟩ := bd_some H;obtain ⟨r16, hr16, H⟩ := bd_some H;have hle13_0 : (x12.id).length = 32 := by
     rcases Bool.eq_false_or_eq_true (decide (0 < i4)) with hb17 | hb17
     ·have hy18 := hx12;rw [only_t hb17] at hy18;obtain ⟨hp19, hy19⟩ := ix_some hy18;obtain ⟨cs19, hr19, he19⟩ := (h0_1.mono le3).el hy19;obtain ⟨ue13_0, ue13_1, rfl, hle13_0, hue13_0, hue13_1⟩ := hr19;replace he19 : Elf _ _ 35 _ _ := he19;have hi19 := he19.ixd;exact hle13_0
     ·have hy := hx12;rw [only_f hb17] at hy;obtain rfl := oi hy
      rfl
    refine C_regionD (G := F3) [0, 1, 2, 3, 4, 5, 6, 7, 8, 9, 10, 11, 12, 13, 14, 15, 16, 17, 18, 19, 20, 21, 22, 23, 24, 25, 26, 27, 28, 29, 30, 31, 32, 33, 34, 35, 36, 37, 38, 39, 40, 41, 42, 43, 44, 45, 46, 47, 48, 49] rfl Ty.mixed (by kernel_rfl) hS11.agree ?_;refine qc ?_;refine qr (O_bin rfl rfl bI_gtr) ?_;refine qc ?_;refine W_gs (v := pl g1 (0 + 2)) rfl rfl rfl rfl (fun ⟨hb20, _⟩ => ?_) ?_
    ·rw [hb20];intro hK;refine qf Ty.field38_2 ?_;exact hK
    refine W_gs (v := v0_1) rfl rfl rfl rfl (fun ⟨hb21, _⟩ => ?_) ?_
    ·rw [hb21];intro hK;refine qbq 1 Ty.cell35 hS11 ?_;exact hK
    refine W_gs (v := .i .i64 i4) rfl rfl rfl rfl (fun ⟨hb22, _⟩ => ?_) ?_
    ·rw [hb22];intro hK;refine qc ?_;exact hK
    refine W_gs (v := .i .i64 (wr (i4 - 1))) rfl rfl rfl rfl (fun ⟨hb23, _⟩ => ?_) ?_
    ·rw [hb23];intro hK;refine qc ?_;exact hK
    refine W_gs (v := elp v0_1 ((wr (i4 - 1)).toNat * 35)) rfl rfl rfl rfl (fun ⟨hb24, _⟩ => ?_) ?_
    ·rw [hb24];intro hK;have hy25 := hx12;rw [only_t hb24] at hy25;obtain ⟨hp26, hy26⟩ := ix_some hy25;obtain ⟨cs26, hr26, he26⟩ := (h0_1.mono le3).el hy26;obtain ⟨ue13_0, ue13_1, rfl, hle13_0, hue13_0, hue13_1⟩ := hr26;replace he26 : Elf _ _ 35 _ _ := he26;have hi26 := he26.ixd;refine qi Tryz.underlying35 Ty.size60 hi26 hp26 ?_;exact hK
    refine W_gs (v := elp v0_1 (((wr (i4 - 1)).toNat * 35) + 0)) rfl rfl rfl rfl (fun ⟨hb27, _⟩ => ?_) ?_
    ·rw [hb27];intro hK;have hy28 := hx12;rw [only_t hb27] at hy28;obtain ⟨hp29, hy29⟩ := ix_some hy28;obtain ⟨cs29, hr29, he29⟩ := (h0_1.mono le3).el hy29;obtain ⟨ue13_0, ue13_1, rfl, hle13_0, hue13_0, hue13_1⟩ := hr29;replace he29 : Elf _ _ 35 _ _ := he29;have hi29 := he29.ixd;refine qr (O_fld 0 Ty.field60_0 rfl hi29) ?_;exact hK
    refine W_gs (v := .agg (idCells x12.id)) rfl rfl rfl rfl (fun ⟨hb30, _⟩ => ?_) ?_
    ·rw [hb30];intro hK;have hy31 := hx12;rw [only_t hb30] at hy31;obtain ⟨hp32, hy32⟩ := ix_some hy31;obtain ⟨cs32, hr32, he32⟩ := (h0_1.mono le3).el hy32;obtain ⟨ue13_0, ue13_1, rfl, hle13_0, hue13_0, hue13_1⟩ := hr32;replace he32 : Elf _ _ 35 _ _ := he32;have hi32 := he32.ixd;refine qq (O_ldg 0 (idCells x12.id) Ty.agg58 Ty.size58 rfl (he32.mono hS11.agree) (by omega) rfl (Nat.le_of_ble_eq_true rfl)) ?_;exact hK
    refine W_gs (v := pl g9 (0 + 0)) rfl rfl rfl rfl (fun ⟨hb33, _⟩ => ?_) ?_
    ·rw [hb33];intro hK;refine qf Ty.field60_0 ?_;exact hK
    refine W_gs (v := .agg (idCells x7.id)) rfl rfl rfl rfl (fun ⟨hb34, _⟩ => ?_) ?_
    ·rw [hb34];intro hK;refine qq (O_bldg 0 (idCells x7.id) Ty.agg58 Ty.size58 (Nat.zero_lt_succ _) rfl hS11 rfl (fun q u h => sub_at (post := [.b x7.staged, ue8_0, ue8_1]) rfl h)) ?_;exact hK
    obtain ⟨Q36, hQ36⟩ : ∃ Q : Hp → Prop, Q = fun wq => St [] w F F3 [.box g9 (idCells x7.id ++ [.b x7.staged, ue8_0, ue8_1]), .box g1 [.i .i64 x0.seq, v0_0, v0_1, v0_2, v0_3]] wq := ⟨_, rfl⟩;refine W_gw (v := .i .i64 r14) (Q := Q36) (by rw [hQ36]; exact hS11) rfl rfl rfl rfl (fun ⟨hb35, _⟩ => ?_) ?_
    ·rw [hb35];intro hK;have hy37 := hr14;rw [only_t hb35] at hy37;refine ql (catalog_order_ok hS11.good hle13_0 hle8_0 hy37) ?_;rintro v38 w38 ⟨Fr14, rfl, hT38⟩;have hS38 := hS11.lent hT38;exact hK _ (by rw [hQ36]; exact hS38)
    intro w39 hS39;rw [hQ36] at hS39;refine Nxt.frz (Frz.le.refl _) hS39.agree ?_;refine W_gs (v := .b (decide (0 ≤ r14))) rfl rfl rfl rfl (fun ⟨hb40, _⟩ => ?_) ?_
    ·rw [hb40];intro hK;refine qr (O_bin rfl rfl bI_geq) ?_;exact hK
    refine W_pkA rfl rfl rfl rfl rfl (fun hc => by rw [hc]; rfl) rfl ?_;refine qc ?_;refine W_gs (v := .agg (Catalog.cells x0 v0_0 v0_1 v0_2 v0_3)) rfl rfl rfl rfl (fun ⟨hb41, _⟩ => ?_) ?_
    ·rw [hb41];intro hK;refine qq (O_bldg 1 (Catalog.cells x0 v0_0 v0_1 v0_2 v0_3) Ty.agg38 Ty.size38 (Nat.zero_lt_succ _) rfl hS39 rfl (fun q u h => sub_at (post := []) rfl h)) ?_;exact hK
    refine W_gs (v := pl g9 (0 + 34)) rfl rfl rfl rfl (fun ⟨hb42, _⟩ => ?_) ?_
    ·rw [hb42];intro hK;refine qf Ty.field60_3 ?_;exact hK
    refine W_gs (v := ue8_1) rfl rfl rfl rfl (fun ⟨hb43, _⟩ => ?_) ?_
    ·rw [hb43];intro hK;refine qbq 0 Ty.cell44 hS39 ?_;exact hK
    obtain ⟨Q45, hQ45⟩ : ∃ Q : Hp → Prop, Q = fun wq => St [] w F F3 [.box g9 (idCells x7.id ++ [.b x7.staged, ue8_0, ue8_1]), .box g1 [.i .i64 x0.seq, v0_0, v0_1, v0_2, v0_3]] wq := ⟨_, rfl⟩;refine W_gw (v := .b r15) (Q := Q45) (by rw [hQ45]; exact hS39) rfl rfl rfl rfl (fun ⟨hb44, _⟩ => ?_) ?_
    ·rw [hb44];intro hK;have hy46 := hr15;rw [only_t (by first | rfl | (rw [hb44]; first | done | rfl) | simp [hb44])] at hy46;refine ql (catalog_locs_ok hS39.good (h0_0.mono le3) (h0_1.mono le3) (h0_2.mono le3) (h0_3.mono le3) hue8_1 hy46) ?_;rintro v47 w47 ⟨Fr15, rfl, hT47⟩;have hS47 := hS39.lent hT47;exact hK _ (by rw [hQ45]; exact hS47)
    intro w48 hS48;rw [hQ45] at hS48;refine Nxt.frz (Frz.le.refl _) hS48.agree ?_;refine W_gs (v := .b (!r15)) rfl rfl rfl rfl (fun ⟨hb49, _⟩ => ?_) ?_
    ·rw [hb49];intro hK;refine qc ?_;exact hK
    refine W_pkO rfl rfl rfl rfl rfl rfl (fun hc => by rw [hc]; rfl) ?_;refine qc ?_;refine W_gs (v := pl g9 (0 + 32)) rfl rfl rfl rfl (fun ⟨hb50, _⟩ => ?_) ?_
    ·rw [hb50];intro hK;refine qf Ty.field60_1 ?_;exact hK
    refine W_gs (v := .b x7.staged) rfl rfl rfl rfl (fun ⟨hb51, _⟩ => ?_) ?_
    ·rw [hb51];intro hK;refine qbq 0 Ty.cell4 hS48 ?_;exact hK
    refine W_gs (v := .b (!x7.staged)) rfl rfl rfl rfl (fun ⟨hb52, _⟩ => ?_) ?_
    ·rw [hb52];intro hK;refine qc ?_;exact hK
    refine W_gs (v := .b (!x7.staged)) rfl rfl rfl rfl (fun ⟨hb53, _⟩ => ?_) ?_
    ·rw [hb53];intro hK;refine qc ?_;exact hK
    refine W_gsc (v := pl g9 (0 + 33)) rfl rfl rfl rfl (fun ⟨hb54, hb55, _⟩ => ?_) ?_
    ·rw [hb54, hb55];intro hK;refine qf Ty.field60_2 ?_;exact hK
    refine W_gsc (v := ue8_0) rfl rfl rfl rfl (fun ⟨hb56, hb57, _⟩ => ?_) ?_
    ·rw [hb56, hb57];intro hK;refine qbq 0 Ty.cell47 hS48 ?_;exact hK
    refine W_gsc (v := .i .i64 (x7.data.length : Int)) rfl rfl rfl rfl (fun ⟨hb58, hb59, _⟩ => ?_) ?_
    ·rw [hb58, hb59];intro hK;refine qr (O_len Tryz.underlying47 rfl hue8_0.ln) ?_;exact hK
    refine W_gsc (v := .b (decide (0 < (x7.data.length : Int)))) rfl rfl rfl rfl (fun ⟨hb60, hb61, _⟩ => ?_) ?_
    ·rw [hb60, hb61];intro hK;refine qr (O_bin rfl rfl bI_gtr) ?_;exact hK
    refine W_gsc (v := .b (decide (0 < (x7.data.length : Int)))) rfl rfl rfl rfl (fun ⟨hb62, hb63, _⟩ => ?_) ?_
    ·rw [hb62, hb63];intro hK;refine qc ?_;exact hK
    refine W_gsc (v := pl g9 (0 + 34)) rfl rfl rfl rfl (fun ⟨hb64, hb65, hb66, _⟩ => ?_) ?_
    ·rw [hb64, hb66, hb65];intro hK;refine qf Ty.field60_3 ?_;exact hK
    refine W_gsc (v := ue8_1) rfl rfl rfl rfl (fun ⟨hb67, hb68, hb69, _⟩ => ?_) ?_
    ·rw [hb67, hb69, hb68];intro hK;refine qbq 0 Ty.cell44 hS48 ?_;exact hK
    refine W_gsc (v := .i .i64 (x7.locs.length : Int)) rfl rfl rfl rfl (fun ⟨hb70, hb71, hb72, _⟩ => ?_) ?_
    ·rw [hb70, hb72, hb71];intro hK;refine qr (O_len Tryz.underlying44 rfl hue8_1.ln) ?_;exact hK
    refine W_gsc (v := .b (decide ((x7.locs.length : Int) = 0))) rfl rfl rfl rfl (fun ⟨hb73, hb74, hb75, _⟩ => ?_) ?_
    ·rw [hb73, hb75, hb74];intro hK;refine qr (O_bin rfl rfl bI_eql) ?_;exact hK
    refine W_gsc (v := .b (decide (0 < (x7.data.length : Int)) || decide ((x7.locs.length : Int) = 0))) rfl rfl rfl rfl (fun ⟨hb76, hb77, _⟩ => ?_) ?_
    ·rw [hb76, hb77];intro hK;refine W_pkO rfl rfl rfl rfl rfl rfl (fun hc => by rw [hc]; rfl) ?_;exact hK
    refine W_gs (v := .b ((!x7.staged) && (decide (0 < (x7.data.length : Int)) || decide ((x7.locs.length : Int) = 0)))) rfl rfl rfl rfl (fun ⟨hb78, _⟩ => ?_) ?_
    ·rw [hb78];intro hK;refine W_pkA rfl rfl rfl rfl rfl (fun hc => by rw [hc]; rfl) rfl ?_;exact hK
    refine W_pkO rfl rfl rfl rfl rfl rfl (fun hc => by rw [hc]; rfl) ?_;refine qc ?_;refine W_gs (v := pl g9 (0 + 32)) rfl rfl rfl rfl (fun ⟨hb79, _⟩ => ?_) ?_
    ·rw [hb79];intro hK;refine qf Ty.field60_1 ?_;exact hK
    refine W_gs (v := .b x7.staged) rfl rfl rfl rfl (fun ⟨hb80, _⟩ => ?_) ?_
    ·rw [hb80];intro hK;refine qbq 0 Ty.cell4 hS48 ?_;exact hK
    refine W_gs (v := .b x7.staged) rfl rfl rfl rfl (fun ⟨hb81, _⟩ => ?_) ?_
    ·rw [hb81];intro hK;refine qc ?_;exact hK
    refine W_gsc (v := pl g9 (0 + 33)) rfl rfl rfl rfl (fun ⟨hb82, hb83, _⟩ => ?_) ?_
    ·rw [hb82, hb83];intro hK;refine qf Ty.field60_2 ?_;exact hK
    refine W_gsc (v := ue8_0) rfl rfl rfl rfl (fun ⟨hb84, hb85, _⟩ => ?_) ?_
    ·rw [hb84, hb85];intro hK;refine qbq 0 Ty.cell47 hS48 ?_;exact hK
    refine W_gsc (v := .i .i64 (x7.data.length : Int)) rfl rfl rfl rfl (fun ⟨hb86, hb87, _⟩ => ?_) ?_
    ·rw [hb86, hb87];intro hK;refine qr (O_len Tryz.underlying47 rfl hue8_0.ln) ?_;exact hK
    obtain ⟨Q90, hQ90⟩ : ∃ Q : Hp → Prop, Q = fun wq => St [] w F F3 [.box g9 (idCells x7.id ++ [.b x7.staged, ue8_0, ue8_1]), .box g1 [.i .i64 x0.seq, v0_0, v0_1, v0_2, v0_3]] wq := ⟨_, rfl⟩;refine W_gwc (v := .b r16) (Q := Q90) (by rw [hQ90]; exact hS48) rfl rfl rfl rfl (fun ⟨hb88, hb89, _⟩ => ?_) ?_
    ·rw [hb88, hb89];intro hK;have hy91 := hr16;rw [only_t (by first | rfl | (rw [hb88, hb89]; first | done | rfl) | simp [hb88, hb89])] at hy91;refine ql (catalog_in_ok hS48.good hy91) ?_;rintro v92 w92 ⟨Fr16, rfl, hT92⟩;have hS92 := hS48.lent hT92;exact hK _ (by rw [hQ90]; exact hS92)
    intro w93 hS93;rw [hQ90] at hS93;refine Nxt.frz (Frz.le.refl _) hS93.agree ?_;refine W_gsc (v := .b (!r16)) rfl rfl rfl rfl (fun ⟨hb94, hb95, _⟩ => ?_) ?_
    ·rw [hb94, hb95];intro hK;refine qc ?_;exact hK
    refine W_gs (v := .b (x7.staged && (!r16))) rfl rfl rfl rfl (fun ⟨hb96, _⟩ => ?_) ?_
    ·rw [hb96];intro hK;refine W_pkA rfl rfl rfl rfl rfl (fun hc => by rw [hc]; rfl) rfl ?_;exact hK
    refine W_pkO rfl rfl rfl rfl rfl rfl (fun hc => by rw [hc]; rfl) ?_;refine qn ?_;refine C_cond rfl (fun hc97 => ?_) (fun hc97 => ?_)
    ·rw [if_t hc97] at H;refine qs ?_;refine qm ?_;obtain rfl := oi H;refine C_ret rfl rfl ?_;exact ⟨F3, rfl, hS93.pick [] (by decide)⟩
    ·rw [if_f hc97] at H;refine C_skip ?_;refine N_block ?_;refine N_code ?_;refine qd ?_;refine q2 ?_;refine W_nil ?_;exact N_againM (wr (i4 + 1)) _ H ⟨F3, rfl, le3, hS93.pick [1] (by decide)⟩ ⟨rfl, rfl, rfl, rfl, trivial⟩
   ·rw [if_f hc6] at H;refine C_exit _ rfl ?_;exact N_join _ ⟨H, ⟨F3, rfl, le3, hS3⟩⟩ ⟨rfl, trivial⟩
 ·rintro E w2 ⟨H, F2, rfl, le2, hS2⟩;dsimp only [catalog_chunks.k1] at H;refine qs ?_;refine qf Ty.field38_2 ?_;refine qb 0 Ty.cell35 hS2 ?_;refine qr (O_len Tryz.underlying35 rfl h0_1.ln) ?_;refine qr (O_bin rfl rfl bI_leq) ?_;refine qm ?_;obtain rfl := oi H;refine C_ret rfl rfl ?_;exact ⟨F2, rfl, hS2.pick [] (by decide)⟩
def catalog_snaps.k1 (x0 : Catalog) : Option Bool :=
  some (decide ((x0.snaps.length : Int) ≤ 8))
def catalog_snaps.k3 (i5 : Int) (rec7 : (Int × ((List UInt8) → Option Bool)) → Option Bool) (m10 : (List UInt8) → Option Bool) : Option Bool :=
  rec7 (wr (i5 + 1), m10)
def catalog_snaps.k5 (i78 : Int) (rec79 : Int → Option Bool) : Option Bool :=
  rec79 (wr (i78 + 1))
def catalog_snaps.l6 (x0 : Catalog) (i78 : Int) (rec79 : Int → Option Bool) (x82 : Part) (rec89 : Int → Option Bool) : Int → Option Bool
  | i88 =>
    if decide (i88 < (x82.ids.length : Int)) then
      bd (ix x82.ids i88) fun x91 =>
      bd (catalog_Place x0.chunks x91) fun r96 =>
      if (!r96.2) then
        some false
      else
        rec89 (wr (i88 + 1))
    else
      catalog_snaps.k5 i78 rec79
def catalog_snaps.l4 (x0 : Catalog) (i5 : Int) (m6 : (List UInt8) → Option Bool) (rec7 : (Int × ((List UInt8) → Option Bool)) → Option Bool) (x11 : Snap) (rec79 : Int → Option Bool) : Int → Option Bool
  | i78 =>
    if decide (i78 < (x11.man.parts.length : Int)) then
      bd (ix x11.man.parts i78) fun x82 =>
      loop (catalog_snaps.l6 x0 i78 rec79 x82) 0
    else
      catalog_snaps.k3 i5 rec7 (mput m6 x11.man.name true)
def catalog_snaps.l2 (x0 : Catalog) (rec7 : (Int × ((List UInt8) → Option Bool)) → Option Bool) : (Int × ((List UInt8) → Option Bool)) → Option Bool
  | (i5, m6) =>
    if decide (i5 < (x0.snaps.length : Int)) then
      bd (ix x0.snaps i5) fun x11 =>
      bd (catalog_in x11.seq 0 (wr (x0.seq - 1))) fun r16 =>
      bd (only ((!(!r16)) && decide (0 < i5)) (ix x0.snaps (wr (i5 - 1))) (Snap.mk 0 (Manifest.mk [] []) [])) fun x17 =>
      bd (only (!(((!r16) || (decide (0 < i5) && decide (x11.seq ≤ x17.seq))) || ((m6 x11.man.name).getD false))) (manifest_Check x11.man) 0) fun r20 =>
      bd (only (!((((!r16) || (decide (0 < i5) && decide (x11.seq ≤ x17.seq))) || ((m6 x11.man.name).getD false)) || decide (r20 ≠ 0))) (catalog_locs x0 x11.locs) false) fun r21 =>
      if (((((!r16) || (decide (0 < i5) && decide (x11.seq ≤ x17.seq))) || ((m6 x11.man.name).getD false)) || decide (r20 ≠ 0)) || (!r21)) then
        some false
      else
        loop (catalog_snaps.l4 x0 i5 m6 rec7 x11) 0
    else
      catalog_snaps.k1 x0
def catalog_snaps (x0 : Catalog) : Option Bool :=
  loop (catalog_snaps.l2 x0) (0, (mnil : (List UInt8) → Option Bool))
set_option maxRecDepth 100000 in
set_option maxHeartbeats 2000000 in
theorem catalog_snaps_ok {K : Tb} [Kn (KExt Tryz.prog) K] {F : Frz} {w : Hp} {x0 : Catalog} {r : Bool} {v0_0 : Val} {v0_1 : Val} {v0_2 : Val} {v0_3 : Val} (hA : Gd F w) (h0_0 : SlF Snap.t F v0_0 x0.snaps) (h0_1 : SlF Chunk.t F v0_1 x0.chunks) (h0_2 : SlF Exp.t F v0_2 x0.exps) (h0_3 : SlF Vol.t F v0_3 x0.vols) (H : catalog_snaps x0 = some r) : Ret Tryz.prog K 79 [.agg (Catalog.cells x0 v0_0 v0_1 v0_2 v0_3)] w fun v w' => ∃ (F' : Frz), v = .b r ∧ St [] w F F' [] w' := by
 refine qa1 Tryz.func79 ?_;have hS := St.start hA;dsimp only [catalog_snaps] at H;refine qs ?_;refine xm (E_bx (cs := [.i .i64 x0.seq, v0_0, v0_1, v0_2, v0_3]) rfl rfl (by simp only [List.all_cons, List.all_nil, List.all_append, h0_0.ln.one, h0_1.ln.one, h0_2.ln.one, h0_3.ln.one]; rfl) hS) ?_;rintro _ w1 ⟨g1, rfl, hS1⟩;refine qm ?_;refine qs ?_;refine xm (E_mkmap kS (.of .b) hS1) ?_;rintro _ w2 ⟨g2, rfl, hS2⟩;refine qm ?_;refine C_seq_join (fun E wq => catalog_snaps.k1 x0 = some r ∧ ∃ (F3 : Frz), E = [(1, pl g1 0)] ∧ F.le F3 ∧ St [] w F F3 [.box g1 [.i .i64 x0.seq, v0_0, v0_1, v0_2, v0_3]] wq) ?_ ?_
 ·refine qs ?_;refine qf Ty.field38_1 ?_;refine qb 1 Ty.cell34 hS2 ?_;refine qr (O_len Tryz.underlying34 rfl h0_0.ln) ?_;refine qm ?_;refine C_block ?_;refine C_loopM (fun (s : Int × ((List UInt8) → Option Bool)) E wq => ∃ (F4 : Frz), E = [(1, pl g1 0), (3, .m (some g2)), (14, v0_0), (15, .i .i64 (x0.snaps.length : Int)), (16, .i .i64 s.1)] ∧ F.le F4 ∧ St [] w F F4 [.map kS (.of .b) g2 s.2, .box g1 [.i .i64 x0.seq, v0_0, v0_1, v0_2, v0_3]] wq) H ?_ ?_
  ·exact ⟨_, ⟨F, rfl, (Frz.le.refl _), hS2⟩, ⟨rfl, rfl, rfl, rfl, rfl, trivial⟩⟩
  ·rintro rec7 ⟨i5, m6⟩ E w4 hI H
   try dsimp only at hI
   obtain ⟨F4, rfl, le4, hS4⟩ := hI;dsimp only [catalog_snaps.l2] at H;refine qs ?_;refine qr (O_bin rfl rfl bI_lss) ?_;refine qn ?_;refine C_seq ?_;refine C_cond rfl (fun hc8 => ?_) (fun hc8 => ?_)
   ·rw [if_t hc8] at H;refine qk ?_;refine C_seq_join (fun E wq => ∃ m10 : (List UInt8) → Option Bool, catalog_snaps.k3 i5 rec7 m10 = some r ∧ ∃ (F9 : Frz), E = [(1, pl g1 0), (3, .m (some g2)), (14, v0_0), (15, .i .i64 (x0.snaps.length : Int)), (16, .i .i64 i5)] ∧ F4.le F9 ∧ St [] w F F9 [.map kS (.of .b) g2 m10, .box g1 [.i .i64 x0.seq, v0_0, v0_1, v0_2, v0_3]] wq) ?_ ?_
    ·refine C_block ?_;refine C_seq ?_;obtain ⟨x11, hx11, H⟩ := bd_some H;refine qd ?_;refine qc ?_;obtain ⟨hp14, hy14⟩ := ix_some hx11;obtain ⟨cs14, hr14, he14⟩ := (h0_0.mono le4).el hy14;obtain ⟨ue12_0, ue12_1, rfl, hue12_0, hue12_1⟩ := hr14;replace he14 : Elf _ _ 4 _ _ := he14;have hi14 := he14.ixd;refine qi Tryz.underlying34 Ty.size46 hi14 hp14 ?_;refine qr (O_ldg 0 (Snap.cells x11 ue12_0 ue12_1) Ty.agg46 Ty.size46 rfl (he14.mono hS4.agree) (by omega) rfl (Nat.le_of_ble_eq_true rfl)) ?_;refine xm (E_alc (cs := [.i .i64 0, .s [], .sl none 0 (.k 0), .sl none 0 (.k 0)]) Ty.zero46 rfl hS4) ?_;rintro _ w13 ⟨g13, rfl, hS13⟩;refine qc ?_;refine um (E_bst (c := [.i .i64 x11.seq, .s x11.man.name, ue12_0, ue12_1]) 0 ([.i .i64 x11.seq, .s x11.man.name, ue12_0, ue12_1]) rfl rfl hS13 rfl rfl Ty.size46 (by simp only [List.all_cons, List.all_nil, List.all_append, hue12_0.ln.one, hue12_1.ln.one]; rfl) rfl rfl) ?_;rintro _ w15 hS15;refine qn ?_;refine C_seq ?_;refine C_seq ?_;obtain ⟨r16, hr16, H⟩ := bd_some H;obtain ⟨x17, hx17, H⟩ := bd_some H;obtain ⟨r20, hr20, H⟩ := bd_some H;obtain ⟨r21, hr21, H⟩ := bd_some H;refine C_regionD (G := F4) [0, 1, 2, 3, 4, 5, 6, 7, 8, 9, 10, 11, 12, 13, 14, 15, 16, 17, 18, 19, 20, 21, 22, 23, 24, 25, 26, 27, 28, 29, 30, 31, 32, 33, 34, 35, 36, 37, 38, 39, 40, 41, 42] rfl Ty.mixed (by kernel_rfl) hS15.agree ?_;refine qf Ty.field46_0 ?_;refine qbq 0 Ty.cell3 hS15 ?_;refine qf Ty.field38_0 ?_;refine qbq 2 Ty.cell3 hS15 ?_;refine qc ?_;refine ql (catalog_in_ok hS15.good hr16) ?_;rintro v22 w22 ⟨Fr16, rfl, hT22⟩;have hS22 := hS15.lent hT22;refine Nxt.frz (Frz.le.refl _) hS22.agree ?_;refine q2 ?_;refine W_gs (v := .i .i64 i5) rfl rfl rfl rfl (fun ⟨hb23, _⟩ => ?_) ?_
     ·rw [hb23];intro hK;refine qc ?_;exact hK
     refine W_gs (v := .b (decide (0 < i5))) rfl rfl rfl rfl (fun ⟨hb24, _⟩ => ?_) ?_
     ·rw [hb24];intro hK;refine qr (O_bin rfl rfl bI_gtr) ?_;exact hK
     refine W_gs (v := .b (decide (0 < i5))) rfl rfl rfl rfl (fun ⟨hb25, _⟩ => ?_) ?_
     ·rw [hb25];intro hK;refine qc ?_;exact hK
     refine W_gsc (v := pl g1 (0 + 1)) rfl rfl rfl rfl (fun ⟨hb26, hb27, _⟩ => ?_) ?_
     ·rw [hb27, hb26];intro hK;refine qf Ty.field38_1 ?_;exact hK
     refine W_gsc (v := v0_0) rfl rfl rfl rfl (fun ⟨hb28, hb29, _⟩ => ?_) ?_
     ·rw [hb29, hb28];intro hK;refine qbq 2 Ty.cell34 hS22 ?_;exact hK
     refine W_gsc (v := .i .i64 i5) rfl rfl rfl rfl (fun ⟨hb30, hb31, _⟩ => ?_) ?_
     ·rw [hb31, hb30];intro hK;refine qc ?_;exact hK
     refine W_gsc (v := .i .i64 (wr (i5 - 1))) rfl rfl rfl rfl (fun ⟨hb32, hb33, _⟩ => ?_) ?_
     ·rw [hb33, hb32];intro hK;refine qc ?_;exact hK
     refine W_gsc (v := elp v0_0 ((wr (i5 - 1)).toNat * 4)) rfl rfl rfl rfl (fun ⟨hb34, hb35, _⟩ => ?_) ?_
     ·rw [hb35, hb34];intro hK;have hy36 := hx17;rw [only_t (by first | rfl | (rw [hb35, hb34]; first | done | rfl) | simp [hb34, hb35])] at hy36;obtain ⟨hp37, hy37⟩ := ix_some hy36;obtain ⟨cs37, hr37, he37⟩ := (h0_0.mono le4).el hy37;obtain ⟨ue18_0, ue18_1, rfl, hue18_0, hue18_1⟩ := hr37;replace he37 : Elf _ _ 4 _ _ := he37;have hi37 := he37.ixd;refine qi Tryz.underlying34 Ty.size46 hi37 hp37 ?_;exact hK
     refine W_gsc (v := elp v0_0 (((wr (i5 - 1)).toNat * 4) + 0)) rfl rfl rfl rfl (fun ⟨hb38, hb39, _⟩ => ?_) ?_
     ·rw [hb39, hb38];intro hK;have hy40 := hx17;rw [only_t (by first | rfl | (rw [hb39, hb38]; first | done | rfl) | simp [hb38, hb39])] at hy40;obtain ⟨hp41, hy41⟩ := ix_some hy40;obtain ⟨cs41, hr41, he41⟩ := (h0_0.mono le4).el hy41;obtain ⟨ue18_0, ue18_1, rfl, hue18_0, hue18_1⟩ := hr41;replace he41 : Elf _ _ 4 _ _ := he41;have hi41 := he41.ixd;refine qr (O_fld 0 Ty.field46_0 rfl hi41) ?_;exact hK
     refine W_gsc (v := .i .i64 x17.seq) rfl rfl rfl rfl (fun ⟨hb42, hb43, _⟩ => ?_) ?_
     ·rw [hb43, hb42];intro hK;have hy44 := hx17;rw [only_t (by first | rfl | (rw [hb43, hb42]; first | done | rfl) | simp [hb42, hb43])] at hy44;obtain ⟨hp45, hy45⟩ := ix_some hy44;obtain ⟨cs45, hr45, he45⟩ := (h0_0.mono le4).el hy45;obtain ⟨ue18_0, ue18_1, rfl, hue18_0, hue18_1⟩ := hr45;replace he45 : Elf _ _ 4 _ _ := he45;have hi45 := he45.ixd;refine qq (O_ld1 0 Ty.cell3 rfl (he45.mono hS22.agree) (by omega) rfl) ?_;exact hK
     refine W_gsc (v := pl g13 (0 + 0)) rfl rfl rfl rfl (fun ⟨hb46, hb47, _⟩ => ?_) ?_
     ·rw [hb47, hb46];intro hK;refine qf Ty.field46_0 ?_;exact hK
     refine W_gsc (v := .i .i64 x11.seq) rfl rfl rfl rfl (fun ⟨hb48, hb49, _⟩ => ?_) ?_
     ·rw [hb49, hb48];intro hK;refine qbq 0 Ty.cell3 hS22 ?_;exact hK
     refine W_gsc (v := .b (decide (x11.seq ≤ x17.seq))) rfl rfl rfl rfl (fun ⟨hb50, hb51, _⟩ => ?_) ?_
     ·rw [hb51, hb50];intro hK;refine qr (O_bin rfl rfl bI_geq) ?_;exact hK
     refine W_gs (v := .b (decide (0 < i5) && decide (x11.seq ≤ x17.seq))) rfl rfl rfl rfl (fun ⟨hb52, _⟩ => ?_) ?_
     ·rw [hb52];intro hK;refine W_pkA rfl rfl rfl rfl rfl (fun hc => by rw [hc]; rfl) rfl ?_;exact hK
     refine W_pkO rfl rfl rfl rfl rfl rfl (fun hc => by rw [hc]; rfl) ?_;refine qc ?_;refine W_gs (v := .m (some g2)) rfl rfl rfl rfl (fun ⟨hb53, _⟩ => ?_) ?_
     ·rw [hb53];intro hK;refine qc ?_;exact hK
     refine W_gs (v := pl g13 (0 + 1)) rfl rfl rfl rfl (fun ⟨hb54, _⟩ => ?_) ?_
     ·rw [hb54];intro hK;refine qf Ty.field46_1 ?_;exact hK
     refine W_gs (v := pl g13 (0 + 1 + 0)) rfl rfl rfl rfl (fun ⟨hb55, _⟩ => ?_) ?_
     ·rw [hb55];intro hK;refine qf Ty.field43_0 ?_;exact hK
     refine W_gs (v := .s x11.man.name) rfl rfl rfl rfl (fun ⟨hb56, _⟩ => ?_) ?_
     ·rw [hb56];intro hK;refine qbq 0 Ty.cell9 hS22 ?_;exact hK
     refine W_gs (v := .b ((m6 x11.man.name).getD false)) rfl rfl rfl rfl (fun ⟨hb57, _⟩ => ?_) ?_
     ·rw [hb57];intro hK;refine W_h (.inr (by kernel_rfl)) rfl rfl rfl (O_look (enc := .b) 1 x11.man.name false Tryz.underlying188 (keyS Tryz.underlying9) Ty.zv4 rfl rfl hS22 rfl) ?_;exact hK
     refine W_pkO rfl rfl rfl rfl rfl rfl (fun hc => by rw [hc]; rfl) ?_;refine qc ?_;refine W_gs (v := pl g13 (0 + 1)) rfl rfl rfl rfl (fun ⟨hb58, _⟩ => ?_) ?_
     ·rw [hb58];intro hK;refine qf Ty.field46_1 ?_;exact hK
     refine W_gs (v := .agg (Manifest.cells x11.man ue12_0)) rfl rfl rfl rfl (fun ⟨hb59, _⟩ => ?_) ?_
     ·rw [hb59];intro hK;refine qq (O_bldg 0 (Manifest.cells x11.man ue12_0) Ty.agg43 Ty.size43 (Nat.zero_lt_succ _) rfl hS22 rfl (fun q u h => sub_at (post := [ue12_1]) rfl h)) ?_;exact hK
     obtain ⟨Q61, hQ61⟩ : ∃ Q : Hp → Prop, Q = fun wq => St [] w F F4 [.box g13 [.i .i64 x11.seq, .s x11.man.name, ue12_0, ue12_1], .map kS (.of .b) g2 m6, .box g1 [.i .i64 x0.seq, v0_0, v0_1, v0_2, v0_3]] wq := ⟨_, rfl⟩;refine W_gw (v := .i .i64 r20) (Q := Q61) (by rw [hQ61]; exact hS22) rfl rfl rfl rfl (fun ⟨hb60, _⟩ => ?_) ?_
     ·rw [hb60];intro hK;have hy62 := hr20;rw [only_t (by first | rfl | (rw [hb60]; first | done | rfl) | simp [hb60])] at hy62;refine ql (manifest_Check_ok hS22.good hue12_0 hy62) ?_;rintro v63 w63 ⟨Fr20, rfl, hT63⟩;have hS63 := hS22.lent hT63;exact hK _ (by rw [hQ61]; exact hS63)
     intro w64 hS64;rw [hQ61] at hS64;refine Nxt.frz (Frz.le.refl _) hS64.agree ?_;refine W_gs (v := .b (decide (r20 ≠ 0))) rfl rfl rfl rfl (fun ⟨hb65, _⟩ => ?_) ?_
     ·rw [hb65];intro hK;refine qr (O_bin rfl rfl bI_neq) ?_;exact hK
     refine W_pkO rfl rfl rfl rfl rfl rfl (fun hc => by rw [hc]; rfl) ?_;refine qc ?_;refine W_gs (v := .agg (Catalog.cells x0 v0_0 v0_1 v0_2 v0_3)) rfl rfl rfl rfl (fun ⟨hb66, _⟩ => ?_) ?_
     ·rw [hb66];intro hK;refine qq (O_bldg 2 (Catalog.cells x0 v0_0 v0_1 v0_2 v0_3) Ty.agg38 Ty.size38 (Nat.zero_lt_succ _) rfl hS64 rfl (fun q u h => sub_at (post := []) rfl h)) ?_;exact hK
     refine W_gs (v := pl g13 (0 + 3)) rfl rfl rfl rfl (fun ⟨hb67, _⟩ => ?_) ?_
     ·rw [hb67];intro hK;refine qf Ty.field46_2 ?_;exact hK
     refine W_gs (v := ue12_1) rfl rfl rfl rfl (fun ⟨hb68, _⟩ => ?_) ?_
     ·rw [hb68];intro hK;refine qbq 0 Ty.cell44 hS64 ?_;exact hK
     obtain ⟨Q70, hQ70⟩ : ∃ Q : Hp → Prop, Q = fun wq => St [] w F F4 [.box g13 [.i .i64 x11.seq, .s x11.man.name, ue12_0, ue12_1], .map kS (.of .b) g2 m6, .box g1 [.i .i64 x0.seq, v0_0, v0_1, v0_2, v0_3]] wq := ⟨_, rfl⟩;refine W_gw (v := .b r21) (Q := Q70) (by rw [hQ70]; exact hS64) rfl rfl rfl rfl (fun ⟨hb69, _⟩ => ?_) ?_
     ·rw [hb69];intro hK;have hy71 := hr21;rw [only_t (by first | rfl | (rw [hb69]; first | done | rfl) | simp [hb69])] at hy71;refine ql (catalog_locs_ok hS64.good (h0_0.mono le4) (h0_1.mono le4) (h0_2.mono le4) (h0_3.mono le4) hue12_1 hy71) ?_;rintro v72 w72 ⟨Fr21, rfl, hT72⟩;have hS72 := hS64.lent hT72;exact hK _ (by rw [hQ70]; exact hS72)
     intro w73 hS73;rw [hQ70] at hS73;refine Nxt.frz (Frz.le.refl _) hS73.agree ?_;refine W_gs (v := .b (!r21)) rfl rfl rfl rfl (fun ⟨hb74, _⟩ => ?_) ?_
     ·rw [hb74];intro hK;refine qc ?_;exact hK
     refine W_pkO rfl rfl rfl rfl rfl rfl (fun hc => by rw [hc]; rfl) ?_;refine qn ?_;refine C_cond rfl (fun hc75 => ?_) (fun hc75 => ?_)
     ·rw [if_t hc75] at H;refine qs ?_;refine qm ?_;obtain rfl := oi H;refine C_ret rfl rfl ?_;exact ⟨F4, rfl, hS73.pick [] (by decide)⟩
     ·rw [if_f hc75] at H;refine qk ?_;refine qs ?_;refine qc ?_;refine qf Ty.field46_1 ?_;refine qf Ty.field43_0 ?_;refine qb 0 Ty.cell9 hS73 ?_;refine um (E_mput 1 x11.man.name true Tryz.underlying188 (keyS Tryz.underlying9) rfl rfl rfl rfl hS73 rfl) ?_;rintro _ w76 hS76;refine qn ?_;refine qs ?_;refine qf Ty.field46_1 ?_;refine qf Ty.field43_1 ?_;refine qb 0 Ty.cell41 hS76 ?_;refine qr (O_len Tryz.underlying41 rfl hue12_0.ln) ?_;refine qm ?_;refine C_block ?_;refine C_loopM (fun (s : Int) E wq => ∃ (F77 : Frz), E = [(1, pl g1 0), (3, .m (some g2)), (14, v0_0), (15, .i .i64 (x0.snaps.length : Int)), (16, .i .i64 i5), (70, ue12_0), (71, .i .i64 (x11.man.parts.length : Int)), (72, .i .i64 s)] ∧ F4.le F77 ∧ St [] w F F77 [.map kS (.of .b) g2 (mput m6 x11.man.name true), .box g1 [.i .i64 x0.seq, v0_0, v0_1, v0_2, v0_3]] wq) H ?_ ?_
      ·exact ⟨_, ⟨F4, rfl, (Frz.le.refl _), hS76.pick [1, 2] (by decide)⟩, ⟨rfl, rfl, rfl, rfl, rfl, rfl, rfl, rfl, trivial⟩⟩
      ·rintro rec79 i78 E w77 hI H
       try dsimp only at hI
       obtain ⟨F77, rfl, le77, hS77⟩ := hI;dsimp only [catalog_snaps.l4] at H;refine qs ?_;refine qr (O_bin rfl rfl bI_lss) ?_;refine qn ?_;refine C_seq ?_;refine C_cond rfl (fun hc80 => ?_) (fun hc80 => ?_)
       ·rw [if_t hc80] at H;refine qk ?_;refine C_seq_join (fun E wq => catalog_snaps.k5 i78 rec79 = some r ∧ ∃ (F81 : Frz), E = [(1, pl g1 0), (3, .m (some g2)), (14, v0_0), (15, .i .i64 (x0.snaps.length : Int)), (16, .i .i64 i5), (70, ue12_0), (71, .i .i64 (x11.man.parts.length : Int)), (72, .i .i64 i78)] ∧ F77.le F81 ∧ St [] w F F81 [.map kS (.of .b) g2 (mput m6 x11.man.name true), .box g1 [.i .i64 x0.seq, v0_0, v0_1, v0_2, v0_3]] wq) ?_ ?_
        ·refine C_block ?_;refine C_seq ?_;obtain ⟨x82, hx82, H⟩ := bd_some H;refine qd ?_;obtain ⟨hp85, hy85⟩ := ix_some hx82;obtain ⟨cs85, hr85, he85⟩ := (hue12_0.mono le77).el hy85;obtain ⟨ue83_0, rfl, hue83_0⟩ := hr85;replace he85 : Elf _ _ 3 _ _ := he85;have hi85 := he85.ixd;refine qi Tryz.underlying41 Ty.size138 hi85 hp85 ?_;refine qr (O_ldg 0 (Part.cells x82 ue83_0) Ty.agg138 Ty.size138 rfl (he85.mono hS77.agree) (by omega) rfl (Nat.le_of_ble_eq_true rfl)) ?_;refine xm (E_alc (cs := [.s [], .i .i64 0, .sl none 0 (.k 0)]) Ty.zero138 rfl hS77) ?_;rintro _ w84 ⟨g84, rfl, hS84⟩;refine um (E_bst (c := [.s x82.path, .i .i64 x82.size, ue83_0]) 0 ([.s x82.path, .i .i64 x82.size, ue83_0]) rfl rfl hS84 rfl rfl Ty.size138 (by simp only [List.all_cons, List.all_nil, List.all_append, hue83_0.ln.one]; rfl) rfl rfl) ?_;rintro _ w86 hS86;refine qn ?_;refine qs ?_;refine qf Ty.field138_2 ?_;refine qb 0 Ty.cell118 hS86 ?_;refine qr (O_len Tryz.underlying118 rfl hue83_0.ln) ?_;refine qm ?_;refine C_block ?_;refine C_loopM (fun (s : Int) E wq => ∃ (F87 : Frz), E = [(1, pl g1 0), (3, .m (some g2)), (14, v0_0), (15, .i .i64 (x0.snaps.length : Int)), (16, .i .i64 i5), (70, ue12_0), (71, .i .i64 (x11.man.parts.length : Int)), (72, .i .i64 i78), (77, ue83_0), (78, .i .i64 (x82.ids.length : Int)), (79, .i .i64 s)] ∧ F77.le F87 ∧ St [] w F F87 [.map kS (.of .b) g2 (mput m6 x11.man.name true), .box g1 [.i .i64 x0.seq, v0_0, v0_1, v0_2, v0_3]] wq) H ?_ ?_
         ·exact ⟨_, ⟨F77, rfl, (Frz.le.refl _), hS86.pick [1, 2] (by decide)⟩, ⟨rfl, rfl, rfl, rfl, rfl, rfl, rfl, rfl, rfl, rfl, rfl, trivial⟩⟩
         ·rintro rec89 i88 E w87 hI H
          try dsimp only at hI
          obtain ⟨F87, rfl, le87, hS87⟩ := hI;dsimp only [catalog_snaps.l6] at H;refine qs ?_;refine qr (O_bin rfl rfl bI_lss) ?_;refine qn ?_;refine C_seq ?_;refine C_cond rfl (fun hc90 => ?_) (fun hc90 => ?_)
          ·rw [if_t hc90] at H;refine qk ?_;refine C_seq ?_;refine C_block ?_;refine C_seq ?_;obtain ⟨x91, hx91, H⟩ := bd_some H;refine qd ?_;obtain ⟨hp94, hy94⟩ := ix_some hx91;obtain ⟨cs94, hr94, he94⟩ := (hue83_0.mono le87).el hy94;obtain ⟨rfl, hle92⟩ := hr94;replace he94 : Elf _ _ 32 _ _ := he94;have hi94 := he94.ixd;refine qi Tryz.underlying118 Ty.size58 hi94 hp94 ?_;refine qr (O_ldg 0 (idCells x91) Ty.agg58 Ty.size58 rfl (he94.mono hS87.agree) (by omega) rfl (Nat.le_of_ble_eq_true rfl)) ?_;refine xm (E_alc (cs := idCells (List.replicate 32 (0 : UInt8))) Ty.zero58 rfl hS87) ?_;rintro _ w93 ⟨g93, rfl, hS93⟩;refine um (E_bst (c := idCells x91) 0 (idCells x91) rfl rfl hS93 rfl rfl Ty.size58 rfl rfl rfl) ?_;rintro _ w95 hS95;refine qn ?_;refine C_seq ?_;obtain ⟨r96, hr96, H⟩ := bd_some H;refine qd ?_;refine qf Ty.field38_2 ?_;refine qb 2 Ty.cell35 hS95 ?_;refine qr (O_bldg 0 (idCells x91) Ty.agg58 Ty.size58 (Nat.zero_lt_succ _) rfl hS95 rfl (fun q u h => sub_at (post := []) rfl h)) ?_;refine lm (catalog_Place_ok hS95.good (h0_1.mono ((le4.trans le77).trans le87)) hle92 hr96) ?_;rintro v97 w97 ⟨Fr96, rfl, hT97⟩;have hS97 := hS95.lent hT97;refine q4 ?_;refine qm ?_;refine qs ?_;refine qc ?_;refine qm ?_;refine C_cond rfl (fun hc98 => ?_) (fun hc98 => ?_)
           ·rw [if_t hc98] at H;refine qs ?_;refine qm ?_;obtain rfl := oi H;refine C_ret rfl rfl ?_;exact ⟨F87, rfl, hS97.pick [] (by decide)⟩
           ·rw [if_f hc98] at H;refine C_skip ?_;refine N_block ?_;refine N_code ?_;refine qd ?_;refine q2 ?_;refine W_nil ?_;exact N_againM (wr (i88 + 1)) _ H ⟨F87, rfl, le87, hS97.pick [1, 2] (by decide)⟩ ⟨rfl, rfl, rfl, rfl, rfl, rfl, rfl, rfl, rfl, rfl, rfl, trivial⟩
          ·rw [if_f hc90] at H;refine C_exit _ rfl ?_;refine N_block ?_;exact N_join _ ⟨H, ⟨F87, rfl, le87, hS87⟩⟩ ⟨rfl, rfl, rfl, rfl, rfl, rfl, rfl, rfl, trivial⟩
        ·rintro E w81 ⟨H, F81, rfl, le81, hS81⟩;dsimp only [catalog_snaps.k5] at H;refine qd ?_;refine q2 ?_;refine W_nil ?_;exact N_againM (wr (i78 + 1)) _ H ⟨F81, rfl, (le77.trans le81), hS81⟩ ⟨rfl, rfl, rfl, rfl, rfl, rfl, rfl, rfl, trivial⟩
       ·rw [if_f hc80] at H;refine C_exit _ rfl ?_;refine N_block ?_;exact N_join _ ⟨(mput m6 x11.man.name true), H, ⟨F77, rfl, le77, hS77⟩⟩ ⟨rfl, rfl, rfl, rfl, rfl, trivial⟩
    ·rintro E w9 ⟨m10, H, F9, rfl, le9, hS9⟩;dsimp only [catalog_snaps.k3] at H;refine qd ?_;refine q2 ?_;refine W_nil ?_;exact N_againM (wr (i5 + 1), m10) _ H ⟨F9, rfl, (le4.trans le9), hS9⟩ ⟨rfl, rfl, rfl, rfl, rfl, trivial⟩
   ·rw [if_f hc8] at H;refine C_exit _ rfl ?_;exact N_join _ ⟨H, ⟨F4, rfl, le4, hS4.pick [1] (by decide)⟩⟩ ⟨rfl, trivial⟩
 ·rintro E w3 ⟨H, F3, rfl, le3, hS3⟩;dsimp only [catalog_snaps.k1] at H;refine qs ?_;refine qf Ty.field38_1 ?_;refine qb 0 Ty.cell34 hS3 ?_;refine qr (O_len Tryz.underlying34 rfl h0_0.ln) ?_;refine qr (O_bin rfl rfl bI_leq) ?_;refine qm ?_;obtain rfl := oi H;refine C_ret rfl rfl ?_;exact ⟨F3, rfl, hS3.pick [] (by decide)⟩
def catalog_exps_1 (x0 : Snap) (x1 : Exp) : Option Bool :=
  some (decide (x0.seq = x1.of))
set_option maxRecDepth 100000 in
theorem catalog_exps_1_ok {K : Tb} {F : Frz} {w : Hp} {x0 : Snap} {x1 : Exp} {r : Bool} {v0_0 : Val} {v0_1 : Val} {gp1 : Nat} {v1_0 : Val} (hA : Gd F w) (h0_0 : SlF Part.t F v0_0 x0.man.parts) (h0_1 : SlF Loc.t F v0_1 x0.locs) (h1_0 : SlF Loc.t F v1_0 x1.locs) (hb1 : BxF F gp1 [.i .i64 x1.seq, .i .i64 x1.of, v1_0]) (H : catalog_exps_1 x0 x1 = some r) : Ret Tryz.prog K 126 [.agg (Snap.cells x0 v0_0 v0_1), pl gp1 0] w fun v w' => ∃ (F' : Frz), v = .b r ∧ St [] w F F' [] w' := by
 refine qa2 Tryz.func126 ?_;have hS := St.start hA;dsimp only [catalog_exps_1] at H;refine qs ?_;refine xm (E_bx (cs := [.i .i64 x0.seq, .s x0.man.name, v0_0, v0_1]) rfl rfl (by simp only [List.all_cons, List.all_nil, List.all_append, h0_0.ln.one, h0_1.ln.one]; rfl) hS) ?_;rintro _ w1 ⟨g1, rfl, hS1⟩;refine qm ?_;refine qs ?_;refine qf Ty.field46_0 ?_;refine qb 0 Ty.cell3 hS1 ?_;refine qf Ty.field55_1 ?_;refine qr (O_fld1 Ty.cell3 rfl (hb1.mono hS1.agree) rfl) ?_;refine qr (O_bin rfl rfl bI_eql) ?_;refine qm ?_;obtain rfl := oi H;refine C_ret rfl rfl ?_;exact ⟨F, rfl, hS1.pick [] (by decide)⟩
def slices_IndexFunc_api_Snap_api_Snap_catalog_exps_1.k1 : Option Int :=
  some (-1)
def slices_IndexFunc_api_Snap_api_Snap_catalog_exps_1.l2 (x0 : List Snap) (x1_0 : Exp) (rec4 : Int → Option Int) : Int → Option Int
  | i3 =>
    if decide (i3 < (x0.length : Int)) then
      bd (ix x0 i3) fun x6 =>
      bd (catalog_exps_1 x6 x1_0) fun r8 =>
      if r8 then
        some i3
      else
        rec4 (wr (i3 + 1))
    else
      slices_IndexFunc_api_Snap_api_Snap_catalog_exps_1.k1
def slices_IndexFunc_api_Snap_api_Snap_catalog_exps_1 (x0 : List Snap) (x1_0 : Exp) : Option Int :=
  loop (slices_IndexFunc_api_Snap_api_Snap_catalog_exps_1.l2 x0 x1_0) 0
set_option maxRecDepth 100000 in
theorem slices_IndexFunc_api_Snap_api_Snap_catalog_exps_1_ok {K : Tb} {F : Frz} {w : Hp} {x0 : List Snap} {x1_0 : Exp} {r : Int} {v0 : Val} {gp1_0 : Nat} {v1_0_0 : Val} (hA : Gd F w) (h0 : SlF Snap.t F v0 x0) (h1_0_0 : SlF Loc.t F v1_0_0 x1_0.locs) (hb1_0 : BxF F gp1_0 [.i .i64 x1_0.seq, .i .i64 x1_0.of, v1_0_0]) (H : slices_IndexFunc_api_Snap_api_Snap_catalog_exps_1 x0 x1_0 = some r) : Ret Tryz.prog K 115 [v0, .f 126 [pl gp1_0 0]] w fun v w' => ∃ (F' : Frz), v = .i .i64 r ∧ St [] w F F' [] w' := by
 refine qa2 Tryz.func115 ?_;have hS := St.start hA;dsimp only [slices_IndexFunc_api_Snap_api_Snap_catalog_exps_1] at H;refine qs ?_;refine qm ?_;refine C_seq_join (fun E wq => slices_IndexFunc_api_Snap_api_Snap_catalog_exps_1.k1 = some r ∧ ∃ (F1 : Frz), E = [] ∧ F.le F1 ∧ St [] w F F1 [] wq) ?_ ?_
 ·refine qs ?_;refine qc ?_;refine qr (O_len Tryz.underlying34 rfl h0.ln) ?_;refine qm ?_;refine C_block ?_;refine C_loopM (fun (s : Int) E wq => ∃ (F2 : Frz), E = [(0, v0), (1, .f 126 [pl gp1_0 0]), (7, .i .i64 (x0.length : Int)), (8, .i .i64 s)] ∧ F.le F2 ∧ St [] w F F2 [] wq) H ?_ ?_
  ·exact ⟨_, ⟨F, rfl, (Frz.le.refl _), hS⟩, ⟨rfl, rfl, rfl, rfl, trivial⟩⟩
  ·rintro rec4 i3 E w2 hI H
   try dsimp only at hI
   obtain ⟨F2, rfl, le2, hS2⟩ := hI;dsimp only [slices_IndexFunc_api_Snap_api_Snap_catalog_exps_1.l2] at H;refine qs ?_;refine qr (O_bin rfl rfl bI_lss) ?_;refine qn ?_;refine C_seq ?_;refine C_cond rfl (fun hc5 => ?_) (fun hc5 => ?_)
   ·rw [if_t hc5] at H;refine qk ?_;refine C_seq ?_;refine C_block ?_;refine qs ?_;refine qc ?_;refine qm ?_;refine C_seq ?_;obtain ⟨x6, hx6, H⟩ := bd_some H;obtain ⟨r8, hr8, H⟩ := bd_some H;refine qd ?_;refine q3 ?_;obtain ⟨hp9, hy9⟩ := ix_some hx6;obtain ⟨cs9, hr9, he9⟩ := (h0.mono le2).el hy9;obtain ⟨ue7_0, ue7_1, rfl, hue7_0, hue7_1⟩ := hr9;replace he9 : Elf _ _ 4 _ _ := he9;have hi9 := he9.ixd;refine qi Tryz.underlying34 Ty.size46 hi9 hp9 ?_;refine qr (O_ldg 0 (Snap.cells x6 ue7_0 ue7_1) Ty.agg46 Ty.size46 rfl (he9.mono hS2.agree) (by omega) rfl (Nat.le_of_ble_eq_true rfl)) ?_;refine lm (catalog_exps_1_ok hS2.good hue7_0 hue7_1 (h1_0_0.mono le2) (hb1_0.mono le2) hr8) ?_;rintro v10 w10 ⟨Fr8, rfl, hT10⟩;have hS10 := hS2.lent hT10;refine qn ?_;refine C_cond rfl (fun hc11 => ?_) (fun hc11 => ?_)
    ·rw [if_t hc11] at H;refine qs ?_;refine qc ?_;refine qm ?_;obtain rfl := oi H;refine C_ret rfl rfl ?_;exact ⟨F2, rfl, hS10⟩
    ·rw [if_f hc11] at H;refine C_skip ?_;refine N_block ?_;refine N_code ?_;refine qd ?_;refine q2 ?_;refine W_nil ?_;exact N_againM (wr (i3 + 1)) _ H ⟨F2, rfl, le2, hS10⟩ ⟨rfl, rfl, rfl, rfl, trivial⟩
   ·rw [if_f hc5] at H;refine C_exit _ rfl ?_;exact N_join _ ⟨H, ⟨F2, rfl, le2, hS2⟩⟩ trivial
 ·rintro E w1 ⟨H, F1, rfl, le1, hS1⟩;dsimp only [slices_IndexFunc_api_Snap_api_Snap_catalog_exps_1.k1] at H;refine qs ?_;refine qm ?_;obtain rfl := oi H;refine C_ret rfl rfl ?_;exact ⟨F1, rfl, hS1⟩
def slices_ContainsFunc_api_Snap_api_Snap_catalog_exps_1 (x0 : List Snap) (x1_0 : Exp) : Option Bool :=
  bd (slices_IndexFunc_api_Snap_api_Snap_catalog_exps_1 x0 x1_0) fun r1 =>
  some (decide (0 ≤ r1))
set_option maxRecDepth 100000 in
theorem slices_ContainsFunc_api_Snap_api_Snap_catalog_exps_1_ok {K : Tb} {F : Frz} {w : Hp} {x0 : List Snap} {x1_0 : Exp} {r : Bool} {v0 : Val} {gp1_0 : Nat} {v1_0_0 : Val} (hA : Gd F w) (h0 : SlF Snap.t F v0 x0) (h1_0_0 : SlF Loc.t F v1_0_0 x1_0.locs) (hb1_0 : BxF F gp1_0 [.i .i64 x1_0.seq, .i .i64 x1_0.of, v1_0_0]) (H : slices_ContainsFunc_api_Snap_api_Snap_catalog_exps_1 x0 x1_0 = some r) : Ret Tryz.prog K 125 [v0, .f 126 [pl gp1_0 0]] w fun v w' => ∃ (F' : Frz), v = .b r ∧ St [] w F F' [] w' := by
 refine qa2 Tryz.func125 ?_;have hS := St.start hA;dsimp only [slices_ContainsFunc_api_Snap_api_Snap_catalog_exps_1] at H;refine qs ?_;refine qm ?_;refine C_seq ?_;obtain ⟨r1, hr1, H⟩ := bd_some H;refine qd ?_;refine q2 ?_;refine lm (slices_IndexFunc_api_Snap_api_Snap_catalog_exps_1_ok hS.good h0 h1_0_0 hb1_0 hr1) ?_;rintro v2 w2 ⟨Fr1, rfl, hT2⟩;have hS2 := hS.lent hT2;refine qr (O_bin rfl rfl bI_geq) ?_;refine qm ?_;obtain rfl := oi H;refine C_ret rfl rfl ?_;exact ⟨F, rfl, hS2⟩
def catalog_exps.k1 (x0 : Catalog) : Option Bool :=
  some (decide ((x0.exps.length : Int) ≤ 200))
def catalog_exps.l2 (x0 : Catalog) (rec5 : Int → Option Bool) : Int → Option Bool
  | i4 =>
    if decide (i4 < (x0.exps.length : Int)) then
      bd (ix x0.exps i4) fun x7 =>
      bd (catalog_in x7.seq 0 (wr (x0.seq - 1))) fun r12 =>
      bd (only ((!(!r12)) && decide (0 < i4)) (ix x0.exps (wr (i4 - 1))) (Exp.mk 0 0 [])) fun x13 =>
      bd (only (!((!r12) || (decide (0 < i4) && decide (x7.seq ≤ x13.seq)))) (catalog_in x7.of 0 (wr (x7.seq - 1))) false) fun r15 =>
      bd (only (!((((!r12) || (decide (0 < i4) && decide (x7.seq ≤ x13.seq))) || (!r15)) || decide ((x7.locs.length : Int) = 0))) (catalog_locs x0 x7.locs) false) fun r16 =>
      if (((((!r12) || (decide (0 < i4) && decide (x7.seq ≤ x13.seq))) || (!r15)) || decide ((x7.locs.length : Int) = 0)) || (!r16)) then
        some false
      else
        bd (slices_ContainsFunc_api_Snap_api_Snap_catalog_exps_1 x0.snaps x7) fun r74 =>
        if r74 then
          some false
        else
          rec5 (wr (i4 + 1))
    else
      catalog_exps.k1 x0
def catalog_exps (x0 : Catalog) : Option Bool :=
  loop (catalog_exps.l2 x0) 0
set_option maxRecDepth 100000 in
set_option maxHeartbeats 2000000 in
theorem catalog_exps_ok {K : Tb} {F : Frz} {w : Hp} {x0 : Catalog} {r : Bool} {v0_0 : Val} {v0_1 : Val} {v0_2 : Val} {v0_3 : Val} (hA : Gd F w) (h0_0 : SlF Snap.t F v0_0 x0.snaps) (h0_1 : SlF Chunk.t F v0_1 x0.chunks) (h0_2 : SlF Exp.t F v0_2 x0.exps) (h0_3 : SlF Vol.t F v0_3 x0.vols) (H : catalog_exps x0 = some r) : Ret Tryz.prog K 80 [.agg (Catalog.cells x0 v0_0 v0_1 v0_2 v0_3)] w fun v w' => ∃ (F' : Frz), v = .b r ∧ St [] w F F' [] w' := by
 refine qa1 Tryz.func80 ?_;have hS := St.start hA;dsimp only [catalog_exps] at H;refine qs ?_;refine xm (E_bx (cs := [.i .i64 x0.seq, v0_0, v0_1, v0_2, v0_3]) rfl rfl (by simp only [List.all_cons, List.all_nil, List.all_append, h0_0.ln.one, h0_1.ln.one, h0_2.ln.one, h0_3.ln.one]; rfl) hS) ?_;rintro _ w1 ⟨g1, rfl, hS1⟩;refine qm ?_;refine C_seq_join (fun E wq => catalog_exps.k1 x0 = some r ∧ ∃ (F2 : Frz), E = [(1, pl g1 0)] ∧ F.le F2 ∧ St [] w F F2 [.box g1 [.i .i64 x0.seq, v0_0, v0_1, v0_2, v0_3]] wq) ?_ ?_
 ·refine qs ?_;refine qf Ty.field38_3 ?_;refine qb 0 Ty.cell36 hS1 ?_;refine qr (O_len Tryz.underlying36 rfl h0_2.ln) ?_;refine qm ?_;refine C_block ?_;refine C_loopM (fun (s : Int) E wq => ∃ (F3 : Frz), E = [(1, pl g1 0), (6, v0_2), (7, .i .i64 (x0.exps.length : Int)), (8, .i .i64 s)] ∧ F.le F3 ∧ St [] w F F3 [.box g1 [.i .i64 x0.seq, v0_0, v0_1, v0_2, v0_3]] wq) H ?_ ?_
  ·exact ⟨_, ⟨F, rfl, (Frz.le.refl _), hS1⟩, ⟨rfl, rfl, rfl, rfl, trivial⟩⟩
  ·rintro rec5 i4 E w3 hI H
   try dsimp only at hI
   obtain ⟨F3, rfl, le3, hS3⟩ := hI;dsimp only [catalog_exps.l2] at H;refine qs ?_;refine qr (O_bin rfl rfl bI_lss) ?_;refine qn ?_;refine C_seq ?_;refine C_cond rfl (fun hc6 => ?_) (fun hc6 => ?_)
   ·rw [if_t hc6] at H;refine qk ?_;refine C_seq ?_;refine C_block ?_;refine C_seq ?_;obtain ⟨x7, hx7, H⟩ := bd_some H;refine qd ?_;refine qc ?_;obtain ⟨hp10, hy10⟩ := ix_some hx7;obtain ⟨cs10, hr10, he10⟩ := (h0_2.mono le3).el hy10;obtain ⟨ue8_0, rfl, hue8_0⟩ := hr10;replace he10 : Elf _ _ 3 _ _ := he10;have hi10 := he10.ixd;refine qi Tryz.underlying36 Ty.size55 hi10 hp10 ?_;refine qr (O_ldg 0 (Exp.cells x7 ue8_0) Ty.agg55 Ty.size55 rfl (he10.mono hS3.agree) (by omega) rfl (Nat.le_of_ble_eq_true rfl)) ?_;refine xm (E_alc (cs := [.i .i64 0, .i .i64 0, .sl none 0 (.k 0)]) Ty.zero55 rfl hS3) ?_;rintro _ w9 ⟨g9, rfl, hS9⟩;refine qc ?_;refine um (E_bst (c := [.i .i64 x7.seq, .i .i64 x7.of, ue8_0]) 0 ([.i .i64 x7.seq, .i .i64 x7.of, ue8_0]) rfl rfl hS9 rfl rfl Ty.size55 (by simp only [List.all_cons, List.all_nil, List.all_append, hue8_0.ln.one]; rfl) rfl rfl) ?_;rintro _ w11 hS11;refine qn ?_;refine C_seq ?_;refine C_seq ?_;obtain ⟨r12, hr12, H⟩ := bd_some H;obtain ⟨x13, hx13, H⟩ := bd_some H;obtain ⟨r15, hr15, H⟩ := bd_some H;obtain ⟨r16, hr16, H⟩ := bd_some H;refine C_regionD (G := F3) [0, 1, 2, 3, 4, 5, 6, 7, 8, 9, 10, 11, 12, 13, 14, 15, 16, 17, 18, 19, 20, 21, 22, 23, 24, 25, 26, 27, 28, 29, 30, 31, 32, 33, 34, 35, 36, 37, 38, 39, 40, 41, 42, 43, 44] rfl Ty.mixed (by kernel_rfl) hS11.agree ?_;refine qf Ty.field55_0 ?_;refine qbq 0 Ty.cell3 hS11 ?_;refine qf Ty.field38_0 ?_;refine qbq 1 Ty.cell3 hS11 ?_;refine qc ?_;refine ql (catalog_in_ok hS11.good hr12) ?_;rintro v17 w17 ⟨Fr12, rfl, hT17⟩;have hS17 := hS11.lent hT17;refine Nxt.frz (Frz.le.refl _) hS17.agree ?_;refine q2 ?_;refine W_gs (v := .i .i64 i4) rfl rfl rfl rfl (fun ⟨hb18, _⟩ => ?_) ?_
    ·rw [hb18];intro hK;refine qc ?_;exact hK
    refine W_gs (v := .b (decide (0 < i4))) rfl rfl rfl rfl (fun ⟨hb19, _⟩ => ?_) ?_
    ·rw [hb19];intro hK;refine qr (O_bin rfl rfl bI_gtr) ?_;exact hK
    refine W_gs (v := .b (decide (0 < i4))) rfl rfl rfl rfl (fun ⟨hb20, _⟩ => ?_) ?_
    ·rw [hb20];intro hK;refine qc ?_;exact hK
    refine W_gsc (v := pl g1 (0 + 3)) rfl rfl rfl rfl (fun ⟨hb21, hb22, _⟩ => ?_) ?_
    ·rw [hb22, hb21];intro hK;refine qf Ty.field38_3 ?_;exact hK
    refine W_gsc (v := v0_2) rfl rfl rfl rfl (fun ⟨hb23, hb24, _⟩ => ?_) ?_
    ·rw [hb24, hb23];intro hK;refine qbq 1 Ty.cell36 hS17 ?_;exact hK
    refine W_gsc (v := .i .i64 i4) rfl rfl rfl rfl (fun ⟨hb25, hb26, _⟩ => ?_) ?_
    ·rw [hb26, hb25];intro hK;refine qc ?_;exact hK
    refine W_gsc (v := .i .i64 (wr (i4 - 1))) rfl rfl rfl rfl (fun ⟨hb27, hb28, _⟩ => ?_) ?_
    ·rw [hb28, hb27];intro hK;refine qc ?_;exact hK
    refine W_gsc (v := elp v0_2 ((wr (i4 - 1)).toNat * 3)) rfl rfl rfl rfl (fun ⟨hb29, hb30, _⟩ => ?_) ?_
    ·rw [hb30, hb29];intro hK;have hy31 := hx13;rw [only_t (by first | rfl | (rw [hb30, hb29]; first | done | rfl) | simp [hb29, hb30])] at hy31;obtain ⟨hp32, hy32⟩ := ix_some hy31;obtain ⟨cs32, hr32, he32⟩ := (h0_2.mono le3).el hy32;obtain ⟨ue14_0, rfl, hue14_0⟩ := hr32;replace he32 : Elf _ _ 3 _ _ := he32;have hi32 := he32.ixd;refine qi Tryz.underlying36 Ty.size55 hi32 hp32 ?_;exact hK
    refine W_gsc (v := elp v0_2 (((wr (i4 - 1)).toNat * 3) + 0)) rfl rfl rfl rfl (fun ⟨hb33, hb34, _⟩ => ?_) ?_
    ·rw [hb34, hb33];intro hK;have hy35 := hx13;rw [only_t (by first | rfl | (rw [hb34, hb33]; first | done | rfl) | simp [hb33, hb34])] at hy35;obtain ⟨hp36, hy36⟩ := ix_some hy35;obtain ⟨cs36, hr36, he36⟩ := (h0_2.mono le3).el hy36;obtain ⟨ue14_0, rfl, hue14_0⟩ := hr36;replace he36 : Elf _ _ 3 _ _ := he36;have hi36 := he36.ixd;refine qr (O_fld 0 Ty.field55_0 rfl hi36) ?_;exact hK
    refine W_gsc (v := .i .i64 x13.seq) rfl rfl rfl rfl (fun ⟨hb37, hb38, _⟩ => ?_) ?_
    ·rw [hb38, hb37];intro hK;have hy39 := hx13;rw [only_t (by first | rfl | (rw [hb38, hb37]; first | done | rfl) | simp [hb37, hb38])] at hy39;obtain ⟨hp40, hy40⟩ := ix_some hy39;obtain ⟨cs40, hr40, he40⟩ := (h0_2.mono le3).el hy40;obtain ⟨ue14_0, rfl, hue14_0⟩ := hr40;replace he40 : Elf _ _ 3 _ _ := he40;have hi40 := he40.ixd;refine qq (O_ld1 0 Ty.cell3 rfl (he40.mono hS17.agree) (by omega) rfl) ?_;exact hK
    refine W_gsc (v := pl g9 (0 + 0)) rfl rfl rfl rfl (fun ⟨hb41, hb42, _⟩ => ?_) ?_
    ·rw [hb42, hb41];intro hK;refine qf Ty.field55_0 ?_;exact hK
    refine W_gsc (v := .i .i64 x7.seq) rfl rfl rfl rfl (fun ⟨hb43, hb44, _⟩ => ?_) ?_
    ·rw [hb44, hb43];intro hK;refine qbq 0 Ty.cell3 hS17 ?_;exact hK
    refine W_gsc (v := .b (decide (x7.seq ≤ x13.seq))) rfl rfl rfl rfl (fun ⟨hb45, hb46, _⟩ => ?_) ?_
    ·rw [hb46, hb45];intro hK;refine qr (O_bin rfl rfl bI_geq) ?_;exact hK
    refine W_gs (v := .b (decide (0 < i4) && decide (x7.seq ≤ x13.seq))) rfl rfl rfl rfl (fun ⟨hb47, _⟩ => ?_) ?_
    ·rw [hb47];intro hK;refine W_pkA rfl rfl rfl rfl rfl (fun hc => by rw [hc]; rfl) rfl ?_;exact hK
    refine W_pkO rfl rfl rfl rfl rfl rfl (fun hc => by rw [hc]; rfl) ?_;refine qc ?_;refine W_gs (v := pl g9 (0 + 1)) rfl rfl rfl rfl (fun ⟨hb48, _⟩ => ?_) ?_
    ·rw [hb48];intro hK;refine qf Ty.field55_1 ?_;exact hK
    refine W_gs (v := .i .i64 x7.of) rfl rfl rfl rfl (fun ⟨hb49, _⟩ => ?_) ?_
    ·rw [hb49];intro hK;refine qbq 0 Ty.cell3 hS17 ?_;exact hK
    refine W_gs (v := pl g9 (0 + 0)) rfl rfl rfl rfl (fun ⟨hb50, _⟩ => ?_) ?_
    ·rw [hb50];intro hK;refine qf Ty.field55_0 ?_;exact hK
    refine W_gs (v := .i .i64 x7.seq) rfl rfl rfl rfl (fun ⟨hb51, _⟩ => ?_) ?_
    ·rw [hb51];intro hK;refine qbq 0 Ty.cell3 hS17 ?_;exact hK
    refine W_gs (v := .i .i64 (wr (x7.seq - 1))) rfl rfl rfl rfl (fun ⟨hb52, _⟩ => ?_) ?_
    ·rw [hb52];intro hK;refine qc ?_;exact hK
    obtain ⟨Q54, hQ54⟩ : ∃ Q : Hp → Prop, Q = fun wq => St [] w F F3 [.box g9 [.i .i64 x7.seq, .i .i64 x7.of, ue8_0], .box g1 [.i .i64 x0.seq, v0_0, v0_1, v0_2, v0_3]] wq := ⟨_, rfl⟩;refine W_gw (v := .b r15) (Q := Q54) (by rw [hQ54]; exact hS17) rfl rfl rfl rfl (fun ⟨hb53, _⟩ => ?_) ?_
    ·rw [hb53];intro hK;have hy55 := hr15;rw [only_t (by first | rfl | (rw [hb53]; first | done | rfl) | simp [hb53])] at hy55;refine ql (catalog_in_ok hS17.good hy55) ?_;rintro v56 w56 ⟨Fr15, rfl, hT56⟩;have hS56 := hS17.lent hT56;exact hK _ (by rw [hQ54]; exact hS56)
    intro w57 hS57;rw [hQ54] at hS57;refine Nxt.frz (Frz.le.refl _) hS57.agree ?_;refine W_gs (v := .b (!r15)) rfl rfl rfl rfl (fun ⟨hb58, _⟩ => ?_) ?_
    ·rw [hb58];intro hK;refine qc ?_;exact hK
    refine W_pkO rfl rfl rfl rfl rfl rfl (fun hc => by rw [hc]; rfl) ?_;refine qc ?_;refine W_gs (v := pl g9 (0 + 2)) rfl rfl rfl rfl (fun ⟨hb59, _⟩ => ?_) ?_
    ·rw [hb59];intro hK;refine qf Ty.field55_2 ?_;exact hK
    refine W_gs (v := ue8_0) rfl rfl rfl rfl (fun ⟨hb60, _⟩ => ?_) ?_
    ·rw [hb60];intro hK;refine qbq 0 Ty.cell44 hS57 ?_;exact hK
    refine W_gs (v := .i .i64 (x7.locs.length : Int)) rfl rfl rfl rfl (fun ⟨hb61, _⟩ => ?_) ?_
    ·rw [hb61];intro hK;refine qr (O_len Tryz.underlying44 rfl hue8_0.ln) ?_;exact hK
    refine W_gs (v := .b (decide ((x7.locs.length : Int) = 0))) rfl rfl rfl rfl (fun ⟨hb62, _⟩ => ?_) ?_
    ·rw [hb62];intro hK;refine qr (O_bin rfl rfl bI_eql) ?_;exact hK
    refine W_pkO rfl rfl rfl rfl rfl rfl (fun hc => by rw [hc]; rfl) ?_;refine qc ?_;refine W_gs (v := .agg (Catalog.cells x0 v0_0 v0_1 v0_2 v0_3)) rfl rfl rfl rfl (fun ⟨hb63, _⟩ => ?_) ?_
    ·rw [hb63];intro hK;refine qq (O_bldg 1 (Catalog.cells x0 v0_0 v0_1 v0_2 v0_3) Ty.agg38 Ty.size38 (Nat.zero_lt_succ _) rfl hS57 rfl (fun q u h => sub_at (post := []) rfl h)) ?_;exact hK
    refine W_gs (v := pl g9 (0 + 2)) rfl rfl rfl rfl (fun ⟨hb64, _⟩ => ?_) ?_
    ·rw [hb64];intro hK;refine qf Ty.field55_2 ?_;exact hK
    refine W_gs (v := ue8_0) rfl rfl rfl rfl (fun ⟨hb65, _⟩ => ?_) ?_
    ·rw [hb65];intro hK;refine qbq 0 Ty.cell44 hS57 ?_;exact hK
    obtain ⟨Q67, hQ67⟩ : ∃ Q : Hp → Prop, Q = fun wq => St [] w F F3 [.box g9 [.i .i64 x7.seq, .i .i64 x7.of, ue8_0], .box g1 [.i .i64 x0.seq, v0_0, v0_1, v0_2, v0_3]] wq := ⟨_, rfl⟩;refine W_gw (v := .b r16) (Q := Q67) (by rw [hQ67]; exact hS57) rfl rfl rfl rfl (fun ⟨hb66, _⟩ => ?_) ?_
    ·rw [hb66];intro hK;have hy68 := hr16;rw [only_t (by first | rfl | (rw [hb66]; first | done | rfl) | simp [hb66])] at hy68;refine ql (catalog_locs_ok hS57.good (h0_0.mono le3) (h0_1.mono le3) (h0_2.mono le3) (h0_3.mono le3) hue8_0 hy68) ?_;rintro v69 w69 ⟨Fr16, rfl, hT69⟩;have hS69 := hS57.lent hT69;exact hK _ (by rw [hQ67]; exact hS69)
    intro w70 hS70;rw [hQ67] at hS70;refine Nxt.frz (Frz.le.refl _) hS70.agree ?_;refine W_gs (v := .b (!r16)) rfl rfl rfl rfl (fun ⟨hb71, _⟩ => ?_) ?_
    ·rw [hb71];intro hK;refine qc ?_;exact hK
    refine W_pkO rfl rfl rfl rfl rfl rfl (fun hc => by rw [hc]; rfl) ?_;refine qn ?_;refine C_cond rfl (fun hc72 => ?_) (fun hc72 => ?_)
    ·rw [if_t hc72] at H;refine qs ?_;refine qm ?_;obtain rfl := oi H;refine C_ret rfl rfl ?_;exact ⟨F3, rfl, hS70.pick [] (by decide)⟩
    ·rw [if_f hc72] at H;refine qk ?_;refine C_seq ?_;obtain ⟨F73, le73, hbx73, hS73⟩ := hS70.freezeB 0 [1] rfl (by decide) (by decide);obtain ⟨r74, hr74, H⟩ := bd_some H;refine qd ?_;refine qf Ty.field38_1 ?_;refine qb 0 Ty.cell34 hS73 ?_;refine qc ?_;refine lm (slices_ContainsFunc_api_Snap_api_Snap_catalog_exps_1_ok hS73.good (h0_0.mono (le3.trans le73)) (hue8_0.mono le73) hbx73 hr74) ?_;rintro v75 w75 ⟨Fr74, rfl, hT75⟩;have hS75 := hS73.lent hT75;refine qn ?_;refine C_cond rfl (fun hc76 => ?_) (fun hc76 => ?_)
     ·rw [if_t hc76] at H;refine qs ?_;refine qm ?_;obtain rfl := oi H;refine C_ret rfl rfl ?_;exact ⟨F73, rfl, hS75.pick [] (by decide)⟩
     ·rw [if_f hc76] at H;refine C_skip ?_;refine N_block ?_;refine N_code ?_;refine qd ?_;refine q2 ?_;refine W_nil ?_;exact N_againM (wr (i4 + 1)) _ H ⟨F73, rfl, (le3.trans le73), hS75⟩ ⟨rfl, rfl, rfl, rfl, trivial⟩
   ·rw [if_f hc6] at H;refine C_exit _ rfl ?_;exact N_join _ ⟨H, ⟨F3, rfl, le3, hS3⟩⟩ ⟨rfl, trivial⟩
 ·rintro E w2 ⟨H, F2, rfl, le2, hS2⟩;dsimp only [catalog_exps.k1] at H;refine qs ?_;refine qf Ty.field38_3 ?_;refine qb 0 Ty.cell36 hS2 ?_;refine qr (O_len Tryz.underlying36 rfl h0_2.ln) ?_;refine qr (O_bin rfl rfl bI_leq) ?_;refine qm ?_;obtain rfl := oi H;refine C_ret rfl rfl ?_;exact ⟨F2, rfl, hS2.pick [] (by decide)⟩
def catalog_Check (x0 : Catalog) : Option Int :=
  bd (catalog_in x0.seq 0 1073741824) fun r2 =>
  bd (only r2 (catalog_vols x0.vols) false) fun r3 =>
  bd (only (r2 && r3) (catalog_chunks x0) false) fun r4 =>
  bd (only ((r2 && r3) && r4) (catalog_snaps x0) false) fun r5 =>
  bd (only (((r2 && r3) && r4) && r5) (catalog_exps x0) false) fun r6 =>
  if ((((r2 && r3) && r4) && r5) && r6) then
    some 0
  else
    some 1
set_option maxRecDepth 100000 in
theorem catalog_Check_ok {K : Tb} [Kn (KExt Tryz.prog) K] {F : Frz} {w : Hp} {x0 : Catalog} {r : Int} {v0_0 : Val} {v0_1 : Val} {v0_2 : Val} {v0_3 : Val} (hA : Gd F w) (h0_0 : SlF Snap.t F v0_0 x0.snaps) (h0_1 : SlF Chunk.t F v0_1 x0.chunks) (h0_2 : SlF Exp.t F v0_2 x0.exps) (h0_3 : SlF Vol.t F v0_3 x0.vols) (H : catalog_Check x0 = some r) : Ret Tryz.prog K 36 [.agg (Catalog.cells x0 v0_0 v0_1 v0_2 v0_3)] w fun v w' => ∃ (F' : Frz), v = .i .i64 r ∧ St [] w F F' [] w' := by
 refine qa1 Tryz.func36 ?_;have hS := St.start hA;dsimp only [catalog_Check] at H;refine qs ?_;refine xm (E_bx (cs := [.i .i64 x0.seq, v0_0, v0_1, v0_2, v0_3]) rfl rfl (by simp only [List.all_cons, List.all_nil, List.all_append, h0_0.ln.one, h0_1.ln.one, h0_2.ln.one, h0_3.ln.one]; rfl) hS) ?_;rintro _ w1 ⟨g1, rfl, hS1⟩;refine qm ?_;refine C_seq ?_;refine C_seq ?_;obtain ⟨r2, hr2, H⟩ := bd_some H;obtain ⟨r3, hr3, H⟩ := bd_some H;obtain ⟨r4, hr4, H⟩ := bd_some H;obtain ⟨r5, hr5, H⟩ := bd_some H;obtain ⟨r6, hr6, H⟩ := bd_some H;refine qd ?_;refine qf Ty.field38_0 ?_;refine qb 0 Ty.cell3 hS1 ?_;refine lm (catalog_in_ok hS1.good hr2) ?_;rintro v7 w7 ⟨Fr2, rfl, hT7⟩;have hS7 := hS1.lent hT7;refine qc ?_;refine W_gs (v := pl g1 (0 + 4)) rfl rfl rfl rfl (fun ⟨hb8, _⟩ => ?_) ?_
 ·rw [hb8];intro hK;refine qf Ty.field38_4 ?_;exact hK
 refine W_gs (v := v0_3) rfl rfl rfl rfl (fun ⟨hb9, _⟩ => ?_) ?_
 ·rw [hb9];intro hK;refine qb 0 Ty.cell33 hS7 ?_;exact hK
 obtain ⟨Q11, hQ11⟩ : ∃ Q : Hp → Prop, Q = fun wq => St [] w F F [.box g1 [.i .i64 x0.seq, v0_0, v0_1, v0_2, v0_3]] wq := ⟨_, rfl⟩;refine W_gw (v := .b r3) (Q := Q11) (by rw [hQ11]; exact hS7) rfl rfl rfl rfl (fun ⟨hb10, _⟩ => ?_) ?_
 ·rw [hb10];intro hK;have hy12 := hr3;rw [only_t hb10] at hy12;refine ql (catalog_vols_ok hS7.good h0_3 hy12) ?_;rintro v13 w13 ⟨Fr3, rfl, hT13⟩;have hS13 := hS7.lent hT13;exact hK _ (by rw [hQ11]; exact hS13)
 intro w14 hS14;rw [hQ11] at hS14;refine Nxt.now ?_;refine W_pkA rfl rfl rfl rfl rfl (fun hc => by rw [hc]; rfl) rfl ?_;refine qc ?_;refine W_gs (v := .agg (Catalog.cells x0 v0_0 v0_1 v0_2 v0_3)) rfl rfl rfl rfl (fun ⟨hb15, _⟩ => ?_) ?_
 ·rw [hb15];intro hK;refine qr (O_bldg 0 (Catalog.cells x0 v0_0 v0_1 v0_2 v0_3) Ty.agg38 Ty.size38 (Nat.zero_lt_succ _) rfl hS14 rfl (fun q u h => sub_at (post := []) rfl h)) ?_;exact hK
 obtain ⟨Q17, hQ17⟩ : ∃ Q : Hp → Prop, Q = fun wq => St [] w F F [.box g1 [.i .i64 x0.seq, v0_0, v0_1, v0_2, v0_3]] wq := ⟨_, rfl⟩;refine W_gw (v := .b r4) (Q := Q17) (by rw [hQ17]; exact hS14) rfl rfl rfl rfl (fun ⟨hb16, _⟩ => ?_) ?_
 ·rw [hb16];intro hK;have hy18 := hr4;rw [only_t hb16] at hy18;refine ql (catalog_chunks_ok hS14.good h0_0 h0_1 h0_2 h0_3 hy18) ?_;rintro v19 w19 ⟨Fr4, rfl, hT19⟩;have hS19 := hS14.lent hT19;exact hK _ (by rw [hQ17]; exact hS19)
 intro w20 hS20;rw [hQ17] at hS20;refine Nxt.now ?_;refine W_pkA rfl rfl rfl rfl rfl (fun hc => by rw [hc]; rfl) rfl ?_;refine qc ?_;refine W_gs (v := .agg (Catalog.cells x0 v0_0 v0_1 v0_2 v0_3)) rfl rfl rfl rfl (fun ⟨hb21, _⟩ => ?_) ?_
 ·rw [hb21];intro hK;refine qr (O_bldg 0 (Catalog.cells x0 v0_0 v0_1 v0_2 v0_3) Ty.agg38 Ty.size38 (Nat.zero_lt_succ _) rfl hS20 rfl (fun q u h => sub_at (post := []) rfl h)) ?_;exact hK
 obtain ⟨Q23, hQ23⟩ : ∃ Q : Hp → Prop, Q = fun wq => St [] w F F [.box g1 [.i .i64 x0.seq, v0_0, v0_1, v0_2, v0_3]] wq := ⟨_, rfl⟩;refine W_gw (v := .b r5) (Q := Q23) (by rw [hQ23]; exact hS20) rfl rfl rfl rfl (fun ⟨hb22, _⟩ => ?_) ?_
 ·rw [hb22];intro hK;have hy24 := hr5;rw [only_t hb22] at hy24;refine ql (catalog_snaps_ok hS20.good h0_0 h0_1 h0_2 h0_3 hy24) ?_;rintro v25 w25 ⟨Fr5, rfl, hT25⟩;have hS25 := hS20.lent hT25;exact hK _ (by rw [hQ23]; exact hS25)
 intro w26 hS26;rw [hQ23] at hS26;refine Nxt.now ?_;refine W_pkA rfl rfl rfl rfl rfl (fun hc => by rw [hc]; rfl) rfl ?_;refine qc ?_;refine W_gs (v := .agg (Catalog.cells x0 v0_0 v0_1 v0_2 v0_3)) rfl rfl rfl rfl (fun ⟨hb27, _⟩ => ?_) ?_
 ·rw [hb27];intro hK;refine qr (O_bldg 0 (Catalog.cells x0 v0_0 v0_1 v0_2 v0_3) Ty.agg38 Ty.size38 (Nat.zero_lt_succ _) rfl hS26 rfl (fun q u h => sub_at (post := []) rfl h)) ?_;exact hK
 obtain ⟨Q29, hQ29⟩ : ∃ Q : Hp → Prop, Q = fun wq => St [] w F F [.box g1 [.i .i64 x0.seq, v0_0, v0_1, v0_2, v0_3]] wq := ⟨_, rfl⟩;refine W_gw (v := .b r6) (Q := Q29) (by rw [hQ29]; exact hS26) rfl rfl rfl rfl (fun ⟨hb28, _⟩ => ?_) ?_
 ·rw [hb28];intro hK;have hy30 := hr6;rw [only_t hb28] at hy30;refine ql (catalog_exps_ok hS26.good h0_0 h0_1 h0_2 h0_3 hy30) ?_;rintro v31 w31 ⟨Fr6, rfl, hT31⟩;have hS31 := hS26.lent hT31;exact hK _ (by rw [hQ29]; exact hS31)
 intro w32 hS32;rw [hQ29] at hS32;refine Nxt.now ?_;refine W_pkA rfl rfl rfl rfl rfl (fun hc => by rw [hc]; rfl) rfl ?_;refine qn ?_;refine C_cond rfl (fun hc33 => ?_) (fun hc33 => ?_)
 ·rw [if_t hc33] at H;refine qs ?_;refine qm ?_;obtain rfl := oi H;refine C_ret rfl rfl ?_;exact ⟨F, rfl, hS32.pick [] (by decide)⟩
 ·rw [if_f hc33] at H;refine qk ?_;refine qs ?_;refine qm ?_;obtain rfl := oi H;refine C_ret rfl rfl ?_;exact ⟨F, rfl, hS32.pick [] (by decide)⟩
def slices_Clone_api_Snap_api_Snap (x0 : List Snap) : Option (List Snap) :=
  bd (app (α := Snap) ([] : List Snap) x0) fun l6 =>
  some l6
set_option maxRecDepth 100000 in
theorem slices_Clone_api_Snap_api_Snap_ok {K : Tb} {F : Frz} {w : Hp} {x0 : List Snap} {r : (List Snap)} {v0 : Val} (hA : Gd F w) (h0 : SlF Snap.t F v0 x0) (H : slices_Clone_api_Snap_api_Snap x0 = some r) : Ret Tryz.prog K 102 [v0] w fun v w' => ∃ (F' : Frz) (q0 : Val), v = q0 ∧ St [] w F F' [.row Snap.t q0 (r)] w' := by
 refine qa1 Tryz.func102 ?_;have hS := St.start hA;dsimp only [slices_Clone_api_Snap_api_Snap] at H;refine qs ?_;refine qm ?_;refine C_seq ?_;refine qs ?_;refine qc ?_;refine W_nilq rfl rfl rfl rfl Tryz.underlying34 rfl rfl h0.ln ?_;intro b1 hb1;refine qn ?_;refine C_cond rfl (fun hc2 => ?_) (fun hc2 => ?_)
 ·have hx2 : x0 = [] := List.eq_nil_of_length_eq_zero (hb1 hc2);have H : (some [] : Option (List Snap)) = some r := by first | (rw [hx2] at H; exact H) | (subst hx2; exact H)
  refine qs ?_;refine qm ?_;have hS4 := hS.nilRow Snap.t;obtain rfl := oi H;refine C_ret rfl rfl ?_;exact ⟨F, (.sl none 0 (.k 0)), rfl, hS4⟩
 ·refine qk ?_;refine C_seq ?_;obtain ⟨l6, hl6, H⟩ := bd_some H;refine qd ?_;refine xm (E_bs (t := Snap.t) (vs := []) (xs := ([] : List Snap)) Tryz.underlying34 Ty.row46 rfl trivial rfl rfl hS) ?_;rintro u5 w5 hS5;refine qc ?_;refine xm (E_app (t := Snap.t) 0 Tryz.underlying34 Ty.row46 Ty.zk34 rfl rfl hS5 rfl (h0.src hS5.agree) hl6) ?_;rintro v7 w7 hS7;refine qm ?_;obtain rfl := oi H;refine C_ret rfl rfl ?_;exact ⟨F, v7, rfl, hS7⟩
def slices_Clone_api_Chunk_api_Chunk (x0 : List Chunk) : Option (List Chunk) :=
  bd (app (α := Chunk) ([] : List Chunk) x0) fun l6 =>
  some l6
set_option maxRecDepth 100000 in
theorem slices_Clone_api_Chunk_api_Chunk_ok {K : Tb} {F : Frz} {w : Hp} {x0 : List Chunk} {r : (List Chunk)} {v0 : Val} (hA : Gd F w) (h0 : SlF Chunk.t F v0 x0) (H : slices_Clone_api_Chunk_api_Chunk x0 = some r) : Ret Tryz.prog K 103 [v0] w fun v w' => ∃ (F' : Frz) (q0 : Val), v = q0 ∧ St [] w F F' [.row Chunk.t q0 (r)] w' := by
 refine qa1 Tryz.func103 ?_;have hS := St.start hA;dsimp only [slices_Clone_api_Chunk_api_Chunk] at H;refine qs ?_;refine qm ?_;refine C_seq ?_;refine qs ?_;refine qc ?_;refine W_nilq rfl rfl rfl rfl Tryz.underlying35 rfl rfl h0.ln ?_;intro b1 hb1;refine qn ?_;refine C_cond rfl (fun hc2 => ?_) (fun hc2 => ?_)
 ·have hx2 : x0 = [] := List.eq_nil_of_length_eq_zero (hb1 hc2);have H : (some [] : Option (List Chunk)) = some r := by first | (rw [hx2] at H; exact H) | (subst hx2; exact H)
  refine qs ?_;refine qm ?_;have hS4 := hS.nilRow Chunk.t;obtain rfl := oi H;refine C_ret rfl rfl ?_;exact ⟨F, (.sl none 0 (.k 0)), rfl, hS4⟩
 ·refine qk ?_;refine C_seq ?_;obtain ⟨l6, hl6, H⟩ := bd_some H;refine qd ?_;refine xm (E_bs (t := Chunk.t) (vs := []) (xs := ([] : List Chunk)) Tryz.underlying35 Ty.row60 rfl trivial rfl rfl hS) ?_;rintro u5 w5 hS5;refine qc ?_;refine xm (E_app (t := Chunk.t) 0 Tryz.underlying35 Ty.row60 Ty.zk35 rfl rfl hS5 rfl (h0.src hS5.agree) hl6) ?_;rintro v7 w7 hS7;refine qm ?_;obtain rfl := oi H;refine C_ret rfl rfl ?_;exact ⟨F, v7, rfl, hS7⟩
def slices_Clone_api_Exp_api_Exp (x0 : List Exp) : Option (List Exp) :=
  bd (app (α := Exp) ([] : List Exp) x0) fun l6 =>
  some l6
set_option maxRecDepth 100000 in
theorem slices_Clone_api_Exp_api_Exp_ok {K : Tb} {F : Frz} {w : Hp} {x0 : List Exp} {r : (List Exp)} {v0 : Val} (hA : Gd F w) (h0 : SlF Exp.t F v0 x0) (H : slices_Clone_api_Exp_api_Exp x0 = some r) : Ret Tryz.prog K 104 [v0] w fun v w' => ∃ (F' : Frz) (q0 : Val), v = q0 ∧ St [] w F F' [.row Exp.t q0 (r)] w' := by
 refine qa1 Tryz.func104 ?_;have hS := St.start hA;dsimp only [slices_Clone_api_Exp_api_Exp] at H;refine qs ?_;refine qm ?_;refine C_seq ?_;refine qs ?_;refine qc ?_;refine W_nilq rfl rfl rfl rfl Tryz.underlying36 rfl rfl h0.ln ?_;intro b1 hb1;refine qn ?_;refine C_cond rfl (fun hc2 => ?_) (fun hc2 => ?_)
 ·have hx2 : x0 = [] := List.eq_nil_of_length_eq_zero (hb1 hc2);have H : (some [] : Option (List Exp)) = some r := by first | (rw [hx2] at H; exact H) | (subst hx2; exact H)
  refine qs ?_;refine qm ?_;have hS4 := hS.nilRow Exp.t;obtain rfl := oi H;refine C_ret rfl rfl ?_;exact ⟨F, (.sl none 0 (.k 0)), rfl, hS4⟩
 ·refine qk ?_;refine C_seq ?_;obtain ⟨l6, hl6, H⟩ := bd_some H;refine qd ?_;refine xm (E_bs (t := Exp.t) (vs := []) (xs := ([] : List Exp)) Tryz.underlying36 Ty.row55 rfl trivial rfl rfl hS) ?_;rintro u5 w5 hS5;refine qc ?_;refine xm (E_app (t := Exp.t) 0 Tryz.underlying36 Ty.row55 Ty.zk36 rfl rfl hS5 rfl (h0.src hS5.agree) hl6) ?_;rintro v7 w7 hS7;refine qm ?_;obtain rfl := oi H;refine C_ret rfl rfl ?_;exact ⟨F, v7, rfl, hS7⟩
def slices_Clone_api_Part_api_Part (x0 : List Part) : Option (List Part) :=
  bd (app (α := Part) ([] : List Part) x0) fun l6 =>
  some l6
set_option maxRecDepth 100000 in
theorem slices_Clone_api_Part_api_Part_ok {K : Tb} {F : Frz} {w : Hp} {x0 : List Part} {r : (List Part)} {v0 : Val} (hA : Gd F w) (h0 : SlF Part.t F v0 x0) (H : slices_Clone_api_Part_api_Part x0 = some r) : Ret Tryz.prog K 153 [v0] w fun v w' => ∃ (F' : Frz) (q0 : Val), v = q0 ∧ St [] w F F' [.row Part.t q0 (r)] w' := by
 refine qa1 Tryz.func153 ?_;have hS := St.start hA;dsimp only [slices_Clone_api_Part_api_Part] at H;refine qs ?_;refine qm ?_;refine C_seq ?_;refine qs ?_;refine qc ?_;refine W_nilq rfl rfl rfl rfl Tryz.underlying41 rfl rfl h0.ln ?_;intro b1 hb1;refine qn ?_;refine C_cond rfl (fun hc2 => ?_) (fun hc2 => ?_)
 ·have hx2 : x0 = [] := List.eq_nil_of_length_eq_zero (hb1 hc2);have H : (some [] : Option (List Part)) = some r := by first | (rw [hx2] at H; exact H) | (subst hx2; exact H)
  refine qs ?_;refine qm ?_;have hS4 := hS.nilRow Part.t;obtain rfl := oi H;refine C_ret rfl rfl ?_;exact ⟨F, (.sl none 0 (.k 0)), rfl, hS4⟩
 ·refine qk ?_;refine C_seq ?_;obtain ⟨l6, hl6, H⟩ := bd_some H;refine qd ?_;refine xm (E_bs (t := Part.t) (vs := []) (xs := ([] : List Part)) Tryz.underlying41 Ty.row138 rfl trivial rfl rfl hS) ?_;rintro u5 w5 hS5;refine qc ?_;refine xm (E_app (t := Part.t) 0 Tryz.underlying41 Ty.row138 Ty.zk41 rfl rfl hS5 rfl (h0.src hS5.agree) hl6) ?_;rintro v7 w7 hS7;refine qm ?_;obtain rfl := oi H;refine C_ret rfl rfl ?_;exact ⟨F, v7, rfl, hS7⟩
def catalog_TwinMan.k1 (x0 : Manifest) (l7 : List Part) : Option Manifest :=
  some (Manifest.mk x0.name l7)
def catalog_TwinMan.l2 (x0 : Manifest) (r3 : (List Part)) (rec13 : (Int × (List Part)) → Option Manifest) : (Int × (List Part)) → Option Manifest
  | (i11, l12) =>
    if decide (i11 < (r3.length : Int)) then
      bd (ix l12 i11) fun x15 =>
      bd (slices_Clone_32_byte_32_byte x15.ids) fun r17 =>
      rec13 (wr (i11 + 1), (l12.set i11.toNat (Part.mk x15.path x15.size r17)))
    else
      catalog_TwinMan.k1 x0 l12
def catalog_TwinMan (x0 : Manifest) : Option Manifest :=
  bd (slices_Clone_api_Part_api_Part x0.parts) fun r3 =>
  loop (catalog_TwinMan.l2 x0 r3) (0, r3)
set_option maxRecDepth 100000 in
theorem catalog_TwinMan_ok {K : Tb} {F : Frz} {w : Hp} {x0 : Manifest} {r : Manifest} {v0_0 : Val} (hA : Gd F w) (h0_0 : SlF Part.t F v0_0 x0.parts) (H : catalog_TwinMan x0 = some r) : Ret Tryz.prog K 105 [.agg (Manifest.cells x0 v0_0)] w fun v w' => ∃ (F' : Frz) (q0_0 : Val), v = .agg (Manifest.cells r q0_0) ∧ SlF Part.t F' q0_0 (r.parts) ∧ St [] w F F' [] w' := by
 refine qa1 Tryz.func105 ?_;have hS := St.start hA;dsimp only [catalog_TwinMan] at H;refine qs ?_;refine xm (E_bx (cs := [.s x0.name, v0_0]) rfl rfl (by simp only [List.all_cons, List.all_nil, List.all_append, h0_0.ln.one]; rfl) hS) ?_;rintro _ w1 ⟨g1, rfl, hS1⟩;refine xm (E_alc (cs := [.s [], .sl none 0 (.k 0)]) Ty.zero43 rfl hS1) ?_;rintro _ w2 ⟨g2, rfl, hS2⟩;refine qn ?_;refine C_seq ?_;obtain ⟨r3, hr3, H⟩ := bd_some H;refine qd ?_;refine qf Ty.field43_1 ?_;refine qb 1 Ty.cell41 hS2 ?_;refine lm (slices_Clone_api_Part_api_Part_ok hS2.good h0_0 hr3) ?_;rintro ur3_0 w4 ⟨Fr3, _, rfl, hT4⟩;have hS4 := hS2.call hT4;have ler3 := hT4.ext;refine qf Ty.field43_1 ?_;refine um (E_bst (c := [ur3_0]) 2 ([.s x0.name, ur3_0]) rfl rfl hS4 rfl (hS4.rowLn (k := 0) rfl).cells Ty.size41 (by simp only [List.all_cons, List.all_nil, List.all_append, (hS4.rowLn (k := 0) rfl).one]; rfl) rfl rfl) ?_;rintro _ w5 hS5;refine qn ?_;refine C_seq_join (fun E wq => ∃ l7 : List Part, catalog_TwinMan.k1 x0 l7 = some r ∧ ∃ (F6 : Frz), E = [(1, pl g1 0), (2, pl g2 0)] ∧ Fr3.le F6 ∧ St [] w F F6 [.row Part.t ur3_0 l7, .box g2 [.s [], .sl none 0 (.k 0)], .box g1 [.s x0.name, ur3_0]] wq) ?_ ?_
 ·refine qs ?_;refine qf Ty.field43_1 ?_;refine qb 2 Ty.cell41 hS5 ?_;refine qr (O_len Tryz.underlying41 rfl (hS5.rowLn (k := 0) rfl)) ?_;refine qm ?_;refine C_block ?_;refine C_loopM (fun (s : Int × (List Part)) E wq => ∃ (F10 : Frz), E = [(1, pl g1 0), (2, pl g2 0), (10, .i .i64 (r3.length : Int)), (11, .i .i64 s.1)] ∧ Fr3.le F10 ∧ St [] w F F10 [.row Part.t ur3_0 s.2, .box g2 [.s [], .sl none 0 (.k 0)], .box g1 [.s x0.name, ur3_0]] wq) H ?_ ?_
  ·exact ⟨_, ⟨Fr3, rfl, (Frz.le.refl _), hS5⟩, ⟨rfl, rfl, rfl, rfl, trivial⟩⟩
  ·rintro rec13 ⟨i11, l12⟩ E w10 hI H
   try dsimp only at hI
   obtain ⟨F10, rfl, le10, hS10⟩ := hI;dsimp only [catalog_TwinMan.l2] at H;refine qs ?_;refine qr (O_bin rfl rfl bI_lss) ?_;refine qn ?_;refine C_seq ?_;refine C_cond rfl (fun hc14 => ?_) (fun hc14 => ?_)
   ·rw [if_t hc14] at H;refine qk ?_;refine C_seq ?_;refine C_block ?_;refine qs ?_;refine qc ?_;refine qm ?_;obtain ⟨x15, hx15, H⟩ := bd_some H;obtain ⟨r17, hr17, H⟩ := bd_some H;have hb18 := hS10.boxAt 2 rfl;refine C_regionD (G := (F10.hold w10 [g1])) [0, 1, 2, 3, 4, 5, 6, 7, 8, 9, 10, 11, 12] rfl Ty.mixed (by kernel_rfl) (HB.agree (HB.cons 2 hb18 hS10 rfl HB.nil) hS10.agree) ?_;refine qf Ty.field43_1 ?_;refine qr (O_fld1 Ty.cell41 rfl (hb18.held (HB.cons 2 hb18 hS10 rfl HB.nil) (by simp)) rfl) ?_;refine qc ?_;refine qf Ty.field43_1 ?_;refine qbq 2 Ty.cell41 hS10 ?_;refine qc ?_;obtain ⟨hp19, hy19⟩ := ix_some hx15;obtain ⟨cs19, hr19, he19⟩ := hS10.rowAt (k := 0) rfl hy19;obtain ⟨ue16_0, rfl, hue16_0⟩ := hr19;replace he19 : Elf _ _ 3 _ _ := he19;have hi19 := he19.ixd;refine qi Tryz.underlying41 Ty.size138 hi19 hp19 ?_;refine qr (O_fld 2 Ty.field138_2 rfl hi19) ?_;refine qq (O_ld1 2 Ty.cell118 rfl he19 (by omega) rfl) ?_;refine ql (slices_Clone_32_byte_32_byte_ok hS10.good hue16_0 hr17) ?_;rintro ur17_0 w20 ⟨Fr17, _, rfl, hT20⟩;have hS20 := hS10.call hT20;have ler17 := hT20.ext;refine Nxt.frz (HB.le (HB.cons 3 hb18 hS20 rfl HB.nil) ler17) (HB.agree (HB.cons 3 hb18 hS20 rfl HB.nil) hS20.agree) ?_;refine qi Tryz.underlying41 Ty.size138 hi19 hp19 ?_;refine qr (O_fld 2 Ty.field138_2 rfl hi19) ?_;obtain ⟨F22, le22, hf22, hS22⟩ := hS20.freezeR 0 [1, 2, 3] rfl (by decide) (by decide);refine W_rg (HB.le (HB.cons 2 hb18 hS22 rfl HB.nil) le22) (HB.agree (HB.cons 2 hb18 hS22 rfl HB.nil) hS22.agree) ?_;refine qu (E_put (c := [ur17_0]) 0 (i11.toNat) 2 x15 (Part.mk x15.path x15.size r17) rfl rfl hS22 rfl (ix_some hx15).2 (by first | rfl | (show _ = _ * 3 + _; omega)) hf22.ln.cells Ty.size118 (by simp only [List.all_cons, List.all_nil, List.all_append, hf22.ln.one]; rfl) (Nat.le_of_ble_eq_true rfl) (by rintro cs ⟨a2, rfl, b2⟩; exact ⟨ur17_0, rfl, hf22⟩)) ?_;rintro _ w21 hS21;refine qh 2 hb18 hS21 ?_;refine W_nil ?_;refine N_block ?_;refine N_code ?_;refine qd ?_;refine q2 ?_;refine W_nil ?_;exact N_againM (wr (i11 + 1), (l12.set i11.toNat (Part.mk x15.path x15.size r17))) _ H ⟨F22, rfl, ((le10.trans ler17).trans le22), hS21⟩ ⟨rfl, rfl, rfl, rfl, trivial⟩
   ·rw [if_f hc14] at H;refine C_exit _ rfl ?_;exact N_join _ ⟨l12, H, ⟨F10, rfl, le10, hS10⟩⟩ ⟨rfl, rfl, trivial⟩
 ·rintro E w6 ⟨l7, H, F6, rfl, le6, hS6⟩;dsimp only [catalog_TwinMan.k1] at H;refine qs ?_;refine qr (O_bldg 2 (Manifest.cells (Manifest.mk x0.name l7) ur3_0) Ty.agg43 Ty.size43 (Nat.zero_lt_succ _) rfl hS6 rfl (fun q u h => sub_at (post := []) rfl h)) ?_;refine um (E_bst (c := [.s x0.name, ur3_0]) 1 ([.s x0.name, ur3_0]) rfl rfl hS6 rfl rfl Ty.size43 (by simp only [List.all_cons, List.all_nil, List.all_append, (hS6.rowLn (k := 0) rfl).one]; rfl) rfl rfl) ?_;rintro _ w8 hS8;refine qn ?_;obtain ⟨F9, le9, hf9, hS9⟩ := hS8.freezeR 0 [1, 2] rfl (by decide) (by decide);obtain rfl := oi H;refine C_retM (vs := [.agg (Manifest.cells (Manifest.mk x0.name l7) ur3_0)]) rfl ⟨(box_out 0 Ty.agg43 Ty.size43 hS9 rfl rfl), trivial⟩ ?_;exact ⟨F9, ur3_0, rfl, hf9, hS9.pick [] (by decide)⟩
def slices_Clone_byte_byte (x0 : List UInt8) : Option (List UInt8) :=
  bd (app (α := UInt8) ([] : List UInt8) x0) fun l6 =>
  some l6
set_option maxRecDepth 100000 in
theorem slices_Clone_byte_byte_ok {K : Tb} {F : Frz} {w : Hp} {x0 : List UInt8} {r : (List UInt8)} {v0 : Val} (hA : Gd F w) (h0 : SlF tB F v0 x0) (H : slices_Clone_byte_byte x0 = some r) : Ret Tryz.prog K 106 [v0] w fun v w' => ∃ (F' : Frz) (q0 : Val), v = q0 ∧ St [] w F F' [.row tB q0 (r)] w' := by
 refine qa1 Tryz.func106 ?_;have hS := St.start hA;dsimp only [slices_Clone_byte_byte] at H;refine qs ?_;refine qm ?_;refine C_seq ?_;refine qs ?_;refine qc ?_;refine W_nilq rfl rfl rfl rfl Tryz.underlying47 rfl rfl h0.ln ?_;intro b1 hb1;refine qn ?_;refine C_cond rfl (fun hc2 => ?_) (fun hc2 => ?_)
 ·have hx2 : x0 = [] := List.eq_nil_of_length_eq_zero (hb1 hc2);have H : (some [] : Option (List UInt8)) = some r := by first | (rw [hx2] at H; exact H) | (subst hx2; exact H)
  refine qs ?_;refine qm ?_;have hS4 := hS.nilRow tB;obtain rfl := oi H;refine C_ret rfl rfl ?_;exact ⟨F, (.sl none 0 (.k 0)), rfl, hS4⟩
 ·refine qk ?_;refine C_seq ?_;obtain ⟨l6, hl6, H⟩ := bd_some H;refine qd ?_;refine xm (E_bs (t := tB) (vs := []) (xs := ([] : List UInt8)) Tryz.underlying47 Ty.row5 rfl trivial rfl rfl hS) ?_;rintro u5 w5 hS5;refine qc ?_;refine xm (E_app (t := tB) 0 Tryz.underlying47 Ty.row5 Ty.zk47 rfl rfl hS5 rfl (h0.src hS5.agree) hl6) ?_;rintro v7 w7 hS7;refine qm ?_;obtain rfl := oi H;refine C_ret rfl rfl ?_;exact ⟨F, v7, rfl, hS7⟩
end
end Go.Wk.Lf
end
