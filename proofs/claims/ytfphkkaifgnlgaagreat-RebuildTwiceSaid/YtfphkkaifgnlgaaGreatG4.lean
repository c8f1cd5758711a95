/-  -/
import Derived.Test.YtfphkkaifgnlgaaGreatG3
set_option linter.unusedVariables false
set_option linter.unusedSimpArgs false
section
namespace Go.Wk.Lf
open Go.V Go.Proofs
noncomputable section
set_option maxRecDepth 100000
variable {K:Tb} {F:Frz} {w:Hp}
def zaw.k1 (x0:List Exp) (x1:Int) (i2:Int):Option (Int × Bool) :=
  bd (only (decide (i2 < (x0.length:Int))) (ix x0 i2) (Exp.mk 0 0 [])) fun x3 =>
  bd (only (decide (i2 < (x0.length:Int))) (zla x3 x1) 0) fun r5 =>
  some (i2,(decide (i2 < (x0.length:Int))&&decide (r5=0)))
def zaw.l2 (x0:List Exp) (x1:Int) (rec15:(Int × Int)→Option (Int × Bool)):(Int × Int)→Option (Int × Bool)
  | (i13,i14) =>
    if decide (i13 < i14) then
      bd (ix x0 (wr ((wu (wr (i13+i14))) / 2 ^ (1:Int).toNat))) fun x17 =>
      bd (zla x17 x1) fun r19 =>
      if decide (r19 < 0) then
        rec15 (wr (wr ((wu (wr (i13+i14))) / 2 ^ (1:Int).toNat)+1),i14)
      else
        rec15 (i13,wr ((wu (wr (i13+i14))) / 2 ^ (1:Int).toNat))
    else
      zaw.k1 x0 x1 i13
def zaw (x0:List Exp) (x1:Int):Option (Int × Bool) :=
  loop (zaw.l2 x0 x1) (0,(x0.length:Int))
theorem zfi {x0:List Exp} {x1:Int} {r:Int × Bool} {v0:Val} (hA:Gd F w) (h0:SlF Exp.t F v0 x0) (H:zaw x0 x1=some r):Ret Tryz.prog K 93 [v0,.i .i64 x1,.f 94 []] w fun v w'=>∃ (F':Frz),v = .tup [.i .i64 r.1,.b r.2]∧St [] w F F' [] w':=by
 refine qa3 Tryz.func93 ?_;have hS:=St.start hA;dsimp only [zaw] at H;refine qsc ?_;refine qm ?_;refine qsc ?_;refine qr (zbs Tryz.underlying36 rfl h0.ln) ?_;refine qm ?_;refine qs ?_;refine q2 ?_;refine qm ?_;refine zai (fun E wq=>∃ i2:Int,zaw.k1 x0 x1 i2=some r ∧ ∃ (F1:Frz),E=[(0,v0),(1,.i .i64 x1),(2,.f 94 []),(8,.i .i64 (x0.length:Int)),(9,.i .i64 i2)]∧F.le F1∧St [] w F F1 [] wq) ?_ ?_
 ·refine zar ?_;refine zbm (fun (s:Int × Int) E wq=>∃ (F12:Frz),E=[(0,v0),(1,.i .i64 x1),(2,.f 94 []),(8,.i .i64 (x0.length:Int)),(9,.i .i64 s.1),(10,.i .i64 s.2)]∧F.le F12∧St [] w F F12 [] wq) H ?_ ?_
  ·exact ⟨_,⟨F,rfl,(Frz.le.refl _),hS⟩,⟨rfl,rfl,rfl,rfl,rfl,rfl,trivial⟩⟩
  ·rintro rec15 ⟨i13,i14⟩ E w12 hI H
   try dsimp only at hI
   obtain ⟨F12,rfl,le12,hS12⟩:=hI;dsimp only [zaw.l2] at H;refine zay ?_;refine qs ?_;refine q2 ?_;refine qr (zah rfl rfl zbp) ?_;refine qn ?_;refine qy H (fun hc16 H=>?_) (fun hc16 H=>?_)
   ·refine qk ?_;refine zar ?_;refine qs ?_;refine q3 ?_;refine qr (zgv Tryz.underlying3 Tryz.underlying26 rfl (rfl)) ?_;refine qr (zah rfl rfl (zod (by decide) (by decide))) ?_;refine qr (zgv Tryz.underlying26 Tryz.underlying3 rfl (rfl)) ?_;refine qm ?_;obtain ⟨x17,hx17,r19,hr19,H⟩:=bd2 H;refine qs ?_;refine q3 ?_;obtain ⟨hp20,hy20⟩:=zac hx17;obtain ⟨cs20,hr20,he20⟩:=(h0.mono le12).el hy20;obtain ⟨ue18_0,rfl,hue18_0⟩:=hr20;replace he20:=qj 3 he20;have hi20:=he20.ixd;refine qi Tryz.underlying36 Ty.zfb hi20 hp20 ?_;refine qr (zfe 0 (Exp.cells x17 ue18_0) Ty.agg55 Ty.zfb rfl (he20.mono hS12.agree) (by omega) rfl (Nat.le_of_ble_eq_true rfl)) ?_;refine qc ?_;refine lm (znw hS12.good hue18_0 hr19) ?_;rintro v21 w21 ⟨Fr19,rfl,hT21⟩;have hS21:=hS12.lent hT21;refine qr (zah rfl rfl zbp) ?_;refine qn ?_;refine qy H (fun hc22 H=>?_) (fun hc22 H=>?_)
    ·refine qd ?_;refine q3 ?_;refine zbk ?_;refine zbf ?_;exact zbd (wr (wr ((wu (wr (i13+i14))) / 2 ^ (1:Int).toNat)+1),i14) _ H ⟨F12,rfl,le12,hS21⟩ ⟨rfl,rfl,rfl,rfl,rfl,rfl,trivial⟩
    ·refine qd ?_;refine q2 ?_;refine zbk ?_;refine zbf ?_;exact zbd (i13,wr ((wu (wr (i13+i14))) / 2 ^ (1:Int).toNat)) _ H ⟨F12,rfl,le12,hS21⟩ ⟨rfl,rfl,rfl,rfl,rfl,rfl,trivial⟩
   ·refine zcc _ rfl ?_;exact zbe _ ⟨i13,H,⟨F12,rfl,le12,hS12⟩⟩ ⟨rfl,rfl,rfl,rfl,rfl,trivial⟩
 ·rintro E w1 ⟨i2,H,F1,rfl,le1,hS1⟩;dsimp only [zaw.k1] at H;refine zay ?_;obtain ⟨x3,hx3,r5,hr5,H⟩:=bd2 H;refine zsh (fun E wq=>E=[(6,.i .i64 i2),(7,.b (decide (i2 < (x0.length:Int))&&decide (r5=0)))] ∧ ∃ F6:Frz,F1.le F6∧St [] w F F6 [] wq) ?_ ?_
  ·
   rcases Bool.eq_false_or_eq_true (decide (i2 < (x0.length:Int))) with hb7 | hb7
   ·refine qd ?_;refine q3 ?_;refine qr (zah rfl rfl zbp) ?_;refine qc ?_;refine qvb 39 hb7 ?_;refine q3 ?_;have hy8:=hx3;rw [zbu hb7] at hy8;obtain ⟨hp9,hy9⟩:=zac hy8;obtain ⟨cs9,hr9,he9⟩:=(h0.mono le1).el hy9;obtain ⟨ue4_0,rfl,hue4_0⟩:=hr9;replace he9:=qj 3 he9;have hi9:=he9.ixd;refine qi Tryz.underlying36 Ty.zfb hi9 hp9 ?_;refine qr (zfe 0 (Exp.cells x3 ue4_0) Ty.agg55 Ty.zfb rfl (he9.mono hS1.agree) (by omega) rfl (Nat.le_of_ble_eq_true rfl)) ?_;refine qc ?_;have hy10:=hr5;rw [zbu hb7] at hy10;refine lm (znw hS1.good hue4_0 hy10) ?_;rintro v11 w11 ⟨Fr5,rfl,hT11⟩;have hS11:=hS1.lent hT11;refine qr (zah rfl rfl zeg) ?_;refine q3 ?_;refine zbk ?_;exact zbe _ ⟨rfl,F1,(Frz.le.refl _),hS11⟩ ⟨rfl,(zdw rfl (by first | rfl | (rw [hb7];first | done | rfl) | simp [hb7])),trivial⟩
   ·refine qd ?_;refine q3 ?_;refine qr (zah rfl rfl zbp) ?_;refine qc ?_;refine qvb 39 hb7 ?_;refine qz2 ?_;refine qz2 ?_;refine qz2 ?_;refine qz2 ?_;refine q3 ?_;refine zbk ?_;exact zbe _ ⟨rfl,F1,(Frz.le.refl _),hS1⟩ ⟨rfl,(zdw rfl (by first | rfl | (rw [hb7];first | done | rfl) | simp [hb7])),trivial⟩
  rintro E w6 ⟨rfl,F6,le6,hS6⟩;refine zcl ?_;obtain rfl:=oi H;refine qt ?_;exact ⟨F6,rfl,hS6⟩
def zjf (x0:Exp) (x1:Snap):Option Bool :=
  some (decide (x0.of=x1.seq))
theorem zrq {x0:Exp} {x1:Snap} {r:Bool} {v0_0:Val} {gp1:Nat} {v1_0:Val} {v1_1:Val} (hA:Gd F w) (h0_0:SlF Loc.t F v0_0 x0.locs) (h1_0:SlF Part.t F v1_0 x1.man.parts) (h1_1:SlF Loc.t F v1_1 x1.locs) (hb1:BxF F gp1 [.i .i64 x1.seq,.s x1.man.name,v1_0,v1_1]) (H:zjf x0 x1=some r):Ret Tryz.prog K 146 [.agg (Exp.cells x0 v0_0),pl gp1 0] w fun v w'=>∃ (F':Frz),v = .b r∧St [] w F F' [] w':=by
 refine qa2 Tryz.func146 ?_;have hS:=St.start hA;dsimp only [zjf] at H;refine qs ?_;refine xm (E_bx (cs:=[.i .i64 x0.seq,.i .i64 x0.of,v0_0]) rfl rfl (by simp only [List.all_cons,List.all_nil,List.all_append,h0_0.ln.one];rfl) hS) ?_;rintro _ w1 ⟨g1,rfl,hS1⟩;refine qm ?_;refine qs ?_;refine qf Ty.zpa ?_;refine qb 0 Ty.zdd hS1 ?_;refine qf Ty.zkl ?_;refine qr (zfj Ty.zdd rfl (hb1.mono hS1.agree) rfl) ?_;refine qr (zah rfl rfl zeg) ?_;refine qm ?_;obtain rfl:=oi H;refine qt ?_;exact ⟨F,rfl,hS1.pick [] (by decide)⟩
def zal.k1:Option Int :=
  some (-1)
def zal.l2 (x0:List Exp) (x1_0:Snap) (rec4:Int→Option Int):Int→Option Int
  | i3 =>
    if decide (i3 < (x0.length:Int)) then
      bd (ix x0 i3) fun x6 =>
      bd (zjf x6 x1_0) fun r8 =>
      if r8 then
        some i3
      else
        rec4 (wr (i3+1))
    else
      zal.k1
def zal (x0:List Exp) (x1_0:Snap):Option Int :=
  loop (zal.l2 x0 x1_0) 0
theorem zgi {x0:List Exp} {x1_0:Snap} {r:Int} {v0:Val} {gp1_0:Nat} {v1_0_0:Val} {v1_0_1:Val} (hA:Gd F w) (h0:SlF Exp.t F v0 x0) (h1_0_0:SlF Part.t F v1_0_0 x1_0.man.parts) (h1_0_1:SlF Loc.t F v1_0_1 x1_0.locs) (hb1_0:BxF F gp1_0 [.i .i64 x1_0.seq,.s x1_0.man.name,v1_0_0,v1_0_1]) (H:zal x0 x1_0=some r):Ret Tryz.prog K 166 [v0,.f 146 [pl gp1_0 0]] w fun v w'=>∃ (F':Frz),v = .i .i64 r∧St [] w F F' [] w':=by
 refine qa2 Tryz.func166 ?_;have hS:=St.start hA;dsimp only [zal] at H;refine qsm ?_;refine zai (fun E wq=>zal.k1=some r ∧ ∃ (F1:Frz),E=[]∧F.le F1∧St [] w F F1 [] wq) ?_ ?_
 ·refine qsc ?_;refine qr (zbs Tryz.underlying36 rfl h0.ln) ?_;refine qm ?_;refine zar ?_;refine zbm (fun (s:Int) E wq=>∃ (F2:Frz),E=[(0,v0),(1,.f 146 [pl gp1_0 0]),(7,.i .i64 (x0.length:Int)),(8,.i .i64 s)]∧F.le F2∧St [] w F F2 [] wq) H ?_ ?_
  ·exact ⟨_,⟨F,rfl,(Frz.le.refl _),hS⟩,⟨rfl,rfl,rfl,rfl,trivial⟩⟩
  ·rintro rec4 i3 E w2 hI H
   try dsimp only at hI
   obtain ⟨F2,rfl,le2,hS2⟩:=hI;dsimp only [zal.l2] at H;refine qs ?_;refine qr (zah rfl rfl zbp) ?_;refine qn ?_;refine zay ?_;refine qy H (fun hc5 H=>?_) (fun hc5 H=>?_)
   ·refine qk ?_;refine zay ?_;refine zar ?_;refine qsc ?_;refine qm ?_;obtain ⟨x6,hx6,r8,hr8,H⟩:=bd2 H;refine qs ?_;refine q3 ?_;obtain ⟨hp9,hy9⟩:=zac hx6;obtain ⟨cs9,hr9,he9⟩:=(h0.mono le2).el hy9;obtain ⟨ue7_0,rfl,hue7_0⟩:=hr9;replace he9:=qj 3 he9;have hi9:=he9.ixd;refine qi Tryz.underlying36 Ty.zfb hi9 hp9 ?_;refine qr (zfe 0 (Exp.cells x6 ue7_0) Ty.agg55 Ty.zfb rfl (he9.mono hS2.agree) (by omega) rfl (Nat.le_of_ble_eq_true rfl)) ?_;refine lm (zrq hS2.good hue7_0 (h1_0_0.mono le2) (h1_0_1.mono le2) (hb1_0.mono le2) hr8) ?_;rintro v10 w10 ⟨Fr8,rfl,hT10⟩;have hS10:=hS2.lent hT10;refine qn ?_;refine qy H (fun hc11 H=>?_) (fun hc11 H=>?_)
    ·refine qsc ?_;refine qm ?_;obtain rfl:=oi H;refine qt ?_;exact ⟨F2,rfl,hS10⟩
    ·refine zec ?_;refine zbf ?_;refine zcl ?_;refine qd ?_;refine q2 ?_;refine zbk ?_;exact zbd (wr (i3+1)) _ H ⟨F2,rfl,le2,hS10⟩ ⟨rfl,rfl,rfl,rfl,trivial⟩
   ·refine zcc _ rfl ?_;exact zbe _ ⟨H,⟨F2,rfl,le2,hS2⟩⟩ trivial
 ·rintro E w1 ⟨H,F1,rfl,le1,hS1⟩;dsimp only [zal.k1] at H;refine qsm ?_;obtain rfl:=oi H;refine qt ?_;exact ⟨F1,rfl,hS1⟩
def zcf (x0:List Exp) (x1_0:Snap):Option Bool :=
  bd (zal x0 x1_0) fun r1 =>
  some (decide (0≤r1))
theorem zfw {x0:List Exp} {x1_0:Snap} {r:Bool} {v0:Val} {gp1_0:Nat} {v1_0_0:Val} {v1_0_1:Val} (hA:Gd F w) (h0:SlF Exp.t F v0 x0) (h1_0_0:SlF Part.t F v1_0_0 x1_0.man.parts) (h1_0_1:SlF Loc.t F v1_0_1 x1_0.locs) (hb1_0:BxF F gp1_0 [.i .i64 x1_0.seq,.s x1_0.man.name,v1_0_0,v1_0_1]) (H:zcf x0 x1_0=some r):Ret Tryz.prog K 145 [v0,.f 146 [pl gp1_0 0]] w fun v w'=>∃ (F':Frz),v = .b r∧St [] w F F' [] w':=by
 refine qa2 Tryz.func145 ?_;have hS:=St.start hA;dsimp only [zcf] at H;refine qsm ?_;obtain ⟨r1,hr1,H⟩:=zap H;refine qs ?_;refine q2 ?_;refine lm (zgi hS.good h0 h1_0_0 h1_0_1 hb1_0 hr1) ?_;rintro v2 w2 ⟨Fr1,rfl,hT2⟩;have hS2:=hS.lent hT2;refine qr (zah rfl rfl znk) ?_;refine qm ?_;obtain rfl:=oi H;refine qt ?_;exact ⟨F,rfl,hS2⟩
def zaf.k1 (x0:List (List UInt8)):Option (List (List UInt8)) :=
  some x0
def zaf.k3 (i4:Int) (rec5:Int→Option (List (List UInt8))):Option (List (List UInt8)) :=
  rec5 (wr (i4+1))
def zaf.k4 (i18:Int) (l19:List (List UInt8)):Option (List (List UInt8)) :=
  bd (cut (α:=(List UInt8)) l19 i18 (l19.length:Int)) fun l20 =>
  bd (clr l19 i18.toNat ((l19.length:Int).toNat - i18.toNat) (List.replicate 32 (0:UInt8))) fun l22 =>
  bd (cut (α:=(List UInt8)) l22 0 i18) fun l24 =>
  bd (nz l22) fun _ =>
  some l24
def zaf.k6 (i29:Int) (rec31:(Int × Int × (List (List UInt8)))→Option (List (List UInt8))) (i34:Int) (l35:List (List UInt8)):Option (List (List UInt8)) :=
  rec31 (i34,wr (i29+1),l35)
def zaf.l5 (x0:List (List UInt8)) (i4:Int) (rec31:(Int × Int × (List (List UInt8)))→Option (List (List UInt8))):(Int × Int × (List (List UInt8)))→Option (List (List UInt8))
  | (i28,i29,l30) =>
    if decide (i29 < (((x0.length:Int).toNat - i4.toNat:Nat):Int)) then
      bd (ixp l30 i4.toNat ((x0.length:Int).toNat - i4.toNat) i29) fun x36 =>
      bd (ixp l30 i4.toNat ((x0.length:Int).toNat - i4.toNat) (wr (i29 - 1))) fun x38 =>
      if (!decide (x36=x38)) then
        bd (ixp l30 i4.toNat ((x0.length:Int).toNat - i4.toNat) i29) fun x43 =>
        bd (ix l30 i28) fun x45 =>
        zaf.k6 i29 rec31 (wr (i28+1)) (l30.set i28.toNat x43)
      else
        zaf.k6 i29 rec31 i28 l30
    else
      zaf.k4 i28 l30
def zaf.l2 (x0:List (List UInt8)) (rec5:Int→Option (List (List UInt8))):Int→Option (List (List UInt8))
  | i4 =>
    if decide (i4 < (x0.length:Int)) then
      bd (ix x0 i4) fun x8 =>
      bd (ix x0 (wr (i4 - 1))) fun x10 =>
      if decide (x8=x10) then
        bd (cut (α:=(List UInt8)) x0 i4 (x0.length:Int)) fun l15 =>
        loop (zaf.l5 x0 i4) (i4,1,x0)
      else
        zaf.k3 i4 rec5
    else
      zaf.k1 x0
def zaf (x0:List (List UInt8)):Option (List (List UInt8)) :=
  if decide ((x0.length:Int) < 2) then
    some x0
  else
    loop (zaf.l2 x0) 1
theorem zja {x0:List (List UInt8)} {r:(List (List UInt8))} {v0:Val} (hS:St v0.own w F F [.row tId v0 x0] w) (H:zaf x0=some r):Ret Tryz.prog K 170 [v0] w fun v w'=>∃ (F':Frz) (q0:Val),v=q0∧St v0.own w F F' [.row tId q0 (r)] w':=by
 refine qa1 Tryz.func170 ?_;dsimp only [zaf] at H;refine qsm ?_;refine zay ?_;refine qsc ?_;refine qr (zbs Tryz.underlying118 rfl (hS.rowLn (k:=0) rfl)) ?_;refine qr (zah rfl rfl zbp) ?_;refine qn ?_;refine qy H (fun hc1 H=>?_) (fun hc1 H=>?_)
 ·refine qsc ?_;refine qm ?_;obtain rfl:=oi H;refine qt ?_;exact ⟨F,v0,rfl,hS⟩
 ·refine qk ?_;refine zai (fun E wq=>zaf.k1 x0=some r ∧ ∃ (F2:Frz),E=[(0,v0)]∧F.le F2∧St v0.own w F F2 [.row tId v0 x0] wq) ?_ ?_
  ·refine qsm ?_;refine zar ?_;refine zbm (fun (s:Int) E wq=>∃ (F3:Frz),E=[(0,v0),(3,.i .i64 s)]∧F.le F3∧St v0.own w F F3 [.row tId v0 x0] wq) H ?_ ?_
   ·exact ⟨_,⟨F,rfl,(Frz.le.refl _),hS⟩,⟨rfl,rfl,trivial⟩⟩
   ·rintro rec5 i4 E w3 hI H
    try dsimp only at hI
    obtain ⟨F3,rfl,le3,hS3⟩:=hI;dsimp only [zaf.l2] at H;refine zay ?_;refine qs ?_;refine q2 ?_;refine qr (zbs Tryz.underlying118 rfl (hS3.rowLn (k:=0) rfl)) ?_;refine qr (zah rfl rfl zbp) ?_;refine qn ?_;refine qy H (fun hc6 H=>?_) (fun hc6 H=>?_)
    ·refine qk ?_;refine zai (fun E wq=>zaf.k3 i4 rec5=some r ∧ ∃ (F7:Frz),E=[(0,v0),(3,.i .i64 i4)]∧F3.le F7∧St v0.own w F F7 [.row tId v0 x0] wq) ?_ ?_
     ·refine zar ?_;refine zay ?_;obtain ⟨x8,hx8,x10,hx10,H⟩:=bd2 H;refine zaz (G:=(nowF _)) [0,1,2,3,4,5,6,7,8,9] rfl Ty.mixed (by kernel_rfl) (zdc _) ?_;refine q2 ?_;obtain ⟨hp12,hy12⟩:=zac hx8;obtain ⟨cs12,hr12,he12⟩:=hS3.rowAt (k:=0) rfl hy12;obtain ⟨rfl,hle9⟩:=hr12;replace he12:=qj 32 he12;have hi12:=he12.ixd;refine qi Tryz.underlying118 Ty.zcy hi12 hp12 ?_;refine qr (zfe 0 (zao x8) Ty.zhs Ty.zcy rfl he12 (by omega) rfl (Nat.le_of_ble_eq_true rfl)) ?_;refine q3 ?_;obtain ⟨hp13,hy13⟩:=zac hx10;obtain ⟨cs13,hr13,he13⟩:=hS3.rowAt (k:=0) rfl hy13;obtain ⟨rfl,hle11⟩:=hr13;replace he13:=qj 32 he13;have hi13:=he13.ixd;refine qi Tryz.underlying118 Ty.zcy hi13 hp13 ?_;refine qr (zfe 0 (zao x10) Ty.zhs Ty.zcy rfl he13 (by omega) rfl (Nat.le_of_ble_eq_true rfl)) ?_;refine qr (zah rfl rfl (bA_eql Ty.eqt58 rfl rfl (zwc hle9 hle11))) ?_;refine qn ?_;refine qy H (fun hc14 H=>?_) (fun hc14 H=>?_)
      ·obtain ⟨l15,hl15,H⟩:=zap H;refine qs ?_;refine q2 ?_;refine znl 0 i4 (x0.length:Int) rfl rfl rfl rfl Tryz.underlying118 Ty.zcy rfl (.inr ⟨_,_,rfl,rfl⟩) (.inl ⟨rfl,rfl⟩) hS3 rfl hl15 ?_;intro q16 hv16 hw16;refine qm ?_;refine zai (fun E wq=>∃ i18:Int,∃ l19:List (List UInt8),zaf.k4 i18 l19=some r ∧ ∃ (F17:Frz),E=[(0,v0),(3,.i .i64 i18)]∧F3.le F17∧St v0.own w F F17 [.row tId v0 l19] wq) ?_ ?_
       ·refine qsm ?_;refine zar ?_;refine zbm (fun (s:Int × Int × (List (List UInt8))) E wq=>∃ (F27:Frz),E=[(0,v0),(3,.i .i64 s.1),(4,q16),(5,.i .i64 s.2.1)]∧F3.le F27∧St v0.own w F F27 [.row tId v0 s.2.2] wq) H ?_ ?_
        ·exact ⟨_,⟨F3,rfl,(Frz.le.refl _),hS3⟩,⟨rfl,rfl,rfl,rfl,trivial⟩⟩
        ·rintro rec31 ⟨i28,i29,l30⟩ E w27 hI H
         try dsimp only at hI
         obtain ⟨F27,rfl,le27,hS27⟩:=hI;dsimp only [zaf.l5] at H;refine zay ?_;refine qs ?_;refine q2 ?_;refine qr (zbs Tryz.underlying118 rfl hw16.ln) ?_;refine qr (zah rfl rfl zbp) ?_;refine qn ?_;refine qy H (fun hc32 H=>?_) (fun hc32 H=>?_)
         ·refine qk ?_;refine zai (fun E wq=>∃ i34:Int,∃ l35:List (List UInt8),zaf.k6 i29 rec31 i34 l35=some r ∧ ∃ (F33:Frz),E=[(0,v0),(3,.i .i64 i34),(4,q16),(5,.i .i64 i29)]∧F27.le F33∧St v0.own w F F33 [.row tId v0 l35] wq) ?_ ?_
          ·refine zar ?_;refine zay ?_;obtain ⟨x36,hx36,x38,hx38,H⟩:=bd2 H;refine zaz (G:=(nowF _)) [0,1,2,3,4,5,6,7,8,9] rfl Ty.mixed (by kernel_rfl) (zdc _) ?_;refine q2 ?_;obtain ⟨hp40,hz40,hy40⟩:=zpx hx36;obtain ⟨cs40,hr40,he40⟩:=hS27.rowAt (k:=0) rfl hy40;obtain ⟨rfl,hle37⟩:=hr40;replace he40:=he40.piece hw16 hz40;replace he40:=qj 32 he40;have hi40:=he40.ixd;refine qi Tryz.underlying118 Ty.zcy hi40 hp40 ?_;refine qr (zfe 0 (zao x36) Ty.zhs Ty.zcy rfl he40 (by omega) rfl (Nat.le_of_ble_eq_true rfl)) ?_;refine q3 ?_;obtain ⟨hp41,hz41,hy41⟩:=zpx hx38;obtain ⟨cs41,hr41,he41⟩:=hS27.rowAt (k:=0) rfl hy41;obtain ⟨rfl,hle39⟩:=hr41;replace he41:=he41.piece hw16 hz41;replace he41:=qj 32 he41;have hi41:=he41.ixd;refine qi Tryz.underlying118 Ty.zcy hi41 hp41 ?_;refine qr (zfe 0 (zao x38) Ty.zhs Ty.zcy rfl he41 (by omega) rfl (Nat.le_of_ble_eq_true rfl)) ?_;refine qr (zah rfl rfl (bA_neq Ty.eqt58 rfl rfl (zwc hle37 hle39))) ?_;refine qn ?_;refine qy H (fun hc42 H=>?_) (fun hc42 H=>?_)
           ·obtain ⟨x43,hx43,x45,hx45,H⟩:=bd2 H;refine qs ?_;refine q4 ?_;obtain ⟨hp47,hz47,hy47⟩:=zpx hx43;obtain ⟨cs47,hr47,he47⟩:=hS27.rowAt (k:=0) rfl hy47;obtain ⟨rfl,hle44⟩:=hr47;replace he47:=he47.piece hw16 hz47;replace he47:=qj 32 he47;have hi47:=he47.ixd;refine qi Tryz.underlying118 Ty.zcy hi47 hp47 ?_;refine qr (zfe 0 (zao x43) Ty.zhs Ty.zcy rfl he47 (by omega) rfl (Nat.le_of_ble_eq_true rfl)) ?_;obtain ⟨hp48,hy48⟩:=zac hx45;obtain ⟨cs48,hr48,he48⟩:=hS27.rowAt (k:=0) rfl hy48;obtain ⟨rfl,hle46⟩:=hr48;replace he48:=qj 32 he48;have hi48:=he48.ixd;refine qi Tryz.underlying118 Ty.zcy hi48 hp48 ?_;refine um (zuc (c:=zao x43) 0 (i28.toNat) 0 x45 x43 rfl rfl hS27 rfl (zac hx45).2 (by first | rfl | (show _=_*32+_;omega)) rfl Ty.zcy rfl (Nat.le_of_ble_eq_true rfl) (by rintro cs ⟨rfl,c0⟩;exact ⟨rfl,hle44⟩)) ?_;rintro _ w49 hS49;refine qn ?_;refine qd ?_;refine q3 ?_;refine zbk ?_;refine zbf ?_;exact zbe _ ⟨wr (i28+1),(l30.set i28.toNat x43),H,⟨F27,rfl,(Frz.le.refl _),hS49⟩⟩ ⟨rfl,rfl,rfl,rfl,trivial⟩
           ·refine zec ?_;refine zbf ?_;exact zbe _ ⟨i28,l30,H,⟨F27,rfl,(Frz.le.refl _),hS27⟩⟩ ⟨rfl,rfl,rfl,rfl,trivial⟩
          ·rintro E w33 ⟨i34,l35,H,F33,rfl,le33,hS33⟩;dsimp only [zaf.k6] at H;refine qd ?_;refine q3 ?_;refine zbk ?_;exact zbd (i34,wr (i29+1),l35) _ H ⟨F33,rfl,(le27.trans le33),hS33⟩ ⟨rfl,rfl,rfl,rfl,trivial⟩
         ·refine zcc _ rfl ?_;exact zbe _ ⟨i28,l30,H,⟨F27,rfl,le27,hS27⟩⟩ ⟨rfl,rfl,trivial⟩
       ·rintro E w17 ⟨i18,l19,H,F17,rfl,le17,hS17⟩;dsimp only [zaf.k4] at H;obtain ⟨l20,hl20,l22,hl22,H⟩:=bd2 H;refine qs ?_;refine q2 ?_;refine znl 0 i18 (l19.length:Int) rfl rfl rfl rfl Tryz.underlying118 Ty.zcy rfl (.inr ⟨_,_,rfl,rfl⟩) (.inl ⟨rfl,rfl⟩) hS17 rfl hl20 ?_;intro q21 hv21 hw21;refine um (E_clr (tr:=tId) (x0:=(List.replicate 32 (0:UInt8))) 0 Tryz.underlying118 Ty.zsz ⟨rfl,(List.length_replicate)⟩ rfl hS17 rfl hw21 hl22) ?_;rintro _ w23 hS23;refine qn ?_;obtain ⟨l24,hl24,H⟩:=zap H;refine qs ?_;refine q2 ?_;refine znl 0 0 i18 rfl rfl rfl rfl Tryz.underlying118 Ty.zcy rfl (.inl ⟨rfl,rfl⟩) (.inr ⟨_,_,rfl,rfl⟩) hS23 rfl hl24 ?_;intro q25 hv25 hw25;refine qm ?_;obtain ⟨_,hnz26,H⟩:=zap H;have hS26:=hS23.shrink 0 rfl hw25 hl24 hnz26;obtain rfl:=oi H;refine qt ?_;exact ⟨F17,q25,rfl,hS26⟩
      ·refine zec ?_;refine zbf ?_;exact zbe _ ⟨H,⟨F3,rfl,(Frz.le.refl _),hS3⟩⟩ ⟨rfl,rfl,trivial⟩
     ·rintro E w7 ⟨H,F7,rfl,le7,hS7⟩;dsimp only [zaf.k3] at H;refine qd ?_;refine q3 ?_;refine zbk ?_;exact zbd (wr (i4+1)) _ H ⟨F7,rfl,(le3.trans le7),hS7⟩ ⟨rfl,rfl,trivial⟩
    ·refine zcc _ rfl ?_;exact zbe _ ⟨H,⟨F3,rfl,le3,hS3⟩⟩ ⟨rfl,trivial⟩
  ·rintro E w2 ⟨H,F2,rfl,le2,hS2⟩;dsimp only [zaf.k1] at H;refine qsc ?_;refine qm ?_;obtain rfl:=oi H;refine qt ?_;exact ⟨F2,v0,rfl,hS2⟩
def zdh (x0:List (List UInt8)):Option (List (List UInt8)) :=
  bd (app (α:=(List UInt8)) ([]:List (List UInt8)) x0) fun l6 =>
  some l6
theorem zhb {x0:List (List UInt8)} {r:(List (List UInt8))} {v0:Val} (hA:Gd F w) (h0:SlF tId F v0 x0) (H:zdh x0=some r):Ret Tryz.prog K 154 [v0] w fun v w'=>∃ (F':Frz) (q0:Val),v=q0∧St [] w F F' [.row tId q0 (r)] w':=by
 refine qa1 Tryz.func154 ?_;have hS:=St.start hA;dsimp only [zdh] at H;refine qsm ?_;refine zay ?_;refine qsc ?_;refine zti rfl rfl rfl rfl Tryz.underlying118 rfl rfl h0.ln ?_;intro b1 hb1;refine qn ?_;refine zib rfl (fun hc2=>?_) (fun hc2=>?_)
 ·have hx2:x0=[]:=List.eq_nil_of_length_eq_zero (hb1 hc2);have H:(some []:Option (List (List UInt8)))=some r:=by first | (rw [hx2] at H;exact H) | (subst hx2;exact H)
  refine qsm ?_;have hS4:=hS.nilRow tId;obtain rfl:=oi H;refine qt ?_;exact ⟨F,(.sl none 0 (.k 0)),rfl,hS4⟩
 ·refine qk ?_;obtain ⟨l6,hl6,H⟩:=zap H;refine qs ?_;refine xm (E_bs (t:=tId) (vs:=[]) (xs:=([]:List (List UInt8))) Tryz.underlying118 Ty.zvb rfl trivial rfl rfl hS) ?_;rintro u5 w5 hS5;refine qc ?_;refine xm (zgg (t:=tId) 0 Tryz.underlying118 Ty.zvb Ty.zk118 rfl rfl hS5 rfl (h0.src hS5.agree) hl6) ?_;rintro v7 w7 hS7;refine qm ?_;obtain rfl:=oi H;refine qt ?_;exact ⟨F,v7,rfl,hS7⟩
def zje (x0:List UInt8) (x1:Catalog):Option Bool :=
  bd (zhn x1.chunks x0) fun r2 =>
  some (!r2.2)
theorem zrp [Kn (KExt Tryz.prog) K]  {x0:List UInt8} {x1:Catalog} {r:Bool} {gp1:Nat} {v1_0:Val} {v1_1:Val} {v1_2:Val} {v1_3:Val} (hA:Gd F w) (h0:x0.length=32) (h1_0:SlF Snap.t F v1_0 x1.snaps) (h1_1:SlF Chunk.t F v1_1 x1.chunks) (h1_2:SlF Exp.t F v1_2 x1.exps) (h1_3:SlF Vol.t F v1_3 x1.vols) (hb1:BxF F gp1 [.i .i64 x1.seq,v1_0,v1_1,v1_2,v1_3]) (H:zje x0 x1=some r):Ret Tryz.prog K 149 [.agg (zao x0),pl gp1 0] w fun v w'=>∃ (F':Frz),v = .b r∧St [] w F F' [] w':=by
 refine qa2 Tryz.func149 ?_;have hS:=St.start hA;dsimp only [zje] at H;refine qs ?_;refine xm (E_bx (cs:=zao x0) rfl rfl rfl hS) ?_;rintro _ w1 ⟨g1,rfl,hS1⟩;refine qm ?_;obtain ⟨r2,hr2,H⟩:=zap H;refine qs ?_;refine qf Ty.zcq ?_;refine qr (zfj Ty.zgd rfl (hb1.mono hS1.agree) rfl) ?_;refine qr (zde 0 (zao x0) Ty.zhs Ty.zcy (Nat.zero_lt_succ _) rfl hS1 rfl (fun q u h=>zdb (post:=[]) rfl h)) ?_;refine lm (zku hS1.good h1_1 h0 hr2) ?_;rintro v3 w3 ⟨Fr2,rfl,hT3⟩;have hS3:=hS1.lent hT3;refine q4 ?_;refine qm ?_;refine qs ?_;refine q2 ?_;refine qm ?_;obtain rfl:=oi H;refine qt ?_;exact ⟨F,rfl,hS3.pick [] (by decide)⟩
def zam.k1:Option Int :=
  some (-1)
def zam.l2 (x0:List (List UInt8)) (x1_0:Catalog) (rec4:Int→Option Int):Int→Option Int
  | i3 =>
    if decide (i3 < (x0.length:Int)) then
      bd (ix x0 i3) fun x6 =>
      bd (zje x6 x1_0) fun r8 =>
      if r8 then
        some i3
      else
        rec4 (wr (i3+1))
    else
      zam.k1
def zam (x0:List (List UInt8)) (x1_0:Catalog):Option Int :=
  loop (zam.l2 x0 x1_0) 0
theorem zgj [Kn (KExt Tryz.prog) K]  {x0:List (List UInt8)} {x1_0:Catalog} {r:Int} {v0:Val} {gp1_0:Nat} {v1_0_0:Val} {v1_0_1:Val} {v1_0_2:Val} {v1_0_3:Val} (hA:Gd F w) (h0:SlF tId F v0 x0) (h1_0_0:SlF Snap.t F v1_0_0 x1_0.snaps) (h1_0_1:SlF Chunk.t F v1_0_1 x1_0.chunks) (h1_0_2:SlF Exp.t F v1_0_2 x1_0.exps) (h1_0_3:SlF Vol.t F v1_0_3 x1_0.vols) (hb1_0:BxF F gp1_0 [.i .i64 x1_0.seq,v1_0_0,v1_0_1,v1_0_2,v1_0_3]) (H:zam x0 x1_0=some r):Ret Tryz.prog K 167 [v0,.f 149 [pl gp1_0 0]] w fun v w'=>∃ (F':Frz),v = .i .i64 r∧St [] w F F' [] w':=by
 refine qa2 Tryz.func167 ?_;have hS:=St.start hA;dsimp only [zam] at H;refine qsm ?_;refine zai (fun E wq=>zam.k1=some r ∧ ∃ (F1:Frz),E=[]∧F.le F1∧St [] w F F1 [] wq) ?_ ?_
 ·refine qsc ?_;refine qr (zbs Tryz.underlying118 rfl h0.ln) ?_;refine qm ?_;refine zar ?_;refine zbm (fun (s:Int) E wq=>∃ (F2:Frz),E=[(0,v0),(1,.f 149 [pl gp1_0 0]),(7,.i .i64 (x0.length:Int)),(8,.i .i64 s)]∧F.le F2∧St [] w F F2 [] wq) H ?_ ?_
  ·exact ⟨_,⟨F,rfl,(Frz.le.refl _),hS⟩,⟨rfl,rfl,rfl,rfl,trivial⟩⟩
  ·rintro rec4 i3 E w2 hI H
   try dsimp only at hI
   obtain ⟨F2,rfl,le2,hS2⟩:=hI;dsimp only [zam.l2] at H;refine qs ?_;refine qr (zah rfl rfl zbp) ?_;refine qn ?_;refine zay ?_;refine qy H (fun hc5 H=>?_) (fun hc5 H=>?_)
   ·refine qk ?_;refine zay ?_;refine zar ?_;refine qsc ?_;refine qm ?_;obtain ⟨x6,hx6,r8,hr8,H⟩:=bd2 H;refine qs ?_;refine q3 ?_;obtain ⟨hp9,hy9⟩:=zac hx6;obtain ⟨cs9,hr9,he9⟩:=(h0.mono le2).el hy9;obtain ⟨rfl,hle7⟩:=hr9;replace he9:=qj 32 he9;have hi9:=he9.ixd;refine qi Tryz.underlying118 Ty.zcy hi9 hp9 ?_;refine qr (zfe 0 (zao x6) Ty.zhs Ty.zcy rfl (he9.mono hS2.agree) (by omega) rfl (Nat.le_of_ble_eq_true rfl)) ?_;refine lm (zrp hS2.good hle7 (h1_0_0.mono le2) (h1_0_1.mono le2) (h1_0_2.mono le2) (h1_0_3.mono le2) (hb1_0.mono le2) hr8) ?_;rintro v10 w10 ⟨Fr8,rfl,hT10⟩;have hS10:=hS2.lent hT10;refine qn ?_;refine qy H (fun hc11 H=>?_) (fun hc11 H=>?_)
    ·refine qsc ?_;refine qm ?_;obtain rfl:=oi H;refine qt ?_;exact ⟨F2,rfl,hS10⟩
    ·refine zec ?_;refine zbf ?_;refine zcl ?_;refine qd ?_;refine q2 ?_;refine zbk ?_;exact zbd (wr (i3+1)) _ H ⟨F2,rfl,le2,hS10⟩ ⟨rfl,rfl,rfl,rfl,trivial⟩
   ·refine zcc _ rfl ?_;exact zbe _ ⟨H,⟨F2,rfl,le2,hS2⟩⟩ trivial
 ·rintro E w1 ⟨H,F1,rfl,le1,hS1⟩;dsimp only [zam.k1] at H;refine qsm ?_;obtain rfl:=oi H;refine qt ?_;exact ⟨F1,rfl,hS1⟩
def zcg (x0:List (List UInt8)) (x1_0:Catalog):Option Bool :=
  bd (zam x0 x1_0) fun r1 =>
  some (decide (0≤r1))
theorem zfx [Kn (KExt Tryz.prog) K]  {x0:List (List UInt8)} {x1_0:Catalog} {r:Bool} {v0:Val} {gp1_0:Nat} {v1_0_0:Val} {v1_0_1:Val} {v1_0_2:Val} {v1_0_3:Val} (hA:Gd F w) (h0:SlF tId F v0 x0) (h1_0_0:SlF Snap.t F v1_0_0 x1_0.snaps) (h1_0_1:SlF Chunk.t F v1_0_1 x1_0.chunks) (h1_0_2:SlF Exp.t F v1_0_2 x1_0.exps) (h1_0_3:SlF Vol.t F v1_0_3 x1_0.vols) (hb1_0:BxF F gp1_0 [.i .i64 x1_0.seq,v1_0_0,v1_0_1,v1_0_2,v1_0_3]) (H:zcg x0 x1_0=some r):Ret Tryz.prog K 147 [v0,.f 149 [pl gp1_0 0]] w fun v w'=>∃ (F':Frz),v = .b r∧St [] w F F' [] w':=by
 refine qa2 Tryz.func147 ?_;have hS:=St.start hA;dsimp only [zcg] at H;refine qsm ?_;obtain ⟨r1,hr1,H⟩:=zap H;refine qs ?_;refine q2 ?_;refine lm (zgj hS.good h0 h1_0_0 h1_0_1 h1_0_2 h1_0_3 hb1_0 hr1) ?_;rintro v2 w2 ⟨Fr1,rfl,hT2⟩;have hS2:=hS.lent hT2;refine qr (zah rfl rfl znk) ?_;refine qm ?_;obtain rfl:=oi H;refine qt ?_;exact ⟨F,rfl,hS2⟩
def zjg (x0:Snap) (x1:Snap):Option Bool :=
  some (x0.man.name == x1.man.name)
theorem zlz {x0:Snap} {x1:Snap} {r:Bool} {v0_0:Val} {v0_1:Val} {gp1:Nat} {v1_0:Val} {v1_1:Val} (hA:Gd F w) (h0_0:SlF Part.t F v0_0 x0.man.parts) (h0_1:SlF Loc.t F v0_1 x0.locs) (h1_0:SlF Part.t F v1_0 x1.man.parts) (h1_1:SlF Loc.t F v1_1 x1.locs) (hb1:BxF F gp1 [.i .i64 x1.seq,.s x1.man.name,v1_0,v1_1]) (H:zjg x0 x1=some r):Ret Tryz.prog K 97 [.agg (Snap.cells x0 v0_0 v0_1),pl gp1 0] w fun v w'=>∃ (F':Frz),v = .b r∧St [] w F F' [] w':=by
 refine qa2 Tryz.func97 ?_;have hS:=St.start hA;dsimp only [zjg] at H;refine qs ?_;refine xm (E_bx (cs:=[.i .i64 x0.seq,.s x0.man.name,v0_0,v0_1]) rfl rfl (by simp only [List.all_cons,List.all_nil,List.all_append,h0_0.ln.one,h0_1.ln.one];rfl) hS) ?_;rintro _ w1 ⟨g1,rfl,hS1⟩;refine qm ?_;refine qs ?_;refine qf Ty.zie ?_;refine qf Ty.zjo ?_;refine qb 0 Ty.zkp hS1 ?_;refine qf Ty.zie ?_;refine qf Ty.zjo ?_;refine qr (zfj Ty.zkp rfl (hb1.mono hS1.agree) rfl) ?_;refine qr (zah rfl rfl bS_eql) ?_;refine qm ?_;obtain rfl:=oi H;refine qt ?_;exact ⟨F,rfl,hS1.pick [] (by decide)⟩
def zau.k1:Option Int :=
  some (-1)
def zau.l2 (x0:List Snap) (x1_0:Snap) (rec4:Int→Option Int):Int→Option Int
  | i3 =>
    if decide (i3 < (x0.length:Int)) then
      bd (ix x0 i3) fun x6 =>
      bd (zjg x6 x1_0) fun r8 =>
      if r8 then
        some i3
      else
        rec4 (wr (i3+1))
    else
      zau.k1
def zau (x0:List Snap) (x1_0:Snap):Option Int :=
  loop (zau.l2 x0 x1_0) 0
theorem zga {x0:List Snap} {x1_0:Snap} {r:Int} {v0:Val} {gp1_0:Nat} {v1_0_0:Val} {v1_0_1:Val} (hA:Gd F w) (h0:SlF Snap.t F v0 x0) (h1_0_0:SlF Part.t F v1_0_0 x1_0.man.parts) (h1_0_1:SlF Loc.t F v1_0_1 x1_0.locs) (hb1_0:BxF F gp1_0 [.i .i64 x1_0.seq,.s x1_0.man.name,v1_0_0,v1_0_1]) (H:zau x0 x1_0=some r):Ret Tryz.prog K 115 [v0,.f 97 [pl gp1_0 0]] w fun v w'=>∃ (F':Frz),v = .i .i64 r∧St [] w F F' [] w':=by
 refine qa2 Tryz.func115 ?_;have hS:=St.start hA;dsimp only [zau] at H;refine qsm ?_;refine zai (fun E wq=>zau.k1=some r ∧ ∃ (F1:Frz),E=[]∧F.le F1∧St [] w F F1 [] wq) ?_ ?_
 ·refine qsc ?_;refine qr (zbs Tryz.underlying34 rfl h0.ln) ?_;refine qm ?_;refine zar ?_;refine zbm (fun (s:Int) E wq=>∃ (F2:Frz),E=[(0,v0),(1,.f 97 [pl gp1_0 0]),(7,.i .i64 (x0.length:Int)),(8,.i .i64 s)]∧F.le F2∧St [] w F F2 [] wq) H ?_ ?_
  ·exact ⟨_,⟨F,rfl,(Frz.le.refl _),hS⟩,⟨rfl,rfl,rfl,rfl,trivial⟩⟩
  ·rintro rec4 i3 E w2 hI H
   try dsimp only at hI
   obtain ⟨F2,rfl,le2,hS2⟩:=hI;dsimp only [zau.l2] at H;refine qs ?_;refine qr (zah rfl rfl zbp) ?_;refine qn ?_;refine zay ?_;refine qy H (fun hc5 H=>?_) (fun hc5 H=>?_)
   ·refine qk ?_;refine zay ?_;refine zar ?_;refine qsc ?_;refine qm ?_;obtain ⟨x6,hx6,r8,hr8,H⟩:=bd2 H;refine qs ?_;refine q3 ?_;obtain ⟨hp9,hy9⟩:=zac hx6;obtain ⟨cs9,hr9,he9⟩:=(h0.mono le2).el hy9;obtain ⟨ue7_0,ue7_1,rfl,hue7_0,hue7_1⟩:=hr9;replace he9:=qj 4 he9;have hi9:=he9.ixd;refine qi Tryz.underlying34 Ty.zdl hi9 hp9 ?_;refine qr (zfe 0 (Snap.cells x6 ue7_0 ue7_1) Ty.zsx Ty.zdl rfl (he9.mono hS2.agree) (by omega) rfl (Nat.le_of_ble_eq_true rfl)) ?_;refine lm (zlz hS2.good hue7_0 hue7_1 (h1_0_0.mono le2) (h1_0_1.mono le2) (hb1_0.mono le2) hr8) ?_;rintro v10 w10 ⟨Fr8,rfl,hT10⟩;have hS10:=hS2.lent hT10;refine qn ?_;refine qy H (fun hc11 H=>?_) (fun hc11 H=>?_)
    ·refine qsc ?_;refine qm ?_;obtain rfl:=oi H;refine qt ?_;exact ⟨F2,rfl,hS10⟩
    ·refine zec ?_;refine zbf ?_;refine zcl ?_;refine qd ?_;refine q2 ?_;refine zbk ?_;exact zbd (wr (i3+1)) _ H ⟨F2,rfl,le2,hS10⟩ ⟨rfl,rfl,rfl,rfl,trivial⟩
   ·refine zcc _ rfl ?_;exact zbe _ ⟨H,⟨F2,rfl,le2,hS2⟩⟩ trivial
 ·rintro E w1 ⟨H,F1,rfl,le1,hS1⟩;dsimp only [zau.k1] at H;refine qsm ?_;obtain rfl:=oi H;refine qt ?_;exact ⟨F1,rfl,hS1⟩
def zag.k1 (i5:Int) (l6:List Snap):Option (List Snap) :=
  bd (cut (α:=Snap) l6 i5 (l6.length:Int)) fun l7 =>
  bd (clr l6 i5.toNat ((l6.length:Int).toNat - i5.toNat) (Snap.mk 0 (Manifest.mk [] []) [])) fun l9 =>
  bd (cut (α:=Snap) l9 0 i5) fun l11 =>
  bd (nz l9) fun _ =>
  some l11
def zag.k3 (i16:Int) (rec18:(Int × Int × (List Snap))→Option (List Snap)) (i21:Int) (l22:List Snap):Option (List Snap) :=
  rec18 (i21,wr (i16+1),l22)
def zag.l2 (x1_0:Snap) (rec18:(Int × Int × (List Snap))→Option (List Snap)):(Int × Int × (List Snap))→Option (List Snap)
  | (i15,i16,l17) =>
    if decide (i16 < (l17.length:Int)) then
      bd (ix l17 i16) fun x23 =>
      bd (zjg x23 x1_0) fun r28 =>
      if (!r28) then
        bd (ix l17 i15) fun x31 =>
        zag.k3 i16 rec18 (wr (i15+1)) (l17.set i15.toNat x23)
      else
        zag.k3 i16 rec18 i15 l17
    else
      zag.k1 i15 l17
def zag (x0:List Snap) (x1_0:Snap):Option (List Snap) :=
  bd (zau x0 x1_0) fun r1 =>
  if decide (r1=(-1)) then
    some x0
  else
    loop (zag.l2 x1_0) (r1,wr (r1+1),x0)
theorem zfv {x0:List Snap} {x1_0:Snap} {r:(List Snap)} {v0:Val} {gp1_0:Nat} {v1_0_0:Val} {v1_0_1:Val} (hS:St v0.own w F F [.row Snap.t v0 x0] w) (h1_0_0:SlF Part.t F v1_0_0 x1_0.man.parts) (h1_0_1:SlF Loc.t F v1_0_1 x1_0.locs) (hb1_0:BxF F gp1_0 [.i .i64 x1_0.seq,.s x1_0.man.name,v1_0_0,v1_0_1]) (H:zag x0 x1_0=some r):Ret Tryz.prog K 65 [v0,.f 97 [pl gp1_0 0]] w fun v w'=>∃ (F':Frz) (q0:Val),v=q0∧St v0.own w F F' [.row Snap.t q0 (r)] w':=by
 refine qa2 Tryz.func65 ?_;dsimp only [zag] at H;refine qsm ?_;obtain ⟨r1,hr1,H⟩:=zap H;refine qs ?_;refine q2 ?_;refine lm (zga (Gd.now hS.wf) (hS.rowNow (k:=0) rfl) (h1_0_0.mono hS.agree) (h1_0_1.mono hS.agree) (hb1_0.mono hS.agree) hr1) ?_;rintro v2 w2 ⟨Fr1,rfl,hT2⟩;have hS2:=hS.lent hT2;refine qm ?_;refine zay ?_;refine qsc ?_;refine qr (zah rfl rfl zeg) ?_;refine qn ?_;refine qy H (fun hc3 H=>?_) (fun hc3 H=>?_)
 ·refine qsc ?_;refine qm ?_;obtain rfl:=oi H;refine qt ?_;exact ⟨F,v0,rfl,hS2⟩
 ·refine qk ?_;refine zai (fun E wq=>∃ i5:Int,∃ l6:List Snap,zag.k1 i5 l6=some r ∧ ∃ (F4:Frz),E=[(0,v0),(5,.i .i64 i5)]∧F.le F4∧St v0.own w F F4 [.row Snap.t v0 l6] wq) ?_ ?_
  ·refine qs ?_;refine q2 ?_;refine qm ?_;refine zar ?_;refine zbm (fun (s:Int × Int × (List Snap)) E wq=>∃ (F14:Frz),E=[(0,v0),(1,.f 97 [pl gp1_0 0]),(5,.i .i64 s.1),(6,.i .i64 s.2.1)]∧F.le F14∧St v0.own w F F14 [.row Snap.t v0 s.2.2] wq) H ?_ ?_
   ·exact ⟨_,⟨F,rfl,(Frz.le.refl _),hS2⟩,⟨rfl,rfl,rfl,rfl,trivial⟩⟩
   ·rintro rec18 ⟨i15,i16,l17⟩ E w14 hI H
    try dsimp only at hI
    obtain ⟨F14,rfl,le14,hS14⟩:=hI;dsimp only [zag.l2] at H;refine zay ?_;refine qs ?_;refine q2 ?_;refine qr (zbs Tryz.underlying34 rfl (hS14.rowLn (k:=0) rfl)) ?_;refine qr (zah rfl rfl zbp) ?_;refine qn ?_;refine qy H (fun hc19 H=>?_) (fun hc19 H=>?_)
    ·refine qk ?_;refine zai (fun E wq=>∃ i21:Int,∃ l22:List Snap,zag.k3 i16 rec18 i21 l22=some r ∧ ∃ (F20:Frz),E=[(0,v0),(1,.f 97 [pl gp1_0 0]),(5,.i .i64 i21),(6,.i .i64 i16)]∧F14.le F20∧St v0.own w F F20 [.row Snap.t v0 l22] wq) ?_ ?_
     ·refine zar ?_;obtain ⟨x23,hx23,H⟩:=zap H;refine qs ?_;refine q2 ?_;obtain ⟨hp26,hy26⟩:=zac hx23;obtain ⟨cs26,hr26,he26⟩:=hS14.rowAt (k:=0) rfl hy26;obtain ⟨ue24_0,ue24_1,rfl,hue24_0,hue24_1⟩:=hr26;replace he26:=qj 4 he26;have hi26:=he26.ixd;refine qi Tryz.underlying34 Ty.zdl hi26 hp26 ?_;refine qr (zfe 0 (Snap.cells x23 ue24_0 ue24_1) Ty.zsx Ty.zdl rfl he26 (by omega) rfl (Nat.le_of_ble_eq_true rfl)) ?_;refine xm (zft (cs:=[.i .i64 0,.s [],.sl none 0 (.k 0),.sl none 0 (.k 0)]) Ty.zero46 rfl hS14) ?_;rintro _ w25 ⟨g25,rfl,hS25⟩;refine um (zea (c:=[.i .i64 x23.seq,.s x23.man.name,ue24_0,ue24_1]) 0 ([.i .i64 x23.seq,.s x23.man.name,ue24_0,ue24_1]) rfl rfl hS25 rfl rfl Ty.zdl (by simp only [List.all_cons,List.all_nil,List.all_append,hue24_0.ln.one,hue24_1.ln.one];rfl) rfl rfl) ?_;rintro _ w27 hS27;refine qn ?_;obtain ⟨r28,hr28,H⟩:=zap H;refine qsc ?_;refine qr (zde 0 (Snap.cells x23 ue24_0 ue24_1) Ty.zsx Ty.zdl (Nat.zero_lt_succ _) rfl hS27 rfl (fun q u h=>zdb (post:=[]) rfl h)) ?_;refine lm (zlz hS27.good hue24_0 hue24_1 (h1_0_0.mono le14) (h1_0_1.mono le14) (hb1_0.mono le14) hr28) ?_;rintro v29 w29 ⟨Fr28,rfl,hT29⟩;have hS29:=hS27.lent hT29;refine qm ?_;refine qy H (fun hc30 H=>?_) (fun hc30 H=>?_)
      ·obtain ⟨x31,hx31,H⟩:=zap H;refine qs ?_;refine q2 ?_;refine qr (zde 0 (Snap.cells x23 ue24_0 ue24_1) Ty.zsx Ty.zdl (Nat.zero_lt_succ _) rfl hS29 rfl (fun q u h=>zdb (post:=[]) rfl h)) ?_;obtain ⟨hp33,hy33⟩:=zac hx31;obtain ⟨cs33,hr33,he33⟩:=hS29.rowAt (k:=1) rfl hy33;obtain ⟨ue32_0,ue32_1,rfl,hue32_0,hue32_1⟩:=hr33;replace he33:=qj 4 he33;have hi33:=he33.ixd;refine qi Tryz.underlying34 Ty.zdl hi33 hp33 ?_;refine um (zuc (c:=[.i .i64 x23.seq,.s x23.man.name,ue24_0,ue24_1]) 1 (i15.toNat) 0 x31 x23 rfl rfl hS29 rfl (zac hx31).2 (by first | rfl | (show _=_*4+_;omega)) rfl Ty.zdl (by simp only [List.all_cons,List.all_nil,List.all_append,hue24_0.ln.one,hue24_1.ln.one];rfl) (Nat.le_of_ble_eq_true rfl) (by rintro cs ⟨a2,a3,rfl,b2,b3⟩;exact ⟨ue24_0,ue24_1,rfl,hue24_0,hue24_1⟩)) ?_;rintro _ w34 hS34;refine qn ?_;refine qd ?_;refine q3 ?_;refine zbk ?_;refine zbf ?_;exact zbe _ ⟨wr (i15+1),(l17.set i15.toNat x23),H,⟨F14,rfl,(Frz.le.refl _),hS34.pick [1] (by decide)⟩⟩ ⟨rfl,rfl,rfl,rfl,trivial⟩
      ·refine zec ?_;refine zbf ?_;exact zbe _ ⟨i15,l17,H,⟨F14,rfl,(Frz.le.refl _),hS29.pick [1] (by decide)⟩⟩ ⟨rfl,rfl,rfl,rfl,trivial⟩
     ·rintro E w20 ⟨i21,l22,H,F20,rfl,le20,hS20⟩;dsimp only [zag.k3] at H;refine qd ?_;refine q3 ?_;refine zbk ?_;exact zbd (i21,wr (i16+1),l22) _ H ⟨F20,rfl,(le14.trans le20),hS20⟩ ⟨rfl,rfl,rfl,rfl,trivial⟩
    ·refine zcc _ rfl ?_;exact zbe _ ⟨i15,l17,H,⟨F14,rfl,le14,hS14⟩⟩ ⟨rfl,rfl,trivial⟩
  ·rintro E w4 ⟨i5,l6,H,F4,rfl,le4,hS4⟩;dsimp only [zag.k1] at H;obtain ⟨l7,hl7,l9,hl9,H⟩:=bd2 H;refine qs ?_;refine q2 ?_;refine znl 0 i5 (l6.length:Int) rfl rfl rfl rfl Tryz.underlying34 Ty.zdl rfl (.inr ⟨_,_,rfl,rfl⟩) (.inl ⟨rfl,rfl⟩) hS4 rfl hl7 ?_;intro q8 hv8 hw8;refine um (E_clr (tr:=Snap.t) (x0:=(Snap.mk 0 (Manifest.mk [] []) [])) 0 Tryz.underlying34 Ty.zero46 ⟨.sl none 0 (.k 0),.sl none 0 (.k 0),rfl,(SlF.nil _),(SlF.nil _)⟩ rfl hS4 rfl hw8 hl9) ?_;rintro _ w10 hS10;refine qn ?_;obtain ⟨l11,hl11,H⟩:=zap H;refine qs ?_;refine q2 ?_;refine znl 0 0 i5 rfl rfl rfl rfl Tryz.underlying34 Ty.zdl rfl (.inl ⟨rfl,rfl⟩) (.inr ⟨_,_,rfl,rfl⟩) hS10 rfl hl11 ?_;intro q12 hv12 hw12;refine qm ?_;obtain ⟨_,hnz13,H⟩:=zap H;have hS13:=hS10.shrink 0 rfl hw12 hl11 hnz13;obtain rfl:=oi H;refine qt ?_;exact ⟨F4,q12,rfl,hS13⟩
def zbq (x0:List Loc):Option (List Loc) :=
  bd (app (α:=Loc) ([]:List Loc) x0) fun l6 =>
  some l6
theorem zdk {x0:List Loc} {r:(List Loc)} {v0:Val} (hA:Gd F w) (h0:SlF Loc.t F v0 x0) (H:zbq x0=some r):Ret Tryz.prog K 98 [v0] w fun v w'=>∃ (F':Frz) (q0:Val),v=q0∧St [] w F F' [.row Loc.t q0 (r)] w':=by
 refine qa1 Tryz.func98 ?_;have hS:=St.start hA;dsimp only [zbq] at H;refine qsm ?_;refine zay ?_;refine qsc ?_;refine zti rfl rfl rfl rfl Tryz.underlying44 rfl rfl h0.ln ?_;intro b1 hb1;refine qn ?_;refine zib rfl (fun hc2=>?_) (fun hc2=>?_)
 ·have hx2:x0=[]:=List.eq_nil_of_length_eq_zero (hb1 hc2);have H:(some []:Option (List Loc))=some r:=by first | (rw [hx2] at H;exact H) | (subst hx2;exact H)
  refine qsm ?_;have hS4:=hS.nilRow Loc.t;obtain rfl:=oi H;refine qt ?_;exact ⟨F,(.sl none 0 (.k 0)),rfl,hS4⟩
 ·refine qk ?_;obtain ⟨l6,hl6,H⟩:=zap H;refine qs ?_;refine xm (E_bs (t:=Loc.t) (vs:=[]) (xs:=([]:List Loc)) Tryz.underlying44 Ty.row51 rfl trivial rfl rfl hS) ?_;rintro u5 w5 hS5;refine qc ?_;refine xm (zgg (t:=Loc.t) 0 Tryz.underlying44 Ty.row51 Ty.zk44 rfl rfl hS5 rfl (h0.src hS5.agree) hl6) ?_;rintro v7 w7 hS7;refine qm ?_;obtain rfl:=oi H;refine qt ?_;exact ⟨F,v7,rfl,hS7⟩
def zae.k1 (x0:List Loc):Option (List Loc) :=
  some x0
def zae.k3 (i4:Int) (rec5:Int→Option (List Loc)):Option (List Loc) :=
  rec5 (wr (i4+1))
def zae.k4 (i18:Int) (l19:List Loc):Option (List Loc) :=
  bd (cut (α:=Loc) l19 i18 (l19.length:Int)) fun l20 =>
  bd (clr l19 i18.toNat ((l19.length:Int).toNat - i18.toNat) (Loc.mk 0 0 0 0)) fun l22 =>
  bd (cut (α:=Loc) l22 0 i18) fun l24 =>
  bd (nz l22) fun _ =>
  some l24
def zae.k6 (i29:Int) (rec31:(Int × Int × (List Loc))→Option (List Loc)) (i34:Int) (l35:List Loc):Option (List Loc) :=
  rec31 (i34,wr (i29+1),l35)
def zae.l5 (x0:List Loc) (i4:Int) (rec31:(Int × Int × (List Loc))→Option (List Loc)):(Int × Int × (List Loc))→Option (List Loc)
  | (i28,i29,l30) =>
    if decide (i29 < (((x0.length:Int).toNat - i4.toNat:Nat):Int)) then
      bd (ixp l30 i4.toNat ((x0.length:Int).toNat - i4.toNat) i29) fun x36 =>
      bd (ixp l30 i4.toNat ((x0.length:Int).toNat - i4.toNat) (wr (i29 - 1))) fun x38 =>
      if (!decide (x36=x38)) then
        bd (ixp l30 i4.toNat ((x0.length:Int).toNat - i4.toNat) i29) fun x43 =>
        bd (ix l30 i28) fun x45 =>
        zae.k6 i29 rec31 (wr (i28+1)) (l30.set i28.toNat x43)
      else
        zae.k6 i29 rec31 i28 l30
    else
      zae.k4 i28 l30
def zae.l2 (x0:List Loc) (rec5:Int→Option (List Loc)):Int→Option (List Loc)
  | i4 =>
    if decide (i4 < (x0.length:Int)) then
      bd (ix x0 i4) fun x8 =>
      bd (ix x0 (wr (i4 - 1))) fun x10 =>
      if decide (x8=x10) then
        bd (cut (α:=Loc) x0 i4 (x0.length:Int)) fun l15 =>
        loop (zae.l5 x0 i4) (i4,1,x0)
      else
        zae.k3 i4 rec5
    else
      zae.k1 x0
def zae (x0:List Loc):Option (List Loc) :=
  if decide ((x0.length:Int) < 2) then
    some x0
  else
    loop (zae.l2 x0) 1
theorem ziz {x0:List Loc} {r:(List Loc)} {v0:Val} (hS:St v0.own w F F [.row Loc.t v0 x0] w) (H:zae x0=some r):Ret Tryz.prog K 101 [v0] w fun v w'=>∃ (F':Frz) (q0:Val),v=q0∧St v0.own w F F' [.row Loc.t q0 (r)] w':=by
 refine qa1 Tryz.func101 ?_;dsimp only [zae] at H;refine qsm ?_;refine zay ?_;refine qsc ?_;refine qr (zbs Tryz.underlying44 rfl (hS.rowLn (k:=0) rfl)) ?_;refine qr (zah rfl rfl zbp) ?_;refine qn ?_;refine qy H (fun hc1 H=>?_) (fun hc1 H=>?_)
 ·refine qsc ?_;refine qm ?_;obtain rfl:=oi H;refine qt ?_;exact ⟨F,v0,rfl,hS⟩
 ·refine qk ?_;refine zai (fun E wq=>zae.k1 x0=some r ∧ ∃ (F2:Frz),E=[(0,v0)]∧F.le F2∧St v0.own w F F2 [.row Loc.t v0 x0] wq) ?_ ?_
  ·refine qsm ?_;refine zar ?_;refine zbm (fun (s:Int) E wq=>∃ (F3:Frz),E=[(0,v0),(3,.i .i64 s)]∧F.le F3∧St v0.own w F F3 [.row Loc.t v0 x0] wq) H ?_ ?_
   ·exact ⟨_,⟨F,rfl,(Frz.le.refl _),hS⟩,⟨rfl,rfl,trivial⟩⟩
   ·rintro rec5 i4 E w3 hI H
    try dsimp only at hI
    obtain ⟨F3,rfl,le3,hS3⟩:=hI;dsimp only [zae.l2] at H;refine zay ?_;refine qs ?_;refine q2 ?_;refine qr (zbs Tryz.underlying44 rfl (hS3.rowLn (k:=0) rfl)) ?_;refine qr (zah rfl rfl zbp) ?_;refine qn ?_;refine qy H (fun hc6 H=>?_) (fun hc6 H=>?_)
    ·refine qk ?_;refine zai (fun E wq=>zae.k3 i4 rec5=some r ∧ ∃ (F7:Frz),E=[(0,v0),(3,.i .i64 i4)]∧F3.le F7∧St v0.own w F F7 [.row Loc.t v0 x0] wq) ?_ ?_
     ·refine zar ?_;refine zay ?_;obtain ⟨x8,hx8,x10,hx10,H⟩:=bd2 H;refine zaz (G:=(nowF _)) [0,1,2,3,4,5,6,7,8,9] rfl Ty.mixed (by kernel_rfl) (zdc _) ?_;refine q2 ?_;obtain ⟨hp12,hy12⟩:=zac hx8;obtain ⟨cs12,hr12,he12⟩:=hS3.rowAt (k:=0) rfl hy12;obtain rfl:=hr12;replace he12:=qj 4 he12;have hi12:=he12.ixd;refine qi Tryz.underlying44 Ty.zgx hi12 hp12 ?_;refine qr (zfe 0 (Loc.cells x8) Ty.zsw Ty.zgx rfl he12 (by omega) rfl (Nat.le_of_ble_eq_true rfl)) ?_;refine q3 ?_;obtain ⟨hp13,hy13⟩:=zac hx10;obtain ⟨cs13,hr13,he13⟩:=hS3.rowAt (k:=0) rfl hy13;obtain rfl:=hr13;replace he13:=qj 4 he13;have hi13:=he13.ixd;refine qi Tryz.underlying44 Ty.zgx hi13 hp13 ?_;refine qr (zfe 0 (Loc.cells x10) Ty.zsw Ty.zgx rfl he13 (by omega) rfl (Nat.le_of_ble_eq_true rfl)) ?_;refine qr (zah rfl rfl (bA_eql Ty.eqt51 rfl rfl (Loc.eqc _ _))) ?_;refine qn ?_;refine qy H (fun hc14 H=>?_) (fun hc14 H=>?_)
      ·obtain ⟨l15,hl15,H⟩:=zap H;refine qs ?_;refine q2 ?_;refine znl 0 i4 (x0.length:Int) rfl rfl rfl rfl Tryz.underlying44 Ty.zgx rfl (.inr ⟨_,_,rfl,rfl⟩) (.inl ⟨rfl,rfl⟩) hS3 rfl hl15 ?_;intro q16 hv16 hw16;refine qm ?_;refine zai (fun E wq=>∃ i18:Int,∃ l19:List Loc,zae.k4 i18 l19=some r ∧ ∃ (F17:Frz),E=[(0,v0),(3,.i .i64 i18)]∧F3.le F17∧St v0.own w F F17 [.row Loc.t v0 l19] wq) ?_ ?_
       ·refine qsm ?_;refine zar ?_;refine zbm (fun (s:Int × Int × (List Loc)) E wq=>∃ (F27:Frz),E=[(0,v0),(3,.i .i64 s.1),(4,q16),(5,.i .i64 s.2.1)]∧F3.le F27∧St v0.own w F F27 [.row Loc.t v0 s.2.2] wq) H ?_ ?_
        ·exact ⟨_,⟨F3,rfl,(Frz.le.refl _),hS3⟩,⟨rfl,rfl,rfl,rfl,trivial⟩⟩
        ·rintro rec31 ⟨i28,i29,l30⟩ E w27 hI H
         try dsimp only at hI
         obtain ⟨F27,rfl,le27,hS27⟩:=hI;dsimp only [zae.l5] at H;refine zay ?_;refine qs ?_;refine q2 ?_;refine qr (zbs Tryz.underlying44 rfl hw16.ln) ?_;refine qr (zah rfl rfl zbp) ?_;refine qn ?_;refine qy H (fun hc32 H=>?_) (fun hc32 H=>?_)
         ·refine qk ?_;refine zai (fun E wq=>∃ i34:Int,∃ l35:List Loc,zae.k6 i29 rec31 i34 l35=some r ∧ ∃ (F33:Frz),E=[(0,v0),(3,.i .i64 i34),(4,q16),(5,.i .i64 i29)]∧F27.le F33∧St v0.own w F F33 [.row Loc.t v0 l35] wq) ?_ ?_
          ·refine zar ?_;refine zay ?_;obtain ⟨x36,hx36,x38,hx38,H⟩:=bd2 H;refine zaz (G:=(nowF _)) [0,1,2,3,4,5,6,7,8,9] rfl Ty.mixed (by kernel_rfl) (zdc _) ?_;refine q2 ?_;obtain ⟨hp40,hz40,hy40⟩:=zpx hx36;obtain ⟨cs40,hr40,he40⟩:=hS27.rowAt (k:=0) rfl hy40;obtain rfl:=hr40;replace he40:=he40.piece hw16 hz40;replace he40:=qj 4 he40;have hi40:=he40.ixd;refine qi Tryz.underlying44 Ty.zgx hi40 hp40 ?_;refine qr (zfe 0 (Loc.cells x36) Ty.zsw Ty.zgx rfl he40 (by omega) rfl (Nat.le_of_ble_eq_true rfl)) ?_;refine q3 ?_;obtain ⟨hp41,hz41,hy41⟩:=zpx hx38;obtain ⟨cs41,hr41,he41⟩:=hS27.rowAt (k:=0) rfl hy41;obtain rfl:=hr41;replace he41:=he41.piece hw16 hz41;replace he41:=qj 4 he41;have hi41:=he41.ixd;refine qi Tryz.underlying44 Ty.zgx hi41 hp41 ?_;refine qr (zfe 0 (Loc.cells x38) Ty.zsw Ty.zgx rfl he41 (by omega) rfl (Nat.le_of_ble_eq_true rfl)) ?_;refine qr (zah rfl rfl (bA_neq Ty.eqt51 rfl rfl (Loc.eqc _ _))) ?_;refine qn ?_;refine qy H (fun hc42 H=>?_) (fun hc42 H=>?_)
           ·obtain ⟨x43,hx43,x45,hx45,H⟩:=bd2 H;refine qs ?_;refine q4 ?_;obtain ⟨hp47,hz47,hy47⟩:=zpx hx43;obtain ⟨cs47,hr47,he47⟩:=hS27.rowAt (k:=0) rfl hy47;obtain rfl:=hr47;replace he47:=he47.piece hw16 hz47;replace he47:=qj 4 he47;have hi47:=he47.ixd;refine qi Tryz.underlying44 Ty.zgx hi47 hp47 ?_;refine qr (zfe 0 (Loc.cells x43) Ty.zsw Ty.zgx rfl he47 (by omega) rfl (Nat.le_of_ble_eq_true rfl)) ?_;obtain ⟨hp48,hy48⟩:=zac hx45;obtain ⟨cs48,hr48,he48⟩:=hS27.rowAt (k:=0) rfl hy48;obtain rfl:=hr48;replace he48:=qj 4 he48;have hi48:=he48.ixd;refine qi Tryz.underlying44 Ty.zgx hi48 hp48 ?_;refine um (zuc (c:=[.i .i64 x43.vol,.i .i64 x43.file,.i .i64 x43.off,.i .i64 x43.len]) 0 (i28.toNat) 0 x45 x43 rfl rfl hS27 rfl (zac hx45).2 (by first | rfl | (show _=_*4+_;omega)) rfl Ty.zgx rfl (Nat.le_of_ble_eq_true rfl) (by rintro cs rfl;rfl)) ?_;rintro _ w49 hS49;refine qn ?_;refine qd ?_;refine q3 ?_;refine zbk ?_;refine zbf ?_;exact zbe _ ⟨wr (i28+1),(l30.set i28.toNat x43),H,⟨F27,rfl,(Frz.le.refl _),hS49⟩⟩ ⟨rfl,rfl,rfl,rfl,trivial⟩
           ·refine zec ?_;refine zbf ?_;exact zbe _ ⟨i28,l30,H,⟨F27,rfl,(Frz.le.refl _),hS27⟩⟩ ⟨rfl,rfl,rfl,rfl,trivial⟩
          ·rintro E w33 ⟨i34,l35,H,F33,rfl,le33,hS33⟩;dsimp only [zae.k6] at H;refine qd ?_;refine q3 ?_;refine zbk ?_;exact zbd (i34,wr (i29+1),l35) _ H ⟨F33,rfl,(le27.trans le33),hS33⟩ ⟨rfl,rfl,rfl,rfl,trivial⟩
         ·refine zcc _ rfl ?_;exact zbe _ ⟨i28,l30,H,⟨F27,rfl,le27,hS27⟩⟩ ⟨rfl,rfl,trivial⟩
       ·rintro E w17 ⟨i18,l19,H,F17,rfl,le17,hS17⟩;dsimp only [zae.k4] at H;obtain ⟨l20,hl20,l22,hl22,H⟩:=bd2 H;refine qs ?_;refine q2 ?_;refine znl 0 i18 (l19.length:Int) rfl rfl rfl rfl Tryz.underlying44 Ty.zgx rfl (.inr ⟨_,_,rfl,rfl⟩) (.inl ⟨rfl,rfl⟩) hS17 rfl hl20 ?_;intro q21 hv21 hw21;refine um (E_clr (tr:=Loc.t) (x0:=(Loc.mk 0 0 0 0)) 0 Tryz.underlying44 Ty.zero51 rfl rfl hS17 rfl hw21 hl22) ?_;rintro _ w23 hS23;refine qn ?_;obtain ⟨l24,hl24,H⟩:=zap H;refine qs ?_;refine q2 ?_;refine znl 0 0 i18 rfl rfl rfl rfl Tryz.underlying44 Ty.zgx rfl (.inl ⟨rfl,rfl⟩) (.inr ⟨_,_,rfl,rfl⟩) hS23 rfl hl24 ?_;intro q25 hv25 hw25;refine qm ?_;obtain ⟨_,hnz26,H⟩:=zap H;have hS26:=hS23.shrink 0 rfl hw25 hl24 hnz26;obtain rfl:=oi H;refine qt ?_;exact ⟨F17,q25,rfl,hS26⟩
      ·refine zec ?_;refine zbf ?_;exact zbe _ ⟨H,⟨F3,rfl,(Frz.le.refl _),hS3⟩⟩ ⟨rfl,rfl,trivial⟩
     ·rintro E w7 ⟨H,F7,rfl,le7,hS7⟩;dsimp only [zae.k3] at H;refine qd ?_;refine q3 ?_;refine zbk ?_;exact zbd (wr (i4+1)) _ H ⟨F7,rfl,(le3.trans le7),hS7⟩ ⟨rfl,rfl,trivial⟩
    ·refine zcc _ rfl ?_;exact zbe _ ⟨H,⟨F3,rfl,le3,hS3⟩⟩ ⟨rfl,trivial⟩
  ·rintro E w2 ⟨H,F2,rfl,le2,hS2⟩;dsimp only [zae.k1] at H;refine qsc ?_;refine qm ?_;obtain rfl:=oi H;refine qt ?_;exact ⟨F2,v0,rfl,hS2⟩
def zdy.k1 (x0:List Vol):Option Bool :=
  bd (zfa (x0.length:Int) 1 8) fun r2 =>
  some r2
def zdy.l2 (x0:List Vol) (rec6:Int→Option Bool):Int→Option Bool
  | i5 =>
    if decide (i5 < (x0.length:Int)) then
      bd (ix x0 i5) fun x8 =>
      bd (only (decide (x8.state=2)) (zfa x8.files 1 65535) false) fun r13 =>
      bd (zfa x8.pool 0 1) fun r27 =>
      bd (only (!(!r27)) (zfa x8.epoch 0 1048576) false) fun r28 =>
      if (((!r27)||(!r28))||((!(decide (x8.state=2)&&r13))&&(!((decide (x8.state=1)||decide (x8.state=3))&&decide (x8.files=0))))) then
        some false
      else
        rec6 (wr (i5+1))
    else
      zdy.k1 x0
def zdy (x0:List Vol):Option Bool :=
  loop (zdy.l2 x0) 0
theorem zwh {x0:List Vol} {r:Bool} {v0:Val} (hA:Gd F w) (h0:SlF Vol.t F v0 x0) (H:zdy x0=some r):Ret Tryz.prog K 77 [v0] w fun v w'=>∃ (F':Frz),v = .b r∧St [] w F F' [] w':=by
 refine qa1 Tryz.func77 ?_;have hS:=St.start hA;dsimp only [zdy] at H;refine qsm ?_;refine zai (fun E wq=>zdy.k1 x0=some r ∧ ∃ (F1:Frz),E=[(0,v0)]∧F.le F1∧St [] w F F1 [] wq) ?_ ?_
 ·refine qsc ?_;refine qr (zbs Tryz.underlying33 rfl h0.ln) ?_;refine qm ?_;refine zar ?_;refine zbm (fun (s:Int) E wq=>∃ (F4:Frz),E=[(0,v0),(7,v0),(8,.i .i64 (x0.length:Int)),(9,.i .i64 s)]∧F.le F4∧St [] w F F4 [] wq) H ?_ ?_
  ·exact ⟨_,⟨F,rfl,(Frz.le.refl _),hS⟩,⟨rfl,rfl,rfl,rfl,trivial⟩⟩
  ·rintro rec6 i5 E w4 hI H
   try dsimp only at hI
   obtain ⟨F4,rfl,le4,hS4⟩:=hI;dsimp only [zdy.l2] at H;refine qs ?_;refine qr (zah rfl rfl zbp) ?_;refine qn ?_;refine zay ?_;refine qy H (fun hc7 H=>?_) (fun hc7 H=>?_)
   ·refine qk ?_;refine zay ?_;refine zar ?_;obtain ⟨x8,hx8,H⟩:=zap H;refine qs ?_;obtain ⟨hp11,hy11⟩:=zac hx8;obtain ⟨cs11,hr11,he11⟩:=(h0.mono le4).el hy11;obtain rfl:=hr11;replace he11:=qj 4 he11;have hi11:=he11.ixd;refine qi Tryz.underlying33 Ty.zom hi11 hp11 ?_;refine qr (zfe 0 (Vol.cells x8) Ty.agg32 Ty.zom rfl (he11.mono hS4.agree) (by omega) rfl (Nat.le_of_ble_eq_true rfl)) ?_;refine xm (zft (cs:=[.i .i64 0,.i .i64 0,.i .i64 0,.i .i64 0]) Ty.zero32 rfl hS4) ?_;rintro _ w10 ⟨g10,rfl,hS10⟩;refine um (zea (c:=[.i .i64 x8.pool,.i .i64 x8.epoch,.i .i64 x8.state,.i .i64 x8.files]) 0 ([.i .i64 x8.pool,.i .i64 x8.epoch,.i .i64 x8.state,.i .i64 x8.files]) rfl rfl hS10 rfl rfl Ty.zom rfl rfl rfl) ?_;rintro _ w12 hS12;refine qn ?_;obtain ⟨r13,hr13,H⟩:=zap H;refine qs ?_;refine qf Ty.zni ?_;refine qb 0 Ty.zdd hS12 ?_;refine qr (zah rfl rfl zeg) ?_;refine qc ?_;refine W_gs (v:=pl g10 (0+3)) rfl rfl rfl rfl (fun ⟨hb14,_⟩=>?_) ?_
    ·rw [hb14];exact (qf Ty.zpc ·)
    refine W_gs (v:=.i .i64 x8.files) rfl rfl rfl rfl (fun ⟨hb15,_⟩=>?_) ?_
    ·rw [hb15];exact (qb 0 Ty.zdd hS12 ·)
    obtain ⟨Q17,hQ17⟩:∃ Q:Hp→Prop,Q=fun wq=>St [] w F F4 [.box g10 [.i .i64 x8.pool,.i .i64 x8.epoch,.i .i64 x8.state,.i .i64 x8.files]] wq:=⟨_,rfl⟩;refine W_gw (v:=.b r13) (Q:=Q17) (by rw [hQ17];exact hS12) rfl rfl rfl rfl (fun ⟨hb16,_⟩=>?_) ?_
    ·rw [hb16];intro hK;have hy18:=hr13;rw [zbu hb16] at hy18;refine ql (zed hS12.good hy18) ?_;rintro v19 w19 ⟨Fr13,rfl,hT19⟩;have hS19:=hS12.lent hT19;exact hK _ (by rw [hQ17];exact hS19)
    intro w20 hS20;rw [hQ17] at hS20;refine Nxt.now ?_;refine ziu rfl rfl rfl rfl rfl (fun hc=>by rw [hc];rfl) rfl ?_;refine qm ?_;refine qs ?_;refine qf Ty.zni ?_;refine qb 0 Ty.zdd hS20 ?_;refine qr (zah rfl rfl zeg) ?_;refine qc ?_;refine W_gs (v:=pl g10 (0+2)) rfl rfl rfl rfl (fun ⟨hb21,_⟩=>?_) ?_
    ·rw [hb21];exact (qf Ty.zni ·)
    refine W_gs (v:=.i .i64 x8.state) rfl rfl rfl rfl (fun ⟨hb22,_⟩=>?_) ?_
    ·rw [hb22];exact (qb 0 Ty.zdd hS20 ·)
    refine W_gs (v:=.b (decide (x8.state=3))) rfl rfl rfl rfl (fun ⟨hb23,_⟩=>?_) ?_
    ·rw [hb23];exact (qr (zah rfl rfl zeg) ·)
    refine zgl rfl rfl rfl rfl rfl rfl (fun hc=>by rw [hc];rfl) ?_;refine qc ?_;refine W_gs (v:=pl g10 (0+3)) rfl rfl rfl rfl (fun ⟨hb24,_⟩=>?_) ?_
    ·rw [hb24];exact (qf Ty.zpc ·)
    refine W_gs (v:=.i .i64 x8.files) rfl rfl rfl rfl (fun ⟨hb25,_⟩=>?_) ?_
    ·rw [hb25];exact (qb 0 Ty.zdd hS20 ·)
    refine W_gs (v:=.b (decide (x8.files=0))) rfl rfl rfl rfl (fun ⟨hb26,_⟩=>?_) ?_
    ·rw [hb26];exact (qr (zah rfl rfl zeg) ·)
    refine ziu rfl rfl rfl rfl rfl (fun hc=>by rw [hc];rfl) rfl ?_;refine qm ?_;obtain ⟨r27,hr27,r28,hr28,H⟩:=bd2 H;refine qs ?_;refine qf Ty.zwb ?_;refine qb 0 Ty.zdd hS20 ?_;refine lm (zed hS20.good hr27) ?_;rintro v29 w29 ⟨Fr27,rfl,hT29⟩;have hS29:=hS20.lent hT29;refine q2 ?_;refine W_gs (v:=pl g10 (0+1)) rfl rfl rfl rfl (fun ⟨hb30,_⟩=>?_) ?_
    ·rw [hb30];exact (qf Ty.zwa ·)
    refine W_gs (v:=.i .i64 x8.epoch) rfl rfl rfl rfl (fun ⟨hb31,_⟩=>?_) ?_
    ·rw [hb31];exact (qb 0 Ty.zdd hS29 ·)
    obtain ⟨Q33,hQ33⟩:∃ Q:Hp→Prop,Q=fun wq=>St [] w F F4 [.box g10 [.i .i64 x8.pool,.i .i64 x8.epoch,.i .i64 x8.state,.i .i64 x8.files]] wq:=⟨_,rfl⟩;refine W_gw (v:=.b r28) (Q:=Q33) (by rw [hQ33];exact hS29) rfl rfl rfl rfl (fun ⟨hb32,_⟩=>?_) ?_
    ·rw [hb32];intro hK;have hy34:=hr28;rw [zbu (by first | rfl | (rw [hb32];first | done | rfl) | simp [hb32])] at hy34;refine ql (zed hS29.good hy34) ?_;rintro v35 w35 ⟨Fr28,rfl,hT35⟩;have hS35:=hS29.lent hT35;exact hK _ (by rw [hQ33];exact hS35)
    intro w36 hS36;rw [hQ33] at hS36;refine Nxt.now ?_;refine W_gs (v:=.b (!r28)) rfl rfl rfl rfl (fun ⟨hb37,_⟩=>?_) ?_
    ·rw [hb37];exact (qc ·)
    refine zgl rfl rfl rfl rfl rfl rfl (fun hc=>by rw [hc];rfl) ?_;refine qc ?_;refine W_gs (v:=.b (decide (x8.state=2)&&r13)) rfl rfl rfl rfl (fun ⟨hb38,_⟩=>?_) ?_
    ·rw [hb38];exact (qc ·)
    refine W_gs (v:=.b (!(decide (x8.state=2)&&r13))) rfl rfl rfl rfl (fun ⟨hb39,_⟩=>?_) ?_
    ·rw [hb39];exact (qc ·)
    refine W_gs (v:=.b (!(decide (x8.state=2)&&r13))) rfl rfl rfl rfl (fun ⟨hb40,_⟩=>?_) ?_
    ·rw [hb40];exact (qc ·)
    refine zek (v:=.b ((decide (x8.state=1)||decide (x8.state=3))&&decide (x8.files=0))) rfl rfl rfl rfl (fun ⟨hb41,hb42,_⟩=>?_) ?_
    ·rw [hb42,hb41];exact (qc ·)
    refine zek (v:=.b (!((decide (x8.state=1)||decide (x8.state=3))&&decide (x8.files=0)))) rfl rfl rfl rfl (fun ⟨hb43,hb44,_⟩=>?_) ?_
    ·rw [hb44,hb43];exact (qc ·)
    refine W_gs (v:=.b ((!(decide (x8.state=2)&&r13))&&(!((decide (x8.state=1)||decide (x8.state=3))&&decide (x8.files=0))))) rfl rfl rfl rfl (fun ⟨hb45,_⟩=>?_) ?_
    ·rw [hb45];exact (ziu rfl rfl rfl rfl rfl (fun hc=>by rw [hc];rfl) rfl ·)
    refine zgl rfl rfl rfl rfl rfl rfl (fun hc=>by rw [hc];rfl) ?_;refine qn ?_;refine qy H (fun hc46 H=>?_) (fun hc46 H=>?_)
    ·refine qsm ?_;obtain rfl:=oi H;refine qt ?_;exact ⟨F4,rfl,hS36.pick [] (by decide)⟩
    ·refine zec ?_;refine zbf ?_;refine zcl ?_;refine qd ?_;refine q2 ?_;refine zbk ?_;exact zbd (wr (i5+1)) _ H ⟨F4,rfl,le4,hS36.pick [] (by decide)⟩ ⟨rfl,rfl,rfl,rfl,trivial⟩
   ·refine zcc _ rfl ?_;exact zbe _ ⟨H,⟨F4,rfl,le4,hS4⟩⟩ ⟨rfl,trivial⟩
 ·rintro E w1 ⟨H,F1,rfl,le1,hS1⟩;dsimp only [zdy.k1] at H;obtain ⟨r2,hr2,H⟩:=zap H;refine qsc ?_;refine qr (zbs Tryz.underlying33 rfl h0.ln) ?_;refine lm (zed hS1.good hr2) ?_;rintro v3 w3 ⟨Fr2,rfl,hT3⟩;have hS3:=hS1.lent hT3;refine qm ?_;obtain rfl:=oi H;refine qt ?_;exact ⟨F1,rfl,hS3⟩
def zju (x0:Loc) (x1:Loc):Option Bool :=
  if decide (x0.vol≠x1.vol) then
    some (decide (x1.vol < x0.vol))
  else
    if decide (x0.file≠x1.file) then
      some (decide (x1.file < x0.file))
    else
      some (decide (x1.off < x0.off))
theorem ztz {x0:Loc} {x1:Loc} {r:Bool} (hA:Gd F w) (H:zju x0 x1=some r):Ret Tryz.prog K 159 [.agg (Loc.cells x0),.agg (Loc.cells x1)] w fun v w'=>∃ (F':Frz),v = .b r∧St [] w F F' [] w':=by
 refine qa2 Tryz.func159 ?_;have hS:=St.start hA;dsimp only [zju] at H;refine qs ?_;refine xm (E_bx (cs:=[.i .i64 x0.vol,.i .i64 x0.file,.i .i64 x0.off,.i .i64 x0.len]) rfl rfl rfl hS) ?_;rintro _ w1 ⟨g1,rfl,hS1⟩;refine xm (E_bx (cs:=[.i .i64 x1.vol,.i .i64 x1.file,.i .i64 x1.off,.i .i64 x1.len]) rfl rfl rfl hS1) ?_;rintro _ w2 ⟨g2,rfl,hS2⟩;refine qm ?_;refine zay ?_;refine zar ?_;refine qs ?_;refine qf Ty.zhp ?_;refine qb 1 Ty.zdd hS2 ?_;refine qf Ty.zhp ?_;refine qb 0 Ty.zdd hS2 ?_;refine qr (zah rfl rfl zeb) ?_;refine qm ?_;refine qy H (fun hc3 H=>?_) (fun hc3 H=>?_)
 ·refine qs ?_;refine qf Ty.zhp ?_;refine qb 1 Ty.zdd hS2 ?_;refine qf Ty.zhp ?_;refine qb 0 Ty.zdd hS2 ?_;refine qr (zah rfl rfl zgn) ?_;refine qm ?_;obtain rfl:=oi H;refine qt ?_;exact ⟨F,rfl,hS2.pick [] (by decide)⟩
 ·refine qs ?_;refine qf Ty.zjn ?_;refine qb 1 Ty.zdd hS2 ?_;refine qf Ty.zjn ?_;refine qb 0 Ty.zdd hS2 ?_;refine qr (zah rfl rfl zeb) ?_;refine qm ?_;refine qy H (fun hc4 H=>?_) (fun hc4 H=>?_)
  ·refine qs ?_;refine qf Ty.zjn ?_;refine qb 1 Ty.zdd hS2 ?_;refine qf Ty.zjn ?_;refine qb 0 Ty.zdd hS2 ?_;refine qr (zah rfl rfl zgn) ?_;refine qm ?_;obtain rfl:=oi H;refine qt ?_;exact ⟨F,rfl,hS2.pick [] (by decide)⟩
  ·refine zec ?_;refine zbf ?_;refine zcl ?_;refine qs ?_;refine qf Ty.zlt ?_;refine qb 1 Ty.zdd hS2 ?_;refine qf Ty.zlt ?_;refine qb 0 Ty.zdd hS2 ?_;refine qr (zah rfl rfl zgn) ?_;refine qm ?_;obtain rfl:=oi H;refine qt ?_;exact ⟨F,rfl,hS2.pick [] (by decide)⟩
def zdm.k1:Option Bool :=
  some true
def zdm.l2 (x0:Catalog) (x1:List Loc) (rec6:Int→Option Bool):Int→Option Bool
  | i5 =>
    if decide (i5 < (x1.length:Int)) then
      bd (ix x1 i5) fun x8 =>
      bd (zfa x8.vol 0 (wr ((x0.vols.length:Int) - 1))) fun r13 =>
      bd (only (!(!r13)) (ix x0.vols x8.vol) (Vol.mk 0 0 0 0)) fun x14 =>
      bd (only (!((!r13)||decide (x14.state≠2))) (ix x0.vols x8.vol) (Vol.mk 0 0 0 0)) fun x16 =>
      bd (only (!((!r13)||decide (x14.state≠2))) (zfa x8.file 1 x16.files) false) fun r18 =>
      bd (only (!(((!r13)||decide (x14.state≠2))||(!r18))) (zfa x8.off 0 16777215) false) fun r19 =>
      bd (only (!((((!r13)||decide (x14.state≠2))||(!r18))||(!r19))) (zfa x8.len 13 8013) false) fun r20 =>
      bd (only ((!(((((!r13)||decide (x14.state≠2))||(!r18))||(!r19))||(!r20)))&&decide (0 < i5)) (ix x1 (wr (i5 - 1))) (Loc.mk 0 0 0 0)) fun x21 =>
      bd (only ((!(((((!r13)||decide (x14.state≠2))||(!r18))||(!r19))||(!r20)))&&decide (0 < i5)) (zju x8 x21) false) fun r23 =>
      if ((((((!r13)||decide (x14.state≠2))||(!r18))||(!r19))||(!r20))||(decide (0 < i5)&&(!r23))) then
        some false
      else
        rec6 (wr (i5+1))
    else
      zdm.k1
def zdm (x0:Catalog) (x1:List Loc):Option Bool :=
  if decide (200 < (x1.length:Int)) then
    some false
  else
    loop (zdm.l2 x0 x1) 0
set_option maxHeartbeats 2000000 in
theorem zlv {x0:Catalog} {x1:List Loc} {r:Bool} {v0_0:Val} {v0_1:Val} {v0_2:Val} {v0_3:Val} {v1:Val} (hA:Gd F w) (h0_0:SlF Snap.t F v0_0 x0.snaps) (h0_1:SlF Chunk.t F v0_1 x0.chunks) (h0_2:SlF Exp.t F v0_2 x0.exps) (h0_3:SlF Vol.t F v0_3 x0.vols) (h1:SlF Loc.t F v1 x1) (H:zdm x0 x1=some r):Ret Tryz.prog K 123 [.agg (Catalog.cells x0 v0_0 v0_1 v0_2 v0_3),v1] w fun v w'=>∃ (F':Frz),v = .b r∧St [] w F F' [] w':=by
 refine qa2 Tryz.func123 ?_;have hS:=St.start hA;dsimp only [zdm] at H;refine qs ?_;refine xm (E_bx (cs:=[.i .i64 x0.seq,v0_0,v0_1,v0_2,v0_3]) rfl rfl (by simp only [List.all_cons,List.all_nil,List.all_append,h0_0.ln.one,h0_1.ln.one,h0_2.ln.one,h0_3.ln.one];rfl) hS) ?_;rintro _ w1 ⟨g1,rfl,hS1⟩;refine qm ?_;refine zay ?_;refine qsc ?_;refine qr (zbs Tryz.underlying44 rfl h1.ln) ?_;refine qr (zah rfl rfl zgn) ?_;refine qn ?_;refine qy H (fun hc2 H=>?_) (fun hc2 H=>?_)
 ·refine qsm ?_;obtain rfl:=oi H;refine qt ?_;exact ⟨F,rfl,hS1.pick [] (by decide)⟩
 ·refine qk ?_;refine zai (fun E wq=>zdm.k1=some r ∧ ∃ (F3:Frz),E=[]∧F.le F3∧St [] w F F3 [] wq) ?_ ?_
  ·refine qsc ?_;refine qr (zbs Tryz.underlying44 rfl h1.ln) ?_;refine qm ?_;refine zar ?_;refine zbm (fun (s:Int) E wq=>∃ (F4:Frz),E=[(1,v1),(2,pl g1 0),(10,v1),(11,.i .i64 (x1.length:Int)),(12,.i .i64 s)]∧F.le F4∧St [] w F F4 [.box g1 [.i .i64 x0.seq,v0_0,v0_1,v0_2,v0_3]] wq) H ?_ ?_
   ·exact ⟨_,⟨F,rfl,(Frz.le.refl _),hS1⟩,⟨rfl,rfl,rfl,rfl,rfl,trivial⟩⟩
   ·rintro rec6 i5 E w4 hI H
    try dsimp only at hI
    obtain ⟨F4,rfl,le4,hS4⟩:=hI;dsimp only [zdm.l2] at H;refine qs ?_;refine qr (zah rfl rfl zbp) ?_;refine qn ?_;refine zay ?_;refine qy H (fun hc7 H=>?_) (fun hc7 H=>?_)
    ·refine qk ?_;refine zay ?_;refine zar ?_;obtain ⟨x8,hx8,H⟩:=zap H;refine qsc ?_;obtain ⟨hp11,hy11⟩:=zac hx8;obtain ⟨cs11,hr11,he11⟩:=(h1.mono le4).el hy11;obtain rfl:=hr11;replace he11:=qj 4 he11;have hi11:=he11.ixd;refine qi Tryz.underlying44 Ty.zgx hi11 hp11 ?_;refine qr (zfe 0 (Loc.cells x8) Ty.zsw Ty.zgx rfl (he11.mono hS4.agree) (by omega) rfl (Nat.le_of_ble_eq_true rfl)) ?_;refine xm (zft (cs:=[.i .i64 0,.i .i64 0,.i .i64 0,.i .i64 0]) Ty.zero51 rfl hS4) ?_;rintro _ w10 ⟨g10,rfl,hS10⟩;refine qc ?_;refine um (zea (c:=[.i .i64 x8.vol,.i .i64 x8.file,.i .i64 x8.off,.i .i64 x8.len]) 0 ([.i .i64 x8.vol,.i .i64 x8.file,.i .i64 x8.off,.i .i64 x8.len]) rfl rfl hS10 rfl rfl Ty.zgx rfl rfl rfl) ?_;rintro _ w12 hS12;refine qn ?_;refine zay ?_;obtain ⟨r13,hr13,x14,hx14,H⟩:=bd2 H;obtain ⟨x16,hx16,r18,hr18,H⟩:=bd2 H;obtain ⟨r19,hr19,r20,hr20,H⟩:=bd2 H;obtain ⟨x21,hx21,r23,hr23,H⟩:=bd2 H;refine zaz (G:=F4) [0,1,2,3,4,5,6,7,8,9,10,11,12,13,14,15,16,17,18,19,20,21,22,23,24,25,26,27,28,29,30,31,32,33,34,35,36,37,38,39,40,41,42,43,44,45,46,47,48,49,50,51,52,53,54,55,56] rfl Ty.mixed (by kernel_rfl) hS12.agree ?_;refine qf Ty.zhp ?_;refine qbq 0 Ty.zdd hS12 ?_;refine qf Ty.zkm ?_;refine qbq 1 Ty.zwg hS12 ?_;refine qr (zbs Tryz.underlying33 rfl h0_3.ln) ?_;refine qc ?_;refine ql (zed hS12.good hr13) ?_;rintro v24 w24 ⟨Fr13,rfl,hT24⟩;have hS24:=hS12.lent hT24;refine qw hS24 ?_;refine q2 ?_;refine W_gs (v:=pl g1 (0+4)) rfl rfl rfl rfl (fun ⟨hb25,_⟩=>?_) ?_
     ·rw [hb25];exact (qf Ty.zkm ·)
     refine W_gs (v:=v0_3) rfl rfl rfl rfl (fun ⟨hb26,_⟩=>?_) ?_
     ·rw [hb26];exact (qbq 1 Ty.zwg hS24 ·)
     refine W_gs (v:=pl g10 (0+0)) rfl rfl rfl rfl (fun ⟨hb27,_⟩=>?_) ?_
     ·rw [hb27];exact (qf Ty.zhp ·)
     refine W_gs (v:=.i .i64 x8.vol) rfl rfl rfl rfl (fun ⟨hb28,_⟩=>?_) ?_
     ·rw [hb28];exact (qbq 0 Ty.zdd hS24 ·)
     refine W_gs (v:=elp v0_3 (x8.vol.toNat*4)) rfl rfl rfl rfl (fun ⟨hb29,_⟩=>?_) ?_
     ·rw [hb29];intro hK;have hy30:=hx14;rw [zbu (by first | rfl | (rw [hb29];first | done | rfl) | simp [hb29])] at hy30;obtain ⟨hp31,hy31⟩:=zac hy30;obtain ⟨cs31,hr31,he31⟩:=(h0_3.mono le4).el hy31;obtain rfl:=hr31;replace he31:=qj 4 he31;have hi31:=he31.ixd;refine qi Tryz.underlying33 Ty.zom hi31 hp31 ?_;exact hK
     refine W_gs (v:=elp v0_3 ((x8.vol.toNat*4)+2)) rfl rfl rfl rfl (fun ⟨hb32,_⟩=>?_) ?_
     ·rw [hb32];intro hK;have hy33:=hx14;rw [zbu (by first | rfl | (rw [hb32];first | done | rfl) | simp [hb32])] at hy33;obtain ⟨hp34,hy34⟩:=zac hy33;obtain ⟨cs34,hr34,he34⟩:=(h0_3.mono le4).el hy34;obtain rfl:=hr34;replace he34:=qj 4 he34;have hi34:=he34.ixd;refine qr (zfm 2 Ty.zni rfl hi34) ?_;exact hK
     refine W_gs (v:=.i .i64 x14.state) rfl rfl rfl rfl (fun ⟨hb35,_⟩=>?_) ?_
     ·rw [hb35];intro hK;have hy36:=hx14;rw [zbu (by first | rfl | (rw [hb35];first | done | rfl) | simp [hb35])] at hy36;obtain ⟨hp37,hy37⟩:=zac hy36;obtain ⟨cs37,hr37,he37⟩:=(h0_3.mono le4).el hy37;obtain rfl:=hr37;replace he37:=qj 4 he37;have hi37:=he37.ixd;refine qq (zfs 2 Ty.zdd rfl (he37.mono hS24.agree) (by omega) rfl) ?_;exact hK
     refine W_gs (v:=.b (decide (x14.state≠2))) rfl rfl rfl rfl (fun ⟨hb38,_⟩=>?_) ?_
     ·rw [hb38];exact (qr (zah rfl rfl zeb) ·)
     refine zgl rfl rfl rfl rfl rfl rfl (fun hc=>by rw [hc];rfl) ?_;refine qc ?_;refine W_gs (v:=pl g10 (0+1)) rfl rfl rfl rfl (fun ⟨hb39,_⟩=>?_) ?_
     ·rw [hb39];exact (qf Ty.zjn ·)
     refine W_gs (v:=.i .i64 x8.file) rfl rfl rfl rfl (fun ⟨hb40,_⟩=>?_) ?_
     ·rw [hb40];exact (qbq 0 Ty.zdd hS24 ·)
     refine W_gs (v:=pl g1 (0+4)) rfl rfl rfl rfl (fun ⟨hb41,_⟩=>?_) ?_
     ·rw [hb41];exact (qf Ty.zkm ·)
     refine W_gs (v:=v0_3) rfl rfl rfl rfl (fun ⟨hb42,_⟩=>?_) ?_
     ·rw [hb42];exact (qbq 1 Ty.zwg hS24 ·)
     refine W_gs (v:=pl g10 (0+0)) rfl rfl rfl rfl (fun ⟨hb43,_⟩=>?_) ?_
     ·rw [hb43];exact (qf Ty.zhp ·)
     refine W_gs (v:=.i .i64 x8.vol) rfl rfl rfl rfl (fun ⟨hb44,_⟩=>?_) ?_
     ·rw [hb44];exact (qbq 0 Ty.zdd hS24 ·)
     refine W_gs (v:=elp v0_3 (x8.vol.toNat*4)) rfl rfl rfl rfl (fun ⟨hb45,_⟩=>?_) ?_
     ·rw [hb45];intro hK;have hy46:=hx16;rw [zbu (by first | rfl | (rw [hb45];first | done | rfl) | simp [hb45])] at hy46;obtain ⟨hp47,hy47⟩:=zac hy46;obtain ⟨cs47,hr47,he47⟩:=(h0_3.mono le4).el hy47;obtain rfl:=hr47;replace he47:=qj 4 he47;have hi47:=he47.ixd;refine qi Tryz.underlying33 Ty.zom hi47 hp47 ?_;exact hK
     refine W_gs (v:=elp v0_3 ((x8.vol.toNat*4)+3)) rfl rfl rfl rfl (fun ⟨hb48,_⟩=>?_) ?_
     ·rw [hb48];intro hK;have hy49:=hx16;rw [zbu (by first | rfl | (rw [hb48];first | done | rfl) | simp [hb48])] at hy49;obtain ⟨hp50,hy50⟩:=zac hy49;obtain ⟨cs50,hr50,he50⟩:=(h0_3.mono le4).el hy50;obtain rfl:=hr50;replace he50:=qj 4 he50;have hi50:=he50.ixd;refine qr (zfm 3 Ty.zpc rfl hi50) ?_;exact hK
     refine W_gs (v:=.i .i64 x16.files) rfl rfl rfl rfl (fun ⟨hb51,_⟩=>?_) ?_
     ·rw [hb51];intro hK;have hy52:=hx16;rw [zbu (by first | rfl | (rw [hb51];first | done | rfl) | simp [hb51])] at hy52;obtain ⟨hp53,hy53⟩:=zac hy52;obtain ⟨cs53,hr53,he53⟩:=(h0_3.mono le4).el hy53;obtain rfl:=hr53;replace he53:=qj 4 he53;have hi53:=he53.ixd;refine qq (zfs 3 Ty.zdd rfl (he53.mono hS24.agree) (by omega) rfl) ?_;exact hK
     obtain ⟨Q55,hQ55⟩:∃ Q:Hp→Prop,Q=fun wq=>St [] w F F4 [.box g10 [.i .i64 x8.vol,.i .i64 x8.file,.i .i64 x8.off,.i .i64 x8.len],.box g1 [.i .i64 x0.seq,v0_0,v0_1,v0_2,v0_3]] wq:=⟨_,rfl⟩;refine W_gw (v:=.b r18) (Q:=Q55) (by rw [hQ55];exact hS24) rfl rfl rfl rfl (fun ⟨hb54,_⟩=>?_) ?_
     ·rw [hb54];intro hK;have hy56:=hr18;rw [zbu (by first | rfl | (rw [hb54];first | done | rfl) | simp [hb54])] at hy56;refine ql (zed hS24.good hy56) ?_;rintro v57 w57 ⟨Fr18,rfl,hT57⟩;have hS57:=hS24.lent hT57;exact hK _ (by rw [hQ55];exact hS57)
     intro w58 hS58;rw [hQ55] at hS58;refine qw hS58 ?_;refine W_gs (v:=.b (!r18)) rfl rfl rfl rfl (fun ⟨hb59,_⟩=>?_) ?_
     ·rw [hb59];exact (qc ·)
     refine zgl rfl rfl rfl rfl rfl rfl (fun hc=>by rw [hc];rfl) ?_;refine qc ?_;refine W_gs (v:=pl g10 (0+2)) rfl rfl rfl rfl (fun ⟨hb60,_⟩=>?_) ?_
     ·rw [hb60];exact (qf Ty.zlt ·)
     refine W_gs (v:=.i .i64 x8.off) rfl rfl rfl rfl (fun ⟨hb61,_⟩=>?_) ?_
     ·rw [hb61];exact (qbq 0 Ty.zdd hS58 ·)
     obtain ⟨Q63,hQ63⟩:∃ Q:Hp→Prop,Q=fun wq=>St [] w F F4 [.box g10 [.i .i64 x8.vol,.i .i64 x8.file,.i .i64 x8.off,.i .i64 x8.len],.box g1 [.i .i64 x0.seq,v0_0,v0_1,v0_2,v0_3]] wq:=⟨_,rfl⟩;refine W_gw (v:=.b r19) (Q:=Q63) (by rw [hQ63];exact hS58) rfl rfl rfl rfl (fun ⟨hb62,_⟩=>?_) ?_
     ·rw [hb62];intro hK;have hy64:=hr19;rw [zbu (by first | rfl | (rw [hb62];first | done | rfl) | simp [hb62])] at hy64;refine ql (zed hS58.good hy64) ?_;rintro v65 w65 ⟨Fr19,rfl,hT65⟩;have hS65:=hS58.lent hT65;exact hK _ (by rw [hQ63];exact hS65)
     intro w66 hS66;rw [hQ63] at hS66;refine qw hS66 ?_;refine W_gs (v:=.b (!r19)) rfl rfl rfl rfl (fun ⟨hb67,_⟩=>?_) ?_
     ·rw [hb67];exact (qc ·)
     refine zgl rfl rfl rfl rfl rfl rfl (fun hc=>by rw [hc];rfl) ?_;refine qc ?_;refine W_gs (v:=pl g10 (0+3)) rfl rfl rfl rfl (fun ⟨hb68,_⟩=>?_) ?_
     ·rw [hb68];exact (qf Ty.zpb ·)
     refine W_gs (v:=.i .i64 x8.len) rfl rfl rfl rfl (fun ⟨hb69,_⟩=>?_) ?_
     ·rw [hb69];exact (qbq 0 Ty.zdd hS66 ·)
     obtain ⟨Q71,hQ71⟩:∃ Q:Hp→Prop,Q=fun wq=>St [] w F F4 [.box g10 [.i .i64 x8.vol,.i .i64 x8.file,.i .i64 x8.off,.i .i64 x8.len],.box g1 [.i .i64 x0.seq,v0_0,v0_1,v0_2,v0_3]] wq:=⟨_,rfl⟩;refine W_gw (v:=.b r20) (Q:=Q71) (by rw [hQ71];exact hS66) rfl rfl rfl rfl (fun ⟨hb70,_⟩=>?_) ?_
     ·rw [hb70];intro hK;have hy72:=hr20;rw [zbu (by first | rfl | (rw [hb70];first | done | rfl) | simp [hb70])] at hy72;refine ql (zed hS66.good hy72) ?_;rintro v73 w73 ⟨Fr20,rfl,hT73⟩;have hS73:=hS66.lent hT73;exact hK _ (by rw [hQ71];exact hS73)
     intro w74 hS74;rw [hQ71] at hS74;refine qw hS74 ?_;refine W_gs (v:=.b (!r20)) rfl rfl rfl rfl (fun ⟨hb75,_⟩=>?_) ?_
     ·rw [hb75];exact (qc ·)
     refine zgl rfl rfl rfl rfl rfl rfl (fun hc=>by rw [hc];rfl) ?_;refine qc ?_;refine W_gs (v:=.i .i64 i5) rfl rfl rfl rfl (fun ⟨hb76,_⟩=>?_) ?_
     ·rw [hb76];exact (qc ·)
     refine W_gs (v:=.b (decide (0 < i5))) rfl rfl rfl rfl (fun ⟨hb77,_⟩=>?_) ?_
     ·rw [hb77];exact (qr (zah rfl rfl zgn) ·)
     refine W_gs (v:=.b (decide (0 < i5))) rfl rfl rfl rfl (fun ⟨hb78,_⟩=>?_) ?_
     ·rw [hb78];exact (qc ·)
     refine zek (v:=.agg (Loc.cells x8)) rfl rfl rfl rfl (fun ⟨hb79,hb80,_⟩=>?_) ?_
     ·rw [hb79,hb80];exact (qq (zde 0 (Loc.cells x8) Ty.zsw Ty.zgx (Nat.zero_lt_succ _) rfl hS74 rfl (fun q u h=>zdb (post:=[]) rfl h)) ·)
     refine zek (v:=v1) rfl rfl rfl rfl (fun ⟨hb81,hb82,_⟩=>?_) ?_
     ·rw [hb81,hb82];exact (qc ·)
     refine zek (v:=.i .i64 i5) rfl rfl rfl rfl (fun ⟨hb83,hb84,_⟩=>?_) ?_
     ·rw [hb83,hb84];exact (qc ·)
     refine zek (v:=.i .i64 (wr (i5 - 1))) rfl rfl rfl rfl (fun ⟨hb85,hb86,_⟩=>?_) ?_
     ·rw [hb85,hb86];exact (qc ·)
     refine zek (v:=elp v1 ((wr (i5 - 1)).toNat*4)) rfl rfl rfl rfl (fun ⟨hb87,hb88,_⟩=>?_) ?_
     ·rw [hb87,hb88];intro hK;have hy89:=hx21;rw [zbu (by first | rfl | (rw [hb87,hb88];first | done | rfl) | simp [hb87,hb88])] at hy89;obtain ⟨hp90,hy90⟩:=zac hy89;obtain ⟨cs90,hr90,he90⟩:=(h1.mono le4).el hy90;obtain rfl:=hr90;replace he90:=qj 4 he90;have hi90:=he90.ixd;refine qi Tryz.underlying44 Ty.zgx hi90 hp90 ?_;exact hK
     refine zek (v:=.agg (Loc.cells x21)) rfl rfl rfl rfl (fun ⟨hb91,hb92,_⟩=>?_) ?_
     ·rw [hb91,hb92];intro hK;have hy93:=hx21;rw [zbu (by first | rfl | (rw [hb91,hb92];first | done | rfl) | simp [hb91,hb92])] at hy93;obtain ⟨hp94,hy94⟩:=zac hy93;obtain ⟨cs94,hr94,he94⟩:=(h1.mono le4).el hy94;obtain rfl:=hr94;replace he94:=qj 4 he94;have hi94:=he94.ixd;refine qq (zfe 0 (Loc.cells x21) Ty.zsw Ty.zgx rfl (he94.mono hS74.agree) (by omega) rfl (Nat.le_of_ble_eq_true rfl)) ?_;exact hK
     obtain ⟨Q97,hQ97⟩:∃ Q:Hp→Prop,Q=fun wq=>St [] w F F4 [.box g10 [.i .i64 x8.vol,.i .i64 x8.file,.i .i64 x8.off,.i .i64 x8.len],.box g1 [.i .i64 x0.seq,v0_0,v0_1,v0_2,v0_3]] wq:=⟨_,rfl⟩;refine W_gwc (v:=.b r23) (Q:=Q97) (by rw [hQ97];exact hS74) rfl rfl rfl rfl (fun ⟨hb95,hb96,_⟩=>?_) ?_
     ·rw [hb95,hb96];intro hK;have hy98:=hr23;rw [zbu (by first | rfl | (rw [hb95,hb96];first | done | rfl) | simp [hb95,hb96])] at hy98;refine ql (ztz hS74.good hy98) ?_;rintro v99 w99 ⟨Fr23,rfl,hT99⟩;have hS99:=hS74.lent hT99;exact hK _ (by rw [hQ97];exact hS99)
     intro w100 hS100;rw [hQ97] at hS100;refine qw hS100 ?_;refine zek (v:=.b (!r23)) rfl rfl rfl rfl (fun ⟨hb101,hb102,_⟩=>?_) ?_
     ·rw [hb101,hb102];exact (qc ·)
     refine W_gs (v:=.b (decide (0 < i5)&&(!r23))) rfl rfl rfl rfl (fun ⟨hb103,_⟩=>?_) ?_
     ·rw [hb103];exact (ziu rfl rfl rfl rfl rfl (fun hc=>by rw [hc];rfl) rfl ·)
     refine zgl rfl rfl rfl rfl rfl rfl (fun hc=>by rw [hc];rfl) ?_;refine qn ?_;refine qy H (fun hc104 H=>?_) (fun hc104 H=>?_)
     ·refine qsm ?_;obtain rfl:=oi H;refine qt ?_;exact ⟨F4,rfl,hS100.pick [] (by decide)⟩
     ·refine zec ?_;refine zbf ?_;refine zcl ?_;refine qd ?_;refine q2 ?_;refine zbk ?_;exact zbd (wr (i5+1)) _ H ⟨F4,rfl,le4,hS100.pick [1] (by decide)⟩ ⟨rfl,rfl,rfl,rfl,rfl,trivial⟩
    ·refine zcc _ rfl ?_;exact zbe _ ⟨H,⟨F4,rfl,le4,hS4.pick [] (by decide)⟩⟩ trivial
  ·rintro E w3 ⟨H,F3,rfl,le3,hS3⟩;dsimp only [zdm.k1] at H;refine qsm ?_;obtain rfl:=oi H;refine qt ?_;exact ⟨F3,rfl,hS3⟩
def zdf.k1 (x0:Catalog):Option Bool :=
  some (decide ((x0.chunks.length:Int)≤200))
def zdf.l2 (x0:Catalog) (rec5:Int→Option Bool):Int→Option Bool
  | i4 =>
    if decide (i4 < (x0.chunks.length:Int)) then
      bd (ix x0.chunks i4) fun x7 =>
      bd (only (decide (0 < i4)) (ix x0.chunks (wr (i4 - 1))) (Chunk.mk (List.replicate 32 (0:UInt8)) false [] [])) fun x12 =>
      bd (only (decide (0 < i4)) (zjt x12.id x7.id) 0) fun r14 =>
      bd (only (!(decide (0 < i4)&&decide (0≤r14))) (zdm x0 x7.locs) false) fun r15 =>
      bd (only ((!(((decide (0 < i4)&&decide (0≤r14))||(!r15))||((!x7.staged)&&(decide (0 < (x7.data.length:Int))||decide ((x7.locs.length:Int)=0)))))&&x7.staged) (zfa (x7.data.length:Int) 1 64) false) fun r16 =>
      if ((((decide (0 < i4)&&decide (0≤r14))||(!r15))||((!x7.staged)&&(decide (0 < (x7.data.length:Int))||decide ((x7.locs.length:Int)=0))))||(x7.staged&&(!r16))) then
        some false
      else
        rec5 (wr (i4+1))
    else
      zdf.k1 x0
def zdf (x0:Catalog):Option Bool :=
  loop (zdf.l2 x0) 0
set_option maxHeartbeats 2000000 in
theorem zsu [Kn (KExt Tryz.prog) K]  {x0:Catalog} {r:Bool} {v0_0:Val} {v0_1:Val} {v0_2:Val} {v0_3:Val} (hA:Gd F w) (h0_0:SlF Snap.t F v0_0 x0.snaps) (h0_1:SlF Chunk.t F v0_1 x0.chunks) (h0_2:SlF Exp.t F v0_2 x0.exps) (h0_3:SlF Vol.t F v0_3 x0.vols) (H:zdf x0=some r):Ret Tryz.prog K 78 [.agg (Catalog.cells x0 v0_0 v0_1 v0_2 v0_3)] w fun v w'=>∃ (F':Frz),v = .b r∧St [] w F F' [] w':=by
 refine qa1 Tryz.func78 ?_;have hS:=St.start hA;dsimp only [zdf] at H;refine qs ?_;refine xm (E_bx (cs:=[.i .i64 x0.seq,v0_0,v0_1,v0_2,v0_3]) rfl rfl (by simp only [List.all_cons,List.all_nil,List.all_append,h0_0.ln.one,h0_1.ln.one,h0_2.ln.one,h0_3.ln.one];rfl) hS) ?_;rintro _ w1 ⟨g1,rfl,hS1⟩;refine qm ?_;refine zai (fun E wq=>zdf.k1 x0=some r ∧ ∃ (F2:Frz),E=[(1,pl g1 0)]∧F.le F2∧St [] w F F2 [.box g1 [.i .i64 x0.seq,v0_0,v0_1,v0_2,v0_3]] wq) ?_ ?_
 ·refine qs ?_;refine qf Ty.zcq ?_;refine qb 0 Ty.zgd hS1 ?_;refine qr (zbs Tryz.underlying35 rfl h0_1.ln) ?_;refine qm ?_;refine zar ?_;refine zbm (fun (s:Int) E wq=>∃ (F3:Frz),E=[(1,pl g1 0),(6,v0_1),(7,.i .i64 (x0.chunks.length:Int)),(8,.i .i64 s)]∧F.le F3∧St [] w F F3 [.box g1 [.i .i64 x0.seq,v0_0,v0_1,v0_2,v0_3]] wq) H ?_ ?_
  ·exact ⟨_,⟨F,rfl,(Frz.le.refl _),hS1⟩,⟨rfl,rfl,rfl,rfl,trivial⟩⟩
  ·rintro rec5 i4 E w3 hI H
   try dsimp only at hI
   obtain ⟨F3,rfl,le3,hS3⟩:=hI;dsimp only [zdf.l2] at H;refine qs ?_;refine qr (zah rfl rfl zbp) ?_;refine qn ?_;refine zay ?_;refine qy H (fun hc6 H=>?_) (fun hc6 H=>?_)
   ·refine qk ?_;refine zay ?_;refine zar ?_;obtain ⟨x7,hx7,H⟩:=zap H;refine qsc ?_;obtain ⟨hp10,hy10⟩:=zac hx7;obtain ⟨cs10,hr10,he10⟩:=(h0_1.mono le3).el hy10;obtain ⟨ue8_0,ue8_1,rfl,hle8_0,hue8_0,hue8_1⟩:=hr10;replace he10:=qj 35 he10;have hi10:=he10.ixd;refine qi Tryz.underlying35 Ty.zep hi10 hp10 ?_;refine qr (zfe 0 (Chunk.cells x7 ue8_0 ue8_1) Ty.agg60 Ty.zep rfl (he10.mono hS3.agree) (by omega) rfl (Nat.le_of_ble_eq_true rfl)) ?_;refine xm (zft (cs:=zao (List.replicate 32 (0:UInt8))++[.b false,.sl none 0 (.k 0),.sl none 0 (.k 0)]) Ty.zero60 rfl hS3) ?_;rintro _ w9 ⟨g9,rfl,hS9⟩;refine qc ?_;refine um (zea (c:=zao x7.id++[.b x7.staged,ue8_0,ue8_1]) 0 (zao x7.id++[.b x7.staged,ue8_0,ue8_1]) rfl rfl hS9 rfl rfl Ty.zep (by simp only [List.all_cons,List.all_nil,List.all_append,hue8_0.ln.one,hue8_1.ln.one];rfl) rfl rfl) ?_;rintro _ w11 hS11;refine qn ?_;refine zay ?_;obtain ⟨x12,hx12,r14,hr14,H⟩:=bd2 H;obtain ⟨r15,hr15,r16,hr16,H⟩:=bd2 H;have hle13_0:(x12.id).length=32:=by
     rcases Bool.eq_false_or_eq_true (decide (0 < i4)) with hb17 | hb17
     ·have hy18:=hx12;rw [zbu hb17] at hy18;obtain ⟨hp19,hy19⟩:=zac hy18;obtain ⟨cs19,hr19,he19⟩:=(h0_1.mono le3).el hy19;obtain ⟨ue13_0,ue13_1,rfl,hle13_0,hue13_0,hue13_1⟩:=hr19;replace he19:=qj 35 he19;have hi19:=he19.ixd;exact hle13_0
     ·have hy:=hx12;rw [zhz hb17] at hy;obtain rfl:=oi hy
      rfl
    refine zaz (G:=F3) [0,1,2,3,4,5,6,7,8,9,10,11,12,13,14,15,16,17,18,19,20,21,22,23,24,25,26,27,28,29,30,31,32,33,34,35,36,37,38,39,40,41,42,43,44,45,46,47,48,49] rfl Ty.mixed (by kernel_rfl) hS11.agree ?_;refine qc ?_;refine qr (zah rfl rfl zgn) ?_;refine qc ?_;refine W_gs (v:=pl g1 (0+2)) rfl rfl rfl rfl (fun ⟨hb20,_⟩=>?_) ?_
    ·rw [hb20];exact (qf Ty.zcq ·)
    refine W_gs (v:=v0_1) rfl rfl rfl rfl (fun ⟨hb21,_⟩=>?_) ?_
    ·rw [hb21];exact (qbq 1 Ty.zgd hS11 ·)
    refine W_gs (v:=.i .i64 i4) rfl rfl rfl rfl (fun ⟨hb22,_⟩=>?_) ?_
    ·rw [hb22];exact (qc ·)
    refine W_gs (v:=.i .i64 (wr (i4 - 1))) rfl rfl rfl rfl (fun ⟨hb23,_⟩=>?_) ?_
    ·rw [hb23];exact (qc ·)
    refine W_gs (v:=elp v0_1 ((wr (i4 - 1)).toNat*35)) rfl rfl rfl rfl (fun ⟨hb24,_⟩=>?_) ?_
    ·rw [hb24];intro hK;have hy25:=hx12;rw [zbu hb24] at hy25;obtain ⟨hp26,hy26⟩:=zac hy25;obtain ⟨cs26,hr26,he26⟩:=(h0_1.mono le3).el hy26;obtain ⟨ue13_0,ue13_1,rfl,hle13_0,hue13_0,hue13_1⟩:=hr26;replace he26:=qj 35 he26;have hi26:=he26.ixd;refine qi Tryz.underlying35 Ty.zep hi26 hp26 ?_;exact hK
    refine W_gs (v:=elp v0_1 (((wr (i4 - 1)).toNat*35)+0)) rfl rfl rfl rfl (fun ⟨hb27,_⟩=>?_) ?_
    ·rw [hb27];intro hK;have hy28:=hx12;rw [zbu hb27] at hy28;obtain ⟨hp29,hy29⟩:=zac hy28;obtain ⟨cs29,hr29,he29⟩:=(h0_1.mono le3).el hy29;obtain ⟨ue13_0,ue13_1,rfl,hle13_0,hue13_0,hue13_1⟩:=hr29;replace he29:=qj 35 he29;have hi29:=he29.ixd;refine qr (zfm 0 Ty.zjm rfl hi29) ?_;exact hK
    refine W_gs (v:=.agg (zao x12.id)) rfl rfl rfl rfl (fun ⟨hb30,_⟩=>?_) ?_
    ·rw [hb30];intro hK;have hy31:=hx12;rw [zbu hb30] at hy31;obtain ⟨hp32,hy32⟩:=zac hy31;obtain ⟨cs32,hr32,he32⟩:=(h0_1.mono le3).el hy32;obtain ⟨ue13_0,ue13_1,rfl,hle13_0,hue13_0,hue13_1⟩:=hr32;replace he32:=qj 35 he32;have hi32:=he32.ixd;refine qq (zfe 0 (zao x12.id) Ty.zhs Ty.zcy rfl (he32.mono hS11.agree) (by omega) rfl (Nat.le_of_ble_eq_true rfl)) ?_;exact hK
    refine W_gs (v:=pl g9 (0+0)) rfl rfl rfl rfl (fun ⟨hb33,_⟩=>?_) ?_
    ·rw [hb33];exact (qf Ty.zjm ·)
    refine W_gs (v:=.agg (zao x7.id)) rfl rfl rfl rfl (fun ⟨hb34,_⟩=>?_) ?_
    ·rw [hb34];exact (qq (zde 0 (zao x7.id) Ty.zhs Ty.zcy (Nat.zero_lt_succ _) rfl hS11 rfl (fun q u h=>zdb (post:=[.b x7.staged,ue8_0,ue8_1]) rfl h)) ·)
    obtain ⟨Q36,hQ36⟩:∃ Q:Hp→Prop,Q=fun wq=>St [] w F F3 [.box g9 (zao x7.id++[.b x7.staged,ue8_0,ue8_1]),.box g1 [.i .i64 x0.seq,v0_0,v0_1,v0_2,v0_3]] wq:=⟨_,rfl⟩;refine W_gw (v:=.i .i64 r14) (Q:=Q36) (by rw [hQ36];exact hS11) rfl rfl rfl rfl (fun ⟨hb35,_⟩=>?_) ?_
    ·rw [hb35];intro hK;have hy37:=hr14;rw [zbu hb35] at hy37;refine ql (zoa hS11.good hle13_0 hle8_0 hy37) ?_;rintro v38 w38 ⟨Fr14,rfl,hT38⟩;have hS38:=hS11.lent hT38;exact hK _ (by rw [hQ36];exact hS38)
    intro w39 hS39;rw [hQ36] at hS39;refine qw hS39 ?_;refine W_gs (v:=.b (decide (0≤r14))) rfl rfl rfl rfl (fun ⟨hb40,_⟩=>?_) ?_
    ·rw [hb40];exact (qr (zah rfl rfl znk) ·)
    refine ziu rfl rfl rfl rfl rfl (fun hc=>by rw [hc];rfl) rfl ?_;refine qc ?_;refine W_gs (v:=.agg (Catalog.cells x0 v0_0 v0_1 v0_2 v0_3)) rfl rfl rfl rfl (fun ⟨hb41,_⟩=>?_) ?_
    ·rw [hb41];exact (qq (zde 1 (Catalog.cells x0 v0_0 v0_1 v0_2 v0_3) Ty.zql Ty.zhx (Nat.zero_lt_succ _) rfl hS39 rfl (fun q u h=>zdb (post:=[]) rfl h)) ·)
    refine W_gs (v:=pl g9 (0+34)) rfl rfl rfl rfl (fun ⟨hb42,_⟩=>?_) ?_
    ·rw [hb42];exact (qf Ty.zgs ·)
    refine W_gs (v:=ue8_1) rfl rfl rfl rfl (fun ⟨hb43,_⟩=>?_) ?_
    ·rw [hb43];exact (qbq 0 Ty.zhh hS39 ·)
    obtain ⟨Q45,hQ45⟩:∃ Q:Hp→Prop,Q=fun wq=>St [] w F F3 [.box g9 (zao x7.id++[.b x7.staged,ue8_0,ue8_1]),.box g1 [.i .i64 x0.seq,v0_0,v0_1,v0_2,v0_3]] wq:=⟨_,rfl⟩;refine W_gw (v:=.b r15) (Q:=Q45) (by rw [hQ45];exact hS39) rfl rfl rfl rfl (fun ⟨hb44,_⟩=>?_) ?_
    ·rw [hb44];intro hK;have hy46:=hr15;rw [zbu (by first | rfl | (rw [hb44];first | done | rfl) | simp [hb44])] at hy46;refine ql (zlv hS39.good (h0_0.mono le3) (h0_1.mono le3) (h0_2.mono le3) (h0_3.mono le3) hue8_1 hy46) ?_;rintro v47 w47 ⟨Fr15,rfl,hT47⟩;have hS47:=hS39.lent hT47;exact hK _ (by rw [hQ45];exact hS47)
    intro w48 hS48;rw [hQ45] at hS48;refine qw hS48 ?_;refine W_gs (v:=.b (!r15)) rfl rfl rfl rfl (fun ⟨hb49,_⟩=>?_) ?_
    ·rw [hb49];exact (qc ·)
    refine zgl rfl rfl rfl rfl rfl rfl (fun hc=>by rw [hc];rfl) ?_;refine qc ?_;refine W_gs (v:=pl g9 (0+32)) rfl rfl rfl rfl (fun ⟨hb50,_⟩=>?_) ?_
    ·rw [hb50];exact (qf Ty.zoz ·)
    refine W_gs (v:=.b x7.staged) rfl rfl rfl rfl (fun ⟨hb51,_⟩=>?_) ?_
    ·rw [hb51];exact (qbq 0 Ty.zwu hS48 ·)
    refine W_gs (v:=.b (!x7.staged)) rfl rfl rfl rfl (fun ⟨hb52,_⟩=>?_) ?_
    ·rw [hb52];exact (qc ·)
    refine W_gs (v:=.b (!x7.staged)) rfl rfl rfl rfl (fun ⟨hb53,_⟩=>?_) ?_
    ·rw [hb53];exact (qc ·)
    refine zek (v:=pl g9 (0+33)) rfl rfl rfl rfl (fun ⟨hb54,hb55,_⟩=>?_) ?_
    ·rw [hb54,hb55];exact (qf Ty.znf ·)
    refine zek (v:=ue8_0) rfl rfl rfl rfl (fun ⟨hb56,hb57,_⟩=>?_) ?_
    ·rw [hb56,hb57];exact (qbq 0 Ty.zhg hS48 ·)
    refine zek (v:=.i .i64 (x7.data.length:Int)) rfl rfl rfl rfl (fun ⟨hb58,hb59,_⟩=>?_) ?_
    ·rw [hb58,hb59];exact (qr (zbs Tryz.underlying47 rfl hue8_0.ln) ·)
    refine zek (v:=.b (decide (0 < (x7.data.length:Int)))) rfl rfl rfl rfl (fun ⟨hb60,hb61,_⟩=>?_) ?_
    ·rw [hb60,hb61];exact (qr (zah rfl rfl zgn) ·)
    refine zek (v:=.b (decide (0 < (x7.data.length:Int)))) rfl rfl rfl rfl (fun ⟨hb62,hb63,_⟩=>?_) ?_
    ·rw [hb62,hb63];exact (qc ·)
    refine zek (v:=pl g9 (0+34)) rfl rfl rfl rfl (fun ⟨hb64,hb65,hb66,_⟩=>?_) ?_
    ·rw [hb64,hb66,hb65];exact (qf Ty.zgs ·)
    refine zek (v:=ue8_1) rfl rfl rfl rfl (fun ⟨hb67,hb68,hb69,_⟩=>?_) ?_
    ·rw [hb67,hb69,hb68];exact (qbq 0 Ty.zhh hS48 ·)
    refine zek (v:=.i .i64 (x7.locs.length:Int)) rfl rfl rfl rfl (fun ⟨hb70,hb71,hb72,_⟩=>?_) ?_
    ·rw [hb70,hb72,hb71];exact (qr (zbs Tryz.underlying44 rfl hue8_1.ln) ·)
    refine zek (v:=.b (decide ((x7.locs.length:Int)=0))) rfl rfl rfl rfl (fun ⟨hb73,hb74,hb75,_⟩=>?_) ?_
    ·rw [hb73,hb75,hb74];exact (qr (zah rfl rfl zeg) ·)
    refine zek (v:=.b (decide (0 < (x7.data.length:Int))||decide ((x7.locs.length:Int)=0))) rfl rfl rfl rfl (fun ⟨hb76,hb77,_⟩=>?_) ?_
    ·rw [hb76,hb77];exact (zgl rfl rfl rfl rfl rfl rfl (fun hc=>by rw [hc];rfl) ·)
    refine W_gs (v:=.b ((!x7.staged)&&(decide (0 < (x7.data.length:Int))||decide ((x7.locs.length:Int)=0)))) rfl rfl rfl rfl (fun ⟨hb78,_⟩=>?_) ?_
    ·rw [hb78];exact (ziu rfl rfl rfl rfl rfl (fun hc=>by rw [hc];rfl) rfl ·)
    refine zgl rfl rfl rfl rfl rfl rfl (fun hc=>by rw [hc];rfl) ?_;refine qc ?_;refine W_gs (v:=pl g9 (0+32)) rfl rfl rfl rfl (fun ⟨hb79,_⟩=>?_) ?_
    ·rw [hb79];exact (qf Ty.zoz ·)
    refine W_gs (v:=.b x7.staged) rfl rfl rfl rfl (fun ⟨hb80,_⟩=>?_) ?_
    ·rw [hb80];exact (qbq 0 Ty.zwu hS48 ·)
    refine W_gs (v:=.b x7.staged) rfl rfl rfl rfl (fun ⟨hb81,_⟩=>?_) ?_
    ·rw [hb81];exact (qc ·)
    refine zek (v:=pl g9 (0+33)) rfl rfl rfl rfl (fun ⟨hb82,hb83,_⟩=>?_) ?_
    ·rw [hb82,hb83];exact (qf Ty.znf ·)
    refine zek (v:=ue8_0) rfl rfl rfl rfl (fun ⟨hb84,hb85,_⟩=>?_) ?_
    ·rw [hb84,hb85];exact (qbq 0 Ty.zhg hS48 ·)
    refine zek (v:=.i .i64 (x7.data.length:Int)) rfl rfl rfl rfl (fun ⟨hb86,hb87,_⟩=>?_) ?_
    ·rw [hb86,hb87];exact (qr (zbs Tryz.underlying47 rfl hue8_0.ln) ·)
    obtain ⟨Q90,hQ90⟩:∃ Q:Hp→Prop,Q=fun wq=>St [] w F F3 [.box g9 (zao x7.id++[.b x7.staged,ue8_0,ue8_1]),.box g1 [.i .i64 x0.seq,v0_0,v0_1,v0_2,v0_3]] wq:=⟨_,rfl⟩;refine W_gwc (v:=.b r16) (Q:=Q90) (by rw [hQ90];exact hS48) rfl rfl rfl rfl (fun ⟨hb88,hb89,_⟩=>?_) ?_
    ·rw [hb88,hb89];intro hK;have hy91:=hr16;rw [zbu (by first | rfl | (rw [hb88,hb89];first | done | rfl) | simp [hb88,hb89])] at hy91;refine ql (zed hS48.good hy91) ?_;rintro v92 w92 ⟨Fr16,rfl,hT92⟩;have hS92:=hS48.lent hT92;exact hK _ (by rw [hQ90];exact hS92)
    intro w93 hS93;rw [hQ90] at hS93;refine qw hS93 ?_;refine zek (v:=.b (!r16)) rfl rfl rfl rfl (fun ⟨hb94,hb95,_⟩=>?_) ?_
    ·rw [hb94,hb95];exact (qc ·)
    refine W_gs (v:=.b (x7.staged&&(!r16))) rfl rfl rfl rfl (fun ⟨hb96,_⟩=>?_) ?_
    ·rw [hb96];exact (ziu rfl rfl rfl rfl rfl (fun hc=>by rw [hc];rfl) rfl ·)
    refine zgl rfl rfl rfl rfl rfl rfl (fun hc=>by rw [hc];rfl) ?_;refine qn ?_;refine qy H (fun hc97 H=>?_) (fun hc97 H=>?_)
    ·refine qsm ?_;obtain rfl:=oi H;refine qt ?_;exact ⟨F3,rfl,hS93.pick [] (by decide)⟩
    ·refine zec ?_;refine zbf ?_;refine zcl ?_;refine qd ?_;refine q2 ?_;refine zbk ?_;exact zbd (wr (i4+1)) _ H ⟨F3,rfl,le3,hS93.pick [1] (by decide)⟩ ⟨rfl,rfl,rfl,rfl,trivial⟩
   ·refine zcc _ rfl ?_;exact zbe _ ⟨H,⟨F3,rfl,le3,hS3⟩⟩ ⟨rfl,trivial⟩
 ·rintro E w2 ⟨H,F2,rfl,le2,hS2⟩;dsimp only [zdf.k1] at H;refine qs ?_;refine qf Ty.zcq ?_;refine qb 0 Ty.zgd hS2 ?_;refine qr (zbs Tryz.underlying35 rfl h0_1.ln) ?_;refine qr (zah rfl rfl zwl) ?_;refine qm ?_;obtain rfl:=oi H;refine qt ?_;exact ⟨F2,rfl,hS2.pick [] (by decide)⟩
def zbg.k1 (x0:Catalog):Option Bool :=
  some (decide ((x0.snaps.length:Int)≤8))
def zbg.k3 (i5:Int) (rec7:(Int × ((List UInt8)→Option Bool))→Option Bool) (m10:(List UInt8)→Option Bool):Option Bool :=
  rec7 (wr (i5+1),m10)
def zbg.k5 (i78:Int) (rec79:Int→Option Bool):Option Bool :=
  rec79 (wr (i78+1))
def zbg.l6 (x0:Catalog) (i78:Int) (rec79:Int→Option Bool) (x82:Part) (rec89:Int→Option Bool):Int→Option Bool
  | i88 =>
    if decide (i88 < (x82.ids.length:Int)) then
      bd (ix x82.ids i88) fun x91 =>
      bd (zhn x0.chunks x91) fun r96 =>
      if (!r96.2) then
        some false
      else
        rec89 (wr (i88+1))
    else
      zbg.k5 i78 rec79
def zbg.l4 (x0:Catalog) (i5:Int) (m6:(List UInt8)→Option Bool) (rec7:(Int × ((List UInt8)→Option Bool))→Option Bool) (x11:Snap) (rec79:Int→Option Bool):Int→Option Bool
  | i78 =>
    if decide (i78 < (x11.man.parts.length:Int)) then
      bd (ix x11.man.parts i78) fun x82 =>
      loop (zbg.l6 x0 i78 rec79 x82) 0
    else
      zbg.k3 i5 rec7 (mput m6 x11.man.name true)
def zbg.l2 (x0:Catalog) (rec7:(Int × ((List UInt8)→Option Bool))→Option Bool):(Int × ((List UInt8)→Option Bool))→Option Bool
  | (i5,m6) =>
    if decide (i5 < (x0.snaps.length:Int)) then
      bd (ix x0.snaps i5) fun x11 =>
      bd (zfa x11.seq 0 (wr (x0.seq - 1))) fun r16 =>
      bd (only ((!(!r16))&&decide (0 < i5)) (ix x0.snaps (wr (i5 - 1))) (Snap.mk 0 (Manifest.mk [] []) [])) fun x17 =>
      bd (only (!(((!r16)||(decide (0 < i5)&&decide (x11.seq≤x17.seq)))||((m6 x11.man.name).getD false))) (zda x11.man) 0) fun r20 =>
      bd (only (!((((!r16)||(decide (0 < i5)&&decide (x11.seq≤x17.seq)))||((m6 x11.man.name).getD false))||decide (r20≠0))) (zdm x0 x11.locs) false) fun r21 =>
      if (((((!r16)||(decide (0 < i5)&&decide (x11.seq≤x17.seq)))||((m6 x11.man.name).getD false))||decide (r20≠0))||(!r21)) then
        some false
      else
        loop (zbg.l4 x0 i5 m6 rec7 x11) 0
    else
      zbg.k1 x0
def zbg (x0:Catalog):Option Bool :=
  loop (zbg.l2 x0) (0,(mnil:(List UInt8)→Option Bool))
set_option maxHeartbeats 2000000 in
theorem zty [Kn (KExt Tryz.prog) K]  {x0:Catalog} {r:Bool} {v0_0:Val} {v0_1:Val} {v0_2:Val} {v0_3:Val} (hA:Gd F w) (h0_0:SlF Snap.t F v0_0 x0.snaps) (h0_1:SlF Chunk.t F v0_1 x0.chunks) (h0_2:SlF Exp.t F v0_2 x0.exps) (h0_3:SlF Vol.t F v0_3 x0.vols) (H:zbg x0=some r):Ret Tryz.prog K 79 [.agg (Catalog.cells x0 v0_0 v0_1 v0_2 v0_3)] w fun v w'=>∃ (F':Frz),v = .b r∧St [] w F F' [] w':=by
 refine qa1 Tryz.func79 ?_;have hS:=St.start hA;dsimp only [zbg] at H;refine qs ?_;refine xm (E_bx (cs:=[.i .i64 x0.seq,v0_0,v0_1,v0_2,v0_3]) rfl rfl (by simp only [List.all_cons,List.all_nil,List.all_append,h0_0.ln.one,h0_1.ln.one,h0_2.ln.one,h0_3.ln.one];rfl) hS) ?_;rintro _ w1 ⟨g1,rfl,hS1⟩;refine qm ?_;refine qs ?_;refine xm (E_mkmap kS (.of .b) hS1) ?_;rintro _ w2 ⟨g2,rfl,hS2⟩;refine qm ?_;refine zai (fun E wq=>zbg.k1 x0=some r ∧ ∃ (F3:Frz),E=[(1,pl g1 0)]∧F.le F3∧St [] w F F3 [.box g1 [.i .i64 x0.seq,v0_0,v0_1,v0_2,v0_3]] wq) ?_ ?_
 ·refine qs ?_;refine qf Ty.zdi ?_;refine qb 1 Ty.zhr hS2 ?_;refine qr (zbs Tryz.underlying34 rfl h0_0.ln) ?_;refine qm ?_;refine zar ?_;refine zbm (fun (s:Int × ((List UInt8)→Option Bool)) E wq=>∃ (F4:Frz),E=[(1,pl g1 0),(3,.m (some g2)),(14,v0_0),(15,.i .i64 (x0.snaps.length:Int)),(16,.i .i64 s.1)]∧F.le F4∧St [] w F F4 [.map kS (.of .b) g2 s.2,.box g1 [.i .i64 x0.seq,v0_0,v0_1,v0_2,v0_3]] wq) H ?_ ?_
  ·exact ⟨_,⟨F,rfl,(Frz.le.refl _),hS2⟩,⟨rfl,rfl,rfl,rfl,rfl,trivial⟩⟩
  ·rintro rec7 ⟨i5,m6⟩ E w4 hI H
   try dsimp only at hI
   obtain ⟨F4,rfl,le4,hS4⟩:=hI;dsimp only [zbg.l2] at H;refine qs ?_;refine qr (zah rfl rfl zbp) ?_;refine qn ?_;refine zay ?_;refine qy H (fun hc8 H=>?_) (fun hc8 H=>?_)
   ·refine qk ?_;refine zai (fun E wq=>∃ m10:(List UInt8)→Option Bool,zbg.k3 i5 rec7 m10=some r ∧ ∃ (F9:Frz),E=[(1,pl g1 0),(3,.m (some g2)),(14,v0_0),(15,.i .i64 (x0.snaps.length:Int)),(16,.i .i64 i5)]∧F4.le F9∧St [] w F F9 [.map kS (.of .b) g2 m10,.box g1 [.i .i64 x0.seq,v0_0,v0_1,v0_2,v0_3]] wq) ?_ ?_
    ·refine zar ?_;obtain ⟨x11,hx11,H⟩:=zap H;refine qsc ?_;obtain ⟨hp14,hy14⟩:=zac hx11;obtain ⟨cs14,hr14,he14⟩:=(h0_0.mono le4).el hy14;obtain ⟨ue12_0,ue12_1,rfl,hue12_0,hue12_1⟩:=hr14;replace he14:=qj 4 he14;have hi14:=he14.ixd;refine qi Tryz.underlying34 Ty.zdl hi14 hp14 ?_;refine qr (zfe 0 (Snap.cells x11 ue12_0 ue12_1) Ty.zsx Ty.zdl rfl (he14.mono hS4.agree) (by omega) rfl (Nat.le_of_ble_eq_true rfl)) ?_;refine xm (zft (cs:=[.i .i64 0,.s [],.sl none 0 (.k 0),.sl none 0 (.k 0)]) Ty.zero46 rfl hS4) ?_;rintro _ w13 ⟨g13,rfl,hS13⟩;refine qc ?_;refine um (zea (c:=[.i .i64 x11.seq,.s x11.man.name,ue12_0,ue12_1]) 0 ([.i .i64 x11.seq,.s x11.man.name,ue12_0,ue12_1]) rfl rfl hS13 rfl rfl Ty.zdl (by simp only [List.all_cons,List.all_nil,List.all_append,hue12_0.ln.one,hue12_1.ln.one];rfl) rfl rfl) ?_;rintro _ w15 hS15;refine qn ?_;refine zay ?_;refine zay ?_;obtain ⟨r16,hr16,x17,hx17,H⟩:=bd2 H;obtain ⟨r20,hr20,r21,hr21,H⟩:=bd2 H;refine zaz (G:=F4) [0,1,2,3,4,5,6,7,8,9,10,11,12,13,14,15,16,17,18,19,20,21,22,23,24,25,26,27,28,29,30,31,32,33,34,35,36,37,38,39,40,41,42] rfl Ty.mixed (by kernel_rfl) hS15.agree ?_;refine qf Ty.zkl ?_;refine qbq 0 Ty.zdd hS15 ?_;refine qf Ty.zjp ?_;refine qbq 2 Ty.zdd hS15 ?_;refine qc ?_;refine ql (zed hS15.good hr16) ?_;rintro v22 w22 ⟨Fr16,rfl,hT22⟩;have hS22:=hS15.lent hT22;refine qw hS22 ?_;refine q2 ?_;refine W_gs (v:=.i .i64 i5) rfl rfl rfl rfl (fun ⟨hb23,_⟩=>?_) ?_
     ·rw [hb23];exact (qc ·)
     refine W_gs (v:=.b (decide (0 < i5))) rfl rfl rfl rfl (fun ⟨hb24,_⟩=>?_) ?_
     ·rw [hb24];exact (qr (zah rfl rfl zgn) ·)
     refine W_gs (v:=.b (decide (0 < i5))) rfl rfl rfl rfl (fun ⟨hb25,_⟩=>?_) ?_
     ·rw [hb25];exact (qc ·)
     refine zek (v:=pl g1 (0+1)) rfl rfl rfl rfl (fun ⟨hb26,hb27,_⟩=>?_) ?_
     ·rw [hb27,hb26];exact (qf Ty.zdi ·)
     refine zek (v:=v0_0) rfl rfl rfl rfl (fun ⟨hb28,hb29,_⟩=>?_) ?_
     ·rw [hb29,hb28];exact (qbq 2 Ty.zhr hS22 ·)
     refine zek (v:=.i .i64 i5) rfl rfl rfl rfl (fun ⟨hb30,hb31,_⟩=>?_) ?_
     ·rw [hb31,hb30];exact (qc ·)
     refine zek (v:=.i .i64 (wr (i5 - 1))) rfl rfl rfl rfl (fun ⟨hb32,hb33,_⟩=>?_) ?_
     ·rw [hb33,hb32];exact (qc ·)
     refine zek (v:=elp v0_0 ((wr (i5 - 1)).toNat*4)) rfl rfl rfl rfl (fun ⟨hb34,hb35,_⟩=>?_) ?_
     ·rw [hb35,hb34];intro hK;have hy36:=hx17;rw [zbu (by first | rfl | (rw [hb35,hb34];first | done | rfl) | simp [hb34,hb35])] at hy36;obtain ⟨hp37,hy37⟩:=zac hy36;obtain ⟨cs37,hr37,he37⟩:=(h0_0.mono le4).el hy37;obtain ⟨ue18_0,ue18_1,rfl,hue18_0,hue18_1⟩:=hr37;replace he37:=qj 4 he37;have hi37:=he37.ixd;refine qi Tryz.underlying34 Ty.zdl hi37 hp37 ?_;exact hK
     refine zek (v:=elp v0_0 (((wr (i5 - 1)).toNat*4)+0)) rfl rfl rfl rfl (fun ⟨hb38,hb39,_⟩=>?_) ?_
     ·rw [hb39,hb38];intro hK;have hy40:=hx17;rw [zbu (by first | rfl | (rw [hb39,hb38];first | done | rfl) | simp [hb38,hb39])] at hy40;obtain ⟨hp41,hy41⟩:=zac hy40;obtain ⟨cs41,hr41,he41⟩:=(h0_0.mono le4).el hy41;obtain ⟨ue18_0,ue18_1,rfl,hue18_0,hue18_1⟩:=hr41;replace he41:=qj 4 he41;have hi41:=he41.ixd;refine qr (zfm 0 Ty.zkl rfl hi41) ?_;exact hK
     refine zek (v:=.i .i64 x17.seq) rfl rfl rfl rfl (fun ⟨hb42,hb43,_⟩=>?_) ?_
     ·rw [hb43,hb42];intro hK;have hy44:=hx17;rw [zbu (by first | rfl | (rw [hb43,hb42];first | done | rfl) | simp [hb42,hb43])] at hy44;obtain ⟨hp45,hy45⟩:=zac hy44;obtain ⟨cs45,hr45,he45⟩:=(h0_0.mono le4).el hy45;obtain ⟨ue18_0,ue18_1,rfl,hue18_0,hue18_1⟩:=hr45;replace he45:=qj 4 he45;have hi45:=he45.ixd;refine qq (zfs 0 Ty.zdd rfl (he45.mono hS22.agree) (by omega) rfl) ?_;exact hK
     refine zek (v:=pl g13 (0+0)) rfl rfl rfl rfl (fun ⟨hb46,hb47,_⟩=>?_) ?_
     ·rw [hb47,hb46];exact (qf Ty.zkl ·)
     refine zek (v:=.i .i64 x11.seq) rfl rfl rfl rfl (fun ⟨hb48,hb49,_⟩=>?_) ?_
     ·rw [hb49,hb48];exact (qbq 0 Ty.zdd hS22 ·)
     refine zek (v:=.b (decide (x11.seq≤x17.seq))) rfl rfl rfl rfl (fun ⟨hb50,hb51,_⟩=>?_) ?_
     ·rw [hb51,hb50];exact (qr (zah rfl rfl znk) ·)
     refine W_gs (v:=.b (decide (0 < i5)&&decide (x11.seq≤x17.seq))) rfl rfl rfl rfl (fun ⟨hb52,_⟩=>?_) ?_
     ·rw [hb52];exact (ziu rfl rfl rfl rfl rfl (fun hc=>by rw [hc];rfl) rfl ·)
     refine zgl rfl rfl rfl rfl rfl rfl (fun hc=>by rw [hc];rfl) ?_;refine qc ?_;refine W_gs (v:=.m (some g2)) rfl rfl rfl rfl (fun ⟨hb53,_⟩=>?_) ?_
     ·rw [hb53];exact (qc ·)
     refine W_gs (v:=pl g13 (0+1)) rfl rfl rfl rfl (fun ⟨hb54,_⟩=>?_) ?_
     ·rw [hb54];exact (qf Ty.zie ·)
     refine W_gs (v:=pl g13 (0+1+0)) rfl rfl rfl rfl (fun ⟨hb55,_⟩=>?_) ?_
     ·rw [hb55];exact (qf Ty.zjo ·)
     refine W_gs (v:=.s x11.man.name) rfl rfl rfl rfl (fun ⟨hb56,_⟩=>?_) ?_
     ·rw [hb56];exact (qbq 0 Ty.zkp hS22 ·)
     refine W_gs (v:=.b ((m6 x11.man.name).getD false)) rfl rfl rfl rfl (fun ⟨hb57,_⟩=>?_) ?_
     ·rw [hb57];exact (W_h (.inr (by kernel_rfl)) rfl rfl rfl (O_look (enc:=.b) 1 x11.man.name false Tryz.underlying188 (keyS Tryz.underlying9) Ty.zv4 rfl rfl hS22 rfl) ·)
     refine zgl rfl rfl rfl rfl rfl rfl (fun hc=>by rw [hc];rfl) ?_;refine qc ?_;refine W_gs (v:=pl g13 (0+1)) rfl rfl rfl rfl (fun ⟨hb58,_⟩=>?_) ?_
     ·rw [hb58];exact (qf Ty.zie ·)
     refine W_gs (v:=.agg (Manifest.cells x11.man ue12_0)) rfl rfl rfl rfl (fun ⟨hb59,_⟩=>?_) ?_
     ·rw [hb59];exact (qq (zde 0 (Manifest.cells x11.man ue12_0) Ty.zpq Ty.zgy (Nat.zero_lt_succ _) rfl hS22 rfl (fun q u h=>zdb (post:=[ue12_1]) rfl h)) ·)
     obtain ⟨Q61,hQ61⟩:∃ Q:Hp→Prop,Q=fun wq=>St [] w F F4 [.box g13 [.i .i64 x11.seq,.s x11.man.name,ue12_0,ue12_1],.map kS (.of .b) g2 m6,.box g1 [.i .i64 x0.seq,v0_0,v0_1,v0_2,v0_3]] wq:=⟨_,rfl⟩;refine W_gw (v:=.i .i64 r20) (Q:=Q61) (by rw [hQ61];exact hS22) rfl rfl rfl rfl (fun ⟨hb60,_⟩=>?_) ?_
     ·rw [hb60];intro hK;have hy62:=hr20;rw [zbu (by first | rfl | (rw [hb60];first | done | rfl) | simp [hb60])] at hy62;refine ql (znc hS22.good hue12_0 hy62) ?_;rintro v63 w63 ⟨Fr20,rfl,hT63⟩;have hS63:=hS22.lent hT63;exact hK _ (by rw [hQ61];exact hS63)
     intro w64 hS64;rw [hQ61] at hS64;refine qw hS64 ?_;refine W_gs (v:=.b (decide (r20≠0))) rfl rfl rfl rfl (fun ⟨hb65,_⟩=>?_) ?_
     ·rw [hb65];exact (qr (zah rfl rfl zeb) ·)
     refine zgl rfl rfl rfl rfl rfl rfl (fun hc=>by rw [hc];rfl) ?_;refine qc ?_;refine W_gs (v:=.agg (Catalog.cells x0 v0_0 v0_1 v0_2 v0_3)) rfl rfl rfl rfl (fun ⟨hb66,_⟩=>?_) ?_
     ·rw [hb66];exact (qq (zde 2 (Catalog.cells x0 v0_0 v0_1 v0_2 v0_3) Ty.zql Ty.zhx (Nat.zero_lt_succ _) rfl hS64 rfl (fun q u h=>zdb (post:=[]) rfl h)) ·)
     refine W_gs (v:=pl g13 (0+3)) rfl rfl rfl rfl (fun ⟨hb67,_⟩=>?_) ?_
     ·rw [hb67];exact (qf Ty.zid ·)
     refine W_gs (v:=ue12_1) rfl rfl rfl rfl (fun ⟨hb68,_⟩=>?_) ?_
     ·rw [hb68];exact (qbq 0 Ty.zhh hS64 ·)
     obtain ⟨Q70,hQ70⟩:∃ Q:Hp→Prop,Q=fun wq=>St [] w F F4 [.box g13 [.i .i64 x11.seq,.s x11.man.name,ue12_0,ue12_1],.map kS (.of .b) g2 m6,.box g1 [.i .i64 x0.seq,v0_0,v0_1,v0_2,v0_3]] wq:=⟨_,rfl⟩;refine W_gw (v:=.b r21) (Q:=Q70) (by rw [hQ70];exact hS64) rfl rfl rfl rfl (fun ⟨hb69,_⟩=>?_) ?_
     ·rw [hb69];intro hK;have hy71:=hr21;rw [zbu (by first | rfl | (rw [hb69];first | done | rfl) | simp [hb69])] at hy71;refine ql (zlv hS64.good (h0_0.mono le4) (h0_1.mono le4) (h0_2.mono le4) (h0_3.mono le4) hue12_1 hy71) ?_;rintro v72 w72 ⟨Fr21,rfl,hT72⟩;have hS72:=hS64.lent hT72;exact hK _ (by rw [hQ70];exact hS72)
     intro w73 hS73;rw [hQ70] at hS73;refine qw hS73 ?_;refine W_gs (v:=.b (!r21)) rfl rfl rfl rfl (fun ⟨hb74,_⟩=>?_) ?_
     ·rw [hb74];exact (qc ·)
     refine zgl rfl rfl rfl rfl rfl rfl (fun hc=>by rw [hc];rfl) ?_;refine qn ?_;refine qy H (fun hc75 H=>?_) (fun hc75 H=>?_)
     ·refine qsm ?_;obtain rfl:=oi H;refine qt ?_;exact ⟨F4,rfl,hS73.pick [] (by decide)⟩
     ·refine qk ?_;refine qsc ?_;refine qf Ty.zie ?_;refine qf Ty.zjo ?_;refine qb 0 Ty.zkp hS73 ?_;refine um (E_mput 1 x11.man.name true Tryz.underlying188 (keyS Tryz.underlying9) rfl rfl rfl rfl hS73 rfl) ?_;rintro _ w76 hS76;refine qn ?_;refine qs ?_;refine qf Ty.zie ?_;refine qf Ty.zee ?_;refine qb 0 Ty.zjs hS76 ?_;refine qr (zbs Tryz.underlying41 rfl hue12_0.ln) ?_;refine qm ?_;refine zar ?_;refine zbm (fun (s:Int) E wq=>∃ (F77:Frz),E=[(1,pl g1 0),(3,.m (some g2)),(14,v0_0),(15,.i .i64 (x0.snaps.length:Int)),(16,.i .i64 i5),(70,ue12_0),(71,.i .i64 (x11.man.parts.length:Int)),(72,.i .i64 s)]∧F4.le F77∧St [] w F F77 [.map kS (.of .b) g2 (mput m6 x11.man.name true),.box g1 [.i .i64 x0.seq,v0_0,v0_1,v0_2,v0_3]] wq) H ?_ ?_
      ·exact ⟨_,⟨F4,rfl,(Frz.le.refl _),hS76.pick [1,2] (by decide)⟩,⟨rfl,rfl,rfl,rfl,rfl,rfl,rfl,rfl,trivial⟩⟩
      ·rintro rec79 i78 E w77 hI H
       try dsimp only at hI
       obtain ⟨F77,rfl,le77,hS77⟩:=hI;dsimp only [zbg.l4] at H;refine qs ?_;refine qr (zah rfl rfl zbp) ?_;refine qn ?_;refine zay ?_;refine qy H (fun hc80 H=>?_) (fun hc80 H=>?_)
       ·refine qk ?_;refine zai (fun E wq=>zbg.k5 i78 rec79=some r ∧ ∃ (F81:Frz),E=[(1,pl g1 0),(3,.m (some g2)),(14,v0_0),(15,.i .i64 (x0.snaps.length:Int)),(16,.i .i64 i5),(70,ue12_0),(71,.i .i64 (x11.man.parts.length:Int)),(72,.i .i64 i78)]∧F77.le F81∧St [] w F F81 [.map kS (.of .b) g2 (mput m6 x11.man.name true),.box g1 [.i .i64 x0.seq,v0_0,v0_1,v0_2,v0_3]] wq) ?_ ?_
        ·refine zar ?_;obtain ⟨x82,hx82,H⟩:=zap H;refine qs ?_;obtain ⟨hp85,hy85⟩:=zac hx82;obtain ⟨cs85,hr85,he85⟩:=(hue12_0.mono le77).el hy85;obtain ⟨ue83_0,rfl,hue83_0⟩:=hr85;replace he85:=qj 3 he85;have hi85:=he85.ixd;refine qi Tryz.underlying41 Ty.zfn hi85 hp85 ?_;refine qr (zfe 0 (Part.cells x82 ue83_0) Ty.zsd Ty.zfn rfl (he85.mono hS77.agree) (by omega) rfl (Nat.le_of_ble_eq_true rfl)) ?_;refine xm (zft (cs:=[.s [],.i .i64 0,.sl none 0 (.k 0)]) Ty.zoj rfl hS77) ?_;rintro _ w84 ⟨g84,rfl,hS84⟩;refine um (zea (c:=[.s x82.path,.i .i64 x82.size,ue83_0]) 0 ([.s x82.path,.i .i64 x82.size,ue83_0]) rfl rfl hS84 rfl rfl Ty.zfn (by simp only [List.all_cons,List.all_nil,List.all_append,hue83_0.ln.one];rfl) rfl rfl) ?_;rintro _ w86 hS86;refine qn ?_;refine qs ?_;refine qf Ty.zfk ?_;refine qb 0 Ty.zkt hS86 ?_;refine qr (zbs Tryz.underlying118 rfl hue83_0.ln) ?_;refine qm ?_;refine zar ?_;refine zbm (fun (s:Int) E wq=>∃ (F87:Frz),E=[(1,pl g1 0),(3,.m (some g2)),(14,v0_0),(15,.i .i64 (x0.snaps.length:Int)),(16,.i .i64 i5),(70,ue12_0),(71,.i .i64 (x11.man.parts.length:Int)),(72,.i .i64 i78),(77,ue83_0),(78,.i .i64 (x82.ids.length:Int)),(79,.i .i64 s)]∧F77.le F87∧St [] w F F87 [.map kS (.of .b) g2 (mput m6 x11.man.name true),.box g1 [.i .i64 x0.seq,v0_0,v0_1,v0_2,v0_3]] wq) H ?_ ?_
         ·exact ⟨_,⟨F77,rfl,(Frz.le.refl _),hS86.pick [1,2] (by decide)⟩,⟨rfl,rfl,rfl,rfl,rfl,rfl,rfl,rfl,rfl,rfl,rfl,trivial⟩⟩
         ·rintro rec89 i88 E w87 hI H
          try dsimp only at hI
          obtain ⟨F87,rfl,le87,hS87⟩:=hI;dsimp only [zbg.l6] at H;refine qs ?_;refine qr (zah rfl rfl zbp) ?_;refine qn ?_;refine zay ?_;refine qy H (fun hc90 H=>?_) (fun hc90 H=>?_)
          ·refine qk ?_;refine zay ?_;refine zar ?_;obtain ⟨x91,hx91,H⟩:=zap H;refine qs ?_;obtain ⟨hp94,hy94⟩:=zac hx91;obtain ⟨cs94,hr94,he94⟩:=(hue83_0.mono le87).el hy94;obtain ⟨rfl,hle92⟩:=hr94;replace he94:=qj 32 he94;have hi94:=he94.ixd;refine qi Tryz.underlying118 Ty.zcy hi94 hp94 ?_;refine qr (zfe 0 (zao x91) Ty.zhs Ty.zcy rfl (he94.mono hS87.agree) (by omega) rfl (Nat.le_of_ble_eq_true rfl)) ?_;refine xm (zft (cs:=zao (List.replicate 32 (0:UInt8))) Ty.zsz rfl hS87) ?_;rintro _ w93 ⟨g93,rfl,hS93⟩;refine um (zea (c:=zao x91) 0 (zao x91) rfl rfl hS93 rfl rfl Ty.zcy rfl rfl rfl) ?_;rintro _ w95 hS95;refine qn ?_;obtain ⟨r96,hr96,H⟩:=zap H;refine qs ?_;refine qf Ty.zcq ?_;refine qb 2 Ty.zgd hS95 ?_;refine qr (zde 0 (zao x91) Ty.zhs Ty.zcy (Nat.zero_lt_succ _) rfl hS95 rfl (fun q u h=>zdb (post:=[]) rfl h)) ?_;refine lm (zku hS95.good (h0_1.mono ((le4.trans le77).trans le87)) hle92 hr96) ?_;rintro v97 w97 ⟨Fr96,rfl,hT97⟩;have hS97:=hS95.lent hT97;refine q4 ?_;refine qm ?_;refine qsc ?_;refine qm ?_;refine qy H (fun hc98 H=>?_) (fun hc98 H=>?_)
           ·refine qsm ?_;obtain rfl:=oi H;refine qt ?_;exact ⟨F87,rfl,hS97.pick [] (by decide)⟩
           ·refine zec ?_;refine zbf ?_;refine zcl ?_;refine qd ?_;refine q2 ?_;refine zbk ?_;exact zbd (wr (i88+1)) _ H ⟨F87,rfl,le87,hS97.pick [1,2] (by decide)⟩ ⟨rfl,rfl,rfl,rfl,rfl,rfl,rfl,rfl,rfl,rfl,rfl,trivial⟩
          ·refine zcc _ rfl ?_;refine zbf ?_;exact zbe _ ⟨H,⟨F87,rfl,le87,hS87⟩⟩ ⟨rfl,rfl,rfl,rfl,rfl,rfl,rfl,rfl,trivial⟩
        ·rintro E w81 ⟨H,F81,rfl,le81,hS81⟩;dsimp only [zbg.k5] at H;refine qd ?_;refine q2 ?_;refine zbk ?_;exact zbd (wr (i78+1)) _ H ⟨F81,rfl,(le77.trans le81),hS81⟩ ⟨rfl,rfl,rfl,rfl,rfl,rfl,rfl,rfl,trivial⟩
       ·refine zcc _ rfl ?_;refine zbf ?_;exact zbe _ ⟨(mput m6 x11.man.name true),H,⟨F77,rfl,le77,hS77⟩⟩ ⟨rfl,rfl,rfl,rfl,rfl,trivial⟩
    ·rintro E w9 ⟨m10,H,F9,rfl,le9,hS9⟩;dsimp only [zbg.k3] at H;refine qd ?_;refine q2 ?_;refine zbk ?_;exact zbd (wr (i5+1),m10) _ H ⟨F9,rfl,(le4.trans le9),hS9⟩ ⟨rfl,rfl,rfl,rfl,rfl,trivial⟩
   ·refine zcc _ rfl ?_;exact zbe _ ⟨H,⟨F4,rfl,le4,hS4.pick [1] (by decide)⟩⟩ ⟨rfl,trivial⟩
 ·rintro E w3 ⟨H,F3,rfl,le3,hS3⟩;dsimp only [zbg.k1] at H;refine qs ?_;refine qf Ty.zdi ?_;refine qb 0 Ty.zhr hS3 ?_;refine qr (zbs Tryz.underlying34 rfl h0_0.ln) ?_;refine qr (zah rfl rfl zwl) ?_;refine qm ?_;obtain rfl:=oi H;refine qt ?_;exact ⟨F3,rfl,hS3.pick [] (by decide)⟩
def zmm (x0:Snap) (x1:Exp):Option Bool :=
  some (decide (x0.seq=x1.of))
theorem zst {x0:Snap} {x1:Exp} {r:Bool} {v0_0:Val} {v0_1:Val} {gp1:Nat} {v1_0:Val} (hA:Gd F w) (h0_0:SlF Part.t F v0_0 x0.man.parts) (h0_1:SlF Loc.t F v0_1 x0.locs) (h1_0:SlF Loc.t F v1_0 x1.locs) (hb1:BxF F gp1 [.i .i64 x1.seq,.i .i64 x1.of,v1_0]) (H:zmm x0 x1=some r):Ret Tryz.prog K 126 [.agg (Snap.cells x0 v0_0 v0_1),pl gp1 0] w fun v w'=>∃ (F':Frz),v = .b r∧St [] w F F' [] w':=by
 refine qa2 Tryz.func126 ?_;have hS:=St.start hA;dsimp only [zmm] at H;refine qs ?_;refine xm (E_bx (cs:=[.i .i64 x0.seq,.s x0.man.name,v0_0,v0_1]) rfl rfl (by simp only [List.all_cons,List.all_nil,List.all_append,h0_0.ln.one,h0_1.ln.one];rfl) hS) ?_;rintro _ w1 ⟨g1,rfl,hS1⟩;refine qm ?_;refine qs ?_;refine qf Ty.zkl ?_;refine qb 0 Ty.zdd hS1 ?_;refine qf Ty.zpa ?_;refine qr (zfj Ty.zdd rfl (hb1.mono hS1.agree) rfl) ?_;refine qr (zah rfl rfl zeg) ?_;refine qm ?_;obtain rfl:=oi H;refine qt ?_;exact ⟨F,rfl,hS1.pick [] (by decide)⟩
def zaj.k1:Option Int :=
  some (-1)
def zaj.l2 (x0:List Snap) (x1_0:Exp) (rec4:Int→Option Int):Int→Option Int
  | i3 =>
    if decide (i3 < (x0.length:Int)) then
      bd (ix x0 i3) fun x6 =>
      bd (zmm x6 x1_0) fun r8 =>
      if r8 then
        some i3
      else
        rec4 (wr (i3+1))
    else
      zaj.k1
def zaj (x0:List Snap) (x1_0:Exp):Option Int :=
  loop (zaj.l2 x0 x1_0) 0
theorem zge {x0:List Snap} {x1_0:Exp} {r:Int} {v0:Val} {gp1_0:Nat} {v1_0_0:Val} (hA:Gd F w) (h0:SlF Snap.t F v0 x0) (h1_0_0:SlF Loc.t F v1_0_0 x1_0.locs) (hb1_0:BxF F gp1_0 [.i .i64 x1_0.seq,.i .i64 x1_0.of,v1_0_0]) (H:zaj x0 x1_0=some r):Ret Tryz.prog K 115 [v0,.f 126 [pl gp1_0 0]] w fun v w'=>∃ (F':Frz),v = .i .i64 r∧St [] w F F' [] w':=by
 refine qa2 Tryz.func115 ?_;have hS:=St.start hA;dsimp only [zaj] at H;refine qsm ?_;refine zai (fun E wq=>zaj.k1=some r ∧ ∃ (F1:Frz),E=[]∧F.le F1∧St [] w F F1 [] wq) ?_ ?_
 ·refine qsc ?_;refine qr (zbs Tryz.underlying34 rfl h0.ln) ?_;refine qm ?_;refine zar ?_;refine zbm (fun (s:Int) E wq=>∃ (F2:Frz),E=[(0,v0),(1,.f 126 [pl gp1_0 0]),(7,.i .i64 (x0.length:Int)),(8,.i .i64 s)]∧F.le F2∧St [] w F F2 [] wq) H ?_ ?_
  ·exact ⟨_,⟨F,rfl,(Frz.le.refl _),hS⟩,⟨rfl,rfl,rfl,rfl,trivial⟩⟩
  ·rintro rec4 i3 E w2 hI H
   try dsimp only at hI
   obtain ⟨F2,rfl,le2,hS2⟩:=hI;dsimp only [zaj.l2] at H;refine qs ?_;refine qr (zah rfl rfl zbp) ?_;refine qn ?_;refine zay ?_;refine qy H (fun hc5 H=>?_) (fun hc5 H=>?_)
   ·refine qk ?_;refine zay ?_;refine zar ?_;refine qsc ?_;refine qm ?_;obtain ⟨x6,hx6,r8,hr8,H⟩:=bd2 H;refine qs ?_;refine q3 ?_;obtain ⟨hp9,hy9⟩:=zac hx6;obtain ⟨cs9,hr9,he9⟩:=(h0.mono le2).el hy9;obtain ⟨ue7_0,ue7_1,rfl,hue7_0,hue7_1⟩:=hr9;replace he9:=qj 4 he9;have hi9:=he9.ixd;refine qi Tryz.underlying34 Ty.zdl hi9 hp9 ?_;refine qr (zfe 0 (Snap.cells x6 ue7_0 ue7_1) Ty.zsx Ty.zdl rfl (he9.mono hS2.agree) (by omega) rfl (Nat.le_of_ble_eq_true rfl)) ?_;refine lm (zst hS2.good hue7_0 hue7_1 (h1_0_0.mono le2) (hb1_0.mono le2) hr8) ?_;rintro v10 w10 ⟨Fr8,rfl,hT10⟩;have hS10:=hS2.lent hT10;refine qn ?_;refine qy H (fun hc11 H=>?_) (fun hc11 H=>?_)
    ·refine qsc ?_;refine qm ?_;obtain rfl:=oi H;refine qt ?_;exact ⟨F2,rfl,hS10⟩
    ·refine zec ?_;refine zbf ?_;refine zcl ?_;refine qd ?_;refine q2 ?_;refine zbk ?_;exact zbd (wr (i3+1)) _ H ⟨F2,rfl,le2,hS10⟩ ⟨rfl,rfl,rfl,rfl,trivial⟩
   ·refine zcc _ rfl ?_;exact zbe _ ⟨H,⟨F2,rfl,le2,hS2⟩⟩ trivial
 ·rintro E w1 ⟨H,F1,rfl,le1,hS1⟩;dsimp only [zaj.k1] at H;refine qsm ?_;obtain rfl:=oi H;refine qt ?_;exact ⟨F1,rfl,hS1⟩
def zbr (x0:List Snap) (x1_0:Exp):Option Bool :=
  bd (zaj x0 x1_0) fun r1 =>
  some (decide (0≤r1))
theorem zfr {x0:List Snap} {x1_0:Exp} {r:Bool} {v0:Val} {gp1_0:Nat} {v1_0_0:Val} (hA:Gd F w) (h0:SlF Snap.t F v0 x0) (h1_0_0:SlF Loc.t F v1_0_0 x1_0.locs) (hb1_0:BxF F gp1_0 [.i .i64 x1_0.seq,.i .i64 x1_0.of,v1_0_0]) (H:zbr x0 x1_0=some r):Ret Tryz.prog K 125 [v0,.f 126 [pl gp1_0 0]] w fun v w'=>∃ (F':Frz),v = .b r∧St [] w F F' [] w':=by
 refine qa2 Tryz.func125 ?_;have hS:=St.start hA;dsimp only [zbr] at H;refine qsm ?_;obtain ⟨r1,hr1,H⟩:=zap H;refine qs ?_;refine q2 ?_;refine lm (zge hS.good h0 h1_0_0 hb1_0 hr1) ?_;rintro v2 w2 ⟨Fr1,rfl,hT2⟩;have hS2:=hS.lent hT2;refine qr (zah rfl rfl znk) ?_;refine qm ?_;obtain rfl:=oi H;refine qt ?_;exact ⟨F,rfl,hS2⟩
def zdz.k1 (x0:Catalog):Option Bool :=
  some (decide ((x0.exps.length:Int)≤200))
def zdz.l2 (x0:Catalog) (rec5:Int→Option Bool):Int→Option Bool
  | i4 =>
    if decide (i4 < (x0.exps.length:Int)) then
      bd (ix x0.exps i4) fun x7 =>
      bd (zfa x7.seq 0 (wr (x0.seq - 1))) fun r12 =>
      bd (only ((!(!r12))&&decide (0 < i4)) (ix x0.exps (wr (i4 - 1))) (Exp.mk 0 0 [])) fun x13 =>
      bd (only (!((!r12)||(decide (0 < i4)&&decide (x7.seq≤x13.seq)))) (zfa x7.of 0 (wr (x7.seq - 1))) false) fun r15 =>
      bd (only (!((((!r12)||(decide (0 < i4)&&decide (x7.seq≤x13.seq)))||(!r15))||decide ((x7.locs.length:Int)=0))) (zdm x0 x7.locs) false) fun r16 =>
      if (((((!r12)||(decide (0 < i4)&&decide (x7.seq≤x13.seq)))||(!r15))||decide ((x7.locs.length:Int)=0))||(!r16)) then
        some false
      else
        bd (zbr x0.snaps x7) fun r74 =>
        if r74 then
          some false
        else
          rec5 (wr (i4+1))
    else
      zdz.k1 x0
def zdz (x0:Catalog):Option Bool :=
  loop (zdz.l2 x0) 0
set_option maxHeartbeats 2000000 in
theorem zwi {x0:Catalog} {r:Bool} {v0_0:Val} {v0_1:Val} {v0_2:Val} {v0_3:Val} (hA:Gd F w) (h0_0:SlF Snap.t F v0_0 x0.snaps) (h0_1:SlF Chunk.t F v0_1 x0.chunks) (h0_2:SlF Exp.t F v0_2 x0.exps) (h0_3:SlF Vol.t F v0_3 x0.vols) (H:zdz x0=some r):Ret Tryz.prog K 80 [.agg (Catalog.cells x0 v0_0 v0_1 v0_2 v0_3)] w fun v w'=>∃ (F':Frz),v = .b r∧St [] w F F' [] w':=by
 refine qa1 Tryz.func80 ?_;have hS:=St.start hA;dsimp only [zdz] at H;refine qs ?_;refine xm (E_bx (cs:=[.i .i64 x0.seq,v0_0,v0_1,v0_2,v0_3]) rfl rfl (by simp only [List.all_cons,List.all_nil,List.all_append,h0_0.ln.one,h0_1.ln.one,h0_2.ln.one,h0_3.ln.one];rfl) hS) ?_;rintro _ w1 ⟨g1,rfl,hS1⟩;refine qm ?_;refine zai (fun E wq=>zdz.k1 x0=some r ∧ ∃ (F2:Frz),E=[(1,pl g1 0)]∧F.le F2∧St [] w F F2 [.box g1 [.i .i64 x0.seq,v0_0,v0_1,v0_2,v0_3]] wq) ?_ ?_
 ·refine qs ?_;refine qf Ty.zef ?_;refine qb 0 Ty.ziy hS1 ?_;refine qr (zbs Tryz.underlying36 rfl h0_2.ln) ?_;refine qm ?_;refine zar ?_;refine zbm (fun (s:Int) E wq=>∃ (F3:Frz),E=[(1,pl g1 0),(6,v0_2),(7,.i .i64 (x0.exps.length:Int)),(8,.i .i64 s)]∧F.le F3∧St [] w F F3 [.box g1 [.i .i64 x0.seq,v0_0,v0_1,v0_2,v0_3]] wq) H ?_ ?_
  ·exact ⟨_,⟨F,rfl,(Frz.le.refl _),hS1⟩,⟨rfl,rfl,rfl,rfl,trivial⟩⟩
  ·rintro rec5 i4 E w3 hI H
   try dsimp only at hI
   obtain ⟨F3,rfl,le3,hS3⟩:=hI;dsimp only [zdz.l2] at H;refine qs ?_;refine qr (zah rfl rfl zbp) ?_;refine qn ?_;refine zay ?_;refine qy H (fun hc6 H=>?_) (fun hc6 H=>?_)
   ·refine qk ?_;refine zay ?_;refine zar ?_;obtain ⟨x7,hx7,H⟩:=zap H;refine qsc ?_;obtain ⟨hp10,hy10⟩:=zac hx7;obtain ⟨cs10,hr10,he10⟩:=(h0_2.mono le3).el hy10;obtain ⟨ue8_0,rfl,hue8_0⟩:=hr10;replace he10:=qj 3 he10;have hi10:=he10.ixd;refine qi Tryz.underlying36 Ty.zfb hi10 hp10 ?_;refine qr (zfe 0 (Exp.cells x7 ue8_0) Ty.agg55 Ty.zfb rfl (he10.mono hS3.agree) (by omega) rfl (Nat.le_of_ble_eq_true rfl)) ?_;refine xm (zft (cs:=[.i .i64 0,.i .i64 0,.sl none 0 (.k 0)]) Ty.zero55 rfl hS3) ?_;rintro _ w9 ⟨g9,rfl,hS9⟩;refine qc ?_;refine um (zea (c:=[.i .i64 x7.seq,.i .i64 x7.of,ue8_0]) 0 ([.i .i64 x7.seq,.i .i64 x7.of,ue8_0]) rfl rfl hS9 rfl rfl Ty.zfb (by simp only [List.all_cons,List.all_nil,List.all_append,hue8_0.ln.one];rfl) rfl rfl) ?_;rintro _ w11 hS11;refine qn ?_;refine zay ?_;refine zay ?_;obtain ⟨r12,hr12,x13,hx13,H⟩:=bd2 H;obtain ⟨r15,hr15,r16,hr16,H⟩:=bd2 H;refine zaz (G:=F3) [0,1,2,3,4,5,6,7,8,9,10,11,12,13,14,15,16,17,18,19,20,21,22,23,24,25,26,27,28,29,30,31,32,33,34,35,36,37,38,39,40,41,42,43,44] rfl Ty.mixed (by kernel_rfl) hS11.agree ?_;refine qf Ty.zls ?_;refine qbq 0 Ty.zdd hS11 ?_;refine qf Ty.zjp ?_;refine qbq 1 Ty.zdd hS11 ?_;refine qc ?_;refine ql (zed hS11.good hr12) ?_;rintro v17 w17 ⟨Fr12,rfl,hT17⟩;have hS17:=hS11.lent hT17;refine qw hS17 ?_;refine q2 ?_;refine W_gs (v:=.i .i64 i4) rfl rfl rfl rfl (fun ⟨hb18,_⟩=>?_) ?_
    ·rw [hb18];exact (qc ·)
    refine W_gs (v:=.b (decide (0 < i4))) rfl rfl rfl rfl (fun ⟨hb19,_⟩=>?_) ?_
    ·rw [hb19];exact (qr (zah rfl rfl zgn) ·)
    refine W_gs (v:=.b (decide (0 < i4))) rfl rfl rfl rfl (fun ⟨hb20,_⟩=>?_) ?_
    ·rw [hb20];exact (qc ·)
    refine zek (v:=pl g1 (0+3)) rfl rfl rfl rfl (fun ⟨hb21,hb22,_⟩=>?_) ?_
    ·rw [hb22,hb21];exact (qf Ty.zef ·)
    refine zek (v:=v0_2) rfl rfl rfl rfl (fun ⟨hb23,hb24,_⟩=>?_) ?_
    ·rw [hb24,hb23];exact (qbq 1 Ty.ziy hS17 ·)
    refine zek (v:=.i .i64 i4) rfl rfl rfl rfl (fun ⟨hb25,hb26,_⟩=>?_) ?_
    ·rw [hb26,hb25];exact (qc ·)
    refine zek (v:=.i .i64 (wr (i4 - 1))) rfl rfl rfl rfl (fun ⟨hb27,hb28,_⟩=>?_) ?_
    ·rw [hb28,hb27];exact (qc ·)
    refine zek (v:=elp v0_2 ((wr (i4 - 1)).toNat*3)) rfl rfl rfl rfl (fun ⟨hb29,hb30,_⟩=>?_) ?_
    ·rw [hb30,hb29];intro hK;have hy31:=hx13;rw [zbu (by first | rfl | (rw [hb30,hb29];first | done | rfl) | simp [hb29,hb30])] at hy31;obtain ⟨hp32,hy32⟩:=zac hy31;obtain ⟨cs32,hr32,he32⟩:=(h0_2.mono le3).el hy32;obtain ⟨ue14_0,rfl,hue14_0⟩:=hr32;replace he32:=qj 3 he32;have hi32:=he32.ixd;refine qi Tryz.underlying36 Ty.zfb hi32 hp32 ?_;exact hK
    refine zek (v:=elp v0_2 (((wr (i4 - 1)).toNat*3)+0)) rfl rfl rfl rfl (fun ⟨hb33,hb34,_⟩=>?_) ?_
    ·rw [hb34,hb33];intro hK;have hy35:=hx13;rw [zbu (by first | rfl | (rw [hb34,hb33];first | done | rfl) | simp [hb33,hb34])] at hy35;obtain ⟨hp36,hy36⟩:=zac hy35;obtain ⟨cs36,hr36,he36⟩:=(h0_2.mono le3).el hy36;obtain ⟨ue14_0,rfl,hue14_0⟩:=hr36;replace he36:=qj 3 he36;have hi36:=he36.ixd;refine qr (zfm 0 Ty.zls rfl hi36) ?_;exact hK
    refine zek (v:=.i .i64 x13.seq) rfl rfl rfl rfl (fun ⟨hb37,hb38,_⟩=>?_) ?_
    ·rw [hb38,hb37];intro hK;have hy39:=hx13;rw [zbu (by first | rfl | (rw [hb38,hb37];first | done | rfl) | simp [hb37,hb38])] at hy39;obtain ⟨hp40,hy40⟩:=zac hy39;obtain ⟨cs40,hr40,he40⟩:=(h0_2.mono le3).el hy40;obtain ⟨ue14_0,rfl,hue14_0⟩:=hr40;replace he40:=qj 3 he40;have hi40:=he40.ixd;refine qq (zfs 0 Ty.zdd rfl (he40.mono hS17.agree) (by omega) rfl) ?_;exact hK
    refine zek (v:=pl g9 (0+0)) rfl rfl rfl rfl (fun ⟨hb41,hb42,_⟩=>?_) ?_
    ·rw [hb42,hb41];exact (qf Ty.zls ·)
    refine zek (v:=.i .i64 x7.seq) rfl rfl rfl rfl (fun ⟨hb43,hb44,_⟩=>?_) ?_
    ·rw [hb44,hb43];exact (qbq 0 Ty.zdd hS17 ·)
    refine zek (v:=.b (decide (x7.seq≤x13.seq))) rfl rfl rfl rfl (fun ⟨hb45,hb46,_⟩=>?_) ?_
    ·rw [hb46,hb45];exact (qr (zah rfl rfl znk) ·)
    refine W_gs (v:=.b (decide (0 < i4)&&decide (x7.seq≤x13.seq))) rfl rfl rfl rfl (fun ⟨hb47,_⟩=>?_) ?_
    ·rw [hb47];exact (ziu rfl rfl rfl rfl rfl (fun hc=>by rw [hc];rfl) rfl ·)
    refine zgl rfl rfl rfl rfl rfl rfl (fun hc=>by rw [hc];rfl) ?_;refine qc ?_;refine W_gs (v:=pl g9 (0+1)) rfl rfl rfl rfl (fun ⟨hb48,_⟩=>?_) ?_
    ·rw [hb48];exact (qf Ty.zpa ·)
    refine W_gs (v:=.i .i64 x7.of) rfl rfl rfl rfl (fun ⟨hb49,_⟩=>?_) ?_
    ·rw [hb49];exact (qbq 0 Ty.zdd hS17 ·)
    refine W_gs (v:=pl g9 (0+0)) rfl rfl rfl rfl (fun ⟨hb50,_⟩=>?_) ?_
    ·rw [hb50];exact (qf Ty.zls ·)
    refine W_gs (v:=.i .i64 x7.seq) rfl rfl rfl rfl (fun ⟨hb51,_⟩=>?_) ?_
    ·rw [hb51];exact (qbq 0 Ty.zdd hS17 ·)
    refine W_gs (v:=.i .i64 (wr (x7.seq - 1))) rfl rfl rfl rfl (fun ⟨hb52,_⟩=>?_) ?_
    ·rw [hb52];exact (qc ·)
    obtain ⟨Q54,hQ54⟩:∃ Q:Hp→Prop,Q=fun wq=>St [] w F F3 [.box g9 [.i .i64 x7.seq,.i .i64 x7.of,ue8_0],.box g1 [.i .i64 x0.seq,v0_0,v0_1,v0_2,v0_3]] wq:=⟨_,rfl⟩;refine W_gw (v:=.b r15) (Q:=Q54) (by rw [hQ54];exact hS17) rfl rfl rfl rfl (fun ⟨hb53,_⟩=>?_) ?_
    ·rw [hb53];intro hK;have hy55:=hr15;rw [zbu (by first | rfl | (rw [hb53];first | done | rfl) | simp [hb53])] at hy55;refine ql (zed hS17.good hy55) ?_;rintro v56 w56 ⟨Fr15,rfl,hT56⟩;have hS56:=hS17.lent hT56;exact hK _ (by rw [hQ54];exact hS56)
    intro w57 hS57;rw [hQ54] at hS57;refine qw hS57 ?_;refine W_gs (v:=.b (!r15)) rfl rfl rfl rfl (fun ⟨hb58,_⟩=>?_) ?_
    ·rw [hb58];exact (qc ·)
    refine zgl rfl rfl rfl rfl rfl rfl (fun hc=>by rw [hc];rfl) ?_;refine qc ?_;refine W_gs (v:=pl g9 (0+2)) rfl rfl rfl rfl (fun ⟨hb59,_⟩=>?_) ?_
    ·rw [hb59];exact (qf Ty.zit ·)
    refine W_gs (v:=ue8_0) rfl rfl rfl rfl (fun ⟨hb60,_⟩=>?_) ?_
    ·rw [hb60];exact (qbq 0 Ty.zhh hS57 ·)
    refine W_gs (v:=.i .i64 (x7.locs.length:Int)) rfl rfl rfl rfl (fun ⟨hb61,_⟩=>?_) ?_
    ·rw [hb61];exact (qr (zbs Tryz.underlying44 rfl hue8_0.ln) ·)
    refine W_gs (v:=.b (decide ((x7.locs.length:Int)=0))) rfl rfl rfl rfl (fun ⟨hb62,_⟩=>?_) ?_
    ·rw [hb62];exact (qr (zah rfl rfl zeg) ·)
    refine zgl rfl rfl rfl rfl rfl rfl (fun hc=>by rw [hc];rfl) ?_;refine qc ?_;refine W_gs (v:=.agg (Catalog.cells x0 v0_0 v0_1 v0_2 v0_3)) rfl rfl rfl rfl (fun ⟨hb63,_⟩=>?_) ?_
    ·rw [hb63];exact (qq (zde 1 (Catalog.cells x0 v0_0 v0_1 v0_2 v0_3) Ty.zql Ty.zhx (Nat.zero_lt_succ _) rfl hS57 rfl (fun q u h=>zdb (post:=[]) rfl h)) ·)
    refine W_gs (v:=pl g9 (0+2)) rfl rfl rfl rfl (fun ⟨hb64,_⟩=>?_) ?_
    ·rw [hb64];exact (qf Ty.zit ·)
    refine W_gs (v:=ue8_0) rfl rfl rfl rfl (fun ⟨hb65,_⟩=>?_) ?_
    ·rw [hb65];exact (qbq 0 Ty.zhh hS57 ·)
    obtain ⟨Q67,hQ67⟩:∃ Q:Hp→Prop,Q=fun wq=>St [] w F F3 [.box g9 [.i .i64 x7.seq,.i .i64 x7.of,ue8_0],.box g1 [.i .i64 x0.seq,v0_0,v0_1,v0_2,v0_3]] wq:=⟨_,rfl⟩;refine W_gw (v:=.b r16) (Q:=Q67) (by rw [hQ67];exact hS57) rfl rfl rfl rfl (fun ⟨hb66,_⟩=>?_) ?_
    ·rw [hb66];intro hK;have hy68:=hr16;rw [zbu (by first | rfl | (rw [hb66];first | done | rfl) | simp [hb66])] at hy68;refine ql (zlv hS57.good (h0_0.mono le3) (h0_1.mono le3) (h0_2.mono le3) (h0_3.mono le3) hue8_0 hy68) ?_;rintro v69 w69 ⟨Fr16,rfl,hT69⟩;have hS69:=hS57.lent hT69;exact hK _ (by rw [hQ67];exact hS69)
    intro w70 hS70;rw [hQ67] at hS70;refine qw hS70 ?_;refine W_gs (v:=.b (!r16)) rfl rfl rfl rfl (fun ⟨hb71,_⟩=>?_) ?_
    ·rw [hb71];exact (qc ·)
    refine zgl rfl rfl rfl rfl rfl rfl (fun hc=>by rw [hc];rfl) ?_;refine qn ?_;refine qy H (fun hc72 H=>?_) (fun hc72 H=>?_)
    ·refine qsm ?_;obtain rfl:=oi H;refine qt ?_;exact ⟨F3,rfl,hS70.pick [] (by decide)⟩
    ·refine qk ?_;refine zay ?_;obtain ⟨F73,le73,hbx73,hS73⟩:=hS70.freezeB 0 [1] rfl (by decide) (by decide);obtain ⟨r74,hr74,H⟩:=zap H;refine qd ?_;refine qf Ty.zdi ?_;refine qb 0 Ty.zhr hS73 ?_;refine qc ?_;refine lm (zfr hS73.good (h0_0.mono (le3.trans le73)) (hue8_0.mono le73) hbx73 hr74) ?_;rintro v75 w75 ⟨Fr74,rfl,hT75⟩;have hS75:=hS73.lent hT75;refine qn ?_;refine qy H (fun hc76 H=>?_) (fun hc76 H=>?_)
     ·refine qsm ?_;obtain rfl:=oi H;refine qt ?_;exact ⟨F73,rfl,hS75.pick [] (by decide)⟩
     ·refine zec ?_;refine zbf ?_;refine zcl ?_;refine qd ?_;refine q2 ?_;refine zbk ?_;exact zbd (wr (i4+1)) _ H ⟨F73,rfl,(le3.trans le73),hS75⟩ ⟨rfl,rfl,rfl,rfl,trivial⟩
   ·refine zcc _ rfl ?_;exact zbe _ ⟨H,⟨F3,rfl,le3,hS3⟩⟩ ⟨rfl,trivial⟩
 ·rintro E w2 ⟨H,F2,rfl,le2,hS2⟩;dsimp only [zdz.k1] at H;refine qs ?_;refine qf Ty.zef ?_;refine qb 0 Ty.ziy hS2 ?_;refine qr (zbs Tryz.underlying36 rfl h0_2.ln) ?_;refine qr (zah rfl rfl zwl) ?_;refine qm ?_;obtain rfl:=oi H;refine qt ?_;exact ⟨F2,rfl,hS2.pick [] (by decide)⟩
def zjv (x0:Catalog):Option Int :=
  bd (zfa x0.seq 0 1073741824) fun r2 =>
  bd (only r2 (zdy x0.vols) false) fun r3 =>
  bd (only (r2&&r3) (zdf x0) false) fun r4 =>
  bd (only ((r2&&r3)&&r4) (zbg x0) false) fun r5 =>
  bd (only (((r2&&r3)&&r4)&&r5) (zdz x0) false) fun r6 =>
  if ((((r2&&r3)&&r4)&&r5)&&r6) then
    some 0
  else
    some 1
theorem zua [Kn (KExt Tryz.prog) K]  {x0:Catalog} {r:Int} {v0_0:Val} {v0_1:Val} {v0_2:Val} {v0_3:Val} (hA:Gd F w) (h0_0:SlF Snap.t F v0_0 x0.snaps) (h0_1:SlF Chunk.t F v0_1 x0.chunks) (h0_2:SlF Exp.t F v0_2 x0.exps) (h0_3:SlF Vol.t F v0_3 x0.vols) (H:zjv x0=some r):Ret Tryz.prog K 36 [.agg (Catalog.cells x0 v0_0 v0_1 v0_2 v0_3)] w fun v w'=>∃ (F':Frz),v = .i .i64 r∧St [] w F F' [] w':=by
 refine qa1 Tryz.func36 ?_;have hS:=St.start hA;dsimp only [zjv] at H;refine qs ?_;refine xm (E_bx (cs:=[.i .i64 x0.seq,v0_0,v0_1,v0_2,v0_3]) rfl rfl (by simp only [List.all_cons,List.all_nil,List.all_append,h0_0.ln.one,h0_1.ln.one,h0_2.ln.one,h0_3.ln.one];rfl) hS) ?_;rintro _ w1 ⟨g1,rfl,hS1⟩;refine qm ?_;refine zay ?_;obtain ⟨r2,hr2,r3,hr3,H⟩:=bd2 H;obtain ⟨r4,hr4,r5,hr5,H⟩:=bd2 H;obtain ⟨r6,hr6,H⟩:=zap H;refine qs ?_;refine qf Ty.zjp ?_;refine qb 0 Ty.zdd hS1 ?_;refine lm (zed hS1.good hr2) ?_;rintro v7 w7 ⟨Fr2,rfl,hT7⟩;have hS7:=hS1.lent hT7;refine qc ?_;refine W_gs (v:=pl g1 (0+4)) rfl rfl rfl rfl (fun ⟨hb8,_⟩=>?_) ?_
 ·rw [hb8];exact (qf Ty.zkm ·)
 refine W_gs (v:=v0_3) rfl rfl rfl rfl (fun ⟨hb9,_⟩=>?_) ?_
 ·rw [hb9];exact (qb 0 Ty.zwg hS7 ·)
 obtain ⟨Q11,hQ11⟩:∃ Q:Hp→Prop,Q=fun wq=>St [] w F F [.box g1 [.i .i64 x0.seq,v0_0,v0_1,v0_2,v0_3]] wq:=⟨_,rfl⟩;refine W_gw (v:=.b r3) (Q:=Q11) (by rw [hQ11];exact hS7) rfl rfl rfl rfl (fun ⟨hb10,_⟩=>?_) ?_
 ·rw [hb10];intro hK;have hy12:=hr3;rw [zbu hb10] at hy12;refine ql (zwh hS7.good h0_3 hy12) ?_;rintro v13 w13 ⟨Fr3,rfl,hT13⟩;have hS13:=hS7.lent hT13;exact hK _ (by rw [hQ11];exact hS13)
 intro w14 hS14;rw [hQ11] at hS14;refine Nxt.now ?_;refine ziu rfl rfl rfl rfl rfl (fun hc=>by rw [hc];rfl) rfl ?_;refine qc ?_;refine W_gs (v:=.agg (Catalog.cells x0 v0_0 v0_1 v0_2 v0_3)) rfl rfl rfl rfl (fun ⟨hb15,_⟩=>?_) ?_
 ·rw [hb15];exact (qr (zde 0 (Catalog.cells x0 v0_0 v0_1 v0_2 v0_3) Ty.zql Ty.zhx (Nat.zero_lt_succ _) rfl hS14 rfl (fun q u h=>zdb (post:=[]) rfl h)) ·)
 obtain ⟨Q17,hQ17⟩:∃ Q:Hp→Prop,Q=fun wq=>St [] w F F [.box g1 [.i .i64 x0.seq,v0_0,v0_1,v0_2,v0_3]] wq:=⟨_,rfl⟩;refine W_gw (v:=.b r4) (Q:=Q17) (by rw [hQ17];exact hS14) rfl rfl rfl rfl (fun ⟨hb16,_⟩=>?_) ?_
 ·rw [hb16];intro hK;have hy18:=hr4;rw [zbu hb16] at hy18;refine ql (zsu hS14.good h0_0 h0_1 h0_2 h0_3 hy18) ?_;rintro v19 w19 ⟨Fr4,rfl,hT19⟩;have hS19:=hS14.lent hT19;exact hK _ (by rw [hQ17];exact hS19)
 intro w20 hS20;rw [hQ17] at hS20;refine Nxt.now ?_;refine ziu rfl rfl rfl rfl rfl (fun hc=>by rw [hc];rfl) rfl ?_;refine qc ?_;refine W_gs (v:=.agg (Catalog.cells x0 v0_0 v0_1 v0_2 v0_3)) rfl rfl rfl rfl (fun ⟨hb21,_⟩=>?_) ?_
 ·rw [hb21];exact (qr (zde 0 (Catalog.cells x0 v0_0 v0_1 v0_2 v0_3) Ty.zql Ty.zhx (Nat.zero_lt_succ _) rfl hS20 rfl (fun q u h=>zdb (post:=[]) rfl h)) ·)
 obtain ⟨Q23,hQ23⟩:∃ Q:Hp→Prop,Q=fun wq=>St [] w F F [.box g1 [.i .i64 x0.seq,v0_0,v0_1,v0_2,v0_3]] wq:=⟨_,rfl⟩;refine W_gw (v:=.b r5) (Q:=Q23) (by rw [hQ23];exact hS20) rfl rfl rfl rfl (fun ⟨hb22,_⟩=>?_) ?_
 ·rw [hb22];intro hK;have hy24:=hr5;rw [zbu hb22] at hy24;refine ql (zty hS20.good h0_0 h0_1 h0_2 h0_3 hy24) ?_;rintro v25 w25 ⟨Fr5,rfl,hT25⟩;have hS25:=hS20.lent hT25;exact hK _ (by rw [hQ23];exact hS25)
 intro w26 hS26;rw [hQ23] at hS26;refine Nxt.now ?_;refine ziu rfl rfl rfl rfl rfl (fun hc=>by rw [hc];rfl) rfl ?_;refine qc ?_;refine W_gs (v:=.agg (Catalog.cells x0 v0_0 v0_1 v0_2 v0_3)) rfl rfl rfl rfl (fun ⟨hb27,_⟩=>?_) ?_
 ·rw [hb27];exact (qr (zde 0 (Catalog.cells x0 v0_0 v0_1 v0_2 v0_3) Ty.zql Ty.zhx (Nat.zero_lt_succ _) rfl hS26 rfl (fun q u h=>zdb (post:=[]) rfl h)) ·)
 obtain ⟨Q29,hQ29⟩:∃ Q:Hp→Prop,Q=fun wq=>St [] w F F [.box g1 [.i .i64 x0.seq,v0_0,v0_1,v0_2,v0_3]] wq:=⟨_,rfl⟩;refine W_gw (v:=.b r6) (Q:=Q29) (by rw [hQ29];exact hS26) rfl rfl rfl rfl (fun ⟨hb28,_⟩=>?_) ?_
 ·rw [hb28];intro hK;have hy30:=hr6;rw [zbu hb28] at hy30;refine ql (zwi hS26.good h0_0 h0_1 h0_2 h0_3 hy30) ?_;rintro v31 w31 ⟨Fr6,rfl,hT31⟩;have hS31:=hS26.lent hT31;exact hK _ (by rw [hQ29];exact hS31)
 intro w32 hS32;rw [hQ29] at hS32;refine Nxt.now ?_;refine ziu rfl rfl rfl rfl rfl (fun hc=>by rw [hc];rfl) rfl ?_;refine qn ?_;refine qy H (fun hc33 H=>?_) (fun hc33 H=>?_)
 ·refine qsm ?_;obtain rfl:=oi H;refine qt ?_;exact ⟨F,rfl,hS32.pick [] (by decide)⟩
 ·refine qk ?_;refine qsm ?_;obtain rfl:=oi H;refine qt ?_;exact ⟨F,rfl,hS32.pick [] (by decide)⟩
def zeh (x0:List Snap):Option (List Snap) :=
  bd (app (α:=Snap) ([]:List Snap) x0) fun l6 =>
  some l6
theorem zjb {x0:List Snap} {r:(List Snap)} {v0:Val} (hA:Gd F w) (h0:SlF Snap.t F v0 x0) (H:zeh x0=some r):Ret Tryz.prog K 102 [v0] w fun v w'=>∃ (F':Frz) (q0:Val),v=q0∧St [] w F F' [.row Snap.t q0 (r)] w':=by
 refine qa1 Tryz.func102 ?_;have hS:=St.start hA;dsimp only [zeh] at H;refine qsm ?_;refine zay ?_;refine qsc ?_;refine zti rfl rfl rfl rfl Tryz.underlying34 rfl rfl h0.ln ?_;intro b1 hb1;refine qn ?_;refine zib rfl (fun hc2=>?_) (fun hc2=>?_)
 ·have hx2:x0=[]:=List.eq_nil_of_length_eq_zero (hb1 hc2);have H:(some []:Option (List Snap))=some r:=by first | (rw [hx2] at H;exact H) | (subst hx2;exact H)
  refine qsm ?_;have hS4:=hS.nilRow Snap.t;obtain rfl:=oi H;refine qt ?_;exact ⟨F,(.sl none 0 (.k 0)),rfl,hS4⟩
 ·refine qk ?_;obtain ⟨l6,hl6,H⟩:=zap H;refine qs ?_;refine xm (E_bs (t:=Snap.t) (vs:=[]) (xs:=([]:List Snap)) Tryz.underlying34 Ty.row46 rfl trivial rfl rfl hS) ?_;rintro u5 w5 hS5;refine qc ?_;refine xm (zgg (t:=Snap.t) 0 Tryz.underlying34 Ty.row46 Ty.zk34 rfl rfl hS5 rfl (h0.src hS5.agree) hl6) ?_;rintro v7 w7 hS7;refine qm ?_;obtain rfl:=oi H;refine qt ?_;exact ⟨F,v7,rfl,hS7⟩
def zdt (x0:List Chunk):Option (List Chunk) :=
  bd (app (α:=Chunk) ([]:List Chunk) x0) fun l6 =>
  some l6
theorem ziw {x0:List Chunk} {r:(List Chunk)} {v0:Val} (hA:Gd F w) (h0:SlF Chunk.t F v0 x0) (H:zdt x0=some r):Ret Tryz.prog K 103 [v0] w fun v w'=>∃ (F':Frz) (q0:Val),v=q0∧St [] w F F' [.row Chunk.t q0 (r)] w':=by
 refine qa1 Tryz.func103 ?_;have hS:=St.start hA;dsimp only [zdt] at H;refine qsm ?_;refine zay ?_;refine qsc ?_;refine zti rfl rfl rfl rfl Tryz.underlying35 rfl rfl h0.ln ?_;intro b1 hb1;refine qn ?_;refine zib rfl (fun hc2=>?_) (fun hc2=>?_)
 ·have hx2:x0=[]:=List.eq_nil_of_length_eq_zero (hb1 hc2);have H:(some []:Option (List Chunk))=some r:=by first | (rw [hx2] at H;exact H) | (subst hx2;exact H)
  refine qsm ?_;have hS4:=hS.nilRow Chunk.t;obtain rfl:=oi H;refine qt ?_;exact ⟨F,(.sl none 0 (.k 0)),rfl,hS4⟩
 ·refine qk ?_;obtain ⟨l6,hl6,H⟩:=zap H;refine qs ?_;refine xm (E_bs (t:=Chunk.t) (vs:=[]) (xs:=([]:List Chunk)) Tryz.underlying35 Ty.row60 rfl trivial rfl rfl hS) ?_;rintro u5 w5 hS5;refine qc ?_;refine xm (zgg (t:=Chunk.t) 0 Tryz.underlying35 Ty.row60 Ty.zk35 rfl rfl hS5 rfl (h0.src hS5.agree) hl6) ?_;rintro v7 w7 hS7;refine qm ?_;obtain rfl:=oi H;refine qt ?_;exact ⟨F,v7,rfl,hS7⟩
def zet (x0:List Exp):Option (List Exp) :=
  bd (app (α:=Exp) ([]:List Exp) x0) fun l6 =>
  some l6
theorem zjz {x0:List Exp} {r:(List Exp)} {v0:Val} (hA:Gd F w) (h0:SlF Exp.t F v0 x0) (H:zet x0=some r):Ret Tryz.prog K 104 [v0] w fun v w'=>∃ (F':Frz) (q0:Val),v=q0∧St [] w F F' [.row Exp.t q0 (r)] w':=by
 refine qa1 Tryz.func104 ?_;have hS:=St.start hA;dsimp only [zet] at H;refine qsm ?_;refine zay ?_;refine qsc ?_;refine zti rfl rfl rfl rfl Tryz.underlying36 rfl rfl h0.ln ?_;intro b1 hb1;refine qn ?_;refine zib rfl (fun hc2=>?_) (fun hc2=>?_)
 ·have hx2:x0=[]:=List.eq_nil_of_length_eq_zero (hb1 hc2);have H:(some []:Option (List Exp))=some r:=by first | (rw [hx2] at H;exact H) | (subst hx2;exact H)
  refine qsm ?_;have hS4:=hS.nilRow Exp.t;obtain rfl:=oi H;refine qt ?_;exact ⟨F,(.sl none 0 (.k 0)),rfl,hS4⟩
 ·refine qk ?_;obtain ⟨l6,hl6,H⟩:=zap H;refine qs ?_;refine xm (E_bs (t:=Exp.t) (vs:=[]) (xs:=([]:List Exp)) Tryz.underlying36 Ty.row55 rfl trivial rfl rfl hS) ?_;rintro u5 w5 hS5;refine qc ?_;refine xm (zgg (t:=Exp.t) 0 Tryz.underlying36 Ty.row55 Ty.zk36 rfl rfl hS5 rfl (h0.src hS5.agree) hl6) ?_;rintro v7 w7 hS7;refine qm ?_;obtain rfl:=oi H;refine qt ?_;exact ⟨F,v7,rfl,hS7⟩
def zei (x0:List Part):Option (List Part) :=
  bd (app (α:=Part) ([]:List Part) x0) fun l6 =>
  some l6
theorem zjc {x0:List Part} {r:(List Part)} {v0:Val} (hA:Gd F w) (h0:SlF Part.t F v0 x0) (H:zei x0=some r):Ret Tryz.prog K 153 [v0] w fun v w'=>∃ (F':Frz) (q0:Val),v=q0∧St [] w F F' [.row Part.t q0 (r)] w':=by
 refine qa1 Tryz.func153 ?_;have hS:=St.start hA;dsimp only [zei] at H;refine qsm ?_;refine zay ?_;refine qsc ?_;refine zti rfl rfl rfl rfl Tryz.underlying41 rfl rfl h0.ln ?_;intro b1 hb1;refine qn ?_;refine zib rfl (fun hc2=>?_) (fun hc2=>?_)
 ·have hx2:x0=[]:=List.eq_nil_of_length_eq_zero (hb1 hc2);have H:(some []:Option (List Part))=some r:=by first | (rw [hx2] at H;exact H) | (subst hx2;exact H)
  refine qsm ?_;have hS4:=hS.nilRow Part.t;obtain rfl:=oi H;refine qt ?_;exact ⟨F,(.sl none 0 (.k 0)),rfl,hS4⟩
 ·refine qk ?_;obtain ⟨l6,hl6,H⟩:=zap H;refine qs ?_;refine xm (E_bs (t:=Part.t) (vs:=[]) (xs:=([]:List Part)) Tryz.underlying41 Ty.zwy rfl trivial rfl rfl hS) ?_;rintro u5 w5 hS5;refine qc ?_;refine xm (zgg (t:=Part.t) 0 Tryz.underlying41 Ty.zwy Ty.zk41 rfl rfl hS5 rfl (h0.src hS5.agree) hl6) ?_;rintro v7 w7 hS7;refine qm ?_;obtain rfl:=oi H;refine qt ?_;exact ⟨F,v7,rfl,hS7⟩
def zcx.k1 (x0:Manifest) (l7:List Part):Option Manifest :=
  some (Manifest.mk x0.name l7)
def zcx.l2 (x0:Manifest) (r3:(List Part)) (rec13:(Int × (List Part))→Option Manifest):(Int × (List Part))→Option Manifest
  | (i11,l12) =>
    if decide (i11 < (r3.length:Int)) then
      bd (ix l12 i11) fun x15 =>
      bd (zdh x15.ids) fun r17 =>
      rec13 (wr (i11+1),(l12.set i11.toNat (Part.mk x15.path x15.size r17)))
    else
      zcx.k1 x0 l12
def zcx (x0:Manifest):Option Manifest :=
  bd (zei x0.parts) fun r3 =>
  loop (zcx.l2 x0 r3) (0,r3)
theorem zsc {x0:Manifest} {r:Manifest} {v0_0:Val} (hA:Gd F w) (h0_0:SlF Part.t F v0_0 x0.parts) (H:zcx x0=some r):Ret Tryz.prog K 105 [.agg (Manifest.cells x0 v0_0)] w fun v w'=>∃ (F':Frz) (q0_0:Val),v = .agg (Manifest.cells r q0_0)∧SlF Part.t F' q0_0 (r.parts)∧St [] w F F' [] w':=by
 refine qa1 Tryz.func105 ?_;have hS:=St.start hA;dsimp only [zcx] at H;refine qs ?_;refine xm (E_bx (cs:=[.s x0.name,v0_0]) rfl rfl (by simp only [List.all_cons,List.all_nil,List.all_append,h0_0.ln.one];rfl) hS) ?_;rintro _ w1 ⟨g1,rfl,hS1⟩;refine xm (zft (cs:=[.s [],.sl none 0 (.k 0)]) Ty.zup rfl hS1) ?_;rintro _ w2 ⟨g2,rfl,hS2⟩;refine qn ?_;obtain ⟨r3,hr3,H⟩:=zap H;refine qs ?_;refine qf Ty.zee ?_;refine qb 1 Ty.zjs hS2 ?_;refine lm (zjc hS2.good h0_0 hr3) ?_;rintro ur3_0 w4 ⟨Fr3,_,rfl,hT4⟩;have hS4:=hS2.call hT4;have ler3:=hT4.ext;refine qf Ty.zee ?_;refine um (zea (c:=[ur3_0]) 2 ([.s x0.name,ur3_0]) rfl rfl hS4 rfl (hS4.rowLn (k:=0) rfl).cells Ty.size41 (by simp only [List.all_cons,List.all_nil,List.all_append,(hS4.rowLn (k:=0) rfl).one];rfl) rfl rfl) ?_;rintro _ w5 hS5;refine qn ?_;refine zai (fun E wq=>∃ l7:List Part,zcx.k1 x0 l7=some r ∧ ∃ (F6:Frz),E=[(1,pl g1 0),(2,pl g2 0)]∧Fr3.le F6∧St [] w F F6 [.row Part.t ur3_0 l7,.box g2 [.s [],.sl none 0 (.k 0)],.box g1 [.s x0.name,ur3_0]] wq) ?_ ?_
 ·refine qs ?_;refine qf Ty.zee ?_;refine qb 2 Ty.zjs hS5 ?_;refine qr (zbs Tryz.underlying41 rfl (hS5.rowLn (k:=0) rfl)) ?_;refine qm ?_;refine zar ?_;refine zbm (fun (s:Int × (List Part)) E wq=>∃ (F10:Frz),E=[(1,pl g1 0),(2,pl g2 0),(10,.i .i64 (r3.length:Int)),(11,.i .i64 s.1)]∧Fr3.le F10∧St [] w F F10 [.row Part.t ur3_0 s.2,.box g2 [.s [],.sl none 0 (.k 0)],.box g1 [.s x0.name,ur3_0]] wq) H ?_ ?_
  ·exact ⟨_,⟨Fr3,rfl,(Frz.le.refl _),hS5⟩,⟨rfl,rfl,rfl,rfl,trivial⟩⟩
  ·rintro rec13 ⟨i11,l12⟩ E w10 hI H
   try dsimp only at hI
   obtain ⟨F10,rfl,le10,hS10⟩:=hI;dsimp only [zcx.l2] at H;refine qs ?_;refine qr (zah rfl rfl zbp) ?_;refine qn ?_;refine zay ?_;refine qy H (fun hc14 H=>?_) (fun hc14 H=>?_)
   ·refine qk ?_;refine zay ?_;refine zar ?_;refine qsc ?_;refine qm ?_;obtain ⟨x15,hx15,r17,hr17,H⟩:=bd2 H;have hb18:=hS10.boxAt 2 rfl;refine zaz (G:=(F10.hold w10 [g1])) [0,1,2,3,4,5,6,7,8,9,10,11,12] rfl Ty.mixed (by kernel_rfl) (HB.agree (HB.cons 2 hb18 hS10 rfl HB.nil) hS10.agree) ?_;refine qf Ty.zee ?_;refine qr (zfj Ty.zjs rfl (hb18.held (HB.cons 2 hb18 hS10 rfl HB.nil) (by simp)) rfl) ?_;refine qc ?_;refine qf Ty.zee ?_;refine qbq 2 Ty.zjs hS10 ?_;refine qc ?_;obtain ⟨hp19,hy19⟩:=zac hx15;obtain ⟨cs19,hr19,he19⟩:=hS10.rowAt (k:=0) rfl hy19;obtain ⟨ue16_0,rfl,hue16_0⟩:=hr19;replace he19:=qj 3 he19;have hi19:=he19.ixd;refine qi Tryz.underlying41 Ty.zfn hi19 hp19 ?_;refine qr (zfm 2 Ty.zfk rfl hi19) ?_;refine qq (zfs 2 Ty.zkt rfl he19 (by omega) rfl) ?_;refine ql (zhb hS10.good hue16_0 hr17) ?_;rintro ur17_0 w20 ⟨Fr17,_,rfl,hT20⟩;have hS20:=hS10.call hT20;have ler17:=hT20.ext;refine Nxt.frz (HB.le (HB.cons 3 hb18 hS20 rfl HB.nil) ler17) (HB.agree (HB.cons 3 hb18 hS20 rfl HB.nil) hS20.agree) ?_;refine qi Tryz.underlying41 Ty.zfn hi19 hp19 ?_;refine qr (zfm 2 Ty.zfk rfl hi19) ?_;obtain ⟨F22,le22,hf22,hS22⟩:=hS20.freezeR 0 [1,2,3] rfl (by decide) (by decide);refine W_rg (HB.le (HB.cons 2 hb18 hS22 rfl HB.nil) le22) (HB.agree (HB.cons 2 hb18 hS22 rfl HB.nil) hS22.agree) ?_;refine qu (zuc (c:=[ur17_0]) 0 (i11.toNat) 2 x15 (Part.mk x15.path x15.size r17) rfl rfl hS22 rfl (zac hx15).2 (by first | rfl | (show _=_*3+_;omega)) hf22.ln.cells Ty.size118 (by simp only [List.all_cons,List.all_nil,List.all_append,hf22.ln.one];rfl) (Nat.le_of_ble_eq_true rfl) (by rintro cs ⟨a2,rfl,b2⟩;exact ⟨ur17_0,rfl,hf22⟩)) ?_;rintro _ w21 hS21;refine qh 2 hb18 hS21 ?_;refine zbk ?_;refine zbf ?_;refine zcl ?_;refine qd ?_;refine q2 ?_;refine zbk ?_;exact zbd (wr (i11+1),(l12.set i11.toNat (Part.mk x15.path x15.size r17))) _ H ⟨F22,rfl,((le10.trans ler17).trans le22),hS21⟩ ⟨rfl,rfl,rfl,rfl,trivial⟩
   ·refine zcc _ rfl ?_;exact zbe _ ⟨l12,H,⟨F10,rfl,le10,hS10⟩⟩ ⟨rfl,rfl,trivial⟩
 ·rintro E w6 ⟨l7,H,F6,rfl,le6,hS6⟩;dsimp only [zcx.k1] at H;refine qs ?_;refine qr (zde 2 (Manifest.cells (Manifest.mk x0.name l7) ur3_0) Ty.zpq Ty.zgy (Nat.zero_lt_succ _) rfl hS6 rfl (fun q u h=>zdb (post:=[]) rfl h)) ?_;refine um (zea (c:=[.s x0.name,ur3_0]) 1 ([.s x0.name,ur3_0]) rfl rfl hS6 rfl rfl Ty.zgy (by simp only [List.all_cons,List.all_nil,List.all_append,(hS6.rowLn (k:=0) rfl).one];rfl) rfl rfl) ?_;rintro _ w8 hS8;refine qn ?_;obtain ⟨F9,le9,hf9,hS9⟩:=hS8.freezeR 0 [1,2] rfl (by decide) (by decide);obtain rfl:=oi H;refine zoe (vs:=[.agg (Manifest.cells (Manifest.mk x0.name l7) ur3_0)]) rfl ⟨(zkv 0 Ty.zpq Ty.zgy hS9 rfl rfl),trivial⟩ ?_;exact ⟨F9,ur3_0,rfl,hf9,hS9.pick [] (by decide)⟩
def zfh (x0:List UInt8):Option (List UInt8) :=
  bd (app (α:=UInt8) ([]:List UInt8) x0) fun l6 =>
  some l6
theorem zmj {x0:List UInt8} {r:(List UInt8)} {v0:Val} (hA:Gd F w) (h0:SlF tB F v0 x0) (H:zfh x0=some r):Ret Tryz.prog K 106 [v0] w fun v w'=>∃ (F':Frz) (q0:Val),v=q0∧St [] w F F' [.row tB q0 (r)] w':=by
 refine qa1 Tryz.func106 ?_;have hS:=St.start hA;dsimp only [zfh] at H;refine qsm ?_;refine zay ?_;refine qsc ?_;refine zti rfl rfl rfl rfl Tryz.underlying47 rfl rfl h0.ln ?_;intro b1 hb1;refine qn ?_;refine zib rfl (fun hc2=>?_) (fun hc2=>?_)
 ·have hx2:x0=[]:=List.eq_nil_of_length_eq_zero (hb1 hc2);have H:(some []:Option (List UInt8))=some r:=by first | (rw [hx2] at H;exact H) | (subst hx2;exact H)
  refine qsm ?_;have hS4:=hS.nilRow tB;obtain rfl:=oi H;refine qt ?_;exact ⟨F,(.sl none 0 (.k 0)),rfl,hS4⟩
 ·refine qk ?_;obtain ⟨l6,hl6,H⟩:=zap H;refine qs ?_;refine xm (E_bs (t:=tB) (vs:=[]) (xs:=([]:List UInt8)) Tryz.underlying47 Ty.row5 rfl trivial rfl rfl hS) ?_;rintro u5 w5 hS5;refine qc ?_;refine xm (zgg (t:=tB) 0 Tryz.underlying47 Ty.row5 Ty.zk47 rfl rfl hS5 rfl (h0.src hS5.agree) hl6) ?_;rintro v7 w7 hS7;refine qm ?_;obtain rfl:=oi H;refine qt ?_;exact ⟨F,v7,rfl,hS7⟩
end
end Go.Wk.Lf
end
section
namespace Go.Wk.Lf
open Go.V Go.Proofs
noncomputable section
set_option maxRecDepth 100000
variable {K:Tb} {F:Frz} {w:Hp}
def zbj.k3 (x0:Catalog) (r6:(List Vol)) (l17:List Snap) (l19:List Chunk) (l21:List Exp):Option Catalog :=
  some (Catalog.mk x0.seq l17 l19 l21 r6)
def zbj.l4 (x0:Catalog) (r5:(List Exp)) (r6:(List Vol)) (l17:List Snap) (l19:List Chunk) (rec26:(Int × (List Exp))→Option Catalog):(Int × (List Exp))→Option Catalog
  | (i24,l25) =>
    if decide (i24 < (r5.length:Int)) then
      bd (ix l25 i24) fun x28 =>
      bd (zbq x28.locs) fun r30 =>
      rec26 (wr (i24+1),(l25.set i24.toNat (Exp.mk x28.seq x28.of r30)))
    else
      zbj.k3 x0 r6 l17 l19 l25
def zbj.k2 (x0:Catalog) (r5:(List Exp)) (r6:(List Vol)) (l17:List Snap) (l19:List Chunk):Option Catalog :=
  loop (zbj.l4 x0 r5 r6 l17 l19) (0,r5)
def zbj.l5 (x0:Catalog) (r4:(List Chunk)) (r5:(List Exp)) (r6:(List Vol)) (l17:List Snap) (rec39:(Int × (List Chunk))→Option Catalog):(Int × (List Chunk))→Option Catalog
  | (i37,l38) =>
    if decide (i37 < (r4.length:Int)) then
      bd (ix l38 i37) fun x41 =>
      bd (zfh x41.data) fun r44 =>
      bd (zbq x41.locs) fun r45 =>
      rec39 (wr (i37+1),((l38.set i37.toNat (Chunk.mk x41.id x41.staged r44 x41.locs)).set i37.toNat (Chunk.mk x41.id x41.staged r44 r45)))
    else
      zbj.k2 x0 r5 r6 l17 l38
def zbj.k1 (x0:Catalog) (r4:(List Chunk)) (r5:(List Exp)) (r6:(List Vol)) (l17:List Snap):Option Catalog :=
  loop (zbj.l5 x0 r4 r5 r6 l17) (0,r4)
def zbj.l6 (x0:Catalog) (r3:(List Snap)) (r4:(List Chunk)) (r5:(List Exp)) (r6:(List Vol)) (rec57:(Int × (List Snap))→Option Catalog):(Int × (List Snap))→Option Catalog
  | (i55,l56) =>
    if decide (i55 < (r3.length:Int)) then
      bd (ix l56 i55) fun x59 =>
      bd (zcx x59.man) fun r62 =>
      bd (zbq x59.locs) fun r63 =>
      rec57 (wr (i55+1),((l56.set i55.toNat (Snap.mk x59.seq r62 x59.locs)).set i55.toNat (Snap.mk x59.seq r62 r63)))
    else
      zbj.k1 x0 r4 r5 r6 l56
def zbj (x0:Catalog):Option Catalog :=
  bd (zeh x0.snaps) fun r3 =>
  bd (zdt x0.chunks) fun r4 =>
  bd (zet x0.exps) fun r5 =>
  bd (zdg x0.vols) fun r6 =>
  loop (zbj.l6 x0 r3 r4 r5 r6) (0,r3)
set_option maxHeartbeats 2000000 in
theorem zwj {x0:Catalog} {r:Catalog} {v0_0:Val} {v0_1:Val} {v0_2:Val} {v0_3:Val} (hA:Gd F w) (h0_0:SlF Snap.t F v0_0 x0.snaps) (h0_1:SlF Chunk.t F v0_1 x0.chunks) (h0_2:SlF Exp.t F v0_2 x0.exps) (h0_3:SlF Vol.t F v0_3 x0.vols) (H:zbj x0=some r):Ret Tryz.prog K 48 [.agg (Catalog.cells x0 v0_0 v0_1 v0_2 v0_3)] w fun v w'=>∃ (F':Frz) (q0_0:Val) (q0_1:Val) (q0_2:Val) (q0_3:Val),v = .agg (Catalog.cells r q0_0 q0_1 q0_2 q0_3)∧St [] w F F' [.row Snap.t q0_0 (r.snaps),.row Chunk.t q0_1 (r.chunks),.row Exp.t q0_2 (r.exps),.row Vol.t q0_3 (r.vols)] w':=by
 refine qa1 Tryz.func48 ?_;have hS:=St.start hA;dsimp only [zbj] at H;refine qs ?_;refine xm (E_bx (cs:=[.i .i64 x0.seq,v0_0,v0_1,v0_2,v0_3]) rfl rfl (by simp only [List.all_cons,List.all_nil,List.all_append,h0_0.ln.one,h0_1.ln.one,h0_2.ln.one,h0_3.ln.one];rfl) hS) ?_;rintro _ w1 ⟨g1,rfl,hS1⟩;refine xm (zft (cs:=[.i .i64 0,.sl none 0 (.k 0),.sl none 0 (.k 0),.sl none 0 (.k 0),.sl none 0 (.k 0)]) Ty.zuq rfl hS1) ?_;rintro _ w2 ⟨g2,rfl,hS2⟩;refine qn ?_;refine zay ?_;obtain ⟨r3,hr3,r4,hr4,H⟩:=bd2 H;obtain ⟨r5,hr5,r6,hr6,H⟩:=bd2 H;have hb7:=hS2.boxAt 1 rfl;refine zaz (G:=(F.hold w2 [g1])) [0,1,3,4,6,7,9,10,2,12,5,8,11,13,14,15,16,17,18,19] rfl Ty.mixed (by kernel_rfl) (HB.agree (HB.cons 1 hb7 hS2 rfl HB.nil) hS2.agree) ?_;refine qf Ty.zdi ?_;refine qbq 1 Ty.zhr hS2 ?_;refine qf Ty.zcq ?_;refine qr (zfj Ty.zgd rfl (hb7.held (HB.cons 1 hb7 hS2 rfl HB.nil) (by simp)) rfl) ?_;refine qf Ty.zef ?_;refine qr (zfj Ty.ziy rfl (hb7.held (HB.cons 1 hb7 hS2 rfl HB.nil) (by simp)) rfl) ?_;refine qf Ty.zkm ?_;refine qr (zfj Ty.zwg rfl (hb7.held (HB.cons 1 hb7 hS2 rfl HB.nil) (by simp)) rfl) ?_;refine ql (zjb hS2.good h0_0 hr3) ?_;rintro ur3_0 w8 ⟨Fr3,_,rfl,hT8⟩;have hS8:=hS2.call hT8;have ler3:=hT8.ext;refine Nxt.frz (HB.le (HB.cons 2 hb7 hS8 rfl HB.nil) ler3) (HB.agree (HB.cons 2 hb7 hS8 rfl HB.nil) hS8.agree) ?_;refine qf Ty.zdi ?_;refine ql (ziw hS8.good (h0_1.mono ler3) hr4) ?_;rintro ur4_0 w9 ⟨Fr4,_,rfl,hT9⟩;have hS9:=hS8.call hT9;have ler4:=hT9.ext;refine Nxt.frz (HB.le (HB.cons 3 hb7 hS9 rfl HB.nil) ler4) (HB.agree (HB.cons 3 hb7 hS9 rfl HB.nil) hS9.agree) ?_;refine ql (zjz hS9.good (h0_2.mono (ler3.trans ler4)) hr5) ?_;rintro ur5_0 w10 ⟨Fr5,_,rfl,hT10⟩;have hS10:=hS9.call hT10;have ler5:=hT10.ext;refine Nxt.frz (HB.le (HB.cons 4 hb7 hS10 rfl HB.nil) ler5) (HB.agree (HB.cons 4 hb7 hS10 rfl HB.nil) hS10.agree) ?_;refine ql (zha hS10.good (h0_3.mono ((ler3.trans ler4).trans ler5)) hr6) ?_;rintro ur6_0 w11 ⟨Fr6,_,rfl,hT11⟩;have hS11:=hS10.call hT11;have ler6:=hT11.ext;refine Nxt.frz (HB.le (HB.cons 5 hb7 hS11 rfl HB.nil) ler6) (HB.agree (HB.cons 5 hb7 hS11 rfl HB.nil) hS11.agree) ?_;refine W_drop (by kernel_rfl) hS11.agree ?_;refine qu (zea (c:=[ur3_0]) 5 ([.i .i64 x0.seq,ur3_0,v0_1,v0_2,v0_3]) rfl rfl hS11 rfl (hS11.rowLn (k:=3) rfl).cells Ty.size34 (by simp only [List.all_cons,List.all_nil,List.all_append,(hS11.rowLn (k:=3) rfl).one];rfl) rfl rfl) ?_
 rintro _ w12 hS12;refine qw hS12 ?_;refine qf Ty.zcq ?_;refine qu (zea (c:=[ur4_0]) 5 ([.i .i64 x0.seq,ur3_0,ur4_0,v0_2,v0_3]) rfl rfl hS12 rfl (hS12.rowLn (k:=2) rfl).cells Ty.size35 (by simp only [List.all_cons,List.all_nil,List.all_append,(hS12.rowLn (k:=2) rfl).one];rfl) rfl rfl) ?_;rintro _ w13 hS13;refine qw hS13 ?_;refine qf Ty.zef ?_;refine qu (zea (c:=[ur5_0]) 5 ([.i .i64 x0.seq,ur3_0,ur4_0,ur5_0,v0_3]) rfl rfl hS13 rfl (hS13.rowLn (k:=1) rfl).cells Ty.size36 (by simp only [List.all_cons,List.all_nil,List.all_append,(hS13.rowLn (k:=1) rfl).one];rfl) rfl rfl) ?_;rintro _ w14 hS14;refine qw hS14 ?_;refine qf Ty.zkm ?_;refine qu (zea (c:=[ur6_0]) 5 ([.i .i64 x0.seq,ur3_0,ur4_0,ur5_0,ur6_0]) rfl rfl hS14 rfl (hS14.rowLn (k:=0) rfl).cells Ty.size33 (by simp only [List.all_cons,List.all_nil,List.all_append,(hS14.rowLn (k:=0) rfl).one];rfl) rfl rfl) ?_;rintro _ w15 hS15;refine qw hS15 ?_;refine qn ?_;refine zai (fun E wq=>∃ l17:List Snap,zbj.k1 x0 r4 r5 r6 l17=some r ∧ ∃ (F16:Frz),E=[(1,pl g1 0),(2,pl g2 0)]∧Fr6.le F16∧St [] w F F16 [.row Vol.t ur6_0 r6,.row Exp.t ur5_0 r5,.row Chunk.t ur4_0 r4,.row Snap.t ur3_0 l17,.box g2 [.i .i64 0,.sl none 0 (.k 0),.sl none 0 (.k 0),.sl none 0 (.k 0),.sl none 0 (.k 0)],.box g1 [.i .i64 x0.seq,ur3_0,ur4_0,ur5_0,ur6_0]] wq) ?_ ?_
 ·refine qs ?_;refine qf Ty.zdi ?_;refine qb 5 Ty.zhr hS15 ?_;refine qr (zbs Tryz.underlying34 rfl (hS15.rowLn (k:=3) rfl)) ?_;refine qm ?_;refine zar ?_;refine zbm (fun (s:Int × (List Snap)) E wq=>∃ (F54:Frz),E=[(1,pl g1 0),(2,pl g2 0),(26,.i .i64 (r3.length:Int)),(27,.i .i64 s.1)]∧Fr6.le F54∧St [] w F F54 [.row Vol.t ur6_0 r6,.row Exp.t ur5_0 r5,.row Chunk.t ur4_0 r4,.row Snap.t ur3_0 s.2,.box g2 [.i .i64 0,.sl none 0 (.k 0),.sl none 0 (.k 0),.sl none 0 (.k 0),.sl none 0 (.k 0)],.box g1 [.i .i64 x0.seq,ur3_0,ur4_0,ur5_0,ur6_0]] wq) H ?_ ?_
  ·exact ⟨_,⟨Fr6,rfl,(Frz.le.refl _),hS15⟩,⟨rfl,rfl,rfl,rfl,trivial⟩⟩
  ·rintro rec57 ⟨i55,l56⟩ E w54 hI H
   try dsimp only at hI
   obtain ⟨F54,rfl,le54,hS54⟩:=hI;dsimp only [zbj.l6] at H;refine qs ?_;refine qr (zah rfl rfl zbp) ?_;refine qn ?_;refine zay ?_;refine qy H (fun hc58 H=>?_) (fun hc58 H=>?_)
   ·refine qk ?_;refine zay ?_;refine zar ?_;refine qsc ?_;refine qm ?_;obtain ⟨x59,hx59,H⟩:=zap H;refine qs ?_;refine qf Ty.zdi ?_;refine qb 5 Ty.zhr hS54 ?_;refine qc ?_;obtain ⟨hp61,hy61⟩:=zac hx59;obtain ⟨cs61,hr61,he61⟩:=hS54.rowAt (k:=3) rfl hy61;obtain ⟨ue60_0,ue60_1,rfl,hue60_0,hue60_1⟩:=hr61;replace he61:=qj 4 he61;have hi61:=he61.ixd;refine qi Tryz.underlying34 Ty.zdl hi61 hp61 ?_;refine qm ?_;obtain ⟨r62,hr62,r63,hr63,H⟩:=bd2 H;have hS64:=hS54.lendL [] (by decide);refine zaz [0,1,2,3,4,5,7,8,9,10,6,11,12,13,14,15,16,17] rfl Ty.mixed (by kernel_rfl) (HB.agree (hS54.heldHB [] [0,1,2,3,4,5] (by decide) hS64) hS64.agree) ?_;refine q3 ?_;refine qr (O_nil rfl hi61) ?_;refine qr (zfm 1 Ty.zie rfl hi61) ?_;refine qr (zfe 1 (Manifest.cells x59.man ue60_0) Ty.zpq Ty.zgy rfl (he61.held (hS54.heldHB [] [0,1,2,3,4,5] (by decide) hS64) (hS54.heldRow (j:=3) (rs:=[0,1,2,3,4,5]) (by decide) rfl)) (by omega) rfl (Nat.le_of_ble_eq_true rfl)) ?_;refine qc ?_;refine qr (O_nil rfl hi61) ?_;refine qr (zfm 3 Ty.zid rfl hi61) ?_;refine qr (zfs 3 Ty.zhh rfl (he61.held (hS54.heldHB [] [0,1,2,3,4,5] (by decide) hS64) (hS54.heldRow (j:=3) (rs:=[0,1,2,3,4,5]) (by decide) rfl)) (by omega) rfl) ?_;refine ql (zsc hS64.good hue60_0 hr62) ?_;rintro v65 w65 ⟨Fr62,ur62_0_0,rfl,hfr62_0_0,hT65⟩;have hS65:=hS64.call hT65;have ler62:=hT65.ext;refine Nxt.frz (HB.le (hS54.heldHB [] [0,1,2,3,4,5] (by decide) hS65) ler62) (HB.agree (hS54.heldHB [] [0,1,2,3,4,5] (by decide) hS65) hS65.agree) ?_;refine ql (zdk hS65.good (hue60_1.mono ler62) hr63) ?_;rintro ur63_0 w66 ⟨Fr63,_,rfl,hT66⟩;have hS66:=hS65.call hT66;have ler63:=hT66.ext;refine Nxt.frz (HB.le (hS54.heldHB [] [0,1,2,3,4,5] (by decide) hS66) ler63) (HB.agree (hS54.heldHB [] [0,1,2,3,4,5] (by decide) hS66) hS66.agree) ?_;refine qr (O_nil rfl hi61) ?_;refine qr (zfm 1 Ty.zie rfl hi61) ?_;have hS67:=hS54.backL [] [0,1,2,3,4,5] (by decide) (by decide) hS66;refine W_drop (by kernel_rfl) hS67.agree ?_;refine qu (zuc (c:=[.s r62.name,ur62_0_0]) 4 (i55.toNat) 1 x59 (Snap.mk x59.seq r62 x59.locs) rfl rfl hS67 rfl (zac hx59).2 (by first | rfl | (show _=_*4+_;omega)) rfl Ty.zgy (by simp only [List.all_cons,List.all_nil,List.all_append,hfr62_0_0.ln.one];rfl) (Nat.le_of_ble_eq_true rfl) (by rintro cs ⟨a2,a3,rfl,b2,b3⟩;exact ⟨ur62_0_0,a3,rfl,(hfr62_0_0.mono ler63),b3⟩)) ?_
    rintro _ w68 hS68;refine qw hS68 ?_;refine qr (O_nil rfl hi61) ?_;refine qr (zfm 3 Ty.zid rfl hi61) ?_;obtain ⟨F70,le70,hf70,hS70⟩:=hS68.freezeR 0 [1,2,3,4,5,6] rfl (by decide) (by decide);refine W_rg le70 hS70.agree ?_;refine qu (zuc (c:=[ur63_0]) 3 (i55.toNat) 3 (Snap.mk x59.seq r62 x59.locs) (Snap.mk x59.seq r62 r63) rfl rfl hS70 rfl (List.getElem?_set_self (by simpa using (List.getElem?_eq_some_iff.1 (zac hx59).2).1)) (by first | rfl | (show _=_*4+_;omega)) hf70.ln.cells Ty.zrh (by simp only [List.all_cons,List.all_nil,List.all_append,hf70.ln.one];rfl) (Nat.le_of_ble_eq_true rfl) (by rintro cs ⟨a2,a3,rfl,b2,b3⟩;exact ⟨a2,ur63_0,rfl,b2,hf70⟩)) ?_;rintro _ w69 hS69;refine qw hS69 ?_;refine zbk ?_;refine zbf ?_;refine zcl ?_;refine qd ?_;refine q2 ?_;refine zbk ?_;exact zbd (wr (i55+1),((l56.set i55.toNat (Snap.mk x59.seq r62 x59.locs)).set i55.toNat (Snap.mk x59.seq r62 r63))) _ H ⟨F70,rfl,(((le54.trans ler62).trans ler63).trans le70),hS69⟩ ⟨rfl,rfl,rfl,rfl,trivial⟩
   ·refine zcc _ rfl ?_;exact zbe _ ⟨l56,H,⟨F54,rfl,le54,hS54⟩⟩ ⟨rfl,rfl,trivial⟩
 ·rintro E w16 ⟨l17,H,F16,rfl,le16,hS16⟩;dsimp only [zbj.k1] at H;refine zai (fun E wq=>∃ l19:List Chunk,zbj.k2 x0 r5 r6 l17 l19=some r ∧ ∃ (F18:Frz),E=[(1,pl g1 0),(2,pl g2 0)]∧F16.le F18∧St [] w F F18 [.row Vol.t ur6_0 r6,.row Exp.t ur5_0 r5,.row Chunk.t ur4_0 l19,.row Snap.t ur3_0 l17,.box g2 [.i .i64 0,.sl none 0 (.k 0),.sl none 0 (.k 0),.sl none 0 (.k 0),.sl none 0 (.k 0)],.box g1 [.i .i64 x0.seq,ur3_0,ur4_0,ur5_0,ur6_0]] wq) ?_ ?_
  ·refine qs ?_;refine qf Ty.zcq ?_;refine qb 5 Ty.zgd hS16 ?_;refine qr (zbs Tryz.underlying35 rfl (hS16.rowLn (k:=2) rfl)) ?_;refine qm ?_;refine zar ?_;refine zbm (fun (s:Int × (List Chunk)) E wq=>∃ (F36:Frz),E=[(1,pl g1 0),(2,pl g2 0),(53,.i .i64 (r4.length:Int)),(54,.i .i64 s.1)]∧F16.le F36∧St [] w F F36 [.row Vol.t ur6_0 r6,.row Exp.t ur5_0 r5,.row Chunk.t ur4_0 s.2,.row Snap.t ur3_0 l17,.box g2 [.i .i64 0,.sl none 0 (.k 0),.sl none 0 (.k 0),.sl none 0 (.k 0),.sl none 0 (.k 0)],.box g1 [.i .i64 x0.seq,ur3_0,ur4_0,ur5_0,ur6_0]] wq) H ?_ ?_
   ·exact ⟨_,⟨F16,rfl,(Frz.le.refl _),hS16⟩,⟨rfl,rfl,rfl,rfl,trivial⟩⟩
   ·rintro rec39 ⟨i37,l38⟩ E w36 hI H
    try dsimp only at hI
    obtain ⟨F36,rfl,le36,hS36⟩:=hI;dsimp only [zbj.l5] at H;refine qs ?_;refine qr (zah rfl rfl zbp) ?_;refine qn ?_;refine zay ?_;refine qy H (fun hc40 H=>?_) (fun hc40 H=>?_)
    ·refine qk ?_;refine zay ?_;refine zar ?_;refine qsc ?_;refine qm ?_;obtain ⟨x41,hx41,H⟩:=zap H;refine qs ?_;refine qf Ty.zcq ?_;refine qb 5 Ty.zgd hS36 ?_;refine qc ?_;obtain ⟨hp43,hy43⟩:=zac hx41;obtain ⟨cs43,hr43,he43⟩:=hS36.rowAt (k:=2) rfl hy43;obtain ⟨ue42_0,ue42_1,rfl,hle42_0,hue42_0,hue42_1⟩:=hr43;replace he43:=qj 35 he43;have hi43:=he43.ixd;refine qi Tryz.underlying35 Ty.zep hi43 hp43 ?_;refine qm ?_;obtain ⟨r44,hr44,r45,hr45,H⟩:=bd2 H;have hS46:=hS36.lendL [] (by decide);refine zaz [0,1,2,3,4,5,7,8,9,10,6,11,12,13,14,15,16,17] rfl Ty.mixed (by kernel_rfl) (HB.agree (hS36.heldHB [] [0,1,2,3,4,5] (by decide) hS46) hS46.agree) ?_;refine q3 ?_;refine qr (O_nil rfl hi43) ?_;refine qr (zfm 33 Ty.znf rfl hi43) ?_;refine qr (zfs 33 Ty.zhg rfl (he43.held (hS36.heldHB [] [0,1,2,3,4,5] (by decide) hS46) (hS36.heldRow (j:=2) (rs:=[0,1,2,3,4,5]) (by decide) rfl)) (by omega) rfl) ?_;refine qc ?_;refine qr (O_nil rfl hi43) ?_;refine qr (zfm 34 Ty.zgs rfl hi43) ?_;refine qr (zfs 34 Ty.zhh rfl (he43.held (hS36.heldHB [] [0,1,2,3,4,5] (by decide) hS46) (hS36.heldRow (j:=2) (rs:=[0,1,2,3,4,5]) (by decide) rfl)) (by omega) rfl) ?_;refine ql (zmj hS46.good hue42_0 hr44) ?_;rintro ur44_0 w47 ⟨Fr44,_,rfl,hT47⟩;have hS47:=hS46.call hT47;have ler44:=hT47.ext;refine Nxt.frz (HB.le (hS36.heldHB [] [0,1,2,3,4,5] (by decide) hS47) ler44) (HB.agree (hS36.heldHB [] [0,1,2,3,4,5] (by decide) hS47) hS47.agree) ?_;refine ql (zdk hS47.good (hue42_1.mono ler44) hr45) ?_;rintro ur45_0 w48 ⟨Fr45,_,rfl,hT48⟩;have hS48:=hS47.call hT48;have ler45:=hT48.ext;refine Nxt.frz (HB.le (hS36.heldHB [] [0,1,2,3,4,5] (by decide) hS48) ler45) (HB.agree (hS36.heldHB [] [0,1,2,3,4,5] (by decide) hS48) hS48.agree) ?_;refine qr (O_nil rfl hi43) ?_;refine qr (zfm 33 Ty.znf rfl hi43) ?_;have hS49:=hS36.backL [] [0,1,2,3,4,5] (by decide) (by decide) hS48;refine W_drop (by kernel_rfl) hS49.agree ?_;obtain ⟨F51,le51,hf51,hS51⟩:=hS49.freezeR 1 [0,2,3,4,5,6,7] rfl (by decide) (by decide);refine W_rg le51 hS51.agree ?_;refine qu (zuc (c:=[ur44_0]) 3 (i37.toNat) 33 x41 (Chunk.mk x41.id x41.staged r44 x41.locs) rfl rfl hS51 rfl (zac hx41).2 (by first | rfl | (show _=_*35+_;omega)) hf51.ln.cells Ty.zqm (by simp only [List.all_cons,List.all_nil,List.all_append,hf51.ln.one];rfl) (Nat.le_of_ble_eq_true rfl) (by rintro cs ⟨a2,a3,rfl,c0,b2,b3⟩;exact ⟨ur44_0,a3,rfl,c0,hf51,b3⟩)) ?_
     rintro _ w50 hS50;refine qw hS50 ?_;refine qr (O_nil rfl hi43) ?_;refine qr (zfm 34 Ty.zgs rfl hi43) ?_;obtain ⟨F53,le53,hf53,hS53⟩:=hS50.freezeR 0 [1,2,3,4,5,6] rfl (by decide) (by decide);refine W_rg le53 hS53.agree ?_;refine qu (zuc (c:=[ur45_0]) 2 (i37.toNat) 34 (Chunk.mk x41.id x41.staged r44 x41.locs) (Chunk.mk x41.id x41.staged r44 r45) rfl rfl hS53 rfl (List.getElem?_set_self (by simpa using (List.getElem?_eq_some_iff.1 (zac hx41).2).1)) (by first | rfl | (show _=_*35+_;omega)) hf53.ln.cells Ty.zrh (by simp only [List.all_cons,List.all_nil,List.all_append,hf53.ln.one];rfl) (Nat.le_of_ble_eq_true rfl) (by rintro cs ⟨a2,a3,rfl,c0,b2,b3⟩;exact ⟨a2,ur45_0,rfl,c0,b2,hf53⟩)) ?_;rintro _ w52 hS52;refine qw hS52 ?_;refine zbk ?_;refine zbf ?_;refine zcl ?_;refine qd ?_;refine q2 ?_;refine zbk ?_;exact zbd (wr (i37+1),((l38.set i37.toNat (Chunk.mk x41.id x41.staged r44 x41.locs)).set i37.toNat (Chunk.mk x41.id x41.staged r44 r45))) _ H ⟨F53,rfl,((((le36.trans ler44).trans ler45).trans le51).trans le53),hS52⟩ ⟨rfl,rfl,rfl,rfl,trivial⟩
    ·refine zcc _ rfl ?_;exact zbe _ ⟨l38,H,⟨F36,rfl,le36,hS36⟩⟩ ⟨rfl,rfl,trivial⟩
  ·rintro E w18 ⟨l19,H,F18,rfl,le18,hS18⟩;dsimp only [zbj.k2] at H;refine zai (fun E wq=>∃ l21:List Exp,zbj.k3 x0 r6 l17 l19 l21=some r ∧ ∃ (F20:Frz),E=[(1,pl g1 0),(2,pl g2 0)]∧F18.le F20∧St [] w F F20 [.row Vol.t ur6_0 r6,.row Exp.t ur5_0 l21,.row Chunk.t ur4_0 l19,.row Snap.t ur3_0 l17,.box g2 [.i .i64 0,.sl none 0 (.k 0),.sl none 0 (.k 0),.sl none 0 (.k 0),.sl none 0 (.k 0)],.box g1 [.i .i64 x0.seq,ur3_0,ur4_0,ur5_0,ur6_0]] wq) ?_ ?_
   ·refine qs ?_;refine qf Ty.zef ?_;refine qb 5 Ty.ziy hS18 ?_;refine qr (zbs Tryz.underlying36 rfl (hS18.rowLn (k:=1) rfl)) ?_;refine qm ?_;refine zar ?_;refine zbm (fun (s:Int × (List Exp)) E wq=>∃ (F23:Frz),E=[(1,pl g1 0),(2,pl g2 0),(80,.i .i64 (r5.length:Int)),(81,.i .i64 s.1)]∧F18.le F23∧St [] w F F23 [.row Vol.t ur6_0 r6,.row Exp.t ur5_0 s.2,.row Chunk.t ur4_0 l19,.row Snap.t ur3_0 l17,.box g2 [.i .i64 0,.sl none 0 (.k 0),.sl none 0 (.k 0),.sl none 0 (.k 0),.sl none 0 (.k 0)],.box g1 [.i .i64 x0.seq,ur3_0,ur4_0,ur5_0,ur6_0]] wq) H ?_ ?_
    ·exact ⟨_,⟨F18,rfl,(Frz.le.refl _),hS18⟩,⟨rfl,rfl,rfl,rfl,trivial⟩⟩
    ·rintro rec26 ⟨i24,l25⟩ E w23 hI H
     try dsimp only at hI
     obtain ⟨F23,rfl,le23,hS23⟩:=hI;dsimp only [zbj.l4] at H;refine qs ?_;refine qr (zah rfl rfl zbp) ?_;refine qn ?_;refine zay ?_;refine qy H (fun hc27 H=>?_) (fun hc27 H=>?_)
     ·refine qk ?_;refine zay ?_;refine zar ?_;refine qsc ?_;refine qm ?_;obtain ⟨x28,hx28,r30,hr30,H⟩:=bd2 H;have hb31:=hS23.boxAt 5 rfl;refine zaz (G:=(F23.hold w23 [g1])) [0,1,2,3,4,5,6,7,8,9,10,11,12] rfl Ty.mixed (by kernel_rfl) (HB.agree (HB.cons 5 hb31 hS23 rfl HB.nil) hS23.agree) ?_;refine qf Ty.zef ?_;refine qr (zfj Ty.ziy rfl (hb31.held (HB.cons 5 hb31 hS23 rfl HB.nil) (by simp)) rfl) ?_;refine qc ?_;refine qf Ty.zef ?_;refine qbq 5 Ty.ziy hS23 ?_;refine qc ?_;obtain ⟨hp32,hy32⟩:=zac hx28;obtain ⟨cs32,hr32,he32⟩:=hS23.rowAt (k:=1) rfl hy32;obtain ⟨ue29_0,rfl,hue29_0⟩:=hr32;replace he32:=qj 3 he32;have hi32:=he32.ixd;refine qi Tryz.underlying36 Ty.zfb hi32 hp32 ?_;refine qr (zfm 2 Ty.zit rfl hi32) ?_;refine qq (zfs 2 Ty.zhh rfl he32 (by omega) rfl) ?_;refine ql (zdk hS23.good hue29_0 hr30) ?_;rintro ur30_0 w33 ⟨Fr30,_,rfl,hT33⟩;have hS33:=hS23.call hT33;have ler30:=hT33.ext;refine Nxt.frz (HB.le (HB.cons 6 hb31 hS33 rfl HB.nil) ler30) (HB.agree (HB.cons 6 hb31 hS33 rfl HB.nil) hS33.agree) ?_;refine qi Tryz.underlying36 Ty.zfb hi32 hp32 ?_;refine qr (zfm 2 Ty.zit rfl hi32) ?_;obtain ⟨F35,le35,hf35,hS35⟩:=hS33.freezeR 0 [1,2,3,4,5,6] rfl (by decide) (by decide);refine W_rg (HB.le (HB.cons 5 hb31 hS35 rfl HB.nil) le35) (HB.agree (HB.cons 5 hb31 hS35 rfl HB.nil) hS35.agree) ?_;refine qu (zuc (c:=[ur30_0]) 1 (i24.toNat) 2 x28 (Exp.mk x28.seq x28.of r30) rfl rfl hS35 rfl (zac hx28).2 (by first | rfl | (show _=_*3+_;omega)) hf35.ln.cells Ty.zrh (by simp only [List.all_cons,List.all_nil,List.all_append,hf35.ln.one];rfl) (Nat.le_of_ble_eq_true rfl) (by rintro cs ⟨a2,rfl,b2⟩;exact ⟨ur30_0,rfl,hf35⟩)) ?_;rintro _ w34 hS34;refine qh 5 hb31 hS34 ?_;refine zbk ?_;refine zbf ?_;refine zcl ?_;refine qd ?_;refine q2 ?_;refine zbk ?_;exact zbd (wr (i24+1),(l25.set i24.toNat (Exp.mk x28.seq x28.of r30))) _ H ⟨F35,rfl,((le23.trans ler30).trans le35),hS34⟩ ⟨rfl,rfl,rfl,rfl,trivial⟩
     ·refine zcc _ rfl ?_;exact zbe _ ⟨l25,H,⟨F23,rfl,le23,hS23⟩⟩ ⟨rfl,rfl,trivial⟩
   ·rintro E w20 ⟨l21,H,F20,rfl,le20,hS20⟩;dsimp only [zbj.k3] at H;refine qs ?_;refine qr (zde 5 (Catalog.cells (Catalog.mk x0.seq l17 l19 l21 r6) ur3_0 ur4_0 ur5_0 ur6_0) Ty.zql Ty.zhx (Nat.zero_lt_succ _) rfl hS20 rfl (fun q u h=>zdb (post:=[]) rfl h)) ?_;refine um (zea (c:=[.i .i64 x0.seq,ur3_0,ur4_0,ur5_0,ur6_0]) 4 ([.i .i64 x0.seq,ur3_0,ur4_0,ur5_0,ur6_0]) rfl rfl hS20 rfl rfl Ty.zhx (by simp only [List.all_cons,List.all_nil,List.all_append,(hS20.rowLn (k:=3) rfl).one,(hS20.rowLn (k:=2) rfl).one,(hS20.rowLn (k:=1) rfl).one,(hS20.rowLn (k:=0) rfl).one];rfl) rfl rfl) ?_;rintro _ w22 hS22;refine qn ?_;obtain rfl:=oi H;refine zoe (vs:=[.agg (Catalog.cells (Catalog.mk x0.seq l17 l19 l21 r6) ur3_0 ur4_0 ur5_0 ur6_0)]) rfl ⟨(zkv 4 Ty.zql Ty.zhx hS22 rfl rfl),trivial⟩ ?_;exact ⟨F20,ur3_0,ur4_0,ur5_0,ur6_0,rfl,hS22.pick [3,2,1,0] (by decide)⟩
def zck.k1:Option Bool :=
  some true
def zck.l2 (x0:List UInt8) (x1:List UInt8) (rec5:Int→Option Bool):Int→Option Bool
  | i4 =>
    if decide (i4 < (x0.length:Int)) then
      bd (ix x0 i4) fun x7 =>
      bd (ix x1 i4) fun x9 =>
      if decide ((x7.toNat:Int)≠(x9.toNat:Int)) then
        some false
      else
        rec5 (wr (i4+1))
    else
      zck.k1
def zck (x0:List UInt8) (x1:List UInt8):Option Bool :=
  if decide ((x0.length:Int)≠(x1.length:Int)) then
    some false
  else
    loop (zck.l2 x0 x1) 0
theorem zpn {x0:List UInt8} {x1:List UInt8} {r:Bool} {v0:Val} {v1:Val} (hA:Gd F w) (h0:SlF tB F v0 x0) (h1:SlF tB F v1 x1) (H:zck x0 x1=some r):Ret Tryz.prog K 61 [v0,v1] w fun v w'=>∃ (F':Frz),v = .b r∧St [] w F F' [] w':=by
 refine qa2 Tryz.func61 ?_;have hS:=St.start hA;dsimp only [zck] at H;refine qsm ?_;refine zay ?_;refine qsc ?_;refine qr (zbs Tryz.underlying47 rfl h0.ln) ?_;refine qc ?_;refine qr (zbs Tryz.underlying47 rfl h1.ln) ?_;refine qr (zah rfl rfl zeb) ?_;refine qn ?_;refine qy H (fun hc1 H=>?_) (fun hc1 H=>?_)
 ·refine qsm ?_;obtain rfl:=oi H;refine qt ?_;exact ⟨F,rfl,hS⟩
 ·refine qk ?_;refine zai (fun E wq=>zck.k1=some r ∧ ∃ (F2:Frz),E=[]∧F.le F2∧St [] w F F2 [] wq) ?_ ?_
  ·refine qsm ?_;refine zar ?_;refine zbm (fun (s:Int) E wq=>∃ (F3:Frz),E=[(0,v0),(1,v1),(5,.i .i64 s)]∧F.le F3∧St [] w F F3 [] wq) H ?_ ?_
   ·exact ⟨_,⟨F,rfl,(Frz.le.refl _),hS⟩,⟨rfl,rfl,rfl,trivial⟩⟩
   ·rintro rec5 i4 E w3 hI H
    try dsimp only at hI
    obtain ⟨F3,rfl,le3,hS3⟩:=hI;dsimp only [zck.l2] at H;refine zay ?_;refine qs ?_;refine q2 ?_;refine qr (zbs Tryz.underlying47 rfl h0.ln) ?_;refine qr (zah rfl rfl zbp) ?_;refine qn ?_;refine qy H (fun hc6 H=>?_) (fun hc6 H=>?_)
    ·refine qk ?_;refine zay ?_;refine zar ?_;refine zay ?_;obtain ⟨x7,hx7,x9,hx9,H⟩:=bd2 H;refine zaz (G:=(nowF _)) [0,1,2,3,4,5,6,7,8] rfl Ty.mixed (by kernel_rfl) (zdc _) ?_;refine q2 ?_;obtain ⟨hp11,hy11⟩:=zac hx7;obtain ⟨cs11,hr11,he11⟩:=(h0.mono le3).el hy11;obtain rfl:=hr11;replace he11:=qj 1 he11;have hi11:=he11.ixd;refine qi Tryz.underlying47 Ty.zjw hi11 hp11 ?_;refine qr (zfs 0 Ty.zwt rfl (he11.mono hS3.agree) (by omega) rfl) ?_;refine q2 ?_;obtain ⟨hp12,hy12⟩:=zac hx9;obtain ⟨cs12,hr12,he12⟩:=(h1.mono le3).el hy12;obtain rfl:=hr12;replace he12:=qj 1 he12;have hi12:=he12.ixd;refine qi Tryz.underlying47 Ty.zjw hi12 hp12 ?_;refine qr (zfs 0 Ty.zwt rfl (he12.mono hS3.agree) (by omega) rfl) ?_;refine qr (zah rfl rfl zeb) ?_;refine qn ?_;refine qy H (fun hc13 H=>?_) (fun hc13 H=>?_)
     ·refine qsm ?_;obtain rfl:=oi H;refine qt ?_;exact ⟨F3,rfl,hS3⟩
     ·refine zec ?_;refine zbf ?_;refine zcl ?_;refine qd ?_;refine q3 ?_;refine zbk ?_;exact zbd (wr (i4+1)) _ H ⟨F3,rfl,le3,hS3⟩ ⟨rfl,rfl,rfl,trivial⟩
    ·refine zcc _ rfl ?_;exact zbe _ ⟨H,⟨F3,rfl,le3,hS3⟩⟩ trivial
  ·rintro E w2 ⟨H,F2,rfl,le2,hS2⟩;dsimp only [zck.k1] at H;refine qsm ?_;obtain rfl:=oi H;refine qt ?_;exact ⟨F2,rfl,hS2⟩
def zhq (x0:Loc) (x1:Loc):Option Bool :=
  some (((decide (x0.vol=x1.vol)&&decide (x0.file=x1.file))&&decide (x0.off=x1.off))&&decide (x0.len=x1.len))
theorem zqy {x0:Loc} {x1:Loc} {r:Bool} (hA:Gd F w) (H:zhq x0 x1=some r):Ret Tryz.prog K 21 [.agg (Loc.cells x0),.agg (Loc.cells x1)] w fun v w'=>∃ (F':Frz),v = .b r∧St [] w F F' [] w':=by
 refine qa2 Tryz.func21 ?_;have hS:=St.start hA;dsimp only [zhq] at H;refine qs ?_;refine xm (E_bx (cs:=[.i .i64 x0.vol,.i .i64 x0.file,.i .i64 x0.off,.i .i64 x0.len]) rfl rfl rfl hS) ?_;rintro _ w1 ⟨g1,rfl,hS1⟩;refine xm (E_bx (cs:=[.i .i64 x1.vol,.i .i64 x1.file,.i .i64 x1.off,.i .i64 x1.len]) rfl rfl rfl hS1) ?_;rintro _ w2 ⟨g2,rfl,hS2⟩;refine qm ?_;refine qs ?_;refine qf Ty.zhp ?_;refine qb 1 Ty.zdd hS2 ?_;refine qf Ty.zhp ?_;refine qb 0 Ty.zdd hS2 ?_;refine qr (zah rfl rfl zeg) ?_;refine qc ?_;refine W_gs (v:=pl g1 (0+1)) rfl rfl rfl rfl (fun ⟨hb3,_⟩=>?_) ?_
 ·rw [hb3];exact (qf Ty.zjn ·)
 refine W_gs (v:=.i .i64 x0.file) rfl rfl rfl rfl (fun ⟨hb4,_⟩=>?_) ?_
 ·rw [hb4];exact (qb 1 Ty.zdd hS2 ·)
 refine W_gs (v:=pl g2 (0+1)) rfl rfl rfl rfl (fun ⟨hb5,_⟩=>?_) ?_
 ·rw [hb5];exact (qf Ty.zjn ·)
 refine W_gs (v:=.i .i64 x1.file) rfl rfl rfl rfl (fun ⟨hb6,_⟩=>?_) ?_
 ·rw [hb6];exact (qb 0 Ty.zdd hS2 ·)
 refine W_gs (v:=.b (decide (x0.file=x1.file))) rfl rfl rfl rfl (fun ⟨hb7,_⟩=>?_) ?_
 ·rw [hb7];exact (qr (zah rfl rfl zeg) ·)
 refine ziu rfl rfl rfl rfl rfl (fun hc=>by rw [hc];rfl) rfl ?_;refine qc ?_;refine W_gs (v:=pl g1 (0+2)) rfl rfl rfl rfl (fun ⟨hb8,_⟩=>?_) ?_
 ·rw [hb8];exact (qf Ty.zlt ·)
 refine W_gs (v:=.i .i64 x0.off) rfl rfl rfl rfl (fun ⟨hb9,_⟩=>?_) ?_
 ·rw [hb9];exact (qb 1 Ty.zdd hS2 ·)
 refine W_gs (v:=pl g2 (0+2)) rfl rfl rfl rfl (fun ⟨hb10,_⟩=>?_) ?_
 ·rw [hb10];exact (qf Ty.zlt ·)
 refine W_gs (v:=.i .i64 x1.off) rfl rfl rfl rfl (fun ⟨hb11,_⟩=>?_) ?_
 ·rw [hb11];exact (qb 0 Ty.zdd hS2 ·)
 refine W_gs (v:=.b (decide (x0.off=x1.off))) rfl rfl rfl rfl (fun ⟨hb12,_⟩=>?_) ?_
 ·rw [hb12];exact (qr (zah rfl rfl zeg) ·)
 refine ziu rfl rfl rfl rfl rfl (fun hc=>by rw [hc];rfl) rfl ?_;refine qc ?_;refine W_gs (v:=pl g1 (0+3)) rfl rfl rfl rfl (fun ⟨hb13,_⟩=>?_) ?_
 ·rw [hb13];exact (qf Ty.zpb ·)
 refine W_gs (v:=.i .i64 x0.len) rfl rfl rfl rfl (fun ⟨hb14,_⟩=>?_) ?_
 ·rw [hb14];exact (qb 1 Ty.zdd hS2 ·)
 refine W_gs (v:=pl g2 (0+3)) rfl rfl rfl rfl (fun ⟨hb15,_⟩=>?_) ?_
 ·rw [hb15];exact (qf Ty.zpb ·)
 refine W_gs (v:=.i .i64 x1.len) rfl rfl rfl rfl (fun ⟨hb16,_⟩=>?_) ?_
 ·rw [hb16];exact (qb 0 Ty.zdd hS2 ·)
 refine W_gs (v:=.b (decide (x0.len=x1.len))) rfl rfl rfl rfl (fun ⟨hb17,_⟩=>?_) ?_
 ·rw [hb17];exact (qr (zah rfl rfl zeg) ·)
 refine ziu rfl rfl rfl rfl rfl (fun hc=>by rw [hc];rfl) rfl ?_;refine qm ?_;obtain rfl:=oi H;refine qt ?_;exact ⟨F,rfl,hS2.pick [] (by decide)⟩
def zcb.k1:Option Bool :=
  some true
def zcb.l2 (x0:List Loc) (x1:List Loc) (rec5:Int→Option Bool):Int→Option Bool
  | i4 =>
    if decide (i4 < (x0.length:Int)) then
      bd (ix x0 i4) fun x7 =>
      bd (ix x1 i4) fun x9 =>
      bd (zhq x7 x9) fun r11 =>
      if (!r11) then
        some false
      else
        rec5 (wr (i4+1))
    else
      zcb.k1
def zcb (x0:List Loc) (x1:List Loc):Option Bool :=
  if decide ((x0.length:Int)≠(x1.length:Int)) then
    some false
  else
    loop (zcb.l2 x0 x1) 0
theorem zio {x0:List Loc} {x1:List Loc} {r:Bool} {v0:Val} {v1:Val} (hA:Gd F w) (h0:SlF Loc.t F v0 x0) (h1:SlF Loc.t F v1 x1) (H:zcb x0 x1=some r):Ret Tryz.prog K 51 [v0,v1] w fun v w'=>∃ (F':Frz),v = .b r∧St [] w F F' [] w':=by
 refine qa2 Tryz.func51 ?_;have hS:=St.start hA;dsimp only [zcb] at H;refine qsm ?_;refine zay ?_;refine qsc ?_;refine qr (zbs Tryz.underlying44 rfl h0.ln) ?_;refine qc ?_;refine qr (zbs Tryz.underlying44 rfl h1.ln) ?_;refine qr (zah rfl rfl zeb) ?_;refine qn ?_;refine qy H (fun hc1 H=>?_) (fun hc1 H=>?_)
 ·refine qsm ?_;obtain rfl:=oi H;refine qt ?_;exact ⟨F,rfl,hS⟩
 ·refine qk ?_;refine zai (fun E wq=>zcb.k1=some r ∧ ∃ (F2:Frz),E=[]∧F.le F2∧St [] w F F2 [] wq) ?_ ?_
  ·refine qsm ?_;refine zar ?_;refine zbm (fun (s:Int) E wq=>∃ (F3:Frz),E=[(0,v0),(1,v1),(5,.i .i64 s)]∧F.le F3∧St [] w F F3 [] wq) H ?_ ?_
   ·exact ⟨_,⟨F,rfl,(Frz.le.refl _),hS⟩,⟨rfl,rfl,rfl,trivial⟩⟩
   ·rintro rec5 i4 E w3 hI H
    try dsimp only at hI
    obtain ⟨F3,rfl,le3,hS3⟩:=hI;dsimp only [zcb.l2] at H;refine zay ?_;refine qs ?_;refine q2 ?_;refine qr (zbs Tryz.underlying44 rfl h0.ln) ?_;refine qr (zah rfl rfl zbp) ?_;refine qn ?_;refine qy H (fun hc6 H=>?_) (fun hc6 H=>?_)
    ·refine qk ?_;refine zay ?_;refine zar ?_;refine zay ?_;obtain ⟨x7,hx7,x9,hx9,H⟩:=bd2 H;obtain ⟨r11,hr11,H⟩:=zap H;refine zaz (G:=F3) [0,1,2,3,4,5,6,7,8,9] rfl Ty.mixed (by kernel_rfl) hS3.agree ?_;refine q2 ?_;obtain ⟨hp12,hy12⟩:=zac hx7;obtain ⟨cs12,hr12,he12⟩:=(h0.mono le3).el hy12;obtain rfl:=hr12;replace he12:=qj 4 he12;have hi12:=he12.ixd;refine qi Tryz.underlying44 Ty.zgx hi12 hp12 ?_;refine qq (zfe 0 (Loc.cells x7) Ty.zsw Ty.zgx rfl (he12.mono hS3.agree) (by omega) rfl (Nat.le_of_ble_eq_true rfl)) ?_;refine q2 ?_;obtain ⟨hp13,hy13⟩:=zac hx9;obtain ⟨cs13,hr13,he13⟩:=(h1.mono le3).el hy13;obtain rfl:=hr13;replace he13:=qj 4 he13;have hi13:=he13.ixd;refine qi Tryz.underlying44 Ty.zgx hi13 hp13 ?_;refine qq (zfe 0 (Loc.cells x9) Ty.zsw Ty.zgx rfl (he13.mono hS3.agree) (by omega) rfl (Nat.le_of_ble_eq_true rfl)) ?_;refine ql (zqy hS3.good hr11) ?_;rintro v14 w14 ⟨Fr11,rfl,hT14⟩;have hS14:=hS3.lent hT14;refine qw hS14 ?_;refine qm ?_;refine qy H (fun hc15 H=>?_) (fun hc15 H=>?_)
     ·refine qsm ?_;obtain rfl:=oi H;refine qt ?_;exact ⟨F3,rfl,hS14⟩
     ·refine zec ?_;refine zbf ?_;refine zcl ?_;refine qd ?_;refine q3 ?_;refine zbk ?_;exact zbd (wr (i4+1)) _ H ⟨F3,rfl,le3,hS14⟩ ⟨rfl,rfl,rfl,trivial⟩
    ·refine zcc _ rfl ?_;exact zbe _ ⟨H,⟨F3,rfl,le3,hS3⟩⟩ trivial
  ·rintro E w2 ⟨H,F2,rfl,le2,hS2⟩;dsimp only [zcb.k1] at H;refine qsm ?_;obtain rfl:=oi H;refine qt ?_;exact ⟨F2,rfl,hS2⟩
def zgt (x0:Chunk) (x1:Chunk):Option Bool :=
  bd (only (decide (x0.id=x1.id)&&(x0.staged == x1.staged)) (zck x0.data x1.data) false) fun r3 =>
  bd (only ((decide (x0.id=x1.id)&&(x0.staged == x1.staged))&&r3) (zcb x0.locs x1.locs) false) fun r4 =>
  some (((decide (x0.id=x1.id)&&(x0.staged == x1.staged))&&r3)&&r4)
theorem zpm {x0:Chunk} {x1:Chunk} {r:Bool} {v0_0:Val} {v0_1:Val} {v1_0:Val} {v1_1:Val} (hA:Gd F w) (h0_0:SlF tB F v0_0 x0.data) (h0_1:SlF Loc.t F v0_1 x0.locs) (l0_0:(x0.id).length=32) (h1_0:SlF tB F v1_0 x1.data) (h1_1:SlF Loc.t F v1_1 x1.locs) (l1_0:(x1.id).length=32) (H:zgt x0 x1=some r):Ret Tryz.prog K 107 [.agg (Chunk.cells x0 v0_0 v0_1),.agg (Chunk.cells x1 v1_0 v1_1)] w fun v w'=>∃ (F':Frz),v = .b r∧St [] w F F' [] w':=by
 refine qa2 Tryz.func107 ?_;have hS:=St.start hA;dsimp only [zgt] at H;refine qs ?_;refine xm (E_bx (cs:=zao x0.id++[.b x0.staged,v0_0,v0_1]) rfl rfl (by simp only [List.all_cons,List.all_nil,List.all_append,h0_0.ln.one,h0_1.ln.one];rfl) hS) ?_;rintro _ w1 ⟨g1,rfl,hS1⟩;refine xm (E_bx (cs:=zao x1.id++[.b x1.staged,v1_0,v1_1]) rfl rfl (by simp only [List.all_cons,List.all_nil,List.all_append,h1_0.ln.one,h1_1.ln.one];rfl) hS1) ?_;rintro _ w2 ⟨g2,rfl,hS2⟩;refine qm ?_;obtain ⟨r3,hr3,r4,hr4,H⟩:=bd2 H;refine qs ?_;refine qf Ty.zjm ?_;refine qr (zde 1 (zao x0.id) Ty.zhs Ty.zcy (Nat.zero_lt_succ _) rfl hS2 rfl (fun q u h=>zdb (post:=[.b x0.staged,v0_0,v0_1]) rfl h)) ?_;refine qf Ty.zjm ?_;refine qr (zde 0 (zao x1.id) Ty.zhs Ty.zcy (Nat.zero_lt_succ _) rfl hS2 rfl (fun q u h=>zdb (post:=[.b x1.staged,v1_0,v1_1]) rfl h)) ?_;refine qr (zah rfl rfl (bA_eql Ty.eqt58 rfl rfl (zwc l0_0 l1_0))) ?_;refine qc ?_;refine W_gs (v:=pl g1 (0+32)) rfl rfl rfl rfl (fun ⟨hb5,_⟩=>?_) ?_
 ·rw [hb5];exact (qf Ty.zoz ·)
 refine W_gs (v:=.b x0.staged) rfl rfl rfl rfl (fun ⟨hb6,_⟩=>?_) ?_
 ·rw [hb6];exact (qb 1 Ty.zwu hS2 ·)
 refine W_gs (v:=pl g2 (0+32)) rfl rfl rfl rfl (fun ⟨hb7,_⟩=>?_) ?_
 ·rw [hb7];exact (qf Ty.zoz ·)
 refine W_gs (v:=.b x1.staged) rfl rfl rfl rfl (fun ⟨hb8,_⟩=>?_) ?_
 ·rw [hb8];exact (qb 0 Ty.zwu hS2 ·)
 refine W_gs (v:=.b (x0.staged == x1.staged)) rfl rfl rfl rfl (fun ⟨hb9,_⟩=>?_) ?_
 ·rw [hb9];exact (qr (zah rfl rfl (bB_eql Tryz.underlying4)) ·)
 refine ziu rfl rfl rfl rfl rfl (fun hc=>by rw [hc];rfl) rfl ?_;refine qc ?_;refine W_gs (v:=pl g1 (0+33)) rfl rfl rfl rfl (fun ⟨hb10,_⟩=>?_) ?_
 ·rw [hb10];exact (qf Ty.znf ·)
 refine W_gs (v:=v0_0) rfl rfl rfl rfl (fun ⟨hb11,_⟩=>?_) ?_
 ·rw [hb11];exact (qb 1 Ty.zhg hS2 ·)
 refine W_gs (v:=pl g2 (0+33)) rfl rfl rfl rfl (fun ⟨hb12,_⟩=>?_) ?_
 ·rw [hb12];exact (qf Ty.znf ·)
 refine W_gs (v:=v1_0) rfl rfl rfl rfl (fun ⟨hb13,_⟩=>?_) ?_
 ·rw [hb13];exact (qb 0 Ty.zhg hS2 ·)
 obtain ⟨Q15,hQ15⟩:∃ Q:Hp→Prop,Q=fun wq=>St [] w F F [.box g2 (zao x1.id++[.b x1.staged,v1_0,v1_1]),.box g1 (zao x0.id++[.b x0.staged,v0_0,v0_1])] wq:=⟨_,rfl⟩;refine W_gw (v:=.b r3) (Q:=Q15) (by rw [hQ15];exact hS2) rfl rfl rfl rfl (fun ⟨hb14,_⟩=>?_) ?_
 ·rw [hb14];intro hK;have hy16:=hr3;rw [zbu hb14] at hy16;refine ql (zpn hS2.good h0_0 h1_0 hy16) ?_;rintro v17 w17 ⟨Fr3,rfl,hT17⟩;have hS17:=hS2.lent hT17;exact hK _ (by rw [hQ15];exact hS17)
 intro w18 hS18;rw [hQ15] at hS18;refine Nxt.now ?_;refine ziu rfl rfl rfl rfl rfl (fun hc=>by rw [hc];rfl) rfl ?_;refine qc ?_;refine W_gs (v:=pl g1 (0+34)) rfl rfl rfl rfl (fun ⟨hb19,_⟩=>?_) ?_
 ·rw [hb19];exact (qf Ty.zgs ·)
 refine W_gs (v:=v0_1) rfl rfl rfl rfl (fun ⟨hb20,_⟩=>?_) ?_
 ·rw [hb20];exact (qb 1 Ty.zhh hS18 ·)
 refine W_gs (v:=pl g2 (0+34)) rfl rfl rfl rfl (fun ⟨hb21,_⟩=>?_) ?_
 ·rw [hb21];exact (qf Ty.zgs ·)
 refine W_gs (v:=v1_1) rfl rfl rfl rfl (fun ⟨hb22,_⟩=>?_) ?_
 ·rw [hb22];exact (qb 0 Ty.zhh hS18 ·)
 obtain ⟨Q24,hQ24⟩:∃ Q:Hp→Prop,Q=fun wq=>St [] w F F [.box g2 (zao x1.id++[.b x1.staged,v1_0,v1_1]),.box g1 (zao x0.id++[.b x0.staged,v0_0,v0_1])] wq:=⟨_,rfl⟩;refine W_gw (v:=.b r4) (Q:=Q24) (by rw [hQ24];exact hS18) rfl rfl rfl rfl (fun ⟨hb23,_⟩=>?_) ?_
 ·rw [hb23];intro hK;have hy25:=hr4;rw [zbu hb23] at hy25;refine ql (zio hS18.good h0_1 h1_1 hy25) ?_;rintro v26 w26 ⟨Fr4,rfl,hT26⟩;have hS26:=hS18.lent hT26;exact hK _ (by rw [hQ24];exact hS26)
 intro w27 hS27;rw [hQ24] at hS27;refine Nxt.now ?_;refine ziu rfl rfl rfl rfl rfl (fun hc=>by rw [hc];rfl) rfl ?_;refine qm ?_;obtain rfl:=oi H;refine qt ?_;exact ⟨F,rfl,hS27.pick [] (by decide)⟩
def zbz.k1:Option Bool :=
  some true
def zbz.l2 (x0:List Chunk) (x1:List Chunk) (rec5:Int→Option Bool):Int→Option Bool
  | i4 =>
    if decide (i4 < (x0.length:Int)) then
      bd (ix x0 i4) fun x7 =>
      bd (ix x1 i4) fun x9 =>
      bd (zgt x7 x9) fun r11 =>
      if (!r11) then
        some false
      else
        rec5 (wr (i4+1))
    else
      zbz.k1
def zbz (x0:List Chunk) (x1:List Chunk):Option Bool :=
  if decide ((x0.length:Int)≠(x1.length:Int)) then
    some false
  else
    loop (zbz.l2 x0 x1) 0
theorem zoh {x0:List Chunk} {x1:List Chunk} {r:Bool} {v0:Val} {v1:Val} (hA:Gd F w) (h0:SlF Chunk.t F v0 x0) (h1:SlF Chunk.t F v1 x1) (H:zbz x0 x1=some r):Ret Tryz.prog K 49 [v0,v1] w fun v w'=>∃ (F':Frz),v = .b r∧St [] w F F' [] w':=by
 refine qa2 Tryz.func49 ?_;have hS:=St.start hA;dsimp only [zbz] at H;refine qsm ?_;refine zay ?_;refine qsc ?_;refine qr (zbs Tryz.underlying35 rfl h0.ln) ?_;refine qc ?_;refine qr (zbs Tryz.underlying35 rfl h1.ln) ?_;refine qr (zah rfl rfl zeb) ?_;refine qn ?_;refine qy H (fun hc1 H=>?_) (fun hc1 H=>?_)
 ·refine qsm ?_;obtain rfl:=oi H;refine qt ?_;exact ⟨F,rfl,hS⟩
 ·refine qk ?_;refine zai (fun E wq=>zbz.k1=some r ∧ ∃ (F2:Frz),E=[]∧F.le F2∧St [] w F F2 [] wq) ?_ ?_
  ·refine qsm ?_;refine zar ?_;refine zbm (fun (s:Int) E wq=>∃ (F3:Frz),E=[(0,v0),(1,v1),(5,.i .i64 s)]∧F.le F3∧St [] w F F3 [] wq) H ?_ ?_
   ·exact ⟨_,⟨F,rfl,(Frz.le.refl _),hS⟩,⟨rfl,rfl,rfl,trivial⟩⟩
   ·rintro rec5 i4 E w3 hI H
    try dsimp only at hI
    obtain ⟨F3,rfl,le3,hS3⟩:=hI;dsimp only [zbz.l2] at H;refine zay ?_;refine qs ?_;refine q2 ?_;refine qr (zbs Tryz.underlying35 rfl h0.ln) ?_;refine qr (zah rfl rfl zbp) ?_;refine qn ?_;refine qy H (fun hc6 H=>?_) (fun hc6 H=>?_)
    ·refine qk ?_;refine zay ?_;refine zar ?_;refine zay ?_;obtain ⟨x7,hx7,x9,hx9,H⟩:=bd2 H;obtain ⟨r11,hr11,H⟩:=zap H;refine zaz (G:=F3) [0,1,2,3,4,5,6,7,8,9] rfl Ty.mixed (by kernel_rfl) hS3.agree ?_;refine q2 ?_;obtain ⟨hp12,hy12⟩:=zac hx7;obtain ⟨cs12,hr12,he12⟩:=(h0.mono le3).el hy12;obtain ⟨ue8_0,ue8_1,rfl,hle8_0,hue8_0,hue8_1⟩:=hr12;replace he12:=qj 35 he12;have hi12:=he12.ixd;refine qi Tryz.underlying35 Ty.zep hi12 hp12 ?_;refine qq (zfe 0 (Chunk.cells x7 ue8_0 ue8_1) Ty.agg60 Ty.zep rfl (he12.mono hS3.agree) (by omega) rfl (Nat.le_of_ble_eq_true rfl)) ?_;refine q2 ?_;obtain ⟨hp13,hy13⟩:=zac hx9;obtain ⟨cs13,hr13,he13⟩:=(h1.mono le3).el hy13;obtain ⟨ue10_0,ue10_1,rfl,hle10_0,hue10_0,hue10_1⟩:=hr13;replace he13:=qj 35 he13;have hi13:=he13.ixd;refine qi Tryz.underlying35 Ty.zep hi13 hp13 ?_;refine qq (zfe 0 (Chunk.cells x9 ue10_0 ue10_1) Ty.agg60 Ty.zep rfl (he13.mono hS3.agree) (by omega) rfl (Nat.le_of_ble_eq_true rfl)) ?_;refine ql (zpm hS3.good hue8_0 hue8_1 hle8_0 hue10_0 hue10_1 hle10_0 hr11) ?_;rintro v14 w14 ⟨Fr11,rfl,hT14⟩;have hS14:=hS3.lent hT14;refine qw hS14 ?_;refine qm ?_;refine qy H (fun hc15 H=>?_) (fun hc15 H=>?_)
     ·refine qsm ?_;obtain rfl:=oi H;refine qt ?_;exact ⟨F3,rfl,hS14⟩
     ·refine zec ?_;refine zbf ?_;refine zcl ?_;refine qd ?_;refine q3 ?_;refine zbk ?_;exact zbd (wr (i4+1)) _ H ⟨F3,rfl,le3,hS14⟩ ⟨rfl,rfl,rfl,trivial⟩
    ·refine zcc _ rfl ?_;exact zbe _ ⟨H,⟨F3,rfl,le3,hS3⟩⟩ trivial
  ·rintro E w2 ⟨H,F2,rfl,le2,hS2⟩;dsimp only [zbz.k1] at H;refine qsm ?_;obtain rfl:=oi H;refine qt ?_;exact ⟨F2,rfl,hS2⟩
def zcp.k1:Option Bool :=
  some true
def zcp.l2 (x0:List Vol) (x1:List Vol) (rec5:Int→Option Bool):Int→Option Bool
  | i4 =>
    if decide (i4 < (x0.length:Int)) then
      bd (ix x0 i4) fun x7 =>
      bd (ix x1 i4) fun x9 =>
      if (((decide (x7.pool≠x9.pool)||decide (x7.epoch≠x9.epoch))||decide (x7.state≠x9.state))||decide (x7.files≠x9.files)) then
        some false
      else
        rec5 (wr (i4+1))
    else
      zcp.k1
def zcp (x0:List Vol) (x1:List Vol):Option Bool :=
  if decide ((x0.length:Int)≠(x1.length:Int)) then
    some false
  else
    loop (zcp.l2 x0 x1) 0
theorem zqi {x0:List Vol} {x1:List Vol} {r:Bool} {v0:Val} {v1:Val} (hA:Gd F w) (h0:SlF Vol.t F v0 x0) (h1:SlF Vol.t F v1 x1) (H:zcp x0 x1=some r):Ret Tryz.prog K 18 [v0,v1] w fun v w'=>∃ (F':Frz),v = .b r∧St [] w F F' [] w':=by
 refine qa2 Tryz.func18 ?_;have hS:=St.start hA;dsimp only [zcp] at H;refine qsm ?_;refine zay ?_;refine qsc ?_;refine qr (zbs Tryz.underlying33 rfl h0.ln) ?_;refine qc ?_;refine qr (zbs Tryz.underlying33 rfl h1.ln) ?_;refine qr (zah rfl rfl zeb) ?_;refine qn ?_;refine qy H (fun hc1 H=>?_) (fun hc1 H=>?_)
 ·refine qsm ?_;obtain rfl:=oi H;refine qt ?_;exact ⟨F,rfl,hS⟩
 ·refine qk ?_;refine zai (fun E wq=>zcp.k1=some r ∧ ∃ (F2:Frz),E=[]∧F.le F2∧St [] w F F2 [] wq) ?_ ?_
  ·refine qsm ?_;refine zar ?_;refine zbm (fun (s:Int) E wq=>∃ (F3:Frz),E=[(0,v0),(1,v1),(5,.i .i64 s)]∧F.le F3∧St [] w F F3 [] wq) H ?_ ?_
   ·exact ⟨_,⟨F,rfl,(Frz.le.refl _),hS⟩,⟨rfl,rfl,rfl,trivial⟩⟩
   ·rintro rec5 i4 E w3 hI H
    try dsimp only at hI
    obtain ⟨F3,rfl,le3,hS3⟩:=hI;dsimp only [zcp.l2] at H;refine zay ?_;refine qs ?_;refine q2 ?_;refine qr (zbs Tryz.underlying33 rfl h0.ln) ?_;refine qr (zah rfl rfl zbp) ?_;refine qn ?_;refine qy H (fun hc6 H=>?_) (fun hc6 H=>?_)
    ·refine qk ?_;refine zay ?_;refine zar ?_;refine zay ?_;obtain ⟨x7,hx7,x9,hx9,H⟩:=bd2 H;refine zaz (G:=F3) [0,1,2,3,4,5,6,7,8,9,10,11] rfl Ty.mixed (by kernel_rfl) hS3.agree ?_;refine q2 ?_;obtain ⟨hp13,hy13⟩:=zac hx7;obtain ⟨cs13,hr13,he13⟩:=(h0.mono le3).el hy13;obtain rfl:=hr13;replace he13:=qj 4 he13;have hi13:=he13.ixd;refine qi Tryz.underlying33 Ty.zom hi13 hp13 ?_;refine qq (zfe 0 (Vol.cells x7) Ty.agg32 Ty.zom rfl (he13.mono hS3.agree) (by omega) rfl (Nat.le_of_ble_eq_true rfl)) ?_;refine q2 ?_;obtain ⟨hp14,hy14⟩:=zac hx9;obtain ⟨cs14,hr14,he14⟩:=(h1.mono le3).el hy14;obtain rfl:=hr14;replace he14:=qj 4 he14;have hi14:=he14.ixd;refine qi Tryz.underlying33 Ty.zom hi14 hp14 ?_;refine qr (zfe 0 (Vol.cells x9) Ty.agg32 Ty.zom rfl he14 (by omega) rfl (Nat.le_of_ble_eq_true rfl)) ?_;refine qx (zft (cs:=[.i .i64 0,.i .i64 0,.i .i64 0,.i .i64 0]) Ty.zero32 rfl hS3) ?_;rintro _ w11 ⟨g11,rfl,hS11⟩;refine qw hS11 ?_;refine qx (zft (cs:=[.i .i64 0,.i .i64 0,.i .i64 0,.i .i64 0]) Ty.zero32 rfl hS11) ?_;rintro _ w12 ⟨g12,rfl,hS12⟩;refine qw hS12 ?_;refine qu (zea (c:=[.i .i64 x7.pool,.i .i64 x7.epoch,.i .i64 x7.state,.i .i64 x7.files]) 1 ([.i .i64 x7.pool,.i .i64 x7.epoch,.i .i64 x7.state,.i .i64 x7.files]) rfl rfl hS12 rfl rfl Ty.zom rfl rfl rfl) ?_;rintro _ w15 hS15;refine qw hS15 ?_;refine qu (zea (c:=[.i .i64 x9.pool,.i .i64 x9.epoch,.i .i64 x9.state,.i .i64 x9.files]) 0 ([.i .i64 x9.pool,.i .i64 x9.epoch,.i .i64 x9.state,.i .i64 x9.files]) rfl rfl hS15 rfl rfl Ty.zom rfl rfl rfl) ?_;rintro _ w16 hS16;refine qw hS16 ?_;refine qn ?_;refine qs ?_;refine qf Ty.zwb ?_;refine qb 1 Ty.zdd hS16 ?_;refine qf Ty.zwb ?_;refine qb 0 Ty.zdd hS16 ?_;refine qr (zah rfl rfl zeb) ?_;refine qc ?_;refine W_gs (v:=pl g11 (0+1)) rfl rfl rfl rfl (fun ⟨hb17,_⟩=>?_) ?_
     ·rw [hb17];exact (qf Ty.zwa ·)
     refine W_gs (v:=.i .i64 x7.epoch) rfl rfl rfl rfl (fun ⟨hb18,_⟩=>?_) ?_
     ·rw [hb18];exact (qb 1 Ty.zdd hS16 ·)
     refine W_gs (v:=pl g12 (0+1)) rfl rfl rfl rfl (fun ⟨hb19,_⟩=>?_) ?_
     ·rw [hb19];exact (qf Ty.zwa ·)
     refine W_gs (v:=.i .i64 x9.epoch) rfl rfl rfl rfl (fun ⟨hb20,_⟩=>?_) ?_
     ·rw [hb20];exact (qb 0 Ty.zdd hS16 ·)
     refine W_gs (v:=.b (decide (x7.epoch≠x9.epoch))) rfl rfl rfl rfl (fun ⟨hb21,_⟩=>?_) ?_
     ·rw [hb21];exact (qr (zah rfl rfl zeb) ·)
     refine zgl rfl rfl rfl rfl rfl rfl (fun hc=>by rw [hc];rfl) ?_;refine qc ?_;refine W_gs (v:=pl g11 (0+2)) rfl rfl rfl rfl (fun ⟨hb22,_⟩=>?_) ?_
     ·rw [hb22];exact (qf Ty.zni ·)
     refine W_gs (v:=.i .i64 x7.state) rfl rfl rfl rfl (fun ⟨hb23,_⟩=>?_) ?_
     ·rw [hb23];exact (qb 1 Ty.zdd hS16 ·)
     refine W_gs (v:=pl g12 (0+2)) rfl rfl rfl rfl (fun ⟨hb24,_⟩=>?_) ?_
     ·rw [hb24];exact (qf Ty.zni ·)
     refine W_gs (v:=.i .i64 x9.state) rfl rfl rfl rfl (fun ⟨hb25,_⟩=>?_) ?_
     ·rw [hb25];exact (qb 0 Ty.zdd hS16 ·)
     refine W_gs (v:=.b (decide (x7.state≠x9.state))) rfl rfl rfl rfl (fun ⟨hb26,_⟩=>?_) ?_
     ·rw [hb26];exact (qr (zah rfl rfl zeb) ·)
     refine zgl rfl rfl rfl rfl rfl rfl (fun hc=>by rw [hc];rfl) ?_;refine qc ?_;refine W_gs (v:=pl g11 (0+3)) rfl rfl rfl rfl (fun ⟨hb27,_⟩=>?_) ?_
     ·rw [hb27];exact (qf Ty.zpc ·)
     refine W_gs (v:=.i .i64 x7.files) rfl rfl rfl rfl (fun ⟨hb28,_⟩=>?_) ?_
     ·rw [hb28];exact (qb 1 Ty.zdd hS16 ·)
     refine W_gs (v:=pl g12 (0+3)) rfl rfl rfl rfl (fun ⟨hb29,_⟩=>?_) ?_
     ·rw [hb29];exact (qf Ty.zpc ·)
     refine W_gs (v:=.i .i64 x9.files) rfl rfl rfl rfl (fun ⟨hb30,_⟩=>?_) ?_
     ·rw [hb30];exact (qb 0 Ty.zdd hS16 ·)
     refine W_gs (v:=.b (decide (x7.files≠x9.files))) rfl rfl rfl rfl (fun ⟨hb31,_⟩=>?_) ?_
     ·rw [hb31];exact (qr (zah rfl rfl zeb) ·)
     refine zgl rfl rfl rfl rfl rfl rfl (fun hc=>by rw [hc];rfl) ?_;refine qn ?_;refine qy H (fun hc32 H=>?_) (fun hc32 H=>?_)
     ·refine qsm ?_;obtain rfl:=oi H;refine qt ?_;exact ⟨F3,rfl,hS16.pick [] (by decide)⟩
     ·refine zec ?_;refine zbf ?_;refine zcl ?_;refine qd ?_;refine q3 ?_;refine zbk ?_;exact zbd (wr (i4+1)) _ H ⟨F3,rfl,le3,hS16.pick [] (by decide)⟩ ⟨rfl,rfl,rfl,trivial⟩
    ·refine zcc _ rfl ?_;exact zbe _ ⟨H,⟨F3,rfl,le3,hS3⟩⟩ trivial
  ·rintro E w2 ⟨H,F2,rfl,le2,hS2⟩;dsimp only [zcp.k1] at H;refine qsm ?_;obtain rfl:=oi H;refine qt ?_;exact ⟨F2,rfl,hS2⟩
def zct.k1:Option Bool :=
  some true
def zct.l2 (x0:List (List UInt8)) (x1:List (List UInt8)) (rec5:Int→Option Bool):Int→Option Bool
  | i4 =>
    if decide (i4 < (x0.length:Int)) then
      bd (ix x0 i4) fun x7 =>
      bd (ix x1 i4) fun x9 =>
      if (!decide (x7=x9)) then
        some false
      else
        rec5 (wr (i4+1))
    else
      zct.k1
def zct (x0:List (List UInt8)) (x1:List (List UInt8)):Option Bool :=
  if decide ((x0.length:Int)≠(x1.length:Int)) then
    some false
  else
    loop (zct.l2 x0 x1) 0
theorem zqz {x0:List (List UInt8)} {x1:List (List UInt8)} {r:Bool} {v0:Val} {v1:Val} (hA:Gd F w) (h0:SlF tId F v0 x0) (h1:SlF tId F v1 x1) (H:zct x0 x1=some r):Ret Tryz.prog K 155 [v0,v1] w fun v w'=>∃ (F':Frz),v = .b r∧St [] w F F' [] w':=by
 refine qa2 Tryz.func155 ?_;have hS:=St.start hA;dsimp only [zct] at H;refine qsm ?_;refine zay ?_;refine qsc ?_;refine qr (zbs Tryz.underlying118 rfl h0.ln) ?_;refine qc ?_;refine qr (zbs Tryz.underlying118 rfl h1.ln) ?_;refine qr (zah rfl rfl zeb) ?_;refine qn ?_;refine qy H (fun hc1 H=>?_) (fun hc1 H=>?_)
 ·refine qsm ?_;obtain rfl:=oi H;refine qt ?_;exact ⟨F,rfl,hS⟩
 ·refine qk ?_;refine zai (fun E wq=>zct.k1=some r ∧ ∃ (F2:Frz),E=[]∧F.le F2∧St [] w F F2 [] wq) ?_ ?_
  ·refine qsm ?_;refine zar ?_;refine zbm (fun (s:Int) E wq=>∃ (F3:Frz),E=[(0,v0),(1,v1),(5,.i .i64 s)]∧F.le F3∧St [] w F F3 [] wq) H ?_ ?_
   ·exact ⟨_,⟨F,rfl,(Frz.le.refl _),hS⟩,⟨rfl,rfl,rfl,trivial⟩⟩
   ·rintro rec5 i4 E w3 hI H
    try dsimp only at hI
    obtain ⟨F3,rfl,le3,hS3⟩:=hI;dsimp only [zct.l2] at H;refine zay ?_;refine qs ?_;refine q2 ?_;refine qr (zbs Tryz.underlying118 rfl h0.ln) ?_;refine qr (zah rfl rfl zbp) ?_;refine qn ?_;refine qy H (fun hc6 H=>?_) (fun hc6 H=>?_)
    ·refine qk ?_;refine zay ?_;refine zar ?_;refine zay ?_;obtain ⟨x7,hx7,x9,hx9,H⟩:=bd2 H;refine zaz (G:=(nowF _)) [0,1,2,3,4,5,6,7,8] rfl Ty.mixed (by kernel_rfl) (zdc _) ?_;refine q2 ?_;obtain ⟨hp11,hy11⟩:=zac hx7;obtain ⟨cs11,hr11,he11⟩:=(h0.mono le3).el hy11;obtain ⟨rfl,hle8⟩:=hr11;replace he11:=qj 32 he11;have hi11:=he11.ixd;refine qi Tryz.underlying118 Ty.zcy hi11 hp11 ?_;refine qr (zfe 0 (zao x7) Ty.zhs Ty.zcy rfl (he11.mono hS3.agree) (by omega) rfl (Nat.le_of_ble_eq_true rfl)) ?_;refine q2 ?_;obtain ⟨hp12,hy12⟩:=zac hx9;obtain ⟨cs12,hr12,he12⟩:=(h1.mono le3).el hy12;obtain ⟨rfl,hle10⟩:=hr12;replace he12:=qj 32 he12;have hi12:=he12.ixd;refine qi Tryz.underlying118 Ty.zcy hi12 hp12 ?_;refine qr (zfe 0 (zao x9) Ty.zhs Ty.zcy rfl (he12.mono hS3.agree) (by omega) rfl (Nat.le_of_ble_eq_true rfl)) ?_;refine qr (zah rfl rfl (bA_neq Ty.eqt58 rfl rfl (zwc hle8 hle10))) ?_;refine qn ?_;refine qy H (fun hc13 H=>?_) (fun hc13 H=>?_)
     ·refine qsm ?_;obtain rfl:=oi H;refine qt ?_;exact ⟨F3,rfl,hS3⟩
     ·refine zec ?_;refine zbf ?_;refine zcl ?_;refine qd ?_;refine q3 ?_;refine zbk ?_;exact zbd (wr (i4+1)) _ H ⟨F3,rfl,le3,hS3⟩ ⟨rfl,rfl,rfl,trivial⟩
    ·refine zcc _ rfl ?_;exact zbe _ ⟨H,⟨F3,rfl,le3,hS3⟩⟩ trivial
  ·rintro E w2 ⟨H,F2,rfl,le2,hS2⟩;dsimp only [zct.k1] at H;refine qsm ?_;obtain rfl:=oi H;refine qt ?_;exact ⟨F2,rfl,hS2⟩
def zbt.k1:Option Bool :=
  some true
def zbt.l2 (x0:Manifest) (x1:Manifest) (rec14:Int→Option Bool):Int→Option Bool
  | i13 =>
    if decide (i13 < (x0.parts.length:Int)) then
      bd (ix x0.parts i13) fun x16 =>
      bd (ix x1.parts i13) fun x18 =>
      bd (only (!((!(x16.path == x18.path))||decide (x16.size≠x18.size))) (zct x16.ids x18.ids) false) fun r27 =>
      if (((!(x16.path == x18.path))||decide (x16.size≠x18.size))||(!r27)) then
        some false
      else
        rec14 (wr (i13+1))
    else
      zbt.k1
def zbt (x0:Manifest) (x1:Manifest):Option Bool :=
  if ((!(x0.name == x1.name))||decide ((x0.parts.length:Int)≠(x1.parts.length:Int))) then
    some false
  else
    loop (zbt.l2 x0 x1) 0
theorem znj {x0:Manifest} {x1:Manifest} {r:Bool} {v0_0:Val} {v1_0:Val} (hA:Gd F w) (h0_0:SlF Part.t F v0_0 x0.parts) (h1_0:SlF Part.t F v1_0 x1.parts) (H:zbt x0 x1=some r):Ret Tryz.prog K 108 [.agg (Manifest.cells x0 v0_0),.agg (Manifest.cells x1 v1_0)] w fun v w'=>∃ (F':Frz),v = .b r∧St [] w F F' [] w':=by
 refine qa2 Tryz.func108 ?_;have hS:=St.start hA;dsimp only [zbt] at H;refine qs ?_;refine xm (E_bx (cs:=[.s x0.name,v0_0]) rfl rfl (by simp only [List.all_cons,List.all_nil,List.all_append,h0_0.ln.one];rfl) hS) ?_;rintro _ w1 ⟨g1,rfl,hS1⟩;refine xm (E_bx (cs:=[.s x1.name,v1_0]) rfl rfl (by simp only [List.all_cons,List.all_nil,List.all_append,h1_0.ln.one];rfl) hS1) ?_;rintro _ w2 ⟨g2,rfl,hS2⟩;refine qm ?_;refine zay ?_;refine qs ?_;refine qf Ty.zjo ?_;refine qb 1 Ty.zkp hS2 ?_;refine qf Ty.zjo ?_;refine qb 0 Ty.zkp hS2 ?_;refine qr (zah rfl rfl bS_neq) ?_;refine qc ?_;refine W_gs (v:=pl g1 (0+1)) rfl rfl rfl rfl (fun ⟨hb3,_⟩=>?_) ?_
 ·rw [hb3];exact (qf Ty.zee ·)
 refine W_gs (v:=v0_0) rfl rfl rfl rfl (fun ⟨hb4,_⟩=>?_) ?_
 ·rw [hb4];exact (qb 1 Ty.zjs hS2 ·)
 refine W_gs (v:=.i .i64 (x0.parts.length:Int)) rfl rfl rfl rfl (fun ⟨hb5,_⟩=>?_) ?_
 ·rw [hb5];exact (qr (zbs Tryz.underlying41 rfl h0_0.ln) ·)
 refine W_gs (v:=pl g2 (0+1)) rfl rfl rfl rfl (fun ⟨hb6,_⟩=>?_) ?_
 ·rw [hb6];exact (qf Ty.zee ·)
 refine W_gs (v:=v1_0) rfl rfl rfl rfl (fun ⟨hb7,_⟩=>?_) ?_
 ·rw [hb7];exact (qb 0 Ty.zjs hS2 ·)
 refine W_gs (v:=.i .i64 (x1.parts.length:Int)) rfl rfl rfl rfl (fun ⟨hb8,_⟩=>?_) ?_
 ·rw [hb8];exact (qr (zbs Tryz.underlying41 rfl h1_0.ln) ·)
 refine W_gs (v:=.b (decide ((x0.parts.length:Int)≠(x1.parts.length:Int)))) rfl rfl rfl rfl (fun ⟨hb9,_⟩=>?_) ?_
 ·rw [hb9];exact (qr (zah rfl rfl zeb) ·)
 refine zgl rfl rfl rfl rfl rfl rfl (fun hc=>by rw [hc];rfl) ?_;refine qn ?_;refine qy H (fun hc10 H=>?_) (fun hc10 H=>?_)
 ·refine qsm ?_;obtain rfl:=oi H;refine qt ?_;exact ⟨F,rfl,hS2.pick [] (by decide)⟩
 ·refine qk ?_;refine zai (fun E wq=>zbt.k1=some r ∧ ∃ (F11:Frz),E=[]∧F.le F11∧St [] w F F11 [] wq) ?_ ?_
  ·refine qsm ?_;refine zar ?_;refine zbm (fun (s:Int) E wq=>∃ (F12:Frz),E=[(2,pl g1 0),(3,pl g2 0),(5,.i .i64 s)]∧F.le F12∧St [] w F F12 [.box g2 [.s x1.name,v1_0],.box g1 [.s x0.name,v0_0]] wq) H ?_ ?_
   ·exact ⟨_,⟨F,rfl,(Frz.le.refl _),hS2⟩,⟨rfl,rfl,rfl,trivial⟩⟩
   ·rintro rec14 i13 E w12 hI H
    try dsimp only at hI
    obtain ⟨F12,rfl,le12,hS12⟩:=hI;dsimp only [zbt.l2] at H;refine zay ?_;refine qsc ?_;refine qf Ty.zee ?_;refine qb 1 Ty.zjs hS12 ?_;refine qr (zbs Tryz.underlying41 rfl h0_0.ln) ?_;refine qr (zah rfl rfl zbp) ?_;refine qn ?_;refine qy H (fun hc15 H=>?_) (fun hc15 H=>?_)
    ·refine qk ?_;refine zay ?_;refine zar ?_;refine zay ?_;obtain ⟨x16,hx16,x18,hx18,H⟩:=bd2 H;have hb22:=hS12.boxAt 0 rfl;refine zaz (G:=(F12.hold w12 [g2])) [0,1,2,3,4,5,6,7,8,9,10,11,12,13] rfl Ty.mixed (by kernel_rfl) (HB.agree (HB.cons 0 hb22 hS12 rfl HB.nil) hS12.agree) ?_;refine qf Ty.zee ?_;refine qbq 1 Ty.zjs hS12 ?_;refine qc ?_;obtain ⟨hp23,hy23⟩:=zac hx16;obtain ⟨cs23,hr23,he23⟩:=(h0_0.mono le12).el hy23;obtain ⟨ue17_0,rfl,hue17_0⟩:=hr23;replace he23:=qj 3 he23;have hi23:=he23.ixd;refine qi Tryz.underlying41 Ty.zfn hi23 hp23 ?_;refine qq (zfe 0 (Part.cells x16 ue17_0) Ty.zsd Ty.zfn rfl (he23.mono hS12.agree) (by omega) rfl (Nat.le_of_ble_eq_true rfl)) ?_;refine qf Ty.zee ?_;refine qr (zfj Ty.zjs rfl (hb22.held (HB.cons 0 hb22 hS12 rfl HB.nil) (by simp)) rfl) ?_;refine qc ?_;obtain ⟨hp24,hy24⟩:=zac hx18;obtain ⟨cs24,hr24,he24⟩:=(h1_0.mono le12).el hy24;obtain ⟨ue19_0,rfl,hue19_0⟩:=hr24;replace he24:=qj 3 he24;have hi24:=he24.ixd;refine qi Tryz.underlying41 Ty.zfn hi24 hp24 ?_;refine qr (zfe 0 (Part.cells x18 ue19_0) Ty.zsd Ty.zfn rfl (he24.mono (Frz.le_hold _ _ _)) (by omega) rfl (Nat.le_of_ble_eq_true rfl)) ?_;refine qx (zft (cs:=[.s [],.i .i64 0,.sl none 0 (.k 0)]) Ty.zoj rfl hS12) ?_;rintro _ w20 ⟨g20,rfl,hS20⟩;refine qh 1 hb22 hS20 ?_;refine qx (zft (cs:=[.s [],.i .i64 0,.sl none 0 (.k 0)]) Ty.zoj rfl hS20) ?_;rintro _ w21 ⟨g21,rfl,hS21⟩;refine qh 2 hb22 hS21 ?_;refine qu (zea (c:=[.s x16.path,.i .i64 x16.size,ue17_0]) 1 ([.s x16.path,.i .i64 x16.size,ue17_0]) rfl rfl hS21 rfl rfl Ty.zfn (by simp only [List.all_cons,List.all_nil,List.all_append,hue17_0.ln.one];rfl) rfl rfl) ?_;rintro _ w25 hS25;refine qh 2 hb22 hS25 ?_;refine qu (zea (c:=[.s x18.path,.i .i64 x18.size,ue19_0]) 0 ([.s x18.path,.i .i64 x18.size,ue19_0]) rfl rfl hS25 rfl rfl Ty.zfn (by simp only [List.all_cons,List.all_nil,List.all_append,hue19_0.ln.one];rfl) rfl rfl) ?_;rintro _ w26 hS26;refine qh 2 hb22 hS26 ?_;refine qn ?_;obtain ⟨r27,hr27,H⟩:=zap H;refine qs ?_;refine qf Ty.zkd ?_;refine qb 1 Ty.zkp hS26 ?_;refine qf Ty.zkd ?_;refine qb 0 Ty.zkp hS26 ?_;refine qr (zah rfl rfl bS_neq) ?_;refine qc ?_;refine W_gs (v:=pl g20 (0+1)) rfl rfl rfl rfl (fun ⟨hb28,_⟩=>?_) ?_
     ·rw [hb28];exact (qf Ty.zli ·)
     refine W_gs (v:=.i .i64 x16.size) rfl rfl rfl rfl (fun ⟨hb29,_⟩=>?_) ?_
     ·rw [hb29];exact (qb 1 Ty.zdd hS26 ·)
     refine W_gs (v:=pl g21 (0+1)) rfl rfl rfl rfl (fun ⟨hb30,_⟩=>?_) ?_
     ·rw [hb30];exact (qf Ty.zli ·)
     refine W_gs (v:=.i .i64 x18.size) rfl rfl rfl rfl (fun ⟨hb31,_⟩=>?_) ?_
     ·rw [hb31];exact (qb 0 Ty.zdd hS26 ·)
     refine W_gs (v:=.b (decide (x16.size≠x18.size))) rfl rfl rfl rfl (fun ⟨hb32,_⟩=>?_) ?_
     ·rw [hb32];exact (qr (zah rfl rfl zeb) ·)
     refine zgl rfl rfl rfl rfl rfl rfl (fun hc=>by rw [hc];rfl) ?_;refine qc ?_;refine W_gs (v:=pl g20 (0+2)) rfl rfl rfl rfl (fun ⟨hb33,_⟩=>?_) ?_
     ·rw [hb33];exact (qf Ty.zfk ·)
     refine W_gs (v:=ue17_0) rfl rfl rfl rfl (fun ⟨hb34,_⟩=>?_) ?_
     ·rw [hb34];exact (qb 1 Ty.zkt hS26 ·)
     refine W_gs (v:=pl g21 (0+2)) rfl rfl rfl rfl (fun ⟨hb35,_⟩=>?_) ?_
     ·rw [hb35];exact (qf Ty.zfk ·)
     refine W_gs (v:=ue19_0) rfl rfl rfl rfl (fun ⟨hb36,_⟩=>?_) ?_
     ·rw [hb36];exact (qb 0 Ty.zkt hS26 ·)
     obtain ⟨Q38,hQ38⟩:∃ Q:Hp→Prop,Q=fun wq=>St [] w F F12 [.box g21 [.s x18.path,.i .i64 x18.size,ue19_0],.box g20 [.s x16.path,.i .i64 x16.size,ue17_0],.box g2 [.s x1.name,v1_0],.box g1 [.s x0.name,v0_0]] wq:=⟨_,rfl⟩;refine W_gw (v:=.b r27) (Q:=Q38) (by rw [hQ38];exact hS26) rfl rfl rfl rfl (fun ⟨hb37,_⟩=>?_) ?_
     ·rw [hb37];intro hK;have hy39:=hr27;rw [zbu (by first | rfl | (rw [hb37];first | done | rfl) | simp [hb37])] at hy39;refine ql (zqz hS26.good hue17_0 hue19_0 hy39) ?_;rintro v40 w40 ⟨Fr27,rfl,hT40⟩;have hS40:=hS26.lent hT40;exact hK _ (by rw [hQ38];exact hS40)
     intro w41 hS41;rw [hQ38] at hS41;refine Nxt.now ?_;refine W_gs (v:=.b (!r27)) rfl rfl rfl rfl (fun ⟨hb42,_⟩=>?_) ?_
     ·rw [hb42];exact (qc ·)
     refine zgl rfl rfl rfl rfl rfl rfl (fun hc=>by rw [hc];rfl) ?_;refine qn ?_;refine qy H (fun hc43 H=>?_) (fun hc43 H=>?_)
     ·refine qsm ?_;obtain rfl:=oi H;refine qt ?_;exact ⟨F12,rfl,hS41.pick [] (by decide)⟩
     ·refine zec ?_;refine zbf ?_;refine zcl ?_;refine qd ?_;refine q3 ?_;refine zbk ?_;exact zbd (wr (i13+1)) _ H ⟨F12,rfl,le12,hS41.pick [2,3] (by decide)⟩ ⟨rfl,rfl,rfl,trivial⟩
    ·refine zcc _ rfl ?_;exact zbe _ ⟨H,⟨F12,rfl,le12,hS12.pick [] (by decide)⟩⟩ trivial
  ·rintro E w11 ⟨H,F11,rfl,le11,hS11⟩;dsimp only [zbt.k1] at H;refine qsm ?_;obtain rfl:=oi H;refine qt ?_;exact ⟨F11,rfl,hS11⟩
def zhe (x0:Snap) (x1:Snap):Option Bool :=
  bd (only (decide (x0.seq=x1.seq)) (zbt x0.man x1.man) false) fun r3 =>
  bd (only (decide (x0.seq=x1.seq)&&r3) (zcb x0.locs x1.locs) false) fun r4 =>
  some ((decide (x0.seq=x1.seq)&&r3)&&r4)
theorem zqj {x0:Snap} {x1:Snap} {r:Bool} {v0_0:Val} {v0_1:Val} {v1_0:Val} {v1_1:Val} (hA:Gd F w) (h0_0:SlF Part.t F v0_0 x0.man.parts) (h0_1:SlF Loc.t F v0_1 x0.locs) (h1_0:SlF Part.t F v1_0 x1.man.parts) (h1_1:SlF Loc.t F v1_1 x1.locs) (H:zhe x0 x1=some r):Ret Tryz.prog K 50 [.agg (Snap.cells x0 v0_0 v0_1),.agg (Snap.cells x1 v1_0 v1_1)] w fun v w'=>∃ (F':Frz),v = .b r∧St [] w F F' [] w':=by
 refine qa2 Tryz.func50 ?_;have hS:=St.start hA;dsimp only [zhe] at H;refine qs ?_;refine xm (E_bx (cs:=[.i .i64 x0.seq,.s x0.man.name,v0_0,v0_1]) rfl rfl (by simp only [List.all_cons,List.all_nil,List.all_append,h0_0.ln.one,h0_1.ln.one];rfl) hS) ?_;rintro _ w1 ⟨g1,rfl,hS1⟩;refine xm (E_bx (cs:=[.i .i64 x1.seq,.s x1.man.name,v1_0,v1_1]) rfl rfl (by simp only [List.all_cons,List.all_nil,List.all_append,h1_0.ln.one,h1_1.ln.one];rfl) hS1) ?_;rintro _ w2 ⟨g2,rfl,hS2⟩;refine qm ?_;obtain ⟨r3,hr3,r4,hr4,H⟩:=bd2 H;refine qs ?_;refine qf Ty.zkl ?_;refine qb 1 Ty.zdd hS2 ?_;refine qf Ty.zkl ?_;refine qb 0 Ty.zdd hS2 ?_;refine qr (zah rfl rfl zeg) ?_;refine qc ?_;refine W_gs (v:=pl g1 (0+1)) rfl rfl rfl rfl (fun ⟨hb5,_⟩=>?_) ?_
 ·rw [hb5];exact (qf Ty.zie ·)
 refine W_gs (v:=.agg (Manifest.cells x0.man v0_0)) rfl rfl rfl rfl (fun ⟨hb6,_⟩=>?_) ?_
 ·rw [hb6];exact (qr (zde 1 (Manifest.cells x0.man v0_0) Ty.zpq Ty.zgy (Nat.zero_lt_succ _) rfl hS2 rfl (fun q u h=>zdb (post:=[v0_1]) rfl h)) ·)
 refine W_gs (v:=pl g2 (0+1)) rfl rfl rfl rfl (fun ⟨hb7,_⟩=>?_) ?_
 ·rw [hb7];exact (qf Ty.zie ·)
 refine W_gs (v:=.agg (Manifest.cells x1.man v1_0)) rfl rfl rfl rfl (fun ⟨hb8,_⟩=>?_) ?_
 ·rw [hb8];exact (qr (zde 0 (Manifest.cells x1.man v1_0) Ty.zpq Ty.zgy (Nat.zero_lt_succ _) rfl hS2 rfl (fun q u h=>zdb (post:=[v1_1]) rfl h)) ·)
 obtain ⟨Q10,hQ10⟩:∃ Q:Hp→Prop,Q=fun wq=>St [] w F F [.box g2 [.i .i64 x1.seq,.s x1.man.name,v1_0,v1_1],.box g1 [.i .i64 x0.seq,.s x0.man.name,v0_0,v0_1]] wq:=⟨_,rfl⟩;refine W_gw (v:=.b r3) (Q:=Q10) (by rw [hQ10];exact hS2) rfl rfl rfl rfl (fun ⟨hb9,_⟩=>?_) ?_
 ·rw [hb9];intro hK;have hy11:=hr3;rw [zbu hb9] at hy11;refine ql (znj hS2.good h0_0 h1_0 hy11) ?_;rintro v12 w12 ⟨Fr3,rfl,hT12⟩;have hS12:=hS2.lent hT12;exact hK _ (by rw [hQ10];exact hS12)
 intro w13 hS13;rw [hQ10] at hS13;refine Nxt.now ?_;refine ziu rfl rfl rfl rfl rfl (fun hc=>by rw [hc];rfl) rfl ?_;refine qc ?_;refine W_gs (v:=pl g1 (0+3)) rfl rfl rfl rfl (fun ⟨hb14,_⟩=>?_) ?_
 ·rw [hb14];exact (qf Ty.zid ·)
 refine W_gs (v:=v0_1) rfl rfl rfl rfl (fun ⟨hb15,_⟩=>?_) ?_
 ·rw [hb15];exact (qb 1 Ty.zhh hS13 ·)
 refine W_gs (v:=pl g2 (0+3)) rfl rfl rfl rfl (fun ⟨hb16,_⟩=>?_) ?_
 ·rw [hb16];exact (qf Ty.zid ·)
 refine W_gs (v:=v1_1) rfl rfl rfl rfl (fun ⟨hb17,_⟩=>?_) ?_
 ·rw [hb17];exact (qb 0 Ty.zhh hS13 ·)
 obtain ⟨Q19,hQ19⟩:∃ Q:Hp→Prop,Q=fun wq=>St [] w F F [.box g2 [.i .i64 x1.seq,.s x1.man.name,v1_0,v1_1],.box g1 [.i .i64 x0.seq,.s x0.man.name,v0_0,v0_1]] wq:=⟨_,rfl⟩;refine W_gw (v:=.b r4) (Q:=Q19) (by rw [hQ19];exact hS13) rfl rfl rfl rfl (fun ⟨hb18,_⟩=>?_) ?_
 ·rw [hb18];intro hK;have hy20:=hr4;rw [zbu hb18] at hy20;refine ql (zio hS13.good h0_1 h1_1 hy20) ?_;rintro v21 w21 ⟨Fr4,rfl,hT21⟩;have hS21:=hS13.lent hT21;exact hK _ (by rw [hQ19];exact hS21)
 intro w22 hS22;rw [hQ19] at hS22;refine Nxt.now ?_;refine ziu rfl rfl rfl rfl rfl (fun hc=>by rw [hc];rfl) rfl ?_;refine qm ?_;obtain rfl:=oi H;refine qt ?_;exact ⟨F,rfl,hS22.pick [] (by decide)⟩
def zbc.k2:Option Bool :=
  some true
def zbc.l3 (x0:Catalog) (x1:Catalog) (rec37:Int→Option Bool):Int→Option Bool
  | i36 =>
    if decide (i36 < (x0.exps.length:Int)) then
      bd (ix x0.exps i36) fun x39 =>
      bd (ix x1.exps i36) fun x41 =>
      bd (only (!(decide (x39.seq≠x41.seq)||decide (x39.of≠x41.of))) (zcb x39.locs x41.locs) false) fun r50 =>
      if ((decide (x39.seq≠x41.seq)||decide (x39.of≠x41.of))||(!r50)) then
        some false
      else
        rec37 (wr (i36+1))
    else
      zbc.k2
def zbc.k1 (x0:Catalog) (x1:Catalog):Option Bool :=
  loop (zbc.l3 x0 x1) 0
def zbc.l4 (x0:Catalog) (x1:Catalog) (rec69:Int→Option Bool):Int→Option Bool
  | i68 =>
    if decide (i68 < (x0.snaps.length:Int)) then
      bd (ix x0.snaps i68) fun x71 =>
      bd (ix x1.snaps i68) fun x73 =>
      bd (zhe x71 x73) fun r75 =>
      if (!r75) then
        some false
      else
        rec69 (wr (i68+1))
    else
      zbc.k1 x0 x1
def zbc (x0:Catalog) (x1:Catalog):Option Bool :=
  bd (only (!(decide ((x0.snaps.length:Int)≠(x1.snaps.length:Int))||decide ((x0.exps.length:Int)≠(x1.exps.length:Int)))) (zbz x0.chunks x1.chunks) false) fun r3 =>
  bd (only (!((decide ((x0.snaps.length:Int)≠(x1.snaps.length:Int))||decide ((x0.exps.length:Int)≠(x1.exps.length:Int)))||(!r3))) (zcp x0.vols x1.vols) false) fun r4 =>
  if (((decide ((x0.snaps.length:Int)≠(x1.snaps.length:Int))||decide ((x0.exps.length:Int)≠(x1.exps.length:Int)))||(!r3))||(!r4)) then
    some false
  else
    loop (zbc.l4 x0 x1) 0
set_option maxHeartbeats 2000000 in
theorem znu {x0:Catalog} {x1:Catalog} {r:Bool} {v0_0:Val} {v0_1:Val} {v0_2:Val} {v0_3:Val} {v1_0:Val} {v1_1:Val} {v1_2:Val} {v1_3:Val} (hA:Gd F w) (h0_0:SlF Snap.t F v0_0 x0.snaps) (h0_1:SlF Chunk.t F v0_1 x0.chunks) (h0_2:SlF Exp.t F v0_2 x0.exps) (h0_3:SlF Vol.t F v0_3 x0.vols) (h1_0:SlF Snap.t F v1_0 x1.snaps) (h1_1:SlF Chunk.t F v1_1 x1.chunks) (h1_2:SlF Exp.t F v1_2 x1.exps) (h1_3:SlF Vol.t F v1_3 x1.vols) (H:zbc x0 x1=some r):Ret Tryz.prog K 13 [.agg (Catalog.cells x0 v0_0 v0_1 v0_2 v0_3),.agg (Catalog.cells x1 v1_0 v1_1 v1_2 v1_3)] w fun v w'=>∃ (F':Frz),v = .b r∧St [] w F F' [] w':=by
 refine qa2 Tryz.func13 ?_;have hS:=St.start hA;dsimp only [zbc] at H;refine qs ?_;refine xm (E_bx (cs:=[.i .i64 x0.seq,v0_0,v0_1,v0_2,v0_3]) rfl rfl (by simp only [List.all_cons,List.all_nil,List.all_append,h0_0.ln.one,h0_1.ln.one,h0_2.ln.one,h0_3.ln.one];rfl) hS) ?_;rintro _ w1 ⟨g1,rfl,hS1⟩;refine xm (E_bx (cs:=[.i .i64 x1.seq,v1_0,v1_1,v1_2,v1_3]) rfl rfl (by simp only [List.all_cons,List.all_nil,List.all_append,h1_0.ln.one,h1_1.ln.one,h1_2.ln.one,h1_3.ln.one];rfl) hS1) ?_;rintro _ w2 ⟨g2,rfl,hS2⟩;refine qm ?_;refine zay ?_;obtain ⟨r3,hr3,r4,hr4,H⟩:=bd2 H;refine qs ?_;refine qf Ty.zdi ?_;refine qb 1 Ty.zhr hS2 ?_;refine qr (zbs Tryz.underlying34 rfl h0_0.ln) ?_;refine qf Ty.zdi ?_;refine qb 0 Ty.zhr hS2 ?_;refine qr (zbs Tryz.underlying34 rfl h1_0.ln) ?_;refine qr (zah rfl rfl zeb) ?_;refine qc ?_;refine W_gs (v:=pl g1 (0+3)) rfl rfl rfl rfl (fun ⟨hb5,_⟩=>?_) ?_
 ·rw [hb5];exact (qf Ty.zef ·)
 refine W_gs (v:=v0_2) rfl rfl rfl rfl (fun ⟨hb6,_⟩=>?_) ?_
 ·rw [hb6];exact (qb 1 Ty.ziy hS2 ·)
 refine W_gs (v:=.i .i64 (x0.exps.length:Int)) rfl rfl rfl rfl (fun ⟨hb7,_⟩=>?_) ?_
 ·rw [hb7];exact (qr (zbs Tryz.underlying36 rfl h0_2.ln) ·)
 refine W_gs (v:=pl g2 (0+3)) rfl rfl rfl rfl (fun ⟨hb8,_⟩=>?_) ?_
 ·rw [hb8];exact (qf Ty.zef ·)
 refine W_gs (v:=v1_2) rfl rfl rfl rfl (fun ⟨hb9,_⟩=>?_) ?_
 ·rw [hb9];exact (qb 0 Ty.ziy hS2 ·)
 refine W_gs (v:=.i .i64 (x1.exps.length:Int)) rfl rfl rfl rfl (fun ⟨hb10,_⟩=>?_) ?_
 ·rw [hb10];exact (qr (zbs Tryz.underlying36 rfl h1_2.ln) ·)
 refine W_gs (v:=.b (decide ((x0.exps.length:Int)≠(x1.exps.length:Int)))) rfl rfl rfl rfl (fun ⟨hb11,_⟩=>?_) ?_
 ·rw [hb11];exact (qr (zah rfl rfl zeb) ·)
 refine zgl rfl rfl rfl rfl rfl rfl (fun hc=>by rw [hc];rfl) ?_;refine qc ?_;refine W_gs (v:=pl g1 (0+2)) rfl rfl rfl rfl (fun ⟨hb12,_⟩=>?_) ?_
 ·rw [hb12];exact (qf Ty.zcq ·)
 refine W_gs (v:=v0_1) rfl rfl rfl rfl (fun ⟨hb13,_⟩=>?_) ?_
 ·rw [hb13];exact (qb 1 Ty.zgd hS2 ·)
 refine W_gs (v:=pl g2 (0+2)) rfl rfl rfl rfl (fun ⟨hb14,_⟩=>?_) ?_
 ·rw [hb14];exact (qf Ty.zcq ·)
 refine W_gs (v:=v1_1) rfl rfl rfl rfl (fun ⟨hb15,_⟩=>?_) ?_
 ·rw [hb15];exact (qb 0 Ty.zgd hS2 ·)
 obtain ⟨Q17,hQ17⟩:∃ Q:Hp→Prop,Q=fun wq=>St [] w F F [.box g2 [.i .i64 x1.seq,v1_0,v1_1,v1_2,v1_3],.box g1 [.i .i64 x0.seq,v0_0,v0_1,v0_2,v0_3]] wq:=⟨_,rfl⟩;refine W_gw (v:=.b r3) (Q:=Q17) (by rw [hQ17];exact hS2) rfl rfl rfl rfl (fun ⟨hb16,_⟩=>?_) ?_
 ·rw [hb16];intro hK;have hy18:=hr3;rw [zbu (by first | rfl | (rw [hb16];first | done | rfl) | simp [hb16])] at hy18;refine ql (zoh hS2.good h0_1 h1_1 hy18) ?_;rintro v19 w19 ⟨Fr3,rfl,hT19⟩;have hS19:=hS2.lent hT19;exact hK _ (by rw [hQ17];exact hS19)
 intro w20 hS20;rw [hQ17] at hS20;refine Nxt.now ?_;refine W_gs (v:=.b (!r3)) rfl rfl rfl rfl (fun ⟨hb21,_⟩=>?_) ?_
 ·rw [hb21];exact (qc ·)
 refine zgl rfl rfl rfl rfl rfl rfl (fun hc=>by rw [hc];rfl) ?_;refine qc ?_;refine W_gs (v:=pl g1 (0+4)) rfl rfl rfl rfl (fun ⟨hb22,_⟩=>?_) ?_
 ·rw [hb22];exact (qf Ty.zkm ·)
 refine W_gs (v:=v0_3) rfl rfl rfl rfl (fun ⟨hb23,_⟩=>?_) ?_
 ·rw [hb23];exact (qb 1 Ty.zwg hS20 ·)
 refine W_gs (v:=pl g2 (0+4)) rfl rfl rfl rfl (fun ⟨hb24,_⟩=>?_) ?_
 ·rw [hb24];exact (qf Ty.zkm ·)
 refine W_gs (v:=v1_3) rfl rfl rfl rfl (fun ⟨hb25,_⟩=>?_) ?_
 ·rw [hb25];exact (qb 0 Ty.zwg hS20 ·)
 obtain ⟨Q27,hQ27⟩:∃ Q:Hp→Prop,Q=fun wq=>St [] w F F [.box g2 [.i .i64 x1.seq,v1_0,v1_1,v1_2,v1_3],.box g1 [.i .i64 x0.seq,v0_0,v0_1,v0_2,v0_3]] wq:=⟨_,rfl⟩;refine W_gw (v:=.b r4) (Q:=Q27) (by rw [hQ27];exact hS20) rfl rfl rfl rfl (fun ⟨hb26,_⟩=>?_) ?_
 ·rw [hb26];intro hK;have hy28:=hr4;rw [zbu (by first | rfl | (rw [hb26];first | done | rfl) | simp [hb26])] at hy28;refine ql (zqi hS20.good h0_3 h1_3 hy28) ?_;rintro v29 w29 ⟨Fr4,rfl,hT29⟩;have hS29:=hS20.lent hT29;exact hK _ (by rw [hQ27];exact hS29)
 intro w30 hS30;rw [hQ27] at hS30;refine Nxt.now ?_;refine W_gs (v:=.b (!r4)) rfl rfl rfl rfl (fun ⟨hb31,_⟩=>?_) ?_
 ·rw [hb31];exact (qc ·)
 refine zgl rfl rfl rfl rfl rfl rfl (fun hc=>by rw [hc];rfl) ?_;refine qn ?_;refine qy H (fun hc32 H=>?_) (fun hc32 H=>?_)
 ·refine qsm ?_;obtain rfl:=oi H;refine qt ?_;exact ⟨F,rfl,hS30.pick [] (by decide)⟩
 ·refine qk ?_;refine zai (fun E wq=>zbc.k1 x0 x1=some r ∧ ∃ (F33:Frz),E=[(2,pl g1 0),(3,pl g2 0)]∧F.le F33∧St [] w F F33 [.box g2 [.i .i64 x1.seq,v1_0,v1_1,v1_2,v1_3],.box g1 [.i .i64 x0.seq,v0_0,v0_1,v0_2,v0_3]] wq) ?_ ?_
  ·refine qsm ?_;refine zar ?_;refine zbm (fun (s:Int) E wq=>∃ (F67:Frz),E=[(2,pl g1 0),(3,pl g2 0),(5,.i .i64 s)]∧F.le F67∧St [] w F F67 [.box g2 [.i .i64 x1.seq,v1_0,v1_1,v1_2,v1_3],.box g1 [.i .i64 x0.seq,v0_0,v0_1,v0_2,v0_3]] wq) H ?_ ?_
   ·exact ⟨_,⟨F,rfl,(Frz.le.refl _),hS30⟩,⟨rfl,rfl,rfl,trivial⟩⟩
   ·rintro rec69 i68 E w67 hI H
    try dsimp only at hI
    obtain ⟨F67,rfl,le67,hS67⟩:=hI;dsimp only [zbc.l4] at H;refine zay ?_;refine qsc ?_;refine qf Ty.zdi ?_;refine qb 1 Ty.zhr hS67 ?_;refine qr (zbs Tryz.underlying34 rfl h0_0.ln) ?_;refine qr (zah rfl rfl zbp) ?_;refine qn ?_;refine qy H (fun hc70 H=>?_) (fun hc70 H=>?_)
    ·refine qk ?_;refine zay ?_;refine zar ?_;refine zay ?_;obtain ⟨x71,hx71,x73,hx73,H⟩:=bd2 H;obtain ⟨r75,hr75,H⟩:=zap H;refine zaz (G:=F67) [0,1,2,3,4,5,6,7,8,9,10,11] rfl Ty.mixed (by kernel_rfl) hS67.agree ?_;refine qf Ty.zdi ?_;refine qbq 1 Ty.zhr hS67 ?_;refine qc ?_;obtain ⟨hp76,hy76⟩:=zac hx71;obtain ⟨cs76,hr76,he76⟩:=(h0_0.mono le67).el hy76;obtain ⟨ue72_0,ue72_1,rfl,hue72_0,hue72_1⟩:=hr76;replace he76:=qj 4 he76;have hi76:=he76.ixd;refine qi Tryz.underlying34 Ty.zdl hi76 hp76 ?_;refine qq (zfe 0 (Snap.cells x71 ue72_0 ue72_1) Ty.zsx Ty.zdl rfl (he76.mono hS67.agree) (by omega) rfl (Nat.le_of_ble_eq_true rfl)) ?_;refine qf Ty.zdi ?_;refine qbq 0 Ty.zhr hS67 ?_;refine qc ?_;obtain ⟨hp77,hy77⟩:=zac hx73;obtain ⟨cs77,hr77,he77⟩:=(h1_0.mono le67).el hy77;obtain ⟨ue74_0,ue74_1,rfl,hue74_0,hue74_1⟩:=hr77;replace he77:=qj 4 he77;have hi77:=he77.ixd;refine qi Tryz.underlying34 Ty.zdl hi77 hp77 ?_;refine qq (zfe 0 (Snap.cells x73 ue74_0 ue74_1) Ty.zsx Ty.zdl rfl (he77.mono hS67.agree) (by omega) rfl (Nat.le_of_ble_eq_true rfl)) ?_;refine ql (zqj hS67.good hue72_0 hue72_1 hue74_0 hue74_1 hr75) ?_;rintro v78 w78 ⟨Fr75,rfl,hT78⟩;have hS78:=hS67.lent hT78;refine qw hS78 ?_;refine qm ?_;refine qy H (fun hc79 H=>?_) (fun hc79 H=>?_)
     ·refine qsm ?_;obtain rfl:=oi H;refine qt ?_;exact ⟨F67,rfl,hS78.pick [] (by decide)⟩
     ·refine zec ?_;refine zbf ?_;refine zcl ?_;refine qd ?_;refine q3 ?_;refine zbk ?_;exact zbd (wr (i68+1)) _ H ⟨F67,rfl,le67,hS78⟩ ⟨rfl,rfl,rfl,trivial⟩
    ·refine zcc _ rfl ?_;exact zbe _ ⟨H,⟨F67,rfl,le67,hS67⟩⟩ ⟨rfl,rfl,trivial⟩
  ·rintro E w33 ⟨H,F33,rfl,le33,hS33⟩;dsimp only [zbc.k1] at H;refine zai (fun E wq=>zbc.k2=some r ∧ ∃ (F34:Frz),E=[]∧F33.le F34∧St [] w F F34 [] wq) ?_ ?_
   ·refine qsm ?_;refine zar ?_;refine zbm (fun (s:Int) E wq=>∃ (F35:Frz),E=[(2,pl g1 0),(3,pl g2 0),(6,.i .i64 s)]∧F33.le F35∧St [] w F F35 [.box g2 [.i .i64 x1.seq,v1_0,v1_1,v1_2,v1_3],.box g1 [.i .i64 x0.seq,v0_0,v0_1,v0_2,v0_3]] wq) H ?_ ?_
    ·exact ⟨_,⟨F33,rfl,(Frz.le.refl _),hS33⟩,⟨rfl,rfl,rfl,trivial⟩⟩
    ·rintro rec37 i36 E w35 hI H
     try dsimp only at hI
     obtain ⟨F35,rfl,le35,hS35⟩:=hI;dsimp only [zbc.l3] at H;refine zay ?_;refine qsc ?_;refine qf Ty.zef ?_;refine qb 1 Ty.ziy hS35 ?_;refine qr (zbs Tryz.underlying36 rfl h0_2.ln) ?_;refine qr (zah rfl rfl zbp) ?_;refine qn ?_;refine qy H (fun hc38 H=>?_) (fun hc38 H=>?_)
     ·refine qk ?_;refine zay ?_;refine zar ?_;refine zay ?_;obtain ⟨x39,hx39,x41,hx41,H⟩:=bd2 H;have hb45:=hS35.boxAt 0 rfl;refine zaz (G:=(F35.hold w35 [g2])) [0,1,2,3,4,5,6,7,8,9,10,11,12,13] rfl Ty.mixed (by kernel_rfl) (HB.agree (HB.cons 0 hb45 hS35 rfl HB.nil) hS35.agree) ?_;refine qf Ty.zef ?_;refine qbq 1 Ty.ziy hS35 ?_;refine qc ?_;obtain ⟨hp46,hy46⟩:=zac hx39;obtain ⟨cs46,hr46,he46⟩:=(h0_2.mono (le33.trans le35)).el hy46;obtain ⟨ue40_0,rfl,hue40_0⟩:=hr46;replace he46:=qj 3 he46;have hi46:=he46.ixd;refine qi Tryz.underlying36 Ty.zfb hi46 hp46 ?_;refine qq (zfe 0 (Exp.cells x39 ue40_0) Ty.agg55 Ty.zfb rfl (he46.mono hS35.agree) (by omega) rfl (Nat.le_of_ble_eq_true rfl)) ?_;refine qf Ty.zef ?_;refine qr (zfj Ty.ziy rfl (hb45.held (HB.cons 0 hb45 hS35 rfl HB.nil) (by simp)) rfl) ?_;refine qc ?_;obtain ⟨hp47,hy47⟩:=zac hx41;obtain ⟨cs47,hr47,he47⟩:=(h1_2.mono (le33.trans le35)).el hy47;obtain ⟨ue42_0,rfl,hue42_0⟩:=hr47;replace he47:=qj 3 he47;have hi47:=he47.ixd;refine qi Tryz.underlying36 Ty.zfb hi47 hp47 ?_;refine qr (zfe 0 (Exp.cells x41 ue42_0) Ty.agg55 Ty.zfb rfl (he47.mono (Frz.le_hold _ _ _)) (by omega) rfl (Nat.le_of_ble_eq_true rfl)) ?_;refine qx (zft (cs:=[.i .i64 0,.i .i64 0,.sl none 0 (.k 0)]) Ty.zero55 rfl hS35) ?_;rintro _ w43 ⟨g43,rfl,hS43⟩;refine qh 1 hb45 hS43 ?_;refine qx (zft (cs:=[.i .i64 0,.i .i64 0,.sl none 0 (.k 0)]) Ty.zero55 rfl hS43) ?_;rintro _ w44 ⟨g44,rfl,hS44⟩;refine qh 2 hb45 hS44 ?_;refine qu (zea (c:=[.i .i64 x39.seq,.i .i64 x39.of,ue40_0]) 1 ([.i .i64 x39.seq,.i .i64 x39.of,ue40_0]) rfl rfl hS44 rfl rfl Ty.zfb (by simp only [List.all_cons,List.all_nil,List.all_append,hue40_0.ln.one];rfl) rfl rfl) ?_;rintro _ w48 hS48;refine qh 2 hb45 hS48 ?_;refine qu (zea (c:=[.i .i64 x41.seq,.i .i64 x41.of,ue42_0]) 0 ([.i .i64 x41.seq,.i .i64 x41.of,ue42_0]) rfl rfl hS48 rfl rfl Ty.zfb (by simp only [List.all_cons,List.all_nil,List.all_append,hue42_0.ln.one];rfl) rfl rfl) ?_;rintro _ w49 hS49;refine qh 2 hb45 hS49 ?_;refine qn ?_;obtain ⟨r50,hr50,H⟩:=zap H;refine qs ?_;refine qf Ty.zls ?_;refine qb 1 Ty.zdd hS49 ?_;refine qf Ty.zls ?_;refine qb 0 Ty.zdd hS49 ?_;refine qr (zah rfl rfl zeb) ?_;refine qc ?_;refine W_gs (v:=pl g43 (0+1)) rfl rfl rfl rfl (fun ⟨hb51,_⟩=>?_) ?_
      ·rw [hb51];exact (qf Ty.zpa ·)
      refine W_gs (v:=.i .i64 x39.of) rfl rfl rfl rfl (fun ⟨hb52,_⟩=>?_) ?_
      ·rw [hb52];exact (qb 1 Ty.zdd hS49 ·)
      refine W_gs (v:=pl g44 (0+1)) rfl rfl rfl rfl (fun ⟨hb53,_⟩=>?_) ?_
      ·rw [hb53];exact (qf Ty.zpa ·)
      refine W_gs (v:=.i .i64 x41.of) rfl rfl rfl rfl (fun ⟨hb54,_⟩=>?_) ?_
      ·rw [hb54];exact (qb 0 Ty.zdd hS49 ·)
      refine W_gs (v:=.b (decide (x39.of≠x41.of))) rfl rfl rfl rfl (fun ⟨hb55,_⟩=>?_) ?_
      ·rw [hb55];exact (qr (zah rfl rfl zeb) ·)
      refine zgl rfl rfl rfl rfl rfl rfl (fun hc=>by rw [hc];rfl) ?_;refine qc ?_;refine W_gs (v:=pl g43 (0+2)) rfl rfl rfl rfl (fun ⟨hb56,_⟩=>?_) ?_
      ·rw [hb56];exact (qf Ty.zit ·)
      refine W_gs (v:=ue40_0) rfl rfl rfl rfl (fun ⟨hb57,_⟩=>?_) ?_
      ·rw [hb57];exact (qb 1 Ty.zhh hS49 ·)
      refine W_gs (v:=pl g44 (0+2)) rfl rfl rfl rfl (fun ⟨hb58,_⟩=>?_) ?_
      ·rw [hb58];exact (qf Ty.zit ·)
      refine W_gs (v:=ue42_0) rfl rfl rfl rfl (fun ⟨hb59,_⟩=>?_) ?_
      ·rw [hb59];exact (qb 0 Ty.zhh hS49 ·)
      obtain ⟨Q61,hQ61⟩:∃ Q:Hp→Prop,Q=fun wq=>St [] w F F35 [.box g44 [.i .i64 x41.seq,.i .i64 x41.of,ue42_0],.box g43 [.i .i64 x39.seq,.i .i64 x39.of,ue40_0],.box g2 [.i .i64 x1.seq,v1_0,v1_1,v1_2,v1_3],.box g1 [.i .i64 x0.seq,v0_0,v0_1,v0_2,v0_3]] wq:=⟨_,rfl⟩;refine W_gw (v:=.b r50) (Q:=Q61) (by rw [hQ61];exact hS49) rfl rfl rfl rfl (fun ⟨hb60,_⟩=>?_) ?_
      ·rw [hb60];intro hK;have hy62:=hr50;rw [zbu (by first | rfl | (rw [hb60];first | done | rfl) | simp [hb60])] at hy62;refine ql (zio hS49.good hue40_0 hue42_0 hy62) ?_;rintro v63 w63 ⟨Fr50,rfl,hT63⟩;have hS63:=hS49.lent hT63;exact hK _ (by rw [hQ61];exact hS63)
      intro w64 hS64;rw [hQ61] at hS64;refine Nxt.now ?_;refine W_gs (v:=.b (!r50)) rfl rfl rfl rfl (fun ⟨hb65,_⟩=>?_) ?_
      ·rw [hb65];exact (qc ·)
      refine zgl rfl rfl rfl rfl rfl rfl (fun hc=>by rw [hc];rfl) ?_;refine qn ?_;refine qy H (fun hc66 H=>?_) (fun hc66 H=>?_)
      ·refine qsm ?_;obtain rfl:=oi H;refine qt ?_;exact ⟨F35,rfl,hS64.pick [] (by decide)⟩
      ·refine zec ?_;refine zbf ?_;refine zcl ?_;refine qd ?_;refine q3 ?_;refine zbk ?_;exact zbd (wr (i36+1)) _ H ⟨F35,rfl,le35,hS64.pick [2,3] (by decide)⟩ ⟨rfl,rfl,rfl,trivial⟩
     ·refine zcc _ rfl ?_;exact zbe _ ⟨H,⟨F35,rfl,le35,hS35.pick [] (by decide)⟩⟩ trivial
   ·rintro E w34 ⟨H,F34,rfl,le34,hS34⟩;dsimp only [zbc.k2] at H;refine qsm ?_;obtain rfl:=oi H;refine qt ?_;exact ⟨F34,rfl,hS34⟩
def zca.k1:Option Bool :=
  some false
def zca.l2 (x0:List File) (rec5:Int→Option Bool):Int→Option Bool
  | i4 =>
    if decide (i4 < (x0.length:Int)) then
      bd (ix x0 i4) fun x7 =>
      if decide (200 < (x7.data.length:Int)) then
        some true
      else
        rec5 (wr (i4+1))
    else
      zca.k1
def zca (x0:List File):Option Bool :=
  if decide (6 < (x0.length:Int)) then
    some true
  else
    loop (zca.l2 x0) 0
theorem zko {x0:List File} {r:Bool} {v0:Val} (hA:Gd F w) (h0:SlF File.t F v0 x0) (H:zca x0=some r):Ret Tryz.prog K 39 [v0] w fun v w'=>∃ (F':Frz),v = .b r∧St [] w F F' [] w':=by
 refine qa1 Tryz.func39 ?_;have hS:=St.start hA;dsimp only [zca] at H;refine qsm ?_;refine zay ?_;refine qsc ?_;refine qr (zbs Tryz.underlying22 rfl h0.ln) ?_;refine qr (zah rfl rfl zgn) ?_;refine qn ?_;refine qy H (fun hc1 H=>?_) (fun hc1 H=>?_)
 ·refine qsm ?_;obtain rfl:=oi H;refine qt ?_;exact ⟨F,rfl,hS⟩
 ·refine qk ?_;refine zai (fun E wq=>zca.k1=some r ∧ ∃ (F2:Frz),E=[]∧F.le F2∧St [] w F F2 [] wq) ?_ ?_
  ·refine qsm ?_;refine zar ?_;refine zbm (fun (s:Int) E wq=>∃ (F3:Frz),E=[(0,v0),(3,.i .i64 s)]∧F.le F3∧St [] w F F3 [] wq) H ?_ ?_
   ·exact ⟨_,⟨F,rfl,(Frz.le.refl _),hS⟩,⟨rfl,rfl,trivial⟩⟩
   ·rintro rec5 i4 E w3 hI H
    try dsimp only at hI
    obtain ⟨F3,rfl,le3,hS3⟩:=hI;dsimp only [zca.l2] at H;refine zay ?_;refine qs ?_;refine q2 ?_;refine qr (zbs Tryz.underlying22 rfl h0.ln) ?_;refine qr (zah rfl rfl zbp) ?_;refine qn ?_;refine qy H (fun hc6 H=>?_) (fun hc6 H=>?_)
    ·refine qk ?_;refine zay ?_;refine zar ?_;obtain ⟨x7,hx7,H⟩:=zap H;refine qs ?_;refine q2 ?_;obtain ⟨hp9,hy9⟩:=zac hx7;obtain ⟨cs9,hr9,he9⟩:=(h0.mono le3).el hy9;obtain ⟨ue8_0,rfl,hue8_0⟩:=hr9;replace he9:=qj 2 he9;have hi9:=he9.ixd;refine qi Tryz.underlying22 Ty.zin hi9 hp9 ?_;refine qr (zfm 1 Ty.zqa rfl hi9) ?_;refine qr (zfs 1 Ty.zhg rfl (he9.mono hS3.agree) (by omega) rfl) ?_;refine qr (zbs Tryz.underlying47 rfl hue8_0.ln) ?_;refine qr (zah rfl rfl zgn) ?_;refine qn ?_;refine qy H (fun hc10 H=>?_) (fun hc10 H=>?_)
     ·refine qsm ?_;obtain rfl:=oi H;refine qt ?_;exact ⟨F3,rfl,hS3⟩
     ·refine zec ?_;refine zbf ?_;refine zcl ?_;refine qd ?_;refine q3 ?_;refine zbk ?_;exact zbd (wr (i4+1)) _ H ⟨F3,rfl,le3,hS3⟩ ⟨rfl,rfl,trivial⟩
    ·refine zcc _ rfl ?_;exact zbe _ ⟨H,⟨F3,rfl,le3,hS3⟩⟩ trivial
  ·rintro E w2 ⟨H,F2,rfl,le2,hS2⟩;dsimp only [zca.k1] at H;refine qsm ?_;obtain rfl:=oi H;refine qt ?_;exact ⟨F2,rfl,hS2⟩
def zby.k1 (x0:List UInt8):Option Bool :=
  some (decide (1≤(x0.length:Int))&&decide ((x0.length:Int)≤20))
def zby.l2 (x0:List UInt8) (rec7:Int→Option Bool):Int→Option Bool
  | i6 =>
    if decide (i6 < (x0.length:Int)) then
      bd (ix x0 i6) fun x9 =>
      bd (only (!decide ((x9.toNat:Int) < 33)) (ix x0 i6) 0) fun x10 =>
      if (decide ((x9.toNat:Int) < 33)||decide (126 < (x10.toNat:Int))) then
        some false
      else
        rec7 (wr (i6+1))
    else
      zby.k1 x0
def zby (x0:List UInt8):Option Bool :=
  loop (zby.l2 x0) 0
theorem zif {x0:List UInt8} {r:Bool} (hA:Gd F w) (H:zby x0=some r):Ret Tryz.prog K 40 [.s x0] w fun v w'=>∃ (F':Frz),v = .b r∧St [] w F F' [] w':=by
 refine qa1 Tryz.func40 ?_;have hS:=St.start hA;dsimp only [zby] at H;refine qsm ?_;refine zai (fun E wq=>zby.k1 x0=some r ∧ ∃ (F1:Frz),E=[(0,.s x0)]∧F.le F1∧St [] w F F1 [] wq) ?_ ?_
 ·refine qsm ?_;refine zar ?_;refine zbm (fun (s:Int) E wq=>∃ (F5:Frz),E=[(0,.s x0),(3,.i .i64 s)]∧F.le F5∧St [] w F F5 [] wq) H ?_ ?_
  ·exact ⟨_,⟨F,rfl,(Frz.le.refl _),hS⟩,⟨rfl,rfl,trivial⟩⟩
  ·rintro rec7 i6 E w5 hI H
   try dsimp only at hI
   obtain ⟨F5,rfl,le5,hS5⟩:=hI;dsimp only [zby.l2] at H;refine zay ?_;refine qs ?_;refine q2 ?_;refine qr (ztj Tryz.underlying9 rfl) ?_;refine qr (zah rfl rfl zbp) ?_;refine qn ?_;refine qy H (fun hc8 H=>?_) (fun hc8 H=>?_)
   ·refine qk ?_;refine zay ?_;refine zar ?_;obtain ⟨x9,hx9,x10,hx10,H⟩:=bd2 H;refine qs ?_;refine q2 ?_;obtain ⟨hp11,hy11⟩:=zac hx9;refine qr (O_ixS Tryz.underlying9 rfl rfl hp11 hy11) ?_;refine qr (zah rfl rfl zbp) ?_;refine qc ?_;refine W_gs (v:=.s x0) rfl rfl rfl rfl (fun ⟨hb12,_⟩=>?_) ?_
    ·rw [hb12];exact (qc ·)
    refine W_gs (v:=.i .i64 i6) rfl rfl rfl rfl (fun ⟨hb13,_⟩=>?_) ?_
    ·rw [hb13];exact (qc ·)
    refine W_gs (v:=.i .u8 (x10.toNat:Int)) rfl rfl rfl rfl (fun ⟨hb14,_⟩=>?_) ?_
    ·rw [hb14];intro hK;have hy16:=hx10;rw [zbu (by first | rfl | (rw [hb14];first | done | rfl) | simp [hb14])] at hy16;obtain ⟨hp15,hy15⟩:=zac hy16;refine qr (O_ixS Tryz.underlying9 rfl rfl hp15 hy15) ?_;exact hK
    refine W_gs (v:=.b (decide (126 < (x10.toNat:Int)))) rfl rfl rfl rfl (fun ⟨hb17,_⟩=>?_) ?_
    ·rw [hb17];exact (qr (zah rfl rfl zgn) ·)
    refine zgl rfl rfl rfl rfl rfl rfl (fun hc=>by rw [hc];rfl) ?_;refine qn ?_;refine qy H (fun hc18 H=>?_) (fun hc18 H=>?_)
    ·refine qsm ?_;obtain rfl:=oi H;refine qt ?_;exact ⟨F5,rfl,hS5⟩
    ·refine zec ?_;refine zbf ?_;refine zcl ?_;refine qd ?_;refine q3 ?_;refine zbk ?_;exact zbd (wr (i6+1)) _ H ⟨F5,rfl,le5,hS5⟩ ⟨rfl,rfl,trivial⟩
   ·refine zcc _ rfl ?_;exact zbe _ ⟨H,⟨F5,rfl,le5,hS5⟩⟩ ⟨rfl,trivial⟩
 ·rintro E w1 ⟨H,F1,rfl,le1,hS1⟩;dsimp only [zby.k1] at H;refine qsc ?_;refine qr (ztj Tryz.underlying9 rfl) ?_;refine qr (zah rfl rfl znk) ?_;refine qc ?_;refine W_gs (v:=.s x0) rfl rfl rfl rfl (fun ⟨hb2,_⟩=>?_) ?_
  ·rw [hb2];exact (qc ·)
  refine W_gs (v:=.i .i64 (x0.length:Int)) rfl rfl rfl rfl (fun ⟨hb3,_⟩=>?_) ?_
  ·rw [hb3];exact (qr (ztj Tryz.underlying9 rfl) ·)
  refine W_gs (v:=.b (decide ((x0.length:Int)≤20))) rfl rfl rfl rfl (fun ⟨hb4,_⟩=>?_) ?_
  ·rw [hb4];exact (qr (zah rfl rfl zwl) ·)
  refine ziu rfl rfl rfl rfl rfl (fun hc=>by rw [hc];rfl) rfl ?_;refine qm ?_;obtain rfl:=oi H;refine qt ?_;exact ⟨F1,rfl,hS1⟩
def zfl (x0:List UInt8):Option (List UInt8) :=
  bd (app (α:=UInt8) [] x0) fun l1 =>
  some l1
theorem zky {x0:List UInt8} {r:(List UInt8)} {v0:Val} (hA:Gd F w) (h0:SlF tB F v0 x0) (H:zfl x0=some r):Ret Tryz.prog K 16 [v0] w fun v w'=>∃ (F':Frz) (q0:Val),v=q0∧St [] w F F' [.row tB q0 (r)] w':=by
 refine qa1 Tryz.func16 ?_;have hS:=St.start hA;dsimp only [zfl] at H;refine qsm ?_;refine qsm ?_;obtain ⟨l1,hl1,H⟩:=zap H;refine qs ?_;refine q2 ?_;have hS3:=hS.nilRow tB;refine xm (zgg (t:=tB) 0 Tryz.underlying47 Ty.row5 Ty.zk47 rfl rfl hS3 rfl (h0.src hS3.agree) hl1) ?_;rintro v2 w2 hS2;refine qm ?_;obtain rfl:=oi H;refine qt ?_;exact ⟨F,v2,rfl,hS2⟩
def zak.k2 (l8:List File):Option ((List File) × Int) :=
  some (l8,0)
def zak.k4 (i15:Int) (rec16:((List File) × Int)→Option ((List File) × Int)) (l19:List File):Option ((List File) × Int) :=
  rec16 (l19,wr (i15+1))
def zak.k5 (x0:List File) (l12:List File) (i15:Int) (rec16:((List File) × Int)→Option ((List File) × Int)) (i23:Int):Option ((List File) × Int) :=
  bd (only (decide (i23 < (l12.length:Int))) (ix l12 i23) (File.mk [] [])) fun x24 =>
  bd (only (decide (i23 < (l12.length:Int))) (ix x0 i15) (File.mk [] [])) fun x26 =>
  if (decide (i23 < (l12.length:Int))&&(x24.path == x26.path)) then
    some ([],9)
  else
    bd (cut (α:=File) l12 0 i23) fun l37 =>
    bd (ix x0 i15) fun x39 =>
    bd (app (α:=File) [] l37) fun l41 =>
    bd (zfl x39.data) fun r43 =>
    bd (app (α:=File) l41 [(File.mk x39.path r43)]) fun l45 =>
    bd (cut (α:=File) l12 i23 (l12.length:Int)) fun l52 =>
    bd (app (α:=File) l45 l52) fun l54 =>
    zak.k4 i15 rec16 l54
def zak.l6 (x0:List File) (l12:List File) (i15:Int) (rec16:((List File) × Int)→Option ((List File) × Int)) (rec58:Int→Option ((List File) × Int)):Int→Option ((List File) × Int)
  | i57 =>
    bd (only (decide (i57 < (l12.length:Int))) (ix l12 i57) (File.mk [] [])) fun x59 =>
    bd (only (decide (i57 < (l12.length:Int))) (ix x0 i15) (File.mk [] [])) fun x61 =>
    if (decide (i57 < (l12.length:Int))&&(sLt x59.path x61.path)) then
      rec58 (wr (i57+1))
    else
      zak.k5 x0 l12 i15 rec16 i57
def zak.l3 (x0:List File) (rec16:((List File) × Int)→Option ((List File) × Int)):((List File) × Int)→Option ((List File) × Int)
  | (l12,i15) =>
    if decide (i15 < (x0.length:Int)) then
      loop (zak.l6 x0 l12 i15 rec16) 0
    else
      zak.k2 l12
def zak.k1 (x0:List File):Option ((List File) × Int) :=
  loop (zak.l3 x0) ([],0)
def zak.l7 (x0:List File) (rec74:Int→Option ((List File) × Int)):Int→Option ((List File) × Int)
  | i73 =>
    if decide (i73 < (x0.length:Int)) then
      bd (ix x0 i73) fun x76 =>
      bd (zby x76.path) fun r78 =>
      if (!r78) then
        some ([],1)
      else
        rec74 (wr (i73+1))
    else
      zak.k1 x0
def zak (x0:List File):Option ((List File) × Int) :=
  bd (zca x0) fun r1 =>
  if r1 then
    some ([],2)
  else
    loop (zak.l7 x0) 0
set_option maxHeartbeats 2000000 in
theorem zpj {x0:List File} {r:(List File) × Int} {v0:Val} (hA:Gd F w) (h0:SlF File.t F v0 x0) (H:zak x0=some r):Ret Tryz.prog K 9 [v0] w fun v w'=>∃ (F':Frz) (q0:Val),v = .tup [q0,.i .i64 r.2]∧St [] w F F' [.row File.t q0 (r.1)] w':=by
 refine qa1 Tryz.func9 ?_;have hS:=St.start hA;dsimp only [zak] at H;refine qsc ?_;refine qm ?_;refine zay ?_;obtain ⟨r1,hr1,H⟩:=zap H;refine qsc ?_;refine lm (zko hS.good h0 hr1) ?_;rintro v2 w2 ⟨Fr1,rfl,hT2⟩;have hS2:=hS.lent hT2;refine qn ?_;refine qy H (fun hc3 H=>?_) (fun hc3 H=>?_)
 ·refine qsc ?_;refine qm ?_;have hS5:=hS2.nilRow File.t;obtain rfl:=oi H;refine qt ?_;exact ⟨F,(.sl none 0 (.k 0)),rfl,hS5⟩
 ·refine qk ?_;refine zai (fun E wq=>zak.k1 x0=some r ∧ ∃ (F6:Frz),E=[(0,v0)]∧F.le F6∧St [] w F F6 [] wq) ?_ ?_
  ·refine qsm ?_;refine zar ?_;refine zbm (fun (s:Int) E wq=>∃ (F72:Frz),E=[(0,v0),(4,.i .i64 s)]∧F.le F72∧St [] w F F72 [] wq) H ?_ ?_
   ·exact ⟨_,⟨F,rfl,(Frz.le.refl _),hS2⟩,⟨rfl,rfl,trivial⟩⟩
   ·rintro rec74 i73 E w72 hI H
    try dsimp only at hI
    obtain ⟨F72,rfl,le72,hS72⟩:=hI;dsimp only [zak.l7] at H;refine zay ?_;refine qs ?_;refine q2 ?_;refine qr (zbs Tryz.underlying22 rfl h0.ln) ?_;refine qr (zah rfl rfl zbp) ?_;refine qn ?_;refine qy H (fun hc75 H=>?_) (fun hc75 H=>?_)
    ·refine qk ?_;refine zay ?_;refine zar ?_;obtain ⟨x76,hx76,r78,hr78,H⟩:=bd2 H;refine qs ?_;refine q2 ?_;obtain ⟨hp79,hy79⟩:=zac hx76;obtain ⟨cs79,hr79,he79⟩:=(h0.mono le72).el hy79;obtain ⟨ue77_0,rfl,hue77_0⟩:=hr79;replace he79:=qj 2 he79;have hi79:=he79.ixd;refine qi Tryz.underlying22 Ty.zin hi79 hp79 ?_;refine qr (zfm 0 Ty.zhu rfl hi79) ?_;refine qr (zfs 0 Ty.zkp rfl (he79.mono hS72.agree) (by omega) rfl) ?_;refine lm (zif hS72.good hr78) ?_;rintro v80 w80 ⟨Fr78,rfl,hT80⟩;have hS80:=hS72.lent hT80;refine qm ?_;refine qy H (fun hc81 H=>?_) (fun hc81 H=>?_)
     ·refine qsc ?_;refine qm ?_;have hS83:=hS80.nilRow File.t;obtain rfl:=oi H;refine qt ?_;exact ⟨F72,(.sl none 0 (.k 0)),rfl,hS83⟩
     ·refine zec ?_;refine zbf ?_;refine zcl ?_;refine qd ?_;refine q3 ?_;refine zbk ?_;exact zbd (wr (i73+1)) _ H ⟨F72,rfl,le72,hS80⟩ ⟨rfl,rfl,trivial⟩
    ·refine zcc _ rfl ?_;exact zbe _ ⟨H,⟨F72,rfl,le72,hS72⟩⟩ ⟨rfl,trivial⟩
  ·rintro E w6 ⟨H,F6,rfl,le6,hS6⟩;dsimp only [zak.k1] at H;refine qsm ?_;refine zai (fun E wq=>∃ l8:List File,zak.k2 l8=some r ∧ ∃ (F7:Frz) (u9:Val),E=[(5,u9)]∧F6.le F7∧St [] w F F7 [.row File.t u9 l8] wq) ?_ ?_
   ·refine qsm ?_;refine zar ?_;refine zbm (fun (s:(List File) × Int) E wq=>∃ (F11:Frz) (u13:Val),E=[(0,v0),(5,u13),(6,.i .i64 s.2)]∧F6.le F11∧St [] w F F11 [.row File.t u13 s.1] wq) H ?_ ?_
    ·have hS71:=hS6.nilRow File.t;exact ⟨_,⟨F6,(.sl none 0 (.k 0)),rfl,(Frz.le.refl _),hS71⟩,⟨rfl,rfl,rfl,trivial⟩⟩
    ·rintro rec16 ⟨l12,i15⟩ E w11 hI H
     try dsimp only at hI
     obtain ⟨F11,u13,rfl,le11,hS11⟩:=hI;dsimp only [zak.l3] at H;refine zay ?_;refine qs ?_;refine q2 ?_;refine qr (zbs Tryz.underlying22 rfl h0.ln) ?_;refine qr (zah rfl rfl zbp) ?_;refine qn ?_;refine qy H (fun hc17 H=>?_) (fun hc17 H=>?_)
     ·refine qk ?_;refine zai (fun E wq=>∃ l19:List File,zak.k4 i15 rec16 l19=some r ∧ ∃ (F18:Frz) (u20:Val),E=[(0,v0),(5,u20),(6,.i .i64 i15)]∧F11.le F18∧St [] w F F18 [.row File.t u20 l19] wq) ?_ ?_
      ·refine zar ?_;refine qsm ?_;refine zai (fun E wq=>∃ i23:Int,zak.k5 x0 l12 i15 rec16 i23=some r ∧ ∃ (F22:Frz),E=[(0,v0),(5,u13),(6,.i .i64 i15),(7,.i .i64 i23)]∧F11.le F22∧St [] w F F22 [.row File.t u13 l12] wq) ?_ ?_
       ·refine zar ?_;refine zbm (fun (s:Int) E wq=>∃ (F56:Frz),E=[(0,v0),(5,u13),(6,.i .i64 i15),(7,.i .i64 s)]∧F11.le F56∧St [] w F F56 [.row File.t u13 l12] wq) H ?_ ?_
        ·exact ⟨_,⟨F11,rfl,(Frz.le.refl _),hS11⟩,⟨rfl,rfl,rfl,rfl,trivial⟩⟩
        ·rintro rec58 i57 E w56 hI H
         try dsimp only at hI
         obtain ⟨F56,rfl,le56,hS56⟩:=hI;dsimp only [zak.l6] at H;refine zay ?_;refine zay ?_;obtain ⟨x59,hx59,x61,hx61,H⟩:=bd2 H;refine zsh (fun E wq=>E=[(0,v0),(5,u13),(6,.i .i64 i15),(7,.i .i64 i57),(46,.b (decide (i57 < (l12.length:Int))&&(sLt x59.path x61.path)))] ∧ ∃ F63:Frz,F56.le F63∧St [] w F F63 [.row File.t u13 l12] wq) ?_ ?_
         ·
          rcases Bool.eq_false_or_eq_true (decide (i57 < (l12.length:Int))) with hb64 | hb64
          ·refine zaz (G:=(nowF _)) [0,1,2,3,4,5,6,7,8,9,10,11,12,13,14,15,16] rfl Ty.mixed (by kernel_rfl) (zdc _) ?_;refine q2 ?_;refine qr (zbs Tryz.underlying22 rfl (hS56.rowLn (k:=0) rfl)) ?_;refine qr (zah rfl rfl zbp) ?_;refine qc ?_;refine qvb 34 hb64 ?_;refine q2 ?_;have hy65:=hx59;rw [zbu hb64] at hy65;obtain ⟨hp66,hy66⟩:=zac hy65;obtain ⟨cs66,hr66,he66⟩:=hS56.rowAt (k:=0) rfl hy66;obtain ⟨ue60_0,rfl,hue60_0⟩:=hr66;replace he66:=qj 2 he66;have hi66:=he66.ixd;refine qi Tryz.underlying22 Ty.zin hi66 hp66 ?_;refine qr (zfm 0 Ty.zhu rfl hi66) ?_;refine qr (zfs 0 Ty.zkp rfl he66 (by omega) rfl) ?_;refine q2 ?_;have hy67:=hx61;rw [zbu hb64] at hy67;obtain ⟨hp68,hy68⟩:=zac hy67;obtain ⟨cs68,hr68,he68⟩:=(h0.mono ((le6.trans le11).trans le56)).el hy68;obtain ⟨ue62_0,rfl,hue62_0⟩:=hr68;replace he68:=qj 2 he68;have hi68:=he68.ixd;refine qi Tryz.underlying22 Ty.zin hi68 hp68 ?_;refine qr (zfm 0 Ty.zhu rfl hi68) ?_;refine qr (zfs 0 Ty.zkp rfl (he68.mono hS56.agree) (by omega) rfl) ?_;refine qr (zah rfl rfl bS_lss) ?_;refine qc ?_;refine zbk ?_;exact zbe _ ⟨rfl,F56,(Frz.le.refl _),hS56⟩ ⟨rfl,rfl,rfl,rfl,(zdw rfl (by first | rfl | (rw [hb64];first | done | rfl) | simp [hb64])),trivial⟩
          ·refine zaz (G:=(nowF _)) [0,1,2,3,4,5,6,7,8,9,10,11,12,13,14,15,16] rfl Ty.mixed (by kernel_rfl) (zdc _) ?_;refine q2 ?_;refine qr (zbs Tryz.underlying22 rfl (hS56.rowLn (k:=0) rfl)) ?_;refine qr (zah rfl rfl zbp) ?_;refine qc ?_;refine qvb 34 hb64 ?_;refine qz2 ?_;refine qz2 ?_;refine qz2 ?_;refine qz2 ?_;refine qz2 ?_;refine qz ?_;refine qc ?_;refine zbk ?_;exact zbe _ ⟨rfl,F56,(Frz.le.refl _),hS56⟩ ⟨rfl,rfl,rfl,rfl,(zdw rfl (by first | rfl | (rw [hb64];first | done | rfl) | simp [hb64])),trivial⟩
         rintro E w63 ⟨rfl,F63,le63,hS63⟩;refine zcl ?_;refine qy H (fun hc69 H=>?_) (fun hc69 H=>?_)
         ·refine qk ?_;refine zar ?_;refine qd ?_;refine q3 ?_;refine zbk ?_;refine zbf ?_;exact zbd (wr (i57+1)) _ H ⟨F63,rfl,(le56.trans le63),hS63⟩ ⟨rfl,rfl,rfl,rfl,trivial⟩
         ·refine zcc _ rfl ?_;exact zbe _ ⟨i57,H,⟨F63,rfl,(le56.trans le63),hS63⟩⟩ ⟨rfl,rfl,rfl,rfl,trivial⟩
       ·rintro E w22 ⟨i23,H,F22,rfl,le22,hS22⟩;dsimp only [zak.k5] at H;refine zay ?_;refine zay ?_;obtain ⟨x24,hx24,x26,hx26,H⟩:=bd2 H;refine zsh (fun E wq=>E=[(0,v0),(5,u13),(6,.i .i64 i15),(7,.i .i64 i23),(65,.b (decide (i23 < (l12.length:Int))&&(x24.path == x26.path)))] ∧ ∃ F28:Frz,F22.le F28∧St [] w F F28 [.row File.t u13 l12] wq) ?_ ?_
        ·
         rcases Bool.eq_false_or_eq_true (decide (i23 < (l12.length:Int))) with hb29 | hb29
         ·refine zaz (G:=(nowF _)) [0,1,2,3,4,5,6,7,8,9,10,11,12,13,14,15,16] rfl Ty.mixed (by kernel_rfl) (zdc _) ?_;refine q2 ?_;refine qr (zbs Tryz.underlying22 rfl (hS22.rowLn (k:=0) rfl)) ?_;refine qr (zah rfl rfl zbp) ?_;refine qc ?_;refine qvb 53 hb29 ?_;refine q2 ?_;have hy30:=hx24;rw [zbu hb29] at hy30;obtain ⟨hp31,hy31⟩:=zac hy30;obtain ⟨cs31,hr31,he31⟩:=hS22.rowAt (k:=0) rfl hy31;obtain ⟨ue25_0,rfl,hue25_0⟩:=hr31;replace he31:=qj 2 he31;have hi31:=he31.ixd;refine qi Tryz.underlying22 Ty.zin hi31 hp31 ?_;refine qr (zfm 0 Ty.zhu rfl hi31) ?_;refine qr (zfs 0 Ty.zkp rfl he31 (by omega) rfl) ?_;refine q2 ?_;have hy32:=hx26;rw [zbu hb29] at hy32;obtain ⟨hp33,hy33⟩:=zac hy32;obtain ⟨cs33,hr33,he33⟩:=(h0.mono ((le6.trans le11).trans le22)).el hy33;obtain ⟨ue27_0,rfl,hue27_0⟩:=hr33;replace he33:=qj 2 he33;have hi33:=he33.ixd;refine qi Tryz.underlying22 Ty.zin hi33 hp33 ?_;refine qr (zfm 0 Ty.zhu rfl hi33) ?_;refine qr (zfs 0 Ty.zkp rfl (he33.mono hS22.agree) (by omega) rfl) ?_;refine qr (zah rfl rfl bS_eql) ?_;refine qc ?_;refine zbk ?_;exact zbe _ ⟨rfl,F22,(Frz.le.refl _),hS22⟩ ⟨rfl,rfl,rfl,rfl,(zdw rfl (by first | rfl | (rw [hb29];first | done | rfl) | simp [hb29])),trivial⟩
         ·refine zaz (G:=(nowF _)) [0,1,2,3,4,5,6,7,8,9,10,11,12,13,14,15,16] rfl Ty.mixed (by kernel_rfl) (zdc _) ?_;refine q2 ?_;refine qr (zbs Tryz.underlying22 rfl (hS22.rowLn (k:=0) rfl)) ?_;refine qr (zah rfl rfl zbp) ?_;refine qc ?_;refine qvb 53 hb29 ?_;refine qz2 ?_;refine qz2 ?_;refine qz2 ?_;refine qz2 ?_;refine qz2 ?_;refine qz ?_;refine qc ?_;refine zbk ?_;exact zbe _ ⟨rfl,F22,(Frz.le.refl _),hS22⟩ ⟨rfl,rfl,rfl,rfl,(zdw rfl (by first | rfl | (rw [hb29];first | done | rfl) | simp [hb29])),trivial⟩
        rintro E w28 ⟨rfl,F28,le28,hS28⟩;refine zcl ?_;refine qy H (fun hc34 H=>?_) (fun hc34 H=>?_)
        ·refine qsc ?_;refine qm ?_;have hS36:=hS28.nilRow File.t;obtain rfl:=oi H;refine qt ?_;exact ⟨F28,(.sl none 0 (.k 0)),rfl,hS36.pick [0] (by decide)⟩
        ·refine qk ?_;refine qsm ?_;refine zay ?_;obtain ⟨l37,hl37,x39,hx39,H⟩:=bd2 H;obtain ⟨l41,hl41,r43,hr43,H⟩:=bd2 H;obtain ⟨l45,hl45,H⟩:=zap H;refine zaz (G:=F28) [0,1,2,3,5,6,7,8,9,10,11,12,13,14,4,15,16,17,18,19] rfl Ty.mixed (by kernel_rfl) hS28.agree ?_;refine q3 ?_;refine znl 0 0 i23 rfl rfl rfl rfl Tryz.underlying22 Ty.zin rfl (.inl ⟨rfl,rfl⟩) (.inr ⟨_,_,rfl,rfl⟩) hS28 rfl hl37 ?_;intro q38 hv38 hw38;refine q2 ?_;obtain ⟨hp47,hy47⟩:=zac hx39;obtain ⟨cs47,hr47,he47⟩:=(h0.mono (((le6.trans le11).trans le22).trans le28)).el hy47;obtain ⟨ue40_0,rfl,hue40_0⟩:=hr47;replace he47:=qj 2 he47;have hi47:=he47.ixd;refine qi Tryz.underlying22 Ty.zin hi47 hp47 ?_;refine qr (zfm 0 Ty.zhu rfl hi47) ?_;refine qr (zfs 0 Ty.zkp rfl he47 (by omega) rfl) ?_;refine q2 ?_;refine qi Tryz.underlying22 Ty.zin hi47 hp47 ?_;refine qr (zfm 1 Ty.zqa rfl hi47) ?_;refine qr (zfs 1 Ty.zhg rfl he47 (by omega) rfl) ?_;have hS48:=hS28.nilRow File.t;refine qx (zgg (t:=File.t) 0 Tryz.underlying22 Ty.row101 Ty.zk22 rfl rfl hS48 rfl hv38 hl41) ?_;rintro v42 w42 hS42;refine qw hS42 ?_;refine ql (zky hS42.good hue40_0 hr43) ?_;rintro ur43_0 w49 ⟨Fr43,_,rfl,hT49⟩;have hS49:=hS42.call hT49;have ler43:=hT49.ext;refine Nxt.frz ler43 hS49.agree ?_;have hcl50:=(hS49.rowLn (k:=0) rfl).cells;refine qr (zmn (vs:=[(0,.s x39.path),(1,ur43_0)]) (v:=.agg (File.cells (File.mk x39.path r43) ur43_0)) Ty.bld101 rfl (by simp only [zly,hcl50];rfl)) ?_;obtain ⟨F51,le51,hf51,hS51⟩:=hS49.freezeR 0 [1,2] rfl (by decide) (by decide);refine W_rg le51 hS51.agree ?_;refine qx (E_bs (t:=File.t) (vs:=[.agg (File.cells (File.mk x39.path r43) ur43_0)]) (xs:=[(File.mk x39.path r43)]) Tryz.underlying22 Ty.row101 rfl ⟨⟨ur43_0,rfl,hf51⟩,trivial⟩ rfl rfl hS51) ?_;rintro u44 w44 hS44;refine qw hS44 ?_;refine qx (zgg (t:=File.t) 1 Tryz.underlying22 Ty.row101 Ty.zk22 rfl rfl hS44 rfl (hS44.rowSrc (k:=0) rfl) hl45) ?_;rintro v46 w46 hS46;refine qw hS46 ?_;refine qm ?_;obtain ⟨l52,hl52,l54,hl54,H⟩:=bd2 H;refine qd ?_;refine q3 ?_;refine znl 2 i23 (l12.length:Int) rfl rfl rfl rfl Tryz.underlying22 Ty.zin rfl (.inr ⟨_,_,rfl,rfl⟩) (.inl ⟨rfl,rfl⟩) hS46 rfl hl52 ?_;intro q53 hv53 hw53;refine xm (zgg (t:=File.t) 1 Tryz.underlying22 Ty.row101 Ty.zk22 rfl rfl hS46 rfl hv53 hl54) ?_
         rintro v55 w55 hS55;refine qc ?_;refine zbk ?_;refine zbf ?_;exact zbe _ ⟨l54,H,⟨F51,v55,rfl,(((le22.trans le28).trans ler43).trans le51),hS55.pick [1] (by decide)⟩⟩ ⟨rfl,rfl,rfl,trivial⟩
      ·rintro E w18 ⟨l19,H,F18,u20,rfl,le18,hS18⟩;dsimp only [zak.k4] at H;refine qd ?_;refine q3 ?_;refine zbk ?_;exact zbd (l19,wr (i15+1)) _ H ⟨F18,u20,rfl,(le11.trans le18),hS18⟩ ⟨rfl,rfl,rfl,trivial⟩
     ·refine zcc _ rfl ?_;exact zbe _ ⟨l12,H,⟨F11,u13,rfl,le11,hS11⟩⟩ ⟨rfl,trivial⟩
   ·rintro E w7 ⟨l8,H,F7,u9,rfl,le7,hS7⟩;dsimp only [zak.k2] at H;refine qs ?_;refine q2 ?_;refine qm ?_;obtain rfl:=oi H;refine qt ?_;exact ⟨F7,u9,rfl,hS7⟩
def zch.k1:Option Int :=
  some 0
def zch.l2 (x0:List File) (rec7:Int→Option Int):Int→Option Int
  | i6 =>
    if decide (i6 < (x0.length:Int)) then
      bd (ix x0 i6) fun x9 =>
      bd (zby x9.path) fun r11 =>
      bd (only ((!(!r11))&&decide (0 < i6)) (ix x0 i6) (File.mk [] [])) fun x12 =>
      bd (only ((!(!r11))&&decide (0 < i6)) (ix x0 (wr (i6 - 1))) (File.mk [] [])) fun x14 =>
      if ((!r11)||(decide (0 < i6)&&(sLt x12.path x14.path||x12.path == x14.path))) then
        some 1
      else
        rec7 (wr (i6+1))
    else
      zch.k1
def zch (x0:List File):Option Int :=
  bd (zca x0) fun r1 =>
  if r1 then
    some 2
  else
    loop (zch.l2 x0) 0
theorem zpi {x0:List File} {r:Int} {v0:Val} (hA:Gd F w) (h0:SlF File.t F v0 x0) (H:zch x0=some r):Ret Tryz.prog K 81 [v0] w fun v w'=>∃ (F':Frz),v = .i .i64 r∧St [] w F F' [] w':=by
 refine qa1 Tryz.func81 ?_;have hS:=St.start hA;dsimp only [zch] at H;refine qsm ?_;refine zay ?_;obtain ⟨r1,hr1,H⟩:=zap H;refine qsc ?_;refine lm (zko hS.good h0 hr1) ?_;rintro v2 w2 ⟨Fr1,rfl,hT2⟩;have hS2:=hS.lent hT2;refine qn ?_;refine qy H (fun hc3 H=>?_) (fun hc3 H=>?_)
 ·refine qsm ?_;obtain rfl:=oi H;refine qt ?_;exact ⟨F,rfl,hS2⟩
 ·refine qk ?_;refine zai (fun E wq=>zch.k1=some r ∧ ∃ (F4:Frz),E=[]∧F.le F4∧St [] w F F4 [] wq) ?_ ?_
  ·refine qsm ?_;refine zar ?_;refine zbm (fun (s:Int) E wq=>∃ (F5:Frz),E=[(0,v0),(3,.i .i64 s)]∧F.le F5∧St [] w F F5 [] wq) H ?_ ?_
   ·exact ⟨_,⟨F,rfl,(Frz.le.refl _),hS2⟩,⟨rfl,rfl,trivial⟩⟩
   ·rintro rec7 i6 E w5 hI H
    try dsimp only at hI
    obtain ⟨F5,rfl,le5,hS5⟩:=hI;dsimp only [zch.l2] at H;refine zay ?_;refine qs ?_;refine q2 ?_;refine qr (zbs Tryz.underlying22 rfl h0.ln) ?_;refine qr (zah rfl rfl zbp) ?_;refine qn ?_;refine qy H (fun hc8 H=>?_) (fun hc8 H=>?_)
    ·refine qk ?_;refine zay ?_;refine zar ?_;refine zay ?_;obtain ⟨x9,hx9,r11,hr11,H⟩:=bd2 H;obtain ⟨x12,hx12,x14,hx14,H⟩:=bd2 H;refine zaz (G:=F5) [0,1,2,3,4,5,6,7,8,9,10,11,12,13,14,15,16,17,18,19,20,21,22,23,24] rfl Ty.mixed (by kernel_rfl) hS5.agree ?_;refine q2 ?_;obtain ⟨hp16,hy16⟩:=zac hx9;obtain ⟨cs16,hr16,he16⟩:=(h0.mono le5).el hy16;obtain ⟨ue10_0,rfl,hue10_0⟩:=hr16;replace he16:=qj 2 he16;have hi16:=he16.ixd;refine qi Tryz.underlying22 Ty.zin hi16 hp16 ?_;refine qr (zfm 0 Ty.zhu rfl hi16) ?_;refine qq (zfs 0 Ty.zkp rfl (he16.mono hS5.agree) (by omega) rfl) ?_;refine ql (zif hS5.good hr11) ?_;rintro v17 w17 ⟨Fr11,rfl,hT17⟩;have hS17:=hS5.lent hT17;refine qw hS17 ?_;refine q2 ?_;refine W_gs (v:=.i .i64 i6) rfl rfl rfl rfl (fun ⟨hb18,_⟩=>?_) ?_
     ·rw [hb18];exact (qc ·)
     refine W_gs (v:=.b (decide (0 < i6))) rfl rfl rfl rfl (fun ⟨hb19,_⟩=>?_) ?_
     ·rw [hb19];exact (qr (zah rfl rfl zgn) ·)
     refine W_gs (v:=.b (decide (0 < i6))) rfl rfl rfl rfl (fun ⟨hb20,_⟩=>?_) ?_
     ·rw [hb20];exact (qc ·)
     refine zek (v:=v0) rfl rfl rfl rfl (fun ⟨hb21,hb22,_⟩=>?_) ?_
     ·rw [hb22,hb21];exact (qc ·)
     refine zek (v:=.i .i64 i6) rfl rfl rfl rfl (fun ⟨hb23,hb24,_⟩=>?_) ?_
     ·rw [hb24,hb23];exact (qc ·)
     refine zek (v:=elp v0 (i6.toNat*2)) rfl rfl rfl rfl (fun ⟨hb25,hb26,_⟩=>?_) ?_
     ·rw [hb26,hb25];intro hK;have hy27:=hx12;rw [zbu (by first | rfl | (rw [hb26,hb25];first | done | rfl) | simp [hb25,hb26])] at hy27;obtain ⟨hp28,hy28⟩:=zac hy27;obtain ⟨cs28,hr28,he28⟩:=(h0.mono le5).el hy28;obtain ⟨ue13_0,rfl,hue13_0⟩:=hr28;replace he28:=qj 2 he28;have hi28:=he28.ixd;refine qi Tryz.underlying22 Ty.zin hi28 hp28 ?_;exact hK
     refine zek (v:=elp v0 ((i6.toNat*2)+0)) rfl rfl rfl rfl (fun ⟨hb29,hb30,_⟩=>?_) ?_
     ·rw [hb30,hb29];intro hK;have hy31:=hx12;rw [zbu (by first | rfl | (rw [hb30,hb29];first | done | rfl) | simp [hb29,hb30])] at hy31;obtain ⟨hp32,hy32⟩:=zac hy31;obtain ⟨cs32,hr32,he32⟩:=(h0.mono le5).el hy32;obtain ⟨ue13_0,rfl,hue13_0⟩:=hr32;replace he32:=qj 2 he32;have hi32:=he32.ixd;refine qr (zfm 0 Ty.zhu rfl hi32) ?_;exact hK
     refine zek (v:=.s x12.path) rfl rfl rfl rfl (fun ⟨hb33,hb34,_⟩=>?_) ?_
     ·rw [hb34,hb33];intro hK;have hy35:=hx12;rw [zbu (by first | rfl | (rw [hb34,hb33];first | done | rfl) | simp [hb33,hb34])] at hy35;obtain ⟨hp36,hy36⟩:=zac hy35;obtain ⟨cs36,hr36,he36⟩:=(h0.mono le5).el hy36;obtain ⟨ue13_0,rfl,hue13_0⟩:=hr36;replace he36:=qj 2 he36;have hi36:=he36.ixd;refine qq (zfs 0 Ty.zkp rfl (he36.mono hS17.agree) (by omega) rfl) ?_;exact hK
     refine zek (v:=v0) rfl rfl rfl rfl (fun ⟨hb37,hb38,_⟩=>?_) ?_
     ·rw [hb38,hb37];exact (qc ·)
     refine zek (v:=.i .i64 i6) rfl rfl rfl rfl (fun ⟨hb39,hb40,_⟩=>?_) ?_
     ·rw [hb40,hb39];exact (qc ·)
     refine zek (v:=.i .i64 (wr (i6 - 1))) rfl rfl rfl rfl (fun ⟨hb41,hb42,_⟩=>?_) ?_
     ·rw [hb42,hb41];exact (qc ·)
     refine zek (v:=elp v0 ((wr (i6 - 1)).toNat*2)) rfl rfl rfl rfl (fun ⟨hb43,hb44,_⟩=>?_) ?_
     ·rw [hb44,hb43];intro hK;have hy45:=hx14;rw [zbu (by first | rfl | (rw [hb44,hb43];first | done | rfl) | simp [hb43,hb44])] at hy45;obtain ⟨hp46,hy46⟩:=zac hy45;obtain ⟨cs46,hr46,he46⟩:=(h0.mono le5).el hy46;obtain ⟨ue15_0,rfl,hue15_0⟩:=hr46;replace he46:=qj 2 he46;have hi46:=he46.ixd;refine qi Tryz.underlying22 Ty.zin hi46 hp46 ?_;exact hK
     refine zek (v:=elp v0 (((wr (i6 - 1)).toNat*2)+0)) rfl rfl rfl rfl (fun ⟨hb47,hb48,_⟩=>?_) ?_
     ·rw [hb48,hb47];intro hK;have hy49:=hx14;rw [zbu (by first | rfl | (rw [hb48,hb47];first | done | rfl) | simp [hb47,hb48])] at hy49;obtain ⟨hp50,hy50⟩:=zac hy49;obtain ⟨cs50,hr50,he50⟩:=(h0.mono le5).el hy50;obtain ⟨ue15_0,rfl,hue15_0⟩:=hr50;replace he50:=qj 2 he50;have hi50:=he50.ixd;refine qr (zfm 0 Ty.zhu rfl hi50) ?_;exact hK
     refine zek (v:=.s x14.path) rfl rfl rfl rfl (fun ⟨hb51,hb52,_⟩=>?_) ?_
     ·rw [hb52,hb51];intro hK;have hy53:=hx14;rw [zbu (by first | rfl | (rw [hb52,hb51];first | done | rfl) | simp [hb51,hb52])] at hy53;obtain ⟨hp54,hy54⟩:=zac hy53;obtain ⟨cs54,hr54,he54⟩:=(h0.mono le5).el hy54;obtain ⟨ue15_0,rfl,hue15_0⟩:=hr54;replace he54:=qj 2 he54;have hi54:=he54.ixd;refine qq (zfs 0 Ty.zkp rfl (he54.mono hS17.agree) (by omega) rfl) ?_;exact hK
     refine zek (v:=.b (sLt x12.path x14.path||x12.path == x14.path)) rfl rfl rfl rfl (fun ⟨hb55,hb56,_⟩=>?_) ?_
     ·rw [hb56,hb55];exact (qr (zah rfl rfl bS_leq) ·)
     refine W_gs (v:=.b (decide (0 < i6)&&(sLt x12.path x14.path||x12.path == x14.path))) rfl rfl rfl rfl (fun ⟨hb57,_⟩=>?_) ?_
     ·rw [hb57];exact (ziu rfl rfl rfl rfl rfl (fun hc=>by rw [hc];rfl) rfl ·)
     refine zgl rfl rfl rfl rfl rfl rfl (fun hc=>by rw [hc];rfl) ?_;refine qn ?_;refine qy H (fun hc58 H=>?_) (fun hc58 H=>?_)
     ·refine qsm ?_;obtain rfl:=oi H;refine qt ?_;exact ⟨F5,rfl,hS17⟩
     ·refine zec ?_;refine zbf ?_;refine zcl ?_;refine qd ?_;refine q3 ?_;refine zbk ?_;exact zbd (wr (i6+1)) _ H ⟨F5,rfl,le5,hS17⟩ ⟨rfl,rfl,trivial⟩
    ·refine zcc _ rfl ?_;exact zbe _ ⟨H,⟨F5,rfl,le5,hS5⟩⟩ trivial
  ·rintro E w4 ⟨H,F4,rfl,le4,hS4⟩;dsimp only [zch.k1] at H;refine qsm ?_;obtain rfl:=oi H;refine qt ?_;exact ⟨F4,rfl,hS4⟩
end
end Go.Wk.Lf
end
