/-  -/
import Derived.Test.YtfhalkdoeiadgaaGreatG4
set_option linter.unusedVariables false
set_option linter.unusedSimpArgs false
open Bool renaming eq_false_or_eq_true→uO
open Go.Proofs.Tryz renaming func113→adJ, prog→aac, underlying109→acv, underlying24→aam, underlying3→abD, underlying31→aba, underlying5→acP, underlying59→aaT, underlying78→adA, underlying9→acZ
open List renaming eq_nil_of_length_eq_zero→tP, replicate→ph
open Nat renaming le_of_ble_eq_true→qY, zero_lt_succ→wU
section
namespace Go.Wk.Lf
open Go.V Go.Proofs
noncomputable section
set_option maxRecDepth 100000
variable {K:Tb} {F:jL} {w:Hp}
def ve.k1 (b:(List UInt8) × si) (sI:List Part) (tL:List UInt8) (a:Bool):Option (oP × Int) :=
  bd (only (!(a||decide (0 < (tL.length:Int)))) (BI (oP.mk b.1 sI)) 0) fun c =>
  if ((a||decide (0 < (tL.length:Int)))||decide (c≠0)) then
    some ((oP.mk [] []),3)
  else
    some ((oP.mk b.1 sI),0)
def ve.k3 (b:Int) (e:(Int × (List UInt8) × Bool × (List Part))→Option (oP × Int)) (c:List UInt8) (a:Bool) (d:List Part):Option (oP × Int) :=
  e (wr (b+1),c,a,d)
def ve.k4 (g:(List UInt8) × si) (d:Int) (e:List Part) (j:(Int × (List UInt8) × Bool × (List Part))→Option (oP × Int)) (h:(List UInt8) × si) (i:Int × si) (b:List UInt8) (a:Bool) (f:List (List UInt8)):Option (oP × Int) :=
  bd (app (α:=Part) e [(Part.mk h.1 i.1 f)]) fun c =>
  if a then
    ve.k1 g c b a
  else
    ve.k3 d j b a c
def ve.l5 (k:(List UInt8) × si) (h:Int) (i:List Part) (p:(Int × (List UInt8) × Bool × (List Part))→Option (oP × Int)) (l:(List UInt8) × si) (m:Int × si) (n:Int × si) (q:(Int × (List UInt8) × Bool × (List (List UInt8)))→Option (oP × Int)):(Int × (List UInt8) × Bool × (List (List UInt8)))→Option (oP × Int)
  | (d,e,c,f) =>
    if decide (d < n.1) then
      bd (Gt (si.mk e c) 32) fun a =>
      bd (Hc a.1) fun g =>
      bd (app (α:=(List UInt8)) f [g]) fun j =>
      q (wr (d+1),a.2.b,a.2.bad,j)
    else
      ve.k4 k h i p l m e c f
def ve.l2 (g:(List UInt8) × si) (k:Int × si) (l:(Int × (List UInt8) × Bool × (List Part))→Option (oP × Int)):(Int × (List UInt8) × Bool × (List Part))→Option (oP × Int)
  | (d,e,c,f) =>
    if decide (d < k.1) then
      bd (BJ (si.mk e c) 1) fun h =>
      bd (Gt h.2 h.1) fun i =>
      bd (BJ i.2 2) fun j =>
      bd (BJ j.2 1) fun a =>
      loop (ve.l5 g d f l i j a) (0,a.2.b,a.2.bad,[])
    else
      ve.k1 g f e c
def ve (x0:List UInt8):Option (oP × Int) :=
  bd (BJ (si.mk x0 false) 1) fun c =>
  bd (Gt c.2 c.1) fun d =>
  bd (BJ d.2 1) fun a =>
  loop (ve.l2 d a) (0,a.2.b,a.2.bad,[])
set_option maxHeartbeats 2000000 in
theorem ag7 {x0:List UInt8} {r:oP × Int} {M:jD} (hA:Gd F w) (h0:oF tB F M x0) (H:ve x0=some r):pa aac K 84 [M] w fun v w'=>∃ (F':jL) (b3:jD),v = .qR [.agg (oP.cells r.1 b3),.i .i64 r.2]∧oF Part.t F' b3 (r.1.parts)∧St [] w F F' [] w':=by
 refine rA Tryz.func84 ?_;have hS:=St.start hA;refine qs ?_;refine al ?_;intro c w1 cy;refine ax ?_;have bT:=h0.ln.cells;refine qr (FI (vs:=[(0,M)]) (v:=.agg (si.cells (si.mk x0 false) M)) Ty.aby rfl (by simp only [xR,bT];rfl)) ?_;refine bx ([M,.b false]) ?_;intro g w2 aT;obtain ⟨r4,cd,a,ce,H⟩:=oU H;refine ax ?_;refine lm (LY (x0:=(si.mk x0 false)) (x1:=1) (aT.u9 [0] (by decide)) h0 cd) ?_;rintro v7 w7 ⟨ct,als,rfl,RL,bk⟩;have bc:=aT.uV [0] [1] (by decide) (by decide) bk;have c9:=bk.ext;refine lm (Oz (x0:=r4.2) (x1:=r4.1) (bc.u9 [0] (by decide)) RL ce) ?_;rintro cI w8 ⟨bA,_,amJ,rfl,bX,aez,bn⟩;have bI:=bc.uV [0] [1] (by decide) (by decide) bn;have cA:=bn.ext;refine qr (Nb aba acP acZ rfl (bX.mono bI.agree)) ?_;refine qM (v:=.agg (oP.cells (oP.mk a.1 []) (.sl none 0 (.k 0)))) rfl rfl rfl rfl (fun _=>rfl) ?_;refine al ?_;intro d w6 c0;refine sb 0 ([.s a.1,.sl none 0 (.k 0)]) ?_;intro w9 a6;refine qn ?_;refine pe (fun E wq=>∃ sI:List Part,∃ tL:List UInt8,∃ x:Bool,ve.k1 a sI tL x=some r ∧ ∃ (p:jL) (j:jD) (X:jD),E=[(2,pl c 0),(4,pl g 0),(5,pl d 0)]∧bA.le p∧oF tB p X tL∧po a6 [.box d [.s a.1,j],.box g [X,.b x],.box c [.s [],.sl none 0 (.k 0)],.row Part.t j sI] p wq) ?_ ?_
 ·obtain ⟨V,cc,H⟩:=oL H;refine aq ?_;refine lm (LY (x0:=a.2) (x1:=1) (a6.u9 [1] (by decide)) aez cc) ?_;rintro cL cY ⟨aH,alr,rfl,aev,bg⟩;have aX:=a6.uV [1] [0,2] (by decide) (by decide) bg;have co:=bg.ext;refine ax ?_;refine qC (fun (s:Int × (List UInt8) × Bool × (List Part)) E wq=>∃ (u:jL) (Y:jD) (q:jD),E=[(2,pl c 0),(4,pl g 0),(5,pl d 0),(17,.i .i64 V.1),(18,.i .i64 s.1)]∧aH.le u∧oF tB u Y s.2.1∧po aX [.box g [Y,.b s.2.2.1],.box d [.s a.1,q],.box c [.s [],.sl none 0 (.k 0)],.row Part.t q s.2.2.2] u wq) H ?_ ?_
  ·have bM:=aX.sY Part.t;exact lo ⟨aH,alr,(.sl none 0 (.k 0)),rfl,(jL.le.refl _),aev,bM.pick [1,2,3,0] (by decide)⟩
  ·rintro b6 ⟨B,bv,aK,U⟩ E cZ hI H
   try dsimp only at hI
   obtain ⟨u,Y,q,rfl,cm,br,ak⟩:=hI;refine ay ?_;refine qy H (fun bQ H=>?_) (fun bQ H=>?_)
   ·refine qk ?_;refine pe (fun E wq=>∃ a8:List UInt8,∃ aj:Bool,∃ a9:List Part,ve.k3 B b6 a8 aj a9=some r ∧ ∃ (P:jL) (Z:jD) (ad:jD),E=[(2,pl c 0),(4,pl g 0),(5,pl d 0),(17,.i .i64 V.1),(18,.i .i64 B)]∧u.le P∧oF tB P Z a8∧po ak [.box g [Z,.b aj],.box d [.s a.1,ad],.box c [.s [],.sl none 0 (.k 0)],.row Part.t ad a9] P wq) ?_ ?_
    ·refine ay ?_;obtain ⟨b5,cf,m,cg,H⟩:=oU H;obtain ⟨n,ch,H⟩:=oL H;refine uT (G:=u) [0,1,5,8,2,3,4,6,7,9] rfl Ty.mixed (by kernel_rfl) ak.agree ?_;refine au ?_;refine aM ?_;intro S db aY;refine ql (LY (x0:=(si.mk bv aK)) (x1:=1) (aY.u9 [1] (by decide)) br cf) ?_;rintro cM dc ⟨cu,amG,rfl,aew,bh⟩;have am:=aY.uV [1] [0,2,3,4] (by decide) (by decide) bh;have b0:=bh.ext;refine pQ.tT b0 am.agree ?_;refine ql (Oz (x0:=b5.2) (x1:=b5.1) (am.u9 [0] (by decide)) aew cg) ?_;rintro cH dd ⟨cw,_,amH,rfl,bW,aex,bi⟩;have ar:=am.uV [0] [1,2,3,4] (by decide) (by decide) bi;have b1:=bi.ext;refine pQ.tT b1 ar.agree ?_;refine qr (Nb aba acP acZ rfl bW) ?_;refine ql (LY (x0:=m.2) (x1:=2) (ar.u9 [0] (by decide)) aex ch) ?_;rintro cN de ⟨bB,amI,rfl,aey,bj⟩;have bF:=ar.uV [0] [1,2,3,4] (by decide) (by decide) bj;have b2:=bj.ext;refine pQ.tT b2 bF.agree ?_;refine qM (v:=.agg (Part.cells (Part.mk m.1 n.1 []) (.sl none 0 (.k 0)))) rfl rfl rfl rfl (fun _=>rfl) ?_;refine sB 1 ([.s m.1,.i .i64 n.1,.sl none 0 (.k 0)]) ?_;intro df a4;refine qn ?_;refine pe (fun E wq=>∃ D:List UInt8,∃ z:Bool,∃ I:List (List UInt8),ve.k4 a B U b6 m n D z I=some r ∧ ∃ (Q:jL) (J:jD) (L:jD),E=[(2,pl c 0),(4,pl g 0),(5,pl d 0),(6,pl S 0),(17,.i .i64 V.1),(18,.i .i64 B)]∧bB.le Q∧oF tB Q J D∧po a4 [.box g [J,.b z],.box S [.s m.1,.i .i64 n.1,L],.box d [.s a.1,q],.box c [.s [],.sl none 0 (.k 0)],.row Part.t q U,.row rX L I] Q wq) ?_ ?_
     ·obtain ⟨cr,ci,H⟩:=oL H;refine aq ?_;refine lm (LY (x0:=n.2) (x1:=1) (a4.u9 [0] (by decide)) aey ci) ?_;rintro cP dm ⟨aJ,alu,rfl,aeE,bm⟩;have be:=a4.uV [0] [1,2,3,4] (by decide) (by decide) bm;have cC:=bm.ext;refine ax ?_;refine qC (fun (s:Int × (List UInt8) × Bool × (List (List UInt8))) E wq=>∃ (R:jL) (ae:jD) (ah:jD),E=[(2,pl c 0),(4,pl g 0),(5,pl d 0),(6,pl S 0),(17,.i .i64 V.1),(18,.i .i64 B),(29,.i .i64 cr.1),(30,.i .i64 s.1)]∧aJ.le R∧oF tB R ae s.2.1∧po be [.box g [ae,.b s.2.2.1],.box S [.s m.1,.i .i64 n.1,ah],.box d [.s a.1,q],.box c [.s [],.sl none 0 (.k 0)],.row Part.t q U,.row rX ah s.2.2.2] R wq) H ?_ ?_
      ·have bK:=be.sY rX;exact lo ⟨aJ,alu,(.sl none 0 (.k 0)),rfl,(jL.le.refl _),aeE,bK.pick [1,2,3,4,5,0] (by decide)⟩
      ·rintro cE ⟨c2,bz,aO,cl⟩ E dn hI H
       try dsimp only at hI
       obtain ⟨R,ae,ah,rfl,c8,bt,y⟩:=hI;refine ay ?_;refine qy H (fun bS H=>?_) (fun bS H=>?_)
       ·refine ay ?_;obtain ⟨cD,cj,ai,bp,H⟩:=oU H;have ae4:ai.length=32:=aa8 bp;obtain ⟨c3,ca,H⟩:=oL H;have A:=y.tK 1 rfl;refine rh 1 A y ?_;refine au ?_;refine hl 1 A y ?_;refine qc ?_;refine ql (Oz (x0:=(si.mk bz aO)) (x1:=32) (y.u9 [0] (by decide)) bt cj) ?_;rintro cJ du ⟨cx,_,alw,rfl,bY,aeG,bo⟩;have a7:=y.uV [0] [1,2,3,4,5] (by decide) (by decide) bo;have cp:=bo.ext;refine nf 1 A a7 cp ?_;refine aaI rfl rfl rfl rfl Tryz.underlying82 rfl bY bp ?_;intro al9 amy bO;refine qq (aaw Ty.yg Ty.uL rfl (bO.mono a7.agree)) ?_;refine qx (sh (t:=rX) (vs:=[.agg (pb ai)]) (xs:=[ai]) acv Ty.Fg rfl ⟨⟨rfl,ae4⟩,trivial⟩ rfl rfl a7) ?_;rintro cG dr a5;refine qh 2 A a5 ?_;refine qx (xl (t:=rX) 6 acv Ty.Fg Ty.Pv rfl rfl a5 rfl (a5.tf (k:=0) rfl) ca) ?_;rintro b7 ds bf;refine qh 2 A bf ?_;refine au ?_;refine FK (by kernel_rfl) bf.agree ?_;refine sC 2 ([.s m.1,.i .i64 n.1,b7]) ?_;intro dv bJ;refine ax ?_;exact nm H ⟨_,alw,b7,rfl,pc,aeG,pk [1,2,3,4,5,6] bJ⟩
       ·refine pw _ rfl ?_;exact nj ⟨bz,aO,cl,H,⟨_,ae,ah,rfl,pc,bt,y⟩⟩
     ·rintro E dg ⟨D,z,I,H,Q,J,L,rfl,cn,bs,bG⟩;obtain ⟨bw,bZ,H⟩:=oL H;refine aq ?_;obtain ⟨b9,aC,bV,bH⟩:=bG.rv 5 [0,1,2,3,4] rfl (by decide) (by decide);refine xm (sh (t:=Part.t) (vs:=[.agg (Part.cells (Part.mk m.1 n.1 I) L)]) (xs:=[(Part.mk m.1 n.1 I)]) Tryz.underlying56 Ty.Ml rfl ⟨⟨L,rfl,bV⟩,trivial⟩ rfl rfl bH) ?_;rintro cF di ba;refine ap 5 ba (ba.tf (k:=0) rfl) bZ ?_;intro aD dj c1;refine au ?_;refine sc 3 ([.s a.1,aD]) ?_;intro dk bb;refine ax ?_;refine qy H (fun bR H=>?_) (fun bR H=>?_)
      ·refine pw _ rfl ?_;exact nj ⟨bw,D,z,H,⟨b9,aD,J,rfl,((((((co.trans cm).trans b0).trans b1).trans b2).trans cn).trans aC),(bs.mono aC),bb.pick [3,1,4,5] (by decide)⟩⟩
      ·refine ax ?_;exact nj ⟨D,z,bw,H,⟨_,J,aD,rfl,pc,(bs.mono aC),pk [1,3,4,5] bb⟩⟩
    ·rintro E da ⟨a8,aj,a9,H,P,Z,ad,rfl,c7,ck,bE⟩;refine ax ?_;exact nm H ⟨_,Z,ad,rfl,pc,ck,bE⟩
   ·refine pw _ rfl ?_;exact nj ⟨U,bv,aK,H,⟨_,q,Y,rfl,pc,br,pk [1,0,2,3] ak⟩⟩
 ·rintro E cR ⟨sI,tL,x,H,p,j,X,rfl,c4,bq,h⟩;refine qU ?_;refine qU ?_;obtain ⟨cq,cb,H⟩:=oL H;refine yd (fun E wq=>E=[(2,pl c 0),(5,pl d 0),(69,.b ((x||decide (0 < (tL.length:Int)))||decide (cq≠0)))] ∧ ∃ O:jL,p.le O∧St [] w F O [.box d [.s a.1,j],.box g [X,.b x],.box c [.s [],.sl none 0 (.k 0)],.row Part.t j sI] wq) ?_ ?_
  ·
   rcases uO x with e | e
   ·refine qd ?_;refine q2 ?_;refine qf Ty.NO ?_;refine qb 1 Ty.EK h ?_;refine qc ?_;refine ri 57 e ?_;refine pI ?_;refine pI ?_;refine pI ?_;refine q2 ?_;refine pI ?_;refine qz ?_;refine qc ?_;refine qN ?_;exact sj _ ⟨rfl,p,(jL.le.refl _),h⟩ ⟨rfl,rfl,(sq rfl (by first | rfl | (rw [e];first | done | rfl) | simp [e])),trivial⟩
   ·
    rcases uO (decide (0 < (tL.length:Int))) with l | l
    ·refine qd ?_;refine q2 ?_;refine qf Ty.NO ?_;refine qb 1 Ty.EK h ?_;refine qc ?_;refine ri 57 e ?_;refine q2 ?_;refine qf Ty.Rc ?_;refine qb 1 Ty.IY h ?_;refine qr (qD aba rfl bq.ln) ?_;refine qr (oO rfl rfl Bq) ?_;refine q2 ?_;refine ri 65 l ?_;refine pI ?_;refine qz ?_;refine qc ?_;refine qN ?_;exact sj _ ⟨rfl,p,(jL.le.refl _),h⟩ ⟨rfl,rfl,(sq rfl (by first | rfl | (rw [l,e];first | done | rfl) | simp [e,l])),trivial⟩
    ·refine qd ?_;refine q2 ?_;refine qf Ty.NO ?_;refine qb 1 Ty.EK h ?_;refine qc ?_;refine ri 57 e ?_;refine q2 ?_;refine qf Ty.Rc ?_;refine qb 1 Ty.IY h ?_;refine qr (qD aba rfl bq.ln) ?_;refine qr (oO rfl rfl Bq) ?_;refine q2 ?_;refine ri 65 l ?_;refine bl h 0 (oP.cells (oP.mk a.1 sI) j) [] ?_;have bu:=cb;rw [qA (by first | rfl | (rw [l,e];first | done | rfl) | simp [e,l])] at bu;refine Bp (f:=124) (args:=[.agg (oP.cells (oP.mk a.1 sI) j)]) rfl rfl rfl rfl (Yp (Gd.now h.wf) (h.uK (k:=3) rfl) bu) ?_;rintro cK cU ⟨cs,rfl,bN⟩;have bC:=h.vw bN;refine pQ.now ?_;refine qr (oO rfl rfl Br) ?_;refine qc ?_;refine qN ?_;exact sj _ ⟨rfl,p,(jL.le.refl _),bC⟩ ⟨rfl,rfl,(sq rfl (by first | rfl | (rw [l,e];first | done | rfl) | simp [e,l])),trivial⟩
  rintro E cS ⟨rfl,O,c5,cz⟩;refine tR ?_;refine qy H (fun bP H=>?_) (fun bP H=>?_)
  ·refine qs ?_;refine qM (v:=.agg (oP.cells (oP.mk [] []) (.sl none 0 (.k 0)))) rfl rfl rfl rfl (fun _=>rfl) ?_;refine sb 2 ([.s [],.sl none 0 (.k 0)]) ?_;intro cV aU;refine au ?_;obtain rfl:=oi H;refine yw (vs:=[.agg (oP.cells (oP.mk [] []) (.sl none 0 (.k 0))),.i .i64 3]) rfl ⟨(yB 2 Ty.zA Ty.zj aU rfl rfl),rfl,trivial⟩ ?_;exact ⟨O,.sl none 0 (.k 0),rfl,(oF.nil _),aU.pick [] (by decide)⟩
  ·refine ax ?_;refine sb 2 ([.s a.1,j]) ?_;intro cX bD;refine au ?_;obtain ⟨b8,c6,bU,aV⟩:=bD.rv 3 [0,1,2] rfl (by decide) (by decide);obtain rfl:=oi H;refine yw (vs:=[.agg (oP.cells (oP.mk a.1 sI) j),.i .i64 0]) rfl ⟨(yB 2 Ty.zA Ty.zj aV rfl rfl),rfl,trivial⟩ ?_;exact ⟨b8,j,rfl,bU,aV.pick [] (by decide)⟩
def Mg (x0:lU) (x1:Int):Option Int :=
  bd (EO x0.seq x1) fun a =>
  some a
theorem YW {x0:lU} {x1:Int} {r:Int} {a:jD} {b:jD} (hA:Gd F w) (g:oF Part.t F a x0.oJ.parts) (h:oF Loc.t F b x0.oN) (H:Mg x0 x1=some r):pa aac K 86 [.agg (lU.cells x0 a b),.i .i64 x1] w fun v w'=>∃ (F':jL),v = .i .i64 r∧St [] w F F' [] w':=by
 refine ra Tryz.func86 ?_;have hS:=St.start hA;refine qs ?_;refine bx ([.i .i64 x0.seq,.s x0.oJ.name,a,b]) ?_;intro f k c;obtain ⟨j,e,H⟩:=oL H;refine ax ?_;refine lp (I5 c.oR e) c ?_;intro l d;exact rz H d
def CJ.k1 (x0:List lU) (x1:Int) (a:Int):Option (Int × Bool) :=
  bd (only (decide (a < (x0.length:Int))) (ix x0 a) (lU.mk 0 (oP.mk [] []) [])) fun x3 =>
  bd (only (decide (a < (x0.length:Int))) (Mg x3 x1) 0) fun b =>
  some (a,(decide (a < (x0.length:Int))&&decide (b=0)))
def CJ.l2 (x0:List lU) (x1:Int) (c:(Int × Int)→Option (Int × Bool)):(Int × Int)→Option (Int × Bool)
  | (a,b) =>
    if decide (a < b) then
      bd (ix x0 (wr ((wu (wr (a+b))) / 2 ^ (1:Int).toNat))) fun e =>
      bd (Mg e x1) fun d =>
      if decide (d < 0) then
        c (wr (wr ((wu (wr (a+b))) / 2 ^ (1:Int).toNat)+1),b)
      else
        c (a,wr ((wu (wr (a+b))) / 2 ^ (1:Int).toNat))
    else
      CJ.k1 x0 x1 a
def CJ (x0:List lU) (x1:Int):Option (Int × Bool) :=
  loop (CJ.l2 x0 x1) (0,(x0.length:Int))
theorem ajZ {x0:List lU} {x1:Int} {r:Int × Bool} {h:jD} (hA:Gd F w) (m:oF lU.t F h x0) (H:CJ x0 x1=some r):pa aac K 85 [h,.i .i64 x1,.f 86 []] w fun v w'=>∃ (F':jL),v = .qR [.i .i64 r.1,.b r.2]∧St [] w F F' [] w':=by
 refine BM Tryz.func85 ?_;have hS:=St.start hA;refine aq ?_;refine aq ?_;refine aq ?_;refine pe (fun E wq=>∃ d:Int,CJ.k1 x0 x1 d=some r ∧ ∃ (c:jL),E=[(0,h),(1,.i .i64 x1),(2,.f 86 []),(8,.i .i64 (x0.length:Int)),(9,.i .i64 d)]∧F.le c∧ug hS c wq) ?_ ?_
 ·refine xP ?_;refine qC (fun (s:Int × Int) E wq=>∃ (j:jL),E=[(0,h),(1,.i .i64 x1),(2,.f 86 []),(8,.i .i64 (x0.length:Int)),(9,.i .i64 s.1),(10,.i .i64 s.2)]∧F.le j∧ug hS j wq) H ?_ ?_
  ·exact lo (jj hS)
  ·rintro ak ⟨S,ah⟩ E a6 hI H
   try dsimp only at hI
   obtain ⟨j,rfl,V,l⟩:=hI;refine ay ?_;refine qy H (fun y H=>?_) (fun y H=>?_)
   ·refine ax ?_;refine qr (vZ abD adA rfl (rfl)) ?_;refine qr (oO rfl rfl (DP (by decide) (by decide))) ?_;refine qr (vZ adA abD rfl (rfl)) ?_;obtain ⟨a9,P,aj,D,H⟩:=oU H;obtain ⟨_,⟨am,ar,rfl,J,L⟩,ae⟩:=qa 4 (m.mono V) P;refine ax ?_;refine lp (YW l.oR J L D) l ?_;intro a7 n;refine au ?_;refine qy H (fun z H=>?_) (fun z H=>?_)
    ·refine ax ?_;exact nm H (jj n)
    ·refine ax ?_;exact nm H (jj n)
   ·refine pw _ rfl ?_;exact nj ⟨S,H,jj l⟩
 ·rintro E w1 ⟨d,H,c,rfl,U,e⟩;refine qU ?_;obtain ⟨x3,Q,X,G,H⟩:=oU H;refine yd (fun E wq=>E=[(6,.i .i64 d),(7,.b (decide (d < (x0.length:Int))&&decide (X=0)))] ∧ ∃ k:jL,c.le k∧St [] w F k [] wq) ?_ ?_
  ·
   rcases uO (decide (d < (x0.length:Int))) with a | a
   ·refine qd ?_;refine q3 ?_;refine qr (oO rfl rfl yV) ?_;refine qc ?_;refine ri 39 a ?_;refine q3 ?_;have q:=Q;rw [qA a] at q;obtain ⟨B,R⟩:=oM q;obtain ⟨ad,I,g⟩:=(m.mono U).el R;obtain ⟨Y,Z,rfl,M,O⟩:=I;replace g:=qj 4 g;have A:=g.rq;refine qi aam Ty.sJ A B ?_;refine qr (tD 0 (lU.cells x3 Y Z) Ty.KD Ty.sJ rfl (g.mono e.agree) (by first | omega | rfl) rfl (qY rfl)) ?_;refine qc ?_;have p:=G;rw [qA a] at p;refine lp (YW e.oR M O p) e ?_;intro a5 u;refine qr (oO rfl rfl uD) ?_;refine q3 ?_;refine qN ?_;exact sj _ ⟨rfl,c,(jL.le.refl _),u⟩ ⟨rfl,(sq rfl (by first | rfl | (rw [a];first | done | rfl) | simp [a])),trivial⟩
   ·refine qd ?_;refine q3 ?_;refine qr (oO rfl rfl yV) ?_;refine qc ?_;refine ri 39 a ?_;refine pI ?_;refine pI ?_;refine pI ?_;refine pI ?_;refine q3 ?_;refine qN ?_;exact sj _ ⟨rfl,c,(jL.le.refl _),e⟩ ⟨rfl,(sq rfl (by first | rfl | (rw [a];first | done | rfl) | simp [a])),trivial⟩
  rintro E w6 ⟨rfl,k,ai,x⟩;refine tR ?_;exact rz H x
def Mf (x0:oC) (x1:Int):Option Int :=
  bd (EO x0.seq x1) fun a =>
  some a
theorem YV {x0:oC} {x1:Int} {r:Int} {a:jD} (hA:Gd F w) (f:oF Loc.t F a x0.oN) (H:Mf x0 x1=some r):pa aac K 91 [.agg (oC.cells x0 a),.i .i64 x1] w fun v w'=>∃ (F':jL),v = .i .i64 r∧St [] w F F' [] w':=by
 refine ra Tryz.func91 ?_;have hS:=St.start hA;refine qs ?_;refine bx ([.i .i64 x0.seq,.i .i64 x0.of,a]) ?_;intro e h b;obtain ⟨g,d,H⟩:=oL H;refine ax ?_;refine lp (I5 b.oR d) b ?_;intro j c;exact rz H c
def CI.k1 (x0:List oC) (x1:Int) (a:Int):Option (Int × Bool) :=
  bd (only (decide (a < (x0.length:Int))) (ix x0 a) (oC.mk 0 0 [])) fun x3 =>
  bd (only (decide (a < (x0.length:Int))) (Mf x3 x1) 0) fun b =>
  some (a,(decide (a < (x0.length:Int))&&decide (b=0)))
def CI.l2 (x0:List oC) (x1:Int) (c:(Int × Int)→Option (Int × Bool)):(Int × Int)→Option (Int × Bool)
  | (a,b) =>
    if decide (a < b) then
      bd (ix x0 (wr ((wu (wr (a+b))) / 2 ^ (1:Int).toNat))) fun e =>
      bd (Mf e x1) fun d =>
      if decide (d < 0) then
        c (wr (wr ((wu (wr (a+b))) / 2 ^ (1:Int).toNat)+1),b)
      else
        c (a,wr ((wu (wr (a+b))) / 2 ^ (1:Int).toNat))
    else
      CI.k1 x0 x1 a
def CI (x0:List oC) (x1:Int):Option (Int × Bool) :=
  loop (CI.l2 x0 x1) (0,(x0.length:Int))
theorem ajY {x0:List oC} {x1:Int} {r:Int × Bool} {h:jD} (hA:Gd F w) (m:oF oC.t F h x0) (H:CI x0 x1=some r):pa aac K 90 [h,.i .i64 x1,.f 91 []] w fun v w'=>∃ (F':jL),v = .qR [.i .i64 r.1,.b r.2]∧St [] w F F' [] w':=by
 refine BM Tryz.func90 ?_;have hS:=St.start hA;refine aq ?_;refine aq ?_;refine aq ?_;refine pe (fun E wq=>∃ d:Int,CI.k1 x0 x1 d=some r ∧ ∃ (c:jL),E=[(0,h),(1,.i .i64 x1),(2,.f 91 []),(8,.i .i64 (x0.length:Int)),(9,.i .i64 d)]∧F.le c∧ug hS c wq) ?_ ?_
 ·refine xP ?_;refine qC (fun (s:Int × Int) E wq=>∃ (j:jL),E=[(0,h),(1,.i .i64 x1),(2,.f 91 []),(8,.i .i64 (x0.length:Int)),(9,.i .i64 s.1),(10,.i .i64 s.2)]∧F.le j∧ug hS j wq) H ?_ ?_
  ·exact lo (jj hS)
  ·rintro ah ⟨Q,Z⟩ E am hI H
   try dsimp only at hI
   obtain ⟨j,rfl,S,l⟩:=hI;refine ay ?_;refine qy H (fun y H=>?_) (fun y H=>?_)
   ·refine ax ?_;refine qr (vZ abD adA rfl (rfl)) ?_;refine qr (oO rfl rfl (DP (by decide) (by decide))) ?_;refine qr (vZ adA abD rfl (rfl)) ?_;obtain ⟨a5,M,ae,D,H⟩:=oU H;obtain ⟨_,⟨ai,rfl,J⟩,Y⟩:=qa 3 (m.mono S) M;refine ax ?_;refine lp (YV l.oR J D) l ?_;intro ar n;refine au ?_;refine qy H (fun z H=>?_) (fun z H=>?_)
    ·refine ax ?_;exact nm H (jj n)
    ·refine ax ?_;exact nm H (jj n)
   ·refine pw _ rfl ?_;exact nj ⟨Q,H,jj l⟩
 ·rintro E w1 ⟨d,H,c,rfl,R,e⟩;refine qU ?_;obtain ⟨x3,O,U,G,H⟩:=oU H;refine yd (fun E wq=>E=[(6,.i .i64 d),(7,.b (decide (d < (x0.length:Int))&&decide (U=0)))] ∧ ∃ k:jL,c.le k∧St [] w F k [] wq) ?_ ?_
  ·
   rcases uO (decide (d < (x0.length:Int))) with a | a
   ·refine qd ?_;refine q3 ?_;refine qr (oO rfl rfl yV) ?_;refine qc ?_;refine ri 39 a ?_;refine q3 ?_;have q:=O;rw [qA a] at q;obtain ⟨B,P⟩:=oM q;obtain ⟨X,I,g⟩:=(m.mono R).el P;obtain ⟨V,rfl,L⟩:=I;replace g:=qj 3 g;have A:=g.rq;refine qi Tryz.underlying26 Ty.uu A B ?_;refine qr (tD 0 (oC.cells x3 V) Ty.VA Ty.uu rfl (g.mono e.agree) (by first | omega | rfl) rfl (qY rfl)) ?_;refine qc ?_;have p:=G;rw [qA a] at p;refine lp (YV e.oR L p) e ?_;intro ak u;refine qr (oO rfl rfl uD) ?_;refine q3 ?_;refine qN ?_;exact sj _ ⟨rfl,c,(jL.le.refl _),u⟩ ⟨rfl,(sq rfl (by first | rfl | (rw [a];first | done | rfl) | simp [a])),trivial⟩
   ·refine qd ?_;refine q3 ?_;refine qr (oO rfl rfl yV) ?_;refine qc ?_;refine ri 39 a ?_;refine pI ?_;refine pI ?_;refine pI ?_;refine pI ?_;refine q3 ?_;refine qN ?_;exact sj _ ⟨rfl,c,(jL.le.refl _),e⟩ ⟨rfl,(sq rfl (by first | rfl | (rw [a];first | done | rfl) | simp [a])),trivial⟩
  rintro E w6 ⟨rfl,k,ad,x⟩;refine tR ?_;exact rz H x
def Tj (x0:oC) (x1:lU):Option Bool :=
  some (decide (x0.of=x1.seq))
theorem aim {x0:oC} {x1:lU} {r:Bool} {a:jD} {Dd:Nat} {d:jD} {e:jD} (hA:Gd F w) (h:oF Loc.t F a x0.oN) (j:oF Part.t F d x1.oJ.parts) (k:oF Loc.t F e x1.oN) (f:xk F Dd [.i .i64 x1.seq,.s x1.oJ.name,d,e]) (H:Tj x0 x1=some r):pa aac K 144 [.agg (oC.cells x0 a),pl Dd 0] w fun v w'=>∃ (F':jL),v = .b r∧St [] w F F' [] w':=by
 refine ra Tryz.func144 ?_;have hS:=St.start hA;refine qs ?_;refine bx ([.i .i64 x0.seq,.i .i64 x0.of,a]) ?_;intro g l c;refine ax ?_;refine qr (wB Ty.uW rfl (f.mono c.agree) rfl) ?_;exact rz H c
def DB.k1:Option Int :=
  some (-1)
def DB.l2 (x0:List oC) (d:lU) (c:Int→Option Int):Int→Option Int
  | a =>
    if decide (a < (x0.length:Int)) then
      bd (ix x0 a) fun x6 =>
      bd (Tj x6 d) fun b =>
      if b then
        some a
      else
        c (wr (a+1))
    else
      DB.k1
def DB (x0:List oC) (a:lU):Option Int :=
  loop (DB.l2 x0 a) 0
theorem akh {x0:List oC} {a:lU} {r:Int} {c:jD} {uG:Nat} {g:jD} {h:jD} (hA:Gd F w) (j:oF oC.t F c x0) (k:oF Part.t F g a.oJ.parts) (l:oF Loc.t F h a.oN) (n:xk F uG [.i .i64 a.seq,.s a.oJ.name,g,h]) (H:DB x0 a=some r):pa aac K 166 [c,.f 144 [pl uG 0]] w fun v w'=>∃ (F':jL),v = .i .i64 r∧St [] w F F' [] w':=by
 refine ra Tryz.func166 ?_;have hS:=St.start hA;refine aq ?_;refine pe (jN (DB.k1=some r) [] hS) ?_ ?_
 ·refine ax ?_;refine lj hS (fun s:Int=>[(0,c),(1,.f 144 [pl uG 0]),(7,.i .i64 (x0.length:Int)),(8,.i .i64 s)]) H ?_;intro J D A P e b H;refine ay ?_;refine qy H (fun q H=>?_) (fun q H=>?_)
  ·obtain ⟨x6,y,I,u,H⟩:=oU H;obtain ⟨_,⟨L,rfl,x⟩,B⟩:=qa 3 (j.mono e) y;refine ay ?_;refine lp (aim b.oR x (mo k) (mo l) (n.mono e) u) b ?_;intro O d;refine qn ?_;refine qy H (fun p H=>?_) (fun p H=>?_)
   ·exact rz H d
   ·refine ax ?_;exact nm H (jj d)
  ·refine pw _ rfl ?_;exact nj ⟨H,jj b⟩
 ·rintro E M ⟨H,z,rfl,G,m⟩;exact rz H m
def TE (x0:List oC) (b:lU):Option Bool :=
  bd (DB x0 b) fun a =>
  some (decide (0≤a))
theorem aj9 {x0:List oC} {a:lU} {r:Bool} {c:jD} {uG:Nat} {d:jD} {e:jD} (hA:Gd F w) (g:oF oC.t F c x0) (h:oF Part.t F d a.oJ.parts) (j:oF Loc.t F e a.oN) (l:xk F uG [.i .i64 a.seq,.s a.oJ.name,d,e]) (H:TE x0 a=some r):pa aac K 143 [c,.f 144 [pl uG 0]] w fun v w'=>∃ (F':jL),v = .b r∧St [] w F F' [] w':=by
 refine ra Tryz.func143 ?_;have hS:=St.start hA;obtain ⟨n,m,H⟩:=oL H;refine ax ?_;refine lp (akh hS.oR g h j l m) hS ?_;intro p k;exact rz H k
def uM.k1 (x0:List (List UInt8)):Option (List (List UInt8)) :=
  some x0
def uM.k3 (a:Int) (b:Int→Option (List (List UInt8))):Option (List (List UInt8)) :=
  b (wr (a+1))
def uM.k4 (a:Int) (b:List (List UInt8)):Option (List (List UInt8)) :=
  bd (cut (α:=(List UInt8)) b a (b.length:Int)) fun d =>
  bd (Co b a.toNat ((b.length:Int).toNat - a.toNat) (ph 32 (0:UInt8))) fun qQ =>
  bd (cut (α:=(List UInt8)) qQ 0 a) fun c =>
  bd (nz qQ) fun _ =>
  some c
def uM.k6 (a:Int) (d:(Int × Int × (List (List UInt8)))→Option (List (List UInt8))) (b:Int) (c:List (List UInt8)):Option (List (List UInt8)) :=
  d (b,wr (a+1),c)
def uM.l5 (x0:List (List UInt8)) (a:Int) (e:(Int × Int × (List (List UInt8)))→Option (List (List UInt8))):(Int × Int × (List (List UInt8)))→Option (List (List UInt8))
  | (d,c,b) =>
    if decide (c < (((x0.length:Int).toNat - a.toNat:Nat):Int)) then
      bd (E7 b a.toNat ((x0.length:Int).toNat - a.toNat) c) fun f =>
      bd (E7 b a.toNat ((x0.length:Int).toNat - a.toNat) (wr (c - 1))) fun g =>
      if (!decide (f=g)) then
        bd (E7 b a.toNat ((x0.length:Int).toNat - a.toNat) c) fun h =>
        bd (ix b d) fun i =>
        uM.k6 c e (wr (d+1)) (b.set d.toNat h)
      else
        uM.k6 c e d b
    else
      uM.k4 d b
def uM.l2 (x0:List (List UInt8)) (b:Int→Option (List (List UInt8))):Int→Option (List (List UInt8))
  | a =>
    if decide (a < (x0.length:Int)) then
      bd (ix x0 a) fun x8 =>
      bd (ix x0 (wr (a - 1))) fun c =>
      if decide (x8=c) then
        bd (cut (α:=(List UInt8)) x0 a (x0.length:Int)) fun wN =>
        loop (uM.l5 x0 a) (a,1,x0)
      else
        uM.k3 a b
    else
      uM.k1 x0
def uM (x0:List (List UInt8)):Option (List (List UInt8)) :=
  if decide ((x0.length:Int) < 2) then
    some x0
  else
    loop (uM.l2 x0) 1
theorem aj5 {x0:List (List UInt8)} {r:(List (List UInt8))} {a:jD} (hS:St a.own w F F [.row rX a x0] w) (H:uM x0=some r):pa aac K 170 [a] w fun v w'=>∃ (F':jL) (M:jD),v=M∧St a.own w F F' [.row rX M (r)] w':=by
 refine rA Tryz.func170 ?_;refine ay ?_;refine qr (qD acv rfl (hS.rB (k:=0) rfl)) ?_;refine au ?_;refine qy H (fun V H=>?_) (fun V H=>?_)
 ·exact rx H hS
 ·refine qk ?_;refine pe (jN (uM.k1 x0=some r) [(0,a)] hS) ?_ ?_
  ·refine ax ?_;refine lj hS (fun s:Int=>[(0,a),(3,.i .i64 s)]) H ?_;intro bh y B w3 b5 b H;refine ay ?_;refine qr (qD acv rfl (b.rB (k:=0) rfl)) ?_;refine au ?_;refine qy H (fun ad H=>?_) (fun ad H=>?_)
   ·refine qk ?_;refine pe (jN (uM.k3 y bh=some r) [(0,a),(3,.i .i64 y)] b) ?_ ?_
    ·refine ay ?_;obtain ⟨x8,aX,bI,aR,H⟩:=oU H;refine rn ?_;obtain ⟨_,⟨rfl,a7⟩,bs⟩:=tt 32 0 b aX;obtain ⟨_,⟨rfl,ar⟩,bt⟩:=tt 32 0 b aR;refine au ?_;refine qr (oO rfl rfl (IT Ty.Jc rfl rfl (Jb a7 ar))) ?_;refine qn ?_;refine qy H (fun X H=>?_) (fun X H=>?_)
     ·obtain ⟨wN,aj,H⟩:=oL H;refine aq ?_;refine xq 0 y (x0.length:Int) rfl rfl rfl rfl acv Ty.uL rfl (.inr ⟨_,_,rfl,rfl⟩) (.inl ⟨rfl,rfl⟩) b rfl aj ?_;intro O bv u;refine au ?_;refine pe (fun E wq=>∃ h:Int,∃ m:List (List UInt8),uM.k4 h m=some r ∧ ∃ (p:jL),E=[(0,a),(3,.i .i64 h)]∧B.le p∧po b [.row rX a m] p wq) ?_ ?_
      ·refine ax ?_;refine qC (fun (s:Int × Int × (List (List UInt8))) E wq=>∃ (l:jL),E=[(0,a),(3,.i .i64 s.1),(4,O),(5,.i .i64 s.2.1)]∧B.le l∧po b [.row rX a s.2.2] l wq) H ?_ ?_
       ·exact lo (jj b)
       ·rintro bg ⟨j,L,z⟩ E bD hI H
        try dsimp only at hI
        obtain ⟨l,rfl,b4,d⟩:=hI;refine ay ?_;refine qy H (fun Y H=>?_) (fun Y H=>?_)
        ·refine qk ?_;refine pe (fun E wq=>∃ x:Int,∃ A:List (List UInt8),uM.k6 L bg x A=some r ∧ ∃ (q:jL),E=[(0,a),(3,.i .i64 x),(4,O),(5,.i .i64 L)]∧l.le q∧po d [.row rX a A] q wq) ?_ ?_
         ·refine ay ?_;obtain ⟨bi,aT,bj,aU,H⟩:=oU H;refine rn ?_;refine au ?_;obtain ⟨a8,bc,aY⟩:=Jv aT;obtain ⟨bp,aD,e⟩:=d.rowAt (k:=0) rfl aY;obtain ⟨rfl,a4⟩:=aD;replace e:=e.piece u bc;replace e:=qj 32 e;have ae:=e.rq;refine qi acv Ty.uL ae a8 ?_;refine qr (tD 0 (pb bi) Ty.yg Ty.uL rfl e (by first | omega | rfl) rfl (qY rfl)) ?_;refine au ?_;obtain ⟨a9,be,ba⟩:=Jv aU;obtain ⟨bq,aH,f⟩:=d.rowAt (k:=0) rfl ba;obtain ⟨rfl,a5⟩:=aH;replace f:=f.piece u be;replace f:=qj 32 f;have ah:=f.rq;refine qi acv Ty.uL ah a9 ?_;refine qr (tD 0 (pb bj) Ty.yg Ty.uL rfl f (by first | omega | rfl) rfl (qY rfl)) ?_;refine qr (oO rfl rfl (QC Ty.Jc rfl rfl (Jb a4 a5))) ?_;refine qn ?_;refine qy H (fun Z H=>?_) (fun Z H=>?_)
          ·obtain ⟨n,aV,bk,J,H⟩:=oU H;refine aq ?_;obtain ⟨aC,bf,bb⟩:=Jv aV;obtain ⟨br,aJ,g⟩:=d.rowAt (k:=0) rfl bb;obtain ⟨rfl,a6⟩:=aJ;replace g:=g.piece u bf;replace g:=qj 32 g;have ai:=g.rq;refine qi acv Ty.uL ai aC ?_;refine qr (tD 0 (pb n) Ty.yg Ty.uL rfl g (by first | omega | rfl) rfl (qY rfl)) ?_;obtain ⟨_,⟨rfl,bu⟩,_⟩:=tt 32 0 d J;refine au ?_;refine um (yx (c:=pb n) 0 (j.toNat) 0 bk n rfl rfl d rfl (oM J).2 (by first | rfl | (show _=_*32+_;omega)) rfl Ty.uL rfl (qY rfl) (by rintro cs ⟨rfl,c0⟩;exact ⟨rfl,a6⟩)) ?_;rintro _ bG S;refine ax ?_;exact nj ⟨wr (j+1),(z.set j.toNat n),H,jj S⟩
          ·refine ax ?_;exact nj ⟨j,z,H,jj d⟩
         ·rintro E bF ⟨x,A,H,q,rfl,b6,R⟩;refine ax ?_;exact nm H (jj R)
        ·refine pw _ rfl ?_;exact nj ⟨j,z,H,jj d⟩
      ·rintro E bA ⟨h,m,H,p,rfl,b2,D⟩;obtain ⟨b0,ak,qQ,am,H⟩:=oU H;refine aq ?_;refine xq 0 h (m.length:Int) rfl rfl rfl rfl acv Ty.uL rfl (.inr ⟨_,_,rfl,rfl⟩) (.inl ⟨rfl,rfl⟩) D rfl ak ?_;intro b8 bw aK;refine um (Ks (tr:=rX) (x0:=(ph 32 (0:UInt8))) 0 acv Ty.Fm ⟨rfl,(List.length_replicate)⟩ rfl D rfl aK am) ?_;rintro _ bC G;obtain ⟨b1,I,H⟩:=oL H;refine ax ?_;refine xq 0 0 h rfl rfl rfl rfl acv Ty.uL rfl (.inl ⟨rfl,rfl⟩) (.inr ⟨_,_,rfl,rfl⟩) G rfl I ?_;intro b9 bz aO;refine au ?_;obtain ⟨_,RX,H⟩:=oL H;have Q:=G.shrink 0 rfl aO I RX;exact rx H Q
     ·refine ax ?_;exact nj ⟨H,jj b⟩
    ·rintro E w7 ⟨H,F7,rfl,b7,U⟩;refine ax ?_;exact nm H (jj U)
   ·refine pw _ rfl ?_;exact nj ⟨H,jj b⟩
  ·rintro E w2 ⟨H,F2,rfl,b3,P⟩;exact rx H P
def Mv (x0:List (List UInt8)):Option (List (List UInt8)) :=
  bd (app (α:=(List UInt8)) ([]:List (List UInt8)) x0) fun l6 =>
  some l6
theorem ZJ {x0:List (List UInt8)} {r:(List (List UInt8))} {f:jD} (hA:Gd F w) (a:oF rX F f x0) (H:Mv x0=some r):pa aac K 152 [f] w fun v w'=>∃ (F':jL) (e:jD),v=e∧St [] w F F' [.row rX e (r)] w':=by
 refine rA Tryz.func152 ?_;have hS:=St.start hA;refine ay ?_;refine FL rfl rfl rfl rfl acv rfl rfl a.ln ?_;intro k i;refine qn ?_;refine uS rfl (fun c=>?_) (fun c=>?_)
 ·have d:x0=[]:=tP (i c);have H:(some []:Option (List (List UInt8)))=some r:=by first | (rw [d] at H;exact H) | (subst d;exact H)
  refine aq ?_;have g:=hS.sY rX;exact rx H g
 ·obtain ⟨l6,j,H⟩:=oL H;refine ax ?_;refine xm (sh (t:=rX) (vs:=[]) (xs:=([]:List (List UInt8))) acv Ty.Fg rfl trivial rfl rfl hS) ?_;rintro l n b;refine qc ?_;refine ap 0 b (a.src b.agree) j ?_;intro m p h;exact rx H h
def Tl (x0:List UInt8) (x1:mZ):Option Bool :=
  bd (IX x1.chunks x0) fun a =>
  some (!a.2)
theorem ain [Kn (ye aac) K]  {x0:List UInt8} {x1:mZ} {r:Bool} {Dd:Nat} {c:jD} {d:jD} {e:jD} {f:jD} (hA:Gd F w) (g:x0.length=32) (n:oF lU.t F c x1.oB) (h:oF Chunk.t F d x1.chunks) (p:oF oC.t F e x1.oD) (q:oF oH.t F f x1.oK) (k:xk F Dd [.i .i64 x1.seq,c,d,e,f]) (H:Tl x0 x1=some r):pa aac K 147 [.agg (pb x0),pl Dd 0] w fun v w'=>∃ (F':jL),v = .b r∧St [] w F F' [] w':=by
 refine ra Tryz.func147 ?_;have hS:=St.start hA;refine qs ?_;refine bx (pb x0) ?_;intro m u a;obtain ⟨s,l,H⟩:=oL H;refine ax ?_;refine qr (wB Ty.AV rfl (k.mono a.agree) rfl) ?_;refine au ?_;refine lp (QP a.oR h g l) a ?_;intro x j;refine au ?_;exact rz H j
def DA.k1:Option Int :=
  some (-1)
def DA.l2 (x0:List (List UInt8)) (d:mZ) (c:Int→Option Int):Int→Option Int
  | a =>
    if decide (a < (x0.length:Int)) then
      bd (ix x0 a) fun x6 =>
      bd (Tl x6 d) fun b =>
      if b then
        some a
      else
        c (wr (a+1))
    else
      DA.k1
def DA (x0:List (List UInt8)) (a:mZ):Option Int :=
  loop (DA.l2 x0 a) 0
theorem akf [Kn (ye aac) K]  {x0:List (List UInt8)} {a:mZ} {r:Int} {c:jD} {uG:Nat} {g:jD} {h:jD} {j:jD} {k:jD} (hA:Gd F w) (l:oF rX F c x0) (m:oF lU.t F g a.oB) (n:oF Chunk.t F h a.chunks) (p:oF oC.t F j a.oD) (q:oF oH.t F k a.oK) (x:xk F uG [.i .i64 a.seq,g,h,j,k]) (H:DA x0 a=some r):pa aac K 167 [c,.f 147 [pl uG 0]] w fun v w'=>∃ (F':jL),v = .i .i64 r∧St [] w F F' [] w':=by
 refine ra Tryz.func167 ?_;have hS:=St.start hA;refine aq ?_;refine pe (jN (DA.k1=some r) [] hS) ?_ ?_
 ·refine ax ?_;refine lj hS (fun s:Int=>[(0,c),(1,.f 147 [pl uG 0]),(7,.i .i64 (x0.length:Int)),(8,.i .i64 s)]) H ?_;intro P L I S e b H;refine ay ?_;refine qy H (fun z H=>?_) (fun z H=>?_)
  ·obtain ⟨x6,D,O,B,H⟩:=oU H;obtain ⟨_,⟨rfl,A⟩,J⟩:=qa 32 (l.mono e) D;refine ay ?_;refine lp (ain b.oR A (mo m) (mo n) (mo p) (mo q) (x.mono e) B) b ?_;intro R d;refine qn ?_;refine qy H (fun y H=>?_) (fun y H=>?_)
   ·exact rz H d
   ·refine ax ?_;exact nm H (jj d)
  ·refine pw _ rfl ?_;exact nj ⟨H,jj b⟩
 ·rintro E Q ⟨H,G,rfl,M,u⟩;exact rz H u
def TD (x0:List (List UInt8)) (b:mZ):Option Bool :=
  bd (DA x0 b) fun a =>
  some (decide (0≤a))
theorem aj8 [Kn (ye aac) K]  {x0:List (List UInt8)} {a:mZ} {r:Bool} {c:jD} {uG:Nat} {d:jD} {e:jD} {g:jD} {h:jD} (hA:Gd F w) (j:oF rX F c x0) (k:oF lU.t F d a.oB) (l:oF Chunk.t F e a.chunks) (m:oF oC.t F g a.oD) (n:oF oH.t F h a.oK) (q:xk F uG [.i .i64 a.seq,d,e,g,h]) (H:TD x0 a=some r):pa aac K 145 [c,.f 147 [pl uG 0]] w fun v w'=>∃ (F':jL),v = .b r∧St [] w F F' [] w':=by
 refine ra Tryz.func145 ?_;have hS:=St.start hA;obtain ⟨u,s,H⟩:=oL H;refine ax ?_;refine lp (akf hS.oR j k l m n q s) hS ?_;intro x p;exact rz H p
def Mh (x0:lU) (x1:lU):Option Bool :=
  some (x0.oJ.name == x1.oJ.name)
theorem YX {x0:lU} {x1:lU} {r:Bool} {a:jD} {c:jD} {Dd:Nat} {e:jD} {f:jD} (hA:Gd F w) (j:oF Part.t F a x0.oJ.parts) (k:oF Loc.t F c x0.oN) (l:oF Part.t F e x1.oJ.parts) (m:oF Loc.t F f x1.oN) (g:xk F Dd [.i .i64 x1.seq,.s x1.oJ.name,e,f]) (H:Mh x0 x1=some r):pa aac K 94 [.agg (lU.cells x0 a c),pl Dd 0] w fun v w'=>∃ (F':jL),v = .b r∧St [] w F F' [] w':=by
 refine ra Tryz.func94 ?_;have hS:=St.start hA;refine qs ?_;refine bx ([.i .i64 x0.seq,.s x0.oJ.name,a,c]) ?_;intro h n d;refine ax ?_;refine qr (wB Ty.IZ rfl (g.mono d.agree) rfl) ?_;exact rz H d
def CM.k1:Option Int :=
  some (-1)
def CM.l2 (x0:List lU) (d:lU) (c:Int→Option Int):Int→Option Int
  | a =>
    if decide (a < (x0.length:Int)) then
      bd (ix x0 a) fun x6 =>
      bd (Mh x6 d) fun b =>
      if b then
        some a
      else
        c (wr (a+1))
    else
      CM.k1
def CM (x0:List lU) (a:lU):Option Int :=
  loop (CM.l2 x0 a) 0
theorem akk {x0:List lU} {a:lU} {r:Int} {c:jD} {uG:Nat} {g:jD} {h:jD} (hA:Gd F w) (j:oF lU.t F c x0) (k:oF Part.t F g a.oJ.parts) (l:oF Loc.t F h a.oN) (n:xk F uG [.i .i64 a.seq,.s a.oJ.name,g,h]) (H:CM x0 a=some r):pa aac K 113 [c,.f 94 [pl uG 0]] w fun v w'=>∃ (F':jL),v = .i .i64 r∧St [] w F F' [] w':=by
 refine ra adJ ?_;have hS:=St.start hA;refine aq ?_;refine pe (jN (CM.k1=some r) [] hS) ?_ ?_
 ·refine ax ?_;refine lj hS (fun s:Int=>[(0,c),(1,.f 94 [pl uG 0]),(7,.i .i64 (x0.length:Int)),(8,.i .i64 s)]) H ?_;intro L G B R e b H;refine ay ?_;refine qy H (fun q H=>?_) (fun q H=>?_)
  ·obtain ⟨x6,z,J,u,H⟩:=oU H;obtain ⟨_,⟨M,O,rfl,x,y⟩,D⟩:=qa 4 (j.mono e) z;refine ay ?_;refine lp (YX b.oR x y (mo k) (mo l) (n.mono e) u) b ?_;intro Q d;refine qn ?_;refine qy H (fun p H=>?_) (fun p H=>?_)
   ·exact rz H d
   ·refine ax ?_;exact nm H (jj d)
  ·refine pw _ rfl ?_;exact nj ⟨H,jj b⟩
 ·rintro E P ⟨H,A,rfl,I,m⟩;exact rz H m
def zn.k1 (a:Int) (l6:List lU):Option (List lU) :=
  bd (cut (α:=lU) l6 a (l6.length:Int)) fun l7 =>
  bd (Co l6 a.toNat ((l6.length:Int).toNat - a.toNat) (lU.mk 0 (oP.mk [] []) [])) fun l9 =>
  bd (cut (α:=lU) l9 0 a) fun sI =>
  bd (nz l9) fun _ =>
  some sI
def zn.k3 (a:Int) (c:(Int × Int × (List lU))→Option (List lU)) (b:Int) (qQ:List lU):Option (List lU) :=
  c (b,wr (a+1),qQ)
def zn.l2 (f:lU) (c:(Int × Int × (List lU))→Option (List lU)):(Int × Int × (List lU))→Option (List lU)
  | (a,b,pN) =>
    if decide (b < (pN.length:Int)) then
      bd (ix pN b) fun d =>
      bd (Mh d f) fun e =>
      if (!e) then
        bd (ix pN a) fun g =>
        zn.k3 b c (wr (a+1)) (pN.set a.toNat d)
      else
        zn.k3 b c a pN
    else
      zn.k1 a pN
def zn (x0:List lU) (b:lU):Option (List lU) :=
  bd (CM x0 b) fun a =>
  if decide (a=(-1)) then
    some x0
  else
    loop (zn.l2 b) (a,wr (a+1),x0)
theorem akd {x0:List lU} {g:lU} {r:(List lU)} {a:jD} {uG:Nat} {Q:jD} {R:jD} (hS:St a.own w F F [.row lU.t a x0] w) (A:oF Part.t F Q g.oJ.parts) (B:oF Loc.t F R g.oN) (J:xk F uG [.i .i64 g.seq,.s g.oJ.name,Q,R]) (H:zn x0 g=some r):pa aac K 62 [a,.f 94 [pl uG 0]] w fun v w'=>∃ (F':jL) (P:jD),v=P∧St a.own w F F' [.row lU.t P (r)] w':=by
 refine ra Tryz.func62 ?_;obtain ⟨r1,ah,H⟩:=oL H;refine ax ?_;refine lp (akk (Gd.now hS.wf) (hS.uK (k:=0) rfl) (A.mono hS.agree) (B.mono hS.agree) (J.mono hS.agree) ah) hS ?_;intro w2 l;refine ay ?_;refine qy H (fun Y H=>?_) (fun Y H=>?_)
 ·exact rx H l
 ·refine qk ?_;refine pe (fun E wq=>∃ e:Int,∃ l6:List lU,zn.k1 e l6=some r ∧ ∃ (n:jL),E=[(0,a),(5,.i .i64 e)]∧F.le n∧po l [.row lU.t a l6] n wq) ?_ ?_
  ·refine ax ?_;refine qC (fun (s:Int × Int × (List lU)) E wq=>∃ (h:jL),E=[(0,a),(1,.f 94 [pl uG 0]),(5,.i .i64 s.1),(6,.i .i64 s.2.1)]∧F.le h∧po l [.row lU.t a s.2.2] h wq) H ?_ ?_
   ·exact lo (jj l)
   ·rintro a4 ⟨d,O,pN⟩ E bc hI H
    try dsimp only at hI
    obtain ⟨h,rfl,ar,j⟩:=hI;refine ay ?_;refine qr (qD aam rfl (j.rB (k:=0) rfl)) ?_;refine au ?_;refine qy H (fun X H=>?_) (fun X H=>?_)
    ·refine qk ?_;refine pe (fun E wq=>∃ x:Int,∃ qQ:List lU,zn.k3 O a4 x qQ=some r ∧ ∃ (m:jL),E=[(0,a),(1,.f 94 [pl uG 0]),(5,.i .i64 x),(6,.i .i64 O)]∧h.le m∧po j [.row lU.t a qQ] m wq) ?_ ?_
     ·obtain ⟨b,am,H⟩:=oL H;obtain ⟨_,⟨y,z,rfl,q,u⟩,aC⟩:=tt 4 0 j am;refine ax ?_;refine al ?_;intro a8 bg a9;refine sb 0 ([.i .i64 b.seq,.s b.oJ.name,y,z]) ?_;intro bh G;obtain ⟨aX,ai,H⟩:=oL H;refine ax ?_;refine lp (YX G.oR q u (mo A) (mo B) (J.mono ar) ai) G ?_;intro bi p;refine au ?_;refine qy H (fun Z H=>?_) (fun Z H=>?_)
      ·obtain ⟨a5,M,H⟩:=oL H;obtain ⟨_,⟨aY,ba,rfl,aD,aH⟩,_⟩:=tt 4 1 p M;refine aq ?_;refine um (yx (c:=[.i .i64 b.seq,.s b.oJ.name,y,z]) 1 (d.toNat) 0 a5 b rfl rfl p rfl (oM M).2 (by first | rfl | (show _=_*4+_;omega)) rfl Ty.sJ (by simp only [List.all_cons,List.all_nil,List.all_append,q.ln.one,u.ln.one];rfl) (qY rfl) (by rintro cs ⟨a2,a3,rfl,b2,b3⟩;exact ⟨y,z,rfl,q,u⟩)) ?_;rintro _ bj V;refine ax ?_;exact nj ⟨wr (d+1),(pN.set d.toNat b),H,jj (pk [1] V)⟩
      ·refine ax ?_;exact nj ⟨d,pN,H,jj (pk [1] p)⟩
     ·rintro E bf ⟨x,qQ,H,m,rfl,aO,U⟩;refine ax ?_;exact nm H (jj U)
    ·refine pw _ rfl ?_;exact nj ⟨d,pN,H,jj j⟩
  ·rintro E w4 ⟨e,l6,H,n,rfl,aR,I⟩;obtain ⟨l7,ad,l9,ae,H⟩:=oU H;refine aq ?_;refine xq 0 e (l6.length:Int) rfl rfl rfl rfl aam Ty.sJ rfl (.inr ⟨_,_,rfl,rfl⟩) (.inl ⟨rfl,rfl⟩) I rfl ad ?_;intro q8 aK ak;refine um (Ks (tr:=lU.t) (x0:=(lU.mk 0 (oP.mk [] []) [])) 0 aam Ty.T2 ⟨.sl none 0 (.k 0),.sl none 0 (.k 0),rfl,(oF.nil _),(oF.nil _)⟩ rfl I rfl ak ae) ?_;rintro _ bb D;obtain ⟨sI,L,H⟩:=oL H;refine ax ?_;refine xq 0 0 e rfl rfl rfl rfl aam Ty.sJ rfl (.inl ⟨rfl,rfl⟩) (.inr ⟨_,_,rfl,rfl⟩) D rfl L ?_;intro aT aJ aj;refine au ?_;obtain ⟨_,Lz,H⟩:=oL H;have S:=D.shrink 0 rfl aj L Lz;exact rx H S
def El (x0:List Loc):Option (List Loc) :=
  bd (app (α:=Loc) ([]:List Loc) x0) fun l6 =>
  some l6
theorem Mw {x0:List Loc} {r:(List Loc)} {f:jD} (hA:Gd F w) (a:oF Loc.t F f x0) (H:El x0=some r):pa aac K 95 [f] w fun v w'=>∃ (F':jL) (e:jD),v=e∧St [] w F F' [.row Loc.t e (r)] w':=by
 refine rA Tryz.func95 ?_;have hS:=St.start hA;refine ay ?_;refine FL rfl rfl rfl rfl aaT rfl rfl a.ln ?_;intro k i;refine qn ?_;refine uS rfl (fun c=>?_) (fun c=>?_)
 ·have d:x0=[]:=tP (i c);have H:(some []:Option (List Loc))=some r:=by first | (rw [d] at H;exact H) | (subst d;exact H)
  refine aq ?_;have g:=hS.sY Loc.t;exact rx H g
 ·obtain ⟨l6,j,H⟩:=oL H;refine ax ?_;refine xm (sh (t:=Loc.t) (vs:=[]) (xs:=([]:List Loc)) aaT Ty.AF rfl trivial rfl rfl hS) ?_;rintro l n b;refine qc ?_;refine ap 0 b (a.src b.agree) j ?_;intro m p h;exact rx H h
def uN.k1 (x0:List Loc):Option (List Loc) :=
  some x0
def uN.k3 (a:Int) (b:Int→Option (List Loc)):Option (List Loc) :=
  b (wr (a+1))
def uN.k4 (a:Int) (b:List Loc):Option (List Loc) :=
  bd (cut (α:=Loc) b a (b.length:Int)) fun d =>
  bd (Co b a.toNat ((b.length:Int).toNat - a.toNat) (Loc.mk 0 0 0 0)) fun qQ =>
  bd (cut (α:=Loc) qQ 0 a) fun c =>
  bd (nz qQ) fun _ =>
  some c
def uN.k6 (a:Int) (d:(Int × Int × (List Loc))→Option (List Loc)) (b:Int) (c:List Loc):Option (List Loc) :=
  d (b,wr (a+1),c)
def uN.l5 (x0:List Loc) (a:Int) (e:(Int × Int × (List Loc))→Option (List Loc)):(Int × Int × (List Loc))→Option (List Loc)
  | (d,c,b) =>
    if decide (c < (((x0.length:Int).toNat - a.toNat:Nat):Int)) then
      bd (E7 b a.toNat ((x0.length:Int).toNat - a.toNat) c) fun f =>
      bd (E7 b a.toNat ((x0.length:Int).toNat - a.toNat) (wr (c - 1))) fun g =>
      if (!decide (f=g)) then
        bd (E7 b a.toNat ((x0.length:Int).toNat - a.toNat) c) fun h =>
        bd (ix b d) fun i =>
        uN.k6 c e (wr (d+1)) (b.set d.toNat h)
      else
        uN.k6 c e d b
    else
      uN.k4 d b
def uN.l2 (x0:List Loc) (b:Int→Option (List Loc)):Int→Option (List Loc)
  | a =>
    if decide (a < (x0.length:Int)) then
      bd (ix x0 a) fun x8 =>
      bd (ix x0 (wr (a - 1))) fun c =>
      if decide (x8=c) then
        bd (cut (α:=Loc) x0 a (x0.length:Int)) fun wN =>
        loop (uN.l5 x0 a) (a,1,x0)
      else
        uN.k3 a b
    else
      uN.k1 x0
def uN (x0:List Loc):Option (List Loc) :=
  if decide ((x0.length:Int) < 2) then
    some x0
  else
    loop (uN.l2 x0) 1
theorem aj6 {x0:List Loc} {r:(List Loc)} {a:jD} (hS:St a.own w F F [.row Loc.t a x0] w) (H:uN x0=some r):pa aac K 98 [a] w fun v w'=>∃ (F':jL) (M:jD),v=M∧St a.own w F F' [.row Loc.t M (r)] w':=by
 refine rA Tryz.func98 ?_;refine ay ?_;refine qr (qD aaT rfl (hS.rB (k:=0) rfl)) ?_;refine au ?_;refine qy H (fun V H=>?_) (fun V H=>?_)
 ·exact rx H hS
 ·refine qk ?_;refine pe (jN (uN.k1 x0=some r) [(0,a)] hS) ?_ ?_
  ·refine ax ?_;refine lj hS (fun s:Int=>[(0,a),(3,.i .i64 s)]) H ?_;intro bb y B w3 bw b H;refine ay ?_;refine qr (qD aaT rfl (b.rB (k:=0) rfl)) ?_;refine au ?_;refine qy H (fun ad H=>?_) (fun ad H=>?_)
   ·refine qk ?_;refine pe (jN (uN.k3 y bb=some r) [(0,a),(3,.i .i64 y)] b) ?_ ?_
    ·refine ay ?_;obtain ⟨x8,aO,bB,aD,H⟩:=oU H;refine rn ?_;obtain ⟨_,rfl,bm⟩:=tt 4 0 b aO;obtain ⟨_,rfl,bn⟩:=tt 4 0 b aD;refine au ?_;refine qr (oO rfl rfl (IT Ty.WJ rfl rfl (Loc.WI _ _))) ?_;refine qn ?_;refine qy H (fun X H=>?_) (fun X H=>?_)
     ·obtain ⟨wN,aj,H⟩:=oL H;refine aq ?_;refine xq 0 y (x0.length:Int) rfl rfl rfl rfl aaT Ty.vz rfl (.inr ⟨_,_,rfl,rfl⟩) (.inl ⟨rfl,rfl⟩) b rfl aj ?_;intro O bo u;refine au ?_;refine pe (fun E wq=>∃ j:Int,∃ n:List Loc,uN.k4 j n=some r ∧ ∃ (p:jL),E=[(0,a),(3,.i .i64 j)]∧B.le p∧po b [.row Loc.t a n] p wq) ?_ ?_
      ·refine ax ?_;refine qC (fun (s:Int × Int × (List Loc)) E wq=>∃ (m:jL),E=[(0,a),(3,.i .i64 s.1),(4,O),(5,.i .i64 s.2.1)]∧B.le m∧po b [.row Loc.t a s.2.2] m wq) H ?_ ?_
       ·exact lo (jj b)
       ·rintro ba ⟨l,L,z⟩ E b6 hI H
        try dsimp only at hI
        obtain ⟨m,rfl,bv,d⟩:=hI;refine ay ?_;refine qy H (fun Y H=>?_) (fun Y H=>?_)
        ·refine qk ?_;refine pe (fun E wq=>∃ x:Int,∃ A:List Loc,uN.k6 L ba x A=some r ∧ ∃ (q:jL),E=[(0,a),(3,.i .i64 x),(4,O),(5,.i .i64 L)]∧m.le q∧po d [.row Loc.t a A] q wq) ?_ ?_
         ·refine ay ?_;obtain ⟨bc,aH,be,aJ,H⟩:=oU H;refine rn ?_;refine au ?_;obtain ⟨ar,aV,aR⟩:=Jv aH;obtain ⟨bi,a6,f⟩:=d.rowAt (k:=0) rfl aR;obtain rfl:=a6;replace f:=f.piece u aV;replace f:=qj 4 f;have ae:=f.rq;refine qi aaT Ty.vz ae ar ?_;refine qr (tD 0 (Loc.cells bc) Ty.AQ Ty.vz rfl f (by first | omega | rfl) rfl (qY rfl)) ?_;refine au ?_;obtain ⟨a4,aX,aT⟩:=Jv aJ;obtain ⟨bj,a7,g⟩:=d.rowAt (k:=0) rfl aT;obtain rfl:=a7;replace g:=g.piece u aX;replace g:=qj 4 g;have ah:=g.rq;refine qi aaT Ty.vz ah a4 ?_;refine qr (tD 0 (Loc.cells be) Ty.AQ Ty.vz rfl g (by first | omega | rfl) rfl (qY rfl)) ?_;refine qr (oO rfl rfl (QC Ty.WJ rfl rfl (Loc.WI _ _))) ?_;refine qn ?_;refine qy H (fun Z H=>?_) (fun Z H=>?_)
          ·obtain ⟨e,aK,bf,J,H⟩:=oU H;refine aq ?_;obtain ⟨a5,aY,aU⟩:=Jv aK;obtain ⟨bk,a8,h⟩:=d.rowAt (k:=0) rfl aU;obtain rfl:=a8;replace h:=h.piece u aY;replace h:=qj 4 h;have ai:=h.rq;refine qi aaT Ty.vz ai a5 ?_;refine qr (tD 0 (Loc.cells e) Ty.AQ Ty.vz rfl h (by first | omega | rfl) rfl (qY rfl)) ?_;obtain ⟨_,rfl,_⟩:=tt 4 0 d J;refine au ?_;refine um (yx (c:=[.i .i64 e.pE,.i .i64 e.file,.i .i64 e.off,.i .i64 e.len]) 0 (l.toNat) 0 bf e rfl rfl d rfl (oM J).2 (by first | rfl | (show _=_*4+_;omega)) rfl Ty.vz rfl (qY rfl) (by rintro cs rfl;rfl)) ?_;rintro _ b9 S;refine ax ?_;exact nj ⟨wr (l+1),(z.set l.toNat e),H,jj S⟩
          ·refine ax ?_;exact nj ⟨l,z,H,jj d⟩
         ·rintro E b8 ⟨x,A,H,q,rfl,bz,R⟩;refine ax ?_;exact nm H (jj R)
        ·refine pw _ rfl ?_;exact nj ⟨l,z,H,jj d⟩
      ·rintro E b3 ⟨j,n,H,p,rfl,bt,D⟩;obtain ⟨br,ak,qQ,am,H⟩:=oU H;refine aq ?_;refine xq 0 j (n.length:Int) rfl rfl rfl rfl aaT Ty.vz rfl (.inr ⟨_,_,rfl,rfl⟩) (.inl ⟨rfl,rfl⟩) D rfl ak ?_;intro b1 bp a9;refine um (Ks (tr:=Loc.t) (x0:=(Loc.mk 0 0 0 0)) 0 aaT Ty.aai rfl rfl D rfl a9 am) ?_;rintro _ b5 G;obtain ⟨bs,I,H⟩:=oL H;refine ax ?_;refine xq 0 0 j rfl rfl rfl rfl aaT Ty.vz rfl (.inl ⟨rfl,rfl⟩) (.inr ⟨_,_,rfl,rfl⟩) G rfl I ?_;intro b2 bq aC;refine au ?_;obtain ⟨_,RX,H⟩:=oL H;have Q:=G.shrink 0 rfl aC I RX;exact rx H Q
     ·refine ax ?_;exact nj ⟨H,jj b⟩
    ·rintro E w7 ⟨H,F7,rfl,b0,U⟩;refine ax ?_;exact nm H (jj U)
   ·refine pw _ rfl ?_;exact nj ⟨H,jj b⟩
  ·rintro E w2 ⟨H,F2,rfl,bu,P⟩;exact rx H P
def Ac (x0:Int) (x1:Int) (x2:Int):Option Bool :=
  some (decide (x1≤x0)&&decide (x0≤x2))
theorem Bs {x0:Int} {x1:Int} {x2:Int} {r:Bool} (hA:Gd F w) (H:Ac x0 x1 x2=some r):pa aac K 74 [.i .i64 x0,.i .i64 x1,.i .i64 x2] w fun v w'=>∃ (F':jL),v = .b r∧St [] w F F' [] w':=by
 refine BM Tryz.func74 ?_;have hS:=St.start hA;refine az ?_;exact rz H hS
def Ce.k1 (x0:List oH):Option Bool :=
  bd (Ac (x0.length:Int) 1 8) fun a =>
  some a
def Ce.l2 (x0:List oH) (e:Int→Option Bool):Int→Option Bool
  | a =>
    if decide (a < (x0.length:Int)) then
      bd (ix x0 a) fun x8 =>
      bd (only (decide (x8.state=2)) (Ac x8.files 1 65535) false) fun c =>
      bd (Ac x8.AD 0 1) fun b =>
      bd (only (!(!b)) (Ac x8.Af 0 1048576) false) fun d =>
      if (((!b)||(!d))||((!(decide (x8.state=2)&&c))&&(!((decide (x8.state=1)||decide (x8.state=3))&&decide (x8.files=0))))) then
        some false
      else
        e (wr (a+1))
    else
      Ce.k1 x0
def Ce (x0:List oH):Option Bool :=
  loop (Ce.l2 x0) 0
theorem ab3 {x0:List oH} {r:Bool} {a:jD} (hA:Gd F w) (h:oF oH.t F a x0) (H:Ce x0=some r):pa aac K 75 [a] w fun v w'=>∃ (F':jL),v = .b r∧St [] w F F' [] w':=by
 refine rA Tryz.func75 ?_;have hS:=St.start hA;refine aq ?_;refine pe (jN (Ce.k1 x0=some r) [(0,a)] hS) ?_ ?_
 ·refine ax ?_;refine lj hS (fun s:Int=>[(0,a),(7,a),(8,.i .i64 (x0.length:Int)),(9,.i .i64 s)]) H ?_;intro R J B w4 z k H;refine ay ?_;refine qy H (fun m H=>?_) (fun m H=>?_)
  ·obtain ⟨x8,x,H⟩:=oL H;obtain ⟨_,rfl,I⟩:=qa 4 (h.mono z) x;refine ay ?_;refine al ?_;intro D U G;refine sb 0 ([.i .i64 x8.AD,.i .i64 x8.Af,.i .i64 x8.state,.i .i64 x8.files]) ?_;intro V d;obtain ⟨M,n,H⟩:=oL H;refine az ?_;refine gw d n (fun y=>Bs d.oR y) ?_;intro X e;refine pQ.now ?_;obtain ⟨P,q,Q,u,H⟩:=oU H;refine az ?_;refine lp (Bs e.oR q) e ?_;intro Y f;refine aw ?_;refine gw f u (fun y=>Bs f.oR y) ?_;intro ad g;refine pQ.now ?_;refine aw ?_;refine qy H (fun l H=>?_) (fun l H=>?_)
   ·exact rz H g
   ·refine ax ?_;exact nm H (jj (pk [] g))
  ·refine pw _ rfl ?_;exact nj ⟨H,jj k⟩
 ·rintro E S ⟨H,A,rfl,L,c⟩;obtain ⟨O,p,H⟩:=oL H;refine aq ?_;refine lp (Bs c.oR p) c ?_;intro Z j;exact rz H j
def Nw (x0:Loc) (x1:Loc):Option Bool :=
  if decide (x0.pE≠x1.pE) then
    some (decide (x1.pE < x0.pE))
  else
    if decide (x0.file≠x1.file) then
      some (decide (x1.file < x0.file))
    else
      some (decide (x1.off < x0.off))
theorem abY {x0:Loc} {x1:Loc} {r:Bool} (hA:Gd F w) (H:Nw x0 x1=some r):pa aac K 159 [.agg (Loc.cells x0),.agg (Loc.cells x1)] w fun v w'=>∃ (F':jL),v = .b r∧St [] w F F' [] w':=by
 refine ra Tryz.func159 ?_;have hS:=St.start hA;refine qs ?_;refine bx ([.i .i64 x0.pE,.i .i64 x0.file,.i .i64 x0.off,.i .i64 x0.len]) ?_;intro e h g;refine bx ([.i .i64 x1.pE,.i .i64 x1.file,.i .i64 x1.off,.i .i64 x1.len]) ?_;intro f j a;refine ay ?_;refine qy H (fun c H=>?_) (fun c H=>?_)
 ·exact rz H a
 ·refine aq ?_;refine qy H (fun d H=>?_) (fun d H=>?_)
  ·exact rz H a
  ·refine ax ?_;exact rz H a
def AU.k1:Option Bool :=
  some true
def AU.l2 (x0:mZ) (x1:List Loc) (h:Int→Option Bool):Int→Option Bool
  | b =>
    if decide (b < (x1.length:Int)) then
      bd (ix x1 b) fun x8 =>
      bd (Ac x8.pE 0 (wr ((x0.oK.length:Int) - 1))) fun a =>
      bd (only (!(!a)) (ix x0.oK x8.pE) (oH.mk 0 0 0 0)) fun c =>
      bd (only (!((!a)||decide (c.state≠2))) (ix x0.oK x8.pE) (oH.mk 0 0 0 0)) fun i =>
      bd (only (!((!a)||decide (c.state≠2))) (Ac x8.file 1 i.files) false) fun d =>
      bd (only (!(((!a)||decide (c.state≠2))||(!d))) (Ac x8.off 0 16777215) false) fun e =>
      bd (only (!((((!a)||decide (c.state≠2))||(!d))||(!e))) (Ac x8.len 13 8013) false) fun f =>
      bd (only ((!(((((!a)||decide (c.state≠2))||(!d))||(!e))||(!f)))&&decide (0 < b)) (ix x1 (wr (b - 1))) (Loc.mk 0 0 0 0)) fun j =>
      bd (only ((!(((((!a)||decide (c.state≠2))||(!d))||(!e))||(!f)))&&decide (0 < b)) (Nw x8 j) false) fun g =>
      if ((((((!a)||decide (c.state≠2))||(!d))||(!e))||(!f))||(decide (0 < b)&&(!g))) then
        some false
      else
        h (wr (b+1))
    else
      AU.k1
def AU (x0:mZ) (x1:List Loc):Option Bool :=
  if decide (200 < (x1.length:Int)) then
    some false
  else
    loop (AU.l2 x0 x1) 0
set_option maxHeartbeats 2000000 in
theorem QQ {x0:mZ} {x1:List Loc} {r:Bool} {p:jD} {x:jD} {z:jD} {A:jD} {d:jD} (hA:Gd F w) (ai:oF lU.t F p x0.oB) (aj:oF Chunk.t F x x0.chunks) (ak:oF oC.t F z x0.oD) (a:oF oH.t F A x0.oK) (e:oF Loc.t F d x1) (H:AU x0 x1=some r):pa aac K 123 [.agg (mZ.cells x0 p x z A),d] w fun v w'=>∃ (F':jL),v = .b r∧St [] w F F' [] w':=by
 refine ra Tryz.func123 ?_;have hS:=St.start hA;refine qs ?_;refine bx ([.i .i64 x0.seq,p,x,z,A]) ?_;intro G w1 f;refine ay ?_;refine qy H (fun P H=>?_) (fun P H=>?_)
 ·exact rz H f
 ·refine qk ?_;refine pe (jO (AU.k1=some r) [] f []) ?_ ?_
  ·refine ax ?_;refine lj f (fun s:Int=>[(1,d),(2,pl G 0),(10,d),(11,.i .i64 (x1.length:Int)),(12,.i .i64 s)]) H ?_;intro aD i5 F4 w4 Z J H;refine ay ?_;refine qy H (fun Q H=>?_) (fun Q H=>?_)
   ·obtain ⟨x8,Y,H⟩:=oL H;obtain ⟨_,rfl,ar⟩:=qa 4 (e.mono Z) Y;refine ay ?_;refine al ?_;intro ah aJ am;refine qc ?_;refine sb 0 ([.i .i64 x8.pE,.i .i64 x8.file,.i .i64 x8.off,.i .i64 x8.len]) ?_;intro aO j;refine ay ?_;obtain ⟨a6,R,ba,m,H⟩:=oU H;obtain ⟨bb,n,a7,S,H⟩:=oU H;obtain ⟨a8,U,a9,V,H⟩:=oU H;obtain ⟨bc,D,aC,X,H⟩:=oU H;refine rf j ?_;refine au ?_;refine lq (Bs j.oR R) j ?_;intro aR B;refine aw ?_;refine ge (mo a) m ?_;refine ge (mo a) m ?_;refine ge (mo a) m ?_;refine aw ?_;refine ge (mo a) n ?_;refine ge (mo a) n ?_;refine ge (mo a) n ?_;refine gw B S (fun y=>Bs B.oR y) ?_;intro aV k;refine qw k ?_;refine aw ?_;refine gw k U (fun y=>Bs k.oR y) ?_;intro aX l;refine qw l ?_;refine aw ?_;refine gw l V (fun y=>Bs l.oR y) ?_;intro aY c;refine qw c ?_;refine aw ?_;refine KC (v:=.agg (Loc.cells x8)) rfl rfl rfl rfl (fun ⟨L,M,_⟩=>?_) ?_
    ·rw [L,M];exact (qq (yy 0 (Loc.cells x8) Ty.AQ Ty.vz (wU _) rfl c rfl (fun q u h=>xd (post:=[]) rfl h)) ·)
    refine aw ?_;refine xS (mo e) D ?_;refine xS (mo e) D ?_;refine Rs c X (fun y=>abY c.oR y) ?_;intro aK g;refine qw g ?_;refine aw ?_;refine qy H (fun O H=>?_) (fun O H=>?_)
    ·exact rz H g
    ·refine ax ?_;exact nm H (jj (pk [1] g))
   ·refine pw _ rfl ?_;exact nj ⟨H,jj (pk [] J)⟩
  ·rintro E w3 ⟨H,F3,rfl,a5,I⟩;exact rz H I
def Cc.k1 (x0:mZ):Option Bool :=
  some (decide ((x0.chunks.length:Int)≤200))
def Cc.l2 (x0:mZ) (e:Int→Option Bool):Int→Option Bool
  | a =>
    if decide (a < (x0.chunks.length:Int)) then
      bd (ix x0.chunks a) fun x7 =>
      bd (only (decide (0 < a)) (ix x0.chunks (wr (a - 1))) (Chunk.mk (ph 32 (0:UInt8)) false [] [])) fun f =>
      bd (only (decide (0 < a)) (Nx f.id x7.id) 0) fun b =>
      bd (only (!(decide (0 < a)&&decide (0≤b))) (AU x0 x7.oN) false) fun c =>
      bd (only ((!(((decide (0 < a)&&decide (0≤b))||(!c))||((!x7.pX)&&(decide (0 < (x7.data.length:Int))||decide ((x7.oN.length:Int)=0)))))&&x7.pX) (Ac (x7.data.length:Int) 1 64) false) fun d =>
      if ((((decide (0 < a)&&decide (0≤b))||(!c))||((!x7.pX)&&(decide (0 < (x7.data.length:Int))||decide ((x7.oN.length:Int)=0))))||(x7.pX&&(!d))) then
        some false
      else
        e (wr (a+1))
    else
      Cc.k1 x0
def Cc (x0:mZ):Option Bool :=
  loop (Cc.l2 x0) 0
set_option maxHeartbeats 2000000 in
theorem abZ [Kn (ye aac) K]  {x0:mZ} {r:Bool} {f:jD} {c:jD} {g:jD} {j:jD} (hA:Gd F w) (R:oF lU.t F f x0.oB) (a:oF Chunk.t F c x0.chunks) (S:oF oC.t F g x0.oD) (U:oF oH.t F j x0.oK) (H:Cc x0=some r):pa aac K 76 [.agg (mZ.cells x0 f c g j)] w fun v w'=>∃ (F':jL),v = .b r∧St [] w F F' [] w':=by
 refine rA Tryz.func76 ?_;have hS:=St.start hA;refine qs ?_;refine bx ([.i .i64 x0.seq,f,c,g,j]) ?_;intro G w1 I;refine au ?_;refine pe (jN (Cc.k1 x0=some r) [(1,pl G 0)] I) ?_ ?_
 ·refine ax ?_;refine lj I (fun s:Int=>[(1,pl G 0),(6,c),(7,.i .i64 (x0.chunks.length:Int)),(8,.i .i64 s)]) H ?_;intro bh i4 F3 w3 B J H;refine ay ?_;refine qy H (fun Z H=>?_) (fun Z H=>?_)
  ·obtain ⟨x7,a6,H⟩:=oL H;obtain ⟨_,⟨P,Q,rfl,ae,bb,a5⟩,aU⟩:=qa 35 (a.mono B) a6;refine ay ?_;refine xm (vF (cs:=pb (ph 32 (0:UInt8))++([.b false,.sl none 0 (.k 0),.sl none 0 (.k 0)]:List jD)) Ty.MD rfl J) ?_;rintro _ w9 ⟨g9,rfl,aT⟩;refine qc ?_;refine sb 0 (pb x7.id++([.b x7.pX,P,Q]:List jD)) ?_;intro bj d;refine ay ?_;obtain ⟨D,e,be,ah,H⟩:=oU H;obtain ⟨bf,ai,bg,aj,H⟩:=oU H;have n:(D.id).length=32:=by
    rcases uO (decide (0 < i4)) with z | z
    ·have M:=e;rw [qA z] at M;obtain ⟨aY,a7⟩:=oM M;obtain ⟨aK,ak,A⟩:=(a.mono B).el a7;obtain ⟨aC,aD,rfl,n,ar,a4⟩:=ak;replace A:=qj 35 A;have aV:=A.rq;exact n
    ·have hy:=e;rw [te z] at hy;obtain rfl:=oi hy
     rfl
   refine rf d ?_;refine aw ?_;refine ge (mo a) e ?_;refine ge (mo a) e ?_;refine uC (v:=.agg (pb D.id)) rfl rfl rfl rfl (fun ⟨L,_⟩=>?_) ?_
   ·rw [L];intro hK;have O:=e;rw [qA L] at O;obtain ⟨ba,a8⟩:=oM O;obtain ⟨aO,am,m⟩:=(a.mono B).el a8;obtain ⟨aC,aD,rfl,n,ar,a4⟩:=am;replace m:=qj 35 m;have aX:=m.rq;refine qq (tD 0 (pb D.id) Ty.yg Ty.uL rfl (m.mono d.agree) (by first | omega | rfl) rfl (qY rfl)) ?_;exact hK
   refine aw ?_;refine uC (v:=.agg (pb x7.id)) rfl rfl rfl rfl (fun ⟨X,_⟩=>?_) ?_
   ·rw [X];exact (qq (yy 0 (pb x7.id) Ty.yg Ty.uL (wU _) rfl d rfl (fun q u h=>xd (post:=[.b x7.pX,P,Q]) rfl h)) ·)
   refine gw d ah (fun y=>V5 d.oR n ae y) ?_;intro bn l;refine qw l ?_;refine aw ?_;refine uC (v:=.agg (mZ.cells x0 f c g j)) rfl rfl rfl rfl (fun ⟨Y,_⟩=>?_) ?_
   ·rw [Y];exact (qq (yy 1 (mZ.cells x0 f c g j) Ty.yU Ty.zh (wU _) rfl l rfl (fun q u h=>xd (post:=[]) rfl h)) ·)
   refine aw ?_;refine gw l ai (fun y=>QQ l.oR (mo R) (mo a) (mo S) (mo U) a5 y) ?_;intro bo p;refine qw p ?_;refine aw ?_;refine Rs p aj (fun y=>Bs p.oR y) ?_;intro bq x;refine qw x ?_;refine aw ?_;refine qy H (fun ad H=>?_) (fun ad H=>?_)
   ·exact rz H x
   ·refine ax ?_;exact nm H (jj (pk [1] x))
  ·refine pw _ rfl ?_;exact nj ⟨H,jj J⟩
 ·rintro E w2 ⟨H,F2,rfl,bc,V⟩;exact rz H V
def uw.k1 (x0:mZ):Option Bool :=
  some (decide ((x0.oB.length:Int)≤8))
def uw.k3 (a:Int) (c:(Int × ((List UInt8)→Option Bool))→Option Bool) (b:(List UInt8)→Option Bool):Option Bool :=
  c (wr (a+1),b)
def uw.k5 (a:Int) (b:Int→Option Bool):Option Bool :=
  b (wr (a+1))
def uw.l6 (x0:mZ) (c:Int) (e:Int→Option Bool) (b:Part) (f:Int→Option Bool):Int→Option Bool
  | a =>
    if decide (a < (b.ids.length:Int)) then
      bd (ix b.ids a) fun g =>
      bd (IX x0.chunks g) fun d =>
      if (!d.2) then
        some false
      else
        f (wr (a+1))
    else
      uw.k5 c e
def uw.l4 (x0:mZ) (c:Int) (d:(List UInt8)→Option Bool) (e:(Int × ((List UInt8)→Option Bool))→Option Bool) (b:lU) (f:Int→Option Bool):Int→Option Bool
  | a =>
    if decide (a < (b.oJ.parts.length:Int)) then
      bd (ix b.oJ.parts a) fun g =>
      loop (uw.l6 x0 a f g) 0
    else
      uw.k3 c e (D8 d b.oJ.name true)
def uw.l2 (x0:mZ) (h:(Int × ((List UInt8)→Option Bool))→Option Bool):(Int × ((List UInt8)→Option Bool))→Option Bool
  | (b,c) =>
    if decide (b < (x0.oB.length:Int)) then
      bd (ix x0.oB b) fun a =>
      bd (Ac a.seq 0 (wr (x0.seq - 1))) fun d =>
      bd (only ((!(!d))&&decide (0 < b)) (ix x0.oB (wr (b - 1))) (lU.mk 0 (oP.mk [] []) [])) fun e =>
      bd (only (!(((!d)||(decide (0 < b)&&decide (a.seq≤e.seq)))||((c a.oJ.name).getD false))) (BI a.oJ) 0) fun f =>
      bd (only (!((((!d)||(decide (0 < b)&&decide (a.seq≤e.seq)))||((c a.oJ.name).getD false))||decide (f≠0))) (AU x0 a.oN) false) fun g =>
      if (((((!d)||(decide (0 < b)&&decide (a.seq≤e.seq)))||((c a.oJ.name).getD false))||decide (f≠0))||(!g)) then
        some false
      else
        loop (uw.l4 x0 b c h a) 0
    else
      uw.k1 x0
def uw (x0:mZ):Option Bool :=
  loop (uw.l2 x0) (0,(SQ:(List UInt8)→Option Bool))
set_option maxHeartbeats 2000000 in
theorem ab2 [Kn (ye aac) K]  {x0:mZ} {r:Bool} {a:jD} {e:jD} {f:jD} {g:jD} (hA:Gd F w) (l:oF lU.t F a x0.oB) (Q:oF Chunk.t F e x0.chunks) (ai:oF oC.t F f x0.oD) (aj:oF oH.t F g x0.oK) (H:uw x0=some r):pa aac K 77 [.agg (mZ.cells x0 a e f g)] w fun v w'=>∃ (F':jL),v = .b r∧St [] w F F' [] w':=by
 refine rA Tryz.func77 ?_;have hS:=St.start hA;refine qs ?_;refine bx ([.i .i64 x0.seq,a,e,f,g]) ?_;intro d w1 ak;refine ax ?_;refine xm (aas kS (.of .b) ak) ?_;rintro _ w2 ⟨j,rfl,G⟩;refine au ?_;refine pe (jO (uw.k1 x0=some r) [(1,pl d 0)] G [.box d [.i .i64 x0.seq,a,e,f,g]]) ?_ ?_
 ·refine ax ?_;refine qC (fun (s:Int × ((List UInt8)→Option Bool)) E wq=>∃ (p:jL),E=[(1,pl d 0),(3,.m (some j)),(14,a),(15,.i .i64 (x0.oB.length:Int)),(16,.i .i64 s.1)]∧F.le p∧po G [.map kS (.of .b) j s.2,.box d [.i .i64 x0.seq,a,e,f,g]] p wq) H ?_ ?_
  ·exact lo (jj G)
  ·rintro bg ⟨n,O⟩ E w4 hI H
   try dsimp only at hI
   obtain ⟨p,rfl,bc,R⟩:=hI;refine ay ?_;refine qy H (fun aC H=>?_) (fun aC H=>?_)
   ·refine qk ?_;refine pe (fun E wq=>∃ M:(List UInt8)→Option Bool,uw.k3 n bg M=some r ∧ ∃ (B:jL),E=[(1,pl d 0),(3,.m (some j)),(14,a),(15,.i .i64 (x0.oB.length:Int)),(16,.i .i64 n)]∧p.le B∧po R [.map kS (.of .b) j M,.box d [.i .i64 x0.seq,a,e,f,g]] B wq) ?_ ?_
    ·obtain ⟨c,aY,H⟩:=oL H;obtain ⟨_,⟨k,ad,rfl,Z,aV⟩,bs⟩:=qa 4 (l.mono bc) aY;refine ax ?_;refine al ?_;intro bm b7 bp;refine qc ?_;refine sb 0 ([.i .i64 c.seq,.s c.oJ.name,k,ad]) ?_;intro b8 D;refine ay ?_;obtain ⟨b1,aO,bQ,J,H⟩:=oU H;obtain ⟨b2,aR,b3,aT,H⟩:=oU H;refine rf D ?_;refine au ?_;refine lq (Bs D.oR aO) D ?_;intro bA x;refine aw ?_;refine xS (mo l) J ?_;refine xS (mo l) J ?_;refine xS (mo l) J ?_;refine aw ?_;refine uC (v:=.b ((O c.oJ.name).getD false)) rfl rfl rfl rfl (fun ⟨a6,_⟩=>?_) ?_
     ·rw [a6];exact (W_h (.inr (by kernel_rfl)) rfl rfl rfl (aax (enc:=.b) 1 c.oJ.name false Tryz.underlying188 (Yc acZ) Ty.zv4 rfl rfl x rfl) ·)
     refine aw ?_;refine uC (v:=.agg (oP.cells c.oJ k)) rfl rfl rfl rfl (fun ⟨a7,_⟩=>?_) ?_
     ·rw [a7];exact (qq (yy 0 (oP.cells c.oJ k) Ty.zA Ty.zj (wU _) rfl x rfl (fun q u h=>xd (post:=[ad]) rfl h)) ·)
     refine gw x aR (fun y=>Yp x.oR Z y) ?_;intro bD z;refine qw z ?_;refine aw ?_;refine uC (v:=.agg (mZ.cells x0 a e f g)) rfl rfl rfl rfl (fun ⟨a8,_⟩=>?_) ?_
     ·rw [a8];exact (qq (yy 2 (mZ.cells x0 a e f g) Ty.yU Ty.zh (wU _) rfl z rfl (fun q u h=>xd (post:=[]) rfl h)) ·)
     refine aw ?_;refine gw z aT (fun y=>QQ z.oR (mo l) (mo Q) (mo ai) (mo aj) aV y) ?_;intro bE I;refine qw I ?_;refine aw ?_;refine qy H (fun a9 H=>?_) (fun a9 H=>?_)
     ·exact rz H I
     ·refine ax ?_;refine um (aat 1 c.oJ.name true Tryz.underlying188 (Yc acZ) rfl rfl rfl rfl I rfl) ?_;rintro _ bF ar;refine ax ?_;refine lj (pk [1,2] ar) (fun s:Int=>[(1,pl d 0),(3,.m (some j)),(14,a),(15,.i .i64 (x0.oB.length:Int)),(16,.i .i64 n),(70,k),(71,.i .i64 (c.oJ.parts.length:Int)),(72,.i .i64 s)]) H ?_;intro bh L ah bG be S H;refine ay ?_;refine qy H (fun aD H=>?_) (fun aD H=>?_)
      ·refine qk ?_;refine pe (jN (uw.k5 L bh=some r) [(1,pl d 0),(3,.m (some j)),(14,a),(15,.i .i64 (x0.oB.length:Int)),(16,.i .i64 n),(70,k),(71,.i .i64 (c.oJ.parts.length:Int)),(72,.i .i64 L)] S) ?_ ?_
       ·obtain ⟨P,ba,H⟩:=oL H;obtain ⟨_,⟨ae,rfl,aX⟩,bt⟩:=qa 3 (Z.mono be) ba;refine ax ?_;refine al ?_;intro bn bI bq;refine sb 0 ([.s P.path,.i .i64 P.size,ae]) ?_;intro bJ U;refine ax ?_;refine qC (fun (s:Int) E wq=>∃ (A:jL),E=[(1,pl d 0),(3,.m (some j)),(14,a),(15,.i .i64 (x0.oB.length:Int)),(16,.i .i64 n),(70,k),(71,.i .i64 (c.oJ.parts.length:Int)),(72,.i .i64 L),(77,ae),(78,.i .i64 (P.ids.length:Int)),(79,.i .i64 s)]∧ah.le A∧po U [.map kS (.of .b) j (D8 O c.oJ.name true),.box d [.i .i64 x0.seq,a,e,f,g]] A wq) H ?_ ?_
        ·exact lo (jj (pk [1,2] U))
        ·rintro b5 bv E bK hI H
         try dsimp only at hI
         obtain ⟨A,rfl,bf,V⟩:=hI;refine ay ?_;refine qy H (fun aH H=>?_) (fun aH H=>?_)
         ·obtain ⟨bi,bb,H⟩:=oL H;obtain ⟨_,⟨rfl,aK⟩,bu⟩:=qa 32 (aX.mono bf) bb;refine ay ?_;refine xm (vF (cs:=pb (ph 32 (0:UInt8))) Ty.Fm rfl V) ?_;rintro _ bN ⟨bo,rfl,br⟩;refine sb 0 (pb bi) ?_;intro bO X;obtain ⟨b4,aU,H⟩:=oL H;refine ax ?_;refine lp (QP X.oR (mo Q) aK aU) X ?_;intro bP Y;refine ax ?_;refine qy H (fun aJ H=>?_) (fun aJ H=>?_)
          ·exact rz H Y
          ·refine ax ?_;exact nm H (jj (pk [1,2] Y))
         ·refine ax ?_;exact nj ⟨H,jj V⟩
       ·rintro E bH ⟨H,bk,rfl,bz,a4⟩;refine ax ?_;exact nm H (jj a4)
      ·refine ax ?_;exact nj ⟨(D8 O c.oJ.name true),H,jj S⟩
    ·rintro E w9 ⟨M,H,B,rfl,b0,a5⟩;refine ax ?_;exact nm H (jj a5)
   ·refine pw _ rfl ?_;exact nj ⟨H,jj (pk [1] R)⟩
 ·rintro E w3 ⟨H,F3,rfl,bw,am⟩;exact rz H am
def V4 (x0:lU) (x1:oC):Option Bool :=
  some (decide (x0.seq=x1.of))
theorem ab0 {x0:lU} {x1:oC} {r:Bool} {a:jD} {c:jD} {Dd:Nat} {e:jD} (hA:Gd F w) (h:oF Part.t F a x0.oJ.parts) (j:oF Loc.t F c x0.oN) (k:oF Loc.t F e x1.oN) (f:xk F Dd [.i .i64 x1.seq,.i .i64 x1.of,e]) (H:V4 x0 x1=some r):pa aac K 126 [.agg (lU.cells x0 a c),pl Dd 0] w fun v w'=>∃ (F':jL),v = .b r∧St [] w F F' [] w':=by
 refine ra Tryz.func126 ?_;have hS:=St.start hA;refine qs ?_;refine bx ([.i .i64 x0.seq,.s x0.oJ.name,a,c]) ?_;intro g l d;refine ax ?_;refine qr (wB Ty.uW rfl (f.mono d.agree) rfl) ?_;exact rz H d
def DC.k1:Option Int :=
  some (-1)
def DC.l2 (x0:List lU) (d:oC) (c:Int→Option Int):Int→Option Int
  | a =>
    if decide (a < (x0.length:Int)) then
      bd (ix x0 a) fun x6 =>
      bd (V4 x6 d) fun b =>
      if b then
        some a
      else
        c (wr (a+1))
    else
      DC.k1
def DC (x0:List lU) (a:oC):Option Int :=
  loop (DC.l2 x0 a) 0
theorem aki {x0:List lU} {a:oC} {r:Int} {c:jD} {uG:Nat} {g:jD} (hA:Gd F w) (h:oF lU.t F c x0) (j:oF Loc.t F g a.oN) (l:xk F uG [.i .i64 a.seq,.i .i64 a.of,g]) (H:DC x0 a=some r):pa aac K 113 [c,.f 126 [pl uG 0]] w fun v w'=>∃ (F':jL),v = .i .i64 r∧St [] w F F' [] w':=by
 refine ra adJ ?_;have hS:=St.start hA;refine aq ?_;refine pe (jN (DC.k1=some r) [] hS) ?_ ?_
 ·refine ax ?_;refine lj hS (fun s:Int=>[(0,c),(1,.f 126 [pl uG 0]),(7,.i .i64 (x0.length:Int)),(8,.i .i64 s)]) H ?_;intro I B z P e b H;refine ay ?_;refine qy H (fun n H=>?_) (fun n H=>?_)
  ·obtain ⟨x6,x,G,p,H⟩:=oU H;obtain ⟨_,⟨J,L,rfl,q,u⟩,A⟩:=qa 4 (h.mono e) x;refine ay ?_;refine lp (ab0 b.oR q u (mo j) (l.mono e) p) b ?_;intro O d;refine qn ?_;refine qy H (fun m H=>?_) (fun m H=>?_)
   ·exact rz H d
   ·refine ax ?_;exact nm H (jj d)
  ·refine pw _ rfl ?_;exact nj ⟨H,jj b⟩
 ·rintro E M ⟨H,y,rfl,D,k⟩;exact rz H k
def Pf (x0:List lU) (b:oC):Option Bool :=
  bd (DC x0 b) fun a =>
  some (decide (0≤a))
theorem aka {x0:List lU} {a:oC} {r:Bool} {c:jD} {uG:Nat} {d:jD} (hA:Gd F w) (e:oF lU.t F c x0) (g:oF Loc.t F d a.oN) (j:xk F uG [.i .i64 a.seq,.i .i64 a.of,d]) (H:Pf x0 a=some r):pa aac K 125 [c,.f 126 [pl uG 0]] w fun v w'=>∃ (F':jL),v = .b r∧St [] w F F' [] w':=by
 refine ra Tryz.func125 ?_;have hS:=St.start hA;obtain ⟨l,k,H⟩:=oL H;refine ax ?_;refine lp (aki hS.oR e g j k) hS ?_;intro m h;exact rz H h
end
end Go.Wk.Lf
end
