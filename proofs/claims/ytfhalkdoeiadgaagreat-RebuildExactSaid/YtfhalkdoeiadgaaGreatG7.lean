/-  -/
import Derived.Test.YtfhalkdoeiadgaaGreatG6
set_option linter.unusedVariables false
set_option linter.unusedSimpArgs false
open Bool renaming eq_false_or_eq_true→uO
open Go.Proofs.Tryz renaming prog→aac, underlying31→aba, underlying5→acP, underlying59→aaT, underlying82→acY, underlying9→acZ
open List renaming length_replicate→AM, replicate→ph
open Nat renaming le_of_ble_eq_true→qY, zero_lt_succ→wU
section
namespace Go.Wk.Lf
open Go.V Go.Proofs
noncomputable section
set_option maxRecDepth 100000
variable {K:Tb} {F:jL} {w:Hp}
def tz.k1 (x0:List UInt8) (c:(List UInt8) × vE) (pN:List UInt8) (b:Int) (a:Bool) (qQ:List Part):Option (oP × Bool) :=
  bd (only (!(a||decide (b≠(x0.length:Int)))) (BA (oP.mk c.1 qQ)) false) fun d =>
  if ((a||decide (b≠(x0.length:Int)))||(!d)) then
    some ((oP.mk [] []),false)
  else
    some ((oP.mk c.1 qQ),true)
def tz.k3 (b:Int) (f:(Int × (List UInt8) × Int × Bool × (List Part))→Option (oP × Bool)) (d:List UInt8) (c:Int) (a:Bool) (e:List Part):Option (oP × Bool) :=
  f (wr (b+1),d,c,a,e)
def tz.k4 (b:Int) (d:List Part) (j:(Int × (List UInt8) × Int × Bool × (List Part))→Option (oP × Bool)) (h:(List UInt8) × vE) (i:Int) (e:List UInt8) (c:Int) (a:Bool) (f:List (List UInt8)):Option (oP × Bool) :=
  bd (app (α:=Part) d [(Part.mk h.1 i f)]) fun g =>
  tz.k3 b j e c a g
def tz.l5 (h:Int) (j:List Part) (p:(Int × (List UInt8) × Int × Bool × (List Part))→Option (oP × Bool)) (k:(List UInt8) × vE) (l:Int) (m:Int) (n:(Int × (List UInt8) × Int × Bool × (List (List UInt8)))→Option (oP × Bool)):(Int × (List UInt8) × Int × Bool × (List (List UInt8)))→Option (oP × Bool)
  | (d,f,e,c,g) =>
    if (decide (d < m)&&(!c)) then
      bd (vG (vE.mk f e c) 32) fun a =>
      bd (app (α:=(List UInt8)) g [(Cp (ph 32 (0:UInt8)) a.1)]) fun i =>
      n (wr (d+1),a.2.b,a.2.at_,a.2.bad,i)
    else
      tz.k4 h j p k l f e c g
def tz.l2 (x0:List UInt8) (l:(List UInt8) × vE) (k:Int) (q:(Int × (List UInt8) × Int × Bool × (List Part))→Option (oP × Bool)):(Int × (List UInt8) × Int × Bool × (List Part))→Option (oP × Bool)
  | (d,f,e,c,g) =>
    if (decide (d < k)&&(!c)) then
      bd (vG (vE.mk f e c) 1) fun h =>
      bd (vl h.1) fun m =>
      bd (vG h.2 m) fun i =>
      bd (vG i.2 2) fun j =>
      bd (vl j.1) fun n =>
      bd (vG j.2 1) fun a =>
      bd (vl a.1) fun p =>
      loop (tz.l5 d g q i n p) (0,a.2.b,a.2.at_,a.2.bad,[])
    else
      tz.k1 x0 l f e c g
def tz (x0:List UInt8):Option (oP × Bool) :=
  bd (vG (vE.mk x0 0 false) 1) fun c =>
  bd (vl c.1) fun f =>
  bd (vG c.2 f) fun d =>
  bd (vG d.2 1) fun a =>
  bd (vl a.1) fun e =>
  loop (tz.l2 x0 d e) (0,a.2.b,a.2.at_,a.2.bad,[])
set_option maxHeartbeats 2000000 in
theorem acm {x0:List UInt8} {r:oP × Bool} {l:jD} (hA:Gd F w) (Q:oF tB F l x0) (H:tz x0=some r):pa aac K 49 [l] w fun v w'=>∃ (F':jL) (b7:jD),v = .qR [.agg (oP.cells r.1 b7),.b r.2]∧oF Part.t F' b7 (r.1.parts)∧St [] w F F' [] w':=by
 refine rA Tryz.func49 ?_;have hS:=St.start hA;refine qs ?_;refine al ?_;intro c w1 cI;refine ax ?_;have bS:=Q.ln.cells;refine qr (FI (vs:=[(0,l)]) (v:=.agg (vE.cells (vE.mk x0 0 false) l)) Ty.abx rfl (by simp only [xR,bS];rfl)) ?_;refine bx ([l,.i .i64 0,.b false]) ?_;intro g w2 aY;obtain ⟨r4,cj,r5,ck,H⟩:=oU H;obtain ⟨a,cl,H⟩:=oL H;refine ax ?_;refine lm (FT (x0:=(vE.mk x0 0 false)) (x1:=1) (aY.u9 [0] (by decide)) Q cj) ?_;rintro di w8 ⟨cC,_,als,rfl,bX,RL,bt⟩;have bh:=aY.uV [0] [1] (by decide) (by decide) bt;have cZ:=bt.ext;refine lp (KN bh.oR bX ck) bh ?_;intro w9 bj;refine lm (FT (x0:=r4.2) (x1:=r5) (bj.u9 [0] (by decide)) RL cl) ?_;rintro dm ds ⟨cD,_,amN,rfl,cb,aeD,bm⟩;have bD:=bj.uV [0] [1] (by decide) (by decide) bm;have da:=bm.ext;refine qr (Nb aba acP acZ rfl (cb.mono bD.agree)) ?_;refine qM (v:=.agg (oP.cells (oP.mk a.1 []) (.sl none 0 (.k 0)))) rfl rfl rfl rfl (fun _=>rfl) ?_;refine al ?_;intro d w7 cL;refine sb 0 ([.s a.1,.sl none 0 (.k 0)]) ?_;intro du aT;obtain ⟨db,cg,V,ch,H⟩:=oU H;refine ax ?_;refine lm (FT (x0:=a.2) (x1:=1) (aT.u9 [1] (by decide)) aeD cg) ?_;rintro dh d0 ⟨aj,_,alf,rfl,bW,aet,bo⟩;have aX:=aT.uV [1] [0,2] (by decide) (by decide) bo;have cY:=bo.ext;refine lp (KN aX.oR bW ch) aX ?_;intro d1 a5;refine au ?_;refine pe (fun E wq=>∃ pN:List UInt8,∃ z:Int,∃ y:Bool,∃ qQ:List Part,tz.k1 x0 a pN z y qQ=some r ∧ ∃ (p:jL) (X:jD) (j:jD),E=[(0,l),(2,pl c 0),(4,pl g 0),(5,pl d 0)]∧aj.le p∧oF tB p X pN∧po a5 [.box g [X,.i .i64 z,.b y],.box d [.s a.1,j],.box c [.s [],.sl none 0 (.k 0)],.row Part.t j qQ] p wq) ?_ ?_
 ·refine ax ?_;refine qC (fun (s:Int × (List UInt8) × Int × Bool × (List Part)) E wq=>∃ (x:jL) (Y:jD) (u:jD),E=[(0,l),(2,pl c 0),(4,pl g 0),(5,pl d 0),(6,.i .i64 V),(7,.i .i64 s.1)]∧aj.le x∧oF tB x Y s.2.1∧po a5 [.box g [Y,.i .i64 s.2.2.1,.b s.2.2.2.1],.box d [.s a.1,u],.box c [.s [],.sl none 0 (.k 0)],.row Part.t u s.2.2.2.2] x wq) H ?_ ?_
  ·have bG:=a5.sY Part.t;exact lo ⟨aj,alf,(.sl none 0 (.k 0)),rfl,(jL.le.refl _),aet,bG.pick [1,2,3,0] (by decide)⟩
  ·rintro b8 ⟨A,b1,bz,aO,S⟩ E d8 hI H
   try dsimp only at hI
   obtain ⟨x,Y,u,rfl,cU,bu,a6⟩:=hI;refine aZ ?_;refine qy H (fun bR H=>?_) (fun bR H=>?_)
   ·refine qk ?_;refine pe (fun E wq=>∃ aH:List UInt8,∃ aD:Int,∃ am:Bool,∃ aJ:List Part,tz.k3 A b8 aH aD am aJ=some r ∧ ∃ (J:jL) (Z:jD) (ad:jD),E=[(0,l),(2,pl c 0),(4,pl g 0),(5,pl d 0),(6,.i .i64 V),(7,.i .i64 A)]∧x.le J∧oF tB J Z aH∧po a6 [.box g [Z,.i .i64 aD,.b am],.box d [.s a.1,ad],.box c [.s [],.sl none 0 (.k 0)],.row Part.t ad aJ] J wq) ?_ ?_
    ·refine ay ?_;obtain ⟨c5,cm,c6,cn,H⟩:=oU H;obtain ⟨n,co,c7,cp,H⟩:=oU H;obtain ⟨q,cq,H⟩:=oL H;refine uT (G:=x) [0,1,6,10,2,3,4,5,7,8,9,11] rfl Ty.mixed (by kernel_rfl) a6.agree ?_;refine au ?_;refine aM ?_;intro P dA bc;refine ql (FT (x0:=(vE.mk b1 bz aO)) (x1:=1) (bc.u9 [1] (by decide)) bu cm) ?_;rintro dj dB ⟨cE,_,amK,rfl,bY,aeA,bp⟩;have a7:=bc.uV [1] [0,2,3,4] (by decide) (by decide) bp;have b4:=bp.ext;refine pQ.tT b4 a7.agree ?_;refine lq (KN a7.oR bY cn) a7 ?_;intro dC be;refine ql (FT (x0:=c5.2) (x1:=c6) (be.u9 [0] (by decide)) aeA co) ?_;rintro dk dD ⟨cF,_,amL,rfl,bZ,aeB,bq⟩;have a8:=be.uV [0] [1,2,3,4] (by decide) (by decide) bq;have b5:=bq.ext;refine pQ.tT b5 a8.agree ?_;refine qr (Nb aba acP acZ rfl bZ) ?_;refine ql (FT (x0:=n.2) (x1:=2) (a8.u9 [0] (by decide)) aeB cp) ?_;rintro dl dF ⟨cG,_,amM,rfl,ca,aeC,br⟩;have a9:=a8.uV [0] [1,2,3,4] (by decide) (by decide) br;have b6:=br.ext;refine pQ.tT b6 a9.agree ?_;refine lq (KN a9.oR ca cq) a9 ?_;intro dG cM;refine qM (v:=.agg (Part.cells (Part.mk n.1 q []) (.sl none 0 (.k 0)))) rfl rfl rfl rfl (fun _=>rfl) ?_;refine sB 1 ([.s n.1,.i .i64 q,.sl none 0 (.k 0)]) ?_;intro dH bf;obtain ⟨dc,cr,c8,ct,H⟩:=oU H;refine ax ?_;refine lm (FT (x0:=c7.2) (x1:=1) (bf.u9 [0] (by decide)) aeC cr) ?_;rintro dn dI ⟨ak,_,alv,rfl,cc,aeF,bs⟩;have bg:=bf.uV [0] [1,2,3,4] (by decide) (by decide) bs;have c1:=bs.ext;refine lp (KN bg.oR cc ct) bg ?_;intro dJ aC;refine au ?_;refine pe (fun E wq=>∃ U:List UInt8,∃ R:Int,∃ O:Bool,∃ B:List (List UInt8),tz.k4 A S b8 n q U R O B=some r ∧ ∃ (L:jL) (ae:jD) (D:jD),E=[(0,l),(2,pl c 0),(4,pl g 0),(5,pl d 0),(6,.i .i64 V),(7,.i .i64 A),(8,pl P 0)]∧ak.le L∧oF tB L ae U∧po aC [.box g [ae,.i .i64 R,.b O],.box P [.s n.1,.i .i64 q,D],.box d [.s a.1,u],.box c [.s [],.sl none 0 (.k 0)],.row Part.t u S,.row rX D B] L wq) ?_ ?_
     ·refine ax ?_;refine qC (fun (s:Int × (List UInt8) × Int × Bool × (List (List UInt8))) E wq=>∃ (M:jL) (ah:jD) (ai:jD),E=[(0,l),(2,pl c 0),(4,pl g 0),(5,pl d 0),(6,.i .i64 V),(7,.i .i64 A),(8,pl P 0),(9,.i .i64 c8),(10,.i .i64 s.1)]∧ak.le M∧oF tB M ah s.2.1∧po aC [.box g [ah,.i .i64 s.2.2.1,.b s.2.2.2.1],.box P [.s n.1,.i .i64 q,ai],.box d [.s a.1,u],.box c [.s [],.sl none 0 (.k 0)],.row Part.t u S,.row rX ai s.2.2.2.2] M wq) H ?_ ?_
      ·have bF:=aC.sY rX;exact lo ⟨ak,alv,(.sl none 0 (.k 0)),rfl,(jL.le.refl _),aeF,bF.pick [1,2,3,4,5,0] (by decide)⟩
      ·rintro dd ⟨cP,b2,b0,aR,cy⟩ E dQ hI H
       try dsimp only at hI
       obtain ⟨M,ah,ai,rfl,cX,bv,bk⟩:=hI;refine aZ ?_;refine qy H (fun bP H=>?_) (fun bP H=>?_)
       ·refine ay ?_;refine xm (vF (cs:=pb (ph 32 (0:UInt8))) Ty.Fm rfl bk) ?_;rintro _ dt ⟨cH,rfl,ar⟩;refine ay ?_;obtain ⟨aK,cf,H⟩:=oL H;refine rf ar ?_;refine qr (Vn acY Ty.vA rfl) ?_;refine qc ?_;refine ql (FT (x0:=(vE.mk b2 b0 aR)) (x1:=32) (ar.u9 [1] (by decide)) bv cf) ?_;rintro dg dv ⟨c9,_,alb,rfl,bV,aes,bn⟩;have a4:=ar.uV [1] [0,2,3,4,5,6] (by decide) (by decide) bn;have c0:=bn.ext;refine pQ.tT c0 a4.agree ?_;refine qx (aaq (cs':=pb (Cp (ph 32 (0:UInt8)) aK.1)) 1 aba Ty.vA rfl rfl a4 rfl (AM) rfl (bV.src a4.agree) rfl) ?_;rintro _ dw ⟨rfl,aU⟩;refine qw aU ?_;obtain ⟨cQ,cd,H⟩:=oL H;refine ax ?_;refine xm (sh (t:=rX) (vs:=[.agg (pb (Cp (ph 32 (0:UInt8)) aK.1))]) (xs:=[(Cp (ph 32 (0:UInt8)) aK.1)]) Tryz.underlying109 Ty.Fg rfl ⟨⟨rfl,(Wz (AM))⟩,trivial⟩ rfl rfl aU) ?_;rintro de dx aV;refine ap 7 aV (aV.tf (k:=0) rfl) cd ?_;intro b9 dy cJ;refine au ?_;refine sc 3 ([.s n.1,.i .i64 q,b9]) ?_;intro dz bE;refine ax ?_;exact nm H ⟨_,alb,b9,rfl,pc,aes,pk [1,3,4,5,6,7] bE⟩
       ·refine pw _ rfl ?_;exact nj ⟨b2,b0,aR,cy,H,⟨_,ah,ai,rfl,pc,bv,bk⟩⟩
     ·rintro E dK ⟨U,R,O,B,H,L,ae,D,rfl,cz,cw,bK⟩;obtain ⟨cx,ce,H⟩:=oL H;refine ax ?_;obtain ⟨bC,b3,bU,bM⟩:=bK.rv 5 [0,1,2,3,4] rfl (by decide) (by decide);refine xm (sh (t:=Part.t) (vs:=[.agg (Part.cells (Part.mk n.1 q B) D)]) (xs:=[(Part.mk n.1 q B)]) Tryz.underlying56 Ty.Ml rfl ⟨⟨D,rfl,bU⟩,trivial⟩ rfl rfl bM) ?_;rintro df dM bi;refine ap 5 bi (bi.tf (k:=0) rfl) ce ?_;intro bA dN cN;refine au ?_;refine sc 3 ([.s a.1,bA]) ?_;intro dP bN;refine ax ?_;exact nj ⟨U,R,O,cx,H,⟨bC,ae,bA,rfl,(((((b4.trans b5).trans b6).trans c1).trans cz).trans b3),(cw.mono b3),bN.pick [1,3,4,5] (by decide)⟩⟩
    ·rintro E d9 ⟨aH,aD,am,aJ,H,J,Z,ad,rfl,cV,cu,bJ⟩;refine ax ?_;exact nm H ⟨_,Z,ad,rfl,pc,cu,bJ⟩
   ·refine pw _ rfl ?_;exact nj ⟨b1,bz,aO,S,H,⟨_,Y,u,rfl,pc,bu,a6⟩⟩
 ·rintro E d2 ⟨pN,z,y,qQ,H,p,X,j,rfl,cR,cO,h⟩;refine qU ?_;refine qU ?_;obtain ⟨c2,ci,H⟩:=oL H;refine yd (fun E wq=>E=[(2,pl c 0),(5,pl d 0),(95,.b ((y||decide (z≠(x0.length:Int)))||(!c2)))] ∧ ∃ I:jL,p.le I∧St [] w F I [.box g [X,.i .i64 z,.b y],.box d [.s a.1,j],.box c [.s [],.sl none 0 (.k 0)],.row Part.t j qQ] wq) ?_ ?_
  ·
   rcases uO y with e | e
   ·refine qd ?_;refine q2 ?_;refine qf Ty.NN ?_;refine qb 0 Ty.EK h ?_;refine qc ?_;refine ri 82 e ?_;refine pI ?_;refine pI ?_;refine pI ?_;refine qz ?_;refine q2 ?_;refine pI ?_;refine qz ?_;refine qc ?_;refine qN ?_;exact sj _ ⟨rfl,p,(jL.le.refl _),h⟩ ⟨rfl,rfl,(sq rfl (by first | rfl | (rw [e];first | done | rfl) | simp [e])),trivial⟩
   ·
    rcases uO (decide (z≠(x0.length:Int))) with m | m
    ·refine qd ?_;refine q2 ?_;refine qf Ty.NN ?_;refine qb 0 Ty.EK h ?_;refine qc ?_;refine ri 82 e ?_;refine q2 ?_;refine qf Ty.Rb ?_;refine qb 0 Ty.uW h ?_;refine qc ?_;refine qr (qD aba rfl Q.ln) ?_;refine qr (oO rfl rfl Br) ?_;refine q2 ?_;refine ri 91 m ?_;refine pI ?_;refine qz ?_;refine qc ?_;refine qN ?_;exact sj _ ⟨rfl,p,(jL.le.refl _),h⟩ ⟨rfl,rfl,(sq rfl (by first | rfl | (rw [m,e];first | done | rfl) | simp [e,m])),trivial⟩
    ·refine qd ?_;refine q2 ?_;refine qf Ty.NN ?_;refine qb 0 Ty.EK h ?_;refine qc ?_;refine ri 82 e ?_;refine q2 ?_;refine qf Ty.Rb ?_;refine qb 0 Ty.uW h ?_;refine qc ?_;refine qr (qD aba rfl Q.ln) ?_;refine qr (oO rfl rfl Br) ?_;refine q2 ?_;refine ri 91 m ?_;refine bl h 1 (oP.cells (oP.mk a.1 qQ) j) [] ?_;have bw:=ci;rw [qA (by first | rfl | (rw [m,e];first | done | rfl) | simp [e,m])] at bw;refine Bp (f:=69) (args:=[.agg (oP.cells (oP.mk a.1 qQ) j)]) rfl rfl rfl rfl (Wg (Gd.now h.wf) (h.uK (k:=3) rfl) bw) ?_;rintro dq d5 ⟨cA,rfl,bO⟩;have bH:=h.vw bO;refine pQ.now ?_;refine q2 ?_;refine qN ?_;exact sj _ ⟨rfl,p,(jL.le.refl _),bH⟩ ⟨rfl,rfl,(sq rfl (by first | rfl | (rw [m,e];first | done | rfl) | simp [e,m])),trivial⟩
  rintro E d4 ⟨rfl,I,cS,cK⟩;refine tR ?_;refine qy H (fun bQ H=>?_) (fun bQ H=>?_)
  ·refine qs ?_;refine qM (v:=.agg (oP.cells (oP.mk [] []) (.sl none 0 (.k 0)))) rfl rfl rfl rfl (fun _=>rfl) ?_;refine sb 2 ([.s [],.sl none 0 (.k 0)]) ?_;intro d6 ba;refine au ?_;obtain rfl:=oi H;refine yw (vs:=[.agg (oP.cells (oP.mk [] []) (.sl none 0 (.k 0))),.b false]) rfl ⟨(yB 2 Ty.zA Ty.zj ba rfl rfl),rfl,trivial⟩ ?_;exact ⟨I,.sl none 0 (.k 0),rfl,(oF.nil _),ba.pick [] (by decide)⟩
  ·refine ax ?_;refine sb 2 ([.s a.1,j]) ?_;intro d7 bI;refine au ?_;obtain ⟨bB,cT,bT,bb⟩:=bI.rv 3 [0,1,2] rfl (by decide) (by decide);obtain rfl:=oi H;refine yw (vs:=[.agg (oP.cells (oP.mk a.1 qQ) j),.b true]) rfl ⟨(yB 2 Ty.zA Ty.zj bb rfl rfl),rfl,trivial⟩ ?_;exact ⟨bB,j,rfl,bT,bb.pick [] (by decide)⟩
def NF (x0:Loc) (x1:Loc):Option Bool :=
  if decide (x0.pE≠x1.pE) then
    some (decide (x0.pE < x1.pE))
  else
    if decide (x0.file≠x1.file) then
      some (decide (x0.file < x1.file))
    else
      if decide (x0.off≠x1.off) then
        some (decide (x0.off < x1.off))
      else
        some (decide (x0.len < x1.len))
theorem aco {x0:Loc} {x1:Loc} {r:Bool} (hA:Gd F w) (H:NF x0 x1=some r):pa aac K 110 [.agg (Loc.cells x0),.agg (Loc.cells x1)] w fun v w'=>∃ (F':jL),v = .b r∧St [] w F F' [] w':=by
 refine ra Tryz.func110 ?_;have hS:=St.start hA;refine qs ?_;refine bx ([.i .i64 x0.pE,.i .i64 x0.file,.i .i64 x0.off,.i .i64 x0.len]) ?_;intro f j h;refine bx ([.i .i64 x1.pE,.i .i64 x1.file,.i .i64 x1.off,.i .i64 x1.len]) ?_;intro g k a;refine ay ?_;refine qy H (fun c H=>?_) (fun c H=>?_)
 ·exact rz H a
 ·refine ay ?_;refine qy H (fun d H=>?_) (fun d H=>?_)
  ·exact rz H a
  ·refine ay ?_;refine qy H (fun e H=>?_) (fun e H=>?_)
   ·exact rz H a
   ·refine qk ?_;exact rz H a
def I1 (x0:Loc) (x1:Loc):Option Bool :=
  some (((decide (x0.pE=x1.pE)&&decide (x0.file=x1.file))&&decide (x0.off=x1.off))&&decide (x0.len=x1.len))
theorem QS {x0:Loc} {x1:Loc} {r:Bool} (hA:Gd F w) (H:I1 x0 x1=some r):pa aac K 18 [.agg (Loc.cells x0),.agg (Loc.cells x1)] w fun v w'=>∃ (F':jL),v = .b r∧St [] w F F' [] w':=by
 refine ra Tryz.func18 ?_;have hS:=St.start hA;refine qs ?_;refine bx ([.i .i64 x0.pE,.i .i64 x0.file,.i .i64 x0.off,.i .i64 x0.len]) ?_;intro c f e;refine bx ([.i .i64 x1.pE,.i .i64 x1.file,.i .i64 x1.off,.i .i64 x1.len]) ?_;intro d g a;refine az ?_;exact rz H a
def uY.k1 (l2:List Loc):Option (List Loc) :=
  some l2
def uY.k3 (a:Int) (c:((List Loc) × Int)→Option (List Loc)) (b:List Loc):Option (List Loc) :=
  c (b,wr (a+1))
def uY.k4 (x0:List Loc) (l6:List Loc) (b:Int) (c:((List Loc) × Int)→Option (List Loc)) (a:Int):Option (List Loc) :=
  bd (only (decide (a < (l6.length:Int))) (ix l6 a) (Loc.mk 0 0 0 0)) fun j =>
  bd (only (decide (a < (l6.length:Int))) (ix x0 b) (Loc.mk 0 0 0 0)) fun k =>
  bd (only (decide (a < (l6.length:Int))) (I1 j k) false) fun i =>
  if (decide (a < (l6.length:Int))&&i) then
    uY.k3 b c l6
  else
    bd (cut (α:=Loc) l6 0 a) fun d =>
    bd (ix x0 b) fun l =>
    bd (app (α:=Loc) [] d) fun e =>
    bd (app (α:=Loc) e [l]) fun f =>
    bd (cut (α:=Loc) l6 a (l6.length:Int)) fun g =>
    bd (app (α:=Loc) f g) fun h =>
    uY.k3 b c h
def uY.l5 (x0:List Loc) (l6:List Loc) (b:Int) (d:((List Loc) × Int)→Option (List Loc)) (e:Int→Option (List Loc)):Int→Option (List Loc)
  | a =>
    bd (only (decide (a < (l6.length:Int))) (ix l6 a) (Loc.mk 0 0 0 0)) fun f =>
    bd (only (decide (a < (l6.length:Int))) (ix x0 b) (Loc.mk 0 0 0 0)) fun g =>
    bd (only (decide (a < (l6.length:Int))) (NF f g) false) fun c =>
    if (decide (a < (l6.length:Int))&&c) then
      e (wr (a+1))
    else
      uY.k4 x0 l6 b d a
def uY.l2 (x0:List Loc) (b:((List Loc) × Int)→Option (List Loc)):((List Loc) × Int)→Option (List Loc)
  | (l6,a) =>
    if decide (a < (x0.length:Int)) then
      loop (uY.l5 x0 l6 a b) 0
    else
      uY.k1 l6
def uY (x0:List Loc):Option (List Loc) :=
  loop (uY.l2 x0) ([],0)
set_option maxHeartbeats 2000000 in
theorem QY {x0:List Loc} {r:(List Loc)} {h:jD} (hA:Gd F w) (M:oF Loc.t F h x0) (H:uY x0=some r):pa aac K 50 [h] w fun v w'=>∃ (F':jL) (q0:jD),v=q0∧St [] w F F' [.row Loc.t q0 (r)] w':=by
 refine rA Tryz.func50 ?_;have hS:=St.start hA;refine aq ?_;refine aq ?_;refine pe (fun E wq=>∃ l2:List Loc,uY.k1 l2=some r ∧ ∃ (D:jL) (Q:jD),E=[(3,Q)]∧F.le D∧po hS [.row Loc.t Q l2] D wq) ?_ ?_
 ·refine ax ?_;refine qC (fun (s:(List Loc) × Int) E wq=>∃ (m:jL) (a:jD),E=[(0,h),(3,a),(4,.i .i64 s.2)]∧F.le m∧po hS [.row Loc.t a s.1] m wq) H ?_ ?_
  ·have aC:=hS.sY Loc.t;exact lo ⟨F,(.sl none 0 (.k 0)),rfl,(jL.le.refl _),aC⟩
  ·rintro ar ⟨l6,j⟩ E w5 hI H
   try dsimp only at hI
   obtain ⟨m,a,rfl,P,q⟩:=hI;refine ay ?_;refine qy H (fun aD H=>?_) (fun aD H=>?_)
   ·refine qk ?_;refine pe (fun E wq=>∃ O:List Loc,uY.k3 j ar O=some r ∧ ∃ (I:jL) (B:jD),E=[(0,h),(3,B),(4,.i .i64 j)]∧m.le I∧po q [.row Loc.t B O] I wq) ?_ ?_
    ·refine xP ?_;refine aq ?_;refine pe (fun E wq=>∃ g:Int,uY.k4 x0 l6 j ar g=some r ∧ ∃ (l:jL),E=[(0,h),(3,a),(4,.i .i64 j),(5,.i .i64 g)]∧m.le l∧ug q l wq) ?_ ?_
     ·refine xP ?_;refine lj q (fun s:Int=>[(0,h),(3,a),(4,.i .i64 j),(5,.i .i64 s)]) H ?_;intro bQ A J cd b1 f H;refine qU ?_;refine qU ?_;obtain ⟨b7,br,b8,bs,H⟩:=oU H;obtain ⟨b3,bi,H⟩:=oL H;refine yd (fun E wq=>E=[(0,h),(3,a),(4,.i .i64 j),(5,.i .i64 A),(27,.b (decide (A < (l6.length:Int))&&b3))] ∧ ∃ L:jL,J.le L∧St [] w F L [.row Loc.t a l6] wq) ?_ ?_
      ·
       rcases uO (decide (A < (l6.length:Int))) with d | d
       ·refine rf f ?_;refine q2 ?_;refine qr (qD aaT rfl (f.rB (k:=0) rfl)) ?_;refine qr (oO rfl rfl yV) ?_;refine qc ?_;refine ri 17 d ?_;refine q2 ?_;have ah:=br;rw [qA d] at ah;obtain ⟨bc,bv⟩:=oM ah;obtain ⟨bB,bj,y⟩:=f.rowAt (k:=0) rfl bv;obtain rfl:=bj;replace y:=qj 4 y;have aR:=y.rq;refine qi aaT Ty.vz aR bc ?_;refine qq (tD 0 (Loc.cells b7) Ty.AQ Ty.vz rfl y (by first | omega | rfl) rfl (qY rfl)) ?_;refine q2 ?_;have ai:=bs;rw [qA d] at ai;obtain ⟨be,bw⟩:=oM ai;obtain ⟨bC,bk,z⟩:=(M.mono (P.trans b1)).el bw;obtain rfl:=bk;replace z:=qj 4 z;have aT:=z.rq;refine qi aaT Ty.vz aT be ?_;refine qq (tD 0 (Loc.cells b8) Ty.AQ Ty.vz rfl (z.mono f.agree) (by first | omega | rfl) rfl (qY rfl)) ?_;have aj:=bi;rw [qA d] at aj;refine lq (aco f.oR aj) f ?_;intro cg a9;refine qc ?_;refine qN ?_;exact sj _ ⟨rfl,J,(jL.le.refl _),a9⟩ ⟨rfl,rfl,rfl,rfl,(sq rfl (by first | rfl | (rw [d];first | done | rfl) | simp [d])),trivial⟩
       ·refine rf f ?_;refine q2 ?_;refine qr (qD aaT rfl (f.rB (k:=0) rfl)) ?_;refine qr (oO rfl rfl yV) ?_;refine qc ?_;refine ri 17 d ?_;refine pI ?_;refine pI ?_;refine pI ?_;refine pI ?_;refine qz ?_;refine qc ?_;refine qN ?_;exact sj _ ⟨rfl,J,(jL.le.refl _),f⟩ ⟨rfl,rfl,rfl,rfl,(sq rfl (by first | rfl | (rw [d];first | done | rfl) | simp [d])),trivial⟩
      rintro E cf ⟨rfl,L,bN,X⟩;refine tR ?_;refine qy H (fun aJ H=>?_) (fun aJ H=>?_)
      ·refine ax ?_;exact nm H (jj X)
      ·refine pw _ rfl ?_;exact nj ⟨A,H,jj X⟩
     ·rintro E bW ⟨g,H,l,rfl,ak,e⟩;refine qU ?_;refine qU ?_;obtain ⟨b5,bo,b6,bp,H⟩:=oU H;obtain ⟨b2,bf,H⟩:=oL H;refine yd (fun E wq=>E=[(0,h),(3,a),(4,.i .i64 j),(5,.i .i64 g),(44,.b (decide (g < (l6.length:Int))&&b2))] ∧ ∃ n:jL,l.le n∧St [] w F n [.row Loc.t a l6] wq) ?_ ?_
      ·
       rcases uO (decide (g < (l6.length:Int))) with c | c
       ·refine rf e ?_;refine q2 ?_;refine qr (qD aaT rfl (e.rB (k:=0) rfl)) ?_;refine qr (oO rfl rfl yV) ?_;refine qc ?_;refine ri 34 c ?_;refine q2 ?_;have Z:=bo;rw [qA c] at Z;obtain ⟨ba,bt⟩:=oM Z;obtain ⟨b9,bg,u⟩:=e.rowAt (k:=0) rfl bt;obtain rfl:=bg;replace u:=qj 4 u;have aK:=u.rq;refine qi aaT Ty.vz aK ba ?_;refine qq (tD 0 (Loc.cells b5) Ty.AQ Ty.vz rfl u (by first | omega | rfl) rfl (qY rfl)) ?_;refine q2 ?_;have ad:=bp;rw [qA c] at ad;obtain ⟨bb,bu⟩:=oM ad;obtain ⟨bA,bh,x⟩:=(M.mono (P.trans ak)).el bu;obtain rfl:=bh;replace x:=qj 4 x;have aO:=x.rq;refine qi aaT Ty.vz aO bb ?_;refine qq (tD 0 (Loc.cells b6) Ty.AQ Ty.vz rfl (x.mono e.agree) (by first | omega | rfl) rfl (qY rfl)) ?_;have ae:=bf;rw [qA c] at ae;refine lq (QS e.oR ae) e ?_;intro bY a7;refine qc ?_;refine qN ?_;exact sj _ ⟨rfl,l,(jL.le.refl _),a7⟩ ⟨rfl,rfl,rfl,rfl,(sq rfl (by first | rfl | (rw [c];first | done | rfl) | simp [c])),trivial⟩
       ·refine rf e ?_;refine q2 ?_;refine qr (qD aaT rfl (e.rB (k:=0) rfl)) ?_;refine qr (oO rfl rfl yV) ?_;refine qc ?_;refine ri 34 c ?_;refine pI ?_;refine pI ?_;refine pI ?_;refine pI ?_;refine qz ?_;refine qc ?_;refine qN ?_;exact sj _ ⟨rfl,l,(jL.le.refl _),e⟩ ⟨rfl,rfl,rfl,rfl,(sq rfl (by first | rfl | (rw [c];first | done | rfl) | simp [c])),trivial⟩
      rintro E bX ⟨rfl,n,b0,p⟩;refine tR ?_;refine qy H (fun aH H=>?_) (fun aH H=>?_)
      ·refine pw _ rfl ?_;exact nj ⟨l6,H,⟨_,a,rfl,pc,p⟩⟩
      ·refine ay ?_;obtain ⟨bG,Y,a4,bq,H⟩:=oU H;obtain ⟨bH,aU,bI,aV,H⟩:=oU H;refine uT (G:=n) [0,1,2,3,5,6,7,8,9,4,10,11] rfl Ty.mixed (by kernel_rfl) p.agree ?_;refine au ?_;refine xq 0 0 g rfl rfl rfl rfl aaT Ty.vz rfl (.inl ⟨rfl,rfl⟩) (.inr ⟨_,_,rfl,rfl⟩) p rfl Y ?_;intro bO bE bn;obtain ⟨_,rfl,bD⟩:=qa 4 (M.mono ((P.trans ak).trans b0)) bq;refine au ?_;refine qx (sh (t:=Loc.t) (vs:=[.agg (Loc.cells a4)]) (xs:=[a4]) aaT Ty.AF rfl ⟨rfl,trivial⟩ rfl rfl p) ?_;rintro bR bZ R;refine qw R ?_;have V:=R.sY Loc.t;refine aP 0 V ((V.tf (k:=2) rfl).piece bn Y) aU ?_;intro bS ca S;refine aP 0 S (S.tf (k:=1) rfl) aV ?_;intro bT cb U;obtain ⟨bJ,aX,bz,aY,H⟩:=oU H;refine ax ?_;refine xq 2 g (l6.length:Int) rfl rfl rfl rfl aaT Ty.vz rfl (.inr ⟨_,_,rfl,rfl⟩) (.inl ⟨rfl,rfl⟩) U rfl aX ?_;intro bP bm bF;refine ap 0 U bm aY ?_;intro b4 cc a8;refine ax ?_;exact nj ⟨bz,H,⟨_,b4,rfl,pc,pk [0] a8⟩⟩
    ·rintro E bV ⟨O,H,I,B,rfl,bM,a6⟩;refine ax ?_;exact nm H ⟨_,B,rfl,pc,a6⟩
   ·refine pw _ rfl ?_;exact nj ⟨l6,H,⟨_,a,rfl,pc,q⟩⟩
 ·rintro E w1 ⟨l2,H,D,Q,rfl,bK,a5⟩;exact rx H a5
def wF.k1 (l3:List (List UInt8)):Option (List (List UInt8)) :=
  some l3
def wF.k3 (a:Int) (b:((List (List UInt8)) × Int)→Option (List (List UInt8))) (tL:List (List UInt8)):Option (List (List UInt8)) :=
  b (tL,wr (a+1))
def wF.l4 (x0:oP) (a:Int) (d:((List (List UInt8)) × Int)→Option (List (List UInt8))) (e:((List (List UInt8)) × Int)→Option (List (List UInt8))):((List (List UInt8)) × Int)→Option (List (List UInt8))
  | (qG,b) =>
    bd (ix x0.parts a) fun f =>
    if decide (b < (f.ids.length:Int)) then
      bd (ix x0.parts a) fun g =>
      bd (ix g.ids b) fun h =>
      bd (Bz qG h) fun c =>
      e (c.1,wr (b+1))
    else
      wF.k3 a d qG
def wF.l2 (x0:oP) (b:((List (List UInt8)) × Int)→Option (List (List UInt8))):((List (List UInt8)) × Int)→Option (List (List UInt8))
  | (l7,a) =>
    if decide (a < (x0.parts.length:Int)) then
      loop (wF.l4 x0 a b) (l7,0)
    else
      wF.k1 l7
def wF (x0:oP):Option (List (List UInt8)) :=
  loop (wF.l2 x0) ([],0)
theorem We {x0:oP} {r:(List (List UInt8))} {q:jD} (hA:Gd F w) (u:oF Part.t F q x0.parts) (H:wF x0=some r):pa aac K 51 [.agg (oP.cells x0 q)] w fun v w'=>∃ (F':jL) (D:jD),v=D∧oF rX F' D (r)∧St [] w F F' [] w':=by
 refine rA Tryz.func51 ?_;have hS:=St.start hA;refine qs ?_;refine bx ([.s x0.name,q]) ?_;intro l w1 m;refine au ?_;refine aq ?_;refine pe (fun E wq=>∃ l3:List (List UInt8),wF.k1 l3=some r ∧ ∃ (b:jL) (j:jD),E=[(3,j)]∧F.le b∧oF rX b j l3∧po m [] b wq) ?_ ?_
 ·refine ax ?_;refine qC (fun (s:(List (List UInt8)) × Int) E wq=>∃ (a:jL) (c:jD),E=[(1,pl l 0),(3,c),(4,.i .i64 s.2)]∧F.le a∧oF rX a c s.1∧ug m a wq) H ?_ ?_
  ·exact lo ⟨F,.sl none 0 (.k 0),rfl,(jL.le.refl _),(oF.nil _),m⟩
  ·rintro Z ⟨l7,p⟩ E w6 hI H
   try dsimp only at hI
   obtain ⟨a,c,rfl,B,z,f⟩:=hI;refine ay ?_;refine qy H (fun L H=>?_) (fun L H=>?_)
   ·refine qk ?_;refine pe (fun E wq=>∃ tL:List (List UInt8),wF.k3 p Z tL=some r ∧ ∃ (d:jL) (g:jD),E=[(1,pl l 0),(3,g),(4,.i .i64 p)]∧a.le d∧oF rX d g tL∧ug f d wq) ?_ ?_
    ·refine ax ?_;refine qC (fun (s:(List (List UInt8)) × Int) E wq=>∃ (e:jL) (h:jD),E=[(1,pl l 0),(3,h),(4,.i .i64 p),(5,.i .i64 s.2)]∧a.le e∧oF rX e h s.1∧ug f e wq) H ?_ ?_
     ·exact lo ⟨_,c,rfl,pc,z,f⟩
     ·rintro a5 ⟨qG,aj⟩ E aD hI H
      try dsimp only at hI
      obtain ⟨e,h,rfl,A,y,n⟩:=hI;obtain ⟨aO,U,H⟩:=oL H;obtain ⟨_,⟨a6,rfl,ai⟩,_⟩:=qa 3 (u.mono (B.trans A)) U;refine ay ?_;refine qy H (fun M H=>?_) (fun M H=>?_)
      ·obtain ⟨aR,V,aT,X,H⟩:=oU H;obtain ⟨a4,Q,H⟩:=oL H;obtain ⟨_,⟨a7,rfl,R⟩,_⟩:=qa 3 (u.mono (B.trans A)) V;obtain ⟨_,⟨rfl,P⟩,ah⟩:=qa 32 R X;refine ay ?_;refine lm (Wd n.oR y P Q) ?_;rintro a8 aJ ⟨ae,ad,rfl,O,x⟩;have J:=n.call x;have ar:=x.ext;refine ax ?_;exact nm H ⟨_,ad,rfl,pc,O,J⟩
      ·refine ax ?_;exact nj ⟨qG,H,⟨_,h,rfl,pc,y,n⟩⟩
    ·rintro E aC ⟨tL,H,d,g,rfl,ak,S,G⟩;refine ax ?_;exact nm H ⟨_,g,rfl,pc,S,G⟩
   ·refine pw _ rfl ?_;exact nj ⟨l7,H,⟨_,c,rfl,pc,z,pk [] f⟩⟩
 ·rintro E w2 ⟨l3,H,b,j,rfl,am,Y,I⟩;refine aq ?_;obtain rfl:=oi H;refine qt ?_;exact ⟨b,j,rfl,Y,I⟩
def AX.k1:Option Int :=
  some (-1)
def AX.l2 (x0:mZ) (x1:List UInt8) (b:Int→Option Int):Int→Option Int
  | a =>
    if decide (a < (x0.chunks.length:Int)) then
      bd (ix x0.chunks a) fun x8 =>
      if decide (x8.id=x1) then
        some a
      else
        b (wr (a+1))
    else
      AX.k1
def AX (x0:mZ) (x1:List UInt8):Option Int :=
  loop (AX.l2 x0 x1) 0
theorem Wi {x0:mZ} {x1:List UInt8} {r:Int} {b:jD} {c:jD} {d:jD} {e:jD} (hA:Gd F w) (A:oF lU.t F b x0.oB) (j:oF Chunk.t F c x0.chunks) (B:oF oC.t F d x0.oD) (D:oF oH.t F e x0.oK) (k:x1.length=32) (H:AX x0 x1=some r):pa aac K 52 [.agg (mZ.cells x0 b c d e),.agg (pb x1)] w fun v w'=>∃ (F':jL),v = .i .i64 r∧St [] w F F' [] w':=by
 refine ra Tryz.func52 ?_;have hS:=St.start hA;refine qs ?_;refine bx ([.i .i64 x0.seq,b,c,d,e]) ?_;intro g R G;refine bx (pb x1) ?_;intro h S f;refine au ?_;refine pe (jO (AX.k1=some r) [] f []) ?_ ?_
 ·refine ax ?_;refine lj f (fun s:Int=>[(2,pl g 0),(3,pl h 0),(5,.i .i64 s)]) H ?_;intro O L z V x a H;refine ay ?_;refine qy H (fun n H=>?_) (fun n H=>?_)
  ·refine ay ?_;obtain ⟨x8,u,H⟩:=oL H;refine rn ?_;obtain ⟨_,⟨P,Q,rfl,q,I,J⟩,p⟩:=qa 35 (j.mono x) u;refine au ?_;refine qr (tD 0 (pb x8.id) Ty.yg Ty.uL rfl (p.mono a.agree) (by first | omega | rfl) rfl (qY rfl)) ?_;refine au ?_;refine qr (oO rfl rfl (IT Ty.Jc rfl rfl (Jb q k))) ?_;refine qn ?_;refine qy H (fun m H=>?_) (fun m H=>?_)
   ·exact rz H a
   ·refine ax ?_;exact nm H (jj a)
  ·refine pw _ rfl ?_;exact nj ⟨H,jj (pk [] a)⟩
 ·rintro E U ⟨H,y,rfl,M,l⟩;exact rz H l
def C7 (x0:Int) (x1:Int) (x2:Int):Option Bool :=
  some (decide (x1≤x0)&&decide (x0≤x2))
theorem EN {x0:Int} {x1:Int} {x2:Int} {r:Bool} (hA:Gd F w) (H:C7 x0 x1 x2=some r):pa aac K 66 [.i .i64 x0,.i .i64 x1,.i .i64 x2] w fun v w'=>∃ (F':jL),v = .b r∧St [] w F F' [] w':=by
 refine BM Tryz.func66 ?_;have hS:=St.start hA;refine az ?_;exact rz H hS
def EM.k1:Option Bool :=
  some false
def EM.l2 (x0:List UInt8) (x1:List UInt8) (b:Int→Option Bool):Int→Option Bool
  | a =>
    if decide (a < 32) then
      bd (ix x0 a) fun x8 =>
      bd (ix x1 a) fun x9 =>
      if decide ((x8.toNat:Int)≠(x9.toNat:Int)) then
        bd (ix x0 a) fun c =>
        bd (ix x1 a) fun d =>
        some (decide ((c.toNat:Int) < (d.toNat:Int)))
      else
        b (wr (a+1))
    else
      EM.k1
def EM (x0:List UInt8) (x1:List UInt8):Option Bool :=
  loop (EM.l2 x0 x1) 0
theorem acq {x0:List UInt8} {x1:List UInt8} {r:Bool} (hA:Gd F w) (c:x0.length=32) (d:x1.length=32) (H:EM x0 x1=some r):pa aac K 67 [.agg (pb x0),.agg (pb x1)] w fun v w'=>∃ (F':jL),v = .b r∧St [] w F F' [] w':=by
 refine ra Tryz.func67 ?_;have hS:=St.start hA;refine qs ?_;refine bx (pb x0) ?_;intro l Z S;refine bx (pb x1) ?_;intro m w2 e;refine au ?_;refine pe (jO (EM.k1=some r) [] e []) ?_ ?_
 ·refine ax ?_;refine lj e (fun s:Int=>[(2,pl l 0),(3,pl m 0),(5,.i .i64 s)]) H ?_;intro Y U R w4 X a H;refine ay ?_;refine qy H (fun x H=>?_) (fun x H=>?_)
  ·refine ay ?_;obtain ⟨x8,j,x9,k,H⟩:=oU H;refine rn ?_;refine qc ?_;obtain ⟨y,D⟩:=oM j;refine qr (qV acY Ty.vA rfl rfl y (p8 c D)) ?_;obtain ⟨_,G⟩:=oM j;refine qr (rR 1 Ty.DQ rfl a rfl (Gl (fun q u h=>by simpa using h) c G)) ?_;refine qc ?_;obtain ⟨z,I⟩:=oM k;refine qr (qV acY Ty.vA rfl rfl z (p8 d I)) ?_;obtain ⟨_,J⟩:=oM k;refine qr (rR 0 Ty.DQ rfl a rfl (Gl (fun q u h=>by simpa using h) d J)) ?_;refine au ?_;refine qy H (fun p H=>?_) (fun p H=>?_)
   ·refine qU ?_;obtain ⟨ai,f,aj,g,H⟩:=oU H;refine rn ?_;refine qc ?_;obtain ⟨A,L⟩:=oM f;refine qr (qV acY Ty.vA rfl rfl A (p8 c L)) ?_;obtain ⟨_,M⟩:=oM f;refine qr (rR 1 Ty.DQ rfl a rfl (Gl (fun q u h=>by simpa using h) c M)) ?_;refine qc ?_;obtain ⟨B,O⟩:=oM g;refine qr (qV acY Ty.vA rfl rfl B (p8 d O)) ?_;obtain ⟨_,P⟩:=oM g;refine qr (rR 0 Ty.DQ rfl a rfl (Gl (fun q u h=>by simpa using h) d P)) ?_;exact rz H a
   ·refine ax ?_;exact nm H (jj a)
  ·refine pw _ rfl ?_;exact nj ⟨H,jj (pk [] a)⟩
 ·rintro E w3 ⟨H,Q,rfl,V,n⟩;exact rz H n
def yl.k1:Option Bool :=
  some true
def yl.k3 (a:Int) (b:Int→Option Bool):Option Bool :=
  b (wr (a+1))
def yl.l2 (x0:mZ) (x1:List Loc) (f:Int→Option Bool):Int→Option Bool
  | a =>
    if decide (a < (x1.length:Int)) then
      bd (ix x1 a) fun x9 =>
      bd (only (!(decide (x9.pE < 0)||decide ((x0.oK.length:Int)≤x9.pE))) (ix x0.oK x9.pE) (oH.mk 0 0 0 0)) fun b =>
      bd (only (!((decide (x9.pE < 0)||decide ((x0.oK.length:Int)≤x9.pE))||decide (b.state≠2))) (ix x0.oK x9.pE) (oH.mk 0 0 0 0)) fun h =>
      bd (only (!((decide (x9.pE < 0)||decide ((x0.oK.length:Int)≤x9.pE))||decide (b.state≠2))) (C7 x9.file 1 h.files) false) fun d =>
      bd (only (!(((decide (x9.pE < 0)||decide ((x0.oK.length:Int)≤x9.pE))||decide (b.state≠2))||(!d))) (C7 x9.off 0 16777215) false) fun e =>
      bd (only (!((((decide (x9.pE < 0)||decide ((x0.oK.length:Int)≤x9.pE))||decide (b.state≠2))||(!d))||(!e))) (C7 x9.len 13 8013) false) fun g =>
      if (((((decide (x9.pE < 0)||decide ((x0.oK.length:Int)≤x9.pE))||decide (b.state≠2))||(!d))||(!e))||(!g)) then
        some false
      else
        if decide (0 < a) then
          bd (ix x1 (wr (a - 1))) fun c =>
          if (!(decide (c.pE < x9.pE)||(decide (c.pE=x9.pE)&&(decide (c.file < x9.file)||(decide (c.file=x9.file)&&decide (c.off < x9.off)))))) then
            some false
          else
            yl.k3 a f
        else
          yl.k3 a f
    else
      yl.k1
def yl (x0:mZ) (x1:List Loc):Option Bool :=
  if decide (200 < (x1.length:Int)) then
    some false
  else
    loop (yl.l2 x0 x1) 0
set_option maxHeartbeats 2000000 in
theorem QX {x0:mZ} {x1:List Loc} {r:Bool} {m:jD} {n:jD} {p:jD} {q:jD} {c:jD} (hA:Gd F w) (ai:oF lU.t F m x0.oB) (aj:oF Chunk.t F n x0.chunks) (ak:oF oC.t F p x0.oD) (a:oF oH.t F q x0.oK) (x:oF Loc.t F c x1) (H:yl x0 x1=some r):pa aac K 68 [.agg (mZ.cells x0 m n p q),c] w fun v w'=>∃ (F':jL),v = .b r∧St [] w F F' [] w':=by
 refine ra Tryz.func68 ?_;have hS:=St.start hA;refine qs ?_;refine bx ([.i .i64 x0.seq,m,n,p,q]) ?_;intro u w1 e;refine ay ?_;refine qy H (fun L H=>?_) (fun L H=>?_)
 ·exact rz H e
 ·refine qk ?_;refine pe (jO (yl.k1=some r) [] e []) ?_ ?_
  ·refine ax ?_;refine lj e (fun s:Int=>[(1,c),(2,pl u 0),(5,.i .i64 s)]) H ?_;intro X B Z w4 D z H;refine ay ?_;refine qy H (fun M H=>?_) (fun M H=>?_)
   ·refine qk ?_;refine pe (jN (yl.k3 B X=some r) [(1,c),(2,pl u 0),(5,.i .i64 B)] z) ?_ ?_
    ·obtain ⟨x9,V,H⟩:=oL H;obtain ⟨_,rfl,a4⟩:=qa 4 (x.mono D) V;refine ax ?_;refine al ?_;intro ae aH am;refine sb 0 ([.i .i64 x9.pE,.i .i64 x9.file,.i .i64 x9.off,.i .i64 x9.len]) ?_;intro aJ f;refine ay ?_;obtain ⟨ba,k,bb,l,H⟩:=oU H;obtain ⟨a8,Q,a9,R,H⟩:=oU H;obtain ⟨aC,S,H⟩:=oL H;refine rf f ?_;refine aw ?_;refine ge (mo a) k ?_;refine ge (mo a) k ?_;refine ge (mo a) k ?_;refine aw ?_;refine ge (mo a) l ?_;refine ge (mo a) l ?_;refine ge (mo a) l ?_;refine gw f Q (fun y=>EN f.oR y) ?_;intro aR g;refine qw g ?_;refine aw ?_;refine gw g R (fun y=>EN g.oR y) ?_;intro aT h;refine qw h ?_;refine aw ?_;refine gw h S (fun y=>EN h.oR y) ?_;intro aU j;refine qw j ?_;refine aw ?_;refine qy H (fun O H=>?_) (fun O H=>?_)
     ·exact rz H j
     ·refine ax ?_;refine qy H (fun P H=>?_) (fun P H=>?_)
      ·obtain ⟨d,U,H⟩:=oL H;obtain ⟨_,rfl,a5⟩:=qa 4 (x.mono D) U;refine aq ?_;refine al ?_;intro ah aX ar;refine sb 0 ([.i .i64 d.pE,.i .i64 d.file,.i .i64 d.off,.i .i64 d.len]) ?_;intro aY A;refine az ?_;refine qy H (fun J H=>?_) (fun J H=>?_)
       ·exact rz H A
       ·refine ax ?_;exact nj ⟨H,jj (pk [2] A)⟩
      ·refine ax ?_;exact nj ⟨H,jj (pk [1] j)⟩
    ·rintro E w8 ⟨H,F8,rfl,a7,I⟩;refine ax ?_;exact nm H (jj I)
   ·refine pw _ rfl ?_;exact nj ⟨H,jj (pk [] z)⟩
  ·rintro E w3 ⟨H,Y,rfl,a6,G⟩;exact rz H G
def Cn.k1:Option Int :=
  some (-1)
def Cn.l2 (x0:mZ) (x1:List UInt8) (b:Int→Option Int):Int→Option Int
  | a =>
    if decide (a < (x0.oB.length:Int)) then
      bd (ix x0.oB a) fun x7 =>
      if (x7.oJ.name == x1) then
        some a
      else
        b (wr (a+1))
    else
      Cn.k1
def Cn (x0:mZ) (x1:List UInt8):Option Int :=
  loop (Cn.l2 x0 x1) 0
theorem acp {x0:mZ} {x1:List UInt8} {r:Int} {b:jD} {c:jD} {d:jD} {e:jD} (hA:Gd F w) (h:oF lU.t F b x0.oB) (u:oF Chunk.t F c x0.chunks) (x:oF oC.t F d x0.oD) (y:oF oH.t F e x0.oK) (H:Cn x0 x1=some r):pa aac K 30 [.agg (mZ.cells x0 b c d e),.s x1] w fun v w'=>∃ (F':jL),v = .i .i64 r∧St [] w F F' [] w':=by
 refine ra Tryz.func30 ?_;have hS:=St.start hA;refine qs ?_;refine bx ([.i .i64 x0.seq,b,c,d,e]) ?_;intro g L f;refine au ?_;refine pe (jO (Cn.k1=some r) [] f []) ?_ ?_
 ·refine ax ?_;refine lj f (fun s:Int=>[(1,.s x1),(2,pl g 0),(5,.i .i64 s)]) H ?_;intro G B q O n a H;refine ay ?_;refine qy H (fun l H=>?_) (fun l H=>?_)
  ·obtain ⟨x7,m,H⟩:=oL H;obtain ⟨_,⟨I,J,rfl,z,A⟩,_⟩:=qa 4 (h.mono n) m;refine ay ?_;refine qy H (fun k H=>?_) (fun k H=>?_)
   ·exact rz H a
   ·refine ax ?_;exact nm H (jj a)
  ·refine pw _ rfl ?_;exact nj ⟨H,jj (pk [] a)⟩
 ·rintro E M ⟨H,p,rfl,D,j⟩;exact rz H j
def qF.k4:Option Bool :=
  some true
def qF.l5 (x0:mZ) (e:Int→Option Bool):Int→Option Bool
  | b =>
    if decide (b < (x0.oD.length:Int)) then
      bd (ix x0.oD b) fun a =>
      bd (only ((!(decide (a.seq < 0)||decide (x0.seq≤a.seq)))&&decide (0 < b)) (ix x0.oD (wr (b - 1))) (oC.mk 0 0 [])) fun c =>
      bd (only (!((((decide (a.seq < 0)||decide (x0.seq≤a.seq))||(decide (0 < b)&&decide (a.seq≤c.seq)))||decide (a.of < 0))||decide (a.seq≤a.of))) (yl x0 a.oN) false) fun d =>
      if ((((((decide (a.seq < 0)||decide (x0.seq≤a.seq))||(decide (0 < b)&&decide (a.seq≤c.seq)))||decide (a.of < 0))||decide (a.seq≤a.of))||(!d))||decide ((a.oN.length:Int)=0)) then
        some false
      else
        e (wr (b+1))
    else
      qF.k4
def qF.k3 (x0:mZ):Option Bool :=
  loop (qF.l5 x0) 0
def qF.k7 (a:Int) (b:Int→Option Bool):Option Bool :=
  b (wr (a+1))
def qF.l9 (x0:mZ) (b:Int) (c:Int→Option Bool) (e:lU) (d:Int→Option Bool):Int→Option Bool
  | a =>
    if decide (a < (x0.oD.length:Int)) then
      bd (ix x0.oD a) fun f =>
      if decide (f.of=e.seq) then
        some false
      else
        d (wr (a+1))
    else
      qF.k7 b c
def qF.k8 (x0:mZ) (a:Int) (b:Int→Option Bool) (c:lU):Option Bool :=
  loop (qF.l9 x0 a b c) 0
def qF.sm (x0:mZ) (c:Int) (e:Int→Option Bool) (g:lU) (b:(List (List UInt8))) (f:Int→Option Bool):Int→Option Bool
  | a =>
    if decide (a < (b.length:Int)) then
      bd (ix b a) fun h =>
      bd (AX x0 h) fun d =>
      if decide (d < 0) then
        some false
      else
        f (wr (a+1))
    else
      qF.k8 x0 c e g
def qF.l6 (x0:mZ) (h:Int→Option Bool):Int→Option Bool
  | b =>
    if decide (b < (x0.oB.length:Int)) then
      bd (ix x0.oB b) fun a =>
      bd (only ((!(decide (a.seq < 0)||decide (x0.seq≤a.seq)))&&decide (0 < b)) (ix x0.oB (wr (b - 1))) (lU.mk 0 (oP.mk [] []) [])) fun c =>
      bd (only (!((decide (a.seq < 0)||decide (x0.seq≤a.seq))||(decide (0 < b)&&decide (a.seq≤c.seq)))) (BA a.oJ) false) fun d =>
      bd (only (!(((decide (a.seq < 0)||decide (x0.seq≤a.seq))||(decide (0 < b)&&decide (a.seq≤c.seq)))||(!d))) (yl x0 a.oN) false) fun e =>
      bd (only (!((((decide (a.seq < 0)||decide (x0.seq≤a.seq))||(decide (0 < b)&&decide (a.seq≤c.seq)))||(!d))||(!e))) (Cn x0 a.oJ.name) 0) fun f =>
      if (((((decide (a.seq < 0)||decide (x0.seq≤a.seq))||(decide (0 < b)&&decide (a.seq≤c.seq)))||(!d))||(!e))||decide (f≠b)) then
        some false
      else
        bd (wF a.oJ) fun g =>
        loop (qF.sm x0 b h a g) 0
    else
      qF.k3 x0
def qF.k2 (x0:mZ):Option Bool :=
  loop (qF.l6 x0) 0
def qF.sI (x0:mZ) (f:Int→Option Bool):Int→Option Bool
  | a =>
    if decide (a < (x0.chunks.length:Int)) then
      bd (ix x0.chunks a) fun b =>
      bd (only (decide (0 < a)) (ix x0.chunks (wr (a - 1))) (Chunk.mk (ph 32 (0:UInt8)) false [] [])) fun g =>
      bd (only (decide (0 < a)) (EM g.id b.id) false) fun c =>
      bd (only (!(decide (0 < a)&&(!c))) (yl x0 b.oN) false) fun d =>
      bd (only ((!((decide (0 < a)&&(!c))||(!d)))&&b.pX) (C7 (b.data.length:Int) 1 64) false) fun e =>
      if ((((decide (0 < a)&&(!c))||(!d))||(b.pX&&(!e)))||((!b.pX)&&(decide (0 < (b.data.length:Int))||decide ((b.oN.length:Int)=0)))) then
        some false
      else
        f (wr (a+1))
    else
      qF.k2 x0
def qF.k1 (x0:mZ):Option Bool :=
  loop (qF.sI x0) 0
def qF.A4 (a:Int) (b:Int→Option Bool):Option Bool :=
  b (wr (a+1))
def qF.Oo (b:Int) (c:Int→Option Bool) (a:oH) (d:Bool):Option Bool :=
  if d then
    if decide (a.files≠0) then
      some false
    else
      qF.A4 b c
  else
    if decide (a.state=2) then
      bd (C7 a.files 1 65535) fun e =>
      if (!e) then
        some false
      else
        qF.A4 b c
    else
      some false
def qF.rZ (x0:mZ) (d:Int→Option Bool):Int→Option Bool
  | b =>
    if decide (b < (x0.oK.length:Int)) then
      bd (ix x0.oK b) fun a =>
      bd (C7 a.AD 0 1) fun c =>
      bd (only (!(!c)) (C7 a.Af 0 1048576) false) fun e =>
      if ((!c)||(!e)) then
        some false
      else
        if decide (a.state=1) then
          qF.Oo b d a (decide (a.state=1))
        else
          qF.Oo b d a (decide (a.state=3))
    else
      qF.k1 x0
def qF (x0:mZ):Option Bool :=
  bd (C7 x0.seq 0 1073741824) fun a =>
  bd (only (!((((!a)||decide (8 < (x0.oB.length:Int)))||decide (200 < (x0.chunks.length:Int)))||decide (200 < (x0.oD.length:Int)))) (C7 (x0.oK.length:Int) 1 8) false) fun b =>
  if (((((!a)||decide (8 < (x0.oB.length:Int)))||decide (200 < (x0.chunks.length:Int)))||decide (200 < (x0.oD.length:Int)))||(!b)) then
    some false
  else
    loop (qF.rZ x0) 0
set_option maxHeartbeats 2000000 in
theorem Wh {x0:mZ} {r:Bool} {c:jD} {d:jD} {e:jD} {f:jD} (hA:Gd F w) (l:oF lU.t F c x0.oB) (g:oF Chunk.t F d x0.chunks) (j:oF oC.t F e x0.oD) (n:oF oH.t F f x0.oK) (H:qF x0=some r):pa aac K 21 [.agg (mZ.cells x0 c d e f)] w fun v w'=>∃ (F':jL),v = .b r∧St [] w F F' [] w':=by
 refine rA Tryz.func21 ?_;have hS:=St.start hA;refine qs ?_;refine bx ([.i .i64 x0.seq,c,d,e,f]) ?_;intro a w1 aK;obtain ⟨r2,ca,r3,cg,H⟩:=oU H;refine ay ?_;refine lp (EN aK.oR ca) aK ?_;intro w4 bf;refine aw ?_;refine gw bf cg (fun y=>EN bf.oR y) ?_;intro dO am;refine pQ.now ?_;refine aw ?_;refine qy H (fun bG H=>?_) (fun bG H=>?_)
 ·exact rz H am
 ·refine qk ?_;refine pe (jN (qF.k1 x0=some r) [(1,pl a 0)] am) ?_ ?_
  ·refine ax ?_;refine lj am (fun s:Int=>[(1,pl a 0),(3,.i .i64 s)]) H ?_;intro bo X bu dU c5 ba H;refine ay ?_;refine qy H (fun bI H=>?_) (fun bI H=>?_)
   ·refine qk ?_;refine pe (jN (qF.A4 X bo=some r) [(1,pl a 0),(3,.i .i64 X)] ba) ?_ ?_
    ·obtain ⟨m,cw,H⟩:=oL H;obtain ⟨_,rfl,cX⟩:=qa 4 (n.mono c5) cw;refine ax ?_;refine al ?_;intro bw dX cR;refine sb 0 ([.i .i64 m.AD,.i .i64 m.Af,.i .i64 m.state,.i .i64 m.files]) ?_;intro dY bb;obtain ⟨dy,ch,dz,ci,H⟩:=oU H;refine ay ?_;refine lp (EN bb.oR ch) bb ?_;intro dZ bc;refine aw ?_;refine gw bc ci (fun y=>EN bc.oR y) ?_;intro eb R;refine pQ.now ?_;refine aw ?_;refine qy H (fun bJ H=>?_) (fun bJ H=>?_)
     ·exact rz H R
     ·refine qk ?_;refine aq ?_;refine xP ?_;refine pe (fun E wq=>∃ ah:Bool,qF.Oo X bo m ah=some r ∧ ∃ (ae:jL),E=[(1,pl a 0),(3,.i .i64 X),(4,pl bw 0),(66,.i .i64 m.state),(67,.b ah)]∧bu.le ae∧ug R ae wq) ?_ ?_
      ·refine aq ?_;refine qy H (fun bP H=>?_) (fun bP H=>?_)
       ·refine Bo ?_;exact nj ⟨decide (m.state=1),H,jj R⟩
       ·refine ax ?_;exact nj ⟨decide (m.state=3),H,jj R⟩
      ·rintro E ec ⟨ah,H,ae,rfl,dl,I⟩;refine qy H (fun bK H=>?_) (fun bK H=>?_)
       ·refine aq ?_;refine qy H (fun bM H=>?_) (fun bM H=>?_)
        ·exact rz H I
        ·refine ax ?_;exact nj ⟨H,jj (pk [1] I)⟩
       ·refine aq ?_;refine qy H (fun bN H=>?_) (fun bN H=>?_)
        ·obtain ⟨d0,cj,H⟩:=oL H;refine aq ?_;refine lp (EN I.oR cj) I ?_;intro ed be;refine au ?_;refine qy H (fun bO H=>?_) (fun bO H=>?_)
         ·exact rz H be
         ·refine ax ?_;exact nj ⟨H,jj (pk [1] be)⟩
        ·exact rz H I
    ·rintro E dV ⟨H,cI,rfl,dj,b0⟩;refine ax ?_;exact nm H (jj b0)
   ·refine pw _ rfl ?_;exact nj ⟨H,jj ba⟩
  ·rintro E dR ⟨H,cF,rfl,x,aV⟩;refine pe (jN (qF.k2 x0=some r) [(1,pl a 0)] aV) ?_ ?_
   ·refine ax ?_;refine lj aV (fun s:Int=>[(1,pl a 0),(5,.i .i64 s)]) H ?_;intro d4 c0 cE dK aC aU H;refine ay ?_;refine qy H (fun bF H=>?_) (fun bF H=>?_)
    ·obtain ⟨L,cu,H⟩:=oL H;obtain ⟨_,⟨bp,bq,rfl,bU,de,cm⟩,cV⟩:=qa 35 (g.mono (x.trans aC)) cu;refine ay ?_;refine xm (vF (cs:=pb (ph 32 (0:UInt8))++([.b false,.sl none 0 (.k 0),.sl none 0 (.k 0)]:List jD)) Ty.MD rfl aU) ?_;rintro _ dL ⟨cN,rfl,cQ⟩;refine sb 0 (pb L.id++([.b L.pX,bp,bq]:List jD)) ?_;intro dM D;refine ay ?_;obtain ⟨aJ,J,du,cb,H⟩:=oU H;obtain ⟨dv,cc,dw,cd,H⟩:=oU H;have V:(aJ.id).length=32:=by
      rcases uO (decide (0 < c0)) with a6 | a6
      ·have bj:=J;rw [qA a6] at bj;obtain ⟨db,cy⟩:=oM bj;obtain ⟨cL,ce,a7⟩:=(g.mono (x.trans aC)).el cy;obtain ⟨c8,c9,rfl,V,cn,co⟩:=ce;replace a7:=qj 35 a7;have cZ:=a7.rq;exact V
      ·have hy:=J;rw [te a6] at hy;obtain rfl:=oi hy
       rfl
     refine rf D ?_;refine aw ?_;refine ge (mo g) J ?_;refine ge (mo g) J ?_;refine uC (v:=.agg (pb aJ.id)) rfl rfl rfl rfl (fun ⟨bh,_⟩=>?_) ?_
     ·rw [bh];intro hK;have bk:=J;rw [qA bh] at bk;obtain ⟨dc,cz⟩:=oM bk;obtain ⟨cM,cf,U⟩:=(g.mono (x.trans aC)).el cz;obtain ⟨c8,c9,rfl,V,cn,co⟩:=cf;replace U:=qj 35 U;have da:=U.rq;refine qq (tD 0 (pb aJ.id) Ty.yg Ty.uL rfl (U.mono D.agree) (by first | omega | rfl) rfl (qY rfl)) ?_;exact hK
     refine aw ?_;refine uC (v:=.agg (pb L.id)) rfl rfl rfl rfl (fun ⟨b6,_⟩=>?_) ?_
     ·rw [b6];exact (qq (yy 0 (pb L.id) Ty.yg Ty.uL (wU _) rfl D rfl (fun q u h=>xd (post:=[.b L.pX,bp,bq]) rfl h)) ·)
     refine gw D cb (fun y=>acq D.oR V bU y) ?_;intro dN Q;refine qw Q ?_;refine aw ?_;refine uC (v:=.agg (mZ.cells x0 c d e f)) rfl rfl rfl rfl (fun ⟨b7,_⟩=>?_) ?_
     ·rw [b7];exact (qq (yy 1 (mZ.cells x0 c d e f) Ty.yU Ty.zh (wU _) rfl Q rfl (fun q u h=>xd (post:=[]) rfl h)) ·)
     refine aw ?_;refine gw Q cc (fun y=>QX Q.oR (mo l) (mo g) (mo j) (mo n) cm y) ?_;intro dP ar;refine qw ar ?_;refine aw ?_;refine Rs ar cd (fun y=>EN ar.oR y) ?_;intro dQ a4;refine qw a4 ?_;refine aw ?_;refine qy H (fun bH H=>?_) (fun bH H=>?_)
     ·exact rz H a4
     ·refine ax ?_;exact nm H (jj (pk [1] a4))
    ·refine pw _ rfl ?_;exact nj ⟨H,jj aU⟩
   ·rintro E dS ⟨H,cG,rfl,aD,aX⟩;refine pe (jN (qF.k3 x0=some r) [(1,pl a 0)] aX) ?_ ?_
    ·refine ax ?_;refine lj aX (fun s:Int=>[(1,pl a 0),(7,.i .i64 s)]) H ?_;intro bn p bs d8 bm aO H;refine ay ?_;refine qy H (fun b9 H=>?_) (fun b9 H=>?_)
     ·refine qk ?_;refine pe (jN (qF.k7 p bn=some r) [(1,pl a 0),(7,.i .i64 p)] aO) ?_ ?_
      ·obtain ⟨z,cq,H⟩:=oL H;obtain ⟨_,⟨Y,aH,rfl,bi,cl⟩,cT⟩:=qa 4 (l.mono ((x.trans aD).trans bm)) cq;refine ax ?_;refine al ?_;intro ai dA cP;refine sb 0 ([.i .i64 z.seq,.s z.oJ.name,Y,aH]) ?_;intro dB M;refine ay ?_;obtain ⟨ei,a8,dm,bV,H⟩:=oU H;obtain ⟨dn,bW,dq,bX,H⟩:=oU H;refine uT (G:=bs) [0,1,2,3,4,5,6,7,8,9,10,11,12,13,14,15,16,17,18,19,20,21,22,23,24,25,26,27,28,29,30,31,32,33,34,35,36,37,38,39,40,41,42,43,45,44,46,47] rfl Ty.mixed (by kernel_rfl) M.agree ?_;refine aw ?_;refine xS (mo l) a8 ?_;refine xS (mo l) a8 ?_;refine xS (mo l) a8 ?_;refine aw ?_;refine uC (v:=.agg (oP.cells z.oJ Y)) rfl rfl rfl rfl (fun ⟨b3,_⟩=>?_) ?_
       ·rw [b3];exact (qq (yy 0 (oP.cells z.oJ Y) Ty.zA Ty.zj (wU _) rfl M rfl (fun q u h=>xd (post:=[aH]) rfl h)) ·)
       refine gw M bV (fun y=>Wg M.oR bi y) ?_;intro dC O;refine qw O ?_;refine aw ?_;refine uC (v:=.agg (mZ.cells x0 c d e f)) rfl rfl rfl rfl (fun ⟨b4,_⟩=>?_) ?_
       ·rw [b4];exact (qq (yy 1 (mZ.cells x0 c d e f) Ty.yU Ty.zh (wU _) rfl O rfl (fun q u h=>xd (post:=[]) rfl h)) ·)
       refine aw ?_;refine gw O bW (fun y=>QX O.oR (mo l) (mo g) (mo j) (mo n) cl y) ?_;intro dD P;refine qw P ?_;refine aw ?_;refine uC (v:=.agg (mZ.cells x0 c d e f)) rfl rfl rfl rfl (fun ⟨b5,_⟩=>?_) ?_
       ·rw [b5];exact (qq (yy 1 (mZ.cells x0 c d e f) Ty.yU Ty.zh (wU _) rfl P rfl (fun q u h=>xd (post:=[]) rfl h)) ·)
       refine aw ?_;refine gw P bX (fun y=>acp P.oR (mo l) (mo g) (mo j) (mo n) y) ?_;intro dE A;refine qw A ?_;refine aw ?_;refine qy H (fun bA H=>?_) (fun bA H=>?_)
       ·exact rz H A
       ·obtain ⟨dr,bY,H⟩:=oL H;refine ax ?_;refine bl A 0 (oP.cells z.oJ Y) [aH] ?_;refine lm (We A.oR bi bY) ?_;rintro cC dF ⟨bv,_,rfl,bS,bg⟩;have aj:=A.call bg;have c7:=bg.ext;refine au ?_;refine pe (jN (qF.k8 x0 p bn z=some r) [(1,pl a 0),(7,.i .i64 p),(8,pl ai 0)] aj) ?_ ?_
        ·refine ax ?_;refine qC (fun (s:Int) E wq=>∃ (ad:jL),E=[(1,pl a 0),(7,.i .i64 p),(8,pl ai 0),(9,cC),(10,.i .i64 s)]∧bv.le ad∧ug aj ad wq) H ?_ ?_
         ·exact lo (jj aj)
         ·rintro d3 dg E dI hI H
          try dsimp only at hI
          obtain ⟨ad,rfl,c3,B⟩:=hI;refine ay ?_;refine qy H (fun bD H=>?_) (fun bD H=>?_)
          ·refine ay ?_;obtain ⟨ek,ct,ds,bZ,H⟩:=oU H;refine rf B ?_;refine bL B 1 (mZ.cells x0 c d e f) [] ?_;obtain ⟨_,⟨rfl,bT⟩,cU⟩:=qa 32 (bS.mono c3) ct;refine au ?_;refine lq (Wi B.oR (mo l) (mo g) (mo j) (mo n) bT bZ) B ?_;intro dJ aT;refine au ?_;refine qy H (fun bE H=>?_) (fun bE H=>?_)
           ·exact rz H aT
           ·refine ax ?_;exact nm H (jj aT)
          ·refine pw _ rfl ?_;exact nj ⟨H,jj B⟩
        ·rintro E dG ⟨H,bt,rfl,c1,aR⟩;refine ax ?_;refine qC (fun (s:Int) E wq=>∃ (Z:jL),E=[(1,pl a 0),(7,.i .i64 p),(8,pl ai 0),(11,.i .i64 s)]∧bt.le Z∧ug aR Z wq) H ?_ ?_
         ·exact lo (jj aR)
         ·rintro d2 df E dH hI H
          try dsimp only at hI
          obtain ⟨Z,rfl,c2,ak⟩:=hI;refine ay ?_;refine qy H (fun bB H=>?_) (fun bB H=>?_)
          ·refine ay ?_;obtain ⟨ej,cr,H⟩:=oL H;refine rn ?_;obtain ⟨_,⟨d6,rfl,dd⟩,_⟩:=qa 3 (j.mono (((((x.trans aD).trans bm).trans c7).trans c1).trans c2)) cr;refine au ?_;refine qy H (fun bC H=>?_) (fun bC H=>?_)
           ·exact rz H ak
           ·refine ax ?_;exact nm H (jj ak)
          ·refine ax ?_;exact nj ⟨H,jj (pk [1] ak)⟩
      ·rintro E d9 ⟨H,cD,rfl,di,bz⟩;refine ax ?_;exact nm H (jj bz)
     ·refine pw _ rfl ?_;exact nj ⟨H,jj aO⟩
    ·rintro E dT ⟨H,cH,rfl,c4,aY⟩;refine pe (jO (qF.k4=some r) [] aY []) ?_ ?_
     ·refine ax ?_;refine lj aY (fun s:Int=>[(1,pl a 0),(12,.i .i64 s)]) H ?_;intro d5 dh cK ea c6 b2 H;refine ay ?_;refine qy H (fun bQ H=>?_) (fun bQ H=>?_)
      ·obtain ⟨br,cx,H⟩:=oL H;obtain ⟨_,⟨cA,rfl,cp⟩,cY⟩:=qa 3 (j.mono (((x.trans aD).trans c4).trans c6)) cx;refine ay ?_;refine al ?_;intro cO ee cS;refine sb 0 ([.i .i64 br.seq,.i .i64 br.of,cA]) ?_;intro ef S;refine ay ?_;obtain ⟨em,a9,d1,ck,H⟩:=oU H;refine rf S ?_;refine aw ?_;refine xS (mo j) a9 ?_;refine xS (mo j) a9 ?_;refine xS (mo j) a9 ?_;refine aw ?_;refine uC (v:=.agg (mZ.cells x0 c d e f)) rfl rfl rfl rfl (fun ⟨b8,_⟩=>?_) ?_
       ·rw [b8];exact (qq (yy 1 (mZ.cells x0 c d e f) Ty.yU Ty.zh (wU _) rfl S rfl (fun q u h=>xd (post:=[]) rfl h)) ·)
       refine aw ?_;refine gw S ck (fun y=>QX S.oR (mo l) (mo g) (mo j) (mo n) cp y) ?_;intro eh a5;refine qw a5 ?_;refine aw ?_;refine qy H (fun bR H=>?_) (fun bR H=>?_)
       ·exact rz H a5
       ·refine ax ?_;exact nm H (jj (pk [1] a5))
      ·refine pw _ rfl ?_;exact nj ⟨H,jj (pk [] b2)⟩
     ·rintro E dW ⟨H,cJ,rfl,dk,b1⟩;exact rz H b1
end
end Go.Wk.Lf
end
