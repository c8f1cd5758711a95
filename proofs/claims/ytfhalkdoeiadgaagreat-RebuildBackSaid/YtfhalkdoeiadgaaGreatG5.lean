/-  -/
import Derived.Test.YtfhalkdoeiadgaaGreatG4
set_option linter.unusedVariables false
set_option linter.unusedSimpArgs false
open Bool renaming eq_false_or_eq_true→nk
open Go.Proofs.Tryz renaming prog→il, underlying24→kR, underlying25→kT, underlying26→mg, underlying3→mH, underlying31→lL, underlying5→p7, underlying59→ov, underlying62→Dj, underlying78→p9, underlying82→uZ, underlying95→ER
open List renaming length_replicate→vL, replicate→iV
open Nat renaming le_of_ble_eq_true→kY
section
namespace Go.Wk.Lf
open Go.V Go.Proofs
noncomputable section
set_option maxRecDepth 100000
variable{K:Tb}{F:gL}{w:Hp}
def nR.k1(x0:List UInt8)(a:List (List UInt8))(b:List Part):Option (iF×(List (List UInt8))×Int) :=
  some ((iF.mk x0 b),a,0)
def nR.k3(a:Int)(e:((List (List UInt8))×(List (List UInt8))×Int×(List Part))→Option (iF×(List (List UInt8))×Int))(b:List (List UInt8))(c:List (List UInt8))(d:List Part):Option (iF×(List (List UInt8))×Int) :=
  e (b,c,wr (a+1),d)
def nR.k4(b:Int)(c:List Part)(h:((List (List UInt8))×(List (List UInt8))×Int×(List Part))→Option (iF×(List (List UInt8))×Int))(a:jd)(d:List (List UInt8))(e:List (List UInt8))(f:List (List UInt8)):Option (iF×(List (List UInt8))×Int) :=
  bd (app (α:=Part) c [(Part.mk a.path (a.data.length:Int) f)]) λg =>
  nR.k3 b h d e g
def nR.k6(a:Int)(f:((List (List UInt8))×(List (List UInt8))×(List (List UInt8))×Int×(List (List UInt8)))→Option (iF×(List (List UInt8))×Int))(d:List (List UInt8))(e:(List (List UInt8))×Int×Bool)(b:List (List UInt8))(c:List (List UInt8)):Option (iF×(List (List UInt8))×Int) :=
  f (e.1,b,c,wr (a+1),d)
def nR.l5(j:Int)(q:List Part)(r:((List (List UInt8))×(List (List UInt8))×Int×(List Part))→Option (iF×(List (List UInt8))×Int))(u:jd)(i:((List (List UInt8))×(List (List UInt8))×(List (List UInt8))×Int×(List (List UInt8)))→Option (iF×(List (List UInt8))×Int)):((List (List UInt8))×(List (List UInt8))×(List (List UInt8))×Int×(List (List UInt8)))→Option (iF×(List (List UInt8))×Int)
  | (e,b,c,a,f) =>
    if decide (a<(c.length:Int))then
      bd (ix c a) λv =>
      bd (jW v) λh =>
      bd (app (α:=(List UInt8)) f [h]) λg =>
      bd (wX e h) λd =>
      if d.2.2 then
        bd (cut (α:=(List UInt8)) b 0 d.2.1) λk =>
        bd (ix c a) λs =>
        bd (app (α:=(List UInt8)) [] k) λl =>
        bd (app (α:=(List UInt8)) l [s]) λm =>
        bd (cut (α:=(List UInt8)) b d.2.1 (b.length:Int)) λn =>
        bd (app (α:=(List UInt8)) m n) λp =>
        nR.k6 a i g d p c
      else
        nR.k6 a i g d b c
    else
      nR.k4 j q r u e b f
def nR.l2(x0:List UInt8)(x1:List jd)(f:((List (List UInt8))×(List (List UInt8))×Int×(List Part))→Option (iF×(List (List UInt8))×Int)):((List (List UInt8))×(List (List UInt8))×Int×(List Part))→Option (iF×(List (List UInt8))×Int)
  | (d,b,a,c) =>
    if decide (a<(x1.length:Int))then
      bd (ix x1 a) λg =>
      bd (ix x1 a) λh =>
      bd (yQ h.data) λe =>
      loop (nR.l5 a c f g) (d,b,e,0,[])
    else
      nR.k1 x0 b c
def nR(x0:List UInt8)(x1:List jd):Option (iF×(List (List UInt8))×Int) :=
  bd (uD x0) λb =>
  if(!b)then
    some ((iF.mk [] []),[],1)
  else
    bd (xZ x1) λa =>
    if decide (a≠0)then
      some ((iF.mk [] []),[],a)
    else
      loop (nR.l2 x0 x1) ([],[],0,[])
set_option maxHeartbeats 2000000 in
theorem ZS{x0:List UInt8}{x1:List jd}{r:iF×(List (List UInt8))×Int}{e:gE}(hA:Gd F w)(h1:iq jd.t F e x1)(H:nR x0 x1=some r):iN il K 70 [.s x0,e] w λv w'=>∃(F':gL)(bv:gE)(q1:gE),v = .kx [.agg (iF.cells r.1 bv),q1,.i .i64 r.2.2]∧iq Part.t F' bv (r.1.parts)∧St [] w F F' [.row (o6 tB) q1 (r.2.1)] w':=by
 refine kB Tryz.func70 ?_;have hS:=St.start hA;refine qs ?_;refine al ?_;intro b w1 aR;obtain⟨r2,ca,H⟩:=iy H;refine ay ?_;refine lp (HA aR.iH ca) aR ?_;intro w3 bb;refine au ?_;refine qy H (λbN H=>?_) (λbN H=>?_)
 ·refine qs ?_;refine j8 (v:=.agg (iF.cells (iF.mk [] []) (.sl none 0 (.k 0)))) rfl rfl rfl rfl (λ_=>rfl) ?_;refine sb 0 ([.s [],.sl none 0 (.k 0)]) ?_;intro w5 bD;refine au ?_;have bf:=bD.lb (o6 tB);obtain rfl:=oi H;refine oH (vs:=[.agg (iF.cells (iF.mk [] []) (.sl none 0 (.k 0))),(.sl none 0 (.k 0)),.i .i64 1]) rfl ⟨(oJ 1 Ty.tK Ty.tz bf rfl rfl),rfl,rfl,trivial⟩ ?_;exact⟨F,.sl none 0 (.k 0),(.sl none 0 (.k 0)),rfl,(iq.nil _),bf.pick [0] (by decide)⟩
 ·obtain ⟨r8,cc,H⟩:=iy H;refine ay ?_;refine lp (ZP bb.iH h1 cc) bb ?_;intro w9 cD;refine ax ?_;refine qy H (fun bJ H=>?_) (fun bJ H=>?_)
  ·refine qs ?_;refine j8 (v:=.agg (iF.cells (iF.mk [] []) (.sl none 0 (.k 0)))) rfl rfl rfl rfl (λ_=>rfl) ?_;refine qc ?_;refine sb 0 ([.s [],.sl none 0 (.k 0)]) ?_;intro dn b5;refine au ?_;have aY:=b5.lb (o6 tB);obtain rfl:=oi H;refine oH (vs:=[.agg (iF.cells (iF.mk [] []) (.sl none 0 (.k 0))),(.sl none 0 (.k 0)),.i .i64 r8]) rfl ⟨(oJ 1 Ty.tK Ty.tz aY rfl rfl),rfl,rfl,trivial⟩ ?_;exact⟨F,.sl none 0 (.k 0),(.sl none 0 (.k 0)),rfl,(iq.nil _),aY.pick [0] (by decide)⟩
  ·refine ax ?_;refine j8 (v:=.agg (iF.cells (iF.mk x0 []) (.sl none 0 (.k 0)))) rfl rfl rfl rfl (λ_=>rfl) ?_;refine al ?_;intro c du c8;refine sb 0 ([.s x0,.sl none 0 (.k 0)]) ?_;intro dv aj;refine qn ?_;refine aq ?_;refine aq ?_;refine iL (λE wq=>∃a6:List (List UInt8),∃J:List Part,nR.k1 x0 a6 J=some r ∧ ∃(ah:gL)(q:gE)(h:gE),E=[(4,pl b 0),(8,pl c 0),(10,q)]∧F.le ah∧iW aj [.box c [.s x0,h],.box b [.s [],.sl none 0 (.k 0)],.row (o6 tB) q a6,.row Part.t h J] ah wq) ?_ ?_
   ·refine ax ?_;refine jH (λ(s:(List (List UInt8))×(List (List UInt8))×Int×(List Part)) E wq=>∃(j:gL)(R:gE)(u:gE)(d:gE),E=[(1,e),(4,pl b 0),(8,pl c 0),(9,R),(10,u),(11,.i .i64 s.2.2.1)]∧F.le j∧iq lV j R s.1∧iW aj [.box c [.s x0,d],.box b [.s [],.sl none 0 (.k 0)],.row (o6 tB) u s.2.1,.row Part.t d s.2.2.2] j wq) H ?_ ?_
    ·have b9:=aj.lb (o6 tB);have bA:=b9.lb Part.t;exact lo ⟨F,.sl none 0 (.k 0),(.sl none 0 (.k 0)),(.sl none 0 (.k 0)),rfl,(gL.le.refl _),(iq.nil _),bA.pick [2,3,1,0] (by decide)⟩
    ·rintro bz ⟨cO,cr,g,n⟩ E dy hI H
     try dsimp only at hI
     obtain⟨j,R,u,d,rfl,bu,ck,ak⟩:=hI;refine ay ?_;refine qy H (λbM H=>?_) (λbM H=>?_)
     ·refine qk ?_;refine iL (λE wq=>∃a7:List (List UInt8),∃a8:List (List UInt8),∃a9:List Part,nR.k3 g bz a7 a8 a9=some r ∧ ∃(B:gL)(S:gE)(U:gE)(V:gE),E=[(1,e),(4,pl b 0),(8,pl c 0),(9,S),(10,U),(11,.i .i64 g)]∧j.le B∧iq lV B S a7∧iW ak [.box c [.s x0,V],.box b [.s [],.sl none 0 (.k 0)],.row (o6 tB) U a8,.row Part.t V a9] B wq) ?_ ?_
      ·refine ay ?_;obtain⟨a,cm,H⟩:=iy H;refine rf ak ?_;obtain⟨_,⟨dd,rfl,cH⟩,cG⟩:=js 2 (h1.mono bu) cm;refine au ?_;refine j8 (v:=.agg (Part.cells (Part.mk a.path (a.data.length:Int) []) (.sl none 0 (.k 0)))) rfl rfl rfl rfl (λ_=>rfl) ?_;refine aM ?_;intro f d2 cA;refine sB 0 ([.s a.path,.i .i64 (a.data.length:Int),.sl none 0 (.k 0)]) ?_;intro d3 bc;obtain⟨dH,cn,cZ,cb,H⟩:=iG H;obtain⟨_,⟨de,rfl,ce⟩,_⟩:=js 2 (h1.mono bu) cn;refine ax ?_;refine lm (ZM bc.iH ce cb) ?_;rintro c2 d4 ⟨aO,_,rfl,bj⟩;have am:=bc.call bj;have cy:=bj.ext;refine au ?_;refine iL (λE wq=>∃L:List (List UInt8),∃M:List (List UInt8),∃p:List (List UInt8),nR.k4 g n bz a L M p=some r ∧ ∃(D:gL)(X:gE)(Y:gE)(x:gE),E=[(1,e),(4,pl b 0),(8,pl c 0),(9,X),(10,Y),(11,.i .i64 g),(12,pl f 0)]∧aO.le D∧iq lV D X L∧iW am [.box f [.s a.path,.i .i64 (a.data.length:Int),x],.box c [.s x0,d],.box b [.s [],.sl none 0 (.k 0)],.row Part.t d n,.row (o6 tB) Y M,.row lV x p] D wq) ?_ ?_
       ·refine ax ?_;refine jH (λ(s:(List (List UInt8))×(List (List UInt8))×(List (List UInt8))×Int×(List (List UInt8))) E wq=>∃(l:gL)(Z:gE)(y:gE)(z:gE)(ad:gE),E=[(1,e),(4,pl b 0),(8,pl c 0),(9,Z),(10,y),(11,.i .i64 g),(12,pl f 0),(13,z),(14,.i .i64 s.2.2.2.1)]∧aO.le l∧iq lV l Z s.1∧iq (o6 tB) l z s.2.2.1∧iW am [.box f [.s a.path,.i .i64 (a.data.length:Int),ad],.box c [.s x0,d],.box b [.s [],.sl none 0 (.k 0)],.row Part.t d n,.row (o6 tB) y s.2.1,.row lV ad s.2.2.2.2] l wq) H ?_ ?_
        ·obtain⟨b2,bt,bP,b7⟩:=am.kh 0 [1,2,3,4,5] rfl (by decide) (by decide);have b8:=b7.lb lV;exact lo ⟨b2,R,u,c2,(.sl none 0 (.k 0)),rfl,bt,(ck.mono (cy.trans bt)),bP,b8.pick [1,2,3,5,4,0] (by decide)⟩
        ·rintro c0 ⟨cu,aC,br,bq,cw⟩ E d9 hI H
         try dsimp only at hI
         obtain⟨l,Z,y,z,ad,rfl,cU,bp,I,ar⟩:=hI;refine ay ?_;refine qy H (λbO H=>?_) (λbO H=>?_)
         ·obtain⟨dI,cp,aJ,cd,H⟩:=iG H;obtain⟨_,⟨df,rfl,cf⟩,_⟩:=js 1 I cp;refine ay ?_;refine lm (Tn ar.iH cf cd) ?_;rintro dj dC ⟨c6,rfl,bn,bk⟩;have bH:=ar.call bk;have O:=bk.ext;refine xm (o9 (cs:=iJ (iV 32 (0:UInt8))) Ty.B2 rfl bH) ?_;rintro _ dB ⟨c7,rfl,cE⟩;refine sb 0 (iJ aJ) ?_;intro dD bI;obtain⟨bs,bY,H⟩:=iy H;refine ax ?_;refine xm (kN (t:=lV) (vs:=[.agg (iJ aJ)]) (xs:=[aJ]) Tryz.underlying109 Ty.CY rfl ⟨⟨rfl,bn⟩,trivial⟩ rfl rfl bI) ?_;rintro dc dE bg;refine ap 7 bg (bg.mi (k:=0) rfl) bY ?_;intro ae dF cF;refine au ?_;refine sc 2 ([.s a.path,.i .i64 (a.data.length:Int),ae]) ?_;intro dG bh;obtain⟨aH,bZ,H⟩:=iy H;refine ax ?_;refine lm (Tq bh.iH (bp.mono O) bn bZ) ?_;rintro dg dl ⟨aK,b0,rfl,bS,bi⟩;have m:=bh.call bi;have aD:=bi.ext;refine au ?_;refine iL (λE wq=>∃a4:List (List UInt8),∃a5:List (List UInt8),nR.k6 bq c0 bs aH a4 a5=some r ∧ ∃(A:gL)(P:gE)(Q:gE),E=[(1,e),(4,pl b 0),(8,pl c 0),(10,P),(11,.i .i64 g),(12,pl f 0),(13,Q),(14,.i .i64 bq),(16,b0)]∧aK.le A∧iq (o6 tB) A Q a5∧iW m [.box f [.s a.path,.i .i64 (a.data.length:Int),ae],.box c [.s x0,d],.box b [.s [],.sl none 0 (.k 0)],.row Part.t d n,.row lV ae bs,.row (o6 tB) P a4] A wq) ?_ ?_
          ·refine aq ?_;refine qy H (λbK H=>?_) (λbK H=>?_)
           ·refine ay ?_;obtain⟨cK,bm,c4,cj,H⟩:=iG H;obtain⟨cL,bT,cM,bU,H⟩:=iG H;refine nA (G:=aK) [0,1,2,3,5,6,7,8,9,4,10,11] rfl Ty.mixed (by kernel_rfl) m.agree ?_;refine au ?_;refine sP 6 0 aH.2.1 rfl rfl rfl rfl ER Ty.Ew rfl (.inl ⟨rfl,rfl⟩) (.inr ⟨_,_,rfl,rfl⟩) m rfl bm ?_;intro cV cI ch;obtain⟨_,⟨c1,rfl,bo⟩,_⟩:=js 1 (I.mono (O.trans aD)) cj;refine au ?_;refine qx (kN (t:=(o6 tB)) (vs:=[c1]) (xs:=[c4]) ER Ty.LZ rfl (by simp only[List.map_cons,List.map_nil,bo.ln.cells];exact⟨⟨_,rfl,bo⟩,trivial⟩) rfl rfl m) ?_;rintro da dq aT;refine qw aT ?_;have aX:=aT.lb (o6 tB);refine aP 0 aX ((aX.mi (k:=8) rfl).piece ch bm) bT ?_;intro dh dr aU;refine aP 0 aU (aU.mi (k:=1) rfl) bU ?_;intro di ds aV;obtain⟨cN,bV,cq,bW,H⟩:=iG H;refine ax ?_;refine sP 8 aH.2.1 (aC.length:Int) rfl rfl rfl rfl ER Ty.Ew rfl (.inr ⟨_,_,rfl,rfl⟩) (.inl ⟨rfl,rfl⟩) aV rfl bV ?_;intro cX cg cJ;refine ap 0 aV cg bW ?_;intro c3 dt b6;refine ax ?_;exact nj ⟨cq,br,H,⟨_,c3,z,rfl,iI,(I.mono (O.trans aD)),pk [4,5,6,7,9,0] b6⟩⟩
           ·refine s6 ?_;exact nj ⟨aC,br,H,⟨_,y,z,rfl,iI,(I.mono (O.trans aD)),pk [2,3,4,5,7,6] m⟩⟩
          ·rintro E dm ⟨a4,a5,H,A,P,Q,rfl,cP,ci,b4⟩;refine ax ?_;exact nm H ⟨_,b0,P,Q,ae,rfl,iI,(mo bS),ci,pk [0,1,2,3,5,4] b4⟩
         ·refine jf _ rfl ?_;exact nj ⟨cu,aC,cw,H,⟨_,Z,y,ad,rfl,iI,bp,ar⟩⟩
       ·rintro E d5 ⟨L,M,p,H,D,X,Y,x,rfl,cT,co,bE⟩;obtain⟨ct,bX,H⟩:=iy H;refine ax ?_;obtain⟨c5,cx,bR,bF⟩:=bE.kh 5 [0,1,2,3,4] rfl (by decide) (by decide);refine xm (kN (t:=Part.t) (vs:=[.agg (Part.cells (Part.mk a.path (a.data.length:Int) p) x)]) (xs:=[(Part.mk a.path (a.data.length:Int) p)]) Tryz.underlying56 Ty.I5 rfl ⟨⟨x,rfl,bR⟩,trivial⟩ rfl rfl bF) ?_;rintro db d6 be;refine ap 4 be (be.mi (k:=0) rfl) bX ?_;intro b1 d7 cC;refine au ?_;refine sc 2 ([.s x0,b1]) ?_;intro d8 bG;refine ax ?_;exact nj ⟨L,M,ct,H,⟨_,X,Y,b1,rfl,iI,(co.mono cx),pk [2,3,5,4] bG⟩⟩
      ·rintro E d0 ⟨a7,a8,a9,H,B,S,U,V,rfl,cS,cl,bC⟩;refine ax ?_;exact nm H ⟨_,S,U,V,rfl,iI,cl,bC⟩
     ·refine jf _ rfl ?_;exact nj ⟨cr,n,H,⟨_,u,d,rfl,iI,ak⟩⟩
   ·rintro E dw ⟨a6,J,H,ah,q,h,rfl,cQ,c9⟩;refine aq ?_;refine sb 1 ([.s x0,h]) ?_;intro dx bB;refine au ?_;obtain⟨b3,cR,bQ,ba⟩:=bB.kh 3 [0,1,2] rfl (by decide) (by decide);obtain rfl:=oi H;refine oH (vs:=[.agg (iF.cells (iF.mk x0 J) h),q,.i .i64 0]) rfl ⟨(oJ 1 Ty.tK Ty.tz ba rfl rfl),rfl,rfl,trivial⟩ ?_;exact⟨b3,h,q,rfl,bQ,ba.pick [2] (by decide)⟩
def ta.k1:Option Int :=
  some (-1)
def ta.l2(x0:ig)(x1:List UInt8)(b:Int→Option Int):Int→Option Int
  | a =>
    if decide (a<(x0.chunks.length:Int))then
      bd (ix x0.chunks a) λx8 =>
      if decide (x8.id=x1)then
        some a
      else
        b (wr (a+1))
    else
      ta.k1
def ta(x0:ig)(x1:List UInt8):Option Int :=
  loop (ta.l2 x0 x1) 0
theorem HC{x0:ig}{x1:List UInt8}{r:Int}{b:gE}{c:gE}{d:gE}{e:gE}(hA:Gd F w)(A:iq ie.t F b x0.ik)(j:iq Chunk.t F c x0.chunks)(B:iq iu.t F d x0.im)(D:iq iz.t F e x0.iv)(k:x1.length=32)(H:ta x0 x1=some r):iN il K 52 [.agg (ig.cells x0 b c d e),.agg (iJ x1)] w λv w'=>∃(F':gL),v = .i .i64 r∧St [] w F F' [] w':=by
 refine kB Tryz.func52 ?_;have hS:=St.start hA;refine qs ?_;refine bx ([.i .i64 x0.seq,b,c,d,e]) ?_;intro g R G;refine bx (iJ x1) ?_;intro h S f;refine au ?_;refine iL (jO (ta.k1=some r) [] f []) ?_ ?_
 ·refine ax ?_;refine lj f (λs:Int=>[(2,pl g 0),(3,pl h 0),(5,.i .i64 s)]) H ?_;intro O L z V x a H;refine ay ?_;refine qy H (λn H=>?_) (λn H=>?_)
  ·refine ay ?_;obtain⟨x8,u,H⟩:=iy H;refine rn ?_;obtain⟨_,⟨P,Q,rfl,q,I,J⟩,p⟩:=js 35 (j.mono x) u;refine au ?_;refine qr (pw 0 (iJ x8.id) Ty.pJ Ty.nx rfl (p.mono a.agree) (by first|omega|rfl) rfl (kY rfl)) ?_;refine au ?_;refine qr (iB rfl rfl (z7 Ty.Ag rfl rfl (Af q k))) ?_;refine qn ?_;refine qy H (λm H=>?_) (λm H=>?_)
   ·exact rz H a
   ·refine ax ?_;exact nm H (jj a)
  ·refine jf _ rfl ?_;exact nj ⟨H,jj (pk [] a)⟩
 ·rintro E U ⟨H,y,rfl,M,l⟩;exact rz H l
def kF.k2(a:Int):Option (Change×Bool) :=
  some ((Change.mk 5 (ie.mk 0 (iF.mk [] []) []) [] 0 a []),true)
def kF.k4(x0:ig)(b:iF×(List (List UInt8))×Int)(a:List Chunk):Option (Change×Bool) :=
  some ((Change.mk 1 (ie.mk x0.seq b.1 []) a 0 0 []),true)
def kF.k6(a:Int)(c:(Int×(List Chunk))→Option (Change×Bool))(b:List Chunk):Option (Change×Bool) :=
  c (wr (a+1),b)
def kF.l5(x0:ig)(b:iF×(List (List UInt8))×Int)(e:(Int×(List Chunk))→Option (Change×Bool)):(Int×(List Chunk))→Option (Change×Bool)
  | (a,c) =>
    if decide (a<(b.2.1.length:Int))then
      bd (ix b.2.1 a) λh =>
      bd (jW h) λd =>
      bd (ta x0 d) λg =>
      if decide (g<0)then
        bd (ix b.2.1 a) λi =>
        bd (app (α:=Chunk) c [(Chunk.mk d true i [])]) λf =>
        kF.k6 a e f
      else
        kF.k6 a e c
    else
      kF.k4 x0 b c
def kF.k9(b:Int)(a:List Item):Option (Change×Bool) :=
  some ((Change.mk 3 (ie.mk 0 (iF.mk [] []) []) [] 0 b a),decide (0<(a.length:Int)))
def kF.sy(b:Int)(d:((List Item)×Int×Int)→Option (Change×Bool))(c:List Item)(a:Int):Option (Change×Bool) :=
  d (c,a,wr (b+1))
def kF.BK(g:List Item)(a:Int)(e:Int)(h:((List Item)×Int×Int)→Option (Change×Bool))(b:Int)(i:List UInt8)(c:Int)(d:Int):Option (Change×Bool) :=
  bd (app (α:=Item) g [(Item.mk b i c d a 20)]) λf =>
  kF.sy e h f (wr (a+20))
def kF.mc(x0:ig)(x1:mJ)(f:Int)(d:((List Item)×Int×Int)→Option (Change×Bool)):((List Item)×Int×Int)→Option (Change×Bool)
  | (b,c,a) =>
    if (decide (a < wr (wr ((x0.chunks.length:Int)+(x0.ik.length:Int))+(x0.im.length:Int)))&&decide ((b.length:Int) < 64)) then
      bd (only (decide (a<(x1.pick.length:Int))) (ix x1.pick a) false) λg =>
      if(decide (a<(x1.pick.length:Int))&&(!g))then
        kF.sy a d b c
      else
        if decide (a<(x0.chunks.length:Int))then
          bd (ix x0.chunks a) λh =>
          kF.BK b c a d 1 h.id 0 0
        else
          if decide (a<wr ((x0.chunks.length:Int)+(x0.ik.length:Int)))then
            bd (ix x0.ik (wr (a-(x0.chunks.length:Int)))) λi =>
            kF.BK b c a d 2 (iV 32 (0:UInt8)) i.seq 0
          else
            bd (ix x0.im (wr (wr (a-(x0.chunks.length:Int))-(x0.ik.length:Int)))) λe =>
            kF.BK b c a d 3 (iV 32 (0:UInt8)) e.seq e.of
    else
      kF.k9 f b
def kF.k8(x0:ig)(x1:mJ)(a:Int)(b:Bool):Option (Change×Bool) :=
  if b then
    loop (kF.mc x0 x1 a) ([],13,0)
  else
    if decide ((wu x1.pe).tmod 8=6)then
      some ((Change.mk 4 (ie.mk 0 (iF.mk [] []) []) [] 0 a []),true)
    else
      kF.k2 a
def kF.k7(x0:ig)(x1:mJ)(a:Int)(c:Bool):Option (Change×Bool) :=
  if c then
    if decide ((x0.ik.length:Int)=0)then
      some ((Change.mk 0 (ie.mk 0 (iF.mk [] []) []) [] 0 0 []),false)
    else
      bd (rem (wu x1.n) (wu (x0.ik.length:Int))) λd =>
      bd (ix x0.ik (wr d)) λb =>
      if decide ((wu x1.pe).tmod 8=2)then
        some ((Change.mk 2 (ie.mk 0 (iF.mk [] []) []) [] b.seq 0 []),true)
      else
        some ((Change.mk 3 (ie.mk 0 (iF.mk [] []) []) [] 0 a [(Item.mk 3 (iV 32 (0:UInt8)) x0.seq b.seq 13 17)]),true)
  else
    if decide ((wu x1.pe).tmod 8=3)then
      kF.k8 x0 x1 a (decide ((wu x1.pe).tmod 8=3))
    else
      kF.k8 x0 x1 a (decide ((wu x1.pe).tmod 8=4))
def kF.k3(x0:ig)(x1:mJ)(e:List UInt8)(a:Int)(c:Bool):Option (Change×Bool) :=
  if c then
    bd (nu x1.tree) λb =>
    if decide (b.2≠0)then
      some ((Change.mk 0 (ie.mk 0 (iF.mk [] []) []) [] 0 0 []),false)
    else
      bd (nR e b.1) λd =>
      loop (kF.l5 x0 d) (0,[])
  else
    if decide ((wu x1.pe).tmod 8=2)then
      kF.k7 x0 x1 a (decide ((wu x1.pe).tmod 8=2))
    else
      kF.k7 x0 x1 a (decide ((wu x1.pe).tmod 8=5))
def kF.k1(x0:ig)(x1:mJ)(b:List UInt8)(a:Int):Option (Change×Bool) :=
  if decide ((wu x1.pe).tmod 8=0)then
    kF.k3 x0 x1 b a (decide ((wu x1.pe).tmod 8=0))
  else
    kF.k3 x0 x1 b a (decide ((wu x1.pe).tmod 8=1))
def kF(x0:ig)(x1:mJ):Option (Change×Bool) :=
  bd (cat ([110]:List UInt8) [(jC (wu (97+(wu x1.n).tmod 5)))]) λa =>
  if decide (0<(x0.iv.length:Int))then
    bd (rem (wu x1.iQ) (wu (x0.iv.length:Int))) λb =>
    kF.k1 x0 x1 a (wr b)
  else
    kF.k1 x0 x1 a 0
set_option maxHeartbeats 2000000 in
theorem ZH{x0:ig}{x1:mJ}{r:Change×Bool}{m:gE}{p:gE}{q:gE}{u:gE}{I:gE}{J:gE}(hA:Gd F w)(ah:iq ie.t F m x0.ik)(aD:iq Chunk.t F p x0.chunks)(aH:iq iu.t F q x0.im)(cn:iq iz.t F u x0.iv)(co:iq jd.t F I x1.tree)(b9:iq QT F J x1.pick)(H:kF x0 x1=some r):iN il K 27 [.agg (ig.cells x0 m p q u),.agg (mJ.cells x1 I J)] w λv w'=>∃(F':gL)(cc:gE)(cd:gE)(ce:gE)(cf:gE),v = .kx [.agg (Change.cells r.1 cc cd ce cf),.b r.2]∧iq Part.t F' cc (r.1.snap.iw.parts)∧iq Loc.t F' cd (r.1.snap.locs)∧iq Chunk.t F' ce (r.1.chunks)∧iq Item.t F' cf (r.1.items)∧St [] w F F' [] w':=by
 refine kB Tryz.func27 ?_;have hS:=St.start hA;refine qs ?_;refine bx ([.i .i64 x0.seq,m,p,q,u]) ?_;intro e w1 dC;refine bx ([.i .i64 x1.pe,.i .i64 x1.n,.i .i64 x1.iQ,I,J]) ?_;intro h w2 dG;refine al ?_;intro d w3 cw;obtain⟨s5,di,H⟩:=iy H;refine ax ?_;refine qr (ml mH p9 rfl (rfl)) ?_;refine qr (iB rfl rfl (by first|rfl|simp[kJ,tX])) ?_;refine qc ?_;refine qr (ml p9 p7 rfl (yj _)) ?_;refine xm (kN (t:=tB) (vs:=[.i .u8 ((jC (wu (97+(wu x1.n).tmod 5))).toNat:Int)]) (xs:=[(jC (wu (97+(wu x1.n).tmod 5)))]) lL Ty.qD rfl ⟨rfl,trivial⟩ rfl rfl cw) ?_;rintro u4 w4 aJ;refine qr (Nc lL p7 Tryz.underlying9 rfl (aJ.ni (k:=0) rfl)) ?_;refine qr (iB rfl rfl (YE di)) ?_;refine au ?_;refine aq ?_;refine iL (λE wq=>∃a:Int,kF.k1 x0 x1 s5 a=some r ∧ ∃(F6:gL),E=[(2,pl e 0),(3,pl h 0),(4,pl d 0),(6,.s s5),(7,.i .i64 a)]∧F.le F6∧iW aJ [.box d [.i .i64 0,.i .i64 0,.s [],.sl none 0 (.k 0),.sl none 0 (.k 0),.sl none 0 (.k 0),.i .i64 0,.i .i64 0,.sl none 0 (.k 0)],.box h [.i .i64 x1.pe,.i .i64 x1.n,.i .i64 x1.iQ,I,J],.box e [.i .i64 x0.seq,m,p,q,u]] F6 wq) ?_ ?_
 ·refine aq ?_;refine qy H (λcH H=>?_) (λcH H=>?_)
  ·obtain⟨d5,dr,H⟩:=iy H;refine ax ?_;refine qr (ml mH p9 rfl (rfl)) ?_;refine au ?_;refine qr (ml mH p9 rfl (rfl)) ?_;obtain⟨dw,dk⟩:=LR dr;refine qr (iB rfl rfl (J5 dw dk)) ?_;refine qr (ml p9 mH rfl (rfl)) ?_;refine ax ?_;exact nj ⟨wr d5,H,jj (pk [1,2,3] aJ)⟩
  ·refine s6 ?_;exact nj ⟨0,H,jj (pk [1,2,3] aJ)⟩
 ·rintro E w6 ⟨a,H,F6,rfl,D,aK⟩;refine iL (jO (kF.k2 a=some r) [(4,pl d 0),(7,.i .i64 a)] aK [.box d [.i .i64 0,.i .i64 0,.s [],.sl none 0 (.k 0),.sl none 0 (.k 0),.sl none 0 (.k 0),.i .i64 0,.i .i64 0,.sl none 0 (.k 0)]]) ?_ ?_
  ·refine aq ?_;refine qr (ml mH p9 rfl (rfl)) ?_;refine qr (iB rfl rfl (by first|rfl|simp[kJ,tX])) ?_;refine qn ?_;refine qZ ?_;refine iL (λE wq=>∃bs:Bool,kF.k3 x0 x1 s5 a bs=some r ∧ ∃(a8:gL),E=[(2,pl e 0),(3,pl h 0),(4,pl d 0),(6,.s s5),(7,.i .i64 a),(47,.i .u64 ((wu x1.pe).tmod 8)),(48,.b bs)]∧F6.le a8∧mq aK a8 wq) ?_ ?_
   ·refine aq ?_;refine qy H (λcG H=>?_) (λcG H=>?_)
    ·refine s6 ?_;exact nj ⟨decide ((wu x1.pe).tmod 8=0),H,jj aK⟩
    ·refine ax ?_;exact nj ⟨decide ((wu x1.pe).tmod 8=1),H,jj aK⟩
   ·rintro E ey ⟨bs,H,a8,rfl,B,ai⟩;refine qy H (λc8 H=>?_) (λc8 H=>?_)
    ·obtain⟨eh,de,H⟩:=iy H;refine aq ?_;refine lm (ZO ai.iH (mo co) de) ?_;rintro eu e7 ⟨cm,et,rfl,bU⟩;have ct:=ai.call bU;have bb:=bU.ext;refine ay ?_;refine qy H (λcC H=>?_) (λcC H=>?_)
     ·refine qs ?_;refine j8 (v:=.agg (Change.cells (Change.mk 0 (ie.mk 0 (iF.mk [] []) []) [] 0 0 []) (.sl none 0 (.k 0)) (.sl none 0 (.k 0)) (.sl none 0 (.k 0)) (.sl none 0 (.k 0)))) rfl rfl rfl rfl (λ_=>rfl) ?_;refine sb 1 ([.i .i64 0,.i .i64 0,.s [],.sl none 0 (.k 0),.sl none 0 (.k 0),.sl none 0 (.k 0),.i .i64 0,.i .i64 0,.sl none 0 (.k 0)]) ?_;intro eG bJ;refine au ?_;obtain rfl:=oi H;refine oH (vs:=[.agg (Change.cells (Change.mk 0 (ie.mk 0 (iF.mk [] []) []) [] 0 0 []) (.sl none 0 (.k 0)) (.sl none 0 (.k 0)) (.sl none 0 (.k 0)) (.sl none 0 (.k 0))),.b false]) rfl ⟨(oJ 1 Ty.zY Ty.AL bJ rfl rfl),rfl,trivial⟩ ?_;exact⟨cm,.sl none 0 (.k 0),.sl none 0 (.k 0),.sl none 0 (.k 0),.sl none 0 (.k 0),rfl,(iq.nil _),(iq.nil _),(iq.nil _),(iq.nil _),bJ.pick [] (by decide)⟩
     ·obtain⟨g,df,H⟩:=iy H;refine ax ?_;obtain⟨d6,aX,cV,bK⟩:=ct.kh 0 [1,2,3] rfl (by decide) (by decide);refine lm (ZS bK.iH cV df) ?_;rintro ev eJ ⟨br,j,bj,rfl,bz,bV⟩;have dH:=bK.call bV;have bc:=bV.ext;refine au ?_;refine al ?_;intro d9 eH dF;refine sb 0 ([.s g.1.name,j]) ?_;intro eK dI;refine ax ?_;have cO:=bz.ln.cells;refine qr (tJ (vs:=[(0,.i .i64 x0.seq),(1,.agg (iF.cells g.1 j))]) (v:=.agg (ie.cells (ie.mk x0.seq g.1 []) j (.sl none 0 (.k 0)))) Ty.S7 rfl (by simp only[oS,cO];rfl)) ?_;have cP:=bz.ln.cells;refine qr (tJ (vs:=[(0,.i .i64 1),(1,.agg (ie.cells (ie.mk x0.seq g.1 []) j (.sl none 0 (.k 0))))]) (v:=.agg (Change.cells (Change.mk 1 (ie.mk x0.seq g.1 []) [] 0 0 []) j (.sl none 0 (.k 0)) (.sl none 0 (.k 0)) (.sl none 0 (.k 0)))) Ty.Ny rfl (by simp only[oS,cP];rfl)) ?_;refine al ?_;intro R eL dJ;refine sb 0 ([.i .i64 1,.i .i64 x0.seq,.s g.1.name,j,.sl none 0 (.k 0),.sl none 0 (.k 0),.i .i64 0,.i .i64 0,.sl none 0 (.k 0)]) ?_;intro eM bv;refine qn ?_;refine iL (λE wq=>∃aV:List Chunk,kF.k4 x0 g aV=some r ∧ ∃(bo:gL)(ad:gE),E=[(4,pl d 0),(13,pl R 0)]∧br.le bo∧iW bv [.box R [.i .i64 1,.i .i64 x0.seq,.s g.1.name,j,.sl none 0 (.k 0),ad,.i .i64 0,.i .i64 0,.sl none 0 (.k 0)],.box d [.i .i64 0,.i .i64 0,.s [],.sl none 0 (.k 0),.sl none 0 (.k 0),.sl none 0 (.k 0),.i .i64 0,.i .i64 0,.sl none 0 (.k 0)],.row Chunk.t ad aV] bo wq) ?_ ?_
      ·refine ax ?_;refine jH (λ(s:Int×(List Chunk)) E wq=>∃(a9:gL)(a6:gE),E=[(2,pl e 0),(4,pl d 0),(11,bj),(13,pl R 0),(14,.i .i64 s.1)]∧br.le a9∧iW bv [.box R [.i .i64 1,.i .i64 x0.seq,.s g.1.name,j,.sl none 0 (.k 0),a6,.i .i64 0,.i .i64 0,.sl none 0 (.k 0)],.row (o6 tB) bj g.2.1,.box d [.i .i64 0,.i .i64 0,.s [],.sl none 0 (.k 0),.sl none 0 (.k 0),.sl none 0 (.k 0),.i .i64 0,.i .i64 0,.sl none 0 (.k 0)],.box e [.i .i64 x0.seq,m,p,q,u],.row Chunk.t a6 s.2] a9 wq) H ?_ ?_
       ·have c1:=bv.lb Chunk.t;exact lo ⟨br,(.sl none 0 (.k 0)),rfl,(gL.le.refl _),c1.pick [1,3,4,6,0] (by decide)⟩
       ·rintro d0 ⟨ca,cb⟩ E eQ hI H
        try dsimp only at hI
        obtain⟨a9,a6,rfl,aY,S⟩:=hI;refine ay ?_;refine qr (jV ER rfl (S.kH (k:=1) rfl)) ?_;refine au ?_;refine qy H (λcI H=>?_) (λcI H=>?_)
        ·refine qk ?_;refine iL (λE wq=>∃b2:List Chunk,kF.k6 ca d0 b2=some r ∧ ∃(bp:gL)(bh:gE),E=[(2,pl e 0),(4,pl d 0),(11,bj),(13,pl R 0),(14,.i .i64 ca)]∧a9.le bp∧iW S [.box R [.i .i64 1,.i .i64 x0.seq,.s g.1.name,j,.sl none 0 (.k 0),bh,.i .i64 0,.i .i64 0,.sl none 0 (.k 0)],.row (o6 tB) bj g.2.1,.box d [.i .i64 0,.i .i64 0,.s [],.sl none 0 (.k 0),.sl none 0 (.k 0),.sl none 0 (.k 0),.i .i64 0,.i .i64 0,.sl none 0 (.k 0)],.box e [.i .i64 x0.seq,m,p,q,u],.row Chunk.t bh b2] bp wq) ?_ ?_
         ·obtain⟨fq,ds,Y,dg,H⟩:=iG H;obtain⟨_,⟨er,rfl,dj⟩,_⟩:=mw 1 1 S ds;refine ax ?_;refine lm (Tn S.iH dj dg) ?_;rintro ew eU ⟨d7,rfl,bX,bW⟩;have cz:=S.call bW;have be:=bW.ext;refine xm (o9 (cs:=iJ (iV 32 (0:UInt8))) Ty.B2 rfl cz) ?_;rintro _ eT ⟨dA,rfl,dL⟩;refine sb 0 (iJ Y) ?_;intro eV bN;obtain⟨ei,dh,H⟩:=iy H;refine ax ?_;refine lp (HC bN.iH (ah.mono ((((((D.trans B).trans bb).trans aX).trans bc).trans aY).trans be)) (aD.mono ((((((D.trans B).trans bb).trans aX).trans bc).trans aY).trans be)) (aH.mono ((((((D.trans B).trans bb).trans aX).trans bc).trans aY).trans be)) (cn.mono ((((((D.trans B).trans bb).trans aX).trans bc).trans aY).trans be)) bX dh) bN ?_;intro eW ak;refine au ?_;refine qy H (λcJ H=>?_) (λcJ H=>?_)
          ·obtain⟨b7,dt,dz,dc,H⟩:=iG H;refine rf ak ?_;refine au ?_;refine bL ak 0 (iJ Y) [] ?_;obtain⟨_,⟨bi,rfl,bY⟩,cU⟩:=mw 1 2 ak dt;refine au ?_;refine qq (la 0 Ty.DK rfl cU (by first|omega|rfl) rfl) ?_;have cQ:=bY.ln.cells;refine qr (tJ (vs:=[(0,.agg (iJ Y)),(1,.b true),(2,bi)]) (v:=.agg (Chunk.cells (Chunk.mk Y true b7 []) bi (.sl none 0 (.k 0)))) Ty.Y5 rfl (by simp only[oS,cQ];rfl)) ?_;refine qx (kN (t:=Chunk.t) (vs:=[.agg (Chunk.cells (Chunk.mk Y true b7 []) bi (.sl none 0 (.k 0)))]) (xs:=[(Chunk.mk Y true b7 [])]) kT Ty.zw rfl ⟨⟨bi,.sl none 0 (.k 0),rfl,bX,bY,(iq.nil _)⟩,trivial⟩ rfl rfl ak) ?_;rintro em eX bw;refine qw bw ?_;refine aP 6 bw (bw.mi (k:=0) rfl) dc ?_;intro ch eY dM;refine au ?_;refine sC 2 ([.i .i64 1,.i .i64 x0.seq,.s g.1.name,j,.sl none 0 (.k 0),ch,.i .i64 0,.i .i64 0,.sl none 0 (.k 0)]) ?_;intro fa c0;refine ax ?_;exact nj ⟨dz,H,⟨_,ch,rfl,iI,pk [2,3,4,5,6] c0⟩⟩
          ·refine ax ?_;exact nj ⟨cb,H,⟨_,a6,rfl,iI,pk [1,2,3,4,5] ak⟩⟩
         ·rintro E eR ⟨b2,H,bp,bh,rfl,ec,cy⟩;refine ax ?_;exact nm H ⟨_,bh,rfl,iI,cy⟩
        ·refine jf _ rfl ?_;exact nj ⟨cb,H,⟨_,a6,rfl,iI,pk [0,2,4] S⟩⟩
      ·rintro E eN ⟨aV,H,bo,ad,rfl,ea,dK⟩;refine aq ?_;refine sb 1 ([.i .i64 1,.i .i64 x0.seq,.s g.1.name,j,.sl none 0 (.k 0),ad,.i .i64 0,.i .i64 0,.sl none 0 (.k 0)]) ?_;intro eP cx;refine au ?_;obtain⟨ci,eb,cX,bM⟩:=cx.kh 2 [0,1] rfl (by decide) (by decide);obtain rfl:=oi H;refine oH (vs:=[.agg (Change.cells (Change.mk 1 (ie.mk x0.seq g.1 []) aV 0 0 []) j (.sl none 0 (.k 0)) ad (.sl none 0 (.k 0))),.b true]) rfl ⟨(oJ 1 Ty.zY Ty.AL bM rfl rfl),rfl,trivial⟩ ?_;exact⟨ci,j,.sl none 0 (.k 0),ad,.sl none 0 (.k 0),rfl,(mo bz),(iq.nil _),cX,(iq.nil _),bM.pick [] (by decide)⟩
    ·refine iL (λE wq=>∃bt:Bool,kF.k7 x0 x1 a bt=some r ∧ ∃(P:gL),E=[(2,pl e 0),(3,pl h 0),(4,pl d 0),(7,.i .i64 a),(47,.i .u64 ((wu x1.pe).tmod 8)),(99,.b bt)]∧a8.le P∧mq ai P wq) ?_ ?_
     ·refine aq ?_;refine qy H (λcF H=>?_) (λcF H=>?_)
      ·refine s6 ?_;exact nj ⟨decide ((wu x1.pe).tmod 8=2),H,jj ai⟩
      ·refine ax ?_;exact nj ⟨decide ((wu x1.pe).tmod 8=5),H,jj ai⟩
     ·rintro E fb ⟨bt,H,P,rfl,ba,aO⟩;refine qy H (λcK H=>?_) (λcK H=>?_)
      ·refine ay ?_;refine qy H (λcL H=>?_) (λcL H=>?_)
       ·refine qs ?_;refine j8 (v:=.agg (Change.cells (Change.mk 0 (ie.mk 0 (iF.mk [] []) []) [] 0 0 []) (.sl none 0 (.k 0)) (.sl none 0 (.k 0)) (.sl none 0 (.k 0)) (.sl none 0 (.k 0)))) rfl rfl rfl rfl (λ_=>rfl) ?_;refine sb 0 ([.i .i64 0,.i .i64 0,.s [],.sl none 0 (.k 0),.sl none 0 (.k 0),.sl none 0 (.k 0),.i .i64 0,.i .i64 0,.sl none 0 (.k 0)]) ?_;intro fc bO;refine au ?_;obtain rfl:=oi H;refine oH (vs:=[.agg (Change.cells (Change.mk 0 (ie.mk 0 (iF.mk [] []) []) [] 0 0 []) (.sl none 0 (.k 0)) (.sl none 0 (.k 0)) (.sl none 0 (.k 0)) (.sl none 0 (.k 0))),.b false]) rfl ⟨(oJ 0 Ty.zY Ty.AL bO rfl rfl),rfl,trivial⟩ ?_;exact⟨P,.sl none 0 (.k 0),.sl none 0 (.k 0),.sl none 0 (.k 0),.sl none 0 (.k 0),rfl,(iq.nil _),(iq.nil _),(iq.nil _),(iq.nil _),bO.pick [] (by decide)⟩
       ·refine ay ?_;obtain⟨fr,du,x,dv,H⟩:=iG H;refine rf aO ?_;refine au ?_;refine qr (ml mH p9 rfl (rfl)) ?_;refine au ?_;refine qr (ml mH p9 rfl (rfl)) ?_;obtain⟨dx,dl⟩:=LR du;refine qr (iB rfl rfl (J5 dx dl)) ?_;refine qr (ml p9 mH rfl (rfl)) ?_;obtain⟨_,⟨d2,d3,rfl,dW,dX⟩,dQ⟩:=js 4 (ah.mono ((D.trans B).trans ba)) dv;refine au ?_;refine aM ?_;intro dB fd dN;refine sB 0 ([.i .i64 x.seq,.s x.iw.name,d2,d3]) ?_;intro fe c2;refine ay ?_;refine qr (ml mH p9 rfl (rfl)) ?_;refine qr (iB rfl rfl (by first|rfl|simp[kJ,tX])) ?_;refine au ?_;refine qy H (λcM H=>?_) (λcM H=>?_)
        ·refine aq ?_;refine j8 (v:=.agg (Change.cells (Change.mk 2 (ie.mk 0 (iF.mk [] []) []) [] x.seq 0 []) (.sl none 0 (.k 0)) (.sl none 0 (.k 0)) (.sl none 0 (.k 0)) (.sl none 0 (.k 0)))) rfl rfl rfl rfl (λ_=>rfl) ?_;refine sb 1 ([.i .i64 2,.i .i64 0,.s [],.sl none 0 (.k 0),.sl none 0 (.k 0),.sl none 0 (.k 0),.i .i64 x.seq,.i .i64 0,.sl none 0 (.k 0)]) ?_;intro ff bP;refine au ?_;obtain rfl:=oi H;refine oH (vs:=[.agg (Change.cells (Change.mk 2 (ie.mk 0 (iF.mk [] []) []) [] x.seq 0 []) (.sl none 0 (.k 0)) (.sl none 0 (.k 0)) (.sl none 0 (.k 0)) (.sl none 0 (.k 0))),.b true]) rfl ⟨(oJ 1 Ty.zY Ty.AL bP rfl rfl),rfl,trivial⟩ ?_;exact⟨P,.sl none 0 (.k 0),.sl none 0 (.k 0),.sl none 0 (.k 0),.sl none 0 (.k 0),rfl,(iq.nil _),(iq.nil _),(iq.nil _),(iq.nil _),bP.pick [] (by decide)⟩
        ·refine ax ?_;refine j8 (v:=.agg (Item.cells (Item.mk 3 (iV 32 (0:UInt8)) x0.seq x.seq 13 17))) rfl rfl rfl rfl (λ_=>rfl) ?_;refine xm (kN (t:=Item.t) (vs:=[.agg (Item.cells (Item.mk 3 (iV 32 (0:UInt8)) x0.seq x.seq 13 17))]) (xs:=[(Item.mk 3 (iV 32 (0:UInt8)) x0.seq x.seq 13 17)]) Dj Ty.LX rfl ⟨⟨rfl,(vL)⟩,trivial⟩ rfl rfl c2) ?_;rintro a7 fg c3;have cR:=(c3.kH (k:=0) rfl).cells;refine qr (tJ (vs:=[(0,.i .i64 3),(4,.i .i64 a),(5,a7)]) (v:=.agg (Change.cells (Change.mk 3 (ie.mk 0 (iF.mk [] []) []) [] 0 a [(Item.mk 3 (iV 32 (0:UInt8)) x0.seq x.seq 13 17)]) (.sl none 0 (.k 0)) (.sl none 0 (.k 0)) (.sl none 0 (.k 0)) a7)) Ty.Ny rfl (by simp only[oS,cR];rfl)) ?_;refine sb 2 ([.i .i64 3,.i .i64 0,.s [],.sl none 0 (.k 0),.sl none 0 (.k 0),.sl none 0 (.k 0),.i .i64 0,.i .i64 a,a7]) ?_;intro fh c4;refine au ?_;obtain⟨ck,ee,cY,bQ⟩:=c4.kh 0 [1,2,3,4] rfl (by decide) (by decide);obtain rfl:=oi H;refine oH (vs:=[.agg (Change.cells (Change.mk 3 (ie.mk 0 (iF.mk [] []) []) [] 0 a [(Item.mk 3 (iV 32 (0:UInt8)) x0.seq x.seq 13 17)]) (.sl none 0 (.k 0)) (.sl none 0 (.k 0)) (.sl none 0 (.k 0)) a7),.b true]) rfl ⟨(oJ 1 Ty.zY Ty.AL bQ rfl rfl),rfl,trivial⟩ ?_;exact⟨ck,.sl none 0 (.k 0),.sl none 0 (.k 0),.sl none 0 (.k 0),a7,rfl,(iq.nil _),(iq.nil _),(iq.nil _),cY,bQ.pick [] (by decide)⟩
      ·refine iL (λE wq=>∃bu:Bool,kF.k8 x0 x1 a bu=some r ∧ ∃(L:gL),E=[(2,pl e 0),(3,pl h 0),(4,pl d 0),(7,.i .i64 a),(47,.i .u64 ((wu x1.pe).tmod 8)),(136,.b bu)]∧P.le L∧mq aO L wq) ?_ ?_
       ·refine aq ?_;refine qy H (λcE H=>?_) (λcE H=>?_)
        ·refine s6 ?_;exact nj ⟨decide ((wu x1.pe).tmod 8=3),H,jj aO⟩
        ·refine ax ?_;exact nj ⟨decide ((wu x1.pe).tmod 8=4),H,jj aO⟩
       ·rintro E fj ⟨bu,H,L,rfl,b3,aR⟩;refine qy H (λcN H=>?_) (λcN H=>?_)
        ·refine aq ?_;refine aq ?_;refine iL (λE wq=>∃V:List Item,kF.k9 a V=some r ∧ ∃(bq:gL)(G:gE),E=[(4,pl d 0),(7,.i .i64 a),(17,G)]∧L.le bq∧iW aR [.box d [.i .i64 0,.i .i64 0,.s [],.sl none 0 (.k 0),.sl none 0 (.k 0),.sl none 0 (.k 0),.i .i64 0,.i .i64 0,.sl none 0 (.k 0)],.row Item.t G V] bq wq) ?_ ?_
         ·refine ax ?_;refine jH (λ(s:(List Item)×Int×Int) E wq=>∃(Q:gL)(z:gE),E=[(2,pl e 0),(3,pl h 0),(4,pl d 0),(7,.i .i64 a),(17,z),(18,.i .i64 s.2.1),(19,.i .i64 s.2.2)]∧L.le Q∧iW aR [.box d [.i .i64 0,.i .i64 0,.s [],.sl none 0 (.k 0),.sl none 0 (.k 0),.sl none 0 (.k 0),.i .i64 0,.i .i64 0,.sl none 0 (.k 0)],.box h [.i .i64 x1.pe,.i .i64 x1.n,.i .i64 x1.iQ,I,J],.box e [.i .i64 x0.seq,m,p,q,u],.row Item.t z s.1] Q wq) H ?_ ?_
          ·have cu:=aR.lb Item.t;exact lo ⟨L,(.sl none 0 (.k 0)),rfl,(gL.le.refl _),cu.pick [1,2,3,0] (by decide)⟩
          ·rintro cg ⟨X,f,O⟩ E fn hI H
           try dsimp only at hI
           obtain⟨Q,z,rfl,b4,y⟩:=hI;refine kr ?_;refine kr ?_;refine sL (λE wq=>E=[(2,pl e 0),(3,pl h 0),(4,pl d 0),(7,.i .i64 a),(17,z),(18,.i .i64 f),(19,.i .i64 O),(156,.b (decide (O<wr (wr ((x0.chunks.length:Int)+(x0.ik.length:Int))+(x0.im.length:Int)))&&decide ((X.length:Int)<64)))] ∧ ∃ae:gL,Q.le ae∧St [] w F ae [.box d [.i .i64 0,.i .i64 0,.s [],.sl none 0 (.k 0),.sl none 0 (.k 0),.sl none 0 (.k 0),.i .i64 0,.i .i64 0,.sl none 0 (.k 0)],.box h [.i .i64 x1.pe,.i .i64 x1.n,.i .i64 x1.iQ,I,J],.box e [.i .i64 x0.seq,m,p,q,u],.row Item.t z X] wq) ?_ ?_
           ·
            rcases nk (decide (O<wr (wr ((x0.chunks.length:Int)+(x0.ik.length:Int))+(x0.im.length:Int))))with M|M
            ·refine qd ?_;refine qc ?_;refine qf Ty.yX ?_;refine qb 2 Ty.vj y ?_;refine qr (jV kT rfl aD.ln) ?_;refine qf Ty.Bl ?_;refine qb 2 Ty.Bc y ?_;refine qr (jV kR rfl ah.ln) ?_;refine qc ?_;refine qf Ty.Bm ?_;refine qb 2 Ty.z8 y ?_;refine qr (jV mg rfl aH.ln) ?_;refine qc ?_;refine qr (iB rfl rfl qv) ?_;refine qc ?_;refine kC 152 M ?_;refine qc ?_;refine qr (jV Dj rfl (y.kH (k:=3) rfl)) ?_;refine qr (iB rfl rfl qv) ?_;refine qc ?_;refine ku ?_;exact lW _ ⟨rfl,Q,(gL.le.refl _),y⟩ ⟨rfl,rfl,rfl,rfl,rfl,rfl,rfl,(lZ rfl (by first|rfl|(rw[M];first|done|rfl)|simp[M])),trivial⟩
            ·refine qd ?_;refine qc ?_;refine qf Ty.yX ?_;refine qb 2 Ty.vj y ?_;refine qr (jV kT rfl aD.ln) ?_;refine qf Ty.Bl ?_;refine qb 2 Ty.Bc y ?_;refine qr (jV kR rfl ah.ln) ?_;refine qc ?_;refine qf Ty.Bm ?_;refine qb 2 Ty.z8 y ?_;refine qr (jV mg rfl aH.ln) ?_;refine qc ?_;refine qr (iB rfl rfl qv) ?_;refine qc ?_;refine kC 152 M ?_;refine je ?_;refine qz ?_;refine qc ?_;refine ku ?_;exact lW _ ⟨rfl,Q,(gL.le.refl _),y⟩ ⟨rfl,rfl,rfl,rfl,rfl,rfl,rfl,(lZ rfl (by first|rfl|(rw[M];first|done|rfl)|simp[M])),trivial⟩
           rintro E fo ⟨rfl,ae,b5,aT⟩;refine nN ?_;refine qy H (λc6 H=>?_) (λc6 H=>?_)
           ·refine qk ?_;refine iL (λE wq=>∃b1:List Item,∃b0:Int,kF.sy O cg b1 b0=some r ∧ ∃(bm:gL)(bg:gE),E=[(2,pl e 0),(3,pl h 0),(4,pl d 0),(7,.i .i64 a),(17,bg),(18,.i .i64 b0),(19,.i .i64 O)]∧ae.le bm∧iW aT [.box d [.i .i64 0,.i .i64 0,.s [],.sl none 0 (.k 0),.sl none 0 (.k 0),.sl none 0 (.k 0),.i .i64 0,.i .i64 0,.sl none 0 (.k 0)],.box h [.i .i64 x1.pe,.i .i64 x1.n,.i .i64 x1.iQ,I,J],.box e [.i .i64 x0.seq,m,p,q,u],.row Item.t bg b1] bm wq) ?_ ?_
            ·obtain⟨fp,bZ,H⟩:=iy H;refine aZ ?_;refine ge (mo b9) bZ ?_;refine ge (mo b9) bZ ?_;refine aw ?_;refine qy H (λc7 H=>?_) (λc7 H=>?_)
             ·refine jf _ rfl ?_;exact nj ⟨X,f,H,⟨_,z,rfl,iI,aT⟩⟩
             ·refine ax ?_;refine j8 (v:=.agg (Item.cells (Item.mk 0 (iV 32 (0:UInt8)) 0 0 f 20))) rfl rfl rfl rfl (λ_=>rfl) ?_;refine xm (o9 (cs:=([.i .i64 0]:List gE)++iJ (iV 32 (0:UInt8))++([.i .i64 0,.i .i64 0,.i .i64 0,.i .i64 0]:List gE)) Ty.aiW rfl aT) ?_;rintro _ e0 ⟨b8,rfl,dD⟩;refine sb 0 (([.i .i64 0]:List gE)++iJ (iV 32 (0:UInt8))++([.i .i64 0,.i .i64 0,.i .i64 f,.i .i64 20]:List gE)) ?_;intro e1 l;refine qn ?_;refine iL (λE wq=>∃ar:Int,∃Z:List UInt8,∃a4:Int,∃a5:Int,kF.BK X f O cg ar Z a4 a5=some r ∧ ∃(bn:gL),E=[(2,pl e 0),(3,pl h 0),(4,pl d 0),(7,.i .i64 a),(17,z),(18,.i .i64 f),(19,.i .i64 O),(20,pl b8 0)]∧ae.le bn∧(Z).length=32∧iW l [.box b8 (([.i .i64 ar]:List gE)++iJ Z++([.i .i64 a4,.i .i64 a5,.i .i64 f,.i .i64 20]:List gE)),.box d [.i .i64 0,.i .i64 0,.s [],.sl none 0 (.k 0),.sl none 0 (.k 0),.sl none 0 (.k 0),.i .i64 0,.i .i64 0,.sl none 0 (.k 0)],.box h [.i .i64 x1.pe,.i .i64 x1.n,.i .i64 x1.iQ,I,J],.box e [.i .i64 x0.seq,m,p,q,u],.row Item.t z X] bn wq) ?_ ?_
              ·refine ax ?_;refine qy H (λc9 H=>?_) (λc9 H=>?_)
               ·obtain⟨bk,dm,H⟩:=iy H;have aU:=l.mC 3 rfl;refine rh 3 aU l ?_;refine au ?_;refine hl 3 aU l ?_;obtain⟨_,⟨en,eo,rfl,dd,dR,dS⟩,cT⟩:=js 35 (aD.mono (((((D.trans B).trans ba).trans b3).trans b4).trans b5)) dm;refine au ?_;refine qr (pw 0 (iJ bk.id) Ty.pJ Ty.nx rfl (cT.mono (gL.Iy _ _ _)) (by first|omega|rfl) rfl (kY rfl)) ?_;refine au ?_;refine qu (va (c:=[.i .i64 1]) 0 (([.i .i64 1]:List gE)++iJ (iV 32 (0:UInt8))++([.i .i64 0,.i .i64 0,.i .i64 f,.i .i64 20]:List gE)) rfl rfl l rfl rfl Ty.BX rfl rfl rfl) ?_;rintro _ e5 bB;refine qh 3 aU bB ?_;refine au ?_;refine qu (va (c:=iJ bk.id) 0 (([.i .i64 1]:List gE)++iJ bk.id++([.i .i64 0,.i .i64 0,.i .i64 f,.i .i64 20]:List gE)) rfl rfl bB rfl rfl Ty.nx rfl rfl rfl) ?_;rintro _ e6 bC;refine qh 3 aU bC ?_;refine ax ?_;exact nj ⟨1,bk.id,0,0,H,⟨_,rfl,iI,dd,bC⟩⟩
               ·refine aq ?_;refine qy H (λcA H=>?_) (λcA H=>?_)
                ·obtain⟨b6,dn,H⟩:=iy H;have am:=l.mC 3 rfl;refine rh 3 am l ?_;refine au ?_;refine hl 3 am l ?_;refine au ?_;refine hl 3 am l ?_;obtain⟨_,⟨ep,eq,rfl,dT,dU⟩,_⟩:=js 4 (ah.mono (((((D.trans B).trans ba).trans b3).trans b4).trans b5)) dn;refine au ?_;refine qu (va (c:=[.i .i64 2]) 0 (([.i .i64 2]:List gE)++iJ (iV 32 (0:UInt8))++([.i .i64 0,.i .i64 0,.i .i64 f,.i .i64 20]:List gE)) rfl rfl l rfl rfl Ty.BX rfl rfl rfl) ?_;rintro _ e8 bD;refine qh 3 am bD ?_;refine au ?_;refine qu (va (c:=[.i .i64 b6.seq]) 0 (([.i .i64 2]:List gE)++iJ (iV 32 (0:UInt8))++([.i .i64 b6.seq,.i .i64 0,.i .i64 f,.i .i64 20]:List gE)) rfl rfl bD rfl rfl Ty.BX rfl rfl rfl) ?_;rintro _ e9 bE;refine qh 3 am bE ?_;refine ax ?_;exact nj ⟨2,(iV 32 (0:UInt8)),b6.seq,0,H,⟨_,rfl,iI,(vL),bE⟩⟩
                ·obtain⟨A,dq,H⟩:=iy H;obtain⟨_,⟨d1,rfl,dV⟩,dP⟩:=js 3 (aH.mono (((((D.trans B).trans ba).trans b3).trans b4).trans b5)) dq;refine aq ?_;refine al ?_;intro d8 eA dE;refine sb 0 ([.i .i64 A.seq,.i .i64 A.of,d1]) ?_;intro eB aj;refine qn ?_;have U:=aj.mC 0 rfl;refine rh 0 U aj ?_;refine au ?_;refine hl 0 U aj ?_;refine au ?_;refine hl 0 U aj ?_;refine au ?_;refine qu (va (c:=[.i .i64 3]) 1 (([.i .i64 3]:List gE)++iJ (iV 32 (0:UInt8))++([.i .i64 0,.i .i64 0,.i .i64 f,.i .i64 20]:List gE)) rfl rfl aj rfl rfl Ty.BX rfl rfl rfl) ?_;rintro _ eC bF;refine qh 0 U bF ?_;refine au ?_;refine qu (va (c:=[.i .i64 A.seq]) 1 (([.i .i64 3]:List gE)++iJ (iV 32 (0:UInt8))++([.i .i64 A.seq,.i .i64 0,.i .i64 f,.i .i64 20]:List gE)) rfl rfl bF rfl rfl Ty.BX rfl rfl rfl) ?_;rintro _ eD bG;refine qh 0 U bG ?_;refine au ?_;refine qu (va (c:=[.i .i64 A.of]) 1 (([.i .i64 3]:List gE)++iJ (iV 32 (0:UInt8))++([.i .i64 A.seq,.i .i64 A.of,.i .i64 f,.i .i64 20]:List gE)) rfl rfl bG rfl rfl Ty.BX rfl rfl rfl) ?_;rintro _ eE bH;refine qh 0 U bH ?_;refine ax ?_;exact nj ⟨3,(iV 32 (0:UInt8)),A.seq,A.of,H,⟨_,rfl,iI,(vL),pk [1,2,3,4,5] bH⟩⟩
              ·rintro E e2 ⟨ar,Z,a4,a5,H,bn,rfl,dZ,da,cq⟩;obtain⟨dy,db,H⟩:=iy H;refine ax ?_;refine xm (kN (t:=Item.t) (vs:=[.agg (Item.cells (Item.mk ar Z a4 a5 f 20))]) (xs:=[(Item.mk ar Z a4 a5 f 20)]) Dj Ty.LX rfl ⟨⟨rfl,da⟩,trivial⟩ rfl rfl cq) ?_;rintro ej e3 bA;refine ap 5 bA (bA.mi (k:=0) rfl) db ?_;intro d4 e4 cr;refine ax ?_;exact nj ⟨dy,wr (f+20),H,⟨_,d4,rfl,iI,pk [2,3,4,5] cr⟩⟩
            ·rintro E ez ⟨b1,b0,H,bm,bg,rfl,dY,cp⟩;refine ax ?_;exact nm H ⟨_,bg,rfl,iI,cp⟩
           ·refine jf _ rfl ?_;exact nj ⟨X,H,⟨_,z,rfl,iI,pk [0,3] aT⟩⟩
         ·rintro E fk ⟨V,H,bq,G,rfl,ef,bR⟩;refine aq ?_;have cS:=(bR.kH (k:=1) rfl).cells;refine qr (tJ (vs:=[(0,.i .i64 3),(4,.i .i64 a),(5,G)]) (v:=.agg (Change.cells (Change.mk 3 (ie.mk 0 (iF.mk [] []) []) [] 0 a V) (.sl none 0 (.k 0)) (.sl none 0 (.k 0)) (.sl none 0 (.k 0)) G)) Ty.Ny rfl (by simp only[oS,cS];rfl)) ?_;refine qc ?_;refine qr (jV Dj rfl (bR.kH (k:=1) rfl)) ?_;refine au ?_;refine sb 0 ([.i .i64 3,.i .i64 0,.s [],.sl none 0 (.k 0),.sl none 0 (.k 0),.sl none 0 (.k 0),.i .i64 0,.i .i64 a,G]) ?_;intro fl c5;refine au ?_;obtain⟨cl,eg,cZ,bT⟩:=c5.kh 1 [0] rfl (by decide) (by decide);obtain rfl:=oi H;refine oH (vs:=[.agg (Change.cells (Change.mk 3 (ie.mk 0 (iF.mk [] []) []) [] 0 a V) (.sl none 0 (.k 0)) (.sl none 0 (.k 0)) (.sl none 0 (.k 0)) G),.b (decide (0<(V.length:Int)))]) rfl ⟨(oJ 0 Ty.zY Ty.AL bT rfl rfl),rfl,trivial⟩ ?_;exact⟨cl,.sl none 0 (.k 0),.sl none 0 (.k 0),.sl none 0 (.k 0),G,rfl,(iq.nil _),(iq.nil _),(iq.nil _),cZ,bT.pick [] (by decide)⟩
        ·refine aq ?_;refine qy H (λcD H=>?_) (λcD H=>?_)
         ·refine aq ?_;refine j8 (v:=.agg (Change.cells (Change.mk 4 (ie.mk 0 (iF.mk [] []) []) [] 0 a []) (.sl none 0 (.k 0)) (.sl none 0 (.k 0)) (.sl none 0 (.k 0)) (.sl none 0 (.k 0)))) rfl rfl rfl rfl (λ_=>rfl) ?_;refine sb 0 ([.i .i64 4,.i .i64 0,.s [],.sl none 0 (.k 0),.sl none 0 (.k 0),.sl none 0 (.k 0),.i .i64 0,.i .i64 a,.sl none 0 (.k 0)]) ?_;intro eF bI;refine au ?_;obtain rfl:=oi H;refine oH (vs:=[.agg (Change.cells (Change.mk 4 (ie.mk 0 (iF.mk [] []) []) [] 0 a []) (.sl none 0 (.k 0)) (.sl none 0 (.k 0)) (.sl none 0 (.k 0)) (.sl none 0 (.k 0))),.b true]) rfl ⟨(oJ 0 Ty.zY Ty.AL bI rfl rfl),rfl,trivial⟩ ?_;exact⟨L,.sl none 0 (.k 0),.sl none 0 (.k 0),.sl none 0 (.k 0),.sl none 0 (.k 0),rfl,(iq.nil _),(iq.nil _),(iq.nil _),(iq.nil _),bI.pick [] (by decide)⟩
         ·refine ax ?_;exact nj ⟨H,jj (pk [0] aR)⟩
  ·rintro E w8 ⟨H,F8,rfl,ed,dO⟩;refine aq ?_;refine j8 (v:=.agg (Change.cells (Change.mk 5 (ie.mk 0 (iF.mk [] []) []) [] 0 a []) (.sl none 0 (.k 0)) (.sl none 0 (.k 0)) (.sl none 0 (.k 0)) (.sl none 0 (.k 0)))) rfl rfl rfl rfl (λ_=>rfl) ?_;refine sb 0 ([.i .i64 5,.i .i64 0,.s [],.sl none 0 (.k 0),.sl none 0 (.k 0),.sl none 0 (.k 0),.i .i64 0,.i .i64 a,.sl none 0 (.k 0)]) ?_;intro w9 bS;refine au ?_;obtain rfl:=oi H;refine oH (vs:=[.agg (Change.cells (Change.mk 5 (ie.mk 0 (iF.mk [] []) []) [] 0 a []) (.sl none 0 (.k 0)) (.sl none 0 (.k 0)) (.sl none 0 (.k 0)) (.sl none 0 (.k 0))),.b true]) rfl ⟨(oJ 0 Ty.zY Ty.AL bS rfl rfl),rfl,trivial⟩ ?_;exact⟨F8,.sl none 0 (.k 0),.sl none 0 (.k 0),.sl none 0 (.k 0),.sl none 0 (.k 0),rfl,(iq.nil _),(iq.nil _),(iq.nil _),(iq.nil _),bS.pick [] (by decide)⟩
def qP.k1(l3:List (List UInt8)):Option (List (List UInt8)) :=
  some l3
def qP.k3(a:Int)(b:((List (List UInt8))×Int)→Option (List (List UInt8)))(nw:List (List UInt8)):Option (List (List UInt8)) :=
  b (nw,wr (a+1))
def qP.l4(x0:iF)(a:Int)(e:((List (List UInt8))×Int)→Option (List (List UInt8)))(f:((List (List UInt8))×Int)→Option (List (List UInt8))):((List (List UInt8))×Int)→Option (List (List UInt8))
  | (c,b) =>
    bd (ix x0.parts a) λg =>
    if decide (b<(g.ids.length:Int))then
      bd (ix x0.parts a) λh =>
      bd (ix h.ids b) λi =>
      bd (wX c i) λd =>
      f (d.1,wr (b+1))
    else
      qP.k3 a e c
def qP.l2(x0:iF)(b:((List (List UInt8))×Int)→Option (List (List UInt8))):((List (List UInt8))×Int)→Option (List (List UInt8))
  | (l7,a) =>
    if decide (a<(x0.parts.length:Int))then
      loop (qP.l4 x0 a b) (l7,0)
    else
      qP.k1 l7
def qP(x0:iF):Option (List (List UInt8)) :=
  loop (qP.l2 x0) ([],0)
theorem Ts{x0:iF}{r:(List (List UInt8))}{q:gE}(hA:Gd F w)(u:iq Part.t F q x0.parts)(H:qP x0=some r):iN il K 51 [.agg (iF.cells x0 q)] w λv w'=>∃(F':gL)(D:gE),v=D∧iq lV F' D (r)∧St [] w F F' [] w':=by
 refine lg Tryz.func51 ?_;have hS:=St.start hA;refine qs ?_;refine bx ([.s x0.name,q]) ?_;intro l w1 m;refine au ?_;refine aq ?_;refine iL (λE wq=>∃l3:List (List UInt8),qP.k1 l3=some r ∧ ∃(b:gL)(j:gE),E=[(3,j)]∧F.le b∧iq lV b j l3∧iW m [] b wq) ?_ ?_
 ·refine ax ?_;refine jH (λ(s:(List (List UInt8))×Int) E wq=>∃(a:gL)(c:gE),E=[(1,pl l 0),(3,c),(4,.i .i64 s.2)]∧F.le a∧iq lV a c s.1∧mq m a wq) H ?_ ?_
  ·exact lo ⟨F,.sl none 0 (.k 0),rfl,(gL.le.refl _),(iq.nil _),m⟩
  ·rintro ad ⟨l7,p⟩ E w6 hI H
   try dsimp only at hI
   obtain⟨a,c,rfl,B,z,f⟩:=hI;refine ay ?_;refine qy H (λL H=>?_) (λL H=>?_)
   ·refine qk ?_;refine iL (λE wq=>∃nw:List (List UInt8),qP.k3 p ad nw=some r ∧ ∃(d:gL)(g:gE),E=[(1,pl l 0),(3,g),(4,.i .i64 p)]∧a.le d∧iq lV d g nw∧mq f d wq) ?_ ?_
    ·refine ax ?_;refine jH (λ(s:(List (List UInt8))×Int) E wq=>∃(e:gL)(h:gE),E=[(1,pl l 0),(3,h),(4,.i .i64 p),(5,.i .i64 s.2)]∧a.le e∧iq lV e h s.1∧mq f e wq) H ?_ ?_
     ·exact lo ⟨_,c,rfl,iI,z,f⟩
     ·rintro a6 ⟨Z,ak⟩ E aH hI H
      try dsimp only at hI
      obtain⟨e,h,rfl,A,y,n⟩:=hI;obtain⟨aR,U,H⟩:=iy H;obtain⟨_,⟨a7,rfl,aj⟩,_⟩:=js 3 (u.mono (B.trans A)) U;refine ay ?_;refine qy H (λM H=>?_) (λM H=>?_)
      ·obtain⟨aT,V,aU,X,H⟩:=iG H;obtain⟨a5,Q,H⟩:=iy H;obtain⟨_,⟨a8,rfl,R⟩,_⟩:=js 3 (u.mono (B.trans A)) V;obtain⟨_,⟨rfl,P⟩,ai⟩:=js 32 R X;refine ay ?_;refine lm (Tq n.iH y P Q) ?_;rintro a9 aK ⟨ah,ae,rfl,O,x⟩;have J:=n.call x;have a4:=x.ext;refine ax ?_;exact nm H ⟨_,ae,rfl,iI,O,J⟩
      ·refine ax ?_;exact nj ⟨Z,H,⟨_,h,rfl,iI,y,n⟩⟩
    ·rintro E aD ⟨nw,H,d,g,rfl,am,S,G⟩;refine ax ?_;exact nm H ⟨_,g,rfl,iI,S,G⟩
   ·refine jf _ rfl ?_;exact nj ⟨l7,H,⟨_,c,rfl,iI,z,pk [] f⟩⟩
 ·rintro E w2 ⟨l3,H,b,j,rfl,ar,Y,I⟩;refine aq ?_;obtain rfl:=oi H;refine qt ?_;exact⟨b,j,rfl,Y,I⟩
def lH.k1:Option Bool :=
  some true
def lH.k3(a:Int)(b:Int→Option Bool):Option Bool :=
  b (wr (a+1))
def lH.k5(a:Int)(b:Int→Option Bool):Option Bool :=
  b (wr (a+1))
def lH.k7(a:Int)(b:Int→Option Bool):Option Bool :=
  b (wr (a+1))
def lH.k8(b:Int)(c:Int→Option Bool)(a:Bool):Option Bool :=
  if(!a)then
    some false
  else
    lH.k7 b c
def lH.l9(x1:Change)(e:Int)(f:(List (List UInt8)))(d:Int)(g:Int→Option Bool)(h:(Bool×Int)→Option Bool):(Bool×Int)→Option Bool
  | (a,b) =>
    if decide (b<e)then
      bd (only (!a) (ix x1.items b) (Item.mk 0 (iV 32 (0:UInt8)) 0 0 0 0)) λc =>
      bd (only ((!a)&&decide (c.kind=1)) (ix x1.items b) (Item.mk 0 (iV 32 (0:UInt8)) 0 0 0 0)) λi =>
      bd (only ((!a)&&decide (c.kind=1)) (ix f d) (iV 32 (0:UInt8))) λj =>
      h ((a||(decide (c.kind=1)&&decide (i.id=j))),wr (b+1))
    else
      lH.k8 d g a
def lH.l6(x0:ig)(x1:Change)(e:Int)(d:Int)(f:Int→Option Bool)(b:(List (List UInt8)))(g:Int→Option Bool):Int→Option Bool
  | a =>
    if decide (a<(b.length:Int))then
      bd (ix b a) λh =>
      bd (ta x0 h) λc =>
      bd (only (decide (0≤c)) (ix x0.chunks c) (Chunk.mk (iV 32 (0:UInt8)) false [] [])) λi =>
      loop (lH.l9 x1 e b a g) ((decide (0≤c)&&decide (0<(i.locs.length:Int))),0)
    else
      lH.k5 d f
def lH.l4(x0:ig)(x1:Change)(b:Int)(e:Int→Option Bool)(c:Int→Option Bool):Int→Option Bool
  | a =>
    if decide (a<(x0.ik.length:Int))then
      bd (ix x0.ik a) λf =>
      bd (ix x1.items b) λg =>
      if decide (f.seq≠g.seq)then
        lH.k5 a c
      else
        bd (ix x0.ik a) λh =>
        bd (qP h.iw) λd =>
        loop (lH.l6 x0 x1 b a c d) 0
    else
      lH.k3 b e
def lH.mc(x0:ig)(x1:Change)(b:Int)(f:Int→Option Bool)(e:Int→Option Bool):Int→Option Bool
  | a =>
    if decide (a<(x0.ik.length:Int))then
      bd (ix x0.ik a) λc =>
      bd (ix x1.items b) λd =>
      bd (only (decide (c.seq=d.of)) (ix x0.ik a) (ie.mk 0 (iF.mk [] []) [])) λg =>
      if(decide (c.seq=d.of)&&decide ((g.locs.length:Int)=0))then
        some false
      else
        e (wr (a+1))
    else
      lH.k3 b f
def lH.l2(x0:ig)(x1:Change)(b:Int→Option Bool):Int→Option Bool
  | a =>
    if decide (a<(x1.items.length:Int))then
      bd (ix x1.items a) λx9 =>
      if decide (x9.kind=2)then
        loop (lH.l4 x0 x1 a b) 0
      else
        if decide (x9.kind=3)then
          loop (lH.mc x0 x1 a b) 0
        else
          lH.k3 a b
    else
      lH.k1
def lH(x0:ig)(x1:Change):Option Bool :=
  loop (lH.l2 x0 x1) 0
set_option maxHeartbeats 2000000 in
theorem ZL{x0:ig}{x1:Change}{r:Bool}{A:gE}{B:gE}{D:gE}{G:gE}{R:gE}{S:gE}{U:gE}{V:gE}(hA:Gd F w)(u:iq ie.t F A x0.ik)(bi:iq Chunk.t F B x0.chunks)(bC:iq iu.t F D x0.im)(bD:iq iz.t F G x0.iv)(df:iq Part.t F R x1.snap.iw.parts)(dg:iq Loc.t F S x1.snap.locs)(dh:iq Chunk.t F U x1.chunks)(f:iq Item.t F V x1.items)(H:lH x0 x1=some r):iN il K 28 [.agg (ig.cells x0 A B D G),.agg (Change.cells x1 R S U V)] w λv w'=>∃(F':gL),v = .b r∧St [] w F F' [] w':=by
 refine kB Tryz.func28 ?_;have hS:=St.start hA;refine qs ?_;refine bx ([.i .i64 x0.seq,A,B,D,G]) ?_;intro a w1 di;refine bx ([.i .i64 x1.kind,.i .i64 x1.snap.seq,.s x1.snap.iw.name,R,S,U,.i .i64 x1.seq,.i .i64 x1.iQ,V]) ?_;intro c w2 bk;refine au ?_;refine iL (jO (lH.k1=some r) [] bk []) ?_ ?_
 ·refine ax ?_;refine lj bk (λs:Int=>[(2,pl a 0),(3,pl c 0),(5,.i .i64 s)]) H ?_;intro cI g F4 w4 e k H;refine ay ?_;refine qy H (λbU H=>?_) (λbU H=>?_)
  ·refine qk ?_;refine iL (jN (lH.k3 g cI=some r) [(2,pl a 0),(3,pl c 0),(5,.i .i64 g)] k) ?_ ?_
   ·obtain ⟨x9,c3,H⟩:=iy H;obtain ⟨_,⟨rfl,dr⟩,_⟩:=js 37 (f.mono e) c3;refine ax ?_;refine qy H (fun bM H=>?_) (fun bM H=>?_)
    ·refine ax ?_;refine jH (λ(s:Int) E wq=>∃(aH:gL),E=[(2,pl a 0),(3,pl c 0),(5,.i .i64 g),(6,.i .i64 s)]∧F4.le aH∧mq k aH wq) H ?_ ?_
     ·exact lo (jj k)
     ·rintro cH l E dO hI H
      try dsimp only at hI
      obtain⟨aH,rfl,m,x⟩:=hI;refine ay ?_;refine qy H (λbP H=>?_) (λbP H=>?_)
      ·refine qk ?_;refine iL (jN (lH.k5 l cH=some r) [(2,pl a 0),(3,pl c 0),(5,.i .i64 g),(6,.i .i64 l)] x) ?_ ?_
       ·refine ay ?_;obtain⟨eb,cy,ec,cz,H⟩:=iG H;refine rn ?_;obtain⟨_,⟨dG,dH,rfl,d0,d1⟩,_⟩:=js 4 (u.mono (e.trans m)) cy;obtain⟨_,⟨rfl,ds⟩,_⟩:=js 37 (f.mono (e.trans m)) cz;refine au ?_;refine qy H (λbQ H=>?_) (λbQ H=>?_)
        ·refine jf _ rfl ?_;exact nj ⟨H,jj x⟩
        ·obtain ⟨cN,c0,dB,cl,H⟩:=iG H;obtain ⟨_,⟨cL,dI,rfl,cu,d2⟩,bV⟩:=js 4 (u.mono (e.trans m)) c0;refine ax ?_;refine qr (pw 1 (iF.cells cN.iw cL) Ty.tK Ty.tz rfl (bV.mono x.agree) (by first | omega | rfl) rfl (kY rfl)) ?_;refine lm (Ts x.iH cu cl) ?_;rintro Q dR ⟨bB,_,rfl,a4,bo⟩;have bm:=x.call bo;have a8:=bo.ext;refine ax ?_;refine jH (fun (s:Int) E wq=>∃ (q:gL),E=[(2,pl a 0),(3,pl c 0),(5,.i .i64 g),(6,.i .i64 l),(7,Q),(8,.i .i64 s)]∧bB.le q∧mq bm q wq) H ?_ ?_
         ·exact lo (jj bm)
         ·rintro b8 z E dT hI H
          try dsimp only at hI
          obtain⟨q,rfl,n,y⟩:=hI;refine ay ?_;refine qy H (λbR H=>?_) (λbR H=>?_)
          ·refine qk ?_;refine iL (jN (lH.k7 z b8=some r) [(2,pl a 0),(3,pl c 0),(5,.i .i64 g),(6,.i .i64 l),(7,Q),(8,.i .i64 z)] y) ?_ ?_
           ·refine ay ?_;obtain⟨ed,c1,b7,cm,H⟩:=iG H;refine rf y ?_;refine bL y 1 (ig.cells x0 A B D G) [] ?_;obtain⟨_,⟨rfl,bX⟩,dj⟩:=js 32 (a4.mono n) c1;refine au ?_;refine lq (HC y.iH (mo u) (mo bi) (mo bC) (mo bD) bX cm) y ?_;intro dV Y;refine au ?_;refine kr ?_;obtain⟨cO,c2,H⟩:=iy H;refine sL (λE wq=>E=[(2,pl a 0),(3,pl c 0),(5,.i .i64 g),(6,.i .i64 l),(7,Q),(8,.i .i64 z),(10,.b (decide (0≤b7)&&decide (0<(cO.locs.length:Int))))] ∧ ∃I:gL,q.le I∧St [] w F I [.box c [.i .i64 x1.kind,.i .i64 x1.snap.seq,.s x1.snap.iw.name,R,S,U,.i .i64 x1.seq,.i .i64 x1.iQ,V],.box a [.i .i64 x0.seq,A,B,D,G]] wq) ?_ ?_
            ·
             rcases nk (decide (0≤b7))with j|j
             ·refine qd ?_;refine qc ?_;refine qr (iB rfl rfl DH) ?_;refine qc ?_;refine kC 69 j ?_;refine qf Ty.yX ?_;refine qb 1 Ty.vj Y ?_;refine qc ?_;have b2:=c2;rw[jX j]at b2;obtain⟨cd,cC⟩:=iD b2;obtain⟨db,cn,ar⟩:=(bi.mono (((e.trans m).trans a8).trans n)).el cC;obtain⟨dJ,dK,rfl,dt,d3,cw⟩:=cn;replace ar:=qj 35 ar;have bu:=ar.ky;refine qi kT Ty.nX bu cd ?_;refine qr (nr 34 Ty.FM rfl bu) ?_;refine qr (la 34 Ty.sh rfl (ar.mono Y.agree) (by first|omega|rfl) rfl) ?_;refine qr (jV ov rfl cw.ln) ?_;refine qr (iB rfl rfl vg) ?_;refine q2 ?_;refine ku ?_;exact lW _ ⟨rfl,q,(gL.le.refl _),Y⟩ ⟨rfl,rfl,rfl,rfl,rfl,rfl,(lZ rfl (by first|rfl|(rw[j];first|done|rfl)|simp[j])),trivial⟩
             ·refine qd ?_;refine qc ?_;refine qr (iB rfl rfl DH) ?_;refine qc ?_;refine kC 69 j ?_;refine je ?_;refine je ?_;refine je ?_;refine je ?_;refine q2 ?_;refine ku ?_;exact lW _ ⟨rfl,q,(gL.le.refl _),Y⟩ ⟨rfl,rfl,rfl,rfl,rfl,rfl,(lZ rfl (by first|rfl|(rw[j];first|done|rfl)|simp[j])),trivial⟩
            rintro E dX ⟨rfl,I,O,aR⟩;refine nN ?_;refine iL (λE wq=>∃aO:Bool,lH.k8 z b8 aO=some r ∧ ∃(aJ:gL),E=[(2,pl a 0),(3,pl c 0),(5,.i .i64 g),(6,.i .i64 l),(7,Q),(8,.i .i64 z),(10,.b aO)]∧I.le aJ∧mq aR aJ wq) ?_ ?_
            ·refine ax ?_;refine jH (λ(s:Bool×Int) E wq=>∃(aK:gL),E=[(2,pl a 0),(3,pl c 0),(5,.i .i64 g),(6,.i .i64 l),(7,Q),(8,.i .i64 z),(10,.b s.1),(11,.i .i64 s.2)]∧I.le aK∧mq aR aK wq) H ?_ ?_
             ·exact lo (jj aR)
             ·rintro dD ⟨X,d4⟩ E dZ hI H
              try dsimp only at hI
              obtain⟨aK,rfl,P,Z⟩:=hI;refine ay ?_;refine qy H (λbT H=>?_) (λbT H=>?_)
              ·refine ay ?_;obtain⟨bg,J,a9,L,H⟩:=iG H;obtain⟨aC,a7,H⟩:=iy H;have bv:(bg.id).length=32:=by
                rcases nk (!X)with aV|aV
                ·have b3:=J;rw[jX aV]at b3;obtain⟨dw,cD⟩:=iD b3;obtain⟨dc,co,bc⟩:=(f.mono (((((e.trans m).trans a8).trans n).trans O).trans P)).el cD;obtain⟨rfl,bv⟩:=co;replace bc:=qj 37 bc;have dm:=bc.ky;exact bv
                ·have hy:=J;rw[me aV]at hy;obtain rfl:=oi hy
                 rfl
               have a5:(a9.id).length=32:=by
                rcases nk ((!X)&&decide (bg.kind=1))with aX|aX
                ·have b4:=L;rw[jX aX]at b4;obtain⟨dx,cE⟩:=iD b4;obtain⟨dd,cp,be⟩:=(f.mono (((((e.trans m).trans a8).trans n).trans O).trans P)).el cE;obtain⟨rfl,a5⟩:=cp;replace be:=qj 37 be;have dn:=be.ky;exact a5
                ·have hy:=L;rw[me aX]at hy;obtain rfl:=oi hy
                 rfl
               have a6:(aC).length=32:=by
                rcases nk ((!X)&&decide (bg.kind=1))with aY|aY
                ·have b5:=a7;rw[jX aY]at b5;obtain⟨dy,cF⟩:=iD b5;obtain⟨de,cq,bf⟩:=(a4.mono ((n.trans O).trans P)).el cF;obtain⟨rfl,a6⟩:=cq;replace bf:=qj 32 bf;have dq:=bf.ky;exact a6
                ·have hy:=a7;rw[me aY]at hy;obtain rfl:=oi hy
                 rfl
               refine rn ?_;refine aw ?_;refine ge (mo f) J ?_;refine ge (mo f) J ?_;refine ge (mo f) J ?_;refine aw ?_;refine oU (mo f) L ?_;refine oU (mo f) L ?_;refine Cj (v:=.agg (iJ a9.id)) rfl rfl rfl rfl (λ⟨ba,bb,_⟩=>?_) ?_
               ·rw[bb,ba];intro hK;have b6:=L;rw[jX (by first|rfl|(rw[bb,ba];first|done|rfl)|simp[ba,bb])]at b6;obtain⟨du,c4⟩:=iD b6;obtain⟨cT,ce,ad⟩:=(f.mono (((((e.trans m).trans a8).trans n).trans O).trans P)).el c4;obtain⟨rfl,a5⟩:=ce;replace ad:=qj 37 ad;have dk:=ad.ky;refine qr (pw 1 (iJ a9.id) Ty.pJ Ty.nx rfl (ad.mono Z.agree) (by first|omega|rfl) rfl (kY rfl)) ?_;exact hK
               refine aw ?_;refine oU (mo a4) a7 ?_;refine Cj (v:=.agg (iJ aC)) rfl rfl rfl rfl (λ⟨aT,aU,_⟩=>?_) ?_
               ·rw[aU,aT];intro hK;have b0:=a7;rw[jX (by first|rfl|(rw[aU,aT];first|done|rfl)|simp[aT,aU])]at b0;obtain⟨dv,c5⟩:=iD b0;obtain⟨cU,cf,ae⟩:=(a4.mono ((n.trans O).trans P)).el c5;obtain⟨rfl,a6⟩:=cf;replace ae:=qj 32 ae;have dl:=ae.ky;refine qr (pw 0 (iJ aC) Ty.pJ Ty.nx rfl (ae.mono Z.agree) (by first|omega|rfl) rfl (kY rfl)) ?_;exact hK
               refine Cj (v:=.b (decide (a9.id=aC))) rfl rfl rfl rfl (λ⟨bI,bJ,_⟩=>?_) ?_
               ·rw[bJ,bI];exact(qr (iB rfl rfl (z7 Ty.Ag rfl rfl (Af a5 a6))) ·)
               refine az ?_;exact nm H (jj Z)
              ·refine jf _ rfl ?_;exact nj ⟨X,H,jj Z⟩
            ·rintro E dY ⟨aO,H,aJ,rfl,d9,bn⟩;refine aq ?_;refine qy H (λbS H=>?_) (λbS H=>?_)
             ·exact rz H bn
             ·refine ax ?_;exact nj ⟨H,jj bn⟩
           ·rintro E dU ⟨H,cR,rfl,d8,bG⟩;refine ax ?_;exact nm H (jj bG)
          ·refine ax ?_;exact nj ⟨H,jj y⟩
       ·rintro E dP ⟨H,cP,rfl,d6,bE⟩;refine ax ?_;exact nm H (jj bE)
      ·refine ax ?_;exact nj ⟨H,jj x⟩
    ·refine aq ?_;refine qy H (λbK H=>?_) (λbK H=>?_)
     ·refine ax ?_;refine jH (λ(s:Int) E wq=>∃(p:gL),E=[(2,pl a 0),(3,pl c 0),(5,.i .i64 g),(12,.i .i64 s)]∧F4.le p∧mq k p wq) H ?_ ?_
      ·exact lo (jj k)
      ·rintro dC cG E dM hI H
       try dsimp only at hI
       obtain⟨p,rfl,M,d⟩:=hI;refine ay ?_;refine qy H (λbN H=>?_) (λbN H=>?_)
       ·refine qk ?_;refine kr ?_;refine qZ ?_;refine kr ?_;obtain⟨b9,bw,bA,bz,H⟩:=iG H;obtain⟨cM,cx,H⟩:=iy H;refine sL (λE wq=>E=[(2,pl a 0),(3,pl c 0),(5,.i .i64 g),(12,.i .i64 cG),(140,.b (decide (b9.seq=bA.of)&&decide ((cM.locs.length:Int)=0)))] ∧ ∃aD:gL,p.le aD∧St [] w F aD [.box c [.i .i64 x1.kind,.i .i64 x1.snap.seq,.s x1.snap.iw.name,R,S,U,.i .i64 x1.seq,.i .i64 x1.iQ,V],.box a [.i .i64 x0.seq,A,B,D,G]] wq) ?_ ?_
        ·
         rcases nk (decide (b9.seq=bA.of))with h|h
         ·refine rn ?_;refine qf Ty.Bl ?_;refine qb 1 Ty.Bc d ?_;refine qc ?_;obtain⟨bY,c6⟩:=iD bw;obtain⟨cV,cg,ah⟩:=(u.mono (e.trans M)).el c6;obtain⟨cJ,cK,rfl,cr,cs⟩:=cg;replace ah:=qj 4 ah;have bp:=ah.ky;refine qi kR Ty.oa bp bY ?_;refine qr (nr 0 Ty.N6 rfl bp) ?_;refine qr (la 0 Ty.pL rfl (ah.mono d.agree) (by first|omega|rfl) rfl) ?_;refine qf Ty.N9 ?_;refine qb 0 Ty.DM d ?_;refine qc ?_;obtain⟨bZ,c7⟩:=iD bz;obtain⟨cX,ch,ai⟩:=(f.mono (e.trans M)).el c7;obtain⟨rfl,bW⟩:=ch;replace ai:=qj 37 ai;have bq:=ai.ky;refine qi Dj Ty.QA bq bZ ?_;refine qr (nr 34 Ty.N2 rfl bq) ?_;refine qr (la 34 Ty.pL rfl (ai.mono d.agree) (by first|omega|rfl) rfl) ?_;refine qr (iB rfl rfl nQ) ?_;refine qc ?_;refine kC 131 h ?_;refine qf Ty.Bl ?_;refine qb 1 Ty.Bc d ?_;refine qc ?_;have b1:=cx;rw[jX h]at b1;obtain⟨ca,c8⟩:=iD b1;obtain⟨cY,ci,aj⟩:=(u.mono (e.trans M)).el c8;obtain⟨dE,dF,rfl,dz,ct⟩:=ci;replace aj:=qj 4 aj;have br:=aj.ky;refine qi kR Ty.oa br ca ?_;refine qr (nr 3 Ty.N8 rfl br) ?_;refine qr (la 3 Ty.sh rfl (aj.mono d.agree) (by first|omega|rfl) rfl) ?_;refine qr (jV ov rfl ct.ln) ?_;refine qr (iB rfl rfl nQ) ?_;refine qc ?_;refine ku ?_;exact lW _ ⟨rfl,p,(gL.le.refl _),d⟩ ⟨rfl,rfl,rfl,rfl,(lZ rfl (by first|rfl|(rw[h];first|done|rfl)|simp[h])),trivial⟩
         ·refine rn ?_;refine qf Ty.Bl ?_;refine qb 1 Ty.Bc d ?_;refine qc ?_;obtain⟨cb,c9⟩:=iD bw;obtain⟨cZ,cj,ak⟩:=(u.mono (e.trans M)).el c9;obtain⟨cJ,cK,rfl,cr,cs⟩:=cj;replace ak:=qj 4 ak;have bs:=ak.ky;refine qi kR Ty.oa bs cb ?_;refine qr (nr 0 Ty.N6 rfl bs) ?_;refine qr (la 0 Ty.pL rfl (ak.mono d.agree) (by first|omega|rfl) rfl) ?_;refine qf Ty.N9 ?_;refine qb 0 Ty.DM d ?_;refine qc ?_;obtain⟨cc,cA⟩:=iD bz;obtain⟨da,ck,am⟩:=(f.mono (e.trans M)).el cA;obtain⟨rfl,bW⟩:=ck;replace am:=qj 37 am;have bt:=am.ky;refine qi Dj Ty.QA bt cc ?_;refine qr (nr 34 Ty.N2 rfl bt) ?_;refine qr (la 34 Ty.pL rfl (am.mono d.agree) (by first|omega|rfl) rfl) ?_;refine qr (iB rfl rfl nQ) ?_;refine qc ?_;refine kC 131 h ?_;refine je ?_;refine je ?_;refine je ?_;refine je ?_;refine qc ?_;refine ku ?_;exact lW _ ⟨rfl,p,(gL.le.refl _),d⟩ ⟨rfl,rfl,rfl,rfl,(lZ rfl (by first|rfl|(rw[h];first|done|rfl)|simp[h])),trivial⟩
        rintro E dN ⟨rfl,aD,d5,bj⟩;refine nN ?_;refine qy H (λbO H=>?_) (λbO H=>?_)
        ·exact rz H bj
        ·refine ax ?_;exact nm H (jj bj)
       ·refine ax ?_;exact nj ⟨H,jj d⟩
     ·refine ax ?_;exact nj ⟨H,jj k⟩
   ·rintro E w8 ⟨H,F8,rfl,dA,bH⟩;refine ax ?_;exact nm H (jj bH)
  ·refine jf _ rfl ?_;exact nj ⟨H,jj (pk [] k)⟩
 ·rintro E w3 ⟨H,F3,rfl,d7,bF⟩;exact rz H bF
def yR(x0:Int)(x1:Int)(x2:Int):Option Bool :=
  some (decide (x1≤x0)&&decide (x0≤x2))
theorem Bf{x0:Int}{x1:Int}{x2:Int}{r:Bool}(hA:Gd F w)(H:yR x0 x1 x2=some r):iN il K 66 [.i .i64 x0,.i .i64 x1,.i .i64 x2] w λv w'=>∃(F':gL),v = .b r∧St [] w F F' [] w':=by
 refine vH Tryz.func66 ?_;have hS:=St.start hA;refine az ?_;exact rz H hS
def Ac.k1:Option Bool :=
  some false
def Ac.l2(x0:List UInt8)(x1:List UInt8)(b:Int→Option Bool):Int→Option Bool
  | a =>
    if decide (a<32)then
      bd (ix x0 a) λx8 =>
      bd (ix x1 a) λx9 =>
      if decide ((x8.toNat:Int)≠(x9.toNat:Int))then
        bd (ix x0 a) λc =>
        bd (ix x1 a) λd =>
        some (decide ((c.toNat:Int)<(d.toNat:Int)))
      else
        b (wr (a+1))
    else
      Ac.k1
def Ac(x0:List UInt8)(x1:List UInt8):Option Bool :=
  loop (Ac.l2 x0 x1) 0
theorem Tv{x0:List UInt8}{x1:List UInt8}{r:Bool}(hA:Gd F w)(c:x0.length=32)(d:x1.length=32)(H:Ac x0 x1=some r):iN il K 67 [.agg (iJ x0),.agg (iJ x1)] w λv w'=>∃(F':gL),v = .b r∧St [] w F F' [] w':=by
 refine kB Tryz.func67 ?_;have hS:=St.start hA;refine qs ?_;refine bx (iJ x0) ?_;intro l Z S;refine bx (iJ x1) ?_;intro m w2 e;refine au ?_;refine iL (jO (Ac.k1=some r) [] e []) ?_ ?_
 ·refine ax ?_;refine lj e (λs:Int=>[(2,pl l 0),(3,pl m 0),(5,.i .i64 s)]) H ?_;intro Y U R w4 X a H;refine ay ?_;refine qy H (λx H=>?_) (λx H=>?_)
  ·refine ay ?_;obtain⟨x8,j,x9,k,H⟩:=iG H;refine rn ?_;refine qc ?_;obtain⟨y,D⟩:=iD j;refine qr (kD uZ Ty.pD rfl rfl y (jZ c D)) ?_;obtain⟨_,G⟩:=iD j;refine qr (lN 1 Ty.Aa rfl a rfl (CJ (λq u h=>by simpa using h) c G)) ?_;refine qc ?_;obtain⟨z,I⟩:=iD k;refine qr (kD uZ Ty.pD rfl rfl z (jZ d I)) ?_;obtain⟨_,J⟩:=iD k;refine qr (lN 0 Ty.Aa rfl a rfl (CJ (λq u h=>by simpa using h) d J)) ?_;refine au ?_;refine qy H (λp H=>?_) (λp H=>?_)
   ·refine kr ?_;obtain⟨ai,f,aj,g,H⟩:=iG H;refine rn ?_;refine qc ?_;obtain⟨A,L⟩:=iD f;refine qr (kD uZ Ty.pD rfl rfl A (jZ c L)) ?_;obtain⟨_,M⟩:=iD f;refine qr (lN 1 Ty.Aa rfl a rfl (CJ (λq u h=>by simpa using h) c M)) ?_;refine qc ?_;obtain⟨B,O⟩:=iD g;refine qr (kD uZ Ty.pD rfl rfl B (jZ d O)) ?_;obtain⟨_,P⟩:=iD g;refine qr (lN 0 Ty.Aa rfl a rfl (CJ (λq u h=>by simpa using h) d P)) ?_;exact rz H a
   ·refine ax ?_;exact nm H (jj a)
  ·refine jf _ rfl ?_;exact nj ⟨H,jj (pk [] a)⟩
 ·rintro E w3 ⟨H,Q,rfl,V,n⟩;exact rz H n
def sR.k1:Option Bool :=
  some true
def sR.k3(a:Int)(b:Int→Option Bool):Option Bool :=
  b (wr (a+1))
def sR.l2(x0:ig)(x1:List Loc)(f:Int→Option Bool):Int→Option Bool
  | a =>
    if decide (a<(x1.length:Int))then
      bd (ix x1 a) λx9 =>
      bd (only (!(decide (x9.iQ<0)||decide ((x0.iv.length:Int)≤x9.iQ))) (ix x0.iv x9.iQ) (iz.mk 0 0 0 0)) λb =>
      bd (only (!((decide (x9.iQ<0)||decide ((x0.iv.length:Int)≤x9.iQ))||decide (b.state≠2))) (ix x0.iv x9.iQ) (iz.mk 0 0 0 0)) λh =>
      bd (only (!((decide (x9.iQ<0)||decide ((x0.iv.length:Int)≤x9.iQ))||decide (b.state≠2))) (yR x9.file 1 h.files) false) λd =>
      bd (only (!(((decide (x9.iQ<0)||decide ((x0.iv.length:Int)≤x9.iQ))||decide (b.state≠2))||(!d))) (yR x9.off 0 16777215) false) λe =>
      bd (only (!((((decide (x9.iQ<0)||decide ((x0.iv.length:Int)≤x9.iQ))||decide (b.state≠2))||(!d))||(!e))) (yR x9.len 13 8013) false) λg =>
      if(((((decide (x9.iQ<0)||decide ((x0.iv.length:Int)≤x9.iQ))||decide (b.state≠2))||(!d))||(!e))||(!g))then
        some false
      else
        if decide (0<a)then
          bd (ix x1 (wr (a-1))) λc =>
          if(!(decide (c.iQ<x9.iQ)||(decide (c.iQ=x9.iQ)&&(decide (c.file<x9.file)||(decide (c.file=x9.file)&&decide (c.off<x9.off))))))then
            some false
          else
            sR.k3 a f
        else
          sR.k3 a f
    else
      sR.k1
def sR(x0:ig)(x1:List Loc):Option Bool :=
  if decide (200<(x1.length:Int))then
    some false
  else
    loop (sR.l2 x0 x1) 0
set_option maxHeartbeats 2000000 in
theorem NP{x0:ig}{x1:List Loc}{r:Bool}{m:gE}{n:gE}{p:gE}{q:gE}{c:gE}(hA:Gd F w)(ai:iq ie.t F m x0.ik)(aj:iq Chunk.t F n x0.chunks)(ak:iq iu.t F p x0.im)(a:iq iz.t F q x0.iv)(x:iq Loc.t F c x1)(H:sR x0 x1=some r):iN il K 68 [.agg (ig.cells x0 m n p q),c] w λv w'=>∃(F':gL),v = .b r∧St [] w F F' [] w':=by
 refine kB Tryz.func68 ?_;have hS:=St.start hA;refine qs ?_;refine bx ([.i .i64 x0.seq,m,n,p,q]) ?_;intro u w1 e;refine ay ?_;refine qy H (λL H=>?_) (λL H=>?_)
 ·exact rz H e
 ·refine qk ?_;refine iL (jO (sR.k1=some r) [] e []) ?_ ?_
  ·refine ax ?_;refine lj e (λs:Int=>[(1,c),(2,pl u 0),(5,.i .i64 s)]) H ?_;intro X B Z w4 D z H;refine ay ?_;refine qy H (λM H=>?_) (λM H=>?_)
   ·refine qk ?_;refine iL (jN (sR.k3 B X=some r) [(1,c),(2,pl u 0),(5,.i .i64 B)] z) ?_ ?_
    ·obtain⟨x9,V,H⟩:=iy H;obtain⟨_,rfl,a4⟩:=js 4 (x.mono D) V;refine ax ?_;refine al ?_;intro ae aH am;refine sb 0 ([.i .i64 x9.iQ,.i .i64 x9.file,.i .i64 x9.off,.i .i64 x9.len]) ?_;intro aJ f;refine ay ?_;obtain⟨ba,k,bb,l,H⟩:=iG H;obtain⟨a8,Q,a9,R,H⟩:=iG H;obtain⟨aC,S,H⟩:=iy H;refine rf f ?_;refine aw ?_;refine ge (mo a) k ?_;refine ge (mo a) k ?_;refine ge (mo a) k ?_;refine aw ?_;refine ge (mo a) l ?_;refine ge (mo a) l ?_;refine ge (mo a) l ?_;refine gw f Q (λy=>Bf f.iH y) ?_;intro aR g;refine qw g ?_;refine aw ?_;refine gw g R (λy=>Bf g.iH y) ?_;intro aT h;refine qw h ?_;refine aw ?_;refine gw h S (λy=>Bf h.iH y) ?_;intro aU j;refine qw j ?_;refine aw ?_;refine qy H (λO H=>?_) (λO H=>?_)
     ·exact rz H j
     ·refine ax ?_;refine qy H (λP H=>?_) (λP H=>?_)
      ·obtain⟨d,U,H⟩:=iy H;obtain⟨_,rfl,a5⟩:=js 4 (x.mono D) U;refine aq ?_;refine al ?_;intro ah aX ar;refine sb 0 ([.i .i64 d.iQ,.i .i64 d.file,.i .i64 d.off,.i .i64 d.len]) ?_;intro aY A;refine az ?_;refine qy H (λJ H=>?_) (λJ H=>?_)
       ·exact rz H A
       ·refine ax ?_;exact nj ⟨H,jj (pk [2] A)⟩
      ·refine ax ?_;exact nj ⟨H,jj (pk [1] j)⟩
    ·rintro E w8 ⟨H,F8,rfl,a7,I⟩;refine ax ?_;exact nm H (jj I)
   ·refine jf _ rfl ?_;exact nj ⟨H,jj (pk [] z)⟩
  ·rintro E w3 ⟨H,Y,rfl,a6,G⟩;exact rz H G
def x5.k1:Option Bool :=
  some true
def x5.l2(x0:iF)(e:Int→Option Bool):Int→Option Bool
  | b =>
    if decide (b<(x0.parts.length:Int))then
      bd (ix x0.parts b) λa =>
      bd (uD a.path) λc =>
      bd (only ((!(!c))&&decide (0<b)) (ix x0.parts (wr (b-1))) (Part.mk [] 0 [])) λd =>
      if((((((!c)||(decide (0<b)&&(jt a.path d.path||a.path==d.path)))||decide (a.size<0))||decide (200<a.size))||decide (25<(a.ids.length:Int)))||(decide ((a.ids.length:Int)=0) !=decide (a.size=0)))then
        some false
      else
        e (wr (b+1))
    else
      x5.k1
def x5(x0:iF):Option Bool :=
  bd (uD x0.name) λa =>
  if((!a)||decide (6<(x0.parts.length:Int)))then
    some false
  else
    loop (x5.l2 x0) 0
theorem ZT{x0:iF}{r:Bool}{g:gE}(hA:Gd F w)(a:iq Part.t F g x0.parts)(H:x5 x0=some r):iN il K 69 [.agg (iF.cells x0 g)] w λv w'=>∃(F':gL),v = .b r∧St [] w F F' [] w':=by
 refine lg Tryz.func69 ?_;have hS:=St.start hA;refine qs ?_;refine bx ([.s x0.name,g]) ?_;intro k U h;obtain⟨R,y,H⟩:=iy H;refine ay ?_;refine lp (HA h.iH y) h ?_;intro w3 e;refine aw ?_;refine qy H (λu H=>?_) (λu H=>?_)
 ·exact rz H e
 ·refine qk ?_;refine iL (jO (x5.k1=some r) [] e []) ?_ ?_
  ·refine ax ?_;refine lj e (λs:Int=>[(1,pl k 0),(3,.i .i64 s)]) H ?_;intro S O D V A l H;refine ay ?_;refine qy H (λp H=>?_) (λp H=>?_)
   ·obtain⟨c,z,H⟩:=iy H;obtain⟨_,⟨B,rfl,M⟩,L⟩:=js 3 (a.mono A) z;refine ay ?_;refine al ?_;intro I X J;refine sb 0 ([.s c.path,.i .i64 c.size,B]) ?_;intro Y d;refine ay ?_;obtain⟨Q,x,ah,f,H⟩:=iG H;refine rf d ?_;refine au ?_;refine lq (HA d.iH x) d ?_;intro Z j;refine aw ?_;refine oU (mo a) f ?_;refine oU (mo a) f ?_;refine oU (mo a) f ?_;refine aw ?_;refine nO (v:=.b (decide ((c.ids.length:Int)=0) !=decide (c.size=0))) rfl rfl rfl rfl (λ⟨n,_⟩=>?_) ?_
    ·rw[n];exact(qr (iB rfl rfl (YC Tryz.underlying4)) ·)
    refine aw ?_;refine qy H (λq H=>?_) (λq H=>?_)
    ·exact rz H j
    ·refine ax ?_;exact nm H (jj (pk [1] j))
   ·refine jf _ rfl ?_;exact nj ⟨H,jj (pk [] l)⟩
  ·rintro E w9 ⟨H,G,rfl,P,m⟩;exact rz H m
def wa.k1:Option Int :=
  some (-1)
def wa.l2(x0:ig)(x1:List UInt8)(b:Int→Option Int):Int→Option Int
  | a =>
    if decide (a<(x0.ik.length:Int))then
      bd (ix x0.ik a) λx7 =>
      if(x7.iw.name==x1)then
        some a
      else
        b (wr (a+1))
    else
      wa.k1
def wa(x0:ig)(x1:List UInt8):Option Int :=
  loop (wa.l2 x0 x1) 0
theorem Kt{x0:ig}{x1:List UInt8}{r:Int}{b:gE}{c:gE}{d:gE}{e:gE}(hA:Gd F w)(h:iq ie.t F b x0.ik)(u:iq Chunk.t F c x0.chunks)(x:iq iu.t F d x0.im)(y:iq iz.t F e x0.iv)(H:wa x0 x1=some r):iN il K 30 [.agg (ig.cells x0 b c d e),.s x1] w λv w'=>∃(F':gL),v = .i .i64 r∧St [] w F F' [] w':=by
 refine kB Tryz.func30 ?_;have hS:=St.start hA;refine qs ?_;refine bx ([.i .i64 x0.seq,b,c,d,e]) ?_;intro g L f;refine au ?_;refine iL (jO (wa.k1=some r) [] f []) ?_ ?_
 ·refine ax ?_;refine lj f (λs:Int=>[(1,.s x1),(2,pl g 0),(5,.i .i64 s)]) H ?_;intro G B q O n a H;refine ay ?_;refine qy H (λl H=>?_) (λl H=>?_)
  ·obtain⟨x7,m,H⟩:=iy H;obtain⟨_,⟨I,J,rfl,z,A⟩,_⟩:=js 4 (h.mono n) m;refine ay ?_;refine qy H (λk H=>?_) (λk H=>?_)
   ·exact rz H a
   ·refine ax ?_;exact nm H (jj a)
  ·refine jf _ rfl ?_;exact nj ⟨H,jj (pk [] a)⟩
 ·rintro E M ⟨H,p,rfl,D,j⟩;exact rz H j
end
end Go.Wk.Lf
end
