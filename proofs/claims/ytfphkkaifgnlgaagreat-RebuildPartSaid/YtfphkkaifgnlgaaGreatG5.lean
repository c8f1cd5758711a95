/-  -/
import Derived.Test.YtfphkkaifgnlgaaGreatG4
set_option linter.unusedVariables false
set_option linter.unusedSimpArgs false
section
namespace Go.Wk.Lf
open Go.V Go.Proofs
noncomputable section
set_option maxRecDepth 100000
variable {K:Tb} {F:Frz} {w:Hp}
def zar.k1 (x0:List UInt8) (l17:List (List UInt8)) (l20:List Part):Option (Manifest × (List (List UInt8)) × Int) :=
  some ((Manifest.mk x0 l20),l17,0)
def zar.k3 (a:Int) (e:((List (List UInt8)) × (List (List UInt8)) × Int × (List Part))→Option (Manifest × (List (List UInt8)) × Int)) (b:List (List UInt8)) (c:List (List UInt8)) (d:List Part):Option (Manifest × (List (List UInt8)) × Int) :=
  e (b,c,wr (a+1),d)
def zar.k4 (b:Int) (c:List Part) (h:((List (List UInt8)) × (List (List UInt8)) × Int × (List Part))→Option (Manifest × (List (List UInt8)) × Int)) (a:File) (d:List (List UInt8)) (e:List (List UInt8)) (f:List (List UInt8)):Option (Manifest × (List (List UInt8)) × Int) :=
  bd (app (α:=Part) c [(Part.mk a.path (a.data.length:Int) f)]) fun g =>
  zar.k3 b h d e g
def zar.k6 (a:Int) (f:((List (List UInt8)) × (List (List UInt8)) × (List (List UInt8)) × Int × (List (List UInt8)))→Option (Manifest × (List (List UInt8)) × Int)) (d:List (List UInt8)) (e:(List (List UInt8)) × Int × Bool) (b:List (List UInt8)) (c:List (List UInt8)):Option (Manifest × (List (List UInt8)) × Int) :=
  f (e.1,b,c,wr (a+1),d)
def zar.l5 (j:Int) (q:List Part) (r:((List (List UInt8)) × (List (List UInt8)) × Int × (List Part))→Option (Manifest × (List (List UInt8)) × Int)) (u:File) (i:((List (List UInt8)) × (List (List UInt8)) × (List (List UInt8)) × Int × (List (List UInt8)))→Option (Manifest × (List (List UInt8)) × Int)):((List (List UInt8)) × (List (List UInt8)) × (List (List UInt8)) × Int × (List (List UInt8)))→Option (Manifest × (List (List UInt8)) × Int)
  | (e,b,c,a,f) =>
    if decide (a < (c.length:Int)) then
      bd (ix c a) fun v =>
      bd (zad v) fun h =>
      bd (app (α:=(List UInt8)) f [h]) fun g =>
      bd (zct e h) fun d =>
      if d.2.2 then
        bd (cut (α:=(List UInt8)) b 0 d.2.1) fun k =>
        bd (ix c a) fun s =>
        bd (app (α:=(List UInt8)) [] k) fun l =>
        bd (app (α:=(List UInt8)) l [s]) fun m =>
        bd (cut (α:=(List UInt8)) b d.2.1 (b.length:Int)) fun n =>
        bd (app (α:=(List UInt8)) m n) fun p =>
        zar.k6 a i g d p c
      else
        zar.k6 a i g d b c
    else
      zar.k4 j q r u e b f
def zar.l2 (x0:List UInt8) (x1:List File) (f:((List (List UInt8)) × (List (List UInt8)) × Int × (List Part))→Option (Manifest × (List (List UInt8)) × Int)):((List (List UInt8)) × (List (List UInt8)) × Int × (List Part))→Option (Manifest × (List (List UInt8)) × Int)
  | (d,b,a,c) =>
    if decide (a < (x1.length:Int)) then
      bd (ix x1 a) fun g =>
      bd (ix x1 a) fun h =>
      bd (zdf h.data) fun e =>
      loop (zar.l5 a c f g) (d,b,e,0,[])
    else
      zar.k1 x0 b c
def zar (x0:List UInt8) (x1:List File):Option (Manifest × (List (List UInt8)) × Int) :=
  bd (zby x0) fun b =>
  if (!b) then
    some ((Manifest.mk [] []),[],1)
  else
    bd (zcu x1) fun a =>
    if decide (a≠0) then
      some ((Manifest.mk [] []),[],a)
    else
      loop (zar.l2 x0 x1) ([],[],0,[])
set_option maxHeartbeats 2000000 in
theorem zmy {x0:List UInt8} {x1:List File} {r:Manifest × (List (List UInt8)) × Int} {e:Val} (hA:Gd F w) (h1:SlF File.t F e x1) (H:zar x0 x1=some r):Ret Tryz.prog K 41 [.s x0,e] w fun v w'=>∃ (F':Frz) (bm:Val) (q1:Val),v = .tup [.agg (Manifest.cells r.1 bm),q1,.i .i64 r.2.2]∧SlF Part.t F' bm (r.1.parts)∧St [] w F F' [.row (tSl tB) q1 (r.2.1)] w':=by
 refine qa2 Tryz.func41 ?_;have hS:=St.start hA;refine qs ?_;refine al ?_;intro b w1 aD;obtain ⟨r2,bQ,H⟩:=zaj H;refine ay ?_;refine lp (zez aD.good bQ) aD ?_;intro w3 aP;refine au ?_;refine qy H (fun bD H=>?_) (fun bD H=>?_)
 ·refine qs ?_;refine W_c (v:=.agg (Manifest.cells (Manifest.mk [] []) (.sl none 0 (.k 0)))) rfl rfl rfl rfl (fun _=>rfl) ?_;refine sb 0 ([.s [],.sl none 0 (.k 0)]) ?_;intro w5 b4;refine au ?_;have aU:=b4.nilRow (tSl tB);obtain rfl:=oi H;refine zgb (vs:=[.agg (Manifest.cells (Manifest.mk [] []) (.sl none 0 (.k 0))),(.sl none 0 (.k 0)),.i .i64 1]) rfl ⟨(zeo 1 Ty.zoy Ty.zjk aU rfl rfl),rfl,rfl,trivial⟩ ?_;exact ⟨F,.sl none 0 (.k 0),(.sl none 0 (.k 0)),rfl,(SlF.nil _),aU.pick [0] (by decide)⟩
 ·obtain ⟨r8,bS,H⟩:=zaj H;refine ay ?_;refine lp (zny aP.good h1 bS) aP ?_;intro w9 c2;refine ax ?_;refine qy H (fun bA H=>?_) (fun bA H=>?_)
  ·refine qs ?_;refine W_c (v:=.agg (Manifest.cells (Manifest.mk [] []) (.sl none 0 (.k 0)))) rfl rfl rfl rfl (fun _=>rfl) ?_;refine qc ?_;refine sb 0 ([.s [],.sl none 0 (.k 0)]) ?_;intro dd bu;refine au ?_;have aK:=bu.nilRow (tSl tB);obtain rfl:=oi H;refine zgb (vs:=[.agg (Manifest.cells (Manifest.mk [] []) (.sl none 0 (.k 0))),(.sl none 0 (.k 0)),.i .i64 r8]) rfl ⟨(zeo 1 Ty.zoy Ty.zjk aK rfl rfl),rfl,rfl,trivial⟩ ?_;exact ⟨F,.sl none 0 (.k 0),(.sl none 0 (.k 0)),rfl,(SlF.nil _),aK.pick [0] (by decide)⟩
  ·refine ax ?_;refine W_c (v:=.agg (Manifest.cells (Manifest.mk x0 []) (.sl none 0 (.k 0)))) rfl rfl rfl rfl (fun _=>rfl) ?_;refine al ?_;intro c di cy;refine sb 0 ([.s x0,.sl none 0 (.k 0)]) ?_;intro dj ak;refine qn ?_;refine aq ?_;refine aq ?_;refine zac (fun E wq=>∃ l17:List (List UInt8),∃ l20:List Part,zar.k1 x0 l17 l20=some r ∧ ∃ (ae:Frz) (q:Val) (h:Val),E=[(4,pl b 0),(8,pl c 0),(10,q)]∧F.le ae∧Also ak [.box c [.s x0,h],.box b [.s [],.sl none 0 (.k 0)],.row (tSl tB) q l17,.row Part.t h l20] ae wq) ?_ ?_
   ·refine ax ?_;refine zbo (fun (s:(List (List UInt8)) × (List (List UInt8)) × Int × (List Part)) E wq=>∃ (j:Frz) (Q:Val) (u:Val) (d:Val),E=[(1,e),(4,pl b 0),(8,pl c 0),(9,Q),(10,u),(11,.i .i64 s.2.2.1)]∧F.le j∧SlF tId j Q s.1∧Also ak [.box c [.s x0,d],.box b [.s [],.sl none 0 (.k 0)],.row (tSl tB) u s.2.1,.row Part.t d s.2.2.2] j wq) H ?_ ?_
    ·have b0:=ak.nilRow (tSl tB);have b1:=b0.nilRow Part.t;exact lo ⟨F,.sl none 0 (.k 0),(.sl none 0 (.k 0)),(.sl none 0 (.k 0)),rfl,(Frz.le.refl _),(SlF.nil _),b1.pick [2,3,1,0] (by decide)⟩
    ·rintro bo ⟨cE,ch,g,n⟩ E dm hI H
     try dsimp only at hI
     obtain ⟨j,Q,u,d,rfl,bl,ca,am⟩:=hI;refine ay ?_;refine qy H (fun bC H=>?_) (fun bC H=>?_)
     ·refine qk ?_;refine zac (fun E wq=>∃ a2:List (List UInt8),∃ a3:List (List UInt8),∃ a4:List Part,zar.k3 g bo a2 a3 a4=some r ∧ ∃ (B:Frz) (R:Val) (S:Val) (U:Val),E=[(1,e),(4,pl b 0),(8,pl c 0),(9,R),(10,S),(11,.i .i64 g)]∧j.le B∧SlF tId B R a2∧Also am [.box c [.s x0,U],.box b [.s [],.sl none 0 (.k 0)],.row (tSl tB) S a3,.row Part.t U a4] B wq) ?_ ?_
      ·refine ay ?_;obtain ⟨a,cc,H⟩:=zaj H;refine rf am ?_;obtain ⟨_,⟨cS,rfl,c6⟩,c5⟩:=elx 2 (h1.mono bl) cc;refine au ?_;refine W_c (v:=.agg (Part.cells (Part.mk a.path (a.data.length:Int) []) (.sl none 0 (.k 0)))) rfl rfl rfl rfl (fun _=>rfl) ?_;refine aM ?_;intro f ds c0;refine sB 0 ([.s a.path,.i .i64 (a.data.length:Int),.sl none 0 (.k 0)]) ?_;intro dt aR;obtain ⟨d7,cd,cO,bR,H⟩:=bd2 H;obtain ⟨_,⟨cT,rfl,bU⟩,_⟩:=elx 2 (h1.mono bl) cd;refine ax ?_;refine lm (zov aR.good bU bR) ?_;rintro cq du ⟨aC,_,rfl,ba⟩;have ap:=aR.call ba;have cm:=ba.ext;refine au ?_;refine zac (fun E wq=>∃ J:List (List UInt8),∃ L:List (List UInt8),∃ p:List (List UInt8),zar.k4 g n bo a J L p=some r ∧ ∃ (D:Frz) (V:Val) (X:Val) (x:Val),E=[(1,e),(4,pl b 0),(8,pl c 0),(9,V),(10,X),(11,.i .i64 g),(12,pl f 0)]∧aC.le D∧SlF tId D V J∧Also ap [.box f [.s a.path,.i .i64 (a.data.length:Int),x],.box c [.s x0,d],.box b [.s [],.sl none 0 (.k 0)],.row Part.t d n,.row (tSl tB) X L,.row tId x p] D wq) ?_ ?_
       ·refine ax ?_;refine zbo (fun (s:(List (List UInt8)) × (List (List UInt8)) × (List (List UInt8)) × Int × (List (List UInt8))) E wq=>∃ (l:Frz) (Y:Val) (y:Val) (z:Val) (Z:Val),E=[(1,e),(4,pl b 0),(8,pl c 0),(9,Y),(10,y),(11,.i .i64 g),(12,pl f 0),(13,z),(14,.i .i64 s.2.2.2.1)]∧aC.le l∧SlF tId l Y s.1∧SlF (tSl tB) l z s.2.2.1∧Also ap [.box f [.s a.path,.i .i64 (a.data.length:Int),Z],.box c [.s x0,d],.box b [.s [],.sl none 0 (.k 0)],.row Part.t d n,.row (tSl tB) y s.2.1,.row tId Z s.2.2.2.2] l wq) H ?_ ?_
        ·obtain ⟨br,bk,bF,bw⟩:=ap.freezeR 0 [1,2,3,4,5] rfl (by decide) (by decide);have bz:=bw.nilRow tId;exact lo ⟨br,Q,u,cq,(.sl none 0 (.k 0)),rfl,bk,(ca.mono (cm.trans bk)),bF,bz.pick [1,2,3,5,4,0] (by decide)⟩
        ·rintro co ⟨cj,a5,bi,bh,ck⟩ E dz hI H
         try dsimp only at hI
         obtain ⟨l,Y,y,z,Z,rfl,cK,bg,I,ar⟩:=hI;refine ay ?_;refine qy H (fun bE H=>?_) (fun bE H=>?_)
         ·obtain ⟨d8,cf,a8,bT,H⟩:=bd2 H;obtain ⟨_,⟨cU,rfl,bV⟩,_⟩:=elx 1 I cf;refine ay ?_;refine lm (zkk ar.good bV bT) ?_;rintro cZ d2 ⟨cw,rfl,be,bb⟩;have b8:=ar.call bb;have M:=bb.ext;refine xm (zis (cs:=zam (List.replicate 32 (0:UInt8))) Ty.zsc rfl b8) ?_;rintro _ d1 ⟨cx,rfl,c3⟩;refine sb 0 (zam a8) ?_;intro d3 b9;obtain ⟨bj,bO,H⟩:=zaj H;refine ax ?_;refine xm (E_bs (t:=tId) (vs:=[.agg (zam a8)]) (xs:=[a8]) Tryz.underlying118 Ty.zwx rfl ⟨⟨rfl,be⟩,trivial⟩ rfl rfl b9) ?_;rintro cR d4 aV;refine xm (zep (t:=tId) 7 Tryz.underlying118 Ty.zwx Ty.zk118 rfl rfl aV rfl (aV.rowSrc (k:=0) rfl) bO) ?_;rintro ad d5 c4;refine au ?_;refine sc 2 ([.s a.path,.i .i64 (a.data.length:Int),ad]) ?_;intro d6 aX;obtain ⟨a7,bP,H⟩:=zaj H;refine ax ?_;refine lm (zjs aX.good (bg.mono M) be bP) ?_;rintro cV db ⟨a9,bp,rfl,bI,aY⟩;have m:=aX.call aY;have a6:=aY.ext;refine au ?_;refine zac (fun E wq=>∃ a0:List (List UInt8),∃ a1:List (List UInt8),zar.k6 bh co bj a7 a0 a1=some r ∧ ∃ (A:Frz) (O:Val) (P:Val),E=[(1,e),(4,pl b 0),(8,pl c 0),(10,O),(11,.i .i64 g),(12,pl f 0),(13,P),(14,.i .i64 bh),(16,bp)]∧a9.le A∧SlF (tSl tB) A P a1∧Also m [.box f [.s a.path,.i .i64 (a.data.length:Int),ad],.box c [.s x0,d],.box b [.s [],.sl none 0 (.k 0)],.row Part.t d n,.row tId ad bj,.row (tSl tB) O a0] A wq) ?_ ?_
          ·refine aq ?_;refine qy H (fun bB H=>?_) (fun bB H=>?_)
           ·refine ay ?_;obtain ⟨c9,bc,ct,bZ,H⟩:=bd2 H;obtain ⟨cA,bJ,cC,bK,H⟩:=bd2 H;refine zbw (G:=a9) [0,1,2,3,5,6,7,8,9,4,10,11] rfl Ty.mixed (by kernel_rfl) m.agree ?_;refine au ?_;refine zlb 6 0 a7.2.1 rfl rfl rfl rfl Tryz.underlying95 Ty.ztp rfl (.inl ⟨rfl,rfl⟩) (.inr ⟨_,_,rfl,rfl⟩) m rfl bc ?_;intro cL c7 bX;obtain ⟨_,⟨cp,rfl,bf⟩,_⟩:=elx 1 (I.mono (M.trans a6)) bZ;refine au ?_;refine qx (E_bs (t:=(tSl tB)) (vs:=[cp]) (xs:=[ct]) Tryz.underlying95 Ty.row47 rfl (by simp only [List.map_cons,List.map_nil,bf.ln.cells];exact ⟨⟨_,rfl,bf⟩,trivial⟩) rfl rfl m) ?_;rintro cP de aH;refine qw aH ?_;have aJ:=aH.nilRow (tSl tB);refine qx (zep (t:=(tSl tB)) 0 Tryz.underlying95 Ty.row47 Ty.zk95 rfl rfl aJ rfl ((aJ.rowSrc (k:=8) rfl).piece bX bc) bJ) ?_;rintro cX df ai;refine qw ai ?_;refine qx (zep (t:=(tSl tB)) 0 Tryz.underlying95 Ty.row47 Ty.zk95 rfl rfl ai rfl (ai.rowSrc (k:=1) rfl) bK) ?_;rintro cY dg aj;refine qw aj ?_;obtain ⟨cD,bL,cg,bM,H⟩:=bd2 H;refine ax ?_;refine zlb 8 a7.2.1 (a5.length:Int) rfl rfl rfl rfl Tryz.underlying95 Ty.ztp rfl (.inr ⟨_,_,rfl,rfl⟩) (.inl ⟨rfl,rfl⟩) aj rfl bL ?_;intro cM bW c8;refine xm (zep (t:=(tSl tB)) 0 Tryz.underlying95 Ty.row47 Ty.zk95 rfl rfl aj rfl bW bM) ?_;rintro cr dh bv;refine ax ?_;exact nj ⟨cg,bi,H,⟨_,cr,z,rfl,lec,(I.mono (M.trans a6)),pk [4,5,6,7,9,0] bv⟩⟩
           ·refine ziz ?_;exact nj ⟨a5,bi,H,⟨_,y,z,rfl,lec,(I.mono (M.trans a6)),pk [2,3,4,5,7,6] m⟩⟩
          ·rintro E dc ⟨a0,a1,H,A,O,P,rfl,cF,bY,bt⟩;refine ax ?_;exact nm H ⟨_,bp,O,P,ad,rfl,lec,(mo bI),bY,pk [0,1,2,3,5,4] bt⟩
         ·refine zbe _ rfl ?_;exact nj ⟨cj,a5,ck,H,⟨_,Y,y,Z,rfl,lec,bg,ar⟩⟩
       ·rintro E dv ⟨J,L,p,H,D,V,X,x,rfl,cJ,ce,b5⟩;obtain ⟨ci,bN,H⟩:=zaj H;refine ax ?_;obtain ⟨cu,cl,bH,b6⟩:=b5.freezeR 5 [0,1,2,3,4] rfl (by decide) (by decide);refine xm (E_bs (t:=Part.t) (vs:=[.agg (Part.cells (Part.mk a.path (a.data.length:Int) p) x)]) (xs:=[(Part.mk a.path (a.data.length:Int) p)]) Tryz.underlying41 Ty.zvo rfl ⟨⟨x,rfl,bH⟩,trivial⟩ rfl rfl b6) ?_;rintro cQ dw aT;refine xm (zep (t:=Part.t) 4 Tryz.underlying41 Ty.zvo Ty.zk41 rfl rfl aT rfl (aT.rowSrc (k:=0) rfl) bN) ?_;rintro bq dx c1;refine au ?_;refine sc 2 ([.s x0,bq]) ?_;intro dy b7;refine ax ?_;exact nj ⟨J,L,ci,H,⟨_,V,X,bq,rfl,lec,(ce.mono cl),pk [2,3,5,4] b7⟩⟩
      ·rintro E dq ⟨a2,a3,a4,H,B,R,S,U,rfl,cI,cb,b3⟩;refine ax ?_;exact nm H ⟨_,R,S,U,rfl,lec,cb,b3⟩
     ·refine zbe _ rfl ?_;exact nj ⟨ch,n,H,⟨_,u,d,rfl,lec,am⟩⟩
   ·rintro E dk ⟨l17,l20,H,ae,q,h,rfl,cG,cz⟩;refine aq ?_;refine sb 1 ([.s x0,h]) ?_;intro dl b2;refine au ?_;obtain ⟨bs,cH,bG,aO⟩:=b2.freezeR 3 [0,1,2] rfl (by decide) (by decide);obtain rfl:=oi H;refine zgb (vs:=[.agg (Manifest.cells (Manifest.mk x0 l20) h),q,.i .i64 0]) rfl ⟨(zeo 1 Ty.zoy Ty.zjk aO rfl rfl),rfl,rfl,trivial⟩ ?_;exact ⟨bs,h,q,rfl,bG,aO.pick [2] (by decide)⟩
def zbs.k1:Option Int :=
  some (-1)
def zbs.l2 (x0:Catalog) (x1:List UInt8) (b:Int→Option Int):Int→Option Int
  | a =>
    if decide (a < (x0.chunks.length:Int)) then
      bd (ix x0.chunks a) fun x8 =>
      if decide (x8.id=x1) then
        some a
      else
        b (wr (a+1))
    else
      zbs.k1
def zbs (x0:Catalog) (x1:List UInt8):Option Int :=
  loop (zbs.l2 x0 x1) 0
theorem zfv {x0:Catalog} {x1:List UInt8} {r:Int} {b:Val} {c:Val} {d:Val} {e:Val} (hA:Gd F w) (A:SlF Snap.t F b x0.snaps) (j:SlF Chunk.t F c x0.chunks) (B:SlF Exp.t F d x0.exps) (D:SlF Vol.t F e x0.vols) (k:x1.length=32) (H:zbs x0 x1=some r):Ret Tryz.prog K 58 [.agg (Catalog.cells x0 b c d e),.agg (zam x1)] w fun v w'=>∃ (F':Frz),v = .i .i64 r∧St [] w F F' [] w':=by
 refine qa2 Tryz.func58 ?_;have hS:=St.start hA;refine qs ?_;refine bx ([.i .i64 x0.seq,b,c,d,e]) ?_;intro g R G;refine bx (zam x1) ?_;intro h S f;refine au ?_;refine zac (jO (zbs.k1=some r) [] f []) ?_ ?_
 ·refine ax ?_;refine lj f (fun s:Int=>[(2,pl g 0),(3,pl h 0),(5,.i .i64 s)]) H ?_;intro O L z V x a H;refine ay ?_;refine qy H (fun n H=>?_) (fun n H=>?_)
  ·refine ay ?_;obtain ⟨x8,u,H⟩:=zaj H;refine rn ?_;obtain ⟨_,⟨P,Q,rfl,q,I,J⟩,p⟩:=elx 35 (j.mono x) u;refine au ?_;refine qr (zoj 0 (zam x8.id) Ty.ziu Ty.zfq rfl (p.mono a.agree) (by first | omega | rfl) rfl (Nat.le_of_ble_eq_true rfl)) ?_;refine au ?_;refine qr (zbc rfl rfl (zuz Ty.eqt58 rfl rfl (zwa q k))) ?_;refine qn ?_;refine qy H (fun m H=>?_) (fun m H=>?_)
   ·exact rz H a
   ·refine ax ?_;exact nm H (jj a)
  ·refine zbe _ rfl ?_;exact nj ⟨H,jj (pk [] a)⟩
 ·rintro E U ⟨H,y,rfl,M,l⟩;exact rz H l
def zae.k2 (a:Int):Option (Change × Bool) :=
  some ((Change.mk 5 (Snap.mk 0 (Manifest.mk [] []) []) [] 0 a []),true)
def zae.k4 (x0:Catalog) (b:Manifest × (List (List UInt8)) × Int) (a:List Chunk):Option (Change × Bool) :=
  some ((Change.mk 1 (Snap.mk x0.seq b.1 []) a 0 0 []),true)
def zae.k6 (a:Int) (c:(Int × (List Chunk))→Option (Change × Bool)) (b:List Chunk):Option (Change × Bool) :=
  c (wr (a+1),b)
def zae.l5 (x0:Catalog) (b:Manifest × (List (List UInt8)) × Int) (e:(Int × (List Chunk))→Option (Change × Bool)):(Int × (List Chunk))→Option (Change × Bool)
  | (a,c) =>
    if decide (a < (b.2.1.length:Int)) then
      bd (ix b.2.1 a) fun h =>
      bd (zad h) fun d =>
      bd (zbs x0 d) fun g =>
      if decide (g < 0) then
        bd (ix b.2.1 a) fun i =>
        bd (app (α:=Chunk) c [(Chunk.mk d true i [])]) fun f =>
        zae.k6 a e f
      else
        zae.k6 a e c
    else
      zae.k4 x0 b c
def zae.k9 (b:Int) (a:List Item):Option (Change × Bool) :=
  some ((Change.mk 3 (Snap.mk 0 (Manifest.mk [] []) []) [] 0 b a),decide (0 < (a.length:Int)))
def zae.k11 (b:Int) (d:((List Item) × Int × Int)→Option (Change × Bool)) (c:List Item) (a:Int):Option (Change × Bool) :=
  d (c,a,wr (b+1))
def zae.k12 (g:List Item) (a:Int) (e:Int) (h:((List Item) × Int × Int)→Option (Change × Bool)) (b:Int) (i:List UInt8) (c:Int) (d:Int):Option (Change × Bool) :=
  bd (app (α:=Item) g [(Item.mk b i c d a 20)]) fun f =>
  zae.k11 e h f (wr (a+20))
def zae.l10 (x0:Catalog) (x1:Cellarerlaw19Act) (f:Int) (d:((List Item) × Int × Int)→Option (Change × Bool)):((List Item) × Int × Int)→Option (Change × Bool)
  | (b,c,a) =>
    if (decide (a < wr (wr ((x0.chunks.length:Int)+(x0.snaps.length:Int))+(x0.exps.length:Int)))&&decide ((b.length:Int) < 64)) then
      bd (only (decide (a < (x1.pick.length:Int))) (ix x1.pick a) false) fun g =>
      if (decide (a < (x1.pick.length:Int))&&(!g)) then
        zae.k11 a d b c
      else
        if decide (a < (x0.chunks.length:Int)) then
          bd (ix x0.chunks a) fun h =>
          zae.k12 b c a d 1 h.id 0 0
        else
          if decide (a < wr ((x0.chunks.length:Int)+(x0.snaps.length:Int))) then
            bd (ix x0.snaps (wr (a - (x0.chunks.length:Int)))) fun i =>
            zae.k12 b c a d 2 (List.replicate 32 (0:UInt8)) i.seq 0
          else
            bd (ix x0.exps (wr (wr (a - (x0.chunks.length:Int)) - (x0.snaps.length:Int)))) fun e =>
            zae.k12 b c a d 3 (List.replicate 32 (0:UInt8)) e.seq e.of
    else
      zae.k9 f b
def zae.k8 (x0:Catalog) (x1:Cellarerlaw19Act) (a:Int) (b:Bool):Option (Change × Bool) :=
  if b then
    loop (zae.l10 x0 x1 a) ([],13,0)
  else
    if decide ((wu x1.do_).tmod 8=6) then
      some ((Change.mk 4 (Snap.mk 0 (Manifest.mk [] []) []) [] 0 a []),true)
    else
      zae.k2 a
def zae.k7 (x0:Catalog) (x1:Cellarerlaw19Act) (a:Int) (c:Bool):Option (Change × Bool) :=
  if c then
    if decide ((x0.snaps.length:Int)=0) then
      some ((Change.mk 0 (Snap.mk 0 (Manifest.mk [] []) []) [] 0 0 []),false)
    else
      bd (rem (wu x1.n) (wu (x0.snaps.length:Int))) fun d =>
      bd (ix x0.snaps (wr d)) fun b =>
      if decide ((wu x1.do_).tmod 8=2) then
        some ((Change.mk 2 (Snap.mk 0 (Manifest.mk [] []) []) [] b.seq 0 []),true)
      else
        some ((Change.mk 3 (Snap.mk 0 (Manifest.mk [] []) []) [] 0 a [(Item.mk 3 (List.replicate 32 (0:UInt8)) x0.seq b.seq 13 17)]),true)
  else
    if decide ((wu x1.do_).tmod 8=3) then
      zae.k8 x0 x1 a (decide ((wu x1.do_).tmod 8=3))
    else
      zae.k8 x0 x1 a (decide ((wu x1.do_).tmod 8=4))
def zae.k3 (x0:Catalog) (x1:Cellarerlaw19Act) (e:List UInt8) (a:Int) (c:Bool):Option (Change × Bool) :=
  if c then
    bd (zaq x1.tree) fun b =>
    if decide (b.2≠0) then
      some ((Change.mk 0 (Snap.mk 0 (Manifest.mk [] []) []) [] 0 0 []),false)
    else
      bd (zar e b.1) fun d =>
      loop (zae.l5 x0 d) (0,[])
  else
    if decide ((wu x1.do_).tmod 8=2) then
      zae.k7 x0 x1 a (decide ((wu x1.do_).tmod 8=2))
    else
      zae.k7 x0 x1 a (decide ((wu x1.do_).tmod 8=5))
def zae.k1 (x0:Catalog) (x1:Cellarerlaw19Act) (b:List UInt8) (a:Int):Option (Change × Bool) :=
  if decide ((wu x1.do_).tmod 8=0) then
    zae.k3 x0 x1 b a (decide ((wu x1.do_).tmod 8=0))
  else
    zae.k3 x0 x1 b a (decide ((wu x1.do_).tmod 8=1))
def zae (x0:Catalog) (x1:Cellarerlaw19Act):Option (Change × Bool) :=
  bd (cat ([110]:List UInt8) [(toB8 (wu (97+(wu x1.n).tmod 5)))]) fun a =>
  if decide (0 < (x0.vols.length:Int)) then
    bd (rem (wu x1.vol) (wu (x0.vols.length:Int))) fun b =>
    zae.k1 x0 x1 a (wr b)
  else
    zae.k1 x0 x1 a 0
set_option maxHeartbeats 2000000 in
theorem zob {x0:Catalog} {x1:Cellarerlaw19Act} {r:Change × Bool} {p:Val} {x:Val} {y:Val} {z:Val} {Q:Val} {R:Val} (hA:Gd F w) (ar:SlF Snap.t F p x0.snaps) (aD:SlF Chunk.t F x x0.chunks) (aH:SlF Exp.t F y x0.exps) (cl:SlF Vol.t F z x0.vols) (cm:SlF File.t F Q x1.tree) (b6:SlF tBool F R x1.pick) (H:zae x0 x1=some r):Ret Tryz.prog K 29 [.agg (Catalog.cells x0 p x y z),.agg (Cellarerlaw19Act.cells x1 Q R)] w fun v w'=>∃ (F':Frz) (bY:Val) (bZ:Val) (ca:Val) (cb:Val),v = .tup [.agg (Change.cells r.1 bY bZ ca cb),.b r.2]∧SlF Part.t F' bY (r.1.snap.man.parts)∧SlF Loc.t F' bZ (r.1.snap.locs)∧SlF Chunk.t F' ca (r.1.chunks)∧SlF Item.t F' cb (r.1.items)∧St [] w F F' [] w':=by
 refine qa2 Tryz.func29 ?_;have hS:=St.start hA;refine qs ?_;refine bx ([.i .i64 x0.seq,p,x,y,z]) ?_;intro e w1 dB;refine bx ([.i .i64 x1.do_,.i .i64 x1.n,.i .i64 x1.vol,Q,R]) ?_;intro j w2 dF;refine al ?_;intro d w3 ct;obtain ⟨s5,dh,H⟩:=zaj H;refine ax ?_;refine qr (zgu Tryz.underlying3 Tryz.underlying26 rfl (rfl)) ?_;refine qr (zbc rfl rfl (by first | rfl | simp [binV,ibin])) ?_;refine qc ?_;refine qr (zgu Tryz.underlying26 Tryz.underlying5 rfl (i8_of _)) ?_;refine xm (E_bs (t:=tB) (vs:=[.i .u8 ((toB8 (wu (97+(wu x1.n).tmod 5))).toNat:Int)]) (xs:=[(toB8 (wu (97+(wu x1.n).tmod 5)))]) Tryz.underlying47 Ty.row5 rfl ⟨rfl,trivial⟩ rfl rfl ct) ?_;rintro u4 w4 aJ;refine qr (O_bstr Tryz.underlying47 Tryz.underlying5 Tryz.underlying9 rfl (aJ.rowNow (k:=0) rfl)) ?_;refine qr (zbc rfl rfl (bS_add dh)) ?_;refine au ?_;refine aq ?_;refine zac (fun E wq=>∃ a:Int,zae.k1 x0 x1 s5 a=some r ∧ ∃ (F6:Frz),E=[(2,pl e 0),(3,pl j 0),(4,pl d 0),(6,.s s5),(7,.i .i64 a)]∧F.le F6∧Also aJ [.box d [.i .i64 0,.i .i64 0,.s [],.sl none 0 (.k 0),.sl none 0 (.k 0),.sl none 0 (.k 0),.i .i64 0,.i .i64 0,.sl none 0 (.k 0)],.box j [.i .i64 x1.do_,.i .i64 x1.n,.i .i64 x1.vol,Q,R],.box e [.i .i64 x0.seq,p,x,y,z]] F6 wq) ?_ ?_
 ·refine aq ?_;refine qy H (fun cG H=>?_) (fun cG H=>?_)
  ·obtain ⟨d5,dq,H⟩:=zaj H;refine ax ?_;refine qr (zgu Tryz.underlying3 Tryz.underlying26 rfl (rfl)) ?_;refine au ?_;refine qr (zgu Tryz.underlying3 Tryz.underlying26 rfl (rfl)) ?_;obtain ⟨dv,dj⟩:=rem_some dq;refine qr (zbc rfl rfl (bI_rem dv dj)) ?_;refine qr (zgu Tryz.underlying26 Tryz.underlying3 rfl (rfl)) ?_;refine ax ?_;exact nj ⟨wr d5,H,jj (pk [1,2,3] aJ)⟩
  ·refine ziz ?_;exact nj ⟨0,H,jj (pk [1,2,3] aJ)⟩
 ·rintro E w6 ⟨a,H,F6,rfl,O,aK⟩;refine zac (jO (zae.k2 a=some r) [(4,pl d 0),(7,.i .i64 a)] aK [.box d [.i .i64 0,.i .i64 0,.s [],.sl none 0 (.k 0),.sl none 0 (.k 0),.sl none 0 (.k 0),.i .i64 0,.i .i64 0,.sl none 0 (.k 0)]]) ?_ ?_
  ·refine aq ?_;refine qr (zgu Tryz.underlying3 Tryz.underlying26 rfl (rfl)) ?_;refine qr (zbc rfl rfl (by first | rfl | simp [binV,ibin])) ?_;refine qn ?_;refine zfa ?_;refine zac (fun E wq=>∃ bp:Bool,zae.k3 x0 x1 s5 a bp=some r ∧ ∃ (a8:Frz),E=[(2,pl e 0),(3,pl j 0),(4,pl d 0),(6,.s s5),(7,.i .i64 a),(47,.i .u64 ((wu x1.do_).tmod 8)),(48,.b bp)]∧F6.le a8∧Same aK a8 wq) ?_ ?_
   ·refine aq ?_;refine qy H (fun cF H=>?_) (fun cF H=>?_)
    ·refine ziz ?_;exact nj ⟨decide ((wu x1.do_).tmod 8=0),H,jj aK⟩
    ·refine ax ?_;exact nj ⟨decide ((wu x1.do_).tmod 8=1),H,jj aK⟩
   ·rintro E ew ⟨bp,H,a8,rfl,M,a0⟩;refine qy H (fun c7 H=>?_) (fun c7 H=>?_)
    ·obtain ⟨ef,dd,H⟩:=zaj H;refine aq ?_;refine lm (znz a0.good (mo cm) dd) ?_;rintro er e4 ⟨cj,eq,rfl,bQ⟩;have cq:=a0.call bQ;have aY:=bQ.ext;refine ay ?_;refine qy H (fun cA H=>?_) (fun cA H=>?_)
     ·refine qs ?_;refine W_c (v:=.agg (Change.cells (Change.mk 0 (Snap.mk 0 (Manifest.mk [] []) []) [] 0 0 []) (.sl none 0 (.k 0)) (.sl none 0 (.k 0)) (.sl none 0 (.k 0)) (.sl none 0 (.k 0)))) rfl rfl rfl rfl (fun _=>rfl) ?_;refine sb 1 ([.i .i64 0,.i .i64 0,.s [],.sl none 0 (.k 0),.sl none 0 (.k 0),.sl none 0 (.k 0),.i .i64 0,.i .i64 0,.sl none 0 (.k 0)]) ?_;intro eC bG;refine au ?_;obtain rfl:=oi H;refine zgb (vs:=[.agg (Change.cells (Change.mk 0 (Snap.mk 0 (Manifest.mk [] []) []) [] 0 0 []) (.sl none 0 (.k 0)) (.sl none 0 (.k 0)) (.sl none 0 (.k 0)) (.sl none 0 (.k 0))),.b false]) rfl ⟨(zeo 1 Ty.zvj Ty.zoz bG rfl rfl),rfl,trivial⟩ ?_;exact ⟨cj,.sl none 0 (.k 0),.sl none 0 (.k 0),.sl none 0 (.k 0),.sl none 0 (.k 0),rfl,(SlF.nil _),(SlF.nil _),(SlF.nil _),(SlF.nil _),bG.pick [] (by decide)⟩
     ·obtain ⟨g,de,H⟩:=zaj H;refine ax ?_;obtain ⟨d6,aU,cU,bH⟩:=cq.freezeR 0 [1,2,3] rfl (by decide) (by decide);refine lm (zmy bH.good cU de) ?_;rintro et eF ⟨bo,l,bh,rfl,bu,bR⟩;have dG:=bH.call bR;have ba:=bR.ext;refine au ?_;refine al ?_;intro d8 eD dE;refine sb 0 ([.s g.1.name,l]) ?_;intro eG dH;refine ax ?_;have cN:=bu.ln.cells;refine qr (zlm (vs:=[(0,.i .i64 x0.seq),(1,.agg (Manifest.cells g.1 l))]) (v:=.agg (Snap.cells (Snap.mk x0.seq g.1 []) l (.sl none 0 (.k 0)))) Ty.bld46 rfl (by simp only [zkr,cN];rfl)) ?_;have cO:=bu.ln.cells;refine qr (zlm (vs:=[(0,.i .i64 1),(1,.agg (Snap.cells (Snap.mk x0.seq g.1 []) l (.sl none 0 (.k 0))))]) (v:=.agg (Change.cells (Change.mk 1 (Snap.mk x0.seq g.1 []) [] 0 0 []) l (.sl none 0 (.k 0)) (.sl none 0 (.k 0)) (.sl none 0 (.k 0)))) Ty.bld79 rfl (by simp only [zkr,cO];rfl)) ?_;refine al ?_;intro ad eH dI;refine sb 0 ([.i .i64 1,.i .i64 x0.seq,.s g.1.name,l,.sl none 0 (.k 0),.sl none 0 (.k 0),.i .i64 0,.i .i64 0,.sl none 0 (.k 0)]) ?_;intro eI bs;refine qn ?_;refine zac (fun E wq=>∃ aT:List Chunk,zae.k4 x0 g aT=some r ∧ ∃ (bl:Frz) (ap:Val),E=[(4,pl d 0),(13,pl ad 0)]∧bo.le bl∧Also bs [.box ad [.i .i64 1,.i .i64 x0.seq,.s g.1.name,l,.sl none 0 (.k 0),ap,.i .i64 0,.i .i64 0,.sl none 0 (.k 0)],.box d [.i .i64 0,.i .i64 0,.s [],.sl none 0 (.k 0),.sl none 0 (.k 0),.sl none 0 (.k 0),.i .i64 0,.i .i64 0,.sl none 0 (.k 0)],.row Chunk.t ap aT] bl wq) ?_ ?_
      ·refine ax ?_;refine zbo (fun (s:Int × (List Chunk)) E wq=>∃ (a9:Frz) (a6:Val),E=[(2,pl e 0),(4,pl d 0),(11,bh),(13,pl ad 0),(14,.i .i64 s.1)]∧bo.le a9∧Also bs [.box ad [.i .i64 1,.i .i64 x0.seq,.s g.1.name,l,.sl none 0 (.k 0),a6,.i .i64 0,.i .i64 0,.sl none 0 (.k 0)],.row (tSl tB) bh g.2.1,.box d [.i .i64 0,.i .i64 0,.s [],.sl none 0 (.k 0),.sl none 0 (.k 0),.sl none 0 (.k 0),.i .i64 0,.i .i64 0,.sl none 0 (.k 0)],.box e [.i .i64 x0.seq,p,x,y,z],.row Chunk.t a6 s.2] a9 wq) H ?_ ?_
       ·have c0:=bs.nilRow Chunk.t;exact lo ⟨bo,(.sl none 0 (.k 0)),rfl,(Frz.le.refl _),c0.pick [1,3,4,6,0] (by decide)⟩
       ·rintro dz ⟨bW,bX⟩ E eM hI H
        try dsimp only at hI
        obtain ⟨a9,a6,rfl,aV,ah⟩:=hI;refine ay ?_;refine qr (zdh Tryz.underlying95 rfl (ah.rowLn (k:=1) rfl)) ?_;refine au ?_;refine qy H (fun cH H=>?_) (fun cH H=>?_)
        ·refine qk ?_;refine zac (fun E wq=>∃ bz:List Chunk,zae.k6 bW dz bz=some r ∧ ∃ (bm:Frz) (bf:Val),E=[(2,pl e 0),(4,pl d 0),(11,bh),(13,pl ad 0),(14,.i .i64 bW)]∧a9.le bm∧Also ah [.box ad [.i .i64 1,.i .i64 x0.seq,.s g.1.name,l,.sl none 0 (.k 0),bf,.i .i64 0,.i .i64 0,.sl none 0 (.k 0)],.row (tSl tB) bh g.2.1,.box d [.i .i64 0,.i .i64 0,.s [],.sl none 0 (.k 0),.sl none 0 (.k 0),.sl none 0 (.k 0),.i .i64 0,.i .i64 0,.sl none 0 (.k 0)],.box e [.i .i64 x0.seq,p,x,y,z],.row Chunk.t bf bz] bm wq) ?_ ?_
         ·obtain ⟨fm,dr,ak,df,H⟩:=bd2 H;obtain ⟨_,⟨ep,rfl,di⟩,_⟩:=elr 1 1 ah dr;refine ax ?_;refine lm (zkk ah.good di df) ?_;rintro eu eQ ⟨d7,rfl,bT,bS⟩;have cx:=ah.call bS;have bb:=bS.ext;refine xm (zis (cs:=zam (List.replicate 32 (0:UInt8))) Ty.zsc rfl cx) ?_;rintro _ eP ⟨d9,rfl,dK⟩;refine sb 0 (zam ak) ?_;intro eR bJ;obtain ⟨eg,dg,H⟩:=zaj H;refine ax ?_;refine lp (zfv bJ.good (ar.mono ((((((O.trans M).trans aY).trans aU).trans ba).trans aV).trans bb)) (aD.mono ((((((O.trans M).trans aY).trans aU).trans ba).trans aV).trans bb)) (aH.mono ((((((O.trans M).trans aY).trans aU).trans ba).trans aV).trans bb)) (cl.mono ((((((O.trans M).trans aY).trans aU).trans ba).trans aV).trans bb)) bT dg) bJ ?_;intro eS a1;refine au ?_;refine qy H (fun cI H=>?_) (fun cI H=>?_)
          ·obtain ⟨b4,ds,dy,db,H⟩:=bd2 H;refine rf a1 ?_;refine au ?_;refine qq (zdx 0 (zam ak) Ty.ziu Ty.zfq (Nat.zero_lt_succ _) rfl a1 rfl (fun q u h=>zdp (post:=[]) rfl h)) ?_;obtain ⟨_,⟨bg,rfl,bU⟩,cT⟩:=elr 1 2 a1 ds;refine au ?_;refine qq (zej 0 Ty.zsl rfl cT (by first | omega | rfl) rfl) ?_;have cP:=bU.ln.cells;refine qr (zlm (vs:=[(0,.agg (zam ak)),(1,.b true),(2,bg)]) (v:=.agg (Chunk.cells (Chunk.mk ak true b4 []) bg (.sl none 0 (.k 0)))) Ty.bld60 rfl (by simp only [zkr,cP];rfl)) ?_;refine qx (E_bs (t:=Chunk.t) (vs:=[.agg (Chunk.cells (Chunk.mk ak true b4 []) bg (.sl none 0 (.k 0)))]) (xs:=[(Chunk.mk ak true b4 [])]) Tryz.underlying35 Ty.znh rfl ⟨⟨bg,.sl none 0 (.k 0),rfl,bT,bU,(SlF.nil _)⟩,trivial⟩ rfl rfl a1) ?_;rintro ej eT bt;refine qw bt ?_;refine qx (zep (t:=Chunk.t) 6 Tryz.underlying35 Ty.znh Ty.zk35 rfl rfl bt rfl (bt.rowSrc (k:=0) rfl) db) ?_;rintro cd eU cy;refine qw cy ?_;refine au ?_;refine sC 2 ([.i .i64 1,.i .i64 x0.seq,.s g.1.name,l,.sl none 0 (.k 0),cd,.i .i64 0,.i .i64 0,.sl none 0 (.k 0)]) ?_;intro eW cz;refine ax ?_;exact nj ⟨dy,H,⟨_,cd,rfl,lec,pk [2,3,4,5,6] cz⟩⟩
          ·refine ax ?_;exact nj ⟨bX,H,⟨_,a6,rfl,lec,pk [1,2,3,4,5] a1⟩⟩
         ·rintro E eN ⟨bz,H,bm,bf,rfl,ea,cw⟩;refine ax ?_;exact nm H ⟨_,bf,rfl,lec,cw⟩
        ·refine zbe _ rfl ?_;exact nj ⟨bX,H,⟨_,a6,rfl,lec,pk [0,2,4] ah⟩⟩
      ·rintro E eJ ⟨aT,H,bl,ap,rfl,dY,dJ⟩;refine aq ?_;refine sb 1 ([.i .i64 1,.i .i64 x0.seq,.s g.1.name,l,.sl none 0 (.k 0),ap,.i .i64 0,.i .i64 0,.sl none 0 (.k 0)]) ?_;intro eL cu;refine au ?_;obtain ⟨cf,dZ,cV,bI⟩:=cu.freezeR 2 [0,1] rfl (by decide) (by decide);obtain rfl:=oi H;refine zgb (vs:=[.agg (Change.cells (Change.mk 1 (Snap.mk x0.seq g.1 []) aT 0 0 []) l (.sl none 0 (.k 0)) ap (.sl none 0 (.k 0))),.b true]) rfl ⟨(zeo 1 Ty.zvj Ty.zoz bI rfl rfl),rfl,trivial⟩ ?_;exact ⟨cf,l,.sl none 0 (.k 0),ap,.sl none 0 (.k 0),rfl,(mo bu),(SlF.nil _),cV,(SlF.nil _),bI.pick [] (by decide)⟩
    ·refine zac (fun E wq=>∃ bq:Bool,zae.k7 x0 x1 a bq=some r ∧ ∃ (Y:Frz),E=[(2,pl e 0),(3,pl j 0),(4,pl d 0),(7,.i .i64 a),(47,.i .u64 ((wu x1.do_).tmod 8)),(99,.b bq)]∧a8.le Y∧Same a0 Y wq) ?_ ?_
     ·refine aq ?_;refine qy H (fun cE H=>?_) (fun cE H=>?_)
      ·refine ziz ?_;exact nj ⟨decide ((wu x1.do_).tmod 8=2),H,jj a0⟩
      ·refine ax ?_;exact nj ⟨decide ((wu x1.do_).tmod 8=5),H,jj a0⟩
     ·rintro E eX ⟨bq,H,Y,rfl,aX,aO⟩;refine qy H (fun cJ H=>?_) (fun cJ H=>?_)
      ·refine ay ?_;refine qy H (fun cK H=>?_) (fun cK H=>?_)
       ·refine qs ?_;refine W_c (v:=.agg (Change.cells (Change.mk 0 (Snap.mk 0 (Manifest.mk [] []) []) [] 0 0 []) (.sl none 0 (.k 0)) (.sl none 0 (.k 0)) (.sl none 0 (.k 0)) (.sl none 0 (.k 0)))) rfl rfl rfl rfl (fun _=>rfl) ?_;refine sb 0 ([.i .i64 0,.i .i64 0,.s [],.sl none 0 (.k 0),.sl none 0 (.k 0),.sl none 0 (.k 0),.i .i64 0,.i .i64 0,.sl none 0 (.k 0)]) ?_;intro eY bK;refine au ?_;obtain rfl:=oi H;refine zgb (vs:=[.agg (Change.cells (Change.mk 0 (Snap.mk 0 (Manifest.mk [] []) []) [] 0 0 []) (.sl none 0 (.k 0)) (.sl none 0 (.k 0)) (.sl none 0 (.k 0)) (.sl none 0 (.k 0))),.b false]) rfl ⟨(zeo 0 Ty.zvj Ty.zoz bK rfl rfl),rfl,trivial⟩ ?_;exact ⟨Y,.sl none 0 (.k 0),.sl none 0 (.k 0),.sl none 0 (.k 0),.sl none 0 (.k 0),rfl,(SlF.nil _),(SlF.nil _),(SlF.nil _),(SlF.nil _),bK.pick [] (by decide)⟩
       ·refine ay ?_;obtain ⟨fn,dt,A,du,H⟩:=bd2 H;refine rf aO ?_;refine au ?_;refine qr (zgu Tryz.underlying3 Tryz.underlying26 rfl (rfl)) ?_;refine au ?_;refine qr (zgu Tryz.underlying3 Tryz.underlying26 rfl (rfl)) ?_;obtain ⟨dw,dk⟩:=rem_some dt;refine qr (zbc rfl rfl (bI_rem dw dk)) ?_;refine qr (zgu Tryz.underlying26 Tryz.underlying3 rfl (rfl)) ?_;obtain ⟨_,⟨d1,d2,rfl,dU,dV⟩,dO⟩:=elx 4 (ar.mono ((O.trans M).trans aX)) du;refine au ?_;refine aM ?_;intro dA eZ dL;refine sB 0 ([.i .i64 A.seq,.s A.man.name,d1,d2]) ?_;intro fa c1;refine ay ?_;refine qr (zgu Tryz.underlying3 Tryz.underlying26 rfl (rfl)) ?_;refine qr (zbc rfl rfl (by first | rfl | simp [binV,ibin])) ?_;refine au ?_;refine qy H (fun cL H=>?_) (fun cL H=>?_)
        ·refine aq ?_;refine W_c (v:=.agg (Change.cells (Change.mk 2 (Snap.mk 0 (Manifest.mk [] []) []) [] A.seq 0 []) (.sl none 0 (.k 0)) (.sl none 0 (.k 0)) (.sl none 0 (.k 0)) (.sl none 0 (.k 0)))) rfl rfl rfl rfl (fun _=>rfl) ?_;refine sb 1 ([.i .i64 2,.i .i64 0,.s [],.sl none 0 (.k 0),.sl none 0 (.k 0),.sl none 0 (.k 0),.i .i64 A.seq,.i .i64 0,.sl none 0 (.k 0)]) ?_;intro fb bL;refine au ?_;obtain rfl:=oi H;refine zgb (vs:=[.agg (Change.cells (Change.mk 2 (Snap.mk 0 (Manifest.mk [] []) []) [] A.seq 0 []) (.sl none 0 (.k 0)) (.sl none 0 (.k 0)) (.sl none 0 (.k 0)) (.sl none 0 (.k 0))),.b true]) rfl ⟨(zeo 1 Ty.zvj Ty.zoz bL rfl rfl),rfl,trivial⟩ ?_;exact ⟨Y,.sl none 0 (.k 0),.sl none 0 (.k 0),.sl none 0 (.k 0),.sl none 0 (.k 0),rfl,(SlF.nil _),(SlF.nil _),(SlF.nil _),(SlF.nil _),bL.pick [] (by decide)⟩
        ·refine ax ?_;refine W_c (v:=.agg (Item.cells (Item.mk 3 (List.replicate 32 (0:UInt8)) x0.seq A.seq 13 17))) rfl rfl rfl rfl (fun _=>rfl) ?_;refine xm (E_bs (t:=Item.t) (vs:=[.agg (Item.cells (Item.mk 3 (List.replicate 32 (0:UInt8)) x0.seq A.seq 13 17))]) (xs:=[(Item.mk 3 (List.replicate 32 (0:UInt8)) x0.seq A.seq 13 17)]) Tryz.underlying77 Ty.row134 rfl ⟨⟨rfl,(List.length_replicate)⟩,trivial⟩ rfl rfl c1) ?_;rintro a7 fc c2;have cQ:=(c2.rowLn (k:=0) rfl).cells;refine qr (zlm (vs:=[(0,.i .i64 3),(4,.i .i64 a),(5,a7)]) (v:=.agg (Change.cells (Change.mk 3 (Snap.mk 0 (Manifest.mk [] []) []) [] 0 a [(Item.mk 3 (List.replicate 32 (0:UInt8)) x0.seq A.seq 13 17)]) (.sl none 0 (.k 0)) (.sl none 0 (.k 0)) (.sl none 0 (.k 0)) a7)) Ty.bld79 rfl (by simp only [zkr,cQ];rfl)) ?_;refine sb 2 ([.i .i64 3,.i .i64 0,.s [],.sl none 0 (.k 0),.sl none 0 (.k 0),.sl none 0 (.k 0),.i .i64 0,.i .i64 a,a7]) ?_;intro fd c3;refine au ?_;obtain ⟨ch,ec,cX,bM⟩:=c3.freezeR 0 [1,2,3,4] rfl (by decide) (by decide);obtain rfl:=oi H;refine zgb (vs:=[.agg (Change.cells (Change.mk 3 (Snap.mk 0 (Manifest.mk [] []) []) [] 0 a [(Item.mk 3 (List.replicate 32 (0:UInt8)) x0.seq A.seq 13 17)]) (.sl none 0 (.k 0)) (.sl none 0 (.k 0)) (.sl none 0 (.k 0)) a7),.b true]) rfl ⟨(zeo 1 Ty.zvj Ty.zoz bM rfl rfl),rfl,trivial⟩ ?_;exact ⟨ch,.sl none 0 (.k 0),.sl none 0 (.k 0),.sl none 0 (.k 0),a7,rfl,(SlF.nil _),(SlF.nil _),(SlF.nil _),cX,bM.pick [] (by decide)⟩
      ·refine zac (fun E wq=>∃ br:Bool,zae.k8 x0 x1 a br=some r ∧ ∃ (S:Frz),E=[(2,pl e 0),(3,pl j 0),(4,pl d 0),(7,.i .i64 a),(47,.i .u64 ((wu x1.do_).tmod 8)),(136,.b br)]∧Y.le S∧Same aO S wq) ?_ ?_
       ·refine aq ?_;refine qy H (fun cD H=>?_) (fun cD H=>?_)
        ·refine ziz ?_;exact nj ⟨decide ((wu x1.do_).tmod 8=3),H,jj aO⟩
        ·refine ax ?_;exact nj ⟨decide ((wu x1.do_).tmod 8=4),H,jj aO⟩
       ·rintro E ff ⟨br,H,S,rfl,b0,aP⟩;refine qy H (fun cM H=>?_) (fun cM H=>?_)
        ·refine aq ?_;refine aq ?_;refine zac (fun E wq=>∃ ai:List Item,zae.k9 a ai=some r ∧ ∃ (bn:Frz) (P:Val),E=[(4,pl d 0),(7,.i .i64 a),(17,P)]∧S.le bn∧Also aP [.box d [.i .i64 0,.i .i64 0,.s [],.sl none 0 (.k 0),.sl none 0 (.k 0),.sl none 0 (.k 0),.i .i64 0,.i .i64 0,.sl none 0 (.k 0)],.row Item.t P ai] bn wq) ?_ ?_
         ·refine ax ?_;refine zbo (fun (s:(List Item) × Int × Int) E wq=>∃ (Z:Frz) (D:Val),E=[(2,pl e 0),(3,pl j 0),(4,pl d 0),(7,.i .i64 a),(17,D),(18,.i .i64 s.2.1),(19,.i .i64 s.2.2)]∧S.le Z∧Also aP [.box d [.i .i64 0,.i .i64 0,.s [],.sl none 0 (.k 0),.sl none 0 (.k 0),.sl none 0 (.k 0),.i .i64 0,.i .i64 0,.sl none 0 (.k 0)],.box j [.i .i64 x1.do_,.i .i64 x1.n,.i .i64 x1.vol,Q,R],.box e [.i .i64 x0.seq,p,x,y,z],.row Item.t D s.1] Z wq) H ?_ ?_
          ·have cr:=aP.nilRow Item.t;exact lo ⟨S,(.sl none 0 (.k 0)),rfl,(Frz.le.refl _),cr.pick [1,2,3,0] (by decide)⟩
          ·rintro cc ⟨aj,f,X⟩ E fj hI H
           try dsimp only at hI
           obtain ⟨Z,D,rfl,b1,B⟩:=hI;refine zfl ?_;refine zfl ?_;refine zja (fun E wq=>E=[(2,pl e 0),(3,pl j 0),(4,pl d 0),(7,.i .i64 a),(17,D),(18,.i .i64 f),(19,.i .i64 X),(156,.b (decide (X < wr (wr ((x0.chunks.length:Int)+(x0.snaps.length:Int))+(x0.exps.length:Int)))&&decide ((aj.length:Int) < 64)))] ∧ ∃ J:Frz,Z.le J∧St [] w F J [.box d [.i .i64 0,.i .i64 0,.s [],.sl none 0 (.k 0),.sl none 0 (.k 0),.sl none 0 (.k 0),.i .i64 0,.i .i64 0,.sl none 0 (.k 0)],.box j [.i .i64 x1.do_,.i .i64 x1.n,.i .i64 x1.vol,Q,R],.box e [.i .i64 x0.seq,p,x,y,z],.row Item.t D aj] wq) ?_ ?_
           ·
            rcases Bool.eq_false_or_eq_true (decide (X < wr (wr ((x0.chunks.length:Int)+(x0.snaps.length:Int))+(x0.exps.length:Int)))) with V | V
            ·refine qd ?_;refine qc ?_;refine qf Ty.zea ?_;refine qb 2 Ty.zft B ?_;refine qr (zdh Tryz.underlying35 rfl aD.ln) ?_;refine qf Ty.zki ?_;refine qb 2 Ty.zoe B ?_;refine qr (zdh Tryz.underlying34 rfl ar.ln) ?_;refine qc ?_;refine qf Ty.zin ?_;refine qb 2 Ty.zkm B ?_;refine qr (zdh Tryz.underlying36 rfl aH.ln) ?_;refine qc ?_;refine qr (zbc rfl rfl ziy) ?_;refine qc ?_;refine qvb 152 V ?_;refine qc ?_;refine qr (zdh Tryz.underlying77 rfl (B.rowLn (k:=3) rfl)) ?_;refine qr (zbc rfl rfl ziy) ?_;refine qc ?_;refine zew ?_;exact zdy _ ⟨rfl,Z,(Frz.le.refl _),B⟩ ⟨rfl,rfl,rfl,rfl,rfl,rfl,rfl,(zbu rfl (by first | rfl | (rw [V];first | done | rfl) | simp [V])),trivial⟩
            ·refine qd ?_;refine qc ?_;refine qf Ty.zea ?_;refine qb 2 Ty.zft B ?_;refine qr (zdh Tryz.underlying35 rfl aD.ln) ?_;refine qf Ty.zki ?_;refine qb 2 Ty.zoe B ?_;refine qr (zdh Tryz.underlying34 rfl ar.ln) ?_;refine qc ?_;refine qf Ty.zin ?_;refine qb 2 Ty.zkm B ?_;refine qr (zdh Tryz.underlying36 rfl aH.ln) ?_;refine qc ?_;refine qr (zbc rfl rfl ziy) ?_;refine qc ?_;refine qvb 152 V ?_;refine qz2 ?_;refine qz ?_;refine qc ?_;refine zew ?_;exact zdy _ ⟨rfl,Z,(Frz.le.refl _),B⟩ ⟨rfl,rfl,rfl,rfl,rfl,rfl,rfl,(zbu rfl (by first | rfl | (rw [V];first | done | rfl) | simp [V])),trivial⟩
           rintro E fk ⟨rfl,J,b2,aR⟩;refine zgl ?_;refine qy H (fun c5 H=>?_) (fun c5 H=>?_)
           ·refine qk ?_;refine zac (fun E wq=>∃ bw:List Item,∃ bv:Int,zae.k11 X cc bw bv=some r ∧ ∃ (bj:Frz) (be:Val),E=[(2,pl e 0),(3,pl j 0),(4,pl d 0),(7,.i .i64 a),(17,be),(18,.i .i64 bv),(19,.i .i64 X)]∧J.le bj∧Also aR [.box d [.i .i64 0,.i .i64 0,.s [],.sl none 0 (.k 0),.sl none 0 (.k 0),.sl none 0 (.k 0),.i .i64 0,.i .i64 0,.sl none 0 (.k 0)],.box j [.i .i64 x1.do_,.i .i64 x1.n,.i .i64 x1.vol,Q,R],.box e [.i .i64 x0.seq,p,x,y,z],.row Item.t be bw] bj wq) ?_ ?_
            ·obtain ⟨fl,bV,H⟩:=zaj H;refine aZ ?_;refine ge (mo b6) bV ?_;refine ge (mo b6) bV ?_;refine aw ?_;refine qy H (fun c6 H=>?_) (fun c6 H=>?_)
             ·refine zbe _ rfl ?_;exact nj ⟨aj,f,H,⟨_,D,rfl,lec,aR⟩⟩
             ·refine ax ?_;refine W_c (v:=.agg (Item.cells (Item.mk 0 (List.replicate 32 (0:UInt8)) 0 0 f 20))) rfl rfl rfl rfl (fun _=>rfl) ?_;refine xm (zis (cs:=([.i .i64 0]:List Val)++zam (List.replicate 32 (0:UInt8))++([.i .i64 0,.i .i64 0,.i .i64 0,.i .i64 0]:List Val)) Ty.zero134 rfl aR) ?_;rintro _ ey ⟨b5,rfl,dC⟩;refine sb 0 (([.i .i64 0]:List Val)++zam (List.replicate 32 (0:UInt8))++([.i .i64 0,.i .i64 0,.i .i64 f,.i .i64 20]:List Val)) ?_;intro ce m;refine qn ?_;refine zac (fun E wq=>∃ a3:Int,∃ am:List UInt8,∃ a4:Int,∃ a5:Int,zae.k12 aj f X cc a3 am a4 a5=some r ∧ ∃ (bk:Frz),E=[(2,pl e 0),(3,pl j 0),(4,pl d 0),(7,.i .i64 a),(17,D),(18,.i .i64 f),(19,.i .i64 X),(20,pl b5 0)]∧J.le bk∧(am).length=32∧Also m [.box b5 (([.i .i64 a3]:List Val)++zam am++([.i .i64 a4,.i .i64 a5,.i .i64 f,.i .i64 20]:List Val)),.box d [.i .i64 0,.i .i64 0,.s [],.sl none 0 (.k 0),.sl none 0 (.k 0),.sl none 0 (.k 0),.i .i64 0,.i .i64 0,.sl none 0 (.k 0)],.box j [.i .i64 x1.do_,.i .i64 x1.n,.i .i64 x1.vol,Q,R],.box e [.i .i64 x0.seq,p,x,y,z],.row Item.t D aj] bk wq) ?_ ?_
              ·refine ax ?_;refine qy H (fun c8 H=>?_) (fun c8 H=>?_)
               ·obtain ⟨bi,dl,H⟩:=zaj H;have a2:=m.boxAt 3 rfl;refine zbw (G:=(J.hold ce [e])) [0,1,2,3,4,5,6,7,8,9] rfl Ty.mixed (by kernel_rfl) (HB.agree (HB.cons 3 a2 m rfl HB.nil) m.agree) ?_;refine au ?_;refine qr (zdo Ty.zft rfl (a2.held (HB.cons 3 a2 m rfl HB.nil) (by simp)) rfl) ?_;obtain ⟨_,⟨ek,em,rfl,dc,dP,dQ⟩,cS⟩:=elx 35 (aD.mono (((((O.trans M).trans aX).trans b0).trans b1).trans b2)) dl;refine au ?_;refine qr (zoj 0 (zam bi.id) Ty.ziu Ty.zfq rfl (cS.mono (Frz.le_hold _ _ _)) (by first | omega | rfl) rfl (Nat.le_of_ble_eq_true rfl)) ?_;refine au ?_;refine qu (zpr (c:=[.i .i64 1]) 0 (([.i .i64 1]:List Val)++zam (List.replicate 32 (0:UInt8))++([.i .i64 0,.i .i64 0,.i .i64 f,.i .i64 20]:List Val)) rfl rfl m rfl rfl Ty.zre rfl rfl rfl) ?_;rintro _ e2 b8;refine qh 3 a2 b8 ?_;refine au ?_;refine qu (zpr (c:=zam bi.id) 0 (([.i .i64 1]:List Val)++zam bi.id++([.i .i64 0,.i .i64 0,.i .i64 f,.i .i64 20]:List Val)) rfl rfl b8 rfl rfl Ty.zfq rfl rfl rfl) ?_;rintro _ e3 b9;refine qh 3 a2 b9 ?_;refine ax ?_;exact nj ⟨1,bi.id,0,0,H,⟨_,rfl,lec,dc,b9⟩⟩
               ·refine aq ?_;refine qy H (fun c9 H=>?_) (fun c9 H=>?_)
                ·obtain ⟨b3,dm,H⟩:=zaj H;have U:=m.boxAt 3 rfl;refine zbw (G:=(J.hold ce [e])) [0,1,2,3,4,5,6,7,8,9,10,11,12,13] rfl Ty.mixed (by kernel_rfl) (HB.agree (HB.cons 3 U m rfl HB.nil) m.agree) ?_;refine au ?_;refine qr (zdo Ty.zoe rfl (U.held (HB.cons 3 U m rfl HB.nil) (by simp)) rfl) ?_;refine au ?_;refine qr (zdo Ty.zft rfl (U.held (HB.cons 3 U m rfl HB.nil) (by simp)) rfl) ?_;obtain ⟨_,⟨en,eo,rfl,dR,dS⟩,_⟩:=elx 4 (ar.mono (((((O.trans M).trans aX).trans b0).trans b1).trans b2)) dm;refine au ?_;refine qu (zpr (c:=[.i .i64 2]) 0 (([.i .i64 2]:List Val)++zam (List.replicate 32 (0:UInt8))++([.i .i64 0,.i .i64 0,.i .i64 f,.i .i64 20]:List Val)) rfl rfl m rfl rfl Ty.zre rfl rfl rfl) ?_;rintro _ e5 bA;refine qh 3 U bA ?_;refine au ?_;refine qu (zpr (c:=[.i .i64 b3.seq]) 0 (([.i .i64 2]:List Val)++zam (List.replicate 32 (0:UInt8))++([.i .i64 b3.seq,.i .i64 0,.i .i64 f,.i .i64 20]:List Val)) rfl rfl bA rfl rfl Ty.zre rfl rfl rfl) ?_;rintro _ e6 bB;refine qh 3 U bB ?_;refine ax ?_;exact nj ⟨2,(List.replicate 32 (0:UInt8)),b3.seq,0,H,⟨_,rfl,lec,(List.length_replicate),bB⟩⟩
                ·obtain ⟨I,dn,H⟩:=zaj H;obtain ⟨_,⟨d0,rfl,dT⟩,dN⟩:=elx 3 (aH.mono (((((O.trans M).trans aX).trans b0).trans b1).trans b2)) dn;refine aq ?_;refine al ?_;intro ck e7 dD;refine sb 0 ([.i .i64 I.seq,.i .i64 I.of,d0]) ?_;intro d4 ae;refine qn ?_;have L:=ae.boxAt 0 rfl;refine zbw (G:=(J.hold d4 [ck])) [0,1,2,3,4,5,6,7,8,9] rfl Ty.mixed (by kernel_rfl) (HB.agree (HB.cons 0 L ae rfl HB.nil) ae.agree) ?_;refine au ?_;refine qr (zdo Ty.zjg rfl (L.held (HB.cons 0 L ae rfl HB.nil) (by simp)) rfl) ?_;refine au ?_;refine qr (zdo Ty.zjg rfl (L.held (HB.cons 0 L ae rfl HB.nil) (by simp)) rfl) ?_;refine au ?_;refine qu (zpr (c:=[.i .i64 3]) 1 (([.i .i64 3]:List Val)++zam (List.replicate 32 (0:UInt8))++([.i .i64 0,.i .i64 0,.i .i64 f,.i .i64 20]:List Val)) rfl rfl ae rfl rfl Ty.zre rfl rfl rfl) ?_;rintro _ e8 bC;refine qh 0 L bC ?_;refine au ?_;refine qu (zpr (c:=[.i .i64 I.seq]) 1 (([.i .i64 3]:List Val)++zam (List.replicate 32 (0:UInt8))++([.i .i64 I.seq,.i .i64 0,.i .i64 f,.i .i64 20]:List Val)) rfl rfl bC rfl rfl Ty.zre rfl rfl rfl) ?_;rintro _ e9 bD;refine qh 0 L bD ?_;refine au ?_;refine qu (zpr (c:=[.i .i64 I.of]) 1 (([.i .i64 3]:List Val)++zam (List.replicate 32 (0:UInt8))++([.i .i64 I.seq,.i .i64 I.of,.i .i64 f,.i .i64 20]:List Val)) rfl rfl bD rfl rfl Ty.zre rfl rfl rfl) ?_;rintro _ eA bE;refine qh 0 L bE ?_;refine ax ?_;exact nj ⟨3,(List.replicate 32 (0:UInt8)),I.seq,I.of,H,⟨_,rfl,lec,(List.length_replicate),pk [1,2,3,4,5] bE⟩⟩
              ·rintro E ez ⟨a3,am,a4,a5,H,bk,rfl,dX,cZ,co⟩;obtain ⟨dx,da,H⟩:=zaj H;refine ax ?_;refine xm (E_bs (t:=Item.t) (vs:=[.agg (Item.cells (Item.mk a3 am a4 a5 f 20))]) (xs:=[(Item.mk a3 am a4 a5 f 20)]) Tryz.underlying77 Ty.row134 rfl ⟨⟨rfl,cZ⟩,trivial⟩ rfl rfl co) ?_;rintro eh e0 b7;refine xm (zep (t:=Item.t) 5 Tryz.underlying77 Ty.row134 Ty.zk77 rfl rfl b7 rfl (b7.rowSrc (k:=0) rfl) da) ?_;rintro d3 e1 cp;refine ax ?_;exact nj ⟨dx,wr (f+20),H,⟨_,d3,rfl,lec,pk [2,3,4,5] cp⟩⟩
            ·rintro E ex ⟨bw,bv,H,bj,be,rfl,dW,cn⟩;refine ax ?_;exact nm H ⟨_,be,rfl,lec,cn⟩
           ·refine zbe _ rfl ?_;exact nj ⟨aj,H,⟨_,D,rfl,lec,pk [0,3] aR⟩⟩
         ·rintro E fg ⟨ai,H,bn,P,rfl,ed,bN⟩;refine aq ?_;have cR:=(bN.rowLn (k:=1) rfl).cells;refine qr (zlm (vs:=[(0,.i .i64 3),(4,.i .i64 a),(5,P)]) (v:=.agg (Change.cells (Change.mk 3 (Snap.mk 0 (Manifest.mk [] []) []) [] 0 a ai) (.sl none 0 (.k 0)) (.sl none 0 (.k 0)) (.sl none 0 (.k 0)) P)) Ty.bld79 rfl (by simp only [zkr,cR];rfl)) ?_;refine qc ?_;refine qr (zdh Tryz.underlying77 rfl (bN.rowLn (k:=1) rfl)) ?_;refine au ?_;refine sb 0 ([.i .i64 3,.i .i64 0,.s [],.sl none 0 (.k 0),.sl none 0 (.k 0),.sl none 0 (.k 0),.i .i64 0,.i .i64 a,P]) ?_;intro fh c4;refine au ?_;obtain ⟨ci,ee,cY,bP⟩:=c4.freezeR 1 [0] rfl (by decide) (by decide);obtain rfl:=oi H;refine zgb (vs:=[.agg (Change.cells (Change.mk 3 (Snap.mk 0 (Manifest.mk [] []) []) [] 0 a ai) (.sl none 0 (.k 0)) (.sl none 0 (.k 0)) (.sl none 0 (.k 0)) P),.b (decide (0 < (ai.length:Int)))]) rfl ⟨(zeo 0 Ty.zvj Ty.zoz bP rfl rfl),rfl,trivial⟩ ?_;exact ⟨ci,.sl none 0 (.k 0),.sl none 0 (.k 0),.sl none 0 (.k 0),P,rfl,(SlF.nil _),(SlF.nil _),(SlF.nil _),cY,bP.pick [] (by decide)⟩
        ·refine aq ?_;refine qy H (fun cC H=>?_) (fun cC H=>?_)
         ·refine aq ?_;refine W_c (v:=.agg (Change.cells (Change.mk 4 (Snap.mk 0 (Manifest.mk [] []) []) [] 0 a []) (.sl none 0 (.k 0)) (.sl none 0 (.k 0)) (.sl none 0 (.k 0)) (.sl none 0 (.k 0)))) rfl rfl rfl rfl (fun _=>rfl) ?_;refine sb 0 ([.i .i64 4,.i .i64 0,.s [],.sl none 0 (.k 0),.sl none 0 (.k 0),.sl none 0 (.k 0),.i .i64 0,.i .i64 a,.sl none 0 (.k 0)]) ?_;intro eB bF;refine au ?_;obtain rfl:=oi H;refine zgb (vs:=[.agg (Change.cells (Change.mk 4 (Snap.mk 0 (Manifest.mk [] []) []) [] 0 a []) (.sl none 0 (.k 0)) (.sl none 0 (.k 0)) (.sl none 0 (.k 0)) (.sl none 0 (.k 0))),.b true]) rfl ⟨(zeo 0 Ty.zvj Ty.zoz bF rfl rfl),rfl,trivial⟩ ?_;exact ⟨S,.sl none 0 (.k 0),.sl none 0 (.k 0),.sl none 0 (.k 0),.sl none 0 (.k 0),rfl,(SlF.nil _),(SlF.nil _),(SlF.nil _),(SlF.nil _),bF.pick [] (by decide)⟩
         ·refine ax ?_;exact nj ⟨H,jj (pk [0] aP)⟩
  ·rintro E w8 ⟨H,F8,rfl,eb,dM⟩;refine aq ?_;refine W_c (v:=.agg (Change.cells (Change.mk 5 (Snap.mk 0 (Manifest.mk [] []) []) [] 0 a []) (.sl none 0 (.k 0)) (.sl none 0 (.k 0)) (.sl none 0 (.k 0)) (.sl none 0 (.k 0)))) rfl rfl rfl rfl (fun _=>rfl) ?_;refine sb 0 ([.i .i64 5,.i .i64 0,.s [],.sl none 0 (.k 0),.sl none 0 (.k 0),.sl none 0 (.k 0),.i .i64 0,.i .i64 a,.sl none 0 (.k 0)]) ?_;intro w9 bO;refine au ?_;obtain rfl:=oi H;refine zgb (vs:=[.agg (Change.cells (Change.mk 5 (Snap.mk 0 (Manifest.mk [] []) []) [] 0 a []) (.sl none 0 (.k 0)) (.sl none 0 (.k 0)) (.sl none 0 (.k 0)) (.sl none 0 (.k 0))),.b true]) rfl ⟨(zeo 0 Ty.zvj Ty.zoz bO rfl rfl),rfl,trivial⟩ ?_;exact ⟨F8,.sl none 0 (.k 0),.sl none 0 (.k 0),.sl none 0 (.k 0),.sl none 0 (.k 0),rfl,(SlF.nil _),(SlF.nil _),(SlF.nil _),(SlF.nil _),bO.pick [] (by decide)⟩
def zdi (x0:Int) (x1:Int) (x2:Int):Option Bool :=
  some (decide (x1≤x0)&&decide (x0≤x2))
theorem zdg {x0:Int} {x1:Int} {x2:Int} {r:Bool} (hA:Gd F w) (H:zdi x0 x1 x2=some r):Ret Tryz.prog K 69 [.i .i64 x0,.i .i64 x1,.i .i64 x2] w fun v w'=>∃ (F':Frz),v = .b r∧St [] w F F' [] w':=by
 refine qa3 Tryz.func69 ?_;have hS:=St.start hA;refine az ?_;exact rz H hS
def zcx.k1:Option Bool :=
  some false
def zcx.l2 (x0:List UInt8) (x1:List UInt8) (b:Int→Option Bool):Int→Option Bool
  | a =>
    if decide (a < 32) then
      bd (ix x0 a) fun x8 =>
      bd (ix x1 a) fun x9 =>
      if decide ((x8.toNat:Int)≠(x9.toNat:Int)) then
        bd (ix x0 a) fun c =>
        bd (ix x1 a) fun d =>
        some (decide ((c.toNat:Int) < (d.toNat:Int)))
      else
        b (wr (a+1))
    else
      zcx.k1
def zcx (x0:List UInt8) (x1:List UInt8):Option Bool :=
  loop (zcx.l2 x0 x1) 0
theorem zio {x0:List UInt8} {x1:List UInt8} {r:Bool} (hA:Gd F w) (c:x0.length=32) (d:x1.length=32) (H:zcx x0 x1=some r):Ret Tryz.prog K 70 [.agg (zam x0),.agg (zam x1)] w fun v w'=>∃ (F':Frz),v = .b r∧St [] w F F' [] w':=by
 refine qa2 Tryz.func70 ?_;have hS:=St.start hA;refine qs ?_;refine bx (zam x0) ?_;intro l Z S;refine bx (zam x1) ?_;intro m w2 e;refine au ?_;refine zac (jO (zcx.k1=some r) [] e []) ?_ ?_
 ·refine ax ?_;refine lj e (fun s:Int=>[(2,pl l 0),(3,pl m 0),(5,.i .i64 s)]) H ?_;intro Y U R w4 X a H;refine ay ?_;refine qy H (fun x H=>?_) (fun x H=>?_)
  ·refine ay ?_;obtain ⟨x8,j,x9,k,H⟩:=bd2 H;refine rn ?_;refine qc ?_;obtain ⟨y,D⟩:=zaf j;refine qr (zed Tryz.underlying58 Ty.zlh rfl rfl y (zce c D)) ?_;obtain ⟨_,G⟩:=zaf j;refine qr (zdm 1 Ty.zvi rfl a rfl (znr (fun q u h=>by simpa using h) c G)) ?_;refine qc ?_;obtain ⟨z,I⟩:=zaf k;refine qr (zed Tryz.underlying58 Ty.zlh rfl rfl z (zce d I)) ?_;obtain ⟨_,J⟩:=zaf k;refine qr (zdm 0 Ty.zvi rfl a rfl (znr (fun q u h=>by simpa using h) d J)) ?_;refine au ?_;refine qy H (fun p H=>?_) (fun p H=>?_)
   ·refine zfl ?_;obtain ⟨ai,f,aj,g,H⟩:=bd2 H;refine rn ?_;refine qc ?_;obtain ⟨A,L⟩:=zaf f;refine qr (zed Tryz.underlying58 Ty.zlh rfl rfl A (zce c L)) ?_;obtain ⟨_,M⟩:=zaf f;refine qr (zdm 1 Ty.zvi rfl a rfl (znr (fun q u h=>by simpa using h) c M)) ?_;refine qc ?_;obtain ⟨B,O⟩:=zaf g;refine qr (zed Tryz.underlying58 Ty.zlh rfl rfl B (zce d O)) ?_;obtain ⟨_,P⟩:=zaf g;refine qr (zdm 0 Ty.zvi rfl a rfl (znr (fun q u h=>by simpa using h) d P)) ?_;exact rz H a
   ·refine ax ?_;exact nm H (jj a)
  ·refine zbe _ rfl ?_;exact nj ⟨H,jj (pk [] a)⟩
 ·rintro E w3 ⟨H,Q,rfl,V,n⟩;exact rz H n
def zbk.k1:Option Bool :=
  some true
def zbk.k3 (a:Int) (b:Int→Option Bool):Option Bool :=
  b (wr (a+1))
def zbk.l2 (x0:Catalog) (x1:List Loc) (f:Int→Option Bool):Int→Option Bool
  | a =>
    if decide (a < (x1.length:Int)) then
      bd (ix x1 a) fun x9 =>
      bd (only (!(decide (x9.vol < 0)||decide ((x0.vols.length:Int)≤x9.vol))) (ix x0.vols x9.vol) (Vol.mk 0 0 0 0)) fun b =>
      bd (only (!((decide (x9.vol < 0)||decide ((x0.vols.length:Int)≤x9.vol))||decide (b.state≠2))) (ix x0.vols x9.vol) (Vol.mk 0 0 0 0)) fun h =>
      bd (only (!((decide (x9.vol < 0)||decide ((x0.vols.length:Int)≤x9.vol))||decide (b.state≠2))) (zdi x9.file 1 h.files) false) fun d =>
      bd (only (!(((decide (x9.vol < 0)||decide ((x0.vols.length:Int)≤x9.vol))||decide (b.state≠2))||(!d))) (zdi x9.off 0 16777215) false) fun e =>
      bd (only (!((((decide (x9.vol < 0)||decide ((x0.vols.length:Int)≤x9.vol))||decide (b.state≠2))||(!d))||(!e))) (zdi x9.len 13 8013) false) fun g =>
      if (((((decide (x9.vol < 0)||decide ((x0.vols.length:Int)≤x9.vol))||decide (b.state≠2))||(!d))||(!e))||(!g)) then
        some false
      else
        if decide (0 < a) then
          bd (ix x1 (wr (a - 1))) fun c =>
          if (!(decide (c.vol < x9.vol)||(decide (c.vol=x9.vol)&&(decide (c.file < x9.file)||(decide (c.file=x9.file)&&decide (c.off < x9.off)))))) then
            some false
          else
            zbk.k3 a f
        else
          zbk.k3 a f
    else
      zbk.k1
def zbk (x0:Catalog) (x1:List Loc):Option Bool :=
  if decide (200 < (x1.length:Int)) then
    some false
  else
    loop (zbk.l2 x0 x1) 0
set_option maxHeartbeats 2000000 in
theorem zhe {x0:Catalog} {x1:List Loc} {r:Bool} {m:Val} {n:Val} {p:Val} {q:Val} {c:Val} (hA:Gd F w) (ai:SlF Snap.t F m x0.snaps) (aj:SlF Chunk.t F n x0.chunks) (ak:SlF Exp.t F p x0.exps) (a:SlF Vol.t F q x0.vols) (x:SlF Loc.t F c x1) (H:zbk x0 x1=some r):Ret Tryz.prog K 71 [.agg (Catalog.cells x0 m n p q),c] w fun v w'=>∃ (F':Frz),v = .b r∧St [] w F F' [] w':=by
 refine qa2 Tryz.func71 ?_;have hS:=St.start hA;refine qs ?_;refine bx ([.i .i64 x0.seq,m,n,p,q]) ?_;intro u w1 e;refine ay ?_;refine qy H (fun L H=>?_) (fun L H=>?_)
 ·exact rz H e
 ·refine qk ?_;refine zac (jO (zbk.k1=some r) [] e []) ?_ ?_
  ·refine ax ?_;refine lj e (fun s:Int=>[(1,c),(2,pl u 0),(5,.i .i64 s)]) H ?_;intro X B Z w4 D z H;refine ay ?_;refine qy H (fun M H=>?_) (fun M H=>?_)
   ·refine qk ?_;refine zac (jN (zbk.k3 B X=some r) [(1,c),(2,pl u 0),(5,.i .i64 B)] z) ?_ ?_
    ·obtain ⟨x9,V,H⟩:=zaj H;obtain ⟨_,rfl,ar⟩:=elx 4 (x.mono D) V;refine ax ?_;refine al ?_;intro ae a7 am;refine sb 0 ([.i .i64 x9.vol,.i .i64 x9.file,.i .i64 x9.off,.i .i64 x9.len]) ?_;intro a8 f;refine ay ?_;obtain ⟨aR,k,aT,l,H⟩:=bd2 H;obtain ⟨a3,Q,a4,R,H⟩:=bd2 H;obtain ⟨a5,S,H⟩:=zaj H;refine rf f ?_;refine aw ?_;refine ge (mo a) k ?_;refine ge (mo a) k ?_;refine ge (mo a) k ?_;refine aw ?_;refine ge (mo a) l ?_;refine ge (mo a) l ?_;refine ge (mo a) l ?_;refine gw f Q (fun y=>zdg f.good y) ?_;intro aD g;refine qw g ?_;refine aw ?_;refine gw g R (fun y=>zdg g.good y) ?_;intro aH h;refine qw h ?_;refine aw ?_;refine gw h S (fun y=>zdg h.good y) ?_;intro aJ j;refine qw j ?_;refine aw ?_;refine qy H (fun O H=>?_) (fun O H=>?_)
     ·exact rz H j
     ·refine ax ?_;refine qy H (fun P H=>?_) (fun P H=>?_)
      ·obtain ⟨d,U,H⟩:=zaj H;obtain ⟨_,rfl,a0⟩:=elx 4 (x.mono D) U;refine aq ?_;refine al ?_;intro ah aO ap;refine sb 0 ([.i .i64 d.vol,.i .i64 d.file,.i .i64 d.off,.i .i64 d.len]) ?_;intro aP A;refine az ?_;refine qy H (fun J H=>?_) (fun J H=>?_)
       ·exact rz H A
       ·refine ax ?_;exact nj ⟨H,jj (pk [2] A)⟩
      ·refine ax ?_;exact nj ⟨H,jj (pk [1] j)⟩
    ·rintro E w8 ⟨H,F8,rfl,a2,I⟩;refine ax ?_;exact nm H (jj I)
   ·refine zbe _ rfl ?_;exact nj ⟨H,jj (pk [] z)⟩
  ·rintro E w3 ⟨H,Y,rfl,a1,G⟩;exact rz H G
def zcb.k1:Option Bool :=
  some true
def zcb.l2 (x0:Manifest) (e:Int→Option Bool):Int→Option Bool
  | b =>
    if decide (b < (x0.parts.length:Int)) then
      bd (ix x0.parts b) fun a =>
      bd (zby a.path) fun c =>
      bd (only ((!(!c))&&decide (0 < b)) (ix x0.parts (wr (b - 1))) (Part.mk [] 0 [])) fun d =>
      if ((((((!c)||(decide (0 < b)&&(sLt a.path d.path||a.path == d.path)))||decide (a.size < 0))||decide (200 < a.size))||decide (25 < (a.ids.length:Int)))||(decide ((a.ids.length:Int)=0) != decide (a.size=0))) then
        some false
      else
        e (wr (b+1))
    else
      zcb.k1
def zcb (x0:Manifest):Option Bool :=
  bd (zby x0.name) fun a =>
  if ((!a)||decide (6 < (x0.parts.length:Int))) then
    some false
  else
    loop (zcb.l2 x0) 0
theorem zll {x0:Manifest} {r:Bool} {g:Val} (hA:Gd F w) (a:SlF Part.t F g x0.parts) (H:zcb x0=some r):Ret Tryz.prog K 72 [.agg (Manifest.cells x0 g)] w fun v w'=>∃ (F':Frz),v = .b r∧St [] w F F' [] w':=by
 refine qa1 Tryz.func72 ?_;have hS:=St.start hA;refine qs ?_;refine bx ([.s x0.name,g]) ?_;intro k U h;obtain ⟨R,y,H⟩:=zaj H;refine ay ?_;refine lp (zez h.good y) h ?_;intro w3 e;refine aw ?_;refine qy H (fun u H=>?_) (fun u H=>?_)
 ·exact rz H e
 ·refine qk ?_;refine zac (jO (zcb.k1=some r) [] e []) ?_ ?_
  ·refine ax ?_;refine lj e (fun s:Int=>[(1,pl k 0),(3,.i .i64 s)]) H ?_;intro S O D V A l H;refine ay ?_;refine qy H (fun p H=>?_) (fun p H=>?_)
   ·obtain ⟨c,z,H⟩:=zaj H;obtain ⟨_,⟨B,rfl,M⟩,L⟩:=elx 3 (a.mono A) z;refine ay ?_;refine al ?_;intro I X J;refine sb 0 ([.s c.path,.i .i64 c.size,B]) ?_;intro Y d;refine ay ?_;obtain ⟨Q,x,ah,f,H⟩:=bd2 H;refine rf d ?_;refine au ?_;refine lq (zez d.good x) d ?_;intro Z j;refine aw ?_;refine gec (mo a) f ?_;refine gec (mo a) f ?_;refine gec (mo a) f ?_;refine aw ?_;refine W_gs (v:=.b (decide ((c.ids.length:Int)=0) != decide (c.size=0))) rfl rfl rfl rfl (fun ⟨n,_⟩=>?_) ?_
    ·rw [n];exact (qr (zbc rfl rfl (bB_neq Tryz.underlying4)) ·)
    refine aw ?_;refine qy H (fun q H=>?_) (fun q H=>?_)
    ·exact rz H j
    ·refine ax ?_;exact nm H (jj (pk [1] j))
   ·refine zbe _ rfl ?_;exact nj ⟨H,jj (pk [] l)⟩
  ·rintro E w9 ⟨H,G,rfl,P,m⟩;exact rz H m
def zcl.k1:Option Int :=
  some (-1)
def zcl.l2 (x0:Catalog) (x1:List UInt8) (b:Int→Option Int):Int→Option Int
  | a =>
    if decide (a < (x0.snaps.length:Int)) then
      bd (ix x0.snaps a) fun x7 =>
      if (x7.man.name == x1) then
        some a
      else
        b (wr (a+1))
    else
      zcl.k1
def zcl (x0:Catalog) (x1:List UInt8):Option Int :=
  loop (zcl.l2 x0 x1) 0
theorem zjm {x0:Catalog} {x1:List UInt8} {r:Int} {b:Val} {c:Val} {d:Val} {e:Val} (hA:Gd F w) (h:SlF Snap.t F b x0.snaps) (u:SlF Chunk.t F c x0.chunks) (x:SlF Exp.t F d x0.exps) (y:SlF Vol.t F e x0.vols) (H:zcl x0 x1=some r):Ret Tryz.prog K 32 [.agg (Catalog.cells x0 b c d e),.s x1] w fun v w'=>∃ (F':Frz),v = .i .i64 r∧St [] w F F' [] w':=by
 refine qa2 Tryz.func32 ?_;have hS:=St.start hA;refine qs ?_;refine bx ([.i .i64 x0.seq,b,c,d,e]) ?_;intro g L f;refine au ?_;refine zac (jO (zcl.k1=some r) [] f []) ?_ ?_
 ·refine ax ?_;refine lj f (fun s:Int=>[(1,.s x1),(2,pl g 0),(5,.i .i64 s)]) H ?_;intro G B q O n a H;refine ay ?_;refine qy H (fun l H=>?_) (fun l H=>?_)
  ·obtain ⟨x7,m,H⟩:=zaj H;obtain ⟨_,⟨I,J,rfl,z,A⟩,_⟩:=elx 4 (h.mono n) m;refine ay ?_;refine qy H (fun k H=>?_) (fun k H=>?_)
   ·exact rz H a
   ·refine ax ?_;exact nm H (jj a)
  ·refine zbe _ rfl ?_;exact nj ⟨H,jj (pk [] a)⟩
 ·rintro E M ⟨H,p,rfl,D,j⟩;exact rz H j
def zbg.k1 (l3:List (List UInt8)):Option (List (List UInt8)) :=
  some l3
def zbg.k3 (a:Int) (b:((List (List UInt8)) × Int)→Option (List (List UInt8))) (l14:List (List UInt8)):Option (List (List UInt8)) :=
  b (l14,wr (a+1))
def zbg.l4 (x0:Manifest) (a:Int) (e:((List (List UInt8)) × Int)→Option (List (List UInt8))) (f:((List (List UInt8)) × Int)→Option (List (List UInt8))):((List (List UInt8)) × Int)→Option (List (List UInt8))
  | (c,b) =>
    bd (ix x0.parts a) fun g =>
    if decide (b < (g.ids.length:Int)) then
      bd (ix x0.parts a) fun h =>
      bd (ix h.ids b) fun i =>
      bd (zct c i) fun d =>
      f (d.1,wr (b+1))
    else
      zbg.k3 a e c
def zbg.l2 (x0:Manifest) (b:((List (List UInt8)) × Int)→Option (List (List UInt8))):((List (List UInt8)) × Int)→Option (List (List UInt8))
  | (l7,a) =>
    if decide (a < (x0.parts.length:Int)) then
      loop (zbg.l4 x0 a b) (l7,0)
    else
      zbg.k1 l7
def zbg (x0:Manifest):Option (List (List UInt8)) :=
  loop (zbg.l2 x0) ([],0)
theorem zou {x0:Manifest} {r:(List (List UInt8))} {q:Val} (hA:Gd F w) (u:SlF Part.t F q x0.parts) (H:zbg x0=some r):Ret Tryz.prog K 57 [.agg (Manifest.cells x0 q)] w fun v w'=>∃ (F':Frz) (D:Val),v=D∧SlF tId F' D (r)∧St [] w F F' [] w':=by
 refine qa1 Tryz.func57 ?_;have hS:=St.start hA;refine qs ?_;refine bx ([.s x0.name,q]) ?_;intro l w1 m;refine au ?_;refine aq ?_;refine zac (fun E wq=>∃ l3:List (List UInt8),zbg.k1 l3=some r ∧ ∃ (b:Frz) (j:Val),E=[(3,j)]∧F.le b∧SlF tId b j l3∧Also m [] b wq) ?_ ?_
 ·refine ax ?_;refine zbo (fun (s:(List (List UInt8)) × Int) E wq=>∃ (a:Frz) (c:Val),E=[(1,pl l 0),(3,c),(4,.i .i64 s.2)]∧F.le a∧SlF tId a c s.1∧Same m a wq) H ?_ ?_
  ·exact lo ⟨F,.sl none 0 (.k 0),rfl,(Frz.le.refl _),(SlF.nil _),m⟩
  ·rintro ad ⟨l7,p⟩ E w6 hI H
   try dsimp only at hI
   obtain ⟨a,c,rfl,B,z,f⟩:=hI;refine ay ?_;refine qy H (fun L H=>?_) (fun L H=>?_)
   ·refine qk ?_;refine zac (fun E wq=>∃ l14:List (List UInt8),zbg.k3 p ad l14=some r ∧ ∃ (d:Frz) (g:Val),E=[(1,pl l 0),(3,g),(4,.i .i64 p)]∧a.le d∧SlF tId d g l14∧Same f d wq) ?_ ?_
    ·refine ax ?_;refine zbo (fun (s:(List (List UInt8)) × Int) E wq=>∃ (e:Frz) (h:Val),E=[(1,pl l 0),(3,h),(4,.i .i64 p),(5,.i .i64 s.2)]∧a.le e∧SlF tId e h s.1∧Same f e wq) H ?_ ?_
     ·exact lo ⟨_,c,rfl,lec,z,f⟩
     ·rintro a1 ⟨Z,ak⟩ E a7 hI H
      try dsimp only at hI
      obtain ⟨e,h,rfl,A,y,n⟩:=hI;obtain ⟨aD,U,H⟩:=zaj H;obtain ⟨_,⟨a2,rfl,aj⟩,_⟩:=elx 3 (u.mono (B.trans A)) U;refine ay ?_;refine qy H (fun M H=>?_) (fun M H=>?_)
      ·obtain ⟨aH,V,aJ,X,H⟩:=bd2 H;obtain ⟨a0,Q,H⟩:=zaj H;obtain ⟨_,⟨a3,rfl,R⟩,_⟩:=elx 3 (u.mono (B.trans A)) V;obtain ⟨_,⟨rfl,P⟩,ai⟩:=elx 32 R X;refine ay ?_;refine lm (zjs n.good y P Q) ?_;rintro a4 a9 ⟨ah,ae,rfl,O,x⟩;have J:=n.call x;have ar:=x.ext;refine ax ?_;exact nm H ⟨_,ae,rfl,lec,O,J⟩
      ·refine ax ?_;exact nj ⟨Z,H,⟨_,h,rfl,lec,y,n⟩⟩
    ·rintro E a6 ⟨l14,H,d,g,rfl,am,S,G⟩;refine ax ?_;exact nm H ⟨_,g,rfl,lec,S,G⟩
   ·refine zbe _ rfl ?_;exact nj ⟨l7,H,⟨_,c,rfl,lec,z,pk [] f⟩⟩
 ·rintro E w2 ⟨l3,H,b,j,rfl,ap,Y,I⟩;refine aq ?_;obtain rfl:=oi H;refine qt ?_;exact ⟨b,j,rfl,Y,I⟩
end
end Go.Wk.Lf
end
