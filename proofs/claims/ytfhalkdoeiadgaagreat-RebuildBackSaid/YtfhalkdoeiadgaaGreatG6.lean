/-  -/
import Derived.Test.YtfhalkdoeiadgaaGreatG5
set_option linter.unusedVariables false
set_option linter.unusedSimpArgs false
open Bool renaming eq_false_or_eq_true→nk
open Go.Proofs.Tryz renaming prog→il, underlying22→yF, underlying24→kR, underlying25→kT, underlying26→mg, underlying59→ov
open List renaming all_append→lz, all_cons→nJ, all_nil→oG, replicate→iV
open Nat renaming le_of_ble_eq_true→kY, zero_lt_succ→oQ
section
namespace Go.Wk.Lf
open Go.V Go.Proofs
noncomputable section
set_option maxRecDepth 100000
variable{K:Tb}{F:gL}{w:Hp}
def kf.k4:Option Bool :=
  some true
def kf.l5(x0:ig)(e:Int→Option Bool):Int→Option Bool
  | b =>
    if decide (b<(x0.im.length:Int))then
      bd (ix x0.im b) λa =>
      bd (only ((!(decide (a.seq<0)||decide (x0.seq≤a.seq)))&&decide (0<b)) (ix x0.im (wr (b-1))) (iu.mk 0 0 [])) λc =>
      bd (only (!((((decide (a.seq<0)||decide (x0.seq≤a.seq))||(decide (0<b)&&decide (a.seq≤c.seq)))||decide (a.of<0))||decide (a.seq≤a.of))) (sR x0 a.locs) false) λd =>
      if((((((decide (a.seq<0)||decide (x0.seq≤a.seq))||(decide (0<b)&&decide (a.seq≤c.seq)))||decide (a.of<0))||decide (a.seq≤a.of))||(!d))||decide ((a.locs.length:Int)=0))then
        some false
      else
        e (wr (b+1))
    else
      kf.k4
def kf.k3(x0:ig):Option Bool :=
  loop (kf.l5 x0) 0
def kf.k7(a:Int)(b:Int→Option Bool):Option Bool :=
  b (wr (a+1))
def kf.l9(x0:ig)(b:Int)(c:Int→Option Bool)(e:ie)(d:Int→Option Bool):Int→Option Bool
  | a =>
    if decide (a<(x0.im.length:Int))then
      bd (ix x0.im a) λf =>
      if decide (f.of=e.seq)then
        some false
      else
        d (wr (a+1))
    else
      kf.k7 b c
def kf.k8(x0:ig)(a:Int)(b:Int→Option Bool)(c:ie):Option Bool :=
  loop (kf.l9 x0 a b c) 0
def kf.mc(x0:ig)(c:Int)(e:Int→Option Bool)(g:ie)(b:(List (List UInt8)))(f:Int→Option Bool):Int→Option Bool
  | a =>
    if decide (a<(b.length:Int))then
      bd (ix b a) λh =>
      bd (ta x0 h) λd =>
      if decide (d<0)then
        some false
      else
        f (wr (a+1))
    else
      kf.k8 x0 c e g
def kf.l6(x0:ig)(h:Int→Option Bool):Int→Option Bool
  | b =>
    if decide (b<(x0.ik.length:Int))then
      bd (ix x0.ik b) λa =>
      bd (only ((!(decide (a.seq<0)||decide (x0.seq≤a.seq)))&&decide (0<b)) (ix x0.ik (wr (b-1))) (ie.mk 0 (iF.mk [] []) [])) λc =>
      bd (only (!((decide (a.seq<0)||decide (x0.seq≤a.seq))||(decide (0<b)&&decide (a.seq≤c.seq)))) (x5 a.iw) false) λd =>
      bd (only (!(((decide (a.seq<0)||decide (x0.seq≤a.seq))||(decide (0<b)&&decide (a.seq≤c.seq)))||(!d))) (sR x0 a.locs) false) λe =>
      bd (only (!((((decide (a.seq<0)||decide (x0.seq≤a.seq))||(decide (0<b)&&decide (a.seq≤c.seq)))||(!d))||(!e))) (wa x0 a.iw.name) 0) λf =>
      if(((((decide (a.seq<0)||decide (x0.seq≤a.seq))||(decide (0<b)&&decide (a.seq≤c.seq)))||(!d))||(!e))||decide (f≠b))then
        some false
      else
        bd (qP a.iw) λg =>
        loop (kf.mc x0 b h a g) 0
    else
      kf.k3 x0
def kf.k2(x0:ig):Option Bool :=
  loop (kf.l6 x0) 0
def kf.lx(x0:ig)(f:Int→Option Bool):Int→Option Bool
  | a =>
    if decide (a<(x0.chunks.length:Int))then
      bd (ix x0.chunks a) λb =>
      bd (only (decide (0<a)) (ix x0.chunks (wr (a-1))) (Chunk.mk (iV 32 (0:UInt8)) false [] [])) λg =>
      bd (only (decide (0<a)) (Ac g.id b.id) false) λc =>
      bd (only (!(decide (0<a)&&(!c))) (sR x0 b.locs) false) λd =>
      bd (only ((!((decide (0<a)&&(!c))||(!d)))&&b.jD) (yR (b.data.length:Int) 1 64) false) λe =>
      if((((decide (0<a)&&(!c))||(!d))||(b.jD&&(!e)))||((!b.jD)&&(decide (0<(b.data.length:Int))||decide ((b.locs.length:Int)=0))))then
        some false
      else
        f (wr (a+1))
    else
      kf.k2 x0
def kf.k1(x0:ig):Option Bool :=
  loop (kf.lx x0) 0
def kf.BM(a:Int)(b:Int→Option Bool):Option Bool :=
  b (wr (a+1))
def kf.Lj(b:Int)(c:Int→Option Bool)(a:iz)(d:Bool):Option Bool :=
  if d then
    if decide (a.files≠0)then
      some false
    else
      kf.BM b c
  else
    if decide (a.state=2)then
      bd (yR a.files 1 65535) λe =>
      if(!e)then
        some false
      else
        kf.BM b c
    else
      some false
def kf.kW(x0:ig)(d:Int→Option Bool):Int→Option Bool
  | b =>
    if decide (b<(x0.iv.length:Int))then
      bd (ix x0.iv b) λa =>
      bd (yR a.rq 0 1) λc =>
      bd (only (!(!c)) (yR a.rM 0 1048576) false) λe =>
      if((!c)||(!e))then
        some false
      else
        if decide (a.state=1)then
          kf.Lj b d a (decide (a.state=1))
        else
          kf.Lj b d a (decide (a.state=3))
    else
      kf.k1 x0
def kf(x0:ig):Option Bool :=
  bd (yR x0.seq 0 1073741824) λa =>
  bd (only (!((((!a)||decide (8<(x0.ik.length:Int)))||decide (200<(x0.chunks.length:Int)))||decide (200<(x0.im.length:Int)))) (yR (x0.iv.length:Int) 1 8) false) λb =>
  if(((((!a)||decide (8<(x0.ik.length:Int)))||decide (200<(x0.chunks.length:Int)))||decide (200<(x0.im.length:Int)))||(!b))then
    some false
  else
    loop (kf.kW x0) 0
set_option maxHeartbeats 2000000 in
theorem Tu{x0:ig}{r:Bool}{c:gE}{d:gE}{e:gE}{f:gE}(hA:Gd F w)(l:iq ie.t F c x0.ik)(g:iq Chunk.t F d x0.chunks)(j:iq iu.t F e x0.im)(n:iq iz.t F f x0.iv)(H:kf x0=some r):iN il K 21 [.agg (ig.cells x0 c d e f)] w λv w'=>∃(F':gL),v = .b r∧St [] w F F' [] w':=by
 refine lg Tryz.func21 ?_;have hS:=St.start hA;refine qs ?_;refine bx ([.i .i64 x0.seq,c,d,e,f]) ?_;intro a w1 aK;obtain⟨r2,ca,r3,cg,H⟩:=iG H;refine ay ?_;refine lp (Bf aK.iH ca) aK ?_;intro w4 bf;refine aw ?_;refine gw bf cg (λy=>Bf bf.iH y) ?_;intro dO am;refine jG.now ?_;refine aw ?_;refine qy H (λbG H=>?_) (λbG H=>?_)
 ·exact rz H am
 ·refine qk ?_;refine iL (jN (kf.k1 x0=some r) [(1,pl a 0)] am) ?_ ?_
  ·refine ax ?_;refine lj am (λs:Int=>[(1,pl a 0),(3,.i .i64 s)]) H ?_;intro bo X bu dU c5 ba H;refine ay ?_;refine qy H (λbI H=>?_) (λbI H=>?_)
   ·refine qk ?_;refine iL (jN (kf.BM X bo=some r) [(1,pl a 0),(3,.i .i64 X)] ba) ?_ ?_
    ·obtain⟨m,cw,H⟩:=iy H;obtain⟨_,rfl,cX⟩:=js 4 (n.mono c5) cw;refine ax ?_;refine al ?_;intro bw dX cR;refine sb 0 ([.i .i64 m.rq,.i .i64 m.rM,.i .i64 m.state,.i .i64 m.files]) ?_;intro dY bb;obtain⟨dy,ch,dz,ci,H⟩:=iG H;refine ay ?_;refine lp (Bf bb.iH ch) bb ?_;intro dZ bc;refine aw ?_;refine gw bc ci (λy=>Bf bc.iH y) ?_;intro eb R;refine jG.now ?_;refine aw ?_;refine qy H (λbJ H=>?_) (λbJ H=>?_)
     ·exact rz H R
     ·refine qk ?_;refine aq ?_;refine qZ ?_;refine iL (λE wq=>∃ah:Bool,kf.Lj X bo m ah=some r ∧ ∃(ae:gL),E=[(1,pl a 0),(3,.i .i64 X),(4,pl bw 0),(66,.i .i64 m.state),(67,.b ah)]∧bu.le ae∧mq R ae wq) ?_ ?_
      ·refine aq ?_;refine qy H (λbP H=>?_) (λbP H=>?_)
       ·refine s6 ?_;exact nj ⟨decide (m.state=1),H,jj R⟩
       ·refine ax ?_;exact nj ⟨decide (m.state=3),H,jj R⟩
      ·rintro E ec ⟨ah,H,ae,rfl,dl,I⟩;refine qy H (λbK H=>?_) (λbK H=>?_)
       ·refine aq ?_;refine qy H (λbM H=>?_) (λbM H=>?_)
        ·exact rz H I
        ·refine ax ?_;exact nj ⟨H,jj (pk [1] I)⟩
       ·refine aq ?_;refine qy H (λbN H=>?_) (λbN H=>?_)
        ·obtain⟨d0,cj,H⟩:=iy H;refine aq ?_;refine lp (Bf I.iH cj) I ?_;intro ed be;refine au ?_;refine qy H (λbO H=>?_) (λbO H=>?_)
         ·exact rz H be
         ·refine ax ?_;exact nj ⟨H,jj (pk [1] be)⟩
        ·exact rz H I
    ·rintro E dV ⟨H,cI,rfl,dj,b0⟩;refine ax ?_;exact nm H (jj b0)
   ·refine jf _ rfl ?_;exact nj ⟨H,jj ba⟩
  ·rintro E dR ⟨H,cF,rfl,x,aV⟩;refine iL (jN (kf.k2 x0=some r) [(1,pl a 0)] aV) ?_ ?_
   ·refine ax ?_;refine lj aV (λs:Int=>[(1,pl a 0),(5,.i .i64 s)]) H ?_;intro d4 c0 cE dK aC aU H;refine ay ?_;refine qy H (λbF H=>?_) (λbF H=>?_)
    ·obtain⟨L,cu,H⟩:=iy H;obtain⟨_,⟨bp,bq,rfl,bU,de,cm⟩,cV⟩:=js 35 (g.mono (x.trans aC)) cu;refine ay ?_;refine xm (o9 (cs:=iJ (iV 32 (0:UInt8))++([.b false,.sl none 0 (.k 0),.sl none 0 (.k 0)]:List gE)) Ty.GN rfl aU) ?_;rintro _ dL ⟨cN,rfl,cQ⟩;refine sb 0 (iJ L.id++([.b L.jD,bp,bq]:List gE)) ?_;intro dM D;refine ay ?_;obtain⟨aJ,J,du,cb,H⟩:=iG H;obtain⟨dv,cc,dw,cd,H⟩:=iG H;have V:(aJ.id).length=32:=by
      rcases nk (decide (0<c0))with a6|a6
      ·have bj:=J;rw[jX a6]at bj;obtain⟨db,cy⟩:=iD bj;obtain⟨cL,ce,a7⟩:=(g.mono (x.trans aC)).el cy;obtain⟨c8,c9,rfl,V,cn,co⟩:=ce;replace a7:=qj 35 a7;have cZ:=a7.ky;exact V
      ·have hy:=J;rw[me a6]at hy;obtain rfl:=oi hy
       rfl
     refine rf D ?_;refine aw ?_;refine ge (mo g) J ?_;refine ge (mo g) J ?_;refine nO (v:=.agg (iJ aJ.id)) rfl rfl rfl rfl (λ⟨bh,_⟩=>?_) ?_
     ·rw[bh];intro hK;have bk:=J;rw[jX bh]at bk;obtain⟨dc,cz⟩:=iD bk;obtain⟨cM,cf,U⟩:=(g.mono (x.trans aC)).el cz;obtain⟨c8,c9,rfl,V,cn,co⟩:=cf;replace U:=qj 35 U;have da:=U.ky;refine qq (pw 0 (iJ aJ.id) Ty.pJ Ty.nx rfl (U.mono D.agree) (by first|omega|rfl) rfl (kY rfl)) ?_;exact hK
     refine aw ?_;refine nO (v:=.agg (iJ L.id)) rfl rfl rfl rfl (λ⟨b6,_⟩=>?_) ?_
     ·rw[b6];exact(qq (rC 0 (iJ L.id) Ty.pJ Ty.nx (oQ _) rfl D rfl (λq u h=>o5 (post:=[.b L.jD,bp,bq]) rfl h)) ·)
     refine gw D cb (λy=>Tv D.iH V bU y) ?_;intro dN Q;refine qw Q ?_;refine aw ?_;refine nO (v:=.agg (ig.cells x0 c d e f)) rfl rfl rfl rfl (λ⟨b7,_⟩=>?_) ?_
     ·rw[b7];exact(qq (rC 1 (ig.cells x0 c d e f) Ty.rb Ty.rv (oQ _) rfl Q rfl (λq u h=>o5 (post:=[]) rfl h)) ·)
     refine aw ?_;refine gw Q cc (λy=>NP Q.iH (mo l) (mo g) (mo j) (mo n) cm y) ?_;intro dP ar;refine qw ar ?_;refine aw ?_;refine Oq ar cd (λy=>Bf ar.iH y) ?_;intro dQ a4;refine qw a4 ?_;refine aw ?_;refine qy H (λbH H=>?_) (λbH H=>?_)
     ·exact rz H a4
     ·refine ax ?_;exact nm H (jj (pk [1] a4))
    ·refine jf _ rfl ?_;exact nj ⟨H,jj aU⟩
   ·rintro E dS ⟨H,cG,rfl,aD,aX⟩;refine iL (jN (kf.k3 x0=some r) [(1,pl a 0)] aX) ?_ ?_
    ·refine ax ?_;refine lj aX (λs:Int=>[(1,pl a 0),(7,.i .i64 s)]) H ?_;intro bn p bs d8 bm aO H;refine ay ?_;refine qy H (λb9 H=>?_) (λb9 H=>?_)
     ·refine qk ?_;refine iL (jN (kf.k7 p bn=some r) [(1,pl a 0),(7,.i .i64 p)] aO) ?_ ?_
      ·obtain⟨z,cq,H⟩:=iy H;obtain⟨_,⟨Y,aH,rfl,bi,cl⟩,cT⟩:=js 4 (l.mono ((x.trans aD).trans bm)) cq;refine ax ?_;refine al ?_;intro ai dA cP;refine sb 0 ([.i .i64 z.seq,.s z.iw.name,Y,aH]) ?_;intro dB M;refine ay ?_;obtain⟨ei,a8,dm,bV,H⟩:=iG H;obtain⟨dn,bW,dq,bX,H⟩:=iG H;refine nA (G:=bs) [0,1,2,3,4,5,6,7,8,9,10,11,12,13,14,15,16,17,18,19,20,21,22,23,24,25,26,27,28,29,30,31,32,33,34,35,36,37,38,39,40,41,42,43,45,44,46,47] rfl Ty.mixed (by kernel_rfl) M.agree ?_;refine aw ?_;refine oU (mo l) a8 ?_;refine oU (mo l) a8 ?_;refine oU (mo l) a8 ?_;refine aw ?_;refine nO (v:=.agg (iF.cells z.iw Y)) rfl rfl rfl rfl (λ⟨b3,_⟩=>?_) ?_
       ·rw[b3];exact(qq (rC 0 (iF.cells z.iw Y) Ty.tK Ty.tz (oQ _) rfl M rfl (λq u h=>o5 (post:=[aH]) rfl h)) ·)
       refine gw M bV (λy=>ZT M.iH bi y) ?_;intro dC O;refine qw O ?_;refine aw ?_;refine nO (v:=.agg (ig.cells x0 c d e f)) rfl rfl rfl rfl (λ⟨b4,_⟩=>?_) ?_
       ·rw[b4];exact(qq (rC 1 (ig.cells x0 c d e f) Ty.rb Ty.rv (oQ _) rfl O rfl (λq u h=>o5 (post:=[]) rfl h)) ·)
       refine aw ?_;refine gw O bW (λy=>NP O.iH (mo l) (mo g) (mo j) (mo n) cl y) ?_;intro dD P;refine qw P ?_;refine aw ?_;refine nO (v:=.agg (ig.cells x0 c d e f)) rfl rfl rfl rfl (λ⟨b5,_⟩=>?_) ?_
       ·rw[b5];exact(qq (rC 1 (ig.cells x0 c d e f) Ty.rb Ty.rv (oQ _) rfl P rfl (λq u h=>o5 (post:=[]) rfl h)) ·)
       refine aw ?_;refine gw P bX (λy=>Kt P.iH (mo l) (mo g) (mo j) (mo n) y) ?_;intro dE A;refine qw A ?_;refine aw ?_;refine qy H (λbA H=>?_) (λbA H=>?_)
       ·exact rz H A
       ·obtain⟨dr,bY,H⟩:=iy H;refine ax ?_;refine bl A 0 (iF.cells z.iw Y) [aH] ?_;refine lm (Ts A.iH bi bY) ?_;rintro cC dF ⟨bv,_,rfl,bS,bg⟩;have aj:=A.call bg;have c7:=bg.ext;refine au ?_;refine iL (jN (kf.k8 x0 p bn z=some r) [(1,pl a 0),(7,.i .i64 p),(8,pl ai 0)] aj) ?_ ?_
        ·refine ax ?_;refine jH (λ(s:Int) E wq=>∃(ad:gL),E=[(1,pl a 0),(7,.i .i64 p),(8,pl ai 0),(9,cC),(10,.i .i64 s)]∧bv.le ad∧mq aj ad wq) H ?_ ?_
         ·exact lo (jj aj)
         ·rintro d3 dg E dI hI H
          try dsimp only at hI
          obtain⟨ad,rfl,c3,B⟩:=hI;refine ay ?_;refine qy H (λbD H=>?_) (λbD H=>?_)
          ·refine ay ?_;obtain⟨ek,ct,ds,bZ,H⟩:=iG H;refine rf B ?_;refine bL B 1 (ig.cells x0 c d e f) [] ?_;obtain⟨_,⟨rfl,bT⟩,cU⟩:=js 32 (bS.mono c3) ct;refine au ?_;refine lq (HC B.iH (mo l) (mo g) (mo j) (mo n) bT bZ) B ?_;intro dJ aT;refine au ?_;refine qy H (λbE H=>?_) (λbE H=>?_)
           ·exact rz H aT
           ·refine ax ?_;exact nm H (jj aT)
          ·refine jf _ rfl ?_;exact nj ⟨H,jj B⟩
        ·rintro E dG ⟨H,bt,rfl,c1,aR⟩;refine ax ?_;refine jH (λ(s:Int) E wq=>∃(Z:gL),E=[(1,pl a 0),(7,.i .i64 p),(8,pl ai 0),(11,.i .i64 s)]∧bt.le Z∧mq aR Z wq) H ?_ ?_
         ·exact lo (jj aR)
         ·rintro d2 df E dH hI H
          try dsimp only at hI
          obtain⟨Z,rfl,c2,ak⟩:=hI;refine ay ?_;refine qy H (λbB H=>?_) (λbB H=>?_)
          ·refine ay ?_;obtain⟨ej,cr,H⟩:=iy H;refine rn ?_;obtain⟨_,⟨d6,rfl,dd⟩,_⟩:=js 3 (j.mono (((((x.trans aD).trans bm).trans c7).trans c1).trans c2)) cr;refine au ?_;refine qy H (λbC H=>?_) (λbC H=>?_)
           ·exact rz H ak
           ·refine ax ?_;exact nm H (jj ak)
          ·refine ax ?_;exact nj ⟨H,jj (pk [1] ak)⟩
      ·rintro E d9 ⟨H,cD,rfl,di,bz⟩;refine ax ?_;exact nm H (jj bz)
     ·refine jf _ rfl ?_;exact nj ⟨H,jj aO⟩
    ·rintro E dT ⟨H,cH,rfl,c4,aY⟩;refine iL (jO (kf.k4=some r) [] aY []) ?_ ?_
     ·refine ax ?_;refine lj aY (λs:Int=>[(1,pl a 0),(12,.i .i64 s)]) H ?_;intro d5 dh cK ea c6 b2 H;refine ay ?_;refine qy H (λbQ H=>?_) (λbQ H=>?_)
      ·obtain⟨br,cx,H⟩:=iy H;obtain⟨_,⟨cA,rfl,cp⟩,cY⟩:=js 3 (j.mono (((x.trans aD).trans c4).trans c6)) cx;refine ay ?_;refine al ?_;intro cO ee cS;refine sb 0 ([.i .i64 br.seq,.i .i64 br.of,cA]) ?_;intro ef S;refine ay ?_;obtain⟨em,a9,d1,ck,H⟩:=iG H;refine rf S ?_;refine aw ?_;refine oU (mo j) a9 ?_;refine oU (mo j) a9 ?_;refine oU (mo j) a9 ?_;refine aw ?_;refine nO (v:=.agg (ig.cells x0 c d e f)) rfl rfl rfl rfl (λ⟨b8,_⟩=>?_) ?_
       ·rw[b8];exact(qq (rC 1 (ig.cells x0 c d e f) Ty.rb Ty.rv (oQ _) rfl S rfl (λq u h=>o5 (post:=[]) rfl h)) ·)
       refine aw ?_;refine gw S ck (λy=>NP S.iH (mo l) (mo g) (mo j) (mo n) cp y) ?_;intro eh a5;refine qw a5 ?_;refine aw ?_;refine qy H (λbR H=>?_) (λbR H=>?_)
       ·exact rz H a5
       ·refine ax ?_;exact nm H (jj (pk [1] a5))
      ·refine jf _ rfl ?_;exact nj ⟨H,jj (pk [] b2)⟩
     ·rintro E dW ⟨H,cJ,rfl,dk,b1⟩;exact rz H b1
def vY.k1(x0:iF)(l4:List Part):Option iF :=
  some (iF.mk x0.name l4)
def vY.l2(x0:iF)(e:((List Part)×Int)→Option iF):((List Part)×Int)→Option iF
  | (lx,a) =>
    if decide (a<(x0.parts.length:Int))then
      bd (ix x0.parts a) λb =>
      bd (app (α:=(List UInt8)) [] b.ids) λc =>
      bd (app (α:=Part) lx [(Part.mk b.path b.size c)]) λd =>
      e (d,wr (a+1))
    else
      vY.k1 x0 lx
def vY(x0:iF):Option iF :=
  loop (vY.l2 x0) ([],0)
theorem Tl{x0:iF}{r:iF}{c:gE}(hA:Gd F w)(y:iq Part.t F c x0.parts)(H:vY x0=some r):iN il K 59 [.agg (iF.cells x0 c)] w λv w'=>∃(F':gL)(u:gE),v = .agg (iF.cells r u)∧iq Part.t F' u (r.parts)∧St [] w F F' [] w':=by
 refine lg Tryz.func59 ?_;have hS:=St.start hA;refine qs ?_;refine bx ([.s x0.name,c]) ?_;intro d w1 ad;refine al ?_;intro e w2 j;refine qn ?_;refine aq ?_;refine iL (λE wq=>∃l4:List Part,vY.k1 x0 l4=some r ∧ ∃(h:gL)(b:gE),E=[(1,pl d 0),(2,pl e 0),(3,b)]∧F.le h∧iW j [.box e [.s [],.sl none 0 (.k 0)],.box d [.s x0.name,c],.row Part.t b l4] h wq) ?_ ?_
 ·refine ax ?_;refine jH (λ(s:(List Part)×Int) E wq=>∃(g:gL)(f:gE),E=[(1,pl d 0),(2,pl e 0),(3,f),(4,.i .i64 s.2)]∧F.le g∧iW j [.box e [.s [],.sl none 0 (.k 0)],.box d [.s x0.name,c],.row Part.t f s.1] g wq) H ?_ ?_
  ·have I:=j.lb Part.t;exact lo ⟨F,(.sl none 0 (.k 0)),rfl,(gL.le.refl _),I.pick [1,2,0] (by decide)⟩
  ·rintro a7 ⟨lx,am⟩ E aC hI H
   try dsimp only at hI
   obtain⟨g,f,rfl,U,z⟩:=hI;refine ay ?_;refine qy H (λL H=>?_) (λL H=>?_)
   ·obtain⟨a,S,H⟩:=iy H;obtain⟨_,⟨V,rfl,R⟩,ak⟩:=js 3 (y.mono U) S;refine ay ?_;refine al ?_;intro Z aD ae;refine sb 0 ([.s a.path,.i .i64 a.size,V]) ?_;intro aJ A;obtain⟨q,P,H⟩:=iy H;refine ax ?_;have m:=A.lb lV;refine ap 0 m (R.src m.agree) P ?_;intro l aK ah;refine au ?_;refine sc 1 ([.s a.path,.i .i64 a.size,l]) ?_;intro aO B;obtain⟨ar,Q,H⟩:=iy H;refine ax ?_;obtain⟨Y,a4,M,G⟩:=B.kh 0 [1,2,3,4] rfl (by decide) (by decide);refine xm (kN (t:=Part.t) (vs:=[.agg (Part.cells (Part.mk a.path a.size q) l)]) (xs:=[(Part.mk a.path a.size q)]) Tryz.underlying56 Ty.I5 rfl ⟨⟨l,rfl,M⟩,trivial⟩ rfl rfl G) ?_;rintro a8 aR n;refine ap 4 n (n.mi (k:=0) rfl) Q ?_;intro X aT D;refine ax ?_;exact nm H ⟨_,X,rfl,iI,pk [2,3,4] D⟩
   ·refine jf _ rfl ?_;exact nj ⟨lx,H,⟨_,f,rfl,iI,z⟩⟩
 ·rintro E w3 ⟨l4,H,h,b,rfl,a5,ai⟩;refine aq ?_;refine sc 1 ([.s x0.name,b]) ?_;intro w7 aj;refine ax ?_;refine sb 0 ([.s x0.name,b]) ?_;intro w8 J;refine qn ?_;obtain⟨x,a6,O,p⟩:=J.kh 2 [0,1] rfl (by decide) (by decide);obtain rfl:=oi H;refine oH (vs:=[.agg (iF.cells (iF.mk x0.name l4) b)]) rfl ⟨(oJ 0 Ty.tK Ty.tz p rfl rfl),trivial⟩ ?_;exact⟨x,b,rfl,O,p.pick [] (by decide)⟩
def DO(x0:List Loc):Option (List Loc) :=
  bd (app (α:=Loc) [] x0) λa =>
  some a
theorem Km{x0:List Loc}{r:(List Loc)}{c:gE}(hA:Gd F w)(d:iq Loc.t F c x0)(H:DO x0=some r):iN il K 60 [c] w λv w'=>∃(F':gL)(b:gE),v=b∧St [] w F F' [.row Loc.t b (r)] w':=by
 refine lg Tryz.func60 ?_;have hS:=St.start hA;obtain⟨g,f,H⟩:=iy H;refine ax ?_;have a:=hS.lb Loc.t;refine ap 0 a (d.src a.agree) f ?_;intro h i e;exact rx H e
def vX.k1(l2:List Chunk):Option (List Chunk) :=
  some l2
def vX.l2(x0:List Chunk)(f:((List Chunk)×Int)→Option (List Chunk)):((List Chunk)×Int)→Option (List Chunk)
  | (l6,b) =>
    if decide (b<(x0.length:Int))then
      bd (ix x0 b) λa =>
      bd (Cr a.data) λd =>
      bd (DO a.locs) λe =>
      bd (app (α:=Chunk) l6 [(Chunk.mk a.id a.jD d e)]) λc =>
      f (c,wr (b+1))
    else
      vX.k1 l6
def vX(x0:List Chunk):Option (List Chunk) :=
  loop (vX.l2 x0) ([],0)
theorem NM{x0:List Chunk}{r:(List Chunk)}{n:gE}(hA:Gd F w)(J:iq Chunk.t F n x0)(H:vX x0=some r):iN il K 61 [n] w λv w'=>∃(F':gL)(z:gE),v=z∧St [] w F F' [.row Chunk.t z (r)] w':=by
 refine lg Tryz.func61 ?_;have hS:=St.start hA;refine aq ?_;refine aq ?_;refine iL (λE wq=>∃l2:List Chunk,vX.k1 l2=some r ∧ ∃(h:gL)(l:gE),E=[(3,l)]∧F.le h∧iW hS [.row Chunk.t l l2] h wq) ?_ ?_
 ·refine ax ?_;refine jH (λ(s:(List Chunk)×Int) E wq=>∃(d:gL)(f:gE),E=[(0,n),(3,f),(4,.i .i64 s.2)]∧F.le d∧iW hS [.row Chunk.t f s.1] d wq) H ?_ ?_
  ·have R:=hS.lb Chunk.t;exact lo ⟨F,(.sl none 0 (.k 0)),rfl,(gL.le.refl _),R⟩
  ·rintro aU ⟨l6,i9⟩ E w5 hI H
   try dsimp only at hI
   obtain⟨d,f,rfl,aj,u⟩:=hI;refine ay ?_;refine qy H (λS H=>?_) (λS H=>?_)
   ·obtain⟨a,ai,H⟩:=iy H;obtain⟨_,⟨ar,D,rfl,Y,ae,ah⟩,aH⟩:=js 35 (J.mono aj) ai;refine ay ?_;refine xm (o9 (cs:=iJ (iV 32 (0:UInt8))++([.b false,.sl none 0 (.k 0),.sl none 0 (.k 0)]:List gE)) Ty.GN rfl u) ?_;rintro _ aY ⟨I,rfl,aC⟩;refine sb 0 (iJ a.id++([.b a.jD,ar,D]:List gE)) ?_;intro a5 c;refine ay ?_;obtain⟨A,Z,B,ad,H⟩:=iG H;have e:=c.mC 0 rfl;refine nA (G:=(d.hold a5 [I])) [0,1,3,4,2,6,5,7,8,9] rfl Ty.mixed (by kernel_rfl) (HB.agree (HB.cons 0 e c rfl HB.nil) c.agree) ?_;refine au ?_;refine hl 0 e c ?_;refine ql (Ko c.iH ae Z) ?_;rintro g ba ⟨a8,_,rfl,x⟩;have j:=c.call x;have ak:=x.ext;refine nf 1 e j ak ?_;refine au ?_;refine ql (Km j.iH (mo ah) ad) ?_;rintro m bb ⟨a9,_,rfl,y⟩;have p:=j.call y;have am:=y.ext;refine nf 2 e p am ?_;refine zX (by kernel_rfl) p.agree ?_;refine sC 2 (iJ a.id++([.b a.jD,g,D]:List gE)) ?_;intro bc aD;refine au ?_;refine sC 2 (iJ a.id++([.b a.jD,g,m]:List gE)) ?_;intro be M;obtain⟨aK,X,H⟩:=iy H;refine ax ?_;obtain⟨a6,aR,U,P⟩:=M.kh 1 [0,2,3] rfl (by decide) (by decide);obtain⟨a7,aT,V,Q⟩:=P.kh 0 [1,2] rfl (by decide) (by decide);refine xm (kN (t:=Chunk.t) (vs:=[.agg (Chunk.cells (Chunk.mk a.id a.jD A B) g m)]) (xs:=[(Chunk.mk a.id a.jD A B)]) kT Ty.zw rfl ⟨⟨g,m,rfl,Y,(mo U),V⟩,trivial⟩ rfl rfl Q) ?_;rintro aV bf q;refine ap 2 q (q.mi (k:=0) rfl) X ?_;intro a4 bg O;refine ax ?_;exact nm H ⟨_,a4,rfl,iI,pk [2] O⟩
   ·refine jf _ rfl ?_;exact nj ⟨l6,H,⟨_,f,rfl,iI,u⟩⟩
 ·rintro E w1 ⟨l2,H,h,l,rfl,aO,L⟩;exact rx H L
def sj.k2(x0:ig)(l4:List ie)(l8:List iu):Option ig :=
  bd (vX x0.chunks) λa =>
  bd (app (α:=iz) [] x0.iv) λkW =>
  some (ig.mk x0.seq l4 a l8 kW)
def sj.l3(x0:ig)(l4:List ie)(f:((List iu)×Int)→Option ig):((List iu)×Int)→Option ig
  | (c,a) =>
    if decide (a<(x0.im.length:Int))then
      bd (ix x0.im a) λb =>
      bd (DO b.locs) λe =>
      bd (app (α:=iu) c [(iu.mk b.seq b.of e)]) λd =>
      f (d,wr (a+1))
    else
      sj.k2 x0 l4 c
def sj.k1(x0:ig)(l4:List ie):Option ig :=
  loop (sj.l3 x0 l4) ([],0)
def sj.l4(x0:ig)(g:((List ie)×Int)→Option ig):((List ie)×Int)→Option ig
  | (c,a) =>
    if decide (a<(x0.ik.length:Int))then
      bd (ix x0.ik a) λb =>
      bd (vY b.iw) λe =>
      bd (DO b.locs) λf =>
      bd (app (α:=ie) c [(ie.mk b.seq e f)]) λd =>
      g (d,wr (a+1))
    else
      sj.k1 x0 c
def sj(x0:ig):Option ig :=
  loop (sj.l4 x0) ([],0)
set_option maxHeartbeats 2000000 in
theorem ZD{x0:ig}{r:ig}{l:gE}{g:gE}{d:gE}{b:gE}(hA:Gd F w)(aK:iq ie.t F l x0.ik)(aO:iq Chunk.t F g x0.chunks)(aR:iq iu.t F d x0.im)(aT:iq iz.t F b x0.iv)(H:sj x0=some r):iN il K 19 [.agg (ig.cells x0 l g d b)] w λv w'=>∃(F':gL)(a5:gE)(a6:gE)(a7:gE)(a8:gE),v = .agg (ig.cells r a5 a6 a7 a8)∧St [] w F F' [.row ie.t a5 (r.ik),.row Chunk.t a6 (r.chunks),.row iu.t a7 (r.im),.row iz.t a8 (r.iv)] w':=by
 refine lg Tryz.func19 ?_;have hS:=St.start hA;refine qs ?_;refine bx ([.i .i64 x0.seq,l,g,d,b]) ?_;intro c w1 bK;refine al ?_;intro e w2 M;refine qn ?_;refine aq ?_;refine iL (λE wq=>∃l4:List ie,sj.k1 x0 l4=some r ∧ ∃(n:gL)(a:gE),E=[(1,pl c 0),(2,pl e 0),(3,a)]∧F.le n∧iW M [.box e [.i .i64 0,.sl none 0 (.k 0),.sl none 0 (.k 0),.sl none 0 (.k 0),.sl none 0 (.k 0)],.box c [.i .i64 x0.seq,l,g,d,b],.row ie.t a l4] n wq) ?_ ?_
 ·refine ax ?_;refine jH (λ(s:(List ie)×Int) E wq=>∃(u:gL)(D:gE),E=[(1,pl c 0),(2,pl e 0),(3,D),(4,.i .i64 s.2)]∧F.le u∧iW M [.box e [.i .i64 0,.sl none 0 (.k 0),.sl none 0 (.k 0),.sl none 0 (.k 0),.sl none 0 (.k 0)],.box c [.i .i64 x0.seq,l,g,d,b],.row ie.t D s.1] u wq) H ?_ ?_
  ·have bg:=M.lb ie.t;exact lo ⟨F,(.sl none 0 (.k 0)),rfl,(gL.le.refl _),bg.pick [1,2,0] (by decide)⟩
  ·rintro ce ⟨b2,bX⟩ E c0 hI H
   try dsimp only at hI
   obtain⟨u,D,rfl,b4,bb⟩:=hI;refine ay ?_;refine qy H (λbi H=>?_) (λbi H=>?_)
   ·obtain⟨m,b0,H⟩:=iy H;obtain⟨_,⟨aD,Q,rfl,bv,bw⟩,bV⟩:=js 4 (aK.mono b4) b0;refine ay ?_;refine al ?_;intro aJ c1 bS;refine sb 0 ([.i .i64 m.seq,.s m.iw.name,aD,Q]) ?_;intro bC j;refine ay ?_;obtain⟨A,bs,aC,bt,H⟩:=iG H;have z:=j.mC 0 rfl;refine nA (G:=(u.hold bC [aJ])) [0,1,3,4,2,6,5,7,8,9] rfl Ty.mixed (by kernel_rfl) (HB.agree (HB.cons 0 z j rfl HB.nil) j.agree) ?_;refine au ?_;refine bL j 0 (iF.cells m.iw aD) [Q] ?_;refine au ?_;refine hl 0 z j ?_;refine ql (Tl j.iH bv bs) ?_;rintro ch c2 ⟨bH,I,rfl,bm,ak⟩;have P:=j.call ak;have b6:=ak.ext;refine nf 0 z P b6 ?_;refine au ?_;refine ql (Km P.iH (mo bw) bt) ?_;rintro S c3 ⟨bI,_,rfl,am⟩;have ae:=P.call am;have b7:=am.ext;refine nf 1 z ae b7 ?_;refine zX (by kernel_rfl) ae.agree ?_;refine sB 1 ([.i .i64 m.seq,.s A.name,I,Q]) ?_;intro c4 bT;refine au ?_;refine sC 1 ([.i .i64 m.seq,.s A.name,I,S]) ?_;intro c5 bc;obtain⟨bZ,bp,H⟩:=iy H;refine ax ?_;obtain⟨bF,cb,bk,bf⟩:=bc.kh 0 [1,2,3,4] rfl (by decide) (by decide);refine xm (kN (t:=ie.t) (vs:=[.agg (ie.cells (ie.mk m.seq A aC) I S)]) (xs:=[(ie.mk m.seq A aC)]) kR Ty.AG rfl ⟨⟨I,S,rfl,(mo bm),bk⟩,trivial⟩ rfl rfl bf) ?_;rintro cg c6 ah;refine ap 4 ah (ah.mi (k:=0) rfl) bp ?_;intro bB c7 be;refine ax ?_;exact nm H ⟨_,bB,rfl,iI,pk [2,3,4] be⟩
   ·refine jf _ rfl ?_;exact nj ⟨b2,H,⟨_,D,rfl,iI,bb⟩⟩
 ·rintro E w3 ⟨l4,H,n,a,rfl,ar,O⟩;refine aq ?_;refine iL (λE wq=>∃l8:List iu,sj.k2 x0 l4 l8=some r ∧ ∃(x:gL)(f:gE),E=[(1,pl c 0),(2,pl e 0),(3,a),(6,f)]∧n.le x∧iW O [.box e [.i .i64 0,.sl none 0 (.k 0),.sl none 0 (.k 0),.sl none 0 (.k 0),.sl none 0 (.k 0)],.box c [.i .i64 x0.seq,l,g,d,b],.row ie.t a l4,.row iu.t f l8] x wq) ?_ ?_
  ·refine ax ?_;refine jH (λ(s:(List iu)×Int) E wq=>∃(L:gL)(B:gE),E=[(1,pl c 0),(2,pl e 0),(3,a),(6,B),(7,.i .i64 s.2)]∧n.le L∧iW O [.box e [.i .i64 0,.sl none 0 (.k 0),.sl none 0 (.k 0),.sl none 0 (.k 0),.sl none 0 (.k 0)],.box c [.i .i64 x0.seq,l,g,d,b],.row ie.t a l4,.row iu.t B s.1] L wq) H ?_ ?_
   ·have ba:=O.lb iu.t;exact lo ⟨n,(.sl none 0 (.k 0)),rfl,(gL.le.refl _),ba.pick [1,2,3,0] (by decide)⟩
   ·rintro cd ⟨b1,bW⟩ E cr hI H
    try dsimp only at hI
    obtain⟨L,B,rfl,b3,aU⟩:=hI;refine ay ?_;refine qy H (λbh H=>?_) (λbh H=>?_)
    ·obtain⟨h,bz,H⟩:=iy H;obtain⟨_,⟨b9,rfl,bu⟩,bU⟩:=js 3 (aR.mono (ar.trans b3)) bz;refine ay ?_;refine al ?_;intro bJ ct bQ;refine sb 0 ([.i .i64 h.seq,.i .i64 h.of,b9]) ?_;intro cu Z;obtain⟨a9,br,H⟩:=iy H;refine ax ?_;refine lm (Km Z.iH bu br) ?_;rintro R cw ⟨bG,_,rfl,aj⟩;have bR:=Z.call aj;have cc:=aj.ext;refine au ?_;refine sc 1 ([.i .i64 h.seq,.i .i64 h.of,R]) ?_;intro cx aV;obtain⟨bY,bo,H⟩:=iy H;refine ax ?_;obtain⟨bE,ca,bj,aY⟩:=aV.kh 0 [1,2,3,4,5] rfl (by decide) (by decide);refine xm (kN (t:=iu.t) (vs:=[.agg (iu.cells (iu.mk h.seq h.of a9) R)]) (xs:=[(iu.mk h.seq h.of a9)]) mg Ty.BU rfl ⟨⟨R,rfl,bj⟩,trivial⟩ rfl rfl aY) ?_;rintro cf cy ad;refine ap 5 ad (ad.mi (k:=0) rfl) bo ?_;intro bA cz aX;refine ax ?_;exact nm H ⟨_,bA,rfl,iI,pk [2,3,4,5] aX⟩
    ·refine jf _ rfl ?_;exact nj ⟨b1,H,⟨_,B,rfl,iI,aU⟩⟩
  ·rintro E w7 ⟨l8,H,x,f,rfl,b5,p⟩;refine ay ?_;obtain⟨b8,bq,kW,bn,H⟩:=iG H;have y:=p.mC 1 rfl;refine nA (G:=(x.hold w7 [c])) [0,1,2,4,5,6,7,9,3,8,10,11,12,13,14,15,16] rfl Ty.mixed (by kernel_rfl) (HB.agree (HB.cons 1 y p rfl HB.nil) p.agree) ?_;refine au ?_;refine hl 1 y p ?_;refine au ?_;refine ql (NM p.iH (mo aO) bq) ?_;rintro q ck ⟨aH,_,rfl,ai⟩;have V:=p.call ai;have a4:=ai.ext;refine nf 2 y V a4 ?_;have X:=V.lb iz.t;refine qx (sM (t:=iz.t) 0 yF Ty.I6 Ty.XE rfl rfl X rfl ((aT.mono ((ar.trans b5).trans a4)).src X.agree) bn) ?_;rintro J cj U;refine qh 3 y U ?_;refine zX (by kernel_rfl) U.agree ?_;refine sC 3 ([.i .i64 x0.seq,a,g,d,b]) ?_;intro cl bM;refine au ?_;refine sC 3 ([.i .i64 x0.seq,a,q,d,b]) ?_;intro cm bN;refine au ?_;refine sC 3 ([.i .i64 x0.seq,a,q,f,b]) ?_;intro cn bO;refine au ?_;refine sC 3 ([.i .i64 x0.seq,a,q,f,J]) ?_;intro cp bP;refine ax ?_;refine sb 2 ([.i .i64 x0.seq,a,q,f,J]) ?_;intro cq Y;refine qn ?_;obtain rfl:=oi H;refine oH (vs:=[.agg (ig.cells (ig.mk x0.seq l4 b8 l8 kW) a q f J)]) rfl ⟨(oJ 2 Ty.rb Ty.rv Y rfl rfl),trivial⟩ ?_;exact⟨aH,a,q,f,J,rfl,Y.pick [4,1,5,0] (by decide)⟩
def Kl(x0:Change):Option Change :=
  bd (vY x0.snap.iw) λb =>
  bd (DO x0.snap.locs) λc =>
  bd (vX x0.chunks) λa =>
  bd (app (α:=Item) [] x0.items) λlx =>
  some (Change.mk x0.kind (ie.mk x0.snap.seq b c) a x0.seq x0.iQ lx)
theorem ZE{x0:Change}{r:Change}{n:gE}{k:gE}{h:gE}{f:gE}(hA:Gd F w)(X:iq Part.t F n x0.snap.iw.parts)(Y:iq Loc.t F k x0.snap.locs)(Z:iq Chunk.t F h x0.chunks)(ad:iq Item.t F f x0.items)(H:Kl x0=some r):iN il K 72 [.agg (Change.cells x0 n k h f)] w λv w'=>∃(F':gL)(P:gE)(Q:gE)(R:gE)(S:gE),v = .agg (Change.cells r P Q R S)∧iq Part.t F' P (r.snap.iw.parts)∧iq Loc.t F' Q (r.snap.locs)∧iq Chunk.t F' R (r.chunks)∧iq Item.t F' S (r.items)∧St [] w F F' [] w':=by
 refine lg Tryz.func72 ?_;have hS:=St.start hA;refine qs ?_;refine bx ([.i .i64 x0.kind,.i .i64 x0.snap.seq,.s x0.snap.iw.name,n,k,h,.i .i64 x0.seq,.i .i64 x0.iQ,f]) ?_;intro p w1 aT;refine al ?_;intro V w2 d;refine ay ?_;obtain⟨b,a7,r4,a8,H⟩:=iG H;have m:=d.mC 1 rfl;refine nA (G:=(F.hold w2 [p])) [0,1,2,4,5,6,3,8,9,7,10,11,12,13] rfl Ty.mixed (by kernel_rfl) (HB.agree (HB.cons 1 m d rfl HB.nil) d.agree) ?_;refine au ?_;refine bL d 1 (iF.cells x0.snap.iw n) [k,h,.i .i64 x0.seq,.i .i64 x0.iQ,f] ?_;refine au ?_;refine hl 1 m d ?_;refine ql (Tl d.iH X a7) ?_;rintro v6 w6 ⟨aR,a,rfl,a4,I⟩;have q:=d.call I;have M:=I.ext;refine nf 1 m q M ?_;refine au ?_;refine ql (Km q.iH (mo Y) a8) ?_;rintro c w7 ⟨U,_,rfl,J⟩;have B:=q.call J;have O:=J.ext;refine nf 2 m B O ?_;refine zX (by kernel_rfl) B.agree ?_;refine sB 2 ([.i .i64 x0.kind,.i .i64 x0.snap.seq,.s b.name,a,k,h,.i .i64 x0.seq,.i .i64 x0.iQ,f]) ?_;intro w8 aX;refine au ?_;refine sC 2 ([.i .i64 x0.kind,.i .i64 x0.snap.seq,.s b.name,a,c,h,.i .i64 x0.seq,.i .i64 x0.iQ,f]) ?_;intro w9 g;refine ay ?_;obtain⟨a9,a6,lx,a5,H⟩:=iG H;have l:=g.mC 2 rfl;refine nA (G:=(U.hold w9 [p])) [0,1,3,4,5,2,7,6,8,9,10] rfl Ty.mixed (by kernel_rfl) (HB.agree (HB.cons 2 l g rfl HB.nil) g.agree) ?_;refine au ?_;refine hl 2 l g ?_;refine ql (NM g.iH (mo Z) a6) ?_;rintro e bg ⟨aO,_,rfl,D⟩;have y:=g.call D;have L:=D.ext;refine nf 3 l y L ?_;refine au ?_;have z:=y.lb Item.t;refine qx (sM (t:=Item.t) 0 Tryz.underlying62 Ty.LX Ty.XF rfl rfl z rfl ((ad.mono ((M.trans O).trans L)).src z.agree) a5) ?_;rintro j bf x;refine qh 4 l x ?_;refine zX (by kernel_rfl) x.agree ?_;refine sC 4 ([.i .i64 x0.kind,.i .i64 x0.snap.seq,.s b.name,a,c,e,.i .i64 x0.seq,.i .i64 x0.iQ,f]) ?_;intro bh aU;refine au ?_;refine sC 4 ([.i .i64 x0.kind,.i .i64 x0.snap.seq,.s b.name,a,c,e,.i .i64 x0.seq,.i .i64 x0.iQ,j]) ?_;intro bi aV;refine ax ?_;refine sb 3 ([.i .i64 x0.kind,.i .i64 x0.snap.seq,.s b.name,a,c,e,.i .i64 x0.seq,.i .i64 x0.iQ,j]) ?_
 intro bj ae;refine qn ?_;obtain⟨aJ,aY,ak,ah⟩:=ae.kh 2 [0,1,3,4] rfl (by decide) (by decide);obtain⟨aK,ba,am,ai⟩:=ah.kh 1 [0,2,3] rfl (by decide) (by decide);obtain⟨u,bb,ar,aj⟩:=ai.kh 0 [1,2] rfl (by decide) (by decide);have A:St [] w F u [.box V [.i .i64 x0.kind,.i .i64 x0.snap.seq,.s b.name,a,c,e,.i .i64 x0.seq,.i .i64 x0.iQ,j],.box p [.i .i64 x0.kind,.i .i64 x0.snap.seq,.s b.name,a,c,e,.i .i64 x0.seq,.i .i64 x0.iQ,j]] _:=aj;obtain rfl:=oi H;refine oH (vs:=[.agg (Change.cells (Change.mk x0.kind (ie.mk x0.snap.seq b r4) a9 x0.seq x0.iQ lx) a c e j)]) rfl ⟨(oJ 0 Ty.zY Ty.AL A rfl rfl),trivial⟩ ?_;exact⟨u,a,c,e,j,rfl,(mo a4),(mo ak),(mo am),ar,A.pick [] (by decide)⟩
def wY.k1(x0:List Chunk)(x1:Chunk)(a:Int):Option (List Chunk) :=
  bd (only (decide (a<(x0.length:Int))) (ix x0 a) (Chunk.mk (iV 32 (0:UInt8)) false [] [])) λx4 =>
  if(decide (a<(x0.length:Int))&&decide (x4.id=x1.id))then
    bd (vX x0) λc =>
    bd (Cr x1.data) λj =>
    bd (ix c a) λb =>
    bd (ix (c.set a.toNat (Chunk.mk b.id true b.data b.locs)) a) λd =>
    some ((c.set a.toNat (Chunk.mk b.id true b.data b.locs)).set a.toNat (Chunk.mk d.id d.jD j d.locs))
  else
    bd (cut (α:=Chunk) x0 0 a) λe =>
    bd (app (α:=Chunk) [] e) λf =>
    bd (app (α:=Chunk) f [x1]) λg =>
    bd (cut (α:=Chunk) x0 a (x0.length:Int)) λh =>
    bd (app (α:=Chunk) g h) λi =>
    some i
def wY.l2(x0:List Chunk)(x1:Chunk)(c:Int→Option (List Chunk)):Int→Option (List Chunk)
  | a =>
    bd (only (decide (a<(x0.length:Int))) (ix x0 a) (Chunk.mk (iV 32 (0:UInt8)) false [] [])) λd =>
    bd (only (decide (a<(x0.length:Int))) (Ac d.id x1.id) false) λb =>
    if(decide (a<(x0.length:Int))&&b)then
      c (wr (a+1))
    else
      wY.k1 x0 x1 a
def wY(x0:List Chunk)(x1:Chunk):Option (List Chunk) :=
  loop (wY.l2 x0 x1) 0
set_option maxHeartbeats 2000000 in
theorem Z0{x0:List Chunk}{x1:Chunk}{r:(List Chunk)}{I:gE}{f:gE}{g:gE}(hA:Gd F w)(a:iq Chunk.t F I x0)(ai:iq tB F f x1.data)(aX:iq Loc.t F g x1.locs)(ad:(x1.id).length=32)(H:wY x0 x1=some r):iN il K 117 [I,.agg (Chunk.cells x1 f g)] w λv w'=>∃(F':gL)(q0:gE),v=q0∧St [] w F F' [.row Chunk.t q0 (r)] w':=by
 refine kB Tryz.func117 ?_;have hS:=St.start hA;refine qs ?_;refine bx (iJ x1.id++([.b x1.jD,f,g]:List gE)) ?_;intro P w1 aj;refine au ?_;refine aq ?_;refine iL (λE wq=>∃e:Int,wY.k1 x0 x1 e=some r ∧ ∃(p:gL),E=[(0,I),(3,pl P 0),(5,.i .i64 e)]∧F.le p∧mq aj p wq) ?_ ?_
 ·refine qZ ?_;refine lj aj (λs:Int=>[(0,I),(3,pl P 0),(5,.i .i64 s)]) H ?_;intro co aR bG cA aT l H;refine ay ?_;obtain⟨ae,n,cn,br,H⟩:=iG H;have A:(ae.id).length=32:=by
   rcases nk (decide (aR<(x0.length:Int)))with U|U
   ·have aJ:=n;rw[jX U]at aJ;obtain⟨bV,b6⟩:=iD aJ;obtain⟨bK,bs,X⟩:=(a.mono aT).el b6;obtain⟨bA,bB,rfl,A,bv,bw⟩:=bs;replace X:=qj 35 X;have bP:=X.ky;exact A
   ·have hy:=n;rw[me U]at hy;obtain rfl:=oi hy
    rfl
  refine rf l ?_;refine aw ?_;refine ge (mo a) n ?_;refine ge (mo a) n ?_;refine nO (v:=.agg (iJ ae.id)) rfl rfl rfl rfl (λ⟨a9,_⟩=>?_) ?_
  ·rw[a9];intro hK;have aK:=n;rw[jX a9]at aK;obtain⟨bW,b7⟩:=iD aK;obtain⟨bM,bt,z⟩:=(a.mono aT).el b7;obtain⟨bA,bB,rfl,A,bv,bw⟩:=bt;replace z:=qj 35 z;have bQ:=z.ky;refine qq (pw 0 (iJ ae.id) Ty.pJ Ty.nx rfl (z.mono l.agree) (by first|omega|rfl) rfl (kY rfl)) ?_;exact hK
  refine aw ?_;refine nO (v:=.agg (iJ x1.id)) rfl rfl rfl rfl (λ⟨bf,_⟩=>?_) ?_
  ·rw[bf];exact(qq (rC 0 (iJ x1.id) Ty.pJ Ty.nx (oQ _) rfl l rfl (λq u h=>o5 (post:=[.b x1.jD,f,g]) rfl h)) ·)
  refine gw l br (λy=>Tv l.iH A ad y) ?_;intro cC S;refine qw S ?_;refine aw ?_;refine qy H (λbh H=>?_) (λbh H=>?_)
  ·refine ax ?_;exact nm H (jj S)
  ·refine jf _ rfl ?_;exact nj ⟨aR,H,jj S⟩
 ·rintro E w2 ⟨e,H,p,rfl,D,d⟩;refine ay ?_;obtain⟨x4,m,H⟩:=iy H;have B:(x4.id).length=32:=by
   rcases nk (decide (e<(x0.length:Int)))with V|V
   ·have aO:=m;rw[jX V]at aO;obtain⟨bX,b8⟩:=iD aO;obtain⟨bN,bu,Y⟩:=(a.mono D).el b8;obtain⟨bC,bD,rfl,B,bz,b0⟩:=bu;replace Y:=qj 35 Y;have bR:=Y.ky;exact B
   ·have hy:=m;rw[me V]at hy;obtain rfl:=oi hy
    rfl
  refine rn ?_;refine aw ?_;refine ge (mo a) m ?_;refine ge (mo a) m ?_;refine nO (v:=.agg (iJ x4.id)) rfl rfl rfl rfl (λ⟨a8,_⟩=>?_) ?_
  ·rw[a8];intro hK;have aH:=m;rw[jX a8]at aH;obtain⟨bU,b5⟩:=iD aH;obtain⟨bJ,bo,x⟩:=(a.mono D).el b5;obtain⟨bC,bD,rfl,B,bz,b0⟩:=bo;replace x:=qj 35 x;have bO:=x.ky;refine qr (pw 0 (iJ x4.id) Ty.pJ Ty.nx rfl (x.mono d.agree) (by first|omega|rfl) rfl (kY rfl)) ?_;exact hK
  refine aw ?_;refine nO (v:=.agg (iJ x1.id)) rfl rfl rfl rfl (λ⟨bc,_⟩=>?_) ?_
  ·rw[bc];exact(qr (rC 0 (iJ x1.id) Ty.pJ Ty.nx (oQ _) rfl d rfl (λq u h=>o5 (post:=[.b x1.jD,f,g]) rfl h)) ·)
  refine nO (v:=.b (decide (x4.id=x1.id))) rfl rfl rfl rfl (λ⟨be,_⟩=>?_) ?_
  ·rw[be];exact(qr (iB rfl rfl (z7 Ty.Ag rfl rfl (Af B ad))) ·)
  refine aw ?_;refine qy H (λbg H=>?_) (λbg H=>?_)
  ·obtain⟨cm,bp,H⟩:=iy H;refine aq ?_;refine lm (NM d.iH (mo a) bp) ?_;rintro cw c2 ⟨bH,_,rfl,a6⟩;have ak:=d.call a6;have ci:=a6.ext;obtain⟨b9,bq,J,aC,H⟩:=iG H;obtain⟨L,aD,H⟩:=iy H;refine ax ?_;refine lm (Ko ak.iH (mo ai) bq) ?_;rintro aV c3 ⟨bI,_,rfl,a7⟩;have am:=ak.call a7;have cj:=a7.ext;obtain⟨_,⟨cq,cr,rfl,bS,bY,bZ⟩,_⟩:=mw 35 1 am aC;refine au ?_;refine um (pT (c:=[.b true]) 1 (e.toNat) 32 J (Chunk.mk J.id true J.data J.locs) rfl rfl am rfl (iD aC).2 (by first|rfl|(show _=_*35+_;omega)) rfl Ty.L9 rfl (kY rfl) (by rintro cs ⟨a2,a3,rfl,O,b2,M⟩;exact⟨a2,a3,rfl,O,b2,M⟩)) ?_;rintro _ c4 ar;obtain⟨_,⟨ct,cu,rfl,bT,ca,cb⟩,_⟩:=mw 35 1 ar aD;refine au ?_;obtain⟨bF,ch,Z,ba⟩:=ar.kh 0 [1,2] rfl (by decide) (by decide);refine um (pT (c:=[aV]) 0 (e.toNat) 33 L (Chunk.mk L.id L.jD b9 L.locs) rfl rfl ba rfl (iD aD).2 (by first|rfl|(show _=_*35+_;omega)) Z.ln.cells Ty.Ew (by simp only[nJ,oG,lz,Z.ln.one];rfl) (kY rfl) (by rintro cs ⟨a2,a3,rfl,O,b2,M⟩;exact⟨aV,a3,rfl,O,Z,M⟩)) ?_;rintro _ c5 aY;refine qn ?_;exact rx H (pk [0] aY)
  ·refine ay ?_;obtain⟨cc,bi,cd,bj,H⟩:=iG H;obtain⟨ce,bk,H⟩:=iy H;have j:=d.mC 0 rfl;refine nA (G:=(p.hold w2 [P])) [0,1,2,3,5,6,4,7,8] rfl Ty.mixed (by kernel_rfl) (HB.agree (HB.cons 0 j d rfl HB.nil) d.agree) ?_;refine au ?_;refine wO 0 e rfl rfl rfl rfl kT Ty.nX rfl (.inl ⟨rfl,rfl⟩) (.inr ⟨_,_,rfl,rfl⟩) a bi ?_;intro ck b1;refine qr (A4 (Chunk.cells x1 f g) Ty.Nn Ty.nX (oQ _) rfl (j.held (HB.cons 0 j d rfl HB.nil) (by simp)) (λq u h=>o5 (post:=[]) rfl h)) ?_;refine qx (kN (t:=Chunk.t) (vs:=[.agg (Chunk.cells x1 f g)]) (xs:=[x1]) kT Ty.zw rfl ⟨⟨f,g,rfl,ad,(mo ai),(mo aX)⟩,trivial⟩ rfl rfl d) ?_;rintro cp c6 a4;refine qh 1 j a4 ?_;have a5:=a4.lb Chunk.t;refine qx (sM (t:=Chunk.t) 0 kT Ty.zw Ty.Q8 rfl rfl a5 rfl ((b1.mono D).src a5.agree) bj) ?_;rintro cx c7 Q;refine qh 2 j Q ?_;refine qx (sM (t:=Chunk.t) 0 kT Ty.zw Ty.Q8 rfl rfl Q rfl (Q.mi (k:=1) rfl) bk) ?_;rintro cy c8 R;refine qh 2 j R ?_;obtain⟨cf,bm,cg,bn,H⟩:=iG H;refine ax ?_;refine wO e (x0.length:Int) rfl rfl rfl rfl kT Ty.nX rfl (.inr ⟨_,_,rfl,rfl⟩) (.inl ⟨rfl,rfl⟩) a bm ?_;intro cl b4;refine ap 0 R ((b4.mono D).src R.agree) bn ?_;intro cz c9 bb;exact rx H (pk [0] bb)
def Ku(x0:ig)(x1:Int)(x2:Int)(x3:Int):Option (Bool×ig) :=
  bd (only (decide (0≤x1)&&decide (x1<(x0.iv.length:Int))) (ix x0.iv x1) (iz.mk 0 0 0 0)) λx4 =>
  bd (only ((decide (0≤x1)&&decide (x1<(x0.iv.length:Int)))&&(!decide (x4.state=x2))) (ix x0.iv x1) (iz.mk 0 0 0 0)) λx6 =>
  some (((decide (0≤x1)&&decide (x1<(x0.iv.length:Int)))&&(decide (x4.state=x2)||decide (x6.state=x3))),x0)
theorem Z3{X:List Nat}{x0:ig}{x1:Int}{x2:Int}{x3:Int}{r:Bool×ig}{jJ:Nat}{e:gE}{f:gE}{g:gE}{h:gE}(hS:St X w F F [.box jJ [.i .i64 x0.seq,e,f,g,h],.row ie.t e x0.ik,.row Chunk.t f x0.chunks,.row iu.t g x0.im,.row iz.t h x0.iv] w)(H:Ku x0 x1 x2 x3=some r):iN il K 119 [pl jJ 0,.i .i64 x1,.i .i64 x2,.i .i64 x3] w λv w'=>∃(F':gL),v = .b r.1∧St X w F F' [.box jJ [.i .i64 r.2.seq,e,f,g,h],.row ie.t e r.2.ik,.row Chunk.t f r.2.chunks,.row iu.t g r.2.im,.row iz.t h r.2.iv] w':=by
 refine qa4 Tryz.func119 ?_;refine aq ?_;refine kr ?_;obtain⟨x4,u,x6,M,H⟩:=iG H;refine sL (λE wq=>E=[(8,.b ((decide (0≤x1)&&decide (x1<(x0.iv.length:Int)))&&(decide (x4.state=x2)||decide (x6.state=x3))))] ∧ ∃n:gL,F.le n∧St X w F n [.box jJ [.i .i64 x0.seq,e,f,g,h],.row ie.t e x0.ik,.row Chunk.t f x0.chunks,.row iu.t g x0.im,.row iz.t h x0.iv] wq) ?_ ?_
 ·
  rcases nk (decide (0≤x1))with a|a
  ·
   rcases nk (decide (x1<(x0.iv.length:Int)))with c|c
   ·
    rcases nk (decide (x4.state=x2))with d|d
    ·refine qd ?_;refine qc ?_;refine qr (iB rfl rfl DH) ?_;refine qc ?_;refine kC 11 a ?_;refine q3 ?_;refine qf Ty.DR ?_;refine qb 0 Ty.DJ hS ?_;refine qr (jV yF rfl (hS.kH (k:=4) rfl)) ?_;refine qr (iB rfl rfl qv) ?_;refine q2 ?_;refine kC 20 c ?_;refine q2 ?_;refine qf Ty.DR ?_;refine qb 0 Ty.DJ hS ?_;refine qc ?_;have x:=u;rw[jX (by first|rfl|(rw[c,a];first|done|rfl)|simp[a,c,d])]at x;obtain⟨B,O⟩:=iD x;obtain⟨R,I,j⟩:=hS.rowAt (k:=4) rfl O;obtain rfl:=I;replace j:=qj 4 j;have p:=j.ky;refine qi yF Ty.Ma p B ?_;refine qr (nr 2 Ty.KE rfl p) ?_;refine qr (la 2 Ty.pL rfl j (by first|omega|rfl) rfl) ?_;refine qc ?_;refine qr (iB rfl rfl nQ) ?_;refine qc ?_;refine kC 31 d ?_;refine je ?_;refine je ?_;refine je ?_;refine je ?_;refine je ?_;refine q3 ?_;refine ku ?_;exact lW _ ⟨rfl,F,(gL.le.refl _),hS⟩ ⟨(lZ rfl (by first|rfl|(rw[c,d,a];first|done|rfl)|simp[a,c,d])),trivial⟩
    ·refine qd ?_;refine qc ?_;refine qr (iB rfl rfl DH) ?_;refine qc ?_;refine kC 11 a ?_;refine q3 ?_;refine qf Ty.DR ?_;refine qb 0 Ty.DJ hS ?_;refine qr (jV yF rfl (hS.kH (k:=4) rfl)) ?_;refine qr (iB rfl rfl qv) ?_;refine q2 ?_;refine kC 20 c ?_;refine q2 ?_;refine qf Ty.DR ?_;refine qb 0 Ty.DJ hS ?_;refine qc ?_;have y:=u;rw[jX (by first|rfl|(rw[c,a];first|done|rfl)|simp[a,c,d])]at y;obtain⟨D,P⟩:=iD y;obtain⟨S,J,l⟩:=hS.rowAt (k:=4) rfl P;obtain rfl:=J;replace l:=qj 4 l;have q:=l.ky;refine qi yF Ty.Ma q D ?_;refine qr (nr 2 Ty.KE rfl q) ?_;refine qr (la 2 Ty.pL rfl l (by first|omega|rfl) rfl) ?_;refine qc ?_;refine qr (iB rfl rfl nQ) ?_;refine qc ?_;refine kC 31 d ?_;refine q2 ?_;refine qf Ty.DR ?_;refine qb 0 Ty.DJ hS ?_;refine qc ?_;have z:=M;rw[jX (by first|rfl|(rw[c,d,a];first|done|rfl)|simp[a,c,d])]at z;obtain⟨G,Q⟩:=iD z;obtain⟨U,L,m⟩:=hS.rowAt (k:=4) rfl Q;obtain rfl:=L;replace m:=qj 4 m;have s:=m.ky;refine qi yF Ty.Ma s G ?_;refine qr (nr 2 Ty.KE rfl s) ?_;refine qr (la 2 Ty.pL rfl m (by first|omega|rfl) rfl) ?_;refine qc ?_;refine qr (iB rfl rfl nQ) ?_;refine q3 ?_;refine ku ?_;exact lW _ ⟨rfl,F,(gL.le.refl _),hS⟩ ⟨(lZ rfl (by first|rfl|(rw[c,d,a];first|done|rfl)|simp[a,c,d])),trivial⟩
   ·refine qd ?_;refine qc ?_;refine qr (iB rfl rfl DH) ?_;refine qc ?_;refine kC 11 a ?_;refine q3 ?_;refine qf Ty.DR ?_;refine qb 0 Ty.DJ hS ?_;refine qr (jV yF rfl (hS.kH (k:=4) rfl)) ?_;refine qr (iB rfl rfl qv) ?_;refine q2 ?_;refine kC 20 c ?_;refine je ?_;refine je ?_;refine je ?_;refine je ?_;refine je ?_;refine je ?_;refine je ?_;refine je ?_;refine je ?_;refine je ?_;refine je ?_;refine q2 ?_;refine ku ?_;exact lW _ ⟨rfl,F,(gL.le.refl _),hS⟩ ⟨(lZ rfl (by first|rfl|(rw[c,a];first|done|rfl)|simp[a,c])),trivial⟩
  ·refine qd ?_;refine qc ?_;refine qr (iB rfl rfl DH) ?_;refine qc ?_;refine kC 11 a ?_;refine je ?_;refine je ?_;refine je ?_;refine qz ?_;refine q2 ?_;refine je ?_;refine je ?_;refine je ?_;refine je ?_;refine je ?_;refine je ?_;refine je ?_;refine je ?_;refine je ?_;refine je ?_;refine je ?_;refine q2 ?_;refine ku ?_;exact lW _ ⟨rfl,F,(gL.le.refl _),hS⟩ ⟨(lZ rfl (by first|rfl|(rw[a];first|done|rfl)|simp[a])),trivial⟩
 rintro E Y ⟨rfl,n,V,A⟩;refine nN ?_;exact rz H A
def Kr (x0:Loc) (x1:Loc):Option Bool :=
  if decide (x0.iQ≠x1.iQ)then
    some (decide (x0.iQ<x1.iQ))
  else
    if decide (x0.file≠x1.file)then
      some (decide (x0.file<x1.file))
    else
      if decide (x0.off≠x1.off)then
        some (decide (x0.off<x1.off))
      else
        some (decide (x0.len<x1.len))
theorem ZW{x0:Loc}{x1:Loc}{r:Bool}(hA:Gd F w)(H:Kr x0 x1=some r):iN il K 110 [.agg (Loc.cells x0),.agg (Loc.cells x1)] w λv w'=>∃(F':gL),v = .b r∧St [] w F F' [] w':=by
 refine kB Tryz.func110 ?_;have hS:=St.start hA;refine qs ?_;refine bx ([.i .i64 x0.iQ,.i .i64 x0.file,.i .i64 x0.off,.i .i64 x0.len]) ?_;intro f j h;refine bx ([.i .i64 x1.iQ,.i .i64 x1.file,.i .i64 x1.off,.i .i64 x1.len]) ?_;intro g k a;refine ay ?_;refine qy H (λc H=>?_) (λc H=>?_)
 ·exact rz H a
 ·refine ay ?_;refine qy H (λd H=>?_) (λd H=>?_)
  ·exact rz H a
  ·refine ay ?_;refine qy H (λe H=>?_) (λe H=>?_)
   ·exact rz H a
   ·refine qk ?_;exact rz H a
def vZ.k1(x0:List Loc)(x1:Loc)(a:Int):Option (List Loc) :=
  bd (cut (α:=Loc) x0 0 a) λl4 =>
  bd (app (α:=Loc) [] l4) λl7 =>
  bd (app (α:=Loc) l7 [x1]) λl9 =>
  bd (cut (α:=Loc) x0 a (x0.length:Int)) λnF =>
  bd (app (α:=Loc) l9 nF) λb =>
  some b
def vZ.l2(x0:List Loc)(x1:Loc)(c:Int→Option (List Loc)):Int→Option (List Loc)
  | a =>
    bd (only (decide (a<(x0.length:Int))) (ix x0 a) (Loc.mk 0 0 0 0)) λd =>
    bd (only (decide (a<(x0.length:Int))) (Kr d x1) false) λb =>
    if(decide (a<(x0.length:Int))&&b)then
      c (wr (a+1))
    else
      vZ.k1 x0 x1 a
def vZ(x0:List Loc)(x1:Loc):Option (List Loc) :=
  loop (vZ.l2 x0 x1) 0
theorem NO{x0:List Loc}{x1:Loc}{r:(List Loc)}{g:gE}(hA:Gd F w)(e:iq Loc.t F g x0)(H:vZ x0 x1=some r):iN il K 157 [g,.agg (Loc.cells x1)] w λv w'=>∃(F':gL)(D:gE),v=D∧St [] w F F' [.row Loc.t D (r)] w':=by
 refine kB Tryz.func157 ?_;have hS:=St.start hA;refine qs ?_;refine bx ([.i .i64 x1.iQ,.i .i64 x1.file,.i .i64 x1.off,.i .i64 x1.len]) ?_;intro j w1 p;refine au ?_;refine aq ?_;refine iL (λE wq=>∃c:Int,vZ.k1 x0 x1 c=some r ∧ ∃(d:gL),E=[(0,g),(3,pl j 0),(5,.i .i64 c)]∧F.le d∧mq p d wq) ?_ ?_
 ·refine qZ ?_;refine lj p (λs:Int=>[(0,g),(3,pl j 0),(5,.i .i64 s)]) H ?_;intro ak X Z a9 ae f H;refine ay ?_;obtain⟨aJ,A,aj,S,H⟩:=iG H;refine rf f ?_;refine aw ?_;refine ge (mo e) A ?_;refine ge (mo e) A ?_;refine nO (v:=.agg (Loc.cells x1)) rfl rfl rfl rfl (λ⟨J,_⟩=>?_) ?_
  ·rw[J];exact(qq (rC 0 (Loc.cells x1) Ty.Cm Ty.ug (oQ _) rfl f rfl (λq u h=>o5 (post:=[]) rfl h)) ·)
  refine gw f S (λy=>ZW f.iH y) ?_;intro aC m;refine qw m ?_;refine aw ?_;refine qy H (λL H=>?_) (λL H=>?_)
  ·refine ax ?_;exact nm H (jj m)
  ·refine jf _ rfl ?_;exact nj ⟨X,H,jj m⟩
 ·rintro E Y ⟨c,H,d,rfl,B,b⟩;refine ay ?_;obtain⟨l4,P,l7,Q,H⟩:=iG H;obtain⟨l9,R,H⟩:=iy H;have a:=b.mC 0 rfl;refine nA (G:=(d.hold Y [j])) [0,1,2,3,5,6,4,7,8] rfl Ty.mixed (by kernel_rfl) (HB.agree (HB.cons 0 a b rfl HB.nil) b.agree) ?_;refine au ?_;refine wO 0 c rfl rfl rfl rfl ov Ty.ug rfl (.inl ⟨rfl,rfl⟩) (.inr ⟨_,_,rfl,rfl⟩) e P ?_;intro q5 V;refine qr (A4 (Loc.cells x1) Ty.Cm Ty.ug (oQ _) rfl (a.held (HB.cons 0 a b rfl HB.nil) (by simp)) (λq u h=>o5 (post:=[]) rfl h)) ?_;refine qx (kN (t:=Loc.t) (vs:=[.agg (Loc.cells x1)]) (xs:=[x1]) ov Ty.yt rfl ⟨rfl,trivial⟩ rfl rfl b) ?_;rintro u6 w6 z;refine qh 1 a z ?_;have x:=z.lb Loc.t;refine qx (sM (t:=Loc.t) 0 ov Ty.yt Ty.GP rfl rfl x rfl ((V.mono B).src x.agree) Q) ?_;rintro v8 w8 n;refine qh 2 a n ?_;refine qx (sM (t:=Loc.t) 0 ov Ty.yt Ty.GP rfl rfl n rfl (n.mi (k:=1) rfl) R) ?_;rintro ar a7 l;refine qh 2 a l ?_;obtain⟨nF,M,ad,O,H⟩:=iG H;refine ax ?_;refine wO c (x0.length:Int) rfl rfl rfl rfl ov Ty.ug rfl (.inr ⟨_,_,rfl,rfl⟩) (.inl ⟨rfl,rfl⟩) e M ?_;intro ah U;refine ap 0 l ((U.mono B).src l.agree) O ?_;intro a4 a8 I;exact rx H (pk [0] I)
def pb.k1(x0:ig)(a:Int)(l5:List iu)(l8:List Chunk):Option (Bool×ig) :=
  some (true,(ig.mk a x0.ik l8 l5 x0.iv))
def pb.k2(x0:ig):Option (Bool×ig) :=
  some (false,x0)
def pb.l3(x0:ig)(x1:Item)(x2:Loc)(d:Int→Option (Bool×ig)):Int→Option (Bool×ig)
  | a =>
    if decide (a<(x0.ik.length:Int))then
      bd (ix x0.ik a) λe =>
      if decide (e.seq=x1.seq)then
        bd (ix x0.ik a) λb =>
        bd (vZ b.locs x2) λc =>
        some (true,(ig.mk x0.seq (x0.ik.set a.toNat (ie.mk b.seq b.iw c)) x0.chunks x0.im x0.iv))
      else
        d (wr (a+1))
    else
      pb.k2 x0
def pb.k4(x0:ig)(x1:Item)(x2:Loc)(a:Int):Option (Bool×ig) :=
  bd (only (decide (a<(x0.im.length:Int))) (ix x0.im a) (iu.mk 0 0 [])) λi =>
  if(decide (a<(x0.im.length:Int))&&decide (i.seq=x1.seq))then
    bd (ix x0.im a) λb =>
    bd (vZ b.locs x2) λh =>
    some (true,(ig.mk x0.seq x0.ik x0.chunks (x0.im.set a.toNat (iu.mk b.seq b.of h)) x0.iv))
  else
    bd (cut (α:=iu) x0.im 0 a) λd =>
    bd (app (α:=iu) [] d) λe =>
    bd (app (α:=iu) e [(iu.mk x1.seq x1.of [x2])]) λf =>
    bd (cut (α:=iu) x0.im a (x0.im.length:Int)) λg =>
    bd (app (α:=iu) f g) λc =>
    if(decide (x0.seq≤x1.seq)&&decide (x1.seq<4611686018427387904))then
      pb.k1 x0 (wr (x1.seq+1)) c x0.chunks
    else
      pb.k1 x0 x0.seq c x0.chunks
def pb.l5(x0:ig)(x1:Item)(x2:Loc)(b:Int→Option (Bool×ig)):Int→Option (Bool×ig)
  | a =>
    bd (only (decide (a<(x0.im.length:Int))) (ix x0.im a) (iu.mk 0 0 [])) λc =>
    if(decide (a<(x0.im.length:Int))&&decide (c.seq<x1.seq))then
      b (wr (a+1))
    else
      pb.k4 x0 x1 x2 a
def pb(x0:ig)(x1:Item)(x2:Loc):Option (Bool×ig) :=
  if decide (x1.kind=1)then
    bd (ta x0 x1.id) λb =>
    if decide (b<0)then
      some (false,x0)
    else
      bd (ix x0.chunks b) λa =>
      bd (vZ a.locs x2) λc =>
      pb.k1 x0 x0.seq x0.im (x0.chunks.set b.toNat (Chunk.mk a.id a.jD a.data c))
  else
    if decide (x1.kind=2)then
      loop (pb.l3 x0 x1 x2) 0
    else
      loop (pb.l5 x0 x1 x2) 0
set_option maxHeartbeats 2000000 in
theorem Z4{X:List Nat}{x0:ig}{x1:Item}{x2:Loc}{r:Bool×ig}{jJ:Nat}{f:gE}{g:gE}{n:gE}{j:gE}(hS:St X w F F [.box jJ [.i .i64 x0.seq,f,g,n,j],.row ie.t f x0.ik,.row Chunk.t g x0.chunks,.row iu.t n x0.im,.row iz.t j x0.iv] w)(cf:(x1.id).length=32)(H:pb x0 x1 x2=some r):iN il K 120 [pl jJ 0,.agg (Item.cells x1),.agg (Loc.cells x2)] w λv w'=>∃(F':gL)(bt:gE),v = .b r.1∧St X w F F' [.box jJ [.i .i64 r.2.seq,f,g,bt,j],.row ie.t f r.2.ik,.row Chunk.t g r.2.chunks,.row iu.t bt r.2.im,.row iz.t j r.2.iv] w':=by
 refine vH Tryz.func120 ?_;refine qs ?_;refine bx (([.i .i64 x1.kind]:List gE)++iJ x1.id++([.i .i64 x1.seq,.i .i64 x1.of,.i .i64 x1.off,.i .i64 x1.len]:List gE)) ?_;intro z w1 c6;refine bx ([.i .i64 x2.iQ,.i .i64 x2.file,.i .i64 x2.off,.i .i64 x2.len]) ?_;intro A w2 l;refine au ?_;refine iL (λE wq=>∃i4:Int,∃l5:List iu,∃l8:List Chunk,pb.k1 x0 i4 l5 l8=some r ∧ ∃(F3:gL)(u6:gE),E=[]∧F.le F3∧iW l [.box jJ [.i .i64 i4,f,g,u6,j],.row ie.t f x0.ik,.row Chunk.t g l8,.row iz.t j x0.iv,.row iu.t u6 l5] F3 wq) ?_ ?_
 ·refine ax ?_;refine qy H (λbB H=>?_) (λbB H=>?_)
  ·refine kr ?_;obtain⟨bo,bO,H⟩:=iy H;refine rf l ?_;refine au ?_;refine bL l 2 (ig.cells x0 f g n j) [] ?_;refine au ?_;refine bL l 1 (iJ x1.id) [.i .i64 x1.seq,.i .i64 x1.of,.i .i64 x1.off,.i .i64 x1.len] ?_;refine lq (HC (Gd.now l.wf) (l.ni (k:=3) rfl) (l.ni (k:=4) rfl) (l.ni (k:=5) rfl) (l.ni (k:=6) rfl) cf bO) l ?_;intro dl B;refine ay ?_;refine qy H (λb4 H=>?_) (λb4 H=>?_)
   ·exact rx H (pk [2,3,4,5,6] B)
   ·refine qk ?_;obtain⟨O,bh,bp,bP,H⟩:=iG H;have S:=B.mC 2 rfl;refine rh 2 S B ?_;refine au ?_;refine hl 2 S B ?_;obtain⟨_,⟨cZ,da,rfl,c8,c9,bU⟩,bD⟩:=mw 35 4 B bh;refine au ?_;refine qq (la 34 Ty.sh rfl bD (by first|omega|rfl) rfl) ?_;refine bL B 0 (Loc.cells x2) [] ?_;refine ql (NO B.iH bU bP) ?_;rintro bq dm ⟨c1,_,rfl,ba⟩;have aD:=B.call ba;have ck:=ba.ext;refine nf 3 S aD ck ?_;refine au ?_;obtain⟨ct,cg,a4,aJ⟩:=aD.kh 0 [1,2,3,4,5,6,7] rfl (by decide) (by decide);refine wg 2 S aJ cg ?_;refine qu (pT (c:=[bq]) 4 (bo.toNat) 34 O (Chunk.mk O.id O.jD O.data bp) rfl rfl aJ rfl (iD bh).2 (by first|rfl|(show _=_*35+_;omega)) a4.ln.cells Ty.xu (by simp only[nJ,oG,lz,a4.ln.one];rfl) (kY rfl) (by rintro cs ⟨a2,a3,rfl,c0,Z,b3⟩;exact⟨a2,bq,rfl,c0,Z,a4⟩)) ?_;rintro _ dn aH;refine qh 2 S aH ?_;refine ax ?_;exact nj ⟨x0.seq,x0.im,(x0.chunks.set bo.toNat (Chunk.mk O.id O.jD O.data bp)),H,⟨_,n,rfl,iI,pk [2,3,4,6,5] aH⟩⟩
  ·refine aq ?_;refine qy H (λb5 H=>?_) (λb5 H=>?_)
   ·refine iL (jO (pb.k2 x0=some r) [] l [.box jJ [.i .i64 x0.seq,f,g,n,j],.row ie.t f x0.ik,.row Chunk.t g x0.chunks,.row iu.t n x0.im,.row iz.t j x0.iv]) ?_ ?_
    ·refine ax ?_;refine lj l (λs:Int=>[(0,pl jJ 0),(4,pl z 0),(5,pl A 0),(8,.i .i64 s)]) H ?_;intro cV ce cw ds cN m H;refine ay ?_;refine qr (jV kR rfl (m.kH (k:=3) rfl)) ?_;refine au ?_;refine qy H (λb6 H=>?_) (λb6 H=>?_)
     ·refine ay ?_;obtain⟨d8,bZ,H⟩:=iy H;refine rn ?_;obtain⟨_,⟨db,dc,rfl,cA,cC⟩,_⟩:=mw 4 3 m bZ;refine au ?_;refine qy H (λb7 H=>?_) (λb7 H=>?_)
      ·refine kr ?_;obtain⟨a9,bi,cn,bQ,H⟩:=iG H;have U:=m.mC 2 rfl;refine rh 2 U m ?_;refine au ?_;refine hl 2 U m ?_;obtain⟨_,⟨dd,de,rfl,cD,bV⟩,bE⟩:=mw 4 3 m bi;refine au ?_;refine qq (la 3 Ty.sh rfl bE (by first|omega|rfl) rfl) ?_;refine bL m 0 (Loc.cells x2) [] ?_;refine ql (NO m.iH bV bQ) ?_;rintro br du ⟨c2,_,rfl,bb⟩;have aK:=m.call bb;have cl:=bb.ext;refine nf 3 U aK cl ?_;refine au ?_;obtain⟨cx,ch,a5,aR⟩:=aK.kh 0 [1,2,3,4,5,6,7] rfl (by decide) (by decide);refine wg 2 U aR ch ?_;refine qu (pT (c:=[br]) 3 (ce.toNat) 3 a9 (ie.mk a9.seq a9.iw cn) rfl rfl aR rfl (iD bi).2 (by first|rfl|(show _=_*4+_;omega)) a5.ln.cells Ty.xu (by simp only[nJ,oG,lz,a5.ln.one];rfl) (kY rfl) (by rintro cs ⟨a2,a3,rfl,Z,b3⟩;exact⟨a2,br,rfl,Z,a5⟩)) ?_;rintro _ dv aO;refine qh 2 U aO ?_;refine qn ?_;exact rx H (pk [2,3,4,5,6] aO)
      ·refine ax ?_;exact nm H (jj m)
     ·refine jf _ rfl ?_;exact nj ⟨H,jj (pk [2,3,4,5,6] m)⟩
    ·rintro E dr ⟨H,cu,rfl,cM,bw⟩;exact rx H bw
   ·refine aq ?_;refine iL (λE wq=>∃y:Int,pb.k4 x0 x1 x2 y=some r ∧ ∃(P:gL),E=[(0,pl jJ 0),(4,pl z 0),(5,pl A 0),(9,.i .i64 y)]∧F.le P∧mq l P wq) ?_ ?_
    ·refine qZ ?_;refine lj l (λs:Int=>[(0,pl jJ 0),(4,pl z 0),(5,pl A 0),(9,.i .i64 s)]) H ?_;intro cX ah am d6 cR x H;refine kr ?_;refine kr ?_;obtain⟨cr,cb,H⟩:=iy H;refine sL (λE wq=>E=[(0,pl jJ 0),(4,pl z 0),(5,pl A 0),(9,.i .i64 ah),(32,.b (decide (ah<(x0.im.length:Int))&&decide (cr.seq<x1.seq)))] ∧ ∃ar:gL,am.le ar∧St X w F ar [.box A [.i .i64 x2.iQ,.i .i64 x2.file,.i .i64 x2.off,.i .i64 x2.len],.box z (([.i .i64 x1.kind]:List gE)++iJ x1.id++([.i .i64 x1.seq,.i .i64 x1.of,.i .i64 x1.off,.i .i64 x1.len]:List gE)),.box jJ [.i .i64 x0.seq,f,g,n,j],.row ie.t f x0.ik,.row Chunk.t g x0.chunks,.row iu.t n x0.im,.row iz.t j x0.iv] wq) ?_ ?_
     ·
      rcases nk (decide (ah<(x0.im.length:Int)))with I|I
      ·refine rn ?_;refine q3 ?_;refine qf Ty.Bm ?_;refine qb 2 Ty.z8 x ?_;refine qr (jV mg rfl (x.kH (k:=5) rfl)) ?_;refine qr (iB rfl rfl qv) ?_;refine qc ?_;refine kC 20 I ?_;refine q2 ?_;refine qf Ty.Bm ?_;refine qb 2 Ty.z8 x ?_;refine qc ?_;have bm:=cb;rw[jX I]at bm;obtain⟨bN,cd⟩:=iD bm;obtain⟨c5,bT,ae⟩:=x.rowAt (k:=5) rfl cd;obtain⟨dh,rfl,cF⟩:=bT;replace ae:=qj 3 ae;have bf:=ae.ky;refine qi mg Ty.pP bf bN ?_;refine qr (nr 0 Ty.Oc rfl bf) ?_;refine qr (la 0 Ty.pL rfl ae (by first|omega|rfl) rfl) ?_;refine qf Ty.N1 ?_;refine qb 1 Ty.pL x ?_;refine qr (iB rfl rfl qv) ?_;refine qc ?_;refine ku ?_;exact lW _ ⟨rfl,am,(gL.le.refl _),x⟩ ⟨rfl,rfl,rfl,rfl,(lZ rfl (by first|rfl|(rw[I];first|done|rfl)|simp[I])),trivial⟩
      ·refine rn ?_;refine q3 ?_;refine qf Ty.Bm ?_;refine qb 2 Ty.z8 x ?_;refine qr (jV mg rfl (x.kH (k:=5) rfl)) ?_;refine qr (iB rfl rfl qv) ?_;refine qc ?_;refine kC 20 I ?_;refine je ?_;refine je ?_;refine je ?_;refine je ?_;refine je ?_;refine qz ?_;refine qc ?_;refine ku ?_;exact lW _ ⟨rfl,am,(gL.le.refl _),x⟩ ⟨rfl,rfl,rfl,rfl,(lZ rfl (by first|rfl|(rw[I];first|done|rfl)|simp[I])),trivial⟩
     rintro E d7 ⟨rfl,ar,cS,aY⟩;refine nN ?_;refine qy H (λbA H=>?_) (λbA H=>?_)
     ·refine ax ?_;exact nm H (jj aY)
     ·refine jf _ rfl ?_;exact nj ⟨ah,H,jj aY⟩
    ·rintro E dw ⟨y,H,P,rfl,cP,p⟩;refine kr ?_;refine kr ?_;obtain⟨cq,ca,H⟩:=iy H;refine sL (λE wq=>E=[(0,pl jJ 0),(4,pl z 0),(5,pl A 0),(9,.i .i64 y),(54,.b (decide (y<(x0.im.length:Int))&&decide (cq.seq=x1.seq)))] ∧ ∃Y:gL,P.le Y∧St X w F Y [.box A [.i .i64 x2.iQ,.i .i64 x2.file,.i .i64 x2.off,.i .i64 x2.len],.box z (([.i .i64 x1.kind]:List gE)++iJ x1.id++([.i .i64 x1.seq,.i .i64 x1.of,.i .i64 x1.off,.i .i64 x1.len]:List gE)),.box jJ [.i .i64 x0.seq,f,g,n,j],.row ie.t f x0.ik,.row Chunk.t g x0.chunks,.row iu.t n x0.im,.row iz.t j x0.iv] wq) ?_ ?_
     ·
      rcases nk (decide (y<(x0.im.length:Int)))with D|D
      ·refine rn ?_;refine q3 ?_;refine qf Ty.Bm ?_;refine qb 2 Ty.z8 p ?_;refine qr (jV mg rfl (p.kH (k:=5) rfl)) ?_;refine qr (iB rfl rfl qv) ?_;refine qc ?_;refine kC 42 D ?_;refine q2 ?_;refine qf Ty.Bm ?_;refine qb 2 Ty.z8 p ?_;refine qc ?_;have bk:=ca;rw[jX D]at bk;obtain⟨bM,cc⟩:=iD bk;obtain⟨c4,bR,ad⟩:=p.rowAt (k:=5) rfl cc;obtain⟨df,rfl,cE⟩:=bR;replace ad:=qj 3 ad;have be:=ad.ky;refine qi mg Ty.pP be bM ?_;refine qr (nr 0 Ty.Oc rfl be) ?_;refine qr (la 0 Ty.pL rfl ad (by first|omega|rfl) rfl) ?_;refine qf Ty.N1 ?_;refine qb 1 Ty.pL p ?_;refine qr (iB rfl rfl nQ) ?_;refine qc ?_;refine ku ?_;exact lW _ ⟨rfl,P,(gL.le.refl _),p⟩ ⟨rfl,rfl,rfl,rfl,(lZ rfl (by first|rfl|(rw[D];first|done|rfl)|simp[D])),trivial⟩
      ·refine rn ?_;refine q3 ?_;refine qf Ty.Bm ?_;refine qb 2 Ty.z8 p ?_;refine qr (jV mg rfl (p.kH (k:=5) rfl)) ?_;refine qr (iB rfl rfl qv) ?_;refine qc ?_;refine kC 42 D ?_;refine je ?_;refine je ?_;refine je ?_;refine je ?_;refine je ?_;refine qz ?_;refine qc ?_;refine ku ?_;exact lW _ ⟨rfl,P,(gL.le.refl _),p⟩ ⟨rfl,rfl,rfl,rfl,(lZ rfl (by first|rfl|(rw[D];first|done|rfl)|simp[D])),trivial⟩
     rintro E cp ⟨rfl,Y,cQ,a⟩;refine nN ?_;refine qy H (λb8 H=>?_) (λb8 H=>?_)
     ·refine kr ?_;obtain⟨aC,bj,co,bS,H⟩:=iG H;have V:=a.mC 2 rfl;refine rh 2 V a ?_;refine au ?_;refine hl 2 V a ?_;obtain⟨_,⟨dg,rfl,bW⟩,bF⟩:=mw 3 5 a bj;refine au ?_;refine qq (la 2 Ty.sh rfl bF (by first|omega|rfl) rfl) ?_;refine bL a 0 (Loc.cells x2) [] ?_;refine ql (NO a.iH bW bS) ?_;rintro bs dx ⟨c3,_,rfl,bc⟩;have aT:=a.call bc;have cm:=bc.ext;refine nf 3 V aT cm ?_;refine au ?_;obtain⟨cy,ci,a6,aV⟩:=aT.kh 0 [1,2,3,4,5,6,7] rfl (by decide) (by decide);refine wg 2 V aV ci ?_;refine qu (pT (c:=[bs]) 5 (y.toNat) 2 aC (iu.mk aC.seq aC.of co) rfl rfl aV rfl (iD bj).2 (by first|rfl|(show _=_*3+_;omega)) a6.ln.cells Ty.xu (by simp only[nJ,oG,lz,a6.ln.one];rfl) (kY rfl) (by rintro cs ⟨a2,rfl,Z⟩;exact⟨bs,rfl,a6⟩)) ?_;rintro _ dy aU;refine qh 2 V aU ?_;refine qn ?_;exact rx H (pk [2,3,4,5,6] aU)
     ·refine ay ?_;obtain⟨cI,bg,cJ,bH,H⟩:=iG H;obtain⟨cK,bI,H⟩:=iy H;have d:=a.mC 1 rfl;have e:=a.mC 0 rfl;refine nA (G:=(Y.hold cp [z,A])) [0,1,2,3,4,5,6,8,9,10,11,12,13,14,15,7,16,17] rfl Ty.mixed (by kernel_rfl) (HB.agree (HB.cons 1 d a rfl (HB.cons 0 e a rfl HB.nil)) a.agree) ?_;refine au ?_;refine sP 5 0 y rfl rfl rfl rfl mg Ty.pP rfl (.inl ⟨rfl,rfl⟩) (.inr ⟨_,_,rfl,rfl⟩) a rfl bg ?_;intro cT cG bY;refine au ?_;refine qr (qo Ty.pL rfl (d.held (HB.cons 1 d a rfl (HB.cons 0 e a rfl HB.nil)) (by simp)) rfl) ?_;refine au ?_;refine qr (qo Ty.pL rfl (d.held (HB.cons 1 d a rfl (HB.cons 0 e a rfl HB.nil)) (by simp)) rfl) ?_;refine qr (A4 (Loc.cells x2) Ty.Cm Ty.ug (oQ _) rfl (e.held (HB.cons 1 d a rfl (HB.cons 0 e a rfl HB.nil)) (by simp)) (λq u h=>o5 (post:=[]) rfl h)) ?_;refine qx (kN (t:=Loc.t) (vs:=[.agg (Loc.cells x2)]) (xs:=[x2]) ov Ty.yt rfl ⟨rfl,trivial⟩ rfl rfl a) ?_;rintro ai dz J;refine jG.mW (HB.le (HB.cons 2 d J rfl (HB.cons 1 e J rfl HB.nil)) (gL.le.refl _)) (HB.agree (HB.cons 2 d J rfl (HB.cons 1 e J rfl HB.nil)) J.agree) ?_;have bC:=(J.kH (k:=0) rfl).cells;refine qr (tJ (vs:=[(0,.i .i64 x1.seq),(1,.i .i64 x1.of),(2,ai)]) (v:=.agg (iu.cells (iu.mk x1.seq x1.of [x2]) ai)) Ty.Y6 rfl (by simp only[oS,bC];rfl)) ?_;obtain⟨cz,cj,bG,R⟩:=J.kh 0 [1,2,3,4,5,6,7] rfl (by decide) (by decide);refine A7 (HB.le (HB.cons 1 d R rfl (HB.cons 0 e R rfl HB.nil)) cj) (HB.agree (HB.cons 1 d R rfl (HB.cons 0 e R rfl HB.nil)) R.agree) ?_;refine qx (kN (t:=iu.t) (vs:=[.agg (iu.cells (iu.mk x1.seq x1.of [x2]) ai)]) (xs:=[(iu.mk x1.seq x1.of [x2])]) mg Ty.BU rfl ⟨⟨ai,rfl,bG⟩,trivial⟩ rfl rfl R) ?_;rintro cY d0 Q;refine jG.mW (HB.le (HB.cons 2 d Q rfl (HB.cons 1 e Q rfl HB.nil)) (gL.le.refl _)) (HB.agree (HB.cons 2 d Q rfl (HB.cons 1 e Q rfl HB.nil)) Q.agree) ?_;have aX:=Q.lb iu.t;refine qx (sM (t:=iu.t) 0 mg Ty.BU Ty.Q9 rfl rfl aX rfl ((aX.mi (k:=7) rfl).piece bY bg) bH) ?_;rintro di d1 L;refine jG.mW (HB.le (HB.cons 3 d L rfl (HB.cons 2 e L rfl HB.nil)) (gL.le.refl _)) (HB.agree (HB.cons 3 d L rfl (HB.cons 2 e L rfl HB.nil)) L.agree) ?_
      refine qx (sM (t:=iu.t) 0 mg Ty.BU Ty.Q9 rfl rfl L rfl (L.mi (k:=1) rfl) bI) ?_;rintro dj d2 M;refine jG.mW (HB.le (HB.cons 3 d M rfl (HB.cons 2 e M rfl HB.nil)) (gL.le.refl _)) (HB.agree (HB.cons 3 d M rfl (HB.cons 2 e M rfl HB.nil)) M.agree) ?_;obtain⟨cL,bJ,bn,bK,H⟩:=iG H;refine ax ?_;refine sP 7 y (x0.im.length:Int) rfl rfl rfl rfl mg Ty.pP rfl (.inr ⟨_,_,rfl,rfl⟩) (.inl ⟨rfl,rfl⟩) M rfl bJ ?_;intro cU bX cH;refine ap 0 M bX bK ?_;intro aj d3 c7;refine au ?_;refine sc 4 ([.i .i64 x0.seq,f,g,aj,j]) ?_;intro d4 b0;refine ay ?_;refine rn ?_;refine aw ?_;refine qy H (λb9 H=>?_) (λb9 H=>?_)
      ·refine ax ?_;refine sc 4 ([.i .i64 (wr (x1.seq+1)),f,g,aj,j]) ?_;intro d5 b1;refine ax ?_;exact nj ⟨wr (x1.seq+1),bn,x0.chunks,H,⟨_,aj,rfl,iI,pk [4,5,6,8,0] b1⟩⟩
      ·refine ax ?_;exact nj ⟨x0.seq,bn,x0.chunks,H,⟨_,aj,rfl,iI,pk [4,5,6,8,0] b0⟩⟩
 ·rintro E w3 ⟨i4,l5,l8,H,F3,u6,rfl,cO,bz⟩;exact rx H (pk [0,1,2,4,3] bz)
end
end Go.Wk.Lf
end
