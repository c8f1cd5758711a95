/-  -/
import Derived.Test.YtfhalkdoeiadgaaGreatG6
set_option linter.unusedVariables false
set_option linter.unusedSimpArgs false
open Bool renaming eq_false_or_eq_true→nk
open Go.Proofs.Tryz renaming prog→il, underlying194→Di, underlying22→yF, underlying24→kR, underlying25→kT, underlying3→mH, underlying31→lL, underlying5→p7, underlying59→ov, underlying78→p9
open List renaming replicate→iV
open Nat renaming le_of_ble_eq_true→kY
section
namespace Go.Wk.Lf
open Go.V Go.Proofs
noncomputable section
set_option maxRecDepth 100000
variable{K:Tb}{F:gL}{w:Hp}
def pa.k1:Option Bool :=
  some false
def pa.k3(a:Int)(b:Int→Option Bool):Option Bool :=
  b (wr (a+1))
def pa.k5(a:Int)(b:Int→Option Bool):Option Bool :=
  b (wr (a+1))
def pa.l6(x0:ig)(x1:List UInt8)(c:Int)(a:Int)(d:Int→Option Bool)(e:Int→Option Bool):Int→Option Bool
  | b =>
    bd (ix x0.ik c) λf =>
    bd (ix f.iw.parts a) λg =>
    if decide (b<(g.ids.length:Int))then
      bd (ix x0.ik c) λh =>
      bd (ix h.iw.parts a) λi =>
      bd (ix i.ids b) λj =>
      if decide (j=x1)then
        some true
      else
        e (wr (b+1))
    else
      pa.k5 a d
def pa.l4(x0:ig)(x1:List UInt8)(a:Int)(d:Int→Option Bool)(c:Int→Option Bool):Int→Option Bool
  | b =>
    bd (ix x0.ik a) λe =>
    if decide (b<(e.iw.parts.length:Int))then
      loop (pa.l6 x0 x1 a b c) 0
    else
      pa.k3 a d
def pa.l2(x0:ig)(x1:List UInt8)(b:Int→Option Bool):Int→Option Bool
  | a =>
    if decide (a<(x0.ik.length:Int))then
      loop (pa.l4 x0 x1 a b) 0
    else
      pa.k1
def pa(x0:ig)(x1:List UInt8):Option Bool :=
  loop (pa.l2 x0 x1) 0
theorem ZZ{x0:ig}{x1:List UInt8}{r:Bool}{p:gE}{q:gE}{u:gE}{x:gE}(hA:Gd F w)(j:iq ie.t F p x0.ik)(am:iq Chunk.t F q x0.chunks)(ar:iq iu.t F u x0.im)(a4:iq iz.t F x x0.iv)(B:x1.length=32)(H:pa x0 x1=some r):iN il K 156 [.agg (ig.cells x0 p q u x),.agg (iJ x1)] w λv w'=>∃(F':gL),v = .b r∧St [] w F F' [] w':=by
 refine kB Tryz.func156 ?_;have hS:=St.start hA;refine qs ?_;refine bx ([.i .i64 x0.seq,p,q,u,x]) ?_;intro a w1 a5;refine bx (iJ x1) ?_;intro c w2 y;refine au ?_;refine iL (jO (pa.k1=some r) [] y []) ?_ ?_
 ·refine ax ?_;refine lj y (λs:Int=>[(2,pl a 0),(3,pl c 0),(5,.i .i64 s)]) H ?_;intro ah d A w4 m f H;refine ay ?_;refine qy H (λO H=>?_) (λO H=>?_)
  ·refine qk ?_;refine iL (jN (pa.k3 d ah=some r) [(2,pl a 0),(3,pl c 0),(5,.i .i64 d)] f) ?_ ?_
   ·refine ax ?_;refine jH (λ(s:Int) E wq=>∃(e:gL),E=[(2,pl a 0),(3,pl c 0),(5,.i .i64 d),(6,.i .i64 s)]∧A.le e∧mq f e wq) H ?_ ?_
    ·exact lo (jj f)
    ·rintro ae l E w9 hI H
     try dsimp only at hI
     obtain⟨e,rfl,n,g⟩:=hI;obtain⟨bn,U,H⟩:=iy H;obtain⟨_,⟨aT,aU,rfl,a7,a8⟩,_⟩:=js 4 (j.mono (m.trans n)) U;refine ay ?_;refine qy H (λJ H=>?_) (λJ H=>?_)
     ·refine qk ?_;refine iL (jN (pa.k5 l ae=some r) [(2,pl a 0),(3,pl c 0),(5,.i .i64 d),(6,.i .i64 l)] g) ?_ ?_
      ·refine ax ?_;refine jH (λ(s:Int) E wq=>∃(h:gL),E=[(2,pl a 0),(3,pl c 0),(5,.i .i64 d),(6,.i .i64 l),(7,.i .i64 s)]∧e.le h∧mq g h wq) H ?_ ?_
       ·exact lo (jj g)
       ·rintro aR aH E bg hI H
        try dsimp only at hI
        obtain⟨h,rfl,z,k⟩:=hI;obtain⟨bo,V,bp,X,H⟩:=iG H;obtain⟨_,⟨aV,aX,rfl,Q,a9⟩,_⟩:=js 4 (j.mono ((m.trans n).trans z)) V;obtain⟨_,⟨aY,rfl,aC⟩,_⟩:=js 3 Q X;refine ay ?_;refine qy H (λL H=>?_) (λL H=>?_)
        ·refine ay ?_;obtain⟨bq,Y,br,Z,H⟩:=iG H;obtain⟨bs,ad,H⟩:=iy H;refine rn ?_;obtain⟨_,⟨ba,bb,rfl,R,aD⟩,_⟩:=js 4 (j.mono ((m.trans n).trans z)) Y;obtain⟨_,⟨bc,rfl,S⟩,_⟩:=js 3 R Z;obtain⟨_,⟨rfl,P⟩,a6⟩:=js 32 S ad;refine au ?_;refine qr (iB rfl rfl (z7 Ty.Ag rfl rfl (Af P B))) ?_;refine qn ?_;refine qy H (λM H=>?_) (λM H=>?_)
         ·exact rz H k
         ·refine ax ?_;exact nm H (jj k)
        ·refine ax ?_;exact nj ⟨H,jj k⟩
      ·rintro E bf ⟨H,ai,rfl,aJ,D⟩;refine ax ?_;exact nm H (jj D)
     ·refine ax ?_;exact nj ⟨H,jj g⟩
   ·rintro E w8 ⟨H,F8,rfl,aO,I⟩;refine ax ?_;exact nm H (jj I)
  ·refine jf _ rfl ?_;exact nj ⟨H,jj (pk [] f)⟩
 ·rintro E w3 ⟨H,F3,rfl,aK,G⟩;exact rz H G
def nB.k2(x0:ig)(l2:List ie)(l8:List Chunk):Option (Bool×ig) :=
  some (true,(ig.mk x0.seq l2 l8 x0.im x0.iv))
def nB.k4(a:Int)(c:((List Chunk)×Int)→Option (Bool×ig))(b:List Chunk):Option (Bool×ig) :=
  c (b,wr (a+1))
def nB.k5(nF:List Chunk)(c:Int)(f:((List Chunk)×Int)→Option (Bool×ig))(a:Chunk)(b:Bool)(d:List UInt8):Option (Bool×ig) :=
  bd (app (α:=Chunk) nF [(Chunk.mk a.id b d a.locs)]) λe =>
  nB.k4 c f e
def nB.l3(x0:ig)(l2:List ie)(c:((List Chunk)×Int)→Option (Bool×ig)):((List Chunk)×Int)→Option (Bool×ig)
  | (nF,b) =>
    if decide (b<(x0.chunks.length:Int))then
      bd (ix x0.chunks b) λa =>
      bd (pa (ig.mk x0.seq l2 x0.chunks x0.im x0.iv) a.id) λd =>
      if (!d) then
        if decide ((a.locs.length:Int)=0)then
          nB.k4 b c nF
        else
          nB.k5 nF b c a false []
      else
        nB.k5 nF b c a a.jD a.data
    else
      nB.k2 x0 l2 nF
def nB.k1(x0:ig)(l2:List ie):Option (Bool×ig) :=
  if decide ((l2.length:Int)=(x0.ik.length:Int))then
    some (false,x0)
  else
    loop (nB.l3 x0 l2) ([],0)
def nB.k7(a:Int)(c:((List ie)×Int)→Option (Bool×ig))(b:List ie):Option (Bool×ig) :=
  c (b,wr (a+1))
def nB.l6(x0:ig)(x1:Int)(c:((List ie)×Int)→Option (Bool×ig)):((List ie)×Int)→Option (Bool×ig)
  | (b,a) =>
    if decide (a<(x0.ik.length:Int))then
      bd (ix x0.ik a) λe =>
      if decide (e.seq≠x1)then
        bd (ix x0.ik a) λf =>
        bd (app (α:=ie) b [f]) λd =>
        nB.k7 a c d
      else
        nB.k7 a c b
    else
      nB.k1 x0 b
def nB(x0:ig)(x1:Int):Option (Bool×ig) :=
  loop (nB.l6 x0 x1) ([],0)
set_option maxHeartbeats 2000000 in
theorem Z2{X:List Nat}{x0:ig}{x1:Int}{r:Bool×ig}{jJ:Nat}{j:gE}{d:gE}{a:gE}{c:gE}(hS:St X w F F [.box jJ [.i .i64 x0.seq,j,d,a,c],.row ie.t j x0.ik,.row Chunk.t d x0.chunks,.row iu.t a x0.im,.row iz.t c x0.iv] w)(H:nB x0 x1=some r):iN il K 118 [pl jJ 0,.i .i64 x1] w λv w'=>∃(F':gL)(a6:gE)(a7:gE),v = .b r.1∧St X w F F' [.box jJ [.i .i64 r.2.seq,a6,a7,a,c],.row ie.t a6 r.2.ik,.row Chunk.t a7 r.2.chunks,.row iu.t a r.2.im,.row iz.t c r.2.iv] w':=by
 refine kB Tryz.func118 ?_;refine aq ?_;refine aq ?_;refine iL (λE wq=>∃l2:List ie,nB.k1 x0 l2=some r ∧ ∃(p:gL)(e:gE),E=[(0,pl jJ 0),(5,e)]∧F.le p∧iW hS [.box jJ [.i .i64 x0.seq,j,d,a,c],.row ie.t j x0.ik,.row Chunk.t d x0.chunks,.row iu.t a x0.im,.row iz.t c x0.iv,.row ie.t e l2] p wq) ?_ ?_
 ·refine ax ?_;refine jH (λ(s:(List ie)×Int) E wq=>∃(D:gL)(A:gE),E=[(0,pl jJ 0),(1,.i .i64 x1),(5,A),(6,.i .i64 s.2)]∧F.le D∧iW hS [.box jJ [.i .i64 x0.seq,j,d,a,c],.row ie.t j x0.ik,.row Chunk.t d x0.chunks,.row iu.t a x0.im,.row iz.t c x0.iv,.row ie.t A s.1] D wq) H ?_ ?_
  ·have aO:=hS.lb ie.t;exact lo ⟨F,(.sl none 0 (.k 0)),rfl,(gL.le.refl _),aO.pick [1,2,3,4,5,0] (by decide)⟩
  ·rintro bq ⟨ak,aj⟩ E bT hI H
   try dsimp only at hI
   obtain⟨D,A,rfl,b7,l⟩:=hI;refine ay ?_;refine qr (jV kR rfl (l.kH (k:=1) rfl)) ?_;refine au ?_;refine qy H (λaY H=>?_) (λaY H=>?_)
   ·refine qk ?_;refine iL (λE wq=>∃V:List ie,nB.k7 aj bq V=some r ∧ ∃(P:gL)(J:gE),E=[(0,pl jJ 0),(1,.i .i64 x1),(5,J),(6,.i .i64 aj)]∧D.le P∧iW l [.box jJ [.i .i64 x0.seq,j,d,a,c],.row ie.t j x0.ik,.row Chunk.t d x0.chunks,.row iu.t a x0.im,.row iz.t c x0.iv,.row ie.t J V] P wq) ?_ ?_
    ·obtain⟨bZ,bm,H⟩:=iy H;obtain⟨_,⟨bD,bE,rfl,b1,b2⟩,_⟩:=mw 4 1 l bm;refine ax ?_;refine qy H (λba H=>?_) (λba H=>?_)
     ·obtain⟨a5,bn,bp,bc,H⟩:=iG H;obtain⟨_,⟨ar,a4,rfl,bh,bi⟩,b0⟩:=mw 4 1 l bn;refine ax ?_;refine xm (kN (t:=ie.t) (vs:=[.agg (ie.cells a5 ar a4)]) (xs:=[a5]) kR Ty.AG rfl ⟨⟨ar,a4,rfl,bh,bi⟩,trivial⟩ rfl rfl l) ?_;rintro bC bW ah;refine ap 6 ah (ah.mi (k:=0) rfl) bc ?_;intro bs bX aK;refine ax ?_;exact nj ⟨bp,H,⟨_,bs,rfl,iI,pk [1,2,3,4,5,6] aK⟩⟩
     ·refine ax ?_;exact nj ⟨ak,H,⟨_,A,rfl,iI,l⟩⟩
    ·rintro E bU ⟨V,H,P,J,rfl,b8,aJ⟩;refine ax ?_;exact nm H ⟨_,J,rfl,iI,aJ⟩
   ·refine jf _ rfl ?_;exact nj ⟨ak,H,⟨_,A,rfl,iI,l⟩⟩
 ·rintro E w1 ⟨l2,H,p,e,rfl,b3,R⟩;refine ay ?_;refine qr (jV kR rfl (R.kH (k:=5) rfl)) ?_;refine au ?_;refine qr (jV kR rfl (R.kH (k:=1) rfl)) ?_;refine au ?_;refine qy H (λaX H=>?_) (λaX H=>?_)
  ·exact rx H (pk [0,1,2,3,4] R)
  ·refine ax ?_;refine sc 0 ([.i .i64 x0.seq,e,d,a,c]) ?_;intro w6 S;refine qn ?_;refine aq ?_;refine iL (λE wq=>∃l8:List Chunk,nB.k2 x0 l2 l8=some r ∧ ∃(Q:gL)(L:gE),E=[(0,pl jJ 0),(7,L)]∧p.le Q∧iW S [.box jJ [.i .i64 x0.seq,e,d,a,c],.row Chunk.t d x0.chunks,.row iu.t a x0.im,.row iz.t c x0.iv,.row ie.t e l2,.row Chunk.t L l8] Q wq) ?_ ?_
   ·refine ax ?_;refine jH (λ(s:(List Chunk)×Int) E wq=>∃(q:gL)(m:gE),E=[(0,pl jJ 0),(7,m),(8,.i .i64 s.2)]∧p.le q∧iW S [.box jJ [.i .i64 x0.seq,e,d,a,c],.row Chunk.t d x0.chunks,.row iu.t a x0.im,.row iz.t c x0.iv,.row ie.t e l2,.row Chunk.t m s.1] q wq) H ?_ ?_
    ·have aH:=S.lb Chunk.t;exact lo ⟨p,(.sl none 0 (.k 0)),rfl,(gL.le.refl _),aH.pick [1,3,4,5,6,0] (by decide)⟩
    ·rintro am ⟨nF,G⟩ E bI hI H
     try dsimp only at hI
     obtain⟨q,m,rfl,b4,x⟩:=hI;refine ay ?_;refine qr (jV kT rfl (x.kH (k:=1) rfl)) ?_;refine au ?_;refine qy H (λaT H=>?_) (λaT H=>?_)
     ·refine qk ?_;refine iL (λE wq=>∃U:List Chunk,nB.k4 G am U=some r ∧ ∃(O:gL)(I:gE),E=[(0,pl jJ 0),(7,I),(8,.i .i64 G)]∧q.le O∧iW x [.box jJ [.i .i64 x0.seq,e,d,a,c],.row Chunk.t d x0.chunks,.row iu.t a x0.im,.row iz.t c x0.iv,.row ie.t e l2,.row Chunk.t I U] O wq) ?_ ?_
      ·obtain⟨g,bj,H⟩:=iy H;obtain⟨_,⟨M,n,rfl,ai,bf,bg⟩,bz⟩:=mw 35 1 x bj;refine ax ?_;refine xm (o9 (cs:=iJ (iV 32 (0:UInt8))++([.b false,.sl none 0 (.k 0),.sl none 0 (.k 0)]:List gE)) Ty.GN rfl x) ?_;rintro _ bK ⟨Y,rfl,bu⟩;refine sb 0 (iJ g.id++([.b g.jD,M,n]:List gE)) ?_;intro bM h;refine qn ?_;refine iL (λE wq=>∃u:Bool,∃y:List UInt8,nB.k5 nF G am g u y=some r ∧ ∃(B:gL)(z:gE),E=[(0,pl jJ 0),(7,m),(8,.i .i64 G),(9,pl Y 0)]∧q.le B∧iq tB B z y∧iW h [.box Y (iJ g.id++([.b u,z,n]:List gE)),.box jJ [.i .i64 x0.seq,e,d,a,c],.row Chunk.t d x0.chunks,.row iu.t a x0.im,.row iz.t c x0.iv,.row ie.t e l2,.row Chunk.t m nF] B wq) ?_ ?_
       ·refine kr ?_;obtain⟨bA,be,H⟩:=iy H;refine rf h ?_;refine au ?_;refine bL h 1 (ig.cells (ig.mk x0.seq l2 x0.chunks x0.im x0.iv) e d a c) [] ?_;refine au ?_;refine bL h 0 (iJ g.id) [.b g.jD,M,n] ?_;refine qM (f:=156) (args:=[.agg (ig.cells (ig.mk x0.seq l2 x0.chunks x0.im x0.iv) e d a c),.agg (iJ g.id)]) rfl rfl rfl rfl (ZZ (Gd.now h.wf) (h.ni (k:=5) rfl) (h.ni (k:=2) rfl) (h.ni (k:=3) rfl) (h.ni (k:=4) rfl) ai be) ?_;rintro bF bQ ⟨bt,rfl,aR⟩;have ad:=h.oN aR;refine qw ad ?_;refine au ?_;refine qy H (λaU H=>?_) (λaU H=>?_)
        ·refine aq ?_;refine sc 0 (iJ g.id++([.b false,M,n]:List gE)) ?_;intro bR bv;refine au ?_;refine sc 0 (iJ g.id++([.b false,.sl none 0 (.k 0),n]:List gE)) ?_;intro bS ae;refine ax ?_;refine qy H (λaV H=>?_) (λaV H=>?_)
         ·refine jf _ rfl ?_;exact nj ⟨nF,H,⟨_,m,rfl,iI,pk [1,2,3,4,5,6] ae⟩⟩
         ·refine s6 ?_;exact nj ⟨false,[],H,⟨q,.sl none 0 (.k 0),rfl,(gL.le.refl _),(iq.nil _),ae⟩⟩
        ·refine s6 ?_;exact nj ⟨g.jD,g.data,H,⟨_,M,rfl,iI,bf,ad⟩⟩
       ·rintro E bN ⟨u,y,H,B,z,rfl,b6,bk,aC⟩;obtain⟨bo,bb,H⟩:=iy H;refine ax ?_;refine xm (kN (t:=Chunk.t) (vs:=[.agg (Chunk.cells (Chunk.mk g.id u y g.locs) z n)]) (xs:=[(Chunk.mk g.id u y g.locs)]) kT Ty.zw rfl ⟨⟨z,n,rfl,ai,bk,(mo bg)⟩,trivial⟩ rfl rfl aC) ?_;rintro bB bO Z;refine ap 7 Z (Z.mi (k:=0) rfl) bb ?_;intro br bP aD;refine ax ?_;exact nj ⟨bo,H,⟨_,br,rfl,iI,pk [2,3,4,5,6,7] aD⟩⟩
      ·rintro E bJ ⟨U,H,O,I,rfl,b5,a9⟩;refine ax ?_;exact nm H ⟨_,I,rfl,iI,a9⟩
     ·refine jf _ rfl ?_;exact nj ⟨nF,H,⟨_,m,rfl,iI,x⟩⟩
   ·rintro E w7 ⟨l8,H,Q,L,rfl,b9,bw⟩;refine aq ?_;refine sc 0 ([.i .i64 x0.seq,e,L,a,c]) ?_;intro bH a8;refine qn ?_;exact rx H (pk [0,4,5,2,3] a8)
def ko.k1(a:Int)(l4:List Chunk)(l7:List ie)(l9:List iu)(lx:List iz):Option (Int×ig) :=
  some (0,(ig.mk a l7 l4 l9 lx))
def ko.l3(x0:ig)(x1:Change)(c:List ie)(e:(Int×(List Chunk))→Option (Int×ig)):(Int×(List Chunk))→Option (Int×ig)
  | (a,b) =>
    if decide (a<(x1.chunks.length:Int))then
      bd (ix x1.chunks a) λf =>
      bd (wY b f) λd =>
      e (wr (a+1),d)
    else
      ko.k1 (wr (x0.seq+1)) b c x0.im x0.iv
def ko.k2(x0:ig)(x1:Change)(a:Bool):Option (Int×ig) :=
  if(!a)then
    some (1,x0)
  else
    bd (wa x0 x1.snap.iw.name) λc =>
    if decide (0≤c)then
      some (9,x0)
    else
      bd (app (α:=ie) x0.ik [x1.snap]) λb =>
      loop (ko.l3 x0 x1 b) (0,x0.chunks)
def ko.l4(x0:ig)(x1:Change)(d:(Bool×Int)→Option (Int×ig)):(Bool×Int)→Option (Int×ig)
  | (a,b) =>
    if decide (b<(x1.chunks.length:Int))then
      bd (only a (ix x1.chunks b) (Chunk.mk (iV 32 (0:UInt8)) false [] [])) λc =>
      bd (only (a&&c.jD) (ix x1.chunks b) (Chunk.mk (iV 32 (0:UInt8)) false [] [])) λe =>
      d (((a&&c.jD)&&decide ((e.locs.length:Int)=0)),wr (b+1))
    else
      ko.k2 x0 x1 a
def ko.k9(a:Int)(c:(Int×(List Chunk))→Option (Int×ig))(b:List Chunk):Option (Int×ig) :=
  c (wr (a+1),b)
def ko.l8(x1:Change)(g:Int)(h:List ie)(i:List iu)(j:List iz)(e:(Int×(List Chunk))→Option (Int×ig)):(Int×(List Chunk))→Option (Int×ig)
  | (b,a) =>
    if decide (b<(x1.items.length:Int))then
      bd (ix x1.items b) λk =>
      if decide (k.kind=1)then
        bd (ix x1.items b) λl =>
        bd (ta (ig.mk g h a i j) l.id) λc =>
        if decide (0≤c)then
          bd (ix a c) λd =>
          bd (ix (a.set c.toNat (Chunk.mk d.id false d.data d.locs)) c) λf =>
          ko.k9 b e ((a.set c.toNat (Chunk.mk d.id false d.data d.locs)).set c.toNat (Chunk.mk f.id f.jD [] f.locs))
        else
          ko.k9 b e a
      else
        ko.k9 b e a
    else
      ko.k1 g a h i j
def ko.k7(x1:Change)(b:Int)(c:List ie)(d:List Chunk)(e:List iu)(a:List iz):Option (Int×ig) :=
  bd (ix a x1.iQ) λf =>
  if decide (f.rq=0)then
    loop (ko.l8 x1 b c e a) (0,d)
  else
    ko.k1 b d c e a
def ko.sy(a:Int)(g:(Int×Int×(List ie)×(List Chunk)×(List iu)×(List iz))→Option (Int×ig))(b:Int)(c:List ie)(d:List Chunk)(e:List iu)(f:List iz):Option (Int×ig) :=
  g (wr (a+1),b,c,d,e,f)
def ko.mc(x1:Change)(h:(Int×Int×(List ie)×(List Chunk)×(List iu)×(List iz))→Option (Int×ig)):(Int×Int×(List ie)×(List Chunk)×(List iu)×(List iz))→Option (Int×ig)
  | (a,c,d,e,f,g) =>
    if decide (a<(x1.items.length:Int))then
      bd (ix x1.items a) λi =>
      if decide (i.kind=3)then
        bd (ix x1.items a) λj =>
        bd (nB (ig.mk c d e f g) j.of) λb =>
        ko.sy a h b.2.seq b.2.ik b.2.chunks b.2.im b.2.iv
      else
        ko.sy a h c d e f g
    else
      ko.k7 x1 c d e f g
def ko.k6(x1:Change)(a:Int)(b:List ie)(c:List Chunk)(d:List iu)(e:List iz):Option (Int×ig) :=
  loop (ko.mc x1) (0,a,b,c,d,e)
def ko.kW(x1:Change)(i:(Int×Int×(List ie)×(List Chunk)×(List iu)×(List iz))→Option (Int×ig)):(Int×Int×(List ie)×(List Chunk)×(List iu)×(List iz))→Option (Int×ig)
  | (b,e,f,g,h,c) =>
    if decide (b<(x1.items.length:Int))then
      bd (ix x1.items b) λd =>
      bd (ix c x1.iQ) λj =>
      bd (pb (ig.mk e f g h c) d (Loc.mk x1.iQ j.files d.off d.len)) λa =>
      if(!a.1)then
        some (8,a.2)
      else
        i (wr (b+1),a.2.seq,a.2.ik,a.2.chunks,a.2.im,a.2.iv)
    else
      ko.k6 x1 e f g h c
def ko.k5(x1:Change)(a:Bool×ig)(c:Bool):Option (Int×ig) :=
  if(!c)then
    some (1,a.2)
  else
    bd (ix a.2.iv x1.iQ) λb =>
    loop (ko.kW x1) (0,a.2.seq,a.2.ik,a.2.chunks,a.2.im,((a.2.iv.set x1.iQ.toNat (iz.mk b.rq b.rM 2 b.files)).set x1.iQ.toNat (iz.mk b.rq b.rM 2 (wr (b.files+1)))))
def ko.nF(x1:Change)(d:Bool×ig)(e:(Bool×Int)→Option (Int×ig)):(Bool×Int)→Option (Int×ig)
  | (a,b) =>
    if decide (b<(x1.items.length:Int))then
      bd (only a (ix x1.items b) (Item.mk 0 (iV 32 (0:UInt8)) 0 0 0 0)) λc =>
      bd (only (a&&decide (1≤c.kind)) (ix x1.items b) (Item.mk 0 (iV 32 (0:UInt8)) 0 0 0 0)) λf =>
      e (((a&&decide (1≤c.kind))&&decide (f.kind≤3)),wr (b+1))
    else
      ko.k5 x1 d a
def ko (x0:ig) (x1:Change):Option (Int × ig) :=
  if decide (x1.kind=1)then
    loop (ko.l4 x0 x1) ((decide (x1.snap.seq=x0.seq)&&decide ((x1.snap.locs.length:Int)=0)),0)
  else
    if decide (x1.kind=2)then
      none
    else
      if decide (x1.kind=3)then
        bd (Ku x0 x1.iQ 1 2) λa =>
        loop (ko.nF x1 a) (((a.1&&decide (1≤(x1.items.length:Int)))&&decide ((x1.items.length:Int)≤64)),0)
      else
        if decide (x1.kind=4)then
          none
        else
          if decide (x1.kind=5)then
            none
          else
            ko.k1 x0.seq x0.chunks x0.ik x0.im x0.iv
set_option maxHeartbeats 2000000 in
theorem Z1{X:List Nat}{x0:ig}{x1:Change}{r:Int×ig}{jJ:Nat}{x:gE}{l:gE}{p:gE}{a:gE}{g:gE}{h:gE}{q:gE}{u:gE}(hS:St X w F F [.box jJ [.i .i64 x0.seq,x,l,p,a],.row ie.t x x0.ik,.row Chunk.t l x0.chunks,.row iu.t p x0.im,.row iz.t a x0.iv] w)(cE:iq Part.t F g x1.snap.iw.parts)(cF:iq Loc.t F h x1.snap.locs)(aC:iq Chunk.t F q x1.chunks)(m:iq Item.t F u x1.items)(H:ko x0 x1=some r):iN il K 71 [pl jJ 0,.agg (Change.cells x1 g h q u)] w λv w'=>∃(F':gL)(cA:gE)(cC:gE)(cD:gE),v = .i .i64 r.1∧St X w F F' [.box jJ [.i .i64 r.2.seq,cA,cC,cD,a],.row ie.t cA r.2.ik,.row Chunk.t cC r.2.chunks,.row iu.t cD r.2.im,.row iz.t a r.2.iv] w':=by
 refine kB Tryz.func71 ?_;refine qs ?_;refine bx ([.i .i64 x1.kind,.i .i64 x1.snap.seq,.s x1.snap.iw.name,g,h,q,.i .i64 x1.seq,.i .i64 x1.iQ,u]) ?_;intro d w1 R;refine au ?_;refine iL (λE wq=>∃i3:Int,∃l4:List Chunk,∃l7:List ie,∃l9:List iu,∃lx:List iz,ko.k1 i3 l4 l7 l9 lx=some r ∧ ∃(F2:gL)(u5:gE)(u8:gE)(bR:gE),E=[]∧F.le F2∧iW R [.box jJ [.i .i64 i3,u8,u5,bR,a],.row ie.t u8 l7,.row iu.t bR l9,.row iz.t a lx,.row Chunk.t u5 l4] F2 wq) ?_ ?_
 ·refine ax ?_;refine qy H (λcT H=>?_) (λcT H=>?_)
  ·refine kr ?_;refine rn ?_;refine aw ?_;refine iL (λE wq=>∃bj:Bool,ko.k2 x0 x1 bj=some r ∧ ∃(a8:gL),E=[(0,pl jJ 0),(3,pl d 0),(5,.b bj)]∧F.le a8∧mq R a8 wq) ?_ ?_
   ·refine ax ?_;refine jH (λ(s:Bool×Int) E wq=>∃(Q:gL),E=[(0,pl jJ 0),(3,pl d 0),(5,.b s.1),(6,.i .i64 s.2)]∧F.le Q∧mq R Q wq) H ?_ ?_
    ·exact lo (jj R)
    ·rintro eP ⟨bm,dR⟩ E fz hI H
     try dsimp only at hI
     obtain⟨Q,rfl,bQ,B⟩:=hI;refine ay ?_;refine qy H (λdf H=>?_) (λdf H=>?_)
     ·refine qk ?_;refine kr ?_;refine qZ ?_;obtain⟨c9,cl,eg,dK,H⟩:=iG H;refine sL (λE wq=>E=[(0,pl jJ 0),(3,pl d 0),(5,.b ((bm&&c9.jD)&&decide ((eg.locs.length:Int)=0))),(6,.i .i64 dR)] ∧ ∃bh:gL,Q.le bh∧St X w F bh [.box d [.i .i64 x1.kind,.i .i64 x1.snap.seq,.s x1.snap.iw.name,g,h,q,.i .i64 x1.seq,.i .i64 x1.iQ,u],.box jJ [.i .i64 x0.seq,x,l,p,a],.row ie.t x x0.ik,.row Chunk.t l x0.chunks,.row iu.t p x0.im,.row iz.t a x0.iv] wq) ?_ ?_
      ·
       rcases nk bm with j|j
       ·
        rcases nk c9.jD with I|I
        ·refine qd ?_;refine q2 ?_;refine kC 49 j ?_;refine qf Ty.KC ?_;refine qb 0 Ty.vj B ?_;refine qc ?_;have co:=cl;rw[jX j]at co;obtain⟨du,dO⟩:=iD co;obtain⟨ep,d4,aH⟩:=(aC.mono bQ).el dO;obtain⟨ec,ed,rfl,dt,dA,dB⟩:=d4;replace aH:=qj 35 aH;have ce:=aH.ky;refine qi kT Ty.nX ce du ?_;refine qr (nr 32 Ty.KD rfl ce) ?_;refine qr (la 32 Ty.DL rfl (aH.mono B.agree) (by first|omega|rfl) rfl) ?_;refine q2 ?_;refine kC 57 I ?_;refine qf Ty.KC ?_;refine qb 0 Ty.vj B ?_;refine qc ?_;have cp:=dK;rw[jX (by first|rfl|(rw[I,j];first|done|rfl)|simp[j,I])]at cp;obtain⟨dv,dP⟩:=iD cp;obtain⟨eq,d5,aJ⟩:=(aC.mono bQ).el dP;obtain⟨eX,eY,rfl,e3,eA,dC⟩:=d5;replace aJ:=qj 35 aJ;have cf:=aJ.ky;refine qi kT Ty.nX cf dv ?_;refine qr (nr 34 Ty.FM rfl cf) ?_;refine qr (la 34 Ty.sh rfl (aJ.mono B.agree) (by first|omega|rfl) rfl) ?_;refine qr (jV ov rfl dC.ln) ?_;refine qr (iB rfl rfl nQ) ?_;refine q2 ?_;refine ku ?_;exact lW _ ⟨rfl,Q,(gL.le.refl _),B⟩ ⟨rfl,rfl,(lZ rfl (by first|rfl|(rw[I,j];first|done|rfl)|simp[j,I])),rfl,trivial⟩
        ·refine qd ?_;refine q2 ?_;refine kC 49 j ?_;refine qf Ty.KC ?_;refine qb 0 Ty.vj B ?_;refine qc ?_;have cq:=cl;rw[jX j]at cq;obtain⟨dw,dQ⟩:=iD cq;obtain⟨er,d6,aK⟩:=(aC.mono bQ).el dQ;obtain⟨ec,ed,rfl,dt,dA,dB⟩:=d6;replace aK:=qj 35 aK;have cg:=aK.ky;refine qi kT Ty.nX cg dw ?_;refine qr (nr 32 Ty.KD rfl cg) ?_;refine qr (la 32 Ty.DL rfl (aK.mono B.agree) (by first|omega|rfl) rfl) ?_;refine q2 ?_;refine kC 57 I ?_;refine je ?_;refine je ?_;refine je ?_;refine je ?_;refine q2 ?_;refine ku ?_;exact lW _ ⟨rfl,Q,(gL.le.refl _),B⟩ ⟨rfl,rfl,(lZ rfl (by first|rfl|(rw[I,j];first|done|rfl)|simp[j,I])),rfl,trivial⟩
       ·refine qd ?_;refine q2 ?_;refine kC 49 j ?_;refine je ?_;refine je ?_;refine je ?_;refine q2 ?_;refine je ?_;refine je ?_;refine je ?_;refine je ?_;refine q2 ?_;refine ku ?_;exact lW _ ⟨rfl,Q,(gL.le.refl _),B⟩ ⟨rfl,rfl,(lZ rfl (by first|rfl|(rw[j];first|done|rfl)|simp[j])),rfl,trivial⟩
      rintro E f0 ⟨rfl,bh,eH,cN⟩;refine ax ?_;exact nm H (jj cN)
     ·refine jf _ rfl ?_;exact nj ⟨bm,H,jj B⟩
   ·rintro E fp ⟨bj,H,a8,rfl,dU,G⟩;refine ay ?_;refine qy H (λda H=>?_) (λda H=>?_)
    ·exact rx H (pk [1,2,3,4,5] G)
    ·refine ay ?_;obtain⟨eK,d2,H⟩:=iy H;refine rf G ?_;refine au ?_;refine bL G 1 (ig.cells x0 x l p a) [] ?_;refine au ?_;refine lq (Kt (Gd.now G.wf) (G.ni (k:=2) rfl) (G.ni (k:=3) rfl) (G.ni (k:=4) rfl) (G.ni (k:=5) rfl) d2) G ?_;intro fr cK;refine au ?_;refine qy H (λdd H=>?_) (λdd H=>?_)
     ·exact rx H (pk [1,2,3,4,5] cK)
     ·refine ax ?_;refine sc 1 ([.i .i64 (wr (x0.seq+1)),x,l,p,a]) ?_;intro fs br;refine ay ?_;obtain⟨c1,dn,H⟩:=iy H;refine rf br ?_;refine au ?_;refine bL br 0 (ie.cells x1.snap g h) [q,.i .i64 x1.seq,.i .i64 x1.iQ,u] ?_;refine qx (kN (t:=ie.t) (vs:=[.agg (ie.cells x1.snap g h)]) (xs:=[x1.snap]) kR Ty.AG rfl ⟨⟨g,h,rfl,(mo cE),(mo cF)⟩,trivial⟩ rfl rfl br) ?_;rintro eQ ft bs;refine qw bs ?_;refine aP 3 bs (bs.mi (k:=0) rfl) dn ?_;intro a5 fu et;refine au ?_;refine sC 2 ([.i .i64 (wr (x0.seq+1)),a5,l,p,a]) ?_;intro fv bZ;refine ax ?_;refine jH (λ(s:Int×(List Chunk)) E wq=>∃(bg:gL)(aY:gE),E=[(0,pl jJ 0),(3,pl d 0),(7,.i .i64 s.1)]∧a8.le bg∧iW bZ [.box d [.i .i64 x1.kind,.i .i64 x1.snap.seq,.s x1.snap.iw.name,g,h,q,.i .i64 x1.seq,.i .i64 x1.iQ,u],.box jJ [.i .i64 (wr (x0.seq+1)),a5,aY,p,a],.row ie.t a5 c1,.row iu.t p x0.im,.row iz.t a x0.iv,.row Chunk.t aY s.2] bg wq) H ?_ ?_
      ·exact lo ⟨_,l,rfl,iI,pk [1,2,3,5,6,4] bZ⟩
      ·rintro eO ⟨eD,dS⟩ E fw hI H
       try dsimp only at hI
       obtain⟨bg,aY,rfl,dV,bt⟩:=hI;refine ay ?_;refine qy H (λde H=>?_) (λde H=>?_)
       ·refine ay ?_;obtain⟨f9,dJ,eL,d3,H⟩:=iG H;refine rf bt ?_;obtain⟨_,⟨eV,eW,rfl,ds,d8,d9⟩,ev⟩:=js 35 (aC.mono (dU.trans dV)) dJ;refine au ?_;obtain⟨eh,dW,dm,bu⟩:=bt.kh 5 [0,1,2,3,4] rfl (by decide) (by decide);refine A7 dW bu.agree ?_;refine ql (Z0 bu.iH dm (mo d8) (mo d9) ds d3) ?_;rintro c6 fx ⟨em,_,rfl,cc⟩;have cL:=bu.call cc;have dY:=cc.ext;refine jG.mW dY cL.agree ?_;refine au ?_;refine sC 2 ([.i .i64 (wr (x0.seq+1)),a5,c6,p,a]) ?_;intro fy cM;refine ax ?_;exact nm H ⟨_,c6,rfl,iI,pk [1,2,3,4,5,0] cM⟩
       ·refine ax ?_;exact nj ⟨wr (x0.seq+1),dS,c1,x0.im,x0.iv,H,⟨_,aY,a5,p,rfl,iI,pk [1,2,3,4,5] bt⟩⟩
  ·refine aq ?_;refine qy H (λdg H=>?_) (λdg H=>?_)
   ·
    cases H
   ·refine aq ?_;refine qy H (λdh H=>?_) (λdh H=>?_)
    ·obtain ⟨dZ,d7,H⟩:=iy H;refine aq ?_;refine lm (Z3 (x0:=x0) (x1:=x1.iQ) (x2:=1) (x3:=2) (R.rp [1,2,3,4,5] (by decide)) d7) ?_;rintro fc f1 ⟨bV,rfl,cd⟩;have bv:=R.ri [1,2,3,4,5] [0] (by decide) (by decide) cd;have S:=cd.ext;refine aw ?_;refine iL (fun E wq=>∃ bn:Bool,ko.k5 x1 dZ bn=some r ∧ ∃ (Z:gL),E=[(0,pl jJ 0),(3,pl d 0),(8,.b bn)]∧bV.le Z∧mq bv Z wq) ?_ ?_
     ·refine ax ?_;refine jH (λ(s:Bool×Int) E wq=>∃(be:gL),E=[(0,pl jJ 0),(3,pl d 0),(8,.b s.1),(9,.i .i64 s.2)]∧bV.le be∧mq bv be wq) H ?_ ?_
      ·exact lo (jj bv)
      ·rintro eN ⟨bi,eC⟩ E fo hI H
       try dsimp only at hI
       obtain⟨be,rfl,c4,bY⟩:=hI;refine ay ?_;refine qy H (λcZ H=>?_) (λcZ H=>?_)
       ·refine ay ?_;obtain⟨c8,ai,ef,aj,H⟩:=iG H;have ch:(c8.id).length=32:=by
         rcases nk bi with b1|b1
         ·have cm:=ai;rw[jX b1]at cm;obtain⟨e4,dM⟩:=iD cm;obtain⟨en,d0,b5⟩:=(m.mono (S.trans c4)).el dM;obtain⟨rfl,ch⟩:=d0;replace b5:=qj 37 b5;have ew:=b5.ky;exact ch
         ·have hy:=ai;rw[me b1]at hy;obtain rfl:=oi hy
          rfl
        have ci:(ef.id).length=32:=by
         rcases nk (bi&&decide (1≤c8.kind))with b4|b4
         ·have cn:=aj;rw[jX b4]at cn;obtain⟨e5,dN⟩:=iD cn;obtain⟨eo,d1,b6⟩:=(m.mono (S.trans c4)).el dN;obtain⟨rfl,ci⟩:=d1;replace b6:=qj 37 b6;have ex:=b6.ky;exact ci
         ·have hy:=aj;rw[me b4]at hy;obtain rfl:=oi hy
          rfl
        refine az ?_;refine ge (mo m) ai ?_;refine ge (mo m) ai ?_;refine ge (mo m) ai ?_;refine aw ?_;refine ge (mo m) aj ?_;refine ge (mo m) aj ?_;refine ge (mo m) aj ?_;refine az ?_;exact nm H (jj bY)
       ·refine jf _ rfl ?_;exact nj ⟨bi,H,jj bY⟩
     ·rintro E f2 ⟨bn,H,Z,rfl,ak,bw⟩;refine ay ?_;refine qy H (λdi H=>?_) (λdi H=>?_)
      ·exact rx H (pk [0,1,2,3,4] bw)
      ·refine ay ?_;obtain⟨A,b7,H⟩:=iy H;refine rn ?_;obtain⟨_,rfl,_⟩:=mw 4 4 bw b7;refine ax ?_;refine um (pT (c:=[.i .i64 2]) 4 (x1.iQ.toNat) 2 A (iz.mk A.rq A.rM 2 A.files) rfl rfl bw rfl (iD b7).2 (by first|rfl|(show _=_*4+_;omega)) rfl Ty.BX rfl (kY rfl) (by rintro cs rfl;rfl)) ?_;rintro _ f3 cO;refine au ?_;refine um (pT (c:=[.i .i64 (wr (A.files+1))]) 4 (x1.iQ.toNat) 3 (iz.mk A.rq A.rM 2 A.files) (iz.mk A.rq A.rM 2 (wr (A.files+1))) rfl rfl cO rfl (List.getElem?_set_self (by simpa using(List.getElem?_eq_some_iff.1 (iD b7).2).1)) (by first|rfl|(show _=_*4+_;omega)) rfl Ty.BX rfl (kY rfl) (by rintro cs rfl;rfl)) ?_;rintro _ f4 bz;refine qn ?_;refine iL (λE wq=>∃bB:Int,∃bM:List ie,∃bN:List Chunk,∃bO:List iu,∃bP:List iz,ko.k6 x1 bB bM bN bO bP=some r ∧ ∃(ad:gL)(e:gE),E=[(0,pl jJ 0),(3,pl d 0),(10,oy a (x1.iQ.toNat*4))]∧Z.le ad∧iW bz [.box jJ [.i .i64 bB,x,l,e,a],.row ie.t x bM,.row Chunk.t l bN,.row iu.t e bO,.row iz.t a bP,.box d [.i .i64 x1.kind,.i .i64 x1.snap.seq,.s x1.snap.iw.name,g,h,q,.i .i64 x1.seq,.i .i64 x1.iQ,u]] ad wq) ?_ ?_
       ·refine ax ?_;refine jH (λ(s:Int×Int×(List ie)×(List Chunk)×(List iu)×(List iz)) E wq=>∃(bc:gL)(aX:gE),E=[(0,pl jJ 0),(3,pl d 0),(10,oy a (x1.iQ.toNat*4)),(11,.i .i64 s.1)]∧Z.le bc∧iW bz [.box jJ [.i .i64 s.2.1,x,l,aX,a],.row ie.t x s.2.2.1,.row Chunk.t l s.2.2.2.1,.row iu.t aX s.2.2.2.2.1,.row iz.t a s.2.2.2.2.2,.box d [.i .i64 x1.kind,.i .i64 x1.snap.seq,.s x1.snap.iw.name,g,h,q,.i .i64 x1.seq,.i .i64 x1.iQ,u]] bc wq) H ?_ ?_
        ·exact lo ⟨_,p,rfl,iI,bz⟩
        ·rintro eM ⟨eB,cu,cw,cx,cy,cz⟩ E fm hI H
         try dsimp only at hI
         obtain⟨bc,aX,rfl,dT,D⟩:=hI;refine ay ?_;refine qy H (λcX H=>?_) (λcX H=>?_)
         ·refine ay ?_;obtain⟨P,dH,bU,dI,H⟩:=iG H;obtain⟨eJ,dz,H⟩:=iy H;refine rf D ?_;refine au ?_;refine zr 5 Ty.DM D ?_;obtain⟨_,⟨rfl,dr⟩,eu⟩:=js 37 (m.mono ((S.trans ak).trans dT)) dH;refine au ?_;refine zr 5 Ty.pL D ?_;obtain⟨_,rfl,dl⟩:=mw 4 4 D dI;refine au ?_;refine qq (la 3 Ty.pL rfl dl (by first|omega|rfl) rfl) ?_;refine au ?_;refine zr 5 Ty.DM D ?_;refine au ?_;refine zr 5 Ty.DM D ?_;refine au ?_;refine j8 (v:=.agg (Loc.cells (Loc.mk x1.iQ bU.files P.off P.len))) rfl rfl rfl rfl (λ_=>rfl) ?_;refine qM (f:=120) (args:=[pl jJ 0,.agg (Item.cells P),.agg (Loc.cells (Loc.mk x1.iQ bU.files P.off P.len))]) rfl rfl rfl rfl (Z4 (x0:=(ig.mk cu cw cx cy cz)) (x1:=P) (x2:=(Loc.mk x1.iQ bU.files P.off P.len)) (D.rp [0,1,2,3,4] (by decide)) dr dz) ?_;rintro fb fn ⟨ek,aiG,rfl,cb⟩;have bq:=D.ri [0,1,2,3,4] [5] (by decide) (by decide) cb;have dX:=cb.ext;refine jG.mW dX bq.agree ?_;refine au ?_;refine qy H (λcY H=>?_) (λcY H=>?_)
          ·exact rx H (pk [0,1,2,3,4] bq)
          ·refine ax ?_;exact nm H ⟨_,aiG,rfl,iI,bq⟩
         ·refine jf _ rfl ?_;exact nj ⟨cu,cw,cx,cy,cz,H,⟨_,aX,rfl,iI,D⟩⟩
       ·rintro E f5 ⟨bB,bM,bN,bO,bP,H,ad,e,rfl,aR,b0⟩;refine iL (λE wq=>∃J:Int,∃L:List ie,∃aO:List Chunk,∃M:List iu,∃O:List iz,ko.k7 x1 J L aO M O=some r ∧ ∃(a9:gL)(y:gE)(z:gE),E=[(0,pl jJ 0),(3,pl d 0),(10,oy a (x1.iQ.toNat*4))]∧ad.le a9∧iW b0 [.box jJ [.i .i64 J,y,z,e,a],.row ie.t y L,.row Chunk.t z aO,.row iu.t e M,.row iz.t a O,.box d [.i .i64 x1.kind,.i .i64 x1.snap.seq,.s x1.snap.iw.name,g,h,q,.i .i64 x1.seq,.i .i64 x1.iQ,u]] a9 wq) ?_ ?_
        ·refine ax ?_;refine jH (λ(s:Int×Int×(List ie)×(List Chunk)×(List iu)×(List iz)) E wq=>∃(a7:gL)(ar:gE)(a4:gE),E=[(0,pl jJ 0),(3,pl d 0),(10,oy a (x1.iQ.toNat*4)),(12,.i .i64 s.1)]∧ad.le a7∧iW b0 [.box jJ [.i .i64 s.2.1,ar,a4,e,a],.row ie.t ar s.2.2.1,.row Chunk.t a4 s.2.2.2.1,.row iu.t e s.2.2.2.2.1,.row iz.t a s.2.2.2.2.2,.box d [.i .i64 x1.kind,.i .i64 x1.snap.seq,.s x1.snap.iw.name,g,h,q,.i .i64 x1.seq,.i .i64 x1.iQ,u]] a7 wq) H ?_ ?_
         ·exact lo ⟨_,x,l,rfl,iI,b0⟩
         ·rintro eb ⟨ct,b8,bD,bE,bF,bG⟩ E fj hI H
          try dsimp only at hI
          obtain⟨a7,ar,a4,rfl,c3,ah⟩:=hI;refine ay ?_;refine qy H (λcU H=>?_) (λcU H=>?_)
          ·refine qk ?_;refine iL (λE wq=>∃b9:Int,∃bH:List ie,∃bI:List Chunk,∃bJ:List iu,∃bK:List iz,ko.sy ct eb b9 bH bI bJ bK=some r ∧ ∃(bb:gL)(aU:gE)(aV:gE),E=[(0,pl jJ 0),(3,pl d 0),(10,oy a (x1.iQ.toNat*4)),(12,.i .i64 ct)]∧a7.le bb∧iW ah [.box jJ [.i .i64 b9,aU,aV,e,a],.row ie.t aU bH,.row Chunk.t aV bI,.row iu.t e bJ,.row iz.t a bK,.box d [.i .i64 x1.kind,.i .i64 x1.snap.seq,.s x1.snap.iw.name,g,h,q,.i .i64 x1.seq,.i .i64 x1.iQ,u]] bb wq) ?_ ?_
           ·obtain⟨f8,dF,H⟩:=iy H;obtain⟨_,⟨rfl,e1⟩,_⟩:=js 37 (m.mono (((S.trans ak).trans aR).trans c3)) dF;refine ax ?_;refine qy H (λcV H=>?_) (λcV H=>?_)
            ·obtain⟨ee,dG,am,dy,H⟩:=iG H;obtain⟨_,⟨rfl,e2⟩,_⟩:=js 37 (m.mono (((S.trans ak).trans aR).trans c3)) dG;refine ax ?_;refine lm (Z2 (x0:=(ig.mk b8 bD bE bF bG)) (x1:=ee.of) (ah.rp [0,1,2,3,4] (by decide)) dy) ?_;rintro fa fl ⟨ej,aiE,aiF,rfl,ca⟩;have cI:=ah.ri [0,1,2,3,4] [5] (by decide) (by decide) ca;have eI:=ca.ext;refine ax ?_;exact nj ⟨am.2.seq,am.2.ik,am.2.chunks,am.2.im,am.2.iv,H,⟨_,aiE,aiF,rfl,iI,cI⟩⟩
            ·refine ax ?_;exact nj ⟨b8,bD,bE,bF,bG,H,⟨_,ar,a4,rfl,iI,ah⟩⟩
           ·rintro E fk ⟨b9,bH,bI,bJ,bK,H,bb,aU,aV,rfl,eF,cH⟩;refine ax ?_;exact nm H ⟨_,aU,aV,rfl,iI,cH⟩
          ·refine jf _ rfl ?_;exact nj ⟨b8,bD,bE,bF,bG,H,⟨_,ar,a4,rfl,iI,ah⟩⟩
        ·rintro E f6 ⟨J,L,aO,M,O,H,a9,y,z,rfl,c5,aD⟩;obtain⟨fA,dL,H⟩:=iy H;obtain⟨_,rfl,_⟩:=mw 4 4 aD dL;refine aq ?_;refine qy H (λdj H=>?_) (λdj H=>?_)
         ·refine ax ?_;refine jH (λ(s:Int×(List Chunk)) E wq=>∃(a6:gL),E=[(0,pl jJ 0),(3,pl d 0),(13,.i .i64 s.1)]∧a9.le a6∧iW aD [.box jJ [.i .i64 J,y,z,e,a],.row ie.t y L,.row Chunk.t z s.2,.row iu.t e M,.row iz.t a O,.box d [.i .i64 x1.kind,.i .i64 x1.snap.seq,.s x1.snap.iw.name,g,h,q,.i .i64 x1.seq,.i .i64 x1.iQ,u]] a6 wq) H ?_ ?_
          ·exact lo (jj aD)
          ·rintro ea ⟨cr,Y⟩ E fe hI H
           try dsimp only at hI
           obtain⟨a6,rfl,c2,n⟩:=hI;refine ay ?_;refine qy H (λcQ H=>?_) (λcQ H=>?_)
           ·refine qk ?_;refine iL (λE wq=>∃bC:List Chunk,ko.k9 cr ea bC=some r ∧ ∃(ba:gL),E=[(0,pl jJ 0),(3,pl d 0),(13,.i .i64 cr)]∧a6.le ba∧iW n [.box jJ [.i .i64 J,y,z,e,a],.row ie.t y L,.row Chunk.t z bC,.row iu.t e M,.row iz.t a O,.box d [.i .i64 x1.kind,.i .i64 x1.snap.seq,.s x1.snap.iw.name,g,h,q,.i .i64 x1.seq,.i .i64 x1.iQ,u]] ba wq) ?_ ?_
            ·obtain⟨f7,dD,H⟩:=iy H;obtain⟨_,⟨rfl,ey⟩,_⟩:=js 37 (m.mono ((((S.trans ak).trans aR).trans c5).trans c2)) dD;refine ax ?_;refine qy H (λcR H=>?_) (λcR H=>?_)
             ·refine kr ?_;obtain⟨c7,dE,aT,dx,H⟩:=iG H;refine rf n ?_;refine au ?_;refine bL n 0 (ig.cells (ig.mk J L Y M O) y z e a) [] ?_;refine au ?_;refine zr 5 Ty.DM n ?_;obtain⟨_,⟨rfl,dq⟩,dk⟩:=js 37 (m.mono ((((S.trans ak).trans aR).trans c5).trans c2)) dE;refine au ?_;refine qq (pw 1 (iJ c7.id) Ty.pJ Ty.nx rfl (dk.mono n.agree) (by first|omega|rfl) rfl (kY rfl)) ?_;refine qM (f:=52) (args:=[.agg (ig.cells (ig.mk J L Y M O) y z e a),.agg (iJ c7.id)]) rfl rfl rfl rfl (HC (Gd.now n.wf) (n.ni (k:=1) rfl) (n.ni (k:=2) rfl) (n.ni (k:=3) rfl) (n.ni (k:=4) rfl) dq dx) ?_;rintro eZ fg ⟨ei,rfl,cP⟩;have ae:=n.oN cP;refine qw ae ?_;refine ax ?_;refine qy H (λcS H=>?_) (λcS H=>?_)
              ·obtain⟨U,cj,V,ck,H⟩:=iG H;refine rf ae ?_;obtain⟨_,⟨eR,eS,rfl,ez,e6,e7⟩,_⟩:=mw 35 2 ae cj;refine au ?_;refine qu (pT (c:=[.b false]) 2 (aT.toNat) 32 U (Chunk.mk U.id false U.data U.locs) rfl rfl ae rfl (iD cj).2 (by first|rfl|(show _=_*35+_;omega)) rfl Ty.L9 rfl (kY rfl) (by rintro cs ⟨a2,a3,rfl,c0,b2,b3⟩;exact⟨a2,a3,rfl,c0,b2,b3⟩)) ?_;rintro _ fh bp;refine qw bp ?_;obtain⟨_,⟨eT,eU,rfl,e0,e8,e9⟩,_⟩:=mw 35 2 bp ck;refine au ?_;refine qu (pT (c:=[.sl none 0 (.k 0)]) 2 (aT.toNat) 33 V (Chunk.mk V.id V.jD [] V.locs) rfl rfl bp rfl (iD ck).2 (by first|rfl|(show _=_*35+_;omega)) rfl Ty.Ew rfl (kY rfl) (by rintro cs ⟨a2,a3,rfl,c0,b2,b3⟩;exact⟨.sl none 0 (.k 0),a3,rfl,c0,(iq.nil _),b3⟩)) ?_;rintro _ fi bX;refine qw bX ?_;refine ax ?_;exact nj ⟨((Y.set aT.toNat (Chunk.mk U.id false U.data U.locs)).set aT.toNat (Chunk.mk V.id V.jD [] V.locs)),H,jj bX⟩
              ·refine ax ?_;exact nj ⟨Y,H,jj ae⟩
             ·refine ax ?_;exact nj ⟨Y,H,jj n⟩
            ·rintro E ff ⟨bC,H,ba,rfl,eE,cG⟩;refine ax ?_;exact nm H (jj cG)
           ·refine ax ?_;exact nj ⟨J,Y,L,M,O,H,⟨_,z,y,e,rfl,iI,pk [0,1,3,4,2] n⟩⟩
         ·refine ax ?_;exact nj ⟨J,aO,L,M,O,H,⟨_,z,y,e,rfl,iI,pk [0,1,3,4,2] aD⟩⟩
    ·refine aq ?_;refine qy H (λdb H=>?_) (λdb H=>?_)
     ·
      cases H
     ·refine aq ?_;refine qy H (λdc H=>?_) (λdc H=>?_)
      ·
       cases H
      ·refine ax ?_;exact nj ⟨x0.seq,x0.chunks,x0.ik,x0.im,x0.iv,H,⟨_,l,x,p,rfl,iI,pk [1,2,4,5,3] R⟩⟩
 ·rintro E w2 ⟨i3,l4,l7,l9,lx,H,F2,u5,u8,bR,rfl,eG,cJ⟩;exact rx H (pk [0,1,4,2,3] cJ)
def Ks (x0:ig) (x1:Change):Option (ig × Int) :=
  bd (kf x0) λe =>
  if(((!e)||decide (x1.kind<1))||decide (5<x1.kind))then
    some ((ig.mk 0 [] [] [] []),1)
  else
    bd (sj x0) λb =>
    bd (Kl x1) λc =>
    bd (ko b c) λa =>
    if decide (a.1≠0)then
      some ((ig.mk 0 [] [] [] []),a.1)
    else
      bd (kf a.2) λd =>
      if(!d)then
        some ((ig.mk 0 [] [] [] []),1)
      else
        some (a.2,0)
theorem ZX{x0:ig}{x1:Change}{r:ig×Int}{d:gE}{e:gE}{f:gE}{g:gE}{h:gE}{j:gE}{l:gE}{m:gE}(hA:Gd F w)(p:iq ie.t F d x0.ik)(q:iq Chunk.t F e x0.chunks)(u:iq iu.t F f x0.im)(x:iq iz.t F g x0.iv)(ah:iq Part.t F h x1.snap.iw.parts)(ai:iq Loc.t F j x1.snap.locs)(aj:iq Chunk.t F l x1.chunks)(ak:iq Item.t F m x1.items)(H:Ks x0 x1=some r):iN il K 29 [.agg (ig.cells x0 d e f g),.agg (Change.cells x1 h j l m)] w λv w'=>∃(F':gL)(P:gE)(Q:gE)(R:gE)(S:gE),v = .kx [.agg (ig.cells r.1 P Q R S),.i .i64 r.2]∧iq ie.t F' P (r.1.ik)∧iq Chunk.t F' Q (r.1.chunks)∧iq iu.t F' R (r.1.im)∧iq iz.t F' S (r.1.iv)∧St [] w F F' [] w':=by
 refine kB Tryz.func29 ?_;have hS:=St.start hA;refine qs ?_;refine bx ([.i .i64 x0.seq,d,e,f,g]) ?_;intro Y w1 bk;refine bx ([.i .i64 x1.kind,.i .i64 x1.snap.seq,.s x1.snap.iw.name,h,j,l,.i .i64 x1.seq,.i .i64 x1.iQ,m]) ?_;intro g2 w2 bo;refine al ?_;intro g3 w3 G;obtain⟨r4,ba,H⟩:=iy H;refine ay ?_;refine lp (Tu G.iH p q u x ba) G ?_;intro w5 J;refine aw ?_;refine qy H (λa7 H=>?_) (λa7 H=>?_)
 ·refine qs ?_;refine j8 (v:=.agg (ig.cells (ig.mk 0 [] [] [] []) (.sl none 0 (.k 0)) (.sl none 0 (.k 0)) (.sl none 0 (.k 0)) (.sl none 0 (.k 0)))) rfl rfl rfl rfl (λ_=>rfl) ?_;refine sb 0 ([.i .i64 0,.sl none 0 (.k 0),.sl none 0 (.k 0),.sl none 0 (.k 0),.sl none 0 (.k 0)]) ?_;intro b9 y;refine au ?_;obtain rfl:=oi H;refine oH (vs:=[.agg (ig.cells (ig.mk 0 [] [] [] []) (.sl none 0 (.k 0)) (.sl none 0 (.k 0)) (.sl none 0 (.k 0)) (.sl none 0 (.k 0))),.i .i64 1]) rfl ⟨(oJ 0 Ty.rb Ty.rv y rfl rfl),rfl,trivial⟩ ?_;exact⟨F,.sl none 0 (.k 0),.sl none 0 (.k 0),.sl none 0 (.k 0),.sl none 0 (.k 0),rfl,(iq.nil _),(iq.nil _),(iq.nil _),(iq.nil _),y.pick [] (by decide)⟩
 ·obtain⟨U,aU,H⟩:=iy H;refine ax ?_;refine lm (ZD J.iH p q u x aU) ?_;rintro b5 bB ⟨bi,bc,be,bf,a,rfl,L⟩;have bn:=J.call L;have bu:=L.ext;refine al ?_;intro Z bA bm;refine sb 0 ([.i .i64 U.seq,bc,be,bf,a]) ?_;intro bC z;obtain⟨bb,aV,c,aX,H⟩:=iG H;refine ax ?_;refine lm (ZE z.iH (mo ah) (mo ai) (mo aj) (mo ak) aV) ?_;rintro b6 bE ⟨bj,b1,b2,b3,b4,rfl,aK,aO,aR,aT,M⟩;have A:=z.call M;have bv:=M.ext;refine lm (Z1 (x0:=U) (x1:=bb) (A.rp [0,1,2,3,4] (by decide)) aK aO aR aT aX) ?_;rintro b7 bF ⟨n,Jl,Jm,Jn,rfl,O⟩;have b:=A.ri [0,1,2,3,4] [5,6,7] (by decide) (by decide) O;have bw:=O.ext;refine ay ?_;refine qy H (λa8 H=>?_) (λa8 H=>?_)
  ·refine qs ?_;refine j8 (v:=.agg (ig.cells (ig.mk 0 [] [] [] []) (.sl none 0 (.k 0)) (.sl none 0 (.k 0)) (.sl none 0 (.k 0)) (.sl none 0 (.k 0)))) rfl rfl rfl rfl (λ_=>rfl) ?_;refine qc ?_;refine sb 5 ([.i .i64 0,.sl none 0 (.k 0),.sl none 0 (.k 0),.sl none 0 (.k 0),.sl none 0 (.k 0)]) ?_;intro bG B;refine au ?_;obtain rfl:=oi H;refine oH (vs:=[.agg (ig.cells (ig.mk 0 [] [] [] []) (.sl none 0 (.k 0)) (.sl none 0 (.k 0)) (.sl none 0 (.k 0)) (.sl none 0 (.k 0))),.i .i64 c.1]) rfl ⟨(oJ 5 Ty.rb Ty.rv B rfl rfl),rfl,trivial⟩ ?_;exact⟨n,.sl none 0 (.k 0),.sl none 0 (.k 0),.sl none 0 (.k 0),.sl none 0 (.k 0),rfl,(iq.nil _),(iq.nil _),(iq.nil _),(iq.nil _),B.pick [] (by decide)⟩
  ·obtain⟨bz,aY,H⟩:=iy H;refine ay ?_;refine lp (Tu (Gd.now b.wf) (b.ni (k:=1) rfl) (b.ni (k:=2) rfl) (b.ni (k:=3) rfl) (b.ni (k:=4) rfl) aY) b ?_;intro bH bp;refine au ?_;refine qy H (λa9 H=>?_) (λa9 H=>?_)
   ·refine qs ?_;refine j8 (v:=.agg (ig.cells (ig.mk 0 [] [] [] []) (.sl none 0 (.k 0)) (.sl none 0 (.k 0)) (.sl none 0 (.k 0)) (.sl none 0 (.k 0)))) rfl rfl rfl rfl (λ_=>rfl) ?_;refine sb 5 ([.i .i64 0,.sl none 0 (.k 0),.sl none 0 (.k 0),.sl none 0 (.k 0),.sl none 0 (.k 0)]) ?_;intro bI D;refine au ?_;obtain rfl:=oi H;refine oH (vs:=[.agg (ig.cells (ig.mk 0 [] [] [] []) (.sl none 0 (.k 0)) (.sl none 0 (.k 0)) (.sl none 0 (.k 0)) (.sl none 0 (.k 0))),.i .i64 1]) rfl ⟨(oJ 5 Ty.rb Ty.rv D rfl rfl),rfl,trivial⟩ ?_;exact⟨n,.sl none 0 (.k 0),.sl none 0 (.k 0),.sl none 0 (.k 0),.sl none 0 (.k 0),rfl,(iq.nil _),(iq.nil _),(iq.nil _),(iq.nil _),D.pick [] (by decide)⟩
   ·refine ax ?_;refine sb 5 ([.i .i64 c.2.seq,Jl,Jm,Jn,a]) ?_;intro bJ am;refine au ?_;obtain⟨bg,bq,aC,ar⟩:=am.kh 1 [0,2,3,4,5,6,7] rfl (by decide) (by decide);obtain⟨bh,br,aD,a4⟩:=ar.kh 1 [0,2,3,4,5,6] rfl (by decide) (by decide);obtain⟨V,bs,aH,a5⟩:=a4.kh 1 [0,2,3,4,5] rfl (by decide) (by decide);have a6:St [] w F V [.box Z [.i .i64 c.2.seq,Jl,Jm,Jn,a],.row iz.t a c.2.iv,.box g3 [.i .i64 c.2.seq,Jl,Jm,Jn,a],.box g2 [.i .i64 x1.kind,.i .i64 x1.snap.seq,.s x1.snap.iw.name,h,j,l,.i .i64 x1.seq,.i .i64 x1.iQ,m],.box Y [.i .i64 x0.seq,d,e,f,g]] _:=a5;obtain⟨X,bt,aJ,I⟩:=a6.kh 1 [0,2,3,4] rfl (by decide) (by decide);obtain rfl:=oi H;refine oH (vs:=[.agg (ig.cells c.2 Jl Jm Jn a),.i .i64 0]) rfl ⟨(oJ 1 Ty.rb Ty.rv I rfl rfl),rfl,trivial⟩ ?_;exact⟨X,Jl,Jm,Jn,a,rfl,(mo aC),(mo aD),(mo aH),aJ,I.pick [] (by decide)⟩
def vk.k1(l3:List Found):Option (List Found) :=
  some l3
def vk.l2(x1:mP)(x2:List Loc)(b:(Int×(List Found))→Option (List Found)):(Int×(List Found))→Option (List Found)
  | (a,l7) =>
    if decide (a<(x2.length:Int))then
      bd (ix x2 a) λc =>
      bd (app (α:=Found) l7 [(Found.mk x1 c)]) λnw =>
      b (wr (a+1),nw)
    else
      vk.k1 l7
def vk(x0:List Found)(x1:mP)(x2:List Loc):Option (List Found) :=
  loop (vk.l2 x1 x2) (0,x0)
theorem Kp{x0:List Found}{x1:mP}{x2:List Loc}{r:(List Found)}{b:gE}{a:gE}{m:gE}(hS:St b.own w F F [.row Found.t b x0] w)(p:iq tB F a x1.data)(u:iq Loc.t F m x2)(H:vk x0 x1 x2=some r):iN il K 32 [b,.agg (mP.cells x1 a),m] w λv w'=>∃(F':gL)(q:gE),v=q∧St b.own w F F' [.row Found.t q (r)] w':=by
 refine vH Tryz.func32 ?_;refine qs ?_;refine bx ([.i .i64 x1.kind,.i .i64 x1.seq,a]) ?_;intro n Q h;refine au ?_;refine iL (λE wq=>∃l3:List Found,vk.k1 l3=some r ∧ ∃(f:gL)(l:gE),E=[(0,l)]∧F.le f∧iW h [.row Found.t l l3] f wq) ?_ ?_
 ·refine ax ?_;refine jH (λ(s:Int×(List Found)) E wq=>∃(g:gL)(d:gE),E=[(0,d),(2,m),(4,pl n 0),(7,.i .i64 s.1)]∧F.le g∧iW h [.box n [.i .i64 x1.kind,.i .i64 x1.seq,a],.row Found.t d s.2] g wq) H ?_ ?_
  ·exact lo ⟨_,b,rfl,iI,h⟩
  ·rintro O ⟨L,l7⟩ E V hI H
   try dsimp only at hI
   obtain⟨g,d,rfl,G,c⟩:=hI;refine ay ?_;refine qy H (λz H=>?_) (λz H=>?_)
   ·refine ay ?_;obtain⟨e,D,nw,B,H⟩:=iG H;refine rf c ?_;refine qc ?_;refine bL c 0 (mP.cells x1 a) [] ?_;obtain⟨_,rfl,J⟩:=js 4 (u.mono G) D;refine au ?_;have A:=p.ln.cells;refine qr (tJ (vs:=[(0,.agg (mP.cells x1 a)),(1,.agg (Loc.cells e))]) (v:=.agg (Found.cells (Found.mk x1 e) a)) Ty.S6 rfl (by simp only[oS,A];rfl)) ?_;refine qx (kN (t:=Found.t) (vs:=[.agg (Found.cells (Found.mk x1 e) a)]) (xs:=[(Found.mk x1 e)]) Tryz.underlying23 Ty.L0 rfl ⟨⟨a,rfl,(mo p)⟩,trivial⟩ rfl rfl c) ?_;rintro P R j;refine qw j ?_;refine aP 2 j (j.mi (k:=0) rfl) B ?_;intro I S x;refine ax ?_;exact nm H ⟨_,I,rfl,iI,pk [1,2] x⟩
   ·refine jf _ rfl ?_;exact nj ⟨l7,H,⟨_,d,rfl,iI,pk [1] c⟩⟩
 ·rintro E U ⟨l3,H,f,l,rfl,M,y⟩;exact rx H y
def sq.k1(l2:List UInt8):Option (List UInt8) :=
  some l2
def sq.l2(x0:Int)(b:((List UInt8)×Int)→Option (List UInt8)):((List UInt8)×Int)→Option (List UInt8)
  | (l6,a) =>
    if decide (0≤a)then
      bd (Ev x0 (wu (wr (8*a)))) λc =>
      bd (app (α:=UInt8) l6 [(jC c)]) λnw =>
      b (nw,wr (a-1))
    else
      sq.k1 l6
def sq(x0:Int)(x1:Int):Option (List UInt8) :=
  loop (sq.l2 x0) ([],wr (x1-1))
theorem ZU{x0:Int}{x1:Int}{r:(List UInt8)}(hA:Gd F w)(H:sq x0 x1=some r):iN il K 73 [.i .i64 x0,.i .i64 x1] w λv w'=>∃(F':gL)(g:gE),v=g∧St [] w F F' [.row tB g (r)] w':=by
 refine kB Tryz.func73 ?_;have hS:=St.start hA;refine aq ?_;refine aq ?_;refine iL (λE wq=>∃l2:List UInt8,sq.k1 l2=some r ∧ ∃(b:gL)(d:gE),E=[(5,d)]∧F.le b∧iW hS [.row tB d l2] b wq) ?_ ?_
 ·refine ax ?_;refine jH (λ(s:(List UInt8)×Int) E wq=>∃(c:gL)(a:gE),E=[(0,.i .i64 x0),(5,a),(6,.i .i64 s.2)]∧F.le c∧iW hS [.row tB a s.1] c wq) H ?_ ?_
  ·have m:=hS.lb tB;exact lo ⟨F,(.sl none 0 (.k 0)),rfl,(gL.le.refl _),m⟩
  ·rintro G ⟨l6,A⟩ E O hI H
   try dsimp only at hI
   obtain⟨c,a,rfl,D,f⟩:=hI;refine ay ?_;refine qy H (λn H=>?_) (λn H=>?_)
   ·obtain⟨h,x,nw,p,H⟩:=iG H;refine ay ?_;refine qr (ml mH p9 rfl (rfl)) ?_;obtain⟨y,q,u⟩:=agQ x;refine qr (iB rfl rfl (by rw[vh y q,←u])) ?_;refine qr (ml mH p7 rfl (yj _)) ?_;refine xm (kN (t:=tB) (vs:=[.i .u8 ((jC h).toNat:Int)]) (xs:=[(jC h)]) lL Ty.qD rfl ⟨rfl,trivial⟩ rfl rfl f) ?_;rintro I L e;refine ap 1 e (e.mi (k:=0) rfl) p ?_;intro z M l;refine ax ?_;exact nm H ⟨_,z,rfl,iI,pk [1] l⟩
   ·refine jf _ rfl ?_;exact nj ⟨l6,H,⟨_,a,rfl,iI,f⟩⟩
 ·rintro E J ⟨l2,H,b,d,rfl,B,j⟩;exact rx H j
def rK.k1(l9:List UInt8):Option (List UInt8) :=
  some l9
def rK.k3(a:Int)(c:(Int×(List UInt8))→Option (List UInt8))(b:List UInt8):Option (List UInt8) :=
  c (wr (a+1),b)
def rK.l4(d:Int)(f:(Int×(List UInt8))→Option (List UInt8))(c:Part)(g:(Int×(List UInt8))→Option (List UInt8)):(Int×(List UInt8))→Option (List UInt8)
  | (a,b) =>
    if decide (a<(c.ids.length:Int))then
      bd (ix c.ids a) λh =>
      bd (app (α:=UInt8) b h) λe =>
      g (wr (a+1),e)
    else
      rK.k3 d f b
def rK.l2(x0:iF)(h:(Int×(List UInt8))→Option (List UInt8)):(Int×(List UInt8))→Option (List UInt8)
  | (b,nF) =>
    if decide (b<(x0.parts.length:Int))then
      bd (ix x0.parts b) λa =>
      bd (app (α:=UInt8) nF [(jC (a.path.length:Int))]) λc =>
      bd (app (α:=UInt8) c a.path) λd =>
      bd (sq a.size 2) λg =>
      bd (app (α:=UInt8) d g) λe =>
      bd (app (α:=UInt8) e [(jC (a.ids.length:Int))]) λf =>
      loop (rK.l4 b h a) (0,f)
    else
      rK.k1 nF
def rK(x0:iF):Option (List UInt8) :=
  bd (app (α:=UInt8) [(jC (x0.name.length:Int))] x0.name) λl3 =>
  bd (app (α:=UInt8) l3 [(jC (x0.parts.length:Int))]) λl6 =>
  loop (rK.l2 x0) (0,l6)
theorem Tt{x0:iF}{r:(List UInt8)}{g:gE}(hA:Gd F w)(Z:iq Part.t F g x0.parts)(H:rK x0=some r):iN il K 33 [.agg (iF.cells x0 g)] w λv w'=>∃(F':gL)(V:gE),v=V∧St [] w F F' [.row tB V (r)] w':=by
 refine lg Tryz.func33 ?_;have hS:=St.start hA;refine qs ?_;refine bx ([.s x0.name,g]) ?_;intro c w1 ad;obtain⟨l3,a7,H⟩:=iy H;refine ax ?_;refine qr (ml mH p7 rfl (yj _)) ?_;refine xm (kN (t:=tB) (vs:=[.i .u8 ((jC (x0.name.length:Int)).toNat:Int)]) (xs:=[(jC (x0.name.length:Int))]) lL Ty.qD rfl ⟨rfl,trivial⟩ rfl rfl ad) ?_;rintro u2 w2 ah;refine au ?_;refine xm (Sj 0 lL Ty.qD Ty.Ra rfl rfl ah rfl a7) ?_;rintro v4 w4 ai;obtain⟨l6,aD,H⟩:=iy H;refine ax ?_;refine qr (ml mH p7 rfl (yj _)) ?_;refine xm (kN (t:=tB) (vs:=[.i .u8 ((jC (x0.parts.length:Int)).toNat:Int)]) (xs:=[(jC (x0.parts.length:Int))]) lL Ty.qD rfl ⟨rfl,trivial⟩ rfl rfl ai) ?_;rintro u5 w5 R;refine ap 1 R (R.mi (k:=0) rfl) aD ?_;intro v7 w7 J;refine au ?_;refine iL (λE wq=>∃l9:List UInt8,rK.k1 l9=some r ∧ ∃(y:gL)(O:gE),E=[(3,O)]∧F.le y∧iW J [.row tB O l9] y wq) ?_ ?_
 ·refine ax ?_;refine jH (λ(s:Int×(List UInt8)) E wq=>∃(b:gL)(n:gE),E=[(1,pl c 0),(3,n),(4,.i .i64 s.1)]∧F.le b∧iW J [.row tB n s.2,.box c [.s x0.name,g]] b wq) H ?_ ?_
  ·exact lo ⟨_,v7,rfl,iI,pk [1,2] J⟩
  ·rintro aY ⟨L,nF⟩ E b6 hI H
   try dsimp only at hI
   obtain⟨b,n,rfl,aV,P⟩:=hI;refine ay ?_;refine qy H (λam H=>?_) (λam H=>?_)
   ·refine qk ?_;refine iL (λE wq=>∃M:List UInt8,rK.k3 L aY M=some r ∧ ∃(u:gL)(p:gE),E=[(1,pl c 0),(3,p),(4,.i .i64 L)]∧b.le u∧iW P [.row tB p M,.box c [.s x0.name,g]] u wq) ?_ ?_
    ·obtain⟨a,aR,H⟩:=iy H;obtain⟨_,⟨X,rfl,aK⟩,bh⟩:=js 3 (Z.mono aV) aR;refine ax ?_;refine al ?_;intro j b9 bg;refine sb 0 ([.s a.path,.i .i64 a.size,X]) ?_;intro be l;refine ay ?_;obtain⟨bj,a5,bk,a6,H⟩:=iG H;have h:=l.mC 0 rfl;refine nA (G:=(b.hold be [j])) [0,1,2,3,4,5,7,8,6,9,10] rfl Ty.mixed (by kernel_rfl) (HB.agree (HB.cons 0 h l rfl HB.nil) l.agree) ?_;refine au ?_;refine qr (ml mH p7 rfl (yj _)) ?_;refine qx (kN (t:=tB) (vs:=[.i .u8 ((jC (a.path.length:Int)).toNat:Int)]) (xs:=[(jC (a.path.length:Int))]) lL Ty.qD rfl ⟨rfl,trivial⟩ rfl rfl l) ?_;rintro bv bA m;refine qh 1 h m ?_;refine au ?_;refine hl 1 h m ?_;refine qx (sM (t:=tB) 2 lL Ty.qD Ty.Mt rfl rfl m rfl (m.mi (k:=0) rfl) a5) ?_;rintro b1 bB Q;refine qh 1 h Q ?_;refine qx (Sj 2 lL Ty.qD Ty.Ra rfl rfl Q rfl a6) ?_;rintro b2 bf d;refine qh 1 h d ?_;refine ay ?_;obtain⟨bs,aJ,bm,a8,H⟩:=iG H;obtain⟨bn,a9,H⟩:=iy H;have e:=d.mC 1 rfl;refine nA (G:=(b.hold bf [j])) [0,1,2,5,6,7,8,9,3,4,10,11] rfl Ty.mixed (by kernel_rfl) (HB.agree (HB.cons 1 e d rfl HB.nil) d.agree) ?_;refine au ?_;refine hl 1 e d ?_;refine au ?_;refine qr (ml mH p7 rfl (yj _)) ?_;refine qx (kN (t:=tB) (vs:=[.i .u8 ((jC (a.ids.length:Int)).toNat:Int)]) (xs:=[(jC (a.ids.length:Int))]) lL Ty.qD rfl ⟨rfl,trivial⟩ rfl rfl d) ?_;rintro bw bC z;refine qh 2 e z ?_;refine ql (ZU z.iH aJ) ?_;rintro b0 bF ⟨Y,_,rfl,S⟩;have D:=z.call S;have U:=S.ext;refine nf 3 e D U ?_;refine qx (sM (t:=tB) 4 lL Ty.qD Ty.Mt rfl rfl D rfl (D.mi (k:=0) rfl) a8) ?_;rintro b3 bD A;refine qh 3 e A ?_;refine qx (sM (t:=tB) 4 lL Ty.qD Ty.Mt rfl rfl A rfl (A.mi (k:=1) rfl) a9) ?_;rintro ba bE B;refine qh 3 e B ?_;refine ax ?_;refine jH (λ(s:Int×(List UInt8)) E wq=>∃(x:gL)(q:gE),E=[(1,pl c 0),(3,q),(4,.i .i64 L),(5,pl j 0),(6,.i .i64 s.1)]∧Y.le x∧iW B [.box j [.s a.path,.i .i64 a.size,X],.row tB q s.2,.box c [.s x0.name,g]] x wq) H ?_ ?_
     ·exact lo ⟨_,ba,rfl,iI,pk [3,4,5] B⟩
     ·rintro bt ⟨bi,aU⟩ E bG hI H
      try dsimp only at hI
      obtain⟨x,q,rfl,aX,I⟩:=hI;refine ay ?_;refine qy H (λar H=>?_) (λar H=>?_)
      ·obtain⟨bN,aT,bo,aC,H⟩:=iG H;obtain⟨_,⟨rfl,aH⟩,a4⟩:=js 32 (aK.mono (U.trans aX)) aT;refine ay ?_;refine X5 (f:=0) rfl rfl rfl rfl Tryz.underlying82 Ty.pD rfl a4 (by omega) aH rfl ?_;intro br aO;refine ap 1 I (aO.src I.agree) aC ?_;intro bb bI aj;refine ax ?_;exact nm H ⟨_,bb,rfl,iI,aj⟩
      ·refine ax ?_;exact nj ⟨aU,H,⟨_,q,rfl,iI,pk [1,2] I⟩⟩
    ·rintro E b7 ⟨M,H,u,p,rfl,bp,ae⟩;refine ax ?_;exact nm H ⟨_,p,rfl,iI,ae⟩
   ·refine jf _ rfl ?_;exact nj ⟨nF,H,⟨_,n,rfl,iI,pk [0] P⟩⟩
 ·rintro E w8 ⟨l9,H,y,O,rfl,bq,ak⟩;exact rx H ak
def lS.k3(a:Bool)(kW:List Found):Option ((List Found)×Bool) :=
  some (kW,a)
def lS.l4(x0:ig)(e:Bool)(g:((List Found)×Int)→Option ((List Found)×Bool)):((List Found)×Int)→Option ((List Found)×Bool)
  | (c,a) =>
    if decide (a<(x0.im.length:Int))then
      bd (ix x0.im a) λb =>
      bd (ix x0.im a) λd =>
      bd (vk c (mP.mk 3 d.seq [(jC (b.of/2^(24:Int).toNat)),(jC (b.of/2^(16:Int).toNat)),(jC (b.of/2^(8:Int).toNat)),(jC b.of)]) d.locs) λf =>
      g (f,wr (a+1))
    else
      lS.k3 e c
def lS.k2(x0:ig)(a:Bool)(l8:List Found):Option ((List Found)×Bool) :=
  loop (lS.l4 x0 a) (l8,0)
def lS.l5(x0:ig)(d:Bool)(g:((List Found)×Int)→Option ((List Found)×Bool)):((List Found)×Int)→Option ((List Found)×Bool)
  | (c,a) =>
    if decide (a<(x0.ik.length:Int))then
      bd (ix x0.ik a) λb =>
      bd (rK b.iw) λe =>
      bd (vk c (mP.mk 2 b.seq e) b.locs) λf =>
      g (f,wr (a+1))
    else
      lS.k2 x0 d c
def lS.k1(x0:ig)(l3:List Found)(a:Bool):Option ((List Found)×Bool) :=
  loop (lS.l5 x0 a) (l3,0)
def lS.k7(b:Int)(d:((List Found)×Bool×Int)→Option ((List Found)×Bool))(c:List Found)(a:Bool):Option ((List Found)×Bool) :=
  d (c,a,wr (b+1))
def lS.k8(x0:ig)(x1:List Chunk)(d:List Found)(b:Bool)(a:Int)(e:((List Found)×Bool×Int)→Option ((List Found)×Bool))(c:Int):Option ((List Found)×Bool) :=
  if decide (c<0)then
    bd (only b (ix x0.chunks a) (Chunk.mk (iV 32 (0:UInt8)) false [] [])) λg =>
    lS.k7 a e d (b&&decide ((g.locs.length:Int)=0))
  else
    bd (ix x1 c) λh =>
    bd (ix x0.chunks a) λi =>
    bd (vk d (mP.mk 1 0 h.data) i.locs) λf =>
    lS.k7 a e f b
def lS.BJ(a:Int)(c:(Int×Int)→Option ((List Found)×Bool))(b:Int):Option ((List Found)×Bool) :=
  c (b,wr (a+1))
def lS.l9(x0:ig)(x1:List Chunk)(f:List Found)(e:Bool)(c:Int)(g:((List Found)×Bool×Int)→Option ((List Found)×Bool))(d:(Int×Int)→Option ((List Found)×Bool)):(Int×Int)→Option ((List Found)×Bool)
  | (b,a) =>
    if (decide (a < (x1.length:Int))&&decide (b < 0)) then
      bd (ix x1 a) λh =>
      bd (ix x0.chunks c) λi =>
      if decide (h.id=i.id)then
        lS.BJ a d a
      else
        lS.BJ a d b
    else
      lS.k8 x0 x1 f e c g b
def lS.l6(x0:ig)(x1:List Chunk)(d:((List Found)×Bool×Int)→Option ((List Found)×Bool)):((List Found)×Bool×Int)→Option ((List Found)×Bool)
  | (c,a,b) =>
    if decide (b<(x0.chunks.length:Int))then
      loop (lS.l9 x0 x1 c a b d) ((-1),0)
    else
      lS.k1 x0 c a
def lS(x0:ig)(x1:List Chunk):Option ((List Found)×Bool) :=
  loop (lS.l6 x0 x1) ([],true,0)
set_option maxHeartbeats 2000000 in
theorem ZK{x0:ig}{x1:List Chunk}{r:(List Found)×Bool}{e:gE}{g:gE}{h:gE}{j:gE}{q:gE}(hA:Gd F w)(bw:iq ie.t F e x0.ik)(ak:iq Chunk.t F g x0.chunks)(aY:iq iu.t F h x0.im)(c9:iq iz.t F j x0.iv)(h1:iq Chunk.t F q x1)(H:lS x0 x1=some r):iN il K 31 [.agg (ig.cells x0 e g h j),q] w λv w'=>∃(F':gL)(q0:gE),v = .kx [q0,.b r.2]∧St [] w F F' [.row Found.t q0 (r.1)] w':=by
 refine kB Tryz.func31 ?_;have hS:=St.start hA;refine qs ?_;refine bx ([.i .i64 x0.seq,e,g,h,j]) ?_;intro a w1 am;refine au ?_;refine aq ?_;refine aq ?_;refine iL (λE wq=>∃l3:List Found,∃m:Bool,lS.k1 x0 l3 m=some r ∧ ∃(D:gL)(U:gE),E=[(2,pl a 0),(6,U),(7,.b m)]∧F.le D∧iW am [.box a [.i .i64 x0.seq,e,g,h,j],.row Found.t U l3] D wq) ?_ ?_
 ·refine ax ?_;refine jH (λ(s:(List Found)×Bool×Int) E wq=>∃(y:gL)(d:gE),E=[(1,q),(2,pl a 0),(6,d),(7,.b s.2.1),(8,.i .i64 s.2.2)]∧F.le y∧iW am [.box a [.i .i64 x0.seq,e,g,h,j],.row Found.t d s.1] y wq) H ?_ ?_
  ·have b3:=am.lb Found.t;exact lo ⟨F,(.sl none 0 (.k 0)),rfl,(gL.le.refl _),b3.pick [1,0] (by decide)⟩
  ·rintro bt ⟨S,l,x⟩ E dt hI H
   try dsimp only at hI
   obtain⟨y,d,rfl,L,J⟩:=hI;refine ay ?_;refine qy H (λb7 H=>?_) (λb7 H=>?_)
   ·refine qk ?_;refine iL (λE wq=>∃aJ:List Found,∃aj:Bool,lS.k7 x bt aJ aj=some r ∧ ∃(ae:gL)(V:gE),E=[(1,q),(2,pl a 0),(6,V),(7,.b aj),(8,.i .i64 x)]∧y.le ae∧iW J [.box a [.i .i64 x0.seq,e,g,h,j],.row Found.t V aJ] ae wq) ?_ ?_
    ·refine qZ ?_;refine aq ?_;refine iL (λE wq=>∃aC:Int,lS.k8 x0 x1 S l x bt aC=some r ∧ ∃(z:gL),E=[(1,q),(2,pl a 0),(6,d),(7,.b l),(8,.i .i64 x),(9,.i .i64 aC)]∧y.le z∧mq J z wq) ?_ ?_
     ·refine ax ?_;refine jH (λ(s:Int×Int) E wq=>∃(Q:gL),E=[(1,q),(2,pl a 0),(6,d),(7,.b l),(8,.i .i64 x),(9,.i .i64 s.1),(10,.i .i64 s.2)]∧y.le Q∧mq J Q wq) H ?_ ?_
      ·exact lo (jj J)
      ·rintro cq ⟨bn,aD⟩ E dz hI H
       try dsimp only at hI
       obtain⟨Q,rfl,bq,A⟩:=hI;refine aZ ?_;refine qy H (λb9 H=>?_) (λb9 H=>?_)
       ·refine qk ?_;refine iL (λE wq=>∃aH:Int,lS.BJ aD cq aH=some r ∧ ∃(ai:gL),E=[(1,q),(2,pl a 0),(6,d),(7,.b l),(8,.i .i64 x),(9,.i .i64 aH),(10,.i .i64 aD)]∧Q.le ai∧mq A ai wq) ?_ ?_
        ·refine ay ?_;obtain⟨c0,cd,c1,ce,H⟩:=iG H;refine rn ?_;obtain⟨_,⟨df,dg,rfl,bJ,cL,cM⟩,bF⟩:=js 35 (h1.mono (L.trans bq)) cd;refine au ?_;refine qr (pw 0 (iJ c0.id) Ty.pJ Ty.nx rfl (bF.mono A.agree) (by first|omega|rfl) rfl (kY rfl)) ?_;obtain⟨_,⟨dh,di,rfl,bK,cN,cO⟩,bG⟩:=js 35 (ak.mono (L.trans bq)) ce;refine au ?_;refine qr (pw 0 (iJ c1.id) Ty.pJ Ty.nx rfl (bG.mono A.agree) (by first|omega|rfl) rfl (kY rfl)) ?_;refine qr (iB rfl rfl (z7 Ty.Ag rfl rfl (Af bJ bK))) ?_;refine qn ?_;refine qy H (λbA H=>?_) (λbA H=>?_)
         ·refine ax ?_;exact nj ⟨aD,H,jj A⟩
         ·refine ax ?_;exact nj ⟨bn,H,jj A⟩
        ·rintro E d0 ⟨aH,H,ai,rfl,cU,b2⟩;refine ax ?_;exact nm H (jj b2)
       ·refine jf _ rfl ?_;exact nj ⟨bn,H,jj A⟩
     ·rintro E dv ⟨aC,H,z,rfl,aO,u⟩;refine ay ?_;refine qy H (λb8 H=>?_) (λb8 H=>?_)
      ·refine kr ?_;obtain⟨bu,ca,H⟩:=iy H;refine sL (λE wq=>E=[(1,q),(2,pl a 0),(6,d),(7,.b (l&&decide ((bu.locs.length:Int)=0))),(8,.i .i64 x)] ∧ ∃ah:gL,z.le ah∧St [] w F ah [.box a [.i .i64 x0.seq,e,g,h,j],.row Found.t d S] wq) ?_ ?_
       ·
        rcases nk l with p|p
        ·refine qd ?_;refine q2 ?_;refine kC 47 p ?_;refine qf Ty.yX ?_;refine qb 0 Ty.vj u ?_;refine qc ?_;have bm:=ca;rw[jX p]at bm;obtain⟨bM,cf⟩:=iD bm;obtain⟨c8,bQ,R⟩:=(ak.mono (L.trans aO)).el cf;obtain⟨db,dc,rfl,cE,cI,bV⟩:=bQ;replace R:=qj 35 R;have bj:=R.ky;refine qi kT Ty.nX bj bM ?_;refine qr (nr 34 Ty.FM rfl bj) ?_;refine qr (la 34 Ty.sh rfl (R.mono u.agree) (by first|omega|rfl) rfl) ?_;refine qr (jV ov rfl bV.ln) ?_;refine qr (iB rfl rfl nQ) ?_;refine q2 ?_;refine ku ?_;exact lW _ ⟨rfl,z,(gL.le.refl _),u⟩ ⟨rfl,rfl,rfl,(lZ rfl (by first|rfl|(rw[p];first|done|rfl)|simp[p])),rfl,trivial⟩
        ·refine qd ?_;refine q2 ?_;refine kC 47 p ?_;refine je ?_;refine je ?_;refine je ?_;refine je ?_;refine q2 ?_;refine ku ?_;exact lW _ ⟨rfl,z,(gL.le.refl _),u⟩ ⟨rfl,rfl,rfl,(lZ rfl (by first|rfl|(rw[p];first|done|rfl)|simp[p])),rfl,trivial⟩
       rintro E dw ⟨rfl,ah,cT,b1⟩;refine ax ?_;exact nj ⟨S,(l&&decide ((bu.locs.length:Int)=0)),H,⟨_,d,rfl,iI,b1⟩⟩
      ·refine qk ?_;obtain⟨bv,cb,d1,cc,H⟩:=iG H;obtain⟨cp,bR,H⟩:=iy H;refine rf u ?_;obtain⟨_,⟨aU,dd,rfl,cF,bk,cJ⟩,cC⟩:=js 35 (h1.mono (L.trans aO)) cb;refine au ?_;have bD:=bk.ln.cells;refine qr (tJ (vs:=[(0,.i .i64 1),(2,aU)]) (v:=.agg (mP.cells (mP.mk 1 0 bv.data) aU)) Ty.Hs rfl (by simp only[oS,bD];rfl)) ?_;obtain⟨_,⟨de,cu,rfl,cG,cK,bW⟩,cD⟩:=js 35 (ak.mono (L.trans aO)) cc;refine au ?_;refine qM (f:=32) (args:=[d,.agg (mP.cells (mP.mk 1 0 bv.data) aU),cu]) rfl rfl rfl rfl (Kp (u.zl 1 rfl) bk bW bR) ?_;rintro cy dy ⟨c7,_,rfl,bi⟩;have be:=u.yM 1 [0] rfl (by decide) (by decide) bi;have co:=bi.ext;refine jG.mW co be.agree ?_;refine ax ?_;exact nj ⟨cp,l,H,⟨_,cy,rfl,iI,pk [1,0] be⟩⟩
    ·rintro E du ⟨aJ,aj,H,ae,V,rfl,cS,b0⟩;refine ax ?_;exact nm H ⟨_,V,rfl,iI,b0⟩
   ·refine jf _ rfl ?_;exact nj ⟨S,l,H,⟨_,d,rfl,iI,J⟩⟩
 ·rintro E w2 ⟨l3,m,H,D,U,rfl,aK,a4⟩;refine iL (λE wq=>∃l8:List Found,lS.k2 x0 m l8=some r ∧ ∃(I:gL)(X:gE),E=[(2,pl a 0),(6,X),(7,.b m)]∧D.le I∧iW a4 [.box a [.i .i64 x0.seq,e,g,h,j],.row Found.t X l8] I wq) ?_ ?_
  ·refine ax ?_;refine jH (λ(s:(List Found)×Int) E wq=>∃(P:gL)(O:gE),E=[(2,pl a 0),(6,O),(7,.b m),(11,.i .i64 s.2)]∧D.le P∧iW a4 [.box a [.i .i64 x0.seq,e,g,h,j],.row Found.t O s.1] P wq) H ?_ ?_
   ·exact lo ⟨_,U,rfl,iI,a4⟩
   ·rintro cZ ⟨ch,cQ⟩ E cz hI H
    try dsimp only at hI
    obtain⟨P,O,rfl,cj,n⟩:=hI;refine ay ?_;refine qy H (λb5 H=>?_) (λb5 H=>?_)
    ·refine ay ?_;obtain⟨Y,bZ,bs,bO,H⟩:=iG H;obtain⟨cX,bP,H⟩:=iy H;have B:=n.mC 0 rfl;refine nA (G:=(P.hold cz [a])) [0,1,2,3,4,5,6,7,8,9,10,11,12,15,16,17,18,19,20,13,14,21,22] rfl Ty.mixed (by kernel_rfl) (HB.agree (HB.cons 0 B n rfl HB.nil) n.agree) ?_;refine au ?_;refine hl 0 B n ?_;obtain⟨_,⟨cs,ct,rfl,bT,bU⟩,bE⟩:=js 4 (bw.mono (aK.trans cj)) bZ;refine au ?_;refine qq (pw 1 (iF.cells Y.iw cs) Ty.tK Ty.tz rfl (bE.mono n.agree) (by first|omega|rfl) rfl (kY rfl)) ?_;refine au ?_;refine hl 0 B n ?_;refine au ?_;refine ql (Tt n.iH bT bO) ?_;rintro aV dr ⟨c5,_,rfl,bg⟩;have a7:=n.call bg;have cm:=bg.ext;refine nf 1 B a7 cm ?_;have bC:=(a7.kH (k:=0) rfl).cells;refine qr (tJ (vs:=[(0,.i .i64 2),(1,.i .i64 Y.seq),(2,aV)]) (v:=.agg (mP.cells (mP.mk 2 Y.seq bs) aV)) Ty.Hs rfl (by simp only[oS,bC];rfl)) ?_;obtain⟨c3,ck,bI,a8⟩:=a7.kh 0 [1,2] rfl (by decide) (by decide);refine wg 0 B a8 ck ?_;refine qM (f:=32) (args:=[O,.agg (mP.cells (mP.mk 2 Y.seq bs) aV),ct]) rfl rfl rfl rfl (Kp (a8.zl 1 rfl) bI (mo bU) bP) ?_;rintro cx ds ⟨c6,_,rfl,bh⟩;have bc:=a8.yM 1 [0] rfl (by decide) (by decide) bh;have cn:=bh.ext;refine nf 1 B bc cn ?_;refine ax ?_;exact nm H ⟨_,cx,rfl,iI,pk [1,0] bc⟩
    ·refine jf _ rfl ?_;exact nj ⟨ch,H,⟨_,O,rfl,iI,n⟩⟩
  ·rintro E w7 ⟨l8,H,I,X,rfl,bp,a9⟩;refine iL (λE wq=>∃kW:List Found,lS.k3 m kW=some r ∧ ∃(Z:gL)(aR:gE),E=[(6,aR),(7,.b m)]∧I.le Z∧iW a9 [.row Found.t aR kW] Z wq) ?_ ?_
   ·refine ax ?_;refine jH (λ(s:(List Found)×Int) E wq=>∃(ad:gL)(M:gE),E=[(2,pl a 0),(6,M),(7,.b m),(12,.i .i64 s.2)]∧I.le ad∧iW a9 [.box a [.i .i64 x0.seq,e,g,h,j],.row Found.t M s.1] ad wq) H ?_ ?_
    ·exact lo ⟨_,X,rfl,iI,a9⟩
    ·rintro cY ⟨cg,cP⟩ E dl hI H
     try dsimp only at hI
     obtain⟨ad,M,rfl,bo,ar⟩:=hI;refine ay ?_;refine qy H (λb4 H=>?_) (λb4 H=>?_)
     ·obtain⟨c,bX,H⟩:=iy H;obtain⟨_,⟨da,rfl,cH⟩,_⟩:=js 3 (aY.mono ((aK.trans bp).trans bo)) bX;refine ay ?_;obtain⟨aX,bY,cV,bN,H⟩:=iG H;refine rf ar ?_;obtain⟨_,⟨cr,rfl,bS⟩,cA⟩:=js 3 (aY.mono ((aK.trans bp).trans bo)) bY;refine au ?_;refine qr (iB rfl rfl (vh (by decide) (by decide))) ?_;refine qr (ml mH p7 rfl (yj _)) ?_;refine qc ?_;refine qr (iB rfl rfl (vh (by decide) (by decide))) ?_;refine qr (ml mH p7 rfl (yj _)) ?_;refine qc ?_;refine qr (iB rfl rfl (vh (by decide) (by decide))) ?_;refine qr (ml mH p7 rfl (yj _)) ?_;refine qc ?_;refine qr (ml mH p7 rfl (yj _)) ?_;refine qx (kN (t:=tB) (vs:=[.i .u8 ((jC (c.of/2^(24:Int).toNat)).toNat:Int),.i .u8 ((jC (c.of/2^(16:Int).toNat)).toNat:Int),.i .u8 ((jC (c.of/2^(8:Int).toNat)).toNat:Int),.i .u8 ((jC c.of).toNat:Int)]) (xs:=[(jC (c.of/2^(24:Int).toNat)),(jC (c.of/2^(16:Int).toNat)),(jC (c.of/2^(8:Int).toNat)),(jC c.of)]) lL Ty.qD rfl ⟨rfl,⟨rfl,⟨rfl,⟨rfl,trivial⟩⟩⟩⟩ rfl rfl ar) ?_;rintro aT dn a5;refine qw a5 ?_;have bB:=(a5.kH (k:=0) rfl).cells;refine qr (tJ (vs:=[(0,.i .i64 3),(1,.i .i64 aX.seq),(2,aT)]) (v:=.agg (mP.cells (mP.mk 3 aX.seq [(jC (c.of/2^(24:Int).toNat)),(jC (c.of/2^(16:Int).toNat)),(jC (c.of/2^(8:Int).toNat)),(jC c.of)]) aT)) Ty.Hs rfl (by simp only[oS,bB];rfl)) ?_;refine au ?_;obtain⟨c2,ci,bH,a6⟩:=a5.kh 0 [1,2] rfl (by decide) (by decide);refine A7 ci a6.agree ?_;refine qM (f:=32) (args:=[M,.agg (mP.cells (mP.mk 3 aX.seq [(jC (c.of/2^(24:Int).toNat)),(jC (c.of/2^(16:Int).toNat)),(jC (c.of/2^(8:Int).toNat)),(jC c.of)]) aT),cr]) rfl rfl rfl rfl (Kp (a6.zl 1 rfl) bH (mo bS) bN) ?_;rintro cw dq ⟨c4,_,rfl,bf⟩;have bb:=a6.yM 1 [0] rfl (by decide) (by decide) bf;have cl:=bf.ext;refine jG.mW cl bb.agree ?_;refine ax ?_;exact nm H ⟨_,cw,rfl,iI,pk [1,0] bb⟩
     ·refine jf _ rfl ?_;exact nj ⟨cg,H,⟨_,M,rfl,iI,pk [1] ar⟩⟩
   ·rintro E dk ⟨kW,H,Z,aR,rfl,cR,bz⟩;exact rx H bz
def Ji(x0:List iz):Option (List iz) :=
  bd (app (α:=iz) ([]:List iz) x0) λl6 =>
  some l6
theorem WZ{x0:List iz}{r:(List iz)}{f:gE}(hA:Gd F w)(a:iq iz.t F f x0)(H:Ji x0=some r):iN il K 40 [f] w λv w'=>∃(F':gL)(e:gE),v=e∧St [] w F F' [.row iz.t e (r)] w':=by
 refine lg Tryz.func40 ?_;have hS:=St.start hA;refine ay ?_;refine Ck rfl rfl rfl rfl yF rfl rfl a.ln ?_;intro k i;refine qn ?_;refine qg rfl (λc=>?_) (λc=>?_)
 ·have d:x0=[]:=List.eq_nil_of_length_eq_zero (i c);have H:(some []:Option (List iz))=some r:=by first|(rw[d]at H;exact H)|(subst d;exact H)
  refine aq ?_;have g:=hS.lb iz.t;exact rx H g
 ·obtain⟨l6,j,H⟩:=iy H;refine ax ?_;refine xm (kN (t:=iz.t) (vs:=[]) (xs:=([]:List iz)) yF Ty.I6 rfl trivial rfl rfl hS) ?_;rintro l n b;refine qc ?_;refine ap 0 b (a.src b.agree) j ?_;intro m p h;exact rx H h
def xv.k2(l3:List UInt8):Option (List UInt8) :=
  some l3
def xv.k1(x1:Int):Option (List UInt8) :=
  if decide (0<wr (x1-wr (0-0)))then
    bd (Hq (α:=UInt8) [] (wr (x1-wr (0-0))) 0) λl7 =>
    bd (cut (α:=UInt8) l7 0 0) λl9 =>
    bd (nz l7) λ_ =>
    xv.k2 l9
  else
    xv.k2 []
def xv(x1:Int):Option (List UInt8) :=
  if decide (x1<0)then
    none
  else
    xv.k1 x1
theorem ahF{x1:Int}{r:(List UInt8)}(hA:Gd F w)(H:xv x1=some r):iN il K 162 [.sl none 0 (.k 0),.i .i64 x1] w λv w'=>∃(F':gL)(h:gE),v=h∧St [] w F F' [.row tB h (r)] w':=by
 refine kB Tryz.func162 ?_;have hS:=St.start hA;refine aq ?_;refine iL (jN (xv.k1 x1=some r) [(0,.sl none 0 (.k 0)),(1,.i .i64 x1)] hS) ?_ ?_
 ·refine aq ?_;refine qy H (λp H=>?_) (λp H=>?_)
  ·
   cases H
  ·refine s6 ?_;exact nj ⟨H,jj hS⟩
 ·rintro E D ⟨H,e,rfl,z,b⟩;refine iL (λE wq=>∃l3:List UInt8,xv.k2 l3=some r ∧ ∃(a:gL)(c:gE),E=[(0,c)]∧e.le a∧iW b [.row tB c l3] a wq) ?_ ?_
  ·refine aq ?_;refine qr (Sr lL rfl) ?_;refine qc ?_;refine qr (Sv lL rfl) ?_;refine ax ?_;refine qy H (λq H=>?_) (λq H=>?_)
   ·obtain⟨l7,s,l9,g,H⟩:=iG H;refine ax ?_;refine qr (Sr lL rfl) ?_;refine qr (XU lL Ty.pD rfl (.inl ⟨rfl,rfl⟩) (.inr ⟨_,_,rfl,rfl⟩)) ?_;refine qc ?_;have j:=b.lb tB;refine xm (XH (t:=tB) (d:=0) 0 lL Ty.qD Ty.ai1 (XC Ty.Q5 rfl) rfl rfl j rfl s) ?_;rintro B I f;refine qc ?_;refine qr (Sv lL rfl) ?_;refine sP 0 0 0 rfl rfl rfl rfl lL Ty.pD rfl (.inl ⟨rfl,rfl⟩) (.inr ⟨_,_,rfl,rfl⟩) f rfl g ?_;intro x y u;refine ax ?_;obtain⟨_,acJ,H⟩:=iy H;have l:=f.shrink 0 rfl u g acJ;exact nj ⟨l9,H,⟨_,x,rfl,iI,l⟩⟩
   ·refine s6 ?_;have m:=b.lb tB;exact nj ⟨[],H,⟨e,(.sl none 0 (.k 0)),rfl,(gL.le.refl _),m⟩⟩
  ·rintro E G ⟨l3,H,a,c,rfl,A,n⟩;exact rx H n
def qF.k2(l6:List UInt8):Option (List UInt8) :=
  some l6
def qF.l3(x0:List (List UInt8))(c:(Int×(List UInt8))→Option (List UInt8)):(Int×(List UInt8))→Option (List UInt8)
  | (a,mc) =>
    if decide (a<(x0.length:Int))then
      bd (ix x0 a) λd =>
      bd (app (α:=UInt8) mc d) λb =>
      c (wr (a+1),b)
    else
      qF.k2 mc
def qF.k1(x0:List (List UInt8))(a:Int):Option (List UInt8) :=
  bd (xv a) λb =>
  loop (qF.l3 x0) (0,b)
def qF.k5(a:Int)(c:(Int×Int)→Option (List UInt8))(b:Int):Option (List UInt8) :=
  c (b,wr (a+1))
def qF.l4(x0:List (List UInt8))(d:(Int×Int)→Option (List UInt8)):(Int×Int)→Option (List UInt8)
  | (a,b) =>
    if decide (b<(x0.length:Int))then
      bd (ix x0 b) λc =>
      if decide (wr (a+(c.length:Int))<0)then
        none
      else
        qF.k5 b d (wr (a+(c.length:Int)))
    else
      qF.k1 x0 a
def qF(x0:List (List UInt8)):Option (List UInt8) :=
  loop (qF.l4 x0) (0,0)
theorem ahy{x0:List (List UInt8)}{r:(List UInt8)}{a:gE}(hA:Gd F w)(q:iq (o6 tB) F a x0)(H:qF x0=some r):iN il K 127 [a] w λv w'=>∃(F':gL)(A:gE),v=A∧St [] w F F' [.row tB A (r)] w':=by
 refine lg Tryz.func127 ?_;have hS:=St.start hA;refine aq ?_;refine aq ?_;refine iL (λE wq=>∃l:Int,qF.k1 x0 l=some r ∧ ∃(d:gL),E=[(0,a),(3,.i .i64 l)]∧F.le d∧mq hS d wq) ?_ ?_
 ·refine ax ?_;refine jH (λ(s:Int×Int) E wq=>∃(b:gL),E=[(0,a),(3,.i .i64 s.1),(9,a),(10,.i .i64 (x0.length:Int)),(11,.i .i64 s.2)]∧F.le b∧mq hS b wq) H ?_ ?_
  ·exact lo (jj hS)
  ·rintro Y ⟨y,z⟩ E a9 hI H
   try dsimp only at hI
   obtain⟨b,rfl,U,h⟩:=hI;refine ay ?_;refine qy H (λJ H=>?_) (λJ H=>?_)
   ·refine qk ?_;refine iL (λE wq=>∃m:Int,qF.k5 z Y m=some r ∧ ∃(e:gL),E=[(0,a),(3,.i .i64 m),(9,a),(10,.i .i64 (x0.length:Int)),(11,.i .i64 z)]∧b.le e∧mq h e wq) ?_ ?_
    ·obtain⟨ae,R,H⟩:=iy H;obtain⟨_,⟨a6,rfl,ah⟩,_⟩:=js 1 (q.mono U) R;refine ax ?_;refine qy H (λL H=>?_) (λL H=>?_)
     ·
      cases H
     ·refine ax ?_;exact nj ⟨wr (y+(ae.length:Int)),H,jj h⟩
    ·rintro E aC ⟨m,H,e,rfl,ak,D⟩;refine ax ?_;exact nm H (jj D)
   ·refine jf _ rfl ?_;exact nj ⟨y,H,jj h⟩
 ·rintro E w1 ⟨l,H,d,rfl,S,u⟩;obtain⟨r3,O,H⟩:=iy H;refine aq ?_;refine lm (ahF u.iH O) ?_;rintro Z w4 ⟨p,_,rfl,x⟩;have j:=u.call x;have X:=x.ext;refine au ?_;refine iL (λE wq=>∃l6:List UInt8,qF.k2 l6=some r ∧ ∃(f:gL)(n:gE),E=[(6,n)]∧p.le f∧iW j [.row tB n l6] f wq) ?_ ?_
  ·refine ax ?_;refine jH (λ(s:Int×(List UInt8)) E wq=>∃(g:gL)(c:gE),E=[(6,c),(25,a),(26,.i .i64 (x0.length:Int)),(27,.i .i64 s.1)]∧p.le g∧iW j [.row tB c s.2] g wq) H ?_ ?_
   ·exact lo ⟨_,Z,rfl,iI,j⟩
   ·rintro a4 ⟨i9,mc⟩ E w8 hI H
    try dsimp only at hI
    obtain⟨g,c,rfl,V,k⟩:=hI;refine ay ?_;refine qy H (λI H=>?_) (λI H=>?_)
    ·obtain⟨aK,Q,H⟩:=iy H;obtain⟨_,⟨a5,rfl,P⟩,_⟩:=js 1 (q.mono ((S.trans X).trans V)) Q;obtain⟨aj,M,H⟩:=iy H;refine ay ?_;refine ap 0 k (P.src k.agree) M ?_;intro ad a8 B;refine ax ?_;exact nm H ⟨_,ad,rfl,iI,B⟩
    ·refine jf _ rfl ?_;exact nj ⟨mc,H,⟨_,c,rfl,iI,k⟩⟩
  ·rintro E w5 ⟨l6,H,f,n,rfl,am,G⟩;exact rx H G
def L6:Option (List UInt32) :=
  some [1116352408,1899447441,3049323471,3921009573,961987163,1508970993,2453635748,2870763221,3624381080,310598401,607225278,1426881987,1925078388,2162078206,2614888103,3248222580,3835390401,4022224774,264347078,604807628,770255983,1249150122,1555081692,1996064986,2554220882,2821834349,2952996808,3210313671,3336571891,3584528711,113926993,338241895,666307205,773529912,1294757372,1396182291,1695183700,1986661051,2177026350,2456956037,2730485921,2820302411,3259730800,3345764771,3516065817,3600352804,4094571909,275423344,430227734,506948616,659060556,883997877,958139571,1322822218,1537002063,1747873779,1955562222,2024104815,2227730452,2361852424,2428436474,2756734187,3204031479,3329325298]
theorem agO{r:(List UInt32)}(hA:Gd F w)(H:L6=some r):iN il K 128 [] w λv w'=>∃(F':gL)(a:gE),v=a∧St [] w F F' [.row tW a (r)] w':=by
 refine Dz (args:=[]) Tryz.func128 rfl (by decide) rfl ?_;change C _ _ _ _ _ [] _;have hS:=St.start hA;refine ax ?_;refine xm (kN (t:=tW) (vs:=wV ([1116352408,1899447441,3049323471,3921009573,961987163,1508970993,2453635748,2870763221,3624381080,310598401,607225278,1426881987,1925078388,2162078206,2614888103,3248222580,3835390401,4022224774,264347078,604807628,770255983,1249150122,1555081692,1996064986,2554220882,2821834349,2952996808,3210313671,3336571891,3584528711,113926993,338241895,666307205,773529912,1294757372,1396182291,1695183700,1986661051,2177026350,2456956037,2730485921,2820302411,3259730800,3345764771,3516065817,3600352804,4094571909,275423344,430227734,506948616,659060556,883997877,958139571,1322822218,1537002063,1747873779,1955562222,2024104815,2227730452,2361852424,2428436474,2756734187,3204031479,3329325298]:List UInt32)) (xs:=[(1116352408:UInt32),(1899447441:UInt32),(3049323471:UInt32),(3921009573:UInt32),(961987163:UInt32),(1508970993:UInt32),(2453635748:UInt32),(2870763221:UInt32),(3624381080:UInt32),(310598401:UInt32),(607225278:UInt32),(1426881987:UInt32),(1925078388:UInt32),(2162078206:UInt32),(2614888103:UInt32),(3248222580:UInt32),(3835390401:UInt32),(4022224774:UInt32),(264347078:UInt32),(604807628:UInt32),(770255983:UInt32),(1249150122:UInt32),(1555081692:UInt32),(1996064986:UInt32),(2554220882:UInt32),(2821834349:UInt32),(2952996808:UInt32),(3210313671:UInt32),(3336571891:UInt32),(3584528711:UInt32),(113926993:UInt32),(338241895:UInt32),(666307205:UInt32),(773529912:UInt32),(1294757372:UInt32),(1396182291:UInt32),(1695183700:UInt32),(1986661051:UInt32),(2177026350:UInt32),(2456956037:UInt32),(2730485921:UInt32),(2820302411:UInt32),(3259730800:UInt32),(3345764771:UInt32),(3516065817:UInt32),(3600352804:UInt32),(4094571909:UInt32),(275423344:UInt32),(430227734:UInt32),(506948616:UInt32),(659060556:UInt32),(883997877:UInt32),(958139571:UInt32),(1322822218:UInt32),(1537002063:UInt32),(1747873779:UInt32),(1955562222:UInt32),(2024104815:UInt32),(2227730452:UInt32),(2361852424:UInt32),(2428436474:UInt32),(2756734187:UInt32),(3204031479:UInt32),(3329325298:UInt32)]) Tryz.underlying192 Ty.Wo rfl (Xt _) rfl rfl hS) ?_
 rintro c d b;exact rx H b
def rT.k2(lx:List UInt8):Option (List UInt8) :=
  some lx
def rT.l3(x0:List UInt8)(d:(Int×(List UInt8))→Option (List UInt8)):(Int×(List UInt8))→Option (List UInt8)
  | (a,b) =>
    if decide (0≤a)then
      bd (GF (wu ((wu (x0.length:Int))*2^(3:Int).toNat)) (wr (8*a))) λe =>
      bd (app (α:=UInt8) b [(jC e)]) λc =>
      d (wr (a-1),c)
    else
      rT.k2 b
def rT.k1(x0:List UInt8)(l8:List UInt8):Option (List UInt8) :=
  loop (rT.l3 x0) (7,l8)
def rT.l4(x0:List UInt8)(c:(List UInt8)→Option (List UInt8)):(List UInt8)→Option (List UInt8)
  | a =>
    if decide ((a.length:Int).tmod 64≠56)then
      bd (app (α:=UInt8) a [(0:UInt8)]) λb =>
      c b
    else
      rT.k1 x0 a
def rT(x0:List UInt8):Option (List UInt8) :=
  bd (app (α:=UInt8) ([]:List UInt8) x0) λl2 =>
  bd (app (α:=UInt8) l2 [(128:UInt8)]) λl5 =>
  loop (rT.l4 x0) l5
theorem agN{x0:List UInt8}{r:(List UInt8)}{e:gE}(hA:Gd F w)(B:iq tB F e x0)(H:rT x0=some r):iN il K 129 [e] w λv w'=>∃(F':gL)(z:gE),v=z∧St [] w F F' [.row tB z (r)] w':=by
 refine lg Tryz.func129 ?_;have hS:=St.start hA;obtain⟨l2,O,l5,R,H⟩:=iG H;refine ax ?_;refine xm (kN (t:=tB) (vs:=[]) (xs:=([]:List UInt8)) lL Ty.qD rfl trivial rfl rfl hS) ?_;rintro u1 w1 p;refine qc ?_;refine ap 0 p (B.src p.agree) O ?_;intro v3 w3 I;refine xm (kN (t:=tB) (vs:=[.i .u8 ((128:UInt8).toNat:Int)]) (xs:=[(128:UInt8)]) lL Ty.qD rfl ⟨rfl,trivial⟩ rfl rfl I) ?_;rintro u4 w4 y;refine ap 1 y (y.mi (k:=0) rfl) R ?_;intro v6 w6 l;refine au ?_;refine iL (λE wq=>∃l8:List UInt8,rT.k1 x0 l8=some r ∧ ∃(a:gL)(d:gE),E=[(0,e),(3,d)]∧F.le a∧iW l [.row tB d l8] a wq) ?_ ?_
 ·refine qZ ?_;refine jH (λ(s:(List UInt8)) E wq=>∃(h:gL)(c:gE),E=[(0,e),(3,c)]∧F.le h∧iW l [.row tB c s] h wq) H ?_ ?_
  ·exact lo ⟨_,v6,rfl,iI,pk [1] l⟩
  ·rintro a7 Z E aU hI H
   try dsimp only at hI
   obtain⟨h,c,rfl,a4,j⟩:=hI;refine ay ?_;refine qr (jV lL rfl (j.kH (k:=0) rfl)) ?_;refine qr (iB rfl rfl (by first|rfl|simp[kJ,tX])) ?_;refine au ?_;refine qy H (λM H=>?_) (λM H=>?_)
   ·obtain⟨ak,Q,H⟩:=iy H;refine ax ?_;refine xm (kN (t:=tB) (vs:=[.i .u8 ((0:UInt8).toNat:Int)]) (xs:=[(0:UInt8)]) lL Ty.qD rfl ⟨rfl,trivial⟩ rfl rfl j) ?_;rintro aC aV x;refine ap 1 x (x.mi (k:=0) rfl) Q ?_;intro ae aY J;refine ax ?_;exact nm H ⟨_,ae,rfl,iI,pk [1] J⟩
   ·refine jf _ rfl ?_;exact nj ⟨Z,H,⟨_,c,rfl,iI,j⟩⟩
 ·rintro E w7 ⟨l8,H,a,d,rfl,a5,m⟩;refine aq ?_;refine qr (ml mH Di rfl (rfl)) ?_;refine qr (iB rfl rfl (Hr (by decide) (by decide))) ?_;refine au ?_;refine iL (λE wq=>∃lx:List UInt8,rT.k2 lx=some r ∧ ∃(f:gL)(n:gE),E=[(3,n)]∧a.le f∧iW m [.row tB n lx] f wq) ?_ ?_
  ·refine ax ?_;refine jH (λ(s:Int×(List UInt8)) E wq=>∃(g:gL)(b:gE),E=[(3,b),(4,.i .u64 (wu ((wu (x0.length:Int))*2^(3:Int).toNat))),(5,.i .i64 s.1)]∧a.le g∧iW m [.row tB b s.2] g wq) H ?_ ?_
   ·exact lo ⟨_,d,rfl,iI,m⟩
   ·rintro a6 ⟨ai,Y⟩ E aO hI H
    try dsimp only at hI
    obtain⟨g,b,rfl,ar,q⟩:=hI;refine ay ?_;refine qy H (λL H=>?_) (λL H=>?_)
    ·obtain⟨A,V,aj,P,H⟩:=iG H;refine ay ?_;obtain⟨X,S,U⟩:=WB V;refine qr (iB rfl rfl (by rw[vh X S,←U])) ?_;refine qr (ml Di p7 rfl (yj _)) ?_;refine xm (kN (t:=tB) (vs:=[.i .u8 ((jC A).toNat:Int)]) (xs:=[(jC A)]) lL Ty.qD rfl ⟨rfl,trivial⟩ rfl rfl q) ?_;rintro a9 aR u;refine ap 1 u (u.mi (k:=0) rfl) P ?_;intro ad aT G;refine ax ?_;exact nm H ⟨_,ad,rfl,iI,pk [1] G⟩
    ·refine jf _ rfl ?_;exact nj ⟨Y,H,⟨_,b,rfl,iI,q⟩⟩
  ·rintro E aK ⟨lx,H,f,n,rfl,am,D⟩;exact rx H D
def yv.k1(a:Int):Option Int :=
  some a
def yv.l2(x0:List UInt8)(c:(Int×Int)→Option Int):(Int×Int)→Option Int
  | (b,a) =>
    if decide (a<(x0.length:Int))then
      bd (ix x0 a) λx8 =>
      c (bits .or .u64 (wu (b*2^(8:Int).toNat)) (x8.toNat:Int),wr (a+1))
    else
      yv.k1 b
def yv(x0:List UInt8):Option Int :=
  loop (yv.l2 x0) (0,0)
theorem agM{x0:List UInt8}{r:Int}{d:gE}(hA:Gd F w)(f:iq tB F d x0)(H:yv x0=some r):iN il K 130 [d] w λv w'=>∃(F':gL),v = .i .u64 r∧St [] w F F' [] w':=by
 refine lg Tryz.func130 ?_;have hS:=St.start hA;refine aq ?_;refine aq ?_;refine iL (λE wq=>∃c:Int,yv.k1 c=some r ∧ ∃(a:gL),E=[(3,.i .u64 c)]∧F.le a∧mq hS a wq) ?_ ?_
 ·refine ax ?_;refine jH (λ(s:Int×Int) E wq=>∃(b:gL),E=[(3,.i .u64 s.1),(6,d),(7,.i .i64 (x0.length:Int)),(8,.i .i64 s.2)]∧F.le b∧mq hS b wq) H ?_ ?_
  ·exact lo (jj hS)
  ·rintro p ⟨k,m⟩ E u hI H
   try dsimp only at hI
   obtain⟨b,rfl,l,e⟩:=hI;refine ay ?_;refine qy H (λh H=>?_) (λh H=>?_)
   ·obtain⟨x8,j,H⟩:=iy H;obtain⟨_,rfl,_⟩:=js 1 (f.mono l) j;refine ay ?_;refine qr (iB rfl rfl (Hr (by decide) (by decide))) ?_;refine qc ?_;refine qr (ml p7 Di rfl (aio _)) ?_;refine qr (iB rfl rfl (mR (.inr (.inl rfl)))) ?_;refine ax ?_;exact nm H (jj e)
   ·refine jf _ rfl ?_;exact nj ⟨k,H,jj e⟩
 ·rintro E q ⟨c,H,a,rfl,n,g⟩;exact rz H g
def qX(x0:UInt32)(x1:Int):Option UInt32 :=
  bd (L7 x0 (bits .and .u64 (wu x1) 31)) λx2 =>
  bd (C3 x0 (wu (32-bits .and .u64 (wu x1) 31))) λx3 =>
  some (x2 ||| x3)
theorem Au{x0:UInt32}{x1:Int}{r:UInt32}(hA:Gd F w)(H:qX x0 x1=some r):iN il K 131 [.i .u32 (x0.toNat:Int),.i .i64 x1] w λv w'=>∃(F':gL),v = .i .u32 (r.toNat:Int)∧St [] w F F' [] w':=by
 refine kB Tryz.func131 ?_;have hS:=St.start hA;refine ax ?_;refine qr (ml mH p9 rfl (rfl)) ?_;refine qr (iB rfl rfl (mR (.inl rfl))) ?_;obtain⟨x2,a,x3,b,H⟩:=iG H;refine ax ?_;refine qr (iB rfl rfl (SX a)) ?_;refine au ?_;refine qr (iB rfl rfl (J6 b)) ?_;refine qr (iB rfl rfl ((mR (.inr (.inl rfl))).trans (congrArg (λz=>some (gE.i .u32 z)) (Go.Wk.u32_or x2 x3)))) ?_;exact rz H hS
end
end Go.Wk.Lf
end
