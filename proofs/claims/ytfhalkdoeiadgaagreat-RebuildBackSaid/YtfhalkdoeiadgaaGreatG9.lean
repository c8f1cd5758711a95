/-  -/
import Derived.Test.YtfhalkdoeiadgaaGreatG8
set_option linter.unusedVariables false
set_option linter.unusedSimpArgs false
open Go.Proofs.Tryz renaming func113→Rz, prog→il, underlying24→kR, underlying25→kT, underlying26→mg, underlying31→lL, underlying56→EP, underlying59→ov, underlying9→wH
open List renaming all_append→lz, all_cons→nJ, all_nil→oG, drop_zero→ur, eq_nil_of_length_eq_zero→nK, getD_cons_succ→RR, getD_cons_zero→RS, getElem?_eq_some_iff→kI, getElem?_set_self→uv, length_append→kU, length_drop→od, length_take→kX, mapM_cons→qa, mapM_nil→AW, replicate→iV, take_of_length_le→xB
open Nat renaming add_mul→lQ, add_zero→sZ, le_of_ble_eq_true→kY, le_of_lt→uw, le_refl→jg, le_succ→vN, lt_of_lt_of_le→sa, lt_succ_self→xF, mul_le_mul_right→nL, sub_mul→yI, sub_zero→zS, zero_add→jn, zero_le→ju, zero_lt_succ→oQ, zero_mul→AZ
section
namespace Go.Wk.Lf
open Go.V Go.Proofs
noncomputable section
set_option maxRecDepth 100000
variable{K:Tb}{F:gL}{w:Hp}
def oZ.k1(x0:List Loc):Option (List Loc) :=
  some x0
def oZ.k3(a:Int)(b:Int→Option (List Loc)):Option (List Loc) :=
  b (wr (a+1))
def oZ.k4(a:Int)(b:List Loc):Option (List Loc) :=
  bd (cut (α:=Loc) b a (b.length:Int)) λe =>
  bd (yc b a.toNat ((b.length:Int).toNat-a.toNat) (Loc.mk 0 0 0 0)) λc =>
  bd (cut (α:=Loc) c 0 a) λd =>
  bd (nz c) λ_ =>
  some d
def oZ.k6(a:Int)(d:(Int×Int×(List Loc))→Option (List Loc))(b:Int)(c:List Loc):Option (List Loc) :=
  d (b,wr (a+1),c)
def oZ.l5(x0:List Loc)(a:Int)(e:(Int×Int×(List Loc))→Option (List Loc)):(Int×Int×(List Loc))→Option (List Loc)
  | (d,c,b) =>
    if decide (c<(((x0.length:Int).toNat-a.toNat:Nat):Int))then
      bd (BI b a.toNat ((x0.length:Int).toNat-a.toNat) c) λf =>
      bd (BI b a.toNat ((x0.length:Int).toNat-a.toNat) (wr (c-1))) λg =>
      if(!decide (f=g))then
        bd (BI b a.toNat ((x0.length:Int).toNat-a.toNat) c) λh =>
        bd (ix b d) λi =>
        oZ.k6 c e (wr (d+1)) (b.set d.toNat h)
      else
        oZ.k6 c e d b
    else
      oZ.k4 d b
def oZ.l2(x0:List Loc)(b:Int→Option (List Loc)):Int→Option (List Loc)
  | a =>
    if decide (a<(x0.length:Int))then
      bd (ix x0 a) λx8 =>
      bd (ix x0 (wr (a-1))) λc =>
      if decide (x8=c)then
        bd (cut (α:=Loc) x0 a (x0.length:Int)) λd =>
        loop (oZ.l5 x0 a) (a,1,x0)
      else
        oZ.k3 a b
    else
      oZ.k1 x0
def oZ(x0:List Loc):Option (List Loc) :=
  if decide ((x0.length:Int)<2)then
    some x0
  else
    loop (oZ.l2 x0) 1
theorem ahx{x0:List Loc}{r:(List Loc)}{a:gE}(hS:St a.own w F F [.row Loc.t a x0] w)(H:oZ x0=some r):iN il K 98 [a] w λv w'=>∃(F':gL)(M:gE),v=M∧St a.own w F F' [.row Loc.t M (r)] w':=by
 refine lg Tryz.func98 ?_;refine ay ?_;refine qr (jV ov rfl (hS.kH (k:=0) rfl)) ?_;refine au ?_;refine qy H (λV H=>?_) (λV H=>?_)
 ·exact rx H hS
 ·refine qk ?_;refine iL (jN (oZ.k1 x0=some r) [(0,a)] hS) ?_ ?_
  ·refine ax ?_;refine lj hS (λs:Int=>[(0,a),(3,.i .i64 s)]) H ?_;intro bb y B w3 b0 b H;refine ay ?_;refine qr (jV ov rfl (b.kH (k:=0) rfl)) ?_;refine au ?_;refine qy H (λad H=>?_) (λad H=>?_)
   ·refine qk ?_;refine iL (jN (oZ.k3 y bb=some r) [(0,a),(3,.i .i64 y)] b) ?_ ?_
    ·refine ay ?_;obtain⟨x8,aO,bD,aD,H⟩:=iG H;refine rn ?_;obtain⟨_,rfl,bm⟩:=mw 4 0 b aO;obtain⟨_,rfl,bn⟩:=mw 4 0 b aD;refine au ?_;refine qr (iB rfl rfl (z7 Ty.TV rfl rfl (Loc.TU _ _))) ?_;refine qn ?_;refine qy H (λX H=>?_) (λX H=>?_)
     ·obtain⟨br,aj,H⟩:=iy H;refine aq ?_;refine sP 0 y (x0.length:Int) rfl rfl rfl rfl ov Ty.ug rfl (.inr ⟨_,_,rfl,rfl⟩) (.inl ⟨rfl,rfl⟩) b rfl aj ?_;intro O bo u;refine au ?_;refine iL (λE wq=>∃j:Int,∃n:List Loc,oZ.k4 j n=some r ∧ ∃(p:gL),E=[(0,a),(3,.i .i64 j)]∧B.le p∧iW b [.row Loc.t a n] p wq) ?_ ?_
      ·refine ax ?_;refine jH (λ(s:Int×Int×(List Loc)) E wq=>∃(m:gL),E=[(0,a),(3,.i .i64 s.1),(4,O),(5,.i .i64 s.2.1)]∧B.le m∧iW b [.row Loc.t a s.2.2] m wq) H ?_ ?_
       ·exact lo (jj b)
       ·rintro ba ⟨l,L,z⟩ E b8 hI H
        try dsimp only at hI
        obtain⟨m,rfl,bz,d⟩:=hI;refine ay ?_;refine qy H (λY H=>?_) (λY H=>?_)
        ·refine qk ?_;refine iL (λE wq=>∃x:Int,∃A:List Loc,oZ.k6 L ba x A=some r ∧ ∃(q:gL),E=[(0,a),(3,.i .i64 x),(4,O),(5,.i .i64 L)]∧m.le q∧iW d [.row Loc.t a A] q wq) ?_ ?_
         ·refine ay ?_;obtain⟨bc,aH,be,aJ,H⟩:=iG H;refine rn ?_;refine au ?_;obtain⟨ar,aV,aR⟩:=Gh aH;obtain⟨bi,a6,f⟩:=d.rowAt (k:=0) rfl aR;obtain rfl:=a6;replace f:=f.piece u aV;replace f:=qj 4 f;have ae:=f.ky;refine qi ov Ty.ug ae ar ?_;refine qr (pw 0 (Loc.cells bc) Ty.Cm Ty.ug rfl f (by first|omega|rfl) rfl (kY rfl)) ?_;refine au ?_;obtain⟨a4,aX,aT⟩:=Gh aJ;obtain⟨bj,a7,g⟩:=d.rowAt (k:=0) rfl aT;obtain rfl:=a7;replace g:=g.piece u aX;replace g:=qj 4 g;have ah:=g.ky;refine qi ov Ty.ug ah a4 ?_;refine qr (pw 0 (Loc.cells be) Ty.Cm Ty.ug rfl g (by first|omega|rfl) rfl (kY rfl)) ?_;refine qr (iB rfl rfl (Ns Ty.TV rfl rfl (Loc.TU _ _))) ?_;refine qn ?_;refine qy H (λZ H=>?_) (λZ H=>?_)
          ·obtain⟨e,aK,bf,J,H⟩:=iG H;refine aq ?_;obtain⟨a5,aY,aU⟩:=Gh aK;obtain⟨bk,a8,h⟩:=d.rowAt (k:=0) rfl aU;obtain rfl:=a8;replace h:=h.piece u aY;replace h:=qj 4 h;have ai:=h.ky;refine qi ov Ty.ug ai a5 ?_;refine qr (pw 0 (Loc.cells e) Ty.Cm Ty.ug rfl h (by first|omega|rfl) rfl (kY rfl)) ?_;obtain⟨_,rfl,_⟩:=mw 4 0 d J;refine au ?_;refine um (pT (c:=[.i .i64 e.iQ,.i .i64 e.file,.i .i64 e.off,.i .i64 e.len]) 0 (l.toNat) 0 bf e rfl rfl d rfl (iD J).2 (by first|rfl|(show _=_*4+_;omega)) rfl Ty.ug rfl (kY rfl) (by rintro cs rfl;rfl)) ?_;rintro _ bB S;refine ax ?_;exact nj ⟨wr (l+1),(z.set l.toNat e),H,jj S⟩
          ·refine ax ?_;exact nj ⟨l,z,H,jj d⟩
         ·rintro E bA ⟨x,A,H,q,rfl,b1,R⟩;refine ax ?_;exact nm H (jj R)
        ·refine jf _ rfl ?_;exact nj ⟨l,z,H,jj d⟩
      ·rintro E b5 ⟨j,n,H,p,rfl,bv,D⟩;obtain⟨bs,ak,bt,am,H⟩:=iG H;refine aq ?_;refine sP 0 j (n.length:Int) rfl rfl rfl rfl ov Ty.ug rfl (.inr ⟨_,_,rfl,rfl⟩) (.inl ⟨rfl,rfl⟩) D rfl ak ?_;intro b3 bp a9;refine um (Hf (tr:=Loc.t) (x0:=(Loc.mk 0 0 0 0)) 0 ov Ty.XA rfl rfl D rfl a9 am) ?_;rintro _ b7 G;obtain⟨bu,I,H⟩:=iy H;refine ax ?_;refine sP 0 0 j rfl rfl rfl rfl ov Ty.ug rfl (.inl ⟨rfl,rfl⟩) (.inr ⟨_,_,rfl,rfl⟩) G rfl I ?_;intro b4 bq aC;refine au ?_;obtain⟨_,OY,H⟩:=iy H;have Q:=G.shrink 0 rfl aC I OY;exact rx H Q
     ·refine ax ?_;exact nj ⟨H,jj b⟩
    ·rintro E w7 ⟨H,F7,rfl,b2,U⟩;refine ax ?_;exact nm H (jj U)
   ·refine jf _ rfl ?_;exact nj ⟨H,jj b⟩
  ·rintro E w2 ⟨H,F2,rfl,bw,P⟩;exact rx H P
def vi(x0:Int)(x1:Int)(x2:Int):Option Bool :=
  some (decide (x1≤x0)&&decide (x0≤x2))
theorem wU{x0:Int}{x1:Int}{x2:Int}{r:Bool}(hA:Gd F w)(H:vi x0 x1 x2=some r):iN il K 74 [.i .i64 x0,.i .i64 x1,.i .i64 x2] w λv w'=>∃(F':gL),v = .b r∧St [] w F F' [] w':=by
 refine vH Tryz.func74 ?_;have hS:=St.start hA;refine az ?_;exact rz H hS
def xR.k1(x0:List iz):Option Bool :=
  bd (vi (x0.length:Int) 1 8) λa =>
  some a
def xR.l2(x0:List iz)(e:Int→Option Bool):Int→Option Bool
  | a =>
    if decide (a<(x0.length:Int))then
      bd (ix x0 a) λx8 =>
      bd (only (decide (x8.state=2)) (vi x8.files 1 65535) false) λc =>
      bd (vi x8.rq 0 1) λb =>
      bd (only (!(!b)) (vi x8.rM 0 1048576) false) λd =>
      if(((!b)||(!d))||((!(decide (x8.state=2)&&c))&&(!((decide (x8.state=1)||decide (x8.state=3))&&decide (x8.files=0)))))then
        some false
      else
        e (wr (a+1))
    else
      xR.k1 x0
def xR(x0:List iz):Option Bool :=
  loop (xR.l2 x0) 0
theorem Zu{x0:List iz}{r:Bool}{a:gE}(hA:Gd F w)(h:iq iz.t F a x0)(H:xR x0=some r):iN il K 75 [a] w λv w'=>∃(F':gL),v = .b r∧St [] w F F' [] w':=by
 refine lg Tryz.func75 ?_;have hS:=St.start hA;refine aq ?_;refine iL (jN (xR.k1 x0=some r) [(0,a)] hS) ?_ ?_
 ·refine ax ?_;refine lj hS (λs:Int=>[(0,a),(7,a),(8,.i .i64 (x0.length:Int)),(9,.i .i64 s)]) H ?_;intro R J B w4 z k H;refine ay ?_;refine qy H (λm H=>?_) (λm H=>?_)
  ·obtain⟨x8,x,H⟩:=iy H;obtain⟨_,rfl,I⟩:=js 4 (h.mono z) x;refine ay ?_;refine al ?_;intro D U G;refine sb 0 ([.i .i64 x8.rq,.i .i64 x8.rM,.i .i64 x8.state,.i .i64 x8.files]) ?_;intro V d;obtain⟨M,n,H⟩:=iy H;refine az ?_;refine gw d n (λy=>wU d.iH y) ?_;intro X e;refine jG.now ?_;obtain⟨P,q,Q,u,H⟩:=iG H;refine az ?_;refine lp (wU e.iH q) e ?_;intro Y f;refine aw ?_;refine gw f u (λy=>wU f.iH y) ?_;intro ad g;refine jG.now ?_;refine aw ?_;refine qy H (λl H=>?_) (λl H=>?_)
   ·exact rz H g
   ·refine ax ?_;exact nm H (jj (pk [] g))
  ·refine jf _ rfl ?_;exact nj ⟨H,jj k⟩
 ·rintro E S ⟨H,A,rfl,L,c⟩;obtain⟨O,p,H⟩:=iy H;refine aq ?_;refine lp (wU c.iH p) c ?_;intro Z j;exact rz H j
def Kf(x0:Loc)(x1:Loc):Option Bool :=
  if decide (x0.iQ≠x1.iQ)then
    some (decide (x1.iQ<x0.iQ))
  else
    if decide (x0.file≠x1.file)then
      some (decide (x1.file<x0.file))
    else
      some (decide (x1.off<x0.off))
theorem Zp{x0:Loc}{x1:Loc}{r:Bool}(hA:Gd F w)(H:Kf x0 x1=some r):iN il K 159 [.agg (Loc.cells x0),.agg (Loc.cells x1)] w λv w'=>∃(F':gL),v = .b r∧St [] w F F' [] w':=by
 refine kB Tryz.func159 ?_;have hS:=St.start hA;refine qs ?_;refine bx ([.i .i64 x0.iQ,.i .i64 x0.file,.i .i64 x0.off,.i .i64 x0.len]) ?_;intro e h g;refine bx ([.i .i64 x1.iQ,.i .i64 x1.file,.i .i64 x1.off,.i .i64 x1.len]) ?_;intro f j a;refine ay ?_;refine qy H (λc H=>?_) (λc H=>?_)
 ·exact rz H a
 ·refine aq ?_;refine qy H (λd H=>?_) (λd H=>?_)
  ·exact rz H a
  ·refine ax ?_;exact rz H a
def vV.k1:Option Bool :=
  some true
def vV.l2(x0:ig)(x1:List Loc)(h:Int→Option Bool):Int→Option Bool
  | b =>
    if decide (b<(x1.length:Int))then
      bd (ix x1 b) λx8 =>
      bd (vi x8.iQ 0 (wr ((x0.iv.length:Int)-1))) λa =>
      bd (only (!(!a)) (ix x0.iv x8.iQ) (iz.mk 0 0 0 0)) λc =>
      bd (only (!((!a)||decide (c.state≠2))) (ix x0.iv x8.iQ) (iz.mk 0 0 0 0)) λi =>
      bd (only (!((!a)||decide (c.state≠2))) (vi x8.file 1 i.files) false) λd =>
      bd (only (!(((!a)||decide (c.state≠2))||(!d))) (vi x8.off 0 16777215) false) λe =>
      bd (only (!((((!a)||decide (c.state≠2))||(!d))||(!e))) (vi x8.len 13 8013) false) λf =>
      bd (only ((!(((((!a)||decide (c.state≠2))||(!d))||(!e))||(!f)))&&decide (0<b)) (ix x1 (wr (b-1))) (Loc.mk 0 0 0 0)) λj =>
      bd (only ((!(((((!a)||decide (c.state≠2))||(!d))||(!e))||(!f)))&&decide (0<b)) (Kf x8 j) false) λg =>
      if((((((!a)||decide (c.state≠2))||(!d))||(!e))||(!f))||(decide (0<b)&&(!g)))then
        some false
      else
        h (wr (b+1))
    else
      vV.k1
def vV(x0:ig)(x1:List Loc):Option Bool :=
  if decide (200<(x1.length:Int))then
    some false
  else
    loop (vV.l2 x0 x1) 0
set_option maxHeartbeats 2000000 in
theorem NI{x0:ig}{x1:List Loc}{r:Bool}{p:gE}{x:gE}{z:gE}{A:gE}{d:gE}(hA:Gd F w)(ai:iq ie.t F p x0.ik)(aj:iq Chunk.t F x x0.chunks)(ak:iq iu.t F z x0.im)(a:iq iz.t F A x0.iv)(e:iq Loc.t F d x1)(H:vV x0 x1=some r):iN il K 123 [.agg (ig.cells x0 p x z A),d] w λv w'=>∃(F':gL),v = .b r∧St [] w F F' [] w':=by
 refine kB Tryz.func123 ?_;have hS:=St.start hA;refine qs ?_;refine bx ([.i .i64 x0.seq,p,x,z,A]) ?_;intro G w1 f;refine ay ?_;refine qy H (λP H=>?_) (λP H=>?_)
 ·exact rz H f
 ·refine qk ?_;refine iL (jO (vV.k1=some r) [] f []) ?_ ?_
  ·refine ax ?_;refine lj f (λs:Int=>[(1,d),(2,pl G 0),(10,d),(11,.i .i64 (x1.length:Int)),(12,.i .i64 s)]) H ?_;intro aD i5 F4 w4 Z J H;refine ay ?_;refine qy H (λQ H=>?_) (λQ H=>?_)
   ·obtain⟨x8,Y,H⟩:=iy H;obtain⟨_,rfl,ar⟩:=js 4 (e.mono Z) Y;refine ay ?_;refine al ?_;intro ah aJ am;refine qc ?_;refine sb 0 ([.i .i64 x8.iQ,.i .i64 x8.file,.i .i64 x8.off,.i .i64 x8.len]) ?_;intro aO j;refine ay ?_;obtain⟨a6,R,ba,m,H⟩:=iG H;obtain⟨bb,n,a7,S,H⟩:=iG H;obtain⟨a8,U,a9,V,H⟩:=iG H;obtain⟨bc,D,aC,X,H⟩:=iG H;refine rf j ?_;refine au ?_;refine lq (wU j.iH R) j ?_;intro aR B;refine aw ?_;refine ge (mo a) m ?_;refine ge (mo a) m ?_;refine ge (mo a) m ?_;refine aw ?_;refine ge (mo a) n ?_;refine ge (mo a) n ?_;refine ge (mo a) n ?_;refine gw B S (λy=>wU B.iH y) ?_;intro aV k;refine qw k ?_;refine aw ?_;refine gw k U (λy=>wU k.iH y) ?_;intro aX l;refine qw l ?_;refine aw ?_;refine gw l V (λy=>wU l.iH y) ?_;intro aY c;refine qw c ?_;refine aw ?_;refine Cj (v:=.agg (Loc.cells x8)) rfl rfl rfl rfl (λ⟨L,M,_⟩=>?_) ?_
    ·rw[L,M];exact(qq (rC 0 (Loc.cells x8) Ty.Cm Ty.ug (oQ _) rfl c rfl (λq u h=>o5 (post:=[]) rfl h)) ·)
    refine aw ?_;refine oU (mo e) D ?_;refine oU (mo e) D ?_;refine Oq c X (λy=>Zp c.iH y) ?_;intro aK g;refine qw g ?_;refine aw ?_;refine qy H (λO H=>?_) (λO H=>?_)
    ·exact rz H g
    ·refine ax ?_;exact nm H (jj (pk [1] g))
   ·refine jf _ rfl ?_;exact nj ⟨H,jj (pk [] J)⟩
  ·rintro E w3 ⟨H,F3,rfl,a5,I⟩;exact rz H I
def xP.k1(x0:ig):Option Bool :=
  some (decide ((x0.chunks.length:Int)≤200))
def xP.l2(x0:ig)(e:Int→Option Bool):Int→Option Bool
  | a =>
    if decide (a<(x0.chunks.length:Int))then
      bd (ix x0.chunks a) λx7 =>
      bd (only (decide (0<a)) (ix x0.chunks (wr (a-1))) (Chunk.mk (iV 32 (0:UInt8)) false [] [])) λf =>
      bd (only (decide (0<a)) (Kg f.id x7.id) 0) λb =>
      bd (only (!(decide (0<a)&&decide (0≤b))) (vV x0 x7.locs) false) λc =>
      bd (only ((!(((decide (0<a)&&decide (0≤b))||(!c))||((!x7.jD)&&(decide (0<(x7.data.length:Int))||decide ((x7.locs.length:Int)=0)))))&&x7.jD) (vi (x7.data.length:Int) 1 64) false) λd =>
      if((((decide (0<a)&&decide (0≤b))||(!c))||((!x7.jD)&&(decide (0<(x7.data.length:Int))||decide ((x7.locs.length:Int)=0))))||(x7.jD&&(!d)))then
        some false
      else
        e (wr (a+1))
    else
      xP.k1 x0
def xP(x0:ig):Option Bool :=
  loop (xP.l2 x0) 0
set_option maxHeartbeats 2000000 in
theorem Zq[Kn (sN il) K]{x0:ig}{r:Bool}{f:gE}{c:gE}{g:gE}{j:gE}(hA:Gd F w)(R:iq ie.t F f x0.ik)(a:iq Chunk.t F c x0.chunks)(S:iq iu.t F g x0.im)(U:iq iz.t F j x0.iv)(H:xP x0=some r):iN il K 76 [.agg (ig.cells x0 f c g j)] w λv w'=>∃(F':gL),v = .b r∧St [] w F F' [] w':=by
 refine lg Tryz.func76 ?_;have hS:=St.start hA;refine qs ?_;refine bx ([.i .i64 x0.seq,f,c,g,j]) ?_;intro G w1 I;refine au ?_;refine iL (jN (xP.k1 x0=some r) [(1,pl G 0)] I) ?_ ?_
 ·refine ax ?_;refine lj I (λs:Int=>[(1,pl G 0),(6,c),(7,.i .i64 (x0.chunks.length:Int)),(8,.i .i64 s)]) H ?_;intro bh i4 F3 w3 B J H;refine ay ?_;refine qy H (λZ H=>?_) (λZ H=>?_)
  ·obtain⟨x7,a6,H⟩:=iy H;obtain⟨_,⟨P,Q,rfl,ae,bb,a5⟩,aU⟩:=js 35 (a.mono B) a6;refine ay ?_;refine xm (o9 (cs:=iJ (iV 32 (0:UInt8))++([.b false,.sl none 0 (.k 0),.sl none 0 (.k 0)]:List gE)) Ty.GN rfl J) ?_;rintro _ w9 ⟨g9,rfl,aT⟩;refine qc ?_;refine sb 0 (iJ x7.id++([.b x7.jD,P,Q]:List gE)) ?_;intro bj d;refine ay ?_;obtain⟨D,e,be,ah,H⟩:=iG H;obtain⟨bf,ai,bg,aj,H⟩:=iG H;have n:(D.id).length=32:=by
    rcases Bool.eq_false_or_eq_true (decide (0<i4))with z|z
    ·have M:=e;rw[jX z]at M;obtain⟨aY,a7⟩:=iD M;obtain⟨aK,ak,A⟩:=(a.mono B).el a7;obtain⟨aC,aD,rfl,n,ar,a4⟩:=ak;replace A:=qj 35 A;have aV:=A.ky;exact n
    ·have hy:=e;rw[me z]at hy;obtain rfl:=oi hy
     rfl
   refine rf d ?_;refine aw ?_;refine ge (mo a) e ?_;refine ge (mo a) e ?_;refine nO (v:=.agg (iJ D.id)) rfl rfl rfl rfl (λ⟨L,_⟩=>?_) ?_
   ·rw[L];intro hK;have O:=e;rw[jX L]at O;obtain⟨ba,a8⟩:=iD O;obtain⟨aO,am,m⟩:=(a.mono B).el a8;obtain⟨aC,aD,rfl,n,ar,a4⟩:=am;replace m:=qj 35 m;have aX:=m.ky;refine qq (pw 0 (iJ D.id) Ty.pJ Ty.nx rfl (m.mono d.agree) (by first|omega|rfl) rfl (kY rfl)) ?_;exact hK
   refine aw ?_;refine nO (v:=.agg (iJ x7.id)) rfl rfl rfl rfl (λ⟨X,_⟩=>?_) ?_
   ·rw[X];exact(qq (rC 0 (iJ x7.id) Ty.pJ Ty.nx (oQ _) rfl d rfl (λq u h=>o5 (post:=[.b x7.jD,P,Q]) rfl h)) ·)
   refine gw d ah (λy=>Ti d.iH n ae y) ?_;intro bn l;refine qw l ?_;refine aw ?_;refine nO (v:=.agg (ig.cells x0 f c g j)) rfl rfl rfl rfl (λ⟨Y,_⟩=>?_) ?_
   ·rw[Y];exact(qq (rC 1 (ig.cells x0 f c g j) Ty.rb Ty.rv (oQ _) rfl l rfl (λq u h=>o5 (post:=[]) rfl h)) ·)
   refine aw ?_;refine gw l ai (λy=>NI l.iH (mo R) (mo a) (mo S) (mo U) a5 y) ?_;intro bo p;refine qw p ?_;refine aw ?_;refine Oq p aj (λy=>wU p.iH y) ?_;intro bq x;refine qw x ?_;refine aw ?_;refine qy H (λad H=>?_) (λad H=>?_)
   ·exact rz H x
   ·refine ax ?_;exact nm H (jj (pk [1] x))
  ·refine jf _ rfl ?_;exact nj ⟨H,jj J⟩
 ·rintro E w2 ⟨H,F2,rfl,bc,V⟩;exact rz H V
def oK.k1(x0:ig):Option Bool :=
  some (decide ((x0.ik.length:Int)≤8))
def oK.k3(a:Int)(c:(Int×((List UInt8)→Option Bool))→Option Bool)(b:(List UInt8)→Option Bool):Option Bool :=
  c (wr (a+1),b)
def oK.k5(a:Int)(b:Int→Option Bool):Option Bool :=
  b (wr (a+1))
def oK.l6(x0:ig)(c:Int)(e:Int→Option Bool)(b:Part)(f:Int→Option Bool):Int→Option Bool
  | a =>
    if decide (a<(b.ids.length:Int))then
      bd (ix b.ids a) λg =>
      bd (FA x0.chunks g) λd =>
      if(!d.2)then
        some false
      else
        f (wr (a+1))
    else
      oK.k5 c e
def oK.l4(x0:ig)(c:Int)(d:(List UInt8)→Option Bool)(e:(Int×((List UInt8)→Option Bool))→Option Bool)(b:ie)(f:Int→Option Bool):Int→Option Bool
  | a =>
    if decide (a<(b.iw.parts.length:Int))then
      bd (ix b.iw.parts a) λg =>
      loop (oK.l6 x0 a f g) 0
    else
      oK.k3 c e (Av d b.iw.name true)
def oK.l2(x0:ig)(h:(Int×((List UInt8)→Option Bool))→Option Bool):(Int×((List UInt8)→Option Bool))→Option Bool
  | (b,c) =>
    if decide (b<(x0.ik.length:Int))then
      bd (ix x0.ik b) λa =>
      bd (vi a.seq 0 (wr (x0.seq-1))) λd =>
      bd (only ((!(!d))&&decide (0<b)) (ix x0.ik (wr (b-1))) (ie.mk 0 (iF.mk [] []) [])) λe =>
      bd (only (!(((!d)||(decide (0<b)&&decide (a.seq≤e.seq)))||((c a.iw.name).getD false))) (xl a.iw) 0) λf =>
      bd (only (!((((!d)||(decide (0<b)&&decide (a.seq≤e.seq)))||((c a.iw.name).getD false))||decide (f≠0))) (vV x0 a.locs) false) λg =>
      if(((((!d)||(decide (0<b)&&decide (a.seq≤e.seq)))||((c a.iw.name).getD false))||decide (f≠0))||(!g))then
        some false
      else
        loop (oK.l4 x0 b c h a) 0
    else
      oK.k1 x0
def oK(x0:ig):Option Bool :=
  loop (oK.l2 x0) (0,(PO:(List UInt8)→Option Bool))
set_option maxHeartbeats 2000000 in
theorem Zt[Kn (sN il) K]{x0:ig}{r:Bool}{a:gE}{e:gE}{f:gE}{g:gE}(hA:Gd F w)(l:iq ie.t F a x0.ik)(Q:iq Chunk.t F e x0.chunks)(ai:iq iu.t F f x0.im)(aj:iq iz.t F g x0.iv)(H:oK x0=some r):iN il K 77 [.agg (ig.cells x0 a e f g)] w λv w'=>∃(F':gL),v = .b r∧St [] w F F' [] w':=by
 refine lg Tryz.func77 ?_;have hS:=St.start hA;refine qs ?_;refine bx ([.i .i64 x0.seq,a,e,f,g]) ?_;intro d w1 ak;refine ax ?_;refine xm (XL kS (.of .b) ak) ?_;rintro _ w2 ⟨j,rfl,G⟩;refine au ?_;refine iL (jO (oK.k1 x0=some r) [(1,pl d 0)] G [.box d [.i .i64 x0.seq,a,e,f,g]]) ?_ ?_
 ·refine ax ?_;refine jH (λ(s:Int×((List UInt8)→Option Bool)) E wq=>∃(p:gL),E=[(1,pl d 0),(3,.m (some j)),(14,a),(15,.i .i64 (x0.ik.length:Int)),(16,.i .i64 s.1)]∧F.le p∧iW G [.map kS (.of .b) j s.2,.box d [.i .i64 x0.seq,a,e,f,g]] p wq) H ?_ ?_
  ·exact lo (jj G)
  ·rintro bg ⟨n,O⟩ E w4 hI H
   try dsimp only at hI
   obtain⟨p,rfl,bc,R⟩:=hI;refine ay ?_;refine qy H (λaC H=>?_) (λaC H=>?_)
   ·refine qk ?_;refine iL (λE wq=>∃M:(List UInt8)→Option Bool,oK.k3 n bg M=some r ∧ ∃(B:gL),E=[(1,pl d 0),(3,.m (some j)),(14,a),(15,.i .i64 (x0.ik.length:Int)),(16,.i .i64 n)]∧p.le B∧iW R [.map kS (.of .b) j M,.box d [.i .i64 x0.seq,a,e,f,g]] B wq) ?_ ?_
    ·obtain⟨c,aY,H⟩:=iy H;obtain⟨_,⟨k,ad,rfl,Z,aV⟩,bs⟩:=js 4 (l.mono bc) aY;refine ax ?_;refine al ?_;intro bm b7 bp;refine qc ?_;refine sb 0 ([.i .i64 c.seq,.s c.iw.name,k,ad]) ?_;intro b8 D;refine ay ?_;obtain⟨b1,aO,bQ,J,H⟩:=iG H;obtain⟨b2,aR,b3,aT,H⟩:=iG H;refine rf D ?_;refine au ?_;refine lq (wU D.iH aO) D ?_;intro bA x;refine aw ?_;refine oU (mo l) J ?_;refine oU (mo l) J ?_;refine oU (mo l) J ?_;refine aw ?_;refine nO (v:=.b ((O c.iw.name).getD false)) rfl rfl rfl rfl (λ⟨a6,_⟩=>?_) ?_
     ·rw[a6];exact(X0 (.inr (by kernel_rfl)) rfl rfl rfl (XR (enc:=.b) 1 c.iw.name false Tryz.underlying188 (Vp wH) Ty.zv4 rfl rfl x rfl) ·)
     refine aw ?_;refine nO (v:=.agg (iF.cells c.iw k)) rfl rfl rfl rfl (λ⟨a7,_⟩=>?_) ?_
     ·rw[a7];exact(qq (rC 0 (iF.cells c.iw k) Ty.tK Ty.tz (oQ _) rfl x rfl (λq u h=>o5 (post:=[ad]) rfl h)) ·)
     refine gw x aR (λy=>VB x.iH Z y) ?_;intro bD z;refine qw z ?_;refine aw ?_;refine nO (v:=.agg (ig.cells x0 a e f g)) rfl rfl rfl rfl (λ⟨a8,_⟩=>?_) ?_
     ·rw[a8];exact(qq (rC 2 (ig.cells x0 a e f g) Ty.rb Ty.rv (oQ _) rfl z rfl (λq u h=>o5 (post:=[]) rfl h)) ·)
     refine aw ?_;refine gw z aT (λy=>NI z.iH (mo l) (mo Q) (mo ai) (mo aj) aV y) ?_;intro bE I;refine qw I ?_;refine aw ?_;refine qy H (λa9 H=>?_) (λa9 H=>?_)
     ·exact rz H I
     ·refine ax ?_;refine um (XM 1 c.iw.name true Tryz.underlying188 (Vp wH) rfl rfl rfl rfl I rfl) ?_;rintro _ bF ar;refine ax ?_;refine lj (pk [1,2] ar) (λs:Int=>[(1,pl d 0),(3,.m (some j)),(14,a),(15,.i .i64 (x0.ik.length:Int)),(16,.i .i64 n),(70,k),(71,.i .i64 (c.iw.parts.length:Int)),(72,.i .i64 s)]) H ?_;intro bh L ah bG be S H;refine ay ?_;refine qy H (λaD H=>?_) (λaD H=>?_)
      ·refine qk ?_;refine iL (jN (oK.k5 L bh=some r) [(1,pl d 0),(3,.m (some j)),(14,a),(15,.i .i64 (x0.ik.length:Int)),(16,.i .i64 n),(70,k),(71,.i .i64 (c.iw.parts.length:Int)),(72,.i .i64 L)] S) ?_ ?_
       ·obtain⟨P,ba,H⟩:=iy H;obtain⟨_,⟨ae,rfl,aX⟩,bt⟩:=js 3 (Z.mono be) ba;refine ax ?_;refine al ?_;intro bn bI bq;refine sb 0 ([.s P.path,.i .i64 P.size,ae]) ?_;intro bJ U;refine ax ?_;refine jH (λ(s:Int) E wq=>∃(A:gL),E=[(1,pl d 0),(3,.m (some j)),(14,a),(15,.i .i64 (x0.ik.length:Int)),(16,.i .i64 n),(70,k),(71,.i .i64 (c.iw.parts.length:Int)),(72,.i .i64 L),(77,ae),(78,.i .i64 (P.ids.length:Int)),(79,.i .i64 s)]∧ah.le A∧iW U [.map kS (.of .b) j (Av O c.iw.name true),.box d [.i .i64 x0.seq,a,e,f,g]] A wq) H ?_ ?_
        ·exact lo (jj (pk [1,2] U))
        ·rintro b5 bv E bK hI H
         try dsimp only at hI
         obtain⟨A,rfl,bf,V⟩:=hI;refine ay ?_;refine qy H (λaH H=>?_) (λaH H=>?_)
         ·obtain⟨bi,bb,H⟩:=iy H;obtain⟨_,⟨rfl,aK⟩,bu⟩:=js 32 (aX.mono bf) bb;refine ay ?_;refine xm (o9 (cs:=iJ (iV 32 (0:UInt8))) Ty.B2 rfl V) ?_;rintro _ bN ⟨bo,rfl,br⟩;refine sb 0 (iJ bi) ?_;intro bO X;obtain⟨b4,aU,H⟩:=iy H;refine ax ?_;refine lp (NH X.iH (mo Q) aK aU) X ?_;intro bP Y;refine ax ?_;refine qy H (λaJ H=>?_) (λaJ H=>?_)
          ·exact rz H Y
          ·refine ax ?_;exact nm H (jj (pk [1,2] Y))
         ·refine ax ?_;exact nj ⟨H,jj V⟩
       ·rintro E bH ⟨H,bk,rfl,bz,a4⟩;refine ax ?_;exact nm H (jj a4)
      ·refine ax ?_;exact nj ⟨(Av O c.iw.name true),H,jj S⟩
    ·rintro E w9 ⟨M,H,B,rfl,b0,a5⟩;refine ax ?_;exact nm H (jj a5)
   ·refine jf _ rfl ?_;exact nj ⟨H,jj (pk [1] R)⟩
 ·rintro E w3 ⟨H,F3,rfl,bw,am⟩;exact rz H am
def Th(x0:ie)(x1:iu):Option Bool :=
  some (decide (x0.seq=x1.of))
theorem Zr{x0:ie}{x1:iu}{r:Bool}{a:gE}{c:gE}{yZ:Nat}{e:gE}(hA:Gd F w)(h:iq Part.t F a x0.iw.parts)(j:iq Loc.t F c x0.locs)(k:iq Loc.t F e x1.locs)(f:rB F yZ [.i .i64 x1.seq,.i .i64 x1.of,e])(H:Th x0 x1=some r):iN il K 126 [.agg (ie.cells x0 a c),pl yZ 0] w λv w'=>∃(F':gL),v = .b r∧St [] w F F' [] w':=by
 refine kB Tryz.func126 ?_;have hS:=St.start hA;refine qs ?_;refine bx ([.i .i64 x0.seq,.s x0.iw.name,a,c]) ?_;intro g l d;refine ax ?_;refine qr (qo Ty.pL rfl (f.mono d.agree) rfl) ?_;exact rz H d
def zA.k1:Option Int :=
  some (-1)
def zA.l2(x0:List ie)(d:iu)(c:Int→Option Int):Int→Option Int
  | a =>
    if decide (a<(x0.length:Int))then
      bd (ix x0 a) λx6 =>
      bd (Th x6 d) λb =>
      if b then
        some a
      else
        c (wr (a+1))
    else
      zA.k1
def zA(x0:List ie)(a:iu):Option Int :=
  loop (zA.l2 x0 a) 0
theorem ahJ{x0:List ie}{a:iu}{r:Int}{c:gE}{oV:Nat}{g:gE}(hA:Gd F w)(h:iq ie.t F c x0)(j:iq Loc.t F g a.locs)(l:rB F oV [.i .i64 a.seq,.i .i64 a.of,g])(H:zA x0 a=some r):iN il K 113 [c,.f 126 [pl oV 0]] w λv w'=>∃(F':gL),v = .i .i64 r∧St [] w F F' [] w':=by
 refine kB Rz ?_;have hS:=St.start hA;refine aq ?_;refine iL (jN (zA.k1=some r) [] hS) ?_ ?_
 ·refine ax ?_;refine lj hS (λs:Int=>[(0,c),(1,.f 126 [pl oV 0]),(7,.i .i64 (x0.length:Int)),(8,.i .i64 s)]) H ?_;intro I B z P e b H;refine ay ?_;refine qy H (λn H=>?_) (λn H=>?_)
  ·obtain⟨x6,x,G,p,H⟩:=iG H;obtain⟨_,⟨J,L,rfl,q,u⟩,A⟩:=js 4 (h.mono e) x;refine ay ?_;refine lp (Zr b.iH q u (mo j) (l.mono e) p) b ?_;intro O d;refine qn ?_;refine qy H (λm H=>?_) (λm H=>?_)
   ·exact rz H d
   ·refine ax ?_;exact nm H (jj d)
  ·refine jf _ rfl ?_;exact nj ⟨H,jj b⟩
 ·rintro E M ⟨H,y,rfl,D,k⟩;exact rz H k
def Mc(x0:List ie)(b:iu):Option Bool :=
  bd (zA x0 b) λa =>
  some (decide (0≤a))
theorem ahB{x0:List ie}{a:iu}{r:Bool}{c:gE}{oV:Nat}{d:gE}(hA:Gd F w)(e:iq ie.t F c x0)(g:iq Loc.t F d a.locs)(j:rB F oV [.i .i64 a.seq,.i .i64 a.of,d])(H:Mc x0 a=some r):iN il K 125 [c,.f 126 [pl oV 0]] w λv w'=>∃(F':gL),v = .b r∧St [] w F F' [] w':=by
 refine kB Tryz.func125 ?_;have hS:=St.start hA;obtain⟨l,k,H⟩:=iy H;refine ax ?_;refine lp (ahJ hS.iH e g j k) hS ?_;intro m h;exact rz H h
def xQ.k1(x0:ig):Option Bool :=
  some (decide ((x0.im.length:Int)≤200))
def xQ.l2(x0:ig)(g:Int→Option Bool):Int→Option Bool
  | a =>
    if decide (a<(x0.im.length:Int))then
      bd (ix x0.im a) λx7 =>
      bd (vi x7.seq 0 (wr (x0.seq-1))) λb =>
      bd (only ((!(!b))&&decide (0<a)) (ix x0.im (wr (a-1))) (iu.mk 0 0 [])) λc =>
      bd (only (!((!b)||(decide (0<a)&&decide (x7.seq≤c.seq)))) (vi x7.of 0 (wr (x7.seq-1))) false) λd =>
      bd (only (!((((!b)||(decide (0<a)&&decide (x7.seq≤c.seq)))||(!d))||decide ((x7.locs.length:Int)=0))) (vV x0 x7.locs) false) λe =>
      if(((((!b)||(decide (0<a)&&decide (x7.seq≤c.seq)))||(!d))||decide ((x7.locs.length:Int)=0))||(!e))then
        some false
      else
        bd (Mc x0.ik x7) λf =>
        if f then
          some false
        else
          g (wr (a+1))
    else
      xQ.k1 x0
def xQ(x0:ig):Option Bool :=
  loop (xQ.l2 x0) 0
set_option maxHeartbeats 2000000 in
theorem Zs{x0:ig}{r:Bool}{d:gE}{e:gE}{a:gE}{f:gE}(hA:Gd F w)(n:iq ie.t F d x0.ik)(D:iq Chunk.t F e x0.chunks)(c:iq iu.t F a x0.im)(G:iq iz.t F f x0.iv)(H:xQ x0=some r):iN il K 78 [.agg (ig.cells x0 d e a f)] w λv w'=>∃(F':gL),v = .b r∧St [] w F F' [] w':=by
 refine lg Tryz.func78 ?_;have hS:=St.start hA;refine qs ?_;refine bx ([.i .i64 x0.seq,d,e,a,f]) ?_;intro m w1 p;refine au ?_;refine iL (jN (xQ.k1 x0=some r) [(1,pl m 0)] p) ?_ ?_
 ·refine ax ?_;refine lj p (λs:Int=>[(1,pl m 0),(6,a),(7,.i .i64 (x0.im.length:Int)),(8,.i .i64 s)]) H ?_;intro a9 i4 F3 w3 Y J H;refine ay ?_;refine qy H (λO H=>?_) (λO H=>?_)
  ·obtain⟨x7,X,H⟩:=iy H;obtain⟨_,⟨Z,rfl,B⟩,ak⟩:=js 3 (c.mono Y) X;refine ay ?_;refine al ?_;intro g9 w9 aj;refine qc ?_;refine sb 0 ([.i .i64 x7.seq,.i .i64 x7.of,Z]) ?_;intro aD j;refine ay ?_;obtain⟨a5,R,aV,l,H⟩:=iG H;obtain⟨a6,S,a7,U,H⟩:=iG H;refine rf j ?_;refine au ?_;refine lq (wU j.iH R) j ?_;intro aH x;refine aw ?_;refine oU (mo c) l ?_;refine oU (mo c) l ?_;refine oU (mo c) l ?_;refine aw ?_;refine gw x S (λy=>wU x.iH y) ?_;intro aO g;refine qw g ?_;refine aw ?_;refine nO (v:=.agg (ig.cells x0 d e a f)) rfl rfl rfl rfl (λ⟨L,_⟩=>?_) ?_
   ·rw[L];exact(qq (rC 1 (ig.cells x0 d e a f) Ty.rb Ty.rv (oQ _) rfl g rfl (λq u h=>o5 (post:=[]) rfl h)) ·)
   refine aw ?_;refine gw g U (λy=>NI g.iH (mo n) (mo D) (mo c) (mo G) B y) ?_;intro aR k;refine qw k ?_;refine aw ?_;refine qy H (λP H=>?_) (λP H=>?_)
   ·exact rz H k
   ·refine ay ?_;obtain⟨ah,a4,M,z⟩:=k.Cw 0 [1] rfl (by decide) (by decide);obtain⟨a8,V,H⟩:=iy H;refine ax ?_;refine lp (ahB z.iH (mo n) (mo B) M V) z ?_;intro aT A;refine qn ?_;refine qy H (λQ H=>?_) (λQ H=>?_)
    ·exact rz H A
    ·refine ax ?_;exact nm H (jj A)
  ·refine jf _ rfl ?_;exact nj ⟨H,jj J⟩
 ·rintro E w2 ⟨H,F2,rfl,ar,I⟩;exact rz H I
def Fy(x0:ig):Option Int :=
  bd (vi x0.seq 0 1073741824) λa =>
  bd (only a (xR x0.iv) false) λb =>
  bd (only (a&&b) (xP x0) false) λc =>
  bd (only ((a&&b)&&c) (oK x0) false) λd =>
  bd (only (((a&&b)&&c)&&d) (xQ x0) false) λe =>
  if((((a&&b)&&c)&&d)&&e)then
    some 0
  else
    some 1
theorem Ke[Kn (sN il) K]{x0:ig}{r:Int}{e:gE}{f:gE}{g:gE}{h:gE}(hA:Gd F w)(b:iq ie.t F e x0.ik)(c:iq Chunk.t F f x0.chunks)(d:iq iu.t F g x0.im)(a:iq iz.t F h x0.iv)(H:Fy x0=some r):iN il K 34 [.agg (ig.cells x0 e f g h)] w λv w'=>∃(F':gL),v = .i .i64 r∧St [] w F F' [] w':=by
 refine lg Tryz.func34 ?_;have hS:=St.start hA;refine qs ?_;refine bx ([.i .i64 x0.seq,e,f,g,h]) ?_;intro B M j;obtain⟨D,s,G,u,H⟩:=iG H;obtain⟨I,x,J,z,H⟩:=iG H;obtain⟨L,A,H⟩:=iy H;refine ay ?_;refine lp (wU j.iH s) j ?_;intro S p;refine aw ?_;refine gw p u (λy=>Zu p.iH a y) ?_;intro O k;refine jG.now ?_;refine aw ?_;refine gw k x (λy=>Zq k.iH b c d a y) ?_;intro P l;refine jG.now ?_;refine aw ?_;refine gw l z (λy=>Zt l.iH b c d a y) ?_;intro Q m;refine jG.now ?_;refine aw ?_;refine gw m A (λy=>Zs m.iH b c d a y) ?_;intro R n;refine jG.now ?_;refine aw ?_;refine qy H (λq H=>?_) (λq H=>?_)
 ·exact rz H n
 ·refine qk ?_;exact rz H n
def QF(x0:List ie):Option (List ie) :=
  bd (app (α:=ie) ([]:List ie) x0) λl6 =>
  some l6
theorem ahu{x0:List ie}{r:(List ie)}{f:gE}(hA:Gd F w)(a:iq ie.t F f x0)(H:QF x0=some r):iN il K 99 [f] w λv w'=>∃(F':gL)(e:gE),v=e∧St [] w F F' [.row ie.t e (r)] w':=by
 refine lg Tryz.func99 ?_;have hS:=St.start hA;refine ay ?_;refine Ck rfl rfl rfl rfl kR rfl rfl a.ln ?_;intro k i;refine qn ?_;refine qg rfl (λc=>?_) (λc=>?_)
 ·have d:x0=[]:=nK (i c);have H:(some []:Option (List ie))=some r:=by first|(rw[d]at H;exact H)|(subst d;exact H)
  refine aq ?_;have g:=hS.lb ie.t;exact rx H g
 ·obtain⟨l6,j,H⟩:=iy H;refine ax ?_;refine xm (kN (t:=ie.t) (vs:=[]) (xs:=([]:List ie)) kR Ty.AG rfl trivial rfl rfl hS) ?_;rintro l n b;refine qc ?_;refine ap 0 b (a.src b.agree) j ?_;intro m p h;exact rx H h
def QC(x0:List Chunk):Option (List Chunk) :=
  bd (app (α:=Chunk) ([]:List Chunk) x0) λl6 =>
  some l6
theorem ahr{x0:List Chunk}{r:(List Chunk)}{f:gE}(hA:Gd F w)(a:iq Chunk.t F f x0)(H:QC x0=some r):iN il K 100 [f] w λv w'=>∃(F':gL)(e:gE),v=e∧St [] w F F' [.row Chunk.t e (r)] w':=by
 refine lg Tryz.func100 ?_;have hS:=St.start hA;refine ay ?_;refine Ck rfl rfl rfl rfl kT rfl rfl a.ln ?_;intro k i;refine qn ?_;refine qg rfl (λc=>?_) (λc=>?_)
 ·have d:x0=[]:=nK (i c);have H:(some []:Option (List Chunk))=some r:=by first|(rw[d]at H;exact H)|(subst d;exact H)
  refine aq ?_;have g:=hS.lb Chunk.t;exact rx H g
 ·obtain⟨l6,j,H⟩:=iy H;refine ax ?_;refine xm (kN (t:=Chunk.t) (vs:=[]) (xs:=([]:List Chunk)) kT Ty.zw rfl trivial rfl rfl hS) ?_;rintro l n b;refine qc ?_;refine ap 0 b (a.src b.agree) j ?_;intro m p h;exact rx H h
def QD(x0:List iu):Option (List iu) :=
  bd (app (α:=iu) ([]:List iu) x0) λl6 =>
  some l6
theorem ahs{x0:List iu}{r:(List iu)}{f:gE}(hA:Gd F w)(a:iq iu.t F f x0)(H:QD x0=some r):iN il K 101 [f] w λv w'=>∃(F':gL)(e:gE),v=e∧St [] w F F' [.row iu.t e (r)] w':=by
 refine lg Tryz.func101 ?_;have hS:=St.start hA;refine ay ?_;refine Ck rfl rfl rfl rfl mg rfl rfl a.ln ?_;intro k i;refine qn ?_;refine qg rfl (λc=>?_) (λc=>?_)
 ·have d:x0=[]:=nK (i c);have H:(some []:Option (List iu))=some r:=by first|(rw[d]at H;exact H)|(subst d;exact H)
  refine aq ?_;have g:=hS.lb iu.t;exact rx H g
 ·obtain⟨l6,j,H⟩:=iy H;refine ax ?_;refine xm (kN (t:=iu.t) (vs:=[]) (xs:=([]:List iu)) mg Ty.BU rfl trivial rfl rfl hS) ?_;rintro l n b;refine qc ?_;refine ap 0 b (a.src b.agree) j ?_;intro m p h;exact rx H h
def QE(x0:List Part):Option (List Part) :=
  bd (app (α:=Part) ([]:List Part) x0) λl6 =>
  some l6
theorem aht{x0:List Part}{r:(List Part)}{f:gE}(hA:Gd F w)(a:iq Part.t F f x0)(H:QE x0=some r):iN il K 151 [f] w λv w'=>∃(F':gL)(e:gE),v=e∧St [] w F F' [.row Part.t e (r)] w':=by
 refine lg Tryz.func151 ?_;have hS:=St.start hA;refine ay ?_;refine Ck rfl rfl rfl rfl EP rfl rfl a.ln ?_;intro k i;refine qn ?_;refine qg rfl (λc=>?_) (λc=>?_)
 ·have d:x0=[]:=nK (i c);have H:(some []:Option (List Part))=some r:=by first|(rw[d]at H;exact H)|(subst d;exact H)
  refine aq ?_;have g:=hS.lb Part.t;exact rx H g
 ·obtain⟨l6,j,H⟩:=iy H;refine ax ?_;refine xm (kN (t:=Part.t) (vs:=[]) (xs:=([]:List Part)) EP Ty.I5 rfl trivial rfl rfl hS) ?_;rintro l n b;refine qc ?_;refine ap 0 b (a.src b.agree) j ?_;intro m p h;exact rx H h
def xO.k1(x0:iF)(l7:List Part):Option iF :=
  some (iF.mk x0.name l7)
def xO.l2(x0:iF)(d:(List Part))(e:(Int×(List Part))→Option iF):(Int×(List Part))→Option iF
  | (a,kW) =>
    if decide (a<(d.length:Int))then
      bd (ix kW a) λb =>
      bd (Jg b.ids) λc =>
      e (wr (a+1),(kW.set a.toNat (Part.mk b.path b.size c)))
    else
      xO.k1 x0 kW
def xO(x0:iF):Option iF :=
  bd (QE x0.parts) λa =>
  loop (xO.l2 x0 a) (0,a)
theorem Zo{x0:iF}{r:iF}{m:gE}(hA:Gd F w)(L:iq Part.t F m x0.parts)(H:xO x0=some r):iN il K 102 [.agg (iF.cells x0 m)] w λv w'=>∃(F':gL)(G:gE),v = .agg (iF.cells r G)∧iq Part.t F' G (r.parts)∧St [] w F F' [] w':=by
 refine lg Tryz.func102 ?_;have hS:=St.start hA;refine qs ?_;refine bx ([.s x0.name,m]) ?_;intro e w1 aj;refine al ?_;intro f w2 q;obtain⟨r3,S,H⟩:=iy H;refine ax ?_;refine lm (aht q.iH L S) ?_;rintro a w4 ⟨p,_,rfl,B⟩;have ak:=q.call B;have a6:=B.ext;refine au ?_;refine sc 2 ([.s x0.name,a]) ?_;intro w5 g;refine qn ?_;refine iL (λE wq=>∃l7:List Part,xO.k1 x0 l7=some r ∧ ∃(j:gL),E=[(1,pl e 0),(2,pl f 0)]∧p.le j∧iW g [.row Part.t a l7,.box f [.s [],.sl none 0 (.k 0)],.box e [.s x0.name,a]] j wq) ?_ ?_
 ·refine aq ?_;refine qr (jV EP rfl (g.kH (k:=0) rfl)) ?_;refine ax ?_;refine jH (λ(s:Int×(List Part)) E wq=>∃(h:gL),E=[(1,pl e 0),(2,pl f 0),(10,.i .i64 (r3.length:Int)),(11,.i .i64 s.1)]∧p.le h∧iW g [.row Part.t a s.2,.box f [.s [],.sl none 0 (.k 0)],.box e [.s x0.name,a]] h wq) H ?_ ?_
  ·exact lo (jj g)
  ·rintro a7 ⟨V,kW⟩ E aC hI H
   try dsimp only at hI
   obtain⟨h,rfl,ar,b⟩:=hI;refine ay ?_;refine qy H (λO H=>?_) (λO H=>?_)
   ·refine ay ?_;obtain⟨n,D,Z,R,H⟩:=iG H;have d:=b.mC 2 rfl;refine rh 2 d b ?_;refine au ?_;refine hl 2 d b ?_;obtain⟨_,⟨a8,rfl,U⟩,P⟩:=mw 3 0 b D;refine au ?_;refine qq (la 2 Ty.Tj rfl P (by first|omega|rfl) rfl) ?_;refine ql (WY b.iH U R) ?_;rintro I aH ⟨ah,_,rfl,A⟩;have u:=b.call A;have Y:=A.ext;refine nf 3 d u Y ?_;refine au ?_;obtain⟨ae,X,l,y⟩:=u.kh 0 [1,2,3] rfl (by decide) (by decide);refine wg 2 d y X ?_;refine qu (pT (c:=[I]) 0 (V.toNat) 2 n (Part.mk n.path n.size Z) rfl rfl y rfl (iD D).2 (by first|rfl|(show _=_*3+_;omega)) l.ln.cells Ty.WT (by simp only[nJ,oG,lz,l.ln.one];rfl) (kY rfl) (by rintro cs ⟨a2,rfl,b2⟩;exact⟨I,rfl,l⟩)) ?_;rintro _ aJ x;refine qh 2 d x ?_;refine ax ?_;exact nm H (jj x)
   ·refine jf _ rfl ?_;exact nj ⟨kW,H,jj b⟩
 ·rintro E w6 ⟨l7,H,j,rfl,a4,am⟩;refine aq ?_;refine sb 1 ([.s x0.name,a]) ?_;intro w8 M;refine qn ?_;obtain⟨J,a5,Q,z⟩:=M.kh 0 [1,2] rfl (by decide) (by decide);obtain rfl:=oi H;refine oH (vs:=[.agg (iF.cells (iF.mk x0.name l7) a)]) rfl ⟨(oJ 0 Ty.tK Ty.tz z rfl rfl),trivial⟩ ?_;exact⟨J,a,rfl,Q,z.pick [] (by decide)⟩
def Mb(x0:List UInt8):Option (List UInt8) :=
  bd (app (α:=UInt8) ([]:List UInt8) x0) λl6 =>
  some l6
theorem ahv{x0:List UInt8}{r:(List UInt8)}{f:gE}(hA:Gd F w)(a:iq tB F f x0)(H:Mb x0=some r):iN il K 103 [f] w λv w'=>∃(F':gL)(e:gE),v=e∧St [] w F F' [.row tB e (r)] w':=by
 refine lg Tryz.func103 ?_;have hS:=St.start hA;refine ay ?_;refine Ck rfl rfl rfl rfl lL rfl rfl a.ln ?_;intro k i;refine qn ?_;refine qg rfl (λc=>?_) (λc=>?_)
 ·have d:x0=[]:=nK (i c);have H:(some []:Option (List UInt8))=some r:=by first|(rw[d]at H;exact H)|(subst d;exact H)
  refine aq ?_;have g:=hS.lb tB;exact rx H g
 ·obtain⟨l6,j,H⟩:=iy H;refine ax ?_;refine xm (kN (t:=tB) (vs:=[]) (xs:=([]:List UInt8)) lL Ty.qD rfl trivial rfl rfl hS) ?_;rintro l n b;refine qc ?_;refine ap 0 b (a.src b.agree) j ?_;intro m p h;exact rx H h
def ox.k3(x0:ig)(d:(List iz))(a:List ie)(b:List Chunk)(c:List iu):Option ig :=
  some (ig.mk x0.seq a b c d)
def ox.l4(x0:ig)(g:(List iu))(h:(List iz))(d:List ie)(e:List Chunk)(i:(Int×(List iu))→Option ig):(Int×(List iu))→Option ig
  | (a,b) =>
    if decide (a<(g.length:Int))then
      bd (ix b a) λc =>
      bd (AM c.locs) λf =>
      i (wr (a+1),(b.set a.toNat (iu.mk c.seq c.of f)))
    else
      ox.k3 x0 h d e b
def ox.k2(x0:ig)(a:(List iu))(d:(List iz))(b:List ie)(c:List Chunk):Option ig :=
  loop (ox.l4 x0 a d b c) (0,a)
def ox.l5(x0:ig)(f:(List Chunk))(h:(List iu))(i:(List iz))(e:List ie)(j:(Int×(List Chunk))→Option ig):(Int×(List Chunk))→Option ig
  | (b,c) =>
    if decide (b<(f.length:Int))then
      bd (ix c b) λa =>
      bd (Mb a.data) λd =>
      bd (AM a.locs) λg =>
      j (wr (b+1),((c.set b.toNat (Chunk.mk a.id a.jD d a.locs)).set b.toNat (Chunk.mk a.id a.jD d g)))
    else
      ox.k2 x0 h i e c
def ox.k1(x0:ig)(a:(List Chunk))(c:(List iu))(d:(List iz))(b:List ie):Option ig :=
  loop (ox.l5 x0 a c d b) (0,a)
def ox.l6(x0:ig)(e:(List ie))(f:(List Chunk))(g:(List iu))(h:(List iz))(j:(Int×(List ie))→Option ig):(Int×(List ie))→Option ig
  | (a,c) =>
    if decide (a<(e.length:Int))then
      bd (ix c a) λb =>
      bd (xO b.iw) λd =>
      bd (AM b.locs) λi =>
      j (wr (a+1),((c.set a.toNat (ie.mk b.seq d b.locs)).set a.toNat (ie.mk b.seq d i)))
    else
      ox.k1 x0 f g h c
def ox(x0:ig):Option ig :=
  bd (QF x0.ik) λa =>
  bd (QC x0.chunks) λb =>
  bd (QD x0.im) λc =>
  bd (Ji x0.iv) λd =>
  loop (ox.l6 x0 a b c d) (0,a)
set_option maxHeartbeats 2000000 in
theorem Tg{x0:ig}{r:ig}{aO:gE}{aj:gE}{S:gE}{J:gE}(hA:Gd F w)(bE:iq ie.t F aO x0.ik)(bF:iq Chunk.t F aj x0.chunks)(bG:iq iu.t F S x0.im)(bH:iq iz.t F J x0.iv)(H:ox x0=some r):iN il K 46 [.agg (ig.cells x0 aO aj S J)] w λv w'=>∃(F':gL)(b5:gE)(b6:gE)(b7:gE)(b8:gE),v = .agg (ig.cells r b5 b6 b7 b8)∧St [] w F F' [.row ie.t b5 (r.ik),.row Chunk.t b6 (r.chunks),.row iu.t b7 (r.im),.row iz.t b8 (r.iv)] w':=by
 refine lg Tryz.func46 ?_;have hS:=St.start hA;refine qs ?_;refine bx ([.i .i64 x0.seq,aO,aj,S,J]) ?_;intro f w1 cE;refine al ?_;intro l w2 q;refine ay ?_;obtain⟨r3,bN,r4,bP,H⟩:=iG H;obtain⟨z,bS,n,bT,H⟩:=iG H;have x:=q.mC 1 rfl;refine nA (G:=(F.hold w2 [f])) [0,1,3,4,6,7,9,10,2,12,5,8,11,13,14,15,16,17,18,19] rfl Ty.mixed (by kernel_rfl) (HB.agree (HB.cons 1 x q rfl HB.nil) q.agree) ?_;refine au ?_;refine hl 1 x q ?_;refine au ?_;refine hl 1 x q ?_;refine au ?_;refine hl 1 x q ?_;refine ql (ahu q.iH bE bN) ?_;rintro a w8 ⟨c5,_,rfl,bt⟩;have a6:=q.call bt;have cj:=bt.ext;refine nf 2 x a6 cj ?_;refine au ?_;refine ql (ahr a6.iH (mo bF) bP) ?_;rintro b w9 ⟨c7,_,rfl,bu⟩;have a7:=a6.call bu;have cl:=bu.ext;refine nf 3 x a7 cl ?_;refine ql (ahs a7.iH (mo bG) bS) ?_;rintro d da ⟨cA,_,rfl,bm⟩;have a5:=a7.call bm;have co:=bm.ext;refine nf 4 x a5 co ?_;refine ql (WZ a5.iH (mo bH) bT) ?_;rintro e db ⟨aT,_,rfl,bn⟩;have aU:=a5.call bn;have cp:=bn.ext;refine nf 5 x aU cp ?_;refine zX (by kernel_rfl) aU.agree ?_;refine sC 5 ([.i .i64 x0.seq,a,aj,S,J]) ?_;intro dc cF;refine au ?_;refine sC 5 ([.i .i64 x0.seq,a,b,S,J]) ?_;intro dd cG;refine au ?_;refine sC 5 ([.i .i64 x0.seq,a,b,d,J]) ?_;intro de cH;refine au ?_;refine sC 5 ([.i .i64 x0.seq,a,b,d,e]) ?_;intro df V;refine qn ?_;refine iL (λE wq=>∃m:List ie,ox.k1 x0 r4 z n m=some r ∧ ∃(L:gL),E=[(1,pl f 0),(2,pl l 0)]∧aT.le L∧iW V [.row iz.t e n,.row iu.t d z,.row Chunk.t b r4,.row ie.t a m,.box l [.i .i64 0,.sl none 0 (.k 0),.sl none 0 (.k 0),.sl none 0 (.k 0),.sl none 0 (.k 0)],.box f [.i .i64 x0.seq,a,b,d,e]] L wq) ?_ ?_
 ·refine aq ?_;refine qr (jV kR rfl (V.kH (k:=3) rfl)) ?_;refine ax ?_;refine jH (λ(s:Int×(List ie)) E wq=>∃(ar:gL),E=[(1,pl f 0),(2,pl l 0),(26,.i .i64 (r3.length:Int)),(27,.i .i64 s.1)]∧aT.le ar∧iW V [.row iz.t e n,.row iu.t d z,.row Chunk.t b r4,.row ie.t a s.2,.box l [.i .i64 0,.sl none 0 (.k 0),.sl none 0 (.k 0),.sl none 0 (.k 0),.sl none 0 (.k 0)],.box f [.i .i64 x0.seq,a,b,d,e]] ar wq) H ?_ ?_
  ·exact lo (jj V)
  ·rintro cS ⟨b4,ce⟩ E du hI H
   try dsimp only at hI
   obtain⟨ar,rfl,cP,h⟩:=hI;refine ay ?_;refine qy H (λbK H=>?_) (λbK H=>?_)
   ·obtain⟨A,aJ,H⟩:=iy H;obtain⟨_,⟨cy,cX,rfl,bZ,ca⟩,bw⟩:=mw 4 3 h aJ;refine ay ?_;obtain⟨ai,bU,cx,bV,H⟩:=iG H;have I:=h.rp [] (by decide);refine nA [0,1,2,3,4,5,7,8,9,10,6,11,12,13,14,15,16,17] rfl Ty.mixed (by kernel_rfl) (HB.agree (h.wc [] [0,1,2,3,4,5] (by decide) I) I.agree) ?_;refine au ?_;refine qr (pw 1 (iF.cells A.iw cy) Ty.tK Ty.tz rfl (bw.held (h.wc [] [0,1,2,3,4,5] (by decide) I) (h.KW (j:=3) (rs:=[0,1,2,3,4,5]) (by decide) rfl)) (by first|omega|rfl) rfl (kY rfl)) ?_;refine au ?_;refine qr (la 3 Ty.sh rfl (bw.held (h.wc [] [0,1,2,3,4,5] (by decide) I) (h.KW (j:=3) (rs:=[0,1,2,3,4,5]) (by decide) rfl)) (by first|omega|rfl) rfl) ?_;refine ql (Zo I.iH bZ bU) ?_;rintro cY dv ⟨cC,bC,rfl,bz,br⟩;have Q:=I.call br;have cq:=br.ext;refine jG.mW (HB.le (h.wc [] [0,1,2,3,4,5] (by decide) Q) cq) (HB.agree (h.wc [] [0,1,2,3,4,5] (by decide) Q) Q.agree) ?_;refine ql (Jh Q.iH (mo ca) bV) ?_;rintro bD dw ⟨cD,_,rfl,bs⟩;have ad:=Q.call bs;have cr:=bs.ext;refine jG.mW (HB.le (h.wc [] [0,1,2,3,4,5] (by decide) ad) cr) (HB.agree (h.wc [] [0,1,2,3,4,5] (by decide) ad) ad.agree) ?_;refine au ?_;have bh:=h.ri [] [0,1,2,3,4,5] (by decide) (by decide) ad;refine zX (by kernel_rfl) bh.agree ?_;refine qu (pT (c:=[.s ai.name,bC]) 4 (b4.toNat) 1 A (ie.mk A.seq ai A.locs) rfl rfl bh rfl (iD aJ).2 (by first|rfl|(show _=_*4+_;omega)) rfl Ty.tz (by simp only[nJ,oG,lz,bz.ln.one];rfl) (kY rfl) (by rintro cs ⟨a2,a3,rfl,B,O⟩;exact⟨bC,a3,rfl,(mo bz),O⟩)) ?_;rintro _ dx bi;refine qw bi ?_;refine au ?_;obtain⟨c4,ci,aD,bk⟩:=bi.kh 0 [1,2,3,4,5,6] rfl (by decide) (by decide);refine A7 ci bk.agree ?_;refine qu (pT (c:=[bD]) 3 (b4.toNat) 3 (ie.mk A.seq ai A.locs) (ie.mk A.seq ai cx) rfl rfl bk rfl (uv (by simpa using(kI.1 (iD aJ).2).1)) (by first|rfl|(show _=_*4+_;omega)) aD.ln.cells Ty.xu (by simp only[nJ,oG,lz,aD.ln.one];rfl) (kY rfl) (by rintro cs ⟨a2,a3,rfl,B,O⟩;exact⟨a2,bD,rfl,B,aD⟩)) ?_
    rintro _ dy bj;refine qw bj ?_;refine ax ?_;exact nm H (jj bj)
   ·refine jf _ rfl ?_;exact nj ⟨ce,H,jj h⟩
 ·rintro E dg ⟨m,H,L,rfl,cK,X⟩;refine iL (λE wq=>∃y:List Chunk,ox.k2 x0 z n m y=some r ∧ ∃(M:gL),E=[(1,pl f 0),(2,pl l 0)]∧L.le M∧iW X [.row iz.t e n,.row iu.t d z,.row Chunk.t b y,.row ie.t a m,.box l [.i .i64 0,.sl none 0 (.k 0),.sl none 0 (.k 0),.sl none 0 (.k 0),.sl none 0 (.k 0)],.box f [.i .i64 x0.seq,a,b,d,e]] M wq) ?_ ?_
  ·refine aq ?_;refine qr (jV kT rfl (X.kH (k:=2) rfl)) ?_;refine ax ?_;refine jH (λ(s:Int×(List Chunk)) E wq=>∃(am:gL),E=[(1,pl f 0),(2,pl l 0),(53,.i .i64 (r4.length:Int)),(54,.i .i64 s.1)]∧L.le am∧iW X [.row iz.t e n,.row iu.t d z,.row Chunk.t b s.2,.row ie.t a m,.box l [.i .i64 0,.sl none 0 (.k 0),.sl none 0 (.k 0),.sl none 0 (.k 0),.sl none 0 (.k 0)],.box f [.i .i64 x0.seq,a,b,d,e]] am wq) H ?_ ?_
   ·exact lo (jj X)
   ·rintro cR ⟨b1,cd⟩ E dn hI H
    try dsimp only at hI
    obtain⟨am,rfl,cO,g⟩:=hI;refine ay ?_;refine qy H (λbJ H=>?_) (λbJ H=>?_)
    ·obtain⟨p,aH,H⟩:=iy H;obtain⟨_,⟨cU,cV,rfl,cJ,bX,bY⟩,bv⟩:=mw 35 2 g aH;refine ay ?_;obtain⟨aK,bQ,cw,bR,H⟩:=iG H;have D:=g.rp [] (by decide);refine nA [0,1,2,3,4,5,7,8,9,10,6,11,12,13,14,15,16,17] rfl Ty.mixed (by kernel_rfl) (HB.agree (g.wc [] [0,1,2,3,4,5] (by decide) D) D.agree) ?_;refine au ?_;refine qr (la 33 Ty.DK rfl (bv.held (g.wc [] [0,1,2,3,4,5] (by decide) D) (g.KW (j:=2) (rs:=[0,1,2,3,4,5]) (by decide) rfl)) (by first|omega|rfl) rfl) ?_;refine au ?_;refine qr (la 34 Ty.sh rfl (bv.held (g.wc [] [0,1,2,3,4,5] (by decide) D) (g.KW (j:=2) (rs:=[0,1,2,3,4,5]) (by decide) rfl)) (by first|omega|rfl) rfl) ?_;refine ql (ahv D.iH bX bQ) ?_;rintro bA dq ⟨c8,_,rfl,bp⟩;have P:=D.call bp;have cm:=bp.ext;refine jG.mW (HB.le (g.wc [] [0,1,2,3,4,5] (by decide) P) cm) (HB.agree (g.wc [] [0,1,2,3,4,5] (by decide) P) P.agree) ?_;refine ql (Jh P.iH (mo bY) bR) ?_;rintro bB dr ⟨c9,_,rfl,bq⟩;have Z:=P.call bq;have cn:=bq.ext;refine jG.mW (HB.le (g.wc [] [0,1,2,3,4,5] (by decide) Z) cn) (HB.agree (g.wc [] [0,1,2,3,4,5] (by decide) Z) Z.agree) ?_;refine au ?_;have bb:=g.ri [] [0,1,2,3,4,5] (by decide) (by decide) Z;refine zX (by kernel_rfl) bb.agree ?_;obtain⟨c2,cg,a9,be⟩:=bb.kh 1 [0,2,3,4,5,6,7] rfl (by decide) (by decide);refine A7 cg be.agree ?_;refine qu (pT (c:=[bA]) 3 (b1.toNat) 33 p (Chunk.mk p.id p.jD aK p.locs) rfl rfl be rfl (iD aH).2 (by first|rfl|(show _=_*35+_;omega)) a9.ln.cells Ty.Ew (by simp only[nJ,oG,lz,a9.ln.one];rfl) (kY rfl) (by rintro cs ⟨a2,a3,rfl,c0,B,O⟩;exact⟨bA,a3,rfl,c0,a9,O⟩)) ?_;rintro _ ds bc;refine qw bc ?_;refine au ?_;obtain⟨c3,ch,aC,bg⟩:=bc.kh 0 [1,2,3,4,5,6] rfl (by decide) (by decide);refine A7 ch bg.agree ?_;refine qu (pT (c:=[bB]) 2 (b1.toNat) 34 (Chunk.mk p.id p.jD aK p.locs) (Chunk.mk p.id p.jD aK cw) rfl rfl bg rfl (uv (by simpa using(kI.1 (iD aH).2).1)) (by first|rfl|(show _=_*35+_;omega)) aC.ln.cells Ty.xu (by simp only[nJ,oG,lz,aC.ln.one];rfl) (kY rfl) (by rintro cs ⟨a2,a3,rfl,c0,B,O⟩;exact⟨a2,bB,rfl,c0,B,aC⟩)) ?_
     rintro _ dt bf;refine qw bf ?_;refine ax ?_;exact nm H (jj bf)
    ·refine jf _ rfl ?_;exact nj ⟨cd,H,jj g⟩
  ·rintro E dh ⟨y,H,M,rfl,cL,Y⟩;refine iL (λE wq=>∃ae:List iu,ox.k3 x0 n m y ae=some r ∧ ∃(U:gL),E=[(1,pl f 0),(2,pl l 0)]∧M.le U∧iW Y [.row iz.t e n,.row iu.t d ae,.row Chunk.t b y,.row ie.t a m,.box l [.i .i64 0,.sl none 0 (.k 0),.sl none 0 (.k 0),.sl none 0 (.k 0),.sl none 0 (.k 0)],.box f [.i .i64 x0.seq,a,b,d,e]] U wq) ?_ ?_
   ·refine aq ?_;refine qr (jV mg rfl (Y.kH (k:=1) rfl)) ?_;refine ax ?_;refine jH (λ(s:Int×(List iu)) E wq=>∃(ak:gL),E=[(1,pl f 0),(2,pl l 0),(80,.i .i64 (z.length:Int)),(81,.i .i64 s.1)]∧M.le ak∧iW Y [.row iz.t e n,.row iu.t d s.2,.row Chunk.t b y,.row ie.t a m,.box l [.i .i64 0,.sl none 0 (.k 0),.sl none 0 (.k 0),.sl none 0 (.k 0),.sl none 0 (.k 0)],.box f [.i .i64 x0.seq,a,b,d,e]] ak wq) H ?_ ?_
    ·exact lo (jj Y)
    ·rintro cQ ⟨cb,cc⟩ E dk hI H
     try dsimp only at hI
     obtain⟨ak,rfl,cN,u⟩:=hI;refine ay ?_;refine qy H (λbI H=>?_) (λbI H=>?_)
     ·refine ay ?_;obtain⟨aR,b0,cu,bO,H⟩:=iG H;have R:=u.mC 5 rfl;refine rh 5 R u ?_;refine au ?_;refine hl 5 R u ?_;refine au ?_;refine zr 5 Ty.z8 u ?_;obtain⟨_,⟨cT,rfl,bW⟩,bM⟩:=mw 3 1 u b0;refine au ?_;refine qq (la 2 Ty.sh rfl bM (by first|omega|rfl) rfl) ?_;refine ql (Jh u.iH bW bO) ?_;rintro b9 dl ⟨c6,_,rfl,bo⟩;have aX:=u.call bo;have ck:=bo.ext;refine nf 6 R aX ck ?_;refine au ?_;obtain⟨c1,cf,a8,ba⟩:=aX.kh 0 [1,2,3,4,5,6] rfl (by decide) (by decide);refine wg 5 R ba cf ?_;refine qu (pT (c:=[b9]) 1 (cb.toNat) 2 aR (iu.mk aR.seq aR.of cu) rfl rfl ba rfl (iD b0).2 (by first|rfl|(show _=_*3+_;omega)) a8.ln.cells Ty.xu (by simp only[nJ,oG,lz,a8.ln.one];rfl) (kY rfl) (by rintro cs ⟨a2,rfl,B⟩;exact⟨b9,rfl,a8⟩)) ?_;rintro _ dm aY;refine qh 5 R aY ?_;refine ax ?_;exact nm H (jj aY)
     ·refine jf _ rfl ?_;exact nj ⟨cc,H,jj u⟩
   ·rintro E di ⟨ae,H,U,rfl,cM,cI⟩;refine aq ?_;refine sb 4 ([.i .i64 x0.seq,a,b,d,e]) ?_;intro dj aV;refine qn ?_;obtain rfl:=oi H;refine oH (vs:=[.agg (ig.cells (ig.mk x0.seq m y ae n) a b d e)]) rfl ⟨(oJ 4 Ty.rb Ty.rv aV rfl rfl),trivial⟩ ?_;exact⟨U,a,b,d,e,rfl,aV.pick [3,2,1,0] (by decide)⟩
def IU(x0:ie):Option Bool :=
  some (decide ((x0.locs.length:Int)=0))
theorem V8{x0:ie}{r:Bool}{a:gE}{c:gE}(hA:Gd F w)(f:iq Part.t F a x0.iw.parts)(g:iq Loc.t F c x0.locs)(H:IU x0=some r):iN il K 63 [.agg (ie.cells x0 a c)] w λv w'=>∃(F':gL),v = .b r∧St [] w F F' [] w':=by
 refine lg Tryz.func63 ?_;have hS:=St.start hA;refine qs ?_;refine bx ([.i .i64 x0.seq,.s x0.iw.name,a,c]) ?_;intro e h d;refine au ?_;exact rz H d
def yA.k1:Option Int :=
  some (-1)
def yA.l2(x0:List ie)(c:Int→Option Int):Int→Option Int
  | a =>
    if decide (a<(x0.length:Int))then
      bd (ix x0 a) λx6 =>
      bd (IU x6) λb =>
      if b then
        some a
      else
        c (wr (a+1))
    else
      yA.k1
def yA(x0:List ie):Option Int :=
  loop (yA.l2 x0) 0
theorem ahK{x0:List ie}{r:Int}{b:gE}(hA:Gd F w)(d:iq ie.t F b x0)(H:yA x0=some r):iN il K 113 [b,.f 63 []] w λv w'=>∃(F':gL),v = .i .i64 r∧St [] w F F' [] w':=by
 refine kB Rz ?_;have hS:=St.start hA;refine aq ?_;refine iL (jN (yA.k1=some r) [] hS) ?_ ?_
 ·refine ax ?_;refine lj hS (λs:Int=>[(0,b),(1,.f 63 []),(7,.i .i64 (x0.length:Int)),(8,.i .i64 s)]) H ?_;intro A x q J n a H;refine ay ?_;refine qy H (λh H=>?_) (λh H=>?_)
  ·obtain⟨x6,m,z,j,H⟩:=iG H;obtain⟨_,⟨B,D,rfl,k,l⟩,u⟩:=js 4 (d.mono n) m;refine ay ?_;refine lp (V8 a.iH k l j) a ?_;intro I c;refine qn ?_;refine qy H (λg H=>?_) (λg H=>?_)
   ·exact rz H c
   ·refine ax ?_;exact nm H (jj c)
  ·refine jf _ rfl ?_;exact nj ⟨H,jj a⟩
 ·rintro E G ⟨H,p,rfl,y,e⟩;exact rz H e
def ui.k1(a:Int)(l6:List ie):Option (List ie) :=
  bd (cut (α:=ie) l6 a (l6.length:Int)) λl7 =>
  bd (yc l6 a.toNat ((l6.length:Int).toNat-a.toNat) (ie.mk 0 (iF.mk [] []) [])) λl9 =>
  bd (cut (α:=ie) l9 0 a) λlx =>
  bd (nz l9) λ_ =>
  some lx
def ui.k3(a:Int)(d:(Int×Int×(List ie))→Option (List ie))(b:Int)(c:List ie):Option (List ie) :=
  d (b,wr (a+1),c)
def ui.l2(d:(Int×Int×(List ie))→Option (List ie)):(Int×Int×(List ie))→Option (List ie)
  | (b,c,a) =>
    if decide (c<(a.length:Int))then
      bd (ix a c) λe =>
      bd (IU e) λf =>
      if(!f)then
        bd (ix a b) λg =>
        ui.k3 c d (wr (b+1)) (a.set b.toNat e)
      else
        ui.k3 c d b a
    else
      ui.k1 b a
def ui(x0:List ie):Option (List ie) :=
  bd (yA x0) λa =>
  if decide (a=(-1))then
    some x0
  else
    loop (ui.l2) (a,wr (a+1),x0)
theorem ahD{x0:List ie}{r:(List ie)}{a:gE}(hS:St a.own w F F [.row ie.t a x0] w)(H:ui x0=some r):iN il K 62 [a,.f 63 []] w λv w'=>∃(F':gL)(M:gE),v=M∧St a.own w F F' [.row ie.t M (r)] w':=by
 refine kB Tryz.func62 ?_;obtain⟨r1,Y,H⟩:=iy H;refine ax ?_;refine lp (ahK (Gd.now hS.wf) (hS.ni (k:=0) rfl) Y) hS ?_;intro w2 j;refine ay ?_;refine qy H (λS H=>?_) (λS H=>?_)
 ·exact rx H j
 ·refine qk ?_;refine iL (λE wq=>∃e:Int,∃l6:List ie,ui.k1 e l6=some r ∧ ∃(m:gL),E=[(0,a),(5,.i .i64 e)]∧F.le m∧iW j [.row ie.t a l6] m wq) ?_ ?_
  ·refine ax ?_;refine jH (λ(s:Int×Int×(List ie)) E wq=>∃(g:gL),E=[(0,a),(1,.f 63 []),(5,.i .i64 s.1),(6,.i .i64 s.2.1)]∧F.le g∧iW j [.row ie.t a s.2.2] g wq) H ?_ ?_
   ·exact lo (jj j)
   ·rintro ai ⟨d,L,x⟩ E aX hI H
    try dsimp only at hI
    obtain⟨g,rfl,aC,h⟩:=hI;refine ay ?_;refine qr (jV kR rfl (h.kH (k:=0) rfl)) ?_;refine au ?_;refine qy H (λR H=>?_) (λR H=>?_)
    ·refine qk ?_;refine iL (λE wq=>∃u:Int,∃y:List ie,ui.k3 L ai u y=some r ∧ ∃(l:gL),E=[(0,a),(1,.f 63 []),(5,.i .i64 u),(6,.i .i64 L)]∧g.le l∧iW h [.row ie.t a y] l wq) ?_ ?_
     ·obtain⟨b,ah,H⟩:=iy H;obtain⟨_,⟨z,A,rfl,p,q⟩,a5⟩:=mw 4 0 h ah;refine ax ?_;refine al ?_;intro ar bb a4;refine sb 0 ([.i .i64 b.seq,.s b.iw.name,z,A]) ?_;intro bc D;obtain⟨aR,Z,H⟩:=iy H;refine ax ?_;refine lp (V8 D.iH p q Z) D ?_;intro be n;refine au ?_;refine qy H (λU H=>?_) (λU H=>?_)
      ·obtain⟨aj,J,H⟩:=iy H;obtain⟨_,⟨aT,aU,rfl,a6,a7⟩,_⟩:=mw 4 1 n J;refine aq ?_;refine um (pT (c:=[.i .i64 b.seq,.s b.iw.name,z,A]) 1 (d.toNat) 0 aj b rfl rfl n rfl (iD J).2 (by first|rfl|(show _=_*4+_;omega)) rfl Ty.oa (by simp only[nJ,oG,lz,p.ln.one,q.ln.one];rfl) (kY rfl) (by rintro cs ⟨a2,a3,rfl,b2,b3⟩;exact⟨z,A,rfl,p,q⟩)) ?_;rintro _ bf Q;refine ax ?_;exact nj ⟨wr (d+1),(x.set d.toNat b),H,jj (pk [1] Q)⟩
      ·refine ax ?_;exact nj ⟨d,x,H,jj (pk [1] n)⟩
     ·rintro E ba ⟨u,y,H,l,rfl,aD,P⟩;refine ax ?_;exact nm H (jj P)
    ·refine jf _ rfl ?_;exact nj ⟨d,x,H,jj h⟩
  ·rintro E w4 ⟨e,l6,H,m,rfl,aH,G⟩;obtain⟨l7,V,l9,X,H⟩:=iG H;refine aq ?_;refine sP 0 e (l6.length:Int) rfl rfl rfl rfl kR Ty.oa rfl (.inr ⟨_,_,rfl,rfl⟩) (.inl ⟨rfl,rfl⟩) G rfl V ?_;intro q8 a9 ae;refine um (Hf (tr:=ie.t) (x0:=(ie.mk 0 (iF.mk [] []) [])) 0 kR Ty.Q6 ⟨.sl none 0 (.k 0),.sl none 0 (.k 0),rfl,(iq.nil _),(iq.nil _)⟩ rfl G rfl ae X) ?_;rintro _ aV B;obtain⟨lx,I,H⟩:=iy H;refine ax ?_;refine sP 0 0 e rfl rfl rfl rfl kR Ty.oa rfl (.inl ⟨rfl,rfl⟩) (.inr ⟨_,_,rfl,rfl⟩) B rfl I ?_;intro aJ a8 ad;refine au ?_;obtain⟨_,Ih,H⟩:=iy H;have O:=B.shrink 0 rfl ad I Ih;exact rx H O
def IV(x0:Chunk):Option Bool :=
  some (decide ((x0.locs.length:Int)=0))
theorem V9{x0:Chunk}{r:Bool}{a:gE}{c:gE}(hA:Gd F w)(f:iq tB F a x0.data)(g:iq Loc.t F c x0.locs)(h:(x0.id).length=32)(H:IV x0=some r):iN il K 65 [.agg (Chunk.cells x0 a c)] w λv w'=>∃(F':gL),v = .b r∧St [] w F F' [] w':=by
 refine lg Tryz.func65 ?_;have hS:=St.start hA;refine qs ?_;refine bx (iJ x0.id++([.b x0.jD,a,c]:List gE)) ?_;intro e i d;refine au ?_;exact rz H d
def yz.k1:Option Int :=
  some (-1)
def yz.l2(x0:List Chunk)(c:Int→Option Int):Int→Option Int
  | a =>
    if decide (a<(x0.length:Int))then
      bd (ix x0 a) λx6 =>
      bd (IV x6) λb =>
      if b then
        some a
      else
        c (wr (a+1))
    else
      yz.k1
def yz(x0:List Chunk):Option Int :=
  loop (yz.l2 x0) 0
theorem ahH{x0:List Chunk}{r:Int}{b:gE}(hA:Gd F w)(d:iq Chunk.t F b x0)(H:yz x0=some r):iN il K 114 [b,.f 65 []] w λv w'=>∃(F':gL),v = .i .i64 r∧St [] w F F' [] w':=by
 refine kB Tryz.func114 ?_;have hS:=St.start hA;refine aq ?_;refine iL (jN (yz.k1=some r) [] hS) ?_ ?_
 ·refine ax ?_;refine lj hS (λs:Int=>[(0,b),(1,.f 65 []),(7,.i .i64 (x0.length:Int)),(8,.i .i64 s)]) H ?_;intro B y u L p a H;refine ay ?_;refine qy H (λh H=>?_) (λh H=>?_)
  ·obtain⟨x6,n,A,k,H⟩:=iG H;obtain⟨_,⟨D,G,rfl,j,l,m⟩,x⟩:=js 35 (d.mono p) n;refine ay ?_;refine lp (V9 a.iH l m j k) a ?_;intro J c;refine qn ?_;refine qy H (λg H=>?_) (λg H=>?_)
   ·exact rz H c
   ·refine ax ?_;exact nm H (jj c)
  ·refine jf _ rfl ?_;exact nj ⟨H,jj a⟩
 ·rintro E I ⟨H,q,rfl,z,e⟩;exact rz H e
def uh.k1(a:Int)(l6:List Chunk):Option (List Chunk) :=
  bd (cut (α:=Chunk) l6 a (l6.length:Int)) λl7 =>
  bd (yc l6 a.toNat ((l6.length:Int).toNat-a.toNat) (Chunk.mk (iV 32 (0:UInt8)) false [] [])) λl9 =>
  bd (cut (α:=Chunk) l9 0 a) λlx =>
  bd (nz l9) λ_ =>
  some lx
def uh.k3(a:Int)(d:(Int×Int×(List Chunk))→Option (List Chunk))(b:Int)(c:List Chunk):Option (List Chunk) :=
  d (b,wr (a+1),c)
def uh.l2(d:(Int×Int×(List Chunk))→Option (List Chunk)):(Int×Int×(List Chunk))→Option (List Chunk)
  | (b,c,a) =>
    if decide (c<(a.length:Int))then
      bd (ix a c) λe =>
      bd (IV e) λf =>
      if(!f)then
        bd (ix a b) λg =>
        uh.k3 c d (wr (b+1)) (a.set b.toNat e)
      else
        uh.k3 c d b a
    else
      uh.k1 b a
def uh(x0:List Chunk):Option (List Chunk) :=
  bd (yz x0) λa =>
  if decide (a=(-1))then
    some x0
  else
    loop (uh.l2) (a,wr (a+1),x0)
theorem ahC{x0:List Chunk}{r:(List Chunk)}{a:gE}(hS:St a.own w F F [.row Chunk.t a x0] w)(H:uh x0=some r):iN il K 64 [a,.f 65 []] w λv w'=>∃(F':gL)(P:gE),v=P∧St a.own w F F' [.row Chunk.t P (r)] w':=by
 refine kB Tryz.func64 ?_;obtain⟨r1,ad,H⟩:=iy H;refine ax ?_;refine lp (ahH (Gd.now hS.wf) (hS.ni (k:=0) rfl) ad) hS ?_;intro w2 l;refine ay ?_;refine qy H (λV H=>?_) (λV H=>?_)
 ·exact rx H l
 ·refine qk ?_;refine iL (λE wq=>∃h:Int,∃l6:List Chunk,uh.k1 h l6=some r ∧ ∃(n:gL),E=[(0,a),(5,.i .i64 h)]∧F.le n∧iW l [.row Chunk.t a l6] n wq) ?_ ?_
  ·refine ax ?_;refine jH (λ(s:Int×Int×(List Chunk)) E wq=>∃(j:gL),E=[(0,a),(1,.f 65 []),(5,.i .i64 s.1),(6,.i .i64 s.2.1)]∧F.le j∧iW l [.row Chunk.t a s.2.2] j wq) H ?_ ?_
   ·exact lo (jj l)
   ·rintro ak ⟨g,O,y⟩ E bc hI H
    try dsimp only at hI
    obtain⟨j,rfl,aK,e⟩:=hI;refine ay ?_;refine qr (jV kT rfl (e.kH (k:=0) rfl)) ?_;refine au ?_;refine qy H (λU H=>?_) (λU H=>?_)
    ·refine qk ?_;refine iL (λE wq=>∃x:Int,∃z:List Chunk,uh.k3 O ak x z=some r ∧ ∃(m:gL),E=[(0,a),(1,.f 65 []),(5,.i .i64 x),(6,.i .i64 O)]∧j.le m∧iW e [.row Chunk.t a z] m wq) ?_ ?_
     ·obtain⟨d,aj,H⟩:=iy H;obtain⟨_,⟨A,B,rfl,L,q,u⟩,a8⟩:=mw 35 0 e aj;refine ax ?_;refine xm (o9 (cs:=iJ (iV 32 (0:UInt8))++([.b false,.sl none 0 (.k 0),.sl none 0 (.k 0)]:List gE)) Ty.GN rfl e) ?_;rintro _ bg ⟨a6,rfl,a7⟩;refine sb 0 (iJ d.id++([.b d.jD,A,B]:List gE)) ?_;intro bh G;obtain⟨aX,ae,H⟩:=iy H;refine ax ?_;refine lp (V9 G.iH q u L ae) G ?_;intro bi p;refine au ?_;refine qy H (λX H=>?_) (λX H=>?_)
      ·obtain⟨am,M,H⟩:=iy H;obtain⟨_,⟨aY,ba,rfl,a9,aC,aD⟩,_⟩:=mw 35 1 p M;refine aq ?_;refine um (pT (c:=iJ d.id++([.b d.jD,A,B]:List gE)) 1 (g.toNat) 0 am d rfl rfl p rfl (iD M).2 (by first|rfl|(show _=_*35+_;omega)) rfl Ty.nX (by simp only[nJ,oG,lz,q.ln.one,u.ln.one];rfl) (kY rfl) (by rintro cs ⟨a2,a3,rfl,c0,b2,b3⟩;exact⟨A,B,rfl,L,q,u⟩)) ?_;rintro _ bj S;refine ax ?_;exact nj ⟨wr (g+1),(y.set g.toNat d),H,jj (pk [1] S)⟩
      ·refine ax ?_;exact nj ⟨g,y,H,jj (pk [1] p)⟩
     ·rintro E bf ⟨x,z,H,m,rfl,aO,R⟩;refine ax ?_;exact nm H (jj R)
    ·refine jf _ rfl ?_;exact nj ⟨g,y,H,jj e⟩
  ·rintro E w4 ⟨h,l6,H,n,rfl,aR,I⟩;obtain⟨l7,Y,l9,Z,H⟩:=iG H;refine aq ?_;refine sP 0 h (l6.length:Int) rfl rfl rfl rfl kT Ty.nX rfl (.inr ⟨_,_,rfl,rfl⟩) (.inl ⟨rfl,rfl⟩) I rfl Y ?_;intro q8 aJ ai;refine um (Hf (tr:=Chunk.t) (x0:=(Chunk.mk (iV 32 (0:UInt8)) false [] [])) 0 kT Ty.GN ⟨.sl none 0 (.k 0),.sl none 0 (.k 0),rfl,(List.length_replicate),(iq.nil _),(iq.nil _)⟩ rfl I rfl ai Z) ?_;rintro _ bb D;obtain⟨lx,J,H⟩:=iy H;refine ax ?_;refine sP 0 0 h rfl rfl rfl rfl kT Ty.nX rfl (.inl ⟨rfl,rfl⟩) (.inr ⟨_,_,rfl,rfl⟩) D rfl J ?_;intro aT aH ah;refine au ?_;obtain⟨_,Ih,H⟩:=iy H;have Q:=D.shrink 0 rfl ah J Ih;exact rx H Q
end
end Go.Wk.Lf
end
section
namespace Go.Wk.Lf
open Go.V Go.Proofs
noncomputable section
set_option maxRecDepth 100000
variable{K:Tb}{F:gL}{w:Hp}
def oC.k3(a:ig)(d:(List ie))(c:List Chunk)(b:Int):Option ig :=
  some (ig.mk b d c a.im a.iv)
def oC.l4(c:ig)(f:(List ie))(e:List Chunk)(g:(Int×Int)→Option ig):(Int×Int)→Option ig
  | (a,b) =>
    if decide (a<(c.im.length:Int))then
      bd (ix c.im a) λd =>
      g (wr (a+1),(if b<wr (d.seq+1)then wr (d.seq+1)else b))
    else
      oC.k3 c f e b
def oC.k2(d:ig)(c:(List ie))(b:List Chunk)(a:Int):Option ig :=
  loop (oC.l4 d c b) (0,a)
def oC.l5(f:ig)(c:(List ie))(e:List Chunk)(g:(Int×Int)→Option ig):(Int×Int)→Option ig
  | (a,b) =>
    if decide (a<(c.length:Int))then
      bd (ix c a) λd =>
      g (wr (a+1),(if b<wr (d.seq+1)then wr (d.seq+1)else b))
    else
      oC.k2 f c e b
def oC.k1(c:ig)(b:(List ie))(a:List Chunk):Option ig :=
  loop (oC.l5 c b a) (0,0)
def oC.l6(g:ig)(e:(List ie))(f:(List Chunk))(h:(Int×(List Chunk))→Option ig):(Int×(List Chunk))→Option ig
  | (a,c) =>
    if decide (a<(f.length:Int))then
      bd (ix c a) λb =>
      bd (ix (c.set a.toNat (Chunk.mk b.id false b.data b.locs)) a) λd =>
      h (wr (a+1),((c.set a.toNat (Chunk.mk b.id false b.data b.locs)).set a.toNat (Chunk.mk d.id d.jD [] d.locs)))
    else
      oC.k1 g e c
def oC(x0:ig):Option ig :=
  bd (Fy x0) λd =>
  if decide (d≠0)then
    some (ig.mk 0 [] [] [] [])
  else
    bd (ox x0) λa =>
    bd (ui a.ik) λc =>
    bd (uh a.chunks) λb =>
    loop (oC.l6 a c b) (0,b)
set_option maxHeartbeats 2000000 in
theorem Qn[Kn (sN il) K]{x0:ig}{r:ig}{Y:gE}{Z:gE}{ad:gE}{ae:gE}(hA:Gd F w)(aj:iq ie.t F Y x0.ik)(ak:iq Chunk.t F Z x0.chunks)(am:iq iu.t F ad x0.im)(ar:iq iz.t F ae x0.iv)(H:oC x0=some r):iN il K 20 [.agg (ig.cells x0 Y Z ad ae)] w λv w'=>∃(F':gL)(aV:gE)(aX:gE)(aY:gE)(ba:gE),v = .agg (ig.cells r aV aX aY ba)∧iq ie.t F' aV (r.ik)∧iq Chunk.t F' aX (r.chunks)∧iq iu.t F' aY (r.im)∧iq iz.t F' ba (r.iv)∧St [] w F F' [] w':=by
 refine lg Tryz.func20 ?_;have hS:=St.start hA;refine qs ?_;refine bx ([.i .i64 x0.seq,Y,Z,ad,ae]) ?_;intro g1 w1 bH;refine al ?_;intro h w2 a6;obtain⟨r3,bz,H⟩:=iy H;refine ay ?_;refine lp (Ke a6.iH aj ak am ar bz) a6 ?_;intro w4 a9;refine au ?_;refine qy H (λbp H=>?_) (λbp H=>?_)
 ·refine qs ?_;refine j8 (v:=.agg (ig.cells (ig.mk 0 [] [] [] []) (.sl none 0 (.k 0)) (.sl none 0 (.k 0)) (.sl none 0 (.k 0)) (.sl none 0 (.k 0)))) rfl rfl rfl rfl (λ_=>rfl) ?_;refine sb 0 ([.i .i64 0,.sl none 0 (.k 0),.sl none 0 (.k 0),.sl none 0 (.k 0),.sl none 0 (.k 0)]) ?_;intro w6 aD;refine qn ?_;obtain rfl:=oi H;refine oH (vs:=[.agg (ig.cells (ig.mk 0 [] [] [] []) (.sl none 0 (.k 0)) (.sl none 0 (.k 0)) (.sl none 0 (.k 0)) (.sl none 0 (.k 0)))]) rfl ⟨(oJ 0 Ty.rb Ty.rv aD rfl rfl),trivial⟩ ?_;exact⟨F,.sl none 0 (.k 0),.sl none 0 (.k 0),.sl none 0 (.k 0),.sl none 0 (.k 0),rfl,(iq.nil _),(iq.nil _),(iq.nil _),(iq.nil _),aD.pick [] (by decide)⟩
 ·obtain⟨f,b0,H⟩:=iy H;refine ax ?_;refine lm (Tg a9.iH aj ak am ar b0) ?_;rintro v9 w9 ⟨bD,bb,X,a,d,rfl,aO⟩;have bS:=a9.call aO;have ct:=aO.ext;refine al ?_;intro j w8 bR;refine sb 0 ([.i .i64 f.seq,bb,X,a,d]) ?_;intro c6 bI;refine ax ?_;refine sc 0 ([.i .i64 0,bb,X,a,d]) ?_;intro c7 a4;obtain⟨l,bv,H⟩:=iy H;refine ax ?_;refine lm (ahD (a4.zl 1 rfl) bv) ?_;rintro e c8 ⟨bC,_,rfl,aJ⟩;have bJ:=a4.yM 1 [0,2,3,4,5,6] rfl (by decide) (by decide) aJ;have cq:=aJ.ext;refine au ?_;refine sc 1 ([.i .i64 0,e,X,a,d]) ?_;intro c9 a5;obtain⟨b6,bw,H⟩:=iy H;refine ax ?_;refine lm (ahC (a5.zl 2 rfl) bw) ?_;rintro g cA ⟨ah,_,rfl,aK⟩;have bK:=a5.yM 2 [0,1,3,4,5,6] rfl (by decide) (by decide) aK;have cr:=aK.ext;refine au ?_;refine sc 2 ([.i .i64 0,e,g,a,d]) ?_;intro cC x;refine qn ?_;refine iL (λE wq=>∃m:List Chunk,oC.k1 f l m=some r ∧ ∃(q:gL),E=[(2,pl h 0),(3,pl j 0)]∧ah.le q∧iW x [.row Chunk.t g m,.row ie.t e l,.box j [.i .i64 0,e,g,a,d],.row iu.t a f.im,.row iz.t d f.iv,.box h [.i .i64 0,.sl none 0 (.k 0),.sl none 0 (.k 0),.sl none 0 (.k 0),.sl none 0 (.k 0)]] q wq) ?_ ?_
  ·refine aq ?_;refine qr (jV kT rfl (x.kH (k:=0) rfl)) ?_;refine ax ?_;refine jH (λ(s:Int×(List Chunk)) E wq=>∃(O:gL),E=[(2,pl h 0),(3,pl j 0),(26,.i .i64 (b6.length:Int)),(27,.i .i64 s.1)]∧ah.le O∧iW x [.row Chunk.t g s.2,.row ie.t e l,.box j [.i .i64 0,e,g,a,d],.row iu.t a f.im,.row iz.t d f.iv,.box h [.i .i64 0,.sl none 0 (.k 0),.sl none 0 (.k 0),.sl none 0 (.k 0),.sl none 0 (.k 0)]] O wq) H ?_ ?_
   ·exact lo (jj (pk [0,1,2,3,4,5] x))
   ·rintro cy ⟨aU,b5⟩ E cR hI H
    try dsimp only at hI
    obtain⟨O,rfl,cp,p⟩:=hI;refine ay ?_;refine qy H (λbq H=>?_) (λbq H=>?_)
    ·refine ay ?_;obtain⟨G,aR,I,aT,H⟩:=iG H;have A:=p.mC 2 rfl;refine rh 2 A p ?_;refine au ?_;refine hl 2 A p ?_;obtain⟨_,⟨cz,c1,rfl,bV,ca,cb⟩,_⟩:=mw 35 0 p aR;refine au ?_;refine qu (pT (c:=[.b false]) 0 (aU.toNat) 32 G (Chunk.mk G.id false G.data G.locs) rfl rfl p rfl (iD aR).2 (by first|rfl|(show _=_*35+_;omega)) rfl Ty.L9 rfl (kY rfl) (by rintro cs ⟨a2,a3,rfl,Q,b2,P⟩;exact⟨a2,a3,rfl,Q,b2,P⟩)) ?_;rintro _ cT R;refine qh 2 A R ?_;obtain⟨_,⟨c2,c3,rfl,bW,cc,cd⟩,_⟩:=mw 35 0 R aT;refine au ?_;refine qu (pT (c:=[.sl none 0 (.k 0)]) 0 (aU.toNat) 33 I (Chunk.mk I.id I.jD [] I.locs) rfl rfl R rfl (iD aT).2 (by first|rfl|(show _=_*35+_;omega)) rfl Ty.Ew rfl (kY rfl) (by rintro cs ⟨a2,a3,rfl,Q,b2,P⟩;exact⟨.sl none 0 (.k 0),a3,rfl,Q,(iq.nil _),P⟩)) ?_;rintro _ cU aH;refine qh 2 A aH ?_;refine ax ?_;exact nm H (jj aH)
    ·refine jf _ rfl ?_;exact nj ⟨b5,H,jj p⟩
  ·rintro E cD ⟨m,H,q,rfl,cg,y⟩;refine iL (λE wq=>∃S:Int,oC.k2 f l m S=some r ∧ ∃(u:gL),E=[(2,pl h 0),(3,pl j 0)]∧q.le u∧iW y [.row Chunk.t g m,.row ie.t e l,.box j [.i .i64 S,e,g,a,d],.row iu.t a f.im,.row iz.t d f.iv,.box h [.i .i64 0,.sl none 0 (.k 0),.sl none 0 (.k 0),.sl none 0 (.k 0),.sl none 0 (.k 0)]] u wq) ?_ ?_
   ·refine aq ?_;refine qr (jV kR rfl (y.kH (k:=1) rfl)) ?_;refine ax ?_;refine jH (λ(s:Int×Int) E wq=>∃(M:gL),E=[(2,pl h 0),(3,pl j 0),(42,e),(43,.i .i64 (l.length:Int)),(44,.i .i64 s.1)]∧q.le M∧iW y [.row Chunk.t g m,.row ie.t e l,.box j [.i .i64 s.2,e,g,a,d],.row iu.t a f.im,.row iz.t d f.iv,.box h [.i .i64 0,.sl none 0 (.k 0),.sl none 0 (.k 0),.sl none 0 (.k 0),.sl none 0 (.k 0)]] M wq) H ?_ ?_
    ·exact lo (jj y)
    ·rintro cx ⟨cf,V⟩ E cN hI H
     try dsimp only at hI
     obtain⟨M,rfl,co,aC⟩:=hI;refine ay ?_;refine qy H (λbo H=>?_) (λbo H=>?_)
     ·obtain⟨D,b4,H⟩:=iy H;obtain⟨_,⟨b8,b9,rfl,bY,bZ⟩,bU⟩:=mw 4 1 aC b4;refine ay ?_;refine al ?_;intro bG cO bP;refine sb 0 ([.i .i64 D.seq,.s D.iw.name,b8,b9]) ?_;intro cP bQ;refine ax ?_;refine sc 3 ([.i .i64 (if V<wr (D.seq+1)then wr (D.seq+1)else V),e,g,a,d]) ?_;intro cQ bm;refine ax ?_;exact nm H (jj (pk [1,2,3,4,5,6] bm))
     ·refine jf _ rfl ?_;exact nj ⟨V,H,jj aC⟩
   ·rintro E cF ⟨S,H,u,rfl,ch,z⟩;refine iL (λE wq=>∃n:Int,oC.k3 f l m n=some r ∧ ∃(J:gL),E=[(2,pl h 0),(3,pl j 0)]∧u.le J∧iW z [.row Chunk.t g m,.row ie.t e l,.box j [.i .i64 n,e,g,a,d],.row iu.t a f.im,.row iz.t d f.iv,.box h [.i .i64 0,.sl none 0 (.k 0),.sl none 0 (.k 0),.sl none 0 (.k 0),.sl none 0 (.k 0)]] J wq) ?_ ?_
    ·refine aq ?_;refine qr (jV mg rfl (z.kH (k:=3) rfl)) ?_;refine ax ?_;refine jH (λ(s:Int×Int) E wq=>∃(L:gL),E=[(2,pl h 0),(3,pl j 0),(57,a),(58,.i .i64 (f.im.length:Int)),(59,.i .i64 s.1)]∧u.le L∧iW z [.row Chunk.t g m,.row ie.t e l,.box j [.i .i64 s.2,e,g,a,d],.row iu.t a f.im,.row iz.t d f.iv,.box h [.i .i64 0,.sl none 0 (.k 0),.sl none 0 (.k 0),.sl none 0 (.k 0),.sl none 0 (.k 0)]] L wq) H ?_ ?_
     ·exact lo (jj z)
     ·rintro cw ⟨ce,U⟩ E cI hI H
      try dsimp only at hI
      obtain⟨L,rfl,cn,a8⟩:=hI;refine ay ?_;refine qy H (λbn H=>?_) (λbn H=>?_)
      ·obtain⟨B,b1,H⟩:=iy H;obtain⟨_,⟨b7,rfl,bX⟩,bT⟩:=mw 3 3 a8 b1;refine ay ?_;refine al ?_;intro bF cJ bN;refine sb 0 ([.i .i64 B.seq,.i .i64 B.of,b7]) ?_;intro cK bO;refine ax ?_;refine sc 3 ([.i .i64 (if U<wr (B.seq+1)then wr (B.seq+1)else U),e,g,a,d]) ?_;intro cM bk;refine ax ?_;exact nm H (jj (pk [1,2,3,4,5,6] bk))
      ·refine jf _ rfl ?_;exact nj ⟨U,H,jj a8⟩
    ·rintro E cG ⟨n,H,J,rfl,ci,bM⟩;refine aq ?_;refine sb 5 ([.i .i64 n,e,g,a,d]) ?_;intro cH bf;refine qn ?_;obtain⟨bA,cj,br,bg⟩:=bf.kh 1 [0,2,3,4,5] rfl (by decide) (by decide);obtain⟨bB,ck,bs,bh⟩:=bg.kh 0 [1,2,3,4] rfl (by decide) (by decide);obtain⟨bc,cl,bt,bi⟩:=bh.kh 1 [0,2,3] rfl (by decide) (by decide);have bj:St [] w F bc [.box j [.i .i64 n,e,g,a,d],.row iz.t d f.iv,.box h [.i .i64 n,e,g,a,d]] _:=bi;obtain⟨be,cm,bu,a7⟩:=bj.kh 1 [0,2] rfl (by decide) (by decide);obtain rfl:=oi H;refine oH (vs:=[.agg (ig.cells (ig.mk n l m f.im f.iv) e g a d)]) rfl ⟨(oJ 1 Ty.rb Ty.rv a7 rfl rfl),trivial⟩ ?_;exact⟨be,e,g,a,d,rfl,(mo br),(mo bs),(mo bt),bu,a7.pick [] (by decide)⟩
def xS.k1:Option Bool :=
  some true
def xS.l2(x0:List UInt8)(x1:List UInt8)(b:Int→Option Bool):Int→Option Bool
  | a =>
    if decide (a<(x0.length:Int))then
      bd (ix x0 a) λx7 =>
      bd (ix x1 a) λx9 =>
      if decide ((x7.toNat:Int)≠(x9.toNat:Int))then
        some false
      else
        b (wr (a+1))
    else
      xS.k1
def xS(x0:List UInt8)(x1:List UInt8):Option Bool :=
  if decide ((x0.length:Int)≠(x1.length:Int))then
    some false
  else
    loop (xS.l2 x0 x1) 0
theorem Zw{x0:List UInt8}{x1:List UInt8}{r:Bool}{c:gE}{d:gE}(hA:Gd F w)(f:iq tB F c x0)(g:iq tB F d x1)(H:xS x0 x1=some r):iN il K 58 [c,d] w λv w'=>∃(F':gL),v = .b r∧St [] w F F' [] w':=by
 refine kB Tryz.func58 ?_;have hS:=St.start hA;refine ay ?_;refine qy H (λj H=>?_) (λj H=>?_)
 ·exact rz H hS
 ·refine qk ?_;refine iL (jN (xS.k1=some r) [] hS) ?_ ?_
  ·refine ax ?_;refine lj hS (λs:Int=>[(0,c),(1,d),(5,.i .i64 s)]) H ?_;intro y u q A e a H;refine ay ?_;refine qy H (λl H=>?_) (λl H=>?_)
   ·refine ay ?_;obtain⟨x7,m,x9,n,H⟩:=iG H;refine rn ?_;obtain⟨_,rfl,_⟩:=js 1 (f.mono e) m;obtain⟨_,rfl,_⟩:=js 1 (g.mono e) n;refine au ?_;refine qy H (λk H=>?_) (λk H=>?_)
    ·exact rz H a
    ·refine ax ?_;exact nm H (jj a)
   ·refine jf _ rfl ?_;exact nj ⟨H,jj a⟩
  ·rintro E z ⟨H,p,rfl,x,h⟩;exact rz H h
def Ki(x0:Loc)(x1:Loc):Option Bool :=
  some (((decide (x0.iQ=x1.iQ)&&decide (x0.file=x1.file))&&decide (x0.off=x1.off))&&decide (x0.len=x1.len))
theorem ZA{x0:Loc}{x1:Loc}{r:Bool}(hA:Gd F w)(H:Ki x0 x1=some r):iN il K 18 [.agg (Loc.cells x0),.agg (Loc.cells x1)] w λv w'=>∃(F':gL),v = .b r∧St [] w F F' [] w':=by
 refine kB Tryz.func18 ?_;have hS:=St.start hA;refine qs ?_;refine bx ([.i .i64 x0.iQ,.i .i64 x0.file,.i .i64 x0.off,.i .i64 x0.len]) ?_;intro c f e;refine bx ([.i .i64 x1.iQ,.i .i64 x1.file,.i .i64 x1.off,.i .i64 x1.len]) ?_;intro d g a;refine az ?_;exact rz H a
def vW.k1:Option Bool :=
  some true
def vW.l2(x0:List Loc)(x1:List Loc)(c:Int→Option Bool):Int→Option Bool
  | a =>
    if decide (a<(x0.length:Int))then
      bd (ix x0 a) λx7 =>
      bd (ix x1 a) λx9 =>
      bd (Ki x7 x9) λb =>
      if(!b)then
        some false
      else
        c (wr (a+1))
    else
      vW.k1
def vW(x0:List Loc)(x1:List Loc):Option Bool :=
  if decide ((x0.length:Int)≠(x1.length:Int))then
    some false
  else
    loop (vW.l2 x0 x1) 0
theorem NL{x0:List Loc}{x1:List Loc}{r:Bool}{c:gE}{d:gE}(hA:Gd F w)(g:iq Loc.t F c x0)(h:iq Loc.t F d x1)(H:vW x0 x1=some r):iN il K 55 [c,d] w λv w'=>∃(F':gL),v = .b r∧St [] w F F' [] w':=by
 refine kB Tryz.func55 ?_;have hS:=St.start hA;refine ay ?_;refine qy H (λk H=>?_) (λk H=>?_)
 ·exact rz H hS
 ·refine qk ?_;refine iL (jN (vW.k1=some r) [] hS) ?_ ?_
  ·refine ax ?_;refine lj hS (λs:Int=>[(0,c),(1,d),(5,.i .i64 s)]) H ?_;intro G A x L f a H;refine ay ?_;refine qy H (λm H=>?_) (λm H=>?_)
   ·refine ay ?_;obtain⟨x7,p,x9,q,H⟩:=iG H;obtain⟨D,n,H⟩:=iy H;refine rf a ?_;obtain⟨_,rfl,y⟩:=js 4 (g.mono f) p;obtain⟨_,rfl,z⟩:=js 4 (h.mono f) q;refine au ?_;refine lq (ZA a.iH n) a ?_;intro I e;refine au ?_;refine qy H (λl H=>?_) (λl H=>?_)
    ·exact rz H e
    ·refine ax ?_;exact nm H (jj e)
   ·refine jf _ rfl ?_;exact nj ⟨H,jj a⟩
  ·rintro E J ⟨H,u,rfl,B,j⟩;exact rz H j
def Kh(x0:Chunk)(x1:Chunk):Option Bool :=
  bd (only (decide (x0.id=x1.id)&&(x0.jD==x1.jD)) (xS x0.data x1.data) false) λa =>
  bd (only ((decide (x0.id=x1.id)&&(x0.jD==x1.jD))&&a) (vW x0.locs x1.locs) false) λb =>
  some (((decide (x0.id=x1.id)&&(x0.jD==x1.jD))&&a)&&b)
theorem Zx{x0:Chunk}{x1:Chunk}{r:Bool}{c:gE}{d:gE}{e:gE}{f:gE}(hA:Gd F w)(h:iq tB F c x0.data)(i:iq Loc.t F d x0.locs)(q:(x0.id).length=32)(j:iq tB F e x1.data)(k:iq Loc.t F f x1.locs)(s:(x1.id).length=32)(H:Kh x0 x1=some r):iN il K 111 [.agg (Chunk.cells x0 c d),.agg (Chunk.cells x1 e f)] w λv w'=>∃(F':gL),v = .b r∧St [] w F F' [] w':=by
 refine kB Tryz.func111 ?_;have hS:=St.start hA;refine qs ?_;refine bx (iJ x0.id++([.b x0.jD,c,d]:List gE)) ?_;intro u D z;refine bx (iJ x1.id++([.b x1.jD,e,f]:List gE)) ?_;intro x I a;obtain⟨A,n,B,p,H⟩:=iG H;refine ax ?_;refine bl a 1 (iJ x0.id) [.b x0.jD,c,d] ?_;refine au ?_;refine bl a 0 (iJ x1.id) [.b x1.jD,e,f] ?_;refine qr (iB rfl rfl (z7 Ty.Ag rfl rfl (Af q s))) ?_;refine aw ?_;refine nO (v:=.b (x0.jD==x1.jD)) rfl rfl rfl rfl (λ⟨m,_⟩=>?_) ?_
 ·rw[m];exact(qr (iB rfl rfl (SS Tryz.underlying4)) ·)
 refine aw ?_;refine gw a n (λy=>Zw a.iH h j y) ?_;intro G g;refine jG.now ?_;refine aw ?_;refine gw g p (λy=>NL g.iH i k y) ?_;intro J l;refine jG.now ?_;refine aw ?_;exact rz H l
def xT.k1:Option Bool :=
  some true
def xT.l2(x0:List Chunk)(x1:List Chunk)(c:Int→Option Bool):Int→Option Bool
  | a =>
    if decide (a<(x0.length:Int))then
      bd (ix x0 a) λx7 =>
      bd (ix x1 a) λx9 =>
      bd (Kh x7 x9) λb =>
      if(!b)then
        some false
      else
        c (wr (a+1))
    else
      xT.k1
def xT(x0:List Chunk)(x1:List Chunk):Option Bool :=
  if decide ((x0.length:Int)≠(x1.length:Int))then
    some false
  else
    loop (xT.l2 x0 x1) 0
theorem Zy{x0:List Chunk}{x1:List Chunk}{r:Bool}{c:gE}{d:gE}(hA:Gd F w)(g:iq Chunk.t F c x0)(h:iq Chunk.t F d x1)(H:xT x0 x1=some r):iN il K 53 [c,d] w λv w'=>∃(F':gL),v = .b r∧St [] w F F' [] w':=by
 refine kB Tryz.func53 ?_;have hS:=St.start hA;refine ay ?_;refine qy H (λk H=>?_) (λk H=>?_)
 ·exact rz H hS
 ·refine qk ?_;refine iL (jN (xT.k1=some r) [] hS) ?_ ?_
  ·refine ax ?_;refine lj hS (λs:Int=>[(0,c),(1,d),(5,.i .i64 s)]) H ?_;intro P L G Y f a H;refine ay ?_;refine qy H (λm H=>?_) (λm H=>?_)
   ·refine ay ?_;obtain⟨x7,A,x9,B,H⟩:=iG H;obtain⟨O,q,H⟩:=iy H;refine rf a ?_;obtain⟨_,⟨S,U,rfl,p,y,z⟩,I⟩:=js 35 (g.mono f) A;obtain⟨_,⟨Q,R,rfl,n,u,x⟩,J⟩:=js 35 (h.mono f) B;refine au ?_;refine lq (Zx a.iH y z p u x n q) a ?_;intro V e;refine au ?_;refine qy H (λl H=>?_) (λl H=>?_)
    ·exact rz H e
    ·refine ax ?_;exact nm H (jj e)
   ·refine jf _ rfl ?_;exact nj ⟨H,jj a⟩
  ·rintro E X ⟨H,D,rfl,M,j⟩;exact rz H j
def xX.k1:Option Bool :=
  some true
def xX.l2(x0:List iz)(x1:List iz)(b:Int→Option Bool):Int→Option Bool
  | a =>
    if decide (a<(x0.length:Int))then
      bd (ix x0 a) λx7 =>
      bd (ix x1 a) λx9 =>
      if(((decide (x7.rq≠x9.rq)||decide (x7.rM≠x9.rM))||decide (x7.state≠x9.state))||decide (x7.files≠x9.files))then
        some false
      else
        b (wr (a+1))
    else
      xX.k1
def xX(x0:List iz)(x1:List iz):Option Bool :=
  if decide ((x0.length:Int)≠(x1.length:Int))then
    some false
  else
    loop (xX.l2 x0 x1) 0
theorem ZF{x0:List iz}{x1:List iz}{r:Bool}{a:gE}{c:gE}(hA:Gd F w)(g:iq iz.t F a x0)(h:iq iz.t F c x1)(H:xX x0 x1=some r):iN il K 15 [a,c] w λv w'=>∃(F':gL),v = .b r∧St [] w F F' [] w':=by
 refine kB Tryz.func15 ?_;have hS:=St.start hA;refine ay ?_;refine qy H (λk H=>?_) (λk H=>?_)
 ·exact rz H hS
 ·refine qk ?_;refine iL (jN (xX.k1=some r) [] hS) ?_ ?_
  ·refine ax ?_;refine lj hS (λs:Int=>[(0,a),(1,c),(5,.i .i64 s)]) H ?_;intro L I u S f e H;refine ay ?_;refine qy H (λm H=>?_) (λm H=>?_)
   ·refine ay ?_;obtain⟨x7,n,x9,p,H⟩:=iG H;refine rf e ?_;obtain⟨_,rfl,D⟩:=js 4 (g.mono f) n;obtain⟨_,rfl,G⟩:=js 4 (h.mono f) p;refine au ?_;refine aM ?_;intro x M z;refine aM ?_;intro y O A;refine sB 1 ([.i .i64 x7.rq,.i .i64 x7.rM,.i .i64 x7.state,.i .i64 x7.files]) ?_;intro P B;refine sB 0 ([.i .i64 x9.rq,.i .i64 x9.rM,.i .i64 x9.state,.i .i64 x9.files]) ?_;intro Q d;refine az ?_;refine qy H (λl H=>?_) (λl H=>?_)
    ·exact rz H d
    ·refine ax ?_;exact nm H (jj (pk [] d))
   ·refine jf _ rfl ?_;exact nj ⟨H,jj e⟩
  ·rintro E R ⟨H,q,rfl,J,j⟩;exact rz H j
def xU.k1:Option Bool :=
  some true
def xU.l2(x0:List (List UInt8))(x1:List (List UInt8))(b:Int→Option Bool):Int→Option Bool
  | a =>
    if decide (a<(x0.length:Int))then
      bd (ix x0 a) λx7 =>
      bd (ix x1 a) λx9 =>
      if(!decide (x7=x9))then
        some false
      else
        b (wr (a+1))
    else
      xU.k1
def xU(x0:List (List UInt8))(x1:List (List UInt8)):Option Bool :=
  if decide ((x0.length:Int)≠(x1.length:Int))then
    some false
  else
    loop (xU.l2 x0 x1) 0
theorem Zz{x0:List (List UInt8)}{x1:List (List UInt8)}{r:Bool}{c:gE}{d:gE}(hA:Gd F w)(f:iq lV F c x0)(g:iq lV F d x1)(H:xU x0 x1=some r):iN il K 154 [c,d] w λv w'=>∃(F':gL),v = .b r∧St [] w F F' [] w':=by
 refine kB Tryz.func154 ?_;have hS:=St.start hA;refine ay ?_;refine qy H (λj H=>?_) (λj H=>?_)
 ·exact rz H hS
 ·refine qk ?_;refine iL (jN (xU.k1=some r) [] hS) ?_ ?_
  ·refine ax ?_;refine lj hS (λs:Int=>[(0,c),(1,d),(5,.i .i64 s)]) H ?_;intro D A x I e a H;refine ay ?_;refine qy H (λl H=>?_) (λl H=>?_)
   ·refine ay ?_;obtain⟨x7,p,x9,q,H⟩:=iG H;refine rn ?_;obtain⟨_,⟨rfl,n⟩,y⟩:=js 32 (f.mono e) p;obtain⟨_,⟨rfl,m⟩,z⟩:=js 32 (g.mono e) q;refine au ?_;refine qr (iB rfl rfl (Ns Ty.Ag rfl rfl (Af n m))) ?_;refine qn ?_;refine qy H (λk H=>?_) (λk H=>?_)
    ·exact rz H a
    ·refine ax ?_;exact nm H (jj a)
   ·refine jf _ rfl ?_;exact nj ⟨H,jj a⟩
  ·rintro E G ⟨H,u,rfl,B,h⟩;exact rz H h
def xV.k1:Option Bool :=
  some true
def xV.l2(x0:iF)(x1:iF)(e:Int→Option Bool):Int→Option Bool
  | c =>
    if decide (c<(x0.parts.length:Int))then
      bd (ix x0.parts c) λa =>
      bd (ix x1.parts c) λb =>
      bd (only (!((!(a.path==b.path))||decide (a.size≠b.size))) (xU a.ids b.ids) false) λd =>
      if(((!(a.path==b.path))||decide (a.size≠b.size))||(!d))then
        some false
      else
        e (wr (c+1))
    else
      xV.k1
def xV(x0:iF)(x1:iF):Option Bool :=
  if((!(x0.name==x1.name))||decide ((x0.parts.length:Int)≠(x1.parts.length:Int)))then
    some false
  else
    loop (xV.l2 x0 x1) 0
theorem ZB{x0:iF}{x1:iF}{r:Bool}{j:gE}{l:gE}(hA:Gd F w)(I:iq Part.t F j x0.parts)(J:iq Part.t F l x1.parts)(H:xV x0 x1=some r):iN il K 112 [.agg (iF.cells x0 j),.agg (iF.cells x1 l)] w λv w'=>∃(F':gL),v = .b r∧St [] w F F' [] w':=by
 refine kB Tryz.func112 ?_;have hS:=St.start hA;refine qs ?_;refine bx ([.s x0.name,j]) ?_;intro D w1 Z;refine bx ([.s x1.name,l]) ?_;intro G w2 g;refine aZ ?_;refine qy H (λM H=>?_) (λM H=>?_)
 ·exact rz H g
 ·refine qk ?_;refine iL (jO (xV.k1=some r) [] g []) ?_ ?_
  ·refine ax ?_;refine lj g (λs:Int=>[(2,pl D 0),(3,pl G 0),(5,.i .i64 s)]) H ?_;intro ak ah V a4 z d H;refine ay ?_;refine qy H (λO H=>?_) (λO H=>?_)
   ·refine ay ?_;obtain⟨e,R,f,S,H⟩:=iG H;have a:=d.mC 0 rfl;refine rh 0 a d ?_;obtain⟨_,⟨A,rfl,u⟩,ad⟩:=js 3 (I.mono z) R;refine au ?_;refine hl 0 a d ?_;obtain⟨_,⟨B,rfl,x⟩,ae⟩:=js 3 (J.mono z) S;refine au ?_;refine qx (o9 (cs:=[.s [],.i .i64 0,.sl none 0 (.k 0)]) Ty.Q4 rfl d) ?_;rintro _ a6 ⟨X,rfl,m⟩;refine qh 1 a m ?_;refine qx (o9 (cs:=[.s [],.i .i64 0,.sl none 0 (.k 0)]) Ty.Q4 rfl m) ?_;rintro _ a7 ⟨Y,rfl,n⟩;refine qh 2 a n ?_;refine qu (va (c:=[.s e.path,.i .i64 e.size,A]) 1 ([.s e.path,.i .i64 e.size,A]) rfl rfl n rfl rfl Ty.QB (by simp only[nJ,oG,lz,u.ln.one];rfl) rfl rfl) ?_;rintro _ a8 p;refine qh 2 a p ?_;refine qu (va (c:=[.s f.path,.i .i64 f.size,B]) 0 ([.s f.path,.i .i64 f.size,B]) rfl rfl p rfl rfl Ty.QB (by simp only[nJ,oG,lz,x.ln.one];rfl) rfl rfl) ?_;rintro _ a9 h;refine qh 2 a h ?_;obtain⟨aj,Q,H⟩:=iy H;refine az ?_;refine gw h Q (λy=>Zz h.iH u x y) ?_;intro aC q;refine jG.now ?_;refine aw ?_;refine qy H (λP H=>?_) (λP H=>?_)
    ·exact rz H q
    ·refine ax ?_;exact nm H (jj (pk [2,3] q))
   ·refine jf _ rfl ?_;exact nj ⟨H,jj (pk [] d)⟩
  ·rintro E ar ⟨H,U,rfl,ai,L⟩;exact rz H L
def Kj(x0:ie)(x1:ie):Option Bool :=
  bd (only (decide (x0.seq=x1.seq)) (xV x0.iw x1.iw) false) λa =>
  bd (only (decide (x0.seq=x1.seq)&&a) (vW x0.locs x1.locs) false) λb =>
  some ((decide (x0.seq=x1.seq)&&a)&&b)
theorem ZC{x0:ie}{x1:ie}{r:Bool}{a:gE}{e:gE}{c:gE}{f:gE}(hA:Gd F w)(j:iq Part.t F a x0.iw.parts)(k:iq Loc.t F e x0.locs)(l:iq Part.t F c x1.iw.parts)(m:iq Loc.t F f x1.locs)(H:Kj x0 x1=some r):iN il K 54 [.agg (ie.cells x0 a e),.agg (ie.cells x1 c f)] w λv w'=>∃(F':gL),v = .b r∧St [] w F F' [] w':=by
 refine kB Tryz.func54 ?_;have hS:=St.start hA;refine qs ?_;refine bx ([.i .i64 x0.seq,.s x0.iw.name,a,e]) ?_;intro B L G;refine bx ([.i .i64 x1.seq,.s x1.iw.name,c,f]) ?_;intro D O d;obtain⟨I,z,J,A,H⟩:=iG H;refine az ?_;refine nO (v:=.agg (iF.cells x0.iw a)) rfl rfl rfl rfl (λ⟨p,_⟩=>?_) ?_
 ·rw[p];exact(qr (rC 1 (iF.cells x0.iw a) Ty.tK Ty.tz (oQ _) rfl d rfl (λq u h=>o5 (post:=[e]) rfl h)) ·)
 refine aw ?_;refine nO (v:=.agg (iF.cells x1.iw c)) rfl rfl rfl rfl (λ⟨x,_⟩=>?_) ?_
 ·rw[x];exact(qr (rC 0 (iF.cells x1.iw c) Ty.tK Ty.tz (oQ _) rfl d rfl (λq u h=>o5 (post:=[f]) rfl h)) ·)
 refine gw d z (λy=>ZB d.iH j l y) ?_;intro M g;refine jG.now ?_;refine aw ?_;refine gw g A (λy=>NL g.iH k m y) ?_;intro P n;refine jG.now ?_;refine aw ?_;exact rz H n
def si.k2:Option Bool :=
  some true
def si.l3(x0:ig)(x1:ig)(e:Int→Option Bool):Int→Option Bool
  | c =>
    if decide (c<(x0.im.length:Int))then
      bd (ix x0.im c) λa =>
      bd (ix x1.im c) λb =>
      bd (only (!(decide (a.seq≠b.seq)||decide (a.of≠b.of))) (vW a.locs b.locs) false) λd =>
      if((decide (a.seq≠b.seq)||decide (a.of≠b.of))||(!d))then
        some false
      else
        e (wr (c+1))
    else
      si.k2
def si.k1(x0:ig)(x1:ig):Option Bool :=
  loop (si.l3 x0 x1) 0
def si.l4(x0:ig)(x1:ig)(c:Int→Option Bool):Int→Option Bool
  | a =>
    if decide (a<(x0.ik.length:Int))then
      bd (ix x0.ik a) λd =>
      bd (ix x1.ik a) λe =>
      bd (Kj d e) λb =>
      if(!b)then
        some false
      else
        c (wr (a+1))
    else
      si.k1 x0 x1
def si(x0:ig)(x1:ig):Option Bool :=
  bd (only (!(decide ((x0.ik.length:Int)≠(x1.ik.length:Int))||decide ((x0.im.length:Int)≠(x1.im.length:Int)))) (xT x0.chunks x1.chunks) false) λa =>
  bd (only (!((decide ((x0.ik.length:Int)≠(x1.ik.length:Int))||decide ((x0.im.length:Int)≠(x1.im.length:Int)))||(!a))) (xX x0.iv x1.iv) false) λb =>
  if(((decide ((x0.ik.length:Int)≠(x1.ik.length:Int))||decide ((x0.im.length:Int)≠(x1.im.length:Int)))||(!a))||(!b))then
    some false
  else
    loop (si.l4 x0 x1) 0
set_option maxHeartbeats 2000000 in
theorem NK{x0:ig}{x1:ig}{r:Bool}{n:gE}{p:gE}{q:gE}{u:gE}{x:gE}{z:gE}{A:gE}{B:gE}(hA:Gd F w)(Z:iq ie.t F n x0.ik)(ad:iq Chunk.t F p x0.chunks)(ae:iq iu.t F q x0.im)(ah:iq iz.t F u x0.iv)(ai:iq ie.t F x x1.ik)(aj:iq Chunk.t F z x1.chunks)(ak:iq iu.t F A x1.im)(am:iq iz.t F B x1.iv)(H:si x0 x1=some r):iN il K 14 [.agg (ig.cells x0 n p q u),.agg (ig.cells x1 x z A B)] w λv w'=>∃(F':gL),v = .b r∧St [] w F F' [] w':=by
 refine kB Tryz.func14 ?_;have hS:=St.start hA;refine qs ?_;refine bx ([.i .i64 x0.seq,n,p,q,u]) ?_;intro h w1 bg;refine bx ([.i .i64 x1.seq,x,z,A,B]) ?_;intro j w2 D;obtain⟨r3,a9,r4,aC,H⟩:=iG H;refine aZ ?_;refine gw D a9 (λy=>Zy D.iH ad aj y) ?_;intro b3 G;refine jG.now ?_;refine aw ?_;refine gw G aC (λy=>ZF G.iH ah am y) ?_;intro b4 l;refine jG.now ?_;refine aw ?_;refine qy H (λa4 H=>?_) (λa4 H=>?_)
 ·exact rz H l
 ·refine qk ?_;refine iL (jN (si.k1 x0 x1=some r) [(2,pl h 0),(3,pl j 0)] l) ?_ ?_
  ·refine ax ?_;refine lj l (λs:Int=>[(2,pl h 0),(3,pl j 0),(5,.i .i64 s)]) H ?_;intro bu bn bc bD V e H;refine ay ?_;refine qy H (λa7 H=>?_) (λa7 H=>?_)
   ·refine ay ?_;obtain⟨bF,aV,bG,aX,H⟩:=iG H;obtain⟨bs,aH,H⟩:=iy H;refine rf e ?_;obtain⟨_,⟨bv,bw,rfl,aJ,aK⟩,bj⟩:=js 4 (Z.mono V) aV;obtain⟨_,⟨bz,b0,rfl,aO,aR⟩,bk⟩:=js 4 (ai.mono V) aX;refine au ?_;refine lq (ZC e.iH aJ aK aO aR aH) e ?_;intro bE P;refine au ?_;refine qy H (λa8 H=>?_) (λa8 H=>?_)
    ·exact rz H P
    ·refine ax ?_;exact nm H (jj P)
   ·refine jf _ rfl ?_;exact nj ⟨H,jj e⟩
  ·rintro E b5 ⟨H,aY,rfl,S,I⟩;refine iL (jO (si.k2=some r) [] I []) ?_ ?_
   ·refine ax ?_;refine lj I (λs:Int=>[(2,pl h 0),(3,pl j 0),(6,.i .i64 s)]) H ?_;intro bt bm bb b7 U d H;refine ay ?_;refine qy H (λa5 H=>?_) (λa5 H=>?_)
    ·refine ay ?_;obtain⟨f,aT,g,aU,H⟩:=iG H;have a:=d.mC 0 rfl;refine rh 0 a d ?_;obtain⟨_,⟨X,rfl,Q⟩,bh⟩:=js 3 (ae.mono (S.trans U)) aT;refine au ?_;refine hl 0 a d ?_;obtain⟨_,⟨Y,rfl,R⟩,bi⟩:=js 3 (ak.mono (S.trans U)) aU;refine au ?_;refine qx (o9 (cs:=[.i .i64 0,.i .i64 0,.sl none 0 (.k 0)]) Ty.Q7 rfl d) ?_;rintro _ b8 ⟨be,rfl,J⟩;refine qh 1 a J ?_;refine qx (o9 (cs:=[.i .i64 0,.i .i64 0,.sl none 0 (.k 0)]) Ty.Q7 rfl J) ?_;rintro _ b9 ⟨bf,rfl,L⟩;refine qh 2 a L ?_;refine qu (va (c:=[.i .i64 f.seq,.i .i64 f.of,X]) 1 ([.i .i64 f.seq,.i .i64 f.of,X]) rfl rfl L rfl rfl Ty.pP (by simp only[nJ,oG,lz,Q.ln.one];rfl) rfl rfl) ?_;rintro _ bA M;refine qh 2 a M ?_;refine qu (va (c:=[.i .i64 g.seq,.i .i64 g.of,Y]) 0 ([.i .i64 g.seq,.i .i64 g.of,Y]) rfl rfl M rfl rfl Ty.pP (by simp only[nJ,oG,lz,R.ln.one];rfl) rfl rfl) ?_;rintro _ bB m;refine qh 2 a m ?_;obtain⟨br,aD,H⟩:=iy H;refine az ?_;refine gw m aD (λy=>NL m.iH Q R y) ?_;intro bC O;refine jG.now ?_;refine aw ?_;refine qy H (λa6 H=>?_) (λa6 H=>?_)
     ·exact rz H O
     ·refine ax ?_;exact nm H (jj (pk [2,3] O))
    ·refine jf _ rfl ?_;exact nj ⟨H,jj (pk [] d)⟩
   ·rintro E b6 ⟨H,ba,rfl,bo,ar⟩;exact rz H ar
end
end Go.Wk.Lf
end
section
namespace Go.Wk.Lf
open Go.V Go.Proofs
open Go.V Go.Proofs Go.Sort
abbrev KK:Tb:=λf args h M=>Fh il Na 96 4 f args h M∨Fh il (sN il) 168 32 f args h M∨sN il f args h M∨xI il f args h M∨Cg il (xI il) 83 f args h M∨Cg il (xI il) 88 f args h M∨Cg il (xI il) 92 f args h M
instance : Kn (sN il) KK := ⟨λ_ _ _ _ h => .inr (.inr (.inl h))⟩
theorem Pu:∀f args h M,xI il f args h M→KK f args h M:=λ_ _ _ _ h=>.inr (.inr (.inr (.inl h)))
theorem adR:∀args h M,Cg il (xI il) 83 83 args h M→KK 83 args h M:=λ_ _ _ h=>.inr (.inr (.inr (.inr (.inl h))))
theorem adT:∀args h M,Cg il (xI il) 88 88 args h M→KK 88 args h M:=λ_ _ _ h=>.inr (.inr (.inr (.inr (.inr (.inl h)))))
theorem adS:∀args h M,Cg il (xI il) 92 92 args h M→KK 92 args h M:=λ_ _ _ h=>.inr (.inr (.inr (.inr (.inr (.inr h)))))
def oq(a b:Loc):Int:=Gu [yT a.iQ b.iQ,yT a.file b.file,yT a.off b.off,yT a.len b.len]
theorem HF(a b:Int):Bh a b=some (yT a b):=by
 simp only[Bh,cmp_isNaN_int,bd,yT]
 simp only[ne_eq,not_true_eq_false,decide_false,Bool.false_eq_true,if_false,decide_eq_true_eq]
 split<;>(try split)<;>rfl
theorem or_eq(xs:List Int)(h:xs.length≤1073741824):yU xs=some (Gu xs):=by
 have key:∀(m i:Nat),i≤xs.length→xs.length-i<m→iter (yU.l2 xs) m (i:Int)=some (Gu (xs.drop i)):=by
  intro m
  induction m with
  |zero=>intro i _ h;omega
  | succ m ih =>
   intro i hi hm;rw[iter]
   simp only[yU.l2,yU.k1,decide_eq_true_eq]
   by_cases hn:i<xs.length
   ·have hw:wr ((i:Int)+1)=((i+1:Nat):Int):=by
     have:=Q2 (x:=(i:Int)+1) (n:=i+1) (by omega) (by omega);exact this
    have hix:ix xs (i:Int)=some xs[i]:=by
     unfold ix
     simp[hn]
    rw[if_pos (by omega),hix]
    simp only[bd]
    rw[hw,List.drop_eq_getElem_cons hn]
    simp only[Gu]
    by_cases h0:xs[i]=0
    ·rw[if_neg (by simp[h0]),if_neg (by simp[h0])]
     exact ih (i+1) (by omega) (by omega)
    ·rw[if_pos (by simp[h0]),if_pos h0]
   ·rw[if_neg (by omega),List.drop_eq_nil_of_le (by omega)];rfl
 have:=key 18446744073709551616 0 (ju _) (by omega);exact this
theorem afd(a b:Loc):P9 a b=some (oq a b):=by
 simp only[P9,HF,bd]
 rw[or_eq _ (by simp)];rfl
theorem IM(a b:Loc):oq a b<0↔a.iQ<b.iQ∨a.iQ=b.iQ∧(a.file<b.file∨a.file=b.file∧(a.off<b.off∨a.off=b.off∧a.len<b.len)):=by
 simp only[oq,Gu,yT]
 repeat' split
 all_goals omega
theorem wm(a b:Loc):ltOf oq a b=decide (oq a b<0):=rfl
theorem Gv:SWO (ltOf oq)where
 irrefl x:=by simp only[wm,decide_eq_false_iff_not,IM];omega
 trans x y z h1 h2:=by simp only[wm,decide_eq_true_eq,IM]at *;omega
 ntrans x y z h1 h2:=by simp only[wm,decide_eq_false_iff_not,IM]at *;omega
theorem aeh{a b:Loc}(h1:a.iQ=b.iQ)(h2:a.file=b.file)(h3:a.off=b.off)(h4:a.len=b.len):a=b:=by cases a;cases b;simp_all
theorem LG(x y:Loc)(h1:ltOf oq x y=false)(h2:ltOf oq y x=false):x=y:=by
 simp only[wm,decide_eq_false_iff_not,IM]at h1 h2
 exact aeh (by omega) (by omega) (by omega) (by omega)
theorem adD(a b:List UInt8):VC a b=some (oR a b):=rfl
theorem TH:SWO (ltOf oR):=ah6 (f:=λx=>x) λ_ _=>FC _ _
theorem aag(x y:List UInt8)(h1:ltOf oR x y=false)(h2:ltOf oR y x=false):x=y:=by
 rw[FC]at h1 h2;exact C0 h1 h2
theorem ah2(a:Option (Nat×Nat))(k:Cap)(w:Hp):iN il KK 96 [.sl a 0 k,.f 97 []] w λu w'=>u = .kx []∧w'=w :=
 XW.mono (TW 100 _ (.call (.kx []) w) (by kernel_rfl)) λo e=>⟨_,_,e,rfl,rfl⟩
theorem ah1(a:Option (Nat×Nat))(k:Cap)(w:Hp):iN il KK 168 [.sl a 0 k,.f 169 []] w λu w'=>u = .kx []∧w'=w :=
 XW.mono (TW 100 _ (.call (.kx []) w) (by kernel_rfl)) λo e=>⟨_,_,e,rfl,rfl⟩
theorem ahX{F:gL}{w:Hp}{v:gE}{xs r:List Loc}(hS:St v.own w F F [.row Loc.t v xs] w)(H:C5 oq xs=some r):iN il KK 96 [v,.f 97 []] w λu w'=>∃F',u = .kx []∧St v.own w F F' [.row Loc.t v r] w' :=
 W2 (K0:=Na) (λ_ _ _ h=>.inl h) rfl Gv LG Tryz.func97 rfl (by decide) ah2 (λG h' cs x ds y hG hx hy=>by
  obtain rfl:=hx
  obtain rfl:=hy
  exact(afp hG (afd x y)).mono λv w' ⟨F',e,_⟩=>e) hS H
theorem ahU{F:gL}{w:Hp}{v:gE}{xs r:List (List UInt8)}(hS:St v.own w F F [.row lV v xs] w)(H:C5 oR xs=some r):iN il KK 168 [v,.f 169 []] w λu w'=>∃F',u = .kx []∧St v.own w F F' [.row lV v r] w' :=
 W2 (K0:=sN il) (λ_ _ _ h=>.inr (.inl h)) rfl TH aag Tryz.func169 rfl (by decide) ah1 (λG h' cs x ds y hG hx hy=>by
  obtain⟨rfl,hx⟩:=hx
  obtain⟨rfl,hy⟩:=hy
  exact(aeu hG hx hy (adD x y)).mono λv w' ⟨F',e,_⟩=>e) hS H
set_option maxRecDepth 100000 in
theorem Vh{K:Tb}(hL:∀f args h M,xI il f args h M→K f args h M){h:Hp}{b n m i vb y:Nat}{ck:Cap}{c d:List gE}(hW:Wf h)(hb:b<h.next)(hg:h.get b=some (.cells 35 c))(hv:h.get vb=some (.cells 35 d))(jw:vb≠b)(hi:i<n)(qA:n≤m)(vv:c.length=m*35)(hy:0<y)(su:y*35≤d.length)(oA:c.all gE.one=true)(qR:d.all gE.one=true)(OH:n+y≤2^30)(Gb:vb<h.next) :
  iN il K 83 [.sl (some (b,0)) n (.k m),.i .i64 (i:Int),.sl (some (vb,0)) y ck] h (Hh 35 h b i n y c d):=by
 have U9:d.drop 0=d:=ur;have KX:h.get h.next=none:=hW _ (jg _);refine vH Tryz.func83 ?_;refine Gy ?_;refine qs ?_;refine q2 ?_;refine j8 rfl rfl rfl rfl (qp i n kT Ty.nX rfl (.inr ⟨_,_,rfl,rfl⟩) (.inl ⟨rfl,rfl⟩) (uw hi) qA (sa hi qA)) ?_;refine qn ?_;refine qC ?_;refine qr (jV kT rfl (.inr ⟨_,_,rfl,λq=>by cases q⟩)) ?_;refine qm ?_;refine kr ?_;refine qC ?_;refine qr (iB rfl rfl nQ) ?_;refine qn ?_;refine qg rfl (λhc=>absurd (of_decide_eq_true hc) (by omega)) (λ_=>?_);refine qk ?_;refine qC ?_;refine qr (jV kT rfl (.inr ⟨_,_,rfl,λq=>by cases q⟩)) ?_;refine qm ?_;refine kr ?_;refine qs ?_;refine q2 ?_;refine qr (iB rfl rfl nQ) ?_;refine qn ?_;refine qg rfl (λhc=>absurd (of_decide_eq_true hc) (by omega)) (λ_=>?_);refine qk ?_;refine kr ?_;refine qs ?_;refine q2 ?_;refine qr (iB rfl rfl (s8 (a:=n) (b:=y) (by omega))) ?_;refine qc ?_;refine j8 (v:=.i .i64 (m:Int)) rfl rfl rfl rfl (λh=>by simp only[ir,RR,RS,jS,tP,qa,AW,iP,look];rfl) ?_;refine qr (iB rfl rfl vg) ?_;refine qn ?_;refine qg rfl (λhc=>?_) (λhc=>?_)
 ·have mM:m<n+y:=by have:=of_decide_eq_true hc;omega
  refine qs ?_;refine q2 ?_;refine j8 rfl rfl rfl rfl (qp 0 i kT Ty.nX rfl (.inl ⟨rfl,rfl⟩) (.inr ⟨_,_,rfl,rfl⟩) (ju _) (by omega) (by omega)) ?_;refine q2 ?_;refine qr (iB rfl rfl (s8 (a:=n) (b:=y) (by omega))) ?_;refine qc ?_;refine qr (iB rfl rfl (Nt (a:=n+y) (b:=i) (by omega) (by omega))) ?_;refine xm (M4 (N:=n+y-i) (c:=c) kT Ty.zw (by kernel_rfl) rfl rfl (by omega) (by omega) (by omega) (by omega) hg (by rw[vv];simp only[AZ,sZ,jn,zS];exact nL _ (by omega)) oA) ?_;rintro _ _ ⟨rfl,zs,nZ,mY,rfl⟩;refine qc ?_;refine ku ?_
  simp only[AZ,sZ,zS]
  have sV:i+(n+y-i)=n+y:=by omega
  rw[sV];have g0:∀B q,q<h.next→(h.new B).get q=h.get q:=λB q hq=>by rw[Hp.lI,if_neg (by omega)]
  have HO:(h.new (.cells 35 ((c.drop 0).take (i*35)++zs))).get h.next=some (.cells 35 ((c.drop 0).take (i*35)++zs)):=by rw[Hp.lI,if_pos rfl]
  have e1:(i+y)*35=i*35+y*35:=lQ _ _ _;have e2:(n-i)*35=n*35-i*35:=yI _ _ _;have e3:(n+y)*35=n*35+y*35:=lQ _ _ _;have e4:i*35≤n*35:=nL _ (uw hi);have e5:n*35≤m*35:=nL _ qA;have e6:(n+y-i)*35=n*35+y*35-i*35:=by rw[yI,lQ]
  have lD:((d.drop 0).take (y*35)).length=y*35:=by rw[kX,od];omega
  have lB:((c.drop 0).take (i*35)++zs).length=(n+y)*35:=by rw[kU,kX,od];omega
  have o1:((c.drop 0).take (i*35)++zs).all gE.one=true:=by rw[lz,vF oA,mY];rfl
  refine nN ?_;refine qs ?_;refine q2 ?_;refine j8 rfl rfl rfl rfl (Fj i (n+y) kT Ty.nX rfl (.inr ⟨_,_,rfl,rfl⟩) (.inl ⟨rfl,rfl⟩) (by omega) (jg _) (by omega)) ?_;refine qc ?_;refine xm (xH (m:=y) kT Ty.nX rfl rfl (by omega) HO ((g0 _ _ Gb).trans hv) (by rw[jn];exact su) (by rw[lB];omega) qR hy) ?_;rintro _ _ rfl;refine ku ?_;rw[jn];have pW:=tv (c:=(c.drop 0).take (i*35)++zs) (o:=i*35) (vs:=(d.drop 0).take (y*35)) (by rw[lD,lB];omega);refine nN ?_;refine kr ?_;refine nA (G:=λ_ _=>none) [0,1,2,3,4,5,6,7,8] rfl Ty.mixed (by kernel_rfl) (λ_ _ _ q=>by cases q) ?_;refine q3 ?_;refine qr (iB rfl rfl (s8 (a:=i) (b:=y) (by omega))) ?_;refine j8 rfl rfl rfl rfl (Fj (i+y) (n+y) kT Ty.nX rfl (.inr ⟨_,_,rfl,rfl⟩) (.inl ⟨rfl,rfl⟩) (by omega) (jg _) (by omega)) ?_;refine q2 ?_;refine j8 rfl rfl rfl rfl (qp i n kT Ty.nX rfl (.inr ⟨_,_,rfl,rfl⟩) (.inl ⟨rfl,rfl⟩) (by omega) (by omega) (by omega)) ?_;refine qx (xH (m:=n-i) kT Ty.nX rfl rfl (by omega) (by rw[Hp.jv,if_pos rfl]) (by rw[Hp.jv,if_neg (by omega)];exact(g0 _ _ hb).trans hg) (by rw[jn];omega) (by rw[pW,lB,jn];omega) oA (by omega)) ?_;rintro _ _ rfl;refine jG.mW (gL.le.refl _) (λ_ _ _ q=>by cases q) ?_;refine qn ?_;refine qC ?_;refine qm ?_;refine qt ?_
  simp only[jn]
  obtain⟨k1,k2⟩:=Pp (z:=35) hi qA vv su nZ;refine⟨h.next,none,_,rfl,by rw[Hp.jv,if_pos rfl],by rw[xB (by rw[k2];omega)];exact k1,λ_=>by rw[k2];exact jg _,λq e=>(by cases e),yr (yr o1 (vF qR)) (vF oA),xF _,vN _,λq hq=>?_,λq hq _=>?_,.inr (jg _)⟩
  ·have ss:h.next+1≤q:=hq
   rw[Hp.jv,if_neg (by omega),Hp.jv,if_neg (by omega),Hp.lI,if_neg (by omega)];exact hW _ (by omega)
  ·rw[Hp.jv,if_neg (by omega),Hp.jv,if_neg (by omega)]
   exact g0 _ _ hq
 ·have mM:n+y≤m:=by have:=of_decide_eq_false hc;omega
  have e1:(i+y)*35=i*35+y*35:=lQ _ _ _;have e2:(n-i)*35=n*35-i*35:=yI _ _ _;have e3:(n+y)*35=n*35+y*35:=lQ _ _ _;have e4:i*35≤n*35:=nL _ (uw hi);have e5:(n+y)*35≤m*35:=nL _ mM;have e7:n+y-(i+y)=n-i:=by omega
  refine qk ?_;refine qs ?_;refine q3 ?_;refine qr (iB rfl rfl (s8 (a:=n) (b:=y) (by omega))) ?_;refine j8 rfl rfl rfl rfl (qp 0 (n+y) kT Ty.nX rfl (.inl ⟨rfl,rfl⟩) (.inr ⟨_,_,rfl,rfl⟩) (ju _) (by omega) (by omega)) ?_;refine qc ?_;refine ku ?_
  simp only[AZ,sZ,zS]
  refine nN ?_;refine kr ?_;refine qs ?_;refine q4 ?_;refine qr (iB rfl rfl (s8 (a:=i) (b:=y) (by omega))) ?_;refine j8 rfl rfl rfl rfl (qp (i+y) (n+y) kT Ty.nX rfl (.inr ⟨_,_,rfl,rfl⟩) (.inl ⟨rfl,rfl⟩) (by omega) (by omega) (by omega)) ?_;refine qM (f:=134) (args:=[.sl (some (vb,0)) y ck,.sl (some (b,0+(i+y)*35)) (n+y-(i+y)) (.k (m-(i+y)))]) rfl rfl rfl rfl (XW.known (M:=λv w'=>v = .b false∧w'=h) (hL _ _ _ _ ⟨_,_,4,_,_,_,_,_,_,_,_,_,_,_,_,_,_,Tryz.func134,rfl,rfl,rfl,by kernel_rfl,kT,Ty.nX,rfl,jw,hv,by decide,by omega,hg,by omega,rfl,rfl⟩) λv h' q=>⟨v,h',rfl,q⟩) ?_;rintro _ w1 ⟨rfl,xi⟩;obtain rfl:h=w1:=xi.symm;refine jG.now ?_;refine qm ?_;refine M1 rfl ?_;refine kr ?_;refine nA (G:=λ_ _=>none) [0,1,2,3,4,5,6,7,8] rfl Ty.mixed (by kernel_rfl) (λ_ _ _ q=>by cases q) ?_;refine q3 ?_;refine qr (iB rfl rfl (s8 (a:=i) (b:=y) (by omega))) ?_;refine j8 rfl rfl rfl rfl (qp (i+y) (n+y) kT Ty.nX rfl (.inr ⟨_,_,rfl,rfl⟩) (.inl ⟨rfl,rfl⟩) (by omega) (by omega) (by omega)) ?_;refine q2 ?_;refine j8 rfl rfl rfl rfl (qp i (n+y) kT Ty.nX rfl (.inr ⟨_,_,rfl,rfl⟩) (.inl ⟨rfl,rfl⟩) (by omega) (by omega) (by omega)) ?_;refine qx (xH (m:=n-i) kT Ty.nX rfl rfl (by omega) hg hg (by rw[jn];omega) (by rw[jn];omega) oA (by omega)) ?_;rintro _ _ rfl;refine jG.mW (gL.le.refl _) (λ_ _ _ q=>by cases q) ?_;refine ku ?_
  simp only[jn]
  have lA:((c.drop (i*35)).take ((n-i)*35)).length=(n-i)*35:=by rw[kX,od];omega
  have pW:=tv (c:=c) (o:=(i+y)*35) (vs:=(c.drop (i*35)).take ((n-i)*35)) (by rw[lA];omega);refine nN ?_;refine qs ?_;refine q2 ?_;refine j8 rfl rfl rfl rfl (qp i (n+y) kT Ty.nX rfl (.inr ⟨_,_,rfl,rfl⟩) (.inl ⟨rfl,rfl⟩) (by omega) (by omega) (by omega)) ?_;refine qc ?_;refine xm (xH (m:=y) kT Ty.nX rfl rfl (by omega) (by rw[Hp.jv,if_pos rfl]) (by rw[Hp.jv,if_neg jw];exact hv) (by rw[jn];exact su) (by rw[pW,jn];omega) qR hy) ?_;rintro _ _ rfl;refine qn ?_;refine qC ?_;refine qm ?_;refine qt ?_
  simp only[jn]
  obtain⟨k1,k2⟩:=Po (z:=35) hi mM vv su;refine⟨b,some m,_,rfl,by rw[Hp.jv,if_pos rfl],k1,λe=>(by cases e),λq e=>(by obtain rfl:=oi e;exact⟨k2,mM⟩),yr (yr oA (vF oA)) (vF qR),hb,jg _,λq hq=>?_,λq hq vz=>?_,.inl rfl⟩
  ·have ss:h.next≤q:=hq
   rw[Hp.jv,if_neg (by omega),Hp.jv,if_neg (by omega)];exact hW _ ss
  ·rw[Hp.jv,if_neg vz,Hp.jv,if_neg vz]
set_option maxRecDepth 100000 in
theorem adv{K:Tb}{t:To Chunk}{X:List Nat}{h0 h:Hp}{F0 F:gL}{L:List Ob}{bs mh:List Nat}{v v2:gE}{xs ys zs:List Chunk}(tV:t.size=35)(hS:St X h0 F0 F (.dp t mh v2 ys :: .dp t bs v xs::L) h)(hy:0<ys.length)(hz:app xs ys=some zs) :
  iN il K 83 [v,.i .i64 (xs.length:Int),v2] h (λu h'=>∃kE,St X h0 F0 F (.dp t kE u zs::L) h'):=by
 have sr:=(Fs hz).1;refine vH Tryz.func83 ?_;refine Gy ?_;refine qs ?_;refine q2 ?_;refine Ni (t:=t) 1 (xs.length:Int) (xs.length:Int) rfl rfl rfl rfl kT (by rw[tV];exact Ty.nX) rfl (.inr ⟨_,_,rfl,rfl⟩) (.inl ⟨rfl,rfl⟩) hS rfl (by omega) (by omega) (by omega) ?_;intro v';refine qn ?_;refine qC ?_;refine qr (jV kT rfl (hS.wb (k:=0) rfl)) ?_;refine qm ?_;refine kr ?_;refine qC ?_;refine qr (iB rfl rfl nQ) ?_;refine qn ?_;refine qg rfl (λhc=>absurd (of_decide_eq_true hc) (by omega)) (λ_=>?_);refine qk ?_;refine qC ?_;refine qr (jV kT rfl (hS.wb (k:=1) rfl)) ?_;refine qm ?_;refine kr ?_;refine qs ?_;refine q2 ?_;refine qr (iB rfl rfl nQ) ?_;refine qn ?_;refine qg rfl (λ_=>?_) (λhc=>absurd rfl (of_decide_eq_false hc));refine qs ?_;refine q2 ?_;refine xm (M5 (t:=t) kT (by rw[tV];exact Ty.zw) (by kernel_rfl) rfl rfl hS hz) ?_;rintro u w' ⟨kE,hT⟩;refine qm ?_;refine qt ?_;exact⟨kE,hT⟩
theorem adt{F:gL}{w:Hp}{X:List Nat}{bs mh:List Nat}{v v2:gE}{i:Int}{xs ys r:List Chunk}(hS:St X w F F [.dp Chunk.o bs v xs,.dp Chunk.o mh v2 ys] w)(H:zg xs i ys=some r) :
  iN il KK 83 [v,.i .i64 i,v2] w λu w'=>∃kE,St X w F F [.dp Chunk.o kE u r] w' :=
 Pn (z:=35) rfl (by decide) (λhS hy hz=>adv rfl hS hy hz) (Vh Pu) (Vh λ_ _ _ _ q=>q) (adR) hS H
set_option maxRecDepth 100000 in
theorem Vj{K:Tb}(hL:∀f args h M,xI il f args h M→K f args h M){h:Hp}{b n m i vb y:Nat}{ck:Cap}{c d:List gE}(hW:Wf h)(hb:b<h.next)(hg:h.get b=some (.cells 4 c))(hv:h.get vb=some (.cells 4 d))(jw:vb≠b)(hi:i<n)(qA:n≤m)(vv:c.length=m*4)(hy:0<y)(su:y*4≤d.length)(oA:c.all gE.one=true)(qR:d.all gE.one=true)(OH:n+y≤2^30)(Gb:vb<h.next) :
  iN il K 88 [.sl (some (b,0)) n (.k m),.i .i64 (i:Int),.sl (some (vb,0)) y ck] h (Hh 4 h b i n y c d):=by
 have U9:d.drop 0=d:=ur;have KX:h.get h.next=none:=hW _ (jg _);refine vH Tryz.func88 ?_;refine Gy ?_;refine qs ?_;refine q2 ?_;refine j8 rfl rfl rfl rfl (qp i n kR Ty.oa rfl (.inr ⟨_,_,rfl,rfl⟩) (.inl ⟨rfl,rfl⟩) (uw hi) qA (sa hi qA)) ?_;refine qn ?_;refine qC ?_;refine qr (jV kR rfl (.inr ⟨_,_,rfl,λq=>by cases q⟩)) ?_;refine qm ?_;refine kr ?_;refine qC ?_;refine qr (iB rfl rfl nQ) ?_;refine qn ?_;refine qg rfl (λhc=>absurd (of_decide_eq_true hc) (by omega)) (λ_=>?_);refine qk ?_;refine qC ?_;refine qr (jV kR rfl (.inr ⟨_,_,rfl,λq=>by cases q⟩)) ?_;refine qm ?_;refine kr ?_;refine qs ?_;refine q2 ?_;refine qr (iB rfl rfl nQ) ?_;refine qn ?_;refine qg rfl (λhc=>absurd (of_decide_eq_true hc) (by omega)) (λ_=>?_);refine qk ?_;refine kr ?_;refine qs ?_;refine q2 ?_;refine qr (iB rfl rfl (s8 (a:=n) (b:=y) (by omega))) ?_;refine qc ?_;refine j8 (v:=.i .i64 (m:Int)) rfl rfl rfl rfl (λh=>by simp only[ir,RR,RS,jS,tP,qa,AW,iP,look];rfl) ?_;refine qr (iB rfl rfl vg) ?_;refine qn ?_;refine qg rfl (λhc=>?_) (λhc=>?_)
 ·have mM:m<n+y:=by have:=of_decide_eq_true hc;omega
  refine qs ?_;refine q2 ?_;refine j8 rfl rfl rfl rfl (qp 0 i kR Ty.oa rfl (.inl ⟨rfl,rfl⟩) (.inr ⟨_,_,rfl,rfl⟩) (ju _) (by omega) (by omega)) ?_;refine q2 ?_;refine qr (iB rfl rfl (s8 (a:=n) (b:=y) (by omega))) ?_;refine qc ?_;refine qr (iB rfl rfl (Nt (a:=n+y) (b:=i) (by omega) (by omega))) ?_;refine xm (M4 (N:=n+y-i) (c:=c) kR Ty.AG (by kernel_rfl) rfl rfl (by omega) (by omega) (by omega) (by omega) hg (by rw[vv];simp only[AZ,sZ,jn,zS];exact nL _ (by omega)) oA) ?_;rintro _ _ ⟨rfl,zs,nZ,mY,rfl⟩;refine qc ?_;refine ku ?_
  simp only[AZ,sZ,zS]
  have sV:i+(n+y-i)=n+y:=by omega
  rw[sV];have g0:∀B q,q<h.next→(h.new B).get q=h.get q:=λB q hq=>by rw[Hp.lI,if_neg (by omega)]
  have HO:(h.new (.cells 4 ((c.drop 0).take (i*4)++zs))).get h.next=some (.cells 4 ((c.drop 0).take (i*4)++zs)):=by rw[Hp.lI,if_pos rfl]
  have e1:(i+y)*4=i*4+y*4:=lQ _ _ _;have e2:(n-i)*4=n*4-i*4:=yI _ _ _;have e3:(n+y)*4=n*4+y*4:=lQ _ _ _;have e4:i*4≤n*4:=nL _ (uw hi);have e5:n*4≤m*4:=nL _ qA;have e6:(n+y-i)*4=n*4+y*4-i*4:=by rw[yI,lQ]
  have lD:((d.drop 0).take (y*4)).length=y*4:=by rw[kX,od];omega
  have lB:((c.drop 0).take (i*4)++zs).length=(n+y)*4:=by rw[kU,kX,od];omega
  have o1:((c.drop 0).take (i*4)++zs).all gE.one=true:=by rw[lz,vF oA,mY];rfl
  refine nN ?_;refine qs ?_;refine q2 ?_;refine j8 rfl rfl rfl rfl (Fj i (n+y) kR Ty.oa rfl (.inr ⟨_,_,rfl,rfl⟩) (.inl ⟨rfl,rfl⟩) (by omega) (jg _) (by omega)) ?_;refine qc ?_;refine xm (xH (m:=y) kR Ty.oa rfl rfl (by omega) HO ((g0 _ _ Gb).trans hv) (by rw[jn];exact su) (by rw[lB];omega) qR hy) ?_;rintro _ _ rfl;refine ku ?_;rw[jn];have pW:=tv (c:=(c.drop 0).take (i*4)++zs) (o:=i*4) (vs:=(d.drop 0).take (y*4)) (by rw[lD,lB];omega);refine nN ?_;refine kr ?_;refine nA (G:=λ_ _=>none) [0,1,2,3,4,5,6,7,8] rfl Ty.mixed (by kernel_rfl) (λ_ _ _ q=>by cases q) ?_;refine q3 ?_;refine qr (iB rfl rfl (s8 (a:=i) (b:=y) (by omega))) ?_;refine j8 rfl rfl rfl rfl (Fj (i+y) (n+y) kR Ty.oa rfl (.inr ⟨_,_,rfl,rfl⟩) (.inl ⟨rfl,rfl⟩) (by omega) (jg _) (by omega)) ?_;refine q2 ?_;refine j8 rfl rfl rfl rfl (qp i n kR Ty.oa rfl (.inr ⟨_,_,rfl,rfl⟩) (.inl ⟨rfl,rfl⟩) (by omega) (by omega) (by omega)) ?_;refine qx (xH (m:=n-i) kR Ty.oa rfl rfl (by omega) (by rw[Hp.jv,if_pos rfl]) (by rw[Hp.jv,if_neg (by omega)];exact(g0 _ _ hb).trans hg) (by rw[jn];omega) (by rw[pW,lB,jn];omega) oA (by omega)) ?_;rintro _ _ rfl;refine jG.mW (gL.le.refl _) (λ_ _ _ q=>by cases q) ?_;refine qn ?_;refine qC ?_;refine qm ?_;refine qt ?_
  simp only[jn]
  obtain⟨k1,k2⟩:=Pp (z:=4) hi qA vv su nZ;refine⟨h.next,none,_,rfl,by rw[Hp.jv,if_pos rfl],by rw[xB (by rw[k2];omega)];exact k1,λ_=>by rw[k2];exact jg _,λq e=>(by cases e),yr (yr o1 (vF qR)) (vF oA),xF _,vN _,λq hq=>?_,λq hq _=>?_,.inr (jg _)⟩
  ·have ss:h.next+1≤q:=hq
   rw[Hp.jv,if_neg (by omega),Hp.jv,if_neg (by omega),Hp.lI,if_neg (by omega)];exact hW _ (by omega)
  ·rw[Hp.jv,if_neg (by omega),Hp.jv,if_neg (by omega)]
   exact g0 _ _ hq
 ·have mM:n+y≤m:=by have:=of_decide_eq_false hc;omega
  have e1:(i+y)*4=i*4+y*4:=lQ _ _ _;have e2:(n-i)*4=n*4-i*4:=yI _ _ _;have e3:(n+y)*4=n*4+y*4:=lQ _ _ _;have e4:i*4≤n*4:=nL _ (uw hi);have e5:(n+y)*4≤m*4:=nL _ mM;have e7:n+y-(i+y)=n-i:=by omega
  refine qk ?_;refine qs ?_;refine q3 ?_;refine qr (iB rfl rfl (s8 (a:=n) (b:=y) (by omega))) ?_;refine j8 rfl rfl rfl rfl (qp 0 (n+y) kR Ty.oa rfl (.inl ⟨rfl,rfl⟩) (.inr ⟨_,_,rfl,rfl⟩) (ju _) (by omega) (by omega)) ?_;refine qc ?_;refine ku ?_
  simp only[AZ,sZ,zS]
  refine nN ?_;refine kr ?_;refine qs ?_;refine q4 ?_;refine qr (iB rfl rfl (s8 (a:=i) (b:=y) (by omega))) ?_;refine j8 rfl rfl rfl rfl (qp (i+y) (n+y) kR Ty.oa rfl (.inr ⟨_,_,rfl,rfl⟩) (.inl ⟨rfl,rfl⟩) (by omega) (by omega) (by omega)) ?_;refine qM (f:=139) (args:=[.sl (some (vb,0)) y ck,.sl (some (b,0+(i+y)*4)) (n+y-(i+y)) (.k (m-(i+y)))]) rfl rfl rfl rfl (XW.known (M:=λv w'=>v = .b false∧w'=h) (hL _ _ _ _ ⟨_,_,4,_,_,_,_,_,_,_,_,_,_,_,_,_,_,Tryz.func139,rfl,rfl,rfl,by kernel_rfl,kR,Ty.oa,rfl,jw,hv,by decide,by omega,hg,by omega,rfl,rfl⟩) λv h' q=>⟨v,h',rfl,q⟩) ?_;rintro _ w1 ⟨rfl,xi⟩;obtain rfl:h=w1:=xi.symm;refine jG.now ?_;refine qm ?_;refine M1 rfl ?_;refine kr ?_;refine nA (G:=λ_ _=>none) [0,1,2,3,4,5,6,7,8] rfl Ty.mixed (by kernel_rfl) (λ_ _ _ q=>by cases q) ?_;refine q3 ?_;refine qr (iB rfl rfl (s8 (a:=i) (b:=y) (by omega))) ?_;refine j8 rfl rfl rfl rfl (qp (i+y) (n+y) kR Ty.oa rfl (.inr ⟨_,_,rfl,rfl⟩) (.inl ⟨rfl,rfl⟩) (by omega) (by omega) (by omega)) ?_;refine q2 ?_;refine j8 rfl rfl rfl rfl (qp i (n+y) kR Ty.oa rfl (.inr ⟨_,_,rfl,rfl⟩) (.inl ⟨rfl,rfl⟩) (by omega) (by omega) (by omega)) ?_;refine qx (xH (m:=n-i) kR Ty.oa rfl rfl (by omega) hg hg (by rw[jn];omega) (by rw[jn];omega) oA (by omega)) ?_;rintro _ _ rfl;refine jG.mW (gL.le.refl _) (λ_ _ _ q=>by cases q) ?_;refine ku ?_
  simp only[jn]
  have lA:((c.drop (i*4)).take ((n-i)*4)).length=(n-i)*4:=by rw[kX,od];omega
  have pW:=tv (c:=c) (o:=(i+y)*4) (vs:=(c.drop (i*4)).take ((n-i)*4)) (by rw[lA];omega);refine nN ?_;refine qs ?_;refine q2 ?_;refine j8 rfl rfl rfl rfl (qp i (n+y) kR Ty.oa rfl (.inr ⟨_,_,rfl,rfl⟩) (.inl ⟨rfl,rfl⟩) (by omega) (by omega) (by omega)) ?_;refine qc ?_;refine xm (xH (m:=y) kR Ty.oa rfl rfl (by omega) (by rw[Hp.jv,if_pos rfl]) (by rw[Hp.jv,if_neg jw];exact hv) (by rw[jn];exact su) (by rw[pW,jn];omega) qR hy) ?_;rintro _ _ rfl;refine qn ?_;refine qC ?_;refine qm ?_;refine qt ?_
  simp only[jn]
  obtain⟨k1,k2⟩:=Po (z:=4) hi mM vv su;refine⟨b,some m,_,rfl,by rw[Hp.jv,if_pos rfl],k1,λe=>(by cases e),λq e=>(by obtain rfl:=oi e;exact⟨k2,mM⟩),yr (yr oA (vF oA)) (vF qR),hb,jg _,λq hq=>?_,λq hq vz=>?_,.inl rfl⟩
  ·have ss:h.next≤q:=hq
   rw[Hp.jv,if_neg (by omega),Hp.jv,if_neg (by omega)];exact hW _ ss
  ·rw[Hp.jv,if_neg vz,Hp.jv,if_neg vz]
set_option maxRecDepth 100000 in
theorem adx{K:Tb}{t:To ie}{X:List Nat}{h0 h:Hp}{F0 F:gL}{L:List Ob}{bs mh:List Nat}{v v2:gE}{xs ys zs:List ie}(tV:t.size=4)(hS:St X h0 F0 F (.dp t mh v2 ys :: .dp t bs v xs::L) h)(hy:0<ys.length)(hz:app xs ys=some zs) :
  iN il K 88 [v,.i .i64 (xs.length:Int),v2] h (λu h'=>∃kE,St X h0 F0 F (.dp t kE u zs::L) h'):=by
 have sr:=(Fs hz).1;refine vH Tryz.func88 ?_;refine Gy ?_;refine qs ?_;refine q2 ?_;refine Ni (t:=t) 1 (xs.length:Int) (xs.length:Int) rfl rfl rfl rfl kR (by rw[tV];exact Ty.oa) rfl (.inr ⟨_,_,rfl,rfl⟩) (.inl ⟨rfl,rfl⟩) hS rfl (by omega) (by omega) (by omega) ?_;intro v';refine qn ?_;refine qC ?_;refine qr (jV kR rfl (hS.wb (k:=0) rfl)) ?_;refine qm ?_;refine kr ?_;refine qC ?_;refine qr (iB rfl rfl nQ) ?_;refine qn ?_;refine qg rfl (λhc=>absurd (of_decide_eq_true hc) (by omega)) (λ_=>?_);refine qk ?_;refine qC ?_;refine qr (jV kR rfl (hS.wb (k:=1) rfl)) ?_;refine qm ?_;refine kr ?_;refine qs ?_;refine q2 ?_;refine qr (iB rfl rfl nQ) ?_;refine qn ?_;refine qg rfl (λ_=>?_) (λhc=>absurd rfl (of_decide_eq_false hc));refine qs ?_;refine q2 ?_;refine xm (M5 (t:=t) kR (by rw[tV];exact Ty.AG) (by kernel_rfl) rfl rfl hS hz) ?_;rintro u w' ⟨kE,hT⟩;refine qm ?_;refine qt ?_;exact⟨kE,hT⟩
theorem adB{F:gL}{w:Hp}{X:List Nat}{bs mh:List Nat}{v v2:gE}{i:Int}{xs ys r:List ie}(hS:St X w F F [.dp ie.o bs v xs,.dp ie.o mh v2 ys] w)(H:zg xs i ys=some r) :
  iN il KK 88 [v,.i .i64 i,v2] w λu w'=>∃kE,St X w F F [.dp ie.o kE u r] w' :=
 Pn (z:=4) rfl (by decide) (λhS hy hz=>adx rfl hS hy hz) (Vj Pu) (Vj λ_ _ _ _ q=>q) (adT) hS H
set_option maxRecDepth 100000 in
theorem Vi{K:Tb}(hL:∀f args h M,xI il f args h M→K f args h M){h:Hp}{b n m i vb y:Nat}{ck:Cap}{c d:List gE}(hW:Wf h)(hb:b<h.next)(hg:h.get b=some (.cells 3 c))(hv:h.get vb=some (.cells 3 d))(jw:vb≠b)(hi:i<n)(qA:n≤m)(vv:c.length=m*3)(hy:0<y)(su:y*3≤d.length)(oA:c.all gE.one=true)(qR:d.all gE.one=true)(OH:n+y≤2^30)(Gb:vb<h.next) :
  iN il K 92 [.sl (some (b,0)) n (.k m),.i .i64 (i:Int),.sl (some (vb,0)) y ck] h (Hh 3 h b i n y c d):=by
 have U9:d.drop 0=d:=ur;have KX:h.get h.next=none:=hW _ (jg _);refine vH Tryz.func92 ?_;refine Gy ?_;refine qs ?_;refine q2 ?_;refine j8 rfl rfl rfl rfl (qp i n mg Ty.pP rfl (.inr ⟨_,_,rfl,rfl⟩) (.inl ⟨rfl,rfl⟩) (uw hi) qA (sa hi qA)) ?_;refine qn ?_;refine qC ?_;refine qr (jV mg rfl (.inr ⟨_,_,rfl,λq=>by cases q⟩)) ?_;refine qm ?_;refine kr ?_;refine qC ?_;refine qr (iB rfl rfl nQ) ?_;refine qn ?_;refine qg rfl (λhc=>absurd (of_decide_eq_true hc) (by omega)) (λ_=>?_);refine qk ?_;refine qC ?_;refine qr (jV mg rfl (.inr ⟨_,_,rfl,λq=>by cases q⟩)) ?_;refine qm ?_;refine kr ?_;refine qs ?_;refine q2 ?_;refine qr (iB rfl rfl nQ) ?_;refine qn ?_;refine qg rfl (λhc=>absurd (of_decide_eq_true hc) (by omega)) (λ_=>?_);refine qk ?_;refine kr ?_;refine qs ?_;refine q2 ?_;refine qr (iB rfl rfl (s8 (a:=n) (b:=y) (by omega))) ?_;refine qc ?_;refine j8 (v:=.i .i64 (m:Int)) rfl rfl rfl rfl (λh=>by simp only[ir,RR,RS,jS,tP,qa,AW,iP,look];rfl) ?_;refine qr (iB rfl rfl vg) ?_;refine qn ?_;refine qg rfl (λhc=>?_) (λhc=>?_)
 ·have mM:m<n+y:=by have:=of_decide_eq_true hc;omega
  refine qs ?_;refine q2 ?_;refine j8 rfl rfl rfl rfl (qp 0 i mg Ty.pP rfl (.inl ⟨rfl,rfl⟩) (.inr ⟨_,_,rfl,rfl⟩) (ju _) (by omega) (by omega)) ?_;refine q2 ?_;refine qr (iB rfl rfl (s8 (a:=n) (b:=y) (by omega))) ?_;refine qc ?_;refine qr (iB rfl rfl (Nt (a:=n+y) (b:=i) (by omega) (by omega))) ?_;refine xm (M4 (N:=n+y-i) (c:=c) mg Ty.BU (by kernel_rfl) rfl rfl (by omega) (by omega) (by omega) (by omega) hg (by rw[vv];simp only[AZ,sZ,jn,zS];exact nL _ (by omega)) oA) ?_;rintro _ _ ⟨rfl,zs,nZ,mY,rfl⟩;refine qc ?_;refine ku ?_
  simp only[AZ,sZ,zS]
  have sV:i+(n+y-i)=n+y:=by omega
  rw[sV];have g0:∀B q,q<h.next→(h.new B).get q=h.get q:=λB q hq=>by rw[Hp.lI,if_neg (by omega)]
  have HO:(h.new (.cells 3 ((c.drop 0).take (i*3)++zs))).get h.next=some (.cells 3 ((c.drop 0).take (i*3)++zs)):=by rw[Hp.lI,if_pos rfl]
  have e1:(i+y)*3=i*3+y*3:=lQ _ _ _;have e2:(n-i)*3=n*3-i*3:=yI _ _ _;have e3:(n+y)*3=n*3+y*3:=lQ _ _ _;have e4:i*3≤n*3:=nL _ (uw hi);have e5:n*3≤m*3:=nL _ qA;have e6:(n+y-i)*3=n*3+y*3-i*3:=by rw[yI,lQ]
  have lD:((d.drop 0).take (y*3)).length=y*3:=by rw[kX,od];omega
  have lB:((c.drop 0).take (i*3)++zs).length=(n+y)*3:=by rw[kU,kX,od];omega
  have o1:((c.drop 0).take (i*3)++zs).all gE.one=true:=by rw[lz,vF oA,mY];rfl
  refine nN ?_;refine qs ?_;refine q2 ?_;refine j8 rfl rfl rfl rfl (Fj i (n+y) mg Ty.pP rfl (.inr ⟨_,_,rfl,rfl⟩) (.inl ⟨rfl,rfl⟩) (by omega) (jg _) (by omega)) ?_;refine qc ?_;refine xm (xH (m:=y) mg Ty.pP rfl rfl (by omega) HO ((g0 _ _ Gb).trans hv) (by rw[jn];exact su) (by rw[lB];omega) qR hy) ?_;rintro _ _ rfl;refine ku ?_;rw[jn];have pW:=tv (c:=(c.drop 0).take (i*3)++zs) (o:=i*3) (vs:=(d.drop 0).take (y*3)) (by rw[lD,lB];omega);refine nN ?_;refine kr ?_;refine nA (G:=λ_ _=>none) [0,1,2,3,4,5,6,7,8] rfl Ty.mixed (by kernel_rfl) (λ_ _ _ q=>by cases q) ?_;refine q3 ?_;refine qr (iB rfl rfl (s8 (a:=i) (b:=y) (by omega))) ?_;refine j8 rfl rfl rfl rfl (Fj (i+y) (n+y) mg Ty.pP rfl (.inr ⟨_,_,rfl,rfl⟩) (.inl ⟨rfl,rfl⟩) (by omega) (jg _) (by omega)) ?_;refine q2 ?_;refine j8 rfl rfl rfl rfl (qp i n mg Ty.pP rfl (.inr ⟨_,_,rfl,rfl⟩) (.inl ⟨rfl,rfl⟩) (by omega) (by omega) (by omega)) ?_;refine qx (xH (m:=n-i) mg Ty.pP rfl rfl (by omega) (by rw[Hp.jv,if_pos rfl]) (by rw[Hp.jv,if_neg (by omega)];exact(g0 _ _ hb).trans hg) (by rw[jn];omega) (by rw[pW,lB,jn];omega) oA (by omega)) ?_;rintro _ _ rfl;refine jG.mW (gL.le.refl _) (λ_ _ _ q=>by cases q) ?_;refine qn ?_;refine qC ?_;refine qm ?_;refine qt ?_
  simp only[jn]
  obtain⟨k1,k2⟩:=Pp (z:=3) hi qA vv su nZ;refine⟨h.next,none,_,rfl,by rw[Hp.jv,if_pos rfl],by rw[xB (by rw[k2];omega)];exact k1,λ_=>by rw[k2];exact jg _,λq e=>(by cases e),yr (yr o1 (vF qR)) (vF oA),xF _,vN _,λq hq=>?_,λq hq _=>?_,.inr (jg _)⟩
  ·have ss:h.next+1≤q:=hq
   rw[Hp.jv,if_neg (by omega),Hp.jv,if_neg (by omega),Hp.lI,if_neg (by omega)];exact hW _ (by omega)
  ·rw[Hp.jv,if_neg (by omega),Hp.jv,if_neg (by omega)]
   exact g0 _ _ hq
 ·have mM:n+y≤m:=by have:=of_decide_eq_false hc;omega
  have e1:(i+y)*3=i*3+y*3:=lQ _ _ _;have e2:(n-i)*3=n*3-i*3:=yI _ _ _;have e3:(n+y)*3=n*3+y*3:=lQ _ _ _;have e4:i*3≤n*3:=nL _ (uw hi);have e5:(n+y)*3≤m*3:=nL _ mM;have e7:n+y-(i+y)=n-i:=by omega
  refine qk ?_;refine qs ?_;refine q3 ?_;refine qr (iB rfl rfl (s8 (a:=n) (b:=y) (by omega))) ?_;refine j8 rfl rfl rfl rfl (qp 0 (n+y) mg Ty.pP rfl (.inl ⟨rfl,rfl⟩) (.inr ⟨_,_,rfl,rfl⟩) (ju _) (by omega) (by omega)) ?_;refine qc ?_;refine ku ?_
  simp only[AZ,sZ,zS]
  refine nN ?_;refine kr ?_;refine qs ?_;refine q4 ?_;refine qr (iB rfl rfl (s8 (a:=i) (b:=y) (by omega))) ?_;refine j8 rfl rfl rfl rfl (qp (i+y) (n+y) mg Ty.pP rfl (.inr ⟨_,_,rfl,rfl⟩) (.inl ⟨rfl,rfl⟩) (by omega) (by omega) (by omega)) ?_;refine qM (f:=141) (args:=[.sl (some (vb,0)) y ck,.sl (some (b,0+(i+y)*3)) (n+y-(i+y)) (.k (m-(i+y)))]) rfl rfl rfl rfl (XW.known (M:=λv w'=>v = .b false∧w'=h) (hL _ _ _ _ ⟨_,_,4,_,_,_,_,_,_,_,_,_,_,_,_,_,_,Tryz.func141,rfl,rfl,rfl,by kernel_rfl,mg,Ty.pP,rfl,jw,hv,by decide,by omega,hg,by omega,rfl,rfl⟩) λv h' q=>⟨v,h',rfl,q⟩) ?_;rintro _ w1 ⟨rfl,xi⟩;obtain rfl:h=w1:=xi.symm;refine jG.now ?_;refine qm ?_;refine M1 rfl ?_;refine kr ?_;refine nA (G:=λ_ _=>none) [0,1,2,3,4,5,6,7,8] rfl Ty.mixed (by kernel_rfl) (λ_ _ _ q=>by cases q) ?_;refine q3 ?_;refine qr (iB rfl rfl (s8 (a:=i) (b:=y) (by omega))) ?_;refine j8 rfl rfl rfl rfl (qp (i+y) (n+y) mg Ty.pP rfl (.inr ⟨_,_,rfl,rfl⟩) (.inl ⟨rfl,rfl⟩) (by omega) (by omega) (by omega)) ?_;refine q2 ?_;refine j8 rfl rfl rfl rfl (qp i (n+y) mg Ty.pP rfl (.inr ⟨_,_,rfl,rfl⟩) (.inl ⟨rfl,rfl⟩) (by omega) (by omega) (by omega)) ?_;refine qx (xH (m:=n-i) mg Ty.pP rfl rfl (by omega) hg hg (by rw[jn];omega) (by rw[jn];omega) oA (by omega)) ?_;rintro _ _ rfl;refine jG.mW (gL.le.refl _) (λ_ _ _ q=>by cases q) ?_;refine ku ?_
  simp only[jn]
  have lA:((c.drop (i*3)).take ((n-i)*3)).length=(n-i)*3:=by rw[kX,od];omega
  have pW:=tv (c:=c) (o:=(i+y)*3) (vs:=(c.drop (i*3)).take ((n-i)*3)) (by rw[lA];omega);refine nN ?_;refine qs ?_;refine q2 ?_;refine j8 rfl rfl rfl rfl (qp i (n+y) mg Ty.pP rfl (.inr ⟨_,_,rfl,rfl⟩) (.inl ⟨rfl,rfl⟩) (by omega) (by omega) (by omega)) ?_;refine qc ?_;refine xm (xH (m:=y) mg Ty.pP rfl rfl (by omega) (by rw[Hp.jv,if_pos rfl]) (by rw[Hp.jv,if_neg jw];exact hv) (by rw[jn];exact su) (by rw[pW,jn];omega) qR hy) ?_;rintro _ _ rfl;refine qn ?_;refine qC ?_;refine qm ?_;refine qt ?_
  simp only[jn]
  obtain⟨k1,k2⟩:=Po (z:=3) hi mM vv su;refine⟨b,some m,_,rfl,by rw[Hp.jv,if_pos rfl],k1,λe=>(by cases e),λq e=>(by obtain rfl:=oi e;exact⟨k2,mM⟩),yr (yr oA (vF oA)) (vF qR),hb,jg _,λq hq=>?_,λq hq vz=>?_,.inl rfl⟩
  ·have ss:h.next≤q:=hq
   rw[Hp.jv,if_neg (by omega),Hp.jv,if_neg (by omega)];exact hW _ ss
  ·rw[Hp.jv,if_neg vz,Hp.jv,if_neg vz]
set_option maxRecDepth 100000 in
theorem adw{K:Tb}{t:To iu}{X:List Nat}{h0 h:Hp}{F0 F:gL}{L:List Ob}{bs mh:List Nat}{v v2:gE}{xs ys zs:List iu}(tV:t.size=3)(hS:St X h0 F0 F (.dp t mh v2 ys :: .dp t bs v xs::L) h)(hy:0<ys.length)(hz:app xs ys=some zs) :
  iN il K 92 [v,.i .i64 (xs.length:Int),v2] h (λu h'=>∃kE,St X h0 F0 F (.dp t kE u zs::L) h'):=by
 have sr:=(Fs hz).1;refine vH Tryz.func92 ?_;refine Gy ?_;refine qs ?_;refine q2 ?_;refine Ni (t:=t) 1 (xs.length:Int) (xs.length:Int) rfl rfl rfl rfl mg (by rw[tV];exact Ty.pP) rfl (.inr ⟨_,_,rfl,rfl⟩) (.inl ⟨rfl,rfl⟩) hS rfl (by omega) (by omega) (by omega) ?_;intro v';refine qn ?_;refine qC ?_;refine qr (jV mg rfl (hS.wb (k:=0) rfl)) ?_;refine qm ?_;refine kr ?_;refine qC ?_;refine qr (iB rfl rfl nQ) ?_;refine qn ?_;refine qg rfl (λhc=>absurd (of_decide_eq_true hc) (by omega)) (λ_=>?_);refine qk ?_;refine qC ?_;refine qr (jV mg rfl (hS.wb (k:=1) rfl)) ?_;refine qm ?_;refine kr ?_;refine qs ?_;refine q2 ?_;refine qr (iB rfl rfl nQ) ?_;refine qn ?_;refine qg rfl (λ_=>?_) (λhc=>absurd rfl (of_decide_eq_false hc));refine qs ?_;refine q2 ?_;refine xm (M5 (t:=t) mg (by rw[tV];exact Ty.BU) (by kernel_rfl) rfl rfl hS hz) ?_;rintro u w' ⟨kE,hT⟩;refine qm ?_;refine qt ?_;exact⟨kE,hT⟩
theorem ady{F:gL}{w:Hp}{X:List Nat}{bs mh:List Nat}{v v2:gE}{i:Int}{xs ys r:List iu}(hS:St X w F F [.dp iu.o bs v xs,.dp iu.o mh v2 ys] w)(H:zg xs i ys=some r) :
  iN il KK 92 [v,.i .i64 i,v2] w λu w'=>∃kE,St X w F F [.dp iu.o kE u r] w' :=
 Pn (z:=3) rfl (by decide) (λhS hy hz=>adw rfl hS hy hz) (Vi Pu) (Vi λ_ _ _ _ q=>q) (adS) hS H
end Go.Wk.Lf
end
