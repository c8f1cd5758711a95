/-  -/
import Derived.Test.YtfhalkdoeiadgaaGreatG9
set_option linter.unusedVariables false
set_option linter.unusedSimpArgs false
open Bool renaming eq_false_or_eq_true→nk
open Go.Proofs.Tryz renaming prog→il, underlying23→EM, underlying24→kR, underlying25→kT, underlying26→mg, underlying3→mH, underlying31→lL, underlying59→ov, underlying78→p9
open List renaming all_append→lz, all_cons→nJ, all_nil→oG, replicate→iV
open Nat renaming le_of_ble_eq_true→kY, zero_lt_succ→oQ
section
namespace Go.Wk.Lf
open Go.V Go.Proofs
noncomputable section
set_option maxRecDepth 100000
variable{K:Tb}{F:gL}{w:Hp}
def zt.k1(x0:ig)(x1:Found)(b:Int×Bool)(a:List Chunk):Option ig :=
  bd (ix a b.1) λe =>
  bd (app (α:=Loc) e.locs [x1.loc]) λd =>
  bd (ix a b.1) λc =>
  some (ig.mk x0.seq x0.ik (a.set b.1.toNat (Chunk.mk c.id c.jD c.data d)) x0.im x0.iv)
def zt(x0:ig)(x1:Found):Option ig :=
  if(decide ((x1.iM.data.length:Int)<1)||decide (64<(x1.iM.data.length:Int)))then
    some x0
  else
    bd (kv [x1.iM.data]) λb =>
    bd (FA x0.chunks b) λa =>
    if(!a.2)then
      bd (zg x0.chunks a.1 [(Chunk.mk b false [] [])]) λc =>
      zt.k1 x0 x1 a c
    else
      zt.k1 x0 x1 a x0.chunks
theorem afL{X:List Nat}{x0:ig}{x1:Found}{r:ig}{jJ:Nat}{a:gE}{wQ:List Nat}{q:gE}{wR:List Nat}{b:gE}{wS:List Nat}{c:gE}{l:gE}(hS:St X w F F [.box jJ [.i .i64 x0.seq,a,q,b,c],.dp ie.o wQ a x0.ik,.dp Chunk.o wR q x0.chunks,.dp iu.o wS b x0.im,.row iz.t c x0.iv] w)(J:iq tB F l x1.iM.data)(H:zt x0 x1=some r):iN il KK 41 [pl jJ 0,.agg (Found.cells x1 l)] w λv w'=>∃(F':gL)(S:gE)(Hu:List Nat)(U:gE)(Hv:List Nat)(V:gE)(Hw:List Nat),v = .kx []∧St X w F F' [.box jJ [.i .i64 r.seq,S,U,V,c],.dp ie.o Hu S r.ik,.dp Chunk.o Hv U r.chunks,.dp iu.o Hw V r.im,.row iz.t c r.iv] w':=by
 refine kB Tryz.func41 ?_;refine qs ?_;refine bx ([.i .i64 x1.iM.kind,.i .i64 x1.iM.seq,l,.i .i64 x1.loc.iQ,.i .i64 x1.loc.file,.i .i64 x1.loc.off,.i .i64 x1.loc.len]) ?_;intro I w1 L;refine aZ ?_;refine qy H (λar H=>?_) (λar H=>?_)
 ·obtain rfl:=oi H;refine qt ?_;exact⟨F,a,wQ,q,wR,b,wS,rfl,L.pick [1,2,3,4,5] (by decide)⟩
 ·obtain⟨d,a9,H⟩:=iy H;refine ax ?_;refine xm (kN (t:=(o6 tB)) (vs:=[l]) (xs:=[x1.iM.data]) Tryz.underlying95 Ty.LZ rfl (by simp only[List.map_cons,List.map_nil,J.ln.cells];exact⟨⟨_,rfl,J⟩,trivial⟩) rfl rfl L) ?_;rintro u8 w8 z;refine lm (agL (Gd.now z.wf) (z.ni (k:=0) rfl) a9) ?_;rintro bq bu ⟨aO,rfl,P,aj⟩;have ad:=z.Pz aj trivial;refine xm (o9 (cs:=iJ (iV 32 (0:UInt8))) Ty.B2 rfl ad) ?_;rintro _ bt ⟨aV,rfl,aX⟩;refine sb 0 (iJ d) ?_;intro bv e;refine ay ?_;obtain⟨D,a8,H⟩:=iy H;refine rf e ?_;refine au ?_;refine bL e 0 (iJ d) [] ?_;refine lq (NH (Gd.now e.wf) (e.FH (k:=5) rfl Chunk.wA) P a8) e ?_;intro bw f;refine au ?_;refine iL (λE wq=>∃B:List Chunk,zt.k1 x0 x1 D B=some r ∧ ∃(m:gL)(p:gE)(G:List Nat),E=[(0,pl jJ 0),(3,pl I 0),(5,.i .i64 D.1)]∧F.le m∧iW f [.box I [.i .i64 x1.iM.kind,.i .i64 x1.iM.seq,l,.i .i64 x1.loc.iQ,.i .i64 x1.loc.file,.i .i64 x1.loc.off,.i .i64 x1.loc.len],.box jJ [.i .i64 x0.seq,a,p,b,c],.dp ie.o wQ a x0.ik,.dp iu.o wS b x0.im,.row iz.t c x0.iv,.dp Chunk.o G p B] m wq) ?_ ?_
  ·refine aq ?_;refine qy H (λam H=>?_) (λam H=>?_)
   ·obtain⟨aK,a6,H⟩:=iy H;refine rf f ?_;refine au ?_;refine bL f 0 (iJ d) [] ?_;refine j8 (v:=.agg (Chunk.cells (Chunk.mk d false [] []) (.sl none 0 (.k 0)) (.sl none 0 (.k 0)))) rfl rfl rfl rfl (λ_=>rfl) ?_;refine qx (M6 (t:=Chunk.o) (u:=.agg (Chunk.cells (Chunk.mk d false [] []) (.sl none 0 (.k 0)) (.sl none 0 (.k 0)))) (x:=(Chunk.mk d false [] [])) kT Ty.zw rfl ⟨.sl none 0 (.k 0),.sl none 0 (.k 0),rfl,P,(iq.nil _),⟨_,rfl,.inl ⟨rfl,rfl,rfl⟩⟩⟩ rfl rfl f) ?_;rintro bm b3 ⟨aT,y⟩;refine qw y ?_;refine ql (adt (y.rp [6,0] (by decide)) a6) ?_;rintro R b4 ⟨Z,ak⟩;have ah:=y.ri [6,0] [1,2,3,4,5,7,8] (by decide) (by decide) ak;refine qw ah ?_;refine au ?_;refine sC 4 ([.i .i64 x0.seq,a,R,b,c]) ?_;intro b5 ai;refine ku ?_;exact nj ⟨aK,H,⟨_,R,Z,rfl,iI,pk [3,4,5,6,7,0] ai⟩⟩
   ·refine s6 ?_;exact nj ⟨x0.chunks,H,⟨_,q,wR,rfl,iI,pk [2,3,4,6,7,5] f⟩⟩
  ·rintro E bz ⟨B,H,m,p,G,rfl,bi,g⟩;obtain⟨b7,Q,bh,a5,H⟩:=iG H;obtain⟨b8,n,H⟩:=iy H;have j:=g.mC 1 rfl;refine rh 1 j g ?_;refine au ?_;refine hl 1 j g ?_;obtain⟨_,⟨bo,bp,rfl,bb,bf,bg⟩,_⟩:=js 35 (g.FH (k:=5) rfl Chunk.wA) Q;refine au ?_;obtain⟨bj,aR,aU,A,aC,M⟩:=g.focus Chunk.Cv 5 rfl (iD Q).2;replace A:=qj 35 A;refine qq (la 34 Ty.sh rfl A (by first|omega|rfl) aC) ?_;refine au ?_;refine bL M 1 (Loc.cells x1.loc) (([]:List gE)) ?_;refine qx (kN (t:=Loc.t) (vs:=[.agg (Loc.cells x1.loc)]) (xs:=[x1.loc]) ov Ty.yt rfl ⟨rfl,trivial⟩ rfl rfl M) ?_;rintro bk b0 s;refine qh 3 j s ?_;refine qx (sM (t:=Loc.t) 1 ov Ty.yt Ty.GP rfl rfl s rfl (s.mi (k:=0) rfl) a5) ?_;rintro br b1 h;refine qh 3 j h ?_;obtain⟨a7,aD⟩:=iD n;have a4:=h.Bk (k:=7) rfl (wT aD);refine qi kT Ty.nX a4 a7 ?_;obtain⟨bc,aH⟩:=iD n;have aY:=h.Bk (k:=7) rfl (wT aH);refine au ?_;obtain⟨be,aJ⟩:=iD n;have ba:=h.Bk (k:=7) rfl (wT aJ);have ae:=h.pick [1,7,0,2,3,4,5,6] (by decide);refine qu (M7 Chunk.Cv (D.1.toNat) rfl rfl ae (iD n).2 (by first|rfl|(show _=_*35+_;omega)) Ty.xu) ?_;rintro _ b2 ⟨Y,O⟩;refine qh 3 j O ?_;refine ku ?_;obtain rfl:=oi H;refine Nb rfl rfl ?_;exact⟨m,a,wQ,p,Y,b,wS,rfl,O.pick [3,4,0,5,6] (by decide)⟩
def AE.k1(x0:ig)(x1:Found)(a:Int×Bool)(mc:List ie):Option ig :=
  bd (ix mc a.1) λd =>
  bd (app (α:=Loc) d.locs [x1.loc]) λc =>
  bd (ix mc a.1) λb =>
  some (ig.mk (if x0.seq<wr ((if 1073741824<x1.iM.seq then 1073741824 else x1.iM.seq)+1)then wr ((if 1073741824<x1.iM.seq then 1073741824 else x1.iM.seq)+1)else x0.seq) (mc.set a.1.toNat (ie.mk b.seq b.iw c)) x0.chunks x0.im x0.iv)
def AE(x0:ig)(x1:Found):Option ig :=
  bd (pr x1.iM.data) λb =>
  if decide (b.2≠0)then
    some x0
  else
    bd (yy x0.ik x1.iM.seq) λa =>
    if(!a.2)then
      bd (zg x0.ik a.1 [(ie.mk x1.iM.seq b.1 [])]) λc =>
      AE.k1 x0 x1 a c
    else
      AE.k1 x0 x1 a x0.ik
theorem afN{X:List Nat}{x0:ig}{x1:Found}{r:ig}{jJ:Nat}{q:gE}{wQ:List Nat}{a:gE}{wR:List Nat}{b:gE}{wS:List Nat}{c:gE}{y:gE}(hS:St X w F F [.box jJ [.i .i64 x0.seq,q,a,b,c],.dp ie.o wQ q x0.ik,.dp Chunk.o wR a x0.chunks,.dp iu.o wS b x0.im,.row iz.t c x0.iv] w)(ae:iq tB F y x1.iM.data)(H:AE x0 x1=some r):iN il KK 42 [pl jJ 0,.agg (Found.cells x1 y)] w λv w'=>∃(F':gL)(U:gE)(Hu:List Nat)(V:gE)(Hv:List Nat)(Y:gE)(Hw:List Nat),v = .kx []∧St X w F F' [.box jJ [.i .i64 r.seq,U,V,Y,c],.dp ie.o Hu U r.ik,.dp Chunk.o Hv V r.chunks,.dp iu.o Hw Y r.im,.row iz.t c r.iv] w':=by
 refine kB Tryz.func42 ?_;refine qs ?_;refine bx ([.i .i64 x1.iM.kind,.i .i64 x1.iM.seq,y,.i .i64 x1.loc.iQ,.i .i64 x1.loc.file,.i .i64 x1.loc.off,.i .i64 x1.loc.len]) ?_;intro J w1 L;obtain⟨d,aC,H⟩:=iy H;refine ax ?_;refine lm (aet L.iH ae aC) ?_;rintro v4 w4 ⟨G,e,rfl,Q,P⟩;have ba:=L.call P;have bk:=P.ext;refine au ?_;refine al ?_;intro g3 w3 aY;refine sb 0 ([.s d.1.name,e]) ?_;intro w5 g;refine ay ?_;refine qy H (λa4 H=>?_) (λa4 H=>?_)
 ·obtain rfl:=oi H;refine qt ?_;exact⟨G,q,wQ,a,wR,b,wS,rfl,g.pick [2,3,4,5,6] (by decide)⟩
 ·refine ay ?_;obtain⟨D,aD,H⟩:=iy H;refine rf g ?_;refine au ?_;refine lq (ahq (Gd.now g.wf) (g.FH (k:=3) rfl ie.wA) aD) g ?_;intro w8 h;refine au ?_;refine iL (λE wq=>∃mc:List ie,AE.k1 x0 x1 D mc=some r ∧ ∃(n:gL)(m:gE)(I:List Nat),E=[(0,pl jJ 0),(3,pl J 0),(6,.i .i64 D.1)]∧G.le n∧iW h [.box J [.i .i64 x1.iM.kind,.i .i64 x1.iM.seq,y,.i .i64 x1.loc.iQ,.i .i64 x1.loc.file,.i .i64 x1.loc.off,.i .i64 x1.loc.len],.box jJ [.i .i64 x0.seq,m,a,b,c],.dp Chunk.o wR a x0.chunks,.dp iu.o wS b x0.im,.row iz.t c x0.iv,.dp ie.o I m mc] n wq) ?_ ?_
  ·refine aq ?_;refine qy H (λar H=>?_) (λar H=>?_)
   ·obtain⟨aR,a8,H⟩:=iy H;refine rf h ?_;refine au ?_;refine bL h 0 (iF.cells d.1 e) [] ?_;have a5:=Q.ln.cells;refine qr (tJ (vs:=[(0,.i .i64 x1.iM.seq),(1,.agg (iF.cells d.1 e))]) (v:=.agg (ie.cells (ie.mk x1.iM.seq d.1 []) e (.sl none 0 (.k 0)))) Ty.S7 rfl (by simp only[oS,a5];rfl)) ?_;refine qx (M6 (t:=ie.o) (u:=.agg (ie.cells (ie.mk x1.iM.seq d.1 []) e (.sl none 0 (.k 0)))) (x:=(ie.mk x1.iM.seq d.1 [])) kR Ty.AG rfl ⟨e,.sl none 0 (.k 0),rfl,Q,⟨_,rfl,.inl ⟨rfl,rfl,rfl⟩⟩⟩ rfl rfl h) ?_;rintro bo b1 ⟨aU,A⟩;refine qw A ?_;refine ql (adB (A.rp [4,0] (by decide)) a8) ?_;rintro S b2 ⟨ad,am⟩;have aj:=A.ri [4,0] [1,2,3,5,6,7] (by decide) (by decide) am;refine qw aj ?_;refine au ?_;refine sC 3 ([.i .i64 x0.seq,S,a,b,c]) ?_;intro b3 ak;refine ku ?_;exact nj ⟨aR,H,⟨_,S,ad,rfl,iI,pk [2,3,4,5,6,0] ak⟩⟩
   ·refine s6 ?_;exact nj ⟨x0.ik,H,⟨_,q,wQ,rfl,iI,pk [1,2,4,5,6,3] h⟩⟩
  ·rintro E w9 ⟨mc,H,n,m,I,rfl,bj,j⟩;refine kr ?_;obtain⟨b8,R,bi,a7,H⟩:=iG H;obtain⟨b9,p,H⟩:=iy H;have l:=j.mC 1 rfl;refine rh 1 l j ?_;refine au ?_;refine hl 1 l j ?_;obtain⟨_,⟨bp,bq,rfl,bg,bh⟩,_⟩:=js 4 (j.FH (k:=5) rfl ie.wA) R;refine au ?_;obtain⟨bm,aT,aV,B,aH,M⟩:=j.focus ie.Cv 5 rfl (iD R).2;replace B:=qj 4 B;refine qq (la 3 Ty.sh rfl B (by first|omega|rfl) aH) ?_;refine au ?_;refine bL M 1 (Loc.cells x1.loc) (([]:List gE)) ?_;refine qx (kN (t:=Loc.t) (vs:=[.agg (Loc.cells x1.loc)]) (xs:=[x1.loc]) ov Ty.yt rfl ⟨rfl,trivial⟩ rfl rfl M) ?_;rintro bn bu z;refine qh 3 l z ?_;refine qx (sM (t:=Loc.t) 1 ov Ty.yt Ty.GP rfl rfl z rfl (z.mi (k:=0) rfl) a7) ?_;rintro br bv f;refine qh 3 l f ?_;obtain⟨a9,aJ⟩:=iD p;have a6:=f.Bk (k:=7) rfl (wT aJ);refine qi kR Ty.oa a6 a9 ?_;obtain⟨be,aK⟩:=iD p;have bb:=f.Bk (k:=7) rfl (wT aK);refine au ?_;obtain⟨bf,aO⟩:=iD p;have bc:=f.Bk (k:=7) rfl (wT aO);have ah:=f.pick [1,7,0,2,3,4,5,6] (by decide);refine qu (M7 ie.Cv (D.1.toNat) rfl rfl ah (iD p).2 (by first|rfl|(show _=_*4+_;omega)) Ty.xu) ?_;rintro _ bw ⟨Z,O⟩;refine qh 3 l O ?_;refine qn ?_;refine rf O ?_;refine au ?_;refine sC 3 ([.i .i64 (if x0.seq<wr ((if 1073741824<x1.iM.seq then 1073741824 else x1.iM.seq)+1)then wr ((if 1073741824<x1.iM.seq then 1073741824 else x1.iM.seq)+1)else x0.seq),m,a,b,c]) ?_;intro bz ai;refine ku ?_;obtain rfl:=oi H;refine Nb rfl rfl ?_;exact⟨n,m,Z,a,wR,b,wS,rfl,ai.pick [3,0,4,5,6] (by decide)⟩
def AD.k1(x0:ig)(x1:Found)(a:Int×Bool)(l8:List iu):Option ig :=
  bd (ix l8 a.1) λd =>
  bd (app (α:=Loc) d.locs [x1.loc]) λc =>
  bd (ix l8 a.1) λb =>
  some (ig.mk (if x0.seq<wr ((if 1073741824<x1.iM.seq then 1073741824 else x1.iM.seq)+1)then wr ((if 1073741824<x1.iM.seq then 1073741824 else x1.iM.seq)+1)else x0.seq) x0.ik x0.chunks (l8.set a.1.toNat (iu.mk b.seq b.of c)) x0.iv)
def AD(x0:ig)(x1:Found):Option ig :=
  if decide ((x1.iM.data.length:Int)≠4)then
    some x0
  else
    bd (vU x1.iM.data 0 4) λc =>
    bd (yx x0.im x1.iM.seq) λa =>
    if(!a.2)then
      bd (zg x0.im a.1 [(iu.mk x1.iM.seq c.1 [])]) λb =>
      AD.k1 x0 x1 a b
    else
      AD.k1 x0 x1 a x0.im
theorem afM{X:List Nat}{x0:ig}{x1:Found}{r:ig}{jJ:Nat}{a:gE}{wQ:List Nat}{b:gE}{wR:List Nat}{n:gE}{wS:List Nat}{c:gE}{p:gE}(hS:St X w F F [.box jJ [.i .i64 x0.seq,a,b,n,c],.dp ie.o wQ a x0.ik,.dp Chunk.o wR b x0.chunks,.dp iu.o wS n x0.im,.row iz.t c x0.iv] w)(U:iq tB F p x1.iM.data)(H:AD x0 x1=some r):iN il KK 43 [pl jJ 0,.agg (Found.cells x1 p)] w λv w'=>∃(F':gL)(O:gE)(Hu:List Nat)(P:gE)(Hv:List Nat)(Q:gE)(Hw:List Nat),v = .kx []∧St X w F F' [.box jJ [.i .i64 r.seq,O,P,Q,c],.dp ie.o Hu O r.ik,.dp Chunk.o Hv P r.chunks,.dp iu.o Hw Q r.im,.row iz.t c r.iv] w':=by
 refine kB Tryz.func43 ?_;refine qs ?_;refine bx ([.i .i64 x1.iM.kind,.i .i64 x1.iM.seq,p,.i .i64 x1.loc.iQ,.i .i64 x1.loc.file,.i .i64 x1.loc.off,.i .i64 x1.loc.len]) ?_;intro G w1 q;refine ay ?_;refine qy H (λah H=>?_) (λah H=>?_)
 ·obtain rfl:=oi H;refine qt ?_;exact⟨F,a,wQ,b,wR,n,wS,rfl,q.pick [1,2,3,4,5] (by decide)⟩
 ·obtain⟨A,a4,H⟩:=iy H;refine ax ?_;refine lp (S5 q.iH U a4) q ?_;intro w4 j;refine ay ?_;obtain⟨B,a5,H⟩:=iy H;refine rf j ?_;refine au ?_;refine lq (ahp (Gd.now j.wf) (j.FH (k:=4) rfl iu.wA) a5) j ?_;intro w6 l;refine au ?_;refine iL (λE wq=>∃l8:List iu,AD.k1 x0 x1 B l8=some r ∧ ∃(h:gL)(g:gE)(D:List Nat),E=[(0,pl jJ 0),(3,pl G 0),(7,.i .i64 B.1)]∧F.le h∧iW l [.box G [.i .i64 x1.iM.kind,.i .i64 x1.iM.seq,p,.i .i64 x1.loc.iQ,.i .i64 x1.loc.file,.i .i64 x1.loc.off,.i .i64 x1.loc.len],.box jJ [.i .i64 x0.seq,a,b,g,c],.dp ie.o wQ a x0.ik,.dp Chunk.o wR b x0.chunks,.row iz.t c x0.iv,.dp iu.o D g l8] h wq) ?_ ?_
  ·refine aq ?_;refine qy H (λai H=>?_) (λai H=>?_)
   ·obtain⟨aC,am,H⟩:=iy H;refine rf l ?_;refine au ?_;refine j8 (v:=.agg (iu.cells (iu.mk x1.iM.seq A.1 []) (.sl none 0 (.k 0)))) rfl rfl rfl rfl (λ_=>rfl) ?_;refine qx (M6 (t:=iu.o) (u:=.agg (iu.cells (iu.mk x1.iM.seq A.1 []) (.sl none 0 (.k 0)))) (x:=(iu.mk x1.iM.seq A.1 [])) mg Ty.BU rfl ⟨.sl none 0 (.k 0),rfl,⟨_,rfl,.inl ⟨rfl,rfl,rfl⟩⟩⟩ rfl rfl l) ?_;rintro bb bk ⟨aH,y⟩;refine qw y ?_;refine ql (ady (y.rp [5,0] (by decide)) am) ?_;rintro M bm ⟨S,ae⟩;have Z:=y.ri [5,0] [1,2,3,4,6] (by decide) (by decide) ae;refine qw Z ?_;refine au ?_;refine sC 2 ([.i .i64 x0.seq,a,b,M,c]) ?_;intro bn ad;refine ku ?_;exact nj ⟨aC,H,⟨_,M,S,rfl,iI,pk [1,2,3,4,5,0] ad⟩⟩
   ·refine s6 ?_;exact nj ⟨x0.im,H,⟨_,n,wS,rfl,iI,pk [0,1,2,3,5,4] l⟩⟩
  ·rintro E w7 ⟨l8,H,h,g,D,rfl,aX,e⟩;refine kr ?_;obtain⟨br,L,aV,ak,H⟩:=iG H;obtain⟨bs,m,H⟩:=iy H;have f:=e.mC 1 rfl;refine rh 1 f e ?_;refine au ?_;refine hl 1 f e ?_;obtain⟨_,⟨bc,rfl,aU⟩,_⟩:=js 3 (e.FH (k:=5) rfl iu.wA) L;refine au ?_;obtain⟨aY,aD,aJ,z,a6,I⟩:=e.focus iu.Cv 5 rfl (iD L).2;replace z:=qj 3 z;refine qq (la 2 Ty.sh rfl z (by first|omega|rfl) a6) ?_;refine au ?_;refine bL I 1 (Loc.cells x1.loc) (([]:List gE)) ?_;refine qx (kN (t:=Loc.t) (vs:=[.agg (Loc.cells x1.loc)]) (xs:=[x1.loc]) ov Ty.yt rfl ⟨rfl,trivial⟩ rfl rfl I) ?_;rintro ba bg s;refine qh 3 f s ?_;refine qx (sM (t:=Loc.t) 1 ov Ty.yt Ty.GP rfl rfl s rfl (s.mi (k:=0) rfl) ak) ?_;rintro be bh d;refine qh 3 f d ?_;obtain⟨ar,a7⟩:=iD m;have aj:=d.Bk (k:=7) rfl (wT a7);refine qi mg Ty.pP aj ar ?_;obtain⟨aR,a8⟩:=iD m;have aK:=d.Bk (k:=7) rfl (wT a8);refine au ?_;obtain⟨aT,a9⟩:=iD m;have aO:=d.Bk (k:=7) rfl (wT a9);have V:=d.pick [1,7,0,2,3,4,5,6] (by decide);refine qu (M7 iu.Cv (B.1.toNat) rfl rfl V (iD m).2 (by first|rfl|(show _=_*3+_;omega)) Ty.xu) ?_;rintro _ bi ⟨R,J⟩;refine qh 3 f J ?_;refine qn ?_;refine rf J ?_;refine au ?_;refine sC 3 ([.i .i64 (if x0.seq<wr ((if 1073741824<x1.iM.seq then 1073741824 else x1.iM.seq)+1)then wr ((if 1073741824<x1.iM.seq then 1073741824 else x1.iM.seq)+1)else x0.seq),a,b,g,c]) ?_;intro bj Y;refine ku ?_;obtain rfl:=oi H;refine Nb rfl rfl ?_;exact⟨h,a,wQ,b,wR,g,R,rfl,Y.pick [3,4,5,0,6] (by decide)⟩
def yl.k1(l3:List (List UInt8)):Option (List (List UInt8)) :=
  bd (C5 oR l3) λa =>
  bd (oY a) λb =>
  bd (Jg b) λc =>
  some c
def yl.l2(x0:iF)(c:((List (List UInt8))×Int)→Option (List (List UInt8))):((List (List UInt8))×Int)→Option (List (List UInt8))
  | (nw,a) =>
    if decide (a<(x0.parts.length:Int))then
      bd (ix x0.parts a) λd =>
      bd (app (α:=(List UInt8)) nw d.ids) λb =>
      c (b,wr (a+1))
    else
      yl.k1 nw
def yl(x0:iF):Option (List (List UInt8)) :=
  loop (yl.l2 x0) ([],0)
theorem aes{x0:iF}{r:(List (List UInt8))}{b:gE}(hA:Gd F w)(x:iq Part.t F b x0.parts)(H:yl x0=some r):iN il KK 146 [.agg (iF.cells x0 b)] w λv w'=>∃(F':gL)(q:gE),v=q∧St [] w F F' [.row lV q (r)] w':=by
 refine lg Tryz.func146 ?_;have hS:=St.start hA;refine qs ?_;refine bx ([.s x0.name,b]) ?_;intro g1 w1 e;refine au ?_;refine aq ?_;refine iL (λE wq=>∃l3:List (List UInt8),yl.k1 l3=some r ∧ ∃(d:gL)(f:gE),E=[(3,f)]∧F.le d∧iW e [.row lV f l3] d wq) ?_ ?_
 ·refine ax ?_;refine jH (λ(s:(List (List UInt8))×Int) E wq=>∃(c:gL)(a:gE),E=[(3,a),(7,b),(8,.i .i64 (x0.parts.length:Int)),(9,.i .i64 s.2)]∧F.le c∧iW e [.row lV a s.1] c wq) H ?_ ?_
  ·have D:=e.lb lV;exact lo ⟨F,(.sl none 0 (.k 0)),rfl,(gL.le.refl _),D.pick [0] (by decide)⟩
  ·rintro aC ⟨nw,aj⟩ E aT hI H
   try dsimp only at hI
   obtain⟨c,a,rfl,R,A⟩:=hI;refine ay ?_;refine qy H (λG H=>?_) (λG H=>?_)
   ·obtain⟨u,Q,H⟩:=iy H;obtain⟨_,⟨S,rfl,P⟩,ai⟩:=js 3 (x.mono R) Q;refine ay ?_;refine al ?_;intro ae aV ah;refine sb 0 ([.s u.path,.i .i64 u.size,S]) ?_;intro aX j;obtain⟨ak,J,H⟩:=iy H;refine ax ?_;refine ap 1 j (P.src j.agree) J ?_;intro U aY B;refine ax ?_;exact nm H ⟨_,U,rfl,iI,pk [1] B⟩
   ·refine jf _ rfl ?_;exact nj ⟨nw,H,⟨_,a,rfl,iI,A⟩⟩
 ·rintro E w2 ⟨l3,H,d,f,rfl,ar,h⟩;obtain⟨r6,L,H⟩:=iy H;refine aq ?_;refine lm (ahU (h.zl 0 rfl) L) ?_;rintro v7 w7 ⟨X,rfl,p⟩;have l:=h.yM 0 [] rfl (by decide) (by decide) p;have a4:=p.ext;obtain⟨r8,M,r9,O,H⟩:=iG H;refine ax ?_;refine lm (ahw (l.zl 0 rfl) M) ?_;rintro aD aO ⟨Y,_,rfl,m⟩;have y:=l.yM 0 [] rfl (by decide) (by decide) m;have a5:=m.ext;obtain⟨V,am,I,g⟩:=y.kh 0 [] rfl (by decide) (by decide);refine lm (WY g.iH I O) ?_;rintro aH aR ⟨Z,_,rfl,n⟩;have z:=g.call n;have a6:=n.ext;exact rx H z
def LP(x0:ig)(x1:ie):Option Bool :=
  bd (QH x0.im x1) λa =>
  if a then
    some false
  else
    bd (yl x1.iw) λb =>
    bd (QG b x0) λc =>
    some (!c)
theorem afR{x0:ig}{x1:ie}{r:Bool}{l:gE}{m:gE}{n:gE}{p:gE}{f:gE}{g:gE}(hA:Gd F w)(G:iq ie.t F l x0.ik)(I:iq Chunk.t F m x0.chunks)(x:iq iu.t F n x0.im)(J:iq iz.t F p x0.iv)(y:iq Part.t F f x1.iw.parts)(L:iq Loc.t F g x1.locs)(H:LP x0 x1=some r):iN il KK 93 [.agg (ig.cells x0 l m n p),.agg (ie.cells x1 f g)] w λv w'=>∃(F':gL),v = .b r∧St [] w F F' [] w':=by
 refine kB Tryz.func93 ?_;have hS:=St.start hA;refine qs ?_;refine bx ([.i .i64 x0.seq,l,m,n,p]) ?_;intro Z w1 ae;refine bx ([.i .i64 x1.seq,.s x1.iw.name,f,g]) ?_;intro g2 w2 O;refine ay ?_;obtain⟨V,e,D,z⟩:=O.Cw 0 [1] rfl (by decide) (by decide);obtain⟨r4,R,H⟩:=iy H;refine ax ?_;refine lp (ahA z.iH (mo x) (mo y) (mo L) D R) z ?_;intro w5 A;refine qn ?_;refine qy H (λQ H=>?_) (λQ H=>?_)
 ·exact rz H A
 ·refine ay ?_;obtain⟨X,c,P,j⟩:=A.Cw 0 [] rfl (by decide) (by decide);obtain⟨r8,S,r9,U,H⟩:=iG H;refine ax ?_;refine qr (A4 (iF.cells x1.iw f) Ty.tK Ty.tz (oQ _) rfl (D.mono (j.agree.le c)) (λq u h=>o5 (post:=[g]) rfl h)) ?_;refine lm (aes j.iH (mo y) S) ?_;rintro ak ar ⟨Y,_,rfl,B⟩;have a:=j.call B;have d:=B.ext;refine qc ?_;refine lp (ahz (Gd.now a.wf) (a.ni (k:=0) rfl) (G.mono (a.agree.le ((e.trans c).trans d))) (I.mono (a.agree.le ((e.trans c).trans d))) (x.mono (a.agree.le ((e.trans c).trans d))) (J.mono (a.agree.le ((e.trans c).trans d))) (P.mono (a.agree.le d)) U) a ?_;intro a4 M;exact rz H M
def tw.k1(l3:List ie):Option (List ie) :=
  some l3
def tw.k3(a:Int)(b:((List ie)×Int)→Option (List ie))(nw:List ie):Option (List ie) :=
  b (nw,wr (a+1))
def tw.l2(x0:ig)(c:((List ie)×Int)→Option (List ie)):((List ie)×Int)→Option (List ie)
  | (l7,a) =>
    if decide (a<(x0.ik.length:Int))then
      bd (ix x0.ik a) λb =>
      bd (LP x0 b) λe =>
      if e then
        bd (uj l7 b) λf =>
        bd (app (α:=ie) f [b]) λd =>
        tw.k3 a c d
      else
        tw.k3 a c l7
    else
      tw.k1 l7
def tw(x0:ig):Option (List ie) :=
  loop (tw.l2 x0) ([],0)
theorem afO{X:List Nat}{x0:ig}{r:(List ie)}{a:gE}{b:gE}{c:gE}{d:gE}(hS:St X w F F [.row ie.t a x0.ik,.row Chunk.t b x0.chunks,.row iu.t c x0.im,.row iz.t d x0.iv] w)(H:tw x0=some r):iN il KK 44 [.agg (ig.cells x0 a b c d)] w λv w'=>∃(F':gL)(S:gE),v=S∧St X w F F' [.row ie.t S (r),.row ie.t a x0.ik,.row Chunk.t b x0.chunks,.row iu.t c x0.im,.row iz.t d x0.iv] w':=by
 refine lg Tryz.func44 ?_;refine qs ?_;refine bx ([.i .i64 x0.seq,a,b,c,d]) ?_;intro l w1 m;refine au ?_;refine aq ?_;refine iL (λE wq=>∃l3:List ie,tw.k1 l3=some r ∧ ∃(z:gL)(L:gE),E=[(3,L)]∧F.le z∧iW m [.row ie.t a x0.ik,.row Chunk.t b x0.chunks,.row iu.t c x0.im,.row iz.t d x0.iv,.row ie.t L l3] z wq) ?_ ?_
 ·refine aq ?_;refine qr (jV kR rfl (m.kH (k:=1) rfl)) ?_;refine ax ?_;refine jH (λ(s:(List ie)×Int) E wq=>∃(j:gL)(f:gE),E=[(1,pl l 0),(3,f),(7,a),(8,.i .i64 (x0.ik.length:Int)),(9,.i .i64 s.2)]∧F.le j∧iW m [.box l [.i .i64 x0.seq,a,b,c,d],.row ie.t a x0.ik,.row Chunk.t b x0.chunks,.row iu.t c x0.im,.row iz.t d x0.iv,.row ie.t f s.1] j wq) H ?_ ?_
  ·have ad:=m.lb ie.t;exact lo ⟨F,(.sl none 0 (.k 0)),rfl,(gL.le.refl _),ad.pick [1,2,3,4,5,0] (by decide)⟩
  ·rintro a5 ⟨l7,R⟩ E w6 hI H
   try dsimp only at hI
   obtain⟨j,f,rfl,aK,D⟩:=hI;refine ay ?_;refine qy H (λae H=>?_) (λae H=>?_)
   ·refine qk ?_;refine iL (λE wq=>∃nw:List ie,tw.k3 R a5 nw=some r ∧ ∃(y:gL)(n:gE),E=[(1,pl l 0),(3,n),(7,a),(8,.i .i64 (x0.ik.length:Int)),(9,.i .i64 R)]∧j.le y∧iW D [.box l [.i .i64 x0.seq,a,b,c,d],.row ie.t a x0.ik,.row Chunk.t b x0.chunks,.row iu.t c x0.im,.row iz.t d x0.iv,.row ie.t n nw] y wq) ?_ ?_
    ·obtain⟨g,am,H⟩:=iy H;obtain⟨_,⟨p,x,rfl,I,J⟩,aC⟩:=mw 4 1 D am;refine ax ?_;refine al ?_;intro a8 aY a9;refine sb 0 ([.i .i64 g.seq,.s g.iw.name,p,x]) ?_;intro bb e;obtain⟨aO,aj,H⟩:=iy H;refine ax ?_;refine lp (afR (Gd.now e.wf) (e.ni (k:=2) rfl) (e.ni (k:=3) rfl) (e.ni (k:=4) rfl) (e.ni (k:=5) rfl) (I.mono e.agree) (J.mono e.agree) aj) e ?_;intro bc M;refine qn ?_;refine qy H (λah H=>?_) (λah H=>?_)
     ·obtain⟨U,aJ,Q,O⟩:=M.Cw 0 [1,2,3,4,5,6] rfl (by decide) (by decide);obtain⟨aR,ak,ar,ai,H⟩:=iG H;refine nA (G:=U) [0,1,3,4,2,5,6] rfl Ty.mixed (by kernel_rfl) O.agree ?_;refine au ?_;refine qr (A4 (ie.cells g p x) Ty.Nl Ty.oa (oQ _) rfl Q (λq u h=>o5 (post:=[]) rfl h)) ?_;refine qx (kN (t:=ie.t) (vs:=[.agg (ie.cells g p x)]) (xs:=[g]) kR Ty.AG rfl ⟨⟨p,x,rfl,(mo I),(mo J)⟩,trivial⟩ rfl rfl O) ?_;rintro aT be A;refine qw A ?_;refine ql (ahE (A.zl 6 rfl) (mo I) (mo J) Q ak) ?_;rintro aU bg ⟨a7,_,rfl,P⟩;have B:=A.yM 6 [0,1,2,3,4,5] rfl (by decide) (by decide) P;have a4:=P.ext;refine jG.mW a4 B.agree ?_;refine aP 0 B (B.mi (k:=1) rfl) ai ?_;intro a6 bf Z;refine ax ?_;exact nj ⟨ar,H,⟨_,a6,rfl,iI,pk [2,3,4,5,6,0] Z⟩⟩
     ·refine ax ?_;exact nj ⟨l7,H,⟨_,f,rfl,iI,pk [1,2,3,4,5,6] M⟩⟩
    ·rintro E aX ⟨nw,H,y,n,rfl,aD,V⟩;refine ax ?_;exact nm H ⟨_,n,rfl,iI,V⟩
   ·refine jf _ rfl ?_;exact nj ⟨l7,H,⟨_,f,rfl,iI,pk [1,2,3,4,5] D⟩⟩
 ·rintro E w2 ⟨l3,H,z,L,rfl,aH,Y⟩;exact rx H (pk [4,0,1,2,3] Y)
def BS(x0:List Loc):Option (List Loc) :=
  bd (AM x0) λa =>
  bd (C5 oq a) λb =>
  bd (oZ b) λc =>
  bd (AM c) λd =>
  some d
theorem P8{x0:List Loc}{r:(List Loc)}{i:gE}(hA:Gd F w)(j:iq Loc.t F i x0)(H:BS x0=some r):iN il KK 45 [i] w λv w'=>∃(F':gL)(g:gE),v=g∧St [] w F F' [.row Loc.t g (r)] w':=by
 refine lg Tryz.func45 ?_;have hS:=St.start hA;obtain⟨G,n,H⟩:=iy H;refine ax ?_;refine lm (Jh hS.iH j n) ?_;rintro M R ⟨u,_,rfl,d⟩;have b:=hS.call d;have A:=d.ext;obtain⟨I,p,H⟩:=iy H;refine ax ?_;refine lm (ahX (b.zl 0 rfl) p) ?_;rintro Q S ⟨x,rfl,e⟩;have c:=b.yM 0 [] rfl (by decide) (by decide) e;have B:=e.ext;obtain⟨J,q,L,s,H⟩:=iG H;refine ax ?_;refine lm (ahx (c.zl 0 rfl) q) ?_;rintro O U ⟨y,_,rfl,f⟩;have a:=c.yM 0 [] rfl (by decide) (by decide) f;have D:=f.ext;refine lm (Jh (Gd.now a.wf) (a.ni (k:=0) rfl) s) ?_;rintro P V ⟨z,_,rfl,m⟩;have l:=a.Pz m ⟨λ_ _ _ h=>Wq (t:=Loc.t) (λh=>h) h,trivial⟩;exact rx H (pk [0] l)
def lF.k4(a:Int)(b:List iz)(c:List ie)(d:List Chunk)(e:List iu):Option (ig×Int) :=
  bd (Fy (ig.mk a c d e b)) λf =>
  if decide (f≠0)then
    some ((ig.mk 0 [] [] [] []),1)
  else
    bd (ox (ig.mk a c d e b)) λg =>
    some (g,0)
def lF.l5(e:List iu)(d:Int)(f:List iz)(g:List ie)(h:List Chunk)(j:(Int×(List iu))→Option (ig×Int)):(Int×(List iu))→Option (ig×Int)
  | (a,b) =>
    if decide (a<(e.length:Int))then
      bd (ix b a) λc =>
      bd (BS c.locs) λi =>
      j (wr (a+1),(b.set a.toNat (iu.mk c.seq c.of i)))
    else
      lF.k4 d f g h b
def lF.k3(a:List iu)(b:Int)(c:List iz)(d:List ie)(e:List Chunk):Option (ig×Int) :=
  loop (lF.l5 a b c d e) (0,a)
def lF.l6(e:List iu)(f:List Chunk)(d:Int)(g:List iz)(h:List ie)(j:(Int×(List Chunk))→Option (ig×Int)):(Int×(List Chunk))→Option (ig×Int)
  | (a,c) =>
    if decide (a<(f.length:Int))then
      bd (ix c a) λb =>
      bd (BS b.locs) λi =>
      j (wr (a+1),(c.set a.toNat (Chunk.mk b.id b.jD b.data i)))
    else
      lF.k3 e d g h c
def lF.k2(c:List iu)(a:List Chunk)(b:Int)(d:List iz)(e:List ie):Option (ig×Int) :=
  loop (lF.l6 c a b d e) (0,a)
def lF.l7(e:List iu)(f:List Chunk)(d:Int)(g:List iz)(i:(List ie))(j:(Int×(List ie))→Option (ig×Int)):(Int×(List ie))→Option (ig×Int)
  | (a,b) =>
    if decide (a<(i.length:Int))then
      bd (ix b a) λc =>
      bd (BS c.locs) λh =>
      j (wr (a+1),(b.set a.toNat (ie.mk c.seq c.iw h)))
    else
      lF.k2 e f d g b
def lF.k1(b:List iu)(c:List Chunk)(f:List ie)(a:Int)(d:List iz):Option (ig×Int) :=
  bd (tw (ig.mk a f c b d)) λe =>
  loop (lF.l7 b c a d e) (0,e)
def lF.k9(a:Int)(g:(Int×(List iu)×(List Chunk)×(List ie)×Int×(List iz))→Option (ig×Int))(c:List iu)(d:List Chunk)(e:List ie)(b:Int)(f:List iz):Option (ig×Int) :=
  g (wr (a+1),c,d,e,b,f)
def lF.l8(x1:List Found)(k:(Int×(List iu)×(List Chunk)×(List ie)×Int×(List iz))→Option (ig×Int)):(Int×(List iu)×(List Chunk)×(List ie)×Int×(List iz))→Option (ig×Int)
  | (a,d,e,f,c,g) =>
    if decide (a<(x1.length:Int))then
      bd (ix x1 a) λb =>
      if decide (b.iM.kind=1)then
        bd (zt (ig.mk c f e d g) b) λh =>
        lF.k9 a k h.im h.chunks h.ik h.seq h.iv
      else
        if decide (b.iM.kind=2)then
          bd (AE (ig.mk c f e d g) b) λi =>
          lF.k9 a k i.im i.chunks i.ik i.seq i.iv
        else
          if decide (b.iM.kind=3)then
            bd (AD (ig.mk c f e d g) b) λj =>
            lF.k9 a k j.im j.chunks j.ik j.seq j.iv
          else
            lF.k9 a k d e f c g
    else
      lF.k1 d e f c g
def lF(x0:List iz)(x1:List Found):Option (ig×Int) :=
  bd (Ji x0) λa =>
  loop (lF.l8 x1) (0,[],[],[],0,a)
set_option maxHeartbeats 2000000 in
theorem V7{x0:List iz}{x1:List Found}{r:ig×Int}{v0:gE}{v1:gE}(hA:Gd F w)(h0:iq iz.t F v0 x0)(h1:iq Found.t F v1 x1)(H:lF x0 x1=some r):iN il KK 12 [v0,v1] w λv w'=>∃(F':gL)(bV:gE)(bW:gE)(bX:gE)(bY:gE),v = .kx [.agg (ig.cells r.1 bV bW bX bY),.i .i64 r.2]∧iq ie.t F' bV (r.1.ik)∧iq Chunk.t F' bW (r.1.chunks)∧iq iu.t F' bX (r.1.im)∧iq iz.t F' bY (r.1.iv)∧St [] w F F' [] w':=by
 refine kB Tryz.func12 ?_;have hS:=St.start hA;refine qs ?_;refine al ?_;intro e w1 ck;have cw:=ck.yp ie.o;have cx:=cw.yp Chunk.o;have b7:=cx.yp iu.o;obtain⟨r5,dw,H⟩:=iy H;refine ax ?_;refine lm (WZ b7.iH h0 dw) ?_;rintro a fl ⟨bb,_,rfl,bI⟩;have co:=b7.call bI;have dF:=bI.ext;have cZ:=(co.kH (k:=0) rfl).cells;refine qr (tJ (vs:=[(4,a)]) (v:=.agg (ig.cells (ig.mk 0 [] [] [] r5) (.sl none 0 (.k 0)) (.sl none 0 (.k 0)) (.sl none 0 (.k 0)) a)) Ty.Y4 rfl (by simp only[oS,cZ];rfl)) ?_;refine al ?_;intro g w6 cH;have cN:=cH.yp ie.o;have cO:=cN.yp Chunk.o;have et:=cO.yp iu.o;refine sb 3 ([.i .i64 0,.sl none 0 (.k 0),.sl none 0 (.k 0),.sl none 0 (.k 0),a]) ?_;intro fr ct;have cl:=ct.yp ie.o;have cm:=cl.yp Chunk.o;have bg:=cm.yp iu.o;refine qn ?_;refine iL (λE wq=>∃m:List iu,∃p:List Chunk,∃U:List ie,∃h:Int,∃l:List iz,lF.k1 m p U h l=some r ∧ ∃(aU:gL)(b:gE)(bv:List Nat)(d:gE)(bw:List Nat)(aH:gE)(bz:List Nat),E=[(4,pl e 0),(6,pl g 0)]∧bb.le aU∧iW bg [.dp iu.o bv b m,.dp Chunk.o bw d p,.dp ie.o bz aH U,.box g [.i .i64 h,aH,d,b,a],.row iz.t a l,.dp iu.o [] (.sl none 0 (.k 0)) [],.dp Chunk.o [] (.sl none 0 (.k 0)) [],.dp ie.o [] (.sl none 0 (.k 0)) [],.box e [.i .i64 0,(.sl none 0 (.k 0)),(.sl none 0 (.k 0)),(.sl none 0 (.k 0)),.sl none 0 (.k 0)]] aU wq) ?_ ?_
 ·refine ax ?_;refine jH (λ(s:Int×(List iu)×(List Chunk)×(List ie)×Int×(List iz)) E wq=>∃(ak:gL)(ad:gE)(ar:List Nat)(ae:gE)(a4:List Nat)(ah:gE)(a5:List Nat),E=[(4,pl e 0),(6,pl g 0),(15,v1),(16,.i .i64 (x1.length:Int)),(17,.i .i64 s.1)]∧bb.le ak∧iW bg [.dp iu.o ar ad s.2.1,.dp Chunk.o a4 ae s.2.2.1,.dp ie.o a5 ah s.2.2.2.1,.box g [.i .i64 s.2.2.2.2.1,ah,ae,ad,a],.row iz.t a s.2.2.2.2.2,.dp iu.o [] (.sl none 0 (.k 0)) [],.dp Chunk.o [] (.sl none 0 (.k 0)) [],.dp ie.o [] (.sl none 0 (.k 0)) [],.box e [.i .i64 0,(.sl none 0 (.k 0)),(.sl none 0 (.k 0)),(.sl none 0 (.k 0)),.sl none 0 (.k 0)]] ak wq) H ?_ ?_
  ·exact lo ⟨bb,(.sl none 0 (.k 0)),[],(.sl none 0 (.k 0)),[],(.sl none 0 (.k 0)),[],rfl,(gL.le.refl _),bg.pick [0,1,2,6,7,8,9,10,11] (by decide)⟩
  ·rintro dN ⟨bU,P,Q,R,O,S⟩ E fj hI H
   try dsimp only at hI
   obtain⟨ak,ad,ar,ae,a4,ah,a5,rfl,dB,b5⟩:=hI;refine ay ?_;refine qy H (λcQ H=>?_) (λcQ H=>?_)
   ·refine qk ?_;refine iL (λE wq=>∃bn:List iu,∃bo:List Chunk,∃bp:List ie,∃bm:Int,∃bq:List iz,lF.k9 bU dN bn bo bp bm bq=some r ∧ ∃(aT:gL)(a9:gE)(bc:List Nat)(aC:gE)(be:List Nat)(aD:gE)(bf:List Nat),E=[(4,pl e 0),(6,pl g 0),(15,v1),(16,.i .i64 (x1.length:Int)),(17,.i .i64 bU)]∧ak.le aT∧iW b5 [.dp iu.o bc a9 bn,.dp Chunk.o be aC bo,.dp ie.o bf aD bp,.box g [.i .i64 bm,aD,aC,a9,a],.row iz.t a bq,.dp iu.o [] (.sl none 0 (.k 0)) [],.dp Chunk.o [] (.sl none 0 (.k 0)) [],.dp ie.o [] (.sl none 0 (.k 0)) [],.box e [.i .i64 0,(.sl none 0 (.k 0)),(.sl none 0 (.k 0)),(.sl none 0 (.k 0)),.sl none 0 (.k 0)]] aT wq) ?_ ?_
    ·obtain⟨u,d3,H⟩:=iy H;obtain⟨_,⟨dO,rfl,bk⟩,eu⟩:=js 7 (h1.mono (dF.trans dB)) d3;refine ax ?_;refine al ?_;intro eo fm ep;refine sb 0 ([.i .i64 u.iM.kind,.i .i64 u.iM.seq,dO,.i .i64 u.loc.iQ,.i .i64 u.loc.file,.i .i64 u.loc.off,.i .i64 u.loc.len]) ?_;intro fn x;refine ax ?_;refine qy H (λcR H=>?_) (λcR H=>?_)
     ·obtain⟨V,dr,H⟩:=iy H;refine ax ?_;refine lm (afL (x0:=(ig.mk O R Q P S)) (x1:=u) (x.rp [4,3,2,1,5] (by decide)) bk dr) ?_;rintro fb fo ⟨eg,aiv,Y9,aiw,Za,aix,Zb,rfl,bJ⟩;have cp:=x.ri [4,3,2,1,5] [0,6,7,8,9] (by decide) (by decide) bJ;have eN:=bJ.ext;refine ax ?_;exact nj ⟨V.im,V.chunks,V.ik,V.seq,V.iv,H,⟨_,aix,Zb,aiw,Za,aiv,Y9,rfl,iI,pk [3,2,1,0,4,6,7,8,9] cp⟩⟩
     ·refine aq ?_;refine qy H (λcS H=>?_) (λcS H=>?_)
      ·obtain⟨X,ds,H⟩:=iy H;refine ax ?_;refine lm (afN (x0:=(ig.mk O R Q P S)) (x1:=u) (x.rp [4,3,2,1,5] (by decide)) bk ds) ?_;rintro fc fp ⟨eh,aiy,Zc,aiz,Zd,aiA,Ze,rfl,bK⟩;have cq:=x.ri [4,3,2,1,5] [0,6,7,8,9] (by decide) (by decide) bK;have eO:=bK.ext;refine ax ?_;exact nj ⟨X.im,X.chunks,X.ik,X.seq,X.iv,H,⟨_,aiA,Ze,aiz,Zd,aiy,Zc,rfl,iI,pk [3,2,1,0,4,6,7,8,9] cq⟩⟩
      ·refine aq ?_;refine qy H (λcT H=>?_) (λcT H=>?_)
       ·obtain⟨Y,dt,H⟩:=iy H;refine ax ?_;refine lm (afM (x0:=(ig.mk O R Q P S)) (x1:=u) (x.rp [4,3,2,1,5] (by decide)) bk dt) ?_;rintro fd fq ⟨ei,aiB,Zf,aiC,Zg,aiD,Zh,rfl,bM⟩;have cr:=x.ri [4,3,2,1,5] [0,6,7,8,9] (by decide) (by decide) bM;have eP:=bM.ext;refine ax ?_;exact nj ⟨Y.im,Y.chunks,Y.ik,Y.seq,Y.iv,H,⟨_,aiD,Zh,aiC,Zg,aiB,Zf,rfl,iI,pk [3,2,1,0,4,6,7,8,9] cr⟩⟩
       ·refine ax ?_;exact nj ⟨P,Q,R,O,S,H,⟨_,ad,ar,ae,a4,ah,a5,rfl,iI,pk [1,2,3,4,5,6,7,8,9] x⟩⟩
    ·rintro E fk ⟨bn,bo,bp,bm,bq,H,aT,a9,bc,aC,be,aD,bf,rfl,ey,cn⟩;refine ax ?_;exact nm H ⟨_,a9,bc,aC,be,aD,bf,rfl,iI,cn⟩
   ·refine jf _ rfl ?_;exact nj ⟨P,Q,R,O,S,H,⟨_,ad,ar,ae,a4,ah,a5,rfl,iI,b5⟩⟩
 ·rintro E fs ⟨m,p,U,h,l,H,aU,b,bv,d,bw,aH,bz,rfl,ez,cu⟩;obtain⟨dJ,du,H⟩:=iy H;refine aq ?_;obtain⟨dQ,e0,cy⟩:=St.FN ie.wA 2 cu rfl;obtain⟨dR,e1,cz⟩:=St.FN Chunk.wA 1 cy rfl;obtain⟨dS,e2,b6⟩:=St.FN iu.wA 0 cz rfl;refine qM (f:=44) (args:=[.agg (ig.cells (ig.mk h U p m l) aH d b a)]) rfl rfl rfl rfl (afO (x0:=(ig.mk h U p m l)) (b6.rp [2,1,0,4] (by decide)) du) ?_;rintro j ft ⟨bu,_,rfl,bN⟩;have eq:=b6.ri [2,1,0,4] [3,5,6,7,8] (by decide) (by decide) bN;have eQ:=bN.ext;refine jG.now ?_;refine au ?_;refine sc 5 ([.i .i64 h,j,d,b,a]) ?_;intro fu a6;refine qn ?_;refine iL (λE wq=>∃n:List ie,lF.k2 m p h l n=some r ∧ ∃(G:gL),E=[(4,pl e 0),(6,pl g 0)]∧bu.le G∧iW a6 [.row ie.t j n,.row Chunk.t d p,.row iu.t b m,.row iz.t a l,.box g [.i .i64 h,j,d,b,a],.dp iu.o [] (.sl none 0 (.k 0)) [],.dp Chunk.o [] (.sl none 0 (.k 0)) [],.dp ie.o [] (.sl none 0 (.k 0)) [],.box e [.i .i64 0,(.sl none 0 (.k 0)),(.sl none 0 (.k 0)),(.sl none 0 (.k 0)),.sl none 0 (.k 0)]] G wq) ?_ ?_
  ·refine aq ?_;refine qr (jV kR rfl (a6.kH (k:=0) rfl)) ?_;refine ax ?_;refine jH (λ(s:Int×(List ie)) E wq=>∃(ba:gL),E=[(4,pl e 0),(6,pl g 0),(42,.i .i64 (dJ.length:Int)),(43,.i .i64 s.1)]∧bu.le ba∧iW a6 [.row ie.t j s.2,.row Chunk.t d p,.row iu.t b m,.row iz.t a l,.box g [.i .i64 h,j,d,b,a],.dp iu.o [] (.sl none 0 (.k 0)) [],.dp Chunk.o [] (.sl none 0 (.k 0)) [],.dp ie.o [] (.sl none 0 (.k 0)) [],.box e [.i .i64 0,(.sl none 0 (.k 0)),(.sl none 0 (.k 0)),(.sl none 0 (.k 0)),.sl none 0 (.k 0)]] ba wq) H ?_ ?_
   ·exact lo (jj (pk [0,2,3,4,5,6,7,8,9] a6))
   ·rintro eV ⟨d6,d9⟩ E f9 hI H
    try dsimp only at hI
    obtain⟨ba,rfl,eM,A⟩:=hI;refine ay ?_;refine qy H (λcY H=>?_) (λcY H=>?_)
    ·refine ay ?_;obtain⟨bs,bT,dI,dq,H⟩:=iG H;have J:=A.mC 4 rfl;refine rh 4 J A ?_;refine au ?_;refine hl 4 J A ?_;obtain⟨_,⟨eZ,fa,rfl,ex,d2⟩,da⟩:=mw 4 0 A bT;refine au ?_;refine qq (la 3 Ty.sh rfl da (by first|omega|rfl) rfl) ?_;refine ql (P8 A.iH d2 dq) ?_;rintro bZ fh ⟨ef,_,rfl,bH⟩;have b0:=A.call bH;have dE:=bH.ext;refine nf 5 J b0 dE ?_;refine au ?_;obtain⟨dP,dA,bh,b4⟩:=b0.kh 0 [1,2,3,4,5,6,7,8,9] rfl (by decide) (by decide);refine wg 4 J b4 dA ?_;refine qu (pT (c:=[bZ]) 0 (d6.toNat) 3 bs (ie.mk bs.seq bs.iw dI) rfl rfl b4 rfl (iD bT).2 (by first|rfl|(show _=_*4+_;omega)) bh.ln.cells Ty.xu (by simp only[nJ,oG,lz,bh.ln.one];rfl) (kY rfl) (by rintro cs ⟨a2,a3,rfl,b2,b3⟩;exact⟨a2,bZ,rfl,b2,bh⟩)) ?_;rintro _ fi b1;refine qh 4 J b1 ?_;refine ax ?_;exact nm H (jj b1)
    ·refine jf _ rfl ?_;exact nj ⟨d9,H,jj A⟩
  ·rintro E fv ⟨n,H,G,rfl,e3,a7⟩;refine iL (λE wq=>∃q:List Chunk,lF.k3 m h l n q=some r ∧ ∃(I:gL),E=[(4,pl e 0),(6,pl g 0)]∧G.le I∧iW a7 [.row ie.t j n,.row Chunk.t d q,.row iu.t b m,.row iz.t a l,.box g [.i .i64 h,j,d,b,a],.dp iu.o [] (.sl none 0 (.k 0)) [],.dp Chunk.o [] (.sl none 0 (.k 0)) [],.dp ie.o [] (.sl none 0 (.k 0)) [],.box e [.i .i64 0,(.sl none 0 (.k 0)),(.sl none 0 (.k 0)),(.sl none 0 (.k 0)),.sl none 0 (.k 0)]] I wq) ?_ ?_
   ·refine aq ?_;refine qr (jV kT rfl (a7.kH (k:=1) rfl)) ?_;refine ax ?_;refine jH (λ(s:Int×(List Chunk)) E wq=>∃(aY:gL),E=[(4,pl e 0),(6,pl g 0),(61,.i .i64 (p.length:Int)),(62,.i .i64 s.1)]∧G.le aY∧iW a7 [.row ie.t j n,.row Chunk.t d s.2,.row iu.t b m,.row iz.t a l,.box g [.i .i64 h,j,d,b,a],.dp iu.o [] (.sl none 0 (.k 0)) [],.dp Chunk.o [] (.sl none 0 (.k 0)) [],.dp ie.o [] (.sl none 0 (.k 0)) [],.box e [.i .i64 0,(.sl none 0 (.k 0)),(.sl none 0 (.k 0)),(.sl none 0 (.k 0)),.sl none 0 (.k 0)]] aY wq) H ?_ ?_
    ·exact lo (jj a7)
    ·rintro eU ⟨d5,d8⟩ E f6 hI H
     try dsimp only at hI
     obtain⟨aY,rfl,eL,z⟩:=hI;refine ay ?_;refine qy H (λcX H=>?_) (λcX H=>?_)
     ·refine ay ?_;obtain⟨aR,bS,dM,dz,H⟩:=iG H;have M:=z.mC 4 rfl;refine rh 4 M z ?_;refine au ?_;refine hl 4 M z ?_;obtain⟨_,⟨eX,eY,rfl,ev,ew,d1⟩,dc⟩:=mw 35 1 z bS;refine au ?_;refine qq (la 34 Ty.sh rfl dc (by first|omega|rfl) rfl) ?_;refine ql (P8 z.iH d1 dz) ?_;rintro cb f7 ⟨en,_,rfl,bQ⟩;have bE:=z.call bQ;have dH:=bQ.ext;refine nf 5 M bE dH ?_;refine au ?_;obtain⟨ee,dD,bj,bG⟩:=bE.kh 0 [1,2,3,4,5,6,7,8,9] rfl (by decide) (by decide);refine wg 4 M bG dD ?_;refine qu (pT (c:=[cb]) 1 (d5.toNat) 34 aR (Chunk.mk aR.id aR.jD aR.data dM) rfl rfl bG rfl (iD bS).2 (by first|rfl|(show _=_*35+_;omega)) bj.ln.cells Ty.xu (by simp only[nJ,oG,lz,bj.ln.one];rfl) (kY rfl) (by rintro cs ⟨a2,a3,rfl,c0,b2,b3⟩;exact⟨a2,cb,rfl,c0,b2,bj⟩)) ?_;rintro _ f8 bF;refine qh 4 M bF ?_;refine ax ?_;exact nm H (jj bF)
     ·refine jf _ rfl ?_;exact nj ⟨d8,H,jj z⟩
   ·rintro E fw ⟨q,H,I,rfl,e4,a8⟩;refine iL (λE wq=>∃D:List iu,lF.k4 h l n q D=some r ∧ ∃(aV:gL),E=[(4,pl e 0),(6,pl g 0)]∧I.le aV∧iW a8 [.row ie.t j n,.row Chunk.t d q,.row iu.t b D,.row iz.t a l,.box g [.i .i64 h,j,d,b,a],.dp iu.o [] (.sl none 0 (.k 0)) [],.dp Chunk.o [] (.sl none 0 (.k 0)) [],.dp ie.o [] (.sl none 0 (.k 0)) [],.box e [.i .i64 0,(.sl none 0 (.k 0)),(.sl none 0 (.k 0)),(.sl none 0 (.k 0)),.sl none 0 (.k 0)]] aV wq) ?_ ?_
    ·refine aq ?_;refine qr (jV mg rfl (a8.kH (k:=2) rfl)) ?_;refine ax ?_;refine jH (λ(s:Int×(List iu)) E wq=>∃(aX:gL),E=[(4,pl e 0),(6,pl g 0),(80,.i .i64 (m.length:Int)),(81,.i .i64 s.1)]∧I.le aX∧iW a8 [.row ie.t j n,.row Chunk.t d q,.row iu.t b s.2,.row iz.t a l,.box g [.i .i64 h,j,d,b,a],.dp iu.o [] (.sl none 0 (.k 0)) [],.dp Chunk.o [] (.sl none 0 (.k 0)) [],.dp ie.o [] (.sl none 0 (.k 0)) [],.box e [.i .i64 0,(.sl none 0 (.k 0)),(.sl none 0 (.k 0)),(.sl none 0 (.k 0)),.sl none 0 (.k 0)]] aX wq) H ?_ ?_
     ·exact lo (jj a8)
     ·rintro eT ⟨d4,d7⟩ E f3 hI H
      try dsimp only at hI
      obtain⟨aX,rfl,eK,y⟩:=hI;refine ay ?_;refine qy H (λcV H=>?_) (λcV H=>?_)
      ·refine ay ?_;obtain⟨br,bR,dL,dy,H⟩:=iG H;have L:=y.mC 4 rfl;refine rh 4 L y ?_;refine au ?_;refine hl 4 L y ?_;obtain⟨_,⟨eW,rfl,d0⟩,db⟩:=mw 3 2 y bR;refine au ?_;refine qq (la 2 Ty.sh rfl db (by first|omega|rfl) rfl) ?_;refine ql (P8 y.iH d0 dy) ?_;rintro ca f4 ⟨em,_,rfl,bP⟩;have bB:=y.call bP;have dG:=bP.ext;refine nf 5 L bB dG ?_;refine au ?_;obtain⟨ed,dC,bi,bD⟩:=bB.kh 0 [1,2,3,4,5,6,7,8,9] rfl (by decide) (by decide);refine wg 4 L bD dC ?_;refine qu (pT (c:=[ca]) 2 (d4.toNat) 2 br (iu.mk br.seq br.of dL) rfl rfl bD rfl (iD bR).2 (by first|rfl|(show _=_*3+_;omega)) bi.ln.cells Ty.xu (by simp only[nJ,oG,lz,bi.ln.one];rfl) (kY rfl) (by rintro cs ⟨a2,rfl,b2⟩;exact⟨ca,rfl,bi⟩)) ?_;rintro _ f5 bC;refine qh 4 L bC ?_;refine ax ?_;exact nm H (jj bC)
      ·refine jf _ rfl ?_;exact nj ⟨d7,H,jj y⟩
    ·rintro E fx ⟨D,H,aV,rfl,e5,B⟩;obtain⟨eS,dv,H⟩:=iy H;refine ay ?_;refine qM (f:=34) (args:=[.agg (ig.cells (ig.mk h n q D l) j d b a)]) rfl rfl rfl rfl (Ke (Gd.now B.wf) (B.ni (k:=0) rfl) (B.ni (k:=1) rfl) (B.ni (k:=2) rfl) (B.ni (k:=3) rfl) dv) ?_;rintro fe fy ⟨ej,rfl,cP⟩;have c1:=B.oN cP;refine jG.now ?_;refine au ?_;refine qy H (λcU H=>?_) (λcU H=>?_)
     ·refine qs ?_;refine j8 (v:=.agg (ig.cells (ig.mk 0 [] [] [] []) (.sl none 0 (.k 0)) (.sl none 0 (.k 0)) (.sl none 0 (.k 0)) (.sl none 0 (.k 0)))) rfl rfl rfl rfl (λ_=>rfl) ?_;refine sb 8 ([.i .i64 0,.sl none 0 (.k 0),.sl none 0 (.k 0),.sl none 0 (.k 0),.sl none 0 (.k 0)]) ?_;intro fz c5;have c2:=c5.yp ie.o;have c3:=c2.yp Chunk.o;have c4:=c3.yp iu.o;refine au ?_;obtain⟨dT,e6,c6⟩:=St.FN ie.wA 2 c4 rfl;obtain⟨dU,e7,dd,c7⟩:=c6.kh 2 [0,1,3,4,5,6,7,8,9,10,11] rfl (by decide) (by decide);obtain⟨dV,e8,c8⟩:=St.FN Chunk.wA 1 c7 rfl;obtain⟨dW,e9,de,c9⟩:=c8.kh 1 [0,2,3,4,5,6,7,8,9,10] rfl (by decide) (by decide);obtain⟨dX,eA,cA⟩:=St.FN iu.wA 0 c9 rfl;obtain⟨bt,eB,df,cC⟩:=cA.kh 0 [1,2,3,4,5,6,7,8,9] rfl (by decide) (by decide);have b8:St [] w F bt [.row ie.t j n,.row Chunk.t d q,.row iu.t b D,.row iz.t a l,.box g [.i .i64 h,j,d,b,a],.dp iu.o [] (.sl none 0 (.k 0)) [],.dp Chunk.o [] (.sl none 0 (.k 0)) [],.dp ie.o [] (.sl none 0 (.k 0)) [],.box e [.i .i64 0,(.sl none 0 (.k 0)),(.sl none 0 (.k 0)),(.sl none 0 (.k 0)),.sl none 0 (.k 0)]] _:=cC;obtain rfl:=oi H;refine oH (vs:=[.agg (ig.cells (ig.mk 0 [] [] [] []) (.sl none 0 (.k 0)) (.sl none 0 (.k 0)) (.sl none 0 (.k 0)) (.sl none 0 (.k 0))),.i .i64 1]) rfl ⟨(oJ 8 Ty.rb Ty.rv b8 rfl rfl),rfl,trivial⟩ ?_;exact⟨bt,(.sl none 0 (.k 0)),(.sl none 0 (.k 0)),(.sl none 0 (.k 0)),.sl none 0 (.k 0),rfl,(mo dd),(mo de),df,(iq.nil _),b8.pick [] (by decide)⟩
     ·obtain⟨Z,dx,H⟩:=iy H;refine ax ?_;obtain⟨dY,eC,dg,cD⟩:=c1.kh 0 [1,2,3,4,5,6,7,8] rfl (by decide) (by decide);obtain⟨dZ,eD,dh,cE⟩:=cD.kh 0 [1,2,3,4,5,6,7] rfl (by decide) (by decide);obtain⟨cd,eE,di,cF⟩:=cE.kh 0 [1,2,3,4,5,6] rfl (by decide) (by decide);have cG:St [] w F cd [.row iz.t a l,.box g [.i .i64 h,j,d,b,a],.dp iu.o [] (.sl none 0 (.k 0)) [],.dp Chunk.o [] (.sl none 0 (.k 0)) [],.dp ie.o [] (.sl none 0 (.k 0)) [],.box e [.i .i64 0,(.sl none 0 (.k 0)),(.sl none 0 (.k 0)),(.sl none 0 (.k 0)),.sl none 0 (.k 0)]] _:=cF;obtain⟨ea,eF,dj,b9⟩:=cG.kh 0 [1,2,3,4,5] rfl (by decide) (by decide);refine qM (f:=46) (args:=[.agg (ig.cells (ig.mk h n q D l) j d b a)]) rfl rfl rfl rfl (Tg b9.iH (mo dg) (mo dh) (mo di) dj dx) ?_;rintro ff f1 ⟨ek,aJ,aK,ai,aj,rfl,bO⟩;have er:=b9.call bO;have eR:=bO.ext;refine jG.now ?_;refine sb 8 ([.i .i64 Z.seq,aJ,aK,ai,aj]) ?_;intro f2 cI;refine au ?_;obtain⟨eb,eG,dk,cJ⟩:=cI.kh 0 [1,2,3,4,5,6,7,8] rfl (by decide) (by decide);obtain⟨ce,eH,dl,cK⟩:=cJ.kh 0 [1,2,3,4,5,6,7] rfl (by decide) (by decide);have cL:St [] w F ce [.row iu.t ai Z.im,.row iz.t aj Z.iv,.box g [.i .i64 h,j,d,b,a],.dp iu.o [] (.sl none 0 (.k 0)) [],.dp Chunk.o [] (.sl none 0 (.k 0)) [],.dp ie.o [] (.sl none 0 (.k 0)) [],.box e [.i .i64 Z.seq,aJ,aK,ai,aj]] _:=cK;obtain⟨ec,eI,dm,cM⟩:=cL.kh 0 [1,2,3,4,5,6] rfl (by decide) (by decide);obtain⟨cf,eJ,dn,bA⟩:=cM.kh 0 [1,2,3,4,5] rfl (by decide) (by decide);obtain rfl:=oi H;refine oH (vs:=[.agg (ig.cells Z aJ aK ai aj),.i .i64 0]) rfl ⟨(oJ 4 Ty.rb Ty.rv bA rfl rfl),rfl,trivial⟩ ?_;exact⟨cf,aJ,aK,ai,aj,rfl,(mo dk),(mo dl),(mo dm),dn,bA.pick [] (by decide)⟩
def Kq:Option Bool :=
  bd (lF [(iz.mk 0 0 2 1)] [(Found.mk (mP.mk 1 0 [(120:UInt8)]) (Loc.mk 0 1 13 14))]) λa =>
  bd (only (decide (a.2=0)&&decide ((a.1.chunks.length:Int)=1)) (ix a.1.chunks 0) (Chunk.mk (iV 32 (0:UInt8)) false [] [])) λb =>
  bd (only ((decide (a.2=0)&&decide ((a.1.chunks.length:Int)=1))&&decide ((b.locs.length:Int)=1)) (ix a.1.chunks 0) (Chunk.mk (iV 32 (0:UInt8)) false [] [])) λc =>
  some (((decide (a.2=0)&&decide ((a.1.chunks.length:Int)=1))&&decide ((b.locs.length:Int)=1))&&(!c.jD))
theorem Tm{r:Bool}(hA:Gd F w)(H:Kq=some r):iN il KK 22 [] w λv w'=>∃(F':gL),v = .b r∧St [] w F F' [] w':=by
 refine Dz (args:=[]) Tryz.func22 rfl (by decide) rfl ?_;change C _ _ _ _ _ [] _;have hS:=St.start hA;obtain⟨g,a6,H⟩:=iy H;refine ax ?_;refine j8 (v:=.agg (iz.cells (iz.mk 0 0 2 1))) rfl rfl rfl rfl (λ_=>rfl) ?_;refine xm (kN (t:=iz.t) (vs:=[.agg (iz.cells (iz.mk 0 0 2 1))]) (xs:=[(iz.mk 0 0 2 1)]) Tryz.underlying22 Ty.I6 rfl ⟨rfl,trivial⟩ rfl rfl hS) ?_;rintro u1 w1 R;refine xm (kN (t:=tB) (vs:=[.i .u8 ((120:UInt8).toNat:Int)]) (xs:=[(120:UInt8)]) lL Ty.qD rfl ⟨rfl,trivial⟩ rfl rfl R) ?_;rintro h w2 l;refine xm (XJ 0 lL Tryz.underlying5 rfl l rfl (List.cons_ne_nil _ _) rfl) ?_;rintro _ _ ⟨rfl,rfl⟩;have Y:=(l.kH (k:=0) rfl).cells;refine qr (tJ (vs:=[(0,.i .i64 1),(2,h)]) (v:=.agg (mP.cells (mP.mk 1 0 [(120:UInt8)]) h)) Ty.Hs rfl (by simp only[oS,Y];rfl)) ?_;refine j8 (v:=.agg (Loc.cells (Loc.mk 0 1 13 14))) rfl rfl rfl rfl (λ_=>rfl) ?_;have Z:=(l.kH (k:=0) rfl).cells;refine qr (tJ (vs:=[(0,.agg (mP.cells (mP.mk 1 0 [(120:UInt8)]) h)),(1,.agg (Loc.cells (Loc.mk 0 1 13 14)))]) (v:=.agg (Found.cells (Found.mk (mP.mk 1 0 [(120:UInt8)]) (Loc.mk 0 1 13 14)) h)) Ty.S6 rfl (by simp only[oS,Z];rfl)) ?_;obtain⟨F8,bk,ae,V⟩:=l.kh 0 [1] rfl (by decide) (by decide);refine xm (kN (t:=Found.t) (vs:=[.agg (Found.cells (Found.mk (mP.mk 1 0 [(120:UInt8)]) (Loc.mk 0 1 13 14)) h)]) (xs:=[(Found.mk (mP.mk 1 0 [(120:UInt8)]) (Loc.mk 0 1 13 14))]) EM Ty.L0 rfl ⟨⟨h,rfl,ae⟩,trivial⟩ rfl rfl V) ?_;rintro u3 w3 U;obtain⟨F9,bm,ah,X⟩:=U.kh 1 [0] rfl (by decide) (by decide);obtain⟨aO,bi,ad,u⟩:=X.kh 0 [] rfl (by decide) (by decide);refine lm (V7 u.iH (mo ah) ad a6) ?_;rintro bs bu ⟨j,J,L,M,O,rfl,bb,f,bc,be,x⟩;have aY:=u.call x;have bn:=x.ext;refine au ?_;refine al ?_;intro Q w5 ba;refine sb 0 ([.i .i64 g.1.seq,J,L,M,O]) ?_;intro bv d;refine au ?_;refine kr ?_;obtain⟨P,B,aK,a8,H⟩:=iG H;refine sL (λE wq=>E=[(0,.b (((decide (g.2=0)&&decide ((g.1.chunks.length:Int)=1))&&decide ((P.locs.length:Int)=1))&&(!aK.jD)))] ∧ ∃q:gL,j.le q∧St [] w F q [.box Q [.i .i64 g.1.seq,J,L,M,O]] wq) ?_ ?_
 ·
  rcases nk (decide (g.2=0))with a|a
  ·
   rcases nk (decide ((g.1.chunks.length:Int)=1))with c|c
   ·
    rcases nk (decide ((P.locs.length:Int)=1))with e|e
    ·refine qd ?_;refine qc ?_;refine qr (iB rfl rfl nQ) ?_;refine qc ?_;refine kC 17 a ?_;refine qf Ty.yX ?_;refine qb 0 Ty.vj d ?_;refine qr (jV kT rfl f.ln) ?_;refine qr (iB rfl rfl nQ) ?_;refine q2 ?_;refine kC 23 c ?_;refine qf Ty.yX ?_;refine qb 0 Ty.vj d ?_;have D:=B;rw[jX (by first|rfl|(rw[c,a];first|done|rfl)|simp[a,c,e])]at D;obtain⟨aj,a9⟩:=iD D;obtain⟨aU,ar,m⟩:=f.el a9;obtain⟨aH,aJ,rfl,ai,a7,s⟩:=ar;replace m:=qj 35 m;have y:=m.ky;refine qi kT Ty.nX y aj ?_;refine qr (nr 34 Ty.FM rfl y) ?_;refine qr (la 34 Ty.sh rfl (m.mono d.agree) (by first|omega|rfl) rfl) ?_;refine qr (jV ov rfl s.ln) ?_;refine qr (iB rfl rfl nQ) ?_;refine q2 ?_;refine kC 32 e ?_;refine qf Ty.yX ?_;refine qb 0 Ty.vj d ?_;have G:=a8;rw[jX (by first|rfl|(rw[c,e,a];first|done|rfl)|simp[a,c,e])]at G;obtain⟨ak,aC⟩:=iD G;obtain⟨aV,a4,n⟩:=f.el aC;obtain⟨bq,br,rfl,bf,bg,bh⟩:=a4;replace n:=qj 35 n;have z:=n.ky;refine qi kT Ty.nX z ak ?_;refine qr (nr 32 Ty.KD rfl z) ?_;refine qr (la 32 Ty.DL rfl (n.mono d.agree) (by first|omega|rfl) rfl) ?_;refine q3 ?_;refine ku ?_;exact lW _ ⟨rfl,j,(gL.le.refl _),d⟩ ⟨(lZ rfl (by first|rfl|(rw[c,e,a];first|done|rfl)|simp[a,c,e])),trivial⟩
    ·refine qd ?_;refine qc ?_;refine qr (iB rfl rfl nQ) ?_;refine qc ?_;refine kC 17 a ?_;refine qf Ty.yX ?_;refine qb 0 Ty.vj d ?_;refine qr (jV kT rfl f.ln) ?_;refine qr (iB rfl rfl nQ) ?_;refine q2 ?_;refine kC 23 c ?_;refine qf Ty.yX ?_;refine qb 0 Ty.vj d ?_;have I:=B;rw[jX (by first|rfl|(rw[c,a];first|done|rfl)|simp[a,c,e])]at I;obtain⟨am,aD⟩:=iD I;obtain⟨aX,a5,p⟩:=f.el aD;obtain⟨aH,aJ,rfl,ai,a7,s⟩:=a5;replace p:=qj 35 p;have A:=p.ky;refine qi kT Ty.nX A am ?_;refine qr (nr 34 Ty.FM rfl A) ?_;refine qr (la 34 Ty.sh rfl (p.mono d.agree) (by first|omega|rfl) rfl) ?_;refine qr (jV ov rfl s.ln) ?_;refine qr (iB rfl rfl nQ) ?_;refine q2 ?_;refine kC 32 e ?_;refine je ?_;refine je ?_;refine je ?_;refine q2 ?_;refine ku ?_;exact lW _ ⟨rfl,j,(gL.le.refl _),d⟩ ⟨(lZ rfl (by first|rfl|(rw[c,e,a];first|done|rfl)|simp[a,c,e])),trivial⟩
   ·refine qd ?_;refine qc ?_;refine qr (iB rfl rfl nQ) ?_;refine qc ?_;refine kC 17 a ?_;refine qf Ty.yX ?_;refine qb 0 Ty.vj d ?_;refine qr (jV kT rfl f.ln) ?_;refine qr (iB rfl rfl nQ) ?_;refine q2 ?_;refine kC 23 c ?_;refine je ?_;refine je ?_;refine je ?_;refine qz ?_;refine q2 ?_;refine je ?_;refine je ?_;refine je ?_;refine q2 ?_;refine ku ?_;exact lW _ ⟨rfl,j,(gL.le.refl _),d⟩ ⟨(lZ rfl (by first|rfl|(rw[c,a];first|done|rfl)|simp[a,c])),trivial⟩
  ·refine qd ?_;refine qc ?_;refine qr (iB rfl rfl nQ) ?_;refine qc ?_;refine kC 17 a ?_;refine je ?_;refine je ?_;refine q2 ?_;refine je ?_;refine je ?_;refine je ?_;refine qz ?_;refine q2 ?_;refine je ?_;refine je ?_;refine je ?_;refine q2 ?_;refine ku ?_;exact lW _ ⟨rfl,j,(gL.le.refl _),d⟩ ⟨(lZ rfl (by first|rfl|(rw[a];first|done|rfl)|simp[a])),trivial⟩
 rintro E bw ⟨rfl,q,bj,S⟩;refine nN ?_;exact rz H S
def lk.k3(b:Int)(e:List ie)(f:List Chunk)(g:List iu)(c:List iz)(h:List Found):Option Bool :=
  bd (lF c h) λa =>
  bd (only (!decide (a.2≠0)) (oC (ig.mk b e f g c)) (ig.mk 0 [] [] [] [])) λi =>
  bd (only (!decide (a.2≠0)) (si a.1 i) false) λd =>
  bd (only (!(decide (a.2≠0)||(!d))) (Fy a.1) 0) λj =>
  if(((decide (a.2≠0)||(!d))||decide (j≠0))||decide (b<a.1.seq))then
    some false
  else
    bd (Kq) λk =>
    some k
def lk.l4(x2:Int)(d:Int)(e:List ie)(f:List Chunk)(g:List iu)(h:List iz)(a:List Found)(j:((List Found)×Int)→Option Bool):((List Found)×Int)→Option Bool
  | (c,b) =>
    if decide (b<(a.length:Int))then
      bd (rem (wu x2) (wu (a.length:Int))) λk =>
      bd (rem (wr (b+wr k)) (a.length:Int)) λl =>
      bd (ix a l) λm =>
      bd (app (α:=Found) c [m]) λi =>
      j (i,wr (b+1))
    else
      lk.k3 d e f g h c
def lk.k2(x2:Int)(a:Int)(b:List ie)(c:List Chunk)(d:List iu)(e:List iz)(f:List Found):Option Bool :=
  loop (lk.l4 x2 a b c d e f) ([],0)
def lk.l5(x2:Int)(e:Int)(f:List ie)(g:List Chunk)(h:List iu)(i:List iz)(l:((List ie)×(List Found)×Int)→Option Bool):((List ie)×(List Found)×Int)→Option Bool
  | (b,d,a) =>
    if decide (a<(b.length:Int))then
      bd (ix b a) λc =>
      bd (rK c.iw) λj =>
      bd (vk d (mP.mk 2 c.seq j) c.locs) λk =>
      l (b,k,wr (a+1))
    else
      lk.k2 x2 e f g h i d
def lk.k1(x2:Int)(g:List Chunk)(h:List ie)(a:Int)(b:List ie)(c:List Chunk)(d:List iu)(e:List iz):Option Bool :=
  bd (lS (ig.mk a b c d e) g) λf =>
  if(!f.2)then
    bd (Kq) λi =>
    some i
  else
    loop (lk.l5 x2 a b c d e) (h,f.1,0)
def lk.k7(a:Int)(i:((List Chunk)×(List ie)×Int×Int×(List ie)×(List Chunk)×(List iu)×(List iz))→Option Bool)(c:List Chunk)(d:List ie)(b:Int)(e:List ie)(f:List Chunk)(g:List iu)(h:List iz):Option Bool :=
  i (c,d,wr (a+1),b,e,f,g,h)
def lk.k8(b:Int)(e:((List Chunk)×(List ie)×Int×Int×(List ie)×(List Chunk)×(List iu)×(List iz))→Option Bool)(a:ig×Int)(c:List Chunk)(d:List ie):Option Bool :=
  lk.k7 b e c d a.1.seq a.1.ik a.1.chunks a.1.im a.1.iv
def lk.BJ(a:Int)(c:((List ie)×Int)→Option Bool)(b:List ie):Option Bool :=
  c (b,wr (a+1))
def lk.l9(g:Int)(b:List ie)(j:((List Chunk)×(List ie)×Int×Int×(List ie)×(List Chunk)×(List iu)×(List iz))→Option Bool)(d:ig×Int)(h:List Chunk)(f:((List ie)×Int)→Option Bool):((List ie)×Int)→Option Bool
  | (c,a) =>
    if decide (a<(b.length:Int))then
      bd (ix b a) λk =>
      bd (wa d.1 k.iw.name) λe =>
      bd (only (decide (e<0)) (ix b a) (ie.mk 0 (iF.mk [] []) [])) λl =>
      if(decide (e<0)&&decide (0<(l.locs.length:Int)))then
        bd (ix b a) λm =>
        bd (app (α:=ie) c [m]) λi =>
        lk.BJ a f i
      else
        lk.BJ a f c
    else
      lk.k8 g j d h c
def lk.l6(x1:List mJ)(x2:Int)(j:((List Chunk)×(List ie)×Int×Int×(List ie)×(List Chunk)×(List iu)×(List iz))→Option Bool):((List Chunk)×(List ie)×Int×Int×(List ie)×(List Chunk)×(List iu)×(List iz))→Option Bool
  | (h,i,b,c,a,d,e,f) =>
    if (decide (b < (x1.length:Int))&&decide (b < 30)) then
      bd (ix x1 b) λn =>
      bd (kF (ig.mk c a d e f) n) λg =>
      if((((!g.2)||decide (g.1.kind=4))||decide (g.1.kind=5))||decide (g.1.kind=2))then
        lk.k7 b j h i c a d e f
      else
        bd (lH (ig.mk c a d e f) g.1) λm =>
        if(!m)then
          lk.k7 b j h i c a d e f
        else
          bd (Ks (ig.mk c a d e f) g.1) λk =>
          if decide (k.2≠0)then
            lk.k7 b j h i c a d e f
          else
            bd (app (α:=Chunk) h g.1.chunks) λl =>
            loop (lk.l9 b a j k l) (i,0)
    else
      lk.k1 x2 h i c a d e f
def lk(x0:List Int)(x1:List mJ)(x2:Int):Option Bool :=
  bd (only (!decide (30<(x0.length:Int))) (sm x1) false) λb =>
  if(decide (30<(x0.length:Int))||b)then
    some true
  else
    bd (tL x0) λc =>
    bd (yb c) λa =>
    loop (lk.l6 x1 x2) ([],[],0,a.seq,a.ik,a.chunks,a.im,a.iv)
set_option maxHeartbeats 2000000 in
theorem ZJ{x0:List Int}{x1:List mJ}{x2:Int}{r:Bool}{v0:gE}{v1:gE}(hA:Gd F w)(h0:iq tI F v0 x0)(h1:iq mJ.t F v1 x1)(H:lk x0 x1 x2=some r):iN il KK 4 [v0,v1,.i .i64 x2] w λv w'=>∃(F':gL),v = .b r∧St [] w F F' [] w':=by
 refine vH Tryz.func4 ?_;have hS:=St.start hA;obtain⟨r1,eT,H⟩:=iy H;refine aZ ?_;refine gw hS eT (λy=>ZG hS.iH h1 y) ?_;intro w7 cq;refine jG.now ?_;refine aw ?_;refine qy H (λe9 H=>?_) (λe9 H=>?_)
 ·exact rz H cq
 ·obtain ⟨r9,fh,H⟩:=iy H;refine ax ?_;refine lm (ZI cq.iH h0 fh) ?_;rintro gS hh ⟨gl,_,rfl,dh⟩;have dY:=cq.call dh;have fL:=dh.ext;obtain ⟨cG,eU,H⟩:=iy H;refine ax ?_;obtain ⟨gb,fE,eG,cY⟩:=dY.kh 0 [] rfl (by decide) (by decide);refine lm (ZY cY.iH eG eU) ?_;rintro gT ho ⟨cQ,cJ,cK,cL,bW,rfl,dk⟩;have gr:=cY.call dk;have fK:=dk.ext;refine al ?_;intro d hk gq;refine sb 0 ([.i .i64 cG.seq,cJ,cK,cL,bW]) ?_;intro hq cg;refine qn ?_;refine aq ?_;refine aq ?_;refine iL (fun E wq=>∃ cA:List Chunk,∃ cC:List ie,∃ j:Int,∃ S:List ie,∃ U:List Chunk,∃ V:List iu,∃ X:List iz,lk.k1 x2 cA cC j S U V X=some r ∧ ∃ (aK:gL) (bR:gE) (bU:gE) (z:gE) (A:gE) (B:gE) (D:gE),E=[(2,.i .i64 x2),(7,pl d 0),(8,bR),(9,bU)]∧cQ.le aK∧iq ie.t aK z S∧iq Chunk.t aK A U∧iq iu.t aK B V∧iq iz.t aK D X∧iW cg [.box d [.i .i64 j,z,A,B,D],.row Chunk.t bR cA,.row ie.t bU cC] aK wq) ?_ ?_
  ·refine ax ?_;refine jH (λ(s:(List Chunk)×(List ie)×Int×Int×(List ie)×(List Chunk)×(List iu)×(List iz)) E wq=>∃(ae:gL)(aY:gE)(aD:gE)(m:gE)(n:gE)(p:gE)(x:gE),E=[(1,v1),(2,.i .i64 x2),(7,pl d 0),(8,aY),(9,aD),(10,.i .i64 s.2.2.1)]∧cQ.le ae∧iq ie.t ae m s.2.2.2.2.1∧iq Chunk.t ae n s.2.2.2.2.2.1∧iq iu.t ae p s.2.2.2.2.2.2.1∧iq iz.t ae x s.2.2.2.2.2.2.2∧iW cg [.box d [.i .i64 s.2.2.2.1,m,n,p,x],.row Chunk.t aY s.1,.row ie.t aD s.2.1] ae wq) H ?_ ?_
   ·have ei:=cg.lb Chunk.t;have ej:=ei.lb ie.t;obtain⟨gc,fG,eH,ek⟩:=ej.kh 3 [0,1,2,4,5,6] rfl (by decide) (by decide);obtain⟨gd,fH,eI,em⟩:=ek.kh 3 [0,1,2,4,5] rfl (by decide) (by decide);obtain⟨dT,fI,eJ,en⟩:=em.kh 3 [0,1,2,4] rfl (by decide) (by decide);have eo:St [] w F dT [.row ie.t (.sl none 0 (.k 0)) [],.row Chunk.t (.sl none 0 (.k 0)) [],.box d [.i .i64 cG.seq,cJ,cK,cL,bW],.row iz.t bW cG.iv] _:=en;obtain⟨dU,fJ,eK,ep⟩:=eo.kh 3 [0,1,2] rfl (by decide) (by decide);exact lo ⟨dU,(.sl none 0 (.k 0)),(.sl none 0 (.k 0)),cJ,cK,cL,bW,rfl,(((fG.trans fH).trans fI).trans fJ),(mo eH),(mo eI),(mo eJ),eK,ep.pick [2,1,0] (by decide)⟩
   ·rintro dI ⟨bE,bF,aV,R,a6,a7,a8,a9⟩ E hn hI H
    try dsimp only at hI
    obtain⟨ae,aY,aD,m,n,p,x,rfl,fD,Z,aR,aT,aU,b4⟩:=hI;refine aZ ?_;refine qy H (λe2 H=>?_) (λe2 H=>?_)
    ·refine qk ?_;refine iL (λE wq=>∃c4:List Chunk,∃c5:List ie,∃c2:Int,∃c6:List ie,∃c7:List Chunk,∃c8:List iu,∃c9:List iz,lk.k7 aV dI c4 c5 c2 c6 c7 c8 c9=some r ∧ ∃(aJ:gL)(bK:gE)(bM:gE)(bN:gE)(bO:gE)(bP:gE)(bQ:gE),E=[(1,v1),(2,.i .i64 x2),(7,pl d 0),(8,bK),(9,bM),(10,.i .i64 aV)]∧ae.le aJ∧iq ie.t aJ bN c6∧iq Chunk.t aJ bO c7∧iq iu.t aJ bP c8∧iq iz.t aJ bQ c9∧iW b4 [.box d [.i .i64 c2,bN,bO,bP,bQ],.row Chunk.t bK c4,.row ie.t bM c5] aJ wq) ?_ ?_
     ·refine ay ?_;obtain⟨fX,fz,aX,eX,H⟩:=iG H;refine nA (G:=ae) [0,1,2,3,4,9,5,6,7,8,10,11] rfl Ty.mixed (by kernel_rfl) b4.agree ?_;refine bL b4 0 (ig.cells (ig.mk R a6 a7 a8 a9) m n p x) [] ?_;obtain⟨_,⟨fP,fQ,rfl,fk,fl⟩,gz⟩:=js 5 (h1.mono (((fL.trans fE).trans fK).trans fD)) fz;refine au ?_;refine aM ?_;intro gp hs cZ;refine qM (f:=27) (args:=[.agg (ig.cells (ig.mk R a6 a7 a8 a9) m n p x),.agg (mJ.cells fX fP fQ)]) rfl rfl rfl rfl (ZH cZ.iH Z aR aT aU fk fl eX) ?_;rintro gU ht ⟨gj,cM,cN,cO,cP,rfl,du,dv,cs,dw,dl⟩;have ed:=cZ.call dl;have c:=dl.ext;refine jG.mW c ed.agree ?_;refine au ?_;refine sB 0 ([.i .i64 aX.1.kind,.i .i64 aX.1.snap.seq,.s aX.1.snap.iw.name,cM,cN,cO,.i .i64 aX.1.seq,.i .i64 aX.1.iQ,cP]) ?_;intro hv ch;refine aZ ?_;refine qy H (λe3 H=>?_) (λe3 H=>?_)
      ·refine jf _ rfl ?_;exact nj ⟨bE,bF,R,a6,a7,a8,a9,H,⟨_,aY,aD,m,n,p,x,rfl,iI,(Z.mono c),(aR.mono c),(aT.mono c),(aU.mono c),pk [1,2,3] ch⟩⟩
      ·obtain⟨gG,eY,H⟩:=iy H;refine ay ?_;refine qM (f:=28) (args:=[.agg (ig.cells (ig.mk R a6 a7 a8 a9) m n p x),.agg (Change.cells aX.1 cM cN cO cP)]) rfl rfl rfl rfl (ZL ch.iH (Z.mono c) (aR.mono c) (aT.mono c) (aU.mono c) du dv cs dw eY) ?_;rintro gV hw ⟨gk,rfl,ev⟩;have ci:=ch.oN ev;refine jG.now ?_;refine au ?_;refine qy H (λe4 H=>?_) (λe4 H=>?_)
       ·refine jf _ rfl ?_;exact nj ⟨bE,bF,R,a6,a7,a8,a9,H,⟨_,aY,aD,m,n,p,x,rfl,iI,(Z.mono c),(aR.mono c),(aT.mono c),(aU.mono c),pk [1,2,3] ci⟩⟩
       ·obtain⟨J,eZ,H⟩:=iy H;refine ax ?_;refine qM (f:=29) (args:=[.agg (ig.cells (ig.mk R a6 a7 a8 a9) m n p x),.agg (Change.cells aX.1 cM cN cO cP)]) rfl rfl rfl rfl (ZX ci.iH (Z.mono c) (aR.mono c) (aT.mono c) (aU.mono c) du dv cs dw eZ) ?_;rintro gW hy ⟨cR,ai,aj,ak,am,rfl,ct,cu,cw,cx,dm⟩;have gt:=ci.call dm;have ah:=dm.ext;refine jG.now ?_;refine au ?_;refine al ?_;intro a4 hx gs;refine sb 0 ([.i .i64 J.1.seq,ai,aj,ak,am]) ?_;intro hz cj;refine ay ?_;refine qy H (λe5 H=>?_) (λe5 H=>?_)
        ·refine jf _ rfl ?_;exact nj ⟨bE,bF,R,a6,a7,a8,a9,H,⟨_,aY,aD,m,n,p,x,rfl,iI,(Z.mono (c.trans ah)),(aR.mono (c.trans ah)),(aT.mono (c.trans ah)),(aU.mono (c.trans ah)),pk [2,3,4] cj⟩⟩
        ·obtain⟨bk,eN,H⟩:=iy H;refine ax ?_;refine ap 3 cj ((cs.mono ah).src cj.agree) eN ?_;intro ar h2 ck;refine au ?_;refine iL (λE wq=>∃bG:List ie,lk.k8 aV dI J bk bG=some r ∧ ∃(bY:gL)(bS:gE),E=[(1,v1),(2,.i .i64 x2),(7,pl d 0),(8,ar),(9,bS),(10,.i .i64 aV),(13,pl a4 0)]∧cR.le bY∧iW ck [.box a4 [.i .i64 J.1.seq,ai,aj,ak,am],.box d [.i .i64 R,m,n,p,x],.row Chunk.t ar bk,.row ie.t bS bG] bY wq) ?_ ?_
         ·refine ax ?_;refine jH (λ(s:(List ie)×Int) E wq=>∃(aO:gL)(ba:gE),E=[(1,v1),(2,.i .i64 x2),(7,pl d 0),(8,ar),(9,ba),(10,.i .i64 aV),(13,pl a4 0),(15,.i .i64 s.2)]∧cR.le aO∧iW ck [.box a4 [.i .i64 J.1.seq,ai,aj,ak,am],.box d [.i .i64 R,m,n,p,x],.row Chunk.t ar bk,.row ie.t ba s.1] aO wq) H ?_ ?_
          ·exact lo ⟨_,aD,rfl,iI,pk [0,2,3,4] ck⟩
          ·rintro fM ⟨cD,c3⟩ E h5 hI H
           try dsimp only at hI
           obtain⟨aO,ba,rfl,bI,I⟩:=hI;refine ay ?_;refine qy H (λe6 H=>?_) (λe6 H=>?_)
           ·refine qk ?_;refine iL (λE wq=>∃cE:List ie,lk.BJ c3 fM cE=some r ∧ ∃(bZ:gL)(bT:gE),E=[(1,v1),(2,.i .i64 x2),(7,pl d 0),(8,ar),(9,bT),(10,.i .i64 aV),(13,pl a4 0),(15,.i .i64 c3)]∧aO.le bZ∧iW I [.box a4 [.i .i64 J.1.seq,ai,aj,ak,am],.box d [.i .i64 R,m,n,p,x],.row Chunk.t ar bk,.row ie.t bT cE] bZ wq) ?_ ?_
            ·refine qZ ?_;refine kr ?_;obtain⟨ia,d1,dF,dy,H⟩:=iG H;obtain⟨fY,f0,H⟩:=iy H;refine sL (λE wq=>E=[(1,v1),(2,.i .i64 x2),(7,pl d 0),(8,ar),(9,ba),(10,.i .i64 aV),(13,pl a4 0),(15,.i .i64 c3),(112,.b (decide (dF<0)&&decide (0<(fY.locs.length:Int))))] ∧ ∃ca:gL,aO.le ca∧St [] w F ca [.box a4 [.i .i64 J.1.seq,ai,aj,ak,am],.box d [.i .i64 R,m,n,p,x],.row Chunk.t ar bk,.row ie.t ba cD] wq) ?_ ?_
             ·
              rcases nk (decide (dF<0))with a5|a5
              ·refine rf I ?_;refine bL I 0 (ig.cells J.1 ai aj ak am) [] ?_;refine qf Ty.Bl ?_;refine zr 1 Ty.Bc I ?_;refine qc ?_;obtain⟨eQ,f5⟩:=iD d1;obtain⟨gm,fa,b8⟩:=(Z.mono ((c.trans ah).trans bI)).el f5;obtain⟨fR,fS,rfl,fm,fn⟩:=fa;replace b8:=qj 4 b8;have cy:=b8.ky;refine qi kR Ty.oa cy eQ ?_;refine qr (nr 1 Ty.N7 rfl cy) ?_;refine qr (nr 0 Ty.N5 rfl cy) ?_;refine qq (la 1 Ty.Be rfl (b8.mono I.agree) (by first|omega|rfl) rfl) ?_;refine lq (Kt I.iH (mo ct) (mo cu) (mo cw) (mo cx) dy) I ?_;intro h8 cl;refine qr (iB rfl rfl qv) ?_;refine qc ?_;refine kC 103 a5 ?_;refine qf Ty.Bl ?_;refine zr 1 Ty.Bc cl ?_;refine qc ?_;have d2:=f0;rw[jX a5]at d2;obtain⟨eR,f6⟩:=iD d2;obtain⟨gn,fb,b9⟩:=(Z.mono ((c.trans ah).trans bI)).el f6;obtain⟨gQ,gR,rfl,g1,fo⟩:=fb;replace b9:=qj 4 b9;have dx:=b9.ky;refine qi kR Ty.oa dx eR ?_;refine qr (nr 3 Ty.N8 rfl dx) ?_;refine qq (la 3 Ty.sh rfl (b9.mono cl.agree) (by first|omega|rfl) rfl) ?_;refine qr (jV ov rfl fo.ln) ?_;refine qr (iB rfl rfl vg) ?_;refine qc ?_;refine ku ?_;exact lW _ ⟨rfl,aO,(gL.le.refl _),cl⟩ ⟨rfl,rfl,rfl,rfl,rfl,rfl,rfl,rfl,(lZ rfl (by first|rfl|(rw[a5];first|done|rfl)|simp[a5])),trivial⟩
              ·refine rf I ?_;refine bL I 0 (ig.cells J.1 ai aj ak am) [] ?_;refine qf Ty.Bl ?_;refine zr 1 Ty.Bc I ?_;refine qc ?_;obtain⟨eS,f7⟩:=iD d1;obtain⟨go,fc,bA⟩:=(Z.mono ((c.trans ah).trans bI)).el f7;obtain⟨fR,fS,rfl,fm,fn⟩:=fc;replace bA:=qj 4 bA;have cz:=bA.ky;refine qi kR Ty.oa cz eS ?_;refine qr (nr 1 Ty.N7 rfl cz) ?_;refine qr (nr 0 Ty.N5 rfl cz) ?_;refine qq (la 1 Ty.Be rfl (bA.mono I.agree) (by first|omega|rfl) rfl) ?_;refine lq (Kt I.iH (mo ct) (mo cu) (mo cw) (mo cx) dy) I ?_;intro h9 eg;refine qr (iB rfl rfl qv) ?_;refine qc ?_;refine kC 103 a5 ?_;refine je ?_;refine je ?_;refine je ?_;refine je ?_;refine qc ?_;refine ku ?_;exact lW _ ⟨rfl,aO,(gL.le.refl _),eg⟩ ⟨rfl,rfl,rfl,rfl,rfl,rfl,rfl,rfl,(lZ rfl (by first|rfl|(rw[a5];first|done|rfl)|simp[a5])),trivial⟩
             rintro E h7 ⟨rfl,ca,fF,da⟩;refine nN ?_;refine qy H (λe7 H=>?_) (λe7 H=>?_)
             ·obtain⟨dR,f1,fB,eO,H⟩:=iG H;obtain⟨_,⟨dJ,dK,rfl,fp,fq⟩,g0⟩:=js 4 (Z.mono (((c.trans ah).trans bI).trans fF)) f1;refine ax ?_;refine xm (kN (t:=ie.t) (vs:=[.agg (ie.cells dR dJ dK)]) (xs:=[dR]) kR Ty.AG rfl ⟨⟨dJ,dK,rfl,fp,fq⟩,trivial⟩ rfl rfl da) ?_;rintro gO hB db;refine ap 4 db (db.mi (k:=0) rfl) eO ?_;intro fV hC eh;refine ax ?_;exact nj ⟨fB,H,⟨_,fV,rfl,iI,pk [1,2,3,4] eh⟩⟩
             ·refine ax ?_;exact nj ⟨cD,H,⟨_,ba,rfl,iI,da⟩⟩
            ·rintro E h6 ⟨cE,H,bZ,bT,rfl,gB,ef⟩;refine ax ?_;exact nm H ⟨_,bT,rfl,iI,ef⟩
           ·refine jf _ rfl ?_;exact nj ⟨cD,H,⟨_,ba,rfl,iI,I⟩⟩
         ·rintro E h3 ⟨bG,H,bY,bS,rfl,gA,gu⟩;refine ax ?_;refine sb 1 ([.i .i64 J.1.seq,ai,aj,ak,am]) ?_;intro h4 ee;refine ax ?_;exact nj ⟨bk,bG,J.1.seq,J.1.ik,J.1.chunks,J.1.im,J.1.iv,H,⟨_,ar,bS,ai,aj,ak,am,rfl,iI,(mo ct),(mo cu),(mo cw),(mo cx),pk [1,2,3] ee⟩⟩
     ·rintro E hp ⟨c4,c5,c2,c6,c7,c8,c9,H,aJ,bK,bM,bN,bO,bP,bQ,rfl,g8,fv,fw,fx,fy,eb⟩;refine ax ?_;exact nm H ⟨_,bK,bM,bN,bO,bP,bQ,rfl,iI,fv,fw,fx,fy,eb⟩
    ·refine jf _ rfl ?_;exact nj ⟨bE,bF,R,a6,a7,a8,a9,H,⟨_,aY,aD,m,n,p,x,rfl,iI,Z,aR,aT,aU,b4⟩⟩
  ·rintro E hr ⟨cA,cC,j,S,U,V,X,H,aK,bR,bU,z,A,B,D,rfl,g9,bB,bC,bD,b1,ec⟩;obtain⟨gH,fd,H⟩:=iy H;refine aq ?_;obtain⟨gf,l,eL,dc⟩:=ec.kh 1 [0,2] rfl (by decide) (by decide);refine qM (f:=31) (args:=[.agg (ig.cells (ig.mk j S U V X) z A B D),bR]) rfl rfl rfl rfl (ZK dc.iH (bB.mono l) (bC.mono l) (bD.mono l) (b1.mono l) eL fd) ?_;rintro gX hD ⟨cS,fU,rfl,dn⟩;have bp:=dc.call dn;have Q:=dn.ext;refine jG.now ?_;refine ay ?_;refine qy H (λe8 H=>?_) (λe8 H=>?_)
   ·obtain⟨gI,fe,H⟩:=iy H;refine qs ?_;refine lp (Tm bp.iH fe) bp ?_;intro hE eq;exact rz H eq
   ·refine qk ?_;refine iL (λE wq=>∃bH:List Found,lk.k2 x2 j S U V X bH=some r ∧ ∃(bg:gL)(b3:gE),E=[(2,.i .i64 x2),(7,pl d 0),(16,b3)]∧cS.le bg∧iW bp [.box d [.i .i64 j,z,A,B,D],.row Found.t b3 bH] bg wq) ?_ ?_
    ·refine ax ?_;refine jH (λ(s:(List ie)×(List Found)×Int) E wq=>∃(bm:gL)(bJ:gE)(b2:gE),E=[(2,.i .i64 x2),(7,pl d 0),(9,bJ),(16,b2),(18,.i .i64 s.2.2)]∧cS.le bm∧iq ie.t bm bJ s.1∧iW bp [.box d [.i .i64 j,z,A,B,D],.row Found.t b2 s.2.1] bm wq) H ?_ ?_
     ·obtain⟨ga,g7,eF,ea⟩:=bp.kh 2 [0,1] rfl (by decide) (by decide);exact lo ⟨_,bU,fU,rfl,iI,eF,pk [1,0] ea⟩
     ·rintro gM ⟨g4,fA,g2⟩ E hi hI H
      try dsimp only at hI
      obtain⟨bm,bJ,b2,rfl,g6,d0,bo⟩:=hI;refine ay ?_;refine qy H (λe1 H=>?_) (λe1 H=>?_)
      ·refine ay ?_;obtain⟨bX,fu,dE,eV,H⟩:=iG H;obtain⟨gF,eW,H⟩:=iy H;refine nA (G:=bm) [0,1,2,3,4,5,6,7,8,9,10,13,14,15,16,17,11,12,18,19] rfl Ty.mixed (by kernel_rfl) bo.agree ?_;obtain⟨_,⟨fN,fO,rfl,fi,fj⟩,eD⟩:=js 4 d0 fu;refine au ?_;refine qq (pw 1 (iF.cells bX.iw fN) Ty.tK Ty.tz rfl (eD.mono bo.agree) (by first|omega|rfl) rfl (kY rfl)) ?_;refine au ?_;refine ql (Tt bo.iH fi eV) ?_;rintro cI hj ⟨gh,_,rfl,di⟩;have ce:=bo.call di;have dC:=di.ext;refine jG.mW dC ce.agree ?_;have eC:=(ce.kH (k:=0) rfl).cells;refine qr (tJ (vs:=[(0,.i .i64 2),(1,.i .i64 bX.seq),(2,cI)]) (v:=.agg (mP.cells (mP.mk 2 bX.seq dE) cI)) Ty.Hs rfl (by simp only[oS,eC];rfl)) ?_;obtain⟨fZ,dB,eE,cf⟩:=ce.kh 0 [1,2] rfl (by decide) (by decide);refine A7 dB cf.agree ?_;refine qM (f:=32) (args:=[b2,.agg (mP.cells (mP.mk 2 bX.seq dE) cI),fO]) rfl rfl rfl rfl (Kp (cf.zl 1 rfl) eE (mo fj) eW) ?_;rintro fT hm ⟨gi,_,rfl,dj⟩;have cX:=cf.yM 1 [0] rfl (by decide) (by decide) dj;have dD:=dj.ext;refine jG.mW dD cX.agree ?_;refine ax ?_;exact nm H ⟨_,bJ,fT,rfl,iI,(d0.mono ((dC.trans dB).trans dD)),pk [1,0] cX⟩
      ·refine jf _ rfl ?_;exact nj ⟨fA,H,⟨_,b2,rfl,iI,bo⟩⟩
    ·rintro E hF ⟨bH,H,bg,b3,rfl,M,cm⟩;refine aq ?_;refine iL (λE wq=>∃cF:List Found,lk.k3 j S U V X cF=some r ∧ ∃(cb:gL)(cH:gE),E=[(7,pl d 0),(19,cH)]∧bg.le cb∧iW cm [.box d [.i .i64 j,z,A,B,D],.row Found.t cH cF] cb wq) ?_ ?_
     ·refine ax ?_;refine jH (λ(s:(List Found)×Int) E wq=>∃(cd:gL)(bV:gE),E=[(2,.i .i64 x2),(7,pl d 0),(16,b3),(19,bV),(20,.i .i64 s.2)]∧bg.le cd∧iW cm [.box d [.i .i64 j,z,A,B,D],.row Found.t b3 bH,.row Found.t bV s.1] cd wq) H ?_ ?_
      ·have dZ:=cm.lb Found.t;exact lo ⟨bg,(.sl none 0 (.k 0)),rfl,(gL.le.refl _),dZ.pick [1,2,0] (by decide)⟩
      ·rintro gN ⟨fC,g3⟩ E hX hI H
       try dsimp only at hI
       obtain⟨cd,bV,rfl,gD,bh⟩:=hI;refine ay ?_;refine qr (jV EM rfl (bh.kH (k:=1) rfl)) ?_;refine au ?_;refine qy H (λeB H=>?_) (λeB H=>?_)
       ·obtain⟨ib,f2,ic,f3,H⟩:=iG H;obtain⟨dS,f4,g5,eP,H⟩:=iG H;refine ay ?_;refine qr (ml mH p9 rfl (rfl)) ?_;refine qc ?_;refine qr (jV EM rfl (bh.kH (k:=1) rfl)) ?_;refine qr (ml mH p9 rfl (rfl)) ?_;obtain⟨f8,fs⟩:=LR f2;refine qr (iB rfl rfl (J5 f8 fs)) ?_;refine qr (ml p9 mH rfl (rfl)) ?_;refine au ?_;refine qr (jV EM rfl (bh.kH (k:=1) rfl)) ?_;obtain⟨f9,ft⟩:=LR f3;refine qr (iB rfl rfl (J5 f9 ft)) ?_;obtain⟨_,⟨dL,rfl,fr⟩,gy⟩:=mw 7 1 bh f4;refine au ?_;refine xm (kN (t:=Found.t) (vs:=[.agg (Found.cells dS dL)]) (xs:=[dS]) EM Ty.L0 rfl ⟨⟨dL,rfl,fr⟩,trivial⟩ rfl rfl bh) ?_;rintro gP hY dg;refine ap 3 dg (dg.mi (k:=0) rfl) eP ?_;intro fW hZ eu;refine ax ?_;exact nm H ⟨_,fW,rfl,iI,pk [1,2,3] eu⟩
       ·refine jf _ rfl ?_;exact nj ⟨fC,H,⟨_,bV,rfl,iI,pk [0,2] bh⟩⟩
     ·rintro E hG ⟨cF,H,cb,cH,rfl,O,er⟩;obtain⟨ad,ff,H⟩:=iy H;refine aq ?_;obtain⟨gg,P,eM,dd⟩:=er.kh 1 [0] rfl (by decide) (by decide);refine lm (V7 dd.iH (b1.mono ((((l.trans Q).trans M).trans O).trans P)) eM ff) ?_;rintro gY hJ ⟨cT,bb,bc,be,bf,rfl,br,bs,bt,bu,dq⟩;have gx:=dd.call dq;have Y:=dq.ext;refine au ?_;refine al ?_;intro dW hH gv;refine sb 0 ([.i .i64 ad.1.seq,bb,bc,be,bf]) ?_;intro hK e;refine au ?_;refine kr ?_;refine kr ?_;obtain⟨gJ,c0,dG,c1,H⟩:=iG H;obtain⟨dH,dz,H⟩:=iy H;refine sL (λE wq=>E=[(207,.b (((decide (ad.2≠0)||(!dG))||decide (dH≠0))||decide (j<ad.1.seq)))] ∧ ∃cc:gL,cT.le cc∧St [] w F cc [.box dW [.i .i64 ad.1.seq,bb,bc,be,bf],.box d [.i .i64 j,z,A,B,D]] wq) ?_ ?_
      ·
       rcases nk (decide (ad.2≠0))with a|a
       ·refine rf e ?_;refine qc ?_;refine qr (iB rfl rfl Cp) ?_;refine qc ?_;refine kC 189 a ?_;refine je ?_;refine je ?_;refine qz ?_;refine q2 ?_;refine je ?_;refine qz ?_;refine q2 ?_;refine je ?_;refine je ?_;refine qz ?_;refine qc ?_;refine ku ?_;exact lW _ ⟨rfl,cT,(gL.le.refl _),e⟩ ⟨(lZ rfl (by first|rfl|(rw[a];first|done|rfl)|simp[a])),trivial⟩
       ·
        rcases nk (!dG)with g|g
        ·have bq:=e.mC 0 rfl;refine rh 0 bq e ?_;refine qc ?_;refine qr (iB rfl rfl Cp) ?_;refine qc ?_;refine kC 189 a ?_;refine qr (A4 (ig.cells ad.1 bb bc be bf) Ty.rb Ty.rv (oQ _) rfl (bq.held (HB.cons 0 bq e rfl HB.nil) (by simp)) (λq u h=>o5 (post:=[]) rfl h)) ?_;refine bL e 1 (ig.cells (ig.mk j S U V X) z A B D) [] ?_;have d3:=c0;rw[jX (by first|rfl|(rw[a];first|done|rfl)|simp[a,g])]at d3;refine qM (f:=20) (args:=[.agg (ig.cells (ig.mk j S U V X) z A B D)]) rfl rfl rfl rfl (Qn e.iH (bB.mono (((((l.trans Q).trans M).trans O).trans P).trans Y)) (bC.mono (((((l.trans Q).trans M).trans O).trans P).trans Y)) (bD.mono (((((l.trans Q).trans M).trans O).trans P).trans Y)) (b1.mono (((((l.trans Q).trans M).trans O).trans P).trans Y)) d3) ?_;rintro gZ hM ⟨bn,dM,dN,dO,dP,rfl,bv,bw,bz,b0,dr⟩;have co:=e.call dr;have aC:=dr.ext;refine nf 0 bq co aC ?_;have d4:=c1;rw[jX (by first|rfl|(rw[a];first|done|rfl)|simp[a,g])]at d4;refine ql (NK co.iH (mo br) (mo bs) (mo bt) (mo bu) bv bw bz b0 d4) ?_;rintro ha hN ⟨cU,rfl,ew⟩;have de:=co.oN ew;refine qh 0 bq de ?_;refine q3 ?_;refine kC 196 g ?_;refine je ?_;refine qz ?_;refine q2 ?_;refine je ?_;refine je ?_;refine qz ?_;refine qc ?_;refine ku ?_;exact lW _ ⟨rfl,bn,aC,de⟩ ⟨(lZ rfl (by first|rfl|(rw[a,g];first|done|rfl)|simp[a,g])),trivial⟩
        ·
         rcases nk (decide (dH≠0))with L|L
         ·have bi:=e.mC 0 rfl;refine rh 0 bi e ?_;refine qc ?_;refine qr (iB rfl rfl Cp) ?_;refine qc ?_;refine kC 189 a ?_;refine qr (A4 (ig.cells ad.1 bb bc be bf) Ty.rb Ty.rv (oQ _) rfl (bi.held (HB.cons 0 bi e rfl HB.nil) (by simp)) (λq u h=>o5 (post:=[]) rfl h)) ?_;refine bL e 1 (ig.cells (ig.mk j S U V X) z A B D) [] ?_;have d5:=c0;rw[jX (by first|rfl|(rw[a];first|done|rfl)|simp[a,g,L])]at d5;refine qM (f:=20) (args:=[.agg (ig.cells (ig.mk j S U V X) z A B D)]) rfl rfl rfl rfl (Qn e.iH (bB.mono (((((l.trans Q).trans M).trans O).trans P).trans Y)) (bC.mono (((((l.trans Q).trans M).trans O).trans P).trans Y)) (bD.mono (((((l.trans Q).trans M).trans O).trans P).trans Y)) (b1.mono (((((l.trans Q).trans M).trans O).trans P).trans Y)) d5) ?_;rintro hb hO ⟨bn,dM,dN,dO,dP,rfl,bv,bw,bz,b0,ds⟩;have cp:=e.call ds;have aC:=ds.ext;refine nf 0 bi cp aC ?_;have d6:=c1;rw[jX (by first|rfl|(rw[a];first|done|rfl)|simp[a,g,L])]at d6;refine ql (NK cp.iH (mo br) (mo bs) (mo bt) (mo bu) bv bw bz b0 d6) ?_;rintro hc hQ ⟨cU,rfl,ex⟩;have b5:=cp.oN ex;refine qh 0 bi b5 ?_;refine q3 ?_;refine kC 196 g ?_;refine bL b5 0 (ig.cells ad.1 bb bc be bf) [] ?_;have d7:=dz;rw[jX (by first|rfl|(rw[a,g];first|done|rfl)|simp[a,g,L])]at d7;refine ql (Ke b5.iH (mo br) (mo bs) (mo bt) (mo bu) d7) ?_;rintro hd hR ⟨dV,rfl,ey⟩;have df:=b5.oN ey;refine qh 0 bi df ?_;refine qr (iB rfl rfl Cp) ?_;refine q2 ?_;refine kC 201 L ?_;refine je ?_;refine je ?_;refine qz ?_;refine qc ?_;refine ku ?_;exact lW _ ⟨rfl,bn,aC,df⟩ ⟨(lZ rfl (by first|rfl|(rw[a,L,g];first|done|rfl)|simp[a,g,L])),trivial⟩
         ·have bj:=e.mC 0 rfl;refine rh 0 bj e ?_;refine qc ?_;refine qr (iB rfl rfl Cp) ?_;refine qc ?_;refine kC 189 a ?_;refine qr (A4 (ig.cells ad.1 bb bc be bf) Ty.rb Ty.rv (oQ _) rfl (bj.held (HB.cons 0 bj e rfl HB.nil) (by simp)) (λq u h=>o5 (post:=[]) rfl h)) ?_;refine bL e 1 (ig.cells (ig.mk j S U V X) z A B D) [] ?_;have d8:=c0;rw[jX (by first|rfl|(rw[a];first|done|rfl)|simp[a,g,L])]at d8;refine qM (f:=20) (args:=[.agg (ig.cells (ig.mk j S U V X) z A B D)]) rfl rfl rfl rfl (Qn e.iH (bB.mono (((((l.trans Q).trans M).trans O).trans P).trans Y)) (bC.mono (((((l.trans Q).trans M).trans O).trans P).trans Y)) (bD.mono (((((l.trans Q).trans M).trans O).trans P).trans Y)) (b1.mono (((((l.trans Q).trans M).trans O).trans P).trans Y)) d8) ?_;rintro he hT ⟨bn,dM,dN,dO,dP,rfl,bv,bw,bz,b0,dt⟩;have cr:=e.call dt;have aC:=dt.ext;refine nf 0 bj cr aC ?_;have d9:=c1;rw[jX (by first|rfl|(rw[a];first|done|rfl)|simp[a,g,L])]at d9;refine ql (NK cr.iH (mo br) (mo bs) (mo bt) (mo bu) bv bw bz b0 d9) ?_;rintro hf hU ⟨cU,rfl,ez⟩;have b6:=cr.oN ez;refine qh 0 bj b6 ?_;refine q3 ?_;refine kC 196 g ?_;refine bL b6 0 (ig.cells ad.1 bb bc be bf) [] ?_;have dA:=dz;rw[jX (by first|rfl|(rw[a,g];first|done|rfl)|simp[a,g,L])]at dA;refine ql (Ke b6.iH (mo br) (mo bs) (mo bt) (mo bu) dA) ?_;rintro hg hV ⟨dV,rfl,e0⟩;have b7:=b6.oN e0;refine qh 0 bj b7 ?_;refine qr (iB rfl rfl Cp) ?_;refine q2 ?_;refine kC 201 L ?_;refine qf Ty.N4 ?_;refine zr 0 Ty.pL b7 ?_;refine qf Ty.N4 ?_;refine zr 1 Ty.pL b7 ?_;refine qr (iB rfl rfl vg) ?_;refine qc ?_;refine ku ?_;exact lW _ ⟨rfl,bn,aC,b7⟩ ⟨(lZ rfl (by first|rfl|(rw[a,L,g];first|done|rfl)|simp[a,g,L])),trivial⟩
      rintro E hL ⟨rfl,cc,gC,cn⟩;refine nN ?_;refine qy H (λeA H=>?_) (λeA H=>?_)
      ·exact rz H cn
      ·obtain⟨gK,fg,H⟩:=iy H;refine ax ?_;refine lp (Tm cn.iH fg) cn ?_;intro hW et;exact rz H et
end
end Go.Wk.Lf
end
