/-  -/
import Derived.Test.YtfphkkaifgnlgaaGreatG5
set_option linter.unusedVariables false
set_option linter.unusedSimpArgs false
section
namespace Go.Wk.Lf
open Go.V Go.Proofs
noncomputable section
set_option maxRecDepth 100000
variable {K:Tb} {F:Frz} {w:Hp}
def zab.k4:Option Bool :=
  some true
def zab.l5 (x0:Catalog) (e:Int→Option Bool):Int→Option Bool
  | b =>
    if decide (b < (x0.exps.length:Int)) then
      bd (ix x0.exps b) fun a =>
      bd (only ((!(decide (a.seq < 0)||decide (x0.seq≤a.seq)))&&decide (0 < b)) (ix x0.exps (wr (b - 1))) (Exp.mk 0 0 [])) fun c =>
      bd (only (!((((decide (a.seq < 0)||decide (x0.seq≤a.seq))||(decide (0 < b)&&decide (a.seq≤c.seq)))||decide (a.of < 0))||decide (a.seq≤a.of))) (zbk x0 a.locs) false) fun d =>
      if ((((((decide (a.seq < 0)||decide (x0.seq≤a.seq))||(decide (0 < b)&&decide (a.seq≤c.seq)))||decide (a.of < 0))||decide (a.seq≤a.of))||(!d))||decide ((a.locs.length:Int)=0)) then
        some false
      else
        e (wr (b+1))
    else
      zab.k4
def zab.k3 (x0:Catalog):Option Bool :=
  loop (zab.l5 x0) 0
def zab.k7 (a:Int) (b:Int→Option Bool):Option Bool :=
  b (wr (a+1))
def zab.l9 (x0:Catalog) (b:Int) (c:Int→Option Bool) (e:Snap) (d:Int→Option Bool):Int→Option Bool
  | a =>
    if decide (a < (x0.exps.length:Int)) then
      bd (ix x0.exps a) fun f =>
      if decide (f.of=e.seq) then
        some false
      else
        d (wr (a+1))
    else
      zab.k7 b c
def zab.k8 (x0:Catalog) (a:Int) (b:Int→Option Bool) (c:Snap):Option Bool :=
  loop (zab.l9 x0 a b c) 0
def zab.l10 (x0:Catalog) (c:Int) (e:Int→Option Bool) (g:Snap) (b:(List (List UInt8))) (f:Int→Option Bool):Int→Option Bool
  | a =>
    if decide (a < (b.length:Int)) then
      bd (ix b a) fun h =>
      bd (zbs x0 h) fun d =>
      if decide (d < 0) then
        some false
      else
        f (wr (a+1))
    else
      zab.k8 x0 c e g
def zab.l6 (x0:Catalog) (h:Int→Option Bool):Int→Option Bool
  | b =>
    if decide (b < (x0.snaps.length:Int)) then
      bd (ix x0.snaps b) fun a =>
      bd (only ((!(decide (a.seq < 0)||decide (x0.seq≤a.seq)))&&decide (0 < b)) (ix x0.snaps (wr (b - 1))) (Snap.mk 0 (Manifest.mk [] []) [])) fun c =>
      bd (only (!((decide (a.seq < 0)||decide (x0.seq≤a.seq))||(decide (0 < b)&&decide (a.seq≤c.seq)))) (zcb a.man) false) fun d =>
      bd (only (!(((decide (a.seq < 0)||decide (x0.seq≤a.seq))||(decide (0 < b)&&decide (a.seq≤c.seq)))||(!d))) (zbk x0 a.locs) false) fun e =>
      bd (only (!((((decide (a.seq < 0)||decide (x0.seq≤a.seq))||(decide (0 < b)&&decide (a.seq≤c.seq)))||(!d))||(!e))) (zcl x0 a.man.name) 0) fun f =>
      if (((((decide (a.seq < 0)||decide (x0.seq≤a.seq))||(decide (0 < b)&&decide (a.seq≤c.seq)))||(!d))||(!e))||decide (f≠b)) then
        some false
      else
        bd (zbg a.man) fun g =>
        loop (zab.l10 x0 b h a g) 0
    else
      zab.k3 x0
def zab.k2 (x0:Catalog):Option Bool :=
  loop (zab.l6 x0) 0
def zab.l11 (x0:Catalog) (f:Int→Option Bool):Int→Option Bool
  | a =>
    if decide (a < (x0.chunks.length:Int)) then
      bd (ix x0.chunks a) fun b =>
      bd (only (decide (0 < a)) (ix x0.chunks (wr (a - 1))) (Chunk.mk (List.replicate 32 (0:UInt8)) false [] [])) fun g =>
      bd (only (decide (0 < a)) (zcx g.id b.id) false) fun c =>
      bd (only (!(decide (0 < a)&&(!c))) (zbk x0 b.locs) false) fun d =>
      bd (only ((!((decide (0 < a)&&(!c))||(!d)))&&b.staged) (zdi (b.data.length:Int) 1 64) false) fun e =>
      if ((((decide (0 < a)&&(!c))||(!d))||(b.staged&&(!e)))||((!b.staged)&&(decide (0 < (b.data.length:Int))||decide ((b.locs.length:Int)=0)))) then
        some false
      else
        f (wr (a+1))
    else
      zab.k2 x0
def zab.k1 (x0:Catalog):Option Bool :=
  loop (zab.l11 x0) 0
def zab.k13 (a:Int) (b:Int→Option Bool):Option Bool :=
  b (wr (a+1))
def zab.k14 (b:Int) (c:Int→Option Bool) (a:Vol) (d:Bool):Option Bool :=
  if d then
    if decide (a.files≠0) then
      some false
    else
      zab.k13 b c
  else
    if decide (a.state=2) then
      bd (zdi a.files 1 65535) fun e =>
      if (!e) then
        some false
      else
        zab.k13 b c
    else
      some false
def zab.l12 (x0:Catalog) (d:Int→Option Bool):Int→Option Bool
  | b =>
    if decide (b < (x0.vols.length:Int)) then
      bd (ix x0.vols b) fun a =>
      bd (zdi a.pool 0 1) fun c =>
      bd (only (!(!c)) (zdi a.epoch 0 1048576) false) fun e =>
      if ((!c)||(!e)) then
        some false
      else
        if decide (a.state=1) then
          zab.k14 b d a (decide (a.state=1))
        else
          zab.k14 b d a (decide (a.state=3))
    else
      zab.k1 x0
def zab (x0:Catalog):Option Bool :=
  bd (zdi x0.seq 0 1073741824) fun a =>
  bd (only (!((((!a)||decide (8 < (x0.snaps.length:Int)))||decide (200 < (x0.chunks.length:Int)))||decide (200 < (x0.exps.length:Int)))) (zdi (x0.vols.length:Int) 1 8) false) fun b =>
  if (((((!a)||decide (8 < (x0.snaps.length:Int)))||decide (200 < (x0.chunks.length:Int)))||decide (200 < (x0.exps.length:Int)))||(!b)) then
    some false
  else
    loop (zab.l12 x0) 0
set_option maxHeartbeats 2000000 in
theorem zgv {x0:Catalog} {r:Bool} {c:Val} {d:Val} {e:Val} {f:Val} (hA:Gd F w) (l:SlF Snap.t F c x0.snaps) (g:SlF Chunk.t F d x0.chunks) (j:SlF Exp.t F e x0.exps) (n:SlF Vol.t F f x0.vols) (H:zab x0=some r):Ret Tryz.prog K 24 [.agg (Catalog.cells x0 c d e f)] w fun v w'=>∃ (F':Frz),v = .b r∧St [] w F F' [] w':=by
 refine qa1 Tryz.func24 ?_;have hS:=St.start hA;refine qs ?_;refine bx ([.i .i64 x0.seq,c,d,e,f]) ?_;intro a w1 a9;obtain ⟨r2,bS,r3,bY,H⟩:=bd2 H;refine ay ?_;refine lp (zdg a9.good bS) a9 ?_;intro w4 aX;refine aw ?_;refine gw aX bY (fun y=>zdg aX.good y) ?_;intro dG am;refine Nxt.now ?_;refine aw ?_;refine qy H (fun b9 H=>?_) (fun b9 H=>?_)
 ·exact rz H am
 ·refine qk ?_;refine zac (jN (zab.k1 x0=some r) [(1,pl a 0)] am) ?_ ?_
  ·refine ax ?_;refine lj am (fun s:Int=>[(1,pl a 0),(3,.i .i64 s)]) H ?_;intro bh X bn dM cx aR H;refine ay ?_;refine qy H (fun bB H=>?_) (fun bB H=>?_)
   ·refine qk ?_;refine zac (jN (zab.k13 X bh=some r) [(1,pl a 0),(3,.i .i64 X)] aR) ?_ ?_
    ·obtain ⟨m,cm,H⟩:=zaj H;obtain ⟨_,rfl,cO⟩:=elx 4 (n.mono cx) cm;refine ax ?_;refine al ?_;intro bp dP cJ;refine sb 0 ([.i .i64 m.pool,.i .i64 m.epoch,.i .i64 m.state,.i .i64 m.files]) ?_;intro dQ aT;obtain ⟨dq,bZ,dr,ca,H⟩:=bd2 H;refine ay ?_;refine lp (zdg aT.good bZ) aT ?_;intro dR aU;refine aw ?_;refine gw aU ca (fun y=>zdg aU.good y) ?_;intro dT R;refine Nxt.now ?_;refine aw ?_;refine qy H (fun bC H=>?_) (fun bC H=>?_)
     ·exact rz H R
     ·refine qk ?_;refine aq ?_;refine zfa ?_;refine zac (fun E wq=>∃ ah:Bool,zab.k14 X bh m ah=some r ∧ ∃ (ae:Frz),E=[(1,pl a 0),(3,.i .i64 X),(4,pl bp 0),(66,.i .i64 m.state),(67,.b ah)]∧bn.le ae∧Same R ae wq) ?_ ?_
      ·refine aq ?_;refine qy H (fun bH H=>?_) (fun bH H=>?_)
       ·refine ziz ?_;exact nj ⟨decide (m.state=1),H,jj R⟩
       ·refine ax ?_;exact nj ⟨decide (m.state=3),H,jj R⟩
      ·rintro E dU ⟨ah,H,ae,rfl,dd,I⟩;refine qy H (fun bD H=>?_) (fun bD H=>?_)
       ·refine aq ?_;refine qy H (fun bE H=>?_) (fun bE H=>?_)
        ·exact rz H I
        ·refine ax ?_;exact nj ⟨H,jj (pk [1] I)⟩
       ·refine aq ?_;refine qy H (fun bF H=>?_) (fun bF H=>?_)
        ·obtain ⟨ds,cb,H⟩:=zaj H;refine aq ?_;refine lp (zdg I.good cb) I ?_;intro dV aV;refine au ?_;refine qy H (fun bG H=>?_) (fun bG H=>?_)
         ·exact rz H aV
         ·refine ax ?_;exact nj ⟨H,jj (pk [1] aV)⟩
        ·exact rz H I
    ·rintro E dN ⟨H,c9,rfl,db,br⟩;refine ax ?_;exact nm H (jj br)
   ·refine zbe _ rfl ?_;exact nj ⟨H,jj aR⟩
  ·rintro E dJ ⟨H,c6,rfl,x,aK⟩;refine zac (jN (zab.k2 x0=some r) [(1,pl a 0)] aK) ?_ ?_
   ·refine ax ?_;refine lj aK (fun s:Int=>[(1,pl a 0),(5,.i .i64 s)]) H ?_;intro dw cq c5 dC a5 aJ H;refine ay ?_;refine qy H (fun b8 H=>?_) (fun b8 H=>?_)
    ·obtain ⟨L,cl,H⟩:=zaj H;obtain ⟨_,⟨bi,bj,rfl,bM,cV,ce⟩,cN⟩:=elx 35 (g.mono (x.trans a5)) cl;refine ay ?_;refine xm (zis (cs:=zam (List.replicate 32 (0:UInt8))++([.b false,.sl none 0 (.k 0),.sl none 0 (.k 0)]:List Val)) Ty.ztk rfl aJ) ?_;rintro _ dD ⟨cF,rfl,cI⟩;refine sb 0 (zam L.id++([.b L.staged,bi,bj]:List Val)) ?_;intro dE D;refine ay ?_;obtain ⟨a8,J,dk,bT,H⟩:=bd2 H;obtain ⟨dl,bU,dm,bV,H⟩:=bd2 H;have V:(a8.id).length=32:=by
      rcases Bool.eq_false_or_eq_true (decide (0 < cq)) with a1 | a1
      ·have bc:=J;rw [zck a1] at bc;obtain ⟨cS,co⟩:=zaf bc;obtain ⟨cD,bW,a2⟩:=(g.mono (x.trans a5)).el co;obtain ⟨c0,c1,rfl,V,cf,cg⟩:=bW;replace a2:=qj 35 a2;have cQ:=a2.ixd;exact V
      ·have hy:=J;rw [zel a1] at hy;obtain rfl:=oi hy
       rfl
     refine rf D ?_;refine aw ?_;refine ge (mo g) J ?_;refine ge (mo g) J ?_;refine W_gs (v:=.agg (zam a8.id)) rfl rfl rfl rfl (fun ⟨ba,_⟩=>?_) ?_
     ·rw [ba];intro hK;have be:=J;rw [zck ba] at be;obtain ⟨cT,cp⟩:=zaf be;obtain ⟨cE,bX,U⟩:=(g.mono (x.trans a5)).el cp;obtain ⟨c0,c1,rfl,V,cf,cg⟩:=bX;replace U:=qj 35 U;have cR:=U.ixd;refine qq (zoj 0 (zam a8.id) Ty.ziu Ty.zfq rfl (U.mono D.agree) (by first | omega | rfl) rfl (Nat.le_of_ble_eq_true rfl)) ?_;exact hK
     refine aw ?_;refine W_gs (v:=.agg (zam L.id)) rfl rfl rfl rfl (fun ⟨bz,_⟩=>?_) ?_
     ·rw [bz];exact (qq (zdx 0 (zam L.id) Ty.ziu Ty.zfq (Nat.zero_lt_succ _) rfl D rfl (fun q u h=>zdp (post:=[.b L.staged,bi,bj]) rfl h)) ·)
     refine gw D bT (fun y=>zio D.good V bM y) ?_;intro dF Q;refine qw Q ?_;refine aw ?_;refine W_gs (v:=.agg (Catalog.cells x0 c d e f)) rfl rfl rfl rfl (fun ⟨b0,_⟩=>?_) ?_
     ·rw [b0];exact (qq (zdx 1 (Catalog.cells x0 c d e f) Ty.zjo Ty.zgk (Nat.zero_lt_succ _) rfl Q rfl (fun q u h=>zdp (post:=[]) rfl h)) ·)
     refine aw ?_;refine gw Q bU (fun y=>zhe Q.good (mo l) (mo g) (mo j) (mo n) ce y) ?_;intro dH ap;refine qw ap ?_;refine aw ?_;refine gwc ap bV (fun y=>zdg ap.good y) ?_;intro dI ar;refine qw ar ?_;refine aw ?_;refine qy H (fun bA H=>?_) (fun bA H=>?_)
     ·exact rz H ar
     ·refine ax ?_;exact nm H (jj (pk [1] ar))
    ·refine zbe _ rfl ?_;exact nj ⟨H,jj aJ⟩
   ·rintro E dK ⟨H,c7,rfl,a6,aO⟩;refine zac (jN (zab.k3 x0=some r) [(1,pl a 0)] aO) ?_ ?_
    ·refine ax ?_;refine lj aO (fun s:Int=>[(1,pl a 0),(7,.i .i64 s)]) H ?_;intro bg p bl d0 bf aC H;refine ay ?_;refine qy H (fun b2 H=>?_) (fun b2 H=>?_)
     ·refine qk ?_;refine zac (jN (zab.k7 p bg=some r) [(1,pl a 0),(7,.i .i64 p)] aC) ?_ ?_
      ·obtain ⟨z,ci,H⟩:=zaj H;obtain ⟨_,⟨Y,a7,rfl,bb,cd⟩,cL⟩:=elx 4 (l.mono ((x.trans a6).trans bf)) ci;refine ax ?_;refine al ?_;intro ai d2 cH;refine sb 0 ([.i .i64 z.seq,.s z.man.name,Y,a7]) ?_;intro d3 M;refine ay ?_;obtain ⟨ea,a3,de,bN,H⟩:=bd2 H;obtain ⟨df,bO,dg,bP,H⟩:=bd2 H;refine zbw (G:=bl) [0,1,2,3,4,5,6,7,8,9,10,11,12,13,14,15,16,17,18,19,20,21,22,23,24,25,26,27,28,29,30,31,32,33,34,35,36,37,38,39,40,41,42,43,45,44,46,47] rfl Ty.mixed (by kernel_rfl) M.agree ?_;refine aw ?_;refine gec (mo l) a3 ?_;refine gec (mo l) a3 ?_;refine gec (mo l) a3 ?_;refine aw ?_;refine W_gs (v:=.agg (Manifest.cells z.man Y)) rfl rfl rfl rfl (fun ⟨bu,_⟩=>?_) ?_
       ·rw [bu];exact (qq (zdx 0 (Manifest.cells z.man Y) Ty.zoy Ty.zjk (Nat.zero_lt_succ _) rfl M rfl (fun q u h=>zdp (post:=[a7]) rfl h)) ·)
       refine gw M bN (fun y=>zll M.good bb y) ?_;intro d4 O;refine qw O ?_;refine aw ?_;refine W_gs (v:=.agg (Catalog.cells x0 c d e f)) rfl rfl rfl rfl (fun ⟨bv,_⟩=>?_) ?_
       ·rw [bv];exact (qq (zdx 1 (Catalog.cells x0 c d e f) Ty.zjo Ty.zgk (Nat.zero_lt_succ _) rfl O rfl (fun q u h=>zdp (post:=[]) rfl h)) ·)
       refine aw ?_;refine gw O bO (fun y=>zhe O.good (mo l) (mo g) (mo j) (mo n) cd y) ?_;intro d5 P;refine qw P ?_;refine aw ?_;refine W_gs (v:=.agg (Catalog.cells x0 c d e f)) rfl rfl rfl rfl (fun ⟨bw,_⟩=>?_) ?_
       ·rw [bw];exact (qq (zdx 1 (Catalog.cells x0 c d e f) Ty.zjo Ty.zgk (Nat.zero_lt_succ _) rfl P rfl (fun q u h=>zdp (post:=[]) rfl h)) ·)
       refine aw ?_;refine gw P bP (fun y=>zjm P.good (mo l) (mo g) (mo j) (mo n) y) ?_;intro d6 A;refine qw A ?_;refine aw ?_;refine qy H (fun b3 H=>?_) (fun b3 H=>?_)
       ·exact rz H A
       ·obtain ⟨dh,bQ,H⟩:=zaj H;refine ax ?_;refine qr (zdx 0 (Manifest.cells z.man Y) Ty.zoy Ty.zjk (Nat.zero_lt_succ _) rfl A rfl (fun q u h=>zdp (post:=[a7]) rfl h)) ?_;refine lm (zou A.good bb bQ) ?_;rintro c3 d7 ⟨bo,_,rfl,bK,aY⟩;have aj:=A.call aY;have cz:=aY.ext;refine au ?_;refine zac (jN (zab.k8 x0 p bg z=some r) [(1,pl a 0),(7,.i .i64 p),(8,pl ai 0)] aj) ?_ ?_
        ·refine ax ?_;refine zbo (fun (s:Int) E wq=>∃ (ad:Frz),E=[(1,pl a 0),(7,.i .i64 p),(8,pl ai 0),(9,c3),(10,.i .i64 s)]∧bo.le ad∧Same aj ad wq) H ?_ ?_
         ·exact lo (jj aj)
         ·rintro dv cY E dA hI H
          try dsimp only at hI
          obtain ⟨ad,rfl,cu,B⟩:=hI;refine ay ?_;refine qy H (fun b6 H=>?_) (fun b6 H=>?_)
          ·refine ay ?_;obtain ⟨ec,ck,di,bR,H⟩:=bd2 H;refine rf B ?_;refine qq (zdx 1 (Catalog.cells x0 c d e f) Ty.zjo Ty.zgk (Nat.zero_lt_succ _) rfl B rfl (fun q u h=>zdp (post:=[]) rfl h)) ?_;obtain ⟨_,⟨rfl,bL⟩,cM⟩:=elx 32 (bK.mono cu) ck;refine au ?_;refine lq (zfv B.good (mo l) (mo g) (mo j) (mo n) bL bR) B ?_;intro dB aH;refine au ?_;refine qy H (fun b7 H=>?_) (fun b7 H=>?_)
           ·exact rz H aH
           ·refine ax ?_;exact nm H (jj aH)
          ·refine zbe _ rfl ?_;exact nj ⟨H,jj B⟩
        ·rintro E d8 ⟨H,bm,rfl,cr,aD⟩;refine ax ?_;refine zbo (fun (s:Int) E wq=>∃ (Z:Frz),E=[(1,pl a 0),(7,.i .i64 p),(8,pl ai 0),(11,.i .i64 s)]∧bm.le Z∧Same aD Z wq) H ?_ ?_
         ·exact lo (jj aD)
         ·rintro du cX E d9 hI H
          try dsimp only at hI
          obtain ⟨Z,rfl,ct,ak⟩:=hI;refine ay ?_;refine qy H (fun b4 H=>?_) (fun b4 H=>?_)
          ·refine ay ?_;obtain ⟨eb,cj,H⟩:=zaj H;refine rn ?_;obtain ⟨_,⟨dy,rfl,cU⟩,_⟩:=elx 3 (j.mono (((((x.trans a6).trans bf).trans cz).trans cr).trans ct)) cj;refine au ?_;refine qy H (fun b5 H=>?_) (fun b5 H=>?_)
           ·exact rz H ak
           ·refine ax ?_;exact nm H (jj ak)
          ·refine ax ?_;exact nj ⟨H,jj (pk [1] ak)⟩
      ·rintro E d1 ⟨H,c4,rfl,da,bq⟩;refine ax ?_;exact nm H (jj bq)
     ·refine zbe _ rfl ?_;exact nj ⟨H,jj aC⟩
    ·rintro E dL ⟨H,c8,rfl,cw,aP⟩;refine zac (jO (zab.k4=some r) [] aP []) ?_ ?_
     ·refine ax ?_;refine lj aP (fun s:Int=>[(1,pl a 0),(12,.i .i64 s)]) H ?_;intro dx cZ cC dS cy bt H;refine ay ?_;refine qy H (fun bI H=>?_) (fun bI H=>?_)
      ·obtain ⟨bk,cn,H⟩:=zaj H;obtain ⟨_,⟨c2,rfl,ch⟩,cP⟩:=elx 3 (j.mono (((x.trans a6).trans cw).trans cy)) cn;refine ay ?_;refine al ?_;intro cG dW cK;refine sb 0 ([.i .i64 bk.seq,.i .i64 bk.of,c2]) ?_;intro dX S;refine ay ?_;obtain ⟨ed,a4,dt,cc,H⟩:=bd2 H;refine rf S ?_;refine aw ?_;refine gec (mo j) a4 ?_;refine gec (mo j) a4 ?_;refine gec (mo j) a4 ?_;refine aw ?_;refine W_gs (v:=.agg (Catalog.cells x0 c d e f)) rfl rfl rfl rfl (fun ⟨b1,_⟩=>?_) ?_
       ·rw [b1];exact (qq (zdx 1 (Catalog.cells x0 c d e f) Ty.zjo Ty.zgk (Nat.zero_lt_succ _) rfl S rfl (fun q u h=>zdp (post:=[]) rfl h)) ·)
       refine aw ?_;refine gw S cc (fun y=>zhe S.good (mo l) (mo g) (mo j) (mo n) ch y) ?_;intro dZ a0;refine qw a0 ?_;refine aw ?_;refine qy H (fun bJ H=>?_) (fun bJ H=>?_)
       ·exact rz H a0
       ·refine ax ?_;exact nm H (jj (pk [1] a0))
      ·refine zbe _ rfl ?_;exact nj ⟨H,jj (pk [] bt)⟩
     ·rintro E dO ⟨H,cA,rfl,dc,bs⟩;exact rz H bs
def zbf.k1 (x0:Manifest) (l4:List Part):Option Manifest :=
  some (Manifest.mk x0.name l4)
def zbf.l2 (x0:Manifest) (e:((List Part) × Int)→Option Manifest):((List Part) × Int)→Option Manifest
  | (l11,a) =>
    if decide (a < (x0.parts.length:Int)) then
      bd (ix x0.parts a) fun b =>
      bd (app (α:=(List UInt8)) [] b.ids) fun c =>
      bd (app (α:=Part) l11 [(Part.mk b.path b.size c)]) fun d =>
      e (d,wr (a+1))
    else
      zbf.k1 x0 l11
def zbf (x0:Manifest):Option Manifest :=
  loop (zbf.l2 x0) ([],0)
theorem zgz {x0:Manifest} {r:Manifest} {c:Val} (hA:Gd F w) (y:SlF Part.t F c x0.parts) (H:zbf x0=some r):Ret Tryz.prog K 62 [.agg (Manifest.cells x0 c)] w fun v w'=>∃ (F':Frz) (u:Val),v = .agg (Manifest.cells r u)∧SlF Part.t F' u (r.parts)∧St [] w F F' [] w':=by
 refine qa1 Tryz.func62 ?_;have hS:=St.start hA;refine qs ?_;refine bx ([.s x0.name,c]) ?_;intro d w1 ad;refine al ?_;intro e w2 j;refine qn ?_;refine aq ?_;refine zac (fun E wq=>∃ l4:List Part,zbf.k1 x0 l4=some r ∧ ∃ (h:Frz) (b:Val),E=[(1,pl d 0),(2,pl e 0),(3,b)]∧F.le h∧Also j [.box e [.s [],.sl none 0 (.k 0)],.box d [.s x0.name,c],.row Part.t b l4] h wq) ?_ ?_
 ·refine ax ?_;refine zbo (fun (s:(List Part) × Int) E wq=>∃ (g:Frz) (f:Val),E=[(1,pl d 0),(2,pl e 0),(3,f),(4,.i .i64 s.2)]∧F.le g∧Also j [.box e [.s [],.sl none 0 (.k 0)],.box d [.s x0.name,c],.row Part.t f s.1] g wq) H ?_ ?_
  ·have I:=j.nilRow Part.t;exact lo ⟨F,(.sl none 0 (.k 0)),rfl,(Frz.le.refl _),I.pick [1,2,0] (by decide)⟩
  ·rintro a2 ⟨l11,am⟩ E a5 hI H
   try dsimp only at hI
   obtain ⟨g,f,rfl,U,z⟩:=hI;refine ay ?_;refine qy H (fun L H=>?_) (fun L H=>?_)
   ·obtain ⟨a,S,H⟩:=zaj H;obtain ⟨_,⟨V,rfl,R⟩,ak⟩:=elx 3 (y.mono U) S;refine ay ?_;refine al ?_;intro Z a6 ae;refine sb 0 ([.s a.path,.i .i64 a.size,V]) ?_;intro a8 A;obtain ⟨q,P,H⟩:=zaj H;refine ax ?_;have m:=A.nilRow tId;refine xm (zep (t:=tId) 0 Tryz.underlying118 Ty.zwx Ty.zk118 rfl rfl m rfl (R.src m.agree) P) ?_;rintro l a9 ah;refine au ?_;refine sc 1 ([.s a.path,.i .i64 a.size,l]) ?_;intro aC B;obtain ⟨ap,Q,H⟩:=zaj H;refine ax ?_;obtain ⟨Y,ar,M,G⟩:=B.freezeR 0 [1,2,3,4] rfl (by decide) (by decide);refine xm (E_bs (t:=Part.t) (vs:=[.agg (Part.cells (Part.mk a.path a.size q) l)]) (xs:=[(Part.mk a.path a.size q)]) Tryz.underlying41 Ty.zvo rfl ⟨⟨l,rfl,M⟩,trivial⟩ rfl rfl G) ?_;rintro a3 aD n;refine xm (zep (t:=Part.t) 4 Tryz.underlying41 Ty.zvo Ty.zk41 rfl rfl n rfl (n.rowSrc (k:=0) rfl) Q) ?_;rintro X aH D;refine ax ?_;exact nm H ⟨_,X,rfl,lec,pk [2,3,4] D⟩
   ·refine zbe _ rfl ?_;exact nj ⟨l11,H,⟨_,f,rfl,lec,z⟩⟩
 ·rintro E w3 ⟨l4,H,h,b,rfl,a0,ai⟩;refine aq ?_;refine sc 1 ([.s x0.name,b]) ?_;intro w7 aj;refine ax ?_;refine sb 0 ([.s x0.name,b]) ?_;intro w8 J;refine qn ?_;obtain ⟨x,a1,O,p⟩:=J.freezeR 2 [0,1] rfl (by decide) (by decide);obtain rfl:=oi H;refine zgb (vs:=[.agg (Manifest.cells (Manifest.mk x0.name l4) b)]) rfl ⟨(zeo 0 Ty.zoy Ty.zjk p rfl rfl),trivial⟩ ?_;exact ⟨x,b,rfl,O,p.pick [] (by decide)⟩
def zdq (x0:List Loc):Option (List Loc) :=
  bd (app (α:=Loc) [] x0) fun a =>
  some a
theorem zfb {x0:List Loc} {r:(List Loc)} {c:Val} (hA:Gd F w) (d:SlF Loc.t F c x0) (H:zdq x0=some r):Ret Tryz.prog K 63 [c] w fun v w'=>∃ (F':Frz) (b:Val),v=b∧St [] w F F' [.row Loc.t b (r)] w':=by
 refine qa1 Tryz.func63 ?_;have hS:=St.start hA;obtain ⟨h,f,H⟩:=zaj H;refine ax ?_;have a:=hS.nilRow Loc.t;refine xm (zep (t:=Loc.t) 0 Tryz.underlying44 Ty.zss Ty.zk44 rfl rfl a rfl (d.src a.agree) f) ?_;rintro g i e;refine au ?_;obtain rfl:=oi H;refine qt ?_;exact ⟨F,g,rfl,e⟩
def zbl.k1 (l2:List Chunk):Option (List Chunk) :=
  some l2
def zbl.l2 (x0:List Chunk) (f:((List Chunk) × Int)→Option (List Chunk)):((List Chunk) × Int)→Option (List Chunk)
  | (l6,b) =>
    if decide (b < (x0.length:Int)) then
      bd (ix x0 b) fun a =>
      bd (zeg a.data) fun d =>
      bd (zdq a.locs) fun e =>
      bd (app (α:=Chunk) l6 [(Chunk.mk a.id a.staged d e)]) fun c =>
      f (c,wr (b+1))
    else
      zbl.k1 l6
def zbl (x0:List Chunk):Option (List Chunk) :=
  loop (zbl.l2 x0) ([],0)
theorem zfw {x0:List Chunk} {r:(List Chunk)} {p:Val} (hA:Gd F w) (J:SlF Chunk.t F p x0) (H:zbl x0=some r):Ret Tryz.prog K 64 [p] w fun v w'=>∃ (F':Frz) (z:Val),v=z∧St [] w F F' [.row Chunk.t z (r)] w':=by
 refine qa1 Tryz.func64 ?_;have hS:=St.start hA;refine aq ?_;refine aq ?_;refine zac (fun E wq=>∃ l2:List Chunk,zbl.k1 l2=some r ∧ ∃ (f:Frz) (j:Val),E=[(3,j)]∧F.le f∧Also hS [.row Chunk.t j l2] f wq) ?_ ?_
 ·refine ax ?_;refine zbo (fun (s:(List Chunk) × Int) E wq=>∃ (g:Frz) (l:Val),E=[(0,p),(3,l),(4,.i .i64 s.2)]∧F.le g∧Also hS [.row Chunk.t l s.1] g wq) H ?_ ?_
  ·have R:=hS.nilRow Chunk.t;exact lo ⟨F,(.sl none 0 (.k 0)),rfl,(Frz.le.refl _),R⟩
  ·rintro aJ ⟨l6,i9⟩ E w5 hI H
   try dsimp only at hI
   obtain ⟨g,l,rfl,aj,u⟩:=hI;refine ay ?_;refine qy H (fun S H=>?_) (fun S H=>?_)
   ·obtain ⟨a,ai,H⟩:=zaj H;obtain ⟨_,⟨ap,D,rfl,Y,ae,ah⟩,a7⟩:=elx 35 (J.mono aj) ai;refine ay ?_;refine xm (zis (cs:=zam (List.replicate 32 (0:UInt8))++([.b false,.sl none 0 (.k 0),.sl none 0 (.k 0)]:List Val)) Ty.ztk rfl u) ?_;rintro _ aP ⟨I,rfl,a5⟩;refine sb 0 (zam a.id++([.b a.staged,ap,D]:List Val)) ?_;intro a0 d;refine ay ?_;obtain ⟨A,Z,B,ad,H⟩:=bd2 H;have c:=d.boxAt 0 rfl;refine zbw (G:=(g.hold a0 [I])) [0,1,3,4,2,6,5,7,8,9] rfl Ty.mixed (by kernel_rfl) (HB.agree (HB.cons 0 c d rfl HB.nil) d.agree) ?_;refine au ?_;refine qr (zdo Ty.zgj rfl (c.held (HB.cons 0 c d rfl HB.nil) (by simp)) rfl) ?_;refine ql (zgf d.good ae Z) ?_;rintro m aR ⟨a3,_,rfl,x⟩;have e:=d.call x;have ak:=x.ext;refine Nxt.frz (HB.le (HB.cons 1 c e rfl HB.nil) ak) (HB.agree (HB.cons 1 c e rfl HB.nil) e.agree) ?_;refine au ?_;refine ql (zfb e.good (mo ah) ad) ?_;rintro n aT ⟨a4,_,rfl,y⟩;have h:=e.call y;have am:=y.ext;refine Nxt.frz (HB.le (HB.cons 2 c h rfl HB.nil) am) (HB.agree (HB.cons 2 c h rfl HB.nil) h.agree) ?_;refine zqz (by kernel_rfl) h.agree ?_;refine sC 2 (zam a.id++([.b a.staged,m,D]:List Val)) ?_;intro aU a6;refine au ?_;refine sC 2 (zam a.id++([.b a.staged,m,n]:List Val)) ?_;intro aV M;obtain ⟨a9,X,H⟩:=zaj H;refine ax ?_;obtain ⟨a1,aD,U,P⟩:=M.freezeR 1 [0,2,3] rfl (by decide) (by decide);obtain ⟨a2,aH,V,Q⟩:=P.freezeR 0 [1,2] rfl (by decide) (by decide);refine xm (E_bs (t:=Chunk.t) (vs:=[.agg (Chunk.cells (Chunk.mk a.id a.staged A B) m n)]) (xs:=[(Chunk.mk a.id a.staged A B)]) Tryz.underlying35 Ty.znh rfl ⟨⟨m,n,rfl,Y,(mo U),V⟩,trivial⟩ rfl rfl Q) ?_;rintro aK aX q;refine xm (zep (t:=Chunk.t) 2 Tryz.underlying35 Ty.znh Ty.zk35 rfl rfl q rfl (q.rowSrc (k:=0) rfl) X) ?_;rintro ar aY O;refine ax ?_;exact nm H ⟨_,ar,rfl,lec,pk [2] O⟩
   ·refine zbe _ rfl ?_;exact nj ⟨l6,H,⟨_,l,rfl,lec,u⟩⟩
 ·rintro E w1 ⟨l2,H,f,j,rfl,aC,L⟩;refine aq ?_;obtain rfl:=oi H;refine qt ?_;exact ⟨f,j,rfl,L⟩
def zaw.k2 (x0:Catalog) (l4:List Snap) (l8:List Exp):Option Catalog :=
  bd (zbl x0.chunks) fun a =>
  bd (app (α:=Vol) [] x0.vols) fun l12 =>
  some (Catalog.mk x0.seq l4 a l8 l12)
def zaw.l3 (x0:Catalog) (l4:List Snap) (f:((List Exp) × Int)→Option Catalog):((List Exp) × Int)→Option Catalog
  | (c,a) =>
    if decide (a < (x0.exps.length:Int)) then
      bd (ix x0.exps a) fun b =>
      bd (zdq b.locs) fun e =>
      bd (app (α:=Exp) c [(Exp.mk b.seq b.of e)]) fun d =>
      f (d,wr (a+1))
    else
      zaw.k2 x0 l4 c
def zaw.k1 (x0:Catalog) (l4:List Snap):Option Catalog :=
  loop (zaw.l3 x0 l4) ([],0)
def zaw.l4 (x0:Catalog) (g:((List Snap) × Int)→Option Catalog):((List Snap) × Int)→Option Catalog
  | (c,a) =>
    if decide (a < (x0.snaps.length:Int)) then
      bd (ix x0.snaps a) fun b =>
      bd (zbf b.man) fun e =>
      bd (zdq b.locs) fun f =>
      bd (app (α:=Snap) c [(Snap.mk b.seq e f)]) fun d =>
      g (d,wr (a+1))
    else
      zaw.k1 x0 c
def zaw (x0:Catalog):Option Catalog :=
  loop (zaw.l4 x0) ([],0)
set_option maxHeartbeats 2000000 in
theorem zkl {x0:Catalog} {r:Catalog} {n:Val} {g:Val} {d:Val} {b:Val} (hA:Gd F w) (aH:SlF Snap.t F n x0.snaps) (aJ:SlF Chunk.t F g x0.chunks) (aK:SlF Exp.t F d x0.exps) (aO:SlF Vol.t F b x0.vols) (H:zaw x0=some r):Ret Tryz.prog K 22 [.agg (Catalog.cells x0 n g d b)] w fun v w'=>∃ (F':Frz) (a3:Val) (a4:Val) (a5:Val) (a6:Val),v = .agg (Catalog.cells r a3 a4 a5 a6)∧St [] w F F' [.row Snap.t a3 (r.snaps),.row Chunk.t a4 (r.chunks),.row Exp.t a5 (r.exps),.row Vol.t a6 (r.vols)] w':=by
 refine qa1 Tryz.func22 ?_;have hS:=St.start hA;refine qs ?_;refine bx ([.i .i64 x0.seq,n,g,d,b]) ?_;intro c w1 bG;refine al ?_;intro e w2 U;refine qn ?_;refine aq ?_;refine zac (fun E wq=>∃ l4:List Snap,zaw.k1 x0 l4=some r ∧ ∃ (x:Frz) (a:Val),E=[(1,pl c 0),(2,pl e 0),(3,a)]∧F.le x∧Also U [.box e [.i .i64 0,.sl none 0 (.k 0),.sl none 0 (.k 0),.sl none 0 (.k 0),.sl none 0 (.k 0)],.box c [.i .i64 x0.seq,n,g,d,b],.row Snap.t a l4] x wq) ?_ ?_
 ·refine ax ?_;refine zbo (fun (s:(List Snap) × Int) E wq=>∃ (D:Frz) (P:Val),E=[(1,pl c 0),(2,pl e 0),(3,P),(4,.i .i64 s.2)]∧F.le D∧Also U [.box e [.i .i64 0,.sl none 0 (.k 0),.sl none 0 (.k 0),.sl none 0 (.k 0),.sl none 0 (.k 0)],.box c [.i .i64 x0.seq,n,g,d,b],.row Snap.t P s.1] D wq) H ?_ ?_
  ·have bc:=U.nilRow Snap.t;exact lo ⟨F,(.sl none 0 (.k 0)),rfl,(Frz.le.refl _),bc.pick [1,2,0] (by decide)⟩
  ·rintro bZ ⟨bw,bS⟩ E cu hI H
   try dsimp only at hI
   obtain ⟨D,P,rfl,b0,aX⟩:=hI;refine ay ?_;refine qy H (fun bf H=>?_) (fun bf H=>?_)
   ·obtain ⟨p,bu,H⟩:=zaj H;obtain ⟨_,⟨a9,X,rfl,br,bs⟩,bQ⟩:=elx 4 (aH.mono b0) bu;refine ay ?_;refine al ?_;intro aD cw bN;refine sb 0 ([.i .i64 p.seq,.s p.man.name,a9,X]) ?_;intro b8 l;refine ay ?_;obtain ⟨M,bo,a8,bp,H⟩:=bd2 H;have m:=l.boxAt 0 rfl;refine zbw (G:=(D.hold b8 [aD])) [0,1,3,4,2,6,5,7,8,9] rfl Ty.mixed (by kernel_rfl) (HB.agree (HB.cons 0 m l rfl HB.nil) l.agree) ?_;refine au ?_;refine qq (zdx 0 (Manifest.cells p.man a9) Ty.zoy Ty.zjk (Nat.zero_lt_succ _) rfl l rfl (fun q u h=>zdp (post:=[X]) rfl h)) ?_;refine au ?_;refine qr (zdo Ty.zgj rfl (m.held (HB.cons 0 m l rfl HB.nil) (by simp)) rfl) ?_;refine ql (zgz l.good br bo) ?_;rintro cc cx ⟨bD,Q,rfl,bi,ar⟩;have B:=l.call ar;have b2:=ar.ext;refine Nxt.frz (HB.le (HB.cons 0 m B rfl HB.nil) b2) (HB.agree (HB.cons 0 m B rfl HB.nil) B.agree) ?_;refine au ?_;refine ql (zfb B.good (mo bs) bp) ?_;rintro Z cy ⟨bE,_,rfl,a0⟩;have L:=B.call a0;have b3:=a0.ext;refine Nxt.frz (HB.le (HB.cons 1 m L rfl HB.nil) b3) (HB.agree (HB.cons 1 m L rfl HB.nil) L.agree) ?_;refine zqz (by kernel_rfl) L.agree ?_;refine sB 1 ([.i .i64 p.seq,.s M.name,Q,X]) ?_;intro cz bO;refine au ?_;refine sC 1 ([.i .i64 p.seq,.s M.name,Q,Z]) ?_;intro c0 aY;obtain ⟨bU,bl,H⟩:=zaj H;refine ax ?_;obtain ⟨bB,bW,bh,bb⟩:=aY.freezeR 0 [1,2,3,4] rfl (by decide) (by decide);refine xm (E_bs (t:=Snap.t) (vs:=[.agg (Snap.cells (Snap.mk p.seq M a8) Q Z)]) (xs:=[(Snap.mk p.seq M a8)]) Tryz.underlying34 Ty.row46 rfl ⟨⟨Q,Z,rfl,(mo bi),bh⟩,trivial⟩ rfl rfl bb) ?_;rintro cb c1 ak;refine xm (zep (t:=Snap.t) 4 Tryz.underlying34 Ty.row46 Ty.zk34 rfl rfl ak rfl (ak.rowSrc (k:=0) rfl) bl) ?_;rintro b7 c2 ba;refine ax ?_;exact nm H ⟨_,b7,rfl,lec,pk [2,3,4] ba⟩
   ·refine zbe _ rfl ?_;exact nj ⟨bw,H,⟨_,P,rfl,lec,aX⟩⟩
 ·rintro E w3 ⟨l4,H,x,a,rfl,a1,V⟩;refine aq ?_;refine zac (fun E wq=>∃ l8:List Exp,zaw.k2 x0 l4 l8=some r ∧ ∃ (I:Frz) (f:Val),E=[(1,pl c 0),(2,pl e 0),(3,a),(6,f)]∧x.le I∧Also V [.box e [.i .i64 0,.sl none 0 (.k 0),.sl none 0 (.k 0),.sl none 0 (.k 0),.sl none 0 (.k 0)],.box c [.i .i64 x0.seq,n,g,d,b],.row Snap.t a l4,.row Exp.t f l8] I wq) ?_ ?_
  ·refine ax ?_;refine zbo (fun (s:(List Exp) × Int) E wq=>∃ (S:Frz) (O:Val),E=[(1,pl c 0),(2,pl e 0),(3,a),(6,O),(7,.i .i64 s.2)]∧x.le S∧Also V [.box e [.i .i64 0,.sl none 0 (.k 0),.sl none 0 (.k 0),.sl none 0 (.k 0),.sl none 0 (.k 0)],.box c [.i .i64 x0.seq,n,g,d,b],.row Snap.t a l4,.row Exp.t O s.1] S wq) H ?_ ?_
   ·have aV:=V.nilRow Exp.t;exact lo ⟨x,(.sl none 0 (.k 0)),rfl,(Frz.le.refl _),aV.pick [1,2,3,0] (by decide)⟩
   ·rintro bY ⟨bv,bR⟩ E cm hI H
    try dsimp only at hI
    obtain ⟨S,O,rfl,bz,aP⟩:=hI;refine ay ?_;refine qy H (fun be H=>?_) (fun be H=>?_)
    ·obtain ⟨j,bt,H⟩:=zaj H;obtain ⟨_,⟨b5,rfl,bq⟩,bP⟩:=elx 3 (aK.mono (a1.trans bz)) bt;refine ay ?_;refine al ?_;intro bF co bL;refine sb 0 ([.i .i64 j.seq,.i .i64 j.of,b5]) ?_;intro cp ai;obtain ⟨a7,bn,H⟩:=zaj H;refine ax ?_;refine lm (zfb ai.good bq bn) ?_;rintro Y cq ⟨bC,_,rfl,ap⟩;have bM:=ai.call ap;have bX:=ap.ext;refine au ?_;refine sc 1 ([.i .i64 j.seq,.i .i64 j.of,Y]) ?_;intro cr aR;obtain ⟨bT,bk,H⟩:=zaj H;refine ax ?_;obtain ⟨bA,bV,bg,aU⟩:=aR.freezeR 0 [1,2,3,4,5] rfl (by decide) (by decide);refine xm (E_bs (t:=Exp.t) (vs:=[.agg (Exp.cells (Exp.mk j.seq j.of a7) Y)]) (xs:=[(Exp.mk j.seq j.of a7)]) Tryz.underlying36 Ty.zvg rfl ⟨⟨Y,rfl,bg⟩,trivial⟩ rfl rfl aU) ?_;rintro ca cs aj;refine xm (zep (t:=Exp.t) 5 Tryz.underlying36 Ty.zvg Ty.zk36 rfl rfl aj rfl (aj.rowSrc (k:=0) rfl) bk) ?_;rintro b6 ct aT;refine ax ?_;exact nm H ⟨_,b6,rfl,lec,pk [2,3,4,5] aT⟩
    ·refine zbe _ rfl ?_;exact nj ⟨bv,H,⟨_,O,rfl,lec,aP⟩⟩
  ·rintro E w7 ⟨l8,H,I,f,rfl,b1,y⟩;refine ay ?_;obtain ⟨b4,bm,l12,bj,H⟩:=bd2 H;have z:=y.boxAt 1 rfl;refine zbw (G:=(I.hold w7 [c])) [0,1,2,4,5,6,7,9,3,8,10,11,12,13,14,15,16] rfl Ty.mixed (by kernel_rfl) (HB.agree (HB.cons 1 z y rfl HB.nil) y.agree) ?_;refine au ?_;refine qr (zdo Ty.zqv rfl (z.held (HB.cons 1 z y rfl HB.nil) (by simp)) rfl) ?_;refine au ?_;refine ql (zfw y.good (mo aJ) bm) ?_;rintro A cf ⟨aC,_,rfl,am⟩;have J:=y.call am;have a2:=am.ext;refine Nxt.frz (HB.le (HB.cons 2 z J rfl HB.nil) a2) (HB.agree (HB.cons 2 z J rfl HB.nil) J.agree) ?_;have ae:=J.nilRow Vol.t;refine qx (zep (t:=Vol.t) 0 Tryz.underlying33 Ty.row32 Ty.zk33 rfl rfl ae rfl ((aO.mono ((a1.trans b1).trans a2)).src ae.agree) bj) ?_;rintro R ce ad;refine qh 3 z ad ?_;refine zqz (by kernel_rfl) ad.agree ?_;refine sC 3 ([.i .i64 x0.seq,a,g,d,b]) ?_;intro cg bH;refine au ?_;refine sC 3 ([.i .i64 x0.seq,a,A,d,b]) ?_;intro ch bI;refine au ?_;refine sC 3 ([.i .i64 x0.seq,a,A,f,b]) ?_;intro ci bJ;refine au ?_;refine sC 3 ([.i .i64 x0.seq,a,A,f,R]) ?_;intro ck bK;refine ax ?_;refine sb 2 ([.i .i64 x0.seq,a,A,f,R]) ?_;intro cl ah;refine qn ?_;obtain rfl:=oi H;refine zgb (vs:=[.agg (Catalog.cells (Catalog.mk x0.seq l4 b4 l8 l12) a A f R)]) rfl ⟨(zeo 2 Ty.zjo Ty.zgk ah rfl rfl),trivial⟩ ?_;exact ⟨aC,a,A,f,R,rfl,ah.pick [4,1,5,0] (by decide)⟩
def zfk (x0:Change):Option Change :=
  bd (zbf x0.snap.man) fun b =>
  bd (zdq x0.snap.locs) fun c =>
  bd (zbl x0.chunks) fun a =>
  bd (app (α:=Item) [] x0.items) fun l11 =>
  some (Change.mk x0.kind (Snap.mk x0.snap.seq b c) a x0.seq x0.vol l11)
theorem zkt {x0:Change} {r:Change} {z:Val} {p:Val} {l:Val} {g:Val} (hA:Gd F w) (ad:SlF Part.t F z x0.snap.man.parts) (ae:SlF Loc.t F p x0.snap.locs) (ah:SlF Chunk.t F l x0.chunks) (ai:SlF Item.t F g x0.items) (H:zfk x0=some r):Ret Tryz.prog K 74 [.agg (Change.cells x0 z p l g)] w fun v w'=>∃ (F':Frz) (S:Val) (U:Val) (V:Val) (X:Val),v = .agg (Change.cells r S U V X)∧SlF Part.t F' S (r.snap.man.parts)∧SlF Loc.t F' U (r.snap.locs)∧SlF Chunk.t F' V (r.chunks)∧SlF Item.t F' X (r.items)∧St [] w F F' [] w':=by
 refine qa1 Tryz.func74 ?_;have hS:=St.start hA;refine qs ?_;refine bx ([.i .i64 x0.kind,.i .i64 x0.snap.seq,.s x0.snap.man.name,z,p,l,.i .i64 x0.seq,.i .i64 x0.vol,g]) ?_;intro A w1 aO;refine al ?_;intro Z w2 d;refine ay ?_;obtain ⟨b,a5,r4,a6,H⟩:=bd2 H;have e:=d.boxAt 1 rfl;refine zbw (G:=(F.hold w2 [A])) [0,1,2,4,5,6,3,8,9,7,10,11,12,13] rfl Ty.mixed (by kernel_rfl) (HB.agree (HB.cons 1 e d rfl HB.nil) d.agree) ?_;refine au ?_;refine qq (zdx 1 (Manifest.cells x0.snap.man z) Ty.zoy Ty.zjk (Nat.zero_lt_succ _) rfl d rfl (fun q u h=>zdp (post:=[p,l,.i .i64 x0.seq,.i .i64 x0.vol,g]) rfl h)) ?_;refine au ?_;refine qr (zdo Ty.zgj rfl (e.held (HB.cons 1 e d rfl HB.nil) (by simp)) rfl) ?_;refine ql (zgz d.good ad a5) ?_;rintro v6 w6 ⟨aK,a,rfl,a2,M⟩;have n:=d.call M;have Q:=M.ext;refine Nxt.frz (HB.le (HB.cons 1 e n rfl HB.nil) Q) (HB.agree (HB.cons 1 e n rfl HB.nil) n.agree) ?_;refine au ?_;refine ql (zfb n.good (mo ae) a6) ?_;rintro c w7 ⟨Y,_,rfl,O⟩;have y:=n.call O;have R:=O.ext;refine Nxt.frz (HB.le (HB.cons 2 e y rfl HB.nil) R) (HB.agree (HB.cons 2 e y rfl HB.nil) y.agree) ?_;refine zqz (by kernel_rfl) y.agree ?_;refine sB 2 ([.i .i64 x0.kind,.i .i64 x0.snap.seq,.s b.name,a,p,l,.i .i64 x0.seq,.i .i64 x0.vol,g]) ?_;intro w8 aT;refine au ?_;refine sC 2 ([.i .i64 x0.kind,.i .i64 x0.snap.seq,.s b.name,a,c,l,.i .i64 x0.seq,.i .i64 x0.vol,g]) ?_;intro w9 j;refine ay ?_;obtain ⟨a7,a4,l11,a3,H⟩:=bd2 H;have k:=j.boxAt 2 rfl;refine zbw (G:=(Y.hold w9 [A])) [0,1,3,4,5,2,7,6,8,9,10] rfl Ty.mixed (by kernel_rfl) (HB.agree (HB.cons 2 k j rfl HB.nil) j.agree) ?_;refine au ?_;refine qr (zdo Ty.zwd rfl (k.held (HB.cons 2 k j rfl HB.nil) (by simp)) rfl) ?_;refine ql (zfw j.good (mo ah) a4) ?_;rintro f bc ⟨aJ,_,rfl,L⟩;have x:=j.call L;have P:=L.ext;refine Nxt.frz (HB.le (HB.cons 3 k x rfl HB.nil) P) (HB.agree (HB.cons 3 k x rfl HB.nil) x.agree) ?_;refine au ?_;have I:=x.nilRow Item.t;refine qx (zep (t:=Item.t) 0 Tryz.underlying77 Ty.row134 Ty.zk77 rfl rfl I rfl ((ai.mono ((Q.trans R).trans P)).src I.agree) a3) ?_
 rintro m bb D;refine qh 4 k D ?_;refine zqz (by kernel_rfl) D.agree ?_;refine sC 4 ([.i .i64 x0.kind,.i .i64 x0.snap.seq,.s b.name,a,c,f,.i .i64 x0.seq,.i .i64 x0.vol,g]) ?_;intro be aP;refine au ?_;refine sC 4 ([.i .i64 x0.kind,.i .i64 x0.snap.seq,.s b.name,a,c,f,.i .i64 x0.seq,.i .i64 x0.vol,m]) ?_;intro bf aR;refine ax ?_;refine sb 3 ([.i .i64 x0.kind,.i .i64 x0.snap.seq,.s b.name,a,c,f,.i .i64 x0.seq,.i .i64 x0.vol,m]) ?_;intro bg aj;refine qn ?_;obtain ⟨aD,aU,ar,ak⟩:=aj.freezeR 2 [0,1,3,4] rfl (by decide) (by decide);obtain ⟨aH,aV,a0,am⟩:=ak.freezeR 1 [0,2,3] rfl (by decide) (by decide);obtain ⟨B,aX,a1,ap⟩:=am.freezeR 0 [1,2] rfl (by decide) (by decide);have J:St [] w F B [.box Z [.i .i64 x0.kind,.i .i64 x0.snap.seq,.s b.name,a,c,f,.i .i64 x0.seq,.i .i64 x0.vol,m],.box A [.i .i64 x0.kind,.i .i64 x0.snap.seq,.s b.name,a,c,f,.i .i64 x0.seq,.i .i64 x0.vol,m]] _:=ap;obtain rfl:=oi H;refine zgb (vs:=[.agg (Change.cells (Change.mk x0.kind (Snap.mk x0.snap.seq b r4) a7 x0.seq x0.vol l11) a c f m)]) rfl ⟨(zeo 0 Ty.zvj Ty.zoz J rfl rfl),trivial⟩ ?_;exact ⟨B,a,c,f,m,rfl,(mo a2),(mo ar),(mo a0),a1,J.pick [] (by decide)⟩
def zbt.k1 (x0:List Chunk) (x1:Chunk) (a:Int):Option (List Chunk) :=
  bd (only (decide (a < (x0.length:Int))) (ix x0 a) (Chunk.mk (List.replicate 32 (0:UInt8)) false [] [])) fun x4 =>
  if (decide (a < (x0.length:Int))&&decide (x4.id=x1.id)) then
    bd (zbl x0) fun c =>
    bd (zeg x1.data) fun j =>
    bd (ix c a) fun b =>
    bd (ix (c.set a.toNat (Chunk.mk b.id true b.data b.locs)) a) fun d =>
    some ((c.set a.toNat (Chunk.mk b.id true b.data b.locs)).set a.toNat (Chunk.mk d.id d.staged j d.locs))
  else
    bd (cut (α:=Chunk) x0 0 a) fun e =>
    bd (app (α:=Chunk) [] e) fun f =>
    bd (app (α:=Chunk) f [x1]) fun g =>
    bd (cut (α:=Chunk) x0 a (x0.length:Int)) fun h =>
    bd (app (α:=Chunk) g h) fun i =>
    some i
def zbt.l2 (x0:List Chunk) (x1:Chunk) (c:Int→Option (List Chunk)):Int→Option (List Chunk)
  | a =>
    bd (only (decide (a < (x0.length:Int))) (ix x0 a) (Chunk.mk (List.replicate 32 (0:UInt8)) false [] [])) fun d =>
    bd (only (decide (a < (x0.length:Int))) (zcx d.id x1.id) false) fun b =>
    if (decide (a < (x0.length:Int))&&b) then
      c (wr (a+1))
    else
      zbt.k1 x0 x1 a
def zbt (x0:List Chunk) (x1:Chunk):Option (List Chunk) :=
  loop (zbt.l2 x0 x1) 0
set_option maxHeartbeats 2000000 in
theorem zlk {x0:List Chunk} {x1:Chunk} {r:(List Chunk)} {I:Val} {f:Val} {g:Val} (hA:Gd F w) (a:SlF Chunk.t F I x0) (ak:SlF tB F f x1.data) (aV:SlF Loc.t F g x1.locs) (ae:(x1.id).length=32) (H:zbt x0 x1=some r):Ret Tryz.prog K 117 [I,.agg (Chunk.cells x1 f g)] w fun v w'=>∃ (F':Frz) (q0:Val),v=q0∧St [] w F F' [.row Chunk.t q0 (r)] w':=by
 refine qa2 Tryz.func117 ?_;have hS:=St.start hA;refine qs ?_;refine bx (zam x1.id++([.b x1.staged,f,g]:List Val)) ?_;intro Q w1 am;refine au ?_;refine aq ?_;refine zac (fun E wq=>∃ e:Int,zbt.k1 x0 x1 e=some r ∧ ∃ (l:Frz),E=[(0,I),(3,pl Q 0),(5,.i .i64 e)]∧F.le l∧Same am l wq) ?_ ?_
 ·refine zfa ?_;refine lj am (fun s:Int=>[(0,I),(3,pl Q 0),(5,.i .i64 s)]) H ?_;intro cm aO bF c6 aP m H;refine ay ?_;obtain ⟨ah,p,cl,bp,H⟩:=bd2 H;have A:(ah.id).length=32:=by
   rcases Bool.eq_false_or_eq_true (decide (aO < (x0.length:Int))) with V | V
   ·have aH:=p;rw [zck V] at aH;obtain ⟨bT,b4⟩:=zaf aH;obtain ⟨bJ,bq,Y⟩:=(a.mono aP).el b4;obtain ⟨b8,b9,rfl,A,bt,bu⟩:=bq;replace Y:=qj 35 Y;have bN:=Y.ixd;exact A
   ·have hy:=p;rw [zel V] at hy;obtain rfl:=oi hy
    rfl
  refine rf m ?_;refine aw ?_;refine ge (mo a) p ?_;refine ge (mo a) p ?_;refine W_gs (v:=.agg (zam ah.id)) rfl rfl rfl rfl (fun ⟨a8,_⟩=>?_) ?_
  ·rw [a8];intro hK;have aJ:=p;rw [zck a8] at aJ;obtain ⟨bU,b5⟩:=zaf aJ;obtain ⟨bK,br,z⟩:=(a.mono aP).el b5;obtain ⟨b8,b9,rfl,A,bt,bu⟩:=br;replace z:=qj 35 z;have bO:=z.ixd;refine qq (zoj 0 (zam ah.id) Ty.ziu Ty.zfq rfl (z.mono m.agree) (by first | omega | rfl) rfl (Nat.le_of_ble_eq_true rfl)) ?_;exact hK
  refine aw ?_;refine W_gs (v:=.agg (zam x1.id)) rfl rfl rfl rfl (fun ⟨be,_⟩=>?_) ?_
  ·rw [be];exact (qq (zdx 0 (zam x1.id) Ty.ziu Ty.zfq (Nat.zero_lt_succ _) rfl m rfl (fun q u h=>zdp (post:=[.b x1.staged,f,g]) rfl h)) ·)
  refine gw m bp (fun y=>zio m.good A ae y) ?_;intro c7 U;refine qw U ?_;refine aw ?_;refine qy H (fun bg H=>?_) (fun bg H=>?_)
  ·refine ax ?_;exact nm H (jj U)
  ·refine zbe _ rfl ?_;exact nj ⟨aO,H,jj U⟩
 ·rintro E w2 ⟨e,H,l,rfl,D,d⟩;refine ay ?_;obtain ⟨x4,n,H⟩:=zaj H;have B:(x4.id).length=32:=by
   rcases Bool.eq_false_or_eq_true (decide (e < (x0.length:Int))) with X | X
   ·have aK:=n;rw [zck X] at aK;obtain ⟨bV,b6⟩:=zaf aK;obtain ⟨bL,bs,Z⟩:=(a.mono D).el b6;obtain ⟨bA,bB,rfl,B,bv,bw⟩:=bs;replace Z:=qj 35 Z;have bP:=Z.ixd;exact B
   ·have hy:=n;rw [zel X] at hy;obtain rfl:=oi hy
    rfl
  refine rn ?_;refine aw ?_;refine ge (mo a) n ?_;refine ge (mo a) n ?_;refine W_gs (v:=.agg (zam x4.id)) rfl rfl rfl rfl (fun ⟨a7,_⟩=>?_) ?_
  ·rw [a7];intro hK;have aD:=n;rw [zck a7] at aD;obtain ⟨bS,b1⟩:=zaf aD;obtain ⟨bI,bm,x⟩:=(a.mono D).el b1;obtain ⟨bA,bB,rfl,B,bv,bw⟩:=bm;replace x:=qj 35 x;have bM:=x.ixd;refine qr (zoj 0 (zam x4.id) Ty.ziu Ty.zfq rfl (x.mono d.agree) (by first | omega | rfl) rfl (Nat.le_of_ble_eq_true rfl)) ?_;exact hK
  refine aw ?_;refine W_gs (v:=.agg (zam x1.id)) rfl rfl rfl rfl (fun ⟨bb,_⟩=>?_) ?_
  ·rw [bb];exact (qr (zdx 0 (zam x1.id) Ty.ziu Ty.zfq (Nat.zero_lt_succ _) rfl d rfl (fun q u h=>zdp (post:=[.b x1.staged,f,g]) rfl h)) ·)
  refine W_gs (v:=.b (decide (x4.id=x1.id))) rfl rfl rfl rfl (fun ⟨bc,_⟩=>?_) ?_
  ·rw [bc];exact (qr (zbc rfl rfl (zuz Ty.eqt58 rfl rfl (zwa B ae))) ·)
  refine aw ?_;refine qy H (fun bf H=>?_) (fun bf H=>?_)
  ·obtain ⟨ck,bn,H⟩:=zaj H;refine aq ?_;refine lm (zfw d.good (mo a) bn) ?_;rintro bC cx ⟨bG,_,rfl,a5⟩;have ap:=d.call a5;have cg:=a5.ext;obtain ⟨b7,bo,J,a9,H⟩:=bd2 H;obtain ⟨L,aC,H⟩:=zaj H;refine ax ?_;refine lm (zgf ap.good (mo ak) bo) ?_;rintro aT cy ⟨bH,_,rfl,a6⟩;have ar:=ap.call a6;have ch:=a6.ext;obtain ⟨_,⟨co,cp,rfl,bQ,bW,bX⟩,_⟩:=elr 35 1 ar a9;refine au ?_;refine um (ziv (c:=[.b true]) 1 (e.toNat) 32 J (Chunk.mk J.id true J.data J.locs) rfl rfl ar rfl (zaf a9).2 (by first | rfl | (show _=_*35+_;omega)) rfl Ty.size4 rfl (Nat.le_of_ble_eq_true rfl) (by rintro cs ⟨a2,M,rfl,P,b2,O⟩;exact ⟨a2,M,rfl,P,b2,O⟩)) ?_;rintro _ cz a0;obtain ⟨_,⟨cq,cr,rfl,bR,bY,bZ⟩,_⟩:=elr 35 1 a0 aC;refine au ?_;obtain ⟨aU,cf,ad,aY⟩:=a0.freezeR 0 [1,2] rfl (by decide) (by decide);refine um (ziv (c:=[aT]) 0 (e.toNat) 33 L (Chunk.mk L.id L.staged b7 L.locs) rfl rfl aY rfl (zaf aC).2 (by first | rfl | (show _=_*35+_;omega)) ad.ln.cells Ty.ztp (by simp only [List.all_cons,List.all_nil,List.all_append,ad.ln.one];rfl) (Nat.le_of_ble_eq_true rfl) (by rintro cs ⟨a2,M,rfl,P,b2,O⟩;exact ⟨aT,M,rfl,P,ad,O⟩)) ?_;rintro _ c1 aX;refine qn ?_;refine aq ?_;obtain rfl:=oi H;refine qt ?_;exact ⟨aU,bC,rfl,aX.pick [0] (by decide)⟩
  ·refine ay ?_;obtain ⟨ca,bh,cb,bi,H⟩:=bd2 H;obtain ⟨cc,bj,H⟩:=zaj H;have j:=d.boxAt 0 rfl;refine zbw (G:=(l.hold w2 [Q])) [0,1,2,3,5,6,4,7,8] rfl Ty.mixed (by kernel_rfl) (HB.agree (HB.cons 0 j d rfl HB.nil) d.agree) ?_;refine au ?_;refine zpe 0 e rfl rfl rfl rfl Tryz.underlying35 Ty.zdv rfl (.inl ⟨rfl,rfl⟩) (.inr ⟨_,_,rfl,rfl⟩) a bh ?_;intro ci bz;refine qr (O_fldg (Chunk.cells x1 f g) Ty.agg60 Ty.zdv (Nat.zero_lt_succ _) rfl (j.held (HB.cons 0 j d rfl HB.nil) (by simp)) (fun q u h=>zdp (post:=[]) rfl h)) ?_;refine qx (E_bs (t:=Chunk.t) (vs:=[.agg (Chunk.cells x1 f g)]) (xs:=[x1]) Tryz.underlying35 Ty.znh rfl ⟨⟨f,g,rfl,ae,(mo ak),(mo aV)⟩,trivial⟩ rfl rfl d) ?_;rintro cn c2 a1;refine qh 1 j a1 ?_;have a4:=a1.nilRow Chunk.t;refine qx (zep (t:=Chunk.t) 0 Tryz.underlying35 Ty.znh Ty.zk35 rfl rfl a4 rfl ((bz.mono D).src a4.agree) bi) ?_;rintro ct c3 R;refine qh 2 j R ?_;refine qx (zep (t:=Chunk.t) 0 Tryz.underlying35 Ty.znh Ty.zk35 rfl rfl R rfl (R.rowSrc (k:=1) rfl) bj) ?_;rintro cu c4 S;refine qh 2 j S ?_;obtain ⟨cd,bk,ce,bl,H⟩:=bd2 H;refine ax ?_;refine zpe e (x0.length:Int) rfl rfl rfl rfl Tryz.underlying35 Ty.zdv rfl (.inr ⟨_,_,rfl,rfl⟩) (.inl ⟨rfl,rfl⟩) a bk ?_;intro cj b0;refine xm (zep (t:=Chunk.t) 0 Tryz.underlying35 Ty.znh Ty.zk35 rfl rfl S rfl ((b0.mono D).src S.agree) bl) ?_;rintro bD c5 ba;refine au ?_;obtain rfl:=oi H;refine qt ?_;exact ⟨l,bD,rfl,ba.pick [0] (by decide)⟩
def zax.k1:Option Bool :=
  some false
def zax.k3 (a:Int) (b:Int→Option Bool):Option Bool :=
  b (wr (a+1))
def zax.k5 (a:Int) (b:Int→Option Bool):Option Bool :=
  b (wr (a+1))
def zax.l6 (x0:Catalog) (x1:List UInt8) (c:Int) (a:Int) (d:Int→Option Bool) (e:Int→Option Bool):Int→Option Bool
  | b =>
    bd (ix x0.snaps c) fun f =>
    bd (ix f.man.parts a) fun g =>
    if decide (b < (g.ids.length:Int)) then
      bd (ix x0.snaps c) fun h =>
      bd (ix h.man.parts a) fun i =>
      bd (ix i.ids b) fun j =>
      if decide (j=x1) then
        some true
      else
        e (wr (b+1))
    else
      zax.k5 a d
def zax.l4 (x0:Catalog) (x1:List UInt8) (a:Int) (d:Int→Option Bool) (c:Int→Option Bool):Int→Option Bool
  | b =>
    bd (ix x0.snaps a) fun e =>
    if decide (b < (e.man.parts.length:Int)) then
      loop (zax.l6 x0 x1 a b c) 0
    else
      zax.k3 a d
def zax.l2 (x0:Catalog) (x1:List UInt8) (b:Int→Option Bool):Int→Option Bool
  | a =>
    if decide (a < (x0.snaps.length:Int)) then
      loop (zax.l4 x0 x1 a b) 0
    else
      zax.k1
def zax (x0:Catalog) (x1:List UInt8):Option Bool :=
  loop (zax.l2 x0 x1) 0
theorem znw {x0:Catalog} {x1:List UInt8} {r:Bool} {p:Val} {q:Val} {u:Val} {x:Val} (hA:Gd F w) (j:SlF Snap.t F p x0.snaps) (am:SlF Chunk.t F q x0.chunks) (ap:SlF Exp.t F u x0.exps) (ar:SlF Vol.t F x x0.vols) (B:x1.length=32) (H:zax x0 x1=some r):Ret Tryz.prog K 156 [.agg (Catalog.cells x0 p q u x),.agg (zam x1)] w fun v w'=>∃ (F':Frz),v = .b r∧St [] w F F' [] w':=by
 refine qa2 Tryz.func156 ?_;have hS:=St.start hA;refine qs ?_;refine bx ([.i .i64 x0.seq,p,q,u,x]) ?_;intro a w1 a0;refine bx (zam x1) ?_;intro c w2 y;refine au ?_;refine zac (jO (zax.k1=some r) [] y []) ?_ ?_
 ·refine ax ?_;refine lj y (fun s:Int=>[(2,pl a 0),(3,pl c 0),(5,.i .i64 s)]) H ?_;intro ah d A w4 m f H;refine ay ?_;refine qy H (fun O H=>?_) (fun O H=>?_)
  ·refine qk ?_;refine zac (jN (zax.k3 d ah=some r) [(2,pl a 0),(3,pl c 0),(5,.i .i64 d)] f) ?_ ?_
   ·refine ax ?_;refine zbo (fun (s:Int) E wq=>∃ (e:Frz),E=[(2,pl a 0),(3,pl c 0),(5,.i .i64 d),(6,.i .i64 s)]∧A.le e∧Same f e wq) H ?_ ?_
    ·exact lo (jj f)
    ·rintro ae l E w9 hI H
     try dsimp only at hI
     obtain ⟨e,rfl,n,g⟩:=hI;obtain ⟨bg,U,H⟩:=zaj H;obtain ⟨_,⟨aH,aJ,rfl,a2,a3⟩,_⟩:=elx 4 (j.mono (m.trans n)) U;refine ay ?_;refine qy H (fun J H=>?_) (fun J H=>?_)
     ·refine qk ?_;refine zac (jN (zax.k5 l ae=some r) [(2,pl a 0),(3,pl c 0),(5,.i .i64 d),(6,.i .i64 l)] g) ?_ ?_
      ·refine ax ?_;refine zbo (fun (s:Int) E wq=>∃ (h:Frz),E=[(2,pl a 0),(3,pl c 0),(5,.i .i64 d),(6,.i .i64 l),(7,.i .i64 s)]∧e.le h∧Same g h wq) H ?_ ?_
       ·exact lo (jj g)
       ·rintro aD a7 E aY hI H
        try dsimp only at hI
        obtain ⟨h,rfl,z,k⟩:=hI;obtain ⟨bh,V,bi,X,H⟩:=bd2 H;obtain ⟨_,⟨aK,aO,rfl,Q,a4⟩,_⟩:=elx 4 (j.mono ((m.trans n).trans z)) V;obtain ⟨_,⟨aP,rfl,a5⟩,_⟩:=elx 3 Q X;refine ay ?_;refine qy H (fun L H=>?_) (fun L H=>?_)
        ·refine ay ?_;obtain ⟨bj,Y,bk,Z,H⟩:=bd2 H;obtain ⟨bl,ad,H⟩:=zaj H;refine rn ?_;obtain ⟨_,⟨aR,aT,rfl,R,a6⟩,_⟩:=elx 4 (j.mono ((m.trans n).trans z)) Y;obtain ⟨_,⟨aU,rfl,S⟩,_⟩:=elx 3 R Z;obtain ⟨_,⟨rfl,P⟩,a1⟩:=elx 32 S ad;refine au ?_;refine qr (zbc rfl rfl (zuz Ty.eqt58 rfl rfl (zwa P B))) ?_;refine qn ?_;refine qy H (fun M H=>?_) (fun M H=>?_)
         ·exact rz H k
         ·refine ax ?_;exact nm H (jj k)
        ·refine ax ?_;exact nj ⟨H,jj k⟩
      ·rintro E aX ⟨H,ai,rfl,a8,D⟩;refine ax ?_;exact nm H (jj D)
     ·refine ax ?_;exact nj ⟨H,jj g⟩
   ·rintro E w8 ⟨H,F8,rfl,aC,I⟩;refine ax ?_;exact nm H (jj I)
  ·refine zbe _ rfl ?_;exact nj ⟨H,jj (pk [] f)⟩
 ·rintro E w3 ⟨H,F3,rfl,a9,G⟩;exact rz H G
def zap.k2 (x0:Catalog) (l2:List Snap) (l8:List Chunk):Option (Bool × Catalog) :=
  some (true,(Catalog.mk x0.seq l2 l8 x0.exps x0.vols))
def zap.k4 (a:Int) (b:((List Chunk) × Int)→Option (Bool × Catalog)) (l20:List Chunk):Option (Bool × Catalog) :=
  b (l20,wr (a+1))
def zap.k5 (l13:List Chunk) (c:Int) (f:((List Chunk) × Int)→Option (Bool × Catalog)) (a:Chunk) (b:Bool) (d:List UInt8):Option (Bool × Catalog) :=
  bd (app (α:=Chunk) l13 [(Chunk.mk a.id b d a.locs)]) fun e =>
  zap.k4 c f e
def zap.l3 (x0:Catalog) (l2:List Snap) (c:((List Chunk) × Int)→Option (Bool × Catalog)):((List Chunk) × Int)→Option (Bool × Catalog)
  | (l13,b) =>
    if decide (b < (x0.chunks.length:Int)) then
      bd (ix x0.chunks b) fun a =>
      bd (zax (Catalog.mk x0.seq l2 x0.chunks x0.exps x0.vols) a.id) fun d =>
      if (!d) then
        if decide ((a.locs.length:Int)=0) then
          zap.k4 b c l13
        else
          zap.k5 l13 b c a false []
      else
        zap.k5 l13 b c a a.staged a.data
    else
      zap.k2 x0 l2 l13
def zap.k1 (x0:Catalog) (l2:List Snap):Option (Bool × Catalog) :=
  if decide ((l2.length:Int)=(x0.snaps.length:Int)) then
    some (false,x0)
  else
    loop (zap.l3 x0 l2) ([],0)
def zap.k7 (a:Int) (c:((List Snap) × Int)→Option (Bool × Catalog)) (b:List Snap):Option (Bool × Catalog) :=
  c (b,wr (a+1))
def zap.l6 (x0:Catalog) (x1:Int) (c:((List Snap) × Int)→Option (Bool × Catalog)):((List Snap) × Int)→Option (Bool × Catalog)
  | (b,a) =>
    if decide (a < (x0.snaps.length:Int)) then
      bd (ix x0.snaps a) fun e =>
      if decide (e.seq≠x1) then
        bd (ix x0.snaps a) fun f =>
        bd (app (α:=Snap) b [f]) fun d =>
        zap.k7 a c d
      else
        zap.k7 a c b
    else
      zap.k1 x0 b
def zap (x0:Catalog) (x1:Int):Option (Bool × Catalog) :=
  loop (zap.l6 x0 x1) ([],0)
set_option maxHeartbeats 2000000 in
theorem zjl {X:List Nat} {x0:Catalog} {x1:Int} {r:Bool × Catalog} {gp0:Nat} {l:Val} {d:Val} {a:Val} {c:Val} (hS:St X w F F [.box gp0 [.i .i64 x0.seq,l,d,a,c],.row Snap.t l x0.snaps,.row Chunk.t d x0.chunks,.row Exp.t a x0.exps,.row Vol.t c x0.vols] w) (H:zap x0 x1=some r):Ret Tryz.prog K 118 [pl gp0 0,.i .i64 x1] w fun v w'=>∃ (F':Frz) (a3:Val) (a4:Val),v = .b r.1∧St X w F F' [.box gp0 [.i .i64 r.2.seq,a3,a4,a,c],.row Snap.t a3 r.2.snaps,.row Chunk.t a4 r.2.chunks,.row Exp.t a r.2.exps,.row Vol.t c r.2.vols] w':=by
 refine qa2 Tryz.func118 ?_;refine aq ?_;refine aq ?_;refine zac (fun E wq=>∃ l2:List Snap,zap.k1 x0 l2=some r ∧ ∃ (m:Frz) (e:Val),E=[(0,pl gp0 0),(5,e)]∧F.le m∧Also hS [.box gp0 [.i .i64 x0.seq,l,d,a,c],.row Snap.t l x0.snaps,.row Chunk.t d x0.chunks,.row Exp.t a x0.exps,.row Vol.t c x0.vols,.row Snap.t e l2] m wq) ?_ ?_
 ·refine ax ?_;refine zbo (fun (s:(List Snap) × Int) E wq=>∃ (L:Frz) (G:Val),E=[(0,pl gp0 0),(1,.i .i64 x1),(5,G),(6,.i .i64 s.2)]∧F.le L∧Also hS [.box gp0 [.i .i64 x0.seq,l,d,a,c],.row Snap.t l x0.snaps,.row Chunk.t d x0.chunks,.row Exp.t a x0.exps,.row Vol.t c x0.vols,.row Snap.t G s.1] L wq) H ?_ ?_
  ·have aH:=hS.nilRow Snap.t;exact lo ⟨F,(.sl none 0 (.k 0)),rfl,(Frz.le.refl _),aH.pick [1,2,3,4,5,0] (by decide)⟩
  ·rintro bl ⟨ap,am⟩ E bN hI H
   try dsimp only at hI
   obtain ⟨L,G,rfl,b2,n⟩:=hI;refine ay ?_;refine qr (zdh Tryz.underlying34 rfl (n.rowLn (k:=1) rfl)) ?_;refine au ?_;refine qy H (fun aT H=>?_) (fun aT H=>?_)
   ·refine qk ?_;refine zac (fun E wq=>∃ Z:List Snap,zap.k7 am bl Z=some r ∧ ∃ (U:Frz) (Q:Val),E=[(0,pl gp0 0),(1,.i .i64 x1),(5,Q),(6,.i .i64 am)]∧L.le U∧Also n [.box gp0 [.i .i64 x0.seq,l,d,a,c],.row Snap.t l x0.snaps,.row Chunk.t d x0.chunks,.row Exp.t a x0.exps,.row Vol.t c x0.vols,.row Snap.t Q Z] U wq) ?_ ?_
    ·obtain ⟨bT,bh,H⟩:=zaj H;obtain ⟨_,⟨b8,b9,rfl,bu,bv⟩,_⟩:=elr 4 1 n bh;refine ax ?_;refine qy H (fun aU H=>?_) (fun aU H=>?_)
     ·obtain ⟨a2,bi,bk,aX,H⟩:=bd2 H;obtain ⟨_,⟨a0,a1,rfl,bc,be⟩,bt⟩:=elr 4 1 n bi;refine ax ?_;refine xm (E_bs (t:=Snap.t) (vs:=[.agg (Snap.cells a2 a0 a1)]) (xs:=[a2]) Tryz.underlying34 Ty.row46 rfl ⟨⟨a0,a1,rfl,bc,be⟩,trivial⟩ rfl rfl n) ?_;rintro b7 bQ aj;refine xm (zep (t:=Snap.t) 6 Tryz.underlying34 Ty.row46 Ty.zk34 rfl rfl aj rfl (aj.rowSrc (k:=0) rfl) aX) ?_;rintro bn bR aD;refine ax ?_;exact nj ⟨bk,H,⟨_,bn,rfl,lec,pk [1,2,3,4,5,6] aD⟩⟩
     ·refine ax ?_;exact nj ⟨ap,H,⟨_,G,rfl,lec,n⟩⟩
    ·rintro E bO ⟨Z,H,U,Q,rfl,b3,aC⟩;refine ax ?_;exact nm H ⟨_,Q,rfl,lec,aC⟩
   ·refine zbe _ rfl ?_;exact nj ⟨ap,H,⟨_,G,rfl,lec,n⟩⟩
 ·rintro E w1 ⟨l2,H,m,e,rfl,bw,V⟩;refine ay ?_;refine qr (zdh Tryz.underlying34 rfl (V.rowLn (k:=5) rfl)) ?_;refine au ?_;refine qr (zdh Tryz.underlying34 rfl (V.rowLn (k:=1) rfl)) ?_;refine au ?_;refine qy H (fun aR H=>?_) (fun aR H=>?_)
  ·refine aq ?_;obtain rfl:=oi H;refine qt ?_;exact ⟨m,l,d,rfl,V.pick [0,1,2,3,4] (by decide)⟩
  ·refine ax ?_;refine sc 0 ([.i .i64 x0.seq,e,d,a,c]) ?_;intro w6 Y;refine qn ?_;refine aq ?_;refine zac (fun E wq=>∃ l8:List Chunk,zap.k2 x0 l2 l8=some r ∧ ∃ (M:Frz) (I:Val),E=[(0,pl gp0 0),(7,I)]∧m.le M∧Also Y [.box gp0 [.i .i64 x0.seq,e,d,a,c],.row Chunk.t d x0.chunks,.row Exp.t a x0.exps,.row Vol.t c x0.vols,.row Snap.t e l2,.row Chunk.t I l8] M wq) ?_ ?_
   ·refine ax ?_;refine zbo (fun (s:(List Chunk) × Int) E wq=>∃ (y:Frz) (p:Val),E=[(0,pl gp0 0),(7,p),(8,.i .i64 s.2)]∧m.le y∧Also Y [.box gp0 [.i .i64 x0.seq,e,d,a,c],.row Chunk.t d x0.chunks,.row Exp.t a x0.exps,.row Vol.t c x0.vols,.row Snap.t e l2,.row Chunk.t p s.1] y wq) H ?_ ?_
    ·have a9:=Y.nilRow Chunk.t;exact lo ⟨m,(.sl none 0 (.k 0)),rfl,(Frz.le.refl _),a9.pick [1,3,4,5,6,0] (by decide)⟩
    ·rintro ar ⟨l13,O⟩ E bD hI H
     try dsimp only at hI
     obtain ⟨y,p,rfl,bz,A⟩:=hI;refine ay ?_;refine qr (zdh Tryz.underlying35 rfl (A.rowLn (k:=1) rfl)) ?_;refine au ?_;refine qy H (fun aK H=>?_) (fun aK H=>?_)
     ·refine qk ?_;refine zac (fun E wq=>∃ l20:List Chunk,zap.k4 O ar l20=some r ∧ ∃ (S:Frz) (P:Val),E=[(0,pl gp0 0),(7,P),(8,.i .i64 O)]∧y.le S∧Also A [.box gp0 [.i .i64 x0.seq,e,d,a,c],.row Chunk.t d x0.chunks,.row Exp.t a x0.exps,.row Vol.t c x0.vols,.row Snap.t e l2,.row Chunk.t P l20] S wq) ?_ ?_
      ·obtain ⟨g,bf,H⟩:=zaj H;obtain ⟨_,⟨R,x,rfl,ak,ba,bb⟩,bs⟩:=elr 35 1 A bf;refine ax ?_;refine xm (zis (cs:=zam (List.replicate 32 (0:UInt8))++([.b false,.sl none 0 (.k 0),.sl none 0 (.k 0)]:List Val)) Ty.ztk rfl A) ?_;rintro _ bF ⟨ad,rfl,bp⟩;refine sb 0 (zam g.id++([.b g.staged,R,x]:List Val)) ?_;intro bG j;refine qn ?_;refine zac (fun E wq=>∃ z:Bool,∃ B:List UInt8,zap.k5 l13 O ar g z B=some r ∧ ∃ (J:Frz) (D:Val),E=[(0,pl gp0 0),(7,p),(8,.i .i64 O),(9,pl ad 0)]∧y.le J∧SlF tB J D B∧Also j [.box ad (zam g.id++([.b z,D,x]:List Val)),.box gp0 [.i .i64 x0.seq,e,d,a,c],.row Chunk.t d x0.chunks,.row Exp.t a x0.exps,.row Vol.t c x0.vols,.row Snap.t e l2,.row Chunk.t p l13] J wq) ?_ ?_
       ·refine zfl ?_;obtain ⟨b5,aY,H⟩:=zaj H;refine rf j ?_;refine au ?_;refine qq (zdx 1 (Catalog.cells (Catalog.mk x0.seq l2 x0.chunks x0.exps x0.vols) e d a c) Ty.zjo Ty.zgk (Nat.zero_lt_succ _) rfl j rfl (fun q u h=>zdp (post:=[]) rfl h)) ?_;refine au ?_;refine qq (zdx 0 (zam g.id) Ty.ziu Ty.zfq (Nat.zero_lt_succ _) rfl j rfl (fun q u h=>zdp (post:=[.b g.staged,R,x]) rfl h)) ?_;refine zoi (f:=156) (args:=[.agg (Catalog.cells (Catalog.mk x0.seq l2 x0.chunks x0.exps x0.vols) e d a c),.agg (zam g.id)]) rfl rfl rfl rfl (znw (Gd.now j.wf) (j.rowNow (k:=5) rfl) (j.rowNow (k:=2) rfl) (j.rowNow (k:=3) rfl) (j.rowNow (k:=4) rfl) ak aY) ?_;rintro bA bK ⟨bo,rfl,aJ⟩;have ah:=j.lent aJ;refine qw ah ?_;refine au ?_;refine qy H (fun aO H=>?_) (fun aO H=>?_)
        ·refine aq ?_;refine sc 0 (zam g.id++([.b false,R,x]:List Val)) ?_;intro bL bq;refine au ?_;refine sc 0 (zam g.id++([.b false,.sl none 0 (.k 0),x]:List Val)) ?_;intro bM ai;refine ax ?_;refine qy H (fun aP H=>?_) (fun aP H=>?_)
         ·refine zbe _ rfl ?_;exact nj ⟨l13,H,⟨_,p,rfl,lec,pk [1,2,3,4,5,6] ai⟩⟩
         ·refine ziz ?_;exact nj ⟨false,[],H,⟨y,.sl none 0 (.k 0),rfl,(Frz.le.refl _),(SlF.nil _),ai⟩⟩
        ·refine ziz ?_;exact nj ⟨g.staged,g.data,H,⟨_,R,rfl,lec,ba,ah⟩⟩
       ·rintro E bH ⟨z,B,H,J,D,rfl,b1,bg,a7⟩;obtain ⟨bj,aV,H⟩:=zaj H;refine ax ?_;refine xm (E_bs (t:=Chunk.t) (vs:=[.agg (Chunk.cells (Chunk.mk g.id z B g.locs) D x)]) (xs:=[(Chunk.mk g.id z B g.locs)]) Tryz.underlying35 Ty.znh rfl ⟨⟨D,x,rfl,ak,bg,(mo bb)⟩,trivial⟩ rfl rfl a7) ?_;rintro b6 bI ae;refine xm (zep (t:=Chunk.t) 7 Tryz.underlying35 Ty.znh Ty.zk35 rfl rfl ae rfl (ae.rowSrc (k:=0) rfl) aV) ?_;rintro bm bJ a8;refine ax ?_;exact nj ⟨bj,H,⟨_,bm,rfl,lec,pk [2,3,4,5,6,7] a8⟩⟩
      ·rintro E bE ⟨l20,H,S,P,rfl,b0,a6⟩;refine ax ?_;exact nm H ⟨_,P,rfl,lec,a6⟩
     ·refine zbe _ rfl ?_;exact nj ⟨l13,H,⟨_,p,rfl,lec,A⟩⟩
   ·rintro E w7 ⟨l8,H,M,I,rfl,b4,br⟩;refine aq ?_;refine sc 0 ([.i .i64 x0.seq,e,I,a,c]) ?_;intro bC a5;refine qn ?_;refine aq ?_;obtain rfl:=oi H;refine qt ?_;exact ⟨M,e,I,rfl,a5.pick [0,4,5,2,3] (by decide)⟩
def zfo (x0:Catalog) (x1:Int) (x2:Int) (x3:Int):Option (Bool × Catalog) :=
  bd (only (decide (0≤x1)&&decide (x1 < (x0.vols.length:Int))) (ix x0.vols x1) (Vol.mk 0 0 0 0)) fun x4 =>
  bd (only ((decide (0≤x1)&&decide (x1 < (x0.vols.length:Int)))&&(!decide (x4.state=x2))) (ix x0.vols x1) (Vol.mk 0 0 0 0)) fun x6 =>
  some (((decide (0≤x1)&&decide (x1 < (x0.vols.length:Int)))&&(decide (x4.state=x2)||decide (x6.state=x3))),x0)
theorem zhp {X:List Nat} {x0:Catalog} {x1:Int} {x2:Int} {x3:Int} {r:Bool × Catalog} {gp0:Nat} {e:Val} {f:Val} {g:Val} {h:Val} (hS:St X w F F [.box gp0 [.i .i64 x0.seq,e,f,g,h],.row Snap.t e x0.snaps,.row Chunk.t f x0.chunks,.row Exp.t g x0.exps,.row Vol.t h x0.vols] w) (H:zfo x0 x1 x2 x3=some r):Ret Tryz.prog K 119 [pl gp0 0,.i .i64 x1,.i .i64 x2,.i .i64 x3] w fun v w'=>∃ (F':Frz),v = .b r.1∧St X w F F' [.box gp0 [.i .i64 r.2.seq,e,f,g,h],.row Snap.t e r.2.snaps,.row Chunk.t f r.2.chunks,.row Exp.t g r.2.exps,.row Vol.t h r.2.vols] w':=by
 refine qa4 Tryz.func119 ?_;refine aq ?_;refine zfl ?_;obtain ⟨x4,u,x6,M,H⟩:=bd2 H;refine zja (fun E wq=>E=[(8,.b ((decide (0≤x1)&&decide (x1 < (x0.vols.length:Int)))&&(decide (x4.state=x2)||decide (x6.state=x3))))] ∧ ∃ n:Frz,F.le n∧St X w F n [.box gp0 [.i .i64 x0.seq,e,f,g,h],.row Snap.t e x0.snaps,.row Chunk.t f x0.chunks,.row Exp.t g x0.exps,.row Vol.t h x0.vols] wq) ?_ ?_
 ·
  rcases Bool.eq_false_or_eq_true (decide (0≤x1)) with a | a
  ·
   rcases Bool.eq_false_or_eq_true (decide (x1 < (x0.vols.length:Int))) with c | c
   ·
    rcases Bool.eq_false_or_eq_true (decide (x4.state=x2)) with d | d
    ·refine qd ?_;refine qc ?_;refine qr (zbc rfl rfl bI_geq) ?_;refine qc ?_;refine qvb 11 a ?_;refine q3 ?_;refine qf Ty.zkh ?_;refine qb 0 Ty.zqv hS ?_;refine qr (zdh Tryz.underlying33 rfl (hS.rowLn (k:=4) rfl)) ?_;refine qr (zbc rfl rfl ziy) ?_;refine q2 ?_;refine qvb 20 c ?_;refine q2 ?_;refine qf Ty.zkh ?_;refine qb 0 Ty.zqv hS ?_;refine qc ?_;have x:=u;rw [zck (by first | rfl | (rw [c,a];first | done | rfl) | simp [a,c,d])] at x;obtain ⟨B,O⟩:=zaf x;obtain ⟨R,I,j⟩:=hS.rowAt (k:=4) rfl O;obtain rfl:=I;replace j:=qj 4 j;have p:=j.ixd;refine qi Tryz.underlying33 Ty.size32 p B ?_;refine qr (zga 2 Ty.zqs rfl p) ?_;refine qr (zej 2 Ty.zjg rfl j (by first | omega | rfl) rfl) ?_;refine qc ?_;refine qr (zbc rfl rfl zhh) ?_;refine qc ?_;refine qvb 31 d ?_;refine qz2 ?_;refine qz2 ?_;refine qz2 ?_;refine qz2 ?_;refine qz2 ?_;refine q3 ?_;refine zew ?_;exact zdy _ ⟨rfl,F,(Frz.le.refl _),hS⟩ ⟨(zbu rfl (by first | rfl | (rw [c,d,a];first | done | rfl) | simp [a,c,d])),trivial⟩
    ·refine qd ?_;refine qc ?_;refine qr (zbc rfl rfl bI_geq) ?_;refine qc ?_;refine qvb 11 a ?_;refine q3 ?_;refine qf Ty.zkh ?_;refine qb 0 Ty.zqv hS ?_;refine qr (zdh Tryz.underlying33 rfl (hS.rowLn (k:=4) rfl)) ?_;refine qr (zbc rfl rfl ziy) ?_;refine q2 ?_;refine qvb 20 c ?_;refine q2 ?_;refine qf Ty.zkh ?_;refine qb 0 Ty.zqv hS ?_;refine qc ?_;have y:=u;rw [zck (by first | rfl | (rw [c,a];first | done | rfl) | simp [a,c,d])] at y;obtain ⟨D,P⟩:=zaf y;obtain ⟨S,J,l⟩:=hS.rowAt (k:=4) rfl P;obtain rfl:=J;replace l:=qj 4 l;have q:=l.ixd;refine qi Tryz.underlying33 Ty.size32 q D ?_;refine qr (zga 2 Ty.zqs rfl q) ?_;refine qr (zej 2 Ty.zjg rfl l (by first | omega | rfl) rfl) ?_;refine qc ?_;refine qr (zbc rfl rfl zhh) ?_;refine qc ?_;refine qvb 31 d ?_;refine q2 ?_;refine qf Ty.zkh ?_;refine qb 0 Ty.zqv hS ?_;refine qc ?_;have z:=M;rw [zck (by first | rfl | (rw [c,d,a];first | done | rfl) | simp [a,c,d])] at z;obtain ⟨G,Q⟩:=zaf z;obtain ⟨U,L,m⟩:=hS.rowAt (k:=4) rfl Q;obtain rfl:=L;replace m:=qj 4 m;have s:=m.ixd;refine qi Tryz.underlying33 Ty.size32 s G ?_;refine qr (zga 2 Ty.zqs rfl s) ?_;refine qr (zej 2 Ty.zjg rfl m (by first | omega | rfl) rfl) ?_;refine qc ?_;refine qr (zbc rfl rfl zhh) ?_;refine q3 ?_;refine zew ?_;exact zdy _ ⟨rfl,F,(Frz.le.refl _),hS⟩ ⟨(zbu rfl (by first | rfl | (rw [c,d,a];first | done | rfl) | simp [a,c,d])),trivial⟩
   ·refine qd ?_;refine qc ?_;refine qr (zbc rfl rfl bI_geq) ?_;refine qc ?_;refine qvb 11 a ?_;refine q3 ?_;refine qf Ty.zkh ?_;refine qb 0 Ty.zqv hS ?_;refine qr (zdh Tryz.underlying33 rfl (hS.rowLn (k:=4) rfl)) ?_;refine qr (zbc rfl rfl ziy) ?_;refine q2 ?_;refine qvb 20 c ?_;refine qz2 ?_;refine qz2 ?_;refine qz2 ?_;refine qz2 ?_;refine qz2 ?_;refine qz2 ?_;refine qz2 ?_;refine qz2 ?_;refine qz2 ?_;refine qz2 ?_;refine qz2 ?_;refine q2 ?_;refine zew ?_;exact zdy _ ⟨rfl,F,(Frz.le.refl _),hS⟩ ⟨(zbu rfl (by first | rfl | (rw [c,a];first | done | rfl) | simp [a,c])),trivial⟩
  ·refine qd ?_;refine qc ?_;refine qr (zbc rfl rfl bI_geq) ?_;refine qc ?_;refine qvb 11 a ?_;refine qz2 ?_;refine qz2 ?_;refine qz2 ?_;refine qz ?_;refine q2 ?_;refine qz2 ?_;refine qz2 ?_;refine qz2 ?_;refine qz2 ?_;refine qz2 ?_;refine qz2 ?_;refine qz2 ?_;refine qz2 ?_;refine qz2 ?_;refine qz2 ?_;refine qz2 ?_;refine q2 ?_;refine zew ?_;exact zdy _ ⟨rfl,F,(Frz.le.refl _),hS⟩ ⟨(zbu rfl (by first | rfl | (rw [a];first | done | rfl) | simp [a])),trivial⟩
 rintro E Y ⟨rfl,n,V,A⟩;refine zgl ?_;exact rz H A
def zgp (x0:Loc) (x1:Loc):Option Bool :=
  if decide (x0.vol≠x1.vol) then
    some (decide (x0.vol < x1.vol))
  else
    if decide (x0.file≠x1.file) then
      some (decide (x0.file < x1.file))
    else
      if decide (x0.off≠x1.off) then
        some (decide (x0.off < x1.off))
      else
        some (decide (x0.len < x1.len))
theorem zmx {x0:Loc} {x1:Loc} {r:Bool} (hA:Gd F w) (H:zgp x0 x1=some r):Ret Tryz.prog K 114 [.agg (Loc.cells x0),.agg (Loc.cells x1)] w fun v w'=>∃ (F':Frz),v = .b r∧St [] w F F' [] w':=by
 refine qa2 Tryz.func114 ?_;have hS:=St.start hA;refine qs ?_;refine bx ([.i .i64 x0.vol,.i .i64 x0.file,.i .i64 x0.off,.i .i64 x0.len]) ?_;intro f j h;refine bx ([.i .i64 x1.vol,.i .i64 x1.file,.i .i64 x1.off,.i .i64 x1.len]) ?_;intro g k a;refine ay ?_;refine qy H (fun c H=>?_) (fun c H=>?_)
 ·exact rz H a
 ·refine ay ?_;refine qy H (fun d H=>?_) (fun d H=>?_)
  ·exact rz H a
  ·refine ay ?_;refine qy H (fun e H=>?_) (fun e H=>?_)
   ·exact rz H a
   ·refine qk ?_;exact rz H a
def zbx.k1 (x0:List Loc) (x1:Loc) (a:Int):Option (List Loc) :=
  bd (cut (α:=Loc) x0 0 a) fun l4 =>
  bd (app (α:=Loc) [] l4) fun l7 =>
  bd (app (α:=Loc) l7 [x1]) fun l9 =>
  bd (cut (α:=Loc) x0 a (x0.length:Int)) fun l13 =>
  bd (app (α:=Loc) l9 l13) fun b =>
  some b
def zbx.l2 (x0:List Loc) (x1:Loc) (c:Int→Option (List Loc)):Int→Option (List Loc)
  | a =>
    bd (only (decide (a < (x0.length:Int))) (ix x0 a) (Loc.mk 0 0 0 0)) fun d =>
    bd (only (decide (a < (x0.length:Int))) (zgp d x1) false) fun b =>
    if (decide (a < (x0.length:Int))&&b) then
      c (wr (a+1))
    else
      zbx.k1 x0 x1 a
def zbx (x0:List Loc) (x1:Loc):Option (List Loc) :=
  loop (zbx.l2 x0 x1) 0
theorem zgq {x0:List Loc} {x1:Loc} {r:(List Loc)} {g:Val} (hA:Gd F w) (e:SlF Loc.t F g x0) (H:zbx x0 x1=some r):Ret Tryz.prog K 157 [g,.agg (Loc.cells x1)] w fun v w'=>∃ (F':Frz) (D:Val),v=D∧St [] w F F' [.row Loc.t D (r)] w':=by
 refine qa2 Tryz.func157 ?_;have hS:=St.start hA;refine qs ?_;refine bx ([.i .i64 x1.vol,.i .i64 x1.file,.i .i64 x1.off,.i .i64 x1.len]) ?_;intro j w1 p;refine au ?_;refine aq ?_;refine zac (fun E wq=>∃ d:Int,zbx.k1 x0 x1 d=some r ∧ ∃ (b:Frz),E=[(0,g),(3,pl j 0),(5,.i .i64 d)]∧F.le b∧Same p b wq) ?_ ?_
 ·refine zfa ?_;refine lj p (fun s:Int=>[(0,g),(3,pl j 0),(5,.i .i64 s)]) H ?_;intro am X ad a4 ah f H;refine ay ?_;obtain ⟨a8,A,ak,S,H⟩:=bd2 H;refine rf f ?_;refine aw ?_;refine ge (mo e) A ?_;refine ge (mo e) A ?_;refine W_gs (v:=.agg (Loc.cells x1)) rfl rfl rfl rfl (fun ⟨J,_⟩=>?_) ?_
  ·rw [J];exact (qq (zdx 0 (Loc.cells x1) Ty.ztb Ty.zhu (Nat.zero_lt_succ _) rfl f rfl (fun q u h=>zdp (post:=[]) rfl h)) ·)
  refine gw f S (fun y=>zmx f.good y) ?_;intro a5 m;refine qw m ?_;refine aw ?_;refine qy H (fun L H=>?_) (fun L H=>?_)
  ·refine ax ?_;exact nm H (jj m)
  ·refine zbe _ rfl ?_;exact nj ⟨X,H,jj m⟩
 ·rintro E Z ⟨d,H,b,rfl,B,c⟩;refine ay ?_;obtain ⟨l4,P,l7,Q,H⟩:=bd2 H;obtain ⟨l9,R,H⟩:=zaj H;have a:=c.boxAt 0 rfl;refine zbw (G:=(b.hold Z [j])) [0,1,2,3,5,6,4,7,8] rfl Ty.mixed (by kernel_rfl) (HB.agree (HB.cons 0 a c rfl HB.nil) c.agree) ?_;refine au ?_;refine zpe 0 d rfl rfl rfl rfl Tryz.underlying44 Ty.zhu rfl (.inl ⟨rfl,rfl⟩) (.inr ⟨_,_,rfl,rfl⟩) e P ?_;intro q5 V;refine qr (O_fldg (Loc.cells x1) Ty.ztb Ty.zhu (Nat.zero_lt_succ _) rfl (a.held (HB.cons 0 a c rfl HB.nil) (by simp)) (fun q u h=>zdp (post:=[]) rfl h)) ?_;refine qx (E_bs (t:=Loc.t) (vs:=[.agg (Loc.cells x1)]) (xs:=[x1]) Tryz.underlying44 Ty.zss rfl ⟨rfl,trivial⟩ rfl rfl c) ?_;rintro u6 w6 z;refine qh 1 a z ?_;have x:=z.nilRow Loc.t;refine qx (zep (t:=Loc.t) 0 Tryz.underlying44 Ty.zss Ty.zk44 rfl rfl x rfl ((V.mono B).src x.agree) Q) ?_;rintro v8 w8 n;refine qh 2 a n ?_;refine qx (zep (t:=Loc.t) 0 Tryz.underlying44 Ty.zss Ty.zk44 rfl rfl n rfl (n.rowSrc (k:=1) rfl) R) ?_;rintro ar a2 l;refine qh 2 a l ?_;obtain ⟨l13,M,ae,O,H⟩:=bd2 H;refine ax ?_;refine zpe d (x0.length:Int) rfl rfl rfl rfl Tryz.underlying44 Ty.zhu rfl (.inr ⟨_,_,rfl,rfl⟩) (.inl ⟨rfl,rfl⟩) e M ?_;intro ai U;refine xm (zep (t:=Loc.t) 0 Tryz.underlying44 Ty.zss Ty.zk44 rfl rfl l rfl ((U.mono B).src l.agree) O) ?_;rintro Y a3 I;refine au ?_;obtain rfl:=oi H;refine qt ?_;exact ⟨b,Y,rfl,I.pick [0] (by decide)⟩
end
end Go.Wk.Lf
end
