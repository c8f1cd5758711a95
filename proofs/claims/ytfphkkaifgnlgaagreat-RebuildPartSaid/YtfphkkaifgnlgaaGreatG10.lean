/-  -/
import Derived.Test.YtfphkkaifgnlgaaGreatG9
set_option linter.unusedVariables false
set_option linter.unusedSimpArgs false
section
namespace Go.Wk.Lf
open Go.V Go.Proofs
noncomputable section
set_option maxRecDepth 100000
variable {K:Tb} {F:Frz} {w:Hp}
def zhk.k1 (x0:Catalog) (x1:Found) (b:Int × Bool) (a:List Chunk):Option Catalog :=
  bd (ix a b.1) fun e =>
  bd (app (α:=Loc) e.locs [x1.loc]) fun d =>
  bd (ix a b.1) fun c =>
  some (Catalog.mk x0.seq x0.snaps (a.set b.1.toNat (Chunk.mk c.id c.staged c.data d)) x0.exps x0.vols)
def zhk (x0:Catalog) (x1:Found):Option Catalog :=
  if (decide ((x1.rec_.data.length:Int) < 1)||decide (64 < (x1.rec_.data.length:Int))) then
    some x0
  else
    bd (zef [x1.rec_.data]) fun b =>
    bd (zir x0.chunks b) fun a =>
    if (!a.2) then
      bd (insD x0.chunks a.1 [(Chunk.mk b false [] [])]) fun c =>
      zhk.k1 x0 x1 a c
    else
      zhk.k1 x0 x1 a x0.chunks
theorem zsu {X:List Nat} {x0:Catalog} {x1:Found} {r:Catalog} {gp0:Nat} {a:Val} {bsv0_1:List Nat} {y:Val} {bsv0_2:List Nat} {b:Val} {bsv0_3:List Nat} {c:Val} {n:Val} (hS:St X w F F [.box gp0 [.i .i64 x0.seq,a,y,b,c],.dp Snap.o bsv0_1 a x0.snaps,.dp Chunk.o bsv0_2 y x0.chunks,.dp Exp.o bsv0_3 b x0.exps,.row Vol.t c x0.vols] w) (O:SlF tB F n x1.rec_.data) (H:zhk x0 x1=some r):Ret Tryz.prog KK 43 [pl gp0 0,.agg (Found.cells x1 n)] w fun v w'=>∃ (F':Frz) (Y:Val) (bsz0_1:List Nat) (Z:Val) (bsz0_2:List Nat) (ad:Val) (bsz0_3:List Nat),v = .tup []∧St X w F F' [.box gp0 [.i .i64 r.seq,Y,Z,ad,c],.dp Snap.o bsz0_1 Y r.snaps,.dp Chunk.o bsz0_2 Z r.chunks,.dp Exp.o bsz0_3 ad r.exps,.row Vol.t c r.vols] w':=by
 refine qa2 Tryz.func43 ?_;refine qs ?_;refine bx ([.i .i64 x1.rec_.kind,.i .i64 x1.rec_.seq,n,.i .i64 x1.loc.vol,.i .i64 x1.loc.file,.i .i64 x1.loc.off,.i .i64 x1.loc.len]) ?_;intro M w1 P;refine aZ ?_;refine qy H (fun a1 H=>?_) (fun a1 H=>?_)
 ·obtain rfl:=oi H;refine qt ?_;exact ⟨F,a,bsv0_1,y,bsv0_2,b,bsv0_3,rfl,P.pick [1,2,3,4,5] (by decide)⟩
 ·obtain ⟨f,a7,H⟩:=zaj H;refine ax ?_;refine xm (E_bs (t:=(tSl tB)) (vs:=[n]) (xs:=[x1.rec_.data]) Tryz.underlying95 Ty.row47 rfl (by simp only [List.map_cons,List.map_nil,O.ln.cells];exact ⟨⟨_,rfl,O⟩,trivial⟩) rfl rfl P) ?_;rintro u8 w8 B;refine lm (sha_Sum_ok (Gd.now B.wf) (B.rowNow (k:=0) rfl) a7) ?_;rintro bn br ⟨aK,rfl,S,ap⟩;have ai:=B.lentFlat ap trivial;refine xm (zis (cs:=zam (List.replicate 32 (0:UInt8))) Ty.zsc rfl ai) ?_;rintro _ bq ⟨aT,rfl,aU⟩;refine sb 0 (zam f) ?_;intro bs j;refine ay ?_;obtain ⟨J,a6,H⟩:=zaj H;refine rf j ?_;refine au ?_;refine qq (zdx 0 (zam f) Ty.ziu Ty.zfq (Nat.zero_lt_succ _) rfl j rfl (fun q u h=>zdp (post:=[]) rfl h)) ?_;refine lq (zmr (Gd.now j.wf) (j.dpNow (k:=5) rfl Chunk.sees) S a6) j ?_;intro bt l;refine au ?_;refine zac (fun E wq=>∃ I:List Chunk,zhk.k1 x0 x1 J I=some r ∧ ∃ (g:Frz) (s:Val) (L:List Nat),E=[(0,pl gp0 0),(3,pl M 0),(5,.i .i64 J.1)]∧F.le g∧Also l [.box M [.i .i64 x1.rec_.kind,.i .i64 x1.rec_.seq,n,.i .i64 x1.loc.vol,.i .i64 x1.loc.file,.i .i64 x1.loc.off,.i .i64 x1.loc.len],.box gp0 [.i .i64 x0.seq,a,s,b,c],.dp Snap.o bsv0_1 a x0.snaps,.dp Exp.o bsv0_3 b x0.exps,.row Vol.t c x0.vols,.dp Chunk.o L s I] g wq) ?_ ?_
  ·refine aq ?_;refine qy H (fun a0 H=>?_) (fun a0 H=>?_)
   ·obtain ⟨aH,a4,H⟩:=zaj H;refine rf l ?_;refine au ?_;refine qq (zdx 0 (zam f) Ty.ziu Ty.zfq (Nat.zero_lt_succ _) rfl l rfl (fun q u h=>zdp (post:=[]) rfl h)) ?_;refine W_c (v:=.agg (Chunk.cells (Chunk.mk f false [] []) (.sl none 0 (.k 0)) (.sl none 0 (.k 0)))) rfl rfl rfl rfl (fun _=>rfl) ?_;refine qx (E_bs1 (t:=Chunk.o) (u:=.agg (Chunk.cells (Chunk.mk f false [] []) (.sl none 0 (.k 0)) (.sl none 0 (.k 0)))) (x:=(Chunk.mk f false [] [])) Tryz.underlying35 Ty.znh rfl ⟨.sl none 0 (.k 0),.sl none 0 (.k 0),rfl,S,(SlF.nil _),⟨_,rfl,.inl ⟨rfl,rfl,rfl⟩⟩⟩ rfl rfl l) ?_;rintro bj bz ⟨aP,A⟩;refine qw A ?_;refine ql (insChunk_ok (A.lendL [6,0] (by decide)) a4) ?_;rintro V b0 ⟨ah,ar⟩;have ak:=A.backL [6,0] [1,2,3,4,5,7,8] (by decide) (by decide) ar;refine qw ak ?_;refine au ?_;refine sC 4 ([.i .i64 x0.seq,a,V,b,c]) ?_;intro b1 am;refine zew ?_;exact nj ⟨aH,H,⟨_,V,ah,rfl,lec,pk [3,4,5,6,7,0] am⟩⟩
   ·refine ziz ?_;exact nj ⟨x0.chunks,H,⟨_,y,bsv0_2,rfl,lec,pk [2,3,4,6,7,5] l⟩⟩
  ·rintro E aJ ⟨I,H,g,s,L,rfl,bg,d⟩;obtain ⟨b3,U,bf,a3,H⟩:=bd2 H;obtain ⟨b4,p,H⟩:=zaj H;have e:=d.boxAt 1 rfl;refine zbw (G:=(g.hold aJ [gp0])) [0,1,2,3,4,5,6,7,8,9,10,11,12,13,14,15,16,17,18,19] rfl Ty.mixed (by kernel_rfl) (HB.agree (HB.cons 1 e d rfl HB.nil) d.agree) ?_;refine au ?_;refine qr (zdo Ty.zft rfl (e.held (HB.cons 1 e d rfl HB.nil) (by simp)) rfl) ?_;obtain ⟨_,⟨bl,bm,rfl,aY,bc,be⟩,_⟩:=elx 35 (d.dpNow (k:=5) rfl Chunk.sees) U;refine au ?_;obtain ⟨bh,aO,aR,D,a8,Q⟩:=d.focus Chunk.foc 5 rfl (zaf U).2;replace D:=qj 35 D;refine qq (zej 34 Ty.zgj rfl D (by first | omega | rfl) a8) ?_;refine au ?_;refine qq (zdx 1 (Loc.cells x1.loc) Ty.ztb Ty.zhu (Nat.zero_lt_succ _) rfl Q rfl (fun q u h=>zdp (post:=([]:List Val)) rfl h)) ?_;refine qx (E_bs (t:=Loc.t) (vs:=[.agg (Loc.cells x1.loc)]) (xs:=[x1.loc]) Tryz.underlying44 Ty.zss rfl ⟨rfl,trivial⟩ rfl rfl Q) ?_;rintro bi bu z;refine qh 3 e z ?_;refine qx (zep (t:=Loc.t) 1 Tryz.underlying44 Ty.zss Ty.zk44 rfl rfl z rfl (z.rowSrc (k:=0) rfl) a3) ?_;rintro bo bv m;refine qh 3 e m ?_;obtain ⟨a5,a9⟩:=zaf p;have a2:=m.dpIx (k:=7) rfl (zpm a9);refine qi Tryz.underlying35 Ty.zdv a2 a5 ?_;obtain ⟨ba,aC⟩:=zaf p;have aV:=m.dpIx (k:=7) rfl (zpm aC);refine au ?_;obtain ⟨bb,aD⟩:=zaf p;have aX:=m.dpIx (k:=7) rfl (zpm aD);have aj:=m.pick [1,7,0,2,3,4,5,6] (by decide);refine qu (E_fill Chunk.foc (J.1.toNat) rfl rfl aj (zaf p).2 (by first | rfl | (show _=_*35+_;omega)) Ty.zml) ?_;rintro _ bw ⟨ae,R⟩;refine qh 3 e R ?_;refine zew ?_;obtain rfl:=oi H;refine N_done rfl rfl ?_;exact ⟨g,a,bsv0_1,s,ae,b,bsv0_3,rfl,R.pick [3,4,0,5,6] (by decide)⟩
def zqf (x0:List Loc):Option (List Loc) :=
  bd (zbz x0) fun a =>
  bd (sortM zpb a) fun b =>
  bd (zat b) fun c =>
  bd (zbz c) fun d =>
  some d
theorem znk {x0:List Loc} {r:(List Loc)} {i:Val} (hA:Gd F w) (l:SlF Loc.t F i x0) (H:zqf x0=some r):Ret Tryz.prog KK 47 [i] w fun v w'=>∃ (F':Frz) (g:Val),v=g∧St [] w F F' [.row Loc.t g (r)] w':=by
 refine qa1 Tryz.func47 ?_;have hS:=St.start hA;obtain ⟨I,p,H⟩:=zaj H;refine ax ?_;refine lm (zde hS.good l p) ?_;rintro O R ⟨y,_,rfl,d⟩;have b:=hS.call d;have B:=d.ext;obtain ⟨J,q,H⟩:=zaj H;refine ax ?_;refine lm (sortLoc_ok (b.lendRow 0 rfl) q) ?_;rintro Q S ⟨z,rfl,e⟩;have c:=b.backRow 0 [] rfl (by decide) (by decide) e;have D:=e.ext;obtain ⟨L,s,M,u,H⟩:=bd2 H;refine ax ?_;refine lm (zif (c.lendRow 0 rfl) s) ?_;rintro P U ⟨j,_,rfl,f⟩;have a:=c.backRow 0 [] rfl (by decide) (by decide) f;have G:=f.ext;refine lm (zde (Gd.now a.wf) (a.rowNow (k:=0) rfl) u) ?_;rintro x V ⟨A,_,rfl,n⟩;have m:=a.lentFlat n ⟨fun _ _ _ h=>row_flat (t:=Loc.t) (fun h=>h) h,trivial⟩;refine au ?_;obtain rfl:=oi H;refine qt ?_;exact ⟨j,x,rfl,m.pick [0] (by decide)⟩
def zcd.k4 (a:Int) (b:List Vol) (c:List Snap) (d:List Chunk) (e:List Exp):Option (Catalog × Int) :=
  bd (zgs (Catalog.mk a c d e b)) fun f =>
  if decide (f≠0) then
    some ((Catalog.mk 0 [] [] [] []),1)
  else
    bd (zbq (Catalog.mk a c d e b)) fun g =>
    some (g,0)
def zcd.l5 (l17:List Exp) (d:Int) (e:List Vol) (f:List Snap) (g:List Chunk) (i:(Int × (List Exp))→Option (Catalog × Int)):(Int × (List Exp))→Option (Catalog × Int)
  | (a,b) =>
    if decide (a < (l17.length:Int)) then
      bd (ix b a) fun c =>
      bd (zqf c.locs) fun h =>
      i (wr (a+1),(b.set a.toNat (Exp.mk c.seq c.of h)))
    else
      zcd.k4 d e f g b
def zcd.k3 (l17:List Exp) (a:Int) (b:List Vol) (c:List Snap) (d:List Chunk):Option (Catalog × Int) :=
  loop (zcd.l5 l17 a b c d) (0,l17)
def zcd.l6 (l17:List Exp) (l20:List Chunk) (d:Int) (e:List Vol) (f:List Snap) (h:(Int × (List Chunk))→Option (Catalog × Int)):(Int × (List Chunk))→Option (Catalog × Int)
  | (a,c) =>
    if decide (a < (l20.length:Int)) then
      bd (ix c a) fun b =>
      bd (zqf b.locs) fun g =>
      h (wr (a+1),(c.set a.toNat (Chunk.mk b.id b.staged b.data g)))
    else
      zcd.k3 l17 d e f c
def zcd.k2 (l17:List Exp) (l20:List Chunk) (a:Int) (b:List Vol) (c:List Snap):Option (Catalog × Int) :=
  loop (zcd.l6 l17 l20 a b c) (0,l20)
def zcd.l7 (l17:List Exp) (l20:List Chunk) (d:Int) (e:List Vol) (g:(List Snap)) (h:(Int × (List Snap))→Option (Catalog × Int)):(Int × (List Snap))→Option (Catalog × Int)
  | (a,b) =>
    if decide (a < (g.length:Int)) then
      bd (ix b a) fun c =>
      bd (zqf c.locs) fun f =>
      h (wr (a+1),(b.set a.toNat (Snap.mk c.seq c.man f)))
    else
      zcd.k2 l17 l20 d e b
def zcd.k1 (l17:List Exp) (l20:List Chunk) (d:List Snap) (a:Int) (b:List Vol):Option (Catalog × Int) :=
  bd (zgm (Catalog.mk a d l20 l17 b)) fun c =>
  loop (zcd.l7 l17 l20 a b c) (0,c)
def zcd.k9 (a:Int) (g:(Int × (List Exp) × (List Chunk) × (List Snap) × Int × (List Vol))→Option (Catalog × Int)) (c:List Exp) (d:List Chunk) (e:List Snap) (b:Int) (f:List Vol):Option (Catalog × Int) :=
  g (wr (a+1),c,d,e,b,f)
def zcd.l8 (x1:List Found) (i:(Int × (List Exp) × (List Chunk) × (List Snap) × Int × (List Vol))→Option (Catalog × Int)):(Int × (List Exp) × (List Chunk) × (List Snap) × Int × (List Vol))→Option (Catalog × Int)
  | (b,e,f,g,d,h) =>
    if decide (b < (x1.length:Int)) then
      bd (ix x1 b) fun c =>
      if decide (c.rec_.kind=1) then
        bd (zhk (Catalog.mk d g f e h) c) fun a =>
        zcd.k9 b i a.exps a.chunks a.snaps a.seq a.vols
      else
        if decide (c.rec_.kind=2) then
          none
        else
          if decide (c.rec_.kind=3) then
            none
          else
            zcd.k9 b i e f g d h
    else
      zcd.k1 e f g d h
def zcd (x0:List Vol) (x1:List Found):Option (Catalog × Int) :=
  bd (zeh x0) fun a =>
  loop (zcd.l8 x1) (0,[],[],[],0,a)
set_option maxHeartbeats 2000000 in
theorem ztu {x0:List Vol} {x1:List Found} {r:Catalog × Int} {v0:Val} {v1:Val} (hA:Gd F w) (h0:SlF Vol.t F v0 x0) (h1:SlF Found.t F v1 x1) (H:zcd x0 x1=some r):Ret Tryz.prog KK 12 [v0,v1] w fun v w'=>∃ (F':Frz) (bK:Val) (bL:Val) (bM:Val) (bN:Val),v = .tup [.agg (Catalog.cells r.1 bK bL bM bN),.i .i64 r.2]∧SlF Snap.t F' bK (r.1.snaps)∧SlF Chunk.t F' bL (r.1.chunks)∧SlF Exp.t F' bM (r.1.exps)∧SlF Vol.t F' bN (r.1.vols)∧St [] w F F' [] w':=by
 refine qa2 Tryz.func12 ?_;have hS:=St.start hA;refine qs ?_;refine al ?_;intro g w1 ca;have ci:=ca.nilDp Snap.o;have cj:=ci.nilDp Chunk.o;have b1:=cj.nilDp Exp.o;obtain ⟨r5,dg,H⟩:=zaj H;refine ax ?_;refine lm (zgh b1.good h0 dg) ?_;rintro a eV ⟨aT,_,rfl,bA⟩;have ce:=b1.call bA;have d2:=bA.ext;have cM:=(ce.rowLn (k:=0) rfl).cells;refine qr (zlm (vs:=[(4,a)]) (v:=.agg (Catalog.cells (Catalog.mk 0 [] [] [] r5) (.sl none 0 (.k 0)) (.sl none 0 (.k 0)) (.sl none 0 (.k 0)) a)) Ty.bld38 rfl (by simp only [zkr,cM];rfl)) ?_;refine al ?_;intro b w6 c4;have cA:=c4.nilDp Snap.o;have cC:=cA.nilDp Chunk.o;have ef:=cC.nilDp Exp.o;refine sb 3 ([.i .i64 0,.sl none 0 (.k 0),.sl none 0 (.k 0),.sl none 0 (.k 0),a]) ?_;intro eZ cg;have cb:=cg.nilDp Snap.o;have cc:=cb.nilDp Chunk.o;have aY:=cc.nilDp Exp.o;refine qn ?_;refine zac (fun E wq=>∃ l17:List Exp,∃ l20:List Chunk,∃ L:List Snap,∃ h:Int,∃ l:List Vol,zcd.k1 l17 l20 L h l=some r ∧ ∃ (aP:Frz) (d:Val) (bt:List Nat) (e:Val) (bu:List Nat) (aC:Val) (bv:List Nat),E=[(4,pl g 0),(6,pl b 0)]∧aT.le aP∧Also aY [.dp Exp.o bt d l17,.dp Chunk.o bu e l20,.dp Snap.o bv aC L,.box b [.i .i64 h,aC,e,d,a],.row Vol.t a l,.dp Exp.o [] (.sl none 0 (.k 0)) [],.dp Chunk.o [] (.sl none 0 (.k 0)) [],.dp Snap.o [] (.sl none 0 (.k 0)) [],.box g [.i .i64 0,(.sl none 0 (.k 0)),(.sl none 0 (.k 0)),(.sl none 0 (.k 0)),.sl none 0 (.k 0)]] aP wq) ?_ ?_
 ·refine ax ?_;refine zbo (fun (s:Int × (List Exp) × (List Chunk) × (List Snap) × Int × (List Vol)) E wq=>∃ (V:Frz) (P:Val) (ah:List Nat) (Q:Val) (ai:List Nat) (R:Val) (aj:List Nat),E=[(4,pl g 0),(6,pl b 0),(15,v1),(16,.i .i64 (x1.length:Int)),(17,.i .i64 s.1)]∧aT.le V∧Also aY [.dp Exp.o ah P s.2.1,.dp Chunk.o ai Q s.2.2.1,.dp Snap.o aj R s.2.2.2.1,.box b [.i .i64 s.2.2.2.2.1,R,Q,P,a],.row Vol.t a s.2.2.2.2.2,.dp Exp.o [] (.sl none 0 (.k 0)) [],.dp Chunk.o [] (.sl none 0 (.k 0)) [],.dp Snap.o [] (.sl none 0 (.k 0)) [],.box g [.i .i64 0,(.sl none 0 (.k 0)),(.sl none 0 (.k 0)),(.sl none 0 (.k 0)),.sl none 0 (.k 0)]] V wq) H ?_ ?_
  ·exact lo ⟨aT,(.sl none 0 (.k 0)),[],(.sl none 0 (.k 0)),[],(.sl none 0 (.k 0)),[],rfl,(Frz.le.refl _),aY.pick [0,1,2,6,7,8,9,10,11] (by decide)⟩
  ·rintro dA ⟨bJ,bh,bi,bj,bf,bk⟩ E eT hI H
   try dsimp only at hI
   obtain ⟨V,P,ah,Q,ai,R,aj,rfl,dy,bz⟩:=hI;refine ay ?_;refine qy H (fun cE H=>?_) (fun cE H=>?_)
   ·refine qk ?_;refine zac (fun E wq=>∃ bl:List Exp,∃ bm:List Chunk,∃ bn:List Snap,∃ bg:Int,∃ bo:List Vol,zcd.k9 bJ dA bl bm bn bg bo=some r ∧ ∃ (aO:Frz) (a7:Val) (aU:List Nat) (a8:Val) (aV:List Nat) (a9:Val) (aX:List Nat),E=[(4,pl g 0),(6,pl b 0),(15,v1),(16,.i .i64 (x1.length:Int)),(17,.i .i64 bJ)]∧V.le aO∧Also bz [.dp Exp.o aU a7 bl,.dp Chunk.o aV a8 bm,.dp Snap.o aX a9 bn,.box b [.i .i64 bg,a9,a8,a7,a],.row Vol.t a bo,.dp Exp.o [] (.sl none 0 (.k 0)) [],.dp Chunk.o [] (.sl none 0 (.k 0)) [],.dp Snap.o [] (.sl none 0 (.k 0)) [],.box g [.i .i64 0,(.sl none 0 (.k 0)),(.sl none 0 (.k 0)),(.sl none 0 (.k 0)),.sl none 0 (.k 0)]] aO wq) ?_ ?_
    ·obtain ⟨A,dq,H⟩:=zaj H;obtain ⟨_,⟨dB,rfl,dk⟩,eg⟩:=elx 7 (h1.mono (d2.trans dy)) dq;refine ax ?_;refine al ?_;intro eb eW ec;refine sb 0 ([.i .i64 A.rec_.kind,.i .i64 A.rec_.seq,dB,.i .i64 A.loc.vol,.i .i64 A.loc.file,.i .i64 A.loc.off,.i .i64 A.loc.len]) ?_;intro eX ba;refine ax ?_;refine qy H (fun cF H=>?_) (fun cF H=>?_)
     ·obtain ⟨M,dd,H⟩:=zaj H;refine ax ?_;refine lm (zsu (x0:=(Catalog.mk bf bj bi bh bk)) (x1:=A) (ba.lendL [4,3,2,1,5] (by decide)) dk dd) ?_;rintro eN eY ⟨dW,ur139_b0_1,bsr139_b0_1,ur139_b0_2,bsr139_b0_2,ur139_b0_3,bsr139_b0_3,rfl,bB⟩;have cf:=ba.backL [4,3,2,1,5] [0,6,7,8,9] (by decide) (by decide) bB;have eB:=bB.ext;refine ax ?_;exact nj ⟨M.exps,M.chunks,M.snaps,M.seq,M.vols,H,⟨_,ur139_b0_3,bsr139_b0_3,ur139_b0_2,bsr139_b0_2,ur139_b0_1,bsr139_b0_1,rfl,lec,pk [3,2,1,0,4,6,7,8,9] cf⟩⟩
     ·refine aq ?_;refine qy H (fun cG H=>?_) (fun cG H=>?_)
      ·
       cases H
      ·refine aq ?_;refine qy H (fun cH H=>?_) (fun cH H=>?_)
       ·
        cases H
       ·refine ax ?_;exact nj ⟨bh,bi,bj,bf,bk,H,⟨_,P,ah,Q,ai,R,aj,rfl,lec,pk [1,2,3,4,5,6,7,8,9] ba⟩⟩
    ·rintro E eU ⟨bl,bm,bn,bg,bo,H,aO,a7,aU,a8,aV,a9,aX,rfl,ek,cd⟩;refine ax ?_;exact nm H ⟨_,a7,aU,a8,aV,a9,aX,rfl,lec,cd⟩
   ·refine zbe _ rfl ?_;exact nj ⟨bh,bi,bj,bf,bk,H,⟨_,P,ah,Q,ai,R,aj,rfl,lec,bz⟩⟩
 ·rintro E fa ⟨l17,l20,L,h,l,H,aP,d,bt,e,bu,aC,bv,rfl,em,ch⟩;obtain ⟨d6,de,H⟩:=zaj H;refine aq ?_;obtain ⟨dG,en,ck⟩:=St.flatD Snap.sees 2 ch rfl;obtain ⟨dH,eo,cl⟩:=St.flatD Chunk.sees 1 ck rfl;obtain ⟨dI,ep,b0⟩:=St.flatD Exp.sees 0 cl rfl;refine zoi (f:=46) (args:=[.agg (Catalog.cells (Catalog.mk h L l20 l17 l) aC e d a)]) rfl rfl rfl rfl (zst (x0:=(Catalog.mk h L l20 l17 l)) (b0.lendL [2,1,0,4] (by decide)) de) ?_;rintro j fb ⟨bs,_,rfl,bC⟩;have ed:=b0.backL [2,1,0,4] [3,5,6,7,8] (by decide) (by decide) bC;have eC:=bC.ext;refine Nxt.now ?_;refine au ?_;refine sc 5 ([.i .i64 h,j,e,d,a]) ?_;intro fc ap;refine qn ?_;refine zac (fun E wq=>∃ m:List Snap,zcd.k2 l17 l20 h l m=some r ∧ ∃ (I:Frz),E=[(4,pl g 0),(6,pl b 0)]∧bs.le I∧Also ap [.row Snap.t j m,.row Chunk.t e l20,.row Exp.t d l17,.row Vol.t a l,.box b [.i .i64 h,j,e,d,a],.dp Exp.o [] (.sl none 0 (.k 0)) [],.dp Chunk.o [] (.sl none 0 (.k 0)) [],.dp Snap.o [] (.sl none 0 (.k 0)) [],.box g [.i .i64 0,(.sl none 0 (.k 0)),(.sl none 0 (.k 0)),(.sl none 0 (.k 0)),.sl none 0 (.k 0)]] I wq) ?_ ?_
  ·refine aq ?_;refine qr (zdh Tryz.underlying34 rfl (ap.rowLn (k:=0) rfl)) ?_;refine ax ?_;refine zbo (fun (s:Int × (List Snap)) E wq=>∃ (Z:Frz),E=[(4,pl g 0),(6,pl b 0),(42,.i .i64 (d6.length:Int)),(43,.i .i64 s.1)]∧bs.le Z∧Also ap [.row Snap.t j s.2,.row Chunk.t e l20,.row Exp.t d l17,.row Vol.t a l,.box b [.i .i64 h,j,e,d,a],.dp Exp.o [] (.sl none 0 (.k 0)) [],.dp Chunk.o [] (.sl none 0 (.k 0)) [],.dp Snap.o [] (.sl none 0 (.k 0)) [],.box g [.i .i64 0,(.sl none 0 (.k 0)),(.sl none 0 (.k 0)),(.sl none 0 (.k 0)),.sl none 0 (.k 0)]] Z wq) H ?_ ?_
   ·exact lo (jj (pk [0,2,3,4,5,6,7,8,9] ap))
   ·rintro eH ⟨dt,dw⟩ E dE hI H
    try dsimp only at hI
    obtain ⟨Z,rfl,eA,u⟩:=hI;refine ay ?_;refine qy H (fun cL H=>?_) (fun cL H=>?_)
    ·refine ay ?_;obtain ⟨bq,bI,d5,dc,H⟩:=bd2 H;have x:=u.boxAt 4 rfl;refine zbw (G:=(Z.hold dE [b])) [0,1,2,3,4,5,6,7,8,9,10,11,12] rfl Ty.mixed (by kernel_rfl) (HB.agree (HB.cons 4 x u rfl HB.nil) u.agree) ?_;refine au ?_;refine qr (zdo Ty.zoe rfl (x.held (HB.cons 4 x u rfl HB.nil) (by simp)) rfl) ?_;obtain ⟨_,⟨eL,eM,rfl,ej,dn⟩,cN⟩:=elr 4 0 u bI;refine au ?_;refine qq (zej 3 Ty.zgj rfl cN (by first | omega | rfl) rfl) ?_;refine ql (znk u.good dn dc) ?_;rintro bO eR ⟨dV,_,rfl,b9⟩;have ak:=u.call b9;have d1:=b9.ext;refine Nxt.frz (HB.le (HB.cons 5 x ak rfl HB.nil) d1) (HB.agree (HB.cons 5 x ak rfl HB.nil) ak.agree) ?_;refine au ?_;obtain ⟨dF,dx,bb,am⟩:=ak.freezeR 0 [1,2,3,4,5,6,7,8,9] rfl (by decide) (by decide);refine W_rg (HB.le (HB.cons 4 x am rfl HB.nil) dx) (HB.agree (HB.cons 4 x am rfl HB.nil) am.agree) ?_;refine qu (ziv (c:=[bO]) 0 (dt.toNat) 3 bq (Snap.mk bq.seq bq.man d5) rfl rfl am rfl (zaf bI).2 (by first | rfl | (show _=_*4+_;omega)) bb.ln.cells Ty.zml (by simp only [List.all_cons,List.all_nil,List.all_append,bb.ln.one];rfl) (Nat.le_of_ble_eq_true rfl) (by rintro cs ⟨a2,a3,rfl,b2,b3⟩;exact ⟨a2,bO,rfl,b2,bb⟩)) ?_;rintro _ eS bw;refine qh 4 x bw ?_;refine ax ?_;exact nm H (jj bw)
    ·refine zbe _ rfl ?_;exact nj ⟨dw,H,jj u⟩
  ·rintro E fd ⟨m,H,I,rfl,eq,ar⟩;refine zac (fun E wq=>∃ n:List Chunk,zcd.k3 l17 h l m n=some r ∧ ∃ (J:Frz),E=[(4,pl g 0),(6,pl b 0)]∧I.le J∧Also ar [.row Snap.t j m,.row Chunk.t e n,.row Exp.t d l17,.row Vol.t a l,.box b [.i .i64 h,j,e,d,a],.dp Exp.o [] (.sl none 0 (.k 0)) [],.dp Chunk.o [] (.sl none 0 (.k 0)) [],.dp Snap.o [] (.sl none 0 (.k 0)) [],.box g [.i .i64 0,(.sl none 0 (.k 0)),(.sl none 0 (.k 0)),(.sl none 0 (.k 0)),.sl none 0 (.k 0)]] J wq) ?_ ?_
   ·refine aq ?_;refine qr (zdh Tryz.underlying35 rfl (ar.rowLn (k:=1) rfl)) ?_;refine ax ?_;refine zbo (fun (s:Int × (List Chunk)) E wq=>∃ (Y:Frz),E=[(4,pl g 0),(6,pl b 0),(61,.i .i64 (l20.length:Int)),(62,.i .i64 s.1)]∧I.le Y∧Also ar [.row Snap.t j m,.row Chunk.t e s.2,.row Exp.t d l17,.row Vol.t a l,.box b [.i .i64 h,j,e,d,a],.dp Exp.o [] (.sl none 0 (.k 0)) [],.dp Chunk.o [] (.sl none 0 (.k 0)) [],.dp Snap.o [] (.sl none 0 (.k 0)) [],.box g [.i .i64 0,(.sl none 0 (.k 0)),(.sl none 0 (.k 0)),(.sl none 0 (.k 0)),.sl none 0 (.k 0)]] Y wq) H ?_ ?_
    ·exact lo (jj ar)
    ·rintro eG ⟨ds,dv⟩ E dD hI H
     try dsimp only at hI
     obtain ⟨Y,rfl,e9,q⟩:=hI;refine ay ?_;refine qy H (fun cK H=>?_) (fun cK H=>?_)
     ·refine ay ?_;obtain ⟨aK,bH,d9,dj,H⟩:=bd2 H;have z:=q.boxAt 4 rfl;refine zbw (G:=(Y.hold dD [b])) [0,1,2,3,4,5,6,7,8,9,10,11,12] rfl Ty.mixed (by kernel_rfl) (HB.agree (HB.cons 4 z q rfl HB.nil) q.agree) ?_;refine au ?_;refine qr (zdo Ty.zft rfl (z.held (HB.cons 4 z q rfl HB.nil) (by simp)) rfl) ?_;obtain ⟨_,⟨eJ,eK,rfl,eh,ei,dm⟩,cP⟩:=elr 35 1 q bH;refine au ?_;refine qq (zej 34 Ty.zgj rfl cP (by first | omega | rfl) rfl) ?_;refine ql (znk q.good dm dj) ?_;rintro bQ fn ⟨ea,_,rfl,bF⟩;have a5:=q.call bF;have d4:=bF.ext;refine Nxt.frz (HB.le (HB.cons 5 z a5 rfl HB.nil) d4) (HB.agree (HB.cons 5 z a5 rfl HB.nil) a5.agree) ?_;refine au ?_;obtain ⟨dU,d0,be,a6⟩:=a5.freezeR 0 [1,2,3,4,5,6,7,8,9] rfl (by decide) (by decide);refine W_rg (HB.le (HB.cons 4 z a6 rfl HB.nil) d0) (HB.agree (HB.cons 4 z a6 rfl HB.nil) a6.agree) ?_;refine qu (ziv (c:=[bQ]) 1 (ds.toNat) 34 aK (Chunk.mk aK.id aK.staged aK.data d9) rfl rfl a6 rfl (zaf bH).2 (by first | rfl | (show _=_*35+_;omega)) be.ln.cells Ty.zml (by simp only [List.all_cons,List.all_nil,List.all_append,be.ln.one];rfl) (Nat.le_of_ble_eq_true rfl) (by rintro cs ⟨a2,a3,rfl,c0,b2,b3⟩;exact ⟨a2,bQ,rfl,c0,b2,be⟩)) ?_;rintro _ fo b8;refine qh 4 z b8 ?_;refine ax ?_;exact nm H (jj b8)
     ·refine zbe _ rfl ?_;exact nj ⟨dv,H,jj q⟩
   ·rintro E fe ⟨n,H,J,rfl,er,a0⟩;refine zac (fun E wq=>∃ D:List Exp,zcd.k4 h l m n D=some r ∧ ∃ (aR:Frz),E=[(4,pl g 0),(6,pl b 0)]∧J.le aR∧Also a0 [.row Snap.t j m,.row Chunk.t e n,.row Exp.t d D,.row Vol.t a l,.box b [.i .i64 h,j,e,d,a],.dp Exp.o [] (.sl none 0 (.k 0)) [],.dp Chunk.o [] (.sl none 0 (.k 0)) [],.dp Snap.o [] (.sl none 0 (.k 0)) [],.box g [.i .i64 0,(.sl none 0 (.k 0)),(.sl none 0 (.k 0)),(.sl none 0 (.k 0)),.sl none 0 (.k 0)]] aR wq) ?_ ?_
    ·refine aq ?_;refine qr (zdh Tryz.underlying36 rfl (a0.rowLn (k:=2) rfl)) ?_;refine ax ?_;refine zbo (fun (s:Int × (List Exp)) E wq=>∃ (X:Frz),E=[(4,pl g 0),(6,pl b 0),(80,.i .i64 (l17.length:Int)),(81,.i .i64 s.1)]∧J.le X∧Also a0 [.row Snap.t j m,.row Chunk.t e n,.row Exp.t d s.2,.row Vol.t a l,.box b [.i .i64 h,j,e,d,a],.dp Exp.o [] (.sl none 0 (.k 0)) [],.dp Chunk.o [] (.sl none 0 (.k 0)) [],.dp Snap.o [] (.sl none 0 (.k 0)) [],.box g [.i .i64 0,(.sl none 0 (.k 0)),(.sl none 0 (.k 0)),(.sl none 0 (.k 0)),.sl none 0 (.k 0)]] X wq) H ?_ ?_
     ·exact lo (jj a0)
     ·rintro eF ⟨dr,du⟩ E dC hI H
      try dsimp only at hI
      obtain ⟨X,rfl,e8,p⟩:=hI;refine ay ?_;refine qy H (fun cJ H=>?_) (fun cJ H=>?_)
      ·refine ay ?_;obtain ⟨bp,bG,d8,di,H⟩:=bd2 H;have y:=p.boxAt 4 rfl;refine zbw (G:=(X.hold dC [b])) [0,1,2,3,4,5,6,7,8,9,10,11,12] rfl Ty.mixed (by kernel_rfl) (HB.agree (HB.cons 4 y p rfl HB.nil) p.agree) ?_;refine au ?_;refine qr (zdo Ty.zkm rfl (y.held (HB.cons 4 y p rfl HB.nil) (by simp)) rfl) ?_;obtain ⟨_,⟨eI,rfl,dl⟩,cO⟩:=elr 3 2 p bG;refine au ?_;refine qq (zej 2 Ty.zgj rfl cO (by first | omega | rfl) rfl) ?_;refine ql (znk p.good dl di) ?_;rintro bP fl ⟨dZ,_,rfl,bE⟩;have a1:=p.call bE;have d3:=bE.ext;refine Nxt.frz (HB.le (HB.cons 5 y a1 rfl HB.nil) d3) (HB.agree (HB.cons 5 y a1 rfl HB.nil) a1.agree) ?_;refine au ?_;obtain ⟨dT,dz,bc,a4⟩:=a1.freezeR 0 [1,2,3,4,5,6,7,8,9] rfl (by decide) (by decide);refine W_rg (HB.le (HB.cons 4 y a4 rfl HB.nil) dz) (HB.agree (HB.cons 4 y a4 rfl HB.nil) a4.agree) ?_;refine qu (ziv (c:=[bP]) 2 (dr.toNat) 2 bp (Exp.mk bp.seq bp.of d8) rfl rfl a4 rfl (zaf bG).2 (by first | rfl | (show _=_*3+_;omega)) bc.ln.cells Ty.zml (by simp only [List.all_cons,List.all_nil,List.all_append,bc.ln.one];rfl) (Nat.le_of_ble_eq_true rfl) (by rintro cs ⟨a2,rfl,b2⟩;exact ⟨bP,rfl,bc⟩)) ?_;rintro _ fm b7;refine qh 4 y b7 ?_;refine ax ?_;exact nm H (jj b7)
      ·refine zbe _ rfl ?_;exact nj ⟨du,H,jj p⟩
    ·rintro E ff ⟨D,H,aR,rfl,et,B⟩;obtain ⟨eE,df,H⟩:=zaj H;refine ay ?_;refine zoi (f:=36) (args:=[.agg (Catalog.cells (Catalog.mk h m n D l) j e d a)]) rfl rfl rfl rfl (zia (Gd.now B.wf) (B.rowNow (k:=0) rfl) (B.rowNow (k:=1) rfl) (B.rowNow (k:=2) rfl) (B.rowNow (k:=3) rfl) df) ?_;rintro eO fg ⟨dX,rfl,cD⟩;have cm:=B.lent cD;refine Nxt.now ?_;refine au ?_;refine qy H (fun cI H=>?_) (fun cI H=>?_)
     ·refine qs ?_;refine W_c (v:=.agg (Catalog.cells (Catalog.mk 0 [] [] [] []) (.sl none 0 (.k 0)) (.sl none 0 (.k 0)) (.sl none 0 (.k 0)) (.sl none 0 (.k 0)))) rfl rfl rfl rfl (fun _=>rfl) ?_;refine sb 8 ([.i .i64 0,.sl none 0 (.k 0),.sl none 0 (.k 0),.sl none 0 (.k 0),.sl none 0 (.k 0)]) ?_;intro fh cq;have cn:=cq.nilDp Snap.o;have co:=cn.nilDp Chunk.o;have cp:=co.nilDp Exp.o;refine au ?_;obtain ⟨dJ,eu,cr⟩:=St.flatD Snap.sees 2 cp rfl;obtain ⟨dK,ev,cQ,ct⟩:=cr.freezeR 2 [0,1,3,4,5,6,7,8,9,10,11] rfl (by decide) (by decide);obtain ⟨dL,ew,cu⟩:=St.flatD Chunk.sees 1 ct rfl;obtain ⟨dM,ex,cR,cw⟩:=cu.freezeR 1 [0,2,3,4,5,6,7,8,9,10] rfl (by decide) (by decide);obtain ⟨dN,ey,cx⟩:=St.flatD Exp.sees 0 cw rfl;obtain ⟨br,ez,cS,cy⟩:=cx.freezeR 0 [1,2,3,4,5,6,7,8,9] rfl (by decide) (by decide);have b4:St [] w F br [.row Snap.t j m,.row Chunk.t e n,.row Exp.t d D,.row Vol.t a l,.box b [.i .i64 h,j,e,d,a],.dp Exp.o [] (.sl none 0 (.k 0)) [],.dp Chunk.o [] (.sl none 0 (.k 0)) [],.dp Snap.o [] (.sl none 0 (.k 0)) [],.box g [.i .i64 0,(.sl none 0 (.k 0)),(.sl none 0 (.k 0)),(.sl none 0 (.k 0)),.sl none 0 (.k 0)]] _:=cy;obtain rfl:=oi H;refine zgb (vs:=[.agg (Catalog.cells (Catalog.mk 0 [] [] [] []) (.sl none 0 (.k 0)) (.sl none 0 (.k 0)) (.sl none 0 (.k 0)) (.sl none 0 (.k 0))),.i .i64 1]) rfl ⟨(zeo 8 Ty.zjo Ty.zgk b4 rfl rfl),rfl,trivial⟩ ?_;exact ⟨br,(.sl none 0 (.k 0)),(.sl none 0 (.k 0)),(.sl none 0 (.k 0)),.sl none 0 (.k 0),rfl,(mo cQ),(mo cR),cS,(SlF.nil _),b4.pick [] (by decide)⟩
     ·obtain ⟨O,dh,H⟩:=zaj H;refine ax ?_;obtain ⟨dO,e0,cT,cz⟩:=cm.freezeR 0 [1,2,3,4,5,6,7,8] rfl (by decide) (by decide);obtain ⟨dP,e1,cU,c1⟩:=cz.freezeR 0 [1,2,3,4,5,6,7] rfl (by decide) (by decide);obtain ⟨bS,e2,cV,c2⟩:=c1.freezeR 0 [1,2,3,4,5,6] rfl (by decide) (by decide);have c3:St [] w F bS [.row Vol.t a l,.box b [.i .i64 h,j,e,d,a],.dp Exp.o [] (.sl none 0 (.k 0)) [],.dp Chunk.o [] (.sl none 0 (.k 0)) [],.dp Snap.o [] (.sl none 0 (.k 0)) [],.box g [.i .i64 0,(.sl none 0 (.k 0)),(.sl none 0 (.k 0)),(.sl none 0 (.k 0)),.sl none 0 (.k 0)]] _:=c2;obtain ⟨dQ,e3,cX,b5⟩:=c3.freezeR 0 [1,2,3,4,5] rfl (by decide) (by decide);refine zoi (f:=48) (args:=[.agg (Catalog.cells (Catalog.mk h m n D l) j e d a)]) rfl rfl rfl rfl (zof b5.good (mo cT) (mo cU) (mo cV) cX dh) ?_;rintro eP fj ⟨dY,aD,aH,S,U,rfl,bD⟩;have ee:=b5.call bD;have eD:=bD.ext;refine Nxt.now ?_;refine sb 8 ([.i .i64 O.seq,aD,aH,S,U]) ?_;intro fk c5;refine au ?_;obtain ⟨dR,e4,cY,c6⟩:=c5.freezeR 0 [1,2,3,4,5,6,7,8] rfl (by decide) (by decide);obtain ⟨bT,e5,cZ,c7⟩:=c6.freezeR 0 [1,2,3,4,5,6,7] rfl (by decide) (by decide);have c8:St [] w F bT [.row Exp.t S O.exps,.row Vol.t U O.vols,.box b [.i .i64 h,j,e,d,a],.dp Exp.o [] (.sl none 0 (.k 0)) [],.dp Chunk.o [] (.sl none 0 (.k 0)) [],.dp Snap.o [] (.sl none 0 (.k 0)) [],.box g [.i .i64 O.seq,aD,aH,S,U]] _:=c7;obtain ⟨dS,e6,da,c9⟩:=c8.freezeR 0 [1,2,3,4,5,6] rfl (by decide) (by decide);obtain ⟨bU,e7,db,b6⟩:=c9.freezeR 0 [1,2,3,4,5] rfl (by decide) (by decide);obtain rfl:=oi H;refine zgb (vs:=[.agg (Catalog.cells O aD aH S U),.i .i64 0]) rfl ⟨(zeo 4 Ty.zjo Ty.zgk b6 rfl rfl),rfl,trivial⟩ ?_;exact ⟨bU,aD,aH,S,U,rfl,(mo cY),(mo cZ),(mo da),db,b6.pick [] (by decide)⟩
def zgr:Option Bool :=
  bd (zcd [(Vol.mk 0 0 2 1)] [(Found.mk (Record.mk 1 0 [(120:UInt8)]) (Loc.mk 0 1 13 14))]) fun a =>
  bd (only (decide (a.2=0)&&decide ((a.1.chunks.length:Int)=1)) (ix a.1.chunks 0) (Chunk.mk (List.replicate 32 (0:UInt8)) false [] [])) fun b =>
  bd (only ((decide (a.2=0)&&decide ((a.1.chunks.length:Int)=1))&&decide ((b.locs.length:Int)=1)) (ix a.1.chunks 0) (Chunk.mk (List.replicate 32 (0:UInt8)) false [] [])) fun c =>
  some (((decide (a.2=0)&&decide ((a.1.chunks.length:Int)=1))&&decide ((b.locs.length:Int)=1))&&(!c.staged))
theorem ziw {r:Bool} (hA:Gd F w) (H:zgr=some r):Ret Tryz.prog KK 11 [] w fun v w'=>∃ (F':Frz),v = .b r∧St [] w F F' [] w':=by
 refine zra (args:=[]) Tryz.func11 rfl (by decide) rfl ?_;change C _ _ _ _ _ [] _;have hS:=St.start hA;obtain ⟨g,a1,H⟩:=zaj H;refine ax ?_;refine W_c (v:=.agg (Vol.cells (Vol.mk 0 0 2 1))) rfl rfl rfl rfl (fun _=>rfl) ?_;refine xm (E_bs (t:=Vol.t) (vs:=[.agg (Vol.cells (Vol.mk 0 0 2 1))]) (xs:=[(Vol.mk 0 0 2 1)]) Tryz.underlying33 Ty.row32 rfl ⟨rfl,trivial⟩ rfl rfl hS) ?_;rintro u1 w1 R;refine xm (E_bs (t:=tB) (vs:=[.i .u8 ((120:UInt8).toNat:Int)]) (xs:=[(120:UInt8)]) Tryz.underlying47 Ty.row5 rfl ⟨rfl,trivial⟩ rfl rfl R) ?_;rintro h w2 l;refine xm (E_cvt 0 Tryz.underlying47 Tryz.underlying5 rfl l rfl (List.cons_ne_nil _ _) rfl) ?_;rintro _ _ ⟨rfl,rfl⟩;have Y:=(l.rowLn (k:=0) rfl).cells;refine qr (zlm (vs:=[(0,.i .i64 1),(2,h)]) (v:=.agg (Record.cells (Record.mk 1 0 [(120:UInt8)]) h)) Ty.bld49 rfl (by simp only [zkr,Y];rfl)) ?_;refine W_c (v:=.agg (Loc.cells (Loc.mk 0 1 13 14))) rfl rfl rfl rfl (fun _=>rfl) ?_;have Z:=(l.rowLn (k:=0) rfl).cells;refine qr (zlm (vs:=[(0,.agg (Record.cells (Record.mk 1 0 [(120:UInt8)]) h)),(1,.agg (Loc.cells (Loc.mk 0 1 13 14)))]) (v:=.agg (Found.cells (Found.mk (Record.mk 1 0 [(120:UInt8)]) (Loc.mk 0 1 13 14)) h)) Ty.bld53 rfl (by simp only [zkr,Z];rfl)) ?_;obtain ⟨F8,be,ae,V⟩:=l.freezeR 0 [1] rfl (by decide) (by decide);refine xm (E_bs (t:=Found.t) (vs:=[.agg (Found.cells (Found.mk (Record.mk 1 0 [(120:UInt8)]) (Loc.mk 0 1 13 14)) h)]) (xs:=[(Found.mk (Record.mk 1 0 [(120:UInt8)]) (Loc.mk 0 1 13 14))]) Tryz.underlying27 Ty.row53 rfl ⟨⟨h,rfl,ae⟩,trivial⟩ rfl rfl V) ?_;rintro u3 w3 U;obtain ⟨F9,bf,ah,X⟩:=U.freezeR 1 [0] rfl (by decide) (by decide);obtain ⟨aC,bb,ad,u⟩:=X.freezeR 0 [] rfl (by decide) (by decide);refine lm (ztu u.good (mo ah) ad a1) ?_;rintro bl bn ⟨j,J,L,M,O,rfl,aT,f,aU,aV,x⟩;have aP:=u.call x;have bg:=x.ext;refine au ?_;refine al ?_;intro Q w5 aR;refine sb 0 ([.i .i64 g.1.seq,J,L,M,O]) ?_;intro bo d;refine au ?_;refine zfl ?_;obtain ⟨P,B,a9,a3,H⟩:=bd2 H;refine zja (fun E wq=>E=[(0,.b (((decide (g.2=0)&&decide ((g.1.chunks.length:Int)=1))&&decide ((P.locs.length:Int)=1))&&(!a9.staged)))] ∧ ∃ q:Frz,j.le q∧St [] w F q [.box Q [.i .i64 g.1.seq,J,L,M,O]] wq) ?_ ?_
 ·
  rcases Bool.eq_false_or_eq_true (decide (g.2=0)) with a | a
  ·
   rcases Bool.eq_false_or_eq_true (decide ((g.1.chunks.length:Int)=1)) with c | c
   ·
    rcases Bool.eq_false_or_eq_true (decide ((P.locs.length:Int)=1)) with e | e
    ·refine qd ?_;refine qc ?_;refine qr (zbc rfl rfl zhh) ?_;refine qc ?_;refine qvb 17 a ?_;refine qf Ty.zea ?_;refine qb 0 Ty.zft d ?_;refine qr (zdh Tryz.underlying35 rfl f.ln) ?_;refine qr (zbc rfl rfl zhh) ?_;refine q2 ?_;refine qvb 23 c ?_;refine qf Ty.zea ?_;refine qb 0 Ty.zft d ?_;have D:=B;rw [zck (by first | rfl | (rw [c,a];first | done | rfl) | simp [a,c,e])] at D;obtain ⟨aj,a4⟩:=zaf D;obtain ⟨aJ,ap,m⟩:=f.el a4;obtain ⟨a7,a8,rfl,ai,a2,s⟩:=ap;replace m:=qj 35 m;have y:=m.ixd;refine qi Tryz.underlying35 Ty.zdv y aj ?_;refine qr (zga 34 Ty.zhc rfl y) ?_;refine qr (zej 34 Ty.zgj rfl (m.mono d.agree) (by first | omega | rfl) rfl) ?_;refine qr (zdh Tryz.underlying44 rfl s.ln) ?_;refine qr (zbc rfl rfl zhh) ?_;refine q2 ?_;refine qvb 32 e ?_;refine qf Ty.zea ?_;refine qb 0 Ty.zft d ?_;have G:=a3;rw [zck (by first | rfl | (rw [c,e,a];first | done | rfl) | simp [a,c,e])] at G;obtain ⟨ak,a5⟩:=zaf G;obtain ⟨aK,ar,n⟩:=f.el a5;obtain ⟨bj,bk,rfl,aX,aY,ba⟩:=ar;replace n:=qj 35 n;have z:=n.ixd;refine qi Tryz.underlying35 Ty.zdv z ak ?_;refine qr (zga 32 Ty.zim rfl z) ?_;refine qr (zej 32 Ty.zxy rfl (n.mono d.agree) (by first | omega | rfl) rfl) ?_;refine q3 ?_;refine zew ?_;exact zdy _ ⟨rfl,j,(Frz.le.refl _),d⟩ ⟨(zbu rfl (by first | rfl | (rw [c,e,a];first | done | rfl) | simp [a,c,e])),trivial⟩
    ·refine qd ?_;refine qc ?_;refine qr (zbc rfl rfl zhh) ?_;refine qc ?_;refine qvb 17 a ?_;refine qf Ty.zea ?_;refine qb 0 Ty.zft d ?_;refine qr (zdh Tryz.underlying35 rfl f.ln) ?_;refine qr (zbc rfl rfl zhh) ?_;refine q2 ?_;refine qvb 23 c ?_;refine qf Ty.zea ?_;refine qb 0 Ty.zft d ?_;have I:=B;rw [zck (by first | rfl | (rw [c,a];first | done | rfl) | simp [a,c,e])] at I;obtain ⟨am,a6⟩:=zaf I;obtain ⟨aO,a0,p⟩:=f.el a6;obtain ⟨a7,a8,rfl,ai,a2,s⟩:=a0;replace p:=qj 35 p;have A:=p.ixd;refine qi Tryz.underlying35 Ty.zdv A am ?_;refine qr (zga 34 Ty.zhc rfl A) ?_;refine qr (zej 34 Ty.zgj rfl (p.mono d.agree) (by first | omega | rfl) rfl) ?_;refine qr (zdh Tryz.underlying44 rfl s.ln) ?_;refine qr (zbc rfl rfl zhh) ?_;refine q2 ?_;refine qvb 32 e ?_;refine qz2 ?_;refine qz2 ?_;refine qz2 ?_;refine q2 ?_;refine zew ?_;exact zdy _ ⟨rfl,j,(Frz.le.refl _),d⟩ ⟨(zbu rfl (by first | rfl | (rw [c,e,a];first | done | rfl) | simp [a,c,e])),trivial⟩
   ·refine qd ?_;refine qc ?_;refine qr (zbc rfl rfl zhh) ?_;refine qc ?_;refine qvb 17 a ?_;refine qf Ty.zea ?_;refine qb 0 Ty.zft d ?_;refine qr (zdh Tryz.underlying35 rfl f.ln) ?_;refine qr (zbc rfl rfl zhh) ?_;refine q2 ?_;refine qvb 23 c ?_;refine qz2 ?_;refine qz2 ?_;refine qz2 ?_;refine qz ?_;refine q2 ?_;refine qz2 ?_;refine qz2 ?_;refine qz2 ?_;refine q2 ?_;refine zew ?_;exact zdy _ ⟨rfl,j,(Frz.le.refl _),d⟩ ⟨(zbu rfl (by first | rfl | (rw [c,a];first | done | rfl) | simp [a,c])),trivial⟩
  ·refine qd ?_;refine qc ?_;refine qr (zbc rfl rfl zhh) ?_;refine qc ?_;refine qvb 17 a ?_;refine qz2 ?_;refine qz2 ?_;refine q2 ?_;refine qz2 ?_;refine qz2 ?_;refine qz2 ?_;refine qz ?_;refine q2 ?_;refine qz2 ?_;refine qz2 ?_;refine qz2 ?_;refine q2 ?_;refine zew ?_;exact zdy _ ⟨rfl,j,(Frz.le.refl _),d⟩ ⟨(zbu rfl (by first | rfl | (rw [a];first | done | rfl) | simp [a])),trivial⟩
 rintro E bp ⟨rfl,q,bc,S⟩;refine zgl ?_;exact rz H S
def zah.k4:Option Bool :=
  bd (zgr) fun a =>
  some a
def zah.l5 (b:Catalog) (e:Int→Option Bool):Int→Option Bool
  | a =>
    if decide (a < (b.chunks.length:Int)) then
      bd (ix b.chunks a) fun c =>
      bd (only (!decide ((c.locs.length:Int)=0)) (ix b.chunks a) (Chunk.mk (List.replicate 32 (0:UInt8)) false [] [])) fun d =>
      bd (only (!(decide ((c.locs.length:Int)=0)||d.staged)) (ix b.chunks a) (Chunk.mk (List.replicate 32 (0:UInt8)) false [] [])) fun f =>
      if ((decide ((c.locs.length:Int)=0)||d.staged)||decide (0 < (f.data.length:Int))) then
        some false
      else
        e (wr (a+1))
    else
      zah.k4
def zah.k3 (a:Catalog):Option Bool :=
  loop (zah.l5 a) 0
def zah.l6 (b:Catalog) (c:Int→Option Bool):Int→Option Bool
  | a =>
    if decide (a < (b.snaps.length:Int)) then
      bd (ix b.snaps a) fun d =>
      if decide ((d.locs.length:Int)=0) then
        some false
      else
        c (wr (a+1))
    else
      zah.k3 b
def zah.k2 (c:Catalog) (a:Catalog) (f:Bool):Option Bool :=
  bd (zbb a c) fun g =>
  if ((f != g)||decide (c.seq < a.seq)) then
    some false
  else
    bd (zab a) fun h =>
    if (!h) then
      bd (zgs a) fun d =>
      bd (only (decide (d=1)) (zgr) false) fun i =>
      some (decide (d=1)&&i)
    else
      bd (zbm a) fun b =>
      bd (zbb b a) fun e =>
      bd (only (!((!e)||decide (b.seq≠a.seq))) (zgs a) 0) fun j =>
      if (((!e)||decide (b.seq≠a.seq))||decide (j≠0)) then
        some false
      else
        loop (zah.l6 a) 0
def zah.l7 (c:Catalog) (e:Catalog) (f:(Bool × Int)→Option Bool):(Bool × Int)→Option Bool
  | (a,b) =>
    if decide (b < (c.chunks.length:Int)) then
      bd (only a (ix c.chunks b) (Chunk.mk (List.replicate 32 (0:UInt8)) false [] [])) fun d =>
      bd (only (a&&decide (0 < (d.locs.length:Int))) (ix c.chunks b) (Chunk.mk (List.replicate 32 (0:UInt8)) false [] [])) fun g =>
      f (((a&&decide (0 < (d.locs.length:Int)))&&(!g.staged)),wr (b+1))
    else
      zah.k2 c e a
def zah.k1 (b:Catalog) (c:Catalog) (a:Bool):Option Bool :=
  loop (zah.l7 b c) (a,0)
def zah.l8 (c:Catalog) (d:Catalog) (e:(Bool × Int)→Option Bool):(Bool × Int)→Option Bool
  | (a,b) =>
    if decide (b < (c.snaps.length:Int)) then
      bd (only a (ix c.snaps b) (Snap.mk 0 (Manifest.mk [] []) [])) fun f =>
      e ((a&&decide (0 < (f.locs.length:Int))),wr (b+1))
    else
      zah.k1 c d a
def zah (x0:List Int) (x1:List Cellarerlaw19Act):Option Bool :=
  bd (only (!decide (30 < (x0.length:Int))) (zay x1) false) fun b =>
  if (decide (30 < (x0.length:Int))||b) then
    some true
  else
    bd (zbp x0) fun e =>
    bd (zbj e x1) fun a =>
    bd (zav a) fun c =>
    if c then
      some true
    else
      bd (zbm a) fun d =>
      loop (zah.l8 a d) (true,0)
set_option maxHeartbeats 2000000 in
theorem zjy {x0:List Int} {x1:List Cellarerlaw19Act} {r:Bool} {v0:Val} {v1:Val} (hA:Gd F w) (h0:SlF tI F v0 x0) (h1:SlF Cellarerlaw19Act.t F v1 x1) (H:zah x0 x1=some r):Ret Tryz.prog KK 7 [v0,v1] w fun v w'=>∃ (F':Frz),v = .b r∧St [] w F F' [] w':=by
 refine qa2 Tryz.func7 ?_;have hS:=St.start hA;obtain ⟨r1,ct,H⟩:=zaj H;refine aZ ?_;refine gw hS ct (fun y=>zks hS.good h1 y) ?_;intro w7 aJ;refine Nxt.now ?_;refine aw ?_;refine qy H (fun bZ H=>?_) (fun bZ H=>?_)
 ·exact rz H aJ
 ·obtain ⟨r9,cG,O,cu,H⟩:=bd2 H;refine ax ?_;refine lm (zmz aJ.good h0 cG) ?_;rintro ex e5 ⟨d1,_,rfl,bn⟩;have bN:=aJ.call bn;have dY:=bn.ext;refine qc ?_;obtain ⟨dv,dU,cc,be⟩:=bN.freezeR 0 [] rfl (by decide) (by decide);refine lm (zna be.good cc (mo h1) cu) ?_;rintro ey e7 ⟨dz,aV,aX,aY,ba,rfl,ap,A,aO,aP,bo⟩;have dE:=be.call bo;have dX:=bo.ext;refine al ?_;intro l e2 dD;refine sb 0 ([.i .i64 O.seq,aV,aX,aY,ba]) ?_;intro e8 bf;obtain ⟨ea,c0,H⟩:=zaj H;refine ay ?_;refine lp (znb bf.good ap A aO aP c0) bf ?_;intro e9 a8;refine qn ?_;refine qy H (fun bU H=>?_) (fun bU H=>?_)
  ·exact rz H a8
  ·obtain ⟨n,c1,H⟩:=zaj H;refine ax ?_;refine lm (zni a8.good ap A aO aP c1) ?_;rintro ez eB ⟨bb,P,Q,R,S,rfl,q,f,B,D,bp⟩;have dG:=a8.call bp;have ar:=bp.ext;refine al ?_;intro d eA dF;refine sb 0 ([.i .i64 n.seq,P,Q,R,S]) ?_;intro eC a9;refine qn ?_;refine aq ?_;refine zac (fun E wq=>∃ a6:Bool,zah.k1 O n a6=some r ∧ ∃ (J:Frz),E=[(5,pl l 0),(6,pl d 0),(7,.b a6)]∧bb.le J∧Same a9 J wq) ?_ ?_
   ·refine ax ?_;refine zbo (fun (s:Bool × Int) E wq=>∃ (z:Frz),E=[(5,pl l 0),(6,pl d 0),(7,.b s.1),(8,.i .i64 s.2)]∧bb.le z∧Same a9 z wq) H ?_ ?_
    ·exact lo (jj a9)
    ·rintro ek ⟨a5,dd⟩ E e4 hI H
     try dsimp only at hI
     obtain ⟨z,rfl,df,L⟩:=hI;refine ay ?_;refine qy H (fun bT H=>?_) (fun bT H=>?_)
     ·refine qk ?_;refine zfl ?_;refine zfa ?_;obtain ⟨dt,cO,H⟩:=zaj H;refine zja (fun E wq=>E=[(5,pl l 0),(6,pl d 0),(7,.b (a5&&decide (0 < (dt.locs.length:Int)))),(8,.i .i64 dd)] ∧ ∃ a1:Frz,z.le a1∧St [] w F a1 [.box d [.i .i64 n.seq,P,Q,R,S],.box l [.i .i64 O.seq,aV,aX,aY,ba]] wq) ?_ ?_
      ·
       rcases Bool.eq_false_or_eq_true a5 with m | m
       ·refine qd ?_;refine q2 ?_;refine qvb 36 m ?_;refine qf Ty.zki ?_;refine qb 1 Ty.zoe L ?_;refine qc ?_;have bA:=cO;rw [zck m] at bA;obtain ⟨cm,cU⟩:=zaf bA;obtain ⟨d5,cz,ad⟩:=(ap.mono (ar.trans df)).el cU;obtain ⟨eq,er,rfl,dN,cJ⟩:=cz;replace ad:=qj 4 ad;have bu:=ad.ixd;refine qi Tryz.underlying34 Ty.zpw bu cm ?_;refine qr (zga 3 Ty.zup rfl bu) ?_;refine qr (zej 3 Ty.zgj rfl (ad.mono L.agree) (by first | omega | rfl) rfl) ?_;refine qr (zdh Tryz.underlying44 rfl cJ.ln) ?_;refine qr (zbc rfl rfl zid) ?_;refine q2 ?_;refine zew ?_;exact zdy _ ⟨rfl,z,(Frz.le.refl _),L⟩ ⟨rfl,rfl,(zbu rfl (by first | rfl | (rw [m];first | done | rfl) | simp [m])),rfl,trivial⟩
       ·refine qd ?_;refine q2 ?_;refine qvb 36 m ?_;refine qz2 ?_;refine qz2 ?_;refine qz2 ?_;refine qz2 ?_;refine q2 ?_;refine zew ?_;exact zdy _ ⟨rfl,z,(Frz.le.refl _),L⟩ ⟨rfl,rfl,(zbu rfl (by first | rfl | (rw [m];first | done | rfl) | simp [m])),rfl,trivial⟩
      rintro E e6 ⟨rfl,a1,dT,bO⟩;refine ax ?_;exact nm H (jj bO)
     ·refine zbe _ rfl ?_;exact nj ⟨a5,H,jj L⟩
   ·rintro E eD ⟨a6,H,J,rfl,j,aC⟩;refine zac (fun E wq=>∃ a7:Bool,zah.k2 O n a7=some r ∧ ∃ (a2:Frz),E=[(5,pl l 0),(6,pl d 0),(7,.b a7)]∧J.le a2∧Same aC a2 wq) ?_ ?_
    ·refine ax ?_;refine zbo (fun (s:Bool × Int) E wq=>∃ (p:Frz),E=[(5,pl l 0),(6,pl d 0),(7,.b s.1),(9,.i .i64 s.2)]∧J.le p∧Same aC p wq) H ?_ ?_
     ·exact lo (jj aC)
     ·rintro ej ⟨a4,dc⟩ E e1 hI H
      try dsimp only at hI
      obtain ⟨p,rfl,aU,h⟩:=hI;refine ay ?_;refine qy H (fun bS H=>?_) (fun bS H=>?_)
      ·refine qk ?_;refine zfl ?_;refine zfa ?_;obtain ⟨bI,b5,ds,cN,H⟩:=bd2 H;refine zja (fun E wq=>E=[(5,pl l 0),(6,pl d 0),(7,.b ((a4&&decide (0 < (bI.locs.length:Int)))&&(!ds.staged))),(9,.i .i64 dc)] ∧ ∃ a0:Frz,p.le a0∧St [] w F a0 [.box d [.i .i64 n.seq,P,Q,R,S],.box l [.i .i64 O.seq,aV,aX,aY,ba]] wq) ?_ ?_
       ·
        rcases Bool.eq_false_or_eq_true a4 with e | e
        ·
         rcases Bool.eq_false_or_eq_true (decide (0 < (bI.locs.length:Int))) with k | k
         ·refine qd ?_;refine q2 ?_;refine qvb 54 e ?_;refine qf Ty.zea ?_;refine qb 1 Ty.zft h ?_;refine qc ?_;have b7:=b5;rw [zck e] at b7;obtain ⟨cj,cR⟩:=zaf b7;obtain ⟨d2,cw,X⟩:=(A.mono ((ar.trans j).trans aU)).el cR;obtain ⟨di,dj,rfl,ch,cI,aR⟩:=cw;replace X:=qj 35 X;have br:=X.ixd;refine qi Tryz.underlying35 Ty.zdv br cj ?_;refine qr (zga 34 Ty.zhc rfl br) ?_;refine qr (zej 34 Ty.zgj rfl (X.mono h.agree) (by first | omega | rfl) rfl) ?_;refine qr (zdh Tryz.underlying44 rfl aR.ln) ?_;refine qr (zbc rfl rfl zid) ?_;refine q2 ?_;refine qvb 64 k ?_;refine qf Ty.zea ?_;refine qb 1 Ty.zft h ?_;refine qc ?_;have b8:=cN;rw [zck (by first | rfl | (rw [k,e];first | done | rfl) | simp [e,k])] at b8;obtain ⟨ck,cS⟩:=zaf b8;obtain ⟨d3,cx,Y⟩:=(A.mono ((ar.trans j).trans aU)).el cS;obtain ⟨eo,ep,rfl,dJ,dL,dM⟩:=cx;replace Y:=qj 35 Y;have bs:=Y.ixd;refine qi Tryz.underlying35 Ty.zdv bs ck ?_;refine qr (zga 32 Ty.zim rfl bs) ?_;refine qr (zej 32 Ty.zxy rfl (Y.mono h.agree) (by first | omega | rfl) rfl) ?_;refine q3 ?_;refine zew ?_;exact zdy _ ⟨rfl,p,(Frz.le.refl _),h⟩ ⟨rfl,rfl,(zbu rfl (by first | rfl | (rw [k,e];first | done | rfl) | simp [e,k])),rfl,trivial⟩
         ·refine qd ?_;refine q2 ?_;refine qvb 54 e ?_;refine qf Ty.zea ?_;refine qb 1 Ty.zft h ?_;refine qc ?_;have b9:=b5;rw [zck e] at b9;obtain ⟨cl,cT⟩:=zaf b9;obtain ⟨d4,cy,Z⟩:=(A.mono ((ar.trans j).trans aU)).el cT;obtain ⟨di,dj,rfl,ch,cI,aR⟩:=cy;replace Z:=qj 35 Z;have bt:=Z.ixd;refine qi Tryz.underlying35 Ty.zdv bt cl ?_;refine qr (zga 34 Ty.zhc rfl bt) ?_;refine qr (zej 34 Ty.zgj rfl (Z.mono h.agree) (by first | omega | rfl) rfl) ?_;refine qr (zdh Tryz.underlying44 rfl aR.ln) ?_;refine qr (zbc rfl rfl zid) ?_;refine q2 ?_;refine qvb 64 k ?_;refine qz2 ?_;refine qz2 ?_;refine qz2 ?_;refine qz ?_;refine q2 ?_;refine zew ?_;exact zdy _ ⟨rfl,p,(Frz.le.refl _),h⟩ ⟨rfl,rfl,(zbu rfl (by first | rfl | (rw [k,e];first | done | rfl) | simp [e,k])),rfl,trivial⟩
        ·refine qd ?_;refine q2 ?_;refine qvb 54 e ?_;refine qz2 ?_;refine qz2 ?_;refine qz2 ?_;refine qz2 ?_;refine q2 ?_;refine qz2 ?_;refine qz2 ?_;refine qz2 ?_;refine qz ?_;refine q2 ?_;refine zew ?_;exact zdy _ ⟨rfl,p,(Frz.le.refl _),h⟩ ⟨rfl,rfl,(zbu rfl (by first | rfl | (rw [e];first | done | rfl) | simp [e])),rfl,trivial⟩
       rintro E e3 ⟨rfl,a0,dS,bM⟩;refine ax ?_;exact nm H (jj bM)
      ·refine zbe _ rfl ?_;exact nj ⟨a4,H,jj h⟩
    ·rintro E eE ⟨a7,H,a2,rfl,u,bg⟩;obtain ⟨eb,c2,H⟩:=zaj H;refine ay ?_;refine lp (ziq bg.good (mo q) (mo f) (mo B) (mo D) (mo ap) (mo A) (mo aO) (mo aP) c2) bg ?_;intro eF aD;refine qr (zbc rfl rfl (bB_neq Tryz.underlying4)) ?_;refine aw ?_;refine qy H (fun bV H=>?_) (fun bV H=>?_)
     ·exact rz H aD
     ·obtain ⟨ec,c3,H⟩:=zaj H;refine ay ?_;refine lp (zgv aD.good (mo q) (mo f) (mo B) (mo D) c3) aD ?_;intro eG V;refine au ?_;refine qy H (fun bW H=>?_) (fun bW H=>?_)
      ·obtain ⟨ed,c4,ee,c5,H⟩:=bd2 H;refine aq ?_;refine lp (zia V.good (mo q) (mo f) (mo B) (mo D) c4) V ?_;intro eH bh;refine au ?_;refine gw bh c5 (fun y=>ziw bh.good y) ?_;intro eI bP;refine Nxt.now ?_;refine aw ?_;exact rz H bP
      ·obtain ⟨dh,c6,H⟩:=zaj H;refine ax ?_;refine lm (zni V.good (mo q) (mo f) (mo B) (mo D) c6) ?_;rintro e0 eK ⟨d0,dm,dn,dq,dr,rfl,cd,ce,cf,cg,bq⟩;have dI:=V.call bq;have x:=bq.ext;refine al ?_;intro dC eJ dH;refine sb 0 ([.i .i64 dh.seq,dm,dn,dq,dr]) ?_;intro eL bi;obtain ⟨ef,c7,eg,c8,H⟩:=bd2 H;refine ay ?_;refine lp (ziq bi.good cd ce cf cg (mo q) (mo f) (mo B) (mo D) c7) bi ?_;intro eM bj;refine aw ?_;refine gw bj c8 (fun y=>zia bj.good (mo q) (mo f) (mo B) (mo D) y) ?_;intro eN aH;refine Nxt.now ?_;refine aw ?_;refine qy H (fun bX H=>?_) (fun bX H=>?_)
       ·exact rz H aH
       ·refine qk ?_;refine zac (jO (zah.k3 n=some r) [(6,pl d 0)] aH [.box d [.i .i64 n.seq,P,Q,R,S]]) ?_ ?_
        ·refine ax ?_;refine lj (pk [1] aH) (fun s:Int=>[(6,pl d 0),(11,.i .i64 s)]) H ?_;intro en dR dy eU dg aK H;refine ay ?_;refine qy H (fun cb H=>?_) (fun cb H=>?_)
         ·obtain ⟨eV,cQ,H⟩:=zaj H;obtain ⟨_,⟨ev,ew,rfl,dP,dQ⟩,_⟩:=elx 4 (q.mono (((j.trans u).trans x).trans dg)) cQ;refine ay ?_;refine qy H (fun bR H=>?_) (fun bR H=>?_)
          ·exact rz H aK
          ·refine ax ?_;exact nm H (jj aK)
         ·refine zbe _ rfl ?_;exact nj ⟨H,jj aK⟩
        ·rintro E eO ⟨H,dw,rfl,G,bk⟩;refine zac (jO (zah.k4=some r) [] bk []) ?_ ?_
         ·refine ax ?_;refine lj bk (fun s:Int=>[(6,pl d 0),(12,.i .i64 s)]) H ?_;intro em de U eS I a H;refine ay ?_;refine qy H (fun bY H=>?_) (fun bY H=>?_)
          ·refine qk ?_;refine zfl ?_;refine zfa ?_;refine zfl ?_;obtain ⟨bJ,aT,bK,b6,H⟩:=bd2 H;obtain ⟨du,cP,H⟩:=zaj H;refine zja (fun E wq=>E=[(6,pl d 0),(12,.i .i64 de),(159,.b ((decide ((bJ.locs.length:Int)=0)||bK.staged)||decide (0 < (du.data.length:Int))))] ∧ ∃ a3:Frz,U.le a3∧St [] w F a3 [.box d [.i .i64 n.seq,P,Q,R,S]] wq) ?_ ?_
           ·
            rcases Bool.eq_false_or_eq_true (decide ((bJ.locs.length:Int)=0)) with c | c
            ·refine qd ?_;refine qf Ty.zea ?_;refine qb 0 Ty.zft a ?_;refine qc ?_;obtain ⟨cn,cV⟩:=zaf aT;obtain ⟨d6,cA,ae⟩:=(f.mono ((((j.trans u).trans x).trans G).trans I)).el cV;obtain ⟨bE,bF,rfl,b3,b4,M⟩:=cA;replace ae:=qj 35 ae;have bv:=ae.ixd;refine qi Tryz.underlying35 Ty.zdv bv cn ?_;refine qr (zga 34 Ty.zhc rfl bv) ?_;refine qr (zej 34 Ty.zgj rfl (ae.mono a.agree) (by first | omega | rfl) rfl) ?_;refine qr (zdh Tryz.underlying44 rfl M.ln) ?_;refine qr (zbc rfl rfl zhh) ?_;refine qc ?_;refine qvb 142 c ?_;refine qz2 ?_;refine qz2 ?_;refine qz2 ?_;refine q2 ?_;refine qz2 ?_;refine qz2 ?_;refine qz2 ?_;refine qz2 ?_;refine qc ?_;refine zew ?_;exact zdy _ ⟨rfl,U,(Frz.le.refl _),a⟩ ⟨rfl,rfl,(zbu rfl (by first | rfl | (rw [c];first | done | rfl) | simp [c])),trivial⟩
            ·
             rcases Bool.eq_false_or_eq_true bK.staged with g | g
             ·refine qd ?_;refine qf Ty.zea ?_;refine qb 0 Ty.zft a ?_;refine qc ?_;obtain ⟨co,cX⟩:=zaf aT;obtain ⟨d7,cC,ah⟩:=(f.mono ((((j.trans u).trans x).trans G).trans I)).el cX;obtain ⟨bE,bF,rfl,b3,b4,M⟩:=cC;replace ah:=qj 35 ah;have bw:=ah.ixd;refine qi Tryz.underlying35 Ty.zdv bw co ?_;refine qr (zga 34 Ty.zhc rfl bw) ?_;refine qr (zej 34 Ty.zgj rfl (ah.mono a.agree) (by first | omega | rfl) rfl) ?_;refine qr (zdh Tryz.underlying44 rfl M.ln) ?_;refine qr (zbc rfl rfl zhh) ?_;refine qc ?_;refine qvb 142 c ?_;refine qf Ty.zea ?_;refine qb 0 Ty.zft a ?_;refine qc ?_;have bB:=b6;rw [zck (by first | rfl | (rw [c];first | done | rfl) | simp [c,g])] at bB;obtain ⟨cp,cY⟩:=zaf bB;obtain ⟨d8,cD,ai⟩:=(f.mono ((((j.trans u).trans x).trans G).trans I)).el cY;obtain ⟨dk,dl,rfl,ci,cK,cL⟩:=cD;replace ai:=qj 35 ai;have bz:=ai.ixd;refine qi Tryz.underlying35 Ty.zdv bz cp ?_;refine qr (zga 32 Ty.zim rfl bz) ?_;refine qr (zej 32 Ty.zxy rfl (ai.mono a.agree) (by first | omega | rfl) rfl) ?_;refine q2 ?_;refine qvb 150 g ?_;refine qz2 ?_;refine qz2 ?_;refine qz2 ?_;refine qz2 ?_;refine qc ?_;refine zew ?_;exact zdy _ ⟨rfl,U,(Frz.le.refl _),a⟩ ⟨rfl,rfl,(zbu rfl (by first | rfl | (rw [c,g];first | done | rfl) | simp [c,g])),trivial⟩
             ·refine qd ?_;refine qf Ty.zea ?_;refine qb 0 Ty.zft a ?_;refine qc ?_;obtain ⟨cq,cZ⟩:=zaf aT;obtain ⟨d9,cE,aj⟩:=(f.mono ((((j.trans u).trans x).trans G).trans I)).el cZ;obtain ⟨bE,bF,rfl,b3,b4,M⟩:=cE;replace aj:=qj 35 aj;have b0:=aj.ixd;refine qi Tryz.underlying35 Ty.zdv b0 cq ?_;refine qr (zga 34 Ty.zhc rfl b0) ?_;refine qr (zej 34 Ty.zgj rfl (aj.mono a.agree) (by first | omega | rfl) rfl) ?_;refine qr (zdh Tryz.underlying44 rfl M.ln) ?_;refine qr (zbc rfl rfl zhh) ?_;refine qc ?_;refine qvb 142 c ?_;refine qf Ty.zea ?_;refine qb 0 Ty.zft a ?_;refine qc ?_;have bC:=b6;rw [zck (by first | rfl | (rw [c];first | done | rfl) | simp [c,g])] at bC;obtain ⟨cr,da⟩:=zaf bC;obtain ⟨dA,cF,ak⟩:=(f.mono ((((j.trans u).trans x).trans G).trans I)).el da;obtain ⟨dk,dl,rfl,ci,cK,cL⟩:=cF;replace ak:=qj 35 ak;have b1:=ak.ixd;refine qi Tryz.underlying35 Ty.zdv b1 cr ?_;refine qr (zga 32 Ty.zim rfl b1) ?_;refine qr (zej 32 Ty.zxy rfl (ak.mono a.agree) (by first | omega | rfl) rfl) ?_;refine q2 ?_;refine qvb 150 g ?_;refine qf Ty.zea ?_;refine qb 0 Ty.zft a ?_;refine qc ?_;have bD:=cP;rw [zck (by first | rfl | (rw [c,g];first | done | rfl) | simp [c,g])] at bD;obtain ⟨cs,db⟩:=zaf bD;obtain ⟨dB,cH,am⟩:=(f.mono ((((j.trans u).trans x).trans G).trans I)).el db;obtain ⟨et,eu,rfl,dK,cM,dO⟩:=cH;replace am:=qj 35 am;have b2:=am.ixd;refine qi Tryz.underlying35 Ty.zdv b2 cs ?_;refine qr (zga 33 Ty.zqq rfl b2) ?_;refine qr (zej 33 Ty.zsl rfl (am.mono a.agree) (by first | omega | rfl) rfl) ?_;refine qr (zdh Tryz.underlying47 rfl cM.ln) ?_;refine qr (zbc rfl rfl zid) ?_;refine qc ?_;refine zew ?_;exact zdy _ ⟨rfl,U,(Frz.le.refl _),a⟩ ⟨rfl,rfl,(zbu rfl (by first | rfl | (rw [c,g];first | done | rfl) | simp [c,g])),trivial⟩
           rintro E eT ⟨rfl,a3,dW,bm⟩;refine zgl ?_;refine qy H (fun ca H=>?_) (fun ca H=>?_)
           ·exact rz H bm
           ·refine ax ?_;exact nm H (jj bm)
          ·refine zbe _ rfl ?_;exact nj ⟨H,jj (pk [] a)⟩
         ·rintro E eP ⟨H,dx,rfl,dV,bl⟩;obtain ⟨eh,c9,H⟩:=zaj H;refine qs ?_;refine lp (ziw bl.good c9) bl ?_;intro eQ bQ;exact rz H bQ
end
end Go.Wk.Lf
end
