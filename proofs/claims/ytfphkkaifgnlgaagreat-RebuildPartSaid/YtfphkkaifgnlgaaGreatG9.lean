/-  -/
import Derived.Test.YtfphkkaifgnlgaaGreatG8
set_option linter.unusedVariables false
set_option linter.unusedSimpArgs false
section
namespace Go.Wk.Lf
open Go.V Go.Proofs
noncomputable section
set_option maxRecDepth 100000
variable {K:Tb} {F:Frz} {w:Hp}
def zai.k1 (a:Int) (l6:List Snap):Option (List Snap) :=
  bd (cut (α:=Snap) l6 a (l6.length:Int)) fun l7 =>
  bd (clr l6 a.toNat ((l6.length:Int).toNat - a.toNat) (Snap.mk 0 (Manifest.mk [] []) [])) fun l9 =>
  bd (cut (α:=Snap) l9 0 a) fun l11 =>
  bd (nz l9) fun _ =>
  some l11
def zai.k3 (a:Int) (d:(Int × Int × (List Snap))→Option (List Snap)) (b:Int) (c:List Snap):Option (List Snap) :=
  d (b,wr (a+1),c)
def zai.l2 (c:(Int × Int × (List Snap))→Option (List Snap)):(Int × Int × (List Snap))→Option (List Snap)
  | (a,b,l17) =>
    if decide (b < (l17.length:Int)) then
      bd (ix l17 b) fun d =>
      bd (zhx d) fun e =>
      if (!e) then
        bd (ix l17 a) fun f =>
        zai.k3 b c (wr (a+1)) (l17.set a.toNat d)
      else
        zai.k3 b c a l17
    else
      zai.k1 a l17
def zai (x0:List Snap):Option (List Snap) :=
  bd (zao x0) fun a =>
  if decide (a=(-1)) then
    some x0
  else
    loop (zai.l2) (a,wr (a+1),x0)
theorem zfg {x0:List Snap} {r:(List Snap)} {a:Val} (hS:St a.own w F F [.row Snap.t a x0] w) (H:zai x0=some r):Ret Tryz.prog K 65 [a,.f 66 []] w fun v w'=>∃ (F':Frz) (L:Val),v=L∧St a.own w F F' [.row Snap.t L (r)] w':=by
 refine qa2 Tryz.func65 ?_;obtain ⟨r1,X,H⟩:=zaj H;refine ax ?_;refine lp (zfm (Gd.now hS.wf) (hS.rowNow (k:=0) rfl) X) hS ?_;intro w2 l;refine ay ?_;refine qy H (fun R H=>?_) (fun R H=>?_)
 ·refine aq ?_;obtain rfl:=oi H;refine qt ?_;exact ⟨F,a,rfl,l⟩
 ·refine qk ?_;refine zac (fun E wq=>∃ e:Int,∃ l6:List Snap,zai.k1 e l6=some r ∧ ∃ (h:Frz),E=[(0,a),(5,.i .i64 e)]∧F.le h∧Also l [.row Snap.t a l6] h wq) ?_ ?_
  ·refine ax ?_;refine zbo (fun (s:Int × Int × (List Snap)) E wq=>∃ (g:Frz),E=[(0,a),(1,.f 66 []),(5,.i .i64 s.1),(6,.i .i64 s.2.1)]∧F.le g∧Also l [.row Snap.t a s.2.2] g wq) H ?_ ?_
   ·exact lo (jj l)
   ·rintro ai ⟨d,J,l17⟩ E aT hI H
    try dsimp only at hI
    obtain ⟨g,rfl,a9,j⟩:=hI;refine ay ?_;refine qr (zdh Tryz.underlying34 rfl (j.rowLn (k:=0) rfl)) ?_;refine au ?_;refine qy H (fun Q H=>?_) (fun Q H=>?_)
    ·refine qk ?_;refine zac (fun E wq=>∃ u:Int,∃ x:List Snap,zai.k3 J ai u x=some r ∧ ∃ (m:Frz),E=[(0,a),(1,.f 66 []),(5,.i .i64 u),(6,.i .i64 J)]∧g.le m∧Also j [.row Snap.t a x] m wq) ?_ ?_
     ·obtain ⟨b,ae,H⟩:=zaj H;obtain ⟨_,⟨y,z,rfl,p,q⟩,a4⟩:=elr 4 0 j ae;refine ax ?_;refine al ?_;intro a0 aX a1;refine sb 0 ([.i .i64 b.seq,.s b.man.name,y,z]) ?_;intro aY B;obtain ⟨aK,Y,H⟩:=zaj H;refine ax ?_;refine lp (zlw B.good p q Y) B ?_;intro ba n;refine au ?_;refine qy H (fun S H=>?_) (fun S H=>?_)
      ·obtain ⟨aj,I,H⟩:=zaj H;obtain ⟨_,⟨aO,aP,rfl,a5,a6⟩,_⟩:=elr 4 1 n I;refine aq ?_;refine um (ziv (c:=[.i .i64 b.seq,.s b.man.name,y,z]) 1 (d.toNat) 0 aj b rfl rfl n rfl (zaf I).2 (by first | rfl | (show _=_*4+_;omega)) rfl Ty.zpw (by simp only [List.all_cons,List.all_nil,List.all_append,p.ln.one,q.ln.one];rfl) (Nat.le_of_ble_eq_true rfl) (by rintro cs ⟨a2,a3,rfl,b2,b3⟩;exact ⟨y,z,rfl,p,q⟩)) ?_;rintro _ bb P;refine ax ?_;exact nj ⟨wr (d+1),(l17.set d.toNat b),H,jj (pk [1] P)⟩
      ·refine ax ?_;exact nj ⟨d,l17,H,jj (pk [1] n)⟩
     ·rintro E aV ⟨u,x,H,m,rfl,aC,O⟩;refine ax ?_;exact nm H (jj O)
    ·refine zbe _ rfl ?_;exact nj ⟨d,l17,H,jj j⟩
  ·rintro E w4 ⟨e,l6,H,h,rfl,aD,D⟩;obtain ⟨l7,U,l9,V,H⟩:=bd2 H;refine aq ?_;refine zlb 0 e (l6.length:Int) rfl rfl rfl rfl Tryz.underlying34 Ty.zpw rfl (.inr ⟨_,_,rfl,rfl⟩) (.inl ⟨rfl,rfl⟩) D rfl U ?_;intro q8 a8 ad;refine um (E_clr (tr:=Snap.t) (x0:=(Snap.mk 0 (Manifest.mk [] []) [])) 0 Tryz.underlying34 Ty.zero46 ⟨.sl none 0 (.k 0),.sl none 0 (.k 0),rfl,(SlF.nil _),(SlF.nil _)⟩ rfl D rfl ad V) ?_;rintro _ aR A;obtain ⟨l11,G,H⟩:=zaj H;refine ax ?_;refine zlb 0 0 e rfl rfl rfl rfl Tryz.underlying34 Ty.zpw rfl (.inl ⟨rfl,rfl⟩) (.inr ⟨_,_,rfl,rfl⟩) A rfl G ?_;intro ah a7 Z;refine au ?_;obtain ⟨_,hnz13,H⟩:=zaj H;have M:=A.shrink 0 rfl Z G hnz13;obtain rfl:=oi H;refine qt ?_;exact ⟨h,ah,rfl,M⟩
def zhw (x0:Chunk):Option Bool :=
  some (decide ((x0.locs.length:Int)=0))
theorem zlv {x0:Chunk} {r:Bool} {a:Val} {c:Val} (hA:Gd F w) (f:SlF tB F a x0.data) (g:SlF Loc.t F c x0.locs) (h:(x0.id).length=32) (H:zhw x0=some r):Ret Tryz.prog K 68 [.agg (Chunk.cells x0 a c)] w fun v w'=>∃ (F':Frz),v = .b r∧St [] w F F' [] w':=by
 refine qa1 Tryz.func68 ?_;have hS:=St.start hA;refine qs ?_;refine bx (zam x0.id++([.b x0.staged,a,c]:List Val)) ?_;intro e i d;refine au ?_;exact rz H d
def zan.k1:Option Int :=
  some (-1)
def zan.l2 (x0:List Chunk) (c:Int→Option Int):Int→Option Int
  | a =>
    if decide (a < (x0.length:Int)) then
      bd (ix x0 a) fun x6 =>
      bd (zhw x6) fun b =>
      if b then
        some a
      else
        c (wr (a+1))
    else
      zan.k1
def zan (x0:List Chunk):Option Int :=
  loop (zan.l2 x0) 0
theorem zfe {x0:List Chunk} {r:Int} {b:Val} (hA:Gd F w) (d:SlF Chunk.t F b x0) (H:zan x0=some r):Ret Tryz.prog K 116 [b,.f 68 []] w fun v w'=>∃ (F':Frz),v = .i .i64 r∧St [] w F F' [] w':=by
 refine qa2 Tryz.func116 ?_;have hS:=St.start hA;refine aq ?_;refine zac (jN (zan.k1=some r) [] hS) ?_ ?_
 ·refine ax ?_;refine lj hS (fun s:Int=>[(0,b),(1,.f 68 []),(7,.i .i64 (x0.length:Int)),(8,.i .i64 s)]) H ?_;intro B y u L p a H;refine ay ?_;refine qy H (fun h H=>?_) (fun h H=>?_)
  ·obtain ⟨x6,n,A,k,H⟩:=bd2 H;obtain ⟨_,⟨D,G,rfl,j,l,m⟩,x⟩:=elx 35 (d.mono p) n;refine ay ?_;refine lp (zlv a.good l m j k) a ?_;intro J c;refine qn ?_;refine qy H (fun g H=>?_) (fun g H=>?_)
   ·exact rz H c
   ·refine ax ?_;exact nm H (jj c)
  ·refine zbe _ rfl ?_;exact nj ⟨H,jj a⟩
 ·rintro E I ⟨H,q,rfl,z,e⟩;exact rz H e
def zag.k1 (a:Int) (l6:List Chunk):Option (List Chunk) :=
  bd (cut (α:=Chunk) l6 a (l6.length:Int)) fun l7 =>
  bd (clr l6 a.toNat ((l6.length:Int).toNat - a.toNat) (Chunk.mk (List.replicate 32 (0:UInt8)) false [] [])) fun l9 =>
  bd (cut (α:=Chunk) l9 0 a) fun l11 =>
  bd (nz l9) fun _ =>
  some l11
def zag.k3 (a:Int) (d:(Int × Int × (List Chunk))→Option (List Chunk)) (b:Int) (c:List Chunk):Option (List Chunk) :=
  d (b,wr (a+1),c)
def zag.l2 (c:(Int × Int × (List Chunk))→Option (List Chunk)):(Int × Int × (List Chunk))→Option (List Chunk)
  | (a,b,l17) =>
    if decide (b < (l17.length:Int)) then
      bd (ix l17 b) fun d =>
      bd (zhw d) fun e =>
      if (!e) then
        bd (ix l17 a) fun f =>
        zag.k3 b c (wr (a+1)) (l17.set a.toNat d)
      else
        zag.k3 b c a l17
    else
      zag.k1 a l17
def zag (x0:List Chunk):Option (List Chunk) :=
  bd (zan x0) fun a =>
  if decide (a=(-1)) then
    some x0
  else
    loop (zag.l2) (a,wr (a+1),x0)
theorem zfc {x0:List Chunk} {r:(List Chunk)} {a:Val} (hS:St a.own w F F [.row Chunk.t a x0] w) (H:zag x0=some r):Ret Tryz.prog K 67 [a,.f 68 []] w fun v w'=>∃ (F':Frz) (O:Val),v=O∧St a.own w F F' [.row Chunk.t O (r)] w':=by
 refine qa2 Tryz.func67 ?_;obtain ⟨r1,Z,H⟩:=zaj H;refine ax ?_;refine lp (zfe (Gd.now hS.wf) (hS.rowNow (k:=0) rfl) Z) hS ?_;intro w2 m;refine ay ?_;refine qy H (fun U H=>?_) (fun U H=>?_)
 ·refine aq ?_;obtain rfl:=oi H;refine qt ?_;exact ⟨F,a,rfl,m⟩
 ·refine qk ?_;refine zac (fun E wq=>∃ h:Int,∃ l6:List Chunk,zag.k1 h l6=some r ∧ ∃ (l:Frz),E=[(0,a),(5,.i .i64 h)]∧F.le l∧Also m [.row Chunk.t a l6] l wq) ?_ ?_
  ·refine ax ?_;refine zbo (fun (s:Int × Int × (List Chunk)) E wq=>∃ (j:Frz),E=[(0,a),(1,.f 68 []),(5,.i .i64 s.1),(6,.i .i64 s.2.1)]∧F.le j∧Also m [.row Chunk.t a s.2.2] j wq) H ?_ ?_
   ·exact lo (jj m)
   ·rintro ak ⟨g,M,l17⟩ E aY hI H
    try dsimp only at hI
    obtain ⟨j,rfl,aJ,e⟩:=hI;refine ay ?_;refine qr (zdh Tryz.underlying35 rfl (e.rowLn (k:=0) rfl)) ?_;refine au ?_;refine qy H (fun S H=>?_) (fun S H=>?_)
    ·refine qk ?_;refine zac (fun E wq=>∃ x:Int,∃ y:List Chunk,zag.k3 M ak x y=some r ∧ ∃ (n:Frz),E=[(0,a),(1,.f 68 []),(5,.i .i64 x),(6,.i .i64 M)]∧j.le n∧Also e [.row Chunk.t a y] n wq) ?_ ?_
     ·obtain ⟨d,ai,H⟩:=zaj H;obtain ⟨_,⟨z,A,rfl,J,q,u⟩,a7⟩:=elr 35 0 e ai;refine ax ?_;refine xm (zis (cs:=zam (List.replicate 32 (0:UInt8))++([.b false,.sl none 0 (.k 0),.sl none 0 (.k 0)]:List Val)) Ty.ztk rfl e) ?_;rintro _ bc ⟨a5,rfl,a6⟩;refine sb 0 (zam d.id++([.b d.staged,z,A]:List Val)) ?_;intro be D;obtain ⟨aT,ad,H⟩:=zaj H;refine ax ?_;refine lp (zlv D.good q u J ad) D ?_;intro bf p;refine au ?_;refine qy H (fun V H=>?_) (fun V H=>?_)
      ·obtain ⟨am,L,H⟩:=zaj H;obtain ⟨_,⟨aU,aV,rfl,a8,a9,aC⟩,_⟩:=elr 35 1 p L;refine aq ?_;refine um (ziv (c:=zam d.id++([.b d.staged,z,A]:List Val)) 1 (g.toNat) 0 am d rfl rfl p rfl (zaf L).2 (by first | rfl | (show _=_*35+_;omega)) rfl Ty.zdv (by simp only [List.all_cons,List.all_nil,List.all_append,q.ln.one,u.ln.one];rfl) (Nat.le_of_ble_eq_true rfl) (by rintro cs ⟨a2,a3,rfl,c0,b2,b3⟩;exact ⟨z,A,rfl,J,q,u⟩)) ?_;rintro _ bg R;refine ax ?_;exact nj ⟨wr (g+1),(l17.set g.toNat d),H,jj (pk [1] R)⟩
      ·refine ax ?_;exact nj ⟨g,l17,H,jj (pk [1] p)⟩
     ·rintro E bb ⟨x,y,H,n,rfl,aK,Q⟩;refine ax ?_;exact nm H (jj Q)
    ·refine zbe _ rfl ?_;exact nj ⟨g,l17,H,jj e⟩
  ·rintro E w4 ⟨h,l6,H,l,rfl,aO,G⟩;obtain ⟨l7,X,l9,Y,H⟩:=bd2 H;refine aq ?_;refine zlb 0 h (l6.length:Int) rfl rfl rfl rfl Tryz.underlying35 Ty.zdv rfl (.inr ⟨_,_,rfl,rfl⟩) (.inl ⟨rfl,rfl⟩) G rfl X ?_;intro q8 aH ah;refine um (E_clr (tr:=Chunk.t) (x0:=(Chunk.mk (List.replicate 32 (0:UInt8)) false [] [])) 0 Tryz.underlying35 Ty.ztk ⟨.sl none 0 (.k 0),.sl none 0 (.k 0),rfl,(List.length_replicate),(SlF.nil _),(SlF.nil _)⟩ rfl G rfl ah Y) ?_;rintro _ aX B;obtain ⟨l11,I,H⟩:=zaj H;refine ax ?_;refine zlb 0 0 h rfl rfl rfl rfl Tryz.underlying35 Ty.zdv rfl (.inl ⟨rfl,rfl⟩) (.inr ⟨_,_,rfl,rfl⟩) B rfl I ?_;intro aj aD ae;refine au ?_;obtain ⟨_,hnz13,H⟩:=zaj H;have P:=B.shrink 0 rfl ae I hnz13;obtain rfl:=oi H;refine qt ?_;exact ⟨l,aj,rfl,P⟩
def zbm.k3 (a:Catalog) (c:(List Snap)) (l19:List Chunk) (b:Int):Option Catalog :=
  some (Catalog.mk b c l19 a.exps a.vols)
def zbm.l4 (c:Catalog) (e:(List Snap)) (l19:List Chunk) (f:(Int × Int)→Option Catalog):(Int × Int)→Option Catalog
  | (a,b) =>
    if decide (a < (c.exps.length:Int)) then
      bd (ix c.exps a) fun d =>
      f (wr (a+1),(if b < wr (d.seq+1) then wr (d.seq+1) else b))
    else
      zbm.k3 c e l19 b
def zbm.k2 (c:Catalog) (b:(List Snap)) (l19:List Chunk) (a:Int):Option Catalog :=
  loop (zbm.l4 c b l19) (0,a)
def zbm.l5 (e:Catalog) (c:(List Snap)) (l19:List Chunk) (f:(Int × Int)→Option Catalog):(Int × Int)→Option Catalog
  | (a,b) =>
    if decide (a < (c.length:Int)) then
      bd (ix c a) fun d =>
      f (wr (a+1),(if b < wr (d.seq+1) then wr (d.seq+1) else b))
    else
      zbm.k2 e c l19 b
def zbm.k1 (b:Catalog) (a:(List Snap)) (l19:List Chunk):Option Catalog :=
  loop (zbm.l5 b a l19) (0,0)
def zbm.l6 (g:Catalog) (e:(List Snap)) (f:(List Chunk)) (h:(Int × (List Chunk))→Option Catalog):(Int × (List Chunk))→Option Catalog
  | (a,c) =>
    if decide (a < (f.length:Int)) then
      bd (ix c a) fun b =>
      bd (ix (c.set a.toNat (Chunk.mk b.id false b.data b.locs)) a) fun d =>
      h (wr (a+1),((c.set a.toNat (Chunk.mk b.id false b.data b.locs)).set a.toNat (Chunk.mk d.id d.staged [] d.locs)))
    else
      zbm.k1 g e c
def zbm (x0:Catalog):Option Catalog :=
  bd (zgs x0) fun d =>
  if decide (d≠0) then
    some (Catalog.mk 0 [] [] [] [])
  else
    bd (zbq x0) fun a =>
    bd (zai a.snaps) fun c =>
    bd (zag a.chunks) fun b =>
    loop (zbm.l6 a c b) (0,b)
set_option maxHeartbeats 2000000 in
theorem zni [Kn (KExt Tryz.prog) K]  {x0:Catalog} {r:Catalog} {Z:Val} {ad:Val} {ae:Val} {ah:Val} (hA:Gd F w) (am:SlF Snap.t F Z x0.snaps) (ap:SlF Chunk.t F ad x0.chunks) (ar:SlF Exp.t F ae x0.exps) (a0:SlF Vol.t F ah x0.vols) (H:zbm x0=some r):Ret Tryz.prog K 23 [.agg (Catalog.cells x0 Z ad ae ah)] w fun v w'=>∃ (F':Frz) (aT:Val) (aU:Val) (aV:Val) (aX:Val),v = .agg (Catalog.cells r aT aU aV aX)∧SlF Snap.t F' aT (r.snaps)∧SlF Chunk.t F' aU (r.chunks)∧SlF Exp.t F' aV (r.exps)∧SlF Vol.t F' aX (r.vols)∧St [] w F F' [] w':=by
 refine qa1 Tryz.func23 ?_;have hS:=St.start hA;refine qs ?_;refine bx ([.i .i64 x0.seq,Z,ad,ae,ah]) ?_;intro g1 w1 bF;refine al ?_;intro j w2 a5;obtain ⟨r3,bu,H⟩:=zaj H;refine ay ?_;refine lp (zia a5.good am ap ar a0 bu) a5 ?_;intro w4 a8;refine au ?_;refine qy H (fun bm H=>?_) (fun bm H=>?_)
 ·refine qs ?_;refine W_c (v:=.agg (Catalog.cells (Catalog.mk 0 [] [] [] []) (.sl none 0 (.k 0)) (.sl none 0 (.k 0)) (.sl none 0 (.k 0)) (.sl none 0 (.k 0)))) rfl rfl rfl rfl (fun _=>rfl) ?_;refine sb 0 ([.i .i64 0,.sl none 0 (.k 0),.sl none 0 (.k 0),.sl none 0 (.k 0),.sl none 0 (.k 0)]) ?_;intro w6 aC;refine qn ?_;obtain rfl:=oi H;refine zgb (vs:=[.agg (Catalog.cells (Catalog.mk 0 [] [] [] []) (.sl none 0 (.k 0)) (.sl none 0 (.k 0)) (.sl none 0 (.k 0)) (.sl none 0 (.k 0)))]) rfl ⟨(zeo 0 Ty.zjo Ty.zgk aC rfl rfl),trivial⟩ ?_;exact ⟨F,.sl none 0 (.k 0),.sl none 0 (.k 0),.sl none 0 (.k 0),.sl none 0 (.k 0),rfl,(SlF.nil _),(SlF.nil _),(SlF.nil _),(SlF.nil _),aC.pick [] (by decide)⟩
 ·obtain ⟨f,bv,H⟩:=zaj H;refine ax ?_;refine lm (zof a8.good am ap ar a0 bv) ?_;rintro v9 w9 ⟨bB,aY,Y,a,d,rfl,aK⟩;have bP:=a8.call aK;have cp:=aK.ext;refine al ?_;intro h w8 bO;refine sb 0 ([.i .i64 f.seq,aY,Y,a,d]) ?_;intro c3 bG;refine ax ?_;refine sc 0 ([.i .i64 0,aY,Y,a,d]) ?_;intro c4 a1;obtain ⟨l,bs,H⟩:=zaj H;refine ax ?_;refine lm (zfg (a1.lendRow 1 rfl) bs) ?_;rintro e c5 ⟨bA,_,rfl,aH⟩;have bH:=a1.backRow 1 [0,2,3,4,5,6] rfl (by decide) (by decide) aH;have cn:=aH.ext;refine au ?_;refine sc 1 ([.i .i64 0,e,Y,a,d]) ?_;intro c6 a4;obtain ⟨b1,bt,H⟩:=zaj H;refine ax ?_;refine lm (zfc (a4.lendRow 2 rfl) bt) ?_;rintro g c7 ⟨ai,_,rfl,aJ⟩;have bI:=a4.backRow 2 [0,1,3,4,5,6] rfl (by decide) (by decide) aJ;have co:=aJ.ext;refine au ?_;refine sc 2 ([.i .i64 0,e,g,a,d]) ?_;intro c8 y;refine qn ?_;refine zac (fun E wq=>∃ l19:List Chunk,zbm.k1 f l l19=some r ∧ ∃ (p:Frz),E=[(2,pl j 0),(3,pl h 0)]∧ai.le p∧Also y [.row Chunk.t g l19,.row Snap.t e l,.box h [.i .i64 0,e,g,a,d],.row Exp.t a f.exps,.row Vol.t d f.vols,.box j [.i .i64 0,.sl none 0 (.k 0),.sl none 0 (.k 0),.sl none 0 (.k 0),.sl none 0 (.k 0)]] p wq) ?_ ?_
  ·refine aq ?_;refine qr (zdh Tryz.underlying35 rfl (y.rowLn (k:=0) rfl)) ?_;refine ax ?_;refine zbo (fun (s:Int × (List Chunk)) E wq=>∃ (x:Frz),E=[(2,pl j 0),(3,pl h 0),(26,.i .i64 (b1.length:Int)),(27,.i .i64 s.1)]∧ai.le x∧Also y [.row Chunk.t g s.2,.row Snap.t e l,.box h [.i .i64 0,e,g,a,d],.row Exp.t a f.exps,.row Vol.t d f.vols,.box j [.i .i64 0,.sl none 0 (.k 0),.sl none 0 (.k 0),.sl none 0 (.k 0),.sl none 0 (.k 0)]] x wq) H ?_ ?_
   ·exact lo (jj (pk [0,1,2,3,4,5] y))
   ·rintro cu ⟨aR,b0⟩ E b7 hI H
    try dsimp only at hI
    obtain ⟨x,rfl,cm,m⟩:=hI;refine ay ?_;refine qy H (fun bn H=>?_) (fun bn H=>?_)
    ·refine ay ?_;obtain ⟨I,aO,J,aP,H⟩:=bd2 H;have u:=m.boxAt 2 rfl;refine zbw (G:=(x.hold b7 [h])) [0,1,2,3,4,5,6,7,8,9,10,11] rfl Ty.mixed (by kernel_rfl) (HB.agree (HB.cons 2 u m rfl HB.nil) m.agree) ?_;refine au ?_;refine qr (zdo Ty.zft rfl (u.held (HB.cons 2 u m rfl HB.nil) (by simp)) rfl) ?_;obtain ⟨_,⟨cw,cx,rfl,bS,bX,bY⟩,_⟩:=elr 35 0 m aO;refine au ?_;refine qu (ziv (c:=[.b false]) 0 (aR.toNat) 32 I (Chunk.mk I.id false I.data I.locs) rfl rfl m rfl (zaf aO).2 (by first | rfl | (show _=_*35+_;omega)) rfl Ty.size4 rfl (Nat.le_of_ble_eq_true rfl) (by rintro cs ⟨a2,P,rfl,R,b2,Q⟩;exact ⟨a2,P,rfl,R,b2,Q⟩)) ?_;rintro _ cP S;refine qh 2 u S ?_;obtain ⟨_,⟨cy,cz,rfl,bT,bZ,ca⟩,_⟩:=elr 35 0 S aP;refine au ?_;refine qu (ziv (c:=[.sl none 0 (.k 0)]) 0 (aR.toNat) 33 J (Chunk.mk J.id J.staged [] J.locs) rfl rfl S rfl (zaf aP).2 (by first | rfl | (show _=_*35+_;omega)) rfl Ty.ztp rfl (Nat.le_of_ble_eq_true rfl) (by rintro cs ⟨a2,P,rfl,R,b2,Q⟩;exact ⟨.sl none 0 (.k 0),P,rfl,R,(SlF.nil _),Q⟩)) ?_;rintro _ cQ aD;refine qh 2 u aD ?_;refine ax ?_;exact nm H (jj aD)
    ·refine zbe _ rfl ?_;exact nj ⟨b0,H,jj m⟩
  ·rintro E c9 ⟨l19,H,p,rfl,cd,z⟩;refine zac (fun E wq=>∃ U:Int,zbm.k2 f l l19 U=some r ∧ ∃ (q:Frz),E=[(2,pl j 0),(3,pl h 0)]∧p.le q∧Also z [.row Chunk.t g l19,.row Snap.t e l,.box h [.i .i64 U,e,g,a,d],.row Exp.t a f.exps,.row Vol.t d f.vols,.box j [.i .i64 0,.sl none 0 (.k 0),.sl none 0 (.k 0),.sl none 0 (.k 0),.sl none 0 (.k 0)]] q wq) ?_ ?_
   ·refine aq ?_;refine qr (zdh Tryz.underlying34 rfl (z.rowLn (k:=1) rfl)) ?_;refine ax ?_;refine zbo (fun (s:Int × Int) E wq=>∃ (O:Frz),E=[(2,pl j 0),(3,pl h 0),(42,e),(43,.i .i64 (l.length:Int)),(44,.i .i64 s.1)]∧p.le O∧Also z [.row Chunk.t g l19,.row Snap.t e l,.box h [.i .i64 s.2,e,g,a,d],.row Exp.t a f.exps,.row Vol.t d f.vols,.box j [.i .i64 0,.sl none 0 (.k 0),.sl none 0 (.k 0),.sl none 0 (.k 0),.sl none 0 (.k 0)]] O wq) H ?_ ?_
    ·exact lo (jj z)
    ·rintro ct ⟨cc,X⟩ E cK hI H
     try dsimp only at hI
     obtain ⟨O,rfl,cl,a9⟩:=hI;refine ay ?_;refine qy H (fun bl H=>?_) (fun bl H=>?_)
     ·obtain ⟨D,bz,H⟩:=zaj H;obtain ⟨_,⟨b5,b6,rfl,bV,bW⟩,bR⟩:=elr 4 1 a9 bz;refine ay ?_;refine al ?_;intro bE cL bM;refine sb 0 ([.i .i64 D.seq,.s D.man.name,b5,b6]) ?_;intro cM bN;refine ax ?_;refine sc 3 ([.i .i64 (if X < wr (D.seq+1) then wr (D.seq+1) else X),e,g,a,d]) ?_;intro cN bj;refine ax ?_;exact nm H (jj (pk [1,2,3,4,5,6] bj))
     ·refine zbe _ rfl ?_;exact nj ⟨X,H,jj a9⟩
   ·rintro E cC ⟨U,H,q,rfl,ce,A⟩;refine zac (fun E wq=>∃ n:Int,zbm.k3 f l l19 n=some r ∧ ∃ (L:Frz),E=[(2,pl j 0),(3,pl h 0)]∧q.le L∧Also A [.row Chunk.t g l19,.row Snap.t e l,.box h [.i .i64 n,e,g,a,d],.row Exp.t a f.exps,.row Vol.t d f.vols,.box j [.i .i64 0,.sl none 0 (.k 0),.sl none 0 (.k 0),.sl none 0 (.k 0),.sl none 0 (.k 0)]] L wq) ?_ ?_
    ·refine aq ?_;refine qr (zdh Tryz.underlying36 rfl (A.rowLn (k:=3) rfl)) ?_;refine ax ?_;refine zbo (fun (s:Int × Int) E wq=>∃ (M:Frz),E=[(2,pl j 0),(3,pl h 0),(57,a),(58,.i .i64 (f.exps.length:Int)),(59,.i .i64 s.1)]∧q.le M∧Also A [.row Chunk.t g l19,.row Snap.t e l,.box h [.i .i64 s.2,e,g,a,d],.row Exp.t a f.exps,.row Vol.t d f.vols,.box j [.i .i64 0,.sl none 0 (.k 0),.sl none 0 (.k 0),.sl none 0 (.k 0),.sl none 0 (.k 0)]] M wq) H ?_ ?_
     ·exact lo (jj A)
     ·rintro cr ⟨cb,V⟩ E cF hI H
      try dsimp only at hI
      obtain ⟨M,rfl,ck,a7⟩:=hI;refine ay ?_;refine qy H (fun bk H=>?_) (fun bk H=>?_)
      ·obtain ⟨B,bw,H⟩:=zaj H;obtain ⟨_,⟨b4,rfl,bU⟩,bQ⟩:=elr 3 3 a7 bw;refine ay ?_;refine al ?_;intro bD cG bK;refine sb 0 ([.i .i64 B.seq,.i .i64 B.of,b4]) ?_;intro cH bL;refine ax ?_;refine sc 3 ([.i .i64 (if V < wr (B.seq+1) then wr (B.seq+1) else V),e,g,a,d]) ?_;intro cJ bi;refine ax ?_;exact nm H (jj (pk [1,2,3,4,5,6] bi))
      ·refine zbe _ rfl ?_;exact nj ⟨V,H,jj a7⟩
    ·rintro E cD ⟨n,H,L,rfl,cf,bJ⟩;refine aq ?_;refine sb 5 ([.i .i64 n,e,g,a,d]) ?_;intro cE bc;refine qn ?_;obtain ⟨b8,cg,bo,be⟩:=bc.freezeR 1 [0,2,3,4,5] rfl (by decide) (by decide);obtain ⟨b9,ch,bp,bf⟩:=be.freezeR 0 [1,2,3,4] rfl (by decide) (by decide);obtain ⟨ba,ci,bq,bg⟩:=bf.freezeR 1 [0,2,3] rfl (by decide) (by decide);have bh:St [] w F ba [.box h [.i .i64 n,e,g,a,d],.row Vol.t d f.vols,.box j [.i .i64 n,e,g,a,d]] _:=bg;obtain ⟨bb,cj,br,a6⟩:=bh.freezeR 1 [0,2] rfl (by decide) (by decide);obtain rfl:=oi H;refine zgb (vs:=[.agg (Catalog.cells (Catalog.mk n l l19 f.exps f.vols) e g a d)]) rfl ⟨(zeo 1 Ty.zjo Ty.zgk a6 rfl rfl),trivial⟩ ?_;exact ⟨bb,e,g,a,d,rfl,(mo bo),(mo bp),(mo bq),br,a6.pick [] (by decide)⟩
def zcw.k1:Option Bool :=
  some true
def zcw.l2 (x0:List UInt8) (x1:List UInt8) (b:Int→Option Bool):Int→Option Bool
  | a =>
    if decide (a < (x0.length:Int)) then
      bd (ix x0 a) fun x7 =>
      bd (ix x1 a) fun x9 =>
      if decide ((x7.toNat:Int)≠(x9.toNat:Int)) then
        some false
      else
        b (wr (a+1))
    else
      zcw.k1
def zcw (x0:List UInt8) (x1:List UInt8):Option Bool :=
  if decide ((x0.length:Int)≠(x1.length:Int)) then
    some false
  else
    loop (zcw.l2 x0 x1) 0
theorem zod {x0:List UInt8} {x1:List UInt8} {r:Bool} {c:Val} {d:Val} (hA:Gd F w) (f:SlF tB F c x0) (g:SlF tB F d x1) (H:zcw x0 x1=some r):Ret Tryz.prog K 61 [c,d] w fun v w'=>∃ (F':Frz),v = .b r∧St [] w F F' [] w':=by
 refine qa2 Tryz.func61 ?_;have hS:=St.start hA;refine ay ?_;refine qy H (fun j H=>?_) (fun j H=>?_)
 ·exact rz H hS
 ·refine qk ?_;refine zac (jN (zcw.k1=some r) [] hS) ?_ ?_
  ·refine ax ?_;refine lj hS (fun s:Int=>[(0,c),(1,d),(5,.i .i64 s)]) H ?_;intro y u q A e a H;refine ay ?_;refine qy H (fun l H=>?_) (fun l H=>?_)
   ·refine ay ?_;obtain ⟨x7,m,x9,n,H⟩:=bd2 H;refine rn ?_;obtain ⟨_,rfl,_⟩:=elx 1 (f.mono e) m;obtain ⟨_,rfl,_⟩:=elx 1 (g.mono e) n;refine au ?_;refine qy H (fun k H=>?_) (fun k H=>?_)
    ·exact rz H a
    ·refine ax ?_;exact nm H (jj a)
   ·refine zbe _ rfl ?_;exact nj ⟨H,jj a⟩
  ·rintro E z ⟨H,p,rfl,x,h⟩;exact rz H h
def zhz (x0:Loc) (x1:Loc):Option Bool :=
  some (((decide (x0.vol=x1.vol)&&decide (x0.file=x1.file))&&decide (x0.off=x1.off))&&decide (x0.len=x1.len))
theorem zpk {x0:Loc} {x1:Loc} {r:Bool} (hA:Gd F w) (H:zhz x0 x1=some r):Ret Tryz.prog K 21 [.agg (Loc.cells x0),.agg (Loc.cells x1)] w fun v w'=>∃ (F':Frz),v = .b r∧St [] w F F' [] w':=by
 refine qa2 Tryz.func21 ?_;have hS:=St.start hA;refine qs ?_;refine bx ([.i .i64 x0.vol,.i .i64 x0.file,.i .i64 x0.off,.i .i64 x0.len]) ?_;intro c f e;refine bx ([.i .i64 x1.vol,.i .i64 x1.file,.i .i64 x1.off,.i .i64 x1.len]) ?_;intro d g a;refine az ?_;exact rz H a
def zcn.k1:Option Bool :=
  some true
def zcn.l2 (x0:List Loc) (x1:List Loc) (c:Int→Option Bool):Int→Option Bool
  | a =>
    if decide (a < (x0.length:Int)) then
      bd (ix x0 a) fun x7 =>
      bd (ix x1 a) fun x9 =>
      bd (zhz x7 x9) fun b =>
      if (!b) then
        some false
      else
        c (wr (a+1))
    else
      zcn.k1
def zcn (x0:List Loc) (x1:List Loc):Option Bool :=
  if decide ((x0.length:Int)≠(x1.length:Int)) then
    some false
  else
    loop (zcn.l2 x0 x1) 0
theorem zhr {x0:List Loc} {x1:List Loc} {r:Bool} {c:Val} {d:Val} (hA:Gd F w) (g:SlF Loc.t F c x0) (h:SlF Loc.t F d x1) (H:zcn x0 x1=some r):Ret Tryz.prog K 51 [c,d] w fun v w'=>∃ (F':Frz),v = .b r∧St [] w F F' [] w':=by
 refine qa2 Tryz.func51 ?_;have hS:=St.start hA;refine ay ?_;refine qy H (fun k H=>?_) (fun k H=>?_)
 ·exact rz H hS
 ·refine qk ?_;refine zac (jN (zcn.k1=some r) [] hS) ?_ ?_
  ·refine ax ?_;refine lj hS (fun s:Int=>[(0,c),(1,d),(5,.i .i64 s)]) H ?_;intro G A x L f a H;refine ay ?_;refine qy H (fun m H=>?_) (fun m H=>?_)
   ·refine ay ?_;obtain ⟨x7,p,x9,q,H⟩:=bd2 H;obtain ⟨D,n,H⟩:=zaj H;refine rf a ?_;obtain ⟨_,rfl,y⟩:=elx 4 (g.mono f) p;obtain ⟨_,rfl,z⟩:=elx 4 (h.mono f) q;refine au ?_;refine lq (zpk a.good n) a ?_;intro I e;refine au ?_;refine qy H (fun l H=>?_) (fun l H=>?_)
    ·exact rz H e
    ·refine ax ?_;exact nm H (jj e)
   ·refine zbe _ rfl ?_;exact nj ⟨H,jj a⟩
  ·rintro E J ⟨H,u,rfl,B,j⟩;exact rz H j
def zha (x0:Chunk) (x1:Chunk):Option Bool :=
  bd (only (decide (x0.id=x1.id)&&(x0.staged == x1.staged)) (zcw x0.data x1.data) false) fun a =>
  bd (only ((decide (x0.id=x1.id)&&(x0.staged == x1.staged))&&a) (zcn x0.locs x1.locs) false) fun b =>
  some (((decide (x0.id=x1.id)&&(x0.staged == x1.staged))&&a)&&b)
theorem zoc {x0:Chunk} {x1:Chunk} {r:Bool} {c:Val} {d:Val} {e:Val} {f:Val} (hA:Gd F w) (i:SlF tB F c x0.data) (j:SlF Loc.t F d x0.locs) (x:(x0.id).length=32) (k:SlF tB F e x1.data) (l:SlF Loc.t F f x1.locs) (z:(x1.id).length=32) (H:zha x0 x1=some r):Ret Tryz.prog K 107 [.agg (Chunk.cells x0 c d),.agg (Chunk.cells x1 e f)] w fun v w'=>∃ (F':Frz),v = .b r∧St [] w F F' [] w':=by
 refine qa2 Tryz.func107 ?_;have hS:=St.start hA;refine qs ?_;refine bx (zam x0.id++([.b x0.staged,c,d]:List Val)) ?_;intro A J D;refine bx (zam x1.id++([.b x1.staged,e,f]:List Val)) ?_;intro B M a;obtain ⟨G,p,I,s,H⟩:=bd2 H;refine ax ?_;refine qr (zdx 1 (zam x0.id) Ty.ziu Ty.zfq (Nat.zero_lt_succ _) rfl a rfl (fun q u h=>zdp (post:=[.b x0.staged,c,d]) rfl h)) ?_;refine au ?_;refine qr (zdx 0 (zam x1.id) Ty.ziu Ty.zfq (Nat.zero_lt_succ _) rfl a rfl (fun q u h=>zdp (post:=[.b x1.staged,e,f]) rfl h)) ?_;refine qr (zbc rfl rfl (zuz Ty.eqt58 rfl rfl (zwa x z))) ?_;refine aw ?_;refine W_gs (v:=.b (x0.staged == x1.staged)) rfl rfl rfl rfl (fun ⟨n,_⟩=>?_) ?_
 ·rw [n];exact (qr (zbc rfl rfl (bB_eql Tryz.underlying4)) ·)
 refine aw ?_;refine gw a p (fun y=>zod a.good i k y) ?_;intro L g;refine Nxt.now ?_;refine aw ?_;refine gw g s (fun y=>zhr g.good j l y) ?_;intro O m;refine Nxt.now ?_;refine aw ?_;exact rz H m
def zcq.k1:Option Bool :=
  some true
def zcq.l2 (x0:List Chunk) (x1:List Chunk) (c:Int→Option Bool):Int→Option Bool
  | a =>
    if decide (a < (x0.length:Int)) then
      bd (ix x0 a) fun x7 =>
      bd (ix x1 a) fun x9 =>
      bd (zha x7 x9) fun b =>
      if (!b) then
        some false
      else
        c (wr (a+1))
    else
      zcq.k1
def zcq (x0:List Chunk) (x1:List Chunk):Option Bool :=
  if decide ((x0.length:Int)≠(x1.length:Int)) then
    some false
  else
    loop (zcq.l2 x0 x1) 0
theorem znc {x0:List Chunk} {x1:List Chunk} {r:Bool} {c:Val} {d:Val} (hA:Gd F w) (g:SlF Chunk.t F c x0) (h:SlF Chunk.t F d x1) (H:zcq x0 x1=some r):Ret Tryz.prog K 49 [c,d] w fun v w'=>∃ (F':Frz),v = .b r∧St [] w F F' [] w':=by
 refine qa2 Tryz.func49 ?_;have hS:=St.start hA;refine ay ?_;refine qy H (fun k H=>?_) (fun k H=>?_)
 ·exact rz H hS
 ·refine qk ?_;refine zac (jN (zcq.k1=some r) [] hS) ?_ ?_
  ·refine ax ?_;refine lj hS (fun s:Int=>[(0,c),(1,d),(5,.i .i64 s)]) H ?_;intro P L G Y f a H;refine ay ?_;refine qy H (fun m H=>?_) (fun m H=>?_)
   ·refine ay ?_;obtain ⟨x7,A,x9,B,H⟩:=bd2 H;obtain ⟨O,q,H⟩:=zaj H;refine rf a ?_;obtain ⟨_,⟨S,U,rfl,p,y,z⟩,I⟩:=elx 35 (g.mono f) A;obtain ⟨_,⟨Q,R,rfl,n,u,x⟩,J⟩:=elx 35 (h.mono f) B;refine au ?_;refine lq (zoc a.good y z p u x n q) a ?_;intro V e;refine au ?_;refine qy H (fun l H=>?_) (fun l H=>?_)
    ·exact rz H e
    ·refine ax ?_;exact nm H (jj e)
   ·refine zbe _ rfl ?_;exact nj ⟨H,jj a⟩
  ·rintro E X ⟨H,D,rfl,M,j⟩;exact rz H j
def zcz.k1:Option Bool :=
  some true
def zcz.l2 (x0:List Vol) (x1:List Vol) (b:Int→Option Bool):Int→Option Bool
  | a =>
    if decide (a < (x0.length:Int)) then
      bd (ix x0 a) fun x7 =>
      bd (ix x1 a) fun x9 =>
      if (((decide (x7.pool≠x9.pool)||decide (x7.epoch≠x9.epoch))||decide (x7.state≠x9.state))||decide (x7.files≠x9.files)) then
        some false
      else
        b (wr (a+1))
    else
      zcz.k1
def zcz (x0:List Vol) (x1:List Vol):Option Bool :=
  if decide ((x0.length:Int)≠(x1.length:Int)) then
    some false
  else
    loop (zcz.l2 x0 x1) 0
theorem zow {x0:List Vol} {x1:List Vol} {r:Bool} {a:Val} {c:Val} (hA:Gd F w) (g:SlF Vol.t F a x0) (h:SlF Vol.t F c x1) (H:zcz x0 x1=some r):Ret Tryz.prog K 18 [a,c] w fun v w'=>∃ (F':Frz),v = .b r∧St [] w F F' [] w':=by
 refine qa2 Tryz.func18 ?_;have hS:=St.start hA;refine ay ?_;refine qy H (fun k H=>?_) (fun k H=>?_)
 ·exact rz H hS
 ·refine qk ?_;refine zac (jN (zcz.k1=some r) [] hS) ?_ ?_
  ·refine ax ?_;refine lj hS (fun s:Int=>[(0,a),(1,c),(5,.i .i64 s)]) H ?_;intro L I u S f e H;refine ay ?_;refine qy H (fun m H=>?_) (fun m H=>?_)
   ·refine ay ?_;obtain ⟨x7,n,x9,p,H⟩:=bd2 H;refine rf e ?_;obtain ⟨_,rfl,D⟩:=elx 4 (g.mono f) n;obtain ⟨_,rfl,G⟩:=elx 4 (h.mono f) p;refine au ?_;refine aM ?_;intro x M z;refine aM ?_;intro y O A;refine sB 1 ([.i .i64 x7.pool,.i .i64 x7.epoch,.i .i64 x7.state,.i .i64 x7.files]) ?_;intro P B;refine sB 0 ([.i .i64 x9.pool,.i .i64 x9.epoch,.i .i64 x9.state,.i .i64 x9.files]) ?_;intro Q d;refine az ?_;refine qy H (fun l H=>?_) (fun l H=>?_)
    ·exact rz H d
    ·refine ax ?_;exact nm H (jj (pk [] d))
   ·refine zbe _ rfl ?_;exact nj ⟨H,jj e⟩
  ·rintro E R ⟨H,q,rfl,J,j⟩;exact rz H j
def zdd.k1:Option Bool :=
  some true
def zdd.l2 (x0:List (List UInt8)) (x1:List (List UInt8)) (b:Int→Option Bool):Int→Option Bool
  | a =>
    if decide (a < (x0.length:Int)) then
      bd (ix x0 a) fun x7 =>
      bd (ix x1 a) fun x9 =>
      if (!decide (x7=x9)) then
        some false
      else
        b (wr (a+1))
    else
      zdd.k1
def zdd (x0:List (List UInt8)) (x1:List (List UInt8)):Option Bool :=
  if decide ((x0.length:Int)≠(x1.length:Int)) then
    some false
  else
    loop (zdd.l2 x0 x1) 0
theorem zpl {x0:List (List UInt8)} {x1:List (List UInt8)} {r:Bool} {c:Val} {d:Val} (hA:Gd F w) (f:SlF tId F c x0) (g:SlF tId F d x1) (H:zdd x0 x1=some r):Ret Tryz.prog K 155 [c,d] w fun v w'=>∃ (F':Frz),v = .b r∧St [] w F F' [] w':=by
 refine qa2 Tryz.func155 ?_;have hS:=St.start hA;refine ay ?_;refine qy H (fun j H=>?_) (fun j H=>?_)
 ·exact rz H hS
 ·refine qk ?_;refine zac (jN (zdd.k1=some r) [] hS) ?_ ?_
  ·refine ax ?_;refine lj hS (fun s:Int=>[(0,c),(1,d),(5,.i .i64 s)]) H ?_;intro D A x I e a H;refine ay ?_;refine qy H (fun l H=>?_) (fun l H=>?_)
   ·refine ay ?_;obtain ⟨x7,p,x9,q,H⟩:=bd2 H;refine rn ?_;obtain ⟨_,⟨rfl,n⟩,y⟩:=elx 32 (f.mono e) p;obtain ⟨_,⟨rfl,m⟩,z⟩:=elx 32 (g.mono e) q;refine au ?_;refine qr (zbc rfl rfl (bA_neq Ty.eqt58 rfl rfl (zwa n m))) ?_;refine qn ?_;refine qy H (fun k H=>?_) (fun k H=>?_)
    ·exact rz H a
    ·refine ax ?_;exact nm H (jj a)
   ·refine zbe _ rfl ?_;exact nj ⟨H,jj a⟩
  ·rintro E G ⟨H,u,rfl,B,h⟩;exact rz H h
def zcg.k1:Option Bool :=
  some true
def zcg.l2 (x0:Manifest) (x1:Manifest) (e:Int→Option Bool):Int→Option Bool
  | c =>
    if decide (c < (x0.parts.length:Int)) then
      bd (ix x0.parts c) fun a =>
      bd (ix x1.parts c) fun b =>
      bd (only (!((!(a.path == b.path))||decide (a.size≠b.size))) (zdd a.ids b.ids) false) fun d =>
      if (((!(a.path == b.path))||decide (a.size≠b.size))||(!d)) then
        some false
      else
        e (wr (c+1))
    else
      zcg.k1
def zcg (x0:Manifest) (x1:Manifest):Option Bool :=
  if ((!(x0.name == x1.name))||decide ((x0.parts.length:Int)≠(x1.parts.length:Int))) then
    some false
  else
    loop (zcg.l2 x0 x1) 0
theorem zmb {x0:Manifest} {x1:Manifest} {r:Bool} {j:Val} {l:Val} (hA:Gd F w) (L:SlF Part.t F j x0.parts) (M:SlF Part.t F l x1.parts) (H:zcg x0 x1=some r):Ret Tryz.prog K 108 [.agg (Manifest.cells x0 j),.agg (Manifest.cells x1 l)] w fun v w'=>∃ (F':Frz),v = .b r∧St [] w F F' [] w':=by
 refine qa2 Tryz.func108 ?_;have hS:=St.start hA;refine qs ?_;refine bx ([.s x0.name,j]) ?_;intro J w1 ae;refine bx ([.s x1.name,l]) ?_;intro m w2 g;refine aZ ?_;refine qy H (fun P H=>?_) (fun P H=>?_)
 ·exact rz H g
 ·refine qk ?_;refine zac (jO (zcg.k1=some r) [] g []) ?_ ?_
  ·refine ax ?_;refine lj g (fun s:Int=>[(2,pl J 0),(3,pl m 0),(5,.i .i64 s)]) H ?_;intro ap aj I X A d H;refine ay ?_;refine qy H (fun Q H=>?_) (fun Q H=>?_)
   ·refine ay ?_;obtain ⟨e,U,f,V,H⟩:=bd2 H;have a:=d.boxAt 0 rfl;refine zbw (G:=(I.hold X [m])) [0,1,2,3,4,5,6,7,8,9,10,11,12,13] rfl Ty.mixed (by kernel_rfl) (HB.agree (HB.cons 0 a d rfl HB.nil) d.agree) ?_;obtain ⟨_,⟨B,rfl,x⟩,ah⟩:=elx 3 (L.mono A) U;refine au ?_;refine qr (zdo Ty.zwe rfl (a.held (HB.cons 0 a d rfl HB.nil) (by simp)) rfl) ?_;obtain ⟨_,⟨D,rfl,z⟩,ai⟩:=elx 3 (M.mono A) V;refine au ?_;refine qx (zis (cs:=[.s [],.i .i64 0,.sl none 0 (.k 0)]) Ty.zero138 rfl d) ?_;rintro _ a2 ⟨Z,rfl,n⟩;refine qh 1 a n ?_;refine qx (zis (cs:=[.s [],.i .i64 0,.sl none 0 (.k 0)]) Ty.zero138 rfl n) ?_;rintro _ a3 ⟨ad,rfl,p⟩;refine qh 2 a p ?_;refine qu (zpr (c:=[.s e.path,.i .i64 e.size,B]) 1 ([.s e.path,.i .i64 e.size,B]) rfl rfl p rfl rfl Ty.zpf (by simp only [List.all_cons,List.all_nil,List.all_append,x.ln.one];rfl) rfl rfl) ?_;rintro _ a4 q;refine qh 2 a q ?_;refine qu (zpr (c:=[.s f.path,.i .i64 f.size,D]) 0 ([.s f.path,.i .i64 f.size,D]) rfl rfl q rfl rfl Ty.zpf (by simp only [List.all_cons,List.all_nil,List.all_append,z.ln.one];rfl) rfl rfl) ?_;rintro _ a5 h;refine qh 2 a h ?_;obtain ⟨am,S,H⟩:=zaj H;refine az ?_;refine gw h S (fun y=>zpl h.good x z y) ?_;intro a6 u;refine Nxt.now ?_;refine aw ?_;refine qy H (fun R H=>?_) (fun R H=>?_)
    ·exact rz H u
    ·refine ax ?_;exact nm H (jj (pk [2,3] u))
   ·refine zbe _ rfl ?_;exact nj ⟨H,jj (pk [] d)⟩
  ·rintro E a0 ⟨H,Y,rfl,ak,O⟩;exact rz H O
def zhl (x0:Snap) (x1:Snap):Option Bool :=
  bd (only (decide (x0.seq=x1.seq)) (zcg x0.man x1.man) false) fun a =>
  bd (only (decide (x0.seq=x1.seq)&&a) (zcn x0.locs x1.locs) false) fun b =>
  some ((decide (x0.seq=x1.seq)&&a)&&b)
theorem zox {x0:Snap} {x1:Snap} {r:Bool} {a:Val} {e:Val} {c:Val} {f:Val} (hA:Gd F w) (j:SlF Part.t F a x0.man.parts) (k:SlF Loc.t F e x0.locs) (l:SlF Part.t F c x1.man.parts) (m:SlF Loc.t F f x1.locs) (H:zhl x0 x1=some r):Ret Tryz.prog K 50 [.agg (Snap.cells x0 a e),.agg (Snap.cells x1 c f)] w fun v w'=>∃ (F':Frz),v = .b r∧St [] w F F' [] w':=by
 refine qa2 Tryz.func50 ?_;have hS:=St.start hA;refine qs ?_;refine bx ([.i .i64 x0.seq,.s x0.man.name,a,e]) ?_;intro B L G;refine bx ([.i .i64 x1.seq,.s x1.man.name,c,f]) ?_;intro D O d;obtain ⟨I,z,J,A,H⟩:=bd2 H;refine az ?_;refine W_gs (v:=.agg (Manifest.cells x0.man a)) rfl rfl rfl rfl (fun ⟨p,_⟩=>?_) ?_
 ·rw [p];exact (qr (zdx 1 (Manifest.cells x0.man a) Ty.zoy Ty.zjk (Nat.zero_lt_succ _) rfl d rfl (fun q u h=>zdp (post:=[e]) rfl h)) ·)
 refine aw ?_;refine W_gs (v:=.agg (Manifest.cells x1.man c)) rfl rfl rfl rfl (fun ⟨x,_⟩=>?_) ?_
 ·rw [x];exact (qr (zdx 0 (Manifest.cells x1.man c) Ty.zoy Ty.zjk (Nat.zero_lt_succ _) rfl d rfl (fun q u h=>zdp (post:=[f]) rfl h)) ·)
 refine gw d z (fun y=>zmb d.good j l y) ?_;intro M g;refine Nxt.now ?_;refine aw ?_;refine gw g A (fun y=>zhr g.good k m y) ?_;intro P n;refine Nxt.now ?_;refine aw ?_;exact rz H n
def zbb.k2:Option Bool :=
  some true
def zbb.l3 (x0:Catalog) (x1:Catalog) (e:Int→Option Bool):Int→Option Bool
  | c =>
    if decide (c < (x0.exps.length:Int)) then
      bd (ix x0.exps c) fun a =>
      bd (ix x1.exps c) fun b =>
      bd (only (!(decide (a.seq≠b.seq)||decide (a.of≠b.of))) (zcn a.locs b.locs) false) fun d =>
      if ((decide (a.seq≠b.seq)||decide (a.of≠b.of))||(!d)) then
        some false
      else
        e (wr (c+1))
    else
      zbb.k2
def zbb.k1 (x0:Catalog) (x1:Catalog):Option Bool :=
  loop (zbb.l3 x0 x1) 0
def zbb.l4 (x0:Catalog) (x1:Catalog) (c:Int→Option Bool):Int→Option Bool
  | a =>
    if decide (a < (x0.snaps.length:Int)) then
      bd (ix x0.snaps a) fun d =>
      bd (ix x1.snaps a) fun e =>
      bd (zhl d e) fun b =>
      if (!b) then
        some false
      else
        c (wr (a+1))
    else
      zbb.k1 x0 x1
def zbb (x0:Catalog) (x1:Catalog):Option Bool :=
  bd (only (!(decide ((x0.snaps.length:Int)≠(x1.snaps.length:Int))||decide ((x0.exps.length:Int)≠(x1.exps.length:Int)))) (zcq x0.chunks x1.chunks) false) fun a =>
  bd (only (!((decide ((x0.snaps.length:Int)≠(x1.snaps.length:Int))||decide ((x0.exps.length:Int)≠(x1.exps.length:Int)))||(!a))) (zcz x0.vols x1.vols) false) fun b =>
  if (((decide ((x0.snaps.length:Int)≠(x1.snaps.length:Int))||decide ((x0.exps.length:Int)≠(x1.exps.length:Int)))||(!a))||(!b)) then
    some false
  else
    loop (zbb.l4 x0 x1) 0
set_option maxHeartbeats 2000000 in
theorem ziq {x0:Catalog} {x1:Catalog} {r:Bool} {n:Val} {p:Val} {q:Val} {u:Val} {x:Val} {z:Val} {A:Val} {B:Val} (hA:Gd F w) (ae:SlF Snap.t F n x0.snaps) (ah:SlF Chunk.t F p x0.chunks) (ai:SlF Exp.t F q x0.exps) (aj:SlF Vol.t F u x0.vols) (ak:SlF Snap.t F x x1.snaps) (am:SlF Chunk.t F z x1.chunks) (ap:SlF Exp.t F A x1.exps) (ar:SlF Vol.t F B x1.vols) (H:zbb x0 x1=some r):Ret Tryz.prog K 13 [.agg (Catalog.cells x0 n p q u),.agg (Catalog.cells x1 x z A B)] w fun v w'=>∃ (F':Frz),v = .b r∧St [] w F F' [] w':=by
 refine qa2 Tryz.func13 ?_;have hS:=St.start hA;refine qs ?_;refine bx ([.i .i64 x0.seq,n,p,q,u]) ?_;intro j w1 bb;refine bx ([.i .i64 x1.seq,x,z,A,B]) ?_;intro e w2 D;obtain ⟨r3,a6,r4,a7,H⟩:=bd2 H;refine aZ ?_;refine gw D a6 (fun y=>znc D.good ah am y) ?_;intro bw I;refine Nxt.now ?_;refine aw ?_;refine gw I a7 (fun y=>zow I.good aj ar y) ?_;intro bz l;refine Nxt.now ?_;refine aw ?_;refine qy H (fun a1 H=>?_) (fun a1 H=>?_)
 ·exact rz H l
 ·refine qk ?_;refine zac (jN (zbb.k1 x0 x1=some r) [(2,pl j 0),(3,pl e 0)] l) ?_ ?_
  ·refine ax ?_;refine lj l (fun s:Int=>[(2,pl j 0),(3,pl e 0),(5,.i .i64 s)]) H ?_;intro bp bi aX b7 X f H;refine ay ?_;refine qy H (fun a4 H=>?_) (fun a4 H=>?_)
   ·refine ay ?_;obtain ⟨b9,aP,bA,aR,H⟩:=bd2 H;obtain ⟨bn,a9,H⟩:=zaj H;refine rf f ?_;obtain ⟨_,⟨bq,br,rfl,aC,aD⟩,bf⟩:=elx 4 (ae.mono X) aP;obtain ⟨_,⟨bs,bt,rfl,aH,aJ⟩,bg⟩:=elx 4 (ak.mono X) aR;refine au ?_;refine lq (zox f.good aC aD aH aJ a9) f ?_;intro b8 Q;refine au ?_;refine qy H (fun a5 H=>?_) (fun a5 H=>?_)
    ·exact rz H Q
    ·refine ax ?_;exact nm H (jj Q)
   ·refine zbe _ rfl ?_;exact nj ⟨H,jj f⟩
  ·rintro E b0 ⟨H,aU,rfl,U,J⟩;refine zac (jO (zbb.k2=some r) [] J []) ?_ ?_
   ·refine ax ?_;refine lj J (fun s:Int=>[(2,pl j 0),(3,pl e 0),(6,.i .i64 s)]) H ?_;intro bo bh ad aT V d H;refine ay ?_;refine qy H (fun a2 H=>?_) (fun a2 H=>?_)
    ·refine ay ?_;obtain ⟨g,aK,h,aO,H⟩:=bd2 H;have a:=d.boxAt 0 rfl;refine zbw (G:=(ad.hold aT [e])) [0,1,2,3,4,5,6,7,8,9,10,11,12,13] rfl Ty.mixed (by kernel_rfl) (HB.agree (HB.cons 0 a d rfl HB.nil) d.agree) ?_;obtain ⟨_,⟨Y,rfl,R⟩,bc⟩:=elx 3 (ai.mono (U.trans V)) aK;refine au ?_;refine qr (zdo Ty.zkm rfl (a.held (HB.cons 0 a d rfl HB.nil) (by simp)) rfl) ?_;obtain ⟨_,⟨Z,rfl,S⟩,be⟩:=elx 3 (ap.mono (U.trans V)) aO;refine au ?_;refine qx (zis (cs:=[.i .i64 0,.i .i64 0,.sl none 0 (.k 0)]) Ty.zero55 rfl d) ?_;rintro _ b2 ⟨aY,rfl,L⟩;refine qh 1 a L ?_;refine qx (zis (cs:=[.i .i64 0,.i .i64 0,.sl none 0 (.k 0)]) Ty.zero55 rfl L) ?_;rintro _ b3 ⟨ba,rfl,M⟩;refine qh 2 a M ?_;refine qu (zpr (c:=[.i .i64 g.seq,.i .i64 g.of,Y]) 1 ([.i .i64 g.seq,.i .i64 g.of,Y]) rfl rfl M rfl rfl Ty.zto (by simp only [List.all_cons,List.all_nil,List.all_append,R.ln.one];rfl) rfl rfl) ?_;rintro _ b4 O;refine qh 2 a O ?_;refine qu (zpr (c:=[.i .i64 h.seq,.i .i64 h.of,Z]) 0 ([.i .i64 h.seq,.i .i64 h.of,Z]) rfl rfl O rfl rfl Ty.zto (by simp only [List.all_cons,List.all_nil,List.all_append,S.ln.one];rfl) rfl rfl) ?_;rintro _ b5 m;refine qh 2 a m ?_;obtain ⟨bm,a8,H⟩:=zaj H;refine az ?_;refine gw m a8 (fun y=>zhr m.good R S y) ?_;intro b6 P;refine Nxt.now ?_;refine aw ?_;refine qy H (fun a3 H=>?_) (fun a3 H=>?_)
     ·exact rz H P
     ·refine ax ?_;exact nm H (jj (pk [2,3] P))
    ·refine zbe _ rfl ?_;exact nj ⟨H,jj (pk [] d)⟩
   ·rintro E b1 ⟨H,aV,rfl,bj,a0⟩;exact rz H a0
def zda.k2 (l3:List UInt8):Option (List UInt8) :=
  some l3
def zda.k1 (x1:Int):Option (List UInt8) :=
  if decide (0 < wr (x1 - wr (0 - 0))) then
    bd (appZ (α:=UInt8) [] (wr (x1 - wr (0 - 0))) 0) fun l7 =>
    bd (cut (α:=UInt8) l7 0 0) fun l9 =>
    bd (nz l7) fun _ =>
    zda.k2 l9
  else
    zda.k2 []
def zda (x1:Int):Option (List UInt8) :=
  if decide (x1 < 0) then
    none
  else
    zda.k1 x1
theorem zlq {x1:Int} {r:(List UInt8)} (hA:Gd F w) (H:zda x1=some r):Ret Tryz.prog K 162 [.sl none 0 (.k 0),.i .i64 x1] w fun v w'=>∃ (F':Frz) (h:Val),v=h∧St [] w F F' [.row tB h (r)] w':=by
 refine qa2 Tryz.func162 ?_;have hS:=St.start hA;refine aq ?_;refine zac (jN (zda.k1 x1=some r) [(0,.sl none 0 (.k 0)),(1,.i .i64 x1)] hS) ?_ ?_
 ·refine aq ?_;refine qy H (fun p H=>?_) (fun p H=>?_)
  ·
   cases H
  ·refine ziz ?_;exact nj ⟨H,jj hS⟩
 ·rintro E D ⟨H,e,rfl,z,c⟩;refine zac (fun E wq=>∃ l3:List UInt8,zda.k2 l3=some r ∧ ∃ (a:Frz) (b:Val),E=[(0,b)]∧e.le a∧Also c [.row tB b l3] a wq) ?_ ?_
  ·refine aq ?_;refine qr (O_cap0 Tryz.underlying47 rfl) ?_;refine qc ?_;refine qr (O_len0 Tryz.underlying47 rfl) ?_;refine ax ?_;refine qy H (fun q H=>?_) (fun q H=>?_)
   ·obtain ⟨l7,s,l9,g,H⟩:=bd2 H;refine ax ?_;refine qr (O_cap0 Tryz.underlying47 rfl) ?_;refine qr (O_slN Tryz.underlying47 Ty.zlh rfl (.inl ⟨rfl,rfl⟩) (.inr ⟨_,_,rfl,rfl⟩)) ?_;refine qc ?_;have j:=c.nilRow tB;refine xm (E_appZ (t:=tB) (d:=0) 0 Tryz.underlying47 Ty.row5 Ty.zkt3 (zero_rel Ty.zero5 rfl) rfl rfl j rfl s) ?_;rintro B I f;refine qc ?_;refine qr (O_len0 Tryz.underlying47 rfl) ?_;refine zlb 0 0 0 rfl rfl rfl rfl Tryz.underlying47 Ty.zlh rfl (.inl ⟨rfl,rfl⟩) (.inr ⟨_,_,rfl,rfl⟩) f rfl g ?_;intro x y u;refine ax ?_;obtain ⟨_,hnz12,H⟩:=zaj H;have l:=f.shrink 0 rfl u g hnz12;exact nj ⟨l9,H,⟨_,x,rfl,lec,l⟩⟩
   ·refine ziz ?_;have m:=c.nilRow tB;exact nj ⟨[],H,⟨e,(.sl none 0 (.k 0)),rfl,(Frz.le.refl _),m⟩⟩
  ·rintro E G ⟨l3,H,a,b,rfl,A,n⟩;refine aq ?_;obtain rfl:=oi H;refine qt ?_;exact ⟨a,b,rfl,n⟩
def zbh.k2 (l6:List UInt8):Option (List UInt8) :=
  some l6
def zbh.l3 (x0:List (List UInt8)) (b:(Int × (List UInt8))→Option (List UInt8)):(Int × (List UInt8))→Option (List UInt8)
  | (a,l10) =>
    if decide (a < (x0.length:Int)) then
      bd (ix x0 a) fun c =>
      bd (app (α:=UInt8) l10 c) fun l17 =>
      b (wr (a+1),l17)
    else
      zbh.k2 l10
def zbh.k1 (x0:List (List UInt8)) (a:Int):Option (List UInt8) :=
  bd (zda a) fun b =>
  loop (zbh.l3 x0) (0,b)
def zbh.k5 (a:Int) (c:(Int × Int)→Option (List UInt8)) (b:Int):Option (List UInt8) :=
  c (b,wr (a+1))
def zbh.l4 (x0:List (List UInt8)) (d:(Int × Int)→Option (List UInt8)):(Int × Int)→Option (List UInt8)
  | (a,b) =>
    if decide (b < (x0.length:Int)) then
      bd (ix x0 b) fun c =>
      if decide (wr (a+(c.length:Int)) < 0) then
        none
      else
        zbh.k5 b d (wr (a+(c.length:Int)))
    else
      zbh.k1 x0 a
def zbh (x0:List (List UInt8)):Option (List UInt8) :=
  loop (zbh.l4 x0) (0,0)
theorem zkp {x0:List (List UInt8)} {r:(List UInt8)} {a:Val} (hA:Gd F w) (q:SlF (tSl tB) F a x0) (H:zbh x0=some r):Ret Tryz.prog K 129 [a] w fun v w'=>∃ (F':Frz) (A:Val),v=A∧St [] w F F' [.row tB A (r)] w':=by
 refine qa1 Tryz.func129 ?_;have hS:=St.start hA;refine aq ?_;refine aq ?_;refine zac (fun E wq=>∃ m:Int,zbh.k1 x0 m=some r ∧ ∃ (f:Frz),E=[(0,a),(3,.i .i64 m)]∧F.le f∧Same hS f wq) ?_ ?_
 ·refine ax ?_;refine zbo (fun (s:Int × Int) E wq=>∃ (b:Frz),E=[(0,a),(3,.i .i64 s.1),(9,a),(10,.i .i64 (x0.length:Int)),(11,.i .i64 s.2)]∧F.le b∧Same hS b wq) H ?_ ?_
  ·exact lo (jj hS)
  ·rintro Y ⟨y,z⟩ E a3 hI H
   try dsimp only at hI
   obtain ⟨b,rfl,U,j⟩:=hI;refine ay ?_;refine qy H (fun J H=>?_) (fun J H=>?_)
   ·refine qk ?_;refine zac (fun E wq=>∃ n:Int,zbh.k5 z Y n=some r ∧ ∃ (g:Frz),E=[(0,a),(3,.i .i64 n),(9,a),(10,.i .i64 (x0.length:Int)),(11,.i .i64 z)]∧b.le g∧Same j g wq) ?_ ?_
    ·obtain ⟨ae,R,H⟩:=zaj H;obtain ⟨_,⟨a0,rfl,ah⟩,_⟩:=elx 1 (q.mono U) R;refine ax ?_;refine qy H (fun L H=>?_) (fun L H=>?_)
     ·
      cases H
     ·refine ax ?_;exact nj ⟨wr (y+(ae.length:Int)),H,jj j⟩
    ·rintro E a4 ⟨n,H,g,rfl,aj,D⟩;refine ax ?_;exact nm H (jj D)
   ·refine zbe _ rfl ?_;exact nj ⟨y,H,jj j⟩
 ·rintro E w1 ⟨m,H,f,rfl,S,u⟩;obtain ⟨r3,O,H⟩:=zaj H;refine aq ?_;refine lm (zlq u.good O) ?_;rintro Z w4 ⟨p,_,rfl,x⟩;have k:=u.call x;have X:=x.ext;refine au ?_;refine zac (fun E wq=>∃ l6:List UInt8,zbh.k2 l6=some r ∧ ∃ (c:Frz) (e:Val),E=[(6,e)]∧p.le c∧Also k [.row tB e l6] c wq) ?_ ?_
  ·refine ax ?_;refine zbo (fun (s:Int × (List UInt8)) E wq=>∃ (h:Frz) (d:Val),E=[(6,d),(25,a),(26,.i .i64 (x0.length:Int)),(27,.i .i64 s.1)]∧p.le h∧Also k [.row tB d s.2] h wq) H ?_ ?_
   ·exact lo ⟨_,Z,rfl,lec,k⟩
   ·rintro ap ⟨i9,l10⟩ E w8 hI H
    try dsimp only at hI
    obtain ⟨h,d,rfl,V,l⟩:=hI;refine ay ?_;refine qy H (fun I H=>?_) (fun I H=>?_)
    ·obtain ⟨a8,Q,H⟩:=zaj H;obtain ⟨_,⟨ar,rfl,P⟩,_⟩:=elx 1 (q.mono ((S.trans X).trans V)) Q;obtain ⟨l17,M,H⟩:=zaj H;refine ay ?_;refine xm (zep (t:=tB) 0 Tryz.underlying47 Ty.row5 Ty.zk47 rfl rfl l rfl (P.src l.agree) M) ?_;rintro ad a2 B;refine ax ?_;exact nm H ⟨_,ad,rfl,lec,B⟩
    ·refine zbe _ rfl ?_;exact nj ⟨l10,H,⟨_,d,rfl,lec,l⟩⟩
  ·rintro E w5 ⟨l6,H,c,e,rfl,ak,G⟩;refine aq ?_;obtain rfl:=oi H;refine qt ?_;exact ⟨c,e,rfl,G⟩
def zrf:Option (List UInt32) :=
  some [1116352408,1899447441,3049323471,3921009573,961987163,1508970993,2453635748,2870763221,3624381080,310598401,607225278,1426881987,1925078388,2162078206,2614888103,3248222580,3835390401,4022224774,264347078,604807628,770255983,1249150122,1555081692,1996064986,2554220882,2821834349,2952996808,3210313671,3336571891,3584528711,113926993,338241895,666307205,773529912,1294757372,1396182291,1695183700,1986661051,2177026350,2456956037,2730485921,2820302411,3259730800,3345764771,3516065817,3600352804,4094571909,275423344,430227734,506948616,659060556,883997877,958139571,1322822218,1537002063,1747873779,1955562222,2024104815,2227730452,2361852424,2428436474,2756734187,3204031479,3329325298]
theorem zws {r:(List UInt32)} (hA:Gd F w) (H:zrf=some r):Ret Tryz.prog K 130 [] w fun v w'=>∃ (F':Frz) (a:Val),v=a∧St [] w F F' [.row tW a (r)] w':=by
 refine zra (args:=[]) Tryz.func130 rfl (by decide) rfl ?_;change C _ _ _ _ _ [] _;have hS:=St.start hA;refine ax ?_;refine xm (E_bs (t:=tW) (vs:=[.i .u32 ((1116352408:UInt32).toNat:Int),.i .u32 ((1899447441:UInt32).toNat:Int),.i .u32 ((3049323471:UInt32).toNat:Int),.i .u32 ((3921009573:UInt32).toNat:Int),.i .u32 ((961987163:UInt32).toNat:Int),.i .u32 ((1508970993:UInt32).toNat:Int),.i .u32 ((2453635748:UInt32).toNat:Int),.i .u32 ((2870763221:UInt32).toNat:Int),.i .u32 ((3624381080:UInt32).toNat:Int),.i .u32 ((310598401:UInt32).toNat:Int),.i .u32 ((607225278:UInt32).toNat:Int),.i .u32 ((1426881987:UInt32).toNat:Int),.i .u32 ((1925078388:UInt32).toNat:Int),.i .u32 ((2162078206:UInt32).toNat:Int),.i .u32 ((2614888103:UInt32).toNat:Int),.i .u32 ((3248222580:UInt32).toNat:Int),.i .u32 ((3835390401:UInt32).toNat:Int),.i .u32 ((4022224774:UInt32).toNat:Int),.i .u32 ((264347078:UInt32).toNat:Int),.i .u32 ((604807628:UInt32).toNat:Int),.i .u32 ((770255983:UInt32).toNat:Int),.i .u32 ((1249150122:UInt32).toNat:Int),.i .u32 ((1555081692:UInt32).toNat:Int),.i .u32 ((1996064986:UInt32).toNat:Int),.i .u32 ((2554220882:UInt32).toNat:Int),.i .u32 ((2821834349:UInt32).toNat:Int),.i .u32 ((2952996808:UInt32).toNat:Int),.i .u32 ((3210313671:UInt32).toNat:Int),.i .u32 ((3336571891:UInt32).toNat:Int),.i .u32 ((3584528711:UInt32).toNat:Int),.i .u32 ((113926993:UInt32).toNat:Int),.i .u32 ((338241895:UInt32).toNat:Int),.i .u32 ((666307205:UInt32).toNat:Int),.i .u32 ((773529912:UInt32).toNat:Int),.i .u32 ((1294757372:UInt32).toNat:Int),.i .u32 ((1396182291:UInt32).toNat:Int),.i .u32 ((1695183700:UInt32).toNat:Int),.i .u32 ((1986661051:UInt32).toNat:Int),.i .u32 ((2177026350:UInt32).toNat:Int),.i .u32 ((2456956037:UInt32).toNat:Int),.i .u32 ((2730485921:UInt32).toNat:Int),.i .u32 ((2820302411:UInt32).toNat:Int),.i .u32 ((3259730800:UInt32).toNat:Int),.i .u32 ((3345764771:UInt32).toNat:Int),.i .u32 ((3516065817:UInt32).toNat:Int),.i .u32 ((3600352804:UInt32).toNat:Int),.i .u32 ((4094571909:UInt32).toNat:Int),.i .u32 ((275423344:UInt32).toNat:Int),.i .u32 ((430227734:UInt32).toNat:Int),.i .u32 ((506948616:UInt32).toNat:Int),.i .u32 ((659060556:UInt32).toNat:Int),.i .u32 ((883997877:UInt32).toNat:Int),.i .u32 ((958139571:UInt32).toNat:Int),.i .u32 ((1322822218:UInt32).toNat:Int),.i .u32 ((1537002063:UInt32).toNat:Int),.i .u32 ((1747873779:UInt32).toNat:Int),.i .u32 ((1955562222:UInt32).toNat:Int),.i .u32 ((2024104815:UInt32).toNat:Int),.i .u32 ((2227730452:UInt32).toNat:Int),.i .u32 ((2361852424:UInt32).toNat:Int),.i .u32 ((2428436474:UInt32).toNat:Int),.i .u32 ((2756734187:UInt32).toNat:Int),.i .u32 ((3204031479:UInt32).toNat:Int),.i .u32 ((3329325298:UInt32).toNat:Int)]) (xs:=[(1116352408:UInt32),(1899447441:UInt32),(3049323471:UInt32),(3921009573:UInt32),(961987163:UInt32),(1508970993:UInt32),(2453635748:UInt32),(2870763221:UInt32),(3624381080:UInt32),(310598401:UInt32),(607225278:UInt32),(1426881987:UInt32),(1925078388:UInt32),(2162078206:UInt32),(2614888103:UInt32),(3248222580:UInt32),(3835390401:UInt32),(4022224774:UInt32),(264347078:UInt32),(604807628:UInt32),(770255983:UInt32),(1249150122:UInt32),(1555081692:UInt32),(1996064986:UInt32),(2554220882:UInt32),(2821834349:UInt32),(2952996808:UInt32),(3210313671:UInt32),(3336571891:UInt32),(3584528711:UInt32),(113926993:UInt32),(338241895:UInt32),(666307205:UInt32),(773529912:UInt32),(1294757372:UInt32),(1396182291:UInt32),(1695183700:UInt32),(1986661051:UInt32),(2177026350:UInt32),(2456956037:UInt32),(2730485921:UInt32),(2820302411:UInt32),(3259730800:UInt32),(3345764771:UInt32),(3516065817:UInt32),(3600352804:UInt32),(4094571909:UInt32),(275423344:UInt32),(430227734:UInt32),(506948616:UInt32),(659060556:UInt32),(883997877:UInt32),(958139571:UInt32),(1322822218:UInt32),(1537002063:UInt32),(1747873779:UInt32),(1955562222:UInt32),(2024104815:UInt32),(2227730452:UInt32),(2361852424:UInt32),(2428436474:UInt32),(2756734187:UInt32),(3204031479:UInt32),(3329325298:UInt32)]) Tryz.underlying192 Ty.row169 rfl (by exact ⟨rfl,⟨rfl,⟨rfl,⟨rfl,⟨rfl,⟨rfl,⟨rfl,⟨rfl,⟨rfl,⟨rfl,⟨rfl,⟨rfl,⟨rfl,⟨rfl,⟨rfl,⟨rfl,⟨rfl,⟨rfl,⟨rfl,⟨rfl,⟨rfl,⟨rfl,⟨rfl,⟨rfl,⟨rfl,⟨rfl,⟨rfl,⟨rfl,⟨rfl,⟨rfl,⟨rfl,⟨rfl,⟨rfl,⟨rfl,⟨rfl,⟨rfl,⟨rfl,⟨rfl,⟨rfl,⟨rfl,⟨rfl,⟨rfl,⟨rfl,⟨rfl,⟨rfl,⟨rfl,⟨rfl,⟨rfl,⟨rfl,⟨rfl,⟨rfl,⟨rfl,⟨rfl,⟨rfl,⟨rfl,⟨rfl,⟨rfl,⟨rfl,⟨rfl,⟨rfl,⟨rfl,⟨rfl,⟨rfl,⟨rfl,trivial⟩⟩⟩⟩⟩⟩⟩⟩⟩⟩⟩⟩⟩⟩⟩⟩⟩⟩⟩⟩⟩⟩⟩⟩⟩⟩⟩⟩⟩⟩⟩⟩⟩⟩⟩⟩⟩⟩⟩⟩⟩⟩⟩⟩⟩⟩⟩⟩⟩⟩⟩⟩⟩⟩⟩⟩⟩⟩⟩⟩⟩⟩⟩⟩) rfl rfl hS) ?_
 rintro c d b;refine au ?_;obtain rfl:=oi H;refine qt ?_;exact ⟨F,c,rfl,b⟩
def zfy.k2 (l11:List UInt8):Option (List UInt8) :=
  some l11
def zfy.l3 (x0:List UInt8) (d:(Int × (List UInt8))→Option (List UInt8)):(Int × (List UInt8))→Option (List UInt8)
  | (a,b) =>
    if decide (0≤a) then
      bd (shrU (wu ((wu (x0.length:Int))*2 ^ (3:Int).toNat)) (wr (8*a))) fun e =>
      bd (app (α:=UInt8) b [(toB8 e)]) fun c =>
      d (wr (a - 1),c)
    else
      zfy.k2 b
def zfy.k1 (x0:List UInt8) (l8:List UInt8):Option (List UInt8) :=
  loop (zfy.l3 x0) (7,l8)
def zfy.l4 (x0:List UInt8) (c:(List UInt8)→Option (List UInt8)):(List UInt8)→Option (List UInt8)
  | a =>
    if decide ((a.length:Int).tmod 64≠56) then
      bd (app (α:=UInt8) a [(0:UInt8)]) fun b =>
      c b
    else
      zfy.k1 x0 a
def zfy (x0:List UInt8):Option (List UInt8) :=
  bd (app (α:=UInt8) ([]:List UInt8) x0) fun l2 =>
  bd (app (α:=UInt8) l2 [(128:UInt8)]) fun l5 =>
  loop (zfy.l4 x0) l5
theorem zwt {x0:List UInt8} {r:(List UInt8)} {g:Val} (hA:Gd F w) (B:SlF tB F g x0) (H:zfy x0=some r):Ret Tryz.prog K 131 [g] w fun v w'=>∃ (F':Frz) (z:Val),v=z∧St [] w F F' [.row tB z (r)] w':=by
 refine qa1 Tryz.func131 ?_;have hS:=St.start hA;obtain ⟨l2,O,l5,R,H⟩:=bd2 H;refine ax ?_;refine xm (E_bs (t:=tB) (vs:=[]) (xs:=([]:List UInt8)) Tryz.underlying47 Ty.row5 rfl trivial rfl rfl hS) ?_;rintro u1 w1 p;refine qc ?_;refine xm (zep (t:=tB) 0 Tryz.underlying47 Ty.row5 Ty.zk47 rfl rfl p rfl (B.src p.agree) O) ?_;rintro v3 w3 I;refine xm (E_bs (t:=tB) (vs:=[.i .u8 ((128:UInt8).toNat:Int)]) (xs:=[(128:UInt8)]) Tryz.underlying47 Ty.row5 rfl ⟨rfl,trivial⟩ rfl rfl I) ?_;rintro u4 w4 y;refine xm (zep (t:=tB) 1 Tryz.underlying47 Ty.row5 Ty.zk47 rfl rfl y rfl (y.rowSrc (k:=0) rfl) R) ?_;rintro v6 w6 m;refine au ?_;refine zac (fun E wq=>∃ l8:List UInt8,zfy.k1 x0 l8=some r ∧ ∃ (a:Frz) (f:Val),E=[(0,g),(3,f)]∧F.le a∧Also m [.row tB f l8] a wq) ?_ ?_
 ·refine zfa ?_;refine zbo (fun (s:(List UInt8)) E wq=>∃ (j:Frz) (e:Val),E=[(0,g),(3,e)]∧F.le j∧Also m [.row tB e s] j wq) H ?_ ?_
  ·exact lo ⟨_,v6,rfl,lec,pk [1] m⟩
  ·rintro a2 Z E aJ hI H
   try dsimp only at hI
   obtain ⟨j,e,rfl,ar,l⟩:=hI;refine ay ?_;refine qr (zdh Tryz.underlying47 rfl (l.rowLn (k:=0) rfl)) ?_;refine qr (zbc rfl rfl (by first | rfl | simp [binV,ibin])) ?_;refine au ?_;refine qy H (fun M H=>?_) (fun M H=>?_)
   ·obtain ⟨ak,Q,H⟩:=zaj H;refine ax ?_;refine xm (E_bs (t:=tB) (vs:=[.i .u8 ((0:UInt8).toNat:Int)]) (xs:=[(0:UInt8)]) Tryz.underlying47 Ty.row5 rfl ⟨rfl,trivial⟩ rfl rfl l) ?_;rintro a5 aK x;refine xm (zep (t:=tB) 1 Tryz.underlying47 Ty.row5 Ty.zk47 rfl rfl x rfl (x.rowSrc (k:=0) rfl) Q) ?_;rintro ae aP J;refine ax ?_;exact nm H ⟨_,ae,rfl,lec,pk [1] J⟩
   ·refine zbe _ rfl ?_;exact nj ⟨Z,H,⟨_,e,rfl,lec,l⟩⟩
 ·rintro E w7 ⟨l8,H,a,f,rfl,a0,n⟩;refine aq ?_;refine qr (zgu Tryz.underlying3 Tryz.underlying194 rfl (rfl)) ?_;refine qr (zbc rfl rfl (bI_shl (by decide) (by decide))) ?_;refine au ?_;refine zac (fun E wq=>∃ l11:List UInt8,zfy.k2 l11=some r ∧ ∃ (b:Frz) (c:Val),E=[(3,c)]∧a.le b∧Also n [.row tB c l11] b wq) ?_ ?_
  ·refine ax ?_;refine zbo (fun (s:Int × (List UInt8)) E wq=>∃ (h:Frz) (d:Val),E=[(3,d),(4,.i .u64 (wu ((wu (x0.length:Int))*2 ^ (3:Int).toNat))),(5,.i .i64 s.1)]∧a.le h∧Also n [.row tB d s.2] h wq) H ?_ ?_
   ·exact lo ⟨_,f,rfl,lec,n⟩
   ·rintro a1 ⟨ai,Y⟩ E aC hI H
    try dsimp only at hI
    obtain ⟨h,d,rfl,ap,q⟩:=hI;refine ay ?_;refine qy H (fun L H=>?_) (fun L H=>?_)
    ·obtain ⟨A,V,aj,P,H⟩:=bd2 H;refine ay ?_;obtain ⟨X,S,U⟩:=shrU_some V;refine qr (zbc rfl rfl (by rw [zqy X S,← U])) ?_;refine qr (zgu Tryz.underlying194 Tryz.underlying5 rfl (i8_of _)) ?_;refine xm (E_bs (t:=tB) (vs:=[.i .u8 ((toB8 A).toNat:Int)]) (xs:=[(toB8 A)]) Tryz.underlying47 Ty.row5 rfl ⟨rfl,trivial⟩ rfl rfl q) ?_;rintro a4 aD u;refine xm (zep (t:=tB) 1 Tryz.underlying47 Ty.row5 Ty.zk47 rfl rfl u rfl (u.rowSrc (k:=0) rfl) P) ?_;rintro ad aH G;refine ax ?_;exact nm H ⟨_,ad,rfl,lec,pk [1] G⟩
    ·refine zbe _ rfl ?_;exact nj ⟨Y,H,⟨_,d,rfl,lec,q⟩⟩
  ·rintro E a9 ⟨l11,H,b,c,rfl,am,D⟩;refine aq ?_;obtain rfl:=oi H;refine qt ?_;exact ⟨b,c,rfl,D⟩
def zme.k1 (a:Int):Option Int :=
  some a
def zme.l2 (x0:List UInt8) (c:(Int × Int)→Option Int):(Int × Int)→Option Int
  | (b,a) =>
    if decide (a < (x0.length:Int)) then
      bd (ix x0 a) fun x8 =>
      c (bits .or .u64 (wu (b*2 ^ (8:Int).toNat)) (x8.toNat:Int),wr (a+1))
    else
      zme.k1 b
def zme (x0:List UInt8):Option Int :=
  loop (zme.l2 x0) (0,0)
theorem sha_high_ok {x0:List UInt8} {r:Int} {d:Val} (hA:Gd F w) (f:SlF tB F d x0) (H:zme x0=some r):Ret Tryz.prog K 132 [d] w fun v w'=>∃ (F':Frz),v = .i .u64 r∧St [] w F F' [] w':=by
 refine qa1 Tryz.func132 ?_;have hS:=St.start hA;refine aq ?_;refine aq ?_;refine zac (fun E wq=>∃ c:Int,zme.k1 c=some r ∧ ∃ (a:Frz),E=[(3,.i .u64 c)]∧F.le a∧Same hS a wq) ?_ ?_
 ·refine ax ?_;refine zbo (fun (s:Int × Int) E wq=>∃ (b:Frz),E=[(3,.i .u64 s.1),(6,d),(7,.i .i64 (x0.length:Int)),(8,.i .i64 s.2)]∧F.le b∧Same hS b wq) H ?_ ?_
  ·exact lo (jj hS)
  ·rintro p ⟨k,m⟩ E u hI H
   try dsimp only at hI
   obtain ⟨b,rfl,l,e⟩:=hI;refine ay ?_;refine qy H (fun h H=>?_) (fun h H=>?_)
   ·obtain ⟨x8,j,H⟩:=zaj H;obtain ⟨_,rfl,_⟩:=elx 1 (f.mono l) j;refine ay ?_;refine qr (zbc rfl rfl (bI_shl (by decide) (by decide))) ?_;refine qc ?_;refine qr (zgu Tryz.underlying5 Tryz.underlying194 rfl (u8_u64 _)) ?_;refine qr (zbc rfl rfl (zdk (.inr (.inl rfl)))) ?_;refine ax ?_;exact nm H (jj e)
   ·refine zbe _ rfl ?_;exact nj ⟨k,H,jj e⟩
 ·rintro E q ⟨c,H,a,rfl,n,g⟩;exact rz H g
def zch (x0:UInt32) (x1:Int):Option UInt32 :=
  bd (shlW x0 (bits .and .u64 (wu x1) 31)) fun x2 =>
  bd (shrW x0 (wu (32 - bits .and .u64 (wu x1) 31))) fun x3 =>
  some (x2 ||| x3)
theorem zcf {x0:UInt32} {x1:Int} {r:UInt32} (hA:Gd F w) (H:zch x0 x1=some r):Ret Tryz.prog K 133 [.i .u32 (x0.toNat:Int),.i .i64 x1] w fun v w'=>∃ (F':Frz),v = .i .u32 (r.toNat:Int)∧St [] w F F' [] w':=by
 refine qa2 Tryz.func133 ?_;have hS:=St.start hA;refine ax ?_;refine qr (zgu Tryz.underlying3 Tryz.underlying26 rfl (rfl)) ?_;refine qr (zbc rfl rfl (zdk (.inl rfl))) ?_;obtain ⟨x2,a,x3,b,H⟩:=bd2 H;refine ax ?_;refine qr (zbc rfl rfl (bW_shl a)) ?_;refine au ?_;refine qr (zbc rfl rfl (bW_shr b)) ?_;refine qr (zbc rfl rfl ((zdk (.inr (.inl rfl))).trans (congrArg (fun z=>some (Val.i .u32 z)) (Go.Wk.u32_or x2 x3)))) ?_;exact rz H hS
end
end Go.Wk.Lf
end
section
namespace Go.Wk.Lf
open Go.V Go.Proofs
noncomputable section
set_option maxRecDepth 100000
variable {K:Tb} {F:Frz} {w:Hp}
def zef.k2 (a:List UInt8):Option (List UInt8) :=
  some a
def zef.l3 (d:List UInt32) (c:(Int × (List UInt8))→Option (List UInt8)):(Int × (List UInt8))→Option (List UInt8)
  | (a,b) =>
    if decide (a < 32) then
      bd (ix d (wr (a.tdiv 4))) fun e =>
      bd (shrW e (wr (24 - wr (8*a.tmod 4)))) fun f =>
      bd (ix b a) fun g =>
      c (wr (a+1),(b.set a.toNat f.toUInt8))
    else
      zef.k2 b
def zef.k1 (a:List UInt32):Option (List UInt8) :=
  loop (zef.l3 a) (0,(List.replicate 32 (0:UInt8)))
def zef.k5 (a:List UInt8) (c:((List UInt8) × (List UInt32))→Option (List UInt8)) (d:List UInt32):Option (List UInt8) :=
  bd (cut (α:=UInt8) a 64 (a.length:Int)) fun b =>
  c (b,d)
def zef.l8 (c:List UInt8) (d:((List UInt8) × (List UInt32))→Option (List UInt8)) (f:List UInt32) (e:(Int × (List UInt32))→Option (List UInt8)):(Int × (List UInt32))→Option (List UInt8)
  | (a,b) =>
    if decide (a < 8) then
      bd (ix b a) fun g =>
      bd (ix f a) fun h =>
      bd (ix b a) fun i =>
      e (wr (a+1),(b.set a.toNat (g+h)))
    else
      zef.k5 c d b
def zef.k7 (a:List UInt8) (c:List UInt32) (b:((List UInt8) × (List UInt32))→Option (List UInt8)) (d:List UInt32):Option (List UInt8) :=
  loop (zef.l8 a b d) (0,c)
def zef.l9 (r:(List UInt32)) (m:List UInt8) (v:List UInt32) (s:((List UInt8) × (List UInt32))→Option (List UInt8)) (x:List UInt32) (u:(Int × (List UInt32))→Option (List UInt8)):(Int × (List UInt32))→Option (List UInt8)
  | (d,a) =>
    if decide (d < 64) then
      bd (ix a 4) fun b =>
      bd (ix a 0) fun c =>
      bd (zch b (-6)) fun e =>
      bd (zch b (-11)) fun f =>
      bd (zch b (-25)) fun g =>
      bd (ix a 7) fun h =>
      bd (ix a 5) fun i =>
      bd (ix a 6) fun j =>
      bd (ix r d) fun k =>
      bd (ix x d) fun l =>
      bd (zch c (-2)) fun n =>
      bd (zch c (-13)) fun p =>
      bd (zch c (-22)) fun q =>
      bd (ix a 1) fun y =>
      bd (ix a 2) fun z =>
      bd (ix a 1) fun A =>
      bd (ix a 2) fun B =>
      bd (ix a 1) fun D =>
      bd (ix a 2) fun G =>
      bd (ix a 3) fun I =>
      bd (ix a 5) fun J =>
      bd (ix a 6) fun L =>
      u (wr (d+1),([(((((h+((e ^^^ f) ^^^ g))+((b &&& i) ^^^ ((~~~b) &&& j)))+k)+l)+(((n ^^^ p) ^^^ q)+(((c &&& y) ^^^ (c &&& z)) ^^^ (A &&& B)))),c,D,G,(I+((((h+((e ^^^ f) ^^^ g))+((b &&& i) ^^^ ((~~~b) &&& j)))+k)+l)),b,J,L]:List UInt32))
    else
      zef.k7 m v s a
def zef.k6 (c:(List UInt32)) (b:List UInt8) (a:List UInt32) (d:((List UInt8) × (List UInt32))→Option (List UInt8)) (e:List UInt32):Option (List UInt8) :=
  loop (zef.l9 c b a d e) (0,a)
def zef.k11 (a:Int) (b:(Int × (List UInt32))→Option (List UInt8)) (c:List UInt32):Option (List UInt8) :=
  b (wr (a+1),c)
def zef.l10 (m:(List UInt32)) (e:List UInt8) (p:List UInt32) (n:((List UInt8) × (List UInt32))→Option (List UInt8)) (f:(Int × (List UInt32))→Option (List UInt8)):(Int × (List UInt32))→Option (List UInt8)
  | (a,b) =>
    if decide (a < 64) then
      if decide (a < 16) then
        bd (cut (α:=UInt8) e (wr (4*a)) (wr (wr (4*a)+4))) fun g =>
        bd (zme g) fun h =>
        bd (ix b a) fun s =>
        zef.k11 a f (b.set a.toNat (toW h))
      else
        bd (ix b (wr (a - 15))) fun c =>
        bd (ix b (wr (a - 2))) fun d =>
        bd (zch c (-7)) fun i =>
        bd (zch c (-18)) fun j =>
        bd (zch d (-17)) fun k =>
        bd (zch d (-19)) fun l =>
        bd (ix b (wr (a - 16))) fun q =>
        bd (ix b (wr (a - 7))) fun r =>
        bd (ix b a) fun u =>
        zef.k11 a f (b.set a.toNat (((q+((i ^^^ j) ^^^ (c >>> UInt32.ofNat 3)))+r)+((k ^^^ l) ^^^ (d >>> UInt32.ofNat 10))))
    else
      zef.k6 m e p n b
def zef.l4 (c:(List UInt32)) (d:((List UInt8) × (List UInt32))→Option (List UInt8)):((List UInt8) × (List UInt32))→Option (List UInt8)
  | (a,b) =>
    if decide (0 < (a.length:Int)) then
      loop (zef.l10 c a b d) (0,(List.replicate 64 (0:UInt32)))
    else
      zef.k1 b
def zef (x0:List (List UInt8)):Option (List UInt8) :=
  bd (zbh x0) fun a =>
  bd (zrf) fun c =>
  bd (zfy a) fun b =>
  loop (zef.l4 c) (b,([1779033703,3144134277,1013904242,2773480762,1359893119,2600822924,528734635,1541459225]:List UInt32))
set_option maxHeartbeats 2000000 in
theorem sha_Sum_ok {x0:List (List UInt8)} {r:(List UInt8)} {v0:Val} (hA:Gd F w) (h0:SlF (tSl tB) F v0 x0) (H:zef x0=some r):Ret Tryz.prog K 84 [v0] w fun v w'=>∃ (F':Frz),v = .agg (zam r)∧(r).length=32∧St [] w F F' [] w':=by
 refine qa1 Tryz.func84 ?_;have hS:=St.start hA;refine qs ?_;refine xm (zis (cs:=zam (List.replicate 32 (0:UInt8))) Ty.zsc rfl hS) ?_;rintro _ w1 ⟨c,rfl,br⟩;obtain ⟨r2,df,H⟩:=zaj H;refine ax ?_;refine lm (zkp br.good h0 df) ?_;rintro eF w3 ⟨em,_,rfl,b7⟩;have cm:=br.call b7;have e7:=b7.ext;refine ax ?_;refine qr (zrb (vs:=[(0,.i .u32 ((1779033703:UInt32).toNat:Int)),(1,.i .u32 ((3144134277:UInt32).toNat:Int)),(2,.i .u32 ((1013904242:UInt32).toNat:Int)),(3,.i .u32 ((2773480762:UInt32).toNat:Int)),(4,.i .u32 ((1359893119:UInt32).toNat:Int)),(5,.i .u32 ((2600822924:UInt32).toNat:Int)),(6,.i .u32 ((528734635:UInt32).toNat:Int)),(7,.i .u32 ((1541459225:UInt32).toNat:Int))]) (v:=.agg (arrC 8 cW 0 ([1779033703,3144134277,1013904242,2773480762,1359893119,2600822924,528734635,1541459225]:List UInt32))) Ty.zyb rfl rfl) ?_;refine xm (zis (cs:=arrC 8 cW 0 (List.replicate 8 (0:UInt32))) Ty.zwj rfl cm) ?_;rintro _ w4 ⟨d,rfl,ep⟩;refine sb 0 (arrC 8 cW 0 ([1779033703,3144134277,1013904242,2773480762,1359893119,2600822924,528734635,1541459225]:List UInt32)) ?_;intro w5 b2;obtain ⟨A,dh,H⟩:=zaj H;refine ax ?_;refine lm (zws b2.good dh) ?_;rintro g w7 ⟨bq,_,rfl,b8⟩;have aD:=b2.call b8;have e8:=b8.ext;refine au ?_;refine zac (fun E wq=>∃ s9:List UInt32,zef.k1 s9=some r ∧ ∃ (F8:Frz),E=[(2,pl c 0),(4,pl d 0)]∧bq.le F8∧(s9).length=8∧Also aD [.box d (arrC 8 cW 0 s9),.box c (zam (List.replicate 32 (0:UInt8)))] F8 wq) ?_ ?_
 ·obtain ⟨eB,dg,H⟩:=zaj H;refine aq ?_;refine lm (zwt (Gd.now aD.wf) (aD.rowNow (k:=2) rfl) dg) ?_;rintro ei fa ⟨en,_,rfl,cq⟩;have b1:=aD.lentFlat cq ⟨fun _ _ _ h=>row_flat (t:=tB) (fun h=>h) h,trivial⟩;refine ax ?_;refine zbo (fun (s:(List UInt8) × (List UInt32)) E wq=>∃ (P:Frz) (u:Val),E=[(2,pl c 0),(4,pl d 0),(5,g),(6,u)]∧bq.le P∧SlF tB P u s.1∧(s.2).length=8∧Also b1 [.row tW g A,.box d (arrC 8 cW 0 s.2),.box c (zam (List.replicate 32 (0:UInt8)))] P wq) H ?_ ?_
  ·obtain ⟨ek,ez,cz,ck⟩:=b1.freezeR 0 [1,2,3,4] rfl (by decide) (by decide);exact lo ⟨_,ei,rfl,lec,cz,rfl,pk [0,1,3] ck⟩
  ·rintro bl ⟨aH,B⟩ E fb hI H
   try dsimp only at hI
   obtain ⟨P,u,rfl,e0,bQ,bg,bc⟩:=hI;refine ay ?_;refine qy H (fun cw H=>?_) (fun cw H=>?_)
   ·refine qk ?_;refine zac (fun E wq=>∃ aK:List UInt32,zef.k5 aH bl aK=some r ∧ ∃ (aV:Frz),E=[(2,pl c 0),(4,pl d 0),(5,g),(6,u)]∧P.le aV∧(aK).length=8∧Also bc [.row tW g A,.box d (arrC 8 cW 0 aK),.box c (zam (List.replicate 32 (0:UInt8)))] aV wq) ?_ ?_
    ·refine ax ?_;refine xm (zis (cs:=arrC 64 cW 0 (List.replicate 64 (0:UInt32))) Ty.zwk rfl bc) ?_;rintro _ fe ⟨G,rfl,be⟩;refine qn ?_;refine zac (fun E wq=>∃ a2:List UInt32,zef.k6 A aH B bl a2=some r ∧ ∃ (aj:Frz),E=[(2,pl c 0),(4,pl d 0),(5,g),(6,u),(7,pl G 0)]∧P.le aj∧(a2).length=64∧Also be [.box G (arrC 64 cW 0 a2),.row tW g A,.box d (arrC 8 cW 0 B),.box c (zam (List.replicate 32 (0:UInt8)))] aj wq) ?_ ?_
     ·refine ax ?_;refine zbo (fun (s:Int × (List UInt32)) E wq=>∃ (a7:Frz),E=[(2,pl c 0),(4,pl d 0),(5,g),(6,u),(7,pl G 0),(35,.i .i64 s.1)]∧P.le a7∧(s.2).length=64∧Also be [.box G (arrC 64 cW 0 s.2),.row tW g A,.box d (arrC 8 cW 0 B),.box c (zam (List.replicate 32 (0:UInt8)))] a7 wq) H ?_ ?_
      ·exact lo ⟨_,rfl,lec,(List.length_replicate),be⟩
      ·rintro eg ⟨L,a1⟩ E eN hI H
       try dsimp only at hI
       obtain ⟨a7,rfl,ew,e,I⟩:=hI;refine ay ?_;refine qy H (fun cr H=>?_) (fun cr H=>?_)
       ·refine qk ?_;refine zac (fun E wq=>∃ aJ:List UInt32,zef.k11 L eg aJ=some r ∧ ∃ (aT:Frz),E=[(2,pl c 0),(4,pl d 0),(5,g),(6,u),(7,pl G 0),(35,.i .i64 L)]∧a7.le aT∧(aJ).length=64∧Also I [.box G (arrC 64 cW 0 aJ),.row tW g A,.box d (arrC 8 cW 0 B),.box c (zam (List.replicate 32 (0:UInt8)))] aT wq) ?_ ?_
        ·refine ay ?_;refine qy H (fun ct H=>?_) (fun ct H=>?_)
         ·obtain ⟨et,c2,bZ,da,H⟩:=bd2 H;obtain ⟨fs,dn,H⟩:=zaj H;refine aq ?_;refine zpe (wr (4*L)) (wr (wr (4*L)+4)) rfl rfl rfl rfl Tryz.underlying47 Ty.zlh rfl (.inr ⟨_,_,rfl,rfl⟩) (.inr ⟨_,_,rfl,rfl⟩) bQ c2 ?_;intro e9 dl;refine lp (sha_high_ok I.good (mo dl) da) I ?_;intro eP ci;refine qr (zgu Tryz.underlying194 Tryz.underlying169 rfl (toW_of _)) ?_;obtain ⟨cF,bh⟩:=zaf dn;refine qr (zed Tryz.underlying170 Ty.zca rfl rfl cF (zce e bh)) ?_;refine um (zsp (cs':=arrC 64 cW 0 (a1.set L.toNat (toW bZ))) 0 rfl rfl ci rfl rfl Ty.zca (by rw [zop,Nat.zero_add];exact (zce e bh)) (zpn e (zce e bh) _)) ?_;rintro _ eR cj;refine ax ?_;exact nj ⟨(a1.set L.toNat (toW bZ)),H,⟨_,rfl,lec,(by rw [List.length_set];exact e),cj⟩⟩
         ·refine ay ?_;obtain ⟨ai,bL,aP,bM,H⟩:=bd2 H;refine rn ?_;refine au ?_;obtain ⟨cG,dE⟩:=zaf bL;refine qr (zed Tryz.underlying170 Ty.zca rfl rfl cG (zce e dE)) ?_;obtain ⟨_,dF⟩:=zaf bL;refine qr (zdm 0 Ty.zcr rfl I rfl (by rw [Nat.zero_add];exact zdn e dF)) ?_;refine au ?_;obtain ⟨cH,dG⟩:=zaf bM;refine qr (zed Tryz.underlying170 Ty.zca rfl rfl cH (zce e dG)) ?_;obtain ⟨_,dH⟩:=zaf bM;refine qr (zdm 0 Ty.zcr rfl I rfl (by rw [Nat.zero_add];exact zdn e dH)) ?_;obtain ⟨U,db,V,dc,H⟩:=bd2 H;refine ax ?_;refine lp (zcf I.good db) I ?_;intro eT bv;refine qc ?_;refine lp (zcf bv.good dc) bv ?_;intro eU bw;refine qr (zbc rfl rfl ((zdk (.inr (.inr rfl))).trans (congrArg (fun z=>some (Val.i .u32 z)) (Go.Wk.zfp U V)))) ?_;refine qc ?_;refine qr (zbc rfl rfl ((zqy (by decide) (by decide)).trans (congrArg (fun z=>some (Val.i .u32 z)) (ztl _ _ 3 rfl (by decide))))) ?_;refine qr (zbc rfl rfl ((zdk (.inr (.inr rfl))).trans (congrArg (fun z=>some (Val.i .u32 z)) (Go.Wk.zfp (U ^^^ V) (ai >>> UInt32.ofNat 3))))) ?_;obtain ⟨ar,dd,a0,de,H⟩:=bd2 H;refine ax ?_;refine lp (zcf bw.good dd) bw ?_;intro eV bz;refine qc ?_;refine lp (zcf bz.good de) bz ?_;intro eW aC;refine qr (zbc rfl rfl ((zdk (.inr (.inr rfl))).trans (congrArg (fun z=>some (Val.i .u32 z)) (Go.Wk.zfp ar a0)))) ?_;refine qc ?_;refine qr (zbc rfl rfl ((zqy (by decide) (by decide)).trans (congrArg (fun z=>some (Val.i .u32 z)) (ztl _ _ 10 rfl (by decide))))) ?_;refine qr (zbc rfl rfl ((zdk (.inr (.inr rfl))).trans (congrArg (fun z=>some (Val.i .u32 z)) (Go.Wk.zfp (ar ^^^ a0) (aP >>> UInt32.ofNat 10))))) ?_;refine au ?_;obtain ⟨a5,bN,aR,bO,H⟩:=bd2 H;obtain ⟨ft,dq,H⟩:=zaj H;refine rf aC ?_;refine au ?_;obtain ⟨cI,dI⟩:=zaf bN;refine qr (zed Tryz.underlying170 Ty.zca rfl rfl cI (zce e dI)) ?_;obtain ⟨_,dJ⟩:=zaf bN;refine qq (zdm 0 Ty.zcr rfl aC rfl (by rw [Nat.zero_add];exact zdn e dJ)) ?_;refine qc ?_;refine qr (zbc rfl rfl (congrArg (fun z=>some (Val.i .u32 z)) (zff a5 ((U ^^^ V) ^^^ (ai >>> UInt32.ofNat 3))))) ?_
          refine au ?_;obtain ⟨cJ,dK⟩:=zaf bO;refine qr (zed Tryz.underlying170 Ty.zca rfl rfl cJ (zce e dK)) ?_;obtain ⟨_,dL⟩:=zaf bO;refine qq (zdm 0 Ty.zcr rfl aC rfl (by rw [Nat.zero_add];exact zdn e dL)) ?_;refine qr (zbc rfl rfl (congrArg (fun z=>some (Val.i .u32 z)) (zff (a5+((U ^^^ V) ^^^ (ai >>> UInt32.ofNat 3))) aR))) ?_;refine qc ?_;refine qr (zbc rfl rfl (congrArg (fun z=>some (Val.i .u32 z)) (zff ((a5+((U ^^^ V) ^^^ (ai >>> UInt32.ofNat 3)))+aR) ((ar ^^^ a0) ^^^ (aP >>> UInt32.ofNat 10))))) ?_;obtain ⟨cK,bi⟩:=zaf dq;refine qr (zed Tryz.underlying170 Ty.zca rfl rfl cK (zce e bi)) ?_;refine qu (zsp (cs':=arrC 64 cW 0 (a1.set L.toNat (((a5+((U ^^^ V) ^^^ (ai >>> UInt32.ofNat 3)))+aR)+((ar ^^^ a0) ^^^ (aP >>> UInt32.ofNat 10))))) 0 rfl rfl aC rfl rfl Ty.zca (by rw [zop,Nat.zero_add];exact (zce e bi)) (zpn e (zce e bi) _)) ?_;rintro _ eX b0;refine qw b0 ?_;refine ax ?_;exact nj ⟨(a1.set L.toNat (((a5+((U ^^^ V) ^^^ (ai >>> UInt32.ofNat 3)))+aR)+((ar ^^^ a0) ^^^ (aP >>> UInt32.ofNat 10)))),H,⟨_,rfl,lec,(by rw [List.length_set];exact e),b0⟩⟩
        ·rintro E eO ⟨aJ,H,aT,rfl,ex,c1,ch⟩;refine ax ?_;exact nm H ⟨_,rfl,lec,c1,ch⟩
       ·refine zbe _ rfl ?_;exact nj ⟨a1,H,⟨_,rfl,lec,e,I⟩⟩
     ·rintro E ff ⟨a2,H,aj,rfl,e2,bA,co⟩;refine aq ?_;refine xm (zis (cs:=arrC 8 cW 0 (List.replicate 8 (0:UInt32))) Ty.zwj rfl co) ?_;rintro _ fg ⟨Z,rfl,eq⟩;refine sb 0 (arrC 8 cW 0 B) ?_;intro fh bf;refine qn ?_;refine zac (fun E wq=>∃ a3:List UInt32,zef.k7 aH B bl a3=some r ∧ ∃ (a8:Frz),E=[(2,pl c 0),(4,pl d 0),(5,g),(6,u),(13,pl Z 0)]∧aj.le a8∧(a3).length=8∧Also bf [.box Z (arrC 8 cW 0 a3),.row tW g A,.box d (arrC 8 cW 0 B),.box c (zam (List.replicate 32 (0:UInt8)))] a8 wq) ?_ ?_
      ·refine ax ?_;refine zbo (fun (s:Int × (List UInt32)) E wq=>∃ (aY:Frz),E=[(2,pl c 0),(4,pl d 0),(5,g),(6,u),(7,pl G 0),(13,pl Z 0),(92,.i .i64 s.1)]∧aj.le aY∧(s.2).length=8∧Also bf [.box Z (arrC 8 cW 0 s.2),.box G (arrC 64 cW 0 a2),.row tW g A,.box d (arrC 8 cW 0 B),.box c (zam (List.replicate 32 (0:UInt8)))] aY wq) H ?_ ?_
       ·exact lo ⟨_,rfl,lec,bg,bf⟩
       ·rintro eE ⟨er,eh⟩ E fm hI H
        try dsimp only at hI
        obtain ⟨aY,rfl,e5,b,ap⟩:=hI;refine ay ?_;refine qy H (fun cy H=>?_) (fun cy H=>?_)
        ·refine ay ?_;obtain ⟨a,bT,f,bU,H⟩:=bd2 H;refine rn ?_;obtain ⟨cQ,dS⟩:=zaf bT;refine qr (zed Tryz.underlying172 Ty.zca rfl rfl cQ (zce b dS)) ?_;obtain ⟨_,dT⟩:=zaf bT;refine qr (zdm 0 Ty.zcr rfl ap rfl (by rw [Nat.zero_add];exact zdn b dT)) ?_;obtain ⟨cR,dU⟩:=zaf bU;refine qr (zed Tryz.underlying172 Ty.zca rfl rfl cR (zce b dU)) ?_;obtain ⟨_,dV⟩:=zaf bU;refine qr (zdm 0 Ty.zcr rfl ap rfl (by rw [Nat.zero_add];exact zdn b dV)) ?_;obtain ⟨j,di,l,dj,H⟩:=bd2 H;obtain ⟨m,dk,H⟩:=zaj H;refine ax ?_;refine lp (zcf ap.good di) ap ?_;intro fp b5;refine qc ?_;refine lp (zcf b5.good dj) b5 ?_;intro fq b6;refine qr (zbc rfl rfl ((zdk (.inr (.inr rfl))).trans (congrArg (fun z=>some (Val.i .u32 z)) (Go.Wk.zfp j l)))) ?_;refine qc ?_;refine lp (zcf b6.good dk) b6 ?_;intro fr Q;refine qr (zbc rfl rfl ((zdk (.inr (.inr rfl))).trans (congrArg (fun z=>some (Val.i .u32 z)) (Go.Wk.zfp (j ^^^ l) m)))) ?_;refine ay ?_;obtain ⟨q,bV,n,bW,H⟩:=bd2 H;obtain ⟨p,bX,x,du,H⟩:=bd2 H;obtain ⟨D,bY,H⟩:=zaj H;refine rn ?_;obtain ⟨cS,dW⟩:=zaf bV;refine qr (zed Tryz.underlying172 Ty.zca rfl rfl cS (zce b dW)) ?_;obtain ⟨_,dX⟩:=zaf bV;refine qr (zdm 0 Ty.zcr rfl Q rfl (by rw [Nat.zero_add];exact zdn b dX)) ?_;refine qc ?_;refine qr (zbc rfl rfl (congrArg (fun z=>some (Val.i .u32 z)) (zff q ((j ^^^ l) ^^^ m)))) ?_;refine qc ?_;obtain ⟨cT,dY⟩:=zaf bW;refine qr (zed Tryz.underlying172 Ty.zca rfl rfl cT (zce b dY)) ?_;obtain ⟨_,dZ⟩:=zaf bW;refine qr (zdm 0 Ty.zcr rfl Q rfl (by rw [Nat.zero_add];exact zdn b dZ)) ?_;refine qr (zbc rfl rfl ((zdk (.inl rfl)).trans (congrArg (fun z=>some (Val.i .u32 z)) (Go.Wk.zlf a n)))) ?_;refine qc ?_;refine qr (O_un rfl (uW_not a)) ?_;obtain ⟨cU,ea⟩:=zaf bX;refine qr (zed Tryz.underlying172 Ty.zca rfl rfl cU (zce b ea)) ?_;obtain ⟨_,eb⟩:=zaf bX;refine qr (zdm 0 Ty.zcr rfl Q rfl (by rw [Nat.zero_add];exact zdn b eb)) ?_;refine qr (zbc rfl rfl ((zdk (.inl rfl)).trans (congrArg (fun z=>some (Val.i .u32 z)) (Go.Wk.zlf (~~~a) p)))) ?_
         refine qr (zbc rfl rfl ((zdk (.inr (.inr rfl))).trans (congrArg (fun z=>some (Val.i .u32 z)) (Go.Wk.zfp (a &&& n) ((~~~a) &&& p))))) ?_;refine qr (zbc rfl rfl (congrArg (fun z=>some (Val.i .u32 z)) (zff (q+((j ^^^ l) ^^^ m)) ((a &&& n) ^^^ ((~~~a) &&& p))))) ?_;obtain ⟨_,rfl,_⟩:=elr 1 2 Q du;refine au ?_;refine qr (zbc rfl rfl (congrArg (fun z=>some (Val.i .u32 z)) (zff ((q+((j ^^^ l) ^^^ m))+((a &&& n) ^^^ ((~~~a) &&& p))) x))) ?_;refine qc ?_;obtain ⟨cV,ec⟩:=zaf bY;refine qr (zed Tryz.underlying170 Ty.zca rfl rfl cV (zce bA ec)) ?_;obtain ⟨_,dv⟩:=zaf bY;refine qr (zdm 1 Ty.zcr rfl Q rfl (by rw [Nat.zero_add];exact zdn bA dv)) ?_;refine qr (zbc rfl rfl (congrArg (fun z=>some (Val.i .u32 z)) (zff (((q+((j ^^^ l) ^^^ m))+((a &&& n) ^^^ ((~~~a) &&& p)))+x) D))) ?_;obtain ⟨R,cX,S,cY,H⟩:=bd2 H;obtain ⟨ae,cZ,H⟩:=zaj H;refine ax ?_;refine lp (zcf Q.good cX) Q ?_;intro eH bs;refine qc ?_;refine lp (zcf bs.good cY) bs ?_;intro eI bt;refine qr (zbc rfl rfl ((zdk (.inr (.inr rfl))).trans (congrArg (fun z=>some (Val.i .u32 z)) (Go.Wk.zfp R S)))) ?_;refine qc ?_;refine lp (zcf bt.good cZ) bt ?_;intro eJ y;refine qr (zbc rfl rfl ((zdk (.inr (.inr rfl))).trans (congrArg (fun z=>some (Val.i .u32 z)) (Go.Wk.zfp (R ^^^ S) ae)))) ?_;obtain ⟨M,bC,O,bD,H⟩:=bd2 H;obtain ⟨X,bE,Y,bF,H⟩:=bd2 H;refine ax ?_;obtain ⟨c5,dw⟩:=zaf bC;refine qr (zed Tryz.underlying172 Ty.zca rfl rfl c5 (zce b dw)) ?_;obtain ⟨_,dx⟩:=zaf bC;refine qr (zdm 0 Ty.zcr rfl y rfl (by rw [Nat.zero_add];exact zdn b dx)) ?_;refine qr (zbc rfl rfl ((zdk (.inl rfl)).trans (congrArg (fun z=>some (Val.i .u32 z)) (Go.Wk.zlf f M)))) ?_;refine qc ?_;obtain ⟨c6,dy⟩:=zaf bD;refine qr (zed Tryz.underlying172 Ty.zca rfl rfl c6 (zce b dy)) ?_;obtain ⟨_,dz⟩:=zaf bD;refine qr (zdm 0 Ty.zcr rfl y rfl (by rw [Nat.zero_add];exact zdn b dz)) ?_;refine qr (zbc rfl rfl ((zdk (.inl rfl)).trans (congrArg (fun z=>some (Val.i .u32 z)) (Go.Wk.zlf f O)))) ?_
         refine qr (zbc rfl rfl ((zdk (.inr (.inr rfl))).trans (congrArg (fun z=>some (Val.i .u32 z)) (Go.Wk.zfp (f &&& M) (f &&& O))))) ?_;obtain ⟨c7,d0⟩:=zaf bE;refine qr (zed Tryz.underlying172 Ty.zca rfl rfl c7 (zce b d0)) ?_;obtain ⟨_,d1⟩:=zaf bE;refine qr (zdm 0 Ty.zcr rfl y rfl (by rw [Nat.zero_add];exact zdn b d1)) ?_;obtain ⟨c8,d2⟩:=zaf bF;refine qr (zed Tryz.underlying172 Ty.zca rfl rfl c8 (zce b d2)) ?_;obtain ⟨_,d3⟩:=zaf bF;refine qr (zdm 0 Ty.zcr rfl y rfl (by rw [Nat.zero_add];exact zdn b d3)) ?_;refine qr (zbc rfl rfl ((zdk (.inl rfl)).trans (congrArg (fun z=>some (Val.i .u32 z)) (Go.Wk.zlf X Y)))) ?_;refine qr (zbc rfl rfl ((zdk (.inr (.inr rfl))).trans (congrArg (fun z=>some (Val.i .u32 z)) (Go.Wk.zfp ((f &&& M) ^^^ (f &&& O)) (X &&& Y))))) ?_;refine qr (zbc rfl rfl (congrArg (fun z=>some (Val.i .u32 z)) (zff ((R ^^^ S) ^^^ ae) (((f &&& M) ^^^ (f &&& O)) ^^^ (X &&& Y))))) ?_;obtain ⟨bm,bG,bn,bH,H⟩:=bd2 H;obtain ⟨aO,bI,bo,bJ,H⟩:=bd2 H;obtain ⟨bp,bK,H⟩:=zaj H;refine ax ?_;refine qr (zbc rfl rfl (congrArg (fun z=>some (Val.i .u32 z)) (zff ((((q+((j ^^^ l) ^^^ m))+((a &&& n) ^^^ ((~~~a) &&& p)))+x)+D) (((R ^^^ S) ^^^ ae)+(((f &&& M) ^^^ (f &&& O)) ^^^ (X &&& Y)))))) ?_;refine qc ?_;obtain ⟨c9,d4⟩:=zaf bG;refine qr (zed Tryz.underlying172 Ty.zca rfl rfl c9 (zce b d4)) ?_;obtain ⟨_,d5⟩:=zaf bG;refine qr (zdm 0 Ty.zcr rfl y rfl (by rw [Nat.zero_add];exact zdn b d5)) ?_;obtain ⟨cA,d6⟩:=zaf bH;refine qr (zed Tryz.underlying172 Ty.zca rfl rfl cA (zce b d6)) ?_;obtain ⟨_,d7⟩:=zaf bH;refine qr (zdm 0 Ty.zcr rfl y rfl (by rw [Nat.zero_add];exact zdn b d7)) ?_;obtain ⟨cC,d8⟩:=zaf bI;refine qr (zed Tryz.underlying172 Ty.zca rfl rfl cC (zce b d8)) ?_;obtain ⟨_,d9⟩:=zaf bI;refine qr (zdm 0 Ty.zcr rfl y rfl (by rw [Nat.zero_add];exact zdn b d9)) ?_;refine qc ?_;refine qr (zbc rfl rfl (congrArg (fun z=>some (Val.i .u32 z)) (zff aO ((((q+((j ^^^ l) ^^^ m))+((a &&& n) ^^^ ((~~~a) &&& p)))+x)+D)))) ?_
         refine qc ?_;obtain ⟨cD,dA⟩:=zaf bJ;refine qr (zed Tryz.underlying172 Ty.zca rfl rfl cD (zce b dA)) ?_;obtain ⟨_,dB⟩:=zaf bJ;refine qr (zdm 0 Ty.zcr rfl y rfl (by rw [Nat.zero_add];exact zdn b dB)) ?_;obtain ⟨cE,dC⟩:=zaf bK;refine qr (zed Tryz.underlying172 Ty.zca rfl rfl cE (zce b dC)) ?_;obtain ⟨_,dD⟩:=zaf bK;refine qr (zdm 0 Ty.zcr rfl y rfl (by rw [Nat.zero_add];exact zdn b dD)) ?_;refine qr (zrb (vs:=[(0,.i .u32 ((((((q+((j ^^^ l) ^^^ m))+((a &&& n) ^^^ ((~~~a) &&& p)))+x)+D)+(((R ^^^ S) ^^^ ae)+(((f &&& M) ^^^ (f &&& O)) ^^^ (X &&& Y)))).toNat:Int)),(1,.i .u32 (f.toNat:Int)),(2,.i .u32 (bm.toNat:Int)),(3,.i .u32 (bn.toNat:Int)),(4,.i .u32 ((aO+((((q+((j ^^^ l) ^^^ m))+((a &&& n) ^^^ ((~~~a) &&& p)))+x)+D)).toNat:Int)),(5,.i .u32 (a.toNat:Int)),(6,.i .u32 (bo.toNat:Int)),(7,.i .u32 (bp.toNat:Int))]) (v:=.agg (arrC 8 cW 0 ([(((((q+((j ^^^ l) ^^^ m))+((a &&& n) ^^^ ((~~~a) &&& p)))+x)+D)+(((R ^^^ S) ^^^ ae)+(((f &&& M) ^^^ (f &&& O)) ^^^ (X &&& Y)))),f,bm,bn,(aO+((((q+((j ^^^ l) ^^^ m))+((a &&& n) ^^^ ((~~~a) &&& p)))+x)+D)),a,bo,bp]:List UInt32))) Ty.zyb rfl rfl) ?_;refine sb 0 (arrC 8 cW 0 ([(((((q+((j ^^^ l) ^^^ m))+((a &&& n) ^^^ ((~~~a) &&& p)))+x)+D)+(((R ^^^ S) ^^^ ae)+(((f &&& M) ^^^ (f &&& O)) ^^^ (X &&& Y)))),f,bm,bn,(aO+((((q+((j ^^^ l) ^^^ m))+((a &&& n) ^^^ ((~~~a) &&& p)))+x)+D)),a,bo,bp]:List UInt32)) ?_;intro eM cg;refine ax ?_;exact nm H ⟨_,rfl,lec,rfl,cg⟩
        ·refine zbe _ rfl ?_;exact nj ⟨eh,H,⟨_,rfl,lec,b,pk [0,2,3,4] ap⟩⟩
      ·rintro E fj ⟨a3,H,a8,rfl,e3,bB,b3⟩;refine ax ?_;refine zbo (fun (s:Int × (List UInt32)) E wq=>∃ (aX:Frz),E=[(2,pl c 0),(4,pl d 0),(5,g),(6,u),(13,pl Z 0),(175,.i .i64 s.1)]∧a8.le aX∧(s.2).length=8∧Also b3 [.box Z (arrC 8 cW 0 a3),.row tW g A,.box d (arrC 8 cW 0 s.2),.box c (zam (List.replicate 32 (0:UInt8)))] aX wq) H ?_ ?_
       ·exact lo ⟨_,rfl,lec,bg,b3⟩
       ·rintro eD ⟨ee,cb⟩ E fk hI H
        try dsimp only at hI
        obtain ⟨aX,rfl,e4,J,am⟩:=hI;refine ay ?_;refine qy H (fun cx H=>?_) (fun cx H=>?_)
        ·refine ay ?_;obtain ⟨cd,bR,ce,bS,H⟩:=bd2 H;obtain ⟨fw,dt,H⟩:=zaj H;refine rf am ?_;refine qc ?_;obtain ⟨cN,dO⟩:=zaf bR;refine qr (zed Tryz.underlying172 Ty.zca rfl rfl cN (zce J dO)) ?_;obtain ⟨_,dP⟩:=zaf bR;refine qq (zdm 2 Ty.zcr rfl am rfl (by rw [Nat.zero_add];exact zdn J dP)) ?_;refine qc ?_;obtain ⟨cO,dQ⟩:=zaf bS;refine qr (zed Tryz.underlying172 Ty.zca rfl rfl cO (zce bB dQ)) ?_;obtain ⟨_,dR⟩:=zaf bS;refine qq (zdm 0 Ty.zcr rfl am rfl (by rw [Nat.zero_add];exact zdn bB dR)) ?_;refine qr (zbc rfl rfl (congrArg (fun z=>some (Val.i .u32 z)) (zff cd ce))) ?_;obtain ⟨cP,bk⟩:=zaf dt;refine qr (zed Tryz.underlying172 Ty.zca rfl rfl cP (zce J bk)) ?_;refine qu (zsp (cs':=arrC 8 cW 0 (cb.set ee.toNat (cd+ce))) 2 rfl rfl am rfl rfl Ty.zca (by rw [zop,Nat.zero_add];exact (zce J bk)) (zpn J (zce J bk) _)) ?_;rintro _ fl b4;refine qw b4 ?_;refine ax ?_;exact nm H ⟨_,rfl,lec,(by rw [List.length_set];exact J),b4⟩
        ·refine ax ?_;exact nj ⟨cb,H,⟨_,rfl,lec,J,pk [1,2,3] am⟩⟩
    ·rintro E fc ⟨aK,H,aV,rfl,e1,c3,cn⟩;obtain ⟨eu,c4,H⟩:=zaj H;refine ax ?_;refine zpe 64 (aH.length:Int) rfl rfl rfl rfl Tryz.underlying47 Ty.zlh rfl (.inr ⟨_,_,rfl,rfl⟩) (.inl ⟨rfl,rfl⟩) bQ c4 ?_;intro ef dm;refine ax ?_;exact nm H ⟨_,ef,rfl,lec,(mo dm),c3,cn⟩
   ·refine zbe _ rfl ?_;exact nj ⟨B,H,⟨_,rfl,lec,bg,pk [1,2] bc⟩⟩
 ·rintro E w8 ⟨s9,H,F8,rfl,e6,b9,cp⟩;refine qs ?_;refine xm (zis (cs:=zam (List.replicate 32 (0:UInt8))) Ty.zsc rfl cp) ?_;rintro _ eK ⟨a9,rfl,ba⟩;refine qn ?_;refine zac (fun E wq=>∃ ah:List UInt8,zef.k2 ah=some r ∧ ∃ (a6:Frz),E=[(2,pl c 0),(22,pl a9 0)]∧F8.le a6∧(ah).length=32∧Also ba [.box a9 (zam ah),.box c (zam (List.replicate 32 (0:UInt8)))] a6 wq) ?_ ?_
  ·refine ax ?_;refine zbo (fun (s:Int × (List UInt8)) E wq=>∃ (aU:Frz),E=[(2,pl c 0),(4,pl d 0),(22,pl a9 0),(187,.i .i64 s.1)]∧F8.le aU∧(s.2).length=32∧Also ba [.box a9 (zam s.2),.box d (arrC 8 cW 0 s9),.box c (zam (List.replicate 32 (0:UInt8)))] aU wq) H ?_ ?_
   ·exact lo ⟨_,rfl,lec,(List.length_replicate),ba⟩
   ·rintro eC ⟨ed,ca⟩ E eS hI H
    try dsimp only at hI
    obtain ⟨aU,rfl,ey,ad,bb⟩:=hI;refine ay ?_;refine qy H (fun cu H=>?_) (fun cu H=>?_)
    ·obtain ⟨fu,bP,ej,dr,H⟩:=bd2 H;obtain ⟨fv,ds,H⟩:=zaj H;refine ay ?_;refine qr (zbc rfl rfl (by first | rfl | simp [binV,ibin])) ?_;obtain ⟨cL,dM⟩:=zaf bP;refine qr (zed Tryz.underlying172 Ty.zca rfl rfl cL (zce b9 dM)) ?_;obtain ⟨_,dN⟩:=zaf bP;refine qr (zdm 1 Ty.zcr rfl bb rfl (by rw [Nat.zero_add];exact zdn b9 dN)) ?_;refine qc ?_;refine qr (zbc rfl rfl (by first | rfl | simp [binV,ibin])) ?_;refine au ?_;refine qr (zbc rfl rfl (bW_shr dr)) ?_;refine qr (zgu Tryz.underlying169 Tryz.underlying5 rfl (u32_u8 _)) ?_;obtain ⟨cM,bj⟩:=zaf ds;refine qr (zed Tryz.underlying58 Ty.zlh rfl rfl cM (zce ad bj)) ?_;refine um (zsp (cs':=zam (ca.set ed.toNat ej.toUInt8)) 0 rfl rfl bb rfl rfl Ty.zlh (by rw [zhb,Nat.zero_add];exact (zce ad bj)) (id_put ad (zce ad bj) _)) ?_;rintro _ eY cl;refine ax ?_;exact nm H ⟨_,rfl,lec,(by rw [List.length_set];exact ad),cl⟩
    ·refine zbe _ rfl ?_;exact nj ⟨ca,H,⟨_,rfl,lec,ad,pk [0,2] bb⟩⟩
  ·rintro E eL ⟨ah,H,a6,rfl,ev,c0,eo⟩;refine aq ?_;refine sb 1 (zam ah) ?_;intro eQ bu;refine qn ?_;obtain rfl:=oi H;refine zgb (vs:=[.agg (zam ah)]) rfl ⟨(zeo 1 Ty.ziu Ty.zfq bu rfl rfl),trivial⟩ ?_;exact ⟨a6,rfl,c0,bu.pick [] (by decide)⟩
def zgm.k1:Option (List Snap) :=
  some []
def zgm.l2 (x0:Catalog) (a:Unit→Option (List Snap)):Unit→Option (List Snap)
  | () =>
    if decide (0 < (x0.snaps.length:Int)) then
      none
    else
      zgm.k1
def zgm (x0:Catalog):Option (List Snap) :=
  loop (zgm.l2 x0) ()
theorem zst {X:List Nat} {x0:Catalog} {r:(List Snap)} {a:Val} {b:Val} {c:Val} {d:Val} (hS:St X w F F [.row Snap.t a x0.snaps,.row Chunk.t b x0.chunks,.row Exp.t c x0.exps,.row Vol.t d x0.vols] w) (H:zgm x0=some r):Ret Tryz.prog K 46 [.agg (Catalog.cells x0 a b c d)] w fun v w'=>∃ (F':Frz) (g:Val),v=g∧St X w F F' [.row Snap.t g (r),.row Snap.t a x0.snaps,.row Chunk.t b x0.chunks,.row Exp.t c x0.exps,.row Vol.t d x0.vols] w':=by
 refine qa1 Tryz.func46 ?_;refine qs ?_;refine bx ([.i .i64 x0.seq,a,b,c,d]) ?_;intro j y e;refine au ?_;refine aq ?_;refine zac (jO (zgm.k1=some r) [(3,.sl none 0 (.k 0))] e [.row Snap.t a x0.snaps,.row Chunk.t b x0.chunks,.row Exp.t c x0.exps,.row Vol.t d x0.vols]) ?_ ?_
 ·refine aq ?_;refine qr (zdh Tryz.underlying34 rfl (e.rowLn (k:=1) rfl)) ?_;refine ax ?_;refine zbo (fun (s:Unit) E wq=>∃ (f:Frz),E=[(1,pl j 0),(3,.sl none 0 (.k 0)),(7,a),(8,.i .i64 (x0.snaps.length:Int)),(9,.i .i64 0)]∧F.le f∧Same e f wq) H ?_ ?_
  ·exact lo (jj e)
  ·rintro x _ E A hI H
   try dsimp only at hI
   obtain ⟨f,rfl,u,n⟩:=hI;refine ay ?_;refine qy H (fun p H=>?_) (fun p H=>?_)
   ·
    cases H
   ·refine zbe _ rfl ?_;exact nj ⟨H,jj (pk [1,2,3,4] n)⟩
 ·rintro E z ⟨H,h,rfl,q,l⟩;refine aq ?_;have m:=l.nilRow Snap.t;obtain rfl:=oi H;refine qt ?_;exact ⟨h,(.sl none 0 (.k 0)),rfl,m⟩
def zat.k1 (x0:List Loc):Option (List Loc) :=
  some x0
def zat.k3 (a:Int) (b:Int→Option (List Loc)):Option (List Loc) :=
  b (wr (a+1))
def zat.k4 (a:Int) (l19:List Loc):Option (List Loc) :=
  bd (cut (α:=Loc) l19 a (l19.length:Int)) fun l20 =>
  bd (clr l19 a.toNat ((l19.length:Int).toNat - a.toNat) (Loc.mk 0 0 0 0)) fun b =>
  bd (cut (α:=Loc) b 0 a) fun c =>
  bd (nz b) fun _ =>
  some c
def zat.k6 (a:Int) (d:(Int × Int × (List Loc))→Option (List Loc)) (b:Int) (c:List Loc):Option (List Loc) :=
  d (b,wr (a+1),c)
def zat.l5 (x0:List Loc) (a:Int) (e:(Int × Int × (List Loc))→Option (List Loc)):(Int × Int × (List Loc))→Option (List Loc)
  | (d,c,b) =>
    if decide (c < (((x0.length:Int).toNat - a.toNat:Nat):Int)) then
      bd (ixp b a.toNat ((x0.length:Int).toNat - a.toNat) c) fun f =>
      bd (ixp b a.toNat ((x0.length:Int).toNat - a.toNat) (wr (c - 1))) fun g =>
      if (!decide (f=g)) then
        bd (ixp b a.toNat ((x0.length:Int).toNat - a.toNat) c) fun h =>
        bd (ix b d) fun i =>
        zat.k6 c e (wr (d+1)) (b.set d.toNat h)
      else
        zat.k6 c e d b
    else
      zat.k4 d b
def zat.l2 (x0:List Loc) (b:Int→Option (List Loc)):Int→Option (List Loc)
  | a =>
    if decide (a < (x0.length:Int)) then
      bd (ix x0 a) fun x8 =>
      bd (ix x0 (wr (a - 1))) fun c =>
      if decide (x8=c) then
        bd (cut (α:=Loc) x0 a (x0.length:Int)) fun d =>
        loop (zat.l5 x0 a) (a,1,x0)
      else
        zat.k3 a b
    else
      zat.k1 x0
def zat (x0:List Loc):Option (List Loc) :=
  if decide ((x0.length:Int) < 2) then
    some x0
  else
    loop (zat.l2 x0) 1
theorem zif {x0:List Loc} {r:(List Loc)} {a:Val} (hS:St a.own w F F [.row Loc.t a x0] w) (H:zat x0=some r):Ret Tryz.prog K 101 [a] w fun v w'=>∃ (F':Frz) (L:Val),v=L∧St a.own w F F' [.row Loc.t L (r)] w':=by
 refine qa1 Tryz.func101 ?_;refine ay ?_;refine qr (zdh Tryz.underlying44 rfl (hS.rowLn (k:=0) rfl)) ?_;refine au ?_;refine qy H (fun V H=>?_) (fun V H=>?_)
 ·refine aq ?_;obtain rfl:=oi H;refine qt ?_;exact ⟨F,a,rfl,hS⟩
 ·refine qk ?_;refine zac (jN (zat.k1 x0=some r) [(0,a)] hS) ?_ ?_
  ·refine ax ?_;refine lj hS (fun s:Int=>[(0,a),(3,.i .i64 s)]) H ?_;intro aU x A w3 bq b H;refine ay ?_;refine qr (zdh Tryz.underlying44 rfl (b.rowLn (k:=0) rfl)) ?_;refine au ?_;refine qy H (fun ad H=>?_) (fun ad H=>?_)
   ·refine qk ?_;refine zac (jN (zat.k3 x aU=some r) [(0,a),(3,.i .i64 x)] b) ?_ ?_
    ·refine ay ?_;obtain ⟨x8,aC,b4,a6,H⟩:=bd2 H;refine rn ?_;obtain ⟨_,rfl,bf⟩:=elr 4 0 b aC;obtain ⟨_,rfl,bg⟩:=elr 4 0 b a6;refine au ?_;refine qr (zbc rfl rfl (zuz Ty.eqt51 rfl rfl (Loc.eqc _ _))) ?_;refine qn ?_;refine qy H (fun X H=>?_) (fun X H=>?_)
     ·obtain ⟨bk,aj,H⟩:=zaj H;refine aq ?_;refine zlb 0 x (x0.length:Int) rfl rfl rfl rfl Tryz.underlying44 Ty.zhu rfl (.inr ⟨_,_,rfl,rfl⟩) (.inl ⟨rfl,rfl⟩) b rfl aj ?_;intro M bh q;refine au ?_;refine zac (fun E wq=>∃ j:Int,∃ l19:List Loc,zat.k4 j l19=some r ∧ ∃ (m:Frz),E=[(0,a),(3,.i .i64 j)]∧A.le m∧Also b [.row Loc.t a l19] m wq) ?_ ?_
      ·refine ax ?_;refine zbo (fun (s:Int × Int × (List Loc)) E wq=>∃ (n:Frz),E=[(0,a),(3,.i .i64 s.1),(4,M),(5,.i .i64 s.2.1)]∧A.le n∧Also b [.row Loc.t a s.2.2] n wq) H ?_ ?_
       ·exact lo (jj b)
       ·rintro aT ⟨l,J,y⟩ E bz hI H
        try dsimp only at hI
        obtain ⟨n,rfl,bp,d⟩:=hI;refine ay ?_;refine qy H (fun Y H=>?_) (fun Y H=>?_)
        ·refine qk ?_;refine zac (fun E wq=>∃ u:Int,∃ z:List Loc,zat.k6 J aT u z=some r ∧ ∃ (p:Frz),E=[(0,a),(3,.i .i64 u),(4,M),(5,.i .i64 J)]∧n.le p∧Also d [.row Loc.t a z] p wq) ?_ ?_
         ·refine ay ?_;obtain ⟨aV,a7,aX,a8,H⟩:=bd2 H;refine rn ?_;refine au ?_;obtain ⟨ap,aK,aD⟩:=zxk a7;obtain ⟨bb,a1,f⟩:=d.rowAt (k:=0) rfl aD;obtain rfl:=a1;replace f:=f.piece q aK;replace f:=qj 4 f;have ae:=f.ixd;refine qi Tryz.underlying44 Ty.zhu ae ap ?_;refine qr (zoj 0 (Loc.cells aV) Ty.ztb Ty.zhu rfl f (by first | omega | rfl) rfl (Nat.le_of_ble_eq_true rfl)) ?_;refine au ?_;obtain ⟨ar,aO,aH⟩:=zxk a8;obtain ⟨bc,a2,g⟩:=d.rowAt (k:=0) rfl aH;obtain rfl:=a2;replace g:=g.piece q aO;replace g:=qj 4 g;have ah:=g.ixd;refine qi Tryz.underlying44 Ty.zhu ah ar ?_;refine qr (zoj 0 (Loc.cells aX) Ty.ztb Ty.zhu rfl g (by first | omega | rfl) rfl (Nat.le_of_ble_eq_true rfl)) ?_;refine qr (zbc rfl rfl (bA_neq Ty.eqt51 rfl rfl (Loc.eqc _ _))) ?_;refine qn ?_;refine qy H (fun Z H=>?_) (fun Z H=>?_)
          ·obtain ⟨e,a9,aY,I,H⟩:=bd2 H;refine aq ?_;obtain ⟨a0,aP,aJ⟩:=zxk a9;obtain ⟨be,a3,h⟩:=d.rowAt (k:=0) rfl aJ;obtain rfl:=a3;replace h:=h.piece q aP;replace h:=qj 4 h;have ai:=h.ixd;refine qi Tryz.underlying44 Ty.zhu ai a0 ?_;refine qr (zoj 0 (Loc.cells e) Ty.ztb Ty.zhu rfl h (by first | omega | rfl) rfl (Nat.le_of_ble_eq_true rfl)) ?_;obtain ⟨_,rfl,_⟩:=elr 4 0 d I;refine au ?_;refine um (ziv (c:=[.i .i64 e.vol,.i .i64 e.file,.i .i64 e.off,.i .i64 e.len]) 0 (l.toNat) 0 aY e rfl rfl d rfl (zaf I).2 (by first | rfl | (show _=_*4+_;omega)) rfl Ty.zhu rfl (Nat.le_of_ble_eq_true rfl) (by rintro cs rfl;rfl)) ?_;rintro _ b2 S;refine ax ?_;exact nj ⟨wr (l+1),(y.set l.toNat e),H,jj S⟩
          ·refine ax ?_;exact nj ⟨l,y,H,jj d⟩
         ·rintro E b1 ⟨u,z,H,p,rfl,br,R⟩;refine ax ?_;exact nm H (jj R)
        ·refine zbe _ rfl ?_;exact nj ⟨l,y,H,jj d⟩
      ·rintro E bu ⟨j,l19,H,m,rfl,bn,B⟩;obtain ⟨l20,ak,bl,am,H⟩:=bd2 H;refine aq ?_;refine zlb 0 j (l19.length:Int) rfl rfl rfl rfl Tryz.underlying44 Ty.zhu rfl (.inr ⟨_,_,rfl,rfl⟩) (.inl ⟨rfl,rfl⟩) B rfl ak ?_;intro bt bi a4;refine um (E_clr (tr:=Loc.t) (x0:=(Loc.mk 0 0 0 0)) 0 Tryz.underlying44 Ty.zero51 rfl rfl B rfl a4 am) ?_;rintro _ bw D;obtain ⟨bm,G,H⟩:=zaj H;refine ax ?_;refine zlb 0 0 j rfl rfl rfl rfl Tryz.underlying44 Ty.zhu rfl (.inl ⟨rfl,rfl⟩) (.inr ⟨_,_,rfl,rfl⟩) D rfl G ?_;intro aR bj a5;refine au ?_;obtain ⟨_,hnz26,H⟩:=zaj H;have Q:=D.shrink 0 rfl a5 G hnz26;obtain rfl:=oi H;refine qt ?_;exact ⟨m,aR,rfl,Q⟩
     ·refine ax ?_;exact nj ⟨H,jj b⟩
    ·rintro E w7 ⟨H,F7,rfl,bs,U⟩;refine ax ?_;exact nm H (jj U)
   ·refine zbe _ rfl ?_;exact nj ⟨H,jj b⟩
  ·rintro E w2 ⟨H,O,rfl,bo,P⟩;refine aq ?_;obtain rfl:=oi H;refine qt ?_;exact ⟨O,a,rfl,P⟩
end
end Go.Wk.Lf
end
section
namespace Go.Wk.Lf
open Go.V Go.Proofs
open Go.V Go.Proofs Go.Sort
abbrev KK:Tb:=fun f args h M=>KSort Tryz.prog KNone 99 4 f args h M∨KSort Tryz.prog (KExt Tryz.prog) 168 32 f args h M∨KExt Tryz.prog f args h M∨KLap Tryz.prog f args h M∨zwh Tryz.prog (KLap Tryz.prog) 86 f args h M∨zwh Tryz.prog (KLap Tryz.prog) 91 f args h M∨zwh Tryz.prog (KLap Tryz.prog) 95 f args h M
instance : Kn (KExt Tryz.prog) KK := ⟨fun _ _ _ _ h => .inr (.inr (.inl h))⟩
theorem kk_lap:∀ f args h M,KLap Tryz.prog f args h M→KK f args h M:=fun _ _ _ _ h=>.inr (.inr (.inr (.inl h)))
theorem zxj:∀ args h M,zwh Tryz.prog (KLap Tryz.prog) 86 86 args h M→KK 86 args h M:=fun _ _ _ h=>.inr (.inr (.inr (.inr (.inl h))))
def zpb (a b:Loc):Int:=orI [cmpI a.vol b.vol,cmpI a.file b.file,cmpI a.off b.off,cmpI a.len b.len]
theorem compare_eq (a b:Int):zfs a b=some (cmpI a b):=by
 simp only [zfs,zjx,bd,cmpI]
 simp only [ne_eq,not_true_eq_false,decide_false,Bool.false_eq_true,if_false,decide_eq_true_eq]
 split <;> (try split) <;> rfl
theorem or_eq (xs:List Int) (h:xs.length≤1073741824):zgi xs=some (orI xs):=by
 have key:∀ (m i:Nat),i≤xs.length→xs.length - i < m→iter (zgi.l2 xs) m (i:Int)=some (orI (xs.drop i)):=by
  intro m
  induction m with
  | zero=>intro i _ h;omega
  | succ m ih =>
   intro i hi hm;rw [iter]
   simp only [zgi.l2,zgi.k1,decide_eq_true_eq]
   by_cases hn:i < xs.length
   ·have hw:wr ((i:Int)+1)=((i+1:Nat):Int):=by
     have:=zwl (x:=(i:Int)+1) (n:=i+1) (by omega) (by omega);exact this
    have hix:ix xs (i:Int)=some xs[i]:=by
     unfold ix
     simp [hn]
    rw [if_pos (by omega),hix]
    simp only [bd]
    rw [hw,List.drop_eq_getElem_cons hn]
    simp only [orI]
    by_cases h0:xs[i]=0
    ·rw [if_neg (by simp [h0]),if_neg (by simp [h0])]
     exact ih (i+1) (by omega) (by omega)
    ·rw [if_pos (by simp [h0]),if_pos h0]
   ·rw [if_neg (by omega),List.drop_eq_nil_of_le (by omega)];rfl
 have:=key 18446744073709551616 0 (Nat.zero_le _) (by omega);exact this
theorem order_eq (a b:Loc):zrl a b=some (zpb a b):=by
 simp only [zrl,compare_eq,bd]
 rw [or_eq _ (by simp)];rfl
theorem zqh (a b:Loc):zpb a b < 0 ↔ a.vol < b.vol∨a.vol=b.vol∧(a.file < b.file∨a.file=b.file∧(a.off < b.off∨a.off=b.off∧a.len < b.len)):=by
 simp only [zpb,orI,cmpI]
 repeat' split
 all_goals omega
theorem lt_loc (a b:Loc):ltOf zpb a b=decide (zpb a b < 0):=rfl
theorem ordLoc_swo:SWO (ltOf zpb) where
 irrefl x:=by simp only [lt_loc,decide_eq_false_iff_not,zqh];omega
 trans x y z h1 h2:=by simp only [lt_loc,decide_eq_true_eq,zqh] at *;omega
 ntrans x y z h1 h2:=by simp only [lt_loc,decide_eq_false_iff_not,zqh] at *;omega
theorem loc_ext {a b:Loc} (h1:a.vol=b.vol) (h2:a.file=b.file) (h3:a.off=b.off) (h4:a.len=b.len):a=b:=by cases a;cases b;simp_all
theorem ordLoc_tot (x y:Loc) (h1:ltOf zpb x y=false) (h2:ltOf zpb y x=false):x=y:=by
 simp only [lt_loc,decide_eq_false_iff_not,zqh] at h1 h2
 exact loc_ext (by omega) (by omega) (by omega) (by omega)
theorem cmpT_swo:SWO (ltOf cmpT):=swo_of (f:=fun x=>x) fun _ _=>zut _ _
theorem sort_none99 (a:Option (Nat × Nat)) (k:Cap) (w:Hp):Ret Tryz.prog KK 99 [.sl a 0 k,.f 100 []] w fun u w'=>u = .tup []∧w' = w :=
 XW.mono (evJ_sound 100 _ (.call (.tup []) w) (by kernel_rfl)) fun o e=>⟨_,_,e,rfl,rfl⟩
theorem sortLoc_ok {F:Frz} {w:Hp} {v:Val} {xs r:List Loc} (hS:St v.own w F F [.row Loc.t v xs] w) (H:sortM zpb xs=some r):Ret Tryz.prog KK 99 [v,.f 100 []] w fun u w'=>∃ F',u = .tup []∧St v.own w F F' [.row Loc.t v r] w' :=
 sort_flat (K0:=KNone) (fun _ _ _ h=>.inl h) rfl ordLoc_swo ordLoc_tot Tryz.func100 rfl (by decide) sort_none99 (fun G h' cs x ds y hG hx hy=>by
  obtain rfl:=hx
  obtain rfl:=hy
  exact (zxb hG (order_eq x y)).mono fun v w' ⟨F',e,_⟩=>e) hS H
set_option maxRecDepth 100000 in
theorem insKChunk {K:Tb} (hL:∀ f args h M,KLap Tryz.prog f args h M→K f args h M) {h:Hp} {b n m i vb y:Nat} {ck:Cap} {c d:List Val} (hW:Wf h) (hb:b < h.next) (hg:h.get b=some (.cells 35 c)) (hv:h.get vb=some (.cells 35 d)) (hne:vb≠b) (hi:i < n) (hnm:n≤m) (hcm:c.length=m*35) (hy:0 < y) (hyd:y*35≤d.length) (hc1:c.all Val.one=true) (hd1:d.all Val.one=true) (hbig:n+y≤2 ^ 30) (hvb:vb < h.next) :
  Ret Tryz.prog K 86 [.sl (some (b,0)) n (.k m),.i .i64 (i:Int),.sl (some (vb,0)) y ck] h (InsR 35 h b i n y c d):=by
 have hyd':d.drop 0=d:=List.drop_zero;have hge:h.get h.next=none:=hW _ (Nat.le_refl _);refine qa3 Tryz.func86 ?_;refine qsm ?_;refine qs ?_;refine q2 ?_;refine W_c rfl rfl rfl rfl (O_slK i n Tryz.underlying35 Ty.zdv rfl (.inr ⟨_,_,rfl,rfl⟩) (.inl ⟨rfl,rfl⟩) (Nat.le_of_lt hi) hnm (Nat.lt_of_lt_of_le hi hnm)) ?_;refine qn ?_;refine qsc ?_;refine qr (zdh Tryz.underlying35 rfl (.inr ⟨_,_,rfl,fun q=>by cases q⟩)) ?_;refine qm ?_;refine zfl ?_;refine qsc ?_;refine qr (zbc rfl rfl zhh) ?_;refine qn ?_;refine zlc rfl (fun hc=>absurd (of_decide_eq_true hc) (by omega)) (fun _=>?_);refine qk ?_;refine qsc ?_;refine qr (zdh Tryz.underlying35 rfl (.inr ⟨_,_,rfl,fun q=>by cases q⟩)) ?_;refine qm ?_;refine zfl ?_;refine qs ?_;refine q2 ?_;refine qr (zbc rfl rfl zhh) ?_;refine qn ?_;refine zlc rfl (fun hc=>absurd (of_decide_eq_true hc) (by omega)) (fun _=>?_);refine qk ?_;refine zfl ?_;refine qs ?_;refine q2 ?_;refine qr (zbc rfl rfl (zsa (a:=n) (b:=y) (by omega))) ?_;refine qc ?_;refine W_c (v:=.i .i64 (m:Int)) rfl rfl rfl rfl (fun h=>by simp only [opAt,List.getD_cons_succ,List.getD_cons_zero,opL,evLL,List.mapM_cons,List.mapM_nil,evLO,look];rfl) ?_;refine qr (zbc rfl rfl zid) ?_;refine qn ?_;refine zlc rfl (fun hc=>?_) (fun hc=>?_)
 ·have hroom:m < n+y:=by have:=of_decide_eq_true hc;omega
  refine qs ?_;refine q2 ?_;refine W_c rfl rfl rfl rfl (O_slK 0 i Tryz.underlying35 Ty.zdv rfl (.inl ⟨rfl,rfl⟩) (.inr ⟨_,_,rfl,rfl⟩) (Nat.zero_le _) (by omega) (by omega)) ?_;refine q2 ?_;refine qr (zbc rfl rfl (zsa (a:=n) (b:=y) (by omega))) ?_;refine qc ?_;refine qr (zbc rfl rfl (bI_subN (a:=n+y) (b:=i) (by omega) (by omega))) ?_;refine xm (E_apK (N:=n+y - i) (c:=c) Tryz.underlying35 Ty.znh (by kernel_rfl) rfl rfl (by omega) (by omega) (by omega) (by omega) hg (by rw [hcm];simp only [Nat.zero_mul,Nat.add_zero,Nat.zero_add,Nat.sub_zero];exact Nat.mul_le_mul_right _ (by omega)) hc1) ?_;rintro _ _ ⟨rfl,zs,hzs,hz1,rfl⟩;refine qc ?_;refine zew ?_
  simp only [Nat.zero_mul,Nat.add_zero,Nat.sub_zero]
  have hin:i+(n+y - i)=n+y:=by omega
  rw [hin];have g0:∀ B q,q < h.next→(h.new B).get q=h.get q:=fun B q hq=>by rw [Hp.get_new,if_neg (by omega)]
  have h1g:(h.new (.cells 35 ((c.drop 0).take (i*35)++zs))).get h.next=some (.cells 35 ((c.drop 0).take (i*35)++zs)):=by rw [Hp.get_new,if_pos rfl]
  have e1:(i+y)*35=i*35+y*35:=Nat.add_mul _ _ _;have e2:(n - i)*35=n*35 - i*35:=Nat.sub_mul _ _ _;have e3:(n+y)*35=n*35+y*35:=Nat.add_mul _ _ _;have e4:i*35≤n*35:=Nat.mul_le_mul_right _ (Nat.le_of_lt hi);have e5:n*35≤m*35:=Nat.mul_le_mul_right _ hnm;have e6:(n+y - i)*35=n*35+y*35 - i*35:=by rw [Nat.sub_mul,Nat.add_mul]
  have lD:((d.drop 0).take (y*35)).length=y*35:=by rw [List.length_take,List.length_drop];omega
  have lB:((c.drop 0).take (i*35)++zs).length=(n+y)*35:=by rw [List.length_append,List.length_take,List.length_drop];omega
  have o1:((c.drop 0).take (i*35)++zs).all Val.one=true:=by rw [List.all_append,zqg hc1,hz1];rfl
  refine zgl ?_;refine qs ?_;refine q2 ?_;refine W_c rfl rfl rfl rfl (O_slO i (n+y) Tryz.underlying35 Ty.zdv rfl (.inr ⟨_,_,rfl,rfl⟩) (.inl ⟨rfl,rfl⟩) (by omega) (Nat.le_refl _) (by omega)) ?_;refine qc ?_;refine xm (E_cp (m:=y) Tryz.underlying35 Ty.zdv rfl rfl (by omega) h1g ((g0 _ _ hvb).trans hv) (by rw [Nat.zero_add];exact hyd) (by rw [lB];omega) hd1 hy) ?_;rintro _ _ rfl;refine zew ?_;rw [Nat.zero_add];have hl1:=zek (c:=(c.drop 0).take (i*35)++zs) (o:=i*35) (vs:=(d.drop 0).take (y*35)) (by rw [lD,lB];omega);refine zgl ?_;refine zfl ?_;refine zbw (G:=fun _ _=>none) [0,1,2,3,4,5,6,7,8] rfl Ty.mixed (by kernel_rfl) (fun _ _ _ q=>by cases q) ?_;refine q3 ?_;refine qr (zbc rfl rfl (zsa (a:=i) (b:=y) (by omega))) ?_;refine W_c rfl rfl rfl rfl (O_slO (i+y) (n+y) Tryz.underlying35 Ty.zdv rfl (.inr ⟨_,_,rfl,rfl⟩) (.inl ⟨rfl,rfl⟩) (by omega) (Nat.le_refl _) (by omega)) ?_;refine q2 ?_;refine W_c rfl rfl rfl rfl (O_slK i n Tryz.underlying35 Ty.zdv rfl (.inr ⟨_,_,rfl,rfl⟩) (.inl ⟨rfl,rfl⟩) (by omega) (by omega) (by omega)) ?_;refine qx (E_cp (m:=n - i) Tryz.underlying35 Ty.zdv rfl rfl (by omega) (by rw [Hp.get_set,if_pos rfl]) (by rw [Hp.get_set,if_neg (by omega)];exact (g0 _ _ hb).trans hg) (by rw [Nat.zero_add];omega) (by rw [hl1,lB,Nat.zero_add];omega) hc1 (by omega)) ?_;rintro _ _ rfl;refine Nxt.frz (Frz.le.refl _) (fun _ _ _ q=>by cases q) ?_;refine qn ?_;refine qsc ?_;refine qm ?_;refine qt ?_
  simp only [Nat.zero_add]
  obtain ⟨k1,k2⟩:=ins_new (z:=35) hi hnm hcm hyd hzs;refine ⟨h.next,none,_,rfl,by rw [Hp.get_set,if_pos rfl],by rw [List.take_of_length_le (by rw [k2];omega)];exact k1,fun _=>by rw [k2];exact Nat.le_refl _,fun q e=>(by cases e),ztf (ztf o1 (zqg hd1)) (zqg hc1),Nat.lt_succ_self _,Nat.le_succ _,fun q hq=>?_,fun q hq _=>?_,.inr (Nat.le_refl _)⟩
  ·have hq':h.next+1≤q:=hq
   rw [Hp.get_set,if_neg (by omega),Hp.get_set,if_neg (by omega),Hp.get_new,if_neg (by omega)];exact hW _ (by omega)
  ·rw [Hp.get_set,if_neg (by omega),Hp.get_set,if_neg (by omega)]
   exact g0 _ _ hq
 ·have hroom:n+y≤m:=by have:=of_decide_eq_false hc;omega
  have e1:(i+y)*35=i*35+y*35:=Nat.add_mul _ _ _;have e2:(n - i)*35=n*35 - i*35:=Nat.sub_mul _ _ _;have e3:(n+y)*35=n*35+y*35:=Nat.add_mul _ _ _;have e4:i*35≤n*35:=Nat.mul_le_mul_right _ (Nat.le_of_lt hi);have e5:(n+y)*35≤m*35:=Nat.mul_le_mul_right _ hroom;have e7:n+y - (i+y)=n - i:=by omega
  refine qk ?_;refine qs ?_;refine q3 ?_;refine qr (zbc rfl rfl (zsa (a:=n) (b:=y) (by omega))) ?_;refine W_c rfl rfl rfl rfl (O_slK 0 (n+y) Tryz.underlying35 Ty.zdv rfl (.inl ⟨rfl,rfl⟩) (.inr ⟨_,_,rfl,rfl⟩) (Nat.zero_le _) (by omega) (by omega)) ?_;refine qc ?_;refine zew ?_
  simp only [Nat.zero_mul,Nat.add_zero,Nat.sub_zero]
  refine zgl ?_;refine zfl ?_;refine qs ?_;refine q4 ?_;refine qr (zbc rfl rfl (zsa (a:=i) (b:=y) (by omega))) ?_;refine W_c rfl rfl rfl rfl (O_slK (i+y) (n+y) Tryz.underlying35 Ty.zdv rfl (.inr ⟨_,_,rfl,rfl⟩) (.inl ⟨rfl,rfl⟩) (by omega) (by omega) (by omega)) ?_;refine zoi (f:=136) (args:=[.sl (some (vb,0)) y ck,.sl (some (b,0+(i+y)*35)) (n+y - (i+y)) (.k (m - (i+y)))]) rfl rfl rfl rfl (XW.known (M:=fun v w'=>v = .b false∧w' = h) (hL _ _ _ _ ⟨_,_,4,_,_,_,_,_,_,_,_,_,_,_,_,_,_,Tryz.func136,rfl,rfl,rfl,by kernel_rfl,Tryz.underlying35,Ty.zdv,rfl,hne,hv,by decide,by omega,hg,by omega,rfl,rfl⟩) fun v h' q=>⟨v,h',rfl,q⟩) ?_;rintro _ w1 ⟨rfl,hw1⟩;obtain rfl:h=w1:=hw1.symm;refine Nxt.now ?_;refine qm ?_;refine C_cond_t rfl ?_;refine zfl ?_;refine zbw (G:=fun _ _=>none) [0,1,2,3,4,5,6,7,8] rfl Ty.mixed (by kernel_rfl) (fun _ _ _ q=>by cases q) ?_;refine q3 ?_;refine qr (zbc rfl rfl (zsa (a:=i) (b:=y) (by omega))) ?_;refine W_c rfl rfl rfl rfl (O_slK (i+y) (n+y) Tryz.underlying35 Ty.zdv rfl (.inr ⟨_,_,rfl,rfl⟩) (.inl ⟨rfl,rfl⟩) (by omega) (by omega) (by omega)) ?_;refine q2 ?_;refine W_c rfl rfl rfl rfl (O_slK i (n+y) Tryz.underlying35 Ty.zdv rfl (.inr ⟨_,_,rfl,rfl⟩) (.inl ⟨rfl,rfl⟩) (by omega) (by omega) (by omega)) ?_;refine qx (E_cp (m:=n - i) Tryz.underlying35 Ty.zdv rfl rfl (by omega) hg hg (by rw [Nat.zero_add];omega) (by rw [Nat.zero_add];omega) hc1 (by omega)) ?_;rintro _ _ rfl;refine Nxt.frz (Frz.le.refl _) (fun _ _ _ q=>by cases q) ?_;refine zew ?_
  simp only [Nat.zero_add]
  have lA:((c.drop (i*35)).take ((n - i)*35)).length=(n - i)*35:=by rw [List.length_take,List.length_drop];omega
  have hl1:=zek (c:=c) (o:=(i+y)*35) (vs:=(c.drop (i*35)).take ((n - i)*35)) (by rw [lA];omega);refine zgl ?_;refine qs ?_;refine q2 ?_;refine W_c rfl rfl rfl rfl (O_slK i (n+y) Tryz.underlying35 Ty.zdv rfl (.inr ⟨_,_,rfl,rfl⟩) (.inl ⟨rfl,rfl⟩) (by omega) (by omega) (by omega)) ?_;refine qc ?_;refine xm (E_cp (m:=y) Tryz.underlying35 Ty.zdv rfl rfl (by omega) (by rw [Hp.get_set,if_pos rfl]) (by rw [Hp.get_set,if_neg hne];exact hv) (by rw [Nat.zero_add];exact hyd) (by rw [hl1,Nat.zero_add];omega) hd1 hy) ?_;rintro _ _ rfl;refine qn ?_;refine qsc ?_;refine qm ?_;refine qt ?_
  simp only [Nat.zero_add]
  obtain ⟨k1,k2⟩:=ins_in (z:=35) hi hroom hcm hyd;refine ⟨b,some m,_,rfl,by rw [Hp.get_set,if_pos rfl],k1,fun e=>(by cases e),fun q e=>(by obtain rfl:=oi e;exact ⟨k2,hroom⟩),ztf (ztf hc1 (zqg hc1)) (zqg hd1),hb,Nat.le_refl _,fun q hq=>?_,fun q hq hqb=>?_,.inl rfl⟩
  ·have hq':h.next≤q:=hq
   rw [Hp.get_set,if_neg (by omega),Hp.get_set,if_neg (by omega)];exact hW _ hq'
  ·rw [Hp.get_set,if_neg hqb,Hp.get_set,if_neg hqb]
set_option maxRecDepth 100000 in
theorem insEChunk {K:Tb} {t:To Chunk} {X:List Nat} {h0 h:Hp} {F0 F:Frz} {L:List Ob} {bs bs2:List Nat} {v v2:Val} {xs ys zs:List Chunk} (hts:t.size=35) (hS:St X h0 F0 F (.dp t bs2 v2 ys :: .dp t bs v xs::L) h) (hy:0 < ys.length) (hz:app xs ys=some zs) :
  Ret Tryz.prog K 86 [v,.i .i64 (xs.length:Int),v2] h (fun u h'=>∃ bs',St X h0 F0 F (.dp t bs' u zs::L) h'):=by
 have hfew:=(zye hz).1;refine qa3 Tryz.func86 ?_;refine qsm ?_;refine qs ?_;refine q2 ?_;refine W_cutD (t:=t) 1 (xs.length:Int) (xs.length:Int) rfl rfl rfl rfl Tryz.underlying35 (by rw [hts];exact Ty.zdv) rfl (.inr ⟨_,_,rfl,rfl⟩) (.inl ⟨rfl,rfl⟩) hS rfl (by omega) (by omega) (by omega) ?_;intro v';refine qn ?_;refine qsc ?_;refine qr (zdh Tryz.underlying35 rfl (hS.dpLn (k:=0) rfl)) ?_;refine qm ?_;refine zfl ?_;refine qsc ?_;refine qr (zbc rfl rfl zhh) ?_;refine qn ?_;refine zlc rfl (fun hc=>absurd (of_decide_eq_true hc) (by omega)) (fun _=>?_);refine qk ?_;refine qsc ?_;refine qr (zdh Tryz.underlying35 rfl (hS.dpLn (k:=1) rfl)) ?_;refine qm ?_;refine zfl ?_;refine qs ?_;refine q2 ?_;refine qr (zbc rfl rfl zhh) ?_;refine qn ?_;refine zlc rfl (fun _=>?_) (fun hc=>absurd rfl (of_decide_eq_false hc));refine qs ?_;refine q2 ?_;refine xm (E_appD (t:=t) Tryz.underlying35 (by rw [hts];exact Ty.znh) (by kernel_rfl) rfl rfl hS hz) ?_;rintro u w' ⟨bs',hT⟩;refine qm ?_;refine qt ?_;exact ⟨bs',hT⟩
theorem insChunk_ok {F:Frz} {w:Hp} {X:List Nat} {bs bs2:List Nat} {v v2:Val} {i:Int} {xs ys r:List Chunk} (hS:St X w F F [.dp Chunk.o bs v xs,.dp Chunk.o bs2 v2 ys] w) (H:insD xs i ys=some r) :
  Ret Tryz.prog KK 86 [v,.i .i64 i,v2] w fun u w'=>∃ bs',St X w F F [.dp Chunk.o bs' u r] w' :=
 ins_dp (z:=35) rfl (by decide) (fun hS hy hz=>insEChunk rfl hS hy hz) (insKChunk kk_lap) (insKChunk fun _ _ _ _ q=>q) (zxj) hS H
end Go.Wk.Lf
end
