/-  -/
import Derived.Test.YtfphkkaifgnlgaaGreatG6
set_option linter.unusedVariables false
set_option linter.unusedSimpArgs false
section
namespace Go.Wk.Lf
open Go.V Go.Proofs
noncomputable section
set_option maxRecDepth 100000
variable {K:Tb} {F:Frz} {w:Hp}
def zau.k1 (x0:Catalog) (a:Int) (l5:List Exp) (l8:List Chunk):Option (Bool × Catalog) :=
  some (true,(Catalog.mk a x0.snaps l8 l5 x0.vols))
def zau.k2 (x0:Catalog):Option (Bool × Catalog) :=
  some (false,x0)
def zau.l3 (x0:Catalog) (x1:Item) (x2:Loc) (d:Int→Option (Bool × Catalog)):Int→Option (Bool × Catalog)
  | a =>
    if decide (a < (x0.snaps.length:Int)) then
      bd (ix x0.snaps a) fun e =>
      if decide (e.seq=x1.seq) then
        bd (ix x0.snaps a) fun b =>
        bd (zbx b.locs x2) fun c =>
        some (true,(Catalog.mk x0.seq (x0.snaps.set a.toNat (Snap.mk b.seq b.man c)) x0.chunks x0.exps x0.vols))
      else
        d (wr (a+1))
    else
      zau.k2 x0
def zau.k4 (x0:Catalog) (x1:Item) (x2:Loc) (a:Int):Option (Bool × Catalog) :=
  bd (only (decide (a < (x0.exps.length:Int))) (ix x0.exps a) (Exp.mk 0 0 [])) fun i =>
  if (decide (a < (x0.exps.length:Int))&&decide (i.seq=x1.seq)) then
    bd (ix x0.exps a) fun b =>
    bd (zbx b.locs x2) fun h =>
    some (true,(Catalog.mk x0.seq x0.snaps x0.chunks (x0.exps.set a.toNat (Exp.mk b.seq b.of h)) x0.vols))
  else
    bd (cut (α:=Exp) x0.exps 0 a) fun d =>
    bd (app (α:=Exp) [] d) fun e =>
    bd (app (α:=Exp) e [(Exp.mk x1.seq x1.of [x2])]) fun f =>
    bd (cut (α:=Exp) x0.exps a (x0.exps.length:Int)) fun g =>
    bd (app (α:=Exp) f g) fun c =>
    if (decide (x0.seq≤x1.seq)&&decide (x1.seq < 4611686018427387904)) then
      zau.k1 x0 (wr (x1.seq+1)) c x0.chunks
    else
      zau.k1 x0 x0.seq c x0.chunks
def zau.l5 (x0:Catalog) (x1:Item) (x2:Loc) (b:Int→Option (Bool × Catalog)):Int→Option (Bool × Catalog)
  | a =>
    bd (only (decide (a < (x0.exps.length:Int))) (ix x0.exps a) (Exp.mk 0 0 [])) fun c =>
    if (decide (a < (x0.exps.length:Int))&&decide (c.seq < x1.seq)) then
      b (wr (a+1))
    else
      zau.k4 x0 x1 x2 a
def zau (x0:Catalog) (x1:Item) (x2:Loc):Option (Bool × Catalog) :=
  if decide (x1.kind=1) then
    bd (zbs x0 x1.id) fun b =>
    if decide (b < 0) then
      some (false,x0)
    else
      bd (ix x0.chunks b) fun a =>
      bd (zbx a.locs x2) fun c =>
      zau.k1 x0 x0.seq x0.exps (x0.chunks.set b.toNat (Chunk.mk a.id a.staged a.data c))
  else
    if decide (x1.kind=2) then
      loop (zau.l3 x0 x1 x2) 0
    else
      loop (zau.l5 x0 x1 x2) 0
set_option maxHeartbeats 2000000 in
theorem zmu {X:List Nat} {x0:Catalog} {x1:Item} {x2:Loc} {r:Bool × Catalog} {gp0:Nat} {f:Val} {g:Val} {m:Val} {j:Val} (hS:St X w F F [.box gp0 [.i .i64 x0.seq,f,g,m,j],.row Snap.t f x0.snaps,.row Chunk.t g x0.chunks,.row Exp.t m x0.exps,.row Vol.t j x0.vols] w) (cg:(x1.id).length=32) (H:zau x0 x1 x2=some r):Ret Tryz.prog K 120 [pl gp0 0,.agg (Item.cells x1),.agg (Loc.cells x2)] w fun v w'=>∃ (F':Frz) (bq:Val),v = .b r.1∧St X w F F' [.box gp0 [.i .i64 r.2.seq,f,g,bq,j],.row Snap.t f r.2.snaps,.row Chunk.t g r.2.chunks,.row Exp.t bq r.2.exps,.row Vol.t j r.2.vols] w':=by
 refine qa3 Tryz.func120 ?_;refine qs ?_;refine bx (([.i .i64 x1.kind]:List Val)++zam x1.id++([.i .i64 x1.seq,.i .i64 x1.of,.i .i64 x1.off,.i .i64 x1.len]:List Val)) ?_;intro A w1 c4;refine bx ([.i .i64 x2.vol,.i .i64 x2.file,.i .i64 x2.off,.i .i64 x2.len]) ?_;intro B w2 l;refine au ?_;refine zac (fun E wq=>∃ i4:Int,∃ l5:List Exp,∃ l8:List Chunk,zau.k1 x0 i4 l5 l8=some r ∧ ∃ (Z:Frz) (u6:Val),E=[]∧F.le Z∧Also l [.box gp0 [.i .i64 i4,f,g,u6,j],.row Snap.t f x0.snaps,.row Chunk.t g l8,.row Vol.t j x0.vols,.row Exp.t u6 l5] Z wq) ?_ ?_
 ·refine ax ?_;refine qy H (fun bD H=>?_) (fun bD H=>?_)
  ·refine zfl ?_;obtain ⟨bk,bP,H⟩:=zaj H;refine rf l ?_;refine au ?_;refine qq (zdx 2 (Catalog.cells x0 f g m j) Ty.zjo Ty.zgk (Nat.zero_lt_succ _) rfl l rfl (fun q u h=>zdp (post:=[]) rfl h)) ?_;refine au ?_;refine qq (zdx 1 (zam x1.id) Ty.ziu Ty.zfq (Nat.zero_lt_succ _) rfl l rfl (fun q u h=>zdp (post:=[.i .i64 x1.seq,.i .i64 x1.of,.i .i64 x1.off,.i .i64 x1.len]) rfl h)) ?_;refine lq (zfv (Gd.now l.wf) (l.rowNow (k:=3) rfl) (l.rowNow (k:=4) rfl) (l.rowNow (k:=5) rfl) (l.rowNow (k:=6) rfl) cg bP) l ?_;intro cq p;refine ay ?_;refine qy H (fun b6 H=>?_) (fun b6 H=>?_)
   ·refine aq ?_;obtain rfl:=oi H;refine qt ?_;exact ⟨F,m,rfl,p.pick [2,3,4,5,6] (by decide)⟩
   ·refine qk ?_;obtain ⟨R,be,bl,bQ,H⟩:=bd2 H;have D:=p.boxAt 2 rfl;refine zbw (G:=(F.hold cq [gp0])) [0,1,2,3,4,5,6,7,8,9,10,11,12,13,14,15,16,17] rfl Ty.mixed (by kernel_rfl) (HB.agree (HB.cons 2 D p rfl HB.nil) p.agree) ?_;refine au ?_;refine qr (zdo Ty.zft rfl (D.held (HB.cons 2 D p rfl HB.nil) (by simp)) rfl) ?_;obtain ⟨_,⟨cX,cY,rfl,c6,c7,bV⟩,bF⟩:=elr 35 4 p be;refine au ?_;refine qq (zej 34 Ty.zgj rfl bF (by first | omega | rfl) rfl) ?_;refine qq (zdx 0 (Loc.cells x2) Ty.ztb Ty.zhu (Nat.zero_lt_succ _) rfl p rfl (fun q u h=>zdp (post:=[]) rfl h)) ?_;refine ql (zgq p.good bV bQ) ?_;rintro bm dj ⟨cy,_,rfl,aV⟩;have ah:=p.call aV;have cl:=aV.ext;refine Nxt.frz (HB.le (HB.cons 3 D ah rfl HB.nil) cl) (HB.agree (HB.cons 3 D ah rfl HB.nil) ah.agree) ?_;refine au ?_;obtain ⟨cw,ch,a9,ai⟩:=ah.freezeR 0 [1,2,3,4,5,6,7] rfl (by decide) (by decide);refine W_rg (HB.le (HB.cons 2 D ai rfl HB.nil) ch) (HB.agree (HB.cons 2 D ai rfl HB.nil) ai.agree) ?_;refine qu (ziv (c:=[bm]) 4 (bk.toNat) 34 R (Chunk.mk R.id R.staged R.data bl) rfl rfl ai rfl (zaf be).2 (by first | rfl | (show _=_*35+_;omega)) a9.ln.cells Ty.zml (by simp only [List.all_cons,List.all_nil,List.all_append,a9.ln.one];rfl) (Nat.le_of_ble_eq_true rfl) (by rintro cs ⟨a2,a3,rfl,c0,b2,b3⟩;exact ⟨a2,bm,rfl,c0,b2,a9⟩)) ?_;rintro _ dk aO;refine qh 2 D aO ?_;refine ax ?_;exact nj ⟨x0.seq,x0.exps,(x0.chunks.set bk.toNat (Chunk.mk R.id R.staged R.data bl)),H,⟨_,m,rfl,lec,pk [2,3,4,6,5] aO⟩⟩
  ·refine aq ?_;refine qy H (fun b7 H=>?_) (fun b7 H=>?_)
   ·refine zac (jO (zau.k2 x0=some r) [] l [.box gp0 [.i .i64 x0.seq,f,g,m,j],.row Snap.t f x0.snaps,.row Chunk.t g x0.chunks,.row Exp.t m x0.exps,.row Vol.t j x0.vols]) ?_ ?_
    ·refine ax ?_;refine lj l (fun s:Int=>[(0,pl gp0 0),(4,pl A 0),(5,pl B 0),(8,.i .i64 s)]) H ?_;intro cT cf bs cr cL n H;refine ay ?_;refine qr (zdh Tryz.underlying34 rfl (n.rowLn (k:=3) rfl)) ?_;refine au ?_;refine qy H (fun b8 H=>?_) (fun b8 H=>?_)
     ·refine ay ?_;obtain ⟨d4,ca,H⟩:=zaj H;refine rn ?_;obtain ⟨_,⟨cZ,da,rfl,c8,c9⟩,_⟩:=elr 4 3 n ca;refine au ?_;refine qy H (fun b9 H=>?_) (fun b9 H=>?_)
      ·refine zfl ?_;obtain ⟨aJ,bf,co,bR,H⟩:=bd2 H;have I:=n.boxAt 2 rfl;refine zbw (G:=(bs.hold cr [gp0])) [0,1,2,3,4,5,6,7,8,9,10,11,12,13,14,15,16,17] rfl Ty.mixed (by kernel_rfl) (HB.agree (HB.cons 2 I n rfl HB.nil) n.agree) ?_;refine au ?_;refine qr (zdo Ty.zoe rfl (I.held (HB.cons 2 I n rfl HB.nil) (by simp)) rfl) ?_;obtain ⟨_,⟨db,dc,rfl,cA,bW⟩,bG⟩:=elr 4 3 n bf;refine au ?_;refine qq (zej 3 Ty.zgj rfl bG (by first | omega | rfl) rfl) ?_;refine qq (zdx 0 (Loc.cells x2) Ty.ztb Ty.zhu (Nat.zero_lt_succ _) rfl n rfl (fun q u h=>zdp (post:=[]) rfl h)) ?_;refine ql (zgq n.good bW bR) ?_;rintro bn dq ⟨cz,_,rfl,aX⟩;have aj:=n.call aX;have cm:=aX.ext;refine Nxt.frz (HB.le (HB.cons 3 I aj rfl HB.nil) cm) (HB.agree (HB.cons 3 I aj rfl HB.nil) aj.agree) ?_;refine au ?_;obtain ⟨bt,ci,aC,ak⟩:=aj.freezeR 0 [1,2,3,4,5,6,7] rfl (by decide) (by decide);refine W_rg (HB.le (HB.cons 2 I ak rfl HB.nil) ci) (HB.agree (HB.cons 2 I ak rfl HB.nil) ak.agree) ?_;refine qu (ziv (c:=[bn]) 3 (cf.toNat) 3 aJ (Snap.mk aJ.seq aJ.man co) rfl rfl ak rfl (zaf bf).2 (by first | rfl | (show _=_*4+_;omega)) aC.ln.cells Ty.zml (by simp only [List.all_cons,List.all_nil,List.all_append,aC.ln.one];rfl) (Nat.le_of_ble_eq_true rfl) (by rintro cs ⟨a2,a3,rfl,b2,b3⟩;exact ⟨a2,bn,rfl,b2,aC⟩)) ?_;rintro _ dr aP;refine qh 2 I aP ?_;refine qn ?_;refine aq ?_;obtain rfl:=oi H;refine qt ?_;exact ⟨bt,m,rfl,aP.pick [2,3,4,5,6] (by decide)⟩
      ·refine ax ?_;exact nm H (jj n)
     ·refine zbe _ rfl ?_;exact nj ⟨H,jj (pk [2,3,4,5,6] n)⟩
    ·rintro E dm ⟨H,br,rfl,cK,b0⟩;refine aq ?_;obtain rfl:=oi H;refine qt ?_;exact ⟨br,m,rfl,b0⟩
   ·refine aq ?_;refine zac (fun E wq=>∃ z:Int,zau.k4 x0 x1 x2 z=some r ∧ ∃ (S:Frz),E=[(0,pl gp0 0),(4,pl A 0),(5,pl B 0),(9,.i .i64 z)]∧F.le S∧Same l S wq) ?_ ?_
    ·refine zfa ?_;refine lj l (fun s:Int=>[(0,pl gp0 0),(4,pl A 0),(5,pl B 0),(9,.i .i64 s)]) H ?_;intro cU a1 a7 d2 cP y H;refine zfl ?_;refine zfl ?_;obtain ⟨cu,cc,H⟩:=zaj H;refine zja (fun E wq=>E=[(0,pl gp0 0),(4,pl A 0),(5,pl B 0),(9,.i .i64 a1),(32,.b (decide (a1 < (x0.exps.length:Int))&&decide (cu.seq < x1.seq)))] ∧ ∃ a8:Frz,a7.le a8∧St X w F a8 [.box B [.i .i64 x2.vol,.i .i64 x2.file,.i .i64 x2.off,.i .i64 x2.len],.box A (([.i .i64 x1.kind]:List Val)++zam x1.id++([.i .i64 x1.seq,.i .i64 x1.of,.i .i64 x1.off,.i .i64 x1.len]:List Val)),.box gp0 [.i .i64 x0.seq,f,g,m,j],.row Snap.t f x0.snaps,.row Chunk.t g x0.chunks,.row Exp.t m x0.exps,.row Vol.t j x0.vols] wq) ?_ ?_
     ·
      rcases Bool.eq_false_or_eq_true (decide (a1 < (x0.exps.length:Int))) with M | M
      ·refine rn ?_;refine q3 ?_;refine qf Ty.zin ?_;refine qb 2 Ty.zkm y ?_;refine qr (zdh Tryz.underlying36 rfl (y.rowLn (k:=5) rfl)) ?_;refine qr (zbc rfl rfl ziy) ?_;refine qc ?_;refine qvb 20 M ?_;refine q2 ?_;refine qf Ty.zin ?_;refine qb 2 Ty.zkm y ?_;refine qc ?_;have bi:=cc;rw [zck M] at bi;obtain ⟨bO,ce⟩:=zaf bi;obtain ⟨c3,bU,a0⟩:=y.rowAt (k:=5) rfl ce;obtain ⟨df,rfl,cD⟩:=bU;replace a0:=qj 3 a0;have bb:=a0.ixd;refine qi Tryz.underlying36 Ty.zto bb bO ?_;refine qr (zga 0 Ty.zuo rfl bb) ?_;refine qr (zej 0 Ty.zjg rfl a0 (by first | omega | rfl) rfl) ?_;refine qf Ty.zrr ?_;refine qb 1 Ty.zjg y ?_;refine qr (zbc rfl rfl ziy) ?_;refine qc ?_;refine zew ?_;exact zdy _ ⟨rfl,a7,(Frz.le.refl _),y⟩ ⟨rfl,rfl,rfl,rfl,(zbu rfl (by first | rfl | (rw [M];first | done | rfl) | simp [M])),trivial⟩
      ·refine rn ?_;refine q3 ?_;refine qf Ty.zin ?_;refine qb 2 Ty.zkm y ?_;refine qr (zdh Tryz.underlying36 rfl (y.rowLn (k:=5) rfl)) ?_;refine qr (zbc rfl rfl ziy) ?_;refine qc ?_;refine qvb 20 M ?_;refine qz2 ?_;refine qz2 ?_;refine qz2 ?_;refine qz2 ?_;refine qz2 ?_;refine qz ?_;refine qc ?_;refine zew ?_;exact zdy _ ⟨rfl,a7,(Frz.le.refl _),y⟩ ⟨rfl,rfl,rfl,rfl,(zbu rfl (by first | rfl | (rw [M];first | done | rfl) | simp [M])),trivial⟩
     rintro E d3 ⟨rfl,a8,cQ,aU⟩;refine zgl ?_;refine qy H (fun bC H=>?_) (fun bC H=>?_)
     ·refine ax ?_;exact nm H (jj aU)
     ·refine zbe _ rfl ?_;exact nj ⟨a1,H,jj aU⟩
    ·rintro E ds ⟨z,H,S,rfl,cN,x⟩;refine zfl ?_;refine zfl ?_;obtain ⟨ct,cb,H⟩:=zaj H;refine zja (fun E wq=>E=[(0,pl gp0 0),(4,pl A 0),(5,pl B 0),(9,.i .i64 z),(54,.b (decide (z < (x0.exps.length:Int))&&decide (ct.seq=x1.seq)))] ∧ ∃ Y:Frz,S.le Y∧St X w F Y [.box B [.i .i64 x2.vol,.i .i64 x2.file,.i .i64 x2.off,.i .i64 x2.len],.box A (([.i .i64 x1.kind]:List Val)++zam x1.id++([.i .i64 x1.seq,.i .i64 x1.of,.i .i64 x1.off,.i .i64 x1.len]:List Val)),.box gp0 [.i .i64 x0.seq,f,g,m,j],.row Snap.t f x0.snaps,.row Chunk.t g x0.chunks,.row Exp.t m x0.exps,.row Vol.t j x0.vols] wq) ?_ ?_
     ·
      rcases Bool.eq_false_or_eq_true (decide (z < (x0.exps.length:Int))) with J | J
      ·refine rn ?_;refine q3 ?_;refine qf Ty.zin ?_;refine qb 2 Ty.zkm x ?_;refine qr (zdh Tryz.underlying36 rfl (x.rowLn (k:=5) rfl)) ?_;refine qr (zbc rfl rfl ziy) ?_;refine qc ?_;refine qvb 42 J ?_;refine q2 ?_;refine qf Ty.zin ?_;refine qb 2 Ty.zkm x ?_;refine qc ?_;have bh:=cb;rw [zck J] at bh;obtain ⟨bN,cd⟩:=zaf bh;obtain ⟨c2,bS,ar⟩:=x.rowAt (k:=5) rfl cd;obtain ⟨dd,rfl,cC⟩:=bS;replace ar:=qj 3 ar;have ba:=ar.ixd;refine qi Tryz.underlying36 Ty.zto ba bN ?_;refine qr (zga 0 Ty.zuo rfl ba) ?_;refine qr (zej 0 Ty.zjg rfl ar (by first | omega | rfl) rfl) ?_;refine qf Ty.zrr ?_;refine qb 1 Ty.zjg x ?_;refine qr (zbc rfl rfl zhh) ?_;refine qc ?_;refine zew ?_;exact zdy _ ⟨rfl,S,(Frz.le.refl _),x⟩ ⟨rfl,rfl,rfl,rfl,(zbu rfl (by first | rfl | (rw [J];first | done | rfl) | simp [J])),trivial⟩
      ·refine rn ?_;refine q3 ?_;refine qf Ty.zin ?_;refine qb 2 Ty.zkm x ?_;refine qr (zdh Tryz.underlying36 rfl (x.rowLn (k:=5) rfl)) ?_;refine qr (zbc rfl rfl ziy) ?_;refine qc ?_;refine qvb 42 J ?_;refine qz2 ?_;refine qz2 ?_;refine qz2 ?_;refine qz2 ?_;refine qz2 ?_;refine qz ?_;refine qc ?_;refine zew ?_;exact zdy _ ⟨rfl,S,(Frz.le.refl _),x⟩ ⟨rfl,rfl,rfl,rfl,(zbu rfl (by first | rfl | (rw [J];first | done | rfl) | simp [J])),trivial⟩
     rintro E bp ⟨rfl,Y,cO,a⟩;refine zgl ?_;refine qy H (fun bA H=>?_) (fun bA H=>?_)
     ·refine zfl ?_;obtain ⟨aK,bg,cp,bT,H⟩:=bd2 H;have L:=a.boxAt 2 rfl;refine zbw (G:=(Y.hold bp [gp0])) [0,1,2,3,4,5,6,7,8,9,10,11,12,13,14,15,16,17] rfl Ty.mixed (by kernel_rfl) (HB.agree (HB.cons 2 L a rfl HB.nil) a.agree) ?_;refine au ?_;refine qr (zdo Ty.zkm rfl (L.held (HB.cons 2 L a rfl HB.nil) (by simp)) rfl) ?_;obtain ⟨_,⟨de,rfl,bX⟩,bH⟩:=elr 3 5 a bg;refine au ?_;refine qq (zej 2 Ty.zgj rfl bH (by first | omega | rfl) rfl) ?_;refine qq (zdx 0 (Loc.cells x2) Ty.ztb Ty.zhu (Nat.zero_lt_succ _) rfl a rfl (fun q u h=>zdp (post:=[]) rfl h)) ?_;refine ql (zgq a.good bX bT) ?_;rintro bo dt ⟨c1,_,rfl,aY⟩;have am:=a.call aY;have cn:=aY.ext;refine Nxt.frz (HB.le (HB.cons 3 L am rfl HB.nil) cn) (HB.agree (HB.cons 3 L am rfl HB.nil) am.agree) ?_;refine au ?_;obtain ⟨bu,cj,aD,ap⟩:=am.freezeR 0 [1,2,3,4,5,6,7] rfl (by decide) (by decide);refine W_rg (HB.le (HB.cons 2 L ap rfl HB.nil) cj) (HB.agree (HB.cons 2 L ap rfl HB.nil) ap.agree) ?_;refine qu (ziv (c:=[bo]) 5 (z.toNat) 2 aK (Exp.mk aK.seq aK.of cp) rfl rfl ap rfl (zaf bg).2 (by first | rfl | (show _=_*3+_;omega)) aD.ln.cells Ty.zml (by simp only [List.all_cons,List.all_nil,List.all_append,aD.ln.one];rfl) (Nat.le_of_ble_eq_true rfl) (by rintro cs ⟨a2,rfl,b2⟩;exact ⟨bo,rfl,aD⟩)) ?_;rintro _ du aR;refine qh 2 L aR ?_;refine qn ?_;refine aq ?_;obtain rfl:=oi H;refine qt ?_;exact ⟨bu,m,rfl,aR.pick [2,3,4,5,6] (by decide)⟩
     ·refine ay ?_;obtain ⟨cG,bc,cH,bJ,H⟩:=bd2 H;obtain ⟨cI,bK,H⟩:=zaj H;have d:=a.boxAt 1 rfl;have e:=a.boxAt 0 rfl;refine zbw (G:=(Y.hold bp [A,B])) [0,1,2,3,4,5,6,8,9,10,11,12,13,14,15,7,16,17] rfl Ty.mixed (by kernel_rfl) (HB.agree (HB.cons 1 d a rfl (HB.cons 0 e a rfl HB.nil)) a.agree) ?_;refine au ?_;refine zlb 5 0 z rfl rfl rfl rfl Tryz.underlying36 Ty.zto rfl (.inl ⟨rfl,rfl⟩) (.inr ⟨_,_,rfl,rfl⟩) a rfl bc ?_;intro cR cE bZ;refine au ?_;refine qr (zdo Ty.zjg rfl (d.held (HB.cons 1 d a rfl (HB.cons 0 e a rfl HB.nil)) (by simp)) rfl) ?_;refine au ?_;refine qr (zdo Ty.zjg rfl (d.held (HB.cons 1 d a rfl (HB.cons 0 e a rfl HB.nil)) (by simp)) rfl) ?_;refine qr (O_fldg (Loc.cells x2) Ty.ztb Ty.zhu (Nat.zero_lt_succ _) rfl (e.held (HB.cons 1 d a rfl (HB.cons 0 e a rfl HB.nil)) (by simp)) (fun q u h=>zdp (post:=[]) rfl h)) ?_;refine qx (E_bs (t:=Loc.t) (vs:=[.agg (Loc.cells x2)]) (xs:=[x2]) Tryz.underlying44 Ty.zss rfl ⟨rfl,trivial⟩ rfl rfl a) ?_;rintro a4 dv O;refine Nxt.frz (HB.le (HB.cons 2 d O rfl (HB.cons 1 e O rfl HB.nil)) (Frz.le.refl _)) (HB.agree (HB.cons 2 d O rfl (HB.cons 1 e O rfl HB.nil)) O.agree) ?_;have bE:=(O.rowLn (k:=0) rfl).cells;refine qr (zlm (vs:=[(0,.i .i64 x1.seq),(1,.i .i64 x1.of),(2,a4)]) (v:=.agg (Exp.cells (Exp.mk x1.seq x1.of [x2]) a4)) Ty.bld55 rfl (by simp only [zkr,bE];rfl)) ?_;obtain ⟨cx,ck,bI,V⟩:=O.freezeR 0 [1,2,3,4,5,6,7] rfl (by decide) (by decide);refine W_rg (HB.le (HB.cons 1 d V rfl (HB.cons 0 e V rfl HB.nil)) ck) (HB.agree (HB.cons 1 d V rfl (HB.cons 0 e V rfl HB.nil)) V.agree) ?_;refine qx (E_bs (t:=Exp.t) (vs:=[.agg (Exp.cells (Exp.mk x1.seq x1.of [x2]) a4)]) (xs:=[(Exp.mk x1.seq x1.of [x2])]) Tryz.underlying36 Ty.zvg rfl ⟨⟨a4,rfl,bI⟩,trivial⟩ rfl rfl V) ?_;rintro cV dw U;refine Nxt.frz (HB.le (HB.cons 2 d U rfl (HB.cons 1 e U rfl HB.nil)) (Frz.le.refl _)) (HB.agree (HB.cons 2 d U rfl (HB.cons 1 e U rfl HB.nil)) U.agree) ?_;have aT:=U.nilRow Exp.t;refine qx (zep (t:=Exp.t) 0 Tryz.underlying36 Ty.zvg Ty.zk36 rfl rfl aT rfl ((aT.rowSrc (k:=7) rfl).piece bZ bc) bJ) ?_;rintro dg dx P;refine Nxt.frz (HB.le (HB.cons 3 d P rfl (HB.cons 2 e P rfl HB.nil)) (Frz.le.refl _)) (HB.agree (HB.cons 3 d P rfl (HB.cons 2 e P rfl HB.nil)) P.agree) ?_
      refine qx (zep (t:=Exp.t) 0 Tryz.underlying36 Ty.zvg Ty.zk36 rfl rfl P rfl (P.rowSrc (k:=1) rfl) bK) ?_;rintro dh dy Q;refine Nxt.frz (HB.le (HB.cons 3 d Q rfl (HB.cons 2 e Q rfl HB.nil)) (Frz.le.refl _)) (HB.agree (HB.cons 3 d Q rfl (HB.cons 2 e Q rfl HB.nil)) Q.agree) ?_;obtain ⟨cJ,bL,bj,bM,H⟩:=bd2 H;refine ax ?_;refine zlb 7 z (x0.exps.length:Int) rfl rfl rfl rfl Tryz.underlying36 Ty.zto rfl (.inr ⟨_,_,rfl,rfl⟩) (.inl ⟨rfl,rfl⟩) Q rfl bL ?_;intro cS bY cF;refine xm (zep (t:=Exp.t) 0 Tryz.underlying36 Ty.zvg Ty.zk36 rfl rfl Q rfl bY bM) ?_;rintro a6 dz c5;refine au ?_;refine sc 4 ([.i .i64 x0.seq,f,g,a6,j]) ?_;intro d0 b4;refine ay ?_;refine rn ?_;refine aw ?_;refine qy H (fun bB H=>?_) (fun bB H=>?_)
      ·refine ax ?_;refine sc 4 ([.i .i64 (wr (x1.seq+1)),f,g,a6,j]) ?_;intro d1 b5;refine ax ?_;exact nj ⟨wr (x1.seq+1),bj,x0.chunks,H,⟨_,a6,rfl,lec,pk [4,5,6,8,0] b5⟩⟩
      ·refine ax ?_;exact nj ⟨x0.seq,bj,x0.chunks,H,⟨_,a6,rfl,lec,pk [4,5,6,8,0] b4⟩⟩
 ·rintro E w3 ⟨i4,l5,l8,H,Z,u6,rfl,cM,b1⟩;refine aq ?_;obtain rfl:=oi H;refine qt ?_;exact ⟨Z,u6,rfl,b1.pick [0,1,2,4,3] (by decide)⟩
def zbr.k1 (l2:List Loc):Option (List Loc) :=
  some l2
def zbr.k3 (a:Int) (b:((List Loc) × Int)→Option (List Loc)) (l13:List Loc):Option (List Loc) :=
  b (l13,wr (a+1))
def zbr.l2 (x0:List Loc) (x1:Int) (b:((List Loc) × Int)→Option (List Loc)):((List Loc) × Int)→Option (List Loc)
  | (l6,a) =>
    if decide (a < (x0.length:Int)) then
      bd (ix x0 a) fun d =>
      if decide (d.vol≠x1) then
        bd (ix x0 a) fun e =>
        bd (app (α:=Loc) l6 [e]) fun c =>
        zbr.k3 a b c
      else
        zbr.k3 a b l6
    else
      zbr.k1 l6
def zbr (x0:List Loc) (x1:Int):Option (List Loc) :=
  loop (zbr.l2 x0 x1) ([],0)
theorem zhq {x0:List Loc} {x1:Int} {r:(List Loc)} {g:Val} (hA:Gd F w) (j:SlF Loc.t F g x0) (H:zbr x0 x1=some r):Ret Tryz.prog K 121 [g,.i .i64 x1] w fun v w'=>∃ (F':Frz) (p:Val),v=p∧St [] w F F' [.row Loc.t p (r)] w':=by
 refine qa2 Tryz.func121 ?_;have hS:=St.start hA;refine aq ?_;refine aq ?_;refine zac (fun E wq=>∃ l2:List Loc,zbr.k1 l2=some r ∧ ∃ (b:Frz) (f:Val),E=[(5,f)]∧F.le b∧Also hS [.row Loc.t f l2] b wq) ?_ ?_
 ·refine ax ?_;refine zbo (fun (s:(List Loc) × Int) E wq=>∃ (c:Frz) (a:Val),E=[(0,g),(1,.i .i64 x1),(5,a),(6,.i .i64 s.2)]∧F.le c∧Also hS [.row Loc.t a s.1] c wq) H ?_ ?_
  ·have z:=hS.nilRow Loc.t;exact lo ⟨F,(.sl none 0 (.k 0)),rfl,(Frz.le.refl _),z⟩
  ·rintro L ⟨l6,m⟩ E Y hI H
   try dsimp only at hI
   obtain ⟨c,a,rfl,n,d⟩:=hI;refine ay ?_;refine qy H (fun A H=>?_) (fun A H=>?_)
   ·refine qk ?_;refine zac (fun E wq=>∃ l13:List Loc,zbr.k3 m L l13=some r ∧ ∃ (h:Frz) (e:Val),E=[(0,g),(1,.i .i64 x1),(5,e),(6,.i .i64 m)]∧c.le h∧Also d [.row Loc.t e l13] h wq) ?_ ?_
    ·obtain ⟨Z,G,H⟩:=zaj H;obtain ⟨_,rfl,_⟩:=elx 4 (j.mono n) G;refine ax ?_;refine qy H (fun B H=>?_) (fun B H=>?_)
     ·obtain ⟨q,I,J,D,H⟩:=bd2 H;obtain ⟨_,rfl,O⟩:=elx 4 (j.mono n) I;refine ax ?_;refine xm (E_bs (t:=Loc.t) (vs:=[.agg (Loc.cells q)]) (xs:=[q]) Tryz.underlying44 Ty.zss rfl ⟨rfl,trivial⟩ rfl rfl d) ?_;rintro R V l;refine xm (zep (t:=Loc.t) 1 Tryz.underlying44 Ty.zss Ty.zk44 rfl rfl l rfl (l.rowSrc (k:=0) rfl) D) ?_;rintro M X y;refine ax ?_;exact nj ⟨J,H,⟨_,M,rfl,lec,pk [1] y⟩⟩
     ·refine ax ?_;exact nj ⟨l6,H,⟨_,a,rfl,lec,d⟩⟩
    ·rintro E U ⟨l13,H,h,e,rfl,Q,x⟩;refine ax ?_;exact nm H ⟨_,e,rfl,lec,x⟩
   ·refine zbe _ rfl ?_;exact nj ⟨l6,H,⟨_,a,rfl,lec,d⟩⟩
 ·rintro E S ⟨l2,H,b,f,rfl,P,u⟩;refine aq ?_;obtain rfl:=oi H;refine qt ?_;exact ⟨b,f,rfl,u⟩
def zaa.k1 (a:Int) (l4:List Chunk) (l7:List Exp) (l10:List Snap) (l12:List Vol):Option (Int × Catalog) :=
  some (0,(Catalog.mk a l10 l4 l7 l12))
def zaa.l3 (x0:Catalog) (x1:Change) (c:List Snap) (e:(Int × (List Chunk))→Option (Int × Catalog)):(Int × (List Chunk))→Option (Int × Catalog)
  | (a,b) =>
    if decide (a < (x1.chunks.length:Int)) then
      bd (ix x1.chunks a) fun f =>
      bd (zbt b f) fun d =>
      e (wr (a+1),d)
    else
      zaa.k1 (wr (x0.seq+1)) b x0.exps c x0.vols
def zaa.k2 (x0:Catalog) (x1:Change) (a:Bool):Option (Int × Catalog) :=
  if (!a) then
    some (1,x0)
  else
    bd (zcl x0 x1.snap.man.name) fun c =>
    if decide (0≤c) then
      some (9,x0)
    else
      bd (app (α:=Snap) x0.snaps [x1.snap]) fun b =>
      loop (zaa.l3 x0 x1 b) (0,x0.chunks)
def zaa.l4 (x0:Catalog) (x1:Change) (d:(Bool × Int)→Option (Int × Catalog)):(Bool × Int)→Option (Int × Catalog)
  | (a,b) =>
    if decide (b < (x1.chunks.length:Int)) then
      bd (only a (ix x1.chunks b) (Chunk.mk (List.replicate 32 (0:UInt8)) false [] [])) fun c =>
      bd (only (a&&c.staged) (ix x1.chunks b) (Chunk.mk (List.replicate 32 (0:UInt8)) false [] [])) fun e =>
      d (((a&&c.staged)&&decide ((e.locs.length:Int)=0)),wr (b+1))
    else
      zaa.k2 x0 x1 a
def zaa.k9 (a:Int) (c:(Int × (List Chunk))→Option (Int × Catalog)) (b:List Chunk):Option (Int × Catalog) :=
  c (wr (a+1),b)
def zaa.l8 (x1:Change) (g:Int) (h:List Snap) (i:List Exp) (j:List Vol) (e:(Int × (List Chunk))→Option (Int × Catalog)):(Int × (List Chunk))→Option (Int × Catalog)
  | (b,a) =>
    if decide (b < (x1.items.length:Int)) then
      bd (ix x1.items b) fun k =>
      if decide (k.kind=1) then
        bd (ix x1.items b) fun l =>
        bd (zbs (Catalog.mk g h a i j) l.id) fun c =>
        if decide (0≤c) then
          bd (ix a c) fun d =>
          bd (ix (a.set c.toNat (Chunk.mk d.id false d.data d.locs)) c) fun f =>
          zaa.k9 b e ((a.set c.toNat (Chunk.mk d.id false d.data d.locs)).set c.toNat (Chunk.mk f.id f.staged [] f.locs))
        else
          zaa.k9 b e a
      else
        zaa.k9 b e a
    else
      zaa.k1 g a i h j
def zaa.k7 (x1:Change) (b:Int) (c:List Snap) (d:List Chunk) (e:List Exp) (a:List Vol):Option (Int × Catalog) :=
  bd (ix a x1.vol) fun f =>
  if decide (f.pool=0) then
    loop (zaa.l8 x1 b c e a) (0,d)
  else
    zaa.k1 b d e c a
def zaa.k11 (a:Int) (g:(Int × Int × (List Snap) × (List Chunk) × (List Exp) × (List Vol))→Option (Int × Catalog)) (b:Int) (c:List Snap) (d:List Chunk) (e:List Exp) (f:List Vol):Option (Int × Catalog) :=
  g (wr (a+1),b,c,d,e,f)
def zaa.l10 (x1:Change) (h:(Int × Int × (List Snap) × (List Chunk) × (List Exp) × (List Vol))→Option (Int × Catalog)):(Int × Int × (List Snap) × (List Chunk) × (List Exp) × (List Vol))→Option (Int × Catalog)
  | (a,c,d,e,f,g) =>
    if decide (a < (x1.items.length:Int)) then
      bd (ix x1.items a) fun i =>
      if decide (i.kind=3) then
        bd (ix x1.items a) fun j =>
        bd (zap (Catalog.mk c d e f g) j.of) fun b =>
        zaa.k11 a h b.2.seq b.2.snaps b.2.chunks b.2.exps b.2.vols
      else
        zaa.k11 a h c d e f g
    else
      zaa.k7 x1 c d e f g
def zaa.k6 (x1:Change) (a:Int) (b:List Snap) (c:List Chunk) (d:List Exp) (e:List Vol):Option (Int × Catalog) :=
  loop (zaa.l10 x1) (0,a,b,c,d,e)
def zaa.l12 (x1:Change) (i:(Int × Int × (List Snap) × (List Chunk) × (List Exp) × (List Vol))→Option (Int × Catalog)):(Int × Int × (List Snap) × (List Chunk) × (List Exp) × (List Vol))→Option (Int × Catalog)
  | (b,e,f,g,h,c) =>
    if decide (b < (x1.items.length:Int)) then
      bd (ix x1.items b) fun d =>
      bd (ix c x1.vol) fun j =>
      bd (zau (Catalog.mk e f g h c) d (Loc.mk x1.vol j.files d.off d.len)) fun a =>
      if (!a.1) then
        some (8,a.2)
      else
        i (wr (b+1),a.2.seq,a.2.snaps,a.2.chunks,a.2.exps,a.2.vols)
    else
      zaa.k6 x1 e f g h c
def zaa.k5 (x1:Change) (a:Bool × Catalog) (c:Bool):Option (Int × Catalog) :=
  if (!c) then
    some (1,a.2)
  else
    bd (ix a.2.vols x1.vol) fun b =>
    loop (zaa.l12 x1) (0,a.2.seq,a.2.snaps,a.2.chunks,a.2.exps,((a.2.vols.set x1.vol.toNat (Vol.mk b.pool b.epoch 2 b.files)).set x1.vol.toNat (Vol.mk b.pool b.epoch 2 (wr (b.files+1)))))
def zaa.l13 (x1:Change) (d:Bool × Catalog) (e:(Bool × Int)→Option (Int × Catalog)):(Bool × Int)→Option (Int × Catalog)
  | (a,b) =>
    if decide (b < (x1.items.length:Int)) then
      bd (only a (ix x1.items b) (Item.mk 0 (List.replicate 32 (0:UInt8)) 0 0 0 0)) fun c =>
      bd (only (a&&decide (1≤c.kind)) (ix x1.items b) (Item.mk 0 (List.replicate 32 (0:UInt8)) 0 0 0 0)) fun f =>
      e (((a&&decide (1≤c.kind))&&decide (f.kind≤3)),wr (b+1))
    else
      zaa.k5 x1 d a
def zaa.k16 (x1:Change) (c:Bool × Catalog) (a:Vol) (b:Vol) (d:List Chunk) (e:List Snap) (f:List Exp):Option (Int × Catalog) :=
  zaa.k1 c.2.seq d f e ((c.2.vols.set x1.vol.toNat (Vol.mk a.pool a.epoch 3 a.files)).set x1.vol.toNat (Vol.mk b.pool b.epoch b.state 0))
def zaa.k18 (a:Int) (c:((List Exp) × Int)→Option (Int × Catalog)) (b:List Exp):Option (Int × Catalog) :=
  c (b,wr (a+1))
def zaa.l17 (x1:Change) (c:Bool × Catalog) (j:Vol) (k:Vol) (g:List Chunk) (h:List Snap) (f:((List Exp) × Int)→Option (Int × Catalog)):((List Exp) × Int)→Option (Int × Catalog)
  | (b,a) =>
    if decide (a < (c.2.exps.length:Int)) then
      bd (ix c.2.exps a) fun d =>
      bd (zbr d.locs x1.vol) fun e =>
      if decide (0 < (e.length:Int)) then
        bd (app (α:=Exp) b [(Exp.mk d.seq d.of e)]) fun i =>
        zaa.k18 a f i
      else
        zaa.k18 a f b
    else
      zaa.k16 x1 c j k g h b
def zaa.k15 (x1:Change) (c:Bool × Catalog) (d:Vol) (e:Vol) (a:List Chunk) (b:List Snap):Option (Int × Catalog) :=
  loop (zaa.l17 x1 c d e a b) ([],0)
def zaa.l19 (x1:Change) (e:Bool × Catalog) (h:Vol) (i:Vol) (d:List Chunk) (g:(Int × (List Snap))→Option (Int × Catalog)):(Int × (List Snap))→Option (Int × Catalog)
  | (a,b) =>
    if decide (a < (b.length:Int)) then
      bd (ix b a) fun c =>
      bd (zbr c.locs x1.vol) fun f =>
      g (wr (a+1),(b.set a.toNat (Snap.mk c.seq c.man f)))
    else
      zaa.k15 x1 e h i d b
def zaa.k14 (x1:Change) (a:Bool × Catalog) (c:Vol) (d:Vol) (b:List Chunk):Option (Int × Catalog) :=
  loop (zaa.l19 x1 a c d b) (0,a.2.snaps)
def zaa.k21 (a:Int) (c:((List Chunk) × Int)→Option (Int × Catalog)) (b:List Chunk):Option (Int × Catalog) :=
  c (b,wr (a+1))
def zaa.l20 (x1:Change) (d:Bool × Catalog) (h:Vol) (i:Vol) (f:((List Chunk) × Int)→Option (Int × Catalog)):((List Chunk) × Int)→Option (Int × Catalog)
  | (c,b) =>
    if decide (b < (d.2.chunks.length:Int)) then
      bd (ix d.2.chunks b) fun a =>
      bd (zbr a.locs x1.vol) fun e =>
      if (a.staged||decide (0 < (e.length:Int))) then
        bd (app (α:=Chunk) c [(Chunk.mk a.id a.staged a.data e)]) fun g =>
        zaa.k21 b f g
      else
        zaa.k21 b f c
    else
      zaa.k14 x1 d h i c
def zaa (x0:Catalog) (x1:Change):Option (Int × Catalog) :=
  if decide (x1.kind=1) then
    loop (zaa.l4 x0 x1) ((decide (x1.snap.seq=x0.seq)&&decide ((x1.snap.locs.length:Int)=0)),0)
  else
    if decide (x1.kind=2) then
      bd (zap x0 x1.seq) fun b =>
      if (!b.1) then
        some (8,b.2)
      else
        zaa.k1 b.2.seq b.2.chunks b.2.exps b.2.snaps b.2.vols
    else
      if decide (x1.kind=3) then
        bd (zfo x0 x1.vol 1 2) fun g =>
        loop (zaa.l13 x1 g) (((g.1&&decide (1≤(x1.items.length:Int)))&&decide ((x1.items.length:Int)≤64)),0)
      else
        if decide (x1.kind=4) then
          bd (zfo x0 x1.vol 2 2) fun d =>
          if (!d.1) then
            some (1,d.2)
          else
            bd (ix d.2.vols x1.vol) fun e =>
            bd (ix (d.2.vols.set x1.vol.toNat (Vol.mk e.pool e.epoch 3 e.files)) x1.vol) fun h =>
            loop (zaa.l20 x1 d e h) ([],0)
        else
          if decide (x1.kind=5) then
            bd (zfo x0 x1.vol 3 3) fun a =>
            if (!a.1) then
              some (1,a.2)
            else
              bd (ix a.2.vols x1.vol) fun c =>
              bd (ix (a.2.vols.set x1.vol.toNat (Vol.mk c.pool c.epoch 1 c.files)) x1.vol) fun f =>
              zaa.k1 a.2.seq a.2.chunks a.2.exps a.2.snaps ((a.2.vols.set x1.vol.toNat (Vol.mk c.pool c.epoch 1 c.files)).set x1.vol.toNat (Vol.mk f.pool (wr (c.epoch+1)) f.state f.files))
          else
            zaa.k1 x0.seq x0.chunks x0.exps x0.snaps x0.vols
set_option maxHeartbeats 2000000 in
theorem zmv {X:List Nat} {x0:Catalog} {x1:Change} {r:Int × Catalog} {gp0:Nat} {g:Val} {n:Val} {j:Val} {a:Val} {p:Val} {x:Val} {y:Val} {z:Val} (hS:St X w F F [.box gp0 [.i .i64 x0.seq,g,n,j,a],.row Snap.t g x0.snaps,.row Chunk.t n x0.chunks,.row Exp.t j x0.exps,.row Vol.t a x0.vols] w) (ed:SlF Part.t F p x1.snap.man.parts) (ee:SlF Loc.t F x x1.snap.locs) (b4:SlF Chunk.t F y x1.chunks) (J:SlF Item.t F z x1.items) (H:zaa x0 x1=some r):Ret Tryz.prog K 73 [pl gp0 0,.agg (Change.cells x1 p x y z)] w fun v w'=>∃ (F':Frz) (dY:Val) (dZ:Val) (ea:Val),v = .i .i64 r.1∧St X w F F' [.box gp0 [.i .i64 r.2.seq,dY,dZ,ea,a],.row Snap.t dY r.2.snaps,.row Chunk.t dZ r.2.chunks,.row Exp.t ea r.2.exps,.row Vol.t a r.2.vols] w':=by
 refine qa2 Tryz.func73 ?_;refine qs ?_;refine bx ([.i .i64 x1.kind,.i .i64 x1.snap.seq,.s x1.snap.man.name,p,x,y,.i .i64 x1.seq,.i .i64 x1.vol,z]) ?_;intro e w1 L;refine au ?_;refine zac (fun E wq=>∃ i3:Int,∃ l4:List Chunk,∃ l7:List Exp,∃ l10:List Snap,∃ l12:List Vol,zaa.k1 i3 l4 l7 l10 l12=some r ∧ ∃ (F2:Frz) (u5:Val) (u8:Val) (bI:Val),E=[]∧F.le F2∧Also L [.box gp0 [.i .i64 i3,bI,u5,u8,a],.row Snap.t bI l10,.row Vol.t a l12,.row Chunk.t u5 l4,.row Exp.t u8 l7] F2 wq) ?_ ?_
 ·refine ax ?_;refine qy H (fun e5 H=>?_) (fun e5 H=>?_)
  ·refine zfl ?_;refine rn ?_;refine aw ?_;refine zac (fun E wq=>∃ cd:Bool,zaa.k2 x0 x1 cd=some r ∧ ∃ (aD:Frz),E=[(0,pl gp0 0),(3,pl e 0),(5,.b cd)]∧F.le aD∧Same L aD wq) ?_ ?_
   ·refine ax ?_;refine zbo (fun (s:Bool × Int) E wq=>∃ (a4:Frz),E=[(0,pl gp0 0),(3,pl e 0),(5,.b s.1),(6,.i .i64 s.2)]∧F.le a4∧Same L a4 wq) H ?_ ?_
    ·exact lo (jj L)
    ·rintro hB ⟨ce,fR⟩ E iS hI H
     try dsimp only at hI
     obtain ⟨a4,rfl,cR,S⟩:=hI;refine ay ?_;refine qy H (fun eN H=>?_) (fun eN H=>?_)
     ·refine qk ?_;refine zfl ?_;refine zfa ?_;obtain ⟨dX,d8,gx,fK,H⟩:=bd2 H;refine zja (fun E wq=>E=[(0,pl gp0 0),(3,pl e 0),(5,.b ((ce&&dX.staged)&&decide ((gx.locs.length:Int)=0))),(6,.i .i64 fR)] ∧ ∃ ca:Frz,a4.le ca∧St X w F ca [.box e [.i .i64 x1.kind,.i .i64 x1.snap.seq,.s x1.snap.man.name,p,x,y,.i .i64 x1.seq,.i .i64 x1.vol,z],.box gp0 [.i .i64 x0.seq,g,n,j,a],.row Snap.t g x0.snaps,.row Chunk.t n x0.chunks,.row Exp.t j x0.exps,.row Vol.t a x0.vols] wq) ?_ ?_
      ·
       rcases Bool.eq_false_or_eq_true ce with D | D
       ·
        rcases Bool.eq_false_or_eq_true dX.staged with ae | ae
        ·refine qd ?_;refine q2 ?_;refine qvb 49 D ?_;refine qf Ty.zqp ?_;refine qb 0 Ty.zft S ?_;refine qc ?_;have dB:=d8;rw [zck D] at dB;obtain ⟨fh,fN⟩:=zaf dB;obtain ⟨gA,fw,bA⟩:=(b4.mono cR).el fN;obtain ⟨gn,go,rfl,fg,f7,f8⟩:=fw;replace bA:=qj 35 bA;have dw:=bA.ixd;refine qi Tryz.underlying35 Ty.zdv dw fh ?_;refine qr (zga 32 Ty.zim rfl dw) ?_;refine qr (zej 32 Ty.zxy rfl (bA.mono S.agree) (by first | omega | rfl) rfl) ?_;refine q2 ?_;refine qvb 57 ae ?_;refine qf Ty.zqp ?_;refine qb 0 Ty.zft S ?_;refine qc ?_;have dC:=fK;rw [zck (by first | rfl | (rw [ae,D];first | done | rfl) | simp [D,ae])] at dC;obtain ⟨fi,fO⟩:=zaf dC;obtain ⟨gB,fx,bB⟩:=(b4.mono cR).el fO;obtain ⟨hO,hP,rfl,gV,hd,f9⟩:=fx;replace bB:=qj 35 bB;have dx:=bB.ixd;refine qi Tryz.underlying35 Ty.zdv dx fi ?_;refine qr (zga 34 Ty.zhc rfl dx) ?_;refine qr (zej 34 Ty.zgj rfl (bB.mono S.agree) (by first | omega | rfl) rfl) ?_;refine qr (zdh Tryz.underlying44 rfl f9.ln) ?_;refine qr (zbc rfl rfl zhh) ?_;refine q2 ?_;refine zew ?_;exact zdy _ ⟨rfl,a4,(Frz.le.refl _),S⟩ ⟨rfl,rfl,(zbu rfl (by first | rfl | (rw [ae,D];first | done | rfl) | simp [D,ae])),rfl,trivial⟩
        ·refine qd ?_;refine q2 ?_;refine qvb 49 D ?_;refine qf Ty.zqp ?_;refine qb 0 Ty.zft S ?_;refine qc ?_;have dD:=d8;rw [zck D] at dD;obtain ⟨fj,fP⟩:=zaf dD;obtain ⟨gC,fy,bC⟩:=(b4.mono cR).el fP;obtain ⟨gn,go,rfl,fg,f7,f8⟩:=fy;replace bC:=qj 35 bC;have dy:=bC.ixd;refine qi Tryz.underlying35 Ty.zdv dy fj ?_;refine qr (zga 32 Ty.zim rfl dy) ?_;refine qr (zej 32 Ty.zxy rfl (bC.mono S.agree) (by first | omega | rfl) rfl) ?_;refine q2 ?_;refine qvb 57 ae ?_;refine qz2 ?_;refine qz2 ?_;refine qz2 ?_;refine qz2 ?_;refine q2 ?_;refine zew ?_;exact zdy _ ⟨rfl,a4,(Frz.le.refl _),S⟩ ⟨rfl,rfl,(zbu rfl (by first | rfl | (rw [ae,D];first | done | rfl) | simp [D,ae])),rfl,trivial⟩
       ·refine qd ?_;refine q2 ?_;refine qvb 49 D ?_;refine qz2 ?_;refine qz2 ?_;refine qz2 ?_;refine q2 ?_;refine qz2 ?_;refine qz2 ?_;refine qz2 ?_;refine qz2 ?_;refine q2 ?_;refine zew ?_;exact zdy _ ⟨rfl,a4,(Frz.le.refl _),S⟩ ⟨rfl,rfl,(zbu rfl (by first | rfl | (rw [D];first | done | rfl) | simp [D])),rfl,trivial⟩
      rintro E iT ⟨rfl,ca,hw,ey⟩;refine ax ?_;exact nm H (jj ey)
     ·refine zbe _ rfl ?_;exact nj ⟨ce,H,jj S⟩
   ·rintro E im ⟨cd,H,aD,rfl,fX,Y⟩;refine ay ?_;refine qy H (fun eB H=>?_) (fun eB H=>?_)
    ·refine aq ?_;obtain rfl:=oi H;refine qt ?_;exact ⟨aD,g,n,j,rfl,Y.pick [1,2,3,4,5] (by decide)⟩
    ·refine ay ?_;obtain ⟨h5,fq,H⟩:=zaj H;refine rf Y ?_;refine au ?_;refine qq (zdx 1 (Catalog.cells x0 g n j a) Ty.zjo Ty.zgk (Nat.zero_lt_succ _) rfl Y rfl (fun q u h=>zdp (post:=[]) rfl h)) ?_;refine au ?_;refine lq (zjm (Gd.now Y.wf) (Y.rowNow (k:=2) rfl) (Y.rowNow (k:=3) rfl) (Y.rowNow (k:=4) rfl) (Y.rowNow (k:=5) rfl) fq) Y ?_;intro ir ej;refine au ?_;refine qy H (fun eE H=>?_) (fun eE H=>?_)
     ·refine aq ?_;obtain rfl:=oi H;refine qt ?_;exact ⟨aD,g,n,j,rfl,ej.pick [1,2,3,4,5] (by decide)⟩
     ·refine ax ?_;refine sc 1 ([.i .i64 (wr (x0.seq+1)),g,n,j,a]) ?_;intro i1 cm;refine ay ?_;obtain ⟨dN,fa,H⟩:=zaj H;refine rf cm ?_;refine au ?_;refine qq (zdx 0 (Snap.cells x1.snap p x) Ty.agg46 Ty.zpw (Nat.zero_lt_succ _) rfl cm rfl (fun q u h=>zdp (post:=[y,.i .i64 x1.seq,.i .i64 x1.vol,z]) rfl h)) ?_;refine qx (E_bs (t:=Snap.t) (vs:=[.agg (Snap.cells x1.snap p x)]) (xs:=[x1.snap]) Tryz.underlying34 Ty.row46 rfl ⟨⟨p,x,rfl,(mo ed),(mo ee)⟩,trivial⟩ rfl rfl cm) ?_;rintro hC i6 cn;refine qw cn ?_;refine qx (zep (t:=Snap.t) 3 Tryz.underlying34 Ty.row46 Ty.zk34 rfl rfl cn rfl (cn.rowSrc (k:=0) rfl) fa) ?_;rintro bo iC eq;refine qw eq ?_;refine au ?_;refine sC 2 ([.i .i64 (wr (x0.seq+1)),bo,n,j,a]) ?_;intro iF de;refine ax ?_;refine zbo (fun (s:Int × (List Chunk)) E wq=>∃ (bY:Frz) (bO:Val),E=[(0,pl gp0 0),(3,pl e 0),(7,.i .i64 s.1)]∧aD.le bY∧Also de [.box e [.i .i64 x1.kind,.i .i64 x1.snap.seq,.s x1.snap.man.name,p,x,y,.i .i64 x1.seq,.i .i64 x1.vol,z],.box gp0 [.i .i64 (wr (x0.seq+1)),bo,bO,j,a],.row Snap.t bo dN,.row Exp.t j x0.exps,.row Vol.t a x0.vols,.row Chunk.t bO s.2] bY wq) H ?_ ?_
      ·exact lo ⟨_,n,rfl,lec,pk [1,2,3,5,6,4] de⟩
      ·rintro hA ⟨hg,fV⟩ E iK hI H
       try dsimp only at hI
       obtain ⟨bY,bO,rfl,fZ,cp⟩:=hI;refine ay ?_;refine qy H (fun eM H=>?_) (fun eM H=>?_)
       ·refine ay ?_;obtain ⟨je,fJ,h6,fv,H⟩:=bd2 H;refine rf cp ?_;obtain ⟨_,⟨hM,hN,rfl,ff,f5,f6⟩,gN⟩:=elx 35 (b4.mono (fX.trans fZ)) fJ;refine au ?_;obtain ⟨g2,ga,eY,cr⟩:=cp.freezeR 5 [0,1,2,3,4] rfl (by decide) (by decide);refine W_rg ga cr.agree ?_;refine ql (zlk cr.good eY (mo f5) (mo f6) ff fv) ?_;rintro dU iQ ⟨g7,_,rfl,dt⟩;have ew:=cr.call dt;have gd:=dt.ext;refine Nxt.frz gd ew.agree ?_;refine au ?_;refine sC 2 ([.i .i64 (wr (x0.seq+1)),bo,dU,j,a]) ?_;intro iR ex;refine ax ?_;exact nm H ⟨_,dU,rfl,lec,pk [1,2,3,4,5,0] ex⟩
       ·refine ax ?_;exact nj ⟨wr (x0.seq+1),fV,x0.exps,dN,x0.vols,H,⟨_,bO,j,bo,rfl,lec,pk [1,2,4,5,3] cp⟩⟩
  ·refine aq ?_;refine qy H (fun eO H=>?_) (fun eO H=>?_)
   ·obtain ⟨bh,fz,H⟩:=zaj H;refine aq ?_;refine lm (zjl (x0:=x0) (x1:=x1.seq) (L.lendL [1,2,3,4,5] (by decide)) fz) ?_;rintro hW iU ⟨ec,ur63_b0_1,ur63_b0_2,rfl,du⟩;have dj:=L.backL [1,2,3,4,5] [0] (by decide) (by decide) du;have h3:=du.ext;refine au ?_;refine qy H (fun eP H=>?_) (fun eP H=>?_)
    ·refine aq ?_;obtain rfl:=oi H;refine qt ?_;exact ⟨ec,ur63_b0_1,ur63_b0_2,j,rfl,dj.pick [0,1,2,3,4] (by decide)⟩
    ·refine ax ?_;exact nj ⟨bh.2.seq,bh.2.chunks,bh.2.exps,bh.2.snaps,bh.2.vols,H,⟨_,ur63_b0_2,j,ur63_b0_1,rfl,lec,pk [0,1,4,2,3] dj⟩⟩
   ·refine aq ?_;refine qy H (fun eQ H=>?_) (fun eQ H=>?_)
    ·obtain ⟨gg,f0,H⟩:=zaj H;refine aq ?_;refine lm (zhp (x0:=x0) (x1:=x1.vol) (x2:=1) (x3:=2) (L.lendL [1,2,3,4,5] (by decide)) f0) ?_;rintro hX iV ⟨cX,rfl,dv⟩;have ct:=L.backL [1,2,3,4,5] [0] (by decide) (by decide) dv;have a6:=dv.ext;refine aw ?_;refine zac (fun E wq=>∃ cf:Bool,zaa.k5 x1 gg cf=some r ∧ ∃ (aJ:Frz),E=[(0,pl gp0 0),(3,pl e 0),(8,.b cf)]∧cX.le aJ∧Same ct aJ wq) ?_ ?_
     ·refine ax ?_;refine zbo (fun (s:Bool × Int) E wq=>∃ (bU:Frz),E=[(0,pl gp0 0),(3,pl e 0),(8,.b s.1),(9,.i .i64 s.2)]∧cX.le bU∧Same ct bU wq) H ?_ ?_
      ·exact lo (jj ct)
      ·rintro h8 ⟨cc,hf⟩ E il hI H
       try dsimp only at hI
       obtain ⟨bU,rfl,dQ,da⟩:=hI;refine ay ?_;refine qy H (fun eA H=>?_) (fun eA H=>?_)
       ·refine ay ?_;obtain ⟨dW,bb,gv,bc,H⟩:=bd2 H;have dz:(dW.id).length=32:=by
         rcases Bool.eq_false_or_eq_true cc with cy | cy
         ·have d9:=bb;rw [zck cy] at d9;obtain ⟨gW,fL⟩:=zaf d9;obtain ⟨g8,fn,c1⟩:=(J.mono (a6.trans dQ)).el fL;obtain ⟨rfl,dz⟩:=fn;replace c1:=qj 37 c1;have gO:=c1.ixd;exact dz
         ·have hy:=bb;rw [zel cy] at hy;obtain rfl:=oi hy
          rfl
        have d0:(gv.id).length=32:=by
         rcases Bool.eq_false_or_eq_true (cc&&decide (1≤dW.kind)) with cz | cz
         ·have dA:=bc;rw [zck cz] at dA;obtain ⟨gX,fM⟩:=zaf dA;obtain ⟨g9,fo,c2⟩:=(J.mono (a6.trans dQ)).el fM;obtain ⟨rfl,d0⟩:=fo;replace c2:=qj 37 c2;have gP:=c2.ixd;exact d0
         ·have hy:=bc;rw [zel cz] at hy;obtain rfl:=oi hy
          rfl
        refine az ?_;refine ge (mo J) bb ?_;refine ge (mo J) bb ?_;refine ge (mo J) bb ?_;refine aw ?_;refine ge (mo J) bc ?_;refine ge (mo J) bc ?_;refine ge (mo J) bc ?_;refine az ?_;exact nm H (jj da)
       ·refine zbe _ rfl ?_;exact nj ⟨cc,H,jj da⟩
     ·rintro E iW ⟨cf,H,aJ,rfl,be,cu⟩;refine ay ?_;refine qy H (fun eR H=>?_) (fun eR H=>?_)
      ·refine aq ?_;obtain rfl:=oi H;refine qt ?_;exact ⟨aJ,g,n,j,rfl,cu.pick [0,1,2,3,4] (by decide)⟩
      ·refine ay ?_;obtain ⟨R,c4,H⟩:=zaj H;refine rn ?_;obtain ⟨_,rfl,_⟩:=elr 4 4 cu c4;refine ax ?_;refine um (ziv (c:=[.i .i64 2]) 4 (x1.vol.toNat) 2 R (Vol.mk R.pool R.epoch 2 R.files) rfl rfl cu rfl (zaf c4).2 (by first | rfl | (show _=_*4+_;omega)) rfl Ty.zre rfl (Nat.le_of_ble_eq_true rfl) (by rintro cs rfl;rfl)) ?_;rintro _ iX ez;refine au ?_;refine um (ziv (c:=[.i .i64 (wr (R.files+1))]) 4 (x1.vol.toNat) 3 (Vol.mk R.pool R.epoch 2 R.files) (Vol.mk R.pool R.epoch 2 (wr (R.files+1))) rfl rfl ez rfl (List.getElem?_set_self (by simpa using (List.getElem?_eq_some_iff.1 (zaf c4).2).1)) (by first | rfl | (show _=_*4+_;omega)) rfl Ty.zre rfl (Nat.le_of_ble_eq_true rfl) (by rintro cs rfl;rfl)) ?_;rintro _ iY cw;refine qn ?_;refine zac (fun E wq=>∃ c9:Int,∃ cN:List Snap,∃ cO:List Chunk,∃ cP:List Exp,∃ cQ:List Vol,zaa.k6 x1 c9 cN cO cP cQ=some r ∧ ∃ (aR:Frz) (A:Val),E=[(0,pl gp0 0),(3,pl e 0),(10,elp a (x1.vol.toNat*4))]∧aJ.le aR∧Also cw [.box gp0 [.i .i64 c9,g,n,A,a],.row Snap.t g cN,.row Chunk.t n cO,.row Exp.t A cP,.row Vol.t a cQ,.box e [.i .i64 x1.kind,.i .i64 x1.snap.seq,.s x1.snap.man.name,p,x,y,.i .i64 x1.seq,.i .i64 x1.vol,z]] aR wq) ?_ ?_
       ·refine ax ?_;refine zbo (fun (s:Int × Int × (List Snap) × (List Chunk) × (List Exp) × (List Vol)) E wq=>∃ (bT:Frz) (bL:Val),E=[(0,pl gp0 0),(3,pl e 0),(10,elp a (x1.vol.toNat*4)),(11,.i .i64 s.1)]∧aJ.le bT∧Also cw [.box gp0 [.i .i64 s.2.1,g,n,bL,a],.row Snap.t g s.2.2.1,.row Chunk.t n s.2.2.2.1,.row Exp.t bL s.2.2.2.2.1,.row Vol.t a s.2.2.2.2.2,.box e [.i .i64 x1.kind,.i .i64 x1.snap.seq,.s x1.snap.man.name,p,x,y,.i .i64 x1.seq,.i .i64 x1.vol,z]] bT wq) H ?_ ?_
        ·exact lo ⟨_,j,rfl,lec,cw⟩
        ·rintro h7 ⟨he,dG,dI,dJ,dK,dL⟩ E ij hI H
         try dsimp only at hI
         obtain ⟨bT,bL,rfl,fW,V⟩:=hI;refine ay ?_;refine qy H (fun e8 H=>?_) (fun e8 H=>?_)
         ·refine ay ?_;obtain ⟨a0,fF,cT,fG,H⟩:=bd2 H;obtain ⟨h4,fm,H⟩:=zaj H;refine rf V ?_;refine au ?_;refine qbq 5 Ty.zwd V ?_;obtain ⟨_,⟨rfl,fd⟩,gK⟩:=elx 37 (J.mono ((a6.trans be).trans fW)) fF;refine au ?_;refine qbq 5 Ty.zjg V ?_;obtain ⟨_,rfl,eT⟩:=elr 4 4 V fG;refine au ?_;refine qq (zej 3 Ty.zjg rfl eT (by first | omega | rfl) rfl) ?_;refine au ?_;refine qbq 5 Ty.zwd V ?_;refine au ?_;refine qbq 5 Ty.zwd V ?_;refine au ?_;refine W_c (v:=.agg (Loc.cells (Loc.mk x1.vol cT.files a0.off a0.len))) rfl rfl rfl rfl (fun _=>rfl) ?_;refine zoi (f:=120) (args:=[pl gp0 0,.agg (Item.cells a0),.agg (Loc.cells (Loc.mk x1.vol cT.files a0.off a0.len))]) rfl rfl rfl rfl (zmu (x0:=(Catalog.mk dG dI dJ dK dL)) (x1:=a0) (x2:=(Loc.mk x1.vol cT.files a0.off a0.len)) (V.lendL [0,1,2,3,4] (by decide)) fd fm) ?_;rintro hT ik ⟨eb,ur171_b0_3,rfl,dl⟩;have ci:=V.backL [0,1,2,3,4] [5] (by decide) (by decide) dl;have gb:=dl.ext;refine Nxt.frz gb ci.agree ?_;refine au ?_;refine qy H (fun e9 H=>?_) (fun e9 H=>?_)
          ·refine aq ?_;obtain rfl:=oi H;refine qt ?_;exact ⟨eb,g,n,ur171_b0_3,rfl,ci.pick [0,1,2,3,4] (by decide)⟩
          ·refine ax ?_;exact nm H ⟨_,ur171_b0_3,rfl,lec,ci⟩
         ·refine zbe _ rfl ?_;exact nj ⟨dG,dI,dJ,dK,dL,H,⟨_,bL,rfl,lec,V⟩⟩
       ·rintro E iZ ⟨c9,cN,cO,cP,cQ,H,aR,A,rfl,bF,cx⟩;refine zac (fun E wq=>∃ ah:Int,∃ ai:List Snap,∃ bE:List Chunk,∃ aj:List Exp,∃ ak:List Vol,zaa.k7 x1 ah ai bE aj ak=some r ∧ ∃ (bv:Frz) (P:Val) (Q:Val),E=[(0,pl gp0 0),(3,pl e 0),(10,elp a (x1.vol.toNat*4))]∧aR.le bv∧Also cx [.box gp0 [.i .i64 ah,P,Q,A,a],.row Snap.t P ai,.row Chunk.t Q bE,.row Exp.t A aj,.row Vol.t a ak,.box e [.i .i64 x1.kind,.i .i64 x1.snap.seq,.s x1.snap.man.name,p,x,y,.i .i64 x1.seq,.i .i64 x1.vol,z]] bv wq) ?_ ?_
        ·refine ax ?_;refine zbo (fun (s:Int × Int × (List Snap) × (List Chunk) × (List Exp) × (List Vol)) E wq=>∃ (bq:Frz) (bi:Val) (bj:Val),E=[(0,pl gp0 0),(3,pl e 0),(10,elp a (x1.vol.toNat*4)),(12,.i .i64 s.1)]∧aR.le bq∧Also cx [.box gp0 [.i .i64 s.2.1,bi,bj,A,a],.row Snap.t bi s.2.2.1,.row Chunk.t bj s.2.2.2.1,.row Exp.t A s.2.2.2.2.1,.row Vol.t a s.2.2.2.2.2,.box e [.i .i64 x1.kind,.i .i64 x1.snap.seq,.s x1.snap.man.name,p,x,y,.i .i64 x1.seq,.i .i64 x1.vol,z]] bq wq) H ?_ ?_
         ·exact lo ⟨_,g,n,rfl,lec,cx⟩
         ·rintro gi ⟨dF,c5,cC,cD,cE,cF⟩ E ig hI H
          try dsimp only at hI
          obtain ⟨bq,bi,bj,rfl,dP,aV⟩:=hI;refine ay ?_;refine qy H (fun e6 H=>?_) (fun e6 H=>?_)
          ·refine qk ?_;refine zac (fun E wq=>∃ c6:Int,∃ cG:List Snap,∃ cH:List Chunk,∃ cI:List Exp,∃ cJ:List Vol,zaa.k11 dF gi c6 cG cH cI cJ=some r ∧ ∃ (bS:Frz) (bJ:Val) (bK:Val),E=[(0,pl gp0 0),(3,pl e 0),(10,elp a (x1.vol.toNat*4)),(12,.i .i64 dF)]∧bq.le bS∧Also aV [.box gp0 [.i .i64 c6,bJ,bK,A,a],.row Snap.t bJ cG,.row Chunk.t bK cH,.row Exp.t A cI,.row Vol.t a cJ,.box e [.i .i64 x1.kind,.i .i64 x1.snap.seq,.s x1.snap.man.name,p,x,y,.i .i64 x1.seq,.i .i64 x1.vol,z]] bS wq) ?_ ?_
           ·obtain ⟨jd,fD,H⟩:=zaj H;obtain ⟨_,⟨rfl,gT⟩,_⟩:=elx 37 (J.mono (((a6.trans be).trans bF).trans dP)) fD;refine ax ?_;refine qy H (fun e7 H=>?_) (fun e7 H=>?_)
            ·obtain ⟨gu,fE,bf,fl,H⟩:=bd2 H;obtain ⟨_,⟨rfl,gU⟩,_⟩:=elx 37 (J.mono (((a6.trans be).trans bF).trans dP)) fE;refine ax ?_;refine lm (zjl (x0:=(Catalog.mk c5 cC cD cE cF)) (x1:=gu.of) (aV.lendL [0,1,2,3,4] (by decide)) fl) ?_;rintro hR ii ⟨g4,ur154_b0_1,ur154_b0_2,rfl,dk⟩;have eh:=aV.backL [0,1,2,3,4] [5] (by decide) (by decide) dk;have hx:=dk.ext;refine ax ?_;exact nj ⟨bf.2.seq,bf.2.snaps,bf.2.chunks,bf.2.exps,bf.2.vols,H,⟨_,ur154_b0_1,ur154_b0_2,rfl,lec,eh⟩⟩
            ·refine ax ?_;exact nj ⟨c5,cC,cD,cE,cF,H,⟨_,bi,bj,rfl,lec,aV⟩⟩
           ·rintro E ih ⟨c6,cG,cH,cI,cJ,H,bS,bJ,bK,rfl,hi,eg⟩;refine ax ?_;exact nm H ⟨_,bJ,bK,rfl,lec,eg⟩
          ·refine zbe _ rfl ?_;exact nj ⟨c5,cC,cD,cE,cF,H,⟨_,bi,bj,rfl,lec,aV⟩⟩
        ·rintro E ja ⟨ah,ai,bE,aj,ak,H,bv,P,Q,rfl,dR,b9⟩;obtain ⟨jb,fA,H⟩:=zaj H;obtain ⟨_,rfl,_⟩:=elr 4 4 b9 fA;refine aq ?_;refine qy H (fun e1 H=>?_) (fun e1 H=>?_)
         ·refine ax ?_;refine zbo (fun (s:Int × (List Chunk)) E wq=>∃ (bp:Frz),E=[(0,pl gp0 0),(3,pl e 0),(13,.i .i64 s.1)]∧bv.le bp∧Also b9 [.box gp0 [.i .i64 ah,P,Q,A,a],.row Snap.t P ai,.row Chunk.t Q s.2,.row Exp.t A aj,.row Vol.t a ak,.box e [.i .i64 x1.kind,.i .i64 x1.snap.seq,.s x1.snap.man.name,p,x,y,.i .i64 x1.seq,.i .i64 x1.vol,z]] bp wq) H ?_ ?_
          ·exact lo (jj b9)
          ·rintro gh ⟨dE,aO⟩ E hZ hI H
           try dsimp only at hI
           obtain ⟨bp,rfl,dO,M⟩:=hI;refine ay ?_;refine qy H (fun e2 H=>?_) (fun e2 H=>?_)
           ·refine qk ?_;refine zac (fun E wq=>∃ cA:List Chunk,zaa.k9 dE gh cA=some r ∧ ∃ (bR:Frz),E=[(0,pl gp0 0),(3,pl e 0),(13,.i .i64 dE)]∧bp.le bR∧Also M [.box gp0 [.i .i64 ah,P,Q,A,a],.row Snap.t P ai,.row Chunk.t Q cA,.row Exp.t A aj,.row Vol.t a ak,.box e [.i .i64 x1.kind,.i .i64 x1.snap.seq,.s x1.snap.man.name,p,x,y,.i .i64 x1.seq,.i .i64 x1.vol,z]] bR wq) ?_ ?_
            ·obtain ⟨jc,fB,H⟩:=zaj H;obtain ⟨_,⟨rfl,gQ⟩,_⟩:=elx 37 (J.mono ((((a6.trans be).trans bF).trans dR).trans dO)) fB;refine ax ?_;refine qy H (fun e3 H=>?_) (fun e3 H=>?_)
             ·refine zfl ?_;obtain ⟨dV,fC,bG,fk,H⟩:=bd2 H;refine rf M ?_;refine au ?_;refine qq (zdx 0 (Catalog.cells (Catalog.mk ah ai aO aj ak) P Q A a) Ty.zjo Ty.zgk (Nat.zero_lt_succ _) rfl M rfl (fun q u h=>zdp (post:=[]) rfl h)) ?_;refine au ?_;refine qbq 5 Ty.zwd M ?_;obtain ⟨_,⟨rfl,fc⟩,eS⟩:=elx 37 (J.mono ((((a6.trans be).trans bF).trans dR).trans dO)) fC;refine au ?_;refine qq (zoj 1 (zam dV.id) Ty.ziu Ty.zfq rfl (eS.mono M.agree) (by first | omega | rfl) rfl (Nat.le_of_ble_eq_true rfl)) ?_;refine zoi (f:=58) (args:=[.agg (Catalog.cells (Catalog.mk ah ai aO aj ak) P Q A a),.agg (zam dV.id)]) rfl rfl rfl rfl (zfv (Gd.now M.wf) (M.rowNow (k:=1) rfl) (M.rowNow (k:=2) rfl) (M.rowNow (k:=3) rfl) (M.rowNow (k:=4) rfl) fc fk) ?_;rintro hQ ib ⟨g3,rfl,e0⟩;have aU:=M.lent e0;refine qw aU ?_;refine ax ?_;refine qy H (fun e4 H=>?_) (fun e4 H=>?_)
              ·obtain ⟨a8,d1,a9,d2,H⟩:=bd2 H;refine rf aU ?_;obtain ⟨_,⟨hF,hG,rfl,gR,gY,gZ⟩,_⟩:=elr 35 2 aU d1;refine au ?_;refine qu (ziv (c:=[.b false]) 2 (bG.toNat) 32 a8 (Chunk.mk a8.id false a8.data a8.locs) rfl rfl aU rfl (zaf d1).2 (by first | rfl | (show _=_*35+_;omega)) rfl Ty.size4 rfl (Nat.le_of_ble_eq_true rfl) (by rintro cs ⟨a2,a3,rfl,c0,b2,b3⟩;exact ⟨a2,a3,rfl,c0,b2,b3⟩)) ?_;rintro _ ic ch;refine qw ch ?_;obtain ⟨_,⟨hH,hJ,rfl,gS,ha,hb⟩,_⟩:=elr 35 2 ch d2;refine au ?_;refine qu (ziv (c:=[.sl none 0 (.k 0)]) 2 (bG.toNat) 33 a9 (Chunk.mk a9.id a9.staged [] a9.locs) rfl rfl ch rfl (zaf d2).2 (by first | rfl | (show _=_*35+_;omega)) rfl Ty.ztp rfl (Nat.le_of_ble_eq_true rfl) (by rintro cs ⟨a2,a3,rfl,c0,b2,b3⟩;exact ⟨.sl none 0 (.k 0),a3,rfl,c0,(SlF.nil _),b3⟩)) ?_;rintro _ ie cZ;refine qw cZ ?_;refine ax ?_;exact nj ⟨((aO.set bG.toNat (Chunk.mk a8.id false a8.data a8.locs)).set bG.toNat (Chunk.mk a9.id a9.staged [] a9.locs)),H,jj cZ⟩
              ·refine ax ?_;exact nj ⟨aO,H,jj aU⟩
             ·refine ax ?_;exact nj ⟨aO,H,jj M⟩
            ·rintro E ia ⟨cA,H,bR,rfl,hh,ef⟩;refine ax ?_;exact nm H (jj ef)
           ·refine ax ?_;exact nj ⟨ah,aO,aj,ai,ak,H,⟨_,Q,A,P,rfl,lec,pk [0,1,4,2,3] M⟩⟩
         ·refine ax ?_;exact nj ⟨ah,bE,aj,ai,ak,H,⟨_,Q,A,P,rfl,lec,pk [0,1,4,2,3] b9⟩⟩
    ·refine aq ?_;refine qy H (fun eC H=>?_) (fun eC H=>?_)
     ·obtain ⟨d,fp,H⟩:=zaj H;refine ay ?_;refine lm (zhp (x0:=x0) (x1:=x1.vol) (x2:=2) (x3:=2) (L.lendL [1,2,3,4,5] (by decide)) fp) ?_;rintro hU gr ⟨aT,rfl,dm⟩;have am:=L.backL [1,2,3,4,5] [0] (by decide) (by decide) dm;have hz:=dm.ext;refine au ?_;refine qy H (fun eD H=>?_) (fun eD H=>?_)
      ·refine aq ?_;obtain rfl:=oi H;refine qt ?_;exact ⟨aT,g,n,j,rfl,am.pick [0,1,2,3,4] (by decide)⟩
      ·refine ay ?_;obtain ⟨l,d3,m,d4,H⟩:=bd2 H;have aY:=am.boxAt 5 rfl;refine zbw (G:=(aT.hold gr [e])) [0,1,2,3,4,5,6,7,8,9,10,11,12,13,14,15,16,17] rfl Ty.mixed (by kernel_rfl) (HB.agree (HB.cons 5 aY am rfl HB.nil) am.agree) ?_;refine au ?_;refine qbq 5 Ty.zjg am ?_;refine au ?_;refine qr (zdo Ty.zjg rfl (aY.held (HB.cons 5 aY am rfl HB.nil) (by simp)) rfl) ?_;obtain ⟨_,rfl,_⟩:=elr 4 4 am d3;refine au ?_;refine qu (ziv (c:=[.i .i64 3]) 4 (x1.vol.toNat) 2 l (Vol.mk l.pool l.epoch 3 l.files) rfl rfl am rfl (zaf d3).2 (by first | rfl | (show _=_*4+_;omega)) rfl Ty.zre rfl (Nat.le_of_ble_eq_true rfl) (by rintro cs rfl;rfl)) ?_;rintro _ ip cj;refine qh 5 aY cj ?_;obtain ⟨_,rfl,_⟩:=elr 4 4 cj d4;refine au ?_;refine qu (ziv (c:=[.i .i64 0]) 4 (x1.vol.toNat) 3 m (Vol.mk m.pool m.epoch m.state 0) rfl rfl cj rfl (zaf d4).2 (by first | rfl | (show _=_*4+_;omega)) rfl Ty.zre rfl (Nat.le_of_ble_eq_true rfl) (by rintro cs rfl;rfl)) ?_;rintro _ iq b5;refine qh 5 aY b5 ?_;refine qn ?_;refine aq ?_;refine zac (fun E wq=>∃ O:List Chunk,zaa.k14 x1 d l m O=some r ∧ ∃ (aP:Frz) (B:Val),E=[(0,pl gp0 0),(3,pl e 0),(15,B)]∧aT.le aP∧Also b5 [.box gp0 [.i .i64 d.2.seq,g,n,j,a],.row Snap.t g d.2.snaps,.row Chunk.t n d.2.chunks,.row Exp.t j d.2.exps,.row Vol.t a ((d.2.vols.set x1.vol.toNat (Vol.mk l.pool l.epoch 3 l.files)).set x1.vol.toNat (Vol.mk m.pool m.epoch m.state 0)),.box e [.i .i64 x1.kind,.i .i64 x1.snap.seq,.s x1.snap.man.name,p,x,y,.i .i64 x1.seq,.i .i64 x1.vol,z],.row Chunk.t B O] aP wq) ?_ ?_
       ·refine ax ?_;refine zbo (fun (s:(List Chunk) × Int) E wq=>∃ (bu:Frz) (a7:Val),E=[(0,pl gp0 0),(3,pl e 0),(15,a7),(16,.i .i64 s.2)]∧aT.le bu∧Also b5 [.box gp0 [.i .i64 d.2.seq,g,n,j,a],.row Snap.t g d.2.snaps,.row Chunk.t n d.2.chunks,.row Exp.t j d.2.exps,.row Vol.t a ((d.2.vols.set x1.vol.toNat (Vol.mk l.pool l.epoch 3 l.files)).set x1.vol.toNat (Vol.mk m.pool m.epoch m.state 0)),.box e [.i .i64 x1.kind,.i .i64 x1.snap.seq,.s x1.snap.man.name,p,x,y,.i .i64 x1.seq,.i .i64 x1.vol,z],.row Chunk.t a7 s.1] bu wq) H ?_ ?_
        ·have ev:=b5.nilRow Chunk.t;exact lo ⟨aT,(.sl none 0 (.k 0)),rfl,(Frz.le.refl _),ev.pick [1,2,3,4,5,6,0] (by decide)⟩
        ·rintro gk ⟨cL,c7⟩ E iD hI H
         try dsimp only at hI
         obtain ⟨bu,a7,rfl,hr,aX⟩:=hI;refine ay ?_;refine qr (zdh Tryz.underlying35 rfl (aX.rowLn (k:=2) rfl)) ?_;refine au ?_;refine qy H (fun eI H=>?_) (fun eI H=>?_)
         ·refine qk ?_;refine zac (fun E wq=>∃ cM:List Chunk,zaa.k21 c7 gk cM=some r ∧ ∃ (bX:Frz) (bN:Val),E=[(0,pl gp0 0),(3,pl e 0),(15,bN),(16,.i .i64 c7)]∧bu.le bX∧Also aX [.box gp0 [.i .i64 d.2.seq,g,n,j,a],.row Snap.t g d.2.snaps,.row Chunk.t n d.2.chunks,.row Exp.t j d.2.exps,.row Vol.t a ((d.2.vols.set x1.vol.toNat (Vol.mk l.pool l.epoch 3 l.files)).set x1.vol.toNat (Vol.mk m.pool m.epoch m.state 0)),.box e [.i .i64 x1.kind,.i .i64 x1.snap.seq,.s x1.snap.man.name,p,x,y,.i .i64 x1.seq,.i .i64 x1.vol,z],.row Chunk.t bN cM] bX wq) ?_ ?_
          ·obtain ⟨I,fI,H⟩:=zaj H;obtain ⟨_,⟨bm,gm,rfl,fe,f3,f4⟩,gM⟩:=elr 35 2 aX fI;refine ax ?_;refine xm (zis (cs:=zam (List.replicate 32 (0:UInt8))++([.b false,.sl none 0 (.k 0),.sl none 0 (.k 0)]:List Val)) Ty.ztk rfl aX) ?_;rintro _ iG ⟨cY,rfl,gI⟩;refine sb 0 (zam I.id++([.b I.staged,bm,gm]:List Val)) ?_;intro iH df;obtain ⟨bH,ft,H⟩:=zaj H;refine ax ?_;refine lm (zhq df.good f4 ft) ?_;rintro bn iI ⟨cb,_,rfl,dr⟩;have gJ:=df.call dr;have h1:=dr.ext;refine au ?_;refine sc 1 (zam I.id++([.b I.staged,bm,bn]:List Val)) ?_;intro iJ aK;refine qn ?_;refine zfl ?_;refine zja (fun E wq=>E=[(0,pl gp0 0),(3,pl e 0),(15,a7),(16,.i .i64 c7),(17,pl cY 0),(340,.b (I.staged||decide (0 < (bH.length:Int))))] ∧ ∃ bZ:Frz,cb.le bZ∧St X w F bZ [.row Loc.t bn bH,.box cY (zam I.id++([.b I.staged,bm,bn]:List Val)),.box gp0 [.i .i64 d.2.seq,g,n,j,a],.row Snap.t g d.2.snaps,.row Chunk.t n d.2.chunks,.row Exp.t j d.2.exps,.row Vol.t a ((d.2.vols.set x1.vol.toNat (Vol.mk l.pool l.epoch 3 l.files)).set x1.vol.toNat (Vol.mk m.pool m.epoch m.state 0)),.box e [.i .i64 x1.kind,.i .i64 x1.snap.seq,.s x1.snap.man.name,p,x,y,.i .i64 x1.seq,.i .i64 x1.vol,z],.row Chunk.t a7 cL] wq) ?_ ?_
           ·
            rcases Bool.eq_false_or_eq_true I.staged with a5 | a5
            ·refine qd ?_;refine qf Ty.zim ?_;refine qb 1 Ty.zxy aK ?_;refine qc ?_;refine qvb 335 a5 ?_;refine qz2 ?_;refine qz2 ?_;refine qc ?_;refine zew ?_;exact zdy _ ⟨rfl,cb,(Frz.le.refl _),aK⟩ ⟨rfl,rfl,rfl,rfl,rfl,(zbu rfl (by first | rfl | (rw [a5];first | done | rfl) | simp [a5])),trivial⟩
            ·refine qd ?_;refine qf Ty.zim ?_;refine qb 1 Ty.zxy aK ?_;refine qc ?_;refine qvb 335 a5 ?_;refine qf Ty.zhc ?_;refine qb 1 Ty.zgj aK ?_;refine qr (zdh Tryz.underlying44 rfl (aK.rowLn (k:=0) rfl)) ?_;refine qr (zbc rfl rfl zid) ?_;refine qc ?_;refine zew ?_;exact zdy _ ⟨rfl,cb,(Frz.le.refl _),aK⟩ ⟨rfl,rfl,rfl,rfl,rfl,(zbu rfl (by first | rfl | (rw [a5];first | done | rfl) | simp [a5])),trivial⟩
           rintro E iL ⟨rfl,bZ,ht,dg⟩;refine zgl ?_;refine qy H (fun eJ H=>?_) (fun eJ H=>?_)
           ·obtain ⟨fU,fb,H⟩:=zaj H;refine ax ?_;obtain ⟨g0,hv,eX,eu⟩:=dg.freezeR 0 [1,2,3,4,5,6,7,8] rfl (by decide) (by decide);refine xm (E_bs (t:=Chunk.t) (vs:=[.agg (Chunk.cells (Chunk.mk I.id I.staged I.data bH) bm bn)]) (xs:=[(Chunk.mk I.id I.staged I.data bH)]) Tryz.underlying35 Ty.znh rfl ⟨⟨bm,bn,rfl,fe,(mo f3),eX⟩,trivial⟩ rfl rfl eu) ?_;rintro hE iM dh;refine xm (zep (t:=Chunk.t) 8 Tryz.underlying35 Ty.znh Ty.zk35 rfl rfl dh rfl (dh.rowSrc (k:=0) rfl) fb) ?_;rintro gq iN et;refine ax ?_;exact nj ⟨fU,H,⟨_,gq,rfl,lec,pk [2,3,4,5,6,7,8] et⟩⟩
           ·refine ax ?_;exact nj ⟨cL,H,⟨_,a7,rfl,lec,pk [2,3,4,5,6,7,8] dg⟩⟩
          ·rintro E iE ⟨cM,H,bX,bN,rfl,hs,er⟩;refine ax ?_;exact nm H ⟨_,bN,rfl,lec,er⟩
         ·refine zbe _ rfl ?_;exact nj ⟨cL,H,⟨_,a7,rfl,lec,aX⟩⟩
       ·rintro E it ⟨O,H,aP,B,rfl,hk,gE⟩;refine aq ?_;refine sc 0 ([.i .i64 d.2.seq,g,B,j,a]) ?_;intro iu ck;refine qn ?_;refine zac (fun E wq=>∃ ar:List Snap,zaa.k15 x1 d l m O ar=some r ∧ ∃ (aH:Frz),E=[(0,pl gp0 0),(3,pl e 0)]∧aP.le aH∧Also ck [.box gp0 [.i .i64 d.2.seq,g,B,j,a],.row Snap.t g ar,.row Exp.t j d.2.exps,.row Vol.t a ((d.2.vols.set x1.vol.toNat (Vol.mk l.pool l.epoch 3 l.files)).set x1.vol.toNat (Vol.mk m.pool m.epoch m.state 0)),.box e [.i .i64 x1.kind,.i .i64 x1.snap.seq,.s x1.snap.man.name,p,x,y,.i .i64 x1.seq,.i .i64 x1.vol,z],.row Chunk.t B O] aH wq) ?_ ?_
        ·refine ax ?_;refine zbo (fun (s:Int × (List Snap)) E wq=>∃ (bt:Frz),E=[(0,pl gp0 0),(3,pl e 0),(18,.i .i64 s.1)]∧aP.le bt∧Also ck [.box gp0 [.i .i64 d.2.seq,g,B,j,a],.row Snap.t g s.2,.row Exp.t j d.2.exps,.row Vol.t a ((d.2.vols.set x1.vol.toNat (Vol.mk l.pool l.epoch 3 l.files)).set x1.vol.toNat (Vol.mk m.pool m.epoch m.state 0)),.box e [.i .i64 x1.kind,.i .i64 x1.snap.seq,.s x1.snap.man.name,p,x,y,.i .i64 x1.seq,.i .i64 x1.vol,z],.row Chunk.t B O] bt wq) H ?_ ?_
         ·exact lo (jj (pk [0,1,3,4,5,6] ck))
         ·rintro h9 ⟨fQ,fT⟩ E gs hI H
          try dsimp only at hI
          obtain ⟨bt,rfl,hq,Z⟩:=hI;refine ay ?_;refine qr (zdh Tryz.underlying34 rfl (Z.rowLn (k:=1) rfl)) ?_;refine au ?_;refine qy H (fun eH H=>?_) (fun eH H=>?_)
          ·refine ay ?_;obtain ⟨cU,d5,gf,fs,H⟩:=bd2 H;have ap:=Z.boxAt 0 rfl;refine zbw (G:=(bt.hold gs [gp0])) [0,1,2,3,4,5,6,7,8,9,10,11,12,13,14,15,16,17,18] rfl Ty.mixed (by kernel_rfl) (HB.agree (HB.cons 0 ap Z rfl HB.nil) Z.agree) ?_;refine au ?_;refine qr (zdo Ty.zoe rfl (ap.held (HB.cons 0 ap Z rfl HB.nil) (by simp)) rfl) ?_;obtain ⟨_,⟨hK,hL,rfl,hc,f2⟩,eU⟩:=elr 4 1 Z d5;refine au ?_;refine qq (zej 3 Ty.zgj rfl eU (by first | omega | rfl) rfl) ?_;refine au ?_;refine ql (zhq Z.good f2 fs) ?_;rintro dT iA ⟨g6,_,rfl,dq⟩;have b7:=Z.call dq;have gc:=dq.ext;refine Nxt.frz (HB.le (HB.cons 1 ap b7 rfl HB.nil) gc) (HB.agree (HB.cons 1 ap b7 rfl HB.nil) b7.agree) ?_;refine au ?_;obtain ⟨gz,fY,c3,b8⟩:=b7.freezeR 0 [1,2,3,4,5,6] rfl (by decide) (by decide);refine W_rg (HB.le (HB.cons 0 ap b8 rfl HB.nil) fY) (HB.agree (HB.cons 0 ap b8 rfl HB.nil) b8.agree) ?_;refine qu (ziv (c:=[dT]) 1 (fQ.toNat) 3 cU (Snap.mk cU.seq cU.man gf) rfl rfl b8 rfl (zaf d5).2 (by first | rfl | (show _=_*4+_;omega)) c3.ln.cells Ty.zml (by simp only [List.all_cons,List.all_nil,List.all_append,c3.ln.one];rfl) (Nat.le_of_ble_eq_true rfl) (by rintro cs ⟨a2,a3,rfl,b2,b3⟩;exact ⟨a2,dT,rfl,b2,c3⟩)) ?_;rintro _ iB dd;refine qh 0 ap dd ?_;refine ax ?_;exact nm H (jj dd)
          ·refine zbe _ rfl ?_;exact nj ⟨fT,H,jj Z⟩
        ·rintro E iv ⟨ar,H,aH,rfl,hl,cl⟩;refine aq ?_;refine zac (fun E wq=>∃ bD:List Exp,zaa.k16 x1 d l m O ar bD=some r ∧ ∃ (bV:Frz) (bk:Val),E=[(0,pl gp0 0),(19,bk)]∧aH.le bV∧Also cl [.box gp0 [.i .i64 d.2.seq,g,B,j,a],.row Snap.t g ar,.row Exp.t j d.2.exps,.row Vol.t a ((d.2.vols.set x1.vol.toNat (Vol.mk l.pool l.epoch 3 l.files)).set x1.vol.toNat (Vol.mk m.pool m.epoch m.state 0)),.row Chunk.t B O,.row Exp.t bk bD] bV wq) ?_ ?_
         ·refine ax ?_;refine zbo (fun (s:(List Exp) × Int) E wq=>∃ (bs:Frz) (bl:Val),E=[(0,pl gp0 0),(3,pl e 0),(19,bl),(20,.i .i64 s.2)]∧aH.le bs∧Also cl [.box gp0 [.i .i64 d.2.seq,g,B,j,a],.row Snap.t g ar,.row Exp.t j d.2.exps,.row Vol.t a ((d.2.vols.set x1.vol.toNat (Vol.mk l.pool l.epoch 3 l.files)).set x1.vol.toNat (Vol.mk m.pool m.epoch m.state 0)),.box e [.i .i64 x1.kind,.i .i64 x1.snap.seq,.s x1.snap.man.name,p,x,y,.i .i64 x1.seq,.i .i64 x1.vol,z],.row Chunk.t B O,.row Exp.t bl s.1] bs wq) H ?_ ?_
          ·have ep:=cl.nilRow Exp.t;exact lo ⟨aH,(.sl none 0 (.k 0)),rfl,(Frz.le.refl _),ep.pick [1,2,3,4,5,6,0] (by decide)⟩
          ·rintro gj ⟨dM,dH⟩ E iz hI H
           try dsimp only at hI
           obtain ⟨bs,bl,rfl,hn,b6⟩:=hI;refine ay ?_;refine qr (zdh Tryz.underlying36 rfl (b6.rowLn (k:=2) rfl)) ?_;refine au ?_;refine qy H (fun eF H=>?_) (fun eF H=>?_)
           ·refine qk ?_;refine zac (fun E wq=>∃ cK:List Exp,zaa.k18 dH gj cK=some r ∧ ∃ (bW:Frz) (bM:Val),E=[(0,pl gp0 0),(3,pl e 0),(19,bM),(20,.i .i64 dH)]∧bs.le bW∧Also b6 [.box gp0 [.i .i64 d.2.seq,g,B,j,a],.row Snap.t g ar,.row Exp.t j d.2.exps,.row Vol.t a ((d.2.vols.set x1.vol.toNat (Vol.mk l.pool l.epoch 3 l.files)).set x1.vol.toNat (Vol.mk m.pool m.epoch m.state 0)),.box e [.i .i64 x1.kind,.i .i64 x1.snap.seq,.s x1.snap.man.name,p,x,y,.i .i64 x1.seq,.i .i64 x1.vol,z],.row Chunk.t B O,.row Exp.t bM cK] bW wq) ?_ ?_
            ·obtain ⟨a1,fH,H⟩:=zaj H;obtain ⟨_,⟨gl,rfl,f1⟩,gL⟩:=elr 3 2 b6 fH;refine ax ?_;refine al ?_;intro gD i2 gG;refine sb 0 ([.i .i64 a1.seq,.i .i64 a1.of,gl]) ?_;intro i4 db;obtain ⟨dS,fr,H⟩:=zaj H;refine ax ?_;refine lm (zhq db.good f1 fr) ?_;rintro cS i5 ⟨g5,_,rfl,dn⟩;have gH:=db.call dn;have h0:=dn.ext;refine au ?_;refine sc 1 ([.i .i64 a1.seq,.i .i64 a1.of,cS]) ?_;intro i7 co;refine ax ?_;refine qr (zdh Tryz.underlying44 rfl (co.rowLn (k:=0) rfl)) ?_;refine au ?_;refine qy H (fun eG H=>?_) (fun eG H=>?_)
             ·obtain ⟨fS,eZ,H⟩:=zaj H;refine ax ?_;obtain ⟨gy,hp,eW,eo⟩:=co.freezeR 0 [1,2,3,4,5,6,7,8] rfl (by decide) (by decide);refine xm (E_bs (t:=Exp.t) (vs:=[.agg (Exp.cells (Exp.mk a1.seq a1.of dS) cS)]) (xs:=[(Exp.mk a1.seq a1.of dS)]) Tryz.underlying36 Ty.zvg rfl ⟨⟨cS,rfl,eW⟩,trivial⟩ rfl rfl eo) ?_;rintro hD i8 dc;refine xm (zep (t:=Exp.t) 8 Tryz.underlying36 Ty.zvg Ty.zk36 rfl rfl dc rfl (dc.rowSrc (k:=0) rfl) eZ) ?_;rintro gp i9 en;refine ax ?_;exact nj ⟨fS,H,⟨_,gp,rfl,lec,pk [2,3,4,5,6,7,8] en⟩⟩
             ·refine ax ?_;exact nj ⟨dM,H,⟨_,bl,rfl,lec,pk [2,3,4,5,6,7,8] co⟩⟩
            ·rintro E i0 ⟨cK,H,bW,bM,rfl,ho,em⟩;refine ax ?_;exact nm H ⟨_,bM,rfl,lec,em⟩
           ·refine zbe _ rfl ?_;exact nj ⟨dM,H,⟨_,bl,rfl,lec,pk [0,1,2,3,5,6] b6⟩⟩
         ·rintro E iw ⟨bD,H,bV,bk,rfl,hm,gF⟩;refine ax ?_;refine sc 0 ([.i .i64 d.2.seq,g,B,bk,a]) ?_;intro iy ek;refine ax ?_;exact nj ⟨d.2.seq,O,bD,ar,((d.2.vols.set x1.vol.toNat (Vol.mk l.pool l.epoch 3 l.files)).set x1.vol.toNat (Vol.mk m.pool m.epoch m.state 0)),H,⟨_,B,bk,g,rfl,lec,pk [0,1,3,4,5] ek⟩⟩
     ·refine aq ?_;refine qy H (fun eK H=>?_) (fun eK H=>?_)
      ·obtain ⟨bg,fu,H⟩:=zaj H;refine ay ?_;refine lm (zhp (x0:=x0) (x1:=x1.vol) (x2:=3) (x3:=3) (L.lendL [1,2,3,4,5] (by decide)) fu) ?_;rintro hV gt ⟨cV,rfl,ds⟩;have ad:=L.backL [1,2,3,4,5] [0] (by decide) (by decide) ds;have h2:=ds.ext;refine au ?_;refine qy H (fun eL H=>?_) (fun eL H=>?_)
       ·refine aq ?_;obtain rfl:=oi H;refine qt ?_;exact ⟨cV,g,n,j,rfl,ad.pick [0,1,2,3,4] (by decide)⟩
       ·refine qk ?_;obtain ⟨U,d6,aC,d7,H⟩:=bd2 H;have ba:=ad.boxAt 5 rfl;refine zbw (G:=(cV.hold gt [e])) [0,1,2,3,4,5,6,7,8,9,10,11,12,13,14,15,16,17,18,19,20,21,22,23,24,25,26,27] rfl Ty.mixed (by kernel_rfl) (HB.agree (HB.cons 5 ba ad rfl HB.nil) ad.agree) ?_;refine au ?_;refine qbq 5 Ty.zjg ad ?_;refine au ?_;refine qr (zdo Ty.zjg rfl (ba.held (HB.cons 5 ba ad rfl HB.nil) (by simp)) rfl) ?_;refine au ?_;refine qbq 5 Ty.zjg ad ?_;obtain ⟨_,rfl,eV⟩:=elr 4 4 ad d6;refine au ?_;refine qq (zej 1 Ty.zjg rfl eV (by first | omega | rfl) rfl) ?_;refine au ?_;refine qu (ziv (c:=[.i .i64 1]) 4 (x1.vol.toNat) 2 U (Vol.mk U.pool U.epoch 1 U.files) rfl rfl ad rfl (zaf d6).2 (by first | rfl | (show _=_*4+_;omega)) rfl Ty.zre rfl (Nat.le_of_ble_eq_true rfl) (by rintro cs rfl;rfl)) ?_;rintro _ iO cq;refine qh 5 ba cq ?_;obtain ⟨_,rfl,_⟩:=elr 4 4 cq d7;refine au ?_;refine qu (ziv (c:=[.i .i64 (wr (U.epoch+1))]) 4 (x1.vol.toNat) 1 aC (Vol.mk aC.pool (wr (U.epoch+1)) aC.state aC.files) rfl rfl cq rfl (zaf d7).2 (by first | rfl | (show _=_*4+_;omega)) rfl Ty.zre rfl (Nat.le_of_ble_eq_true rfl) (by rintro cs rfl;rfl)) ?_;rintro _ iP di;refine qh 5 ba di ?_;refine ax ?_;exact nj ⟨bg.2.seq,bg.2.chunks,bg.2.exps,bg.2.snaps,((bg.2.vols.set x1.vol.toNat (Vol.mk U.pool U.epoch 1 U.files)).set x1.vol.toNat (Vol.mk aC.pool (wr (U.epoch+1)) aC.state aC.files)),H,⟨_,n,j,g,rfl,lec,pk [0,1,4,2,3] di⟩⟩
      ·refine ax ?_;exact nj ⟨x0.seq,x0.chunks,x0.exps,x0.snaps,x0.vols,H,⟨_,n,j,g,rfl,lec,pk [1,2,5,3,4] L⟩⟩
 ·rintro E w2 ⟨i3,l4,l7,l10,l12,H,F2,u5,u8,bI,rfl,hj,ei⟩;refine aq ?_;obtain rfl:=oi H;refine qt ?_;exact ⟨F2,bI,u5,u8,rfl,ei.pick [0,1,3,4,2] (by decide)⟩
def zgo (x0:Catalog) (x1:Change):Option (Catalog × Int) :=
  bd (zab x0) fun e =>
  if (((!e)||decide (x1.kind < 1))||decide (5 < x1.kind)) then
    some ((Catalog.mk 0 [] [] [] []),1)
  else
    bd (zaw x0) fun b =>
    bd (zfk x1) fun c =>
    bd (zaa b c) fun a =>
    if decide (a.1≠0) then
      some ((Catalog.mk 0 [] [] [] []),a.1)
    else
      bd (zab a.2) fun d =>
      if (!d) then
        some ((Catalog.mk 0 [] [] [] []),1)
      else
        some (a.2,0)
theorem zmw {x0:Catalog} {x1:Change} {r:Catalog × Int} {d:Val} {e:Val} {f:Val} {g:Val} {h:Val} {j:Val} {l:Val} {m:Val} (hA:Gd F w) (p:SlF Snap.t F d x0.snaps) (q:SlF Chunk.t F e x0.chunks) (u:SlF Exp.t F f x0.exps) (x:SlF Vol.t F g x0.vols) (ah:SlF Part.t F h x1.snap.man.parts) (ai:SlF Loc.t F j x1.snap.locs) (aj:SlF Chunk.t F l x1.chunks) (ak:SlF Item.t F m x1.items) (H:zgo x0 x1=some r):Ret Tryz.prog K 31 [.agg (Catalog.cells x0 d e f g),.agg (Change.cells x1 h j l m)] w fun v w'=>∃ (F':Frz) (P:Val) (Q:Val) (R:Val) (S:Val),v = .tup [.agg (Catalog.cells r.1 P Q R S),.i .i64 r.2]∧SlF Snap.t F' P (r.1.snaps)∧SlF Chunk.t F' Q (r.1.chunks)∧SlF Exp.t F' R (r.1.exps)∧SlF Vol.t F' S (r.1.vols)∧St [] w F F' [] w':=by
 refine qa2 Tryz.func31 ?_;have hS:=St.start hA;refine qs ?_;refine bx ([.i .i64 x0.seq,d,e,f,g]) ?_;intro Y w1 be;refine bx ([.i .i64 x1.kind,.i .i64 x1.snap.seq,.s x1.snap.man.name,h,j,l,.i .i64 x1.seq,.i .i64 x1.vol,m]) ?_;intro g2 w2 bh;refine al ?_;intro g3 w3 G;obtain ⟨r4,aR,H⟩:=zaj H;refine ay ?_;refine lp (zgv G.good p q u x aR) G ?_;intro w5 J;refine aw ?_;refine qy H (fun a2 H=>?_) (fun a2 H=>?_)
 ·refine qs ?_;refine W_c (v:=.agg (Catalog.cells (Catalog.mk 0 [] [] [] []) (.sl none 0 (.k 0)) (.sl none 0 (.k 0)) (.sl none 0 (.k 0)) (.sl none 0 (.k 0)))) rfl rfl rfl rfl (fun _=>rfl) ?_;refine sb 0 ([.i .i64 0,.sl none 0 (.k 0),.sl none 0 (.k 0),.sl none 0 (.k 0),.sl none 0 (.k 0)]) ?_;intro b2 y;refine au ?_;obtain rfl:=oi H;refine zgb (vs:=[.agg (Catalog.cells (Catalog.mk 0 [] [] [] []) (.sl none 0 (.k 0)) (.sl none 0 (.k 0)) (.sl none 0 (.k 0)) (.sl none 0 (.k 0))),.i .i64 1]) rfl ⟨(zeo 0 Ty.zjo Ty.zgk y rfl rfl),rfl,trivial⟩ ?_;exact ⟨F,.sl none 0 (.k 0),.sl none 0 (.k 0),.sl none 0 (.k 0),.sl none 0 (.k 0),rfl,(SlF.nil _),(SlF.nil _),(SlF.nil _),(SlF.nil _),y.pick [] (by decide)⟩
 ·obtain ⟨U,aJ,H⟩:=zaj H;refine ax ?_;refine lm (zkl J.good p q u x aJ) ?_;rintro bw b4 ⟨bb,aU,aV,aX,a,rfl,L⟩;have bg:=J.call L;have bn:=L.ext;refine al ?_;intro Z b3 bf;refine sb 0 ([.i .i64 U.seq,aU,aV,aX,a]) ?_;intro b5 z;obtain ⟨aT,aK,c,aO,H⟩:=bd2 H;refine ax ?_;refine lm (zkt z.good (mo ah) (mo ai) (mo aj) (mo ak) aK) ?_;rintro bz b7 ⟨bc,bs,bt,bu,bv,rfl,a9,aC,aD,aH,M⟩;have A:=z.call M;have bo:=M.ext;refine lm (zmv (x0:=U) (x1:=aT) (A.lendL [0,1,2,3,4] (by decide)) a9 aC aD aH aO) ?_;rintro b0 b8 ⟨n,ur19_b0_1,ur19_b0_2,ur19_b0_3,rfl,O⟩;have b:=A.backL [0,1,2,3,4] [5,6,7] (by decide) (by decide) O;have bp:=O.ext;refine ay ?_;refine qy H (fun a3 H=>?_) (fun a3 H=>?_)
  ·refine qs ?_;refine W_c (v:=.agg (Catalog.cells (Catalog.mk 0 [] [] [] []) (.sl none 0 (.k 0)) (.sl none 0 (.k 0)) (.sl none 0 (.k 0)) (.sl none 0 (.k 0)))) rfl rfl rfl rfl (fun _=>rfl) ?_;refine qc ?_;refine sb 5 ([.i .i64 0,.sl none 0 (.k 0),.sl none 0 (.k 0),.sl none 0 (.k 0),.sl none 0 (.k 0)]) ?_;intro b9 B;refine au ?_;obtain rfl:=oi H;refine zgb (vs:=[.agg (Catalog.cells (Catalog.mk 0 [] [] [] []) (.sl none 0 (.k 0)) (.sl none 0 (.k 0)) (.sl none 0 (.k 0)) (.sl none 0 (.k 0))),.i .i64 c.1]) rfl ⟨(zeo 5 Ty.zjo Ty.zgk B rfl rfl),rfl,trivial⟩ ?_;exact ⟨n,.sl none 0 (.k 0),.sl none 0 (.k 0),.sl none 0 (.k 0),.sl none 0 (.k 0),rfl,(SlF.nil _),(SlF.nil _),(SlF.nil _),(SlF.nil _),B.pick [] (by decide)⟩
  ·obtain ⟨bq,aP,H⟩:=zaj H;refine ay ?_;refine lp (zgv (Gd.now b.wf) (b.rowNow (k:=1) rfl) (b.rowNow (k:=2) rfl) (b.rowNow (k:=3) rfl) (b.rowNow (k:=4) rfl) aP) b ?_;intro bA bi;refine au ?_;refine qy H (fun a4 H=>?_) (fun a4 H=>?_)
   ·refine qs ?_;refine W_c (v:=.agg (Catalog.cells (Catalog.mk 0 [] [] [] []) (.sl none 0 (.k 0)) (.sl none 0 (.k 0)) (.sl none 0 (.k 0)) (.sl none 0 (.k 0)))) rfl rfl rfl rfl (fun _=>rfl) ?_;refine sb 5 ([.i .i64 0,.sl none 0 (.k 0),.sl none 0 (.k 0),.sl none 0 (.k 0),.sl none 0 (.k 0)]) ?_;intro bB D;refine au ?_;obtain rfl:=oi H;refine zgb (vs:=[.agg (Catalog.cells (Catalog.mk 0 [] [] [] []) (.sl none 0 (.k 0)) (.sl none 0 (.k 0)) (.sl none 0 (.k 0)) (.sl none 0 (.k 0))),.i .i64 1]) rfl ⟨(zeo 5 Ty.zjo Ty.zgk D rfl rfl),rfl,trivial⟩ ?_;exact ⟨n,.sl none 0 (.k 0),.sl none 0 (.k 0),.sl none 0 (.k 0),.sl none 0 (.k 0),rfl,(SlF.nil _),(SlF.nil _),(SlF.nil _),(SlF.nil _),D.pick [] (by decide)⟩
   ·refine ax ?_;refine sb 5 ([.i .i64 c.2.seq,ur19_b0_1,ur19_b0_2,ur19_b0_3,a]) ?_;intro bC am;refine au ?_;obtain ⟨aY,bj,a5,ap⟩:=am.freezeR 1 [0,2,3,4,5,6,7] rfl (by decide) (by decide);obtain ⟨ba,bk,a6,ar⟩:=ap.freezeR 1 [0,2,3,4,5,6] rfl (by decide) (by decide);obtain ⟨V,bl,a7,a0⟩:=ar.freezeR 1 [0,2,3,4,5] rfl (by decide) (by decide);have a1:St [] w F V [.box Z [.i .i64 c.2.seq,ur19_b0_1,ur19_b0_2,ur19_b0_3,a],.row Vol.t a c.2.vols,.box g3 [.i .i64 c.2.seq,ur19_b0_1,ur19_b0_2,ur19_b0_3,a],.box g2 [.i .i64 x1.kind,.i .i64 x1.snap.seq,.s x1.snap.man.name,h,j,l,.i .i64 x1.seq,.i .i64 x1.vol,m],.box Y [.i .i64 x0.seq,d,e,f,g]] _:=a0;obtain ⟨X,bm,a8,I⟩:=a1.freezeR 1 [0,2,3,4] rfl (by decide) (by decide);obtain rfl:=oi H;refine zgb (vs:=[.agg (Catalog.cells c.2 ur19_b0_1 ur19_b0_2 ur19_b0_3 a),.i .i64 0]) rfl ⟨(zeo 1 Ty.zjo Ty.zgk I rfl rfl),rfl,trivial⟩ ?_;exact ⟨X,ur19_b0_1,ur19_b0_2,ur19_b0_3,a,rfl,(mo a5),(mo a6),(mo a7),a8,I.pick [] (by decide)⟩
def zbj.k1 (a:Int) (l8:List Snap) (l11:List Chunk) (l14:List Exp) (l17:List Vol):Option Catalog :=
  some (Catalog.mk a l8 l11 l14 l17)
def zbj.k3 (a:Int) (g:(Int × Int × (List Snap) × (List Chunk) × (List Exp) × (List Vol))→Option Catalog) (b:Int) (c:List Snap) (d:List Chunk) (e:List Exp) (f:List Vol):Option Catalog :=
  g (wr (a+1),b,c,d,e,f)
def zbj.l2 (x1:List Cellarerlaw19Act) (h:(Int × Int × (List Snap) × (List Chunk) × (List Exp) × (List Vol))→Option Catalog):(Int × Int × (List Snap) × (List Chunk) × (List Exp) × (List Vol))→Option Catalog
  | (a,c,d,e,f,g) =>
    if (decide (a < (x1.length:Int))&&decide (a < 30)) then
      bd (ix x1 a) fun j =>
      bd (zae (Catalog.mk c d e f g) j) fun i =>
      if i.2 then
        bd (zgo (Catalog.mk c d e f g) i.1) fun b =>
        if decide (b.2=0) then
          zbj.k3 a h b.1.seq b.1.snaps b.1.chunks b.1.exps b.1.vols
        else
          zbj.k3 a h c d e f g
      else
        zbj.k3 a h c d e f g
    else
      zbj.k1 c d e f g
def zbj (x0:List Int) (x1:List Cellarerlaw19Act):Option Catalog :=
  bd (zcy x0) fun a =>
  loop (zbj.l2 x1) (0,a.seq,a.snaps,a.chunks,a.exps,a.vols)
theorem zna {x0:List Int} {x1:List Cellarerlaw19Act} {r:Catalog} {v0:Val} {v1:Val} (hA:Gd F w) (h0:SlF tI F v0 x0) (h1:SlF Cellarerlaw19Act.t F v1 x1) (H:zbj x0 x1=some r):Ret Tryz.prog K 37 [v0,v1] w fun v w'=>∃ (F':Frz) (aR:Val) (aT:Val) (aU:Val) (aV:Val),v = .agg (Catalog.cells r aR aT aU aV)∧SlF Snap.t F' aR (r.snaps)∧SlF Chunk.t F' aT (r.chunks)∧SlF Exp.t F' aU (r.exps)∧SlF Vol.t F' aV (r.vols)∧St [] w F F' [] w':=by
 refine qa2 Tryz.func37 ?_;have hS:=St.start hA;refine qs ?_;refine al ?_;intro m w1 aC;obtain ⟨r2,b7,H⟩:=zaj H;refine ax ?_;refine lm (zot aC.good h0 b7) ?_;rintro v4 w4 ⟨a9,a2,a3,a4,ae,rfl,aJ⟩;have bZ:=aC.call aJ;have bM:=aJ.ext;refine al ?_;intro n w3 bY;refine sb 0 ([.i .i64 r2.seq,a2,a3,a4,ae]) ?_;intro w5 ai;refine qn ?_;refine zac (fun E wq=>∃ S:Int,∃ l8:List Snap,∃ l11:List Chunk,∃ l14:List Exp,∃ l17:List Vol,zbj.k1 S l8 l11 l14 l17=some r ∧ ∃ (j:Frz) (M:Val) (I:Val) (J:Val) (L:Val),E=[(4,pl m 0),(5,pl n 0)]∧a9.le j∧SlF Snap.t j M l8∧SlF Chunk.t j I l11∧SlF Exp.t j J l14∧SlF Vol.t j L l17∧Also ai [.box n [.i .i64 S,M,I,J,L],.box m [.i .i64 0,.sl none 0 (.k 0),.sl none 0 (.k 0),.sl none 0 (.k 0),.sl none 0 (.k 0)]] j wq) ?_ ?_
 ·refine ax ?_;refine zbo (fun (s:Int × Int × (List Snap) × (List Chunk) × (List Exp) × (List Vol)) E wq=>∃ (b:Frz) (c:Val) (d:Val) (e:Val) (g:Val),E=[(1,v1),(4,pl m 0),(5,pl n 0),(6,.i .i64 s.1)]∧a9.le b∧SlF Snap.t b c s.2.2.1∧SlF Chunk.t b d s.2.2.2.1∧SlF Exp.t b e s.2.2.2.2.1∧SlF Vol.t b g s.2.2.2.2.2∧Also ai [.box n [.i .i64 s.2.1,c,d,e,g],.box m [.i .i64 0,.sl none 0 (.k 0),.sl none 0 (.k 0),.sl none 0 (.k 0),.sl none 0 (.k 0)]] b wq) H ?_ ?_
  ·obtain ⟨bR,cg,bt,bl⟩:=ai.freezeR 1 [0,2,3,4,5] rfl (by decide) (by decide);obtain ⟨bS,ch,bu,bm⟩:=bl.freezeR 1 [0,2,3,4] rfl (by decide) (by decide);obtain ⟨be,ci,bv,bn⟩:=bm.freezeR 1 [0,2,3] rfl (by decide) (by decide);have bo:St [] w F be [.box n [.i .i64 r2.seq,a2,a3,a4,ae],.row Vol.t ae r2.vols,.box m [.i .i64 0,.sl none 0 (.k 0),.sl none 0 (.k 0),.sl none 0 (.k 0),.sl none 0 (.k 0)]] _:=bn;obtain ⟨bT,cj,bw,bp⟩:=bo.freezeR 1 [0,2] rfl (by decide) (by decide);exact lo ⟨_,a2,a3,a4,ae,rfl,lec,(mo bt),(mo bu),(mo bv),bw,bp⟩
  ·rintro bN ⟨aP,x,y,z,A,B⟩ E cp hI H
   try dsimp only at hI
   obtain ⟨b,c,d,e,g,rfl,bL,O,P,Q,R,U⟩:=hI;refine aZ ?_;refine qy H (fun bq H=>?_) (fun bq H=>?_)
   ·refine qk ?_;refine zac (fun E wq=>∃ ak:Int,∃ am:List Snap,∃ ap:List Chunk,∃ ar:List Exp,∃ a0:List Vol,zbj.k3 aP bN ak am ap ar a0=some r ∧ ∃ (l:Frz) (X:Val) (Y:Val) (Z:Val) (ad:Val),E=[(1,v1),(4,pl m 0),(5,pl n 0),(6,.i .i64 aP)]∧b.le l∧SlF Snap.t l X am∧SlF Chunk.t l Y ap∧SlF Exp.t l Z ar∧SlF Vol.t l ad a0∧Also U [.box n [.i .i64 ak,X,Y,Z,ad],.box m [.i .i64 0,.sl none 0 (.k 0),.sl none 0 (.k 0),.sl none 0 (.k 0),.sl none 0 (.k 0)]] l wq) ?_ ?_
    ·refine ay ?_;obtain ⟨bQ,bK,D,b8,H⟩:=bd2 H;refine zbw (G:=b) [0,1,2,3,4,9,5,6,7,8,10,11] rfl Ty.mixed (by kernel_rfl) U.agree ?_;refine qq (zdx 0 (Catalog.cells (Catalog.mk x y z A B) c d e g) Ty.zjo Ty.zgk (Nat.zero_lt_succ _) rfl U rfl (fun q u h=>zdp (post:=[]) rfl h)) ?_;obtain ⟨_,⟨bO,bP,rfl,bA,bB⟩,cd⟩:=elx 5 (h1.mono (bM.trans bL)) bK;refine au ?_;refine aM ?_;intro bW cu aH;refine zoi (f:=29) (args:=[.agg (Catalog.cells (Catalog.mk x y z A B) c d e g),.agg (Cellarerlaw19Act.cells bQ bO bP)]) rfl rfl rfl rfl (zob aH.good O P Q R bA bB b8) ?_;rintro cl cw ⟨bU,aX,aY,ba,bb,rfl,bz,b0,b1,b2,aK⟩;have bi:=aH.call aK;have a:=aK.ext;refine Nxt.frz a bi.agree ?_;refine au ?_;refine sB 0 ([.i .i64 D.1.kind,.i .i64 D.1.snap.seq,.s D.1.snap.man.name,aX,aY,ba,.i .i64 D.1.seq,.i .i64 D.1.vol,bb]) ?_;intro cy aj;refine ax ?_;refine qy H (fun br H=>?_) (fun br H=>?_)
     ·obtain ⟨p,b9,H⟩:=zaj H;refine aq ?_;refine zoi (f:=31) (args:=[.agg (Catalog.cells (Catalog.mk x y z A B) c d e g),.agg (Change.cells D.1 aX aY ba bb)]) rfl rfl rfl rfl (zmw aj.good (O.mono a) (P.mono a) (Q.mono a) (R.mono a) bz b0 b1 b2 b9) ?_;rintro cm c0 ⟨bV,a5,a6,a7,a8,rfl,b3,b4,b5,b6,aO⟩;have cc:=aj.call aO;have V:=aO.ext;refine Nxt.now ?_;refine au ?_;refine al ?_;intro bX cz cb;refine sb 0 ([.i .i64 p.1.seq,a5,a6,a7,a8]) ?_;intro c1 bj;refine ax ?_;refine qy H (fun bs H=>?_) (fun bs H=>?_)
      ·refine ax ?_;refine sb 2 ([.i .i64 p.1.seq,a5,a6,a7,a8]) ?_;intro c2 bk;refine ax ?_;exact nj ⟨p.1.seq,p.1.snaps,p.1.chunks,p.1.exps,p.1.vols,H,⟨_,a5,a6,a7,a8,rfl,lec,b3,b4,b5,b6,pk [2,3] bk⟩⟩
      ·refine ax ?_;exact nj ⟨x,y,z,A,B,H,⟨_,c,d,e,g,rfl,lec,(O.mono (a.trans V)),(P.mono (a.trans V)),(Q.mono (a.trans V)),(R.mono (a.trans V)),pk [2,3] bj⟩⟩
     ·refine ax ?_;exact nj ⟨x,y,z,A,B,H,⟨_,c,d,e,g,rfl,lec,(O.mono a),(P.mono a),(Q.mono a),(R.mono a),pk [1,2] aj⟩⟩
    ·rintro E cs ⟨ak,am,ap,ar,a0,H,l,X,Y,Z,ad,rfl,ce,bG,bH,bI,bJ,bh⟩;refine ax ?_;exact nm H ⟨_,X,Y,Z,ad,rfl,lec,bG,bH,bI,bJ,bh⟩
   ·refine zbe _ rfl ?_;exact nj ⟨x,y,z,A,B,H,⟨_,c,d,e,g,rfl,lec,O,P,Q,R,U⟩⟩
 ·rintro E w6 ⟨S,l8,l11,l14,l17,H,j,M,I,J,L,rfl,cf,bC,bD,bE,bF,ca⟩;refine aq ?_;refine sb 1 ([.i .i64 S,M,I,J,L]) ?_;intro co aD;refine qn ?_;obtain rfl:=oi H;refine zgb (vs:=[.agg (Catalog.cells (Catalog.mk S l8 l11 l14 l17) M I J L)]) rfl ⟨(zeo 1 Ty.zjo Ty.zgk aD rfl rfl),trivial⟩ ?_;exact ⟨j,M,I,J,L,rfl,bC,bD,bE,bF,aD.pick [] (by decide)⟩
def zcp.k1:Option Bool :=
  some false
def zcp.l2 (x0:Manifest) (c:Int→Option Bool):Int→Option Bool
  | a =>
    if decide (a < (x0.parts.length:Int)) then
      bd (ix x0.parts a) fun b =>
      bd (only (!decide (100 < (b.path.length:Int))) (ix x0.parts a) (Part.mk [] 0 [])) fun d =>
      if (decide (100 < (b.path.length:Int))||decide (40 < (d.ids.length:Int))) then
        some true
      else
        c (wr (a+1))
    else
      zcp.k1
def zcp (x0:Manifest):Option Bool :=
  if (decide (100 < (x0.name.length:Int))||decide (10 < (x0.parts.length:Int))) then
    some true
  else
    loop (zcp.l2 x0) 0
theorem zix {x0:Manifest} {r:Bool} {g:Val} (hA:Gd F w) (l:SlF Part.t F g x0.parts) (H:zcp x0=some r):Ret Tryz.prog K 52 [.agg (Manifest.cells x0 g)] w fun v w'=>∃ (F':Frz),v = .b r∧St [] w F F' [] w':=by
 refine qa1 Tryz.func52 ?_;have hS:=St.start hA;refine qs ?_;refine bx ([.s x0.name,g]) ?_;intro k w1 m;refine aZ ?_;refine qy H (fun I H=>?_) (fun I H=>?_)
 ·exact rz H m
 ·refine qk ?_;refine zac (jO (zcp.k1=some r) [] m []) ?_ ?_
  ·refine ax ?_;refine lj m (fun s:Int=>[(1,pl k 0),(3,.i .i64 s)]) H ?_;intro ar Z j w8 n a H;refine ay ?_;refine qy H (fun D H=>?_) (fun D H=>?_)
   ·refine qk ?_;refine zfl ?_;refine zfa ?_;refine zfl ?_;obtain ⟨A,y,ae,U,H⟩:=bd2 H;refine zja (fun E wq=>E=[(1,pl k 0),(3,.i .i64 Z),(38,.b (decide (100 < (A.path.length:Int))||decide (40 < (ae.ids.length:Int))))] ∧ ∃ h:Frz,j.le h∧St [] w F h [.box k [.s x0.name,g]] wq) ?_ ?_
    ·
     rcases Bool.eq_false_or_eq_true (decide (100 < (A.path.length:Int))) with c | c
     ·refine qd ?_;refine qf Ty.zqr ?_;refine qb 0 Ty.zwe a ?_;refine qc ?_;obtain ⟨J,V⟩:=zaf y;obtain ⟨ai,O,d⟩:=(l.mono n).el V;obtain ⟨ad,rfl,R⟩:=O;replace d:=qj 3 d;have q:=d.ixd;refine qi Tryz.underlying41 Ty.zpf q J ?_;refine qr (zga 0 Ty.zrq rfl q) ?_;refine qr (zej 0 Ty.cell9 rfl (d.mono a.agree) (by first | omega | rfl) rfl) ?_;refine qr (O_lenS Tryz.underlying9 rfl) ?_;refine qr (zbc rfl rfl zid) ?_;refine qc ?_;refine qvb 29 c ?_;refine qz2 ?_;refine qz2 ?_;refine qz2 ?_;refine qz2 ?_;refine qc ?_;refine zew ?_;exact zdy _ ⟨rfl,j,(Frz.le.refl _),a⟩ ⟨rfl,rfl,(zbu rfl (by first | rfl | (rw [c];first | done | rfl) | simp [c])),trivial⟩
     ·refine qd ?_;refine qf Ty.zqr ?_;refine qb 0 Ty.zwe a ?_;refine qc ?_;obtain ⟨L,X⟩:=zaf y;obtain ⟨aj,P,e⟩:=(l.mono n).el X;obtain ⟨ad,rfl,R⟩:=P;replace e:=qj 3 e;have u:=e.ixd;refine qi Tryz.underlying41 Ty.zpf u L ?_;refine qr (zga 0 Ty.zrq rfl u) ?_;refine qr (zej 0 Ty.cell9 rfl (e.mono a.agree) (by first | omega | rfl) rfl) ?_;refine qr (O_lenS Tryz.underlying9 rfl) ?_;refine qr (zbc rfl rfl zid) ?_;refine qc ?_;refine qvb 29 c ?_;refine qf Ty.zqr ?_;refine qb 0 Ty.zwe a ?_;refine qc ?_;have z:=U;rw [zck (by first | rfl | (rw [c];first | done | rfl) | simp [c])] at z;obtain ⟨M,Y⟩:=zaf z;obtain ⟨ak,Q,f⟩:=(l.mono n).el Y;obtain ⟨a0,rfl,S⟩:=Q;replace f:=qj 3 f;have x:=f.ixd;refine qi Tryz.underlying41 Ty.zpf x M ?_;refine qr (zga 2 Ty.zvy rfl x) ?_;refine qr (zej 2 Ty.cell118 rfl (f.mono a.agree) (by first | omega | rfl) rfl) ?_;refine qr (zdh Tryz.underlying118 rfl S.ln) ?_;refine qr (zbc rfl rfl zid) ?_;refine qc ?_;refine zew ?_;exact zdy _ ⟨rfl,j,(Frz.le.refl _),a⟩ ⟨rfl,rfl,(zbu rfl (by first | rfl | (rw [c];first | done | rfl) | simp [c])),trivial⟩
    rintro E a2 ⟨rfl,h,am,p⟩;refine zgl ?_;refine qy H (fun G H=>?_) (fun G H=>?_)
    ·exact rz H p
    ·refine ax ?_;exact nm H (jj p)
   ·refine zbe _ rfl ?_;exact nj ⟨H,jj (pk [] a)⟩
  ·rintro E w7 ⟨H,F7,rfl,ap,B⟩;exact rz H B
def zav.k3:Option Bool :=
  some false
def zav.l4 (x0:Catalog) (b:Int→Option Bool):Int→Option Bool
  | a =>
    if decide (a < (x0.exps.length:Int)) then
      bd (ix x0.exps a) fun c =>
      if decide (220 < (c.locs.length:Int)) then
        some true
      else
        b (wr (a+1))
    else
      zav.k3
def zav.k2 (x0:Catalog):Option Bool :=
  loop (zav.l4 x0) 0
def zav.l5 (x0:Catalog) (c:Int→Option Bool):Int→Option Bool
  | a =>
    if decide (a < (x0.chunks.length:Int)) then
      bd (ix x0.chunks a) fun b =>
      bd (only (!decide (300 < (b.data.length:Int))) (ix x0.chunks a) (Chunk.mk (List.replicate 32 (0:UInt8)) false [] [])) fun d =>
      if (decide (300 < (b.data.length:Int))||decide (220 < (d.locs.length:Int))) then
        some true
      else
        c (wr (a+1))
    else
      zav.k2 x0
def zav.k1 (x0:Catalog):Option Bool :=
  loop (zav.l5 x0) 0
def zav.l6 (x0:Catalog) (c:Int→Option Bool):Int→Option Bool
  | a =>
    if decide (a < (x0.snaps.length:Int)) then
      bd (ix x0.snaps a) fun d =>
      bd (zcp d.man) fun b =>
      bd (only (!b) (ix x0.snaps a) (Snap.mk 0 (Manifest.mk [] []) [])) fun e =>
      if (b||decide (220 < (e.locs.length:Int))) then
        some true
      else
        c (wr (a+1))
    else
      zav.k1 x0
def zav (x0:Catalog):Option Bool :=
  if (((decide (12 < (x0.snaps.length:Int))||decide (220 < (x0.chunks.length:Int)))||decide (220 < (x0.exps.length:Int)))||decide (20 < (x0.vols.length:Int))) then
    some true
  else
    loop (zav.l6 x0) 0
set_option maxHeartbeats 2000000 in
theorem znb {x0:Catalog} {r:Bool} {g:Val} {h:Val} {j:Val} {k:Val} (hA:Gd F w) (D:SlF Snap.t F g x0.snaps) (G:SlF Chunk.t F h x0.chunks) (a3:SlF Exp.t F j x0.exps) (bC:SlF Vol.t F k x0.vols) (H:zav x0=some r):Ret Tryz.prog K 15 [.agg (Catalog.cells x0 g h j k)] w fun v w'=>∃ (F':Frz),v = .b r∧St [] w F F' [] w':=by
 refine qa1 Tryz.func15 ?_;have hS:=St.start hA;refine qs ?_;refine bx ([.i .i64 x0.seq,g,h,j,k]) ?_;intro a w1 I;refine aZ ?_;refine qy H (fun a6 H=>?_) (fun a6 H=>?_)
 ·exact rz H I
 ·refine qk ?_;refine zac (jN (zav.k1 x0=some r) [(1,pl a 0)] I) ?_ ?_
  ·refine ax ?_;refine lj I (fun s:Int=>[(1,pl a 0),(3,.i .i64 s)]) H ?_;intro bN bs A ca Q d H;refine ay ?_;refine qy H (fun aD H=>?_) (fun aD H=>?_)
   ·refine qk ?_;refine zfl ?_;refine zfa ?_;refine zfl ?_;obtain ⟨a2,am,a0,aj,H⟩:=bd2 H;obtain ⟨b1,bk,H⟩:=zaj H;refine zja (fun E wq=>E=[(1,pl a 0),(3,.i .i64 bs),(51,.b (a0||decide (220 < (b1.locs.length:Int))))] ∧ ∃ B:Frz,A.le B∧St [] w F B [.box a [.i .i64 x0.seq,g,h,j,k]] wq) ?_ ?_
    ·
     rcases Bool.eq_false_or_eq_true a0 with f | f
     ·refine qd ?_;refine qf Ty.zki ?_;refine qb 0 Ty.zoe d ?_;refine qc ?_;obtain ⟨aR,bo⟩:=zaf am;obtain ⟨b9,ba,p⟩:=(D.mono Q).el bo;obtain ⟨R,bz,rfl,O,bg⟩:=ba;replace p:=qj 4 p;have ae:=p.ixd;refine qi Tryz.underlying34 Ty.zpw ae aR ?_;refine qr (zga 1 Ty.zuq rfl ae) ?_;refine qr (zoj 1 (Manifest.cells a2.man R) Ty.zoy Ty.zjk rfl (p.mono d.agree) (by first | omega | rfl) rfl (Nat.le_of_ble_eq_true rfl)) ?_;refine lp (zix d.good O aj) d ?_;intro cc a5;refine qc ?_;refine qvb 42 f ?_;refine qz2 ?_;refine qz2 ?_;refine qz2 ?_;refine qz2 ?_;refine qc ?_;refine zew ?_;exact zdy _ ⟨rfl,A,(Frz.le.refl _),a5⟩ ⟨rfl,rfl,(zbu rfl (by first | rfl | (rw [f];first | done | rfl) | simp [f])),trivial⟩
     ·refine qd ?_;refine qf Ty.zki ?_;refine qb 0 Ty.zoe d ?_;refine qc ?_;obtain ⟨aT,bp⟩:=zaf am;obtain ⟨bA,bb,q⟩:=(D.mono Q).el bp;obtain ⟨R,bz,rfl,O,bg⟩:=bb;replace q:=qj 4 q;have ah:=q.ixd;refine qi Tryz.underlying34 Ty.zpw ah aT ?_;refine qr (zga 1 Ty.zuq rfl ah) ?_;refine qr (zoj 1 (Manifest.cells a2.man R) Ty.zoy Ty.zjk rfl (q.mono d.agree) (by first | omega | rfl) rfl (Nat.le_of_ble_eq_true rfl)) ?_;refine lp (zix d.good O aj) d ?_;intro cd L;refine qc ?_;refine qvb 42 f ?_;refine qf Ty.zki ?_;refine qb 0 Ty.zoe L ?_;refine qc ?_;have ar:=bk;rw [zck (by first | rfl | (rw [f];first | done | rfl) | simp [f])] at ar;obtain ⟨aU,bq⟩:=zaf ar;obtain ⟨bB,bc,u⟩:=(D.mono Q).el bq;obtain ⟨bR,bS,rfl,bG,bh⟩:=bc;replace u:=qj 4 u;have ai:=u.ixd;refine qi Tryz.underlying34 Ty.zpw ai aU ?_;refine qr (zga 3 Ty.zup rfl ai) ?_;refine qr (zej 3 Ty.zgj rfl (u.mono L.agree) (by first | omega | rfl) rfl) ?_;refine qr (zdh Tryz.underlying44 rfl bh.ln) ?_;refine qr (zbc rfl rfl zid) ?_;refine qc ?_;refine zew ?_;exact zdy _ ⟨rfl,A,(Frz.le.refl _),L⟩ ⟨rfl,rfl,(zbu rfl (by first | rfl | (rw [f];first | done | rfl) | simp [f])),trivial⟩
    rintro E cb ⟨rfl,B,bK,X⟩;refine zgl ?_;refine qy H (fun aH H=>?_) (fun aH H=>?_)
    ·exact rz H X
    ·refine ax ?_;exact nm H (jj X)
   ·refine zbe _ rfl ?_;exact nj ⟨H,jj d⟩
  ·rintro E bU ⟨H,b2,rfl,x,S⟩;refine zac (jN (zav.k2 x0=some r) [(1,pl a 0)] S) ?_ ?_
   ·refine ax ?_;refine lj S (fun s:Int=>[(1,pl a 0),(4,.i .i64 s)]) H ?_;intro bM br y bY P c H;refine ay ?_;refine qy H (fun a9 H=>?_) (fun a9 H=>?_)
    ·refine qk ?_;refine zfl ?_;refine zfa ?_;refine zfl ?_;obtain ⟨a1,ak,b0,bj,H⟩:=bd2 H;refine zja (fun E wq=>E=[(1,pl a 0),(4,.i .i64 br),(76,.b (decide (300 < (a1.data.length:Int))||decide (220 < (b0.locs.length:Int))))] ∧ ∃ z:Frz,y.le z∧St [] w F z [.box a [.i .i64 x0.seq,g,h,j,k]] wq) ?_ ?_
     ·
      rcases Bool.eq_false_or_eq_true (decide (300 < (a1.data.length:Int))) with e | e
      ·refine qd ?_;refine qf Ty.zea ?_;refine qb 0 Ty.zft c ?_;refine qc ?_;obtain ⟨aK,bl⟩:=zaf ak;obtain ⟨b6,aV,l⟩:=(G.mono (x.trans P)).el bl;obtain ⟨bv,bw,rfl,aJ,M,be⟩:=aV;replace l:=qj 35 l;have Y:=l.ixd;refine qi Tryz.underlying35 Ty.zdv Y aK ?_;refine qr (zga 33 Ty.zqq rfl Y) ?_;refine qr (zej 33 Ty.zsl rfl (l.mono c.agree) (by first | omega | rfl) rfl) ?_;refine qr (zdh Tryz.underlying47 rfl M.ln) ?_;refine qr (zbc rfl rfl zid) ?_;refine qc ?_;refine qvb 67 e ?_;refine qz2 ?_;refine qz2 ?_;refine qz2 ?_;refine qz2 ?_;refine qc ?_;refine zew ?_;exact zdy _ ⟨rfl,y,(Frz.le.refl _),c⟩ ⟨rfl,rfl,(zbu rfl (by first | rfl | (rw [e];first | done | rfl) | simp [e])),trivial⟩
      ·refine qd ?_;refine qf Ty.zea ?_;refine qb 0 Ty.zft c ?_;refine qc ?_;obtain ⟨aO,bm⟩:=zaf ak;obtain ⟨b7,aX,m⟩:=(G.mono (x.trans P)).el bm;obtain ⟨bv,bw,rfl,aJ,M,be⟩:=aX;replace m:=qj 35 m;have Z:=m.ixd;refine qi Tryz.underlying35 Ty.zdv Z aO ?_;refine qr (zga 33 Ty.zqq rfl Z) ?_;refine qr (zej 33 Ty.zsl rfl (m.mono c.agree) (by first | omega | rfl) rfl) ?_;refine qr (zdh Tryz.underlying47 rfl M.ln) ?_;refine qr (zbc rfl rfl zid) ?_;refine qc ?_;refine qvb 67 e ?_;refine qf Ty.zea ?_;refine qb 0 Ty.zft c ?_;refine qc ?_;have ap:=bj;rw [zck (by first | rfl | (rw [e];first | done | rfl) | simp [e])] at ap;obtain ⟨aP,bn⟩:=zaf ap;obtain ⟨b8,aY,n⟩:=(G.mono (x.trans P)).el bn;obtain ⟨bP,bQ,rfl,bD,bF,bf⟩:=aY;replace n:=qj 35 n;have ad:=n.ixd;refine qi Tryz.underlying35 Ty.zdv ad aP ?_;refine qr (zga 34 Ty.zhc rfl ad) ?_;refine qr (zej 34 Ty.zgj rfl (n.mono c.agree) (by first | omega | rfl) rfl) ?_;refine qr (zdh Tryz.underlying44 rfl bf.ln) ?_;refine qr (zbc rfl rfl zid) ?_;refine qc ?_;refine zew ?_;exact zdy _ ⟨rfl,y,(Frz.le.refl _),c⟩ ⟨rfl,rfl,(zbu rfl (by first | rfl | (rw [e];first | done | rfl) | simp [e])),trivial⟩
     rintro E bZ ⟨rfl,z,bJ,V⟩;refine zgl ?_;refine qy H (fun aC H=>?_) (fun aC H=>?_)
     ·exact rz H V
     ·refine ax ?_;exact nm H (jj V)
    ·refine zbe _ rfl ?_;exact nj ⟨H,jj c⟩
   ·rintro E bV ⟨H,b3,rfl,bt,U⟩;refine zac (jO (zav.k3=some r) [] U []) ?_ ?_
    ·refine ax ?_;refine lj U (fun s:Int=>[(1,pl a 0),(5,.i .i64 s)]) H ?_;intro bL bH b5 bX bu J H;refine ay ?_;refine qy H (fun a7 H=>?_) (fun a7 H=>?_)
     ·obtain ⟨ce,bi,H⟩:=zaj H;obtain ⟨_,⟨bO,rfl,bE⟩,_⟩:=elx 3 (a3.mono ((x.trans bt).trans bu)) bi;refine ay ?_;refine qy H (fun a8 H=>?_) (fun a8 H=>?_)
      ·exact rz H J
      ·refine ax ?_;exact nm H (jj J)
     ·refine zbe _ rfl ?_;exact nj ⟨H,jj (pk [] J)⟩
    ·rintro E bW ⟨H,b4,rfl,bI,a4⟩;exact rz H a4
def zev (x0:Int) (x1:Int) (x2:Int):Option Bool :=
  some (decide (x1≤x0)&&decide (x0≤x2))
theorem zdt {x0:Int} {x1:Int} {x2:Int} {r:Bool} (hA:Gd F w) (H:zev x0 x1 x2=some r):Ret Tryz.prog K 76 [.i .i64 x0,.i .i64 x1,.i .i64 x2] w fun v w'=>∃ (F':Frz),v = .b r∧St [] w F F' [] w':=by
 refine qa3 Tryz.func76 ?_;have hS:=St.start hA;refine az ?_;exact rz H hS
end
end Go.Wk.Lf
end
