/-  -/
import Derived.Test.YtfphkkaifgnlgaaGreatG3
set_option linter.unusedVariables false
set_option linter.unusedSimpArgs false
section
namespace Go.Wk.Lf
open Go.V Go.Proofs
noncomputable section
set_option maxRecDepth 100000
variable {K:Tb} {F:Frz} {w:Hp}
def zjx (x0:Int):Option Bool :=
  some (decide (x0≠x0))
theorem zmp {x0:Int} {r:Bool} (hA:Gd F w) (H:zjx x0=some r):Ret Tryz.prog K 140 [.i .i64 x0] w fun v w'=>∃ (F':Frz),v = .b r∧St [] w F F' [] w':=by
 refine qa1 Tryz.func140 ?_;have hS:=St.start hA;refine aq ?_;exact rz H hS
def zfs (x0:Int) (x1:Int):Option Int :=
  bd (zjx x0) fun b =>
  bd (zjx x1) fun a =>
  if b then
    if a then
      some 0
    else
      some (-1)
  else
    if a then
      some 1
    else
      if decide (x0 < x1) then
        some (-1)
      else
        if decide (x1 < x0) then
          some 1
        else
          some 0
theorem zgy {x0:Int} {x1:Int} {r:Int} (hA:Gd F w) (H:zfs x0 x1=some r):Ret Tryz.prog K 90 [.i .i64 x0,.i .i64 x1] w fun v w'=>∃ (F':Frz),v = .i .i64 r∧St [] w F F' [] w':=by
 refine qa2 Tryz.func90 ?_;have hS:=St.start hA;obtain ⟨k,h,H⟩:=zaj H;refine ax ?_;refine lp (zmp hS.good h) hS ?_;intro m b;obtain ⟨l,j,H⟩:=zaj H;refine ax ?_;refine lp (zmp b.good j) b ?_;intro n a;refine ay ?_;refine qy H (fun c H=>?_) (fun c H=>?_)
 ·refine ay ?_;refine qy H (fun d H=>?_) (fun d H=>?_)
  ·exact rz H a
  ·refine qk ?_;exact rz H a
 ·refine ay ?_;refine qy H (fun e H=>?_) (fun e H=>?_)
  ·exact rz H a
  ·refine ay ?_;refine qy H (fun f H=>?_) (fun f H=>?_)
   ·exact rz H a
   ·refine ay ?_;refine qy H (fun g H=>?_) (fun g H=>?_)
    ·exact rz H a
    ·refine qk ?_;exact rz H a
def zgi.k1:Option Int :=
  some 0
def zgi.l2 (x0:List Int) (b:Int→Option Int):Int→Option Int
  | a =>
    if decide (a < (x0.length:Int)) then
      bd (ix x0 a) fun x6 =>
      if decide (x6≠0) then
        some x6
      else
        b (wr (a+1))
    else
      zgi.k1
def zgi (x0:List Int):Option Int :=
  loop (zgi.l2 x0) 0
theorem zxw {x0:List Int} {r:Int} {b:Val} (hA:Gd F w) (c:SlF tI F b x0) (H:zgi x0=some r):Ret Tryz.prog K 152 [b] w fun v w'=>∃ (F':Frz),v = .i .i64 r∧St [] w F F' [] w':=by
 refine qa1 Tryz.func152 ?_;have hS:=St.start hA;refine aq ?_;refine aq ?_;refine zac (jN (zgi.k1=some r) [(3,.i .i64 0)] hS) ?_ ?_
 ·refine ax ?_;refine lj hS (fun s:Int=>[(3,.i .i64 0),(6,b),(7,.i .i64 (x0.length:Int)),(8,.i .i64 s)]) H ?_;intro n l k q h a H;refine ay ?_;refine qy H (fun e H=>?_) (fun e H=>?_)
  ·obtain ⟨x6,g,H⟩:=zaj H;obtain ⟨_,rfl,_⟩:=elx 1 (c.mono h) g;refine ay ?_;refine qy H (fun f H=>?_) (fun f H=>?_)
   ·exact rz H a
   ·refine ax ?_;exact nm H (jj a)
  ·refine zbe _ rfl ?_;exact nj ⟨H,jj a⟩
 ·rintro E p ⟨H,j,rfl,m,d⟩;exact rz H d
def zrl (x0:Loc) (x1:Loc):Option Int :=
  bd (zfs x0.vol x1.vol) fun a =>
  bd (zfs x0.file x1.file) fun b =>
  bd (zfs x0.off x1.off) fun c =>
  bd (zfs x0.len x1.len) fun d =>
  bd (zgi [a,b,c,d]) fun e =>
  some e
theorem zxb {x0:Loc} {x1:Loc} {r:Int} (hA:Gd F w) (H:zrl x0 x1=some r):Ret Tryz.prog K 100 [.agg (Loc.cells x0),.agg (Loc.cells x1)] w fun v w'=>∃ (F':Frz),v = .i .i64 r∧St [] w F F' [] w':=by
 refine qa2 Tryz.func100 ?_;have hS:=St.start hA;refine qs ?_;refine bx ([.i .i64 x0.vol,.i .i64 x0.file,.i .i64 x0.off,.i .i64 x0.len]) ?_;intro q w1 U;refine bx ([.i .i64 x1.vol,.i .i64 x1.file,.i .i64 x1.off,.i .i64 x1.len]) ?_;intro s M c;refine ay ?_;obtain ⟨l,B,m,D,H⟩:=bd2 H;obtain ⟨n,I,p,J,H⟩:=bd2 H;obtain ⟨V,L,H⟩:=zaj H;have b:=c.boxAt 1 rfl;have a:=c.boxAt 0 rfl;refine zbw (G:=(F.hold M [q,s])) [0,1,2,3,5,6,7,8,10,11,12,13,15,16,17,18,4,9,14,19,20,21,22] rfl Ty.mixed (by kernel_rfl) (HB.agree (HB.cons 1 b c rfl (HB.cons 0 a c rfl HB.nil)) c.agree) ?_;refine au ?_;refine qr (zdo Ty.zjg rfl (b.held (HB.cons 1 b c rfl (HB.cons 0 a c rfl HB.nil)) (by simp)) rfl) ?_;refine au ?_;refine qr (zdo Ty.zjg rfl (a.held (HB.cons 1 b c rfl (HB.cons 0 a c rfl HB.nil)) (by simp)) rfl) ?_;refine au ?_;refine qr (zdo Ty.zjg rfl (b.held (HB.cons 1 b c rfl (HB.cons 0 a c rfl HB.nil)) (by simp)) rfl) ?_;refine au ?_;refine qr (zdo Ty.zjg rfl (a.held (HB.cons 1 b c rfl (HB.cons 0 a c rfl HB.nil)) (by simp)) rfl) ?_;refine au ?_;refine qr (zdo Ty.zjg rfl (b.held (HB.cons 1 b c rfl (HB.cons 0 a c rfl HB.nil)) (by simp)) rfl) ?_;refine au ?_;refine qr (zdo Ty.zjg rfl (a.held (HB.cons 1 b c rfl (HB.cons 0 a c rfl HB.nil)) (by simp)) rfl) ?_;refine ql (zgy c.good B) ?_;rintro Y aj ⟨O,rfl,u⟩;have e:=c.lent u;refine Nxt.frz (HB.le (HB.cons 1 b e rfl (HB.cons 0 a e rfl HB.nil)) (Frz.le.refl _)) (HB.agree (HB.cons 1 b e rfl (HB.cons 0 a e rfl HB.nil)) e.agree) ?_;refine ql (zgy e.good D) ?_;rintro Z ak ⟨P,rfl,x⟩;have f:=e.lent x;refine Nxt.frz (HB.le (HB.cons 1 b f rfl (HB.cons 0 a f rfl HB.nil)) (Frz.le.refl _)) (HB.agree (HB.cons 1 b f rfl (HB.cons 0 a f rfl HB.nil)) f.agree) ?_;refine ql (zgy f.good I) ?_;rintro ad am ⟨Q,rfl,y⟩;have g:=f.lent y;refine Nxt.frz (HB.le (HB.cons 1 b g rfl (HB.cons 0 a g rfl HB.nil)) (Frz.le.refl _)) (HB.agree (HB.cons 1 b g rfl (HB.cons 0 a g rfl HB.nil)) g.agree) ?_;refine ql (zgy g.good J) ?_;rintro ae ap ⟨R,rfl,z⟩;have h:=g.lent z;refine Nxt.frz (HB.le (HB.cons 1 b h rfl (HB.cons 0 a h rfl HB.nil)) (Frz.le.refl _)) (HB.agree (HB.cons 1 b h rfl (HB.cons 0 a h rfl HB.nil)) h.agree) ?_
 refine qx (E_bs (t:=tI) (vs:=[.i .i64 l,.i .i64 m,.i .i64 n,.i .i64 p]) (xs:=[l,m,n,p]) Tryz.underlying72 Ty.row3 rfl ⟨rfl,⟨rfl,⟨rfl,⟨rfl,trivial⟩⟩⟩⟩ rfl rfl h) ?_;rintro X w7 d;refine Nxt.frz (HB.le (HB.cons 2 b d rfl (HB.cons 1 a d rfl HB.nil)) (Frz.le.refl _)) (HB.agree (HB.cons 2 b d rfl (HB.cons 1 a d rfl HB.nil)) d.agree) ?_;refine ql (zxw (Gd.now d.wf) (d.rowNow (k:=0) rfl) L) ?_;rintro ah ar ⟨S,rfl,A⟩;have j:=d.lent A;refine Nxt.frz (HB.le (HB.cons 2 b j rfl (HB.cons 1 a j rfl HB.nil)) (Frz.le.refl _)) (HB.agree (HB.cons 2 b j rfl (HB.cons 1 a j rfl HB.nil)) j.agree) ?_;exact rz H j
def zqx (x0:List UInt8) (x1:List UInt8):Option Int :=
  some (cmpT x0 x1)
theorem zsz [Kn (KExt Tryz.prog) K]  {x0:List UInt8} {x1:List UInt8} {r:Int} {a:Val} {b:Val} (hA:Gd F w) (c:SlF tB F a x0) (d:SlF tB F b x1) (H:zqx x0 x1=some r):Ret Tryz.prog K 158 [a,b] w fun v w'=>∃ (F':Frz),v = .i .i64 r∧St [] w F F' [] w':=by
 refine qa2 Tryz.func158 ?_;have hS:=St.start hA;refine ax ?_;refine lm (zxv Tryz.func181 rfl rfl (by kernel_rfl) (by kernel_rfl) (c.mono hS.agree) (d.mono hS.agree)) ?_;rintro _ _ ⟨rfl,rfl⟩;exact rz H hS
def zay.k1:Option Bool :=
  some false
def zay.k3 (a:Int) (b:Int→Option Bool):Option Bool :=
  b (wr (a+1))
def zay.l4 (x0:List Cellarerlaw19Act) (b:Int) (e:Int→Option Bool) (d:Int→Option Bool):Int→Option Bool
  | a =>
    bd (ix x0 b) fun f =>
    if decide (a < (f.tree.length:Int)) then
      bd (ix x0 b) fun g =>
      bd (ix g.tree a) fun c =>
      bd (only (!decide (300 < (c.data.length:Int))) (ix x0 b) (Cellarerlaw19Act.mk 0 0 0 [] [])) fun h =>
      bd (only (!decide (300 < (c.data.length:Int))) (ix h.tree a) (File.mk [] [])) fun i =>
      if (decide (300 < (c.data.length:Int))||decide (50 < (i.path.length:Int))) then
        some true
      else
        d (wr (a+1))
    else
      zay.k3 b e
def zay.l2 (x0:List Cellarerlaw19Act) (c:Int→Option Bool):Int→Option Bool
  | a =>
    if (decide (a < (x0.length:Int))&&decide (a < 30)) then
      bd (ix x0 a) fun b =>
      bd (only (!decide (300 < (b.pick.length:Int))) (ix x0 a) (Cellarerlaw19Act.mk 0 0 0 [] [])) fun d =>
      if (decide (300 < (b.pick.length:Int))||decide (10 < (d.tree.length:Int))) then
        some true
      else
        loop (zay.l4 x0 a c) 0
    else
      zay.k1
def zay (x0:List Cellarerlaw19Act):Option Bool :=
  if decide (120 < (x0.length:Int)) then
    some true
  else
    loop (zay.l2 x0) 0
set_option maxHeartbeats 2000000 in
theorem zks {x0:List Cellarerlaw19Act} {r:Bool} {h:Val} (hA:Gd F w) (e:SlF Cellarerlaw19Act.t F h x0) (H:zay x0=some r):Ret Tryz.prog K 26 [h] w fun v w'=>∃ (F':Frz),v = .b r∧St [] w F F' [] w':=by
 refine qa1 Tryz.func26 ?_;have hS:=St.start hA;refine ay ?_;refine qy H (fun a2 H=>?_) (fun a2 H=>?_)
 ·exact rz H hS
 ·refine qk ?_;refine zac (jN (zay.k1=some r) [] hS) ?_ ?_
  ·refine ax ?_;refine lj hS (fun s:Int=>[(0,h),(3,.i .i64 s)]) H ?_;intro bv k G w3 g f H;refine aZ ?_;refine qy H (fun a6 H=>?_) (fun a6 H=>?_)
   ·refine qk ?_;refine zac (jN (zay.k3 k bv=some r) [(0,h),(3,.i .i64 k)] f) ?_ ?_
    ·refine zfa ?_;refine zfl ?_;refine zfl ?_;obtain ⟨ap,ae,b3,bh,H⟩:=bd2 H;refine zja (fun E wq=>E=[(0,h),(3,.i .i64 k),(33,.b (decide (300 < (ap.pick.length:Int))||decide (10 < (b3.tree.length:Int))))] ∧ ∃ l:Frz,G.le l∧St [] w F l [] wq) ?_ ?_
     ·
      rcases Bool.eq_false_or_eq_true (decide (300 < (ap.pick.length:Int))) with d | d
      ·refine qd ?_;refine q2 ?_;obtain ⟨a7,bl⟩:=zaf ae;obtain ⟨b7,aP,m⟩:=(e.mono g).el bl;obtain ⟨bw,bz,rfl,bc,L⟩:=aP;replace m:=qj 5 m;have Q:=m.ixd;refine qi Tryz.underlying73 Ty.ztn Q a7 ?_;refine qr (zga 4 Ty.zun rfl Q) ?_;refine qr (zej 4 Ty.cell82 rfl (m.mono f.agree) (by first | omega | rfl) rfl) ?_;refine qr (zdh Tryz.underlying82 rfl L.ln) ?_;refine qr (zbc rfl rfl zid) ?_;refine qc ?_;refine qvb 25 d ?_;refine qz2 ?_;refine qz2 ?_;refine qz2 ?_;refine qz ?_;refine qc ?_;refine zew ?_;exact zdy _ ⟨rfl,G,(Frz.le.refl _),f⟩ ⟨rfl,rfl,(zbu rfl (by first | rfl | (rw [d];first | done | rfl) | simp [d])),trivial⟩
      ·refine qd ?_;refine q2 ?_;obtain ⟨a8,bm⟩:=zaf ae;obtain ⟨b8,aR,n⟩:=(e.mono g).el bm;obtain ⟨bw,bz,rfl,bc,L⟩:=aR;replace n:=qj 5 n;have R:=n.ixd;refine qi Tryz.underlying73 Ty.ztn R a8 ?_;refine qr (zga 4 Ty.zun rfl R) ?_;refine qr (zej 4 Ty.cell82 rfl (n.mono f.agree) (by first | omega | rfl) rfl) ?_;refine qr (zdh Tryz.underlying82 rfl L.ln) ?_;refine qr (zbc rfl rfl zid) ?_;refine qc ?_;refine qvb 25 d ?_;refine q2 ?_;have aj:=bh;rw [zck (by first | rfl | (rw [d];first | done | rfl) | simp [d])] at aj;obtain ⟨a9,bn⟩:=zaf aj;obtain ⟨b9,aT,p⟩:=(e.mono g).el bn;obtain ⟨bP,bQ,rfl,be,bG⟩:=aT;replace p:=qj 5 p;have S:=p.ixd;refine qi Tryz.underlying73 Ty.ztn S a9 ?_;refine qr (zga 3 Ty.znt rfl S) ?_;refine qr (zej 3 Ty.cell22 rfl (p.mono f.agree) (by first | omega | rfl) rfl) ?_;refine qr (zdh Tryz.underlying22 rfl be.ln) ?_;refine qr (zbc rfl rfl zid) ?_;refine qc ?_;refine zew ?_;exact zdy _ ⟨rfl,G,(Frz.le.refl _),f⟩ ⟨rfl,rfl,(zbu rfl (by first | rfl | (rw [d];first | done | rfl) | simp [d])),trivial⟩
     rintro E bW ⟨rfl,l,B,J⟩;refine zgl ?_;refine qy H (fun a3 H=>?_) (fun a3 H=>?_)
     ·exact rz H J
     ·refine ax ?_;refine zbo (fun (s:Int) E wq=>∃ (j:Frz),E=[(0,h),(3,.i .i64 k),(4,.i .i64 s)]∧l.le j∧Same J j wq) H ?_ ?_
      ·exact lo (jj J)
      ·rintro bO bu E bY hI H
       try dsimp only at hI
       obtain ⟨j,rfl,D,c⟩:=hI;obtain ⟨cc,bi,H⟩:=zaj H;obtain ⟨_,⟨bR,bS,rfl,bH,bI⟩,_⟩:=elx 5 (e.mono ((g.trans B).trans D)) bi;refine ay ?_;refine qy H (fun a4 H=>?_) (fun a4 H=>?_)
       ·refine qk ?_;refine zfl ?_;refine zfa ?_;refine zfl ?_;obtain ⟨cd,ah,ar,ai,H⟩:=bd2 H;obtain ⟨ce,bj,b4,bk,H⟩:=bd2 H;refine zja (fun E wq=>E=[(0,h),(3,.i .i64 k),(4,.i .i64 bu),(67,.b (decide (300 < (ar.data.length:Int))||decide (50 < (b4.path.length:Int))))] ∧ ∃ I:Frz,j.le I∧St [] w F I [] wq) ?_ ?_
        ·
         rcases Bool.eq_false_or_eq_true (decide (300 < (ar.data.length:Int))) with a | a
         ·refine qd ?_;refine q2 ?_;obtain ⟨aC,bo⟩:=zaf ah;obtain ⟨bA,aU,q⟩:=(e.mono ((g.trans B).trans D)).el bo;obtain ⟨b0,b1,rfl,M,bf⟩:=aU;replace q:=qj 5 q;have U:=q.ixd;refine qi Tryz.underlying73 Ty.ztn U aC ?_;refine qr (zga 3 Ty.znt rfl U) ?_;refine qr (zej 3 Ty.cell22 rfl (q.mono c.agree) (by first | omega | rfl) rfl) ?_;refine qc ?_;obtain ⟨aD,bp⟩:=zaf ai;obtain ⟨bB,aV,u⟩:=M.el bp;obtain ⟨b2,rfl,O⟩:=aV;replace u:=qj 2 u;have V:=u.ixd;refine qi Tryz.underlying22 Ty.zli V aD ?_;refine qr (zga 1 Ty.zrs rfl V) ?_;refine qr (zej 1 Ty.zsl rfl (u.mono c.agree) (by first | omega | rfl) rfl) ?_;refine qr (zdh Tryz.underlying47 rfl O.ln) ?_;refine qr (zbc rfl rfl zid) ?_;refine qc ?_;refine qvb 55 a ?_;refine qz2 ?_;refine qz2 ?_;refine qz2 ?_;refine qz2 ?_;refine qz2 ?_;refine qz ?_;refine qc ?_;refine zew ?_;exact zdy _ ⟨rfl,j,(Frz.le.refl _),c⟩ ⟨rfl,rfl,rfl,(zbu rfl (by first | rfl | (rw [a];first | done | rfl) | simp [a])),trivial⟩
         ·refine qd ?_;refine q2 ?_;obtain ⟨aH,bq⟩:=zaf ah;obtain ⟨bC,aX,x⟩:=(e.mono ((g.trans B).trans D)).el bq;obtain ⟨b0,b1,rfl,M,bf⟩:=aX;replace x:=qj 5 x;have X:=x.ixd;refine qi Tryz.underlying73 Ty.ztn X aH ?_;refine qr (zga 3 Ty.znt rfl X) ?_;refine qr (zej 3 Ty.cell22 rfl (x.mono c.agree) (by first | omega | rfl) rfl) ?_;refine qc ?_;obtain ⟨aJ,br⟩:=zaf ai;obtain ⟨bD,aY,y⟩:=M.el br;obtain ⟨b2,rfl,O⟩:=aY;replace y:=qj 2 y;have Y:=y.ixd;refine qi Tryz.underlying22 Ty.zli Y aJ ?_;refine qr (zga 1 Ty.zrs rfl Y) ?_;refine qr (zej 1 Ty.zsl rfl (y.mono c.agree) (by first | omega | rfl) rfl) ?_;refine qr (zdh Tryz.underlying47 rfl O.ln) ?_;refine qr (zbc rfl rfl zid) ?_;refine qc ?_;refine qvb 55 a ?_;refine q2 ?_;have ak:=bj;rw [zck (by first | rfl | (rw [a];first | done | rfl) | simp [a])] at ak;obtain ⟨aK,bs⟩:=zaf ak;obtain ⟨bE,ba,z⟩:=(e.mono ((g.trans B).trans D)).el bs;obtain ⟨bT,bU,rfl,bg,bJ⟩:=ba;replace z:=qj 5 z;have Z:=z.ixd;refine qi Tryz.underlying73 Ty.ztn Z aK ?_;refine qr (zga 3 Ty.znt rfl Z) ?_;refine qr (zej 3 Ty.cell22 rfl (z.mono c.agree) (by first | omega | rfl) rfl) ?_;refine qc ?_;have am:=bk;rw [zck (by first | rfl | (rw [a];first | done | rfl) | simp [a])] at am;obtain ⟨aO,bt⟩:=zaf am;obtain ⟨bF,bb,A⟩:=bg.el bt;obtain ⟨bV,rfl,bK⟩:=bb;replace A:=qj 2 A;have ad:=A.ixd;refine qi Tryz.underlying22 Ty.zli ad aO ?_;refine qr (zga 0 Ty.zke rfl ad) ?_;refine qr (zej 0 Ty.cell9 rfl (A.mono c.agree) (by first | omega | rfl) rfl) ?_;refine qr (O_lenS Tryz.underlying9 rfl) ?_;refine qr (zbc rfl rfl zid) ?_;refine qc ?_;refine zew ?_;exact zdy _ ⟨rfl,j,(Frz.le.refl _),c⟩ ⟨rfl,rfl,rfl,(zbu rfl (by first | rfl | (rw [a];first | done | rfl) | simp [a])),trivial⟩
        rintro E ca ⟨rfl,I,bM,P⟩;refine zgl ?_;refine qy H (fun a5 H=>?_) (fun a5 H=>?_)
        ·exact rz H P
        ·refine ax ?_;exact nm H (jj P)
       ·refine ax ?_;exact nj ⟨H,jj c⟩
    ·rintro E w9 ⟨H,F9,rfl,bN,a1⟩;refine ax ?_;exact nm H (jj a1)
   ·refine zbe _ rfl ?_;exact nj ⟨H,jj f⟩
  ·rintro E w2 ⟨H,F2,rfl,bL,a0⟩;exact rz H a0
def zbp.k2 (l6:List Int):Option (List Int) :=
  some l6
def zbp.k1 (l2:List Int):Option (List Int) :=
  if decide ((l2.length:Int)=0) then
    zbp.k2 [0]
  else
    zbp.k2 l2
def zbp.l3 (x0:List Int) (c:((List Int) × Int)→Option (List Int)):((List Int) × Int)→Option (List Int)
  | (l12,a) =>
    if (decide (a < (x0.length:Int))&&decide (a < 8)) then
      bd (ix x0 a) fun d =>
      bd (app (α:=Int) l12 [bits .and .i64 d 1]) fun b =>
      c (b,wr (a+1))
    else
      zbp.k1 l12
def zbp (x0:List Int):Option (List Int) :=
  loop (zbp.l3 x0) ([],0)
theorem zmz {x0:List Int} {r:(List Int)} {h:Val} (hA:Gd F w) (p:SlF tI F h x0) (H:zbp x0=some r):Ret Tryz.prog K 27 [h] w fun v w'=>∃ (F':Frz) (m:Val),v=m∧St [] w F F' [.row tI m (r)] w':=by
 refine qa1 Tryz.func27 ?_;have hS:=St.start hA;refine aq ?_;refine aq ?_;refine zac (fun E wq=>∃ l2:List Int,zbp.k1 l2=some r ∧ ∃ (a:Frz) (e:Val),E=[(3,e)]∧F.le a∧Also hS [.row tI e l2] a wq) ?_ ?_
 ·refine ax ?_;refine zbo (fun (s:(List Int) × Int) E wq=>∃ (g:Frz) (d:Val),E=[(0,h),(3,d),(4,.i .i64 s.2)]∧F.le g∧Also hS [.row tI d s.1] g wq) H ?_ ?_
  ·have x:=hS.nilRow tI;exact lo ⟨F,(.sl none 0 (.k 0)),rfl,(Frz.le.refl _),x⟩
  ·rintro Q ⟨l12,L⟩ E V hI H
   try dsimp only at hI
   obtain ⟨g,d,rfl,G,j⟩:=hI;refine aZ ?_;refine qy H (fun z H=>?_) (fun z H=>?_)
   ·obtain ⟨n,D,M,B,H⟩:=bd2 H;obtain ⟨_,rfl,_⟩:=elx 1 (p.mono G) D;refine ay ?_;refine qr (zbc rfl rfl (zdk (.inl rfl))) ?_;refine xm (E_bs (t:=tI) (vs:=[.i .i64 (bits .and .i64 n 1)]) (xs:=[bits .and .i64 n 1]) Tryz.underlying72 Ty.row3 rfl ⟨rfl,trivial⟩ rfl rfl j) ?_;rintro R X l;refine xm (zep (t:=tI) 1 Tryz.underlying72 Ty.row3 Ty.zk72 rfl rfl l rfl (l.rowSrc (k:=0) rfl) B) ?_;rintro J Y u;refine ax ?_;exact nm H ⟨_,J,rfl,lec,pk [1] u⟩
   ·refine zbe _ rfl ?_;exact nj ⟨l12,H,⟨_,d,rfl,lec,j⟩⟩
 ·rintro E S ⟨l2,H,a,e,rfl,O,c⟩;refine zac (fun E wq=>∃ l6:List Int,zbp.k2 l6=some r ∧ ∃ (b:Frz) (f:Val),E=[(3,f)]∧a.le b∧Also c [.row tI f l6] b wq) ?_ ?_
  ·refine aq ?_;refine qr (zdh Tryz.underlying72 rfl (c.rowLn (k:=0) rfl)) ?_;refine au ?_;refine qy H (fun A H=>?_) (fun A H=>?_)
   ·refine qd ?_;refine xm (E_bs (t:=tI) (vs:=[.i .i64 0]) (xs:=[0]) Tryz.underlying72 Ty.row3 rfl ⟨rfl,trivial⟩ rfl rfl c) ?_;rintro I U q;refine ax ?_;exact nj ⟨[0],H,⟨_,I,rfl,lec,pk [0] q⟩⟩
   ·refine ziz ?_;exact nj ⟨l2,H,⟨_,e,rfl,lec,c⟩⟩
  ·rintro E Z ⟨l6,H,b,f,rfl,P,y⟩;refine aq ?_;obtain rfl:=oi H;refine qt ?_;exact ⟨b,f,rfl,y⟩
def zcy.k1 (l4:List Vol):Option Catalog :=
  some (Catalog.mk 0 [] [] [] l4)
def zcy.l2 (x0:List Int) (d:(Int × (List Vol))→Option Catalog):(Int × (List Vol))→Option Catalog
  | (a,b) =>
    if decide (a < (x0.length:Int)) then
      bd (ix x0 a) fun e =>
      bd (app (α:=Vol) b [(Vol.mk e 0 1 0)]) fun c =>
      d (wr (a+1),c)
    else
      zcy.k1 b
def zcy (x0:List Int):Option Catalog :=
  loop (zcy.l2 x0) (0,[])
theorem zot {x0:List Int} {r:Catalog} {l:Val} (hA:Gd F w) (z:SlF tI F l x0) (H:zcy x0=some r):Ret Tryz.prog K 28 [l] w fun v w'=>∃ (F':Frz) (p:Val) (q:Val) (u:Val) (x:Val),v = .agg (Catalog.cells r p q u x)∧St [] w F F' [.row Snap.t p (r.snaps),.row Chunk.t q (r.chunks),.row Exp.t u (r.exps),.row Vol.t x (r.vols)] w':=by
 refine qa1 Tryz.func28 ?_;have hS:=St.start hA;refine qs ?_;refine al ?_;intro c w1 R;refine ax ?_;refine al ?_;intro d w2 h;refine qn ?_;refine zac (fun E wq=>∃ l4:List Vol,zcy.k1 l4=some r ∧ ∃ (b:Frz) (a:Val),E=[(2,pl c 0),(3,pl d 0)]∧F.le b∧Also h [.box d [.i .i64 0,.sl none 0 (.k 0),.sl none 0 (.k 0),.sl none 0 (.k 0),a],.box c [.i .i64 0,.sl none 0 (.k 0),.sl none 0 (.k 0),.sl none 0 (.k 0),.sl none 0 (.k 0)],.row Vol.t a l4] b wq) ?_ ?_
 ·refine ax ?_;refine zbo (fun (s:Int × (List Vol)) E wq=>∃ (f:Frz) (e:Val),E=[(0,l),(2,pl c 0),(3,pl d 0),(4,.i .i64 s.1)]∧F.le f∧Also h [.box d [.i .i64 0,.sl none 0 (.k 0),.sl none 0 (.k 0),.sl none 0 (.k 0),e],.box c [.i .i64 0,.sl none 0 (.k 0),.sl none 0 (.k 0),.sl none 0 (.k 0),.sl none 0 (.k 0)],.row Vol.t e s.2] f wq) H ?_ ?_
  ·have G:=h.nilRow Vol.t;exact lo ⟨F,(.sl none 0 (.k 0)),rfl,(Frz.le.refl _),G.pick [1,2,0] (by decide)⟩
  ·rintro Z ⟨V,P⟩ E ah hI H
   try dsimp only at hI
   obtain ⟨f,e,rfl,Q,g⟩:=hI;refine ay ?_;refine qy H (fun L H=>?_) (fun L H=>?_)
   ·refine ay ?_;obtain ⟨m,O,X,M,H⟩:=bd2 H;refine rf g ?_;obtain ⟨_,rfl,U⟩:=elx 1 (z.mono Q) O;refine au ?_;refine W_c (v:=.agg (Vol.cells (Vol.mk m 0 1 0))) rfl rfl rfl rfl (fun _=>rfl) ?_;refine qx (E_bs (t:=Vol.t) (vs:=[.agg (Vol.cells (Vol.mk m 0 1 0))]) (xs:=[(Vol.mk m 0 1 0)]) Tryz.underlying33 Ty.row32 rfl ⟨rfl,trivial⟩ rfl rfl g) ?_;rintro ad aj j;refine qw j ?_;refine qx (zep (t:=Vol.t) 3 Tryz.underlying33 Ty.row32 Ty.zk33 rfl rfl j rfl (j.rowSrc (k:=0) rfl) M) ?_;rintro y ak B;refine qw B ?_;refine au ?_;refine sC 1 ([.i .i64 0,.sl none 0 (.k 0),.sl none 0 (.k 0),.sl none 0 (.k 0),y]) ?_;intro am D;refine ax ?_;exact nm H ⟨_,y,rfl,lec,pk [1,2,3] D⟩
   ·refine zbe _ rfl ?_;exact nj ⟨P,H,⟨_,e,rfl,lec,g⟩⟩
 ·rintro E w3 ⟨l4,H,b,a,rfl,Y,S⟩;refine aq ?_;refine sb 1 ([.i .i64 0,.sl none 0 (.k 0),.sl none 0 (.k 0),.sl none 0 (.k 0),a]) ?_;intro w7 I;refine qn ?_;have J:=I.nilRow Snap.t;have A:=J.nilRow Chunk.t;have n:=A.nilRow Exp.t;obtain rfl:=oi H;refine zgb (vs:=[.agg (Catalog.cells (Catalog.mk 0 [] [] [] l4) (.sl none 0 (.k 0)) (.sl none 0 (.k 0)) (.sl none 0 (.k 0)) a)]) rfl ⟨(zeo 4 Ty.zjo Ty.zgk n rfl rfl),trivial⟩ ?_;exact ⟨b,(.sl none 0 (.k 0)),(.sl none 0 (.k 0)),(.sl none 0 (.k 0)),a,rfl,n.pick [2,1,0,5] (by decide)⟩
def zcm.k1:Option Bool :=
  some false
def zcm.l2 (x0:List File) (b:Int→Option Bool):Int→Option Bool
  | a =>
    if decide (a < (x0.length:Int)) then
      bd (ix x0 a) fun x7 =>
      if decide (200 < (x7.data.length:Int)) then
        some true
      else
        b (wr (a+1))
    else
      zcm.k1
def zcm (x0:List File):Option Bool :=
  if decide (6 < (x0.length:Int)) then
    some true
  else
    loop (zcm.l2 x0) 0
theorem zjn {x0:List File} {r:Bool} {c:Val} (hA:Gd F w) (d:SlF File.t F c x0) (H:zcm x0=some r):Ret Tryz.prog K 39 [c] w fun v w'=>∃ (F':Frz),v = .b r∧St [] w F F' [] w':=by
 refine qa1 Tryz.func39 ?_;have hS:=St.start hA;refine ay ?_;refine qy H (fun f H=>?_) (fun f H=>?_)
 ·exact rz H hS
 ·refine qk ?_;refine zac (jN (zcm.k1=some r) [] hS) ?_ ?_
  ·refine ax ?_;refine lj hS (fun s:Int=>[(0,c),(3,.i .i64 s)]) H ?_;intro u p m z k a H;refine ay ?_;refine qy H (fun h H=>?_) (fun h H=>?_)
   ·obtain ⟨x7,j,H⟩:=zaj H;obtain ⟨_,⟨x,rfl,n⟩,_⟩:=elx 2 (d.mono k) j;refine ay ?_;refine qy H (fun g H=>?_) (fun g H=>?_)
    ·exact rz H a
    ·refine ax ?_;exact nm H (jj a)
   ·refine zbe _ rfl ?_;exact nj ⟨H,jj a⟩
  ·rintro E y ⟨H,l,rfl,q,e⟩;exact rz H e
def zby.k1 (x0:List UInt8):Option Bool :=
  some (decide (1≤(x0.length:Int))&&decide ((x0.length:Int)≤20))
def zby.l2 (x0:List UInt8) (b:Int→Option Bool):Int→Option Bool
  | a =>
    if decide (a < (x0.length:Int)) then
      bd (ix x0 a) fun x9 =>
      bd (only (!decide ((x9.toNat:Int) < 33)) (ix x0 a) 0) fun c =>
      if (decide ((x9.toNat:Int) < 33)||decide (126 < (c.toNat:Int))) then
        some false
      else
        b (wr (a+1))
    else
      zby.k1 x0
def zby (x0:List UInt8):Option Bool :=
  loop (zby.l2 x0) 0
theorem zez {x0:List UInt8} {r:Bool} (hA:Gd F w) (H:zby x0=some r):Ret Tryz.prog K 40 [.s x0] w fun v w'=>∃ (F':Frz),v = .b r∧St [] w F F' [] w':=by
 refine qa1 Tryz.func40 ?_;have hS:=St.start hA;refine aq ?_;refine zac (jN (zby.k1 x0=some r) [(0,.s x0)] hS) ?_ ?_
 ·refine ax ?_;refine lj hS (fun s:Int=>[(0,.s x0),(3,.i .i64 s)]) H ?_;intro A x u D z a H;refine ay ?_;refine qy H (fun g H=>?_) (fun g H=>?_)
  ·obtain ⟨x9,l,p,k,H⟩:=bd2 H;refine ay ?_;obtain ⟨h,m⟩:=zaf l;refine qr (O_ixS Tryz.underlying9 rfl rfl h m) ?_;refine aw ?_;refine W_gs (v:=.i .u8 (p.toNat:Int)) rfl rfl rfl rfl (fun ⟨c,_⟩=>?_) ?_
   ·rw [c];intro hK;have d:=k;rw [zck (by first | rfl | (rw [c];first | done | rfl) | simp [c])] at d;obtain ⟨j,n⟩:=zaf d;refine qr (O_ixS Tryz.underlying9 rfl rfl j n) ?_;exact hK
   refine aw ?_;refine qy H (fun f H=>?_) (fun f H=>?_)
   ·exact rz H a
   ·refine ax ?_;exact nm H (jj a)
  ·refine zbe _ rfl ?_;exact nj ⟨H,jj a⟩
 ·rintro E B ⟨H,q,rfl,y,e⟩;refine av ?_;exact rz H e
def zeg (x0:List UInt8):Option (List UInt8) :=
  bd (app (α:=UInt8) [] x0) fun a =>
  some a
theorem zgf {x0:List UInt8} {r:(List UInt8)} {c:Val} (hA:Gd F w) (d:SlF tB F c x0) (H:zeg x0=some r):Ret Tryz.prog K 16 [c] w fun v w'=>∃ (F':Frz) (b:Val),v=b∧St [] w F F' [.row tB b (r)] w':=by
 refine qa1 Tryz.func16 ?_;have hS:=St.start hA;obtain ⟨h,f,H⟩:=zaj H;refine ax ?_;have a:=hS.nilRow tB;refine xm (zep (t:=tB) 0 Tryz.underlying47 Ty.row5 Ty.zk47 rfl rfl a rfl (d.src a.agree) f) ?_;rintro g i e;refine au ?_;obtain rfl:=oi H;refine qt ?_;exact ⟨F,g,rfl,e⟩
def zaq.k2 (l8:List File):Option ((List File) × Int) :=
  some (l8,0)
def zaq.k4 (a:Int) (b:((List File) × Int)→Option ((List File) × Int)) (l19:List File):Option ((List File) × Int) :=
  b (l19,wr (a+1))
def zaq.k5 (x0:List File) (l12:List File) (b:Int) (j:((List File) × Int)→Option ((List File) × Int)) (a:Int):Option ((List File) × Int) :=
  bd (only (decide (a < (l12.length:Int))) (ix l12 a) (File.mk [] [])) fun k =>
  bd (only (decide (a < (l12.length:Int))) (ix x0 b) (File.mk [] [])) fun l =>
  if (decide (a < (l12.length:Int))&&(k.path == l.path)) then
    some ([],9)
  else
    bd (cut (α:=File) l12 0 a) fun d =>
    bd (ix x0 b) fun c =>
    bd (app (α:=File) [] d) fun e =>
    bd (zeg c.data) fun i =>
    bd (app (α:=File) e [(File.mk c.path i)]) fun f =>
    bd (cut (α:=File) l12 a (l12.length:Int)) fun g =>
    bd (app (α:=File) f g) fun h =>
    zaq.k4 b j h
def zaq.l6 (x0:List File) (l12:List File) (b:Int) (c:((List File) × Int)→Option ((List File) × Int)) (d:Int→Option ((List File) × Int)):Int→Option ((List File) × Int)
  | a =>
    bd (only (decide (a < (l12.length:Int))) (ix l12 a) (File.mk [] [])) fun e =>
    bd (only (decide (a < (l12.length:Int))) (ix x0 b) (File.mk [] [])) fun f =>
    if (decide (a < (l12.length:Int))&&(sLt e.path f.path)) then
      d (wr (a+1))
    else
      zaq.k5 x0 l12 b c a
def zaq.l3 (x0:List File) (b:((List File) × Int)→Option ((List File) × Int)):((List File) × Int)→Option ((List File) × Int)
  | (l12,a) =>
    if decide (a < (x0.length:Int)) then
      loop (zaq.l6 x0 l12 a b) 0
    else
      zaq.k2 l12
def zaq.k1 (x0:List File):Option ((List File) × Int) :=
  loop (zaq.l3 x0) ([],0)
def zaq.l7 (x0:List File) (c:Int→Option ((List File) × Int)):Int→Option ((List File) × Int)
  | a =>
    if decide (a < (x0.length:Int)) then
      bd (ix x0 a) fun d =>
      bd (zby d.path) fun b =>
      if (!b) then
        some ([],1)
      else
        c (wr (a+1))
    else
      zaq.k1 x0
def zaq (x0:List File):Option ((List File) × Int) :=
  bd (zcm x0) fun a =>
  if a then
    some ([],2)
  else
    loop (zaq.l7 x0) 0
set_option maxHeartbeats 2000000 in
theorem znz {x0:List File} {r:(List File) × Int} {c:Val} (hA:Gd F w) (p:SlF File.t F c x0) (H:zaq x0=some r):Ret Tryz.prog K 9 [c] w fun v w'=>∃ (F':Frz) (q0:Val),v = .tup [q0,.i .i64 r.2]∧St [] w F F' [.row File.t q0 (r.1)] w':=by
 refine qa1 Tryz.func9 ?_;have hS:=St.start hA;obtain ⟨r1,bo,H⟩:=zaj H;refine ay ?_;refine lp (zjn hS.good p bo) hS ?_;intro w2 S;refine qn ?_;refine qy H (fun aV H=>?_) (fun aV H=>?_)
 ·refine aq ?_;have aK:=S.nilRow File.t;obtain rfl:=oi H;refine qt ?_;exact ⟨F,(.sl none 0 (.k 0)),rfl,aK⟩
 ·refine qk ?_;refine zac (jN (zaq.k1 x0=some r) [(0,c)] S) ?_ ?_
  ·refine ax ?_;refine lj S (fun s:Int=>[(0,c),(4,.i .i64 s)]) H ?_;intro cl bY aC cA bE ad H;refine ay ?_;refine qy H (fun ba H=>?_) (fun ba H=>?_)
   ·obtain ⟨cD,b5,cj,bu,H⟩:=bd2 H;obtain ⟨_,⟨cs,rfl,bV⟩,_⟩:=elx 2 (p.mono bE) b5;refine ay ?_;refine lp (zez ad.good bu) ad ?_;intro cC am;refine au ?_;refine qy H (fun bb H=>?_) (fun bb H=>?_)
    ·refine aq ?_;have aT:=am.nilRow File.t;obtain rfl:=oi H;refine qt ?_;exact ⟨aC,(.sl none 0 (.k 0)),rfl,aT⟩
    ·refine ax ?_;exact nm H (jj am)
   ·refine zbe _ rfl ?_;exact nj ⟨H,jj ad⟩
  ·rintro E w6 ⟨H,Q,rfl,ah,Z⟩;refine aq ?_;refine zac (fun E wq=>∃ l8:List File,zaq.k2 l8=some r ∧ ∃ (q:Frz) (J:Val),E=[(5,J)]∧Q.le q∧Also Z [.row File.t J l8] q wq) ?_ ?_
   ·refine ax ?_;refine zbo (fun (s:(List File) × Int) E wq=>∃ (m:Frz) (a:Val),E=[(0,c),(5,a),(6,.i .i64 s.2)]∧Q.le m∧Also Z [.row File.t a s.1] m wq) H ?_ ?_
    ·have aR:=Z.nilRow File.t;exact lo ⟨Q,(.sl none 0 (.k 0)),rfl,(Frz.le.refl _),aR⟩
    ·rintro a9 ⟨l12,g⟩ E cw hI H
     try dsimp only at hI
     obtain ⟨m,a,rfl,ae,u⟩:=hI;refine ay ?_;refine qy H (fun aU H=>?_) (fun aU H=>?_)
     ·refine qk ?_;refine zac (fun E wq=>∃ l19:List File,zaq.k4 g a9 l19=some r ∧ ∃ (O:Frz) (I:Val),E=[(0,c),(5,I),(6,.i .i64 g)]∧m.le O∧Also u [.row File.t I l19] O wq) ?_ ?_
      ·refine zfa ?_;refine aq ?_;refine zac (fun E wq=>∃ f:Int,zaq.k5 x0 l12 g a9 f=some r ∧ ∃ (h:Frz),E=[(0,c),(5,a),(6,.i .i64 g),(7,.i .i64 f)]∧m.le h∧Same u h wq) ?_ ?_
       ·refine zfa ?_;refine lj u (fun s:Int=>[(0,c),(5,a),(6,.i .i64 g),(7,.i .i64 s)]) H ?_;intro ck D P c6 bD l H;refine zfl ?_;refine zfl ?_;obtain ⟨bJ,b3,bK,b4,H⟩:=bd2 H;refine zja (fun E wq=>E=[(0,c),(5,a),(6,.i .i64 g),(7,.i .i64 D),(46,.b (decide (D < (l12.length:Int))&&(sLt bJ.path bK.path)))] ∧ ∃ R:Frz,P.le R∧St [] w F R [.row File.t a l12] wq) ?_ ?_
        ·
         rcases Bool.eq_false_or_eq_true (decide (D < (l12.length:Int))) with e | e
         ·refine rn ?_;refine q2 ?_;refine qr (zdh Tryz.underlying22 rfl (l.rowLn (k:=0) rfl)) ?_;refine qr (zbc rfl rfl ziy) ?_;refine qc ?_;refine qvb 34 e ?_;refine q2 ?_;have a5:=b3;rw [zck e] at a5;obtain ⟨bm,b8⟩:=zaf a5;obtain ⟨bP,bs,A⟩:=l.rowAt (k:=0) rfl b8;obtain ⟨cq,rfl,bT⟩:=bs;replace A:=qj 2 A;have a1:=A.ixd;refine qi Tryz.underlying22 Ty.zli a1 bm ?_;refine qr (zga 0 Ty.zke rfl a1) ?_;refine qr (zej 0 Ty.cell9 rfl A (by first | omega | rfl) rfl) ?_;refine q2 ?_;have a6:=b4;rw [zck e] at a6;obtain ⟨bn,b9⟩:=zaf a6;obtain ⟨bQ,bt,B⟩:=(p.mono ((ah.trans ae).trans bD)).el b9;obtain ⟨cr,rfl,bU⟩:=bt;replace B:=qj 2 B;have a2:=B.ixd;refine qi Tryz.underlying22 Ty.zli a2 bn ?_;refine qr (zga 0 Ty.zke rfl a2) ?_;refine qr (zej 0 Ty.cell9 rfl (B.mono l.agree) (by first | omega | rfl) rfl) ?_;refine qr (zbc rfl rfl bS_lss) ?_;refine qc ?_;refine zew ?_;exact zdy _ ⟨rfl,P,(Frz.le.refl _),l⟩ ⟨rfl,rfl,rfl,rfl,(zbu rfl (by first | rfl | (rw [e];first | done | rfl) | simp [e])),trivial⟩
         ·refine rn ?_;refine q2 ?_;refine qr (zdh Tryz.underlying22 rfl (l.rowLn (k:=0) rfl)) ?_;refine qr (zbc rfl rfl ziy) ?_;refine qc ?_;refine qvb 34 e ?_;refine qz2 ?_;refine qz2 ?_;refine qz2 ?_;refine qz2 ?_;refine qz2 ?_;refine qz ?_;refine qc ?_;refine zew ?_;exact zdy _ ⟨rfl,P,(Frz.le.refl _),l⟩ ⟨rfl,rfl,rfl,rfl,(zbu rfl (by first | rfl | (rw [e];first | done | rfl) | simp [e])),trivial⟩
        rintro E c8 ⟨rfl,R,ce,ak⟩;refine zgl ?_;refine qy H (fun aY H=>?_) (fun aY H=>?_)
        ·refine ax ?_;exact nm H (jj ak)
        ·refine zbe _ rfl ?_;exact nj ⟨D,H,jj ak⟩
       ·rintro E cz ⟨f,H,h,rfl,a7,j⟩;refine zfl ?_;refine zfl ?_;obtain ⟨bH,b0,bI,b1,H⟩:=bd2 H;refine zja (fun E wq=>E=[(0,c),(5,a),(6,.i .i64 g),(7,.i .i64 f),(65,.b (decide (f < (l12.length:Int))&&(bH.path == bI.path)))] ∧ ∃ n:Frz,h.le n∧St [] w F n [.row File.t a l12] wq) ?_ ?_
        ·
         rcases Bool.eq_false_or_eq_true (decide (f < (l12.length:Int))) with d | d
         ·refine rn ?_;refine q2 ?_;refine qr (zdh Tryz.underlying22 rfl (j.rowLn (k:=0) rfl)) ?_;refine qr (zbc rfl rfl ziy) ?_;refine qc ?_;refine qvb 53 d ?_;refine q2 ?_;have a3:=b0;rw [zck d] at a3;obtain ⟨bk,b6⟩:=zaf a3;obtain ⟨bN,bp,y⟩:=j.rowAt (k:=0) rfl b6;obtain ⟨cn,rfl,bR⟩:=bp;replace y:=qj 2 y;have ar:=y.ixd;refine qi Tryz.underlying22 Ty.zli ar bk ?_;refine qr (zga 0 Ty.zke rfl ar) ?_;refine qr (zej 0 Ty.cell9 rfl y (by first | omega | rfl) rfl) ?_;refine q2 ?_;have a4:=b1;rw [zck d] at a4;obtain ⟨bl,b7⟩:=zaf a4;obtain ⟨bO,bq,z⟩:=(p.mono ((ah.trans ae).trans a7)).el b7;obtain ⟨co,rfl,bS⟩:=bq;replace z:=qj 2 z;have a0:=z.ixd;refine qi Tryz.underlying22 Ty.zli a0 bl ?_;refine qr (zga 0 Ty.zke rfl a0) ?_;refine qr (zej 0 Ty.cell9 rfl (z.mono j.agree) (by first | omega | rfl) rfl) ?_;refine qr (zbc rfl rfl bS_eql) ?_;refine qc ?_;refine zew ?_;exact zdy _ ⟨rfl,h,(Frz.le.refl _),j⟩ ⟨rfl,rfl,rfl,rfl,(zbu rfl (by first | rfl | (rw [d];first | done | rfl) | simp [d])),trivial⟩
         ·refine rn ?_;refine q2 ?_;refine qr (zdh Tryz.underlying22 rfl (j.rowLn (k:=0) rfl)) ?_;refine qr (zbc rfl rfl ziy) ?_;refine qc ?_;refine qvb 53 d ?_;refine qz2 ?_;refine qz2 ?_;refine qz2 ?_;refine qz2 ?_;refine qz2 ?_;refine qz ?_;refine qc ?_;refine zew ?_;exact zdy _ ⟨rfl,h,(Frz.le.refl _),j⟩ ⟨rfl,rfl,rfl,rfl,(zbu rfl (by first | rfl | (rw [d];first | done | rfl) | simp [d])),trivial⟩
        rintro E c0 ⟨rfl,n,bB,x⟩;refine zgl ?_;refine qy H (fun aX H=>?_) (fun aX H=>?_)
        ·refine aq ?_;have aH:=x.nilRow File.t;obtain rfl:=oi H;refine qt ?_;exact ⟨n,(.sl none 0 (.k 0)),rfl,aH.pick [0] (by decide)⟩
        ·refine ay ?_;obtain ⟨bZ,bf,M,b2,H⟩:=bd2 H;obtain ⟨ca,bg,ai,br,H⟩:=bd2 H;obtain ⟨cb,bh,H⟩:=zaj H;refine zbw (G:=n) [0,1,2,3,5,6,7,8,9,10,11,12,13,14,4,15,16,17,18,19] rfl Ty.mixed (by kernel_rfl) x.agree ?_;refine au ?_;refine zlb 0 0 f rfl rfl rfl rfl Tryz.underlying22 Ty.zli rfl (.inl ⟨rfl,rfl⟩) (.inr ⟨_,_,rfl,rfl⟩) x rfl bf ?_;intro cg bw bW;obtain ⟨_,⟨cp,rfl,bv⟩,_⟩:=elx 2 (p.mono (((ah.trans ae).trans a7).trans bB)) b2;refine au ?_;have aJ:=x.nilRow File.t;refine qx (zep (t:=File.t) 0 Tryz.underlying22 Ty.row101 Ty.zk22 rfl rfl aJ rfl bw bg) ?_;rintro ct c1 U;refine qw U ?_;refine ql (zgf U.good bv br) ?_;rintro L c4 ⟨bM,_,rfl,ap⟩;have Y:=U.call ap;have bF:=ap.ext;refine Nxt.frz bF Y.agree ?_;have bc:=(Y.rowLn (k:=0) rfl).cells;refine qr (zlm (vs:=[(0,.s M.path),(1,L)]) (v:=.agg (File.cells (File.mk M.path ai) L)) Ty.bld101 rfl (by simp only [zkr,bc];rfl)) ?_;obtain ⟨bL,bC,be,aj⟩:=Y.freezeR 0 [1,2] rfl (by decide) (by decide);refine W_rg bC aj.agree ?_;refine qx (E_bs (t:=File.t) (vs:=[.agg (File.cells (File.mk M.path ai) L)]) (xs:=[(File.mk M.path ai)]) Tryz.underlying22 Ty.row101 rfl ⟨⟨L,rfl,be⟩,trivial⟩ rfl rfl aj) ?_;rintro cm c2 V;refine qw V ?_;refine qx (zep (t:=File.t) 1 Tryz.underlying22 Ty.row101 Ty.zk22 rfl rfl V rfl (V.rowSrc (k:=0) rfl) bh) ?_;rintro cu c3 X;refine qw X ?_;obtain ⟨cc,bi,bA,bj,H⟩:=bd2 H;refine ax ?_;refine zlb 2 f (l12.length:Int) rfl rfl rfl rfl Tryz.underlying22 Ty.zli rfl (.inr ⟨_,_,rfl,rfl⟩) (.inl ⟨rfl,rfl⟩) X rfl bi ?_;intro ch bz bX;refine xm (zep (t:=File.t) 1 Tryz.underlying22 Ty.row101 Ty.zk22 rfl rfl X rfl bz bj) ?_;rintro bG c5 aO;refine ax ?_;exact nj ⟨bA,H,⟨_,bG,rfl,lec,pk [1] aO⟩⟩
      ·rintro E cx ⟨l19,H,O,I,rfl,cd,aD⟩;refine ax ?_;exact nm H ⟨_,I,rfl,lec,aD⟩
     ·refine zbe _ rfl ?_;exact nj ⟨l12,H,⟨_,a,rfl,lec,u⟩⟩
   ·rintro E w7 ⟨l8,H,q,J,rfl,cf,aP⟩;refine aq ?_;obtain rfl:=oi H;refine qt ?_;exact ⟨q,J,rfl,aP⟩
def zcu.k1:Option Int :=
  some 0
def zcu.l2 (x0:List File) (e:Int→Option Int):Int→Option Int
  | a =>
    if decide (a < (x0.length:Int)) then
      bd (ix x0 a) fun x9 =>
      bd (zby x9.path) fun b =>
      bd (only ((!(!b))&&decide (0 < a)) (ix x0 a) (File.mk [] [])) fun c =>
      bd (only ((!(!b))&&decide (0 < a)) (ix x0 (wr (a - 1))) (File.mk [] [])) fun d =>
      if ((!b)||(decide (0 < a)&&(sLt c.path d.path||c.path == d.path))) then
        some 1
      else
        e (wr (a+1))
    else
      zcu.k1
def zcu (x0:List File):Option Int :=
  bd (zcm x0) fun a =>
  if a then
    some 2
  else
    loop (zcu.l2 x0) 0
theorem zny {x0:List File} {r:Int} {f:Val} (hA:Gd F w) (a:SlF File.t F f x0) (H:zcu x0=some r):Ret Tryz.prog K 81 [f] w fun v w'=>∃ (F':Frz),v = .i .i64 r∧St [] w F F' [] w':=by
 refine qa1 Tryz.func81 ?_;have hS:=St.start hA;obtain ⟨D,m,H⟩:=zaj H;refine ay ?_;refine lp (zjn hS.good a m) hS ?_;intro M c;refine qn ?_;refine qy H (fun j H=>?_) (fun j H=>?_)
 ·exact rz H c
 ·refine qk ?_;refine zac (jN (zcu.k1=some r) [] c) ?_ ?_
  ·refine ax ?_;refine lj c (fun s:Int=>[(0,f),(3,.i .i64 s)]) H ?_;intro I A x P q b H;refine ay ?_;refine qy H (fun l H=>?_) (fun l H=>?_)
   ·refine ay ?_;obtain ⟨x9,p,G,n,H⟩:=bd2 H;obtain ⟨Q,d,R,e,H⟩:=bd2 H;refine rf b ?_;obtain ⟨_,⟨J,rfl,z⟩,y⟩:=elx 2 (a.mono q) p;refine au ?_;refine lq (zez b.good n) b ?_;intro L g;refine aw ?_;refine gec (mo a) d ?_;refine gec (mo a) d ?_;refine gec (mo a) d ?_;refine aw ?_;refine gec (mo a) e ?_;refine gec (mo a) e ?_;refine gec (mo a) e ?_;refine aw ?_;refine qy H (fun k H=>?_) (fun k H=>?_)
    ·exact rz H g
    ·refine ax ?_;exact nm H (jj g)
   ·refine zbe _ rfl ?_;exact nj ⟨H,jj b⟩
  ·rintro E O ⟨H,u,rfl,B,h⟩;exact rz H h
def zcv.k1 (x0:List UInt8):Option Int :=
  some (x0.length:Int)
def zcv.l2 (x0:List UInt8) (c:(UInt32 × Int)→Option Int):(UInt32 × Int)→Option Int
  | (b,a) =>
    if decide (a < (x0.length:Int)) then
      bd (ix x0 a) fun x7 =>
      if ((decide (8≤wr (a+1))&&decide (((((b*(2:UInt32))+((x7.toUInt32+(1:UInt32))*(2654435761:UInt32))) >>> UInt32.ofNat 28).toNat:Int)=0))||decide (wr (a+1)=64)) then
        some (wr (a+1))
      else
        c (((b*(2:UInt32))+((x7.toUInt32+(1:UInt32))*(2654435761:UInt32))),wr (a+1))
    else
      zcv.k1 x0
def zcv (x0:List UInt8):Option Int :=
  loop (zcv.l2 x0) ((0:UInt32),0)
theorem zoa {x0:List UInt8} {r:Int} {a:Val} (hA:Gd F w) (e:SlF tB F a x0) (H:zcv x0=some r):Ret Tryz.prog K 127 [a] w fun v w'=>∃ (F':Frz),v = .i .i64 r∧St [] w F F' [] w':=by
 refine qa1 Tryz.func127 ?_;have hS:=St.start hA;refine aq ?_;refine aq ?_;refine zac (jN (zcv.k1 x0=some r) [(0,a)] hS) ?_ ?_
 ·refine ax ?_;refine zbo (fun (s:UInt32 × Int) E wq=>∃ (b:Frz),E=[(0,a),(3,.i .u32 (s.1.toNat:Int)),(4,.i .i64 s.2)]∧F.le b∧Same hS b wq) H ?_ ?_
  ·exact lo (jj hS)
  ·rintro q ⟨d,n⟩ E x hI H
   try dsimp only at hI
   obtain ⟨b,rfl,l,c⟩:=hI;refine ay ?_;refine qy H (fun j H=>?_) (fun j H=>?_)
   ·obtain ⟨x7,k,H⟩:=zaj H;refine ay ?_;refine qr (zbc rfl rfl (congrArg (fun z=>some (Val.i .u32 z)) (u32_mul d (2:UInt32)))) ?_;obtain ⟨_,rfl,_⟩:=elx 1 (e.mono l) k;refine au ?_;refine qr (zgu Tryz.underlying5 Tryz.underlying169 rfl (u8_u32 _)) ?_;refine qr (zbc rfl rfl (congrArg (fun z=>some (Val.i .u32 z)) (zff x7.toUInt32 (1:UInt32)))) ?_;refine qr (zbc rfl rfl (congrArg (fun z=>some (Val.i .u32 z)) (u32_mul (x7.toUInt32+(1:UInt32)) (2654435761:UInt32)))) ?_;refine qr (zbc rfl rfl (congrArg (fun z=>some (Val.i .u32 z)) (zff (d*(2:UInt32)) ((x7.toUInt32+(1:UInt32))*(2654435761:UInt32))))) ?_;refine az ?_;refine W_gs (v:=.i .u32 ((((d*(2:UInt32))+((x7.toUInt32+(1:UInt32))*(2654435761:UInt32))) >>> UInt32.ofNat 28).toNat:Int)) rfl rfl rfl rfl (fun ⟨g,_⟩=>?_) ?_
    ·rw [g];exact (qr (zbc rfl rfl ((zqy (by decide) (by decide)).trans (congrArg (fun z=>some (Val.i .u32 z)) (ztl _ _ 28 rfl (by decide))))) ·)
    refine aw ?_;refine qy H (fun h H=>?_) (fun h H=>?_)
    ·exact rz H c
    ·refine ax ?_;exact nm H (jj c)
   ·refine zbe _ rfl ?_;exact nj ⟨H,jj c⟩
 ·rintro E u ⟨H,m,rfl,p,f⟩;exact rz H f
def zdf.k1 (l2:List (List UInt8)):Option (List (List UInt8)) :=
  some l2
def zdf.l2 (e:((List UInt8) × (List (List UInt8)))→Option (List (List UInt8))):((List UInt8) × (List (List UInt8)))→Option (List (List UInt8))
  | (l6,l9) =>
    if decide (0 < (l6.length:Int)) then
      bd (zcv l6) fun a =>
      bd (cut (α:=UInt8) l6 0 a) fun b =>
      bd (zeg b) fun d =>
      bd (app (α:=(List UInt8)) l9 [d]) fun l20 =>
      bd (cut (α:=UInt8) l6 a (l6.length:Int)) fun c =>
      e (c,l20)
    else
      zdf.k1 l9
def zdf (x0:List UInt8):Option (List (List UInt8)) :=
  loop (zdf.l2) (x0,[])
theorem zov {x0:List UInt8} {r:(List (List UInt8))} {h:Val} (hA:Gd F w) (q:SlF tB F h x0) (H:zdf x0=some r):Ret Tryz.prog K 82 [h] w fun v w'=>∃ (F':Frz) (n:Val),v=n∧St [] w F F' [.row (tSl tB) n (r)] w':=by
 refine qa1 Tryz.func82 ?_;have hS:=St.start hA;refine aq ?_;refine aq ?_;refine zac (fun E wq=>∃ l2:List (List UInt8),zdf.k1 l2=some r ∧ ∃ (a:Frz) (d:Val),E=[(3,d)]∧F.le a∧Also hS [.row (tSl tB) d l2] a wq) ?_ ?_
 ·refine zfa ?_;refine zbo (fun (s:(List UInt8) × (List (List UInt8))) E wq=>∃ (b:Frz) (g:Val) (c:Val),E=[(0,g),(3,c)]∧F.le b∧SlF tB b g s.1∧Also hS [.row (tSl tB) c s.2] b wq) H ?_ ?_
  ·have A:=hS.nilRow (tSl tB);exact lo ⟨F,h,(.sl none 0 (.k 0)),rfl,(Frz.le.refl _),q,A⟩
  ·rintro aj ⟨l6,l9⟩ E w5 hI H
   try dsimp only at hI
   obtain ⟨b,g,c,rfl,ae,f,e⟩:=hI;refine ay ?_;refine qy H (fun B H=>?_) (fun B H=>?_)
   ·obtain ⟨p,J,H⟩:=zaj H;refine ax ?_;refine lp (zoa e.good f J) e ?_;intro ap i;obtain ⟨X,D,Q,L,H⟩:=bd2 H;obtain ⟨l20,G,H⟩:=zaj H;refine ax ?_;refine zpe 0 p rfl rfl rfl rfl Tryz.underlying47 Ty.zlh rfl (.inl ⟨rfl,rfl⟩) (.inr ⟨_,_,rfl,rfl⟩) f D ?_;intro ai M;refine lm (zgf i.good M L) ?_;rintro R a1 ⟨V,_,rfl,l⟩;have y:=i.call l;have ah:=l.ext;obtain ⟨U,ad,m,z⟩:=y.freezeR 0 [1] rfl (by decide) (by decide);refine xm (E_bs (t:=(tSl tB)) (vs:=[R]) (xs:=[Q]) Tryz.underlying95 Ty.row47 rfl (by simp only [List.map_cons,List.map_nil,m.ln.cells];exact ⟨⟨_,rfl,m⟩,trivial⟩) rfl rfl z) ?_;rintro ak ar j;refine xm (zep (t:=(tSl tB)) 1 Tryz.underlying95 Ty.row47 Ty.zk95 rfl rfl j rfl (j.rowSrc (k:=0) rfl) G) ?_;rintro S a0 x;obtain ⟨Y,I,H⟩:=zaj H;refine ax ?_;refine zpe p (l6.length:Int) rfl rfl rfl rfl Tryz.underlying47 Ty.zlh rfl (.inr ⟨_,_,rfl,rfl⟩) (.inl ⟨rfl,rfl⟩) f I ?_;intro P O;refine ax ?_;exact nm H ⟨_,P,S,rfl,lec,(mo O),pk [1] x⟩
   ·refine zbe _ rfl ?_;exact nj ⟨l9,H,⟨_,c,rfl,lec,e⟩⟩
 ·rintro E w1 ⟨l2,H,a,d,rfl,Z,u⟩;refine aq ?_;obtain rfl:=oi H;refine qt ?_;exact ⟨a,d,rfl,u⟩
def zip:Option (List UInt32) :=
  some ([1116352408,1899447441,3049323471,3921009573,961987163,1508970993,2453635748,2870763221,3624381080,310598401,607225278,1426881987,1925078388,2162078206,2614888103,3248222580,3835390401,4022224774,264347078,604807628,770255983,1249150122,1555081692,1996064986,2554220882,2821834349,2952996808,3210313671,3336571891,3584528711,113926993,338241895,666307205,773529912,1294757372,1396182291,1695183700,1986661051,2177026350,2456956037,2730485921,2820302411,3259730800,3345764771,3516065817,3600352804,4094571909,275423344,430227734,506948616,659060556,883997877,958139571,1322822218,1537002063,1747873779,1955562222,2024104815,2227730452,2361852424,2428436474,2756734187,3204031479,3329325298]:List UInt32)
theorem znx {r:(List UInt32)} (hA:Gd F w) (H:zip=some r):Ret Tryz.prog K 109 [] w fun v w'=>∃ (F':Frz),v = .agg (arrC 64 cW 0 r)∧(r).length=64∧St [] w F F' [] w':=by
 refine zra (args:=[]) Tryz.func109 rfl (by decide) rfl ?_;change C _ _ _ _ _ [] _;have hS:=St.start hA;refine qs ?_;refine xm (zis (cs:=arrC 64 cW 0 (List.replicate 64 (0:UInt32))) Ty.zwk rfl hS) ?_;rintro _ d ⟨b,rfl,c⟩;refine ax ?_;refine qr (zrb (vs:=[(0,.i .u32 ((1116352408:UInt32).toNat:Int)),(1,.i .u32 ((1899447441:UInt32).toNat:Int)),(2,.i .u32 ((3049323471:UInt32).toNat:Int)),(3,.i .u32 ((3921009573:UInt32).toNat:Int)),(4,.i .u32 ((961987163:UInt32).toNat:Int)),(5,.i .u32 ((1508970993:UInt32).toNat:Int)),(6,.i .u32 ((2453635748:UInt32).toNat:Int)),(7,.i .u32 ((2870763221:UInt32).toNat:Int)),(8,.i .u32 ((3624381080:UInt32).toNat:Int)),(9,.i .u32 ((310598401:UInt32).toNat:Int)),(10,.i .u32 ((607225278:UInt32).toNat:Int)),(11,.i .u32 ((1426881987:UInt32).toNat:Int)),(12,.i .u32 ((1925078388:UInt32).toNat:Int)),(13,.i .u32 ((2162078206:UInt32).toNat:Int)),(14,.i .u32 ((2614888103:UInt32).toNat:Int)),(15,.i .u32 ((3248222580:UInt32).toNat:Int)),(16,.i .u32 ((3835390401:UInt32).toNat:Int)),(17,.i .u32 ((4022224774:UInt32).toNat:Int)),(18,.i .u32 ((264347078:UInt32).toNat:Int)),(19,.i .u32 ((604807628:UInt32).toNat:Int)),(20,.i .u32 ((770255983:UInt32).toNat:Int)),(21,.i .u32 ((1249150122:UInt32).toNat:Int)),(22,.i .u32 ((1555081692:UInt32).toNat:Int)),(23,.i .u32 ((1996064986:UInt32).toNat:Int)),(24,.i .u32 ((2554220882:UInt32).toNat:Int)),(25,.i .u32 ((2821834349:UInt32).toNat:Int)),(26,.i .u32 ((2952996808:UInt32).toNat:Int)),(27,.i .u32 ((3210313671:UInt32).toNat:Int)),(28,.i .u32 ((3336571891:UInt32).toNat:Int)),(29,.i .u32 ((3584528711:UInt32).toNat:Int)),(30,.i .u32 ((113926993:UInt32).toNat:Int)),(31,.i .u32 ((338241895:UInt32).toNat:Int)),(32,.i .u32 ((666307205:UInt32).toNat:Int)),(33,.i .u32 ((773529912:UInt32).toNat:Int)),(34,.i .u32 ((1294757372:UInt32).toNat:Int)),(35,.i .u32 ((1396182291:UInt32).toNat:Int)),(36,.i .u32 ((1695183700:UInt32).toNat:Int)),(37,.i .u32 ((1986661051:UInt32).toNat:Int)),(38,.i .u32 ((2177026350:UInt32).toNat:Int)),(39,.i .u32 ((2456956037:UInt32).toNat:Int)),(40,.i .u32 ((2730485921:UInt32).toNat:Int)),(41,.i .u32 ((2820302411:UInt32).toNat:Int)),(42,.i .u32 ((3259730800:UInt32).toNat:Int)),(43,.i .u32 ((3345764771:UInt32).toNat:Int)),(44,.i .u32 ((3516065817:UInt32).toNat:Int)),(45,.i .u32 ((3600352804:UInt32).toNat:Int)),(46,.i .u32 ((4094571909:UInt32).toNat:Int)),(47,.i .u32 ((275423344:UInt32).toNat:Int)),(48,.i .u32 ((430227734:UInt32).toNat:Int)),(49,.i .u32 ((506948616:UInt32).toNat:Int)),(50,.i .u32 ((659060556:UInt32).toNat:Int)),(51,.i .u32 ((883997877:UInt32).toNat:Int)),(52,.i .u32 ((958139571:UInt32).toNat:Int)),(53,.i .u32 ((1322822218:UInt32).toNat:Int)),(54,.i .u32 ((1537002063:UInt32).toNat:Int)),(55,.i .u32 ((1747873779:UInt32).toNat:Int)),(56,.i .u32 ((1955562222:UInt32).toNat:Int)),(57,.i .u32 ((2024104815:UInt32).toNat:Int)),(58,.i .u32 ((2227730452:UInt32).toNat:Int)),(59,.i .u32 ((2361852424:UInt32).toNat:Int)),(60,.i .u32 ((2428436474:UInt32).toNat:Int)),(61,.i .u32 ((2756734187:UInt32).toNat:Int)),(62,.i .u32 ((3204031479:UInt32).toNat:Int)),(63,.i .u32 ((3329325298:UInt32).toNat:Int))]) (v:=.agg (arrC 64 cW 0 ([1116352408,1899447441,3049323471,3921009573,961987163,1508970993,2453635748,2870763221,3624381080,310598401,607225278,1426881987,1925078388,2162078206,2614888103,3248222580,3835390401,4022224774,264347078,604807628,770255983,1249150122,1555081692,1996064986,2554220882,2821834349,2952996808,3210313671,3336571891,3584528711,113926993,338241895,666307205,773529912,1294757372,1396182291,1695183700,1986661051,2177026350,2456956037,2730485921,2820302411,3259730800,3345764771,3516065817,3600352804,4094571909,275423344,430227734,506948616,659060556,883997877,958139571,1322822218,1537002063,1747873779,1955562222,2024104815,2227730452,2361852424,2428436474,2756734187,3204031479,3329325298]:List UInt32))) Ty.blda170 rfl rfl) ?_
 refine sb 0 (arrC 64 cW 0 ([1116352408,1899447441,3049323471,3921009573,961987163,1508970993,2453635748,2870763221,3624381080,310598401,607225278,1426881987,1925078388,2162078206,2614888103,3248222580,3835390401,4022224774,264347078,604807628,770255983,1249150122,1555081692,1996064986,2554220882,2821834349,2952996808,3210313671,3336571891,3584528711,113926993,338241895,666307205,773529912,1294757372,1396182291,1695183700,1986661051,2177026350,2456956037,2730485921,2820302411,3259730800,3345764771,3516065817,3600352804,4094571909,275423344,430227734,506948616,659060556,883997877,958139571,1322822218,1537002063,1747873779,1955562222,2024104815,2227730452,2361852424,2428436474,2756734187,3204031479,3329325298]:List UInt32)) ?_;intro e a;refine qn ?_;obtain rfl:=oi H;refine zgb (vs:=[.agg (arrC 64 cW 0 ([1116352408,1899447441,3049323471,3921009573,961987163,1508970993,2453635748,2870763221,3624381080,310598401,607225278,1426881987,1925078388,2162078206,2614888103,3248222580,3835390401,4022224774,264347078,604807628,770255983,1249150122,1555081692,1996064986,2554220882,2821834349,2952996808,3210313671,3336571891,3584528711,113926993,338241895,666307205,773529912,1294757372,1396182291,1695183700,1986661051,2177026350,2456956037,2730485921,2820302411,3259730800,3345764771,3516065817,3600352804,4094571909,275423344,430227734,506948616,659060556,883997877,958139571,1322822218,1537002063,1747873779,1955562222,2024104815,2227730452,2361852424,2428436474,2756734187,3204031479,3329325298]:List UInt32))]) rfl ⟨(zeo 0 Ty.agg170 Ty.size170 a rfl rfl),trivial⟩ ?_
 exact ⟨F,rfl,rfl,a.pick [] (by decide)⟩
def zba.k2 (l11:List UInt8):Option (List UInt8) :=
  some l11
def zba.l3 (x0:List UInt8) (d:(Int × (List UInt8))→Option (List UInt8)):(Int × (List UInt8))→Option (List UInt8)
  | (a,b) =>
    if decide (0≤a) then
      bd (shrU (wu (wu (x0.length:Int)*8)) (wu (8*wu a))) fun e =>
      bd (app (α:=UInt8) b [(toB8 e)]) fun c =>
      d (wr (a - 1),c)
    else
      zba.k2 b
def zba.k1 (x0:List UInt8) (l8:List UInt8):Option (List UInt8) :=
  loop (zba.l3 x0) (7,l8)
def zba.l4 (x0:List UInt8) (c:(List UInt8)→Option (List UInt8)):(List UInt8)→Option (List UInt8)
  | a =>
    if decide ((wr ((a.length:Int)+8)).tmod 64≠0) then
      bd (app (α:=UInt8) a [(0:UInt8)]) fun b =>
      c b
    else
      zba.k1 x0 a
def zba (x0:List UInt8):Option (List UInt8) :=
  bd (app (α:=UInt8) [] x0) fun a =>
  bd (app (α:=UInt8) a [(128:UInt8)]) fun l4 =>
  loop (zba.l4 x0) l4
theorem zmk {x0:List UInt8} {r:(List UInt8)} {g:Val} (hA:Gd F w) (B:SlF tB F g x0) (H:zba x0=some r):Ret Tryz.prog K 110 [g] w fun v w'=>∃ (F':Frz) (z:Val),v=z∧St [] w F F' [.row tB z (r)] w':=by
 refine qa1 Tryz.func110 ?_;have hS:=St.start hA;obtain ⟨l1,O,l4,R,H⟩:=bd2 H;refine ax ?_;have y:=hS.nilRow tB;refine xm (zep (t:=tB) 0 Tryz.underlying47 Ty.row5 Ty.zk47 rfl rfl y rfl (B.src y.agree) O) ?_;rintro v2 w2 G;refine xm (E_bs (t:=tB) (vs:=[.i .u8 ((128:UInt8).toNat:Int)]) (xs:=[(128:UInt8)]) Tryz.underlying47 Ty.row5 rfl ⟨rfl,trivial⟩ rfl rfl G) ?_;rintro u3 w3 x;refine xm (zep (t:=tB) 1 Tryz.underlying47 Ty.row5 Ty.zk47 rfl rfl x rfl (x.rowSrc (k:=0) rfl) R) ?_;rintro v5 w5 m;refine au ?_;refine zac (fun E wq=>∃ l8:List UInt8,zba.k1 x0 l8=some r ∧ ∃ (a:Frz) (f:Val),E=[(0,g),(3,f)]∧F.le a∧Also m [.row tB f l8] a wq) ?_ ?_
 ·refine zfa ?_;refine zbo (fun (s:(List UInt8)) E wq=>∃ (j:Frz) (e:Val),E=[(0,g),(3,e)]∧F.le j∧Also m [.row tB e s] j wq) H ?_ ?_
  ·exact lo ⟨_,v5,rfl,lec,pk [1] m⟩
  ·rintro a3 Z E aJ hI H
   try dsimp only at hI
   obtain ⟨j,e,rfl,a0,l⟩:=hI;refine ay ?_;refine qr (zdh Tryz.underlying47 rfl (l.rowLn (k:=0) rfl)) ?_;refine qc ?_;refine qr (zbc rfl rfl (by first | rfl | simp [binV,ibin])) ?_;refine au ?_;refine qy H (fun M H=>?_) (fun M H=>?_)
   ·obtain ⟨am,Q,H⟩:=zaj H;refine ax ?_;refine xm (E_bs (t:=tB) (vs:=[.i .u8 ((0:UInt8).toNat:Int)]) (xs:=[(0:UInt8)]) Tryz.underlying47 Ty.row5 rfl ⟨rfl,trivial⟩ rfl rfl l) ?_;rintro a5 aK u;refine xm (zep (t:=tB) 1 Tryz.underlying47 Ty.row5 Ty.zk47 rfl rfl u rfl (u.rowSrc (k:=0) rfl) Q) ?_;rintro ae aP J;refine ax ?_;exact nm H ⟨_,ae,rfl,lec,pk [1] J⟩
   ·refine zbe _ rfl ?_;exact nj ⟨Z,H,⟨_,e,rfl,lec,l⟩⟩
 ·rintro E w7 ⟨l8,H,a,f,rfl,a1,n⟩;refine aq ?_;refine qr (zgu Tryz.underlying3 Tryz.underlying194 rfl (rfl)) ?_;refine au ?_;refine zac (fun E wq=>∃ l11:List UInt8,zba.k2 l11=some r ∧ ∃ (b:Frz) (c:Val),E=[(3,c)]∧a.le b∧Also n [.row tB c l11] b wq) ?_ ?_
  ·refine ax ?_;refine zbo (fun (s:Int × (List UInt8)) E wq=>∃ (h:Frz) (d:Val),E=[(3,d),(4,.i .u64 (wu (wu (x0.length:Int)*8))),(5,.i .i64 s.1)]∧a.le h∧Also n [.row tB d s.2] h wq) H ?_ ?_
   ·exact lo ⟨_,f,rfl,lec,n⟩
   ·rintro a2 ⟨ai,Y⟩ E a9 hI H
    try dsimp only at hI
    obtain ⟨h,d,rfl,ar,p⟩:=hI;refine ay ?_;refine qy H (fun L H=>?_) (fun L H=>?_)
    ·obtain ⟨A,V,ak,P,H⟩:=bd2 H;refine ay ?_;refine qr (zgu Tryz.underlying3 Tryz.underlying26 rfl (rfl)) ?_;refine qc ?_;obtain ⟨X,S,U⟩:=shrU_some V;refine qr (zbc rfl rfl (by rw [zqy X S,← U])) ?_;refine qr (zgu Tryz.underlying194 Tryz.underlying5 rfl (i8_of _)) ?_;refine xm (E_bs (t:=tB) (vs:=[.i .u8 ((toB8 A).toNat:Int)]) (xs:=[(toB8 A)]) Tryz.underlying47 Ty.row5 rfl ⟨rfl,trivial⟩ rfl rfl p) ?_;rintro a4 aD q;refine xm (zep (t:=tB) 1 Tryz.underlying47 Ty.row5 Ty.zk47 rfl rfl q rfl (q.rowSrc (k:=0) rfl) P) ?_;rintro ad aH I;refine ax ?_;exact nm H ⟨_,ad,rfl,lec,pk [1] I⟩
    ·refine zbe _ rfl ?_;exact nj ⟨Y,H,⟨_,d,rfl,lec,p⟩⟩
  ·rintro E a8 ⟨l11,H,b,c,rfl,ap,D⟩;refine aq ?_;obtain rfl:=oi H;refine qt ?_;exact ⟨b,c,rfl,D⟩
def zbd (x0:UInt32) (x1:Int):Option UInt32 :=
  bd (shrW x0 x1) fun x2 =>
  bd (shlW x0 (wu (32 - x1))) fun x3 =>
  some (x2 ||| x3)
theorem zco {x0:UInt32} {x1:Int} {r:UInt32} (hA:Gd F w) (H:zbd x0 x1=some r):Ret Tryz.prog K 111 [.i .u32 (x0.toNat:Int),.i .u64 x1] w fun v w'=>∃ (F':Frz),v = .i .u32 (r.toNat:Int)∧St [] w F F' [] w':=by
 refine qa2 Tryz.func111 ?_;have hS:=St.start hA;obtain ⟨x2,a,x3,b,H⟩:=bd2 H;refine ax ?_;refine qr (zbc rfl rfl (bW_shr a)) ?_;refine au ?_;refine qr (zbc rfl rfl (bW_shl b)) ?_;refine qr (zbc rfl rfl ((zdk (.inr (.inl rfl))).trans (congrArg (fun z=>some (Val.i .u32 z)) (Go.Wk.u32_or x2 x3)))) ?_;exact rz H hS
def zad.k2 (a:List UInt8):Option (List UInt8) :=
  some a
def zad.l3 (d:List UInt32) (c:(Int × (List UInt8))→Option (List UInt8)):(Int × (List UInt8))→Option (List UInt8)
  | (a,b) =>
    if decide (a < 32) then
      bd (ix d (wr (a.tdiv 4))) fun e =>
      bd (shrW e (wu (wr (24 - wr (8*a.tmod 4))))) fun f =>
      bd (ix b a) fun g =>
      c (wr (a+1),(b.set a.toNat f.toUInt8))
    else
      zad.k2 b
def zad.k1 (a:List UInt32):Option (List UInt8) :=
  loop (zad.l3 a) (0,(List.replicate 32 (0:UInt8)))
def zad.k5 (a:Int) (b:(Int × (List UInt32))→Option (List UInt8)) (c:List UInt32):Option (List UInt8) :=
  b (wr (a+64),c)
def zad.l8 (c:Int) (d:(Int × (List UInt32))→Option (List UInt8)) (f:List UInt32) (e:(Int × (List UInt32))→Option (List UInt8)):(Int × (List UInt32))→Option (List UInt8)
  | (a,b) =>
    if decide (a < 8) then
      bd (ix b a) fun g =>
      bd (ix f a) fun h =>
      bd (ix b a) fun i =>
      e (wr (a+1),(b.set a.toNat (g+h)))
    else
      zad.k5 c d b
def zad.k7 (a:Int) (c:List UInt32) (b:(Int × (List UInt32))→Option (List UInt8)) (d:List UInt32):Option (List UInt8) :=
  loop (zad.l8 a b d) (0,c)
def zad.l9 (r:(List UInt32)) (m:Int) (v:List UInt32) (s:(Int × (List UInt32))→Option (List UInt8)) (x:List UInt32) (u:(Int × (List UInt32))→Option (List UInt8)):(Int × (List UInt32))→Option (List UInt8)
  | (d,a) =>
    if decide (d < 64) then
      bd (ix a 0) fun c =>
      bd (ix a 4) fun b =>
      bd (ix a 7) fun h =>
      bd (ix a 5) fun i =>
      bd (ix a 6) fun j =>
      bd (ix r d) fun k =>
      bd (ix x d) fun l =>
      bd (zbd b 6) fun e =>
      bd (zbd b 11) fun f =>
      bd (zbd b 25) fun g =>
      bd (ix a 1) fun y =>
      bd (ix a 2) fun z =>
      bd (ix a 1) fun A =>
      bd (ix a 2) fun B =>
      bd (zbd c 2) fun n =>
      bd (zbd c 13) fun p =>
      bd (zbd c 22) fun q =>
      bd (ix a 0) fun D =>
      bd (ix a 1) fun G =>
      bd (ix a 2) fun I =>
      bd (ix a 3) fun J =>
      bd (ix a 4) fun L =>
      bd (ix a 5) fun M =>
      bd (ix a 6) fun O =>
      u (wr (d+1),([(((((h+((e ^^^ f) ^^^ g))+((b &&& i) ^^^ ((~~~b) &&& j)))+k)+l)+(((n ^^^ p) ^^^ q)+(((c &&& y) ^^^ (c &&& z)) ^^^ (A &&& B)))),D,G,I,(J+((((h+((e ^^^ f) ^^^ g))+((b &&& i) ^^^ ((~~~b) &&& j)))+k)+l)),L,M,O]:List UInt32))
    else
      zad.k7 m v s a
def zad.k6 (c:(List UInt32)) (b:Int) (a:List UInt32) (d:(Int × (List UInt32))→Option (List UInt8)) (e:List UInt32):Option (List UInt8) :=
  loop (zad.l9 c b a d e) (0,a)
def zad.k11 (a:Int) (b:(Int × (List UInt32))→Option (List UInt8)) (c:List UInt32):Option (List UInt8) :=
  b (wr (a+1),c)
def zad.k12 (a:Int) (b:List UInt32) (i:(Int × (List UInt32))→Option (List UInt8)):Option (List UInt8) :=
  bd (ix b (wr (a - 15))) fun c =>
  bd (ix b (wr (a - 2))) fun d =>
  bd (ix b (wr (a - 16))) fun j =>
  bd (ix b (wr (a - 7))) fun k =>
  bd (zbd c 7) fun e =>
  bd (zbd c 18) fun f =>
  bd (zbd d 17) fun g =>
  bd (zbd d 19) fun h =>
  bd (ix b a) fun l =>
  zad.k11 a i (b.set a.toNat (((j+k)+((e ^^^ f) ^^^ (c >>> UInt32.ofNat 3)))+((g ^^^ h) ^^^ (d >>> UInt32.ofNat 10))))
def zad.k13 (a:Int) (b:(Int × (List UInt32))→Option (List UInt8)) (c:List UInt32):Option (List UInt8) :=
  zad.k11 a b c
def zad.l14 (e:(List UInt8)) (d:Int) (a:Int) (f:(Int × (List UInt32))→Option (List UInt8)) (g:(Int × (List UInt32))→Option (List UInt8)):(Int × (List UInt32))→Option (List UInt8)
  | (c,b) =>
    if decide (c < 4) then
      bd (ix b a) fun h =>
      bd (ix e (wr (wr (d+wr (4*a))+c))) fun i =>
      bd (ix b a) fun j =>
      g (wr (c+1),(b.set a.toNat ((h <<< UInt32.ofNat 8) ||| i.toUInt32)))
    else
      zad.k13 a f b
def zad.l10 (e:(List UInt32)) (f:(List UInt8)) (c:Int) (h:List UInt32) (g:(Int × (List UInt32))→Option (List UInt8)) (d:(Int × (List UInt32))→Option (List UInt8)):(Int × (List UInt32))→Option (List UInt8)
  | (a,b) =>
    if decide (a < 64) then
      if decide (a < 16) then
        loop (zad.l14 f c a d) (0,b)
      else
        zad.k12 a b d
    else
      zad.k6 e c h g b
def zad.l4 (d:(List UInt32)) (b:(List UInt8)) (e:(Int × (List UInt32))→Option (List UInt8)):(Int × (List UInt32))→Option (List UInt8)
  | (a,c) =>
    if decide (a < (b.length:Int)) then
      loop (zad.l10 d b a c e) (0,(List.replicate 64 (0:UInt32)))
    else
      zad.k1 c
def zad (x0:List UInt8):Option (List UInt8) :=
  bd (zip) fun a =>
  bd (zba x0) fun b =>
  loop (zad.l4 a b) (0,([1779033703,3144134277,1013904242,2773480762,1359893119,2600822924,528734635,1541459225]:List UInt32))
set_option maxHeartbeats 2000000 in
theorem zkk {x0:List UInt8} {r:(List UInt8)} {v0:Val} (hA:Gd F w) (h0:SlF tB F v0 x0) (H:zad x0=some r):Ret Tryz.prog K 53 [v0] w fun v w'=>∃ (F':Frz),v = .agg (zam r)∧(r).length=32∧St [] w F F' [] w':=by
 refine qa1 Tryz.func53 ?_;have hS:=St.start hA;refine qs ?_;refine xm (zis (cs:=zam (List.replicate 32 (0:UInt8))) Ty.zsc rfl hS) ?_;rintro _ w1 ⟨b,rfl,bF⟩;obtain ⟨J,dE,H⟩:=zaj H;refine ax ?_;refine lm (znx bF.good dE) ?_;rintro v4 w4 ⟨eV,rfl,bR,bM⟩;have cA:=bF.call bM;have ft:=bM.ext;refine xm (zis (cs:=arrC 64 cW 0 (List.replicate 64 (0:UInt32))) Ty.zwk rfl cA) ?_;rintro _ w3 ⟨f,rfl,fa⟩;refine sb 0 (arrC 64 cW 0 J) ?_;intro w5 cD;refine ax ?_;refine qr (zrb (vs:=[(0,.i .u32 ((1779033703:UInt32).toNat:Int)),(1,.i .u32 ((3144134277:UInt32).toNat:Int)),(2,.i .u32 ((1013904242:UInt32).toNat:Int)),(3,.i .u32 ((2773480762:UInt32).toNat:Int)),(4,.i .u32 ((1359893119:UInt32).toNat:Int)),(5,.i .u32 ((2600822924:UInt32).toNat:Int)),(6,.i .u32 ((528734635:UInt32).toNat:Int)),(7,.i .u32 ((1541459225:UInt32).toNat:Int))]) (v:=.agg (arrC 8 cW 0 ([1779033703,3144134277,1013904242,2773480762,1359893119,2600822924,528734635,1541459225]:List UInt32))) Ty.zyb rfl rfl) ?_;refine xm (zis (cs:=arrC 8 cW 0 (List.replicate 8 (0:UInt32))) Ty.zwj rfl cD) ?_;rintro _ w6 ⟨e,rfl,fc⟩;refine sb 0 (arrC 8 cW 0 ([1779033703,3144134277,1013904242,2773480762,1359893119,2600822924,528734635,1541459225]:List UInt32)) ?_;intro w7 bL;obtain ⟨P,dF,H⟩:=zaj H;refine ax ?_;refine lm (zmk bL.good (mo h0) dF) ?_;rintro g w9 ⟨bE,_,rfl,bN⟩;have b0:=bL.call bN;have fu:=bN.ext;refine au ?_;refine zac (fun E wq=>∃ aK:List UInt32,zad.k1 aK=some r ∧ ∃ (a7:Frz),E=[(2,pl b 0),(4,pl e 0)]∧bE.le a7∧(aK).length=8∧Also b0 [.box e (arrC 8 cW 0 aK),.box b (zam (List.replicate 32 (0:UInt8)))] a7 wq) ?_ ?_
 ·refine ax ?_;refine zbo (fun (s:Int × (List UInt32)) E wq=>∃ (a1:Frz),E=[(2,pl b 0),(3,pl f 0),(4,pl e 0),(5,g),(6,.i .i64 s.1)]∧bE.le a1∧(s.2).length=8∧Also b0 [.row tB g P,.box e (arrC 8 cW 0 s.2),.box f (arrC 64 cW 0 J),.box b (zam (List.replicate 32 (0:UInt8)))] a1 wq) H ?_ ?_
  ·exact lo ⟨_,rfl,lec,rfl,b0⟩
  ·rintro b7 ⟨y,M⟩ E fW hI H
   try dsimp only at hI
   obtain ⟨a1,rfl,fn,b1,bb⟩:=hI;refine ay ?_;refine qr (zdh Tryz.underlying47 rfl (bb.rowLn (k:=0) rfl)) ?_;refine au ?_;refine qy H (fun cS H=>?_) (fun cS H=>?_)
   ·refine qk ?_;refine zac (fun E wq=>∃ bf:List UInt32,zad.k5 y b7 bf=some r ∧ ∃ (bm:Frz),E=[(2,pl b 0),(3,pl f 0),(4,pl e 0),(5,g),(6,.i .i64 y)]∧a1.le bm∧(bf).length=8∧Also bb [.row tB g P,.box e (arrC 8 cW 0 bf),.box f (arrC 64 cW 0 J),.box b (zam (List.replicate 32 (0:UInt8)))] bm wq) ?_ ?_
    ·refine ax ?_;refine xm (zis (cs:=arrC 64 cW 0 (List.replicate 64 (0:UInt32))) Ty.zwk rfl bb) ?_;rintro _ fZ ⟨l,rfl,bw⟩;refine qn ?_;refine zac (fun E wq=>∃ aP:List UInt32,zad.k6 J y M b7 aP=some r ∧ ∃ (a8:Frz),E=[(2,pl b 0),(3,pl f 0),(4,pl e 0),(5,g),(6,.i .i64 y),(7,pl l 0)]∧a1.le a8∧(aP).length=64∧Also bw [.box l (arrC 64 cW 0 aP),.row tB g P,.box e (arrC 8 cW 0 M),.box f (arrC 64 cW 0 J),.box b (zam (List.replicate 32 (0:UInt8)))] a8 wq) ?_ ?_
     ·refine ax ?_;refine zbo (fun (s:Int × (List UInt32)) E wq=>∃ (a0:Frz),E=[(2,pl b 0),(3,pl f 0),(4,pl e 0),(5,g),(6,.i .i64 y),(7,pl l 0),(8,.i .i64 s.1)]∧a1.le a0∧(s.2).length=64∧Also bw [.box l (arrC 64 cW 0 s.2),.row tB g P,.box e (arrC 8 cW 0 M),.box f (arrC 64 cW 0 J),.box b (zam (List.replicate 32 (0:UInt8)))] a0 wq) H ?_ ?_
      ·exact lo ⟨_,rfl,lec,(List.length_replicate),bw⟩
      ·rintro b6 ⟨O,bc⟩ E fI hI H
       try dsimp only at hI
       obtain ⟨a0,rfl,fh,n,aj⟩:=hI;refine ay ?_;refine qy H (fun cO H=>?_) (fun cO H=>?_)
       ·refine qk ?_;refine zac (fun E wq=>∃ be:List UInt32,zad.k11 O b6 be=some r ∧ ∃ (bi:Frz),E=[(2,pl b 0),(3,pl f 0),(4,pl e 0),(5,g),(6,.i .i64 y),(7,pl l 0),(8,.i .i64 O)]∧a0.le bi∧(be).length=64∧Also aj [.box l (arrC 64 cW 0 be),.row tB g P,.box e (arrC 8 cW 0 M),.box f (arrC 64 cW 0 J),.box b (zam (List.replicate 32 (0:UInt8)))] bi wq) ?_ ?_
        ·refine zfa ?_;refine zac (jN (zad.k12 O bc b6=some r) [(2,pl b 0),(3,pl f 0),(4,pl e 0),(5,g),(6,.i .i64 y),(7,pl l 0),(8,.i .i64 O)] aj) ?_ ?_
         ·refine aq ?_;refine qy H (fun cP H=>?_) (fun cP H=>?_)
          ·refine zac (fun E wq=>∃ aO:List UInt32,zad.k13 O b6 aO=some r ∧ ∃ (bj:Frz),E=[(2,pl b 0),(3,pl f 0),(4,pl e 0),(5,g),(6,.i .i64 y),(7,pl l 0),(8,.i .i64 O)]∧a0.le bj∧(aO).length=64∧Also aj [.box l (arrC 64 cW 0 aO),.row tB g P,.box e (arrC 8 cW 0 M),.box f (arrC 64 cW 0 J),.box b (zam (List.replicate 32 (0:UInt8)))] bj wq) ?_ ?_
           ·refine ax ?_;refine zbo (fun (s:Int × (List UInt32)) E wq=>∃ (bk:Frz),E=[(2,pl b 0),(3,pl f 0),(4,pl e 0),(5,g),(6,.i .i64 y),(7,pl l 0),(8,.i .i64 O),(9,.i .i64 s.1)]∧a0.le bk∧(s.2).length=64∧Also aj [.box l (arrC 64 cW 0 s.2),.row tB g P,.box e (arrC 8 cW 0 M),.box f (arrC 64 cW 0 J),.box b (zam (List.replicate 32 (0:UInt8)))] bk wq) H ?_ ?_
            ·exact lo ⟨_,rfl,lec,n,aj⟩
            ·rintro fv ⟨fd,ct⟩ E fR hI H
             try dsimp only at hI
             obtain ⟨bk,rfl,fl,ad,aC⟩:=hI;refine ay ?_;refine qy H (fun cQ H=>?_) (fun cQ H=>?_)
             ·refine ay ?_;obtain ⟨cy,ch,cz,dK,H⟩:=bd2 H;obtain ⟨go,dL,H⟩:=zaj H;refine rf aC ?_;refine au ?_;obtain ⟨dt,ev⟩:=zaf ch;refine qr (zed Tryz.underlying170 Ty.zca rfl rfl dt (zce ad ev)) ?_;obtain ⟨_,ew⟩:=zaf ch;refine qq (zdm 0 Ty.zcr rfl aC rfl (by rw [Nat.zero_add];exact zdn ad ew)) ?_;refine qr (zbc rfl rfl ((bI_shl (by decide) (by decide)).trans (congrArg (fun z=>some (Val.i .u32 z)) (u32_shl _ _ 8 rfl (by decide))))) ?_;obtain ⟨_,rfl,cV⟩:=elr 1 1 aC dK;refine au ?_;refine qq (zej 0 Ty.zvi rfl cV (by first | omega | rfl) rfl) ?_;refine qr (zgu Tryz.underlying5 Tryz.underlying169 rfl (u8_u32 _)) ?_;refine qr (zbc rfl rfl ((zdk (.inr (.inl rfl))).trans (congrArg (fun z=>some (Val.i .u32 z)) (Go.Wk.u32_or (cy <<< UInt32.ofNat 8) cz.toUInt32)))) ?_;obtain ⟨du,b3⟩:=zaf dL;refine qr (zed Tryz.underlying170 Ty.zca rfl rfl du (zce ad b3)) ?_;refine qu (zsp (cs':=arrC 64 cW 0 (ct.set O.toNat ((cy <<< UInt32.ofNat 8) ||| cz.toUInt32))) 0 rfl rfl aC rfl rfl Ty.zca (by rw [zop,Nat.zero_add];exact (zce ad b3)) (zpn ad (zce ad b3) _)) ?_;rintro _ fT bI;refine qw bI ?_;refine ax ?_;exact nm H ⟨_,rfl,lec,(by rw [List.length_set];exact ad),bI⟩
             ·refine zbe _ rfl ?_;exact nj ⟨ct,H,⟨_,rfl,lec,ad,aC⟩⟩
           ·rintro E fQ ⟨aO,H,bj,rfl,fk,cZ,c7⟩;refine zbe _ rfl ?_;exact nj ⟨aO,H,⟨_,rfl,lec,cZ,c7⟩⟩
          ·refine ziz ?_;exact nj ⟨H,jj aj⟩
         ·rintro E eK ⟨H,c2,rfl,fj,R⟩;refine zfl ?_;obtain ⟨aT,cd,bh,ce,H⟩:=bd2 H;refine rn ?_;refine au ?_;obtain ⟨dm,em⟩:=zaf cd;refine qr (zed Tryz.underlying170 Ty.zca rfl rfl dm (zce n em)) ?_;obtain ⟨_,en⟩:=zaf cd;refine qr (zdm 0 Ty.zcr rfl R rfl (by rw [Nat.zero_add];exact zdn n en)) ?_;refine au ?_;obtain ⟨dn,eo⟩:=zaf ce;refine qr (zed Tryz.underlying170 Ty.zca rfl rfl dn (zce n eo)) ?_;obtain ⟨_,ep⟩:=zaf ce;refine qr (zdm 0 Ty.zcr rfl R rfl (by rw [Nat.zero_add];exact zdn n ep)) ?_;refine au ?_;obtain ⟨aU,cf,aV,cg,H⟩:=bd2 H;obtain ⟨a4,dA,a5,dB,H⟩:=bd2 H;obtain ⟨aH,dC,aJ,dD,H⟩:=bd2 H;obtain ⟨gn,dJ,H⟩:=zaj H;have V:=R.boxAt 0 rfl;refine zbw (G:=(c2.hold eK [l])) [0,1,2,3,4,5,6,7,8,9,10,12,15,16,19,21,24,25,11,13,14,17,18,20,22,23,26,27,28,29] rfl Ty.mixed (by kernel_rfl) (HB.agree (HB.cons 0 V R rfl HB.nil) R.agree) ?_;refine au ?_;obtain ⟨dq,eq⟩:=zaf cf;refine qr (zed Tryz.underlying170 Ty.zca rfl rfl dq (zce n eq)) ?_;obtain ⟨_,er⟩:=zaf cf;refine qr (zdo Ty.zcr rfl (V.held (HB.cons 0 V R rfl HB.nil) (by simp)) (by rw [Nat.zero_add];exact zdn n er)) ?_;refine au ?_;obtain ⟨dr,et⟩:=zaf cg;refine qr (zed Tryz.underlying170 Ty.zca rfl rfl dr (zce n et)) ?_;obtain ⟨_,eu⟩:=zaf cg;refine qr (zdo Ty.zcr rfl (V.held (HB.cons 0 V R rfl HB.nil) (by simp)) (by rw [Nat.zero_add];exact zdn n eu)) ?_;refine qr (zbc rfl rfl (congrArg (fun z=>some (Val.i .u32 z)) (zff aU aV))) ?_;refine au ?_;refine qr (zbc rfl rfl ((zqy (by decide) (by decide)).trans (congrArg (fun z=>some (Val.i .u32 z)) (ztl _ _ 3 rfl (by decide))))) ?_;refine au ?_;refine qr (zbc rfl rfl ((zqy (by decide) (by decide)).trans (congrArg (fun z=>some (Val.i .u32 z)) (ztl _ _ 10 rfl (by decide))))) ?_;refine ql (zco R.good dA) ?_;rintro f2 fK ⟨eR,rfl,cH⟩;have br:=R.lent cH;refine qh 0 V br ?_;refine ql (zco br.good dB) ?_;rintro f3 fM ⟨eS,rfl,cI⟩;have bs:=br.lent cI;refine qh 0 V bs ?_
          refine qr (zbc rfl rfl ((zdk (.inr (.inr rfl))).trans (congrArg (fun z=>some (Val.i .u32 z)) (Go.Wk.zfp a4 a5)))) ?_;refine qr (zbc rfl rfl ((zdk (.inr (.inr rfl))).trans (congrArg (fun z=>some (Val.i .u32 z)) (Go.Wk.zfp (a4 ^^^ a5) (aT >>> UInt32.ofNat 3))))) ?_;refine qr (zbc rfl rfl (congrArg (fun z=>some (Val.i .u32 z)) (zff (aU+aV) ((a4 ^^^ a5) ^^^ (aT >>> UInt32.ofNat 3))))) ?_;refine ql (zco bs.good dC) ?_;rintro f4 fN ⟨eT,rfl,cJ⟩;have bt:=bs.lent cJ;refine qh 0 V bt ?_;refine ql (zco bt.good dD) ?_;rintro f5 fO ⟨eU,rfl,cK⟩;have bu:=bt.lent cK;refine qh 0 V bu ?_;refine qr (zbc rfl rfl ((zdk (.inr (.inr rfl))).trans (congrArg (fun z=>some (Val.i .u32 z)) (Go.Wk.zfp aH aJ)))) ?_;refine qr (zbc rfl rfl ((zdk (.inr (.inr rfl))).trans (congrArg (fun z=>some (Val.i .u32 z)) (Go.Wk.zfp (aH ^^^ aJ) (bh >>> UInt32.ofNat 10))))) ?_;refine qr (zbc rfl rfl (congrArg (fun z=>some (Val.i .u32 z)) (zff ((aU+aV)+((a4 ^^^ a5) ^^^ (aT >>> UInt32.ofNat 3))) ((aH ^^^ aJ) ^^^ (bh >>> UInt32.ofNat 10))))) ?_;obtain ⟨ds,b2⟩:=zaf dJ;refine qr (zed Tryz.underlying170 Ty.zca rfl rfl ds (zce n b2)) ?_;refine zqz (by kernel_rfl) bu.agree ?_;refine qu (zsp (cs':=arrC 64 cW 0 (bc.set O.toNat (((aU+aV)+((a4 ^^^ a5) ^^^ (aT >>> UInt32.ofNat 3)))+((aH ^^^ aJ) ^^^ (bh >>> UInt32.ofNat 10))))) 0 rfl rfl bu rfl rfl Ty.zca (by rw [zop,Nat.zero_add];exact (zce n b2)) (zpn n (zce n b2) _)) ?_;rintro _ fP bH;refine qw bH ?_;refine ax ?_;exact nj ⟨(bc.set O.toNat (((aU+aV)+((a4 ^^^ a5) ^^^ (aT >>> UInt32.ofNat 3)))+((aH ^^^ aJ) ^^^ (bh >>> UInt32.ofNat 10)))),H,⟨_,rfl,lec,(by rw [List.length_set];exact n),bH⟩⟩
        ·rintro E fJ ⟨be,H,bi,rfl,fi,cX,c6⟩;refine ax ?_;exact nm H ⟨_,rfl,lec,cX,c6⟩
       ·refine zbe _ rfl ?_;exact nj ⟨bc,H,⟨_,rfl,lec,n,aj⟩⟩
     ·rintro E ga ⟨aP,H,a8,rfl,fp,bP,cC⟩;refine aq ?_;refine xm (zis (cs:=arrC 8 cW 0 (List.replicate 8 (0:UInt32))) Ty.zwj rfl cC) ?_;rintro _ gb ⟨Y,rfl,fb⟩;refine sb 0 (arrC 8 cW 0 M) ?_;intro gc bz;refine qn ?_;refine zac (fun E wq=>∃ aR:List UInt32,zad.k7 y M b7 aR=some r ∧ ∃ (aY:Frz),E=[(2,pl b 0),(3,pl f 0),(4,pl e 0),(5,g),(6,.i .i64 y),(12,pl Y 0)]∧a8.le aY∧(aR).length=8∧Also bz [.box Y (arrC 8 cW 0 aR),.row tB g P,.box e (arrC 8 cW 0 M),.box f (arrC 64 cW 0 J),.box b (zam (List.replicate 32 (0:UInt8)))] aY wq) ?_ ?_
      ·refine ax ?_;refine zbo (fun (s:Int × (List UInt32)) E wq=>∃ (a9:Frz),E=[(2,pl b 0),(3,pl f 0),(4,pl e 0),(5,g),(6,.i .i64 y),(7,pl l 0),(12,pl Y 0),(13,.i .i64 s.1)]∧a8.le a9∧(s.2).length=8∧Also bz [.box Y (arrC 8 cW 0 s.2),.box l (arrC 64 cW 0 aP),.row tB g P,.box e (arrC 8 cW 0 M),.box f (arrC 64 cW 0 J),.box b (zam (List.replicate 32 (0:UInt8)))] a9 wq) H ?_ ?_
       ·exact lo ⟨_,rfl,lec,b1,bz⟩
       ·rintro fy ⟨fe,eJ⟩ E eL hI H
        try dsimp only at hI
        obtain ⟨a9,rfl,fs,a,c⟩:=hI;refine ay ?_;refine qy H (fun cU H=>?_) (fun cU H=>?_)
        ·refine ay ?_;obtain ⟨j,cl,d,cm,H⟩:=bd2 H;refine rn ?_;obtain ⟨d0,e3⟩:=zaf cl;refine qr (zed Tryz.underlying172 Ty.zca rfl rfl d0 (zce a e3)) ?_;obtain ⟨_,e4⟩:=zaf cl;refine qr (zdm 0 Ty.zcr rfl c rfl (by rw [Nat.zero_add];exact zdn a e4)) ?_;obtain ⟨d1,e5⟩:=zaf cm;refine qr (zed Tryz.underlying172 Ty.zca rfl rfl d1 (zce a e5)) ?_;obtain ⟨_,e6⟩:=zaf cm;refine qr (zdm 0 Ty.zcr rfl c rfl (by rw [Nat.zero_add];exact zdn a e6)) ?_;refine ay ?_;obtain ⟨L,cn,B,co,H⟩:=bd2 H;obtain ⟨D,cp,Q,cq,H⟩:=bd2 H;obtain ⟨X,cr,p,dG,H⟩:=bd2 H;obtain ⟨q,dH,A,dI,H⟩:=bd2 H;have m:=c.boxAt 0 rfl;have u:=c.boxAt 4 rfl;have x:=c.boxAt 1 rfl;refine zbw (G:=(a9.hold eL [Y,f,l])) [0,1,2,4,7,11,12,13,14,15,16,17,18,19,20,22,23,24,26,27,28,3,5,6,8,9,10,21,25,29,30] rfl Ty.mixed (by kernel_rfl) (HB.agree (HB.cons 0 m c rfl (HB.cons 4 u c rfl (HB.cons 1 x c rfl HB.nil))) c.agree) ?_;obtain ⟨d2,e7⟩:=zaf cn;refine qr (zed Tryz.underlying172 Ty.zca rfl rfl d2 (zce a e7)) ?_;obtain ⟨_,e8⟩:=zaf cn;refine qr (zdo Ty.zcr rfl (m.held (HB.cons 0 m c rfl (HB.cons 4 u c rfl (HB.cons 1 x c rfl HB.nil))) (by simp)) (by rw [Nat.zero_add];exact zdn a e8)) ?_;refine au ?_;obtain ⟨d3,e9⟩:=zaf co;refine qr (zed Tryz.underlying172 Ty.zca rfl rfl d3 (zce a e9)) ?_;obtain ⟨_,eA⟩:=zaf co;refine qr (zdo Ty.zcr rfl (m.held (HB.cons 0 m c rfl (HB.cons 4 u c rfl (HB.cons 1 x c rfl HB.nil))) (by simp)) (by rw [Nat.zero_add];exact zdn a eA)) ?_;refine qr (zbc rfl rfl ((zdk (.inl rfl)).trans (congrArg (fun z=>some (Val.i .u32 z)) (Go.Wk.zlf d B)))) ?_;refine qc ?_;refine qr (O_un rfl (uW_not d)) ?_;obtain ⟨d4,eB⟩:=zaf cp;refine qr (zed Tryz.underlying172 Ty.zca rfl rfl d4 (zce a eB)) ?_;obtain ⟨_,eC⟩:=zaf cp;refine qr (zdo Ty.zcr rfl (m.held (HB.cons 0 m c rfl (HB.cons 4 u c rfl (HB.cons 1 x c rfl HB.nil))) (by simp)) (by rw [Nat.zero_add];exact zdn a eC)) ?_;refine qr (zbc rfl rfl ((zdk (.inl rfl)).trans (congrArg (fun z=>some (Val.i .u32 z)) (Go.Wk.zlf (~~~d) D)))) ?_
         refine qr (zbc rfl rfl ((zdk (.inr (.inr rfl))).trans (congrArg (fun z=>some (Val.i .u32 z)) (Go.Wk.zfp (d &&& B) ((~~~d) &&& D))))) ?_;refine qc ?_;obtain ⟨d5,eD⟩:=zaf cq;refine qr (zed Tryz.underlying170 Ty.zca rfl rfl d5 (zce bR eD)) ?_;obtain ⟨_,eE⟩:=zaf cq;refine qr (zdo Ty.zcr rfl (u.held (HB.cons 0 m c rfl (HB.cons 4 u c rfl (HB.cons 1 x c rfl HB.nil))) (by simp)) (by rw [Nat.zero_add];exact zdn bR eE)) ?_;refine qc ?_;obtain ⟨d6,eF⟩:=zaf cr;refine qr (zed Tryz.underlying170 Ty.zca rfl rfl d6 (zce bP eF)) ?_;obtain ⟨_,eG⟩:=zaf cr;refine qr (zdo Ty.zcr rfl (x.held (HB.cons 0 m c rfl (HB.cons 4 u c rfl (HB.cons 1 x c rfl HB.nil))) (by simp)) (by rw [Nat.zero_add];exact zdn bP eG)) ?_;refine ql (zco c.good dG) ?_;rintro f7 gl ⟨eW,rfl,cL⟩;have S:=c.lent cL;refine Nxt.frz (HB.le (HB.cons 0 m S rfl (HB.cons 4 u S rfl (HB.cons 1 x S rfl HB.nil))) (Frz.le.refl _)) (HB.agree (HB.cons 0 m S rfl (HB.cons 4 u S rfl (HB.cons 1 x S rfl HB.nil))) S.agree) ?_;refine ql (zco S.good dH) ?_;rintro f8 gm ⟨eX,rfl,cM⟩;have U:=S.lent cM;refine Nxt.frz (HB.le (HB.cons 0 m U rfl (HB.cons 4 u U rfl (HB.cons 1 x U rfl HB.nil))) (Frz.le.refl _)) (HB.agree (HB.cons 0 m U rfl (HB.cons 4 u U rfl (HB.cons 1 x U rfl HB.nil))) U.agree) ?_;refine qr (zbc rfl rfl ((zdk (.inr (.inr rfl))).trans (congrArg (fun z=>some (Val.i .u32 z)) (Go.Wk.zfp p q)))) ?_;refine ql (zco U.good dI) ?_;rintro f9 eM ⟨eY,rfl,cN⟩;have h:=U.lent cN;refine Nxt.frz (HB.le (HB.cons 0 m h rfl (HB.cons 4 u h rfl (HB.cons 1 x h rfl HB.nil))) (Frz.le.refl _)) (HB.agree (HB.cons 0 m h rfl (HB.cons 4 u h rfl (HB.cons 1 x h rfl HB.nil))) h.agree) ?_;refine qr (zbc rfl rfl ((zdk (.inr (.inr rfl))).trans (congrArg (fun z=>some (Val.i .u32 z)) (Go.Wk.zfp (p ^^^ q) A)))) ?_;refine qr (zbc rfl rfl (congrArg (fun z=>some (Val.i .u32 z)) (zff L ((p ^^^ q) ^^^ A)))) ?_;refine qr (zbc rfl rfl (congrArg (fun z=>some (Val.i .u32 z)) (zff (L+((p ^^^ q) ^^^ A)) ((d &&& B) ^^^ ((~~~d) &&& D))))) ?_;refine qr (zbc rfl rfl (congrArg (fun z=>some (Val.i .u32 z)) (zff ((L+((p ^^^ q) ^^^ A))+((d &&& B) ^^^ ((~~~d) &&& D))) Q))) ?_
         refine qr (zbc rfl rfl (congrArg (fun z=>some (Val.i .u32 z)) (zff (((L+((p ^^^ q) ^^^ A))+((d &&& B) ^^^ ((~~~d) &&& D)))+Q) X))) ?_;refine ay ?_;obtain ⟨ah,bS,ai,bT,H⟩:=bd2 H;obtain ⟨ap,bU,ar,bV,H⟩:=bd2 H;obtain ⟨ak,d7,am,d8,H⟩:=bd2 H;obtain ⟨a3,d9,H⟩:=zaj H;have I:=h.boxAt 0 rfl;refine zbw (G:=(a9.hold eM [Y])) [0,2,5,8,9,10,11,12,13,14,15,16,17,18,19,20,21,22,1,3,4,6,7,23,24] rfl Ty.mixed (by kernel_rfl) (HB.agree (HB.cons 0 I h rfl HB.nil) h.agree) ?_;refine au ?_;obtain ⟨db,dP⟩:=zaf bS;refine qr (zed Tryz.underlying172 Ty.zca rfl rfl db (zce a dP)) ?_;obtain ⟨_,dQ⟩:=zaf bS;refine qr (zdo Ty.zcr rfl (I.held (HB.cons 0 I h rfl HB.nil) (by simp)) (by rw [Nat.zero_add];exact zdn a dQ)) ?_;refine qr (zbc rfl rfl ((zdk (.inl rfl)).trans (congrArg (fun z=>some (Val.i .u32 z)) (Go.Wk.zlf j ah)))) ?_;refine qc ?_;obtain ⟨dc,dR⟩:=zaf bT;refine qr (zed Tryz.underlying172 Ty.zca rfl rfl dc (zce a dR)) ?_;obtain ⟨_,dS⟩:=zaf bT;refine qr (zdo Ty.zcr rfl (I.held (HB.cons 0 I h rfl HB.nil) (by simp)) (by rw [Nat.zero_add];exact zdn a dS)) ?_;refine qr (zbc rfl rfl ((zdk (.inl rfl)).trans (congrArg (fun z=>some (Val.i .u32 z)) (Go.Wk.zlf j ai)))) ?_;refine qr (zbc rfl rfl ((zdk (.inr (.inr rfl))).trans (congrArg (fun z=>some (Val.i .u32 z)) (Go.Wk.zfp (j &&& ah) (j &&& ai))))) ?_;obtain ⟨dd,dT⟩:=zaf bU;refine qr (zed Tryz.underlying172 Ty.zca rfl rfl dd (zce a dT)) ?_;obtain ⟨_,dU⟩:=zaf bU;refine qr (zdo Ty.zcr rfl (I.held (HB.cons 0 I h rfl HB.nil) (by simp)) (by rw [Nat.zero_add];exact zdn a dU)) ?_;obtain ⟨de,dV⟩:=zaf bV;refine qr (zed Tryz.underlying172 Ty.zca rfl rfl de (zce a dV)) ?_;obtain ⟨_,dW⟩:=zaf bV;refine qr (zdo Ty.zcr rfl (I.held (HB.cons 0 I h rfl HB.nil) (by simp)) (by rw [Nat.zero_add];exact zdn a dW)) ?_;refine qr (zbc rfl rfl ((zdk (.inl rfl)).trans (congrArg (fun z=>some (Val.i .u32 z)) (Go.Wk.zlf ap ar)))) ?_;refine qr (zbc rfl rfl ((zdk (.inr (.inr rfl))).trans (congrArg (fun z=>some (Val.i .u32 z)) (Go.Wk.zfp ((j &&& ah) ^^^ (j &&& ai)) (ap &&& ar))))) ?_
         refine ql (zco h.good d7) ?_;rintro fz fC ⟨eO,rfl,cE⟩;have bo:=h.lent cE;refine qh 0 I bo ?_;refine ql (zco bo.good d8) ?_;rintro f0 fD ⟨eP,rfl,cF⟩;have bp:=bo.lent cF;refine qh 0 I bp ?_;refine qr (zbc rfl rfl ((zdk (.inr (.inr rfl))).trans (congrArg (fun z=>some (Val.i .u32 z)) (Go.Wk.zfp ak am)))) ?_;refine ql (zco bp.good d9) ?_;rintro f1 fE ⟨eQ,rfl,cG⟩;have Z:=bp.lent cG;refine qh 0 I Z ?_;refine qr (zbc rfl rfl ((zdk (.inr (.inr rfl))).trans (congrArg (fun z=>some (Val.i .u32 z)) (Go.Wk.zfp (ak ^^^ am) a3)))) ?_;refine qr (zbc rfl rfl (congrArg (fun z=>some (Val.i .u32 z)) (zff ((ak ^^^ am) ^^^ a3) (((j &&& ah) ^^^ (j &&& ai)) ^^^ (ap &&& ar))))) ?_;obtain ⟨b8,bW,b9,bX,H⟩:=bd2 H;obtain ⟨bA,bY,bg,bZ,H⟩:=bd2 H;obtain ⟨bB,ca,bC,cb,H⟩:=bd2 H;obtain ⟨bD,cc,H⟩:=zaj H;refine ax ?_;refine qr (zbc rfl rfl (congrArg (fun z=>some (Val.i .u32 z)) (zff ((((L+((p ^^^ q) ^^^ A))+((d &&& B) ^^^ ((~~~d) &&& D)))+Q)+X) (((ak ^^^ am) ^^^ a3)+(((j &&& ah) ^^^ (j &&& ai)) ^^^ (ap &&& ar)))))) ?_;obtain ⟨df,dX⟩:=zaf bW;refine qr (zed Tryz.underlying172 Ty.zca rfl rfl df (zce a dX)) ?_;obtain ⟨_,dY⟩:=zaf bW;refine qr (zdm 0 Ty.zcr rfl Z rfl (by rw [Nat.zero_add];exact zdn a dY)) ?_;obtain ⟨dg,dZ⟩:=zaf bX;refine qr (zed Tryz.underlying172 Ty.zca rfl rfl dg (zce a dZ)) ?_;obtain ⟨_,ea⟩:=zaf bX;refine qr (zdm 0 Ty.zcr rfl Z rfl (by rw [Nat.zero_add];exact zdn a ea)) ?_;obtain ⟨dh,eb⟩:=zaf bY;refine qr (zed Tryz.underlying172 Ty.zca rfl rfl dh (zce a eb)) ?_;obtain ⟨_,ec⟩:=zaf bY;refine qr (zdm 0 Ty.zcr rfl Z rfl (by rw [Nat.zero_add];exact zdn a ec)) ?_;obtain ⟨di,ed⟩:=zaf bZ;refine qr (zed Tryz.underlying172 Ty.zca rfl rfl di (zce a ed)) ?_;obtain ⟨_,ee⟩:=zaf bZ;refine qr (zdm 0 Ty.zcr rfl Z rfl (by rw [Nat.zero_add];exact zdn a ee)) ?_;refine qc ?_;refine qr (zbc rfl rfl (congrArg (fun z=>some (Val.i .u32 z)) (zff bg ((((L+((p ^^^ q) ^^^ A))+((d &&& B) ^^^ ((~~~d) &&& D)))+Q)+X)))) ?_
         obtain ⟨dj,ef⟩:=zaf ca;refine qr (zed Tryz.underlying172 Ty.zca rfl rfl dj (zce a ef)) ?_;obtain ⟨_,eg⟩:=zaf ca;refine qr (zdm 0 Ty.zcr rfl Z rfl (by rw [Nat.zero_add];exact zdn a eg)) ?_;obtain ⟨dk,eh⟩:=zaf cb;refine qr (zed Tryz.underlying172 Ty.zca rfl rfl dk (zce a eh)) ?_;obtain ⟨_,ei⟩:=zaf cb;refine qr (zdm 0 Ty.zcr rfl Z rfl (by rw [Nat.zero_add];exact zdn a ei)) ?_;obtain ⟨dl,ej⟩:=zaf cc;refine qr (zed Tryz.underlying172 Ty.zca rfl rfl dl (zce a ej)) ?_;obtain ⟨_,ek⟩:=zaf cc;refine qr (zdm 0 Ty.zcr rfl Z rfl (by rw [Nat.zero_add];exact zdn a ek)) ?_;refine qr (zrb (vs:=[(0,.i .u32 ((((((L+((p ^^^ q) ^^^ A))+((d &&& B) ^^^ ((~~~d) &&& D)))+Q)+X)+(((ak ^^^ am) ^^^ a3)+(((j &&& ah) ^^^ (j &&& ai)) ^^^ (ap &&& ar)))).toNat:Int)),(1,.i .u32 (b8.toNat:Int)),(2,.i .u32 (b9.toNat:Int)),(3,.i .u32 (bA.toNat:Int)),(4,.i .u32 ((bg+((((L+((p ^^^ q) ^^^ A))+((d &&& B) ^^^ ((~~~d) &&& D)))+Q)+X)).toNat:Int)),(5,.i .u32 (bB.toNat:Int)),(6,.i .u32 (bC.toNat:Int)),(7,.i .u32 (bD.toNat:Int))]) (v:=.agg (arrC 8 cW 0 ([(((((L+((p ^^^ q) ^^^ A))+((d &&& B) ^^^ ((~~~d) &&& D)))+Q)+X)+(((ak ^^^ am) ^^^ a3)+(((j &&& ah) ^^^ (j &&& ai)) ^^^ (ap &&& ar)))),b8,b9,bA,(bg+((((L+((p ^^^ q) ^^^ A))+((d &&& B) ^^^ ((~~~d) &&& D)))+Q)+X)),bB,bC,bD]:List UInt32))) Ty.zyb rfl rfl) ?_;refine sb 0 (arrC 8 cW 0 ([(((((L+((p ^^^ q) ^^^ A))+((d &&& B) ^^^ ((~~~d) &&& D)))+Q)+X)+(((ak ^^^ am) ^^^ a3)+(((j &&& ah) ^^^ (j &&& ai)) ^^^ (ap &&& ar)))),b8,b9,bA,(bg+((((L+((p ^^^ q) ^^^ A))+((d &&& B) ^^^ ((~~~d) &&& D)))+Q)+X)),bB,bC,bD]:List UInt32)) ?_;intro fH c5;refine ax ?_;exact nm H ⟨_,rfl,lec,rfl,c5⟩
        ·refine zbe _ rfl ?_;exact nj ⟨eJ,H,⟨_,rfl,lec,a,pk [0,2,3,4,5] c⟩⟩
      ·rintro E gd ⟨aR,H,aY,rfl,fq,bQ,bJ⟩;refine ax ?_;refine zbo (fun (s:Int × (List UInt32)) E wq=>∃ (bn:Frz),E=[(2,pl b 0),(3,pl f 0),(4,pl e 0),(5,g),(6,.i .i64 y),(12,pl Y 0),(18,.i .i64 s.1)]∧aY.le bn∧(s.2).length=8∧Also bJ [.box Y (arrC 8 cW 0 aR),.row tB g P,.box e (arrC 8 cW 0 s.2),.box f (arrC 64 cW 0 J),.box b (zam (List.replicate 32 (0:UInt8)))] bn wq) H ?_ ?_
       ·exact lo ⟨_,rfl,lec,b1,bJ⟩
       ·rintro fx ⟨eI,cw⟩ E gf hI H
        try dsimp only at hI
        obtain ⟨bn,rfl,fr,ae,aD⟩:=hI;refine ay ?_;refine qy H (fun cT H=>?_) (fun cT H=>?_)
        ·refine ay ?_;obtain ⟨c0,cj,c1,ck,H⟩:=bd2 H;obtain ⟨gr,dO,H⟩:=zaj H;refine rf aD ?_;refine qc ?_;obtain ⟨dx,ez⟩:=zaf cj;refine qr (zed Tryz.underlying172 Ty.zca rfl rfl dx (zce ae ez)) ?_;obtain ⟨_,e0⟩:=zaf cj;refine qq (zdm 2 Ty.zcr rfl aD rfl (by rw [Nat.zero_add];exact zdn ae e0)) ?_;refine qc ?_;obtain ⟨dy,e1⟩:=zaf ck;refine qr (zed Tryz.underlying172 Ty.zca rfl rfl dy (zce bQ e1)) ?_;obtain ⟨_,e2⟩:=zaf ck;refine qq (zdm 0 Ty.zcr rfl aD rfl (by rw [Nat.zero_add];exact zdn bQ e2)) ?_;refine qr (zbc rfl rfl (congrArg (fun z=>some (Val.i .u32 z)) (zff c0 c1))) ?_;obtain ⟨dz,b5⟩:=zaf dO;refine qr (zed Tryz.underlying172 Ty.zca rfl rfl dz (zce ae b5)) ?_;refine qu (zsp (cs':=arrC 8 cW 0 (cw.set eI.toNat (c0+c1))) 2 rfl rfl aD rfl rfl Ty.zca (by rw [zop,Nat.zero_add];exact (zce ae b5)) (zpn ae (zce ae b5) _)) ?_;rintro _ gi bK;refine qw bK ?_;refine ax ?_;exact nm H ⟨_,rfl,lec,(by rw [List.length_set];exact ae),bK⟩
        ·refine ax ?_;exact nj ⟨cw,H,⟨_,rfl,lec,ae,pk [1,2,3,4] aD⟩⟩
    ·rintro E fX ⟨bf,H,bm,rfl,fo,da,c9⟩;refine ax ?_;exact nm H ⟨_,rfl,lec,da,c9⟩
   ·refine zbe _ rfl ?_;exact nj ⟨M,H,⟨_,rfl,lec,b1,pk [1,3] bb⟩⟩
 ·rintro E fB ⟨aK,H,a7,rfl,ff,bO,c4⟩;refine qs ?_;refine xm (zis (cs:=zam (List.replicate 32 (0:UInt8))) Ty.zsc rfl c4) ?_;rintro _ fF ⟨ba,rfl,bq⟩;refine qn ?_;refine zac (fun E wq=>∃ a6:List UInt8,zad.k2 a6=some r ∧ ∃ (aX:Frz),E=[(2,pl b 0),(19,pl ba 0)]∧a7.le aX∧(a6).length=32∧Also bq [.box ba (zam a6),.box b (zam (List.replicate 32 (0:UInt8)))] aX wq) ?_ ?_
  ·refine ax ?_;refine zbo (fun (s:Int × (List UInt8)) E wq=>∃ (bl:Frz),E=[(2,pl b 0),(4,pl e 0),(19,pl ba 0),(20,.i .i64 s.1)]∧a7.le bl∧(s.2).length=32∧Also bq [.box ba (zam s.2),.box e (arrC 8 cW 0 aK),.box b (zam (List.replicate 32 (0:UInt8)))] bl wq) H ?_ ?_
   ·exact lo ⟨_,rfl,lec,(List.length_replicate),bq⟩
   ·rintro fw ⟨eH,cu⟩ E fS hI H
    try dsimp only at hI
    obtain ⟨bl,rfl,fm,a2,bv⟩:=hI;refine ay ?_;refine qy H (fun cR H=>?_) (fun cR H=>?_)
    ·obtain ⟨gp,ci,eN,dM,H⟩:=bd2 H;obtain ⟨gq,dN,H⟩:=zaj H;refine ay ?_;refine qr (zbc rfl rfl (by first | rfl | simp [binV,ibin])) ?_;obtain ⟨dv,ex⟩:=zaf ci;refine qr (zed Tryz.underlying172 Ty.zca rfl rfl dv (zce bO ex)) ?_;obtain ⟨_,ey⟩:=zaf ci;refine qr (zdm 1 Ty.zcr rfl bv rfl (by rw [Nat.zero_add];exact zdn bO ey)) ?_;refine qc ?_;refine qr (zbc rfl rfl (by first | rfl | simp [binV,ibin])) ?_;refine au ?_;refine qr (zgu Tryz.underlying3 Tryz.underlying26 rfl (rfl)) ?_;refine qr (zbc rfl rfl (bW_shr dM)) ?_;refine qr (zgu Tryz.underlying169 Tryz.underlying5 rfl (u32_u8 _)) ?_;obtain ⟨dw,b4⟩:=zaf dN;refine qr (zed Tryz.underlying58 Ty.zlh rfl rfl dw (zce a2 b4)) ?_;refine um (zsp (cs':=zam (cu.set eH.toNat eN.toUInt8)) 0 rfl rfl bv rfl rfl Ty.zlh (by rw [zhb,Nat.zero_add];exact (zce a2 b4)) (id_put a2 (zce a2 b4) _)) ?_;rintro _ fV c8;refine ax ?_;exact nm H ⟨_,rfl,lec,(by rw [List.length_set];exact a2),c8⟩
    ·refine zbe _ rfl ?_;exact nj ⟨cu,H,⟨_,rfl,lec,a2,pk [0,2] bv⟩⟩
  ·rintro E fG ⟨a6,H,aX,rfl,fg,cY,eZ⟩;refine aq ?_;refine sb 1 (zam a6) ?_;intro fL bG;refine qn ?_;obtain rfl:=oi H;refine zgb (vs:=[.agg (zam a6)]) rfl ⟨(zeo 1 Ty.ziu Ty.zfq bG rfl rfl),trivial⟩ ?_;exact ⟨aX,rfl,cY,bG.pick [] (by decide)⟩
def zcj.k1:Option Bool :=
  some false
def zcj.l2 (x0:List UInt8) (x1:List UInt8) (b:Int→Option Bool):Int→Option Bool
  | a =>
    if decide (a < 32) then
      bd (ix x0 a) fun x8 =>
      bd (ix x1 a) fun x9 =>
      if decide ((x8.toNat:Int)≠(x9.toNat:Int)) then
        bd (ix x0 a) fun c =>
        bd (ix x1 a) fun d =>
        some (decide ((c.toNat:Int) < (d.toNat:Int)))
      else
        b (wr (a+1))
    else
      zcj.k1
def zcj (x0:List UInt8) (x1:List UInt8):Option Bool :=
  loop (zcj.l2 x0 x1) 0
theorem zmj {x0:List UInt8} {x1:List UInt8} {r:Bool} (hA:Gd F w) (c:x0.length=32) (d:x1.length=32) (H:zcj x0 x1=some r):Ret Tryz.prog K 128 [.agg (zam x0),.agg (zam x1)] w fun v w'=>∃ (F':Frz),v = .b r∧St [] w F F' [] w':=by
 refine qa2 Tryz.func128 ?_;have hS:=St.start hA;refine qs ?_;refine bx (zam x0) ?_;intro l Z S;refine bx (zam x1) ?_;intro m w2 e;refine au ?_;refine zac (jO (zcj.k1=some r) [] e []) ?_ ?_
 ·refine ax ?_;refine lj e (fun s:Int=>[(2,pl l 0),(3,pl m 0),(5,.i .i64 s)]) H ?_;intro Y U R w4 X a H;refine ay ?_;refine qy H (fun x H=>?_) (fun x H=>?_)
  ·refine ay ?_;obtain ⟨x8,j,x9,k,H⟩:=bd2 H;refine rn ?_;refine qc ?_;obtain ⟨y,D⟩:=zaf j;refine qr (zed Tryz.underlying58 Ty.zlh rfl rfl y (zce c D)) ?_;obtain ⟨_,G⟩:=zaf j;refine qr (zdm 1 Ty.zvi rfl a rfl (znr (fun q u h=>by simpa using h) c G)) ?_;refine qc ?_;obtain ⟨z,I⟩:=zaf k;refine qr (zed Tryz.underlying58 Ty.zlh rfl rfl z (zce d I)) ?_;obtain ⟨_,J⟩:=zaf k;refine qr (zdm 0 Ty.zvi rfl a rfl (znr (fun q u h=>by simpa using h) d J)) ?_;refine au ?_;refine qy H (fun p H=>?_) (fun p H=>?_)
   ·refine zfl ?_;obtain ⟨ai,f,aj,g,H⟩:=bd2 H;refine rn ?_;refine qc ?_;obtain ⟨A,L⟩:=zaf f;refine qr (zed Tryz.underlying58 Ty.zlh rfl rfl A (zce c L)) ?_;obtain ⟨_,M⟩:=zaf f;refine qr (zdm 1 Ty.zvi rfl a rfl (znr (fun q u h=>by simpa using h) c M)) ?_;refine qc ?_;obtain ⟨B,O⟩:=zaf g;refine qr (zed Tryz.underlying58 Ty.zlh rfl rfl B (zce d O)) ?_;obtain ⟨_,P⟩:=zaf g;refine qr (zdm 0 Ty.zvi rfl a rfl (znr (fun q u h=>by simpa using h) d P)) ?_;exact rz H a
   ·refine ax ?_;exact nm H (jj a)
  ·refine zbe _ rfl ?_;exact nj ⟨H,jj (pk [] a)⟩
 ·rintro E w3 ⟨H,Q,rfl,V,n⟩;exact rz H n
def zct.k1 (x0:List (List UInt8)) (x1:List UInt8) (a:Int):Option ((List (List UInt8)) × Int × Bool) :=
  bd (only (decide (a < (x0.length:Int))) (ix x0 a) (List.replicate 32 (0:UInt8))) fun x4 =>
  if (decide (a < (x0.length:Int))&&decide (x4=x1)) then
    some (x0,a,false)
  else
    bd (cut (α:=(List UInt8)) x0 0 a) fun l20 =>
    bd (app (α:=(List UInt8)) [] l20) fun b =>
    bd (app (α:=(List UInt8)) b [x1]) fun c =>
    bd (cut (α:=(List UInt8)) x0 a (x0.length:Int)) fun d =>
    bd (app (α:=(List UInt8)) c d) fun e =>
    some (e,a,true)
def zct.l2 (x0:List (List UInt8)) (x1:List UInt8) (c:Int→Option ((List (List UInt8)) × Int × Bool)):Int→Option ((List (List UInt8)) × Int × Bool)
  | a =>
    bd (only (decide (a < (x0.length:Int))) (ix x0 a) (List.replicate 32 (0:UInt8))) fun d =>
    bd (only (decide (a < (x0.length:Int))) (zcj d x1) false) fun b =>
    if (decide (a < (x0.length:Int))&&b) then
      c (wr (a+1))
    else
      zct.k1 x0 x1 a
def zct (x0:List (List UInt8)) (x1:List UInt8):Option ((List (List UInt8)) × Int × Bool) :=
  loop (zct.l2 x0 x1) 0
theorem zjs {x0:List (List UInt8)} {x1:List UInt8} {r:(List (List UInt8)) × Int × Bool} {j:Val} (hA:Gd F w) (a:SlF tId F j x0) (D:x1.length=32) (H:zct x0 x1=some r):Ret Tryz.prog K 83 [j,.agg (zam x1)] w fun v w'=>∃ (F':Frz) (q0:Val),v = .tup [q0,.i .i64 r.2.1,.b r.2.2]∧SlF tId F' q0 (r.1)∧St [] w F F' [] w':=by
 refine qa2 Tryz.func83 ?_;have hS:=St.start hA;refine qs ?_;refine bx (zam x1) ?_;intro B w1 S;refine au ?_;refine aq ?_;refine zac (fun E wq=>∃ e:Int,zct.k1 x0 x1 e=some r ∧ ∃ (f:Frz),E=[(0,j),(3,pl B 0),(7,.i .i64 e)]∧F.le f∧Same S f wq) ?_ ?_
 ·refine zfa ?_;refine lj S (fun s:Int=>[(0,j),(3,pl B 0),(7,.i .i64 s)]) H ?_;intro bw ai ba b7 aj g H;refine ay ?_;obtain ⟨R,x,bv,aD,H⟩:=bd2 H;have n:(R).length=32:=by
   rcases Bool.eq_false_or_eq_true (decide (ai < (x0.length:Int))) with M | M
   ·have ad:=x;rw [zck M] at ad;obtain ⟨bl,aT⟩:=zaf ad;obtain ⟨bc,aH,P⟩:=(a.mono aj).el aT;obtain ⟨rfl,n⟩:=aH;replace P:=qj 32 P;have bh:=P.ixd;exact n
   ·have hy:=x;rw [zel M] at hy;obtain rfl:=oi hy
    rfl
  refine rf g ?_;refine aw ?_;refine ge (mo a) x ?_;refine W_gs (v:=.agg (zam R)) rfl rfl rfl rfl (fun ⟨Y,_⟩=>?_) ?_
  ·rw [Y];intro hK;have ae:=x;rw [zck Y] at ae;obtain ⟨bm,aU⟩:=zaf ae;obtain ⟨be,aJ,m⟩:=(a.mono aj).el aU;obtain ⟨rfl,n⟩:=aJ;replace m:=qj 32 m;have bi:=m.ixd;refine qq (zoj 0 (zam R) Ty.ziu Ty.zfq rfl (m.mono g.agree) (by first | omega | rfl) rfl (Nat.le_of_ble_eq_true rfl)) ?_;exact hK
  refine W_gs (v:=.agg (zam x1)) rfl rfl rfl rfl (fun ⟨a1,_⟩=>?_) ?_
  ·rw [a1];exact (qq (zdx 0 (zam x1) Ty.ziu Ty.zfq (Nat.zero_lt_succ _) rfl g rfl (fun q u h=>zdp (post:=[]) rfl h)) ·)
  refine gw g aD (fun y=>zmj g.good n D y) ?_;intro b8 L;refine qw L ?_;refine aw ?_;refine qy H (fun a3 H=>?_) (fun a3 H=>?_)
  ·refine ax ?_;exact nm H (jj L)
  ·refine zbe _ rfl ?_;exact nj ⟨ai,H,jj L⟩
 ·rintro E w2 ⟨e,H,f,rfl,A,c⟩;refine ay ?_;obtain ⟨x4,z,H⟩:=zaj H;have p:(x4).length=32:=by
   rcases Bool.eq_false_or_eq_true (decide (e < (x0.length:Int))) with O | O
   ·have ah:=z;rw [zck O] at ah;obtain ⟨bn,aV⟩:=zaf ah;obtain ⟨bf,aK,Q⟩:=(a.mono A).el aV;obtain ⟨rfl,p⟩:=aK;replace Q:=qj 32 Q;have bj:=Q.ixd;exact p
   ·have hy:=z;rw [zel O] at hy;obtain rfl:=oi hy
    rfl
  refine rn ?_;refine aw ?_;refine ge (mo a) z ?_;refine W_gs (v:=.agg (zam x4)) rfl rfl rfl rfl (fun ⟨X,_⟩=>?_) ?_
  ·rw [X];intro hK;have Z:=z;rw [zck X] at Z;obtain ⟨bk,aR⟩:=zaf Z;obtain ⟨bb,aC,l⟩:=(a.mono A).el aR;obtain ⟨rfl,p⟩:=aC;replace l:=qj 32 l;have bg:=l.ixd;refine qr (zoj 0 (zam x4) Ty.ziu Ty.zfq rfl (l.mono c.agree) (by first | omega | rfl) rfl (Nat.le_of_ble_eq_true rfl)) ?_;exact hK
  refine aw ?_;refine W_gs (v:=.b (decide (x4=x1))) rfl rfl rfl rfl (fun ⟨a0,_⟩=>?_) ?_
  ·rw [a0];exact (qr (zbc rfl rfl (zuz Ty.eqt58 rfl rfl (zwa p D))) ·)
  refine aw ?_;refine qy H (fun a2 H=>?_) (fun a2 H=>?_)
  ·refine aq ?_;obtain rfl:=oi H;refine qt ?_;exact ⟨f,j,rfl,(mo a),c.pick [] (by decide)⟩
  ·refine ay ?_;obtain ⟨l20,a5,bo,a6,H⟩:=bd2 H;obtain ⟨bp,a7,H⟩:=zaj H;have d:=c.boxAt 0 rfl;refine zbw (G:=(f.hold w2 [B])) [0,1,2,3,5,6,4,7,8] rfl Ty.mixed (by kernel_rfl) (HB.agree (HB.cons 0 d c rfl HB.nil) c.agree) ?_;refine au ?_;refine zpe 0 e rfl rfl rfl rfl Tryz.underlying118 Ty.zfq rfl (.inl ⟨rfl,rfl⟩) (.inr ⟨_,_,rfl,rfl⟩) a a5 ?_;intro bt aO;refine qr (O_fldg (zam x1) Ty.ziu Ty.zfq (Nat.zero_lt_succ _) rfl (d.held (HB.cons 0 d c rfl HB.nil) (by simp)) (fun q u h=>zdp (post:=[]) rfl h)) ?_;refine qx (E_bs (t:=tId) (vs:=[.agg (zam x1)]) (xs:=[x1]) Tryz.underlying118 Ty.zwx rfl ⟨⟨rfl,D⟩,trivial⟩ rfl rfl c) ?_;rintro bz b3 U;refine qh 1 d U ?_;have V:=U.nilRow tId;refine qx (zep (t:=tId) 0 Tryz.underlying118 Ty.zwx Ty.zk118 rfl rfl V rfl ((aO.mono A).src V.agree) a6) ?_;rintro b0 b4 I;refine qh 2 d I ?_;refine qx (zep (t:=tId) 0 Tryz.underlying118 Ty.zwx Ty.zk118 rfl rfl I rfl (I.rowSrc (k:=1) rfl) a7) ?_;rintro b1 b5 J;refine qh 2 d J ?_;obtain ⟨bq,a8,br,a9,H⟩:=bd2 H;refine ax ?_;refine zpe e (x0.length:Int) rfl rfl rfl rfl Tryz.underlying118 Ty.zfq rfl (.inr ⟨_,_,rfl,rfl⟩) (.inl ⟨rfl,rfl⟩) a a8 ?_;intro bu aP;refine xm (zep (t:=tId) 0 Tryz.underlying118 Ty.zwx Ty.zk118 rfl rfl J rfl ((aP.mono A).src J.agree) a9) ?_;rintro aX b6 ap;refine au ?_;obtain ⟨am,bs,a4,ar⟩:=ap.freezeR 0 [1,2] rfl (by decide) (by decide);obtain rfl:=oi H;refine qt ?_;exact ⟨am,aX,rfl,a4,ar.pick [] (by decide)⟩
end
end Go.Wk.Lf
end
