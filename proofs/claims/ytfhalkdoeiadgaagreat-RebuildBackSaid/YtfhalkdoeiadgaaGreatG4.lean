/-  -/
import Derived.Test.YtfhalkdoeiadgaaGreatG3
set_option linter.unusedVariables false
set_option linter.unusedSimpArgs false
open Bool renaming eq_false_or_eq_true→nk
open Go.Proofs.Tryz renaming prog→il, underlying109→rX, underlying163→EK, underlying164→uY, underlying166→np, underlying194→Di, underlying3→mH, underlying31→lL, underlying5→p7, underlying51→EO, underlying52→B8, underlying67→uo, underlying68→MK, underlying78→p9, underlying82→uZ, underlying9→wH
open List renaming length_replicate→vL, length_set→AV, replicate→iV
open Nat renaming le_of_ble_eq_true→kY, zero_add→jn, zero_lt_succ→oQ
open UInt32 renaming ofNat→kQ
section
namespace Go.Wk.Lf
open Go.V Go.Proofs
noncomputable section
set_option maxRecDepth 100000
variable{K:Tb}{F:gL}{w:Hp}
def cmp_isNaN_int(x0:Int):Option Bool :=
  some (decide (x0≠x0))
theorem TI{x0:Int}{r:Bool}(hA:Gd F w)(H:cmp_isNaN_int x0=some r):iN il K 138 [.i .i64 x0] w λv w'=>∃(F':gL),v = .b r∧St [] w F F' [] w':=by
 refine lg Tryz.func138 ?_;have hS:=St.start hA;refine aq ?_;exact rz H hS
def Bh (x0:Int) (x1:Int):Option Int :=
  bd (cmp_isNaN_int x0) λb =>
  bd (cmp_isNaN_int x1) λa =>
  if b then
    if a then
      some 0
    else
      some (-1)
  else
    if a then
      some 1
    else
      if decide (x0<x1)then
        some (-1)
      else
        if decide (x1<x0)then
          some 1
        else
          some 0
theorem FD{x0:Int}{x1:Int}{r:Int}(hA:Gd F w)(H:Bh x0 x1=some r):iN il K 87 [.i .i64 x0,.i .i64 x1] w λv w'=>∃(F':gL),v = .i .i64 r∧St [] w F F' [] w':=by
 refine kB Tryz.func87 ?_;have hS:=St.start hA;obtain⟨k,h,H⟩:=iy H;refine ax ?_;refine lp (TI hS.iH h) hS ?_;intro m b;obtain⟨l,j,H⟩:=iy H;refine ax ?_;refine lp (TI b.iH j) b ?_;intro n a;refine ay ?_;refine qy H (λc H=>?_) (λc H=>?_)
 ·refine ay ?_;refine qy H (λd H=>?_) (λd H=>?_)
  ·exact rz H a
  ·refine qk ?_;exact rz H a
 ·refine ay ?_;refine qy H (λe H=>?_) (λe H=>?_)
  ·exact rz H a
  ·refine ay ?_;refine qy H (λf H=>?_) (λf H=>?_)
   ·exact rz H a
   ·refine ay ?_;refine qy H (λg H=>?_) (λg H=>?_)
    ·exact rz H a
    ·refine qk ?_;exact rz H a
def yU.k1:Option Int :=
  some 0
def yU.l2(x0:List Int)(b:Int→Option Int):Int→Option Int
  | a =>
    if decide (a<(x0.length:Int))then
      bd (ix x0 a) λx6 =>
      if decide (x6≠0)then
        some x6
      else
        b (wr (a+1))
    else
      yU.k1
def yU(x0:List Int):Option Int :=
  loop (yU.l2 x0) 0
theorem aai{x0:List Int}{r:Int}{b:gE}(hA:Gd F w)(c:iq tI F b x0)(H:yU x0=some r):iN il K 150 [b] w λv w'=>∃(F':gL),v = .i .i64 r∧St [] w F F' [] w':=by
 refine lg Tryz.func150 ?_;have hS:=St.start hA;refine aq ?_;refine aq ?_;refine iL (jN (yU.k1=some r) [(3,.i .i64 0)] hS) ?_ ?_
 ·refine ax ?_;refine lj hS (λs:Int=>[(3,.i .i64 0),(6,b),(7,.i .i64 (x0.length:Int)),(8,.i .i64 s)]) H ?_;intro n l k q h a H;refine ay ?_;refine qy H (λe H=>?_) (λe H=>?_)
  ·obtain⟨x6,g,H⟩:=iy H;obtain⟨_,rfl,_⟩:=js 1 (c.mono h) g;refine ay ?_;refine qy H (λf H=>?_) (λf H=>?_)
   ·exact rz H a
   ·refine ax ?_;exact nm H (jj a)
  ·refine jf _ rfl ?_;exact nj ⟨H,jj a⟩
 ·rintro E p ⟨H,j,rfl,m,d⟩;exact rz H d
def P9(x0:Loc)(x1:Loc):Option Int :=
  bd (Bh x0.iQ x1.iQ) λa =>
  bd (Bh x0.file x1.file) λb =>
  bd (Bh x0.off x1.off) λc =>
  bd (Bh x0.len x1.len) λd =>
  bd (yU [a,b,c,d]) λe =>
  some e
theorem afp{x0:Loc}{x1:Loc}{r:Int}(hA:Gd F w)(H:P9 x0 x1=some r):iN il K 97 [.agg (Loc.cells x0),.agg (Loc.cells x1)] w λv w'=>∃(F':gL),v = .i .i64 r∧St [] w F F' [] w':=by
 refine kB Tryz.func97 ?_;have hS:=St.start hA;refine qs ?_;refine bx ([.i .i64 x0.iQ,.i .i64 x0.file,.i .i64 x0.off,.i .i64 x0.len]) ?_;intro q w1 U;refine bx ([.i .i64 x1.iQ,.i .i64 x1.file,.i .i64 x1.off,.i .i64 x1.len]) ?_;intro s M c;refine ay ?_;obtain⟨l,B,m,D,H⟩:=iG H;obtain⟨n,I,p,J,H⟩:=iG H;obtain⟨V,L,H⟩:=iy H;have b:=c.mC 1 rfl;have a:=c.mC 0 rfl;refine nA (G:=(F.hold M [q,s])) [0,1,2,3,5,6,7,8,10,11,12,13,15,16,17,18,4,9,14,19,20,21,22] rfl Ty.mixed (by kernel_rfl) (HB.agree (HB.cons 1 b c rfl (HB.cons 0 a c rfl HB.nil)) c.agree) ?_;refine au ?_;refine qr (qo Ty.pL rfl (b.held (HB.cons 1 b c rfl (HB.cons 0 a c rfl HB.nil)) (by simp)) rfl) ?_;refine au ?_;refine qr (qo Ty.pL rfl (a.held (HB.cons 1 b c rfl (HB.cons 0 a c rfl HB.nil)) (by simp)) rfl) ?_;refine au ?_;refine qr (qo Ty.pL rfl (b.held (HB.cons 1 b c rfl (HB.cons 0 a c rfl HB.nil)) (by simp)) rfl) ?_;refine au ?_;refine qr (qo Ty.pL rfl (a.held (HB.cons 1 b c rfl (HB.cons 0 a c rfl HB.nil)) (by simp)) rfl) ?_;refine au ?_;refine qr (qo Ty.pL rfl (b.held (HB.cons 1 b c rfl (HB.cons 0 a c rfl HB.nil)) (by simp)) rfl) ?_;refine au ?_;refine qr (qo Ty.pL rfl (a.held (HB.cons 1 b c rfl (HB.cons 0 a c rfl HB.nil)) (by simp)) rfl) ?_;refine ql (FD c.iH B) ?_;rintro Y aj ⟨O,rfl,u⟩;have e:=c.oN u;refine jG.mW (HB.le (HB.cons 1 b e rfl (HB.cons 0 a e rfl HB.nil)) (gL.le.refl _)) (HB.agree (HB.cons 1 b e rfl (HB.cons 0 a e rfl HB.nil)) e.agree) ?_;refine ql (FD e.iH D) ?_;rintro Z ak ⟨P,rfl,x⟩;have f:=e.oN x;refine jG.mW (HB.le (HB.cons 1 b f rfl (HB.cons 0 a f rfl HB.nil)) (gL.le.refl _)) (HB.agree (HB.cons 1 b f rfl (HB.cons 0 a f rfl HB.nil)) f.agree) ?_;refine ql (FD f.iH I) ?_;rintro ad am ⟨Q,rfl,y⟩;have g:=f.oN y;refine jG.mW (HB.le (HB.cons 1 b g rfl (HB.cons 0 a g rfl HB.nil)) (gL.le.refl _)) (HB.agree (HB.cons 1 b g rfl (HB.cons 0 a g rfl HB.nil)) g.agree) ?_;refine ql (FD g.iH J) ?_;rintro ae ar ⟨R,rfl,z⟩;have h:=g.oN z;refine jG.mW (HB.le (HB.cons 1 b h rfl (HB.cons 0 a h rfl HB.nil)) (gL.le.refl _)) (HB.agree (HB.cons 1 b h rfl (HB.cons 0 a h rfl HB.nil)) h.agree) ?_
 refine qx (kN (t:=tI) (vs:=[.i .i64 l,.i .i64 m,.i .i64 n,.i .i64 p]) (xs:=[l,m,n,p]) EO Ty.LY rfl ⟨rfl,⟨rfl,⟨rfl,⟨rfl,trivial⟩⟩⟩⟩ rfl rfl h) ?_;rintro X w7 d;refine jG.mW (HB.le (HB.cons 2 b d rfl (HB.cons 1 a d rfl HB.nil)) (gL.le.refl _)) (HB.agree (HB.cons 2 b d rfl (HB.cons 1 a d rfl HB.nil)) d.agree) ?_;refine ql (aai (Gd.now d.wf) (d.ni (k:=0) rfl) L) ?_;rintro ah a4 ⟨S,rfl,A⟩;have j:=d.oN A;refine jG.mW (HB.le (HB.cons 2 b j rfl (HB.cons 1 a j rfl HB.nil)) (gL.le.refl _)) (HB.agree (HB.cons 2 b j rfl (HB.cons 1 a j rfl HB.nil)) j.agree) ?_;exact rz H j
def NF(x0:List UInt8)(x1:List UInt8):Option Int :=
  some (oR x0 x1)
theorem Td[Kn (sN il) K]{x0:List UInt8}{x1:List UInt8}{r:Int}{a:gE}{b:gE}(hA:Gd F w)(c:iq tB F a x0)(d:iq tB F b x1)(H:NF x0 x1=some r):iN il K 158 [a,b] w λv w'=>∃(F':gL),v = .i .i64 r∧St [] w F F' [] w':=by
 refine kB Tryz.func158 ?_;have hS:=St.start hA;refine ax ?_;refine lm (aan Tryz.func181 rfl rfl (by kernel_rfl) (by kernel_rfl) (c.mono hS.agree) (d.mono hS.agree)) ?_;rintro _ _ ⟨rfl,rfl⟩;exact rz H hS
def VC(x0:List UInt8)(x1:List UInt8):Option Int :=
  bd (NF x0 x1) λa =>
  some a
theorem aeu[Kn (sN il) K]{x0:List UInt8}{x1:List UInt8}{r:Int}(hA:Gd F w)(b:x0.length=32)(c:x1.length=32)(H:VC x0 x1=some r):iN il K 169 [.agg (iJ x0),.agg (iJ x1)] w λv w'=>∃(F':gL),v = .i .i64 r∧St [] w F F' [] w':=by
 refine kB Tryz.func169 ?_;have hS:=St.start hA;refine qs ?_;refine bx (iJ x0) ?_;intro s I y;refine bx (iJ x1) ?_;intro x J d;refine ay ?_;obtain⟨n,z,g,e⟩:=d.Cw 1 [0] rfl (by decide) (by decide);obtain⟨p,A,j,a⟩:=e.Cw 0 [] rfl (by decide) (by decide);obtain⟨G,k,H⟩:=iy H;refine rf a ?_;refine J0 rfl rfl rfl rfl uZ Ty.pD rfl (g.at (λq u h=>by simpa using h)) b ?_;intro B l;refine J0 rfl rfl rfl rfl uZ Ty.pD rfl (j.at (λq u h=>by simpa using h)) c ?_;intro D m;refine lq (Td a.iH (mo l) m k) a ?_;intro L f;exact rz H f
def sm.k1:Option Bool :=
  some false
def sm.k3(a:Int)(b:Int→Option Bool):Option Bool :=
  b (wr (a+1))
def sm.l4(x0:List mJ)(b:Int)(e:Int→Option Bool)(d:Int→Option Bool):Int→Option Bool
  | a =>
    bd (ix x0 b) λf =>
    if decide (a<(f.tree.length:Int))then
      bd (ix x0 b) λg =>
      bd (ix g.tree a) λc =>
      bd (only (!decide (300<(c.data.length:Int))) (ix x0 b) (mJ.mk 0 0 0 [] [])) λh =>
      bd (only (!decide (300<(c.data.length:Int))) (ix h.tree a) (jd.mk [] [])) λi =>
      if(decide (300<(c.data.length:Int))||decide (50<(i.path.length:Int)))then
        some true
      else
        d (wr (a+1))
    else
      sm.k3 b e
def sm.l2(x0:List mJ)(c:Int→Option Bool):Int→Option Bool
  | a =>
    if (decide (a < (x0.length:Int))&&decide (a < 30)) then
      bd (ix x0 a) λb =>
      bd (only (!decide (300<(b.pick.length:Int))) (ix x0 a) (mJ.mk 0 0 0 [] [])) λd =>
      if(decide (300<(b.pick.length:Int))||decide (10<(d.tree.length:Int)))then
        some true
      else
        loop (sm.l4 x0 a c) 0
    else
      sm.k1
def sm(x0:List mJ):Option Bool :=
  if decide (120<(x0.length:Int))then
    some true
  else
    loop (sm.l2 x0) 0
set_option maxHeartbeats 2000000 in
theorem ZG{x0:List mJ}{r:Bool}{h:gE}(hA:Gd F w)(e:iq mJ.t F h x0)(H:sm x0=some r):iN il K 24 [h] w λv w'=>∃(F':gL),v = .b r∧St [] w F F' [] w':=by
 refine lg Tryz.func24 ?_;have hS:=St.start hA;refine ay ?_;refine qy H (λa7 H=>?_) (λa7 H=>?_)
 ·exact rz H hS
 ·refine qk ?_;refine iL (jN (sm.k1=some r) [] hS) ?_ ?_
  ·refine ax ?_;refine lj hS (λs:Int=>[(0,h),(3,.i .i64 s)]) H ?_;intro b4 k G w3 g f H;refine aZ ?_;refine qy H (λaD H=>?_) (λaD H=>?_)
   ·refine qk ?_;refine iL (jN (sm.k3 k b4=some r) [(0,h),(3,.i .i64 k)] f) ?_ ?_
    ·refine qZ ?_;refine kr ?_;refine kr ?_;obtain⟨ar,ae,bA,bo,H⟩:=iG H;refine sL (λE wq=>E=[(0,h),(3,.i .i64 k),(33,.b (decide (300<(ar.pick.length:Int))||decide (10<(bA.tree.length:Int))))] ∧ ∃l:gL,G.le l∧St [] w F l [] wq) ?_ ?_
     ·
      rcases nk (decide (300<(ar.pick.length:Int)))with d|d
      ·refine qd ?_;refine q2 ?_;obtain⟨aH,bs⟩:=iD ae;obtain⟨bE,aY,m⟩:=(e.mono g).el bs;obtain⟨b5,b6,rfl,bj,L⟩:=aY;replace m:=qj 5 m;have Q:=m.ky;refine qi B8 Ty.Ey Q aH ?_;refine qr (nr 4 Ty.Oa rfl Q) ?_;refine qr (la 4 Ty.NJ rfl (m.mono f.agree) (by first|omega|rfl) rfl) ?_;refine qr (jV MK rfl L.ln) ?_;refine qr (iB rfl rfl vg) ?_;refine qc ?_;refine kC 25 d ?_;refine je ?_;refine je ?_;refine je ?_;refine qz ?_;refine qc ?_;refine ku ?_;exact lW _ ⟨rfl,G,(gL.le.refl _),f⟩ ⟨rfl,rfl,(lZ rfl (by first|rfl|(rw[d];first|done|rfl)|simp[d])),trivial⟩
      ·refine qd ?_;refine q2 ?_;obtain⟨aJ,bt⟩:=iD ae;obtain⟨bF,ba,n⟩:=(e.mono g).el bt;obtain⟨b5,b6,rfl,bj,L⟩:=ba;replace n:=qj 5 n;have R:=n.ky;refine qi B8 Ty.Ey R aJ ?_;refine qr (nr 4 Ty.Oa rfl R) ?_;refine qr (la 4 Ty.NJ rfl (n.mono f.agree) (by first|omega|rfl) rfl) ?_;refine qr (jV MK rfl L.ln) ?_;refine qr (iB rfl rfl vg) ?_;refine qc ?_;refine kC 25 d ?_;refine q2 ?_;have aj:=bo;rw[jX (by first|rfl|(rw[d];first|done|rfl)|simp[d])]at aj;obtain⟨aK,bu⟩:=iD aj;obtain⟨bG,bb,p⟩:=(e.mono g).el bu;obtain⟨bX,bY,rfl,bk,bO⟩:=bb;replace p:=qj 5 p;have S:=p.ky;refine qi B8 Ty.Ey S aK ?_;refine qr (nr 3 Ty.HK rfl S) ?_;refine qr (la 3 Ty.Hz rfl (p.mono f.agree) (by first|omega|rfl) rfl) ?_;refine qr (jV uo rfl bk.ln) ?_;refine qr (iB rfl rfl vg) ?_;refine qc ?_;refine ku ?_;exact lW _ ⟨rfl,G,(gL.le.refl _),f⟩ ⟨rfl,rfl,(lZ rfl (by first|rfl|(rw[d];first|done|rfl)|simp[d])),trivial⟩
     rintro E ce ⟨rfl,l,B,J⟩;refine nN ?_;refine qy H (λa8 H=>?_) (λa8 H=>?_)
     ·exact rz H J
     ·refine ax ?_;refine jH (λ(s:Int) E wq=>∃(j:gL),E=[(0,h),(3,.i .i64 k),(4,.i .i64 s)]∧l.le j∧mq J j wq) H ?_ ?_
      ·exact lo (jj J)
      ·rintro bW b3 E cg hI H
       try dsimp only at hI
       obtain⟨j,rfl,D,c⟩:=hI;obtain⟨ck,bp,H⟩:=iy H;obtain⟨_,⟨bZ,ca,rfl,bP,bQ⟩,_⟩:=js 5 (e.mono ((g.trans B).trans D)) bp;refine ay ?_;refine qy H (λa9 H=>?_) (λa9 H=>?_)
       ·refine qk ?_;refine kr ?_;refine qZ ?_;refine kr ?_;obtain⟨cl,ah,a4,ai,H⟩:=iG H;obtain⟨cm,bq,bB,br,H⟩:=iG H;refine sL (λE wq=>E=[(0,h),(3,.i .i64 k),(4,.i .i64 b3),(67,.b (decide (300<(a4.data.length:Int))||decide (50<(bB.path.length:Int))))] ∧ ∃I:gL,j.le I∧St [] w F I [] wq) ?_ ?_
        ·
         rcases nk (decide (300<(a4.data.length:Int)))with a|a
         ·refine qd ?_;refine q2 ?_;obtain⟨aO,bv⟩:=iD ah;obtain⟨bH,bc,q⟩:=(e.mono ((g.trans B).trans D)).el bv;obtain⟨b7,b8,rfl,M,bm⟩:=bc;replace q:=qj 5 q;have U:=q.ky;refine qi B8 Ty.Ey U aO ?_;refine qr (nr 3 Ty.HK rfl U) ?_;refine qr (la 3 Ty.Hz rfl (q.mono c.agree) (by first|omega|rfl) rfl) ?_;refine qc ?_;obtain⟨aR,bw⟩:=iD ai;obtain⟨bI,be,u⟩:=M.el bw;obtain⟨b9,rfl,O⟩:=be;replace u:=qj 2 u;have V:=u.ky;refine qi uo Ty.AK V aR ?_;refine qr (nr 1 Ty.N0 rfl V) ?_;refine qr (la 1 Ty.DK rfl (u.mono c.agree) (by first|omega|rfl) rfl) ?_;refine qr (jV lL rfl O.ln) ?_;refine qr (iB rfl rfl vg) ?_;refine qc ?_;refine kC 55 a ?_;refine je ?_;refine je ?_;refine je ?_;refine je ?_;refine je ?_;refine qz ?_;refine qc ?_;refine ku ?_;exact lW _ ⟨rfl,j,(gL.le.refl _),c⟩ ⟨rfl,rfl,rfl,(lZ rfl (by first|rfl|(rw[a];first|done|rfl)|simp[a])),trivial⟩
         ·refine qd ?_;refine q2 ?_;obtain⟨aT,bz⟩:=iD ah;obtain⟨bJ,bf,x⟩:=(e.mono ((g.trans B).trans D)).el bz;obtain⟨b7,b8,rfl,M,bm⟩:=bf;replace x:=qj 5 x;have X:=x.ky;refine qi B8 Ty.Ey X aT ?_;refine qr (nr 3 Ty.HK rfl X) ?_;refine qr (la 3 Ty.Hz rfl (x.mono c.agree) (by first|omega|rfl) rfl) ?_;refine qc ?_;obtain⟨aU,b0⟩:=iD ai;obtain⟨bK,bg,y⟩:=M.el b0;obtain⟨b9,rfl,O⟩:=bg;replace y:=qj 2 y;have Y:=y.ky;refine qi uo Ty.AK Y aU ?_;refine qr (nr 1 Ty.N0 rfl Y) ?_;refine qr (la 1 Ty.DK rfl (y.mono c.agree) (by first|omega|rfl) rfl) ?_;refine qr (jV lL rfl O.ln) ?_;refine qr (iB rfl rfl vg) ?_;refine qc ?_;refine kC 55 a ?_;refine q2 ?_;have ak:=bq;rw[jX (by first|rfl|(rw[a];first|done|rfl)|simp[a])]at ak;obtain⟨aV,b1⟩:=iD ak;obtain⟨bM,bh,z⟩:=(e.mono ((g.trans B).trans D)).el b1;obtain⟨cb,cc,rfl,bn,bR⟩:=bh;replace z:=qj 5 z;have Z:=z.ky;refine qi B8 Ty.Ey Z aV ?_;refine qr (nr 3 Ty.HK rfl Z) ?_;refine qr (la 3 Ty.Hz rfl (z.mono c.agree) (by first|omega|rfl) rfl) ?_;refine qc ?_;have am:=br;rw[jX (by first|rfl|(rw[a];first|done|rfl)|simp[a])]at am;obtain⟨aX,b2⟩:=iD am;obtain⟨bN,bi,A⟩:=bn.el b2;obtain⟨cd,rfl,bS⟩:=bi;replace A:=qj 2 A;have ad:=A.ky;refine qi uo Ty.AK ad aX ?_;refine qr (nr 0 Ty.FL rfl ad) ?_;refine qr (la 0 Ty.Be rfl (A.mono c.agree) (by first|omega|rfl) rfl) ?_;refine qr (Sw wH rfl) ?_;refine qr (iB rfl rfl vg) ?_;refine qc ?_;refine ku ?_;exact lW _ ⟨rfl,j,(gL.le.refl _),c⟩ ⟨rfl,rfl,rfl,(lZ rfl (by first|rfl|(rw[a];first|done|rfl)|simp[a])),trivial⟩
        rintro E ci ⟨rfl,I,bU,P⟩;refine nN ?_;refine qy H (λaC H=>?_) (λaC H=>?_)
        ·exact rz H P
        ·refine ax ?_;exact nm H (jj P)
       ·refine ax ?_;exact nj ⟨H,jj c⟩
    ·rintro E w9 ⟨H,F9,rfl,bV,a6⟩;refine ax ?_;exact nm H (jj a6)
   ·refine jf _ rfl ?_;exact nj ⟨H,jj f⟩
  ·rintro E w2 ⟨H,F2,rfl,bT,a5⟩;exact rz H a5
def tL.k2(l6:List Int):Option (List Int) :=
  some l6
def tL.k1(l2:List Int):Option (List Int) :=
  if decide ((l2.length:Int)=0)then
    tL.k2 [0]
  else
    tL.k2 l2
def tL.l3(x0:List Int)(c:((List Int)×Int)→Option (List Int)):((List Int)×Int)→Option (List Int)
  | (kW,a) =>
    if(decide (a<(x0.length:Int))&&decide (a<8))then
      bd (ix x0 a) λd =>
      bd (app (α:=Int) kW [bits .and .i64 d 1]) λb =>
      c (b,wr (a+1))
    else
      tL.k1 kW
def tL(x0:List Int):Option (List Int) :=
  loop (tL.l3 x0) ([],0)
theorem ZI{x0:List Int}{r:(List Int)}{h:gE}(hA:Gd F w)(p:iq tI F h x0)(H:tL x0=some r):iN il K 25 [h] w λv w'=>∃(F':gL)(m:gE),v=m∧St [] w F F' [.row tI m (r)] w':=by
 refine lg Tryz.func25 ?_;have hS:=St.start hA;refine aq ?_;refine aq ?_;refine iL (λE wq=>∃l2:List Int,tL.k1 l2=some r ∧ ∃(a:gL)(d:gE),E=[(3,d)]∧F.le a∧iW hS [.row tI d l2] a wq) ?_ ?_
 ·refine ax ?_;refine jH (λ(s:(List Int)×Int) E wq=>∃(e:gL)(c:gE),E=[(0,h),(3,c),(4,.i .i64 s.2)]∧F.le e∧iW hS [.row tI c s.1] e wq) H ?_ ?_
  ·have x:=hS.lb tI;exact lo ⟨F,(.sl none 0 (.k 0)),rfl,(gL.le.refl _),x⟩
  ·rintro Q ⟨kW,L⟩ E V hI H
   try dsimp only at hI
   obtain⟨e,c,rfl,G,j⟩:=hI;refine aZ ?_;refine qy H (λz H=>?_) (λz H=>?_)
   ·obtain⟨n,D,M,B,H⟩:=iG H;obtain⟨_,rfl,_⟩:=js 1 (p.mono G) D;refine ay ?_;refine qr (iB rfl rfl (mR (.inl rfl))) ?_;refine xm (kN (t:=tI) (vs:=[.i .i64 (bits .and .i64 n 1)]) (xs:=[bits .and .i64 n 1]) EO Ty.LY rfl ⟨rfl,trivial⟩ rfl rfl j) ?_;rintro R X l;refine ap 1 l (l.mi (k:=0) rfl) B ?_;intro J Y u;refine ax ?_;exact nm H ⟨_,J,rfl,iI,pk [1] u⟩
   ·refine jf _ rfl ?_;exact nj ⟨kW,H,⟨_,c,rfl,iI,j⟩⟩
 ·rintro E S ⟨l2,H,a,d,rfl,O,b⟩;refine iL (λE wq=>∃l6:List Int,tL.k2 l6=some r ∧ ∃(f:gL)(g:gE),E=[(3,g)]∧a.le f∧iW b [.row tI g l6] f wq) ?_ ?_
  ·refine aq ?_;refine qr (jV EO rfl (b.kH (k:=0) rfl)) ?_;refine au ?_;refine qy H (λA H=>?_) (λA H=>?_)
   ·refine qd ?_;refine xm (kN (t:=tI) (vs:=[.i .i64 0]) (xs:=[0]) EO Ty.LY rfl ⟨rfl,trivial⟩ rfl rfl b) ?_;rintro I U q;refine ax ?_;exact nj ⟨[0],H,⟨_,I,rfl,iI,pk [0] q⟩⟩
   ·refine s6 ?_;exact nj ⟨l2,H,⟨_,d,rfl,iI,b⟩⟩
  ·rintro E Z ⟨l6,H,f,g,rfl,P,y⟩;exact rx H y
def yb.k1(l4:List iz):Option ig :=
  some (ig.mk 0 [] [] [] l4)
def yb.l2(x0:List Int)(d:(Int×(List iz))→Option ig):(Int×(List iz))→Option ig
  | (a,b) =>
    if decide (a<(x0.length:Int))then
      bd (ix x0 a) λe =>
      bd (app (α:=iz) b [(iz.mk e 0 1 0)]) λc =>
      d (wr (a+1),c)
    else
      yb.k1 b
def yb(x0:List Int):Option ig :=
  loop (yb.l2 x0) (0,[])
theorem ZY{x0:List Int}{r:ig}{l:gE}(hA:Gd F w)(z:iq tI F l x0)(H:yb x0=some r):iN il K 26 [l] w λv w'=>∃(F':gL)(p:gE)(q:gE)(u:gE)(x:gE),v = .agg (ig.cells r p q u x)∧St [] w F F' [.row ie.t p (r.ik),.row Chunk.t q (r.chunks),.row iu.t u (r.im),.row iz.t x (r.iv)] w':=by
 refine lg Tryz.func26 ?_;have hS:=St.start hA;refine qs ?_;refine al ?_;intro c w1 Q;refine ax ?_;refine al ?_;intro d w2 h;refine qn ?_;refine iL (λE wq=>∃l4:List iz,yb.k1 l4=some r ∧ ∃(b:gL)(a:gE),E=[(2,pl c 0),(3,pl d 0)]∧F.le b∧iW h [.box d [.i .i64 0,.sl none 0 (.k 0),.sl none 0 (.k 0),.sl none 0 (.k 0),a],.box c [.i .i64 0,.sl none 0 (.k 0),.sl none 0 (.k 0),.sl none 0 (.k 0),.sl none 0 (.k 0)],.row iz.t a l4] b wq) ?_ ?_
 ·refine ax ?_;refine jH (λ(s:Int×(List iz)) E wq=>∃(f:gL)(e:gE),E=[(0,l),(2,pl c 0),(3,pl d 0),(4,.i .i64 s.1)]∧F.le f∧iW h [.box d [.i .i64 0,.sl none 0 (.k 0),.sl none 0 (.k 0),.sl none 0 (.k 0),e],.box c [.i .i64 0,.sl none 0 (.k 0),.sl none 0 (.k 0),.sl none 0 (.k 0),.sl none 0 (.k 0)],.row iz.t e s.2] f wq) H ?_ ?_
  ·have D:=h.lb iz.t;exact lo ⟨F,(.sl none 0 (.k 0)),rfl,(gL.le.refl _),D.pick [1,2,0] (by decide)⟩
  ·rintro Z ⟨V,O⟩ E ah hI H
   try dsimp only at hI
   obtain⟨f,e,rfl,P,g⟩:=hI;refine ay ?_;refine qy H (λJ H=>?_) (λJ H=>?_)
   ·refine ay ?_;obtain⟨m,M,X,L,H⟩:=iG H;refine rf g ?_;obtain⟨_,rfl,U⟩:=js 1 (z.mono P) M;refine au ?_;refine j8 (v:=.agg (iz.cells (iz.mk m 0 1 0))) rfl rfl rfl rfl (λ_=>rfl) ?_;refine qx (kN (t:=iz.t) (vs:=[.agg (iz.cells (iz.mk m 0 1 0))]) (xs:=[(iz.mk m 0 1 0)]) Tryz.underlying22 Ty.I6 rfl ⟨rfl,trivial⟩ rfl rfl g) ?_;rintro ad aj j;refine qw j ?_;refine aP 3 j (j.mi (k:=0) rfl) L ?_;intro y ak R;refine au ?_;refine sC 1 ([.i .i64 0,.sl none 0 (.k 0),.sl none 0 (.k 0),.sl none 0 (.k 0),y]) ?_;intro am B;refine ax ?_;exact nm H ⟨_,y,rfl,iI,pk [1,2,3] B⟩
   ·refine jf _ rfl ?_;exact nj ⟨O,H,⟨_,e,rfl,iI,g⟩⟩
 ·rintro E w3 ⟨l4,H,b,a,rfl,Y,S⟩;refine aq ?_;refine sb 1 ([.i .i64 0,.sl none 0 (.k 0),.sl none 0 (.k 0),.sl none 0 (.k 0),a]) ?_;intro w7 G;refine qn ?_;have I:=G.lb ie.t;have A:=I.lb Chunk.t;have n:=A.lb iu.t;obtain rfl:=oi H;refine oH (vs:=[.agg (ig.cells (ig.mk 0 [] [] [] l4) (.sl none 0 (.k 0)) (.sl none 0 (.k 0)) (.sl none 0 (.k 0)) a)]) rfl ⟨(oJ 4 Ty.rb Ty.rv n rfl rfl),trivial⟩ ?_;exact⟨b,(.sl none 0 (.k 0)),(.sl none 0 (.k 0)),(.sl none 0 (.k 0)),a,rfl,n.pick [2,1,0,5] (by decide)⟩
def wW.k1:Option Bool :=
  some false
def wW.l2(x0:List jd)(b:Int→Option Bool):Int→Option Bool
  | a =>
    if decide (a<(x0.length:Int))then
      bd (ix x0 a) λx7 =>
      if decide (200<(x7.data.length:Int))then
        some true
      else
        b (wr (a+1))
    else
      wW.k1
def wW(x0:List jd):Option Bool :=
  if decide (6<(x0.length:Int))then
    some true
  else
    loop (wW.l2 x0) 0
theorem Tp{x0:List jd}{r:Bool}{c:gE}(hA:Gd F w)(d:iq jd.t F c x0)(H:wW x0=some r):iN il K 79 [c] w λv w'=>∃(F':gL),v = .b r∧St [] w F F' [] w':=by
 refine lg Tryz.func79 ?_;have hS:=St.start hA;refine ay ?_;refine qy H (λf H=>?_) (λf H=>?_)
 ·exact rz H hS
 ·refine qk ?_;refine iL (jN (wW.k1=some r) [] hS) ?_ ?_
  ·refine ax ?_;refine lj hS (λs:Int=>[(0,c),(3,.i .i64 s)]) H ?_;intro u p m z k a H;refine ay ?_;refine qy H (λh H=>?_) (λh H=>?_)
   ·obtain⟨x7,j,H⟩:=iy H;obtain⟨_,⟨x,rfl,n⟩,_⟩:=js 2 (d.mono k) j;refine ay ?_;refine qy H (λg H=>?_) (λg H=>?_)
    ·exact rz H a
    ·refine ax ?_;exact nm H (jj a)
   ·refine jf _ rfl ?_;exact nj ⟨H,jj a⟩
  ·rintro E y ⟨H,l,rfl,q,e⟩;exact rz H e
def uD.k1(x0:List UInt8):Option Bool :=
  some (decide (1≤(x0.length:Int))&&decide ((x0.length:Int)≤20))
def uD.l2(x0:List UInt8)(b:Int→Option Bool):Int→Option Bool
  | a =>
    if decide (a<(x0.length:Int))then
      bd (ix x0 a) λx9 =>
      bd (only (!decide ((x9.toNat:Int)<33)) (ix x0 a) 0) λc =>
      if(decide ((x9.toNat:Int)<33)||decide (126<(c.toNat:Int)))then
        some false
      else
        b (wr (a+1))
    else
      uD.k1 x0
def uD(x0:List UInt8):Option Bool :=
  loop (uD.l2 x0) 0
theorem HA{x0:List UInt8}{r:Bool}(hA:Gd F w)(H:uD x0=some r):iN il K 80 [.s x0] w λv w'=>∃(F':gL),v = .b r∧St [] w F F' [] w':=by
 refine lg Tryz.func80 ?_;have hS:=St.start hA;refine aq ?_;refine iL (jN (uD.k1 x0=some r) [(0,.s x0)] hS) ?_ ?_
 ·refine ax ?_;refine lj hS (λs:Int=>[(0,.s x0),(3,.i .i64 s)]) H ?_;intro A x u D z a H;refine ay ?_;refine qy H (λg H=>?_) (λg H=>?_)
  ·obtain⟨x9,l,p,k,H⟩:=iG H;refine ay ?_;obtain⟨h,m⟩:=iD l;refine qr (JW wH rfl rfl h m) ?_;refine aw ?_;refine nO (v:=.i .u8 (p.toNat:Int)) rfl rfl rfl rfl (λ⟨c,_⟩=>?_) ?_
   ·rw[c];intro hK;have d:=k;rw[jX (by first|rfl|(rw[c];first|done|rfl)|simp[c])]at d;obtain⟨j,n⟩:=iD d;refine qr (JW wH rfl rfl j n) ?_;exact hK
   refine aw ?_;refine qy H (λf H=>?_) (λf H=>?_)
   ·exact rz H a
   ·refine ax ?_;exact nm H (jj a)
  ·refine jf _ rfl ?_;exact nj ⟨H,jj a⟩
 ·rintro E B ⟨H,q,rfl,y,e⟩;refine av ?_;exact rz H e
def Cr(x0:List UInt8):Option (List UInt8) :=
  bd (app (α:=UInt8) [] x0) λa =>
  some a
theorem Ko{x0:List UInt8}{r:(List UInt8)}{c:gE}(hA:Gd F w)(d:iq tB F c x0)(H:Cr x0=some r):iN il K 11 [c] w λv w'=>∃(F':gL)(b:gE),v=b∧St [] w F F' [.row tB b (r)] w':=by
 refine lg Tryz.func11 ?_;have hS:=St.start hA;obtain⟨g,f,H⟩:=iy H;refine ax ?_;have a:=hS.lb tB;refine ap 0 a (d.src a.agree) f ?_;intro h i e;exact rx H e
def nu.k2(l8:List jd):Option ((List jd)×Int) :=
  some (l8,0)
def nu.k4(a:Int)(c:((List jd)×Int)→Option ((List jd)×Int))(b:List jd):Option ((List jd)×Int) :=
  c (b,wr (a+1))
def nu.k5(x0:List jd)(kW:List jd)(b:Int)(j:((List jd)×Int)→Option ((List jd)×Int))(a:Int):Option ((List jd)×Int) :=
  bd (only (decide (a<(kW.length:Int))) (ix kW a) (jd.mk [] [])) λk =>
  bd (only (decide (a<(kW.length:Int))) (ix x0 b) (jd.mk [] [])) λl =>
  if(decide (a<(kW.length:Int))&&(k.path==l.path))then
    some ([],9)
  else
    bd (cut (α:=jd) kW 0 a) λd =>
    bd (ix x0 b) λc =>
    bd (app (α:=jd) [] d) λe =>
    bd (Cr c.data) λi =>
    bd (app (α:=jd) e [(jd.mk c.path i)]) λf =>
    bd (cut (α:=jd) kW a (kW.length:Int)) λg =>
    bd (app (α:=jd) f g) λh =>
    nu.k4 b j h
def nu.l6(x0:List jd)(kW:List jd)(b:Int)(c:((List jd)×Int)→Option ((List jd)×Int))(d:Int→Option ((List jd)×Int)):Int→Option ((List jd)×Int)
  | a =>
    bd (only (decide (a<(kW.length:Int))) (ix kW a) (jd.mk [] [])) λe =>
    bd (only (decide (a<(kW.length:Int))) (ix x0 b) (jd.mk [] [])) λf =>
    if(decide (a<(kW.length:Int))&&(jt e.path f.path))then
      d (wr (a+1))
    else
      nu.k5 x0 kW b c a
def nu.l3(x0:List jd)(b:((List jd)×Int)→Option ((List jd)×Int)):((List jd)×Int)→Option ((List jd)×Int)
  | (kW,a) =>
    if decide (a<(x0.length:Int))then
      loop (nu.l6 x0 kW a b) 0
    else
      nu.k2 kW
def nu.k1(x0:List jd):Option ((List jd)×Int) :=
  loop (nu.l3 x0) ([],0)
def nu.l7(x0:List jd)(c:Int→Option ((List jd)×Int)):Int→Option ((List jd)×Int)
  | a =>
    if decide (a<(x0.length:Int))then
      bd (ix x0 a) λd =>
      bd (uD d.path) λb =>
      if(!b)then
        some ([],1)
      else
        c (wr (a+1))
    else
      nu.k1 x0
def nu(x0:List jd):Option ((List jd)×Int) :=
  bd (wW x0) λa =>
  if a then
    some ([],2)
  else
    loop (nu.l7 x0) 0
set_option maxHeartbeats 2000000 in
theorem ZO{x0:List jd}{r:(List jd)×Int}{c:gE}(hA:Gd F w)(n:iq jd.t F c x0)(H:nu x0=some r):iN il K 36 [c] w λv w'=>∃(F':gL)(q0:gE),v = .kx [q0,.i .i64 r.2]∧St [] w F F' [.row jd.t q0 (r.1)] w':=by
 refine lg Tryz.func36 ?_;have hS:=St.start hA;obtain⟨r1,bv,H⟩:=iy H;refine ay ?_;refine lp (Tp hS.iH n bv) hS ?_;intro w2 R;refine qn ?_;refine qy H (λbe H=>?_) (λbe H=>?_)
 ·refine aq ?_;have aV:=R.lb jd.t;exact rx H aV
 ·refine qk ?_;refine iL (jN (nu.k1 x0=some r) [(0,c)] R) ?_ ?_
  ·refine ax ?_;refine lj R (λs:Int=>[(0,c),(4,.i .i64 s)]) H ?_;intro cu ch bU cK bM X H;refine ay ?_;refine qy H (λbh H=>?_) (λbh H=>?_)
   ·obtain⟨cM,bC,cs,b3,H⟩:=iG H;obtain⟨_,⟨c2,rfl,ce⟩,_⟩:=js 2 (n.mono bM) bC;refine ay ?_;refine lp (HA X.iH b3) X ?_;intro cL ar;refine au ?_;refine qy H (λbi H=>?_) (λbi H=>?_)
    ·refine aq ?_;have bb:=ar.lb jd.t;exact rx H bb
    ·refine ax ?_;exact nm H (jj ar)
   ·refine jf _ rfl ?_;exact nj ⟨H,jj X⟩
  ·rintro E w6 ⟨H,O,rfl,ad,V⟩;refine aq ?_;refine iL (λE wq=>∃l8:List jd,nu.k2 l8=some r ∧ ∃(Q:gL)(u9:gE),E=[(5,u9)]∧O.le Q∧iW V [.row jd.t u9 l8] Q wq) ?_ ?_
   ·refine ax ?_;refine jH (λ(s:(List jd)×Int) E wq=>∃(m:gL)(a:gE),E=[(0,c),(5,a),(6,.i .i64 s.2)]∧O.le m∧iW V [.row jd.t a s.1] m wq) H ?_ ?_
    ·have ba:=V.lb jd.t;exact lo ⟨O,(.sl none 0 (.k 0)),rfl,(gL.le.refl _),ba⟩
    ·rintro aO ⟨kW,g⟩ E c5 hI H
     try dsimp only at hI
     obtain⟨m,a,rfl,Z,q⟩:=hI;refine ay ?_;refine qy H (λbc H=>?_) (λbc H=>?_)
     ·refine qk ?_;refine iL (λE wq=>∃Y:List jd,nu.k4 g aO Y=some r ∧ ∃(L:gL)(D:gE),E=[(0,c),(5,D),(6,.i .i64 g)]∧m.le L∧iW q [.row jd.t D Y] L wq) ?_ ?_
      ·refine qZ ?_;refine aq ?_;refine iL (λE wq=>∃f:Int,nu.k5 x0 kW g aO f=some r ∧ ∃(h:gL),E=[(0,c),(5,a),(6,.i .i64 g),(7,.i .i64 f)]∧m.le h∧mq q h wq) ?_ ?_
       ·refine qZ ?_;refine lj q (λs:Int=>[(0,c),(5,a),(6,.i .i64 g),(7,.i .i64 s)]) H ?_;intro ct B M cG bK l H;refine kr ?_;refine kr ?_;obtain⟨bR,bA,bS,bB,H⟩:=iG H;refine sL (λE wq=>E=[(0,c),(5,a),(6,.i .i64 g),(7,.i .i64 B),(46,.b (decide (B<(kW.length:Int))&&(jt bR.path bS.path)))] ∧ ∃P:gL,M.le P∧St [] w F P [.row jd.t a kW] wq) ?_ ?_
        ·
         rcases nk (decide (B<(kW.length:Int)))with e|e
         ·refine rn ?_;refine q2 ?_;refine qr (jV uo rfl (l.kH (k:=0) rfl)) ?_;refine qr (iB rfl rfl qv) ?_;refine qc ?_;refine kC 34 e ?_;refine q2 ?_;have aD:=bA;rw[jX e]at aD;obtain⟨bt,bF⟩:=iD aD;obtain⟨bY,b1,z⟩:=l.rowAt (k:=0) rfl bF;obtain⟨c0,rfl,cc⟩:=b1;replace z:=qj 2 z;have a7:=z.ky;refine qi uo Ty.AK a7 bt ?_;refine qr (nr 0 Ty.FL rfl a7) ?_;refine qr (la 0 Ty.Be rfl z (by first|omega|rfl) rfl) ?_;refine q2 ?_;have aH:=bB;rw[jX e]at aH;obtain⟨bu,bG⟩:=iD aH;obtain⟨bZ,b2,A⟩:=(n.mono ((ad.trans Z).trans bK)).el bG;obtain⟨c1,rfl,cd⟩:=b2;replace A:=qj 2 A;have a8:=A.ky;refine qi uo Ty.AK a8 bu ?_;refine qr (nr 0 Ty.FL rfl a8) ?_;refine qr (la 0 Ty.Be rfl (A.mono l.agree) (by first|omega|rfl) rfl) ?_;refine qr (iB rfl rfl SV) ?_;refine qc ?_;refine ku ?_;exact lW _ ⟨rfl,M,(gL.le.refl _),l⟩ ⟨rfl,rfl,rfl,rfl,(lZ rfl (by first|rfl|(rw[e];first|done|rfl)|simp[e])),trivial⟩
         ·refine rn ?_;refine q2 ?_;refine qr (jV uo rfl (l.kH (k:=0) rfl)) ?_;refine qr (iB rfl rfl qv) ?_;refine qc ?_;refine kC 34 e ?_;refine je ?_;refine je ?_;refine je ?_;refine je ?_;refine je ?_;refine qz ?_;refine qc ?_;refine ku ?_;exact lW _ ⟨rfl,M,(gL.le.refl _),l⟩ ⟨rfl,rfl,rfl,rfl,(lZ rfl (by first|rfl|(rw[e];first|done|rfl)|simp[e])),trivial⟩
        rintro E cI ⟨rfl,P,cn,am⟩;refine nN ?_;refine qy H (λbg H=>?_) (λbg H=>?_)
        ·refine ax ?_;exact nm H (jj am)
        ·refine jf _ rfl ?_;exact nj ⟨B,H,jj am⟩
       ·rintro E c8 ⟨f,H,h,rfl,aJ,j⟩;refine kr ?_;refine kr ?_;obtain⟨bP,b7,bQ,b8,H⟩:=iG H;refine sL (λE wq=>E=[(0,c),(5,a),(6,.i .i64 g),(7,.i .i64 f),(65,.b (decide (f<(kW.length:Int))&&(bP.path==bQ.path)))] ∧ ∃p:gL,h.le p∧St [] w F p [.row jd.t a kW] wq) ?_ ?_
        ·
         rcases nk (decide (f<(kW.length:Int)))with d|d
         ·refine rn ?_;refine q2 ?_;refine qr (jV uo rfl (j.kH (k:=0) rfl)) ?_;refine qr (iB rfl rfl qv) ?_;refine qc ?_;refine kC 53 d ?_;refine q2 ?_;have a9:=b7;rw[jX d]at a9;obtain⟨br,bD⟩:=iD a9;obtain⟨bW,bw,x⟩:=j.rowAt (k:=0) rfl bD;obtain⟨cx,rfl,ca⟩:=bw;replace x:=qj 2 x;have a5:=x.ky;refine qi uo Ty.AK a5 br ?_;refine qr (nr 0 Ty.FL rfl a5) ?_;refine qr (la 0 Ty.Be rfl x (by first|omega|rfl) rfl) ?_;refine q2 ?_;have aC:=b8;rw[jX d]at aC;obtain⟨bs,bE⟩:=iD aC;obtain⟨bX,bz,y⟩:=(n.mono ((ad.trans Z).trans aJ)).el bE;obtain⟨cy,rfl,cb⟩:=bz;replace y:=qj 2 y;have a6:=y.ky;refine qi uo Ty.AK a6 bs ?_;refine qr (nr 0 Ty.FL rfl a6) ?_;refine qr (la 0 Ty.Be rfl (y.mono j.agree) (by first|omega|rfl) rfl) ?_;refine qr (iB rfl rfl SU) ?_;refine qc ?_;refine ku ?_;exact lW _ ⟨rfl,h,(gL.le.refl _),j⟩ ⟨rfl,rfl,rfl,rfl,(lZ rfl (by first|rfl|(rw[d];first|done|rfl)|simp[d])),trivial⟩
         ·refine rn ?_;refine q2 ?_;refine qr (jV uo rfl (j.kH (k:=0) rfl)) ?_;refine qr (iB rfl rfl qv) ?_;refine qc ?_;refine kC 53 d ?_;refine je ?_;refine je ?_;refine je ?_;refine je ?_;refine je ?_;refine qz ?_;refine qc ?_;refine ku ?_;exact lW _ ⟨rfl,h,(gL.le.refl _),j⟩ ⟨rfl,rfl,rfl,rfl,(lZ rfl (by first|rfl|(rw[d];first|done|rfl)|simp[d])),trivial⟩
        rintro E c9 ⟨rfl,p,bI,u⟩;refine nN ?_;refine qy H (λbf H=>?_) (λbf H=>?_)
        ·refine aq ?_;have aT:=u.lb jd.t;exact rx H (pk [0] aT)
        ·refine ay ?_;obtain⟨ci,bm,J,b9,H⟩:=iG H;obtain⟨cj,bn,ae,b0,H⟩:=iG H;obtain⟨ck,bo,H⟩:=iy H;refine nA (G:=p) [0,1,2,3,5,6,7,8,9,10,11,12,13,14,4,15,16,17,18,19] rfl Ty.mixed (by kernel_rfl) u.agree ?_;refine au ?_;refine sP 0 0 f rfl rfl rfl rfl uo Ty.AK rfl (.inl ⟨rfl,rfl⟩) (.inr ⟨_,_,rfl,rfl⟩) u rfl bm ?_;intro cp b5 cf;obtain⟨_,⟨cz,rfl,b4⟩,_⟩:=js 2 (n.mono (((ad.trans Z).trans aJ).trans bI)) b9;refine au ?_;have aU:=u.lb jd.t;refine aP 0 aU b5 bn ?_;intro c3 cA ai;refine ql (Ko ai.iH b4 b0) ?_;rintro I cE ⟨bV,_,rfl,a4⟩;have U:=ai.call a4;have bN:=a4.ext;refine jG.mW bN U.agree ?_;have bj:=(U.kH (k:=0) rfl).cells;refine qr (tJ (vs:=[(0,.s J.path),(1,I)]) (v:=.agg (jd.cells (jd.mk J.path ae) I)) Ty.Y2 rfl (by simp only[oS,bj];rfl)) ?_;obtain⟨bT,bJ,bk,ak⟩:=U.kh 0 [1,2] rfl (by decide) (by decide);refine A7 bJ ak.agree ?_;refine qx (kN (t:=jd.t) (vs:=[.agg (jd.cells (jd.mk J.path ae) I)]) (xs:=[(jd.mk J.path ae)]) uo Ty.Wn rfl ⟨⟨I,rfl,bk⟩,trivial⟩ rfl rfl ak) ?_;rintro cw cC S;refine qw S ?_;refine aP 1 S (S.mi (k:=0) rfl) bo ?_;intro c4 cD aj;obtain⟨cl,bp,bH,bq,H⟩:=iG H;refine ax ?_;refine sP 2 f (kW.length:Int) rfl rfl rfl rfl uo Ty.AK rfl (.inr ⟨_,_,rfl,rfl⟩) (.inl ⟨rfl,rfl⟩) aj rfl bp ?_;intro cq b6 cg;refine ap 1 aj b6 bq ?_;intro bO cF aX;refine ax ?_;exact nj ⟨bH,H,⟨_,bO,rfl,iI,pk [1] aX⟩⟩
      ·rintro E c6 ⟨Y,H,L,D,rfl,cm,aR⟩;refine ax ?_;exact nm H ⟨_,D,rfl,iI,aR⟩
     ·refine jf _ rfl ?_;exact nj ⟨kW,H,⟨_,a,rfl,iI,q⟩⟩
   ·rintro E w7 ⟨l8,H,Q,u9,rfl,co,aY⟩;exact rx H aY
def xZ.k1:Option Int :=
  some 0
def xZ.l2(x0:List jd)(e:Int→Option Int):Int→Option Int
  | a =>
    if decide (a<(x0.length:Int))then
      bd (ix x0 a) λx9 =>
      bd (uD x9.path) λb =>
      bd (only ((!(!b))&&decide (0<a)) (ix x0 a) (jd.mk [] [])) λc =>
      bd (only ((!(!b))&&decide (0<a)) (ix x0 (wr (a-1))) (jd.mk [] [])) λd =>
      if((!b)||(decide (0<a)&&(jt c.path d.path||c.path==d.path)))then
        some 1
      else
        e (wr (a+1))
    else
      xZ.k1
def xZ(x0:List jd):Option Int :=
  bd (wW x0) λa =>
  if a then
    some 2
  else
    loop (xZ.l2 x0) 0
theorem ZP{x0:List jd}{r:Int}{f:gE}(hA:Gd F w)(a:iq jd.t F f x0)(H:xZ x0=some r):iN il K 115 [f] w λv w'=>∃(F':gL),v = .i .i64 r∧St [] w F F' [] w':=by
 refine lg Tryz.func115 ?_;have hS:=St.start hA;obtain⟨D,m,H⟩:=iy H;refine ay ?_;refine lp (Tp hS.iH a m) hS ?_;intro M c;refine qn ?_;refine qy H (λj H=>?_) (λj H=>?_)
 ·exact rz H c
 ·refine qk ?_;refine iL (jN (xZ.k1=some r) [] c) ?_ ?_
  ·refine ax ?_;refine lj c (λs:Int=>[(0,f),(3,.i .i64 s)]) H ?_;intro I A x P q b H;refine ay ?_;refine qy H (λl H=>?_) (λl H=>?_)
   ·refine ay ?_;obtain⟨x9,p,G,n,H⟩:=iG H;obtain⟨Q,d,R,e,H⟩:=iG H;refine rf b ?_;obtain⟨_,⟨J,rfl,z⟩,y⟩:=js 2 (a.mono q) p;refine au ?_;refine lq (HA b.iH n) b ?_;intro L g;refine aw ?_;refine oU (mo a) d ?_;refine oU (mo a) d ?_;refine oU (mo a) d ?_;refine aw ?_;refine oU (mo a) e ?_;refine oU (mo a) e ?_;refine oU (mo a) e ?_;refine aw ?_;refine qy H (λk H=>?_) (λk H=>?_)
    ·exact rz H g
    ·refine ax ?_;exact nm H (jj g)
   ·refine jf _ rfl ?_;exact nj ⟨H,jj b⟩
  ·rintro E O ⟨H,u,rfl,B,h⟩;exact rz H h
def xY.k1(x0:List UInt8):Option Int :=
  some (x0.length:Int)
def xY.l2(x0:List UInt8)(c:(UInt32×Int)→Option Int):(UInt32×Int)→Option Int
  | (b,a) =>
    if decide (a<(x0.length:Int))then
      bd (ix x0 a) λx7 =>
      if((decide (8≤wr (a+1))&&decide (((((b*(2:UInt32))+((x7.toUInt32+(1:UInt32))*(2654435761:UInt32))) >>> kQ 28).toNat:Int)=0))||decide (wr (a+1)=64))then
        some (wr (a+1))
      else
        c (((b*(2:UInt32))+((x7.toUInt32+(1:UInt32))*(2654435761:UInt32))),wr (a+1))
    else
      xY.k1 x0
def xY(x0:List UInt8):Option Int :=
  loop (xY.l2 x0) ((0:UInt32),0)
theorem ZN{x0:List UInt8}{r:Int}{a:gE}(hA:Gd F w)(e:iq tB F a x0)(H:xY x0=some r):iN il K 155 [a] w λv w'=>∃(F':gL),v = .i .i64 r∧St [] w F F' [] w':=by
 refine lg Tryz.func155 ?_;have hS:=St.start hA;refine aq ?_;refine aq ?_;refine iL (jN (xY.k1 x0=some r) [(0,a)] hS) ?_ ?_
 ·refine ax ?_;refine jH (λ(s:UInt32×Int) E wq=>∃(b:gL),E=[(0,a),(3,.i .u32 (s.1.toNat:Int)),(4,.i .i64 s.2)]∧F.le b∧mq hS b wq) H ?_ ?_
  ·exact lo (jj hS)
  ·rintro q ⟨d,n⟩ E x hI H
   try dsimp only at hI
   obtain⟨b,rfl,l,c⟩:=hI;refine ay ?_;refine qy H (λj H=>?_) (λj H=>?_)
   ·obtain⟨x7,k,H⟩:=iy H;refine ay ?_;refine qr (iB rfl rfl (congrArg (λz=>some (gE.i .u32 z)) (Xm d (2:UInt32)))) ?_;obtain⟨_,rfl,_⟩:=js 1 (e.mono l) k;refine au ?_;refine qr (ml p7 EK rfl (Xp _)) ?_;refine qr (iB rfl rfl (congrArg (λz=>some (gE.i .u32 z)) (qH x7.toUInt32 (1:UInt32)))) ?_;refine qr (iB rfl rfl (congrArg (λz=>some (gE.i .u32 z)) (Xm (x7.toUInt32+(1:UInt32)) (2654435761:UInt32)))) ?_;refine qr (iB rfl rfl (congrArg (λz=>some (gE.i .u32 z)) (qH (d*(2:UInt32)) ((x7.toUInt32+(1:UInt32))*(2654435761:UInt32))))) ?_;refine az ?_;refine nO (v:=.i .u32 ((((d*(2:UInt32))+((x7.toUInt32+(1:UInt32))*(2654435761:UInt32))) >>> kQ 28).toNat:Int)) rfl rfl rfl rfl (λ⟨g,_⟩=>?_) ?_
    ·rw[g];exact(qr (iB rfl rfl ((vh (by decide) (by decide)).trans (congrArg (λz=>some (gE.i .u32 z)) (Jk _ _ 28 rfl (by decide))))) ·)
    refine aw ?_;refine qy H (λh H=>?_) (λh H=>?_)
    ·exact rz H c
    ·refine ax ?_;exact nm H (jj c)
   ·refine jf _ rfl ?_;exact nj ⟨H,jj c⟩
 ·rintro E u ⟨H,m,rfl,p,f⟩;exact rz H f
def yQ.k1(l2:List (List UInt8)):Option (List (List UInt8)) :=
  some l2
def yQ.l2(f:((List UInt8)×(List (List UInt8)))→Option (List (List UInt8))):((List UInt8)×(List (List UInt8)))→Option (List (List UInt8))
  | (l6,l9) =>
    if decide (0<(l6.length:Int))then
      bd (xY l6) λa =>
      bd (cut (α:=UInt8) l6 0 a) λb =>
      bd (Cr b) λe =>
      bd (app (α:=(List UInt8)) l9 [e]) λc =>
      bd (cut (α:=UInt8) l6 a (l6.length:Int)) λd =>
      f (d,c)
    else
      yQ.k1 l9
def yQ(x0:List UInt8):Option (List (List UInt8)) :=
  loop (yQ.l2) (x0,[])
theorem ZM{x0:List UInt8}{r:(List (List UInt8))}{h:gE}(hA:Gd F w)(q:iq tB F h x0)(H:yQ x0=some r):iN il K 116 [h] w λv w'=>∃(F':gL)(n:gE),v=n∧St [] w F F' [.row (o6 tB) n (r)] w':=by
 refine lg Tryz.func116 ?_;have hS:=St.start hA;refine aq ?_;refine aq ?_;refine iL (λE wq=>∃l2:List (List UInt8),yQ.k1 l2=some r ∧ ∃(c:gL)(f:gE),E=[(3,f)]∧F.le c∧iW hS [.row (o6 tB) f l2] c wq) ?_ ?_
 ·refine qZ ?_;refine jH (λ(s:(List UInt8)×(List (List UInt8))) E wq=>∃(a:gL)(g:gE)(b:gE),E=[(0,g),(3,b)]∧F.le a∧iq tB a g s.1∧iW hS [.row (o6 tB) b s.2] a wq) H ?_ ?_
  ·have A:=hS.lb (o6 tB);exact lo ⟨F,h,(.sl none 0 (.k 0)),rfl,(gL.le.refl _),q,A⟩
  ·rintro ak ⟨l6,l9⟩ E w5 hI H
   try dsimp only at hI
   obtain⟨a,g,b,rfl,ah,e,d⟩:=hI;refine ay ?_;refine qy H (λB H=>?_) (λB H=>?_)
   ·obtain⟨p,J,H⟩:=iy H;refine ax ?_;refine lp (ZN d.iH e J) d ?_;intro a4 i;obtain⟨X,D,Q,L,H⟩:=iG H;obtain⟨Y,G,H⟩:=iy H;refine ax ?_;refine wO 0 p rfl rfl rfl rfl lL Ty.pD rfl (.inl ⟨rfl,rfl⟩) (.inr ⟨_,_,rfl,rfl⟩) e D ?_;intro aj M;refine lm (Ko i.iH M L) ?_;rintro R a7 ⟨V,_,rfl,l⟩;have y:=i.call l;have ai:=l.ext;obtain⟨U,ae,m,z⟩:=y.kh 0 [1] rfl (by decide) (by decide);refine xm (kN (t:=(o6 tB)) (vs:=[R]) (xs:=[Q]) Tryz.underlying95 Ty.LZ rfl (by simp only[List.map_cons,List.map_nil,m.ln.cells];exact⟨⟨_,rfl,m⟩,trivial⟩) rfl rfl z) ?_;rintro am a5 j;refine ap 1 j (j.mi (k:=0) rfl) G ?_;intro S a6 x;obtain⟨Z,I,H⟩:=iy H;refine ax ?_;refine wO p (l6.length:Int) rfl rfl rfl rfl lL Ty.pD rfl (.inr ⟨_,_,rfl,rfl⟩) (.inl ⟨rfl,rfl⟩) e I ?_;intro P O;refine ax ?_;exact nm H ⟨_,P,S,rfl,iI,(mo O),pk [1] x⟩
   ·refine jf _ rfl ?_;exact nj ⟨l9,H,⟨_,b,rfl,iI,d⟩⟩
 ·rintro E w1 ⟨l2,H,c,f,rfl,ad,u⟩;exact rx H u
def NN:Option (List UInt32) :=
  some ([1116352408,1899447441,3049323471,3921009573,961987163,1508970993,2453635748,2870763221,3624381080,310598401,607225278,1426881987,1925078388,2162078206,2614888103,3248222580,3835390401,4022224774,264347078,604807628,770255983,1249150122,1555081692,1996064986,2554220882,2821834349,2952996808,3210313671,3336571891,3584528711,113926993,338241895,666307205,773529912,1294757372,1396182291,1695183700,1986661051,2177026350,2456956037,2730485921,2820302411,3259730800,3345764771,3516065817,3600352804,4094571909,275423344,430227734,506948616,659060556,883997877,958139571,1322822218,1537002063,1747873779,1955562222,2024104815,2227730452,2361852424,2428436474,2756734187,3204031479,3329325298]:List UInt32)
theorem ZQ{r:(List UInt32)}(hA:Gd F w)(H:NN=some r):iN il K 104 [] w λv w'=>∃(F':gL),v = .agg (jL 64 cW 0 r)∧(r).length=64∧St [] w F F' [] w':=by
 refine Dz (args:=[]) Tryz.func104 rfl (by decide) rfl ?_;change C _ _ _ _ _ [] _;have hS:=St.start hA;refine qs ?_;refine xm (o9 (cs:=jL 64 cW 0 (iV 64 (0:UInt32))) Ty.Mq rfl hS) ?_;rintro _ d ⟨b,rfl,c⟩;refine ax ?_;refine qr (Hk (vs:=nW 0 ([1116352408,1899447441,3049323471,3921009573,961987163,1508970993,2453635748,2870763221,3624381080,310598401,607225278,1426881987,1925078388,2162078206,2614888103,3248222580,3835390401,4022224774,264347078,604807628,770255983,1249150122,1555081692,1996064986,2554220882,2821834349,2952996808,3210313671,3336571891,3584528711,113926993,338241895,666307205,773529912,1294757372,1396182291,1695183700,1986661051,2177026350,2456956037,2730485921,2820302411,3259730800,3345764771,3516065817,3600352804,4094571909,275423344,430227734,506948616,659060556,883997877,958139571,1322822218,1537002063,1747873779,1955562222,2024104815,2227730452,2361852424,2428436474,2756734187,3204031479,3329325298]:List UInt32)) (v:=.agg (jL 64 cW 0 ([1116352408,1899447441,3049323471,3921009573,961987163,1508970993,2453635748,2870763221,3624381080,310598401,607225278,1426881987,1925078388,2162078206,2614888103,3248222580,3835390401,4022224774,264347078,604807628,770255983,1249150122,1555081692,1996064986,2554220882,2821834349,2952996808,3210313671,3336571891,3584528711,113926993,338241895,666307205,773529912,1294757372,1396182291,1695183700,1986661051,2177026350,2456956037,2730485921,2820302411,3259730800,3345764771,3516065817,3600352804,4094571909,275423344,430227734,506948616,659060556,883997877,958139571,1322822218,1537002063,1747873779,1955562222,2024104815,2227730452,2361852424,2428436474,2756734187,3204031479,3329325298]:List UInt32))) Ty.Y7 rfl rfl) ?_
 refine sb 0 (jL 64 cW 0 ([1116352408,1899447441,3049323471,3921009573,961987163,1508970993,2453635748,2870763221,3624381080,310598401,607225278,1426881987,1925078388,2162078206,2614888103,3248222580,3835390401,4022224774,264347078,604807628,770255983,1249150122,1555081692,1996064986,2554220882,2821834349,2952996808,3210313671,3336571891,3584528711,113926993,338241895,666307205,773529912,1294757372,1396182291,1695183700,1986661051,2177026350,2456956037,2730485921,2820302411,3259730800,3345764771,3516065817,3600352804,4094571909,275423344,430227734,506948616,659060556,883997877,958139571,1322822218,1537002063,1747873779,1955562222,2024104815,2227730452,2361852424,2428436474,2756734187,3204031479,3329325298]:List UInt32)) ?_;intro e a;refine qn ?_;obtain rfl:=oi H;refine oH (vs:=[.agg (jL 64 cW 0 ([1116352408,1899447441,3049323471,3921009573,961987163,1508970993,2453635748,2870763221,3624381080,310598401,607225278,1426881987,1925078388,2162078206,2614888103,3248222580,3835390401,4022224774,264347078,604807628,770255983,1249150122,1555081692,1996064986,2554220882,2821834349,2952996808,3210313671,3336571891,3584528711,113926993,338241895,666307205,773529912,1294757372,1396182291,1695183700,1986661051,2177026350,2456956037,2730485921,2820302411,3259730800,3345764771,3516065817,3600352804,4094571909,275423344,430227734,506948616,659060556,883997877,958139571,1322822218,1537002063,1747873779,1955562222,2024104815,2227730452,2361852424,2428436474,2756734187,3204031479,3329325298]:List UInt32))]) rfl ⟨(oJ 0 Ty.SI Ty.WU a rfl rfl),trivial⟩ ?_
 exact⟨F,rfl,rfl,a.pick [] (by decide)⟩
def rI.k2(lx:List UInt8):Option (List UInt8) :=
  some lx
def rI.l3(x0:List UInt8)(d:(Int×(List UInt8))→Option (List UInt8)):(Int×(List UInt8))→Option (List UInt8)
  | (a,b) =>
    if decide (0≤a)then
      bd (GF (wu (wu (x0.length:Int)*8)) (wu (8*wu a))) λe =>
      bd (app (α:=UInt8) b [(jC e)]) λc =>
      d (wr (a-1),c)
    else
      rI.k2 b
def rI.k1(x0:List UInt8)(l8:List UInt8):Option (List UInt8) :=
  loop (rI.l3 x0) (7,l8)
def rI.l4(x0:List UInt8)(c:(List UInt8)→Option (List UInt8)):(List UInt8)→Option (List UInt8)
  | a =>
    if decide ((wr ((a.length:Int)+8)).tmod 64≠0)then
      bd (app (α:=UInt8) a [(0:UInt8)]) λb =>
      c b
    else
      rI.k1 x0 a
def rI(x0:List UInt8):Option (List UInt8) :=
  bd (app (α:=UInt8) [] x0) λa =>
  bd (app (α:=UInt8) a [(128:UInt8)]) λl4 =>
  loop (rI.l4 x0) l4
theorem ZR{x0:List UInt8}{r:(List UInt8)}{e:gE}(hA:Gd F w)(B:iq tB F e x0)(H:rI x0=some r):iN il K 105 [e] w λv w'=>∃(F':gL)(z:gE),v=z∧St [] w F F' [.row tB z (r)] w':=by
 refine lg Tryz.func105 ?_;have hS:=St.start hA;obtain⟨l1,O,l4,R,H⟩:=iG H;refine ax ?_;have y:=hS.lb tB;refine ap 0 y (B.src y.agree) O ?_;intro v2 w2 G;refine xm (kN (t:=tB) (vs:=[.i .u8 ((128:UInt8).toNat:Int)]) (xs:=[(128:UInt8)]) lL Ty.qD rfl ⟨rfl,trivial⟩ rfl rfl G) ?_;rintro u3 w3 x;refine ap 1 x (x.mi (k:=0) rfl) R ?_;intro v5 w5 l;refine au ?_;refine iL (λE wq=>∃l8:List UInt8,rI.k1 x0 l8=some r ∧ ∃(a:gL)(d:gE),E=[(0,e),(3,d)]∧F.le a∧iW l [.row tB d l8] a wq) ?_ ?_
 ·refine qZ ?_;refine jH (λ(s:(List UInt8)) E wq=>∃(h:gL)(c:gE),E=[(0,e),(3,c)]∧F.le h∧iW l [.row tB c s] h wq) H ?_ ?_
  ·exact lo ⟨_,v5,rfl,iI,pk [1] l⟩
  ·rintro a8 Z E aU hI H
   try dsimp only at hI
   obtain⟨h,c,rfl,a5,j⟩:=hI;refine ay ?_;refine qr (jV lL rfl (j.kH (k:=0) rfl)) ?_;refine qc ?_;refine qr (iB rfl rfl (by first|rfl|simp[kJ,tX])) ?_;refine au ?_;refine qy H (λM H=>?_) (λM H=>?_)
   ·obtain⟨am,Q,H⟩:=iy H;refine ax ?_;refine xm (kN (t:=tB) (vs:=[.i .u8 ((0:UInt8).toNat:Int)]) (xs:=[(0:UInt8)]) lL Ty.qD rfl ⟨rfl,trivial⟩ rfl rfl j) ?_;rintro aC aV u;refine ap 1 u (u.mi (k:=0) rfl) Q ?_;intro ae aY J;refine ax ?_;exact nm H ⟨_,ae,rfl,iI,pk [1] J⟩
   ·refine jf _ rfl ?_;exact nj ⟨Z,H,⟨_,c,rfl,iI,j⟩⟩
 ·rintro E w7 ⟨l8,H,a,d,rfl,a6,m⟩;refine aq ?_;refine qr (ml mH Di rfl (rfl)) ?_;refine au ?_;refine iL (λE wq=>∃lx:List UInt8,rI.k2 lx=some r ∧ ∃(f:gL)(n:gE),E=[(3,n)]∧a.le f∧iW m [.row tB n lx] f wq) ?_ ?_
  ·refine ax ?_;refine jH (λ(s:Int×(List UInt8)) E wq=>∃(g:gL)(b:gE),E=[(3,b),(4,.i .u64 (wu (wu (x0.length:Int)*8))),(5,.i .i64 s.1)]∧a.le g∧iW m [.row tB b s.2] g wq) H ?_ ?_
   ·exact lo ⟨_,d,rfl,iI,m⟩
   ·rintro a7 ⟨ai,Y⟩ E aK hI H
    try dsimp only at hI
    obtain⟨g,b,rfl,a4,p⟩:=hI;refine ay ?_;refine qy H (λL H=>?_) (λL H=>?_)
    ·obtain⟨A,V,ak,P,H⟩:=iG H;refine ay ?_;refine qr (ml mH p9 rfl (rfl)) ?_;refine qc ?_;obtain⟨X,S,U⟩:=WB V;refine qr (iB rfl rfl (by rw[vh X S,←U])) ?_;refine qr (ml Di p7 rfl (yj _)) ?_;refine xm (kN (t:=tB) (vs:=[.i .u8 ((jC A).toNat:Int)]) (xs:=[(jC A)]) lL Ty.qD rfl ⟨rfl,trivial⟩ rfl rfl p) ?_;rintro a9 aR q;refine ap 1 q (q.mi (k:=0) rfl) P ?_;intro ad aT I;refine ax ?_;exact nm H ⟨_,ad,rfl,iI,pk [1] I⟩
    ·refine jf _ rfl ?_;exact nj ⟨Y,H,⟨_,b,rfl,iI,p⟩⟩
  ·rintro E aJ ⟨lx,H,f,n,rfl,ar,D⟩;exact rx H D
def rJ(x0:UInt32)(x1:Int):Option UInt32 :=
  bd (C3 x0 x1) λx2 =>
  bd (L7 x0 (wu (32-x1))) λx3 =>
  some (x2 ||| x3)
theorem Ab{x0:UInt32}{x1:Int}{r:UInt32}(hA:Gd F w)(H:rJ x0 x1=some r):iN il K 106 [.i .u32 (x0.toNat:Int),.i .u64 x1] w λv w'=>∃(F':gL),v = .i .u32 (r.toNat:Int)∧St [] w F F' [] w':=by
 refine kB Tryz.func106 ?_;have hS:=St.start hA;obtain⟨x2,a,x3,b,H⟩:=iG H;refine ax ?_;refine qr (iB rfl rfl (J6 a)) ?_;refine au ?_;refine qr (iB rfl rfl (SX b)) ?_;refine qr (iB rfl rfl ((mR (.inr (.inl rfl))).trans (congrArg (λz=>some (gE.i .u32 z)) (Go.Wk.u32_or x2 x3)))) ?_;exact rz H hS
def jW.k2(a:List UInt8):Option (List UInt8) :=
  some a
def jW.l3(d:List UInt32)(c:(Int×(List UInt8))→Option (List UInt8)):(Int×(List UInt8))→Option (List UInt8)
  | (a,b) =>
    if decide (a<32)then
      bd (ix d (wr (a.tdiv 4))) λe =>
      bd (C3 e (wu (wr (24-wr (8*a.tmod 4))))) λf =>
      bd (ix b a) λg =>
      c (wr (a+1),(b.set a.toNat f.toUInt8))
    else
      jW.k2 b
def jW.k1(a:List UInt32):Option (List UInt8) :=
  loop (jW.l3 a) (0,(iV 32 (0:UInt8)))
def jW.k5(a:Int)(b:(Int×(List UInt32))→Option (List UInt8))(c:List UInt32):Option (List UInt8) :=
  b (wr (a+64),c)
def jW.l8(c:Int)(d:(Int×(List UInt32))→Option (List UInt8))(f:List UInt32)(e:(Int×(List UInt32))→Option (List UInt8)):(Int×(List UInt32))→Option (List UInt8)
  | (a,b) =>
    if decide (a<8)then
      bd (ix b a) λg =>
      bd (ix f a) λh =>
      bd (ix b a) λi =>
      e (wr (a+1),(b.set a.toNat (g+h)))
    else
      jW.k5 c d b
def jW.k7(a:Int)(c:List UInt32)(b:(Int×(List UInt32))→Option (List UInt8))(d:List UInt32):Option (List UInt8) :=
  loop (jW.l8 a b d) (0,c)
def jW.l9(r:(List UInt32))(m:Int)(v:List UInt32)(s:(Int×(List UInt32))→Option (List UInt8))(x:List UInt32)(u:(Int×(List UInt32))→Option (List UInt8)):(Int×(List UInt32))→Option (List UInt8)
  | (d,a) =>
    if decide (d<64)then
      bd (ix a 0) λc =>
      bd (ix a 4) λb =>
      bd (ix a 7) λh =>
      bd (ix a 5) λi =>
      bd (ix a 6) λj =>
      bd (ix r d) λk =>
      bd (ix x d) λl =>
      bd (rJ b 6) λe =>
      bd (rJ b 11) λf =>
      bd (rJ b 25) λg =>
      bd (ix a 1) λy =>
      bd (ix a 2) λz =>
      bd (ix a 1) λA =>
      bd (ix a 2) λB =>
      bd (rJ c 2) λn =>
      bd (rJ c 13) λp =>
      bd (rJ c 22) λq =>
      bd (ix a 0) λD =>
      bd (ix a 1) λG =>
      bd (ix a 2) λI =>
      bd (ix a 3) λJ =>
      bd (ix a 4) λL =>
      bd (ix a 5) λM =>
      bd (ix a 6) λO =>
      u (wr (d+1),([(((((h+((e ^^^f) ^^^g))+((b &&& i) ^^^((~~~b) &&& j)))+k)+l)+(((n ^^^p) ^^^q)+(((c &&& y) ^^^(c &&& z)) ^^^(A &&& B)))),D,G,I,(J+((((h+((e ^^^f) ^^^g))+((b &&& i) ^^^((~~~b) &&& j)))+k)+l)),L,M,O]:List UInt32))
    else
      jW.k7 m v s a
def jW.k6(c:(List UInt32))(b:Int)(a:List UInt32)(d:(Int×(List UInt32))→Option (List UInt8))(e:List UInt32):Option (List UInt8) :=
  loop (jW.l9 c b a d e) (0,a)
def jW.sy(a:Int)(b:(Int×(List UInt32))→Option (List UInt8))(c:List UInt32):Option (List UInt8) :=
  b (wr (a+1),c)
def jW.BK(a:Int)(b:List UInt32)(i:(Int×(List UInt32))→Option (List UInt8)):Option (List UInt8) :=
  bd (ix b (wr (a-15))) λc =>
  bd (ix b (wr (a-2))) λd =>
  bd (ix b (wr (a-16))) λj =>
  bd (ix b (wr (a-7))) λk =>
  bd (rJ c 7) λe =>
  bd (rJ c 18) λf =>
  bd (rJ d 17) λg =>
  bd (rJ d 19) λh =>
  bd (ix b a) λl =>
  jW.sy a i (b.set a.toNat (((j+k)+((e ^^^f) ^^^(c >>> kQ 3)))+((g ^^^h) ^^^(d >>> kQ 10))))
def jW.BM(a:Int)(b:(Int×(List UInt32))→Option (List UInt8))(c:List UInt32):Option (List UInt8) :=
  jW.sy a b c
def jW.nw(e:(List UInt8))(d:Int)(a:Int)(f:(Int×(List UInt32))→Option (List UInt8))(g:(Int×(List UInt32))→Option (List UInt8)):(Int×(List UInt32))→Option (List UInt8)
  | (c,b) =>
    if decide (c<4)then
      bd (ix b a) λh =>
      bd (ix e (wr (wr (d+wr (4*a))+c))) λi =>
      bd (ix b a) λj =>
      g (wr (c+1),(b.set a.toNat ((h <<< kQ 8) ||| i.toUInt32)))
    else
      jW.BM a f b
def jW.mc(e:(List UInt32))(f:(List UInt8))(c:Int)(h:List UInt32)(g:(Int×(List UInt32))→Option (List UInt8))(d:(Int×(List UInt32))→Option (List UInt8)):(Int×(List UInt32))→Option (List UInt8)
  | (a,b) =>
    if decide (a<64)then
      if decide (a<16)then
        loop (jW.nw f c a d) (0,b)
      else
        jW.BK a b d
    else
      jW.k6 e c h g b
def jW.l4(d:(List UInt32))(b:(List UInt8))(e:(Int×(List UInt32))→Option (List UInt8)):(Int×(List UInt32))→Option (List UInt8)
  | (a,c) =>
    if decide (a<(b.length:Int))then
      loop (jW.mc d b a c e) (0,(iV 64 (0:UInt32)))
    else
      jW.k1 c
def jW(x0:List UInt8):Option (List UInt8) :=
  bd (NN) λa =>
  bd (rI x0) λb =>
  loop (jW.l4 a b) (0,([1779033703,3144134277,1013904242,2773480762,1359893119,2600822924,528734635,1541459225]:List UInt32))
set_option maxHeartbeats 2000000 in
theorem Tn{x0:List UInt8}{r:(List UInt8)}{v0:gE}(hA:Gd F w)(h0:iq tB F v0 x0)(H:jW x0=some r):iN il K 47 [v0] w λv w'=>∃(F':gL),v = .agg (iJ r)∧(r).length=32∧St [] w F F' [] w':=by
 refine lg Tryz.func47 ?_;have hS:=St.start hA;refine qs ?_;refine xm (o9 (cs:=iJ (iV 32 (0:UInt8))) Ty.B2 rfl hS) ?_;rintro _ w1 ⟨b,rfl,bO⟩;obtain⟨J,dM,H⟩:=iy H;refine ax ?_;refine lm (ZQ bO.iH dM) ?_;rintro v4 w4 ⟨fd,rfl,ca,bV⟩;have cJ:=bO.call bV;have f1:=bV.ext;refine xm (o9 (cs:=jL 64 cW 0 (iV 64 (0:UInt32))) Ty.Mq rfl cJ) ?_;rintro _ w3 ⟨f,rfl,fi⟩;refine sb 0 (jL 64 cW 0 J) ?_;intro w5 cL;refine ax ?_;refine qr (Hk (vs:=nW 0 ([1779033703,3144134277,1013904242,2773480762,1359893119,2600822924,528734635,1541459225]:List UInt32)) (v:=.agg (jL 8 cW 0 ([1779033703,3144134277,1013904242,2773480762,1359893119,2600822924,528734635,1541459225]:List UInt32))) Ty.J8 rfl rfl) ?_;refine xm (o9 (cs:=jL 8 cW 0 (iV 8 (0:UInt32))) Ty.Mr rfl cL) ?_;rintro _ w6 ⟨e,rfl,fk⟩;refine sb 0 (jL 8 cW 0 ([1779033703,3144134277,1013904242,2773480762,1359893119,2600822924,528734635,1541459225]:List UInt32)) ?_;intro w7 bU;obtain⟨P,dN,H⟩:=iy H;refine ax ?_;refine lm (ZR bU.iH (mo h0) dN) ?_;rintro g w9 ⟨bN,_,rfl,bW⟩;have b7:=bU.call bW;have f2:=bW.ext;refine au ?_;refine iL (λE wq=>∃aV:List UInt32,jW.k1 aV=some r ∧ ∃(aH:gL),E=[(2,pl b 0),(4,pl e 0)]∧bN.le aH∧(aV).length=8∧iW b7 [.box e (jL 8 cW 0 aV),.box b (iJ (iV 32 (0:UInt8)))] aH wq) ?_ ?_
 ·refine ax ?_;refine jH (λ(s:Int×(List UInt32)) E wq=>∃(a6:gL),E=[(2,pl b 0),(3,pl f 0),(4,pl e 0),(5,g),(6,.i .i64 s.1)]∧bN.le a6∧(s.2).length=8∧iW b7 [.row tB g P,.box e (jL 8 cW 0 s.2),.box f (jL 64 cW 0 J),.box b (iJ (iV 32 (0:UInt8)))] a6 wq) H ?_ ?_
  ·exact lo ⟨_,rfl,iI,rfl,b7⟩
  ·rintro bE ⟨y,M⟩ E gf hI H
   try dsimp only at hI
   obtain⟨a6,rfl,fv,b8,bm⟩:=hI;refine ay ?_;refine qr (jV lL rfl (bm.kH (k:=0) rfl)) ?_;refine au ?_;refine qy H (λdb H=>?_) (λdb H=>?_)
   ·refine qk ?_;refine iL (λE wq=>∃bp:List UInt32,jW.k5 y bE bp=some r ∧ ∃(bu:gL),E=[(2,pl b 0),(3,pl f 0),(4,pl e 0),(5,g),(6,.i .i64 y)]∧a6.le bu∧(bp).length=8∧iW bm [.row tB g P,.box e (jL 8 cW 0 bp),.box f (jL 64 cW 0 J),.box b (iJ (iV 32 (0:UInt8)))] bu wq) ?_ ?_
    ·refine ax ?_;refine xm (o9 (cs:=jL 64 cW 0 (iV 64 (0:UInt32))) Ty.Mq rfl bm) ?_;rintro _ gi ⟨l,rfl,b5⟩;refine qn ?_;refine iL (λE wq=>∃aY:List UInt32,jW.k6 J y M bE aY=some r ∧ ∃(aJ:gL),E=[(2,pl b 0),(3,pl f 0),(4,pl e 0),(5,g),(6,.i .i64 y),(7,pl l 0)]∧a6.le aJ∧(aY).length=64∧iW b5 [.box l (jL 64 cW 0 aY),.row tB g P,.box e (jL 8 cW 0 M),.box f (jL 64 cW 0 J),.box b (iJ (iV 32 (0:UInt8)))] aJ wq) ?_ ?_
     ·refine ax ?_;refine jH (λ(s:Int×(List UInt32)) E wq=>∃(a5:gL),E=[(2,pl b 0),(3,pl f 0),(4,pl e 0),(5,g),(6,.i .i64 y),(7,pl l 0),(8,.i .i64 s.1)]∧a6.le a5∧(s.2).length=64∧iW b5 [.box l (jL 64 cW 0 s.2),.row tB g P,.box e (jL 8 cW 0 M),.box f (jL 64 cW 0 J),.box b (iJ (iV 32 (0:UInt8)))] a5 wq) H ?_ ?_
      ·exact lo ⟨_,rfl,iI,(vL),b5⟩
      ·rintro bD ⟨O,bn⟩ E fQ hI H
       try dsimp only at hI
       obtain⟨a5,rfl,fp,n,aj⟩:=hI;refine ay ?_;refine qy H (λcX H=>?_) (λcX H=>?_)
       ·refine qk ?_;refine iL (λE wq=>∃bo:List UInt32,jW.sy O bD bo=some r ∧ ∃(bs:gL),E=[(2,pl b 0),(3,pl f 0),(4,pl e 0),(5,g),(6,.i .i64 y),(7,pl l 0),(8,.i .i64 O)]∧a5.le bs∧(bo).length=64∧iW aj [.box l (jL 64 cW 0 bo),.row tB g P,.box e (jL 8 cW 0 M),.box f (jL 64 cW 0 J),.box b (iJ (iV 32 (0:UInt8)))] bs wq) ?_ ?_
        ·refine qZ ?_;refine iL (jN (jW.BK O bn bD=some r) [(2,pl b 0),(3,pl f 0),(4,pl e 0),(5,g),(6,.i .i64 y),(7,pl l 0),(8,.i .i64 O)] aj) ?_ ?_
         ·refine aq ?_;refine qy H (λcY H=>?_) (λcY H=>?_)
          ·refine iL (λE wq=>∃aX:List UInt32,jW.BM O bD aX=some r ∧ ∃(bt:gL),E=[(2,pl b 0),(3,pl f 0),(4,pl e 0),(5,g),(6,.i .i64 y),(7,pl l 0),(8,.i .i64 O)]∧a5.le bt∧(aX).length=64∧iW aj [.box l (jL 64 cW 0 aX),.row tB g P,.box e (jL 8 cW 0 M),.box f (jL 64 cW 0 J),.box b (iJ (iV 32 (0:UInt8)))] bt wq) ?_ ?_
           ·refine ax ?_;refine jH (λ(s:Int×(List UInt32)) E wq=>∃(bg:gL),E=[(2,pl b 0),(3,pl f 0),(4,pl e 0),(5,g),(6,.i .i64 y),(7,pl l 0),(8,.i .i64 O),(9,.i .i64 s.1)]∧a5.le bg∧(s.2).length=64∧iW aj [.box l (jL 64 cW 0 s.2),.row tB g P,.box e (jL 8 cW 0 M),.box f (jL 64 cW 0 J),.box b (iJ (iV 32 (0:UInt8)))] bg wq) H ?_ ?_
            ·exact lo ⟨_,rfl,iI,n,aj⟩
            ·rintro f3 ⟨fl,c3⟩ E fZ hI H
             try dsimp only at hI
             obtain⟨bg,rfl,ft,ad,aO⟩:=hI;refine ay ?_;refine qy H (λcZ H=>?_) (λcZ H=>?_)
             ·refine ay ?_;obtain⟨c7,cq,c8,dS,H⟩:=iG H;obtain⟨gx,dT,H⟩:=iy H;refine rf aO ?_;refine au ?_;obtain⟨d1,e3⟩:=iD cq;refine qr (kD uY Ty.kM rfl rfl d1 (jZ ad e3)) ?_;obtain⟨_,e4⟩:=iD cq;refine qq (lN 0 Ty.lO rfl aO rfl (by rw[jn];exact lR ad e4)) ?_;refine qr (iB rfl rfl ((Hr (by decide) (by decide)).trans (congrArg (λz=>some (gE.i .u32 z)) (aim _ _ 8 rfl (by decide))))) ?_;obtain⟨_,rfl,de⟩:=mw 1 1 aO dS;refine au ?_;refine qq (la 0 Ty.Aa rfl de (by first|omega|rfl) rfl) ?_;refine qr (ml p7 EK rfl (Xp _)) ?_;refine qr (iB rfl rfl ((mR (.inr (.inl rfl))).trans (congrArg (λz=>some (gE.i .u32 z)) (Go.Wk.u32_or (c7 <<< kQ 8) c8.toUInt32)))) ?_;obtain⟨d2,bA⟩:=iD dT;refine qr (kD uY Ty.kM rfl rfl d2 (jZ ad bA)) ?_;refine qu (Ce (cs':=jL 64 cW 0 (c3.set O.toNat ((c7 <<< kQ 8) ||| c8.toUInt32))) 0 rfl rfl aO rfl rfl Ty.kM (by rw[Ft,jn];exact(jZ ad bA)) (DF ad (jZ ad bA) _)) ?_;rintro _ gb bR;refine qw bR ?_;refine ax ?_;exact nm H ⟨bg,rfl,iI,(by rw[AV];exact ad),bR⟩
             ·refine jf _ rfl ?_;exact nj ⟨c3,H,⟨_,rfl,iI,ad,aO⟩⟩
           ·rintro E fY ⟨aX,H,bt,rfl,fs,dh,cG⟩;refine jf _ rfl ?_;exact nj ⟨aX,H,⟨_,rfl,iI,dh,cG⟩⟩
          ·refine s6 ?_;exact nj ⟨H,jj aj⟩
         ·rintro E eS ⟨H,bM,rfl,fr,R⟩;refine kr ?_;obtain⟨bb,cm,br,cn,H⟩:=iG H;refine rn ?_;refine au ?_;obtain⟨dw,ev⟩:=iD cm;refine qr (kD uY Ty.kM rfl rfl dw (jZ n ev)) ?_;obtain⟨_,ew⟩:=iD cm;refine qr (lN 0 Ty.lO rfl R rfl (by rw[jn];exact lR n ew)) ?_;refine au ?_;obtain⟨dx,ex⟩:=iD cn;refine qr (kD uY Ty.kM rfl rfl dx (jZ n ex)) ?_;obtain⟨_,ey⟩:=iD cn;refine qr (lN 0 Ty.lO rfl R rfl (by rw[jn];exact lR n ey)) ?_;refine au ?_;obtain⟨bc,co,be,cp,H⟩:=iG H;obtain⟨a9,dI,aC,dJ,H⟩:=iG H;obtain⟨aT,dK,aU,dL,H⟩:=iG H;obtain⟨gv,dR,H⟩:=iy H;have V:=R.mC 0 rfl;refine nA (G:=(bM.hold eS [l])) [0,1,2,3,4,5,6,7,8,9,10,12,15,16,19,21,24,25,11,13,14,17,18,20,22,23,26,27,28,29] rfl Ty.mixed (by kernel_rfl) (HB.agree (HB.cons 0 V R rfl HB.nil) R.agree) ?_;refine au ?_;obtain⟨dy,ez⟩:=iD co;refine qr (kD uY Ty.kM rfl rfl dy (jZ n ez)) ?_;obtain⟨_,e0⟩:=iD co;refine qr (qo Ty.lO rfl (V.held (HB.cons 0 V R rfl HB.nil) (by simp)) (by rw[jn];exact lR n e0)) ?_;refine au ?_;obtain⟨dz,e1⟩:=iD cp;refine qr (kD uY Ty.kM rfl rfl dz (jZ n e1)) ?_;obtain⟨_,e2⟩:=iD cp;refine qr (qo Ty.lO rfl (V.held (HB.cons 0 V R rfl HB.nil) (by simp)) (by rw[jn];exact lR n e2)) ?_;refine qr (iB rfl rfl (congrArg (λz=>some (gE.i .u32 z)) (qH bc be))) ?_;refine au ?_;refine qr (iB rfl rfl ((vh (by decide) (by decide)).trans (congrArg (λz=>some (gE.i .u32 z)) (Jk _ _ 3 rfl (by decide))))) ?_;refine au ?_;refine qr (iB rfl rfl ((vh (by decide) (by decide)).trans (congrArg (λz=>some (gE.i .u32 z)) (Jk _ _ 10 rfl (by decide))))) ?_;refine ql (Ab R.iH dI) ?_;rintro fA fS ⟨eZ,rfl,cP⟩;have b0:=R.oN cP;refine qh 0 V b0 ?_;refine ql (Ab b0.iH dJ) ?_;rintro fB fU ⟨fa,rfl,cQ⟩;have b1:=b0.oN cQ;refine qh 0 V b1 ?_
          refine qr (iB rfl rfl ((mR (.inr (.inr rfl))).trans (congrArg (λz=>some (gE.i .u32 z)) (Go.Wk.u32_xor a9 aC)))) ?_;refine qr (iB rfl rfl ((mR (.inr (.inr rfl))).trans (congrArg (λz=>some (gE.i .u32 z)) (Go.Wk.u32_xor (a9 ^^^aC) (bb >>> kQ 3))))) ?_;refine qr (iB rfl rfl (congrArg (λz=>some (gE.i .u32 z)) (qH (bc+be) ((a9 ^^^aC) ^^^(bb >>> kQ 3))))) ?_;refine ql (Ab b1.iH dK) ?_;rintro fC fV ⟨fb,rfl,cR⟩;have b2:=b1.oN cR;refine qh 0 V b2 ?_;refine ql (Ab b2.iH dL) ?_;rintro fD fW ⟨fc,rfl,cS⟩;have b3:=b2.oN cS;refine qh 0 V b3 ?_;refine qr (iB rfl rfl ((mR (.inr (.inr rfl))).trans (congrArg (λz=>some (gE.i .u32 z)) (Go.Wk.u32_xor aT aU)))) ?_;refine qr (iB rfl rfl ((mR (.inr (.inr rfl))).trans (congrArg (λz=>some (gE.i .u32 z)) (Go.Wk.u32_xor (aT ^^^aU) (br >>> kQ 10))))) ?_;refine qr (iB rfl rfl (congrArg (λz=>some (gE.i .u32 z)) (qH ((bc+be)+((a9 ^^^aC) ^^^(bb >>> kQ 3))) ((aT ^^^aU) ^^^(br >>> kQ 10))))) ?_;obtain⟨d0,b9⟩:=iD dR;refine qr (kD uY Ty.kM rfl rfl d0 (jZ n b9)) ?_;refine zX (by kernel_rfl) b3.agree ?_;refine qu (Ce (cs':=jL 64 cW 0 (bn.set O.toNat (((bc+be)+((a9 ^^^aC) ^^^(bb >>> kQ 3)))+((aT ^^^aU) ^^^(br >>> kQ 10))))) 0 rfl rfl b3 rfl rfl Ty.kM (by rw[Ft,jn];exact(jZ n b9)) (DF n (jZ n b9) _)) ?_;rintro _ fX bQ;refine qw bQ ?_;refine ax ?_;exact nj ⟨(bn.set O.toNat (((bc+be)+((a9 ^^^aC) ^^^(bb >>> kQ 3)))+((aT ^^^aU) ^^^(br >>> kQ 10)))),H,⟨bM,rfl,iI,(by rw[AV];exact n),bQ⟩⟩
        ·rintro E fR ⟨bo,H,bs,rfl,fq,df,cF⟩;refine ax ?_;exact nm H ⟨_,rfl,iI,df,cF⟩
       ·refine jf _ rfl ?_;exact nj ⟨bn,H,⟨_,rfl,iI,n,aj⟩⟩
     ·rintro E gj ⟨aY,H,aJ,rfl,fx,bY,cK⟩;refine aq ?_;refine xm (o9 (cs:=jL 8 cW 0 (iV 8 (0:UInt32))) Ty.Mr rfl cK) ?_;rintro _ gk ⟨Y,rfl,fj⟩;refine sb 0 (jL 8 cW 0 M) ?_;intro gl b6;refine qn ?_;refine iL (λE wq=>∃ba:List UInt32,jW.k7 y M bE ba=some r ∧ ∃(bi:gL),E=[(2,pl b 0),(3,pl f 0),(4,pl e 0),(5,g),(6,.i .i64 y),(12,pl Y 0)]∧aJ.le bi∧(ba).length=8∧iW b6 [.box Y (jL 8 cW 0 ba),.row tB g P,.box e (jL 8 cW 0 M),.box f (jL 64 cW 0 J),.box b (iJ (iV 32 (0:UInt8)))] bi wq) ?_ ?_
      ·refine ax ?_;refine jH (λ(s:Int×(List UInt32)) E wq=>∃(aK:gL),E=[(2,pl b 0),(3,pl f 0),(4,pl e 0),(5,g),(6,.i .i64 y),(7,pl l 0),(12,pl Y 0),(13,.i .i64 s.1)]∧aJ.le aK∧(s.2).length=8∧iW b6 [.box Y (jL 8 cW 0 s.2),.box l (jL 64 cW 0 aY),.row tB g P,.box e (jL 8 cW 0 M),.box f (jL 64 cW 0 J),.box b (iJ (iV 32 (0:UInt8)))] aK wq) H ?_ ?_
       ·exact lo ⟨_,rfl,iI,b8,b6⟩
       ·rintro f6 ⟨fm,eR⟩ E eT hI H
        try dsimp only at hI
        obtain⟨aK,rfl,f0,a,c⟩:=hI;refine ay ?_;refine qy H (λdd H=>?_) (λdd H=>?_)
        ·refine ay ?_;obtain⟨j,cw,d,cx,H⟩:=iG H;refine rn ?_;obtain⟨d8,eB⟩:=iD cw;refine qr (kD np Ty.kM rfl rfl d8 (jZ a eB)) ?_;obtain⟨_,eC⟩:=iD cw;refine qr (lN 0 Ty.lO rfl c rfl (by rw[jn];exact lR a eC)) ?_;obtain⟨d9,eD⟩:=iD cx;refine qr (kD np Ty.kM rfl rfl d9 (jZ a eD)) ?_;obtain⟨_,eE⟩:=iD cx;refine qr (lN 0 Ty.lO rfl c rfl (by rw[jn];exact lR a eE)) ?_;refine ay ?_;obtain⟨L,cy,B,cz,H⟩:=iG H;obtain⟨D,c0,Q,c1,H⟩:=iG H;obtain⟨X,c2,p,dO,H⟩:=iG H;obtain⟨q,dP,A,dQ,H⟩:=iG H;have m:=c.mC 0 rfl;have u:=c.mC 4 rfl;have x:=c.mC 1 rfl;refine nA (G:=(aK.hold eT [Y,f,l])) [0,1,2,4,7,11,12,13,14,15,16,17,18,19,20,22,23,24,26,27,28,3,5,6,8,9,10,21,25,29,30] rfl Ty.mixed (by kernel_rfl) (HB.agree (HB.cons 0 m c rfl (HB.cons 4 u c rfl (HB.cons 1 x c rfl HB.nil))) c.agree) ?_;obtain⟨dA,eF⟩:=iD cy;refine qr (kD np Ty.kM rfl rfl dA (jZ a eF)) ?_;obtain⟨_,eG⟩:=iD cy;refine qr (qo Ty.lO rfl (m.held (HB.cons 0 m c rfl (HB.cons 4 u c rfl (HB.cons 1 x c rfl HB.nil))) (by simp)) (by rw[jn];exact lR a eG)) ?_;refine au ?_;obtain⟨dB,eH⟩:=iD cz;refine qr (kD np Ty.kM rfl rfl dB (jZ a eH)) ?_;obtain⟨_,eI⟩:=iD cz;refine qr (qo Ty.lO rfl (m.held (HB.cons 0 m c rfl (HB.cons 4 u c rfl (HB.cons 1 x c rfl HB.nil))) (by simp)) (by rw[jn];exact lR a eI)) ?_;refine qr (iB rfl rfl ((mR (.inl rfl)).trans (congrArg (λz=>some (gE.i .u32 z)) (Go.Wk.u32_and d B)))) ?_;refine qc ?_;refine qr (Sy rfl (Xq d)) ?_;obtain⟨dC,eJ⟩:=iD c0;refine qr (kD np Ty.kM rfl rfl dC (jZ a eJ)) ?_;obtain⟨_,eK⟩:=iD c0;refine qr (qo Ty.lO rfl (m.held (HB.cons 0 m c rfl (HB.cons 4 u c rfl (HB.cons 1 x c rfl HB.nil))) (by simp)) (by rw[jn];exact lR a eK)) ?_;refine qr (iB rfl rfl ((mR (.inl rfl)).trans (congrArg (λz=>some (gE.i .u32 z)) (Go.Wk.u32_and (~~~d) D)))) ?_
         refine qr (iB rfl rfl ((mR (.inr (.inr rfl))).trans (congrArg (λz=>some (gE.i .u32 z)) (Go.Wk.u32_xor (d &&& B) ((~~~d) &&& D))))) ?_;refine qc ?_;obtain⟨dD,eL⟩:=iD c1;refine qr (kD uY Ty.kM rfl rfl dD (jZ ca eL)) ?_;obtain⟨_,eM⟩:=iD c1;refine qr (qo Ty.lO rfl (u.held (HB.cons 0 m c rfl (HB.cons 4 u c rfl (HB.cons 1 x c rfl HB.nil))) (by simp)) (by rw[jn];exact lR ca eM)) ?_;refine qc ?_;obtain⟨dE,eN⟩:=iD c2;refine qr (kD uY Ty.kM rfl rfl dE (jZ bY eN)) ?_;obtain⟨_,eO⟩:=iD c2;refine qr (qo Ty.lO rfl (x.held (HB.cons 0 m c rfl (HB.cons 4 u c rfl (HB.cons 1 x c rfl HB.nil))) (by simp)) (by rw[jn];exact lR bY eO)) ?_;refine ql (Ab c.iH dO) ?_;rintro fF gt ⟨fe,rfl,cT⟩;have S:=c.oN cT;refine jG.mW (HB.le (HB.cons 0 m S rfl (HB.cons 4 u S rfl (HB.cons 1 x S rfl HB.nil))) (gL.le.refl _)) (HB.agree (HB.cons 0 m S rfl (HB.cons 4 u S rfl (HB.cons 1 x S rfl HB.nil))) S.agree) ?_;refine ql (Ab S.iH dP) ?_;rintro fG gu ⟨ff,rfl,cU⟩;have U:=S.oN cU;refine jG.mW (HB.le (HB.cons 0 m U rfl (HB.cons 4 u U rfl (HB.cons 1 x U rfl HB.nil))) (gL.le.refl _)) (HB.agree (HB.cons 0 m U rfl (HB.cons 4 u U rfl (HB.cons 1 x U rfl HB.nil))) U.agree) ?_;refine qr (iB rfl rfl ((mR (.inr (.inr rfl))).trans (congrArg (λz=>some (gE.i .u32 z)) (Go.Wk.u32_xor p q)))) ?_;refine ql (Ab U.iH dQ) ?_;rintro fH eU ⟨fg,rfl,cV⟩;have h:=U.oN cV;refine jG.mW (HB.le (HB.cons 0 m h rfl (HB.cons 4 u h rfl (HB.cons 1 x h rfl HB.nil))) (gL.le.refl _)) (HB.agree (HB.cons 0 m h rfl (HB.cons 4 u h rfl (HB.cons 1 x h rfl HB.nil))) h.agree) ?_;refine qr (iB rfl rfl ((mR (.inr (.inr rfl))).trans (congrArg (λz=>some (gE.i .u32 z)) (Go.Wk.u32_xor (p ^^^q) A)))) ?_;refine qr (iB rfl rfl (congrArg (λz=>some (gE.i .u32 z)) (qH L ((p ^^^q) ^^^A)))) ?_;refine qr (iB rfl rfl (congrArg (λz=>some (gE.i .u32 z)) (qH (L+((p ^^^q) ^^^A)) ((d &&& B) ^^^((~~~d) &&& D))))) ?_;refine qr (iB rfl rfl (congrArg (λz=>some (gE.i .u32 z)) (qH ((L+((p ^^^q) ^^^A))+((d &&& B) ^^^((~~~d) &&& D))) Q))) ?_
         refine qr (iB rfl rfl (congrArg (λz=>some (gE.i .u32 z)) (qH (((L+((p ^^^q) ^^^A))+((d &&& B) ^^^((~~~d) &&& D)))+Q) X))) ?_;refine ay ?_;obtain⟨ah,cb,ai,cc,H⟩:=iG H;obtain⟨ar,cd,a4,ce,H⟩:=iG H;obtain⟨ak,dF,am,dG,H⟩:=iG H;obtain⟨a8,dH,H⟩:=iy H;have I:=h.mC 0 rfl;refine nA (G:=(aK.hold eU [Y])) [0,2,5,8,9,10,11,12,13,14,15,16,17,18,19,20,21,22,1,3,4,6,7,23,24] rfl Ty.mixed (by kernel_rfl) (HB.agree (HB.cons 0 I h rfl HB.nil) h.agree) ?_;refine au ?_;obtain⟨dj,dX⟩:=iD cb;refine qr (kD np Ty.kM rfl rfl dj (jZ a dX)) ?_;obtain⟨_,dY⟩:=iD cb;refine qr (qo Ty.lO rfl (I.held (HB.cons 0 I h rfl HB.nil) (by simp)) (by rw[jn];exact lR a dY)) ?_;refine qr (iB rfl rfl ((mR (.inl rfl)).trans (congrArg (λz=>some (gE.i .u32 z)) (Go.Wk.u32_and j ah)))) ?_;refine qc ?_;obtain⟨dk,dZ⟩:=iD cc;refine qr (kD np Ty.kM rfl rfl dk (jZ a dZ)) ?_;obtain⟨_,ea⟩:=iD cc;refine qr (qo Ty.lO rfl (I.held (HB.cons 0 I h rfl HB.nil) (by simp)) (by rw[jn];exact lR a ea)) ?_;refine qr (iB rfl rfl ((mR (.inl rfl)).trans (congrArg (λz=>some (gE.i .u32 z)) (Go.Wk.u32_and j ai)))) ?_;refine qr (iB rfl rfl ((mR (.inr (.inr rfl))).trans (congrArg (λz=>some (gE.i .u32 z)) (Go.Wk.u32_xor (j &&& ah) (j &&& ai))))) ?_;obtain⟨dl,eb⟩:=iD cd;refine qr (kD np Ty.kM rfl rfl dl (jZ a eb)) ?_;obtain⟨_,ec⟩:=iD cd;refine qr (qo Ty.lO rfl (I.held (HB.cons 0 I h rfl HB.nil) (by simp)) (by rw[jn];exact lR a ec)) ?_;obtain⟨dm,ed⟩:=iD ce;refine qr (kD np Ty.kM rfl rfl dm (jZ a ed)) ?_;obtain⟨_,ee⟩:=iD ce;refine qr (qo Ty.lO rfl (I.held (HB.cons 0 I h rfl HB.nil) (by simp)) (by rw[jn];exact lR a ee)) ?_;refine qr (iB rfl rfl ((mR (.inl rfl)).trans (congrArg (λz=>some (gE.i .u32 z)) (Go.Wk.u32_and ar a4)))) ?_;refine qr (iB rfl rfl ((mR (.inr (.inr rfl))).trans (congrArg (λz=>some (gE.i .u32 z)) (Go.Wk.u32_xor ((j &&& ah) ^^^(j &&& ai)) (ar &&& a4))))) ?_
         refine ql (Ab h.iH dF) ?_;rintro f7 fK ⟨eW,rfl,cM⟩;have bv:=h.oN cM;refine qh 0 I bv ?_;refine ql (Ab bv.iH dG) ?_;rintro f8 fL ⟨eX,rfl,cN⟩;have bw:=bv.oN cN;refine qh 0 I bw ?_;refine qr (iB rfl rfl ((mR (.inr (.inr rfl))).trans (congrArg (λz=>some (gE.i .u32 z)) (Go.Wk.u32_xor ak am)))) ?_;refine ql (Ab bw.iH dH) ?_;rintro f9 fM ⟨eY,rfl,cO⟩;have Z:=bw.oN cO;refine qh 0 I Z ?_;refine qr (iB rfl rfl ((mR (.inr (.inr rfl))).trans (congrArg (λz=>some (gE.i .u32 z)) (Go.Wk.u32_xor (ak ^^^am) a8)))) ?_;refine qr (iB rfl rfl (congrArg (λz=>some (gE.i .u32 z)) (qH ((ak ^^^am) ^^^a8) (((j &&& ah) ^^^(j &&& ai)) ^^^(ar &&& a4))))) ?_;obtain⟨bF,cf,bG,cg,H⟩:=iG H;obtain⟨bH,ch,bq,ci,H⟩:=iG H;obtain⟨bI,cj,bJ,ck,H⟩:=iG H;obtain⟨bK,cl,H⟩:=iy H;refine ax ?_;refine qr (iB rfl rfl (congrArg (λz=>some (gE.i .u32 z)) (qH ((((L+((p ^^^q) ^^^A))+((d &&& B) ^^^((~~~d) &&& D)))+Q)+X) (((ak ^^^am) ^^^a8)+(((j &&& ah) ^^^(j &&& ai)) ^^^(ar &&& a4)))))) ?_;obtain⟨dn,ef⟩:=iD cf;refine qr (kD np Ty.kM rfl rfl dn (jZ a ef)) ?_;obtain⟨_,eg⟩:=iD cf;refine qr (lN 0 Ty.lO rfl Z rfl (by rw[jn];exact lR a eg)) ?_;obtain⟨dq,eh⟩:=iD cg;refine qr (kD np Ty.kM rfl rfl dq (jZ a eh)) ?_;obtain⟨_,ei⟩:=iD cg;refine qr (lN 0 Ty.lO rfl Z rfl (by rw[jn];exact lR a ei)) ?_;obtain⟨dr,ej⟩:=iD ch;refine qr (kD np Ty.kM rfl rfl dr (jZ a ej)) ?_;obtain⟨_,ek⟩:=iD ch;refine qr (lN 0 Ty.lO rfl Z rfl (by rw[jn];exact lR a ek)) ?_;obtain⟨ds,em⟩:=iD ci;refine qr (kD np Ty.kM rfl rfl ds (jZ a em)) ?_;obtain⟨_,en⟩:=iD ci;refine qr (lN 0 Ty.lO rfl Z rfl (by rw[jn];exact lR a en)) ?_;refine qc ?_;refine qr (iB rfl rfl (congrArg (λz=>some (gE.i .u32 z)) (qH bq ((((L+((p ^^^q) ^^^A))+((d &&& B) ^^^((~~~d) &&& D)))+Q)+X)))) ?_
         obtain⟨dt,eo⟩:=iD cj;refine qr (kD np Ty.kM rfl rfl dt (jZ a eo)) ?_;obtain⟨_,ep⟩:=iD cj;refine qr (lN 0 Ty.lO rfl Z rfl (by rw[jn];exact lR a ep)) ?_;obtain⟨du,eq⟩:=iD ck;refine qr (kD np Ty.kM rfl rfl du (jZ a eq)) ?_;obtain⟨_,er⟩:=iD ck;refine qr (lN 0 Ty.lO rfl Z rfl (by rw[jn];exact lR a er)) ?_;obtain⟨dv,et⟩:=iD cl;refine qr (kD np Ty.kM rfl rfl dv (jZ a et)) ?_;obtain⟨_,eu⟩:=iD cl;refine qr (lN 0 Ty.lO rfl Z rfl (by rw[jn];exact lR a eu)) ?_;refine qr (Hk (vs:=nW 0 ([(((((L+((p ^^^q) ^^^A))+((d &&& B) ^^^((~~~d) &&& D)))+Q)+X)+(((ak ^^^am) ^^^a8)+(((j &&& ah) ^^^(j &&& ai)) ^^^(ar &&& a4)))),bF,bG,bH,(bq+((((L+((p ^^^q) ^^^A))+((d &&& B) ^^^((~~~d) &&& D)))+Q)+X)),bI,bJ,bK]:List UInt32)) (v:=.agg (jL 8 cW 0 ([(((((L+((p ^^^q) ^^^A))+((d &&& B) ^^^((~~~d) &&& D)))+Q)+X)+(((ak ^^^am) ^^^a8)+(((j &&& ah) ^^^(j &&& ai)) ^^^(ar &&& a4)))),bF,bG,bH,(bq+((((L+((p ^^^q) ^^^A))+((d &&& B) ^^^((~~~d) &&& D)))+Q)+X)),bI,bJ,bK]:List UInt32))) Ty.J8 rfl rfl) ?_;refine sb 0 (jL 8 cW 0 ([(((((L+((p ^^^q) ^^^A))+((d &&& B) ^^^((~~~d) &&& D)))+Q)+X)+(((ak ^^^am) ^^^a8)+(((j &&& ah) ^^^(j &&& ai)) ^^^(ar &&& a4)))),bF,bG,bH,(bq+((((L+((p ^^^q) ^^^A))+((d &&& B) ^^^((~~~d) &&& D)))+Q)+X)),bI,bJ,bK]:List UInt32)) ?_;intro fP cE;refine ax ?_;exact nm H ⟨_,rfl,iI,rfl,cE⟩
        ·refine jf _ rfl ?_;exact nj ⟨eR,H,⟨_,rfl,iI,a,pk [0,2,3,4,5] c⟩⟩
      ·rintro E gm ⟨ba,H,bi,rfl,fy,bZ,bS⟩;refine ax ?_;refine jH (λ(s:Int×(List UInt32)) E wq=>∃(bj:gL),E=[(2,pl b 0),(3,pl f 0),(4,pl e 0),(5,g),(6,.i .i64 y),(12,pl Y 0),(18,.i .i64 s.1)]∧bi.le bj∧(s.2).length=8∧iW bS [.box Y (jL 8 cW 0 ba),.row tB g P,.box e (jL 8 cW 0 s.2),.box f (jL 64 cW 0 J),.box b (iJ (iV 32 (0:UInt8)))] bj wq) H ?_ ?_
       ·exact lo ⟨_,rfl,iI,b8,bS⟩
       ·rintro f5 ⟨eQ,c5⟩ E gn hI H
        try dsimp only at hI
        obtain⟨bj,rfl,fz,ae,aR⟩:=hI;refine ay ?_;refine qy H (λdc H=>?_) (λdc H=>?_)
        ·refine ay ?_;obtain⟨c9,ct,cA,cu,H⟩:=iG H;obtain⟨g0,dW,H⟩:=iy H;refine rf aR ?_;refine qc ?_;obtain⟨d5,e7⟩:=iD ct;refine qr (kD np Ty.kM rfl rfl d5 (jZ ae e7)) ?_;obtain⟨_,e8⟩:=iD ct;refine qq (lN 2 Ty.lO rfl aR rfl (by rw[jn];exact lR ae e8)) ?_;refine qc ?_;obtain⟨d6,e9⟩:=iD cu;refine qr (kD np Ty.kM rfl rfl d6 (jZ bZ e9)) ?_;obtain⟨_,eA⟩:=iD cu;refine qq (lN 0 Ty.lO rfl aR rfl (by rw[jn];exact lR bZ eA)) ?_;refine qr (iB rfl rfl (congrArg (λz=>some (gE.i .u32 z)) (qH c9 cA))) ?_;obtain⟨d7,bC⟩:=iD dW;refine qr (kD np Ty.kM rfl rfl d7 (jZ ae bC)) ?_;refine qu (Ce (cs':=jL 8 cW 0 (c5.set eQ.toNat (c9+cA))) 2 rfl rfl aR rfl rfl Ty.kM (by rw[Ft,jn];exact(jZ ae bC)) (DF ae (jZ ae bC) _)) ?_;rintro _ gq bT;refine qw bT ?_;refine ax ?_;exact nm H ⟨bj,rfl,iI,(by rw[AV];exact ae),bT⟩
        ·refine ax ?_;exact nj ⟨c5,H,⟨_,rfl,iI,ae,pk [1,2,3,4] aR⟩⟩
    ·rintro E gg ⟨bp,H,bu,rfl,fw,di,cI⟩;refine ax ?_;exact nm H ⟨_,rfl,iI,di,cI⟩
   ·refine jf _ rfl ?_;exact nj ⟨M,H,⟨_,rfl,iI,b8,pk [1,3] bm⟩⟩
 ·rintro E fJ ⟨aV,H,aH,rfl,fn,bX,cD⟩;refine qs ?_;refine xm (o9 (cs:=iJ (iV 32 (0:UInt8))) Ty.B2 rfl cD) ?_;rintro _ fN ⟨bk,rfl,bz⟩;refine qn ?_;refine iL (λE wq=>∃aD:List UInt8,jW.k2 aD=some r ∧ ∃(bf:gL),E=[(2,pl b 0),(19,pl bk 0)]∧aH.le bf∧(aD).length=32∧iW bz [.box bk (iJ aD),.box b (iJ (iV 32 (0:UInt8)))] bf wq) ?_ ?_
  ·refine ax ?_;refine jH (λ(s:Int×(List UInt8)) E wq=>∃(bh:gL),E=[(2,pl b 0),(4,pl e 0),(19,pl bk 0),(20,.i .i64 s.1)]∧aH.le bh∧(s.2).length=32∧iW bz [.box bk (iJ s.2),.box e (jL 8 cW 0 aV),.box b (iJ (iV 32 (0:UInt8)))] bh wq) H ?_ ?_
   ·exact lo ⟨_,rfl,iI,(vL),bz⟩
   ·rintro f4 ⟨eP,c4⟩ E ga hI H
    try dsimp only at hI
    obtain⟨bh,rfl,fu,a7,b4⟩:=hI;refine ay ?_;refine qy H (λda H=>?_) (λda H=>?_)
    ·obtain⟨gy,cr,eV,dU,H⟩:=iG H;obtain⟨gz,dV,H⟩:=iy H;refine ay ?_;refine qr (iB rfl rfl (by first|rfl|simp[kJ,tX])) ?_;obtain⟨d3,e5⟩:=iD cr;refine qr (kD np Ty.kM rfl rfl d3 (jZ bX e5)) ?_;obtain⟨_,e6⟩:=iD cr;refine qr (lN 1 Ty.lO rfl b4 rfl (by rw[jn];exact lR bX e6)) ?_;refine qc ?_;refine qr (iB rfl rfl (by first|rfl|simp[kJ,tX])) ?_;refine au ?_;refine qr (ml mH p9 rfl (rfl)) ?_;refine qr (iB rfl rfl (J6 dU)) ?_;refine qr (ml EK p7 rfl (Xn _)) ?_;obtain⟨d4,bB⟩:=iD dV;refine qr (kD uZ Ty.pD rfl rfl d4 (jZ a7 bB)) ?_;refine um (Ce (cs':=iJ (c4.set eP.toNat eV.toUInt8)) 0 rfl rfl b4 rfl rfl Ty.pD (by rw[BG,jn];exact(jZ a7 bB)) (Vb a7 (jZ a7 bB) _)) ?_;rintro _ gd cH;refine ax ?_;exact nm H ⟨bh,rfl,iI,(by rw[AV];exact a7),cH⟩
    ·refine jf _ rfl ?_;exact nj ⟨c4,H,⟨_,rfl,iI,a7,pk [0,2] b4⟩⟩
  ·rintro E fO ⟨aD,H,bf,rfl,fo,dg,fh⟩;refine aq ?_;refine sb 1 (iJ aD) ?_;intro fT bP;refine qn ?_;obtain rfl:=oi H;refine oH (vs:=[.agg (iJ aD)]) rfl ⟨(oJ 1 Ty.pJ Ty.nx bP rfl rfl),trivial⟩ ?_;exact⟨bf,rfl,dg,bP.pick [] (by decide)⟩
def ya.k1:Option Bool :=
  some false
def ya.l2(x0:List UInt8)(x1:List UInt8)(b:Int→Option Bool):Int→Option Bool
  | a =>
    if decide (a<32)then
      bd (ix x0 a) λx8 =>
      bd (ix x1 a) λx9 =>
      if decide ((x8.toNat:Int)≠(x9.toNat:Int))then
        bd (ix x0 a) λc =>
        bd (ix x1 a) λd =>
        some (decide ((c.toNat:Int)<(d.toNat:Int)))
      else
        b (wr (a+1))
    else
      ya.k1
def ya(x0:List UInt8)(x1:List UInt8):Option Bool :=
  loop (ya.l2 x0 x1) 0
theorem ZV{x0:List UInt8}{x1:List UInt8}{r:Bool}(hA:Gd F w)(c:x0.length=32)(d:x1.length=32)(H:ya x0 x1=some r):iN il K 153 [.agg (iJ x0),.agg (iJ x1)] w λv w'=>∃(F':gL),v = .b r∧St [] w F F' [] w':=by
 refine kB Tryz.func153 ?_;have hS:=St.start hA;refine qs ?_;refine bx (iJ x0) ?_;intro l Z S;refine bx (iJ x1) ?_;intro m w2 e;refine au ?_;refine iL (jO (ya.k1=some r) [] e []) ?_ ?_
 ·refine ax ?_;refine lj e (λs:Int=>[(2,pl l 0),(3,pl m 0),(5,.i .i64 s)]) H ?_;intro Y U R w4 X a H;refine ay ?_;refine qy H (λx H=>?_) (λx H=>?_)
  ·refine ay ?_;obtain⟨x8,j,x9,k,H⟩:=iG H;refine rn ?_;refine qc ?_;obtain⟨y,D⟩:=iD j;refine qr (kD uZ Ty.pD rfl rfl y (jZ c D)) ?_;obtain⟨_,G⟩:=iD j;refine qr (lN 1 Ty.Aa rfl a rfl (CJ (λq u h=>by simpa using h) c G)) ?_;refine qc ?_;obtain⟨z,I⟩:=iD k;refine qr (kD uZ Ty.pD rfl rfl z (jZ d I)) ?_;obtain⟨_,J⟩:=iD k;refine qr (lN 0 Ty.Aa rfl a rfl (CJ (λq u h=>by simpa using h) d J)) ?_;refine au ?_;refine qy H (λp H=>?_) (λp H=>?_)
   ·refine kr ?_;obtain⟨ai,f,aj,g,H⟩:=iG H;refine rn ?_;refine qc ?_;obtain⟨A,L⟩:=iD f;refine qr (kD uZ Ty.pD rfl rfl A (jZ c L)) ?_;obtain⟨_,M⟩:=iD f;refine qr (lN 1 Ty.Aa rfl a rfl (CJ (λq u h=>by simpa using h) c M)) ?_;refine qc ?_;obtain⟨B,O⟩:=iD g;refine qr (kD uZ Ty.pD rfl rfl B (jZ d O)) ?_;obtain⟨_,P⟩:=iD g;refine qr (lN 0 Ty.Aa rfl a rfl (CJ (λq u h=>by simpa using h) d P)) ?_;exact rz H a
   ·refine ax ?_;exact nm H (jj a)
  ·refine jf _ rfl ?_;exact nj ⟨H,jj (pk [] a)⟩
 ·rintro E w3 ⟨H,Q,rfl,V,n⟩;exact rz H n
def wX.k1(x0:List (List UInt8))(x1:List UInt8)(a:Int):Option ((List (List UInt8))×Int×Bool) :=
  bd (only (decide (a<(x0.length:Int))) (ix x0 a) (iV 32 (0:UInt8))) λx4 =>
  if(decide (a<(x0.length:Int))&&decide (x4=x1))then
    some (x0,a,false)
  else
    bd (cut (α:=(List UInt8)) x0 0 a) λb =>
    bd (app (α:=(List UInt8)) [] b) λc =>
    bd (app (α:=(List UInt8)) c [x1]) λd =>
    bd (cut (α:=(List UInt8)) x0 a (x0.length:Int)) λe =>
    bd (app (α:=(List UInt8)) d e) λf =>
    some (f,a,true)
def wX.l2(x0:List (List UInt8))(x1:List UInt8)(c:Int→Option ((List (List UInt8))×Int×Bool)):Int→Option ((List (List UInt8))×Int×Bool)
  | a =>
    bd (only (decide (a<(x0.length:Int))) (ix x0 a) (iV 32 (0:UInt8))) λd =>
    bd (only (decide (a<(x0.length:Int))) (ya d x1) false) λb =>
    if(decide (a<(x0.length:Int))&&b)then
      c (wr (a+1))
    else
      wX.k1 x0 x1 a
def wX(x0:List (List UInt8))(x1:List UInt8):Option ((List (List UInt8))×Int×Bool) :=
  loop (wX.l2 x0 x1) 0
theorem Tq{x0:List (List UInt8)}{x1:List UInt8}{r:(List (List UInt8))×Int×Bool}{j:gE}(hA:Gd F w)(a:iq lV F j x0)(D:x1.length=32)(H:wX x0 x1=some r):iN il K 107 [j,.agg (iJ x1)] w λv w'=>∃(F':gL)(q0:gE),v = .kx [q0,.i .i64 r.2.1,.b r.2.2]∧iq lV F' q0 (r.1)∧St [] w F F' [] w':=by
 refine kB Tryz.func107 ?_;have hS:=St.start hA;refine qs ?_;refine bx (iJ x1) ?_;intro B w1 S;refine au ?_;refine aq ?_;refine iL (λE wq=>∃e:Int,wX.k1 x0 x1 e=some r ∧ ∃(f:gL),E=[(0,j),(3,pl B 0),(7,.i .i64 e)]∧F.le f∧mq S f wq) ?_ ?_
 ·refine qZ ?_;refine lj S (λs:Int=>[(0,j),(3,pl B 0),(7,.i .i64 s)]) H ?_;intro b6 ai bh bF aj g H;refine ay ?_;obtain⟨R,x,b5,aR,H⟩:=iG H;have n:(R).length=32:=by
   rcases nk (decide (ai<(x0.length:Int)))with M|M
   ·have ad:=x;rw[jX M]at ad;obtain⟨bs,bb⟩:=iD ad;obtain⟨bj,aT,P⟩:=(a.mono aj).el bb;obtain⟨rfl,n⟩:=aT;replace P:=qj 32 P;have bo:=P.ky;exact n
   ·have hy:=x;rw[me M]at hy;obtain rfl:=oi hy
    rfl
  refine rf g ?_;refine aw ?_;refine ge (mo a) x ?_;refine nO (v:=.agg (iJ R)) rfl rfl rfl rfl (λ⟨Y,_⟩=>?_) ?_
  ·rw[Y];intro hK;have ae:=x;rw[jX Y]at ae;obtain⟨bt,bc⟩:=iD ae;obtain⟨bk,aU,m⟩:=(a.mono aj).el bc;obtain⟨rfl,n⟩:=aU;replace m:=qj 32 m;have bp:=m.ky;refine qq (pw 0 (iJ R) Ty.pJ Ty.nx rfl (m.mono g.agree) (by first|omega|rfl) rfl (kY rfl)) ?_;exact hK
  refine nO (v:=.agg (iJ x1)) rfl rfl rfl rfl (λ⟨a6,_⟩=>?_) ?_
  ·rw[a6];exact(qq (rC 0 (iJ x1) Ty.pJ Ty.nx (oQ _) rfl g rfl (λq u h=>o5 (post:=[]) rfl h)) ·)
  refine gw g aR (λy=>ZV g.iH n D y) ?_;intro bG L;refine qw L ?_;refine aw ?_;refine qy H (λa8 H=>?_) (λa8 H=>?_)
  ·refine ax ?_;exact nm H (jj L)
  ·refine jf _ rfl ?_;exact nj ⟨ai,H,jj L⟩
 ·rintro E w2 ⟨e,H,f,rfl,A,c⟩;refine ay ?_;obtain⟨x4,z,H⟩:=iy H;have p:(x4).length=32:=by
   rcases nk (decide (e<(x0.length:Int)))with O|O
   ·have ah:=z;rw[jX O]at ah;obtain⟨bu,be⟩:=iD ah;obtain⟨bm,aV,Q⟩:=(a.mono A).el be;obtain⟨rfl,p⟩:=aV;replace Q:=qj 32 Q;have bq:=Q.ky;exact p
   ·have hy:=z;rw[me O]at hy;obtain rfl:=oi hy
    rfl
  refine rn ?_;refine aw ?_;refine ge (mo a) z ?_;refine nO (v:=.agg (iJ x4)) rfl rfl rfl rfl (λ⟨X,_⟩=>?_) ?_
  ·rw[X];intro hK;have Z:=z;rw[jX X]at Z;obtain⟨br,ba⟩:=iD Z;obtain⟨bi,aO,l⟩:=(a.mono A).el ba;obtain⟨rfl,p⟩:=aO;replace l:=qj 32 l;have bn:=l.ky;refine qr (pw 0 (iJ x4) Ty.pJ Ty.nx rfl (l.mono c.agree) (by first|omega|rfl) rfl (kY rfl)) ?_;exact hK
  refine aw ?_;refine nO (v:=.b (decide (x4=x1))) rfl rfl rfl rfl (λ⟨a5,_⟩=>?_) ?_
  ·rw[a5];exact(qr (iB rfl rfl (z7 Ty.Ag rfl rfl (Af p D))) ·)
  refine aw ?_;refine qy H (λa7 H=>?_) (λa7 H=>?_)
  ·refine aq ?_;obtain rfl:=oi H;refine qt ?_;exact⟨f,j,rfl,(mo a),c.pick [] (by decide)⟩
  ·refine ay ?_;obtain⟨bv,aC,bw,aD,H⟩:=iG H;obtain⟨bz,aH,H⟩:=iy H;have d:=c.mC 0 rfl;refine nA (G:=(f.hold w2 [B])) [0,1,2,3,5,6,4,7,8] rfl Ty.mixed (by kernel_rfl) (HB.agree (HB.cons 0 d c rfl HB.nil) c.agree) ?_;refine au ?_;refine wO 0 e rfl rfl rfl rfl rX Ty.nx rfl (.inl ⟨rfl,rfl⟩) (.inr ⟨_,_,rfl,rfl⟩) a aC ?_;intro b3 aX;refine qr (A4 (iJ x1) Ty.pJ Ty.nx (oQ _) rfl (d.held (HB.cons 0 d c rfl HB.nil) (by simp)) (λq u h=>o5 (post:=[]) rfl h)) ?_;refine qx (kN (t:=lV) (vs:=[.agg (iJ x1)]) (xs:=[x1]) rX Ty.CY rfl ⟨⟨rfl,D⟩,trivial⟩ rfl rfl c) ?_;rintro b7 bB U;refine qh 1 d U ?_;have V:=U.lb lV;refine qx (sM (t:=lV) 0 rX Ty.CY Ty.Ms rfl rfl V rfl ((aX.mono A).src V.agree) aD) ?_;rintro b8 bC I;refine qh 2 d I ?_;refine qx (sM (t:=lV) 0 rX Ty.CY Ty.Ms rfl rfl I rfl (I.mi (k:=1) rfl) aH) ?_;rintro b9 bD J;refine qh 2 d J ?_;obtain⟨b0,aJ,b1,aK,H⟩:=iG H;refine ax ?_;refine wO e (x0.length:Int) rfl rfl rfl rfl rX Ty.nx rfl (.inr ⟨_,_,rfl,rfl⟩) (.inl ⟨rfl,rfl⟩) a aJ ?_;intro b4 aY;refine ap 0 J ((aY.mono A).src J.agree) aK ?_;intro bf bE ar;refine au ?_;obtain⟨am,b2,a9,a4⟩:=ar.kh 0 [1,2] rfl (by decide) (by decide);obtain rfl:=oi H;refine qt ?_;exact⟨am,bf,rfl,a9,a4.pick [] (by decide)⟩
end
end Go.Wk.Lf
end
