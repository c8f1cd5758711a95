/-  -/
import Derived.Test.YtfhalkdoeiadgaaGreatG7
set_option linter.unusedVariables false
set_option linter.unusedSimpArgs false
open Bool renaming eq_false_or_eq_true→nk
open Go.Proofs.Tryz renaming prog→il, underlying109→rX, underlying163→EK, underlying164→uY, underlying166→np, underlying24→kR, underlying3→mH, underlying31→lL, underlying5→p7, underlying59→ov, underlying78→p9, underlying82→uZ, underlying9→wH
open List renaming eq_nil_of_length_eq_zero→nK, length_replicate→vL, length_set→AV, replicate→iV
open Nat renaming le_of_ble_eq_true→kY, zero_add→jn
open UInt32 renaming ofNat→kQ
section
namespace Go.Wk.Lf
open Go.V Go.Proofs
noncomputable section
set_option maxRecDepth 100000
variable{K:Tb}{F:gL}{w:Hp}
def kv.k2(a:List UInt8):Option (List UInt8) :=
  some a
def kv.l3(d:List UInt32)(c:(Int×(List UInt8))→Option (List UInt8)):(Int×(List UInt8))→Option (List UInt8)
  | (a,b) =>
    if decide (a<32)then
      bd (ix d (wr (a.tdiv 4))) λe =>
      bd (C3 e (wr (24-wr (8*a.tmod 4)))) λf =>
      bd (ix b a) λg =>
      c (wr (a+1),(b.set a.toNat f.toUInt8))
    else
      kv.k2 b
def kv.k1(a:List UInt32):Option (List UInt8) :=
  loop (kv.l3 a) (0,(iV 32 (0:UInt8)))
def kv.k5(a:List UInt8)(c:((List UInt8)×(List UInt32))→Option (List UInt8))(d:List UInt32):Option (List UInt8) :=
  bd (cut (α:=UInt8) a 64 (a.length:Int)) λb =>
  c (b,d)
def kv.l8(c:List UInt8)(d:((List UInt8)×(List UInt32))→Option (List UInt8))(f:List UInt32)(e:(Int×(List UInt32))→Option (List UInt8)):(Int×(List UInt32))→Option (List UInt8)
  | (a,b) =>
    if decide (a<8)then
      bd (ix b a) λg =>
      bd (ix f a) λh =>
      bd (ix b a) λi =>
      e (wr (a+1),(b.set a.toNat (g+h)))
    else
      kv.k5 c d b
def kv.k7(a:List UInt8)(c:List UInt32)(b:((List UInt8)×(List UInt32))→Option (List UInt8))(d:List UInt32):Option (List UInt8) :=
  loop (kv.l8 a b d) (0,c)
def kv.l9(r:(List UInt32))(m:List UInt8)(v:List UInt32)(s:((List UInt8)×(List UInt32))→Option (List UInt8))(x:List UInt32)(u:(Int×(List UInt32))→Option (List UInt8)):(Int×(List UInt32))→Option (List UInt8)
  | (d,a) =>
    if decide (d<64)then
      bd (ix a 4) λb =>
      bd (ix a 0) λc =>
      bd (qX b (-6)) λe =>
      bd (qX b (-11)) λf =>
      bd (qX b (-25)) λg =>
      bd (ix a 7) λh =>
      bd (ix a 5) λi =>
      bd (ix a 6) λj =>
      bd (ix r d) λk =>
      bd (ix x d) λl =>
      bd (qX c (-2)) λn =>
      bd (qX c (-13)) λp =>
      bd (qX c (-22)) λq =>
      bd (ix a 1) λy =>
      bd (ix a 2) λz =>
      bd (ix a 1) λA =>
      bd (ix a 2) λB =>
      bd (ix a 1) λD =>
      bd (ix a 2) λG =>
      bd (ix a 3) λI =>
      bd (ix a 5) λJ =>
      bd (ix a 6) λL =>
      u (wr (d+1),([(((((h+((e ^^^f) ^^^g))+((b &&& i) ^^^((~~~b) &&& j)))+k)+l)+(((n ^^^p) ^^^q)+(((c &&& y) ^^^(c &&& z)) ^^^(A &&& B)))),c,D,G,(I+((((h+((e ^^^f) ^^^g))+((b &&& i) ^^^((~~~b) &&& j)))+k)+l)),b,J,L]:List UInt32))
    else
      kv.k7 m v s a
def kv.k6(c:(List UInt32))(b:List UInt8)(a:List UInt32)(d:((List UInt8)×(List UInt32))→Option (List UInt8))(e:List UInt32):Option (List UInt8) :=
  loop (kv.l9 c b a d e) (0,a)
def kv.sy(a:Int)(b:(Int×(List UInt32))→Option (List UInt8))(c:List UInt32):Option (List UInt8) :=
  b (wr (a+1),c)
def kv.mc(m:(List UInt32))(e:List UInt8)(p:List UInt32)(n:((List UInt8)×(List UInt32))→Option (List UInt8))(f:(Int×(List UInt32))→Option (List UInt8)):(Int×(List UInt32))→Option (List UInt8)
  | (a,b) =>
    if decide (a<64)then
      if decide (a<16)then
        bd (cut (α:=UInt8) e (wr (4*a)) (wr (wr (4*a)+4))) λg =>
        bd (yv g) λh =>
        bd (ix b a) λs =>
        kv.sy a f (b.set a.toNat (EA h))
      else
        bd (ix b (wr (a-15))) λc =>
        bd (ix b (wr (a-2))) λd =>
        bd (qX c (-7)) λi =>
        bd (qX c (-18)) λj =>
        bd (qX d (-17)) λk =>
        bd (qX d (-19)) λl =>
        bd (ix b (wr (a-16))) λq =>
        bd (ix b (wr (a-7))) λr =>
        bd (ix b a) λu =>
        kv.sy a f (b.set a.toNat (((q+((i ^^^j) ^^^(c >>> kQ 3)))+r)+((k ^^^l) ^^^(d >>> kQ 10))))
    else
      kv.k6 m e p n b
def kv.l4(c:(List UInt32))(d:((List UInt8)×(List UInt32))→Option (List UInt8)):((List UInt8)×(List UInt32))→Option (List UInt8)
  | (a,b) =>
    if decide (0<(a.length:Int))then
      loop (kv.mc c a b d) (0,(iV 64 (0:UInt32)))
    else
      kv.k1 b
def kv(x0:List (List UInt8)):Option (List UInt8) :=
  bd (qF x0) λa =>
  bd (L6) λc =>
  bd (rT a) λb =>
  loop (kv.l4 c) (b,([1779033703,3144134277,1013904242,2773480762,1359893119,2600822924,528734635,1541459225]:List UInt32))
set_option maxHeartbeats 2000000 in
theorem agL{x0:List (List UInt8)}{r:(List UInt8)}{v0:gE}(hA:Gd F w)(h0:iq (o6 tB) F v0 x0)(H:kv x0=some r):iN il K 81 [v0] w λv w'=>∃(F':gL),v = .agg (iJ r)∧(r).length=32∧St [] w F F' [] w':=by
 refine lg Tryz.func81 ?_;have hS:=St.start hA;refine qs ?_;refine xm (o9 (cs:=iJ (iV 32 (0:UInt8))) Ty.B2 rfl hS) ?_;rintro _ w1 ⟨c,rfl,b0⟩;obtain⟨r2,dn,H⟩:=iy H;refine ax ?_;refine lm (ahy b0.iH h0 dn) ?_;rintro eN w3 ⟨ev,_,rfl,bE⟩;have cw:=b0.call bE;have eF:=bE.ext;refine ax ?_;refine qr (Hk (vs:=nW 0 ([1779033703,3144134277,1013904242,2773480762,1359893119,2600822924,528734635,1541459225]:List UInt32)) (v:=.agg (jL 8 cW 0 ([1779033703,3144134277,1013904242,2773480762,1359893119,2600822924,528734635,1541459225]:List UInt32))) Ty.J8 rfl rfl) ?_;refine xm (o9 (cs:=jL 8 cW 0 (iV 8 (0:UInt32))) Ty.Mr rfl cw) ?_;rintro _ w4 ⟨d,rfl,ey⟩;refine sb 0 (jL 8 cW 0 ([1779033703,3144134277,1013904242,2773480762,1359893119,2600822924,528734635,1541459225]:List UInt32)) ?_;intro w5 b9;obtain⟨A,dr,H⟩:=iy H;refine ax ?_;refine lm (agO b9.iH dr) ?_;rintro g w7 ⟨bz,_,rfl,bF⟩;have aU:=b9.call bF;have eG:=bF.ext;refine au ?_;refine iL (λE wq=>∃s9:List UInt32,kv.k1 s9=some r ∧ ∃(F8:gL),E=[(2,pl c 0),(4,pl d 0)]∧bz.le F8∧(s9).length=8∧iW aU [.box d (jL 8 cW 0 s9),.box c (iJ (iV 32 (0:UInt8)))] F8 wq) ?_ ?_
 ·obtain ⟨eJ,dq,H⟩:=iy H;refine aq ?_;refine lm (agN (Gd.now aU.wf) (aU.ni (k:=2) rfl) dq) ?_;rintro er fi ⟨ew,_,rfl,c0⟩;have b8:=aU.Pz c0 ⟨fun _ _ _ h=>Wq (t:=tB) (fun h=>h) h,trivial⟩;refine ax ?_;refine jH (fun (s:(List UInt8) × (List UInt32)) E wq=>∃ (P:gL) (u:gE),E=[(2,pl c 0),(4,pl d 0),(5,g),(6,u)]∧bz.le P∧iq tB P u s.1∧(s.2).length=8∧iW b8 [.row tW g A,.box d (jL 8 cW 0 s.2),.box c (iJ (iV 32 (0:UInt8)))] P wq) H ?_ ?_
  ·obtain⟨eu,e7,c7,ct⟩:=b8.kh 0 [1,2,3,4] rfl (by decide) (by decide);exact lo ⟨_,er,rfl,iI,c7,rfl,pk [0,1,3] ct⟩
  ·rintro bs ⟨aV,B⟩ E fj hI H
   try dsimp only at hI
   obtain⟨P,u,rfl,e8,bY,bn,bj⟩:=hI;refine ay ?_;refine qy H (λc4 H=>?_) (λc4 H=>?_)
   ·refine qk ?_;refine iL (λE wq=>∃aY:List UInt32,kv.k5 aV bs aY=some r ∧ ∃(bf:gL),E=[(2,pl c 0),(4,pl d 0),(5,g),(6,u)]∧P.le bf∧(aY).length=8∧iW bj [.row tW g A,.box d (jL 8 cW 0 aY),.box c (iJ (iV 32 (0:UInt8)))] bf wq) ?_ ?_
    ·refine ax ?_;refine xm (o9 (cs:=jL 64 cW 0 (iV 64 (0:UInt32))) Ty.Mq rfl bj) ?_;rintro _ fm ⟨G,rfl,bk⟩;refine qn ?_;refine iL (λE wq=>∃a8:List UInt32,kv.k6 A aV B bs a8=some r ∧ ∃(ak:gL),E=[(2,pl c 0),(4,pl d 0),(5,g),(6,u),(7,pl G 0)]∧P.le ak∧(a8).length=64∧iW bk [.box G (jL 64 cW 0 a8),.row tW g A,.box d (jL 8 cW 0 B),.box c (iJ (iV 32 (0:UInt8)))] ak wq) ?_ ?_
     ·refine ax ?_;refine jH (λ(s:Int×(List UInt32)) E wq=>∃(Z:gL),E=[(2,pl c 0),(4,pl d 0),(5,g),(6,u),(7,pl G 0),(35,.i .i64 s.1)]∧P.le Z∧(s.2).length=64∧iW bk [.box G (jL 64 cW 0 s.2),.row tW g A,.box d (jL 8 cW 0 B),.box c (iJ (iV 32 (0:UInt8)))] Z wq) H ?_ ?_
      ·exact lo ⟨_,rfl,iI,(vL),bk⟩
      ·rintro ep ⟨L,a7⟩ E eV hI H
       try dsimp only at hI
       obtain⟨Z,rfl,e4,e,I⟩:=hI;refine ay ?_;refine qy H (λc1 H=>?_) (λc1 H=>?_)
       ·refine qk ?_;refine iL (λE wq=>∃aX:List UInt32,kv.sy L ep aX=some r ∧ ∃(be:gL),E=[(2,pl c 0),(4,pl d 0),(5,g),(6,u),(7,pl G 0),(35,.i .i64 L)]∧Z.le be∧(aX).length=64∧iW I [.box G (jL 64 cW 0 aX),.row tW g A,.box d (jL 8 cW 0 B),.box c (iJ (iV 32 (0:UInt8)))] be wq) ?_ ?_
        ·refine ay ?_;refine qy H (λc2 H=>?_) (λc2 H=>?_)
         ·obtain⟨e1,cA,ch,di,H⟩:=iG H;obtain⟨f0,dx,H⟩:=iy H;refine aq ?_;refine wO (wr (4*L)) (wr (wr (4*L)+4)) rfl rfl rfl rfl lL Ty.pD rfl (.inr ⟨_,_,rfl,rfl⟩) (.inr ⟨_,_,rfl,rfl⟩) bY cA ?_;intro eH dv;refine lp (agM I.iH (mo dv) di) I ?_;intro eX cq;refine qr (ml Tryz.underlying194 EK rfl (aie _)) ?_;obtain⟨cN,bo⟩:=iD dx;refine qr (kD uY Ty.kM rfl rfl cN (jZ e bo)) ?_;refine um (Ce (cs':=jL 64 cW 0 (a7.set L.toNat (EA ch))) 0 rfl rfl cq rfl rfl Ty.kM (by rw[Ft,jn];exact(jZ e bo)) (DF e (jZ e bo) _)) ?_;rintro _ eZ cr;refine ax ?_;exact nj ⟨(a7.set L.toNat (EA ch)),H,⟨Z,rfl,iI,(by rw[AV];exact e),cr⟩⟩
         ·refine ay ?_;obtain⟨aj,bT,bb,bU,H⟩:=iG H;refine rn ?_;refine au ?_;obtain⟨cO,dM⟩:=iD bT;refine qr (kD uY Ty.kM rfl rfl cO (jZ e dM)) ?_;obtain⟨_,dN⟩:=iD bT;refine qr (lN 0 Ty.lO rfl I rfl (by rw[jn];exact lR e dN)) ?_;refine au ?_;obtain⟨cP,dO⟩:=iD bU;refine qr (kD uY Ty.kM rfl rfl cP (jZ e dO)) ?_;obtain⟨_,dP⟩:=iD bU;refine qr (lN 0 Ty.lO rfl I rfl (by rw[jn];exact lR e dP)) ?_;obtain⟨U,dj,V,dk,H⟩:=iG H;refine ax ?_;refine lp (Au I.iH dj) I ?_;intro fb b4;refine qc ?_;refine lp (Au b4.iH dk) b4 ?_;intro fc b5;refine qr (iB rfl rfl ((mR (.inr (.inr rfl))).trans (congrArg (λz=>some (gE.i .u32 z)) (Go.Wk.u32_xor U V)))) ?_;refine qc ?_;refine qr (iB rfl rfl ((vh (by decide) (by decide)).trans (congrArg (λz=>some (gE.i .u32 z)) (Jk _ _ 3 rfl (by decide))))) ?_;refine qr (iB rfl rfl ((mR (.inr (.inr rfl))).trans (congrArg (λz=>some (gE.i .u32 z)) (Go.Wk.u32_xor (U ^^^V) (aj >>> kQ 3))))) ?_;obtain⟨a5,dl,a6,dm,H⟩:=iG H;refine ax ?_;refine lp (Au b5.iH dl) b5 ?_;intro fd b6;refine qc ?_;refine lp (Au b6.iH dm) b6 ?_;intro fe aT;refine qr (iB rfl rfl ((mR (.inr (.inr rfl))).trans (congrArg (λz=>some (gE.i .u32 z)) (Go.Wk.u32_xor a5 a6)))) ?_;refine qc ?_;refine qr (iB rfl rfl ((vh (by decide) (by decide)).trans (congrArg (λz=>some (gE.i .u32 z)) (Jk _ _ 10 rfl (by decide))))) ?_;refine qr (iB rfl rfl ((mR (.inr (.inr rfl))).trans (congrArg (λz=>some (gE.i .u32 z)) (Go.Wk.u32_xor (a5 ^^^a6) (bb >>> kQ 10))))) ?_;refine au ?_;obtain⟨aD,bV,bc,bW,H⟩:=iG H;obtain⟨f1,dy,H⟩:=iy H;refine rf aT ?_;refine au ?_;obtain⟨cQ,dQ⟩:=iD bV;refine qr (kD uY Ty.kM rfl rfl cQ (jZ e dQ)) ?_;obtain⟨_,dR⟩:=iD bV;refine qq (lN 0 Ty.lO rfl aT rfl (by rw[jn];exact lR e dR)) ?_;refine qc ?_;refine qr (iB rfl rfl (congrArg (λz=>some (gE.i .u32 z)) (qH aD ((U ^^^V) ^^^(aj >>> kQ 3))))) ?_
          refine au ?_;obtain⟨cR,dS⟩:=iD bW;refine qr (kD uY Ty.kM rfl rfl cR (jZ e dS)) ?_;obtain⟨_,dT⟩:=iD bW;refine qq (lN 0 Ty.lO rfl aT rfl (by rw[jn];exact lR e dT)) ?_;refine qr (iB rfl rfl (congrArg (λz=>some (gE.i .u32 z)) (qH (aD+((U ^^^V) ^^^(aj >>> kQ 3))) bc))) ?_;refine qc ?_;refine qr (iB rfl rfl (congrArg (λz=>some (gE.i .u32 z)) (qH ((aD+((U ^^^V) ^^^(aj >>> kQ 3)))+bc) ((a5 ^^^a6) ^^^(bb >>> kQ 10))))) ?_;obtain⟨cS,bp⟩:=iD dy;refine qr (kD uY Ty.kM rfl rfl cS (jZ e bp)) ?_;refine qu (Ce (cs':=jL 64 cW 0 (a7.set L.toNat (((aD+((U ^^^V) ^^^(aj >>> kQ 3)))+bc)+((a5 ^^^a6) ^^^(bb >>> kQ 10))))) 0 rfl rfl aT rfl rfl Ty.kM (by rw[Ft,jn];exact(jZ e bp)) (DF e (jZ e bp) _)) ?_;rintro _ ff b7;refine qw b7 ?_;refine ax ?_;exact nj ⟨(a7.set L.toNat (((aD+((U ^^^V) ^^^(aj >>> kQ 3)))+bc)+((a5 ^^^a6) ^^^(bb >>> kQ 10)))),H,⟨Z,rfl,iI,(by rw[AV];exact e),b7⟩⟩
        ·rintro E eW ⟨aX,H,be,rfl,e5,c9,cp⟩;refine ax ?_;exact nm H ⟨_,rfl,iI,c9,cp⟩
       ·refine jf _ rfl ?_;exact nj ⟨a7,H,⟨_,rfl,iI,e,I⟩⟩
     ·rintro E fn ⟨a8,H,ak,rfl,eA,bH,cy⟩;refine aq ?_;refine xm (o9 (cs:=jL 8 cW 0 (iV 8 (0:UInt32))) Ty.Mr rfl cy) ?_;rintro _ fo ⟨ad,rfl,ez⟩;refine sb 0 (jL 8 cW 0 B) ?_;intro fp bm;refine qn ?_;refine iL (λE wq=>∃a9:List UInt32,kv.k7 aV B bs a9=some r ∧ ∃(aK:gL),E=[(2,pl c 0),(4,pl d 0),(5,g),(6,u),(13,pl ad 0)]∧ak.le aK∧(a9).length=8∧iW bm [.box ad (jL 8 cW 0 a9),.row tW g A,.box d (jL 8 cW 0 B),.box c (iJ (iV 32 (0:UInt8)))] aK wq) ?_ ?_
      ·refine ax ?_;refine jH (λ(s:Int×(List UInt32)) E wq=>∃(bg:gL),E=[(2,pl c 0),(4,pl d 0),(5,g),(6,u),(7,pl G 0),(13,pl ad 0),(92,.i .i64 s.1)]∧ak.le bg∧(s.2).length=8∧iW bm [.box ad (jL 8 cW 0 s.2),.box G (jL 64 cW 0 a8),.row tW g A,.box d (jL 8 cW 0 B),.box c (iJ (iV 32 (0:UInt8)))] bg wq) H ?_ ?_
       ·exact lo ⟨_,rfl,iI,bn,bm⟩
       ·rintro eM ⟨e0,eq⟩ E fu hI H
        try dsimp only at hI
        obtain⟨bg,rfl,eD,b,a4⟩:=hI;refine ay ?_;refine qy H (λc6 H=>?_) (λc6 H=>?_)
        ·refine ay ?_;obtain⟨a,cb,f,cc,H⟩:=iG H;refine rn ?_;obtain⟨cZ,ea⟩:=iD cb;refine qr (kD np Ty.kM rfl rfl cZ (jZ b ea)) ?_;obtain⟨_,eb⟩:=iD cb;refine qr (lN 0 Ty.lO rfl a4 rfl (by rw[jn];exact lR b eb)) ?_;obtain⟨da,ec⟩:=iD cc;refine qr (kD np Ty.kM rfl rfl da (jZ b ec)) ?_;obtain⟨_,ed⟩:=iD cc;refine qr (lN 0 Ty.lO rfl a4 rfl (by rw[jn];exact lR b ed)) ?_;obtain⟨j,ds,l,dt,H⟩:=iG H;obtain⟨m,du,H⟩:=iy H;refine ax ?_;refine lp (Au a4.iH ds) a4 ?_;intro fx bC;refine qc ?_;refine lp (Au bC.iH dt) bC ?_;intro fy bD;refine qr (iB rfl rfl ((mR (.inr (.inr rfl))).trans (congrArg (λz=>some (gE.i .u32 z)) (Go.Wk.u32_xor j l)))) ?_;refine qc ?_;refine lp (Au bD.iH du) bD ?_;intro fz Q;refine qr (iB rfl rfl ((mR (.inr (.inr rfl))).trans (congrArg (λz=>some (gE.i .u32 z)) (Go.Wk.u32_xor (j ^^^l) m)))) ?_;refine ay ?_;obtain⟨q,cd,n,ce,H⟩:=iG H;obtain⟨p,cf,x,d2,H⟩:=iG H;obtain⟨D,cg,H⟩:=iy H;refine rn ?_;obtain⟨db,ee⟩:=iD cd;refine qr (kD np Ty.kM rfl rfl db (jZ b ee)) ?_;obtain⟨_,ef⟩:=iD cd;refine qr (lN 0 Ty.lO rfl Q rfl (by rw[jn];exact lR b ef)) ?_;refine qc ?_;refine qr (iB rfl rfl (congrArg (λz=>some (gE.i .u32 z)) (qH q ((j ^^^l) ^^^m)))) ?_;refine qc ?_;obtain⟨dc,eg⟩:=iD ce;refine qr (kD np Ty.kM rfl rfl dc (jZ b eg)) ?_;obtain⟨_,eh⟩:=iD ce;refine qr (lN 0 Ty.lO rfl Q rfl (by rw[jn];exact lR b eh)) ?_;refine qr (iB rfl rfl ((mR (.inl rfl)).trans (congrArg (λz=>some (gE.i .u32 z)) (Go.Wk.u32_and a n)))) ?_;refine qc ?_;refine qr (Sy rfl (Xq a)) ?_;obtain⟨dd,ei⟩:=iD cf;refine qr (kD np Ty.kM rfl rfl dd (jZ b ei)) ?_;obtain⟨_,ej⟩:=iD cf;refine qr (lN 0 Ty.lO rfl Q rfl (by rw[jn];exact lR b ej)) ?_;refine qr (iB rfl rfl ((mR (.inl rfl)).trans (congrArg (λz=>some (gE.i .u32 z)) (Go.Wk.u32_and (~~~a) p)))) ?_
         refine qr (iB rfl rfl ((mR (.inr (.inr rfl))).trans (congrArg (λz=>some (gE.i .u32 z)) (Go.Wk.u32_xor (a &&& n) ((~~~a) &&& p))))) ?_;refine qr (iB rfl rfl (congrArg (λz=>some (gE.i .u32 z)) (qH (q+((j ^^^l) ^^^m)) ((a &&& n) ^^^((~~~a) &&& p))))) ?_;obtain⟨_,rfl,_⟩:=mw 1 2 Q d2;refine au ?_;refine qr (iB rfl rfl (congrArg (λz=>some (gE.i .u32 z)) (qH ((q+((j ^^^l) ^^^m))+((a &&& n) ^^^((~~~a) &&& p))) x))) ?_;refine qc ?_;obtain⟨de,ek⟩:=iD cg;refine qr (kD uY Ty.kM rfl rfl de (jZ bH ek)) ?_;obtain⟨_,d3⟩:=iD cg;refine qr (lN 1 Ty.lO rfl Q rfl (by rw[jn];exact lR bH d3)) ?_;refine qr (iB rfl rfl (congrArg (λz=>some (gE.i .u32 z)) (qH (((q+((j ^^^l) ^^^m))+((a &&& n) ^^^((~~~a) &&& p)))+x) D))) ?_;obtain⟨R,df,S,dg,H⟩:=iG H;obtain⟨ah,dh,H⟩:=iy H;refine ax ?_;refine lp (Au Q.iH df) Q ?_;intro eP b1;refine qc ?_;refine lp (Au b1.iH dg) b1 ?_;intro eQ b2;refine qr (iB rfl rfl ((mR (.inr (.inr rfl))).trans (congrArg (λz=>some (gE.i .u32 z)) (Go.Wk.u32_xor R S)))) ?_;refine qc ?_;refine lp (Au b2.iH dh) b2 ?_;intro eR y;refine qr (iB rfl rfl ((mR (.inr (.inr rfl))).trans (congrArg (λz=>some (gE.i .u32 z)) (Go.Wk.u32_xor (R ^^^S) ah)))) ?_;obtain⟨M,bJ,O,bK,H⟩:=iG H;obtain⟨X,bM,Y,bN,H⟩:=iG H;refine ax ?_;obtain⟨cE,d4⟩:=iD bJ;refine qr (kD np Ty.kM rfl rfl cE (jZ b d4)) ?_;obtain⟨_,d5⟩:=iD bJ;refine qr (lN 0 Ty.lO rfl y rfl (by rw[jn];exact lR b d5)) ?_;refine qr (iB rfl rfl ((mR (.inl rfl)).trans (congrArg (λz=>some (gE.i .u32 z)) (Go.Wk.u32_and f M)))) ?_;refine qc ?_;obtain⟨cF,d6⟩:=iD bK;refine qr (kD np Ty.kM rfl rfl cF (jZ b d6)) ?_;obtain⟨_,d7⟩:=iD bK;refine qr (lN 0 Ty.lO rfl y rfl (by rw[jn];exact lR b d7)) ?_;refine qr (iB rfl rfl ((mR (.inl rfl)).trans (congrArg (λz=>some (gE.i .u32 z)) (Go.Wk.u32_and f O)))) ?_
         refine qr (iB rfl rfl ((mR (.inr (.inr rfl))).trans (congrArg (λz=>some (gE.i .u32 z)) (Go.Wk.u32_xor (f &&& M) (f &&& O))))) ?_;obtain⟨cG,d8⟩:=iD bM;refine qr (kD np Ty.kM rfl rfl cG (jZ b d8)) ?_;obtain⟨_,d9⟩:=iD bM;refine qr (lN 0 Ty.lO rfl y rfl (by rw[jn];exact lR b d9)) ?_;obtain⟨cH,dA⟩:=iD bN;refine qr (kD np Ty.kM rfl rfl cH (jZ b dA)) ?_;obtain⟨_,dB⟩:=iD bN;refine qr (lN 0 Ty.lO rfl y rfl (by rw[jn];exact lR b dB)) ?_;refine qr (iB rfl rfl ((mR (.inl rfl)).trans (congrArg (λz=>some (gE.i .u32 z)) (Go.Wk.u32_and X Y)))) ?_;refine qr (iB rfl rfl ((mR (.inr (.inr rfl))).trans (congrArg (λz=>some (gE.i .u32 z)) (Go.Wk.u32_xor ((f &&& M) ^^^(f &&& O)) (X &&& Y))))) ?_;refine qr (iB rfl rfl (congrArg (λz=>some (gE.i .u32 z)) (qH ((R ^^^S) ^^^ah) (((f &&& M) ^^^(f &&& O)) ^^^(X &&& Y))))) ?_;obtain⟨bt,bO,bu,bP,H⟩:=iG H;obtain⟨ba,bQ,bv,bR,H⟩:=iG H;obtain⟨bw,bS,H⟩:=iy H;refine ax ?_;refine qr (iB rfl rfl (congrArg (λz=>some (gE.i .u32 z)) (qH ((((q+((j ^^^l) ^^^m))+((a &&& n) ^^^((~~~a) &&& p)))+x)+D) (((R ^^^S) ^^^ah)+(((f &&& M) ^^^(f &&& O)) ^^^(X &&& Y)))))) ?_;refine qc ?_;obtain⟨cI,dC⟩:=iD bO;refine qr (kD np Ty.kM rfl rfl cI (jZ b dC)) ?_;obtain⟨_,dD⟩:=iD bO;refine qr (lN 0 Ty.lO rfl y rfl (by rw[jn];exact lR b dD)) ?_;obtain⟨cJ,dE⟩:=iD bP;refine qr (kD np Ty.kM rfl rfl cJ (jZ b dE)) ?_;obtain⟨_,dF⟩:=iD bP;refine qr (lN 0 Ty.lO rfl y rfl (by rw[jn];exact lR b dF)) ?_;obtain⟨cK,dG⟩:=iD bQ;refine qr (kD np Ty.kM rfl rfl cK (jZ b dG)) ?_;obtain⟨_,dH⟩:=iD bQ;refine qr (lN 0 Ty.lO rfl y rfl (by rw[jn];exact lR b dH)) ?_;refine qc ?_;refine qr (iB rfl rfl (congrArg (λz=>some (gE.i .u32 z)) (qH ba ((((q+((j ^^^l) ^^^m))+((a &&& n) ^^^((~~~a) &&& p)))+x)+D)))) ?_
         refine qc ?_;obtain⟨cL,dI⟩:=iD bR;refine qr (kD np Ty.kM rfl rfl cL (jZ b dI)) ?_;obtain⟨_,dJ⟩:=iD bR;refine qr (lN 0 Ty.lO rfl y rfl (by rw[jn];exact lR b dJ)) ?_;obtain⟨cM,dK⟩:=iD bS;refine qr (kD np Ty.kM rfl rfl cM (jZ b dK)) ?_;obtain⟨_,dL⟩:=iD bS;refine qr (lN 0 Ty.lO rfl y rfl (by rw[jn];exact lR b dL)) ?_;refine qr (Hk (vs:=nW 0 ([(((((q+((j ^^^l) ^^^m))+((a &&& n) ^^^((~~~a) &&& p)))+x)+D)+(((R ^^^S) ^^^ah)+(((f &&& M) ^^^(f &&& O)) ^^^(X &&& Y)))),f,bt,bu,(ba+((((q+((j ^^^l) ^^^m))+((a &&& n) ^^^((~~~a) &&& p)))+x)+D)),a,bv,bw]:List UInt32)) (v:=.agg (jL 8 cW 0 ([(((((q+((j ^^^l) ^^^m))+((a &&& n) ^^^((~~~a) &&& p)))+x)+D)+(((R ^^^S) ^^^ah)+(((f &&& M) ^^^(f &&& O)) ^^^(X &&& Y)))),f,bt,bu,(ba+((((q+((j ^^^l) ^^^m))+((a &&& n) ^^^((~~~a) &&& p)))+x)+D)),a,bv,bw]:List UInt32))) Ty.J8 rfl rfl) ?_;refine sb 0 (jL 8 cW 0 ([(((((q+((j ^^^l) ^^^m))+((a &&& n) ^^^((~~~a) &&& p)))+x)+D)+(((R ^^^S) ^^^ah)+(((f &&& M) ^^^(f &&& O)) ^^^(X &&& Y)))),f,bt,bu,(ba+((((q+((j ^^^l) ^^^m))+((a &&& n) ^^^((~~~a) &&& p)))+x)+D)),a,bv,bw]:List UInt32)) ?_;intro eU co;refine ax ?_;exact nm H ⟨_,rfl,iI,rfl,co⟩
        ·refine jf _ rfl ?_;exact nj ⟨eq,H,⟨_,rfl,iI,b,pk [0,2,3,4] a4⟩⟩
      ·rintro E fr ⟨a9,H,aK,rfl,eB,bI,bA⟩;refine ax ?_;refine jH (λ(s:Int×(List UInt32)) E wq=>∃(aO:gL),E=[(2,pl c 0),(4,pl d 0),(5,g),(6,u),(13,pl ad 0),(175,.i .i64 s.1)]∧aK.le aO∧(s.2).length=8∧iW bA [.box ad (jL 8 cW 0 a9),.row tW g A,.box d (jL 8 cW 0 s.2),.box c (iJ (iV 32 (0:UInt8)))] aO wq) H ?_ ?_
       ·exact lo ⟨_,rfl,iI,bn,bA⟩
       ·rintro eL ⟨en,cj⟩ E fs hI H
        try dsimp only at hI
        obtain⟨aO,rfl,eC,J,ar⟩:=hI;refine ay ?_;refine qy H (λc5 H=>?_) (λc5 H=>?_)
        ·refine ay ?_;obtain⟨cl,bZ,cm,ca,H⟩:=iG H;obtain⟨f4,d1,H⟩:=iy H;refine rf ar ?_;refine qc ?_;obtain⟨cV,dW⟩:=iD bZ;refine qr (kD np Ty.kM rfl rfl cV (jZ J dW)) ?_;obtain⟨_,dX⟩:=iD bZ;refine qq (lN 2 Ty.lO rfl ar rfl (by rw[jn];exact lR J dX)) ?_;refine qc ?_;obtain⟨cX,dY⟩:=iD ca;refine qr (kD np Ty.kM rfl rfl cX (jZ bI dY)) ?_;obtain⟨_,dZ⟩:=iD ca;refine qq (lN 0 Ty.lO rfl ar rfl (by rw[jn];exact lR bI dZ)) ?_;refine qr (iB rfl rfl (congrArg (λz=>some (gE.i .u32 z)) (qH cl cm))) ?_;obtain⟨cY,br⟩:=iD d1;refine qr (kD np Ty.kM rfl rfl cY (jZ J br)) ?_;refine qu (Ce (cs':=jL 8 cW 0 (cj.set en.toNat (cl+cm))) 2 rfl rfl ar rfl rfl Ty.kM (by rw[Ft,jn];exact(jZ J br)) (DF J (jZ J br) _)) ?_;rintro _ ft bB;refine qw bB ?_;refine ax ?_;exact nm H ⟨aO,rfl,iI,(by rw[AV];exact J),bB⟩
        ·refine ax ?_;exact nj ⟨cj,H,⟨_,rfl,iI,J,pk [1,2,3] ar⟩⟩
    ·rintro E fk ⟨aY,H,bf,rfl,e9,cC,cx⟩;obtain⟨e2,cD,H⟩:=iy H;refine ax ?_;refine wO 64 (aV.length:Int) rfl rfl rfl rfl lL Ty.pD rfl (.inr ⟨_,_,rfl,rfl⟩) (.inl ⟨rfl,rfl⟩) bY cD ?_;intro eo dw;refine ax ?_;exact nm H ⟨_,eo,rfl,iI,(mo dw),cC,cx⟩
   ·refine jf _ rfl ?_;exact nj ⟨B,H,⟨_,rfl,iI,bn,pk [1,2] bj⟩⟩
 ·rintro E w8 ⟨s9,H,F8,rfl,eE,bG,cz⟩;refine qs ?_;refine xm (o9 (cs:=iJ (iV 32 (0:UInt8))) Ty.B2 rfl cz) ?_;rintro _ eS ⟨aR,rfl,bh⟩;refine qn ?_;refine iL (λE wq=>∃ai:List UInt8,kv.k2 ai=some r ∧ ∃(aH:gL),E=[(2,pl c 0),(22,pl aR 0)]∧F8.le aH∧(ai).length=32∧iW bh [.box aR (iJ ai),.box c (iJ (iV 32 (0:UInt8)))] aH wq) ?_ ?_
  ·refine ax ?_;refine jH (λ(s:Int×(List UInt8)) E wq=>∃(aJ:gL),E=[(2,pl c 0),(4,pl d 0),(22,pl aR 0),(187,.i .i64 s.1)]∧F8.le aJ∧(s.2).length=32∧iW bh [.box aR (iJ s.2),.box d (jL 8 cW 0 s9),.box c (iJ (iV 32 (0:UInt8)))] aJ wq) H ?_ ?_
   ·exact lo ⟨_,rfl,iI,(vL),bh⟩
   ·rintro eK ⟨em,ci⟩ E fa hI H
    try dsimp only at hI
    obtain⟨aJ,rfl,e6,ae,bi⟩:=hI;refine ay ?_;refine qy H (λc3 H=>?_) (λc3 H=>?_)
    ·obtain⟨f2,bX,et,dz,H⟩:=iG H;obtain⟨f3,d0,H⟩:=iy H;refine ay ?_;refine qr (iB rfl rfl (by first|rfl|simp[kJ,tX])) ?_;obtain⟨cT,dU⟩:=iD bX;refine qr (kD np Ty.kM rfl rfl cT (jZ bG dU)) ?_;obtain⟨_,dV⟩:=iD bX;refine qr (lN 1 Ty.lO rfl bi rfl (by rw[jn];exact lR bG dV)) ?_;refine qc ?_;refine qr (iB rfl rfl (by first|rfl|simp[kJ,tX])) ?_;refine au ?_;refine qr (iB rfl rfl (J6 dz)) ?_;refine qr (ml EK p7 rfl (Xn _)) ?_;obtain⟨cU,bq⟩:=iD d0;refine qr (kD uZ Ty.pD rfl rfl cU (jZ ae bq)) ?_;refine um (Ce (cs':=iJ (ci.set em.toNat et.toUInt8)) 0 rfl rfl bi rfl rfl Ty.pD (by rw[BG,jn];exact(jZ ae bq)) (Vb ae (jZ ae bq) _)) ?_;rintro _ fg cu;refine ax ?_;exact nm H ⟨aJ,rfl,iI,(by rw[AV];exact ae),cu⟩
    ·refine jf _ rfl ?_;exact nj ⟨ci,H,⟨_,rfl,iI,ae,pk [0,2] bi⟩⟩
  ·rintro E eT ⟨ai,H,aH,rfl,e3,c8,ex⟩;refine aq ?_;refine sb 1 (iJ ai) ?_;intro eY b3;refine qn ?_;obtain rfl:=oi H;refine oH (vs:=[.agg (iJ ai)]) rfl ⟨(oJ 1 Ty.pJ Ty.nx b3 rfl rfl),trivial⟩ ?_;exact⟨aH,rfl,c8,b3.pick [] (by decide)⟩
def Kg(x0:List UInt8)(x1:List UInt8):Option Int :=
  bd (NF x0 x1) λa =>
  some a
theorem Ti[Kn (sN il) K]{x0:List UInt8}{x1:List UInt8}{r:Int}(hA:Gd F w)(b:x0.length=32)(c:x1.length=32)(H:Kg x0 x1=some r):iN il K 122 [.agg (iJ x0),.agg (iJ x1)] w λv w'=>∃(F':gL),v = .i .i64 r∧St [] w F F' [] w':=by
 refine kB Tryz.func122 ?_;have hS:=St.start hA;refine qs ?_;refine bx (iJ x0) ?_;intro s I y;refine bx (iJ x1) ?_;intro x J d;refine ay ?_;obtain⟨n,z,g,e⟩:=d.Cw 1 [0] rfl (by decide) (by decide);obtain⟨p,A,j,a⟩:=e.Cw 0 [] rfl (by decide) (by decide);obtain⟨G,k,H⟩:=iy H;refine rf a ?_;refine J0 rfl rfl rfl rfl uZ Ty.pD rfl (g.at (λq u h=>by simpa using h)) b ?_;intro B l;refine J0 rfl rfl rfl rfl uZ Ty.pD rfl (j.at (λq u h=>by simpa using h)) c ?_;intro D m;refine lq (Td a.iH (mo l) m k) a ?_;intro L f;exact rz H f
def Hy(x0:Chunk)(x1:List UInt8):Option Int :=
  bd (Kg x0.id x1) λa =>
  some a
theorem Tf[Kn (sN il) K]{x0:Chunk}{x1:List UInt8}{r:Int}{a:gE}{c:gE}(hA:Gd F w)(l:iq tB F a x0.data)(m:iq Loc.t F c x0.locs)(h:(x0.id).length=32)(e:x1.length=32)(H:Hy x0 x1=some r):iN il K 133 [.agg (Chunk.cells x0 a c),.agg (iJ x1)] w λv w'=>∃(F':gL),v = .i .i64 r∧St [] w F F' [] w':=by
 refine kB Tryz.func133 ?_;have hS:=St.start hA;refine qs ?_;refine bx (iJ x0.id++([.b x0.jD,a,c]:List gE)) ?_;intro j q n;refine bx (iJ x1) ?_;intro k s d;obtain⟨p,g,H⟩:=iy H;refine ax ?_;refine bl d 1 (iJ x0.id) [.b x0.jD,a,c] ?_;refine au ?_;refine lp (Ti d.iH h e g) d ?_;intro u f;exact rz H f
def yw.k1(x0:List Chunk)(x1:List UInt8)(a:Int):Option (Int×Bool) :=
  bd (only (decide (a<(x0.length:Int))) (ix x0 a) (Chunk.mk (iV 32 (0:UInt8)) false [] [])) λx4 =>
  bd (only (decide (a<(x0.length:Int))) (Hy x4 x1) 0) λb =>
  some (a,(decide (a<(x0.length:Int))&&decide (b=0)))
def yw.l2(x0:List Chunk)(x1:List UInt8)(c:(Int×Int)→Option (Int×Bool)):(Int×Int)→Option (Int×Bool)
  | (a,b) =>
    if decide (a<b)then
      bd (ix x0 (wr ((wu (wr (a+b)))/2^(1:Int).toNat))) λe =>
      bd (Hy e x1) λd =>
      if decide (d<0)then
        c (wr (wr ((wu (wr (a+b)))/2^(1:Int).toNat)+1),b)
      else
        c (a,wr ((wu (wr (a+b)))/2^(1:Int).toNat))
    else
      yw.k1 x0 x1 a
def yw(x0:List Chunk)(x1:List UInt8):Option (Int×Bool) :=
  loop (yw.l2 x0 x1) (0,(x0.length:Int))
theorem aho[Kn (sN il) K]{x0:List Chunk}{x1:List UInt8}{r:Int×Bool}{j:gE}(hA:Gd F w)(p:iq Chunk.t F j x0)(q:x1.length=32)(H:yw x0 x1=some r):iN il K 132 [j,.agg (iJ x1),.f 133 []] w λv w'=>∃(F':gL),v = .kx [.i .i64 r.1,.b r.2]∧St [] w F F' [] w':=by
 refine vH Tryz.func132 ?_;have hS:=St.start hA;refine qs ?_;refine bx (iJ x1) ?_;intro m w1 n;refine au ?_;refine aq ?_;refine aq ?_;refine iL (λE wq=>∃e:Int,yw.k1 x0 x1 e=some r ∧ ∃(d:gL),E=[(0,j),(2,.f 133 []),(4,pl m 0),(8,.i .i64 (x0.length:Int)),(9,.i .i64 e)]∧F.le d∧mq n d wq) ?_ ?_
 ·refine qZ ?_;refine jH (λ(s:Int×Int) E wq=>∃(k:gL),E=[(0,j),(2,.f 133 []),(4,pl m 0),(8,.i .i64 (x0.length:Int)),(9,.i .i64 s.1),(10,.i .i64 s.2)]∧F.le k∧mq n k wq) H ?_ ?_
  ·exact lo (jj n)
  ·rintro a6 ⟨Z,ar⟩ E aD hI H
   try dsimp only at hI
   obtain⟨k,rfl,ad,g⟩:=hI;refine ay ?_;refine qy H (λB H=>?_) (λB H=>?_)
   ·refine ax ?_;refine qr (ml mH p9 rfl (rfl)) ?_;refine qr (iB rfl rfl (vh (by decide) (by decide))) ?_;refine qr (ml p9 mH rfl (rfl)) ?_;refine ay ?_;obtain⟨aO,V,a5,O,H⟩:=iG H;refine rf g ?_;obtain⟨_,⟨a7,a8,rfl,I,Q,R⟩,am⟩:=js 35 (p.mono ad) V;refine au ?_;refine bL g 0 (iJ x1) [] ?_;refine lq (Tf g.iH Q R I q O) g ?_;intro aJ u;refine au ?_;refine qy H (λD H=>?_) (λD H=>?_)
    ·refine ax ?_;exact nm H (jj u)
    ·refine ax ?_;exact nm H (jj u)
   ·refine jf _ rfl ?_;exact nj ⟨Z,H,jj g⟩
 ·rintro E w2 ⟨e,H,d,rfl,ae,c⟩;refine kr ?_;obtain⟨x4,X,r6,P,H⟩:=iG H;refine sL (λE wq=>E=[(6,.i .i64 e),(7,.b (decide (e<(x0.length:Int))&&decide (r6=0)))] ∧ ∃l:gL,d.le l∧St [] w F l [.box m (iJ x1)] wq) ?_ ?_
  ·
   rcases nk (decide (e<(x0.length:Int)))with a|a
   ·refine rf c ?_;refine q3 ?_;refine qr (iB rfl rfl qv) ?_;refine qc ?_;refine kC 39 a ?_;refine q3 ?_;have y:=X;rw[jX a]at y;obtain⟨L,Y⟩:=iD y;obtain⟨ak,M,h⟩:=(p.mono ae).el Y;obtain⟨ai,aj,rfl,J,S,U⟩:=M;replace h:=qj 35 h;have G:=h.ky;refine qi Tryz.underlying25 Ty.nX G L ?_;refine qq (pw 0 (Chunk.cells x4 ai aj) Ty.Nn Ty.nX rfl (h.mono c.agree) (by first|omega|rfl) rfl (kY rfl)) ?_;refine bL c 0 (iJ x1) [] ?_;have x:=P;rw[jX a]at x;refine lq (Tf c.iH S U J q x) c ?_;intro aC z;refine qr (iB rfl rfl nQ) ?_;refine q3 ?_;refine ku ?_;exact lW _ ⟨rfl,d,(gL.le.refl _),z⟩ ⟨rfl,(lZ rfl (by first|rfl|(rw[a];first|done|rfl)|simp[a])),trivial⟩
   ·refine rf c ?_;refine q3 ?_;refine qr (iB rfl rfl qv) ?_;refine qc ?_;refine kC 39 a ?_;refine je ?_;refine je ?_;refine je ?_;refine je ?_;refine q3 ?_;refine ku ?_;exact lW _ ⟨rfl,d,(gL.le.refl _),c⟩ ⟨rfl,(lZ rfl (by first|rfl|(rw[a];first|done|rfl)|simp[a])),trivial⟩
  rintro E w7 ⟨rfl,l,a4,A⟩;refine nN ?_;exact rz H A
def FA(x0:List Chunk)(x1:List UInt8):Option (Int×Bool) :=
  bd (yw x0 x1) λa =>
  some (a.1,a.2)
theorem NH[Kn (sN il) K]{x0:List Chunk}{x1:List UInt8}{r:Int×Bool}{c:gE}(hA:Gd F w)(d:iq Chunk.t F c x0)(e:x1.length=32)(H:FA x0 x1=some r):iN il K 82 [c,.agg (iJ x1)] w λv w'=>∃(F':gL),v = .kx [.i .i64 r.1,.b r.2]∧St [] w F F' [] w':=by
 refine kB Tryz.func82 ?_;have hS:=St.start hA;refine qs ?_;refine bx (iJ x1) ?_;intro h k a;obtain⟨j,g,H⟩:=iy H;refine ax ?_;refine lp (aho a.iH d e g) a ?_;intro l f;exact rz H f
def CO(x0:mb)(x1:Int):Option ((List UInt8)×mb) :=
  if(x0.bad||decide ((x0.b.length:Int)<x1))then
    bd (rep x1 0) λmc =>
    some (mc,(mb.mk x0.b true))
  else
    bd (cut (α:=UInt8) x0.b 0 x1) λnF =>
    bd (cut (α:=UInt8) x0.b x1 (x0.b.length:Int)) λa =>
    some (nF,(mb.mk a x0.bad))
theorem Lw{X:List Nat}{x0:mb}{x1:Int}{r:(List UInt8)×mb}{jJ:Nat}{a:gE}(hS:St X w F F [.box jJ [a,.b x0.bad]] w)(c:iq tB F a (x0.b))(H:CO x0 x1=some r):iN il K 136 [pl jJ 0,.i .i64 x1] w λv w'=>∃(F':gL)(d:gE)(f:gE),v=d∧iq tB F' d (r.1)∧iq tB F' f (r.2.b)∧St X w F F' [.box jJ [f,.b r.2.bad]] w':=by
 refine kB Tryz.func136 ?_;refine aZ ?_;refine qy H (λm H=>?_) (λm H=>?_)
 ·refine aq ?_;refine sc 0 ([a,.b true]) ?_;intro I l;obtain⟨mc,p,H⟩:=iy H;refine ax ?_;refine xm (XK (t:=tB) (x0:=0) lL Ty.qD rfl rfl (XC Ty.Q5 rfl) p l) ?_;rintro z D h;refine au ?_;obtain⟨g,B,n,j⟩:=h.kh 0 [1] rfl (by decide) (by decide);obtain rfl:=oi H;refine qt ?_;exact⟨g,z,a,rfl,n,(mo c),j⟩
 ·obtain⟨nF,q,H⟩:=iy H;refine ax ?_;refine wO 0 x1 rfl rfl rfl rfl lL Ty.pD rfl (.inl ⟨rfl,rfl⟩) (.inr ⟨_,_,rfl,rfl⟩) c q ?_;intro y u;obtain⟨A,s,H⟩:=iy H;refine ax ?_;refine wO x1 (x0.b.length:Int) rfl rfl rfl rfl lL Ty.pD rfl (.inr ⟨_,_,rfl,rfl⟩) (.inl ⟨rfl,rfl⟩) c s ?_;intro e x;refine au ?_;refine sc 0 ([e,.b x0.bad]) ?_;intro G k;refine qn ?_;refine aq ?_;obtain rfl:=oi H;refine qt ?_;exact⟨F,y,e,rfl,u,x,k⟩
def vU.k1(x1:Int)(x2:Int)(a:Int):Option (Int×Int×Int) :=
  some (a,wr (x1+x2),0)
def vU.l2(x1:Int)(x2:Int)(nF:List UInt8)(c:(Int×Int)→Option (Int×Int×Int)):(Int×Int)→Option (Int×Int×Int)
  | (b,a) =>
    if decide (a<(nF.length:Int))then
      bd (ix nF a) λd =>
      c (bits .or .i64 (wr (b*2^(8:Int).toNat)) (d.toNat:Int),wr (a+1))
    else
      vU.k1 x1 x2 b
def vU(x0:List UInt8)(x1:Int)(x2:Int):Option (Int×Int×Int) :=
  if(((decide (x2<1)||decide (7<x2))||decide (x1<0))||decide ((x0.length:Int)<x1))then
    some (0,0,1)
  else
    if decide (wr ((x0.length:Int)-x1)<x2)then
      some (0,0,3)
    else
      bd (cut (α:=UInt8) x0 x1 (wr (x1+x2))) λnF =>
      loop (vU.l2 x1 x2 nF) (0,0)
theorem S5{x0:List UInt8}{x1:Int}{x2:Int}{r:Int×Int×Int}{e:gE}(hA:Gd F w)(f:iq tB F e x0)(H:vU x0 x1 x2=some r):iN il K 89 [e,.i .i64 x1,.i .i64 x2] w λv w'=>∃(F':gL),v = .kx [.i .i64 r.1,.i .i64 r.2.1,.i .i64 r.2.2]∧St [] w F F' [] w':=by
 refine vH Tryz.func89 ?_;have hS:=St.start hA;refine aZ ?_;refine qy H (λk H=>?_) (λk H=>?_)
 ·exact rz H hS
 ·refine aq ?_;refine qy H (λh H=>?_) (λh H=>?_)
  ·exact rz H hS
  ·refine s6 ?_;refine Sp ?_;refine nN ?_;refine iL (λE wq=>∃c:Int,vU.k1 x1 x2 c=some r ∧ ∃(a:gL),E=[(1,.i .i64 x1),(2,.i .i64 x2),(6,.i .i64 c)]∧F.le a∧mq hS a wq) ?_ ?_
   ·obtain⟨nF,l,H⟩:=iy H;refine aq ?_;refine wO x1 (wr (x1+x2)) rfl rfl rfl rfl lL Ty.pD rfl (.inr ⟨_,_,rfl,rfl⟩) (.inr ⟨_,_,rfl,rfl⟩) f l ?_;intro u m;refine ax ?_;refine jH (λ(s:Int×Int) E wq=>∃(b:gL),E=[(1,.i .i64 x1),(2,.i .i64 x2),(6,.i .i64 s.1),(40,u),(41,.i .i64 (nF.length:Int)),(42,.i .i64 s.2)]∧F.le b∧mq hS b wq) H ?_ ?_
    ·exact lo (jj hS)
    ·rintro z ⟨p,x⟩ E B hI H
     try dsimp only at hI
     obtain⟨b,rfl,q,d⟩:=hI;refine ay ?_;refine qy H (λj H=>?_) (λj H=>?_)
     ·obtain⟨D,n,H⟩:=iy H;obtain⟨_,rfl,_⟩:=js 1 (m.mono q) n;refine ay ?_;refine qr (iB rfl rfl (Hr (by decide) (by decide))) ?_;refine qc ?_;refine qr (ml p7 mH rfl (ain _)) ?_;refine qr (iB rfl rfl (mR (.inr (.inl rfl)))) ?_;refine ax ?_;exact nm H (jj d)
     ·refine jf _ rfl ?_;exact nj ⟨p,H,jj d⟩
   ·rintro E A ⟨c,H,a,rfl,y,g⟩;exact rz H g
def xn(x0:mb)(x1:Int):Option (Int×mb) :=
  bd (CO x0 x1) λa =>
  bd (vU a.1 0 x1) λb =>
  some (b.1,a.2)
theorem IC{X:List Nat}{x0:mb}{x1:Int}{r:Int×mb}{jJ:Nat}{d:gE}(hS:St X w F F [.box jJ [d,.b x0.bad]] w)(l:iq tB F d (x0.b))(H:xn x0 x1=some r):iN il K 137 [pl jJ 0,.i .i64 x1] w λv w'=>∃(F':gL)(e:gE),v = .i .i64 r.1∧iq tB F' e (r.2.b)∧St X w F F' [.box jJ [e,.b r.2.bad]] w':=by
 refine kB Tryz.func137 ?_;obtain⟨n,j,p,k,H⟩:=iG H;refine ax ?_;refine lm (Lw (x0:=x0) (x1:=x1) (hS.rp [0] (by decide)) l j) ?_;rintro q s ⟨f,_,aiH,rfl,h,abV,c⟩;have a:=hS.ri [0] [] (by decide) (by decide) c;have m:=c.ext;refine qc ?_;refine lp (S5 a.iH h k) a ?_;intro u g;refine au ?_;refine aq ?_;obtain rfl:=oi H;refine qt ?_;exact⟨f,aiH,rfl,abV,g⟩
def xw.k1:Option Bool :=
  some true
def xw.l2(x0:List UInt8)(c:Int→Option Bool):Int→Option Bool
  | a =>
    if decide (a<(x0.length:Int))then
      bd (ix x0 a) λb =>
      bd (only (!decide ((b.toNat:Int)<33)) (ix x0 a) 0) λd =>
      if(decide ((b.toNat:Int)<33)||decide (126<(d.toNat:Int)))then
        some false
      else
        c (wr (a+1))
    else
      xw.k1
def xw(x0:List UInt8):Option Bool :=
  if(decide ((x0.length:Int)<1)||decide (20<(x0.length:Int)))then
    some false
  else
    loop (xw.l2 x0) 0
theorem Xh{x0:List UInt8}{r:Bool}(hA:Gd F w)(H:xw x0=some r):iN il K 160 [.s x0] w λv w'=>∃(F':gL),v = .b r∧St [] w F F' [] w':=by
 refine lg Tryz.func160 ?_;have hS:=St.start hA;refine aZ ?_;refine qy H (λg H=>?_) (λg H=>?_)
 ·exact rz H hS
 ·refine qk ?_;refine iL (jN (xw.k1=some r) [] hS) ?_ ?_
  ·refine ax ?_;refine lj hS (λs:Int=>[(0,.s x0),(13,.i .i64 (x0.length:Int)),(14,.i .i64 s)]) H ?_;intro B y x G A a H;refine ay ?_;refine qy H (λh H=>?_) (λh H=>?_)
   ·obtain⟨I,l,q,m,H⟩:=iG H;refine ay ?_;obtain⟨j,n⟩:=iD l;refine qr (JW wH rfl rfl j n) ?_;refine aw ?_;refine nO (v:=.i .u8 (q.toNat:Int)) rfl rfl rfl rfl (λ⟨c,_⟩=>?_) ?_
    ·rw[c];intro hK;have d:=m;rw[jX (by first|rfl|(rw[c];first|done|rfl)|simp[c])]at d;obtain⟨k,p⟩:=iD d;refine qr (JW wH rfl rfl k p) ?_;exact hK
    refine aw ?_;refine qy H (λf H=>?_) (λf H=>?_)
    ·exact rz H a
    ·refine ax ?_;exact nm H (jj a)
   ·refine jf _ rfl ?_;exact nj ⟨H,jj a⟩
  ·rintro E D ⟨H,u,rfl,z,e⟩;exact rz H e
def Lv(x0:Part):Option Bool :=
  bd (xw x0.path) λa =>
  some ((((a&&decide (0≤x0.size))&&decide (x0.size≤200))&&decide ((x0.ids.length:Int)≤25))&&(decide ((x0.ids.length:Int)=0)==decide (x0.size=0)))
theorem aev{x0:Part}{r:Bool}{a:gE}(hA:Gd F w)(h:iq lV F a x0.ids)(H:Lv x0=some r):iN il K 161 [.agg (Part.cells x0 a)] w λv w'=>∃(F':gL),v = .b r∧St [] w F F' [] w':=by
 refine lg Tryz.func161 ?_;have hS:=St.start hA;refine qs ?_;refine bx ([.s x0.path,.i .i64 x0.size,a]) ?_;intro g k c;obtain⟨j,f,H⟩:=iy H;refine ax ?_;refine lp (Xh c.iH f) c ?_;intro l d;refine aw ?_;refine nO (v:=.b (decide ((x0.ids.length:Int)=0)==decide (x0.size=0))) rfl rfl rfl rfl (λ⟨e,_⟩=>?_) ?_
 ·rw[e];exact(qr (iB rfl rfl (SS Tryz.underlying4)) ·)
 refine aw ?_;exact rz H d
def xl.k1:Option Int :=
  some 0
def xl.l2(x0:iF)(e:Int→Option Int):Int→Option Int
  | a =>
    if decide (a<(x0.parts.length:Int))then
      bd (ix x0.parts a) λb =>
      bd (Lv b) λc =>
      bd (only ((!(!c))&&decide (0<a)) (ix x0.parts (wr (a-1))) (Part.mk [] 0 [])) λd =>
      if((!c)||(decide (0<a)&&(jt b.path d.path||b.path==d.path)))then
        some 1
      else
        e (wr (a+1))
    else
      xl.k1
def xl(x0:iF):Option Int :=
  bd (xw x0.name) λa =>
  if((!a)||decide (6<(x0.parts.length:Int)))then
    some 1
  else
    loop (xl.l2 x0) 0
theorem VB{x0:iF}{r:Int}{c:gE}(hA:Gd F w)(a:iq Part.t F c x0.parts)(H:xl x0=some r):iN il K 124 [.agg (iF.cells x0 c)] w λv w'=>∃(F':gL),v = .i .i64 r∧St [] w F F' [] w':=by
 refine lg Tryz.func124 ?_;have hS:=St.start hA;refine qs ?_;refine bx ([.s x0.name,c]) ?_;intro k R g;obtain⟨P,x,H⟩:=iy H;refine ay ?_;refine lp (Xh g.iH x) g ?_;intro Y d;refine aw ?_;refine qy H (λq H=>?_) (λq H=>?_)
 ·exact rz H d
 ·refine qk ?_;refine iL (jO (xl.k1=some r) [] d []) ?_ ?_
  ·refine ax ?_;refine lj d (λs:Int=>[(1,pl k 0),(16,c),(17,.i .i64 (x0.parts.length:Int)),(18,.i .i64 s)]) H ?_;intro Q L B S A l H;refine ay ?_;refine qy H (λn H=>?_) (λn H=>?_)
   ·obtain⟨f,z,H⟩:=iy H;obtain⟨_,⟨j,rfl,y⟩,J⟩:=js 3 (a.mono A) z;refine ay ?_;refine al ?_;intro G U I;refine qc ?_;refine sb 0 ([.s f.path,.i .i64 f.size,j]) ?_;intro V b;refine ay ?_;obtain⟨O,u,ad,e,H⟩:=iG H;refine rf b ?_;refine bL b 0 (Part.cells f j) [] ?_;refine lq (aev b.iH y u) b ?_;intro X h;refine aw ?_;refine oU (mo a) e ?_;refine oU (mo a) e ?_;refine oU (mo a) e ?_;refine aw ?_;refine qy H (λp H=>?_) (λp H=>?_)
    ·exact rz H h
    ·refine ax ?_;exact nm H (jj (pk [1] h))
   ·refine jf _ rfl ?_;exact nj ⟨H,jj (pk [] l)⟩
  ·rintro E Z ⟨H,D,rfl,M,m⟩;exact rz H m
def pr.k1(b:(List UInt8)×mb)(lx:List Part)(nw:List UInt8)(a:Bool):Option (iF×Int) :=
  bd (only (!(a||decide (0<(nw.length:Int)))) (xl (iF.mk b.1 lx)) 0) λc =>
  if((a||decide (0<(nw.length:Int)))||decide (c≠0))then
    some ((iF.mk [] []),3)
  else
    some ((iF.mk b.1 lx),0)
def pr.k3(b:Int)(e:(Int×(List UInt8)×Bool×(List Part))→Option (iF×Int))(c:List UInt8)(a:Bool)(d:List Part):Option (iF×Int) :=
  e (wr (b+1),c,a,d)
def pr.k4(g:(List UInt8)×mb)(d:Int)(e:List Part)(j:(Int×(List UInt8)×Bool×(List Part))→Option (iF×Int))(h:(List UInt8)×mb)(i:Int×mb)(b:List UInt8)(a:Bool)(f:List (List UInt8)):Option (iF×Int) :=
  bd (app (α:=Part) e [(Part.mk h.1 i.1 f)]) λc =>
  if a then
    pr.k1 g c b a
  else
    pr.k3 d j b a c
def pr.l5(k:(List UInt8)×mb)(h:Int)(i:List Part)(p:(Int×(List UInt8)×Bool×(List Part))→Option (iF×Int))(l:(List UInt8)×mb)(m:Int×mb)(n:Int×mb)(q:(Int×(List UInt8)×Bool×(List (List UInt8)))→Option (iF×Int)):(Int×(List UInt8)×Bool×(List (List UInt8)))→Option (iF×Int)
  | (d,e,c,f) =>
    if decide (d<n.1)then
      bd (CO (mb.mk e c) 32) λa =>
      bd (DE a.1) λg =>
      bd (app (α:=(List UInt8)) f [g]) λj =>
      q (wr (d+1),a.2.b,a.2.bad,j)
    else
      pr.k4 k h i p l m e c f
def pr.l2(g:(List UInt8)×mb)(k:Int×mb)(l:(Int×(List UInt8)×Bool×(List Part))→Option (iF×Int)):(Int×(List UInt8)×Bool×(List Part))→Option (iF×Int)
  | (d,e,c,f) =>
    if decide (d<k.1)then
      bd (xn (mb.mk e c) 1) λh =>
      bd (CO h.2 h.1) λi =>
      bd (xn i.2 2) λj =>
      bd (xn j.2 1) λa =>
      loop (pr.l5 g d f l i j a) (0,a.2.b,a.2.bad,[])
    else
      pr.k1 g f e c
def pr(x0:List UInt8):Option (iF×Int) :=
  bd (xn (mb.mk x0 false) 1) λc =>
  bd (CO c.2 c.1) λd =>
  bd (xn d.2 1) λa =>
  loop (pr.l2 d a) (0,a.2.b,a.2.bad,[])
set_option maxHeartbeats 2000000 in
theorem aet{x0:List UInt8}{r:iF×Int}{M:gE}(hA:Gd F w)(h0:iq tB F M x0)(H:pr x0=some r):iN il K 84 [M] w λv w'=>∃(F':gL)(b3:gE),v = .kx [.agg (iF.cells r.1 b3),.i .i64 r.2]∧iq Part.t F' b3 (r.1.parts)∧St [] w F F' [] w':=by
 refine lg Tryz.func84 ?_;have hS:=St.start hA;refine qs ?_;refine al ?_;intro c w1 cy;refine ax ?_;have bT:=h0.ln.cells;refine qr (tJ (vs:=[(0,M)]) (v:=.agg (mb.cells (mb.mk x0 false) M)) Ty.Y3 rfl (by simp only[oS,bT];rfl)) ?_;refine bx ([M,.b false]) ?_;intro g w2 aT;obtain⟨r4,cd,a,ce,H⟩:=iG H;refine ax ?_;refine lm (IC (x0:=(mb.mk x0 false)) (x1:=1) (aT.rp [0] (by decide)) h0 cd) ?_;rintro v7 w7 ⟨ct,ajF,rfl,abX,bk⟩;have bc:=aT.ri [0] [1] (by decide) (by decide) bk;have c9:=bk.ext;refine lm (Lw (x0:=r4.2) (x1:=r4.1) (bc.rp [0] (by decide)) abX ce) ?_;rintro cI w8 ⟨bA,_,ajJ,rfl,bX,ab1,bn⟩;have bI:=bc.ri [0] [1] (by decide) (by decide) bn;have cA:=bn.ext;refine qr (Nc lL p7 wH rfl (bX.mono bI.agree)) ?_;refine j8 (v:=.agg (iF.cells (iF.mk a.1 []) (.sl none 0 (.k 0)))) rfl rfl rfl rfl (λ_=>rfl) ?_;refine al ?_;intro d w6 c0;refine sb 0 ([.s a.1,.sl none 0 (.k 0)]) ?_;intro w9 a6;refine qn ?_;refine iL (λE wq=>∃lx:List Part,∃nw:List UInt8,∃x:Bool,pr.k1 a lx nw x=some r ∧ ∃(p:gL)(j:gE)(X:gE),E=[(2,pl c 0),(4,pl g 0),(5,pl d 0)]∧bA.le p∧iq tB p X nw∧iW a6 [.box d [.s a.1,j],.box g [X,.b x],.box c [.s [],.sl none 0 (.k 0)],.row Part.t j lx] p wq) ?_ ?_
 ·obtain⟨V,cc,H⟩:=iy H;refine aq ?_;refine lm (IC (x0:=a.2) (x1:=1) (a6.rp [1] (by decide)) ab1 cc) ?_;rintro cL cY ⟨aH,aiI,rfl,abW,bg⟩;have aX:=a6.ri [1] [0,2] (by decide) (by decide) bg;have co:=bg.ext;refine ax ?_;refine jH (λ(s:Int×(List UInt8)×Bool×(List Part)) E wq=>∃(u:gL)(Y:gE)(q:gE),E=[(2,pl c 0),(4,pl g 0),(5,pl d 0),(17,.i .i64 V.1),(18,.i .i64 s.1)]∧aH.le u∧iq tB u Y s.2.1∧iW aX [.box g [Y,.b s.2.2.1],.box d [.s a.1,q],.box c [.s [],.sl none 0 (.k 0)],.row Part.t q s.2.2.2] u wq) H ?_ ?_
  ·have bM:=aX.lb Part.t;exact lo ⟨aH,aiI,(.sl none 0 (.k 0)),rfl,(gL.le.refl _),abW,bM.pick [1,2,3,0] (by decide)⟩
  ·rintro b6 ⟨B,bv,aK,U⟩ E cZ hI H
   try dsimp only at hI
   obtain⟨u,Y,q,rfl,cm,br,ak⟩:=hI;refine ay ?_;refine qy H (λbQ H=>?_) (λbQ H=>?_)
   ·refine qk ?_;refine iL (λE wq=>∃a8:List UInt8,∃aj:Bool,∃a9:List Part,pr.k3 B b6 a8 aj a9=some r ∧ ∃(P:gL)(Z:gE)(ad:gE),E=[(2,pl c 0),(4,pl g 0),(5,pl d 0),(17,.i .i64 V.1),(18,.i .i64 B)]∧u.le P∧iq tB P Z a8∧iW ak [.box g [Z,.b aj],.box d [.s a.1,ad],.box c [.s [],.sl none 0 (.k 0)],.row Part.t ad a9] P wq) ?_ ?_
    ·refine ay ?_;obtain⟨b5,cf,m,cg,H⟩:=iG H;obtain⟨n,ch,H⟩:=iy H;refine nA (G:=u) [0,1,5,8,2,3,4,6,7,9] rfl Ty.mixed (by kernel_rfl) ak.agree ?_;refine au ?_;refine aM ?_;intro S db aY;refine ql (IC (x0:=(mb.mk bv aK)) (x1:=1) (aY.rp [1] (by decide)) br cf) ?_;rintro cM dc ⟨cu,ajG,rfl,abY,bh⟩;have am:=aY.ri [1] [0,2,3,4] (by decide) (by decide) bh;have b0:=bh.ext;refine jG.mW b0 am.agree ?_;refine ql (Lw (x0:=b5.2) (x1:=b5.1) (am.rp [0] (by decide)) abY cg) ?_;rintro cH dd ⟨cw,_,ajH,rfl,bW,abZ,bi⟩;have ar:=am.ri [0] [1,2,3,4] (by decide) (by decide) bi;have b1:=bi.ext;refine jG.mW b1 ar.agree ?_;refine qr (Nc lL p7 wH rfl bW) ?_;refine ql (IC (x0:=m.2) (x1:=2) (ar.rp [0] (by decide)) abZ ch) ?_;rintro cN de ⟨bB,ajI,rfl,ab0,bj⟩;have bF:=ar.ri [0] [1,2,3,4] (by decide) (by decide) bj;have b2:=bj.ext;refine jG.mW b2 bF.agree ?_;refine j8 (v:=.agg (Part.cells (Part.mk m.1 n.1 []) (.sl none 0 (.k 0)))) rfl rfl rfl rfl (λ_=>rfl) ?_;refine sB 1 ([.s m.1,.i .i64 n.1,.sl none 0 (.k 0)]) ?_;intro df a4;refine qn ?_;refine iL (λE wq=>∃D:List UInt8,∃z:Bool,∃I:List (List UInt8),pr.k4 a B U b6 m n D z I=some r ∧ ∃(Q:gL)(J:gE)(L:gE),E=[(2,pl c 0),(4,pl g 0),(5,pl d 0),(6,pl S 0),(17,.i .i64 V.1),(18,.i .i64 B)]∧bB.le Q∧iq tB Q J D∧iW a4 [.box g [J,.b z],.box S [.s m.1,.i .i64 n.1,L],.box d [.s a.1,q],.box c [.s [],.sl none 0 (.k 0)],.row Part.t q U,.row lV L I] Q wq) ?_ ?_
     ·obtain⟨cr,ci,H⟩:=iy H;refine aq ?_;refine lm (IC (x0:=n.2) (x1:=1) (a4.rp [0] (by decide)) ab0 ci) ?_;rintro cP dm ⟨aJ,aiJ,rfl,ab2,bm⟩;have be:=a4.ri [0] [1,2,3,4] (by decide) (by decide) bm;have cC:=bm.ext;refine ax ?_;refine jH (λ(s:Int×(List UInt8)×Bool×(List (List UInt8))) E wq=>∃(R:gL)(ae:gE)(ah:gE),E=[(2,pl c 0),(4,pl g 0),(5,pl d 0),(6,pl S 0),(17,.i .i64 V.1),(18,.i .i64 B),(29,.i .i64 cr.1),(30,.i .i64 s.1)]∧aJ.le R∧iq tB R ae s.2.1∧iW be [.box g [ae,.b s.2.2.1],.box S [.s m.1,.i .i64 n.1,ah],.box d [.s a.1,q],.box c [.s [],.sl none 0 (.k 0)],.row Part.t q U,.row lV ah s.2.2.2] R wq) H ?_ ?_
      ·have bK:=be.lb lV;exact lo ⟨aJ,aiJ,(.sl none 0 (.k 0)),rfl,(gL.le.refl _),ab2,bK.pick [1,2,3,4,5,0] (by decide)⟩
      ·rintro cE ⟨c2,bz,aO,cl⟩ E dn hI H
       try dsimp only at hI
       obtain⟨R,ae,ah,rfl,c8,bt,y⟩:=hI;refine ay ?_;refine qy H (λbS H=>?_) (λbS H=>?_)
       ·refine ay ?_;obtain⟨cD,cj,ai,bp,H⟩:=iG H;have acr:ai.length=32:=Yx bp;obtain⟨c3,ca,H⟩:=iy H;have A:=y.mC 1 rfl;refine rh 1 A y ?_;refine au ?_;refine hl 1 A y ?_;refine qc ?_;refine ql (Lw (x0:=(mb.mk bz aO)) (x1:=32) (y.rp [0] (by decide)) bt cj) ?_;rintro cJ du ⟨cx,_,aiK,rfl,bY,ab3,bo⟩;have a7:=y.ri [0] [1,2,3,4,5] (by decide) (by decide) bo;have cp:=bo.ext;refine nf 1 A a7 cp ?_;refine X4 rfl rfl rfl rfl uZ rfl bY bp ?_;intro ai9 ajA bO;refine qq (XQ Ty.pJ Ty.nx rfl (bO.mono a7.agree)) ?_;refine qx (kN (t:=lV) (vs:=[.agg (iJ ai)]) (xs:=[ai]) rX Ty.CY rfl ⟨⟨rfl,acr⟩,trivial⟩ rfl rfl a7) ?_;rintro cG dr a5;refine qh 2 A a5 ?_;refine qx (sM (t:=lV) 6 rX Ty.CY Ty.Ms rfl rfl a5 rfl (a5.mi (k:=0) rfl) ca) ?_;rintro b7 ds bf;refine qh 2 A bf ?_;refine au ?_;refine zX (by kernel_rfl) bf.agree ?_;refine sC 2 ([.s m.1,.i .i64 n.1,b7]) ?_;intro dv bJ;refine ax ?_;exact nm H ⟨_,aiK,b7,rfl,iI,ab3,pk [1,2,3,4,5,6] bJ⟩
       ·refine jf _ rfl ?_;exact nj ⟨bz,aO,cl,H,⟨_,ae,ah,rfl,iI,bt,y⟩⟩
     ·rintro E dg ⟨D,z,I,H,Q,J,L,rfl,cn,bs,bG⟩;obtain⟨bw,bZ,H⟩:=iy H;refine aq ?_;obtain⟨b9,aC,bV,bH⟩:=bG.kh 5 [0,1,2,3,4] rfl (by decide) (by decide);refine xm (kN (t:=Part.t) (vs:=[.agg (Part.cells (Part.mk m.1 n.1 I) L)]) (xs:=[(Part.mk m.1 n.1 I)]) Tryz.underlying56 Ty.I5 rfl ⟨⟨L,rfl,bV⟩,trivial⟩ rfl rfl bH) ?_;rintro cF di ba;refine ap 5 ba (ba.mi (k:=0) rfl) bZ ?_;intro aD dj c1;refine au ?_;refine sc 3 ([.s a.1,aD]) ?_;intro dk bb;refine ax ?_;refine qy H (λbR H=>?_) (λbR H=>?_)
      ·refine jf _ rfl ?_;exact nj ⟨bw,D,z,H,⟨b9,aD,J,rfl,((((((co.trans cm).trans b0).trans b1).trans b2).trans cn).trans aC),(bs.mono aC),bb.pick [3,1,4,5] (by decide)⟩⟩
      ·refine ax ?_;exact nj ⟨D,z,bw,H,⟨_,J,aD,rfl,iI,(bs.mono aC),pk [1,3,4,5] bb⟩⟩
    ·rintro E da ⟨a8,aj,a9,H,P,Z,ad,rfl,c7,ck,bE⟩;refine ax ?_;exact nm H ⟨_,Z,ad,rfl,iI,ck,bE⟩
   ·refine jf _ rfl ?_;exact nj ⟨U,bv,aK,H,⟨_,q,Y,rfl,iI,br,pk [1,0,2,3] ak⟩⟩
 ·rintro E cR ⟨lx,nw,x,H,p,j,X,rfl,c4,bq,h⟩;refine kr ?_;refine kr ?_;obtain⟨cq,cb,H⟩:=iy H;refine sL (λE wq=>E=[(2,pl c 0),(5,pl d 0),(69,.b ((x||decide (0<(nw.length:Int)))||decide (cq≠0)))] ∧ ∃O:gL,p.le O∧St [] w F O [.box d [.s a.1,j],.box g [X,.b x],.box c [.s [],.sl none 0 (.k 0)],.row Part.t j lx] wq) ?_ ?_
  ·
   rcases nk x with e|e
   ·refine qd ?_;refine q2 ?_;refine qf Ty.KB ?_;refine qb 1 Ty.DL h ?_;refine qc ?_;refine kC 57 e ?_;refine je ?_;refine je ?_;refine je ?_;refine q2 ?_;refine je ?_;refine qz ?_;refine qc ?_;refine ku ?_;exact lW _ ⟨rfl,p,(gL.le.refl _),h⟩ ⟨rfl,rfl,(lZ rfl (by first|rfl|(rw[e];first|done|rfl)|simp[e])),trivial⟩
   ·
    rcases nk (decide (0<(nw.length:Int)))with l|l
    ·refine qd ?_;refine q2 ?_;refine qf Ty.KB ?_;refine qb 1 Ty.DL h ?_;refine qc ?_;refine kC 57 e ?_;refine q2 ?_;refine qf Ty.N3 ?_;refine qb 1 Ty.DK h ?_;refine qr (jV lL rfl bq.ln) ?_;refine qr (iB rfl rfl vg) ?_;refine q2 ?_;refine kC 65 l ?_;refine je ?_;refine qz ?_;refine qc ?_;refine ku ?_;exact lW _ ⟨rfl,p,(gL.le.refl _),h⟩ ⟨rfl,rfl,(lZ rfl (by first|rfl|(rw[l,e];first|done|rfl)|simp[e,l])),trivial⟩
    ·refine qd ?_;refine q2 ?_;refine qf Ty.KB ?_;refine qb 1 Ty.DL h ?_;refine qc ?_;refine kC 57 e ?_;refine q2 ?_;refine qf Ty.N3 ?_;refine qb 1 Ty.DK h ?_;refine qr (jV lL rfl bq.ln) ?_;refine qr (iB rfl rfl vg) ?_;refine q2 ?_;refine kC 65 l ?_;refine bl h 0 (iF.cells (iF.mk a.1 lx) j) [] ?_;have bu:=cb;rw[jX (by first|rfl|(rw[l,e];first|done|rfl)|simp[e,l])]at bu;refine qM (f:=124) (args:=[.agg (iF.cells (iF.mk a.1 lx) j)]) rfl rfl rfl rfl (VB (Gd.now h.wf) (h.ni (k:=3) rfl) bu) ?_;rintro cK cU ⟨cs,rfl,bN⟩;have bC:=h.oN bN;refine jG.now ?_;refine qr (iB rfl rfl Cp) ?_;refine qc ?_;refine ku ?_;exact lW _ ⟨rfl,p,(gL.le.refl _),bC⟩ ⟨rfl,rfl,(lZ rfl (by first|rfl|(rw[l,e];first|done|rfl)|simp[e,l])),trivial⟩
  rintro E cS ⟨rfl,O,c5,cz⟩;refine nN ?_;refine qy H (λbP H=>?_) (λbP H=>?_)
  ·refine qs ?_;refine j8 (v:=.agg (iF.cells (iF.mk [] []) (.sl none 0 (.k 0)))) rfl rfl rfl rfl (λ_=>rfl) ?_;refine sb 2 ([.s [],.sl none 0 (.k 0)]) ?_;intro cV aU;refine au ?_;obtain rfl:=oi H;refine oH (vs:=[.agg (iF.cells (iF.mk [] []) (.sl none 0 (.k 0))),.i .i64 3]) rfl ⟨(oJ 2 Ty.tK Ty.tz aU rfl rfl),rfl,trivial⟩ ?_;exact⟨O,.sl none 0 (.k 0),rfl,(iq.nil _),aU.pick [] (by decide)⟩
  ·refine ax ?_;refine sb 2 ([.s a.1,j]) ?_;intro cX bD;refine au ?_;obtain⟨b8,c6,bU,aV⟩:=bD.kh 3 [0,1,2] rfl (by decide) (by decide);obtain rfl:=oi H;refine oH (vs:=[.agg (iF.cells (iF.mk a.1 lx) j),.i .i64 0]) rfl ⟨(oJ 2 Ty.tK Ty.tz aV rfl rfl),rfl,trivial⟩ ?_;exact⟨b8,j,rfl,bU,aV.pick [] (by decide)⟩
def IX(x0:ie)(x1:Int):Option Int :=
  bd (Bh x0.seq x1) λa =>
  some a
theorem Wb{x0:ie}{x1:Int}{r:Int}{a:gE}{b:gE}(hA:Gd F w)(g:iq Part.t F a x0.iw.parts)(h:iq Loc.t F b x0.locs)(H:IX x0 x1=some r):iN il K 86 [.agg (ie.cells x0 a b),.i .i64 x1] w λv w'=>∃(F':gL),v = .i .i64 r∧St [] w F F' [] w':=by
 refine kB Tryz.func86 ?_;have hS:=St.start hA;refine qs ?_;refine bx ([.i .i64 x0.seq,.s x0.iw.name,a,b]) ?_;intro f k c;obtain⟨j,e,H⟩:=iy H;refine ax ?_;refine lp (FD c.iH e) c ?_;intro l d;exact rz H d
def yy.k1(x0:List ie)(x1:Int)(a:Int):Option (Int×Bool) :=
  bd (only (decide (a<(x0.length:Int))) (ix x0 a) (ie.mk 0 (iF.mk [] []) [])) λx3 =>
  bd (only (decide (a<(x0.length:Int))) (IX x3 x1) 0) λb =>
  some (a,(decide (a<(x0.length:Int))&&decide (b=0)))
def yy.l2(x0:List ie)(x1:Int)(c:(Int×Int)→Option (Int×Bool)):(Int×Int)→Option (Int×Bool)
  | (a,b) =>
    if decide (a<b)then
      bd (ix x0 (wr ((wu (wr (a+b)))/2^(1:Int).toNat))) λe =>
      bd (IX e x1) λd =>
      if decide (d<0)then
        c (wr (wr ((wu (wr (a+b)))/2^(1:Int).toNat)+1),b)
      else
        c (a,wr ((wu (wr (a+b)))/2^(1:Int).toNat))
    else
      yy.k1 x0 x1 a
def yy(x0:List ie)(x1:Int):Option (Int×Bool) :=
  loop (yy.l2 x0 x1) (0,(x0.length:Int))
theorem ahq{x0:List ie}{x1:Int}{r:Int×Bool}{h:gE}(hA:Gd F w)(m:iq ie.t F h x0)(H:yy x0 x1=some r):iN il K 85 [h,.i .i64 x1,.f 86 []] w λv w'=>∃(F':gL),v = .kx [.i .i64 r.1,.b r.2]∧St [] w F F' [] w':=by
 refine vH Tryz.func85 ?_;have hS:=St.start hA;refine aq ?_;refine aq ?_;refine aq ?_;refine iL (λE wq=>∃d:Int,yy.k1 x0 x1 d=some r ∧ ∃(c:gL),E=[(0,h),(1,.i .i64 x1),(2,.f 86 []),(8,.i .i64 (x0.length:Int)),(9,.i .i64 d)]∧F.le c∧mq hS c wq) ?_ ?_
 ·refine qZ ?_;refine jH (λ(s:Int×Int) E wq=>∃(j:gL),E=[(0,h),(1,.i .i64 x1),(2,.f 86 []),(8,.i .i64 (x0.length:Int)),(9,.i .i64 s.1),(10,.i .i64 s.2)]∧F.le j∧mq hS j wq) H ?_ ?_
  ·exact lo (jj hS)
  ·rintro ak ⟨S,ah⟩ E a6 hI H
   try dsimp only at hI
   obtain⟨j,rfl,V,l⟩:=hI;refine ay ?_;refine qy H (λy H=>?_) (λy H=>?_)
   ·refine ax ?_;refine qr (ml mH p9 rfl (rfl)) ?_;refine qr (iB rfl rfl (vh (by decide) (by decide))) ?_;refine qr (ml p9 mH rfl (rfl)) ?_;obtain⟨a9,P,aj,D,H⟩:=iG H;obtain⟨_,⟨am,ar,rfl,J,L⟩,ae⟩:=js 4 (m.mono V) P;refine ax ?_;refine lp (Wb l.iH J L D) l ?_;intro a7 n;refine au ?_;refine qy H (λz H=>?_) (λz H=>?_)
    ·refine ax ?_;exact nm H (jj n)
    ·refine ax ?_;exact nm H (jj n)
   ·refine jf _ rfl ?_;exact nj ⟨S,H,jj l⟩
 ·rintro E w1 ⟨d,H,c,rfl,U,e⟩;refine kr ?_;obtain⟨x3,Q,X,G,H⟩:=iG H;refine sL (λE wq=>E=[(6,.i .i64 d),(7,.b (decide (d<(x0.length:Int))&&decide (X=0)))] ∧ ∃k:gL,c.le k∧St [] w F k [] wq) ?_ ?_
  ·
   rcases nk (decide (d<(x0.length:Int)))with a|a
   ·refine qd ?_;refine q3 ?_;refine qr (iB rfl rfl qv) ?_;refine qc ?_;refine kC 39 a ?_;refine q3 ?_;have q:=Q;rw[jX a]at q;obtain⟨B,R⟩:=iD q;obtain⟨ad,I,g⟩:=(m.mono U).el R;obtain⟨Y,Z,rfl,M,O⟩:=I;replace g:=qj 4 g;have A:=g.ky;refine qi kR Ty.oa A B ?_;refine qr (pw 0 (ie.cells x3 Y Z) Ty.Nl Ty.oa rfl (g.mono e.agree) (by first|omega|rfl) rfl (kY rfl)) ?_;refine qc ?_;have p:=G;rw[jX a]at p;refine lp (Wb e.iH M O p) e ?_;intro a5 u;refine qr (iB rfl rfl nQ) ?_;refine q3 ?_;refine ku ?_;exact lW _ ⟨rfl,c,(gL.le.refl _),u⟩ ⟨rfl,(lZ rfl (by first|rfl|(rw[a];first|done|rfl)|simp[a])),trivial⟩
   ·refine qd ?_;refine q3 ?_;refine qr (iB rfl rfl qv) ?_;refine qc ?_;refine kC 39 a ?_;refine je ?_;refine je ?_;refine je ?_;refine je ?_;refine q3 ?_;refine ku ?_;exact lW _ ⟨rfl,c,(gL.le.refl _),e⟩ ⟨rfl,(lZ rfl (by first|rfl|(rw[a];first|done|rfl)|simp[a])),trivial⟩
  rintro E w6 ⟨rfl,k,ai,x⟩;refine nN ?_;exact rz H x
def IW(x0:iu)(x1:Int):Option Int :=
  bd (Bh x0.seq x1) λa =>
  some a
theorem Wa{x0:iu}{x1:Int}{r:Int}{a:gE}(hA:Gd F w)(f:iq Loc.t F a x0.locs)(H:IW x0 x1=some r):iN il K 91 [.agg (iu.cells x0 a),.i .i64 x1] w λv w'=>∃(F':gL),v = .i .i64 r∧St [] w F F' [] w':=by
 refine kB Tryz.func91 ?_;have hS:=St.start hA;refine qs ?_;refine bx ([.i .i64 x0.seq,.i .i64 x0.of,a]) ?_;intro e h b;obtain⟨g,d,H⟩:=iy H;refine ax ?_;refine lp (FD b.iH d) b ?_;intro j c;exact rz H c
def yx.k1(x0:List iu)(x1:Int)(a:Int):Option (Int×Bool) :=
  bd (only (decide (a<(x0.length:Int))) (ix x0 a) (iu.mk 0 0 [])) λx3 =>
  bd (only (decide (a<(x0.length:Int))) (IW x3 x1) 0) λb =>
  some (a,(decide (a<(x0.length:Int))&&decide (b=0)))
def yx.l2(x0:List iu)(x1:Int)(c:(Int×Int)→Option (Int×Bool)):(Int×Int)→Option (Int×Bool)
  | (a,b) =>
    if decide (a<b)then
      bd (ix x0 (wr ((wu (wr (a+b)))/2^(1:Int).toNat))) λe =>
      bd (IW e x1) λd =>
      if decide (d<0)then
        c (wr (wr ((wu (wr (a+b)))/2^(1:Int).toNat)+1),b)
      else
        c (a,wr ((wu (wr (a+b)))/2^(1:Int).toNat))
    else
      yx.k1 x0 x1 a
def yx(x0:List iu)(x1:Int):Option (Int×Bool) :=
  loop (yx.l2 x0 x1) (0,(x0.length:Int))
theorem ahp{x0:List iu}{x1:Int}{r:Int×Bool}{h:gE}(hA:Gd F w)(m:iq iu.t F h x0)(H:yx x0 x1=some r):iN il K 90 [h,.i .i64 x1,.f 91 []] w λv w'=>∃(F':gL),v = .kx [.i .i64 r.1,.b r.2]∧St [] w F F' [] w':=by
 refine vH Tryz.func90 ?_;have hS:=St.start hA;refine aq ?_;refine aq ?_;refine aq ?_;refine iL (λE wq=>∃d:Int,yx.k1 x0 x1 d=some r ∧ ∃(c:gL),E=[(0,h),(1,.i .i64 x1),(2,.f 91 []),(8,.i .i64 (x0.length:Int)),(9,.i .i64 d)]∧F.le c∧mq hS c wq) ?_ ?_
 ·refine qZ ?_;refine jH (λ(s:Int×Int) E wq=>∃(j:gL),E=[(0,h),(1,.i .i64 x1),(2,.f 91 []),(8,.i .i64 (x0.length:Int)),(9,.i .i64 s.1),(10,.i .i64 s.2)]∧F.le j∧mq hS j wq) H ?_ ?_
  ·exact lo (jj hS)
  ·rintro ah ⟨Q,Z⟩ E am hI H
   try dsimp only at hI
   obtain⟨j,rfl,S,l⟩:=hI;refine ay ?_;refine qy H (λy H=>?_) (λy H=>?_)
   ·refine ax ?_;refine qr (ml mH p9 rfl (rfl)) ?_;refine qr (iB rfl rfl (vh (by decide) (by decide))) ?_;refine qr (ml p9 mH rfl (rfl)) ?_;obtain⟨a5,M,ae,D,H⟩:=iG H;obtain⟨_,⟨ai,rfl,J⟩,Y⟩:=js 3 (m.mono S) M;refine ax ?_;refine lp (Wa l.iH J D) l ?_;intro ar n;refine au ?_;refine qy H (λz H=>?_) (λz H=>?_)
    ·refine ax ?_;exact nm H (jj n)
    ·refine ax ?_;exact nm H (jj n)
   ·refine jf _ rfl ?_;exact nj ⟨Q,H,jj l⟩
 ·rintro E w1 ⟨d,H,c,rfl,R,e⟩;refine kr ?_;obtain⟨x3,O,U,G,H⟩:=iG H;refine sL (λE wq=>E=[(6,.i .i64 d),(7,.b (decide (d<(x0.length:Int))&&decide (U=0)))] ∧ ∃k:gL,c.le k∧St [] w F k [] wq) ?_ ?_
  ·
   rcases nk (decide (d<(x0.length:Int)))with a|a
   ·refine qd ?_;refine q3 ?_;refine qr (iB rfl rfl qv) ?_;refine qc ?_;refine kC 39 a ?_;refine q3 ?_;have q:=O;rw[jX a]at q;obtain⟨B,P⟩:=iD q;obtain⟨X,I,g⟩:=(m.mono R).el P;obtain⟨V,rfl,L⟩:=I;replace g:=qj 3 g;have A:=g.ky;refine qi Tryz.underlying26 Ty.pP A B ?_;refine qr (pw 0 (iu.cells x3 V) Ty.SJ Ty.pP rfl (g.mono e.agree) (by first|omega|rfl) rfl (kY rfl)) ?_;refine qc ?_;have p:=G;rw[jX a]at p;refine lp (Wa e.iH L p) e ?_;intro ak u;refine qr (iB rfl rfl nQ) ?_;refine q3 ?_;refine ku ?_;exact lW _ ⟨rfl,c,(gL.le.refl _),u⟩ ⟨rfl,(lZ rfl (by first|rfl|(rw[a];first|done|rfl)|simp[a])),trivial⟩
   ·refine qd ?_;refine q3 ?_;refine qr (iB rfl rfl qv) ?_;refine qc ?_;refine kC 39 a ?_;refine je ?_;refine je ?_;refine je ?_;refine je ?_;refine q3 ?_;refine ku ?_;exact lW _ ⟨rfl,c,(gL.le.refl _),e⟩ ⟨rfl,(lZ rfl (by first|rfl|(rw[a];first|done|rfl)|simp[a])),trivial⟩
  rintro E w6 ⟨rfl,k,ad,x⟩;refine nN ?_;exact rz H x
def Qo(x0:iu)(x1:ie):Option Bool :=
  some (decide (x0.of=x1.seq))
theorem afP{x0:iu}{x1:ie}{r:Bool}{a:gE}{yZ:Nat}{d:gE}{e:gE}(hA:Gd F w)(h:iq Loc.t F a x0.locs)(j:iq Part.t F d x1.iw.parts)(k:iq Loc.t F e x1.locs)(f:rB F yZ [.i .i64 x1.seq,.s x1.iw.name,d,e])(H:Qo x0 x1=some r):iN il K 144 [.agg (iu.cells x0 a),pl yZ 0] w λv w'=>∃(F':gL),v = .b r∧St [] w F F' [] w':=by
 refine kB Tryz.func144 ?_;have hS:=St.start hA;refine qs ?_;refine bx ([.i .i64 x0.seq,.i .i64 x0.of,a]) ?_;intro g l c;refine ax ?_;refine qr (qo Ty.pL rfl (f.mono c.agree) rfl) ?_;exact rz H c
def zy.k1:Option Int :=
  some (-1)
def zy.l2(x0:List iu)(d:ie)(c:Int→Option Int):Int→Option Int
  | a =>
    if decide (a<(x0.length:Int))then
      bd (ix x0 a) λx6 =>
      bd (Qo x6 d) λb =>
      if b then
        some a
      else
        c (wr (a+1))
    else
      zy.k1
def zy(x0:List iu)(a:ie):Option Int :=
  loop (zy.l2 x0 a) 0
theorem ahI{x0:List iu}{a:ie}{r:Int}{c:gE}{oV:Nat}{g:gE}{h:gE}(hA:Gd F w)(j:iq iu.t F c x0)(k:iq Part.t F g a.iw.parts)(l:iq Loc.t F h a.locs)(n:rB F oV [.i .i64 a.seq,.s a.iw.name,g,h])(H:zy x0 a=some r):iN il K 166 [c,.f 144 [pl oV 0]] w λv w'=>∃(F':gL),v = .i .i64 r∧St [] w F F' [] w':=by
 refine kB Tryz.func166 ?_;have hS:=St.start hA;refine aq ?_;refine iL (jN (zy.k1=some r) [] hS) ?_ ?_
 ·refine ax ?_;refine lj hS (λs:Int=>[(0,c),(1,.f 144 [pl oV 0]),(7,.i .i64 (x0.length:Int)),(8,.i .i64 s)]) H ?_;intro J D A P e b H;refine ay ?_;refine qy H (λq H=>?_) (λq H=>?_)
  ·obtain⟨x6,y,I,u,H⟩:=iG H;obtain⟨_,⟨L,rfl,x⟩,B⟩:=js 3 (j.mono e) y;refine ay ?_;refine lp (afP b.iH x (mo k) (mo l) (n.mono e) u) b ?_;intro O d;refine qn ?_;refine qy H (λp H=>?_) (λp H=>?_)
   ·exact rz H d
   ·refine ax ?_;exact nm H (jj d)
  ·refine jf _ rfl ?_;exact nj ⟨H,jj b⟩
 ·rintro E M ⟨H,z,rfl,G,m⟩;exact rz H m
def QH(x0:List iu)(b:ie):Option Bool :=
  bd (zy x0 b) λa =>
  some (decide (0≤a))
theorem ahA{x0:List iu}{a:ie}{r:Bool}{c:gE}{oV:Nat}{d:gE}{e:gE}(hA:Gd F w)(g:iq iu.t F c x0)(h:iq Part.t F d a.iw.parts)(j:iq Loc.t F e a.locs)(l:rB F oV [.i .i64 a.seq,.s a.iw.name,d,e])(H:QH x0 a=some r):iN il K 143 [c,.f 144 [pl oV 0]] w λv w'=>∃(F':gL),v = .b r∧St [] w F F' [] w':=by
 refine kB Tryz.func143 ?_;have hS:=St.start hA;obtain⟨n,m,H⟩:=iy H;refine ax ?_;refine lp (ahI hS.iH g h j l m) hS ?_;intro p k;exact rz H k
def oY.k1(x0:List (List UInt8)):Option (List (List UInt8)) :=
  some x0
def oY.k3(a:Int)(b:Int→Option (List (List UInt8))):Option (List (List UInt8)) :=
  b (wr (a+1))
def oY.k4(a:Int)(b:List (List UInt8)):Option (List (List UInt8)) :=
  bd (cut (α:=(List UInt8)) b a (b.length:Int)) λe =>
  bd (yc b a.toNat ((b.length:Int).toNat-a.toNat) (iV 32 (0:UInt8))) λc =>
  bd (cut (α:=(List UInt8)) c 0 a) λd =>
  bd (nz c) λ_ =>
  some d
def oY.k6(a:Int)(d:(Int×Int×(List (List UInt8)))→Option (List (List UInt8)))(b:Int)(c:List (List UInt8)):Option (List (List UInt8)) :=
  d (b,wr (a+1),c)
def oY.l5(x0:List (List UInt8))(a:Int)(e:(Int×Int×(List (List UInt8)))→Option (List (List UInt8))):(Int×Int×(List (List UInt8)))→Option (List (List UInt8))
  | (d,c,b) =>
    if decide (c<(((x0.length:Int).toNat-a.toNat:Nat):Int))then
      bd (BI b a.toNat ((x0.length:Int).toNat-a.toNat) c) λf =>
      bd (BI b a.toNat ((x0.length:Int).toNat-a.toNat) (wr (c-1))) λg =>
      if(!decide (f=g))then
        bd (BI b a.toNat ((x0.length:Int).toNat-a.toNat) c) λh =>
        bd (ix b d) λi =>
        oY.k6 c e (wr (d+1)) (b.set d.toNat h)
      else
        oY.k6 c e d b
    else
      oY.k4 d b
def oY.l2(x0:List (List UInt8))(b:Int→Option (List (List UInt8))):Int→Option (List (List UInt8))
  | a =>
    if decide (a<(x0.length:Int))then
      bd (ix x0 a) λx8 =>
      bd (ix x0 (wr (a-1))) λc =>
      if decide (x8=c)then
        bd (cut (α:=(List UInt8)) x0 a (x0.length:Int)) λd =>
        loop (oY.l5 x0 a) (a,1,x0)
      else
        oY.k3 a b
    else
      oY.k1 x0
def oY(x0:List (List UInt8)):Option (List (List UInt8)) :=
  if decide ((x0.length:Int)<2)then
    some x0
  else
    loop (oY.l2 x0) 1
theorem ahw{x0:List (List UInt8)}{r:(List (List UInt8))}{a:gE}(hS:St a.own w F F [.row lV a x0] w)(H:oY x0=some r):iN il K 170 [a] w λv w'=>∃(F':gL)(M:gE),v=M∧St a.own w F F' [.row lV M (r)] w':=by
 refine lg Tryz.func170 ?_;refine ay ?_;refine qr (jV rX rfl (hS.kH (k:=0) rfl)) ?_;refine au ?_;refine qy H (λV H=>?_) (λV H=>?_)
 ·exact rx H hS
 ·refine qk ?_;refine iL (jN (oY.k1 x0=some r) [(0,a)] hS) ?_ ?_
  ·refine ax ?_;refine lj hS (λs:Int=>[(0,a),(3,.i .i64 s)]) H ?_;intro bh y B w3 b7 b H;refine ay ?_;refine qr (jV rX rfl (b.kH (k:=0) rfl)) ?_;refine au ?_;refine qy H (λad H=>?_) (λad H=>?_)
   ·refine qk ?_;refine iL (jN (oY.k3 y bh=some r) [(0,a),(3,.i .i64 y)] b) ?_ ?_
    ·refine ay ?_;obtain⟨x8,aX,bK,aR,H⟩:=iG H;refine rn ?_;obtain⟨_,⟨rfl,a7⟩,bs⟩:=mw 32 0 b aX;obtain⟨_,⟨rfl,ar⟩,bt⟩:=mw 32 0 b aR;refine au ?_;refine qr (iB rfl rfl (z7 Ty.Ag rfl rfl (Af a7 ar))) ?_;refine qn ?_;refine qy H (λX H=>?_) (λX H=>?_)
     ·obtain⟨b0,aj,H⟩:=iy H;refine aq ?_;refine sP 0 y (x0.length:Int) rfl rfl rfl rfl rX Ty.nx rfl (.inr ⟨_,_,rfl,rfl⟩) (.inl ⟨rfl,rfl⟩) b rfl aj ?_;intro O bv u;refine au ?_;refine iL (λE wq=>∃h:Int,∃m:List (List UInt8),oY.k4 h m=some r ∧ ∃(p:gL),E=[(0,a),(3,.i .i64 h)]∧B.le p∧iW b [.row lV a m] p wq) ?_ ?_
      ·refine ax ?_;refine jH (λ(s:Int×Int×(List (List UInt8))) E wq=>∃(l:gL),E=[(0,a),(3,.i .i64 s.1),(4,O),(5,.i .i64 s.2.1)]∧B.le l∧iW b [.row lV a s.2.2] l wq) H ?_ ?_
       ·exact lo (jj b)
       ·rintro bg ⟨j,L,z⟩ E bF hI H
        try dsimp only at hI
        obtain⟨l,rfl,b6,d⟩:=hI;refine ay ?_;refine qy H (λY H=>?_) (λY H=>?_)
        ·refine qk ?_;refine iL (λE wq=>∃x:Int,∃A:List (List UInt8),oY.k6 L bg x A=some r ∧ ∃(q:gL),E=[(0,a),(3,.i .i64 x),(4,O),(5,.i .i64 L)]∧l.le q∧iW d [.row lV a A] q wq) ?_ ?_
         ·refine ay ?_;obtain⟨bi,aT,bj,aU,H⟩:=iG H;refine rn ?_;refine au ?_;obtain⟨a8,bc,aY⟩:=Gh aT;obtain⟨bp,aD,e⟩:=d.rowAt (k:=0) rfl aY;obtain⟨rfl,a4⟩:=aD;replace e:=e.piece u bc;replace e:=qj 32 e;have ae:=e.ky;refine qi rX Ty.nx ae a8 ?_;refine qr (pw 0 (iJ bi) Ty.pJ Ty.nx rfl e (by first|omega|rfl) rfl (kY rfl)) ?_;refine au ?_;obtain⟨a9,be,ba⟩:=Gh aU;obtain⟨bq,aH,f⟩:=d.rowAt (k:=0) rfl ba;obtain⟨rfl,a5⟩:=aH;replace f:=f.piece u be;replace f:=qj 32 f;have ah:=f.ky;refine qi rX Ty.nx ah a9 ?_;refine qr (pw 0 (iJ bj) Ty.pJ Ty.nx rfl f (by first|omega|rfl) rfl (kY rfl)) ?_;refine qr (iB rfl rfl (Ns Ty.Ag rfl rfl (Af a4 a5))) ?_;refine qn ?_;refine qy H (λZ H=>?_) (λZ H=>?_)
          ·obtain⟨n,aV,bk,J,H⟩:=iG H;refine aq ?_;obtain⟨aC,bf,bb⟩:=Gh aV;obtain⟨br,aJ,g⟩:=d.rowAt (k:=0) rfl bb;obtain⟨rfl,a6⟩:=aJ;replace g:=g.piece u bf;replace g:=qj 32 g;have ai:=g.ky;refine qi rX Ty.nx ai aC ?_;refine qr (pw 0 (iJ n) Ty.pJ Ty.nx rfl g (by first|omega|rfl) rfl (kY rfl)) ?_;obtain⟨_,⟨rfl,bu⟩,_⟩:=mw 32 0 d J;refine au ?_;refine um (pT (c:=iJ n) 0 (j.toNat) 0 bk n rfl rfl d rfl (iD J).2 (by first|rfl|(show _=_*32+_;omega)) rfl Ty.nx rfl (kY rfl) (by rintro cs ⟨rfl,c0⟩;exact⟨rfl,a6⟩)) ?_;rintro _ bI S;refine ax ?_;exact nj ⟨wr (j+1),(z.set j.toNat n),H,jj S⟩
          ·refine ax ?_;exact nj ⟨j,z,H,jj d⟩
         ·rintro E bH ⟨x,A,H,q,rfl,b8,R⟩;refine ax ?_;exact nm H (jj R)
        ·refine jf _ rfl ?_;exact nj ⟨j,z,H,jj d⟩
      ·rintro E bC ⟨h,m,H,p,rfl,b4,D⟩;obtain⟨b1,ak,b2,am,H⟩:=iG H;refine aq ?_;refine sP 0 h (m.length:Int) rfl rfl rfl rfl rX Ty.nx rfl (.inr ⟨_,_,rfl,rfl⟩) (.inl ⟨rfl,rfl⟩) D rfl ak ?_;intro bA bw aK;refine um (Hf (tr:=lV) (x0:=(iV 32 (0:UInt8))) 0 rX Ty.B2 ⟨rfl,(vL)⟩ rfl D rfl aK am) ?_;rintro _ bE G;obtain⟨b3,I,H⟩:=iy H;refine ax ?_;refine sP 0 0 h rfl rfl rfl rfl rX Ty.nx rfl (.inl ⟨rfl,rfl⟩) (.inr ⟨_,_,rfl,rfl⟩) G rfl I ?_;intro bB bz aO;refine au ?_;obtain⟨_,OY,H⟩:=iy H;have Q:=G.shrink 0 rfl aO I OY;exact rx H Q
     ·refine ax ?_;exact nj ⟨H,jj b⟩
    ·rintro E w7 ⟨H,F7,rfl,b9,U⟩;refine ax ?_;exact nm H (jj U)
   ·refine jf _ rfl ?_;exact nj ⟨H,jj b⟩
  ·rintro E w2 ⟨H,F2,rfl,b5,P⟩;exact rx H P
def Jg(x0:List (List UInt8)):Option (List (List UInt8)) :=
  bd (app (α:=(List UInt8)) ([]:List (List UInt8)) x0) λl6 =>
  some l6
theorem WY{x0:List (List UInt8)}{r:(List (List UInt8))}{f:gE}(hA:Gd F w)(a:iq lV F f x0)(H:Jg x0=some r):iN il K 152 [f] w λv w'=>∃(F':gL)(e:gE),v=e∧St [] w F F' [.row lV e (r)] w':=by
 refine lg Tryz.func152 ?_;have hS:=St.start hA;refine ay ?_;refine Ck rfl rfl rfl rfl rX rfl rfl a.ln ?_;intro k i;refine qn ?_;refine qg rfl (λc=>?_) (λc=>?_)
 ·have d:x0=[]:=nK (i c);have H:(some []:Option (List (List UInt8)))=some r:=by first|(rw[d]at H;exact H)|(subst d;exact H)
  refine aq ?_;have g:=hS.lb lV;exact rx H g
 ·obtain⟨l6,j,H⟩:=iy H;refine ax ?_;refine xm (kN (t:=lV) (vs:=[]) (xs:=([]:List (List UInt8))) rX Ty.CY rfl trivial rfl rfl hS) ?_;rintro l n b;refine qc ?_;refine ap 0 b (a.src b.agree) j ?_;intro m p h;exact rx H h
def Qp(x0:List UInt8)(x1:ig):Option Bool :=
  bd (FA x1.chunks x0) λa =>
  some (!a.2)
theorem afQ[Kn (sN il) K]{x0:List UInt8}{x1:ig}{r:Bool}{yZ:Nat}{c:gE}{d:gE}{e:gE}{f:gE}(hA:Gd F w)(g:x0.length=32)(n:iq ie.t F c x1.ik)(h:iq Chunk.t F d x1.chunks)(p:iq iu.t F e x1.im)(q:iq iz.t F f x1.iv)(k:rB F yZ [.i .i64 x1.seq,c,d,e,f])(H:Qp x0 x1=some r):iN il K 147 [.agg (iJ x0),pl yZ 0] w λv w'=>∃(F':gL),v = .b r∧St [] w F F' [] w':=by
 refine kB Tryz.func147 ?_;have hS:=St.start hA;refine qs ?_;refine bx (iJ x0) ?_;intro m u a;obtain⟨s,l,H⟩:=iy H;refine ax ?_;refine qr (qo Ty.vj rfl (k.mono a.agree) rfl) ?_;refine au ?_;refine lp (NH a.iH h g l) a ?_;intro x j;refine au ?_;exact rz H j
def zx.k1:Option Int :=
  some (-1)
def zx.l2(x0:List (List UInt8))(d:ig)(c:Int→Option Int):Int→Option Int
  | a =>
    if decide (a<(x0.length:Int))then
      bd (ix x0 a) λx6 =>
      bd (Qp x6 d) λb =>
      if b then
        some a
      else
        c (wr (a+1))
    else
      zx.k1
def zx(x0:List (List UInt8))(a:ig):Option Int :=
  loop (zx.l2 x0 a) 0
theorem ahG[Kn (sN il) K]{x0:List (List UInt8)}{a:ig}{r:Int}{c:gE}{oV:Nat}{g:gE}{h:gE}{j:gE}{k:gE}(hA:Gd F w)(l:iq lV F c x0)(m:iq ie.t F g a.ik)(n:iq Chunk.t F h a.chunks)(p:iq iu.t F j a.im)(q:iq iz.t F k a.iv)(x:rB F oV [.i .i64 a.seq,g,h,j,k])(H:zx x0 a=some r):iN il K 167 [c,.f 147 [pl oV 0]] w λv w'=>∃(F':gL),v = .i .i64 r∧St [] w F F' [] w':=by
 refine kB Tryz.func167 ?_;have hS:=St.start hA;refine aq ?_;refine iL (jN (zx.k1=some r) [] hS) ?_ ?_
 ·refine ax ?_;refine lj hS (λs:Int=>[(0,c),(1,.f 147 [pl oV 0]),(7,.i .i64 (x0.length:Int)),(8,.i .i64 s)]) H ?_;intro P L I S e b H;refine ay ?_;refine qy H (λz H=>?_) (λz H=>?_)
  ·obtain⟨x6,D,O,B,H⟩:=iG H;obtain⟨_,⟨rfl,A⟩,J⟩:=js 32 (l.mono e) D;refine ay ?_;refine lp (afQ b.iH A (mo m) (mo n) (mo p) (mo q) (x.mono e) B) b ?_;intro R d;refine qn ?_;refine qy H (λy H=>?_) (λy H=>?_)
   ·exact rz H d
   ·refine ax ?_;exact nm H (jj d)
  ·refine jf _ rfl ?_;exact nj ⟨H,jj b⟩
 ·rintro E Q ⟨H,G,rfl,M,u⟩;exact rz H u
def QG(x0:List (List UInt8))(b:ig):Option Bool :=
  bd (zx x0 b) λa =>
  some (decide (0≤a))
theorem ahz[Kn (sN il) K]{x0:List (List UInt8)}{a:ig}{r:Bool}{c:gE}{oV:Nat}{d:gE}{e:gE}{g:gE}{h:gE}(hA:Gd F w)(j:iq lV F c x0)(k:iq ie.t F d a.ik)(l:iq Chunk.t F e a.chunks)(m:iq iu.t F g a.im)(n:iq iz.t F h a.iv)(q:rB F oV [.i .i64 a.seq,d,e,g,h])(H:QG x0 a=some r):iN il K 145 [c,.f 147 [pl oV 0]] w λv w'=>∃(F':gL),v = .b r∧St [] w F F' [] w':=by
 refine kB Tryz.func145 ?_;have hS:=St.start hA;obtain⟨u,s,H⟩:=iy H;refine ax ?_;refine lp (ahG hS.iH j k l m n q s) hS ?_;intro x p;exact rz H p
def IY(x0:ie)(x1:ie):Option Bool :=
  some (x0.iw.name==x1.iw.name)
theorem Wc{x0:ie}{x1:ie}{r:Bool}{a:gE}{c:gE}{yZ:Nat}{e:gE}{f:gE}(hA:Gd F w)(j:iq Part.t F a x0.iw.parts)(k:iq Loc.t F c x0.locs)(l:iq Part.t F e x1.iw.parts)(m:iq Loc.t F f x1.locs)(g:rB F yZ [.i .i64 x1.seq,.s x1.iw.name,e,f])(H:IY x0 x1=some r):iN il K 94 [.agg (ie.cells x0 a c),pl yZ 0] w λv w'=>∃(F':gL),v = .b r∧St [] w F F' [] w':=by
 refine kB Tryz.func94 ?_;have hS:=St.start hA;refine qs ?_;refine bx ([.i .i64 x0.seq,.s x0.iw.name,a,c]) ?_;intro h n d;refine ax ?_;refine qr (qo Ty.Be rfl (g.mono d.agree) rfl) ?_;exact rz H d
def yB.k1:Option Int :=
  some (-1)
def yB.l2(x0:List ie)(d:ie)(c:Int→Option Int):Int→Option Int
  | a =>
    if decide (a<(x0.length:Int))then
      bd (ix x0 a) λx6 =>
      bd (IY x6 d) λb =>
      if b then
        some a
      else
        c (wr (a+1))
    else
      yB.k1
def yB(x0:List ie)(a:ie):Option Int :=
  loop (yB.l2 x0 a) 0
theorem ahL{x0:List ie}{a:ie}{r:Int}{c:gE}{oV:Nat}{g:gE}{h:gE}(hA:Gd F w)(j:iq ie.t F c x0)(k:iq Part.t F g a.iw.parts)(l:iq Loc.t F h a.locs)(n:rB F oV [.i .i64 a.seq,.s a.iw.name,g,h])(H:yB x0 a=some r):iN il K 113 [c,.f 94 [pl oV 0]] w λv w'=>∃(F':gL),v = .i .i64 r∧St [] w F F' [] w':=by
 refine kB Tryz.func113 ?_;have hS:=St.start hA;refine aq ?_;refine iL (jN (yB.k1=some r) [] hS) ?_ ?_
 ·refine ax ?_;refine lj hS (λs:Int=>[(0,c),(1,.f 94 [pl oV 0]),(7,.i .i64 (x0.length:Int)),(8,.i .i64 s)]) H ?_;intro L G B R e b H;refine ay ?_;refine qy H (λq H=>?_) (λq H=>?_)
  ·obtain⟨x6,z,J,u,H⟩:=iG H;obtain⟨_,⟨M,O,rfl,x,y⟩,D⟩:=js 4 (j.mono e) z;refine ay ?_;refine lp (Wc b.iH x y (mo k) (mo l) (n.mono e) u) b ?_;intro Q d;refine qn ?_;refine qy H (λp H=>?_) (λp H=>?_)
   ·exact rz H d
   ·refine ax ?_;exact nm H (jj d)
  ·refine jf _ rfl ?_;exact nj ⟨H,jj b⟩
 ·rintro E P ⟨H,A,rfl,I,m⟩;exact rz H m
def uj.k1(a:Int)(l6:List ie):Option (List ie) :=
  bd (cut (α:=ie) l6 a (l6.length:Int)) λl7 =>
  bd (yc l6 a.toNat ((l6.length:Int).toNat-a.toNat) (ie.mk 0 (iF.mk [] []) [])) λl9 =>
  bd (cut (α:=ie) l9 0 a) λlx =>
  bd (nz l9) λ_ =>
  some lx
def uj.k3(a:Int)(d:(Int×Int×(List ie))→Option (List ie))(b:Int)(c:List ie):Option (List ie) :=
  d (b,wr (a+1),c)
def uj.l2(g:ie)(d:(Int×Int×(List ie))→Option (List ie)):(Int×Int×(List ie))→Option (List ie)
  | (b,c,a) =>
    if decide (c<(a.length:Int))then
      bd (ix a c) λe =>
      bd (IY e g) λf =>
      if(!f)then
        bd (ix a b) λh =>
        uj.k3 c d (wr (b+1)) (a.set b.toNat e)
      else
        uj.k3 c d b a
    else
      uj.k1 b a
def uj(x0:List ie)(b:ie):Option (List ie) :=
  bd (yB x0 b) λa =>
  if decide (a=(-1))then
    some x0
  else
    loop (uj.l2 b) (a,wr (a+1),x0)
theorem ahE{x0:List ie}{g:ie}{r:(List ie)}{a:gE}{oV:Nat}{S:gE}{U:gE}(hS:St a.own w F F [.row ie.t a x0] w)(D:iq Part.t F S g.iw.parts)(G:iq Loc.t F U g.locs)(M:rB F oV [.i .i64 g.seq,.s g.iw.name,S,U])(H:uj x0 g=some r):iN il K 62 [a,.f 94 [pl oV 0]] w λv w'=>∃(F':gL)(R:gE),v=R∧St a.own w F F' [.row ie.t R (r)] w':=by
 refine kB Tryz.func62 ?_;obtain⟨r1,aj,H⟩:=iy H;refine ax ?_;refine lp (ahL (Gd.now hS.wf) (hS.ni (k:=0) rfl) (D.mono hS.agree) (G.mono hS.agree) (M.mono hS.agree) aj) hS ?_;intro w2 l;refine ay ?_;refine qy H (λad H=>?_) (λad H=>?_)
 ·exact rx H l
 ·refine qk ?_;refine iL (λE wq=>∃e:Int,∃l6:List ie,uj.k1 e l6=some r ∧ ∃(n:gL),E=[(0,a),(5,.i .i64 e)]∧F.le n∧iW l [.row ie.t a l6] n wq) ?_ ?_
  ·refine ax ?_;refine jH (λ(s:Int×Int×(List ie)) E wq=>∃(h:gL),E=[(0,a),(1,.f 94 [pl oV 0]),(5,.i .i64 s.1),(6,.i .i64 s.2.1)]∧F.le h∧iW l [.row ie.t a s.2.2] h wq) H ?_ ?_
   ·exact lo (jj l)
   ·rintro a6 ⟨d,Q,y⟩ E bf hI H
    try dsimp only at hI
    obtain⟨h,rfl,a5,j⟩:=hI;refine ay ?_;refine qr (jV kR rfl (j.kH (k:=0) rfl)) ?_;refine au ?_;refine qy H (λZ H=>?_) (λZ H=>?_)
    ·refine qk ?_;refine iL (λE wq=>∃x:Int,∃z:List ie,uj.k3 Q a6 x z=some r ∧ ∃(m:gL),E=[(0,a),(1,.f 94 [pl oV 0]),(5,.i .i64 x),(6,.i .i64 Q)]∧h.le m∧iW j [.row ie.t a z] m wq) ?_ ?_
     ·obtain⟨b,a4,H⟩:=iy H;obtain⟨_,⟨A,B,rfl,q,u⟩,aH⟩:=mw 4 0 j a4;refine ax ?_;refine al ?_;intro aC bi aD;refine sb 0 ([.i .i64 b.seq,.s b.iw.name,A,B]) ?_;intro bj J;obtain⟨ba,ak,H⟩:=iy H;refine ax ?_;refine lp (Wc J.iH q u (mo D) (mo G) (M.mono a5) ak) J ?_;intro bk p;refine au ?_;refine qy H (λae H=>?_) (λae H=>?_)
      ·obtain⟨a7,P,H⟩:=iy H;obtain⟨_,⟨bb,bc,rfl,aJ,aK⟩,_⟩:=mw 4 1 p P;refine aq ?_;refine um (pT (c:=[.i .i64 b.seq,.s b.iw.name,A,B]) 1 (d.toNat) 0 a7 b rfl rfl p rfl (iD P).2 (by first|rfl|(show _=_*4+_;omega)) rfl Ty.oa (by simp only[List.all_cons,List.all_nil,List.all_append,q.ln.one,u.ln.one];rfl) (kY rfl) (by rintro cs ⟨a2,a3,rfl,b2,b3⟩;exact⟨A,B,rfl,q,u⟩)) ?_;rintro _ bm Y;refine ax ?_;exact nj ⟨wr (d+1),(y.set d.toNat b),H,jj (pk [1] Y)⟩
      ·refine ax ?_;exact nj ⟨d,y,H,jj (pk [1] p)⟩
     ·rintro E bh ⟨x,z,H,m,rfl,aT,X⟩;refine ax ?_;exact nm H (jj X)
    ·refine jf _ rfl ?_;exact nj ⟨d,y,H,jj j⟩
  ·rintro E w4 ⟨e,l6,H,n,rfl,aU,L⟩;obtain⟨l7,ah,l9,ai,H⟩:=iG H;refine aq ?_;refine sP 0 e (l6.length:Int) rfl rfl rfl rfl kR Ty.oa rfl (.inr ⟨_,_,rfl,rfl⟩) (.inl ⟨rfl,rfl⟩) L rfl ah ?_;intro q8 aR ar;refine um (Hf (tr:=ie.t) (x0:=(ie.mk 0 (iF.mk [] []) [])) 0 kR Ty.Q6 ⟨.sl none 0 (.k 0),.sl none 0 (.k 0),rfl,(iq.nil _),(iq.nil _)⟩ rfl L rfl ar ai) ?_;rintro _ be I;obtain⟨lx,O,H⟩:=iy H;refine ax ?_;refine sP 0 0 e rfl rfl rfl rfl kR Ty.oa rfl (.inl ⟨rfl,rfl⟩) (.inr ⟨_,_,rfl,rfl⟩) I rfl O ?_;intro aV aO am;refine au ?_;obtain⟨_,Ih,H⟩:=iy H;have V:=I.shrink 0 rfl am O Ih;exact rx H V
def AM(x0:List Loc):Option (List Loc) :=
  bd (app (α:=Loc) ([]:List Loc) x0) λl6 =>
  some l6
theorem Jh{x0:List Loc}{r:(List Loc)}{f:gE}(hA:Gd F w)(a:iq Loc.t F f x0)(H:AM x0=some r):iN il K 95 [f] w λv w'=>∃(F':gL)(e:gE),v=e∧St [] w F F' [.row Loc.t e (r)] w':=by
 refine lg Tryz.func95 ?_;have hS:=St.start hA;refine ay ?_;refine Ck rfl rfl rfl rfl ov rfl rfl a.ln ?_;intro k i;refine qn ?_;refine qg rfl (λc=>?_) (λc=>?_)
 ·have d:x0=[]:=nK (i c);have H:(some []:Option (List Loc))=some r:=by first|(rw[d]at H;exact H)|(subst d;exact H)
  refine aq ?_;have g:=hS.lb Loc.t;exact rx H g
 ·obtain⟨l6,j,H⟩:=iy H;refine ax ?_;refine xm (kN (t:=Loc.t) (vs:=[]) (xs:=([]:List Loc)) ov Ty.yt rfl trivial rfl rfl hS) ?_;rintro l n b;refine qc ?_;refine ap 0 b (a.src b.agree) j ?_;intro m p h;exact rx H h
end
end Go.Wk.Lf
end
