/-  -/
import Derived.Test.YtfhalkdoeiadgaaGreatG7
set_option linter.unusedVariables false
set_option linter.unusedSimpArgs false
open Bool renaming eq_false_or_eq_true→uO
open Go.Proofs.Tryz renaming prog→aac, underlying24→aam, underlying25→aaE, underlying26→aaF, underlying3→abD, underlying5→acP, underlying59→aaT
open List renaming all_append→rC, all_cons→tZ, all_nil→uR, replicate→ph
open Nat renaming le_of_ble_eq_true→qY, zero_lt_succ→wU
section
namespace Go.Wk.Lf
open Go.V Go.Proofs
noncomputable section
set_option maxRecDepth 100000
variable {K:Tb} {F:jL} {w:Hp}
def pg.k5 (qG:List oH) (a:Int) (b:List Chunk) (c:List oC) (d:List lU):Option (mZ × Int) :=
  bd (qF (mZ.mk a d b c qG)) fun e =>
  if (!e) then
    some ((mZ.mk 0 [] [] [] []),1)
  else
    some ((mZ.mk a d b c qG),0)
def pg.k7 (a:Int) (c:(Int × (List lU))→Option (mZ × Int)) (b:List lU):Option (mZ × Int) :=
  c (wr (a+1),b)
def pg.k8 (e:List lU) (a:Int) (b:List lU) (c:(Int × (List lU))→Option (mZ × Int)) (d:Bool):Option (mZ × Int) :=
  if (!d) then
    bd (ix e a) fun g =>
    bd (app (α:=lU) b [g]) fun f =>
    pg.k7 a c f
  else
    pg.k7 a c b
def pg.l9 (b:List lU) (d:Int) (e:List lU) (f:(Int × (List lU))→Option (mZ × Int)) (g:(Bool × Int)→Option (mZ × Int)):(Bool × Int)→Option (mZ × Int)
  | (a,c) =>
    if decide (c < (b.length:Int)) then
      bd (only (!a) (ix b c) (lU.mk 0 (oP.mk [] []) [])) fun i =>
      bd (only (!a) (ix b d) (lU.mk 0 (oP.mk [] []) [])) fun h =>
      g ((a||(i.oJ.name == h.oJ.name)),wr (c+1))
    else
      pg.k8 b d e f a
def pg.l6 (qG:List oH) (d:Int) (e:List Chunk) (f:List oC) (b:List lU) (g:(Int × (List lU))→Option (mZ × Int)):(Int × (List lU))→Option (mZ × Int)
  | (a,c) =>
    if decide (a < (b.length:Int)) then
      loop (pg.l9 b a c g) (false,wr (a+1))
    else
      pg.k5 qG d e f c
def pg.k4 (qG:List oH) (b:List lU) (a:Int) (c:List Chunk) (d:List oC) (e:List lU):Option (mZ × Int) :=
  loop (pg.l6 qG a c d e) (0,b)
def pg.Aw (a:Int) (c:((List lU) × Int)→Option (mZ × Int)) (b:List lU):Option (mZ × Int) :=
  c (b,wr (a+1))
def pg.A4 (b:List lU) (a:Int) (c:((List lU) × Int)→Option (mZ × Int)) (d:lU) (g:(List Loc)) (e:Bool):Option (mZ × Int) :=
  if e then
    bd (app (α:=lU) b [(lU.mk d.seq d.oJ g)]) fun f =>
    pg.Aw a c f
  else
    pg.Aw a c b
def pg.tL (qG:List oH) (g:List lU) (e:Int) (h:List Chunk) (i:List oC) (f:List lU) (d:Int) (l:((List lU) × Int)→Option (mZ × Int)) (n:lU) (j:(List Loc)) (c:(List (List UInt8))) (m:(Bool × Int)→Option (mZ × Int)):(Bool × Int)→Option (mZ × Int)
  | (a,b) =>
    if decide (b < (c.length:Int)) then
      bd (only a (ix c b) (ph 32 (0:UInt8))) fun p =>
      bd (only a (AX (mZ.mk e g h i qG) p) 0) fun k =>
      m ((a&&decide (0≤k)),wr (b+1))
    else
      pg.A4 f d l n j a
def pg.HS (qG:List oH) (f:List lU) (d:Int) (g:List Chunk) (h:List oC) (e:List lU) (c:Int) (k:((List lU) × Int)→Option (mZ × Int)) (a:lU) (i:(List Loc)) (b:Bool):Option (mZ × Int) :=
  bd (wF a.oJ) fun j =>
  loop (pg.tL qG f d g h e c k a i j) (b,0)
def pg.wN (qG:List oH) (h:List lU) (f:Int) (i:List Chunk) (c:List oC) (g:List lU) (e:Int) (k:((List lU) × Int)→Option (mZ × Int)) (d:lU) (j:(List Loc)) (l:(Bool × Int)→Option (mZ × Int)):(Bool × Int)→Option (mZ × Int)
  | (a,b) =>
    if decide (b < (c.length:Int)) then
      bd (only a (ix c b) (oC.mk 0 0 [])) fun m =>
      l ((a&&decide (m.of≠d.seq)),wr (b+1))
    else
      pg.HS qG h f i c g e k d j a
def pg.sm (qG:List oH) (d:List lU) (e:List lU) (b:Int) (f:List Chunk) (g:List oC) (j:((List lU) × Int)→Option (mZ × Int)):((List lU) × Int)→Option (mZ × Int)
  | (c,a) =>
    if decide (a < (d.length:Int)) then
      bd (ix d a) fun h =>
      bd (uY h.oN) fun i =>
      loop (pg.wN qG e b f g c a j h i) (true,0)
    else
      pg.k4 qG e b f g c
def pg.k3 (qG:List oH) (b:List lU) (c:List lU) (a:Int) (d:List Chunk) (e:List oC):Option (mZ × Int) :=
  loop (pg.sm qG b c a d e) ([],0)
def pg.tc (qG:List oH) (e:List lU) (f:List lU) (d:Int) (g:List Chunk) (i:(Int × (List oC))→Option (mZ × Int)):(Int × (List oC))→Option (mZ × Int)
  | (a,b) =>
    if decide (a < (b.length:Int)) then
      bd (ix b a) fun c =>
      bd (uY c.oN) fun h =>
      i (wr (a+1),(b.set a.toNat (oC.mk c.seq c.of h)))
    else
      pg.k3 qG e f d g b
def pg.k2 (qG:List oH) (b:List lU) (c:List lU) (a:Int) (d:List oC) (e:List Chunk):Option (mZ × Int) :=
  loop (pg.tc qG b c a e) (0,d)
def pg.pN (qG:List oH) (e:List lU) (f:List lU) (d:Int) (g:List oC) (i:(Int × (List Chunk))→Option (mZ × Int)):(Int × (List Chunk))→Option (mZ × Int)
  | (a,b) =>
    if decide (a < (b.length:Int)) then
      bd (ix b a) fun c =>
      bd (uY c.oN) fun h =>
      i (wr (a+1),(b.set a.toNat (Chunk.mk c.id c.pX c.data h)))
    else
      pg.k2 qG e f d g b
def pg.k1 (qG:List oH) (b:List lU) (c:List Chunk) (d:List lU) (a:Int) (e:List oC):Option (mZ × Int) :=
  loop (pg.pN qG b d a e) (0,c)
def pg.A5 (a:Int) (h:(Int × (List oH) × (List lU) × (List Chunk) × (List lU) × Int × (List oC))→Option (mZ × Int)) (c:List oH) (d:List lU) (e:List Chunk) (f:List lU) (b:Int) (g:List oC):Option (mZ × Int) :=
  h (wr (a+1),c,d,e,f,b,g)
def pg.Jw (x1:List Found) (d:Int) (g:List oH) (h:List Chunk) (i:List lU) (e:Int) (j:List oC) (l:(Int × (List oH) × (List lU) × (List Chunk) × (List lU) × Int × (List oC))→Option (mZ × Int)) (a:Found) (b:Int) (c:List lU):Option (mZ × Int) :=
  bd (ix c b) fun m =>
  bd (ix x1 d) fun n =>
  bd (app (α:=Loc) m.oN [n.loc]) fun k =>
  bd (ix c b) fun f =>
  pg.A5 d l g (c.set b.toNat (lU.mk f.seq f.oJ k)) h i (if e < wr ((if 1073741824 < a.oG.seq then 1073741824 else a.oG.seq)+1) then wr ((if 1073741824 < a.oG.seq then 1073741824 else a.oG.seq)+1) else e) j
def pg.LQ (x1:List Found) (d:Int) (f:List oH) (b:List lU) (g:List Chunk) (h:List lU) (e:Int) (i:List oC) (j:(Int × (List oH) × (List lU) × (List Chunk) × (List lU) × Int × (List oC))→Option (mZ × Int)) (c:Found) (l:oP × Bool) (a:Int):Option (mZ × Int) :=
  bd (only (!decide (a=(b.length:Int))) (ix b a) (lU.mk 0 (oP.mk [] []) [])) fun m =>
  if (decide (a=(b.length:Int))||decide (m.seq≠c.oG.seq)) then
    bd (wZ b a [(lU.mk c.oG.seq l.1 [])]) fun k =>
    pg.Jw x1 d f g h e i j c a k
  else
    pg.Jw x1 d f g h e i j c a b
def pg.qQ (x1:List Found) (d:Int) (f:List oH) (b:List lU) (g:List Chunk) (h:List lU) (e:Int) (i:List oC) (k:(Int × (List oH) × (List lU) × (List Chunk) × (List lU) × Int × (List oC))→Option (mZ × Int)) (c:Found) (j:oP × Bool) (l:Int→Option (mZ × Int)):Int→Option (mZ × Int)
  | a =>
    bd (only (decide (a < (b.length:Int))) (ix b a) (lU.mk 0 (oP.mk [] []) [])) fun m =>
    if (decide (a < (b.length:Int))&&decide (m.seq < c.oG.seq)) then
      l (wr (a+1))
    else
      pg.LQ x1 d f b g h e i k c j a
def pg.Jx (x1:List Found) (d:Int) (g:List oH) (h:List lU) (i:List Chunk) (j:List lU) (e:Int) (l:(Int × (List oH) × (List lU) × (List Chunk) × (List lU) × Int × (List oC))→Option (mZ × Int)) (a:Found) (b:Int) (c:List oC):Option (mZ × Int) :=
  bd (ix c b) fun m =>
  bd (ix x1 d) fun n =>
  bd (app (α:=Loc) m.oN [n.loc]) fun k =>
  bd (ix c b) fun f =>
  pg.A5 d l g h i j (if e < wr ((if 1073741824 < a.oG.seq then 1073741824 else a.oG.seq)+1) then wr ((if 1073741824 < a.oG.seq then 1073741824 else a.oG.seq)+1) else e) (c.set b.toNat (oC.mk f.seq f.of k))
def pg.LR (x1:List Found) (d:Int) (f:List oH) (g:List lU) (h:List Chunk) (i:List lU) (e:Int) (c:List oC) (j:(Int × (List oH) × (List lU) × (List Chunk) × (List lU) × Int × (List oC))→Option (mZ × Int)) (a:Found) (b:Int):Option (mZ × Int) :=
  bd (only (!decide (b=(c.length:Int))) (ix c b) (oC.mk 0 0 [])) fun l =>
  if (decide (b=(c.length:Int))||decide (l.seq≠a.oG.seq)) then
    bd (ix a.oG.data 0) fun m =>
    bd (ix a.oG.data 1) fun n =>
    bd (ix a.oG.data 2) fun p =>
    bd (ix a.oG.data 3) fun q =>
    bd (wZ c b [(oC.mk a.oG.seq (bits .or .i64 (bits .or .i64 (bits .or .i64 (wr ((m.toNat:Int)*2 ^ (24:Int).toNat)) (wr ((n.toNat:Int)*2 ^ (16:Int).toNat))) (wr ((p.toNat:Int)*2 ^ (8:Int).toNat))) (q.toNat:Int)) [])]) fun k =>
    pg.Jx x1 d f g h i e j a b k
  else
    pg.Jx x1 d f g h i e j a b c
def pg.uo (x1:List Found) (d:Int) (f:List oH) (g:List lU) (h:List Chunk) (i:List lU) (e:Int) (b:List oC) (j:(Int × (List oH) × (List lU) × (List Chunk) × (List lU) × Int × (List oC))→Option (mZ × Int)) (c:Found) (k:Int→Option (mZ × Int)):Int→Option (mZ × Int)
  | a =>
    bd (only (decide (a < (b.length:Int))) (ix b a) (oC.mk 0 0 [])) fun l =>
    if (decide (a < (b.length:Int))&&decide (l.seq < c.oG.seq)) then
      k (wr (a+1))
    else
      pg.LR x1 d f g h i e b j c a
def pg.qG (x1:List Found) (j:(Int × (List oH) × (List lU) × (List Chunk) × (List lU) × Int × (List oC))→Option (mZ × Int)):(Int × (List oH) × (List lU) × (List Chunk) × (List lU) × Int × (List oC))→Option (mZ × Int)
  | (a,e,f,g,h,d,i) =>
    if decide (a < (x1.length:Int)) then
      bd (ix x1 a) fun c =>
      if decide (c.oG.kind=1) then
        if (decide (1≤(c.oG.data.length:Int))&&decide ((c.oG.data.length:Int)≤64)) then
          bd (p9 c.oG.data) fun n =>
          bd (yW (mZ.mk d h g i e) n) fun b =>
          bd (ix b.2.chunks b.1) fun p =>
          bd (ix x1 a) fun q =>
          bd (app (α:=Loc) p.oN [q.loc]) fun m =>
          bd (ix b.2.chunks b.1) fun k =>
          pg.A5 a j b.2.oK f (b.2.chunks.set b.1.toNat (Chunk.mk k.id k.pX k.data m)) b.2.oB b.2.seq b.2.oD
        else
          pg.A5 a j e f g h d i
      else
        if decide (c.oG.kind=2) then
          bd (tz c.oG.data) fun l =>
          if (!l.2) then
            pg.A5 a j e f g h d i
          else
            loop (pg.qQ x1 a e f g h d i j c l) 0
        else
          if decide (c.oG.kind=3) then
            if decide ((c.oG.data.length:Int)≠4) then
              pg.A5 a j e f g h d i
            else
              loop (pg.uo x1 a e f g h d i j c) 0
          else
            pg.A5 a j e f g h d i
    else
      pg.k1 e f g h d i
def pg (x0:List oH) (x1:List Found):Option (mZ × Int) :=
  bd (app (α:=oH) [] x0) fun a =>
  loop (pg.qG x1) (0,a,[],[],[],0,[])
set_option maxHeartbeats 2000000 in
theorem acr {x0:List oH} {x1:List Found} {r:mZ × Int} {v0:jD} {v1:jD} (hA:Gd F w) (h0:oF oH.t F v0 x0) (h1:oF Found.t F v1 x1) (H:pg x0 x1=some r):pa aac K 13 [v0,v1] w fun v w'=>∃ (F':jL) (fb:jD) (fc:jD) (fd:jD) (fe:jD),v = .qR [.agg (mZ.cells r.1 fb fc fd fe),.i .i64 r.2]∧oF lU.t F' fb (r.1.oB)∧oF Chunk.t F' fc (r.1.chunks)∧oF oC.t F' fd (r.1.oD)∧oF oH.t F' fe (r.1.oK)∧St [] w F F' [] w':=by
 refine ra Tryz.func13 ?_;have hS:=St.start hA;refine qs ?_;refine al ?_;intro e w1 fz;have fB:=fz.wk lU.o;have fH:=fB.wk Chunk.o;have kh:=fH.wk oC.o;refine ax ?_;refine al ?_;intro g w5 fV;have fZ:=fV.wk lU.o;have gk:=fZ.wk Chunk.o;have ki:=gk.wk oC.o;refine al ?_;intro j w9 gp;have f0:=gp.wk lU.o;have f2:=f0.wk Chunk.o;have f4:=f2.wk oC.o;obtain ⟨kX,hf,H⟩:=oL H;refine ax ?_;have ej:=f4.sY oH.t;refine ap 0 ej (h0.src ej.agree) hf ?_;intro d nr kc;refine au ?_;refine sc 8 ([.i .i64 0,(.sl none 0 (.k 0)),(.sl none 0 (.k 0)),(.sl none 0 (.k 0)),d]) ?_;intro nw dk;refine qn ?_;refine pe (fun E wq=>∃ qG:List oH,∃ ai:List lU,∃ dE:List Chunk,∃ S:List lU,∃ p:Int,∃ bF:List oC,pg.k1 qG ai dE S p bF=some r ∧ ∃ (cK:jL) (O:jD) (ea:List Nat) (l:jD) (eb:List Nat) (A:jD) (ed:List Nat) (m:jD) (ee:List Nat),E=[(4,pl e 0),(6,pl g 0),(7,pl j 0)]∧F.le cK∧po dk [.row oH.t d qG,.dp oC.o [] (.sl none 0 (.k 0)) [],.dp Chunk.o [] (.sl none 0 (.k 0)) [],.box j [.i .i64 0,O,(.sl none 0 (.k 0)),(.sl none 0 (.k 0)),.sl none 0 (.k 0)],.dp Chunk.o eb l dE,.dp lU.o ed A S,.box g [.i .i64 p,A,l,m,d],.dp oC.o [] (.sl none 0 (.k 0)) [],.dp Chunk.o [] (.sl none 0 (.k 0)) [],.dp lU.o [] (.sl none 0 (.k 0)) [],.box e [.i .i64 0,(.sl none 0 (.k 0)),(.sl none 0 (.k 0)),(.sl none 0 (.k 0)),.sl none 0 (.k 0)],.dp lU.o ea O ai,.dp oC.o ee m bF] cK wq) ?_ ?_
 ·refine ax ?_;refine qC (fun (s:Int × (List oH) × (List lU) × (List Chunk) × (List lU) × Int × (List oC)) E wq=>∃ (bJ:jL) (I:jD) (X:List Nat) (y:jD) (Y:List Nat) (z:jD) (Z:List Nat) (D:jD) (ad:List Nat),E=[(1,v1),(4,pl e 0),(6,pl g 0),(7,pl j 0),(9,.i .i64 s.1)]∧F.le bJ∧po dk [.row oH.t d s.2.1,.dp oC.o [] (.sl none 0 (.k 0)) [],.dp Chunk.o [] (.sl none 0 (.k 0)) [],.box j [.i .i64 0,I,(.sl none 0 (.k 0)),(.sl none 0 (.k 0)),.sl none 0 (.k 0)],.dp Chunk.o Y y s.2.2.2.1,.dp lU.o Z z s.2.2.2.2.1,.box g [.i .i64 s.2.2.2.2.2.1,z,y,D,d],.dp oC.o [] (.sl none 0 (.k 0)) [],.dp Chunk.o [] (.sl none 0 (.k 0)) [],.dp lU.o [] (.sl none 0 (.k 0)) [],.box e [.i .i64 0,(.sl none 0 (.k 0)),(.sl none 0 (.k 0)),(.sl none 0 (.k 0)),.sl none 0 (.k 0)],.dp lU.o X I s.2.2.1,.dp oC.o ad D s.2.2.2.2.2.2] bJ wq) H ?_ ?_
  ·exact lo ⟨F,(.sl none 0 (.k 0)),[],(.sl none 0 (.k 0)),[],(.sl none 0 (.k 0)),[],(.sl none 0 (.k 0)),[],rfl,(jL.le.refl _),dk.pick [0,1,2,4,6,7,8,9,10,11,12,3,5] (by decide)⟩
  ·rintro ca ⟨U,P,J,Q,R,n,L⟩ E n5 hI H
   try dsimp only at hI
   obtain ⟨bJ,I,X,y,Y,z,Z,D,ad,rfl,c1,dl⟩:=hI;refine ay ?_;refine qy H (fun g0 H=>?_) (fun g0 H=>?_)
   ·refine qk ?_;refine pe (fun E wq=>∃ d9:List oH,∃ dA:List lU,∃ dB:List Chunk,∃ dC:List lU,∃ d7:Int,∃ dD:List oC,pg.A5 U ca d9 dA dB dC d7 dD=some r ∧ ∃ (cM:jL) (c4:jD) (dd:List Nat) (c5:jD) (de:List Nat) (c6:jD) (df:List Nat) (c7:jD) (dg:List Nat),E=[(1,v1),(4,pl e 0),(6,pl g 0),(7,pl j 0),(9,.i .i64 U)]∧bJ.le cM∧po dl [.row oH.t d d9,.dp oC.o [] (.sl none 0 (.k 0)) [],.dp Chunk.o [] (.sl none 0 (.k 0)) [],.box j [.i .i64 0,c4,(.sl none 0 (.k 0)),(.sl none 0 (.k 0)),.sl none 0 (.k 0)],.dp Chunk.o de c5 dB,.dp lU.o df c6 dC,.box g [.i .i64 d7,c6,c5,c7,d],.dp oC.o [] (.sl none 0 (.k 0)) [],.dp Chunk.o [] (.sl none 0 (.k 0)) [],.dp lU.o [] (.sl none 0 (.k 0)) [],.box e [.i .i64 0,(.sl none 0 (.k 0)),(.sl none 0 (.k 0)),(.sl none 0 (.k 0)),.sl none 0 (.k 0)],.dp lU.o dd c4 dA,.dp oC.o dg c7 dD] cM wq) ?_ ?_
    ·obtain ⟨a,ic,H⟩:=oL H;obtain ⟨_,⟨bI,rfl,bC⟩,gN⟩:=qa 7 (h1.mono c1) ic;refine ax ?_;refine qr (tD 0 (tk.cells a.oG bI) Ty.Nn Ty.O8 rfl (gN.mono dl.agree) (by first | omega | rfl) rfl (qY rfl)) ?_;refine al ?_;intro ae n7 kd;refine sb 0 ([.i .i64 a.oG.kind,.i .i64 a.oG.seq,bI]) ?_;intro n8 bk;refine ax ?_;refine qy H (fun g2 H=>?_) (fun g2 H=>?_)
     ·refine av ?_;refine qy H (fun g3 H=>?_) (fun g3 H=>?_)
      ·obtain ⟨ff,hC,H⟩:=oL H;refine aq ?_;refine lm (aci bk.oR bC hC) ?_;rintro mO nA ⟨jB,rfl,hn,eD⟩;have fD:=bk.call eD;have iY:=eD.ext;refine xm (vF (cs:=pb (ph 32 (0:UInt8))) Ty.Fm rfl fD) ?_;rintro _ n9 ⟨jZ,rfl,ke⟩;refine sb 0 (pb ff) ?_;intro nB et;obtain ⟨br,hD,H⟩:=oL H;refine ax ?_;refine lm (acu (x0:=(mZ.mk n R Q L P)) (x1:=ff) (et.u9 [8,7,6,14,2] (by decide)) hn hD) ?_;rintro mP nC ⟨jC,alo,abQ,alp,alY,alq,abR,rfl,eE⟩;have bN:=et.uV [8,7,6,14,2] [0,1,3,4,5,9,10,11,12,13] (by decide) (by decide) eE;have iZ:=eE.ext;refine au ?_;obtain ⟨o7,eP,dM,ie,H⟩:=oU H;obtain ⟨iK,hh,dN,cq,H⟩:=oU H;have bV:=bN.tK 0 rfl;refine rh 0 bV bN ?_;refine au ?_;refine hl 0 bV bN ?_;obtain ⟨_,⟨m7,m8,rfl,ks,kC,kD⟩,_⟩:=qa 35 (bN.wI (k:=2) rfl Chunk.sf) eP;refine au ?_;obtain ⟨ms,jG,jQ,d0,hL,eu⟩:=bN.focus Chunk.yZ 2 rfl (oM eP).2;replace d0:=qj 35 d0;refine qq (su 34 Ty.wX rfl d0 (by first | omega | rfl) hL) ?_;obtain ⟨_,⟨m9,rfl,kE⟩,gO⟩:=qa 7 (h1.mono ((c1.trans iY).trans iZ)) ie;refine au ?_;refine qq (tD 3 (Loc.cells dM.loc) Ty.AQ Ty.vz rfl (gO.mono eu.agree) (by first | omega | rfl) rfl (qY rfl)) ?_;refine qx (sh (t:=Loc.t) (vs:=[.agg (Loc.cells dM.loc)]) (xs:=[dM.loc]) aaT Ty.AF rfl ⟨rfl,trivial⟩ rfl rfl eu) ?_;rintro mt nD dm;refine qh 2 bV dm ?_;refine qx (xl (t:=Loc.t) 1 aaT Ty.AF Ty.Il rfl rfl dm rfl (dm.tf (k:=0) rfl) hh) ?_;rintro mQ nE bO;refine qh 2 bV bO ?_;obtain ⟨hs,iz⟩:=oM cq;have hc:=bO.yD (k:=4) rfl (wc iz);refine qi aaE Ty.tg hc hs ?_;obtain ⟨kt,i0⟩:=oM cq;have kl:=bO.yD (k:=4) rfl (wc i0);refine au ?_;obtain ⟨ku,i1⟩:=oM cq;have km:=bO.yD (k:=4) rfl (wc i1);have fE:=bO.pick [1,4,0,2,3,5,6,7,8,9,10,11,12,13,14,15,16] (by decide);refine qu (IB Chunk.yZ (br.1.toNat) rfl rfl fE (oM cq).2 (by first | rfl | (show _=_*35+_;omega)) Ty.AG) ?_
       rintro _ nF ⟨fs,ev⟩;refine qh 2 bV ev ?_;refine ax ?_;exact nj ⟨br.2.oK,J,(br.2.chunks.set br.1.toNat (Chunk.mk dN.id dN.pX dN.data iK)),br.2.oB,br.2.seq,br.2.oD,H,⟨_,I,X,alp,fs,alo,abQ,alq,abR,rfl,pc,pk [5,8,9,10,0,3,2,11,12,13,14,15,4] ev⟩⟩
      ·refine ax ?_;exact nj ⟨P,J,Q,R,n,L,H,⟨_,I,X,y,Y,z,Z,D,ad,rfl,pc,pk [1,2,3,4,5,6,7,8,9,10,11,12,13] bk⟩⟩
     ·refine aq ?_;refine qy H (fun g4 H=>?_) (fun g4 H=>?_)
      ·obtain ⟨aV,hE,H⟩:=oL H;refine aq ?_;refine lm (acm bk.oR bC hE) ?_;rintro mR nH ⟨fr,bf,rfl,eG,eF⟩;have kg:=bk.call eF;have ja:=eF.ext;refine au ?_;refine al ?_;intro bi nG kf;refine sb 0 ([.s aV.1.name,bf]) ?_;intro nI fF;refine ay ?_;refine qy H (fun g6 H=>?_) (fun g6 H=>?_)
       ·refine pw _ rfl ?_;exact nj ⟨P,J,Q,R,n,L,H,⟨_,I,X,y,Y,z,Z,D,ad,rfl,pc,pk [2,3,4,5,6,7,8,9,10,11,12,13,14] fF⟩⟩
       ·refine ax ?_;refine sc 8 ([.i .i64 (if n < wr ((if 1073741824 < a.oG.seq then 1073741824 else a.oG.seq)+1) then wr ((if 1073741824 < a.oG.seq then 1073741824 else a.oG.seq)+1) else n),z,y,D,d]) ?_;intro nJ ew;refine qn ?_;refine aq ?_;refine pe (fun E wq=>∃ am:Int,pg.LQ x1 U P J Q R n L ca a aV am=some r ∧ ∃ (bg:jL),E=[(1,v1),(4,pl e 0),(6,pl g 0),(7,pl j 0),(9,.i .i64 U),(10,pl ae 0),(13,pl bi 0),(15,.i .i64 am)]∧fr.le bg∧ug ew bg wq) ?_ ?_
        ·refine xP ?_;refine lj ew (fun s:Int=>[(1,v1),(4,pl e 0),(6,pl g 0),(7,pl j 0),(9,.i .i64 U),(10,pl ae 0),(13,pl bi 0),(15,.i .i64 s)]) H ?_;intro mm cu cO nU lu aK H;refine qU ?_;refine qU ?_;obtain ⟨jm,ii,H⟩:=oL H;refine yd (fun E wq=>E=[(1,v1),(4,pl e 0),(6,pl g 0),(7,pl j 0),(9,.i .i64 U),(10,pl ae 0),(13,pl bi 0),(15,.i .i64 cu),(117,.b (decide (cu < (J.length:Int))&&decide (jm.seq < a.oG.seq)))] ∧ ∃ cP:jL,cO.le cP∧St [] w F cP [.box bi [.s aV.1.name,bf],.box ae [.i .i64 a.oG.kind,.i .i64 a.oG.seq,bI],.row oH.t d P,.dp oC.o [] (.sl none 0 (.k 0)) [],.dp Chunk.o [] (.sl none 0 (.k 0)) [],.box j [.i .i64 0,I,(.sl none 0 (.k 0)),(.sl none 0 (.k 0)),.sl none 0 (.k 0)],.dp Chunk.o Y y Q,.dp lU.o Z z R,.box g [.i .i64 (if n < wr ((if 1073741824 < a.oG.seq then 1073741824 else a.oG.seq)+1) then wr ((if 1073741824 < a.oG.seq then 1073741824 else a.oG.seq)+1) else n),z,y,D,d],.dp oC.o [] (.sl none 0 (.k 0)) [],.dp Chunk.o [] (.sl none 0 (.k 0)) [],.dp lU.o [] (.sl none 0 (.k 0)) [],.box e [.i .i64 0,(.sl none 0 (.k 0)),(.sl none 0 (.k 0)),(.sl none 0 (.k 0)),.sl none 0 (.k 0)],.dp lU.o X I J,.dp oC.o ad D L] wq) ?_ ?_
         ·
          rcases uO (decide (cu < (J.length:Int))) with bb | bb
          ·refine rn ?_;refine qc ?_;refine qf Ty.DV ?_;refine qb 5 Ty.Bt aK ?_;refine qr (qD aam rfl (aK.ub (k:=13) rfl)) ?_;refine qr (oO rfl rfl yV) ?_;refine qc ?_;refine ri 107 bb ?_;refine qf Ty.DV ?_;refine qb 5 Ty.Bt aK ?_;refine qc ?_;have eY:=ii;rw [qA bb] at eY;obtain ⟨hw,i6⟩:=oM eY;obtain ⟨jT,hG,cn⟩:=(aK.wI (k:=13) rfl lU.sf).el i6;obtain ⟨mF,mG,rfl,kK,kL⟩:=hG;replace cn:=qj 4 cn;have eJ:=cn.rq;refine qi aam Ty.sJ eJ hw ?_;refine qr (uU 0 Ty.KX rfl eJ) ?_;refine qr (su 0 Ty.uW rfl cn (by first | omega | rfl) rfl) ?_;refine qf Ty.KW ?_;refine qb 1 Ty.uW aK ?_;refine qr (oO rfl rfl yV) ?_;refine qc ?_;refine qN ?_;exact sj _ ⟨rfl,cO,(jL.le.refl _),aK⟩ ⟨rfl,rfl,rfl,rfl,rfl,rfl,rfl,rfl,(sq rfl (by first | rfl | (rw [bb];first | done | rfl) | simp [bb])),trivial⟩
          ·refine rn ?_;refine qc ?_;refine qf Ty.DV ?_;refine qb 5 Ty.Bt aK ?_;refine qr (qD aam rfl (aK.ub (k:=13) rfl)) ?_;refine qr (oO rfl rfl yV) ?_;refine qc ?_;refine ri 107 bb ?_;refine pI ?_;refine pI ?_;refine pI ?_;refine pI ?_;refine qz ?_;refine qc ?_;refine qN ?_;exact sj _ ⟨rfl,cO,(jL.le.refl _),aK⟩ ⟨rfl,rfl,rfl,rfl,rfl,rfl,rfl,rfl,(sq rfl (by first | rfl | (rw [bb];first | done | rfl) | simp [bb])),trivial⟩
         rintro E nV ⟨rfl,cP,lv,e0⟩;refine tR ?_;refine qy H (fun g8 H=>?_) (fun g8 H=>?_)
         ·refine ax ?_;exact nm H (jj e0)
         ·refine pw _ rfl ?_;exact nj ⟨cu,H,jj e0⟩
        ·rintro E nK ⟨am,H,bg,rfl,iT,a7⟩;refine pe (fun E wq=>∃ cx:List lU,pg.Jw x1 U P Q R n L ca a am cx=some r ∧ ∃ (cN:jL) (c8:jD) (ec:List Nat),E=[(1,v1),(4,pl e 0),(6,pl g 0),(7,pl j 0),(9,.i .i64 U),(15,.i .i64 am)]∧bg.le cN∧po a7 [.row oH.t d P,.dp oC.o [] (.sl none 0 (.k 0)) [],.dp Chunk.o [] (.sl none 0 (.k 0)) [],.box j [.i .i64 0,c8,(.sl none 0 (.k 0)),(.sl none 0 (.k 0)),.sl none 0 (.k 0)],.dp Chunk.o Y y Q,.dp lU.o Z z R,.box g [.i .i64 (if n < wr ((if 1073741824 < a.oG.seq then 1073741824 else a.oG.seq)+1) then wr ((if 1073741824 < a.oG.seq then 1073741824 else a.oG.seq)+1) else n),z,y,D,d],.dp oC.o [] (.sl none 0 (.k 0)) [],.dp Chunk.o [] (.sl none 0 (.k 0)) [],.dp lU.o [] (.sl none 0 (.k 0)) [],.box e [.i .i64 0,(.sl none 0 (.k 0)),(.sl none 0 (.k 0)),(.sl none 0 (.k 0)),.sl none 0 (.k 0)],.dp oC.o ad D L,.dp lU.o ec c8 cx] cN wq) ?_ ?_
         ·refine qU ?_;obtain ⟨jl,ih,H⟩:=oL H;refine yd (fun E wq=>E=[(1,v1),(4,pl e 0),(6,pl g 0),(7,pl j 0),(9,.i .i64 U),(10,pl ae 0),(13,pl bi 0),(15,.i .i64 am),(135,.b (decide (am=(J.length:Int))||decide (jl.seq≠a.oG.seq)))] ∧ ∃ cc:jL,bg.le cc∧St [] w F cc [.box bi [.s aV.1.name,bf],.box ae [.i .i64 a.oG.kind,.i .i64 a.oG.seq,bI],.row oH.t d P,.dp oC.o [] (.sl none 0 (.k 0)) [],.dp Chunk.o [] (.sl none 0 (.k 0)) [],.box j [.i .i64 0,I,(.sl none 0 (.k 0)),(.sl none 0 (.k 0)),.sl none 0 (.k 0)],.dp Chunk.o Y y Q,.dp lU.o Z z R,.box g [.i .i64 (if n < wr ((if 1073741824 < a.oG.seq then 1073741824 else a.oG.seq)+1) then wr ((if 1073741824 < a.oG.seq then 1073741824 else a.oG.seq)+1) else n),z,y,D,d],.dp oC.o [] (.sl none 0 (.k 0)) [],.dp Chunk.o [] (.sl none 0 (.k 0)) [],.dp lU.o [] (.sl none 0 (.k 0)) [],.box e [.i .i64 0,(.sl none 0 (.k 0)),(.sl none 0 (.k 0)),(.sl none 0 (.k 0)),.sl none 0 (.k 0)],.dp lU.o X I J,.dp oC.o ad D L] wq) ?_ ?_
          ·
           rcases uO (decide (am=(J.length:Int))) with aT | aT
           ·refine rn ?_;refine qc ?_;refine qf Ty.DV ?_;refine qb 5 Ty.Bt a7 ?_;refine qr (qD aam rfl (a7.ub (k:=13) rfl)) ?_;refine qr (oO rfl rfl uD) ?_;refine qc ?_;refine ri 125 aT ?_;refine pI ?_;refine pI ?_;refine pI ?_;refine pI ?_;refine qz ?_;refine qc ?_;refine qN ?_;exact sj _ ⟨rfl,bg,(jL.le.refl _),a7⟩ ⟨rfl,rfl,rfl,rfl,rfl,rfl,rfl,rfl,(sq rfl (by first | rfl | (rw [aT];first | done | rfl) | simp [aT])),trivial⟩
           ·refine rn ?_;refine qc ?_;refine qf Ty.DV ?_;refine qb 5 Ty.Bt a7 ?_;refine qr (qD aam rfl (a7.ub (k:=13) rfl)) ?_;refine qr (oO rfl rfl uD) ?_;refine qc ?_;refine ri 125 aT ?_;refine qf Ty.DV ?_;refine qb 5 Ty.Bt a7 ?_;refine qc ?_;have eX:=ih;rw [qA (by first | rfl | (rw [aT];first | done | rfl) | simp [aT])] at eX;obtain ⟨hv,i5⟩:=oM eX;obtain ⟨jS,hF,cm⟩:=(a7.wI (k:=13) rfl lU.sf).el i5;obtain ⟨mD,mE,rfl,kI,kJ⟩:=hF;replace cm:=qj 4 cm;have eI:=cm.rq;refine qi aam Ty.sJ eI hv ?_;refine qr (uU 0 Ty.KX rfl eI) ?_;refine qr (su 0 Ty.uW rfl cm (by first | omega | rfl) rfl) ?_;refine qf Ty.KW ?_;refine qb 1 Ty.uW a7 ?_;refine qr (oO rfl rfl Br) ?_;refine qc ?_;refine qN ?_;exact sj _ ⟨rfl,bg,(jL.le.refl _),a7⟩ ⟨rfl,rfl,rfl,rfl,rfl,rfl,rfl,rfl,(sq rfl (by first | rfl | (rw [aT];first | done | rfl) | simp [aT])),trivial⟩
          rintro E jg ⟨rfl,cc,ls,aY⟩;refine tR ?_;refine qy H (fun g7 H=>?_) (fun g7 H=>?_)
          ·refine ay ?_;obtain ⟨iM,bo,H⟩:=oL H;have a9:=aY.tK 1 rfl;have aC:=aY.tK 0 rfl;refine uT (G:=(cc.hold jg [ae,bi])) [0,1,2,3,4,6,7,8,9,10,5,11,12] rfl Ty.mixed (by kernel_rfl) (HB.agree (HB.cons 1 a9 aY rfl (HB.cons 0 aC aY rfl HB.nil)) aY.agree) ?_;refine au ?_;refine Dv 5 Ty.Bt aY ?_;refine qc ?_;obtain ⟨acR,alW,bA,b1⟩:=aY.QA (t:=lU.o) (i:=13) (by decide) rfl;refine xq 14 0 am rfl rfl rfl rfl aam Ty.sJ rfl (.inl ⟨rfl,rfl⟩) (.inr ⟨_,_,rfl,rfl⟩) b1 rfl (Jt bA bo) ?_;intro mb kT hW;refine au ?_;refine qr (wB Ty.uW rfl (a9.held (HB.cons 2 a9 b1 rfl (HB.cons 1 aC b1 rfl HB.nil)) (by simp)) rfl) ?_;refine qr (Ky (oP.cells aV.1 bf) Ty.zA Ty.zj (wU _) rfl (aC.held (HB.cons 2 a9 b1 rfl (HB.cons 1 aC b1 rfl HB.nil)) (by simp)) (fun q u h=>xd (post:=[]) rfl h)) ?_;have gI:=eG.ln.cells;refine qr (FI (vs:=[(0,.i .i64 a.oG.seq),(1,.agg (oP.cells aV.1 bf))]) (v:=.agg (lU.cells (lU.mk a.oG.seq aV.1 []) bf (.sl none 0 (.k 0)))) Ty.VQ rfl (by simp only [xR,gI];rfl)) ?_;refine qx (Qk (t:=lU.o) (u:=.agg (lU.cells (lU.mk a.oG.seq aV.1 []) bf (.sl none 0 (.k 0)))) (x:=(lU.mk a.oG.seq aV.1 [])) (by decide) aam Ty.Bb rfl (fun _=>⟨bf,.sl none 0 (.k 0),rfl,(mo eG),⟨_,rfl,.inl ⟨rfl,rfl,rfl⟩⟩⟩) rfl rfl b1) ?_;rintro mw nP ⟨jX,gJ,b4⟩;refine pQ.tT (HB.le (HB.cons 3 a9 b4 rfl (HB.cons 2 aC b4 rfl HB.nil)) (jL.le.refl _)) (HB.agree (HB.cons 3 a9 b4 rfl (HB.cons 2 aC b4 rfl HB.nil)) b4.agree) ?_;have ez:=b4.sY (xe lU.o.size (by decide));refine qx (xl (t:=(xe lU.o.size (by decide))) 0 aam Ty.Bb Ty.Pw rfl rfl ez rfl ((ez.tf (k:=16) rfl).piece hW (Jt bA bo)) (Sm bA bo)) ?_;rintro mT nQ bm;refine pQ.tT (HB.le (HB.cons 4 a9 bm rfl (HB.cons 3 aC bm rfl HB.nil)) (jL.le.refl _)) (HB.agree (HB.cons 4 a9 bm rfl (HB.cons 3 aC bm rfl HB.nil)) bm.agree) ?_;refine qx (xl (t:=(xe lU.o.size (by decide))) 0 aam Ty.Bb Ty.Pw rfl rfl bm rfl (bm.tf (k:=1) rfl) (Sn bA bo)) ?_
           rintro mU nR bn;refine pQ.tT (HB.le (HB.cons 4 a9 bn rfl (HB.cons 3 aC bn rfl HB.nil)) (jL.le.refl _)) (HB.agree (HB.cons 4 a9 bn rfl (HB.cons 3 aC bn rfl HB.nil)) bn.agree) ?_;refine ax ?_;refine xq 16 am (acR.length:Int) rfl rfl rfl rfl aam Ty.sJ rfl (.inr ⟨_,_,rfl,rfl⟩) (.inl ⟨rfl,rfl⟩) bn rfl (Sq bA bo) ?_;intro mc hU kV;refine xm (xl (t:=(xe lU.o.size (by decide))) 0 aam Ty.Bb Ty.Pw rfl rfl bn rfl hU (Sp bA bo)) ?_;rintro dJ nS fI;obtain ⟨fu,dy⟩:=(fI.pick [0,2,1,3,4,5,6,7,8,9,10,11,12,13,14,15,17] (by decide)).TW gJ bo;refine au ?_;refine um (CY (c:=[dJ]) 7 ([.i .i64 0,dJ,(.sl none 0 (.k 0)),(.sl none 0 (.k 0)),.sl none 0 (.k 0)]) rfl rfl dy rfl (dy.ub (k:=0) rfl).cells Ty.ZD (by simp only [tZ,uR,rC,(dy.ub (k:=0) rfl).one];rfl) rfl rfl) ?_;rintro _ nT fJ;refine qN ?_;exact nj ⟨iM,H,⟨_,dJ,fu,rfl,pc,pk [4,5,6,7,8,9,10,11,12,13,14,15,0] fJ⟩⟩
          ·refine Bo ?_;exact nj ⟨J,H,⟨_,I,X,rfl,pc,pk [2,3,4,5,6,7,8,9,10,11,12,14,13] aY⟩⟩
         ·rintro E nL ⟨cx,H,cN,c8,ec,rfl,iU,bP⟩;obtain ⟨o8,eQ,dO,ig,H⟩:=oU H;obtain ⟨iL,hi,fn,cr,H⟩:=oU H;have bW:=bP.tK 3 rfl;refine rh 3 bW bP ?_;refine au ?_;refine hl 3 bW bP ?_;obtain ⟨_,⟨mA,mB,rfl,kF,kG⟩,_⟩:=qa 4 (bP.wI (k:=12) rfl lU.sf) eQ;refine au ?_;obtain ⟨mu,jH,jR,d1,hM,ex⟩:=bP.focus lU.yZ 12 rfl (oM eQ).2;replace d1:=qj 4 d1;refine qq (su 3 Ty.wX rfl d1 (by first | omega | rfl) hM) ?_;obtain ⟨_,⟨mC,rfl,kH⟩,gP⟩:=qa 7 (h1.mono (((c1.trans ja).trans iT).trans iU)) ig;refine au ?_;refine qq (tD 3 (Loc.cells dO.loc) Ty.AQ Ty.vz rfl (gP.mono ex.agree) (by first | omega | rfl) rfl (qY rfl)) ?_;refine qx (sh (t:=Loc.t) (vs:=[.agg (Loc.cells dO.loc)]) (xs:=[dO.loc]) aaT Ty.AF rfl ⟨rfl,trivial⟩ rfl rfl ex) ?_;rintro mv nM dn;refine qh 5 bW dn ?_;refine qx (xl (t:=Loc.t) 1 aaT Ty.AF Ty.Il rfl rfl dn rfl (dn.tf (k:=0) rfl) hi) ?_;rintro mS nN bQ;refine qh 5 bW bQ ?_;obtain ⟨ht,i2⟩:=oM cr;have hd:=bQ.yD (k:=14) rfl (wc i2);refine qi aam Ty.sJ hd ht ?_;obtain ⟨kv,i3⟩:=oM cr;have kn:=bQ.yD (k:=14) rfl (wc i3);refine au ?_;obtain ⟨kw,i4⟩:=oM cr;have ko:=bQ.yD (k:=14) rfl (wc i4);have fG:=bQ.pick [1,14,0,2,3,4,5,6,7,8,9,10,11,12,13] (by decide);refine qu (IB lU.yZ (am.toNat) rfl rfl fG (oM cr).2 (by first | rfl | (show _=_*4+_;omega)) Ty.AG) ?_;rintro _ nO ⟨ft,ey⟩;refine qh 5 bW ey ?_;refine ax ?_;exact nj ⟨P,(cx.set am.toNat (lU.mk fn.seq fn.oJ iL)),Q,R,(if n < wr ((if 1073741824 < a.oG.seq then 1073741824 else a.oG.seq)+1) then wr ((if 1073741824 < a.oG.seq then 1073741824 else a.oG.seq)+1) else n),L,H,⟨_,c8,ft,y,Y,z,Z,D,ad,rfl,pc,pk [2,3,4,5,6,7,8,9,10,11,12,0,13] ey⟩⟩
      ·refine aq ?_;refine qy H (fun gA H=>?_) (fun gA H=>?_)
       ·refine ay ?_;refine qy H (fun gB H=>?_) (fun gB H=>?_)
        ·refine pw _ rfl ?_;exact nj ⟨P,J,Q,R,n,L,H,⟨_,I,X,y,Y,z,Z,D,ad,rfl,pc,pk [1,2,3,4,5,6,7,8,9,10,11,12,13] bk⟩⟩
        ·refine ax ?_;refine sc 7 ([.i .i64 (if n < wr ((if 1073741824 < a.oG.seq then 1073741824 else a.oG.seq)+1) then wr ((if 1073741824 < a.oG.seq then 1073741824 else a.oG.seq)+1) else n),z,y,D,d]) ?_;intro nX e1;refine qn ?_;refine aq ?_;refine pe (fun E wq=>∃ ar:Int,pg.LR x1 U P J Q R n L ca a ar=some r ∧ ∃ (bh:jL),E=[(1,v1),(4,pl e 0),(6,pl g 0),(7,pl j 0),(9,.i .i64 U),(10,pl ae 0),(17,.i .i64 ar)]∧bJ.le bh∧ug e1 bh wq) ?_ ?_
         ·refine xP ?_;refine lj e1 (fun s:Int=>[(1,v1),(4,pl e 0),(6,pl g 0),(7,pl j 0),(9,.i .i64 U),(10,pl ae 0),(17,.i .i64 s)]) H ?_;intro mn cw cR ol lA aO H;refine qU ?_;refine qU ?_;obtain ⟨jo,iq,H⟩:=oL H;refine yd (fun E wq=>E=[(1,v1),(4,pl e 0),(6,pl g 0),(7,pl j 0),(9,.i .i64 U),(10,pl ae 0),(17,.i .i64 cw),(202,.b (decide (cw < (L.length:Int))&&decide (jo.seq < a.oG.seq)))] ∧ ∃ cS:jL,cR.le cS∧St [] w F cS [.box ae [.i .i64 a.oG.kind,.i .i64 a.oG.seq,bI],.row oH.t d P,.dp oC.o [] (.sl none 0 (.k 0)) [],.dp Chunk.o [] (.sl none 0 (.k 0)) [],.box j [.i .i64 0,I,(.sl none 0 (.k 0)),(.sl none 0 (.k 0)),.sl none 0 (.k 0)],.dp Chunk.o Y y Q,.dp lU.o Z z R,.box g [.i .i64 (if n < wr ((if 1073741824 < a.oG.seq then 1073741824 else a.oG.seq)+1) then wr ((if 1073741824 < a.oG.seq then 1073741824 else a.oG.seq)+1) else n),z,y,D,d],.dp oC.o [] (.sl none 0 (.k 0)) [],.dp Chunk.o [] (.sl none 0 (.k 0)) [],.dp lU.o [] (.sl none 0 (.k 0)) [],.box e [.i .i64 0,(.sl none 0 (.k 0)),(.sl none 0 (.k 0)),(.sl none 0 (.k 0)),.sl none 0 (.k 0)],.dp lU.o X I J,.dp oC.o ad D L] wq) ?_ ?_
          ·
           rcases uO (decide (cw < (L.length:Int))) with bc | bc
           ·refine rn ?_;refine qc ?_;refine qf Ty.FZ ?_;refine qb 7 Ty.Bu aO ?_;refine qr (qD aaF rfl (aO.ub (k:=13) rfl)) ?_;refine qr (oO rfl rfl yV) ?_;refine qc ?_;refine ri 192 bc ?_;refine qf Ty.FZ ?_;refine qb 7 Ty.Bu aO ?_;refine qc ?_;have fa:=iq;rw [qA bc] at fa;obtain ⟨hz,iB⟩:=oM fa;obtain ⟨jW,hJ,cp⟩:=(aO.wI (k:=13) rfl oC.sf).el iB;obtain ⟨mK,rfl,kP⟩:=hJ;replace cp:=qj 3 cp;have eL:=cp.rq;refine qi aaF Ty.uu eL hz ?_;refine qr (uU 0 Ty.Rg rfl eL) ?_;refine qr (su 0 Ty.uW rfl cp (by first | omega | rfl) rfl) ?_;refine qf Ty.KW ?_;refine qb 0 Ty.uW aO ?_;refine qr (oO rfl rfl yV) ?_;refine qc ?_;refine qN ?_;exact sj _ ⟨rfl,cR,(jL.le.refl _),aO⟩ ⟨rfl,rfl,rfl,rfl,rfl,rfl,rfl,(sq rfl (by first | rfl | (rw [bc];first | done | rfl) | simp [bc])),trivial⟩
           ·refine rn ?_;refine qc ?_;refine qf Ty.FZ ?_;refine qb 7 Ty.Bu aO ?_;refine qr (qD aaF rfl (aO.ub (k:=13) rfl)) ?_;refine qr (oO rfl rfl yV) ?_;refine qc ?_;refine ri 192 bc ?_;refine pI ?_;refine pI ?_;refine pI ?_;refine pI ?_;refine qz ?_;refine qc ?_;refine qN ?_;exact sj _ ⟨rfl,cR,(jL.le.refl _),aO⟩ ⟨rfl,rfl,rfl,rfl,rfl,rfl,rfl,(sq rfl (by first | rfl | (rw [bc];first | done | rfl) | simp [bc])),trivial⟩
          rintro E om ⟨rfl,cS,lB,e6⟩;refine tR ?_;refine qy H (fun gD H=>?_) (fun gD H=>?_)
          ·refine ax ?_;exact nm H (jj e6)
          ·refine pw _ rfl ?_;exact nj ⟨cw,H,jj e6⟩
         ·rintro E nY ⟨ar,H,bh,rfl,bZ,a8⟩;refine pe (fun E wq=>∃ cy:List oC,pg.Jx x1 U P J Q R n ca a ar cy=some r ∧ ∃ (cQ:jL) (c9:jD) (ef:List Nat),E=[(1,v1),(4,pl e 0),(6,pl g 0),(7,pl j 0),(9,.i .i64 U),(17,.i .i64 ar)]∧bh.le cQ∧po a8 [.row oH.t d P,.dp oC.o [] (.sl none 0 (.k 0)) [],.dp Chunk.o [] (.sl none 0 (.k 0)) [],.box j [.i .i64 0,I,(.sl none 0 (.k 0)),(.sl none 0 (.k 0)),.sl none 0 (.k 0)],.dp Chunk.o Y y Q,.dp lU.o Z z R,.box g [.i .i64 (if n < wr ((if 1073741824 < a.oG.seq then 1073741824 else a.oG.seq)+1) then wr ((if 1073741824 < a.oG.seq then 1073741824 else a.oG.seq)+1) else n),z,y,c9,d],.dp oC.o [] (.sl none 0 (.k 0)) [],.dp Chunk.o [] (.sl none 0 (.k 0)) [],.dp lU.o [] (.sl none 0 (.k 0)) [],.box e [.i .i64 0,(.sl none 0 (.k 0)),(.sl none 0 (.k 0)),(.sl none 0 (.k 0)),.sl none 0 (.k 0)],.dp lU.o X I J,.dp oC.o ef c9 cy] cQ wq) ?_ ?_
          ·refine qU ?_;obtain ⟨jn,ik,H⟩:=oL H;refine yd (fun E wq=>E=[(1,v1),(4,pl e 0),(6,pl g 0),(7,pl j 0),(9,.i .i64 U),(10,pl ae 0),(17,.i .i64 ar),(220,.b (decide (ar=(L.length:Int))||decide (jn.seq≠a.oG.seq)))] ∧ ∃ cd:jL,bh.le cd∧St [] w F cd [.box ae [.i .i64 a.oG.kind,.i .i64 a.oG.seq,bI],.row oH.t d P,.dp oC.o [] (.sl none 0 (.k 0)) [],.dp Chunk.o [] (.sl none 0 (.k 0)) [],.box j [.i .i64 0,I,(.sl none 0 (.k 0)),(.sl none 0 (.k 0)),.sl none 0 (.k 0)],.dp Chunk.o Y y Q,.dp lU.o Z z R,.box g [.i .i64 (if n < wr ((if 1073741824 < a.oG.seq then 1073741824 else a.oG.seq)+1) then wr ((if 1073741824 < a.oG.seq then 1073741824 else a.oG.seq)+1) else n),z,y,D,d],.dp oC.o [] (.sl none 0 (.k 0)) [],.dp Chunk.o [] (.sl none 0 (.k 0)) [],.dp lU.o [] (.sl none 0 (.k 0)) [],.box e [.i .i64 0,(.sl none 0 (.k 0)),(.sl none 0 (.k 0)),(.sl none 0 (.k 0)),.sl none 0 (.k 0)],.dp lU.o X I J,.dp oC.o ad D L] wq) ?_ ?_
           ·
            rcases uO (decide (ar=(L.length:Int))) with aU | aU
            ·refine rn ?_;refine qc ?_;refine qf Ty.FZ ?_;refine qb 7 Ty.Bu a8 ?_;refine qr (qD aaF rfl (a8.ub (k:=13) rfl)) ?_;refine qr (oO rfl rfl uD) ?_;refine qc ?_;refine ri 210 aU ?_;refine pI ?_;refine pI ?_;refine pI ?_;refine pI ?_;refine qz ?_;refine qc ?_;refine qN ?_;exact sj _ ⟨rfl,bh,(jL.le.refl _),a8⟩ ⟨rfl,rfl,rfl,rfl,rfl,rfl,rfl,(sq rfl (by first | rfl | (rw [aU];first | done | rfl) | simp [aU])),trivial⟩
            ·refine rn ?_;refine qc ?_;refine qf Ty.FZ ?_;refine qb 7 Ty.Bu a8 ?_;refine qr (qD aaF rfl (a8.ub (k:=13) rfl)) ?_;refine qr (oO rfl rfl uD) ?_;refine qc ?_;refine ri 210 aU ?_;refine qf Ty.FZ ?_;refine qb 7 Ty.Bu a8 ?_;refine qc ?_;have eZ:=ik;rw [qA (by first | rfl | (rw [aU];first | done | rfl) | simp [aU])] at eZ;obtain ⟨hy,iA⟩:=oM eZ;obtain ⟨jV,hH,co⟩:=(a8.wI (k:=13) rfl oC.sf).el iA;obtain ⟨mJ,rfl,kO⟩:=hH;replace co:=qj 3 co;have eK:=co.rq;refine qi aaF Ty.uu eK hy ?_;refine qr (uU 0 Ty.Rg rfl eK) ?_;refine qr (su 0 Ty.uW rfl co (by first | omega | rfl) rfl) ?_;refine qf Ty.KW ?_;refine qb 0 Ty.uW a8 ?_;refine qr (oO rfl rfl Br) ?_;refine qc ?_;refine qN ?_;exact sj _ ⟨rfl,bh,(jL.le.refl _),a8⟩ ⟨rfl,rfl,rfl,rfl,rfl,rfl,rfl,(sq rfl (by first | rfl | (rw [aU];first | done | rfl) | simp [aU])),trivial⟩
           rintro E jh ⟨rfl,cd,c2,b6⟩;refine tR ?_;refine qy H (fun gC H=>?_) (fun gC H=>?_)
           ·refine qU ?_;obtain ⟨dQ,il,dR,im,H⟩:=oU H;obtain ⟨dS,io,dT,ip,H⟩:=oU H;refine rn ?_;obtain ⟨_,rfl,_⟩:=qa 1 (bC.mono (bZ.trans c2)) il;refine au ?_;refine qr (vZ acP abD rfl (J3 _)) ?_;refine qr (oO rfl rfl (EI (by decide) (by decide))) ?_;obtain ⟨_,rfl,_⟩:=qa 1 (bC.mono (bZ.trans c2)) im;refine au ?_;refine qr (vZ acP abD rfl (J3 _)) ?_;refine qr (oO rfl rfl (EI (by decide) (by decide))) ?_;refine qr (oO rfl rfl (sF (.inr (.inl rfl)))) ?_;obtain ⟨_,rfl,_⟩:=qa 1 (bC.mono (bZ.trans c2)) io;refine au ?_;refine qr (vZ acP abD rfl (J3 _)) ?_;refine qr (oO rfl rfl (EI (by decide) (by decide))) ?_;refine qr (oO rfl rfl (sF (.inr (.inl rfl)))) ?_;obtain ⟨_,rfl,_⟩:=qa 1 (bC.mono (bZ.trans c2)) ip;refine au ?_;refine qr (vZ acP abD rfl (J3 _)) ?_;refine qr (oO rfl rfl (sF (.inr (.inl rfl)))) ?_;refine ay ?_;obtain ⟨iO,bp,H⟩:=oL H;have bY:=b6.tK 0 rfl;refine uT (G:=(cd.hold jh [ae])) [0,1,2,3,4,6,7,8,9,10,5,11,12] rfl Ty.mixed (by kernel_rfl) (HB.agree (HB.cons 0 bY b6 rfl HB.nil) b6.agree) ?_;refine au ?_;refine Dv 7 Ty.Bu b6 ?_;refine qc ?_;obtain ⟨acS,alX,bB,dr⟩:=b6.QA (t:=oC.o) (i:=13) (by decide) rfl;refine xq 14 0 ar rfl rfl rfl rfl aaF Ty.uu rfl (.inl ⟨rfl,rfl⟩) (.inr ⟨_,_,rfl,rfl⟩) dr rfl (Jt bB bp) ?_;intro md kU hX;refine au ?_;refine hl 1 bY dr ?_;refine qc ?_;refine qM (v:=.agg (oC.cells (oC.mk a.oG.seq (bits .or .i64 (bits .or .i64 (bits .or .i64 (wr ((dQ.toNat:Int)*2 ^ (24:Int).toNat)) (wr ((dR.toNat:Int)*2 ^ (16:Int).toNat))) (wr ((dS.toNat:Int)*2 ^ (8:Int).toNat))) (dT.toNat:Int)) []) (.sl none 0 (.k 0)))) rfl rfl rfl rfl (fun _=>rfl) ?_;refine qx (Qk (t:=oC.o) (u:=.agg (oC.cells (oC.mk a.oG.seq (bits .or .i64 (bits .or .i64 (bits .or .i64 (wr ((dQ.toNat:Int)*2 ^ (24:Int).toNat)) (wr ((dR.toNat:Int)*2 ^ (16:Int).toNat))) (wr ((dS.toNat:Int)*2 ^ (8:Int).toNat))) (dT.toNat:Int)) []) (.sl none 0 (.k 0)))) (x:=(oC.mk a.oG.seq (bits .or .i64 (bits .or .i64 (bits .or .i64 (wr ((dQ.toNat:Int)*2 ^ (24:Int).toNat)) (wr ((dR.toNat:Int)*2 ^ (16:Int).toNat))) (wr ((dS.toNat:Int)*2 ^ (8:Int).toNat))) (dT.toNat:Int)) [])) (by decide) aaF Ty.Ei rfl (fun _=>⟨.sl none 0 (.k 0),rfl,⟨_,rfl,.inl ⟨rfl,rfl,rfl⟩⟩⟩) rfl rfl dr) ?_
            rintro mz od ⟨jY,gK,e4⟩;refine qh 2 bY e4 ?_;have e5:=e4.sY (xe oC.o.size (by decide));refine qx (xl (t:=(xe oC.o.size (by decide))) 0 aaF Ty.Ei Ty.Py rfl rfl e5 rfl ((e5.tf (k:=16) rfl).piece hX (Jt bB bp)) (Sm bB bp)) ?_;rintro mW oe ds;refine qh 3 bY ds ?_;refine qx (xl (t:=(xe oC.o.size (by decide))) 0 aaF Ty.Ei Ty.Py rfl rfl ds rfl (ds.tf (k:=1) rfl) (Sn bB bp)) ?_;rintro mX og cg;refine qh 3 bY cg ?_;refine ax ?_;refine qb 10 Ty.Bu cg ?_;refine qc ?_;refine xq 16 ar (acS.length:Int) rfl rfl rfl rfl aaF Ty.uu rfl (.inr ⟨_,_,rfl,rfl⟩) (.inl ⟨rfl,rfl⟩) cg rfl (Sq bB bp) ?_;intro me hV kW;refine xm (xl (t:=(xe oC.o.size (by decide))) 0 aaF Ty.Ei Ty.Py rfl rfl cg rfl hV (Sp bB bp)) ?_;rintro dK oh fP;obtain ⟨fw,dz⟩:=(fP.pick [0,2,1,3,4,5,6,7,8,9,10,11,12,13,14,15] (by decide)).TW gK bp;refine au ?_;refine um (CY (c:=[dK]) 9 ([.i .i64 (if n < wr ((if 1073741824 < a.oG.seq then 1073741824 else a.oG.seq)+1) then wr ((if 1073741824 < a.oG.seq then 1073741824 else a.oG.seq)+1) else n),z,y,dK,d]) rfl rfl dz rfl (dz.ub (k:=0) rfl).cells Ty.ZF (by simp only [tZ,uR,rC,(dz.ub (k:=0) rfl).one];rfl) rfl rfl) ?_;rintro _ oj fR;refine qN ?_;exact nj ⟨iO,H,⟨_,dK,fw,rfl,pc,pk [3,4,5,6,7,8,9,10,11,12,13,14,0] fR⟩⟩
           ·refine Bo ?_;exact nj ⟨L,H,⟨_,D,ad,rfl,pc,pk [1,2,3,4,5,6,7,8,9,10,11,12,13] b6⟩⟩
          ·rintro E nZ ⟨cy,H,cQ,c9,ef,rfl,iV,b5⟩;obtain ⟨o9,eR,dP,ij,H⟩:=oU H;obtain ⟨iN,hj,fo,ct,H⟩:=oU H;have bX:=b5.tK 6 rfl;refine rh 6 bX b5 ?_;refine au ?_;refine hl 6 bX b5 ?_;refine au ?_;refine Dv 6 Ty.Bu b5 ?_;obtain ⟨_,⟨mH,rfl,kM⟩,_⟩:=qa 3 (b5.wI (k:=12) rfl oC.sf) eR;refine au ?_;obtain ⟨mx,jI,jU,d2,hN,e2⟩:=b5.focus oC.yZ 12 rfl (oM eR).2;replace d2:=qj 3 d2;refine qq (su 2 Ty.wX rfl d2 (by first | omega | rfl) hN) ?_;obtain ⟨_,⟨mI,rfl,kN⟩,gQ⟩:=qa 7 (h1.mono ((c1.trans bZ).trans iV)) ij;refine au ?_;refine qq (tD 3 (Loc.cells dP.loc) Ty.AQ Ty.vz rfl (gQ.mono e2.agree) (by first | omega | rfl) rfl (qY rfl)) ?_;refine qx (sh (t:=Loc.t) (vs:=[.agg (Loc.cells dP.loc)]) (xs:=[dP.loc]) aaT Ty.AF rfl ⟨rfl,trivial⟩ rfl rfl e2) ?_;rintro my oa dq;refine qh 8 bX dq ?_;refine qx (xl (t:=Loc.t) 1 aaT Ty.AF Ty.Il rfl rfl dq rfl (dq.tf (k:=0) rfl) hj) ?_;rintro mV ob bR;refine qh 8 bX bR ?_;obtain ⟨hx,i7⟩:=oM ct;have he:=bR.yD (k:=14) rfl (wc i7);refine qi aaF Ty.uu he hx ?_;obtain ⟨kx,i8⟩:=oM ct;have kp:=bR.yD (k:=14) rfl (wc i8);refine au ?_;obtain ⟨ky,i9⟩:=oM ct;have kq:=bR.yD (k:=14) rfl (wc i9);have fM:=bR.pick [1,14,0,2,3,4,5,6,7,8,9,10,11,12,13] (by decide);refine qu (IB oC.yZ (ar.toNat) rfl rfl fM (oM ct).2 (by first | rfl | (show _=_*3+_;omega)) Ty.AG) ?_;rintro _ oc ⟨fv,e3⟩;refine qh 8 bX e3 ?_;refine ax ?_;exact nj ⟨P,J,Q,R,(if n < wr ((if 1073741824 < a.oG.seq then 1073741824 else a.oG.seq)+1) then wr ((if 1073741824 < a.oG.seq then 1073741824 else a.oG.seq)+1) else n),(cy.set ar.toNat (oC.mk fo.seq fo.of iN)),H,⟨_,I,X,y,Y,z,Z,c9,fv,rfl,pc,pk [2,3,4,5,6,7,8,9,10,11,12,13,0] e3⟩⟩
       ·refine ax ?_;exact nj ⟨P,J,Q,R,n,L,H,⟨_,I,X,y,Y,z,Z,D,ad,rfl,pc,pk [1,2,3,4,5,6,7,8,9,10,11,12,13] bk⟩⟩
    ·rintro E n6 ⟨d9,dA,dB,dC,d7,dD,H,cM,c4,dd,c5,de,c6,df,c7,dg,rfl,lr,fC⟩;refine ax ?_;exact nm H ⟨_,c4,dd,c5,de,c6,df,c7,dg,rfl,pc,fC⟩
   ·refine pw _ rfl ?_;exact nj ⟨P,J,Q,R,n,L,H,⟨_,I,X,y,Y,z,Z,D,ad,rfl,pc,dl⟩⟩
 ·rintro E ny ⟨qG,ai,dE,S,p,bF,H,cK,O,ea,l,eb,A,ed,m,ee,rfl,lk,fA⟩;obtain ⟨jt,lw,fK⟩:=St.xD oC.sf 1 fA rfl;obtain ⟨ju,lx,fL⟩:=St.xD Chunk.sf 2 fK rfl;obtain ⟨jv,ly,fN⟩:=St.xD Chunk.sf 4 fL rfl;obtain ⟨jw,lz,fO⟩:=St.xD lU.sf 5 fN rfl;obtain ⟨jx,l0,fQ⟩:=St.xD oC.sf 7 fO rfl;obtain ⟨jy,lC,fS⟩:=St.xD Chunk.sf 8 fQ rfl;obtain ⟨jz,lD,fT⟩:=St.xD lU.sf 9 fS rfl;obtain ⟨j0,lE,fU⟩:=St.xD lU.sf 11 fT rfl;obtain ⟨dV,lF,dt⟩:=St.xD oC.sf 12 fU rfl;refine pe (fun E wq=>∃ B:List Chunk,pg.k2 qG ai S p bF B=some r ∧ ∃ (bK:jL),E=[(4,pl e 0),(6,pl g 0),(7,pl j 0)]∧dV.le bK∧po dt [.row oH.t d qG,.row oC.t (.sl none 0 (.k 0)) [],.row Chunk.t (.sl none 0 (.k 0)) [],.box j [.i .i64 0,O,(.sl none 0 (.k 0)),(.sl none 0 (.k 0)),.sl none 0 (.k 0)],.row Chunk.t l B,.row lU.t A S,.box g [.i .i64 p,A,l,m,d],.row oC.t (.sl none 0 (.k 0)) [],.row Chunk.t (.sl none 0 (.k 0)) [],.row lU.t (.sl none 0 (.k 0)) [],.box e [.i .i64 0,(.sl none 0 (.k 0)),(.sl none 0 (.k 0)),(.sl none 0 (.k 0)),.sl none 0 (.k 0)],.row lU.t O ai,.row oC.t m bF] bK wq) ?_ ?_
  ·refine ax ?_;refine qC (fun (s:Int × (List Chunk)) E wq=>∃ (cL:jL),E=[(4,pl e 0),(6,pl g 0),(7,pl j 0),(20,.i .i64 s.1)]∧dV.le cL∧po dt [.row oH.t d qG,.row oC.t (.sl none 0 (.k 0)) [],.row Chunk.t (.sl none 0 (.k 0)) [],.box j [.i .i64 0,O,(.sl none 0 (.k 0)),(.sl none 0 (.k 0)),.sl none 0 (.k 0)],.row Chunk.t l s.2,.row lU.t A S,.box g [.i .i64 p,A,l,m,d],.row oC.t (.sl none 0 (.k 0)) [],.row Chunk.t (.sl none 0 (.k 0)) [],.row lU.t (.sl none 0 (.k 0)) [],.box e [.i .i64 0,(.sl none 0 (.k 0)),(.sl none 0 (.k 0)),(.sl none 0 (.k 0)),.sl none 0 (.k 0)],.row lU.t O ai,.row oC.t m bF] cL wq) H ?_ ?_
   ·exact lo (jj dt)
   ·rintro ml ⟨iF,iJ⟩ E n2 hI H
    try dsimp only at hI
    obtain ⟨cL,rfl,ll,aJ⟩:=hI;refine ay ?_;refine qr (qD aaE rfl (aJ.rB (k:=4) rfl)) ?_;refine au ?_;refine qy H (fun gz H=>?_) (fun gz H=>?_)
    ·refine ay ?_;obtain ⟨cC,eO,jd,hB,H⟩:=oU H;have bU:=aJ.tK 6 rfl;refine rh 6 bU aJ ?_;refine au ?_;refine hl 6 bU aJ ?_;refine au ?_;refine Dv 6 Ty.AV aJ ?_;obtain ⟨_,⟨m5,m6,rfl,kr,kB,hQ⟩,gM⟩:=tt 35 4 aJ eO;refine au ?_;refine qq (su 34 Ty.wX rfl gM (by first | omega | rfl) rfl) ?_;refine ql (QY aJ.oR hQ hB) ?_;rintro fj n3 ⟨jA,_,rfl,eC⟩;have ep:=aJ.call eC;have iX:=eC.ext;refine nf 7 bU ep iX ?_;refine au ?_;obtain ⟨js,iS,d4,er⟩:=ep.rv 0 [1,2,3,4,5,6,7,8,9,10,11,12,13] rfl (by decide) (by decide);refine wg 6 bU er iS ?_;refine qu (yx (c:=[fj]) 4 (iF.toNat) 34 cC (Chunk.mk cC.id cC.pX cC.data jd) rfl rfl er rfl (oM eO).2 (by first | rfl | (show _=_*35+_;omega)) d4.ln.cells Ty.AG (by simp only [tZ,uR,rC,d4.ln.one];rfl) (qY rfl) (by rintro cs ⟨a2,a3,rfl,c0,b2,b3⟩;exact ⟨a2,fj,rfl,c0,b2,d4⟩)) ?_;rintro _ n4 eq;refine qh 6 bU eq ?_;refine ax ?_;exact nm H (jj eq)
    ·refine pw _ rfl ?_;exact nj ⟨iJ,H,jj aJ⟩
  ·rintro E oo ⟨B,H,bK,rfl,lG,du⟩;refine pe (fun E wq=>∃ M:List oC,pg.k3 qG ai S p B M=some r ∧ ∃ (bw:jL),E=[(4,pl e 0),(6,pl g 0),(7,pl j 0)]∧bK.le bw∧po du [.row oH.t d qG,.row oC.t (.sl none 0 (.k 0)) [],.row Chunk.t (.sl none 0 (.k 0)) [],.box j [.i .i64 0,O,(.sl none 0 (.k 0)),(.sl none 0 (.k 0)),.sl none 0 (.k 0)],.row Chunk.t l B,.row lU.t A S,.box g [.i .i64 p,A,l,m,d],.row oC.t (.sl none 0 (.k 0)) [],.row Chunk.t (.sl none 0 (.k 0)) [],.row lU.t (.sl none 0 (.k 0)) [],.box e [.i .i64 0,(.sl none 0 (.k 0)),(.sl none 0 (.k 0)),(.sl none 0 (.k 0)),.sl none 0 (.k 0)],.row lU.t O ai,.row oC.t m M] bw wq) ?_ ?_
   ·refine ax ?_;refine qC (fun (s:Int × (List oC)) E wq=>∃ (cJ:jL),E=[(4,pl e 0),(6,pl g 0),(7,pl j 0),(21,.i .i64 s.1)]∧bK.le cJ∧po du [.row oH.t d qG,.row oC.t (.sl none 0 (.k 0)) [],.row Chunk.t (.sl none 0 (.k 0)) [],.box j [.i .i64 0,O,(.sl none 0 (.k 0)),(.sl none 0 (.k 0)),.sl none 0 (.k 0)],.row Chunk.t l B,.row lU.t A S,.box g [.i .i64 p,A,l,m,d],.row oC.t (.sl none 0 (.k 0)) [],.row Chunk.t (.sl none 0 (.k 0)) [],.row lU.t (.sl none 0 (.k 0)) [],.box e [.i .i64 0,(.sl none 0 (.k 0)),(.sl none 0 (.k 0)),(.sl none 0 (.k 0)),.sl none 0 (.k 0)],.row lU.t O ai,.row oC.t m s.2] cJ wq) H ?_ ?_
    ·exact lo (jj du)
    ·rintro mj ⟨iE,iI⟩ E nx hI H
     try dsimp only at hI
     obtain ⟨cJ,rfl,li,aH⟩:=hI;refine ay ?_;refine qr (qD aaF rfl (aH.rB (k:=12) rfl)) ?_;refine au ?_;refine qy H (fun gy H=>?_) (fun gy H=>?_)
     ·refine ay ?_;obtain ⟨dL,eN,jc,h9,H⟩:=oU H;have bT:=aH.tK 6 rfl;refine rh 6 bT aH ?_;refine au ?_;refine hl 6 bT aH ?_;refine au ?_;refine Dv 6 Ty.Bu aH ?_;obtain ⟨_,⟨m4,rfl,hP⟩,gL⟩:=tt 3 12 aH eN;refine au ?_;refine qq (su 2 Ty.wX rfl gL (by first | omega | rfl) rfl) ?_;refine ql (QY aH.oR hP h9) ?_;rintro fi n0 ⟨j9,_,rfl,eB⟩;have em:=aH.call eB;have iW:=eB.ext;refine nf 7 bT em iW ?_;refine au ?_;obtain ⟨jr,iR,d3,eo⟩:=em.rv 0 [1,2,3,4,5,6,7,8,9,10,11,12,13] rfl (by decide) (by decide);refine wg 6 bT eo iR ?_;refine qu (yx (c:=[fi]) 12 (iE.toNat) 2 dL (oC.mk dL.seq dL.of jc) rfl rfl eo rfl (oM eN).2 (by first | rfl | (show _=_*3+_;omega)) d3.ln.cells Ty.AG (by simp only [tZ,uR,rC,d3.ln.one];rfl) (qY rfl) (by rintro cs ⟨a2,rfl,b2⟩;exact ⟨fi,rfl,d3⟩)) ?_;rintro _ n1 en;refine qh 6 bT en ?_;refine ax ?_;exact nm H (jj en)
     ·refine pw _ rfl ?_;exact nj ⟨iI,H,jj aH⟩
   ·rintro E op ⟨M,H,bw,rfl,lH,dv⟩;refine aq ?_;refine pe (fun E wq=>∃ bq:List lU,pg.k4 qG S p B M bq=some r ∧ ∃ (bM:jL) (a6:jD),E=[(4,pl e 0),(6,pl g 0),(22,a6)]∧bw.le bM∧po dv [.row oH.t d qG,.row Chunk.t l B,.row lU.t A S,.box g [.i .i64 p,A,l,m,d],.row oC.t (.sl none 0 (.k 0)) [],.row Chunk.t (.sl none 0 (.k 0)) [],.row lU.t (.sl none 0 (.k 0)) [],.box e [.i .i64 0,(.sl none 0 (.k 0)),(.sl none 0 (.k 0)),(.sl none 0 (.k 0)),.sl none 0 (.k 0)],.row oC.t m M,.row lU.t a6 bq] bM wq) ?_ ?_
    ·refine ax ?_;refine qC (fun (s:(List lU) × Int) E wq=>∃ (cb:jL) (aj:jD),E=[(4,pl e 0),(6,pl g 0),(7,pl j 0),(22,aj),(23,.i .i64 s.2)]∧bw.le cb∧po dv [.row oH.t d qG,.row oC.t (.sl none 0 (.k 0)) [],.row Chunk.t (.sl none 0 (.k 0)) [],.box j [.i .i64 0,O,(.sl none 0 (.k 0)),(.sl none 0 (.k 0)),.sl none 0 (.k 0)],.row Chunk.t l B,.row lU.t A S,.box g [.i .i64 p,A,l,m,d],.row oC.t (.sl none 0 (.k 0)) [],.row Chunk.t (.sl none 0 (.k 0)) [],.row lU.t (.sl none 0 (.k 0)) [],.box e [.i .i64 0,(.sl none 0 (.k 0)),(.sl none 0 (.k 0)),(.sl none 0 (.k 0)),.sl none 0 (.k 0)],.row lU.t O ai,.row oC.t m M,.row lU.t aj s.1] cb wq) H ?_ ?_
     ·have f9:=dv.sY lU.t;exact lo ⟨bw,(.sl none 0 (.k 0)),rfl,(jL.le.refl _),f9.pick [1,2,3,4,5,6,7,8,9,10,11,12,13,0] (by decide)⟩
     ·rintro dG ⟨bE,aD⟩ E nb hI H
      try dsimp only at hI
      obtain ⟨cb,aj,rfl,kZ,cf⟩:=hI;refine ay ?_;refine qr (qD aam rfl (cf.rB (k:=11) rfl)) ?_;refine au ?_;refine qy H (fun gt H=>?_) (fun gt H=>?_)
      ·refine qk ?_;refine pe (fun E wq=>∃ d8:List lU,pg.Aw aD dG d8=some r ∧ ∃ (cE:jL) (c3:jD),E=[(4,pl e 0),(6,pl g 0),(7,pl j 0),(22,c3),(23,.i .i64 aD)]∧cb.le cE∧po cf [.row oH.t d qG,.row oC.t (.sl none 0 (.k 0)) [],.row Chunk.t (.sl none 0 (.k 0)) [],.box j [.i .i64 0,O,(.sl none 0 (.k 0)),(.sl none 0 (.k 0)),.sl none 0 (.k 0)],.row Chunk.t l B,.row lU.t A S,.box g [.i .i64 p,A,l,m,d],.row oC.t (.sl none 0 (.k 0)) [],.row Chunk.t (.sl none 0 (.k 0)) [],.row lU.t (.sl none 0 (.k 0)) [],.box e [.i .i64 0,(.sl none 0 (.k 0)),(.sl none 0 (.k 0)),(.sl none 0 (.k 0)),.sl none 0 (.k 0)],.row lU.t O ai,.row oC.t m M,.row lU.t c3 d8] cE wq) ?_ ?_
       ·obtain ⟨V,hZ,H⟩:=oL H;obtain ⟨_,⟨bt,je,rfl,eM,hO⟩,kk⟩:=tt 4 11 cf hZ;refine ax ?_;refine al ?_;intro aX nd ka;refine sb 0 ([.i .i64 V.seq,.s V.oJ.name,bt,je]) ?_;intro ne eg;obtain ⟨bH,h4,H⟩:=oL H;refine ax ?_;refine lm (QY eg.oR hO h4) ?_;rintro be ng ⟨dX,_,rfl,e9⟩;have kb:=eg.call e9;have lZ:=e9.ext;refine au ?_;refine sc 1 ([.i .i64 V.seq,.s V.oJ.name,bt,be]) ?_;intro nh dh;refine qn ?_;refine aq ?_;refine pe (fun E wq=>∃ cX:Bool,pg.HS qG S p B M bE aD dG V bH cX=some r ∧ ∃ (cF:jL),E=[(4,pl e 0),(6,pl g 0),(7,pl j 0),(22,aj),(23,.i .i64 aD),(24,pl aX 0),(25,.b cX)]∧dX.le cF∧ug dh cF wq) ?_ ?_
        ·refine ax ?_;refine qC (fun (s:Bool × Int) E wq=>∃ (bv:jL),E=[(4,pl e 0),(6,pl g 0),(7,pl j 0),(22,aj),(23,.i .i64 aD),(24,pl aX 0),(25,.b s.1),(26,.i .i64 s.2)]∧dX.le bv∧ug dh bv wq) H ?_ ?_
         ·exact lo (jj dh)
         ·rintro mi ⟨da,iD⟩ E nu hI H
          try dsimp only at hI
          obtain ⟨bv,rfl,lg,bj⟩:=hI;refine ay ?_;refine qr (qD aaF rfl (bj.rB (k:=14) rfl)) ?_;refine au ?_;refine qy H (fun gx H=>?_) (fun gx H=>?_)
          ·refine qk ?_;refine qU ?_;refine xP ?_;obtain ⟨jk,ib,H⟩:=oL H;refine yd (fun E wq=>E=[(4,pl e 0),(6,pl g 0),(7,pl j 0),(22,aj),(23,.i .i64 aD),(24,pl aX 0),(25,.b (da&&decide (jk.of≠V.seq))),(26,.i .i64 iD)] ∧ ∃ cI:jL,bv.le cI∧St [] w F cI [.row Loc.t be bH,.box aX [.i .i64 V.seq,.s V.oJ.name,bt,be],.row oH.t d qG,.row oC.t (.sl none 0 (.k 0)) [],.row Chunk.t (.sl none 0 (.k 0)) [],.box j [.i .i64 0,O,(.sl none 0 (.k 0)),(.sl none 0 (.k 0)),.sl none 0 (.k 0)],.row Chunk.t l B,.row lU.t A S,.box g [.i .i64 p,A,l,m,d],.row oC.t (.sl none 0 (.k 0)) [],.row Chunk.t (.sl none 0 (.k 0)) [],.row lU.t (.sl none 0 (.k 0)) [],.box e [.i .i64 0,(.sl none 0 (.k 0)),(.sl none 0 (.k 0)),(.sl none 0 (.k 0)),.sl none 0 (.k 0)],.row lU.t O ai,.row oC.t m M,.row lU.t aj bE] wq) ?_ ?_
           ·
            rcases uO da with ba | ba
            ·refine rn ?_;refine q2 ?_;refine ri 346 ba ?_;refine qf Ty.FZ ?_;refine qb 8 Ty.Bu bj ?_;refine qc ?_;have eW:=ib;rw [qA ba] at eW;obtain ⟨hr,iy⟩:=oM eW;obtain ⟨jP,h8,cl⟩:=bj.rowAt (k:=14) rfl iy;obtain ⟨m3,rfl,kA⟩:=h8;replace cl:=qj 3 cl;have eH:=cl.rq;refine qi aaF Ty.uu eH hr ?_;refine qr (uU 1 Ty.WQ rfl eH) ?_;refine qr (su 1 Ty.uW rfl cl (by first | omega | rfl) rfl) ?_;refine qf Ty.KX ?_;refine qb 1 Ty.uW bj ?_;refine qr (oO rfl rfl Br) ?_;refine q2 ?_;refine qN ?_;exact sj _ ⟨rfl,bv,(jL.le.refl _),bj⟩ ⟨rfl,rfl,rfl,rfl,rfl,rfl,(sq rfl (by first | rfl | (rw [ba];first | done | rfl) | simp [ba])),rfl,trivial⟩
            ·refine rn ?_;refine q2 ?_;refine ri 346 ba ?_;refine pI ?_;refine pI ?_;refine pI ?_;refine pI ?_;refine qz ?_;refine q2 ?_;refine qN ?_;exact sj _ ⟨rfl,bv,(jL.le.refl _),bj⟩ ⟨rfl,rfl,rfl,rfl,rfl,rfl,(sq rfl (by first | rfl | (rw [ba];first | done | rfl) | simp [ba])),rfl,trivial⟩
           rintro E nv ⟨rfl,cI,lh,f8⟩;refine ax ?_;exact nm H (jj f8)
          ·refine pw _ rfl ?_;exact nj ⟨da,H,jj bj⟩
        ·rintro E ni ⟨cX,H,cF,rfl,lb,di⟩;obtain ⟨mf,h5,H⟩:=oL H;refine aq ?_;refine bl di 1 (oP.cells V.oJ bt) [be] ?_;refine lm (We di.oR (mo eM) h5) ?_;rintro fh nk ⟨dY,_,rfl,ha,eA⟩;have dj:=di.call eA;have ma:=eA.ext;refine au ?_;refine pe (fun E wq=>∃ cY:Bool,pg.A4 bE aD dG V bH cY=some r ∧ ∃ (cG:jL),E=[(4,pl e 0),(6,pl g 0),(7,pl j 0),(22,aj),(23,.i .i64 aD),(24,pl aX 0),(25,.b cY)]∧dY.le cG∧ug dj cG wq) ?_ ?_
         ·refine ax ?_;refine qC (fun (s:Bool × Int) E wq=>∃ (bu:jL),E=[(4,pl e 0),(6,pl g 0),(7,pl j 0),(22,aj),(23,.i .i64 aD),(24,pl aX 0),(25,.b s.1),(27,fh),(28,.i .i64 s.2)]∧dY.le bu∧ug dj bu wq) H ?_ ?_
          ·exact lo (jj dj)
          ·rintro mh ⟨cZ,iC⟩ E nq hI H
           try dsimp only at hI
           obtain ⟨bu,rfl,iQ,ak⟩:=hI;refine ay ?_;refine qy H (fun gv H=>?_) (fun gv H=>?_)
           ·refine qk ?_;refine qU ?_;refine xP ?_;obtain ⟨fm,ia,jb,h6,H⟩:=oU H;refine yd (fun E wq=>E=[(4,pl e 0),(6,pl g 0),(7,pl j 0),(22,aj),(23,.i .i64 aD),(24,pl aX 0),(25,.b (cZ&&decide (0≤jb))),(27,fh),(28,.i .i64 iC)] ∧ ∃ cH:jL,bu.le cH∧St [] w F cH [.row Loc.t be bH,.box aX [.i .i64 V.seq,.s V.oJ.name,bt,be],.row oH.t d qG,.row oC.t (.sl none 0 (.k 0)) [],.row Chunk.t (.sl none 0 (.k 0)) [],.box j [.i .i64 0,O,(.sl none 0 (.k 0)),(.sl none 0 (.k 0)),.sl none 0 (.k 0)],.row Chunk.t l B,.row lU.t A S,.box g [.i .i64 p,A,l,m,d],.row oC.t (.sl none 0 (.k 0)) [],.row Chunk.t (.sl none 0 (.k 0)) [],.row lU.t (.sl none 0 (.k 0)) [],.box e [.i .i64 0,(.sl none 0 (.k 0)),(.sl none 0 (.k 0)),(.sl none 0 (.k 0)),.sl none 0 (.k 0)],.row lU.t O ai,.row oC.t m M,.row lU.t aj bE] wq) ?_ ?_
            ·
             rcases uO cZ with aR | aR
             ·refine rf ak ?_;refine q2 ?_;refine ri 367 aR ?_;refine bL ak 8 (mZ.cells (mZ.mk p S B M qG) A l m d) [] ?_;refine q2 ?_;have eU:=ia;rw [qA aR] at eU;obtain ⟨hq,iw⟩:=oM eU;obtain ⟨jM,h7,ck⟩:=(ha.mono iQ).el iw;obtain ⟨rfl,hm⟩:=h7;replace ck:=qj 32 ck;have hb:=ck.rq;refine qi Tryz.underlying109 Ty.uL hb hq ?_;refine qq (tD 0 (pb fm) Ty.yg Ty.uL rfl (ck.mono ak.agree) (by first | omega | rfl) rfl (qY rfl)) ?_;have eV:=h6;rw [qA aR] at eV;refine Bp (f:=52) (args:=[.agg (mZ.cells (mZ.mk p S B M qG) A l m d),.agg (pb fm)]) rfl rfl rfl rfl (Wi (Gd.now ak.wf) (ak.uK (k:=7) rfl) (ak.uK (k:=6) rfl) (ak.uK (k:=14) rfl) (ak.uK (k:=2) rfl) hm eV) ?_;rintro mN nt ⟨j8,rfl,gr⟩;have ek:=ak.vw gr;refine qw ek ?_;refine qr (oO rfl rfl VJ) ?_;refine q2 ?_;refine qN ?_;exact sj _ ⟨rfl,bu,(jL.le.refl _),ek⟩ ⟨rfl,rfl,rfl,rfl,rfl,rfl,(sq rfl (by first | rfl | (rw [aR];first | done | rfl) | simp [aR])),rfl,rfl,trivial⟩
             ·refine rf ak ?_;refine q2 ?_;refine ri 367 aR ?_;refine pI ?_;refine pI ?_;refine pI ?_;refine qz ?_;refine q2 ?_;refine qN ?_;exact sj _ ⟨rfl,bu,(jL.le.refl _),ak⟩ ⟨rfl,rfl,rfl,rfl,rfl,rfl,(sq rfl (by first | rfl | (rw [aR];first | done | rfl) | simp [aR])),rfl,rfl,trivial⟩
            rintro E ns ⟨rfl,cH,lf,f7⟩;refine ax ?_;exact nm H (jj f7)
           ·refine pw _ rfl ?_;exact nj ⟨cZ,H,jj ak⟩
         ·rintro E nl ⟨cY,H,cG,rfl,lc,eh⟩;refine aq ?_;refine qy H (fun gu H=>?_) (fun gu H=>?_)
          ·obtain ⟨iH,hg,H⟩:=oL H;refine ax ?_;obtain ⟨jq,ld,gS,f6⟩:=eh.rv 0 [1,2,3,4,5,6,7,8,9,10,11,12,13,14,15] rfl (by decide) (by decide);refine xm (sh (t:=lU.t) (vs:=[.agg (lU.cells (lU.mk V.seq V.oJ bH) bt be)]) (xs:=[(lU.mk V.seq V.oJ bH)]) aam Ty.Bb rfl ⟨⟨bt,be,rfl,(mo eM),gS⟩,trivial⟩ rfl rfl f6) ?_;rintro mr nn ei;refine ap 15 ei (ei.tf (k:=0) rfl) hg ?_;intro jf np f5;refine ax ?_;exact nj ⟨iH,H,⟨_,jf,rfl,pc,pk [2,3,4,5,6,7,8,9,10,11,12,13,14,15] f5⟩⟩
          ·refine ax ?_;exact nj ⟨bE,H,⟨_,aj,rfl,pc,pk [2,3,4,5,6,7,8,9,10,11,12,13,14,15] eh⟩⟩
       ·rintro E nc ⟨d8,H,cE,c3,rfl,la,f3⟩;refine ax ?_;exact nm H ⟨_,c3,rfl,pc,f3⟩
      ·refine pw _ rfl ?_;exact nj ⟨bE,H,⟨_,aj,rfl,pc,pk [0,4,5,6,7,8,9,10,12,13] cf⟩⟩
    ·rintro E oq ⟨bq,H,bM,a6,rfl,lI,dw⟩;refine pe (fun E wq=>∃ bG:List lU,pg.k5 qG p B M bG=some r ∧ ∃ (cT:jL) (a4:jD),E=[(4,pl e 0),(6,pl g 0)]∧bM.le cT∧po dw [.row oH.t d qG,.row Chunk.t l B,.row lU.t a4 bG,.box g [.i .i64 p,a4,l,m,d],.row oC.t (.sl none 0 (.k 0)) [],.row Chunk.t (.sl none 0 (.k 0)) [],.row lU.t (.sl none 0 (.k 0)) [],.box e [.i .i64 0,(.sl none 0 (.k 0)),(.sl none 0 (.k 0)),(.sl none 0 (.k 0)),.sl none 0 (.k 0)],.row oC.t m M] cT wq) ?_ ?_
     ·refine ax ?_;refine qC (fun (s:Int × (List lU)) E wq=>∃ (bz:jL) (bs:jD),E=[(4,pl e 0),(6,pl g 0),(22,a6),(29,.i .i64 s.1)]∧bM.le bz∧po dw [.row oH.t d qG,.row Chunk.t l B,.row lU.t bs s.2,.box g [.i .i64 p,bs,l,m,d],.row oC.t (.sl none 0 (.k 0)) [],.row Chunk.t (.sl none 0 (.k 0)) [],.row lU.t (.sl none 0 (.k 0)) [],.box e [.i .i64 0,(.sl none 0 (.k 0)),(.sl none 0 (.k 0)),(.sl none 0 (.k 0)),.sl none 0 (.k 0)],.row oC.t m M,.row lU.t a6 bq] bz wq) H ?_ ?_
      ·exact lo ⟨_,A,rfl,pc,dw⟩
      ·rintro fg ⟨bD,cz⟩ E oy hI H
       try dsimp only at hI
       obtain ⟨bz,bs,rfl,lV,b8⟩:=hI;refine ay ?_;refine qr (qD aam rfl (b8.rB (k:=9) rfl)) ?_;refine au ?_;refine qy H (fun gF H=>?_) (fun gF H=>?_)
       ·refine qk ?_;refine pe (fun E wq=>∃ dF:List lU,pg.k7 bD fg dF=some r ∧ ∃ (cU:jL) (cA:jD),E=[(4,pl e 0),(6,pl g 0),(22,a6),(29,.i .i64 bD)]∧bz.le cU∧po b8 [.row oH.t d qG,.row Chunk.t l B,.row lU.t cA dF,.box g [.i .i64 p,cA,l,m,d],.row oC.t (.sl none 0 (.k 0)) [],.row Chunk.t (.sl none 0 (.k 0)) [],.row lU.t (.sl none 0 (.k 0)) [],.box e [.i .i64 0,(.sl none 0 (.k 0)),(.sl none 0 (.k 0)),(.sl none 0 (.k 0)),.sl none 0 (.k 0)],.row oC.t m M,.row lU.t a6 bq] cU wq) ?_ ?_
        ·refine xP ?_;refine aq ?_;refine pe (fun E wq=>∃ db:Bool,pg.k8 bq bD cz fg db=some r ∧ ∃ (cV:jL),E=[(4,pl e 0),(6,pl g 0),(22,a6),(29,.i .i64 bD),(30,.b db)]∧bz.le cV∧ug b8 cV wq) ?_ ?_
         ·refine ax ?_;refine qC (fun (s:Bool × Int) E wq=>∃ (b0:jL),E=[(4,pl e 0),(6,pl g 0),(22,a6),(29,.i .i64 bD),(30,.b s.1),(31,.i .i64 s.2)]∧bz.le b0∧ug b8 b0 wq) H ?_ ?_
          ·exact lo (jj b8)
          ·rintro mq ⟨dc,iG⟩ E o6 hI H
           try dsimp only at hI
           obtain ⟨b0,rfl,lY,b9⟩:=hI;refine ay ?_;refine qr (qD aam rfl (b9.rB (k:=9) rfl)) ?_;refine au ?_;refine qy H (fun gH H=>?_) (fun gH H=>?_)
           ·refine qk ?_;refine qU ?_;refine xP ?_;obtain ⟨jp,it,ji,hY,H⟩:=oU H;refine yd (fun E wq=>E=[(4,pl e 0),(6,pl g 0),(22,a6),(29,.i .i64 bD),(30,.b (dc||(jp.oJ.name == ji.oJ.name))),(31,.i .i64 iG)] ∧ ∃ cD:jL,b0.le cD∧St [] w F cD [.row oH.t d qG,.row Chunk.t l B,.row lU.t bs cz,.box g [.i .i64 p,bs,l,m,d],.row oC.t (.sl none 0 (.k 0)) [],.row Chunk.t (.sl none 0 (.k 0)) [],.row lU.t (.sl none 0 (.k 0)) [],.box e [.i .i64 0,(.sl none 0 (.k 0)),(.sl none 0 (.k 0)),(.sl none 0 (.k 0)),.sl none 0 (.k 0)],.row oC.t m M,.row lU.t a6 bq] wq) ?_ ?_
            ·
             rcases uO dc with a5 | a5
             ·refine rn ?_;refine q2 ?_;refine ri 396 a5 ?_;refine pI ?_;refine pI ?_;refine pI ?_;refine pI ?_;refine pI ?_;refine pI ?_;refine qz ?_;refine q2 ?_;refine qN ?_;exact sj _ ⟨rfl,b0,(jL.le.refl _),b9⟩ ⟨rfl,rfl,rfl,rfl,(sq rfl (by first | rfl | (rw [a5];first | done | rfl) | simp [a5])),rfl,trivial⟩
             ·refine rn ?_;refine q2 ?_;refine ri 396 a5 ?_;refine q2 ?_;have eS:=it;rw [qA (by first | rfl | (rw [a5];first | done | rfl) | simp [a5])] at eS;obtain ⟨ho,iu⟩:=oM eS;obtain ⟨jJ,h2,ci⟩:=b9.rowAt (k:=9) rfl iu;obtain ⟨mL,mM,rfl,kQ,kR⟩:=h2;replace ci:=qj 4 ci;have d5:=ci.rq;refine qi aam Ty.sJ d5 ho ?_;refine qr (uU 1 Ty.KY rfl d5) ?_;refine qr (uU 0 Ty.Re rfl d5) ?_;refine qr (su 1 Ty.IZ rfl ci (by first | omega | rfl) rfl) ?_;refine q2 ?_;have eT:=hY;rw [qA (by first | rfl | (rw [a5];first | done | rfl) | simp [a5])] at eT;obtain ⟨hp,iv⟩:=oM eT;obtain ⟨jK,h3,cj⟩:=b9.rowAt (k:=9) rfl iv;obtain ⟨m1,m2,rfl,kz,k0⟩:=h3;replace cj:=qj 4 cj;have d6:=cj.rq;refine qi aam Ty.sJ d6 hp ?_;refine qr (uU 1 Ty.KY rfl d6) ?_;refine qr (uU 0 Ty.Re rfl d6) ?_;refine qr (su 1 Ty.IZ rfl cj (by first | omega | rfl) rfl) ?_;refine qr (oO rfl rfl VK) ?_;refine q2 ?_;refine qN ?_;exact sj _ ⟨rfl,b0,(jL.le.refl _),b9⟩ ⟨rfl,rfl,rfl,rfl,(sq rfl (by first | rfl | (rw [a5];first | done | rfl) | simp [a5])),rfl,trivial⟩
            rintro E na ⟨rfl,cD,kY,f1⟩;refine ax ?_;exact nm H (jj f1)
           ·refine pw _ rfl ?_;exact nj ⟨dc,H,jj b9⟩
         ·rintro E o0 ⟨db,H,cV,rfl,lX,ch⟩;refine aq ?_;refine qy H (fun gG H=>?_) (fun gG H=>?_)
          ·obtain ⟨dU,ir,iP,hk,H⟩:=oU H;refine rf ch ?_;obtain ⟨_,⟨dH,dI,rfl,hR,hT⟩,gR⟩:=tt 4 9 ch ir;refine au ?_;refine qq (tD 0 (lU.cells dU dH dI) Ty.KD Ty.sJ rfl gR (by first | omega | rfl) rfl (qY rfl)) ?_;refine qx (sh (t:=lU.t) (vs:=[.agg (lU.cells dU dH dI)]) (xs:=[dU]) aam Ty.Bb rfl ⟨⟨dH,dI,rfl,hR,hT⟩,trivial⟩ rfl rfl ch) ?_;rintro m0 o2 dx;refine qw dx ?_;refine aP 3 dx (dx.tf (k:=0) rfl) hk ?_;intro fl o4 kj;refine au ?_;refine sC 4 ([.i .i64 p,fl,l,m,d]) ?_;intro o5 gq;refine ax ?_;exact nj ⟨iP,H,⟨_,fl,rfl,pc,pk [1,2,3,4,5,6,7,8,9,10] gq⟩⟩
          ·refine ax ?_;exact nj ⟨cz,H,⟨_,bs,rfl,pc,ch⟩⟩
        ·rintro E oz ⟨dF,H,cU,cA,rfl,lW,go⟩;refine ax ?_;exact nm H ⟨_,cA,rfl,pc,go⟩
       ·refine pw _ rfl ?_;exact nj ⟨cz,H,⟨_,bs,rfl,pc,pk [0,1,2,3,4,5,6,7,8] b8⟩⟩
     ·rintro E ou ⟨bG,H,cT,a4,rfl,lJ,b7⟩;obtain ⟨mg,hK,H⟩:=oL H;refine ay ?_;refine Bp (f:=21) (args:=[.agg (mZ.cells (mZ.mk p bG B M qG) a4 l m d)]) rfl rfl rfl rfl (Wh (Gd.now b7.wf) (b7.uK (k:=2) rfl) (b7.uK (k:=1) rfl) (b7.uK (k:=8) rfl) (b7.uK (k:=0) rfl) hK) ?_;rintro mY ov ⟨jD,rfl,gs⟩;have bS:=b7.vw gs;refine pQ.now ?_;refine au ?_;refine qy H (fun gE H=>?_) (fun gE H=>?_)
      ·refine qs ?_;refine qM (v:=.agg (mZ.cells (mZ.mk 0 [] [] [] []) (.sl none 0 (.k 0)) (.sl none 0 (.k 0)) (.sl none 0 (.k 0)) (.sl none 0 (.k 0)))) rfl rfl rfl rfl (fun _=>rfl) ?_;refine sb 7 ([.i .i64 0,.sl none 0 (.k 0),.sl none 0 (.k 0),.sl none 0 (.k 0),.sl none 0 (.k 0)]) ?_;intro ow ga;have fW:=ga.wk lU.o;have fX:=fW.wk Chunk.o;have fY:=fX.wk oC.o;refine au ?_;obtain ⟨j1,lK,gb⟩:=St.xD lU.sf 2 fY rfl;obtain ⟨j2,lL,gT,gc⟩:=gb.rv 2 [0,1,3,4,5,6,7,8,9,10,11] rfl (by decide) (by decide);obtain ⟨j3,lM,gd⟩:=St.xD Chunk.sf 1 gc rfl;obtain ⟨j4,lN,gU,gf⟩:=gd.rv 1 [0,2,3,4,5,6,7,8,9,10] rfl (by decide) (by decide);obtain ⟨j5,lO,gg⟩:=St.xD oC.sf 0 gf rfl;obtain ⟨dW,lP,gV,gh⟩:=gg.rv 0 [1,2,3,4,5,6,7,8,9] rfl (by decide) (by decide);have e7:St [] w F dW [.row oH.t d qG,.row Chunk.t l B,.row lU.t a4 bG,.box g [.i .i64 p,a4,l,m,d],.row oC.t (.sl none 0 (.k 0)) [],.row Chunk.t (.sl none 0 (.k 0)) [],.row lU.t (.sl none 0 (.k 0)) [],.box e [.i .i64 0,(.sl none 0 (.k 0)),(.sl none 0 (.k 0)),(.sl none 0 (.k 0)),.sl none 0 (.k 0)],.row oC.t m M] _:=gh;obtain rfl:=oi H;refine yw (vs:=[.agg (mZ.cells (mZ.mk 0 [] [] [] []) (.sl none 0 (.k 0)) (.sl none 0 (.k 0)) (.sl none 0 (.k 0)) (.sl none 0 (.k 0))),.i .i64 1]) rfl ⟨(yB 7 Ty.yU Ty.zh e7 rfl rfl),rfl,trivial⟩ ?_;exact ⟨dW,(.sl none 0 (.k 0)),(.sl none 0 (.k 0)),(.sl none 0 (.k 0)),.sl none 0 (.k 0),rfl,(mo gT),(mo gU),gV,(oF.nil _),e7.pick [] (by decide)⟩
      ·refine ax ?_;refine um (CY (c:=[.i .i64 p,a4,l,m,d]) 7 ([.i .i64 p,a4,l,m,d]) rfl rfl bS rfl rfl Ty.zh (by simp only [tZ,uR,rC,(bS.rB (k:=2) rfl).one,(bS.rB (k:=1) rfl).one,(bS.rB (k:=8) rfl).one,(bS.rB (k:=0) rfl).one];rfl) rfl rfl) ?_;rintro _ ox gi;refine au ?_;obtain ⟨j6,lQ,gW,gj⟩:=gi.rv 2 [0,1,3,4,5,6,7,8] rfl (by decide) (by decide);obtain ⟨j7,lR,gX,gl⟩:=gj.rv 1 [0,2,3,4,5,6,7] rfl (by decide) (by decide);obtain ⟨fp,lS,gY,gm⟩:=gl.rv 6 [0,1,2,3,4,5] rfl (by decide) (by decide);have gn:St [] w F fp [.row oH.t d qG,.box g [.i .i64 p,a4,l,m,d],.row oC.t (.sl none 0 (.k 0)) [],.row Chunk.t (.sl none 0 (.k 0)) [],.row lU.t (.sl none 0 (.k 0)) [],.box e [.i .i64 p,a4,l,m,d]] _:=gm;obtain ⟨fq,lT,gZ,e8⟩:=gn.rv 0 [1,2,3,4,5] rfl (by decide) (by decide);obtain rfl:=oi H;refine yw (vs:=[.agg (mZ.cells (mZ.mk p bG B M qG) a4 l m d),.i .i64 0]) rfl ⟨(yB 4 Ty.yU Ty.zh e8 rfl rfl),rfl,trivial⟩ ?_;exact ⟨fq,a4,l,m,d,rfl,(mo gW),(mo gX),(mo gY),gZ,e8.pick [] (by decide)⟩
def Bv.k1:Option Bool :=
  some true
def Bv.l2 (x0:List UInt8) (x1:List UInt8) (b:Int→Option Bool):Int→Option Bool
  | a =>
    if decide (a < (x0.length:Int)) then
      bd (ix x0 a) fun x7 =>
      bd (ix x1 a) fun x9 =>
      if decide ((x7.toNat:Int)≠(x9.toNat:Int)) then
        some false
      else
        b (wr (a+1))
    else
      Bv.k1
def Bv (x0:List UInt8) (x1:List UInt8):Option Bool :=
  if decide ((x0.length:Int)≠(x1.length:Int)) then
    some false
  else
    loop (Bv.l2 x0 x1) 0
theorem V6 {x0:List UInt8} {x1:List UInt8} {r:Bool} {c:jD} {d:jD} (hA:Gd F w) (f:oF tB F c x0) (g:oF tB F d x1) (H:Bv x0 x1=some r):pa aac K 58 [c,d] w fun v w'=>∃ (F':jL),v = .b r∧St [] w F F' [] w':=by
 refine ra Tryz.func58 ?_;have hS:=St.start hA;refine ay ?_;refine qy H (fun j H=>?_) (fun j H=>?_)
 ·exact rz H hS
 ·refine qk ?_;refine pe (jN (Bv.k1=some r) [] hS) ?_ ?_
  ·refine ax ?_;refine lj hS (fun s:Int=>[(0,c),(1,d),(5,.i .i64 s)]) H ?_;intro y u q A e a H;refine ay ?_;refine qy H (fun l H=>?_) (fun l H=>?_)
   ·refine ay ?_;obtain ⟨x7,m,x9,n,H⟩:=oU H;refine rn ?_;obtain ⟨_,rfl,_⟩:=qa 1 (f.mono e) m;obtain ⟨_,rfl,_⟩:=qa 1 (g.mono e) n;refine au ?_;refine qy H (fun k H=>?_) (fun k H=>?_)
    ·exact rz H a
    ·refine ax ?_;exact nm H (jj a)
   ·refine pw _ rfl ?_;exact nj ⟨H,jj a⟩
  ·rintro E z ⟨H,p,rfl,x,h⟩;exact rz H h
def AW.k1:Option Bool :=
  some true
def AW.l2 (x0:List Loc) (x1:List Loc) (c:Int→Option Bool):Int→Option Bool
  | a =>
    if decide (a < (x0.length:Int)) then
      bd (ix x0 a) fun x7 =>
      bd (ix x1 a) fun x9 =>
      bd (I1 x7 x9) fun b =>
      if (!b) then
        some false
      else
        c (wr (a+1))
    else
      AW.k1
def AW (x0:List Loc) (x1:List Loc):Option Bool :=
  if decide ((x0.length:Int)≠(x1.length:Int)) then
    some false
  else
    loop (AW.l2 x0 x1) 0
theorem QT {x0:List Loc} {x1:List Loc} {r:Bool} {c:jD} {d:jD} (hA:Gd F w) (g:oF Loc.t F c x0) (h:oF Loc.t F d x1) (H:AW x0 x1=some r):pa aac K 55 [c,d] w fun v w'=>∃ (F':jL),v = .b r∧St [] w F F' [] w':=by
 refine ra Tryz.func55 ?_;have hS:=St.start hA;refine ay ?_;refine qy H (fun k H=>?_) (fun k H=>?_)
 ·exact rz H hS
 ·refine qk ?_;refine pe (jN (AW.k1=some r) [] hS) ?_ ?_
  ·refine ax ?_;refine lj hS (fun s:Int=>[(0,c),(1,d),(5,.i .i64 s)]) H ?_;intro G A x L f a H;refine ay ?_;refine qy H (fun m H=>?_) (fun m H=>?_)
   ·refine ay ?_;obtain ⟨x7,p,x9,q,H⟩:=oU H;obtain ⟨D,n,H⟩:=oL H;refine rf a ?_;obtain ⟨_,rfl,y⟩:=qa 4 (g.mono f) p;obtain ⟨_,rfl,z⟩:=qa 4 (h.mono f) q;refine au ?_;refine lq (QS a.oR n) a ?_;intro I e;refine au ?_;refine qy H (fun l H=>?_) (fun l H=>?_)
    ·exact rz H e
    ·refine ax ?_;exact nm H (jj e)
   ·refine pw _ rfl ?_;exact nj ⟨H,jj a⟩
  ·rintro E J ⟨H,u,rfl,B,j⟩;exact rz H j
def Nz (x0:Chunk) (x1:Chunk):Option Bool :=
  bd (only (decide (x0.id=x1.id)&&(x0.pX == x1.pX)) (Bv x0.data x1.data) false) fun a =>
  bd (only ((decide (x0.id=x1.id)&&(x0.pX == x1.pX))&&a) (AW x0.oN x1.oN) false) fun b =>
  some (((decide (x0.id=x1.id)&&(x0.pX == x1.pX))&&a)&&b)
theorem ab5 {x0:Chunk} {x1:Chunk} {r:Bool} {c:jD} {d:jD} {e:jD} {f:jD} (hA:Gd F w) (h:oF tB F c x0.data) (i:oF Loc.t F d x0.oN) (q:(x0.id).length=32) (j:oF tB F e x1.data) (k:oF Loc.t F f x1.oN) (s:(x1.id).length=32) (H:Nz x0 x1=some r):pa aac K 111 [.agg (Chunk.cells x0 c d),.agg (Chunk.cells x1 e f)] w fun v w'=>∃ (F':jL),v = .b r∧St [] w F F' [] w':=by
 refine ra Tryz.func111 ?_;have hS:=St.start hA;refine qs ?_;refine bx (pb x0.id++([.b x0.pX,c,d]:List jD)) ?_;intro u D z;refine bx (pb x1.id++([.b x1.pX,e,f]:List jD)) ?_;intro x I a;obtain ⟨A,n,B,p,H⟩:=oU H;refine ax ?_;refine bl a 1 (pb x0.id) [.b x0.pX,c,d] ?_;refine au ?_;refine bl a 0 (pb x1.id) [.b x1.pX,e,f] ?_;refine qr (oO rfl rfl (IT Ty.Jc rfl rfl (Jb q s))) ?_;refine aw ?_;refine uC (v:=.b (x0.pX == x1.pX)) rfl rfl rfl rfl (fun ⟨m,_⟩=>?_) ?_
 ·rw [m];exact (qr (oO rfl rfl (VI Tryz.underlying4)) ·)
 refine aw ?_;refine gw a n (fun y=>V6 a.oR h j y) ?_;intro G g;refine pQ.now ?_;refine aw ?_;refine gw g p (fun y=>QT g.oR i k y) ?_;intro J l;refine pQ.now ?_;refine aw ?_;exact rz H l
def Cf.k1:Option Bool :=
  some true
def Cf.l2 (x0:List Chunk) (x1:List Chunk) (c:Int→Option Bool):Int→Option Bool
  | a =>
    if decide (a < (x0.length:Int)) then
      bd (ix x0 a) fun x7 =>
      bd (ix x1 a) fun x9 =>
      bd (Nz x7 x9) fun b =>
      if (!b) then
        some false
      else
        c (wr (a+1))
    else
      Cf.k1
def Cf (x0:List Chunk) (x1:List Chunk):Option Bool :=
  if decide ((x0.length:Int)≠(x1.length:Int)) then
    some false
  else
    loop (Cf.l2 x0 x1) 0
theorem ab6 {x0:List Chunk} {x1:List Chunk} {r:Bool} {c:jD} {d:jD} (hA:Gd F w) (g:oF Chunk.t F c x0) (h:oF Chunk.t F d x1) (H:Cf x0 x1=some r):pa aac K 53 [c,d] w fun v w'=>∃ (F':jL),v = .b r∧St [] w F F' [] w':=by
 refine ra Tryz.func53 ?_;have hS:=St.start hA;refine ay ?_;refine qy H (fun k H=>?_) (fun k H=>?_)
 ·exact rz H hS
 ·refine qk ?_;refine pe (jN (Cf.k1=some r) [] hS) ?_ ?_
  ·refine ax ?_;refine lj hS (fun s:Int=>[(0,c),(1,d),(5,.i .i64 s)]) H ?_;intro P L G Y f a H;refine ay ?_;refine qy H (fun m H=>?_) (fun m H=>?_)
   ·refine ay ?_;obtain ⟨x7,A,x9,B,H⟩:=oU H;obtain ⟨O,q,H⟩:=oL H;refine rf a ?_;obtain ⟨_,⟨S,U,rfl,p,y,z⟩,I⟩:=qa 35 (g.mono f) A;obtain ⟨_,⟨Q,R,rfl,n,u,x⟩,J⟩:=qa 35 (h.mono f) B;refine au ?_;refine lq (ab5 a.oR y z p u x n q) a ?_;intro V e;refine au ?_;refine qy H (fun l H=>?_) (fun l H=>?_)
    ·exact rz H e
    ·refine ax ?_;exact nm H (jj e)
   ·refine pw _ rfl ?_;exact nj ⟨H,jj a⟩
  ·rintro E X ⟨H,D,rfl,M,j⟩;exact rz H j
def Bx.k1:Option Bool :=
  some true
def Bx.l2 (x0:List oH) (x1:List oH) (b:Int→Option Bool):Int→Option Bool
  | a =>
    if decide (a < (x0.length:Int)) then
      bd (ix x0 a) fun x7 =>
      bd (ix x1 a) fun x9 =>
      if (((decide (x7.AD≠x9.AD)||decide (x7.Af≠x9.Af))||decide (x7.state≠x9.state))||decide (x7.files≠x9.files)) then
        some false
      else
        b (wr (a+1))
    else
      Bx.k1
def Bx (x0:List oH) (x1:List oH):Option Bool :=
  if decide ((x0.length:Int)≠(x1.length:Int)) then
    some false
  else
    loop (Bx.l2 x0 x1) 0
theorem V9 {x0:List oH} {x1:List oH} {r:Bool} {a:jD} {c:jD} (hA:Gd F w) (g:oF oH.t F a x0) (h:oF oH.t F c x1) (H:Bx x0 x1=some r):pa aac K 15 [a,c] w fun v w'=>∃ (F':jL),v = .b r∧St [] w F F' [] w':=by
 refine ra Tryz.func15 ?_;have hS:=St.start hA;refine ay ?_;refine qy H (fun k H=>?_) (fun k H=>?_)
 ·exact rz H hS
 ·refine qk ?_;refine pe (jN (Bx.k1=some r) [] hS) ?_ ?_
  ·refine ax ?_;refine lj hS (fun s:Int=>[(0,a),(1,c),(5,.i .i64 s)]) H ?_;intro L I u S f e H;refine ay ?_;refine qy H (fun m H=>?_) (fun m H=>?_)
   ·refine ay ?_;obtain ⟨x7,n,x9,p,H⟩:=oU H;refine rf e ?_;obtain ⟨_,rfl,D⟩:=qa 4 (g.mono f) n;obtain ⟨_,rfl,G⟩:=qa 4 (h.mono f) p;refine au ?_;refine aM ?_;intro x M z;refine aM ?_;intro y O A;refine sB 1 ([.i .i64 x7.AD,.i .i64 x7.Af,.i .i64 x7.state,.i .i64 x7.files]) ?_;intro P B;refine sB 0 ([.i .i64 x9.AD,.i .i64 x9.Af,.i .i64 x9.state,.i .i64 x9.files]) ?_;intro Q d;refine az ?_;refine qy H (fun l H=>?_) (fun l H=>?_)
    ·exact rz H d
    ·refine ax ?_;exact nm H (jj (pk [] d))
   ·refine pw _ rfl ?_;exact nj ⟨H,jj e⟩
  ·rintro E R ⟨H,q,rfl,J,j⟩;exact rz H j
def Cg.k1:Option Bool :=
  some true
def Cg.l2 (x0:List (List UInt8)) (x1:List (List UInt8)) (b:Int→Option Bool):Int→Option Bool
  | a =>
    if decide (a < (x0.length:Int)) then
      bd (ix x0 a) fun x7 =>
      bd (ix x1 a) fun x9 =>
      if (!decide (x7=x9)) then
        some false
      else
        b (wr (a+1))
    else
      Cg.k1
def Cg (x0:List (List UInt8)) (x1:List (List UInt8)):Option Bool :=
  if decide ((x0.length:Int)≠(x1.length:Int)) then
    some false
  else
    loop (Cg.l2 x0 x1) 0
theorem ab7 {x0:List (List UInt8)} {x1:List (List UInt8)} {r:Bool} {c:jD} {d:jD} (hA:Gd F w) (f:oF rX F c x0) (g:oF rX F d x1) (H:Cg x0 x1=some r):pa aac K 154 [c,d] w fun v w'=>∃ (F':jL),v = .b r∧St [] w F F' [] w':=by
 refine ra Tryz.func154 ?_;have hS:=St.start hA;refine ay ?_;refine qy H (fun j H=>?_) (fun j H=>?_)
 ·exact rz H hS
 ·refine qk ?_;refine pe (jN (Cg.k1=some r) [] hS) ?_ ?_
  ·refine ax ?_;refine lj hS (fun s:Int=>[(0,c),(1,d),(5,.i .i64 s)]) H ?_;intro D A x I e a H;refine ay ?_;refine qy H (fun l H=>?_) (fun l H=>?_)
   ·refine ay ?_;obtain ⟨x7,p,x9,q,H⟩:=oU H;refine rn ?_;obtain ⟨_,⟨rfl,n⟩,y⟩:=qa 32 (f.mono e) p;obtain ⟨_,⟨rfl,m⟩,z⟩:=qa 32 (g.mono e) q;refine au ?_;refine qr (oO rfl rfl (QC Ty.Jc rfl rfl (Jb n m))) ?_;refine qn ?_;refine qy H (fun k H=>?_) (fun k H=>?_)
    ·exact rz H a
    ·refine ax ?_;exact nm H (jj a)
   ·refine pw _ rfl ?_;exact nj ⟨H,jj a⟩
  ·rintro E G ⟨H,u,rfl,B,h⟩;exact rz H h
def Ch.k1:Option Bool :=
  some true
def Ch.l2 (x0:oP) (x1:oP) (e:Int→Option Bool):Int→Option Bool
  | c =>
    if decide (c < (x0.parts.length:Int)) then
      bd (ix x0.parts c) fun a =>
      bd (ix x1.parts c) fun b =>
      bd (only (!((!(a.path == b.path))||decide (a.size≠b.size))) (Cg a.ids b.ids) false) fun d =>
      if (((!(a.path == b.path))||decide (a.size≠b.size))||(!d)) then
        some false
      else
        e (wr (c+1))
    else
      Ch.k1
def Ch (x0:oP) (x1:oP):Option Bool :=
  if ((!(x0.name == x1.name))||decide ((x0.parts.length:Int)≠(x1.parts.length:Int))) then
    some false
  else
    loop (Ch.l2 x0 x1) 0
theorem ab8 {x0:oP} {x1:oP} {r:Bool} {j:jD} {l:jD} (hA:Gd F w) (I:oF Part.t F j x0.parts) (J:oF Part.t F l x1.parts) (H:Ch x0 x1=some r):pa aac K 112 [.agg (oP.cells x0 j),.agg (oP.cells x1 l)] w fun v w'=>∃ (F':jL),v = .b r∧St [] w F F' [] w':=by
 refine ra Tryz.func112 ?_;have hS:=St.start hA;refine qs ?_;refine bx ([.s x0.name,j]) ?_;intro D w1 Z;refine bx ([.s x1.name,l]) ?_;intro G w2 g;refine aZ ?_;refine qy H (fun M H=>?_) (fun M H=>?_)
 ·exact rz H g
 ·refine qk ?_;refine pe (jO (Ch.k1=some r) [] g []) ?_ ?_
  ·refine ax ?_;refine lj g (fun s:Int=>[(2,pl D 0),(3,pl G 0),(5,.i .i64 s)]) H ?_;intro ak ah V a4 z d H;refine ay ?_;refine qy H (fun O H=>?_) (fun O H=>?_)
   ·refine ay ?_;obtain ⟨e,R,f,S,H⟩:=oU H;have a:=d.tK 0 rfl;refine rh 0 a d ?_;obtain ⟨_,⟨A,rfl,u⟩,ad⟩:=qa 3 (I.mono z) R;refine au ?_;refine hl 0 a d ?_;obtain ⟨_,⟨B,rfl,x⟩,ae⟩:=qa 3 (J.mono z) S;refine au ?_;refine qx (vF (cs:=[.s [],.i .i64 0,.sl none 0 (.k 0)]) Ty.T1 rfl d) ?_;rintro _ a6 ⟨X,rfl,m⟩;refine qh 1 a m ?_;refine qx (vF (cs:=[.s [],.i .i64 0,.sl none 0 (.k 0)]) Ty.T1 rfl m) ?_;rintro _ a7 ⟨Y,rfl,n⟩;refine qh 2 a n ?_;refine qu (CY (c:=[.s e.path,.i .i64 e.size,A]) 1 ([.s e.path,.i .i64 e.size,A]) rfl rfl n rfl rfl Ty.JX (by simp only [tZ,uR,rC,u.ln.one];rfl) rfl rfl) ?_;rintro _ a8 p;refine qh 2 a p ?_;refine qu (CY (c:=[.s f.path,.i .i64 f.size,B]) 0 ([.s f.path,.i .i64 f.size,B]) rfl rfl p rfl rfl Ty.JX (by simp only [tZ,uR,rC,x.ln.one];rfl) rfl rfl) ?_;rintro _ a9 h;refine qh 2 a h ?_;obtain ⟨aj,Q,H⟩:=oL H;refine az ?_;refine gw h Q (fun y=>ab7 h.oR u x y) ?_;intro aC q;refine pQ.now ?_;refine aw ?_;refine qy H (fun P H=>?_) (fun P H=>?_)
    ·exact rz H q
    ·refine ax ?_;exact nm H (jj (pk [2,3] q))
   ·refine pw _ rfl ?_;exact nj ⟨H,jj (pk [] d)⟩
  ·rintro E ar ⟨H,U,rfl,ai,L⟩;exact rz H L
def NB (x0:lU) (x1:lU):Option Bool :=
  bd (only (decide (x0.seq=x1.seq)) (Ch x0.oJ x1.oJ) false) fun a =>
  bd (only (decide (x0.seq=x1.seq)&&a) (AW x0.oN x1.oN) false) fun b =>
  some ((decide (x0.seq=x1.seq)&&a)&&b)
theorem aca {x0:lU} {x1:lU} {r:Bool} {a:jD} {e:jD} {c:jD} {f:jD} (hA:Gd F w) (j:oF Part.t F a x0.oJ.parts) (k:oF Loc.t F e x0.oN) (l:oF Part.t F c x1.oJ.parts) (m:oF Loc.t F f x1.oN) (H:NB x0 x1=some r):pa aac K 54 [.agg (lU.cells x0 a e),.agg (lU.cells x1 c f)] w fun v w'=>∃ (F':jL),v = .b r∧St [] w F F' [] w':=by
 refine ra Tryz.func54 ?_;have hS:=St.start hA;refine qs ?_;refine bx ([.i .i64 x0.seq,.s x0.oJ.name,a,e]) ?_;intro B L G;refine bx ([.i .i64 x1.seq,.s x1.oJ.name,c,f]) ?_;intro D O d;obtain ⟨I,z,J,A,H⟩:=oU H;refine az ?_;refine uC (v:=.agg (oP.cells x0.oJ a)) rfl rfl rfl rfl (fun ⟨p,_⟩=>?_) ?_
 ·rw [p];exact (qr (yy 1 (oP.cells x0.oJ a) Ty.zA Ty.zj (wU _) rfl d rfl (fun q u h=>xd (post:=[e]) rfl h)) ·)
 refine aw ?_;refine uC (v:=.agg (oP.cells x1.oJ c)) rfl rfl rfl rfl (fun ⟨x,_⟩=>?_) ?_
 ·rw [x];exact (qr (yy 0 (oP.cells x1.oJ c) Ty.zA Ty.zj (wU _) rfl d rfl (fun q u h=>xd (post:=[f]) rfl h)) ·)
 refine gw d z (fun y=>ab8 d.oR j l y) ?_;intro M g;refine pQ.now ?_;refine aw ?_;refine gw g A (fun y=>QT g.oR k m y) ?_;intro P n;refine pQ.now ?_;refine aw ?_;exact rz H n
def we.k2:Option Bool :=
  some true
def we.l3 (x0:mZ) (x1:mZ) (e:Int→Option Bool):Int→Option Bool
  | c =>
    if decide (c < (x0.oD.length:Int)) then
      bd (ix x0.oD c) fun a =>
      bd (ix x1.oD c) fun b =>
      bd (only (!(decide (a.seq≠b.seq)||decide (a.of≠b.of))) (AW a.oN b.oN) false) fun d =>
      if ((decide (a.seq≠b.seq)||decide (a.of≠b.of))||(!d)) then
        some false
      else
        e (wr (c+1))
    else
      we.k2
def we.k1 (x0:mZ) (x1:mZ):Option Bool :=
  loop (we.l3 x0 x1) 0
def we.l4 (x0:mZ) (x1:mZ) (c:Int→Option Bool):Int→Option Bool
  | a =>
    if decide (a < (x0.oB.length:Int)) then
      bd (ix x0.oB a) fun d =>
      bd (ix x1.oB a) fun e =>
      bd (NB d e) fun b =>
      if (!b) then
        some false
      else
        c (wr (a+1))
    else
      we.k1 x0 x1
def we (x0:mZ) (x1:mZ):Option Bool :=
  bd (only (!(decide ((x0.oB.length:Int)≠(x1.oB.length:Int))||decide ((x0.oD.length:Int)≠(x1.oD.length:Int)))) (Cf x0.chunks x1.chunks) false) fun a =>
  bd (only (!((decide ((x0.oB.length:Int)≠(x1.oB.length:Int))||decide ((x0.oD.length:Int)≠(x1.oD.length:Int)))||(!a))) (Bx x0.oK x1.oK) false) fun b =>
  if (((decide ((x0.oB.length:Int)≠(x1.oB.length:Int))||decide ((x0.oD.length:Int)≠(x1.oD.length:Int)))||(!a))||(!b)) then
    some false
  else
    loop (we.l4 x0 x1) 0
set_option maxHeartbeats 2000000 in
theorem I0 {x0:mZ} {x1:mZ} {r:Bool} {n:jD} {p:jD} {q:jD} {u:jD} {x:jD} {z:jD} {A:jD} {B:jD} (hA:Gd F w) (Z:oF lU.t F n x0.oB) (ad:oF Chunk.t F p x0.chunks) (ae:oF oC.t F q x0.oD) (ah:oF oH.t F u x0.oK) (ai:oF lU.t F x x1.oB) (aj:oF Chunk.t F z x1.chunks) (ak:oF oC.t F A x1.oD) (am:oF oH.t F B x1.oK) (H:we x0 x1=some r):pa aac K 14 [.agg (mZ.cells x0 n p q u),.agg (mZ.cells x1 x z A B)] w fun v w'=>∃ (F':jL),v = .b r∧St [] w F F' [] w':=by
 refine ra Tryz.func14 ?_;have hS:=St.start hA;refine qs ?_;refine bx ([.i .i64 x0.seq,n,p,q,u]) ?_;intro h w1 bg;refine bx ([.i .i64 x1.seq,x,z,A,B]) ?_;intro j w2 D;obtain ⟨r3,a9,r4,aC,H⟩:=oU H;refine aZ ?_;refine gw D a9 (fun y=>ab6 D.oR ad aj y) ?_;intro b3 G;refine pQ.now ?_;refine aw ?_;refine gw G aC (fun y=>V9 G.oR ah am y) ?_;intro b4 l;refine pQ.now ?_;refine aw ?_;refine qy H (fun a4 H=>?_) (fun a4 H=>?_)
 ·exact rz H l
 ·refine qk ?_;refine pe (jN (we.k1 x0 x1=some r) [(2,pl h 0),(3,pl j 0)] l) ?_ ?_
  ·refine ax ?_;refine lj l (fun s:Int=>[(2,pl h 0),(3,pl j 0),(5,.i .i64 s)]) H ?_;intro bu bn bc bD V e H;refine ay ?_;refine qy H (fun a7 H=>?_) (fun a7 H=>?_)
   ·refine ay ?_;obtain ⟨bF,aV,bG,aX,H⟩:=oU H;obtain ⟨bs,aH,H⟩:=oL H;refine rf e ?_;obtain ⟨_,⟨bv,bw,rfl,aJ,aK⟩,bj⟩:=qa 4 (Z.mono V) aV;obtain ⟨_,⟨bz,b0,rfl,aO,aR⟩,bk⟩:=qa 4 (ai.mono V) aX;refine au ?_;refine lq (aca e.oR aJ aK aO aR aH) e ?_;intro bE P;refine au ?_;refine qy H (fun a8 H=>?_) (fun a8 H=>?_)
    ·exact rz H P
    ·refine ax ?_;exact nm H (jj P)
   ·refine pw _ rfl ?_;exact nj ⟨H,jj e⟩
  ·rintro E b5 ⟨H,aY,rfl,S,I⟩;refine pe (jO (we.k2=some r) [] I []) ?_ ?_
   ·refine ax ?_;refine lj I (fun s:Int=>[(2,pl h 0),(3,pl j 0),(6,.i .i64 s)]) H ?_;intro bt bm bb b7 U d H;refine ay ?_;refine qy H (fun a5 H=>?_) (fun a5 H=>?_)
    ·refine ay ?_;obtain ⟨f,aT,g,aU,H⟩:=oU H;have a:=d.tK 0 rfl;refine rh 0 a d ?_;obtain ⟨_,⟨X,rfl,Q⟩,bh⟩:=qa 3 (ae.mono (S.trans U)) aT;refine au ?_;refine hl 0 a d ?_;obtain ⟨_,⟨Y,rfl,R⟩,bi⟩:=qa 3 (ak.mono (S.trans U)) aU;refine au ?_;refine qx (vF (cs:=[.i .i64 0,.i .i64 0,.sl none 0 (.k 0)]) Ty.T3 rfl d) ?_;rintro _ b8 ⟨be,rfl,J⟩;refine qh 1 a J ?_;refine qx (vF (cs:=[.i .i64 0,.i .i64 0,.sl none 0 (.k 0)]) Ty.T3 rfl J) ?_;rintro _ b9 ⟨bf,rfl,L⟩;refine qh 2 a L ?_;refine qu (CY (c:=[.i .i64 f.seq,.i .i64 f.of,X]) 1 ([.i .i64 f.seq,.i .i64 f.of,X]) rfl rfl L rfl rfl Ty.uu (by simp only [tZ,uR,rC,Q.ln.one];rfl) rfl rfl) ?_;rintro _ bA M;refine qh 2 a M ?_;refine qu (CY (c:=[.i .i64 g.seq,.i .i64 g.of,Y]) 0 ([.i .i64 g.seq,.i .i64 g.of,Y]) rfl rfl M rfl rfl Ty.uu (by simp only [tZ,uR,rC,R.ln.one];rfl) rfl rfl) ?_;rintro _ bB m;refine qh 2 a m ?_;obtain ⟨br,aD,H⟩:=oL H;refine az ?_;refine gw m aD (fun y=>QT m.oR Q R y) ?_;intro bC O;refine pQ.now ?_;refine aw ?_;refine qy H (fun a6 H=>?_) (fun a6 H=>?_)
     ·exact rz H O
     ·refine ax ?_;exact nm H (jj (pk [2,3] O))
    ·refine pw _ rfl ?_;exact nj ⟨H,jj (pk [] d)⟩
   ·rintro E b6 ⟨H,ba,rfl,bo,ar⟩;exact rz H ar
end
end Go.Wk.Lf
end
