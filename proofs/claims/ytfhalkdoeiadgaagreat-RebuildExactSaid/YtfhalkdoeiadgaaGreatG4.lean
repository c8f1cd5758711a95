/-  -/
import Derived.Test.YtfhalkdoeiadgaaGreatG3
set_option linter.unusedVariables false
set_option linter.unusedSimpArgs false
open Bool renaming eq_false_or_eq_true→uO
open Go.Proofs.Tryz renaming prog→aac, underlying163→adG, underlying164→adx, underlying166→abb, underlying194→adD, underlying22→adB, underlying24→aam, underlying25→aaE, underlying3→abD, underlying31→aba, underlying5→acP, underlying56→adz, underlying59→aaT, underlying78→adA, underlying82→acY, underlying9→acZ
open List renaming length_replicate→AM, length_set→Ey, replicate→ph
open Nat renaming le_of_ble_eq_true→qY, zero_add→pA
open UInt32 renaming ofNat→rD
section
namespace Go.Wk.Lf
open Go.V Go.Proofs
noncomputable section
set_option maxRecDepth 100000
variable {K:Tb} {F:jL} {w:Hp}
def cmp_isNaN_int (x0:Int):Option Bool :=
  some (decide (x0≠x0))
theorem Wv {x0:Int} {r:Bool} (hA:Gd F w) (H:cmp_isNaN_int x0=some r):pa aac K 138 [.i .i64 x0] w fun v w'=>∃ (F':jL),v = .b r∧St [] w F F' [] w':=by
 refine rA Tryz.func138 ?_;have hS:=St.start hA;refine aq ?_;exact rz H hS
def EO (x0:Int) (x1:Int):Option Int :=
  bd (cmp_isNaN_int x0) fun b =>
  bd (cmp_isNaN_int x1) fun a =>
  if b then
    if a then
      some 0
    else
      some (-1)
  else
    if a then
      some 1
    else
      if decide (x0 < x1) then
        some (-1)
      else
        if decide (x1 < x0) then
          some 1
        else
          some 0
theorem I5 {x0:Int} {x1:Int} {r:Int} (hA:Gd F w) (H:EO x0 x1=some r):pa aac K 87 [.i .i64 x0,.i .i64 x1] w fun v w'=>∃ (F':jL),v = .i .i64 r∧St [] w F F' [] w':=by
 refine ra Tryz.func87 ?_;have hS:=St.start hA;obtain ⟨k,h,H⟩:=oL H;refine ax ?_;refine lp (Wv hS.oR h) hS ?_;intro m b;obtain ⟨l,j,H⟩:=oL H;refine ax ?_;refine lp (Wv b.oR j) b ?_;intro n a;refine ay ?_;refine qy H (fun c H=>?_) (fun c H=>?_)
 ·refine ay ?_;refine qy H (fun d H=>?_) (fun d H=>?_)
  ·exact rz H a
  ·refine qk ?_;exact rz H a
 ·refine ay ?_;refine qy H (fun e H=>?_) (fun e H=>?_)
  ·exact rz H a
  ·refine ay ?_;refine qy H (fun f H=>?_) (fun f H=>?_)
   ·exact rz H a
   ·refine ay ?_;refine qy H (fun g H=>?_) (fun g H=>?_)
    ·exact rz H a
    ·refine qk ?_;exact rz H a
def Da.k1:Option Int :=
  some 0
def Da.l2 (x0:List Int) (b:Int→Option Int):Int→Option Int
  | a =>
    if decide (a < (x0.length:Int)) then
      bd (ix x0 a) fun x6 =>
      if decide (x6≠0) then
        some x6
      else
        b (wr (a+1))
    else
      Da.k1
def Da (x0:List Int):Option Int :=
  loop (Da.l2 x0) 0
theorem acE {x0:List Int} {r:Int} {b:jD} (hA:Gd F w) (c:oF tI F b x0) (H:Da x0=some r):pa aac K 150 [b] w fun v w'=>∃ (F':jL),v = .i .i64 r∧St [] w F F' [] w':=by
 refine rA Tryz.func150 ?_;have hS:=St.start hA;refine aq ?_;refine aq ?_;refine pe (jN (Da.k1=some r) [(3,.i .i64 0)] hS) ?_ ?_
 ·refine ax ?_;refine lj hS (fun s:Int=>[(3,.i .i64 0),(6,b),(7,.i .i64 (x0.length:Int)),(8,.i .i64 s)]) H ?_;intro n l k q h a H;refine ay ?_;refine qy H (fun e H=>?_) (fun e H=>?_)
  ·obtain ⟨x6,g,H⟩:=oL H;obtain ⟨_,rfl,_⟩:=qa 1 (c.mono h) g;refine ay ?_;refine qy H (fun f H=>?_) (fun f H=>?_)
   ·exact rz H a
   ·refine ax ?_;exact nm H (jj a)
  ·refine pw _ rfl ?_;exact nj ⟨H,jj a⟩
 ·rintro E p ⟨H,j,rfl,m,d⟩;exact rz H d
def S5 (x0:Loc) (x1:Loc):Option Int :=
  bd (EO x0.pE x1.pE) fun a =>
  bd (EO x0.file x1.file) fun b =>
  bd (EO x0.off x1.off) fun c =>
  bd (EO x0.len x1.len) fun d =>
  bd (Da [a,b,c,d]) fun e =>
  some e
theorem ahY {x0:Loc} {x1:Loc} {r:Int} (hA:Gd F w) (H:S5 x0 x1=some r):pa aac K 97 [.agg (Loc.cells x0),.agg (Loc.cells x1)] w fun v w'=>∃ (F':jL),v = .i .i64 r∧St [] w F F' [] w':=by
 refine ra Tryz.func97 ?_;have hS:=St.start hA;refine qs ?_;refine bx ([.i .i64 x0.pE,.i .i64 x0.file,.i .i64 x0.off,.i .i64 x0.len]) ?_;intro q w1 U;refine bx ([.i .i64 x1.pE,.i .i64 x1.file,.i .i64 x1.off,.i .i64 x1.len]) ?_;intro s M c;refine ay ?_;obtain ⟨l,B,m,D,H⟩:=oU H;obtain ⟨n,I,p,J,H⟩:=oU H;obtain ⟨V,L,H⟩:=oL H;have b:=c.tK 1 rfl;have a:=c.tK 0 rfl;refine uT (G:=(F.hold M [q,s])) [0,1,2,3,5,6,7,8,10,11,12,13,15,16,17,18,4,9,14,19,20,21,22] rfl Ty.mixed (by kernel_rfl) (HB.agree (HB.cons 1 b c rfl (HB.cons 0 a c rfl HB.nil)) c.agree) ?_;refine au ?_;refine qr (wB Ty.uW rfl (b.held (HB.cons 1 b c rfl (HB.cons 0 a c rfl HB.nil)) (by simp)) rfl) ?_;refine au ?_;refine qr (wB Ty.uW rfl (a.held (HB.cons 1 b c rfl (HB.cons 0 a c rfl HB.nil)) (by simp)) rfl) ?_;refine au ?_;refine qr (wB Ty.uW rfl (b.held (HB.cons 1 b c rfl (HB.cons 0 a c rfl HB.nil)) (by simp)) rfl) ?_;refine au ?_;refine qr (wB Ty.uW rfl (a.held (HB.cons 1 b c rfl (HB.cons 0 a c rfl HB.nil)) (by simp)) rfl) ?_;refine au ?_;refine qr (wB Ty.uW rfl (b.held (HB.cons 1 b c rfl (HB.cons 0 a c rfl HB.nil)) (by simp)) rfl) ?_;refine au ?_;refine qr (wB Ty.uW rfl (a.held (HB.cons 1 b c rfl (HB.cons 0 a c rfl HB.nil)) (by simp)) rfl) ?_;refine ql (I5 c.oR B) ?_;rintro Y aj ⟨O,rfl,u⟩;have e:=c.vw u;refine pQ.tT (HB.le (HB.cons 1 b e rfl (HB.cons 0 a e rfl HB.nil)) (jL.le.refl _)) (HB.agree (HB.cons 1 b e rfl (HB.cons 0 a e rfl HB.nil)) e.agree) ?_;refine ql (I5 e.oR D) ?_;rintro Z ak ⟨P,rfl,x⟩;have f:=e.vw x;refine pQ.tT (HB.le (HB.cons 1 b f rfl (HB.cons 0 a f rfl HB.nil)) (jL.le.refl _)) (HB.agree (HB.cons 1 b f rfl (HB.cons 0 a f rfl HB.nil)) f.agree) ?_;refine ql (I5 f.oR I) ?_;rintro ad am ⟨Q,rfl,y⟩;have g:=f.vw y;refine pQ.tT (HB.le (HB.cons 1 b g rfl (HB.cons 0 a g rfl HB.nil)) (jL.le.refl _)) (HB.agree (HB.cons 1 b g rfl (HB.cons 0 a g rfl HB.nil)) g.agree) ?_;refine ql (I5 g.oR J) ?_;rintro ae ar ⟨R,rfl,z⟩;have h:=g.vw z;refine pQ.tT (HB.le (HB.cons 1 b h rfl (HB.cons 0 a h rfl HB.nil)) (jL.le.refl _)) (HB.agree (HB.cons 1 b h rfl (HB.cons 0 a h rfl HB.nil)) h.agree) ?_
 refine qx (sh (t:=tI) (vs:=[.i .i64 l,.i .i64 m,.i .i64 n,.i .i64 p]) (xs:=[l,m,n,p]) Tryz.underlying51 Ty.Y7 rfl ⟨rfl,⟨rfl,⟨rfl,⟨rfl,trivial⟩⟩⟩⟩ rfl rfl h) ?_;rintro X w7 d;refine pQ.tT (HB.le (HB.cons 2 b d rfl (HB.cons 1 a d rfl HB.nil)) (jL.le.refl _)) (HB.agree (HB.cons 2 b d rfl (HB.cons 1 a d rfl HB.nil)) d.agree) ?_;refine ql (acE (Gd.now d.wf) (d.uK (k:=0) rfl) L) ?_;rintro ah a4 ⟨S,rfl,A⟩;have j:=d.vw A;refine pQ.tT (HB.le (HB.cons 2 b j rfl (HB.cons 1 a j rfl HB.nil)) (jL.le.refl _)) (HB.agree (HB.cons 2 b j rfl (HB.cons 1 a j rfl HB.nil)) j.agree) ?_;exact rz H j
def QN (x0:List UInt8) (x1:List UInt8):Option Int :=
  some (uE x0 x1)
theorem VY [Kn (ye aac) K]  {x0:List UInt8} {x1:List UInt8} {r:Int} {a:jD} {b:jD} (hA:Gd F w) (c:oF tB F a x0) (d:oF tB F b x1) (H:QN x0 x1=some r):pa aac K 158 [a,b] w fun v w'=>∃ (F':jL),v = .i .i64 r∧St [] w F F' [] w':=by
 refine ra Tryz.func158 ?_;have hS:=St.start hA;refine ax ?_;refine lm (acJ Tryz.func181 rfl rfl (by kernel_rfl) (by kernel_rfl) (c.mono hS.agree) (d.mono hS.agree)) ?_;rintro _ _ ⟨rfl,rfl⟩;exact rz H hS
def Yq (x0:List UInt8) (x1:List UInt8):Option Int :=
  bd (QN x0 x1) fun a =>
  some a
theorem ag8 [Kn (ye aac) K]  {x0:List UInt8} {x1:List UInt8} {r:Int} (hA:Gd F w) (b:x0.length=32) (c:x1.length=32) (H:Yq x0 x1=some r):pa aac K 169 [.agg (pb x0),.agg (pb x1)] w fun v w'=>∃ (F':jL),v = .i .i64 r∧St [] w F F' [] w':=by
 refine ra Tryz.func169 ?_;have hS:=St.start hA;refine qs ?_;refine bx (pb x0) ?_;intro s I y;refine bx (pb x1) ?_;intro x J d;refine ay ?_;obtain ⟨n,z,g,e⟩:=d.F5 1 [0] rfl (by decide) (by decide);obtain ⟨p,A,j,a⟩:=e.F5 0 [] rfl (by decide) (by decide);obtain ⟨G,k,H⟩:=oL H;refine rf a ?_;refine Ng rfl rfl rfl rfl acY Ty.vA rfl (g.at (fun q u h=>by simpa using h)) b ?_;intro B l;refine Ng rfl rfl rfl rfl acY Ty.vA rfl (j.at (fun q u h=>by simpa using h)) c ?_;intro D m;refine lq (VY a.oR (mo l) m k) a ?_;intro L f;exact rz H f
def Ck.k1:Option Bool :=
  some false
def Ck.l2 (x1:List Found) (b:Int→Option Bool):Int→Option Bool
  | a =>
    if decide (a < (x1.length:Int)) then
      bd (ix x1 a) fun c =>
      if decide (3000 < (c.oG.data.length:Int)) then
        some true
      else
        b (wr (a+1))
    else
      Ck.k1
def Ck (x0:List oH) (x1:List Found):Option Bool :=
  if (decide (20 < (x0.length:Int))||decide (150 < (x1.length:Int))) then
    some true
  else
    loop (Ck.l2 x1) 0
theorem acg {x0:List oH} {x1:List Found} {r:Bool} {d:jD} {c:jD} (hA:Gd F w) (p:oF oH.t F d x0) (e:oF Found.t F c x1) (H:Ck x0 x1=some r):pa aac K 9 [d,c] w fun v w'=>∃ (F':jL),v = .b r∧St [] w F F' [] w':=by
 refine ra Tryz.func9 ?_;have hS:=St.start hA;refine aZ ?_;refine qy H (fun h H=>?_) (fun h H=>?_)
 ·exact rz H hS
 ·refine qk ?_;refine pe (jN (Ck.k1=some r) [] hS) ?_ ?_
  ·refine ax ?_;refine lj hS (fun s:Int=>[(1,c),(5,.i .i64 s)]) H ?_;intro y u n B l a H;refine ay ?_;refine qy H (fun j H=>?_) (fun j H=>?_)
   ·obtain ⟨D,k,H⟩:=oL H;obtain ⟨_,⟨z,rfl,q⟩,_⟩:=qa 7 (e.mono l) k;refine ay ?_;refine qy H (fun g H=>?_) (fun g H=>?_)
    ·exact rz H a
    ·refine ax ?_;exact nm H (jj a)
   ·refine pw _ rfl ?_;exact nj ⟨H,jj a⟩
  ·rintro E A ⟨H,m,rfl,x,f⟩;exact rz H f
def Cj.k1:Option Bool :=
  some false
def Cj.l2 (x0:oP) (c:Int→Option Bool):Int→Option Bool
  | a =>
    if decide (a < (x0.parts.length:Int)) then
      bd (ix x0.parts a) fun b =>
      bd (only (!decide (100 < (b.path.length:Int))) (ix x0.parts a) (Part.mk [] 0 [])) fun d =>
      if (decide (100 < (b.path.length:Int))||decide (40 < (d.ids.length:Int))) then
        some true
      else
        c (wr (a+1))
    else
      Cj.k1
def Cj (x0:oP):Option Bool :=
  if (decide (100 < (x0.name.length:Int))||decide (10 < (x0.parts.length:Int))) then
    some true
  else
    loop (Cj.l2 x0) 0
theorem Wa {x0:oP} {r:Bool} {g:jD} (hA:Gd F w) (l:oF Part.t F g x0.parts) (H:Cj x0=some r):pa aac K 39 [.agg (oP.cells x0 g)] w fun v w'=>∃ (F':jL),v = .b r∧St [] w F F' [] w':=by
 refine rA Tryz.func39 ?_;have hS:=St.start hA;refine qs ?_;refine bx ([.s x0.name,g]) ?_;intro k w1 m;refine aZ ?_;refine qy H (fun I H=>?_) (fun I H=>?_)
 ·exact rz H m
 ·refine qk ?_;refine pe (jO (Cj.k1=some r) [] m []) ?_ ?_
  ·refine ax ?_;refine lj m (fun s:Int=>[(1,pl k 0),(3,.i .i64 s)]) H ?_;intro a4 Z j w8 n a H;refine ay ?_;refine qy H (fun D H=>?_) (fun D H=>?_)
   ·refine qk ?_;refine qU ?_;refine xP ?_;refine qU ?_;obtain ⟨A,y,ae,U,H⟩:=oU H;refine yd (fun E wq=>E=[(1,pl k 0),(3,.i .i64 Z),(38,.b (decide (100 < (A.path.length:Int))||decide (40 < (ae.ids.length:Int))))] ∧ ∃ h:jL,j.le h∧St [] w F h [.box k [.s x0.name,g]] wq) ?_ ?_
    ·
     rcases uO (decide (100 < (A.path.length:Int))) with c | c
     ·refine qd ?_;refine qf Ty.NP ?_;refine qb 0 Ty.Ny a ?_;refine qc ?_;obtain ⟨J,V⟩:=oM y;obtain ⟨ai,O,d⟩:=(l.mono n).el V;obtain ⟨ad,rfl,R⟩:=O;replace d:=qj 3 d;have q:=d.rq;refine qi adz Ty.JX q J ?_;refine qr (uU 0 Ty.Ra rfl q) ?_;refine qr (su 0 Ty.IZ rfl (d.mono a.agree) (by first | omega | rfl) rfl) ?_;refine qr (Qp acZ rfl) ?_;refine qr (oO rfl rfl Bq) ?_;refine qc ?_;refine ri 29 c ?_;refine pI ?_;refine pI ?_;refine pI ?_;refine pI ?_;refine qc ?_;refine qN ?_;exact sj _ ⟨rfl,j,(jL.le.refl _),a⟩ ⟨rfl,rfl,(sq rfl (by first | rfl | (rw [c];first | done | rfl) | simp [c])),trivial⟩
     ·refine qd ?_;refine qf Ty.NP ?_;refine qb 0 Ty.Ny a ?_;refine qc ?_;obtain ⟨L,X⟩:=oM y;obtain ⟨aj,P,e⟩:=(l.mono n).el X;obtain ⟨ad,rfl,R⟩:=P;replace e:=qj 3 e;have u:=e.rq;refine qi adz Ty.JX u L ?_;refine qr (uU 0 Ty.Ra rfl u) ?_;refine qr (su 0 Ty.IZ rfl (e.mono a.agree) (by first | omega | rfl) rfl) ?_;refine qr (Qp acZ rfl) ?_;refine qr (oO rfl rfl Bq) ?_;refine qc ?_;refine ri 29 c ?_;refine qf Ty.NP ?_;refine qb 0 Ty.Ny a ?_;refine qc ?_;have z:=U;rw [qA (by first | rfl | (rw [c];first | done | rfl) | simp [c])] at z;obtain ⟨M,Y⟩:=oM z;obtain ⟨ak,Q,f⟩:=(l.mono n).el Y;obtain ⟨a5,rfl,S⟩:=Q;replace f:=qj 3 f;have x:=f.rq;refine qi adz Ty.JX x M ?_;refine qr (uU 2 Ty.WM rfl x) ?_;refine qr (su 2 Ty.QR rfl (f.mono a.agree) (by first | omega | rfl) rfl) ?_;refine qr (qD Tryz.underlying109 rfl S.ln) ?_;refine qr (oO rfl rfl Bq) ?_;refine qc ?_;refine qN ?_;exact sj _ ⟨rfl,j,(jL.le.refl _),a⟩ ⟨rfl,rfl,(sq rfl (by first | rfl | (rw [c];first | done | rfl) | simp [c])),trivial⟩
    rintro E a7 ⟨rfl,h,am,p⟩;refine tR ?_;refine qy H (fun G H=>?_) (fun G H=>?_)
    ·exact rz H p
    ·refine ax ?_;exact nm H (jj p)
   ·refine pw _ rfl ?_;exact nj ⟨H,jj (pk [] a)⟩
  ·rintro E w7 ⟨H,F7,rfl,ar,B⟩;exact rz H B
def uX.k3:Option Bool :=
  some false
def uX.l4 (x0:mZ) (b:Int→Option Bool):Int→Option Bool
  | a =>
    if decide (a < (x0.oD.length:Int)) then
      bd (ix x0.oD a) fun c =>
      if decide (220 < (c.oN.length:Int)) then
        some true
      else
        b (wr (a+1))
    else
      uX.k3
def uX.k2 (x0:mZ):Option Bool :=
  loop (uX.l4 x0) 0
def uX.l5 (x0:mZ) (c:Int→Option Bool):Int→Option Bool
  | a =>
    if decide (a < (x0.chunks.length:Int)) then
      bd (ix x0.chunks a) fun b =>
      bd (only (!decide (300 < (b.data.length:Int))) (ix x0.chunks a) (Chunk.mk (ph 32 (0:UInt8)) false [] [])) fun d =>
      if (decide (300 < (b.data.length:Int))||decide (220 < (d.oN.length:Int))) then
        some true
      else
        c (wr (a+1))
    else
      uX.k2 x0
def uX.k1 (x0:mZ):Option Bool :=
  loop (uX.l5 x0) 0
def uX.l6 (x0:mZ) (c:Int→Option Bool):Int→Option Bool
  | a =>
    if decide (a < (x0.oB.length:Int)) then
      bd (ix x0.oB a) fun d =>
      bd (Cj d.oJ) fun b =>
      bd (only (!b) (ix x0.oB a) (lU.mk 0 (oP.mk [] []) [])) fun e =>
      if (b||decide (220 < (e.oN.length:Int))) then
        some true
      else
        c (wr (a+1))
    else
      uX.k1 x0
def uX (x0:mZ):Option Bool :=
  if (((decide (12 < (x0.oB.length:Int))||decide (220 < (x0.chunks.length:Int)))||decide (220 < (x0.oD.length:Int)))||decide (20 < (x0.oK.length:Int))) then
    some true
  else
    loop (uX.l6 x0) 0
set_option maxHeartbeats 2000000 in
theorem acf {x0:mZ} {r:Bool} {g:jD} {h:jD} {j:jD} {k:jD} (hA:Gd F w) (D:oF lU.t F g x0.oB) (G:oF Chunk.t F h x0.chunks) (a8:oF oC.t F j x0.oD) (bJ:oF oH.t F k x0.oK) (H:uX x0=some r):pa aac K 10 [.agg (mZ.cells x0 g h j k)] w fun v w'=>∃ (F':jL),v = .b r∧St [] w F F' [] w':=by
 refine rA Tryz.func10 ?_;have hS:=St.start hA;refine qs ?_;refine bx ([.i .i64 x0.seq,g,h,j,k]) ?_;intro a w1 I;refine aZ ?_;refine qy H (fun aD H=>?_) (fun aD H=>?_)
 ·exact rz H I
 ·refine qk ?_;refine pe (jN (uX.k1 x0=some r) [(1,pl a 0)] I) ?_ ?_
  ·refine ax ?_;refine lj I (fun s:Int=>[(1,pl a 0),(3,.i .i64 s)]) H ?_;intro bV b1 A ci Q d H;refine ay ?_;refine qy H (fun aR H=>?_) (fun aR H=>?_)
   ·refine qk ?_;refine qU ?_;refine xP ?_;refine qU ?_;obtain ⟨a7,am,a5,aj,H⟩:=oU H;obtain ⟨b8,br,H⟩:=oL H;refine yd (fun E wq=>E=[(1,pl a 0),(3,.i .i64 b1),(51,.b (a5||decide (220 < (b8.oN.length:Int))))] ∧ ∃ B:jL,A.le B∧St [] w F B [.box a [.i .i64 x0.seq,g,h,j,k]] wq) ?_ ?_
    ·
     rcases uO a5 with f | f
     ·refine qd ?_;refine qf Ty.DV ?_;refine qb 0 Ty.Bt d ?_;refine qc ?_;obtain ⟨ba,bv⟩:=oM am;obtain ⟨bG,bh,p⟩:=(D.mono Q).el bv;obtain ⟨R,b6,rfl,O,bn⟩:=bh;replace p:=qj 4 p;have ae:=p.rq;refine qi aam Ty.sJ ae ba ?_;refine qr (uU 1 Ty.KY rfl ae) ?_;refine qr (tD 1 (oP.cells a7.oJ R) Ty.zA Ty.zj rfl (p.mono d.agree) (by first | omega | rfl) rfl (qY rfl)) ?_;refine lp (Wa d.oR O aj) d ?_;intro ck aC;refine qc ?_;refine ri 42 f ?_;refine pI ?_;refine pI ?_;refine pI ?_;refine pI ?_;refine qc ?_;refine qN ?_;exact sj _ ⟨rfl,A,(jL.le.refl _),aC⟩ ⟨rfl,rfl,(sq rfl (by first | rfl | (rw [f];first | done | rfl) | simp [f])),trivial⟩
     ·refine qd ?_;refine qf Ty.DV ?_;refine qb 0 Ty.Bt d ?_;refine qc ?_;obtain ⟨bb,bw⟩:=oM am;obtain ⟨bH,bi,q⟩:=(D.mono Q).el bw;obtain ⟨R,b6,rfl,O,bn⟩:=bi;replace q:=qj 4 q;have ah:=q.rq;refine qi aam Ty.sJ ah bb ?_;refine qr (uU 1 Ty.KY rfl ah) ?_;refine qr (tD 1 (oP.cells a7.oJ R) Ty.zA Ty.zj rfl (q.mono d.agree) (by first | omega | rfl) rfl (qY rfl)) ?_;refine lp (Wa d.oR O aj) d ?_;intro cl L;refine qc ?_;refine ri 42 f ?_;refine qf Ty.DV ?_;refine qb 0 Ty.Bt L ?_;refine qc ?_;have a4:=br;rw [qA (by first | rfl | (rw [f];first | done | rfl) | simp [f])] at a4;obtain ⟨bc,bz⟩:=oM a4;obtain ⟨bI,bj,u⟩:=(D.mono Q).el bz;obtain ⟨bZ,ca,rfl,bO,bo⟩:=bj;replace u:=qj 4 u;have ai:=u.rq;refine qi aam Ty.sJ ai bc ?_;refine qr (uU 3 Ty.Rf rfl ai) ?_;refine qr (su 3 Ty.wX rfl (u.mono L.agree) (by first | omega | rfl) rfl) ?_;refine qr (qD aaT rfl bo.ln) ?_;refine qr (oO rfl rfl Bq) ?_;refine qc ?_;refine qN ?_;exact sj _ ⟨rfl,A,(jL.le.refl _),L⟩ ⟨rfl,rfl,(sq rfl (by first | rfl | (rw [f];first | done | rfl) | simp [f])),trivial⟩
    rintro E cj ⟨rfl,B,bS,X⟩;refine tR ?_;refine qy H (fun aT H=>?_) (fun aT H=>?_)
    ·exact rz H X
    ·refine ax ?_;exact nm H (jj X)
   ·refine pw _ rfl ?_;exact nj ⟨H,jj d⟩
  ·rintro E cc ⟨H,b9,rfl,x,S⟩;refine pe (jN (uX.k2 x0=some r) [(1,pl a 0)] S) ?_ ?_
   ·refine ax ?_;refine lj S (fun s:Int=>[(1,pl a 0),(4,.i .i64 s)]) H ?_;intro bU b0 y cg P c H;refine ay ?_;refine qy H (fun aK H=>?_) (fun aK H=>?_)
    ·refine qk ?_;refine qU ?_;refine xP ?_;refine qU ?_;obtain ⟨a6,ak,b7,bq,H⟩:=oU H;refine yd (fun E wq=>E=[(1,pl a 0),(4,.i .i64 b0),(76,.b (decide (300 < (a6.data.length:Int))||decide (220 < (b7.oN.length:Int))))] ∧ ∃ z:jL,y.le z∧St [] w F z [.box a [.i .i64 x0.seq,g,h,j,k]] wq) ?_ ?_
     ·
      rcases uO (decide (300 < (a6.data.length:Int))) with e | e
      ·refine qd ?_;refine qf Ty.DW ?_;refine qb 0 Ty.AV c ?_;refine qc ?_;obtain ⟨aV,bs⟩:=oM ak;obtain ⟨bD,be,l⟩:=(G.mono (x.trans P)).el bs;obtain ⟨b4,b5,rfl,aU,M,bk⟩:=be;replace l:=qj 35 l;have Y:=l.rq;refine qi aaE Ty.tg Y aV ?_;refine qr (uU 33 Ty.NQ rfl Y) ?_;refine qr (su 33 Ty.IY rfl (l.mono c.agree) (by first | omega | rfl) rfl) ?_;refine qr (qD aba rfl M.ln) ?_;refine qr (oO rfl rfl Bq) ?_;refine qc ?_;refine ri 67 e ?_;refine pI ?_;refine pI ?_;refine pI ?_;refine pI ?_;refine qc ?_;refine qN ?_;exact sj _ ⟨rfl,y,(jL.le.refl _),c⟩ ⟨rfl,rfl,(sq rfl (by first | rfl | (rw [e];first | done | rfl) | simp [e])),trivial⟩
      ·refine qd ?_;refine qf Ty.DW ?_;refine qb 0 Ty.AV c ?_;refine qc ?_;obtain ⟨aX,bt⟩:=oM ak;obtain ⟨bE,bf,m⟩:=(G.mono (x.trans P)).el bt;obtain ⟨b4,b5,rfl,aU,M,bk⟩:=bf;replace m:=qj 35 m;have Z:=m.rq;refine qi aaE Ty.tg Z aX ?_;refine qr (uU 33 Ty.NQ rfl Z) ?_;refine qr (su 33 Ty.IY rfl (m.mono c.agree) (by first | omega | rfl) rfl) ?_;refine qr (qD aba rfl M.ln) ?_;refine qr (oO rfl rfl Bq) ?_;refine qc ?_;refine ri 67 e ?_;refine qf Ty.DW ?_;refine qb 0 Ty.AV c ?_;refine qc ?_;have ar:=bq;rw [qA (by first | rfl | (rw [e];first | done | rfl) | simp [e])] at ar;obtain ⟨aY,bu⟩:=oM ar;obtain ⟨bF,bg,n⟩:=(G.mono (x.trans P)).el bu;obtain ⟨bX,bY,rfl,bK,bN,bm⟩:=bg;replace n:=qj 35 n;have ad:=n.rq;refine qi aaE Ty.tg ad aY ?_;refine qr (uU 34 Ty.KZ rfl ad) ?_;refine qr (su 34 Ty.wX rfl (n.mono c.agree) (by first | omega | rfl) rfl) ?_;refine qr (qD aaT rfl bm.ln) ?_;refine qr (oO rfl rfl Bq) ?_;refine qc ?_;refine qN ?_;exact sj _ ⟨rfl,y,(jL.le.refl _),c⟩ ⟨rfl,rfl,(sq rfl (by first | rfl | (rw [e];first | done | rfl) | simp [e])),trivial⟩
     rintro E ch ⟨rfl,z,bR,V⟩;refine tR ?_;refine qy H (fun aO H=>?_) (fun aO H=>?_)
     ·exact rz H V
     ·refine ax ?_;exact nm H (jj V)
    ·refine pw _ rfl ?_;exact nj ⟨H,jj c⟩
   ·rintro E cd ⟨H,bA,rfl,b2,U⟩;refine pe (jO (uX.k3=some r) [] U []) ?_ ?_
    ·refine ax ?_;refine lj U (fun s:Int=>[(1,pl a 0),(5,.i .i64 s)]) H ?_;intro bT bP bC cf b3 J H;refine ay ?_;refine qy H (fun aH H=>?_) (fun aH H=>?_)
     ·obtain ⟨cm,bp,H⟩:=oL H;obtain ⟨_,⟨bW,rfl,bM⟩,_⟩:=qa 3 (a8.mono ((x.trans b2).trans b3)) bp;refine ay ?_;refine qy H (fun aJ H=>?_) (fun aJ H=>?_)
      ·exact rz H J
      ·refine ax ?_;exact nm H (jj J)
     ·refine pw _ rfl ?_;exact nj ⟨H,jj (pk [] J)⟩
    ·rintro E ce ⟨H,bB,rfl,bQ,a9⟩;exact rz H a9
def KM (x0:List UInt8):Option (List UInt8) :=
  bd (app (α:=UInt8) [] x0) fun l1 =>
  some l1
theorem V8 {x0:List UInt8} {r:(List UInt8)} {c:jD} (hA:Gd F w) (d:oF tB F c x0) (H:KM x0=some r):pa aac K 11 [c] w fun v w'=>∃ (F':jL) (b:jD),v=b∧St [] w F F' [.row tB b (r)] w':=by
 refine rA Tryz.func11 ?_;have hS:=St.start hA;obtain ⟨l1,f,H⟩:=oL H;refine ax ?_;have a:=hS.sY tB;refine ap 0 a (d.src a.agree) f ?_;intro g h e;exact rx H e
def Mx (x0:List oH):Option (List oH) :=
  bd (app (α:=oH) ([]:List oH) x0) fun l6 =>
  some l6
theorem ZK {x0:List oH} {r:(List oH)} {f:jD} (hA:Gd F w) (a:oF oH.t F f x0) (H:Mx x0=some r):pa aac K 40 [f] w fun v w'=>∃ (F':jL) (e:jD),v=e∧St [] w F F' [.row oH.t e (r)] w':=by
 refine rA Tryz.func40 ?_;have hS:=St.start hA;refine ay ?_;refine FL rfl rfl rfl rfl adB rfl rfl a.ln ?_;intro k i;refine qn ?_;refine uS rfl (fun c=>?_) (fun c=>?_)
 ·have d:x0=[]:=List.eq_nil_of_length_eq_zero (i c);have H:(some []:Option (List oH))=some r:=by first | (rw [d] at H;exact H) | (subst d;exact H)
  refine aq ?_;have g:=hS.sY oH.t;exact rx H g
 ·obtain ⟨l6,j,H⟩:=oL H;refine ax ?_;refine xm (sh (t:=oH.t) (vs:=[]) (xs:=([]:List oH)) adB Ty.OY rfl trivial rfl rfl hS) ?_;rintro l n b;refine qc ?_;refine ap 0 b (a.src b.agree) j ?_;intro m p h;exact rx H h
def BO.k2 (l3:List UInt8):Option (List UInt8) :=
  some l3
def BO.k1 (x1:Int):Option (List UInt8) :=
  if decide (0 < wr (x1 - wr (0 - 0))) then
    bd (KF (α:=UInt8) [] (wr (x1 - wr (0 - 0))) 0) fun l7 =>
    bd (cut (α:=UInt8) l7 0 0) fun l9 =>
    bd (nz l7) fun _ =>
    BO.k2 l9
  else
    BO.k2 []
def BO (x1:Int):Option (List UInt8) :=
  if decide (x1 < 0) then
    none
  else
    BO.k1 x1
theorem ake {x1:Int} {r:(List UInt8)} (hA:Gd F w) (H:BO x1=some r):pa aac K 162 [.sl none 0 (.k 0),.i .i64 x1] w fun v w'=>∃ (F':jL) (h:jD),v=h∧St [] w F F' [.row tB h (r)] w':=by
 refine ra Tryz.func162 ?_;have hS:=St.start hA;refine aq ?_;refine pe (jN (BO.k1 x1=some r) [(0,.sl none 0 (.k 0)),(1,.i .i64 x1)] hS) ?_ ?_
 ·refine aq ?_;refine qy H (fun p H=>?_) (fun p H=>?_)
  ·
   cases H
  ·refine Bo ?_;exact nj ⟨H,jj hS⟩
 ·rintro E D ⟨H,e,rfl,z,b⟩;refine pe (fun E wq=>∃ l3:List UInt8,BO.k2 l3=some r ∧ ∃ (a:jL) (c:jD),E=[(0,c)]∧e.le a∧po b [.row tB c l3] a wq) ?_ ?_
  ·refine aq ?_;refine qr (Vj aba rfl) ?_;refine qc ?_;refine qr (Vm aba rfl) ?_;refine ax ?_;refine qy H (fun q H=>?_) (fun q H=>?_)
   ·obtain ⟨l7,s,l9,g,H⟩:=oU H;refine ax ?_;refine qr (Vj aba rfl) ?_;refine qr (aaA aba Ty.vA rfl (.inl ⟨rfl,rfl⟩) (.inr ⟨_,_,rfl,rfl⟩)) ?_;refine qc ?_;have j:=b.sY tB;refine xm (aao (t:=tB) (d:=0) 0 aba Ty.BN Ty.alR (T4 Ty.Pu rfl) rfl rfl j rfl s) ?_;rintro B I f;refine qc ?_;refine qr (Vm aba rfl) ?_;refine xq 0 0 0 rfl rfl rfl rfl aba Ty.vA rfl (.inl ⟨rfl,rfl⟩) (.inr ⟨_,_,rfl,rfl⟩) f rfl g ?_;intro x y u;refine ax ?_;obtain ⟨_,afo,H⟩:=oL H;have l:=f.shrink 0 rfl u g afo;exact nj ⟨l9,H,⟨_,x,rfl,pc,l⟩⟩
   ·refine Bo ?_;have m:=b.sY tB;exact nj ⟨[],H,⟨e,(.sl none 0 (.k 0)),rfl,(jL.le.refl _),m⟩⟩
  ·rintro E G ⟨l3,H,a,c,rfl,A,n⟩;exact rx H n
def wv.k2 (l6:List UInt8):Option (List UInt8) :=
  some l6
def wv.l3 (x0:List (List UInt8)) (b:(Int × (List UInt8))→Option (List UInt8)):(Int × (List UInt8))→Option (List UInt8)
  | (a,sm) =>
    if decide (a < (x0.length:Int)) then
      bd (ix x0 a) fun c =>
      bd (app (α:=UInt8) sm c) fun pN =>
      b (wr (a+1),pN)
    else
      wv.k2 sm
def wv.k1 (x0:List (List UInt8)) (a:Int):Option (List UInt8) :=
  bd (BO a) fun b =>
  loop (wv.l3 x0) (0,b)
def wv.k5 (a:Int) (c:(Int × Int)→Option (List UInt8)) (b:Int):Option (List UInt8) :=
  c (b,wr (a+1))
def wv.l4 (x0:List (List UInt8)) (d:(Int × Int)→Option (List UInt8)):(Int × Int)→Option (List UInt8)
  | (a,b) =>
    if decide (b < (x0.length:Int)) then
      bd (ix x0 b) fun c =>
      if decide (wr (a+(c.length:Int)) < 0) then
        none
      else
        wv.k5 b d (wr (a+(c.length:Int)))
    else
      wv.k1 x0 a
def wv (x0:List (List UInt8)):Option (List UInt8) :=
  loop (wv.l4 x0) (0,0)
theorem aj7 {x0:List (List UInt8)} {r:(List UInt8)} {a:jD} (hA:Gd F w) (q:oF (GJ tB) F a x0) (H:wv x0=some r):pa aac K 127 [a] w fun v w'=>∃ (F':jL) (A:jD),v=A∧St [] w F F' [.row tB A (r)] w':=by
 refine rA Tryz.func127 ?_;have hS:=St.start hA;refine aq ?_;refine aq ?_;refine pe (fun E wq=>∃ l:Int,wv.k1 x0 l=some r ∧ ∃ (d:jL),E=[(0,a),(3,.i .i64 l)]∧F.le d∧ug hS d wq) ?_ ?_
 ·refine ax ?_;refine qC (fun (s:Int × Int) E wq=>∃ (b:jL),E=[(0,a),(3,.i .i64 s.1),(9,a),(10,.i .i64 (x0.length:Int)),(11,.i .i64 s.2)]∧F.le b∧ug hS b wq) H ?_ ?_
  ·exact lo (jj hS)
  ·rintro Y ⟨y,z⟩ E a8 hI H
   try dsimp only at hI
   obtain ⟨b,rfl,U,h⟩:=hI;refine ay ?_;refine qy H (fun J H=>?_) (fun J H=>?_)
   ·refine qk ?_;refine pe (fun E wq=>∃ m:Int,wv.k5 z Y m=some r ∧ ∃ (e:jL),E=[(0,a),(3,.i .i64 m),(9,a),(10,.i .i64 (x0.length:Int)),(11,.i .i64 z)]∧b.le e∧ug h e wq) ?_ ?_
    ·obtain ⟨ae,R,H⟩:=oL H;obtain ⟨_,⟨a5,rfl,ah⟩,_⟩:=qa 1 (q.mono U) R;refine ax ?_;refine qy H (fun L H=>?_) (fun L H=>?_)
     ·
      cases H
     ·refine ax ?_;exact nj ⟨wr (y+(ae.length:Int)),H,jj h⟩
    ·rintro E a9 ⟨m,H,e,rfl,aj,D⟩;refine ax ?_;exact nm H (jj D)
   ·refine pw _ rfl ?_;exact nj ⟨y,H,jj h⟩
 ·rintro E w1 ⟨l,H,d,rfl,S,u⟩;obtain ⟨r3,O,H⟩:=oL H;refine aq ?_;refine lm (ake u.oR O) ?_;rintro Z w4 ⟨p,_,rfl,x⟩;have j:=u.call x;have X:=x.ext;refine au ?_;refine pe (fun E wq=>∃ l6:List UInt8,wv.k2 l6=some r ∧ ∃ (f:jL) (n:jD),E=[(6,n)]∧p.le f∧po j [.row tB n l6] f wq) ?_ ?_
  ·refine ax ?_;refine qC (fun (s:Int × (List UInt8)) E wq=>∃ (g:jL) (c:jD),E=[(6,c),(25,a),(26,.i .i64 (x0.length:Int)),(27,.i .i64 s.1)]∧p.le g∧po j [.row tB c s.2] g wq) H ?_ ?_
   ·exact lo ⟨_,Z,rfl,pc,j⟩
   ·rintro ar ⟨i9,sm⟩ E w8 hI H
    try dsimp only at hI
    obtain ⟨g,c,rfl,V,k⟩:=hI;refine ay ?_;refine qy H (fun I H=>?_) (fun I H=>?_)
    ·obtain ⟨aJ,Q,H⟩:=oL H;obtain ⟨_,⟨a4,rfl,P⟩,_⟩:=qa 1 (q.mono ((S.trans X).trans V)) Q;obtain ⟨pN,M,H⟩:=oL H;refine ay ?_;refine ap 0 k (P.src k.agree) M ?_;intro ad a7 B;refine ax ?_;exact nm H ⟨_,ad,rfl,pc,B⟩
    ·refine pw _ rfl ?_;exact nj ⟨sm,H,⟨_,c,rfl,pc,k⟩⟩
  ·rintro E w5 ⟨l6,H,f,n,rfl,ak,G⟩;exact rx H G
def O4:Option (List UInt32) :=
  some [1116352408,1899447441,3049323471,3921009573,961987163,1508970993,2453635748,2870763221,3624381080,310598401,607225278,1426881987,1925078388,2162078206,2614888103,3248222580,3835390401,4022224774,264347078,604807628,770255983,1249150122,1555081692,1996064986,2554220882,2821834349,2952996808,3210313671,3336571891,3584528711,113926993,338241895,666307205,773529912,1294757372,1396182291,1695183700,1986661051,2177026350,2456956037,2730485921,2820302411,3259730800,3345764771,3516065817,3600352804,4094571909,275423344,430227734,506948616,659060556,883997877,958139571,1322822218,1537002063,1747873779,1955562222,2024104815,2227730452,2361852424,2428436474,2756734187,3204031479,3329325298]
theorem ajm {r:(List UInt32)} (hA:Gd F w) (H:O4=some r):pa aac K 128 [] w fun v w'=>∃ (F':jL) (a:jD),v=a∧St [] w F F' [.row tW a (r)] w':=by
 refine IL (args:=[]) Tryz.func128 rfl (by decide) rfl ?_;change C _ _ _ _ _ [] _;have hS:=St.start hA;refine ax ?_;refine xm (sh (t:=tW) (vs:=wV ([1116352408,1899447441,3049323471,3921009573,961987163,1508970993,2453635748,2870763221,3624381080,310598401,607225278,1426881987,1925078388,2162078206,2614888103,3248222580,3835390401,4022224774,264347078,604807628,770255983,1249150122,1555081692,1996064986,2554220882,2821834349,2952996808,3210313671,3336571891,3584528711,113926993,338241895,666307205,773529912,1294757372,1396182291,1695183700,1986661051,2177026350,2456956037,2730485921,2820302411,3259730800,3345764771,3516065817,3600352804,4094571909,275423344,430227734,506948616,659060556,883997877,958139571,1322822218,1537002063,1747873779,1955562222,2024104815,2227730452,2361852424,2428436474,2756734187,3204031479,3329325298]:List UInt32)) (xs:=[(1116352408:UInt32),(1899447441:UInt32),(3049323471:UInt32),(3921009573:UInt32),(961987163:UInt32),(1508970993:UInt32),(2453635748:UInt32),(2870763221:UInt32),(3624381080:UInt32),(310598401:UInt32),(607225278:UInt32),(1426881987:UInt32),(1925078388:UInt32),(2162078206:UInt32),(2614888103:UInt32),(3248222580:UInt32),(3835390401:UInt32),(4022224774:UInt32),(264347078:UInt32),(604807628:UInt32),(770255983:UInt32),(1249150122:UInt32),(1555081692:UInt32),(1996064986:UInt32),(2554220882:UInt32),(2821834349:UInt32),(2952996808:UInt32),(3210313671:UInt32),(3336571891:UInt32),(3584528711:UInt32),(113926993:UInt32),(338241895:UInt32),(666307205:UInt32),(773529912:UInt32),(1294757372:UInt32),(1396182291:UInt32),(1695183700:UInt32),(1986661051:UInt32),(2177026350:UInt32),(2456956037:UInt32),(2730485921:UInt32),(2820302411:UInt32),(3259730800:UInt32),(3345764771:UInt32),(3516065817:UInt32),(3600352804:UInt32),(4094571909:UInt32),(275423344:UInt32),(430227734:UInt32),(506948616:UInt32),(659060556:UInt32),(883997877:UInt32),(958139571:UInt32),(1322822218:UInt32),(1537002063:UInt32),(1747873779:UInt32),(1955562222:UInt32),(2024104815:UInt32),(2227730452:UInt32),(2361852424:UInt32),(2428436474:UInt32),(2756734187:UInt32),(3204031479:UInt32),(3329325298:UInt32)]) Tryz.underlying192 Ty.Y6 rfl (jF _) rfl rfl hS) ?_
 rintro c d b;exact rx H b
def xI.k2 (sI:List UInt8):Option (List UInt8) :=
  some sI
def xI.l3 (x0:List UInt8) (c:(Int × (List UInt8))→Option (List UInt8)):(Int × (List UInt8))→Option (List UInt8)
  | (a,wN) =>
    if decide (0≤a) then
      bd (JW (wu ((wu (x0.length:Int))*2 ^ (3:Int).toNat)) (wr (8*a))) fun d =>
      bd (app (α:=UInt8) wN [(tA d)]) fun b =>
      c (wr (a - 1),b)
    else
      xI.k2 wN
def xI.k1 (x0:List UInt8) (l8:List UInt8):Option (List UInt8) :=
  loop (xI.l3 x0) (7,l8)
def xI.l4 (x0:List UInt8) (b:(List UInt8)→Option (List UInt8)):(List UInt8)→Option (List UInt8)
  | uo =>
    if decide ((uo.length:Int).tmod 64≠56) then
      bd (app (α:=UInt8) uo [(0:UInt8)]) fun a =>
      b a
    else
      xI.k1 x0 uo
def xI (x0:List UInt8):Option (List UInt8) :=
  bd (app (α:=UInt8) ([]:List UInt8) x0) fun l2 =>
  bd (app (α:=UInt8) l2 [(128:UInt8)]) fun l5 =>
  loop (xI.l4 x0) l5
theorem ajl {x0:List UInt8} {r:(List UInt8)} {e:jD} (hA:Gd F w) (B:oF tB F e x0) (H:xI x0=some r):pa aac K 129 [e] w fun v w'=>∃ (F':jL) (z:jD),v=z∧St [] w F F' [.row tB z (r)] w':=by
 refine rA Tryz.func129 ?_;have hS:=St.start hA;obtain ⟨l2,O,l5,R,H⟩:=oU H;refine ax ?_;refine xm (sh (t:=tB) (vs:=[]) (xs:=([]:List UInt8)) aba Ty.BN rfl trivial rfl rfl hS) ?_;rintro u1 w1 p;refine qc ?_;refine ap 0 p (B.src p.agree) O ?_;intro v3 w3 I;refine xm (sh (t:=tB) (vs:=[.i .u8 ((128:UInt8).toNat:Int)]) (xs:=[(128:UInt8)]) aba Ty.BN rfl ⟨rfl,trivial⟩ rfl rfl I) ?_;rintro u4 w4 y;refine ap 1 y (y.tf (k:=0) rfl) R ?_;intro v6 w6 l;refine au ?_;refine pe (fun E wq=>∃ l8:List UInt8,xI.k1 x0 l8=some r ∧ ∃ (a:jL) (d:jD),E=[(0,e),(3,d)]∧F.le a∧po l [.row tB d l8] a wq) ?_ ?_
 ·refine xP ?_;refine qC (fun (s:(List UInt8)) E wq=>∃ (h:jL) (c:jD),E=[(0,e),(3,c)]∧F.le h∧po l [.row tB c s] h wq) H ?_ ?_
  ·exact lo ⟨_,v6,rfl,pc,pk [1] l⟩
  ·rintro a5 uo E aR hI H
   try dsimp only at hI
   obtain ⟨h,c,rfl,am,j⟩:=hI;refine ay ?_;refine qr (qD aba rfl (j.rB (k:=0) rfl)) ?_;refine qr (oO rfl rfl (by first | rfl | simp [ru,BG])) ?_;refine au ?_;refine qy H (fun M H=>?_) (fun M H=>?_)
   ·obtain ⟨ai,Q,H⟩:=oL H;refine ax ?_;refine xm (sh (t:=tB) (vs:=[.i .u8 ((0:UInt8).toNat:Int)]) (xs:=[(0:UInt8)]) aba Ty.BN rfl ⟨rfl,trivial⟩ rfl rfl j) ?_;rintro a8 aT x;refine ap 1 x (x.tf (k:=0) rfl) Q ?_;intro Z aV J;refine ax ?_;exact nm H ⟨_,Z,rfl,pc,pk [1] J⟩
   ·refine pw _ rfl ?_;exact nj ⟨uo,H,⟨_,c,rfl,pc,j⟩⟩
 ·rintro E w7 ⟨l8,H,a,d,rfl,ar,m⟩;refine aq ?_;refine qr (vZ abD adD rfl (rfl)) ?_;refine qr (oO rfl rfl (EI (by decide) (by decide))) ?_;refine au ?_;refine pe (fun E wq=>∃ sI:List UInt8,xI.k2 sI=some r ∧ ∃ (f:jL) (n:jD),E=[(3,n)]∧a.le f∧po m [.row tB n sI] f wq) ?_ ?_
  ·refine ax ?_;refine qC (fun (s:Int × (List UInt8)) E wq=>∃ (g:jL) (b:jD),E=[(3,b),(4,.i .u64 (wu ((wu (x0.length:Int))*2 ^ (3:Int).toNat))),(5,.i .i64 s.1)]∧a.le g∧po m [.row tB b s.2] g wq) H ?_ ?_
   ·exact lo ⟨_,d,rfl,pc,m⟩
   ·rintro a4 ⟨ae,wN⟩ E aJ hI H
    try dsimp only at hI
    obtain ⟨g,b,rfl,ak,q⟩:=hI;refine ay ?_;refine qy H (fun L H=>?_) (fun L H=>?_)
    ·obtain ⟨A,V,ah,P,H⟩:=oU H;refine ay ?_;obtain ⟨X,S,U⟩:=Zl V;refine qr (oO rfl rfl (by rw [DP X S,← U])) ?_;refine qr (vZ adD acP rfl (XY _)) ?_;refine xm (sh (t:=tB) (vs:=[.i .u8 ((tA A).toNat:Int)]) (xs:=[(tA A)]) aba Ty.BN rfl ⟨rfl,trivial⟩ rfl rfl q) ?_;rintro a7 aK u;refine ap 1 u (u.tf (k:=0) rfl) P ?_;intro Y aO G;refine ax ?_;exact nm H ⟨_,Y,rfl,pc,pk [1] G⟩
    ·refine pw _ rfl ?_;exact nj ⟨wN,H,⟨_,b,rfl,pc,q⟩⟩
  ·rintro E aH ⟨sI,H,f,n,rfl,aj,D⟩;exact rx H D
def CG.k1 (a:Int):Option Int :=
  some a
def CG.l2 (x0:List UInt8) (c:(Int × Int)→Option Int):(Int × Int)→Option Int
  | (b,a) =>
    if decide (a < (x0.length:Int)) then
      bd (ix x0 a) fun x8 =>
      c (bits .or .u64 (wu (b*2 ^ (8:Int).toNat)) (x8.toNat:Int),wr (a+1))
    else
      CG.k1 b
def CG (x0:List UInt8):Option Int :=
  loop (CG.l2 x0) (0,0)
theorem ajk {x0:List UInt8} {r:Int} {d:jD} (hA:Gd F w) (f:oF tB F d x0) (H:CG x0=some r):pa aac K 130 [d] w fun v w'=>∃ (F':jL),v = .i .u64 r∧St [] w F F' [] w':=by
 refine rA Tryz.func130 ?_;have hS:=St.start hA;refine aq ?_;refine aq ?_;refine pe (fun E wq=>∃ c:Int,CG.k1 c=some r ∧ ∃ (a:jL),E=[(3,.i .u64 c)]∧F.le a∧ug hS a wq) ?_ ?_
 ·refine ax ?_;refine qC (fun (s:Int × Int) E wq=>∃ (b:jL),E=[(3,.i .u64 s.1),(6,d),(7,.i .i64 (x0.length:Int)),(8,.i .i64 s.2)]∧F.le b∧ug hS b wq) H ?_ ?_
  ·exact lo (jj hS)
  ·rintro p ⟨k,m⟩ E u hI H
   try dsimp only at hI
   obtain ⟨b,rfl,l,e⟩:=hI;refine ay ?_;refine qy H (fun h H=>?_) (fun h H=>?_)
   ·obtain ⟨x8,j,H⟩:=oL H;obtain ⟨_,rfl,_⟩:=qa 1 (f.mono l) j;refine ay ?_;refine qr (oO rfl rfl (EI (by decide) (by decide))) ?_;refine qc ?_;refine qr (vZ acP adD rfl (ak1 _)) ?_;refine qr (oO rfl rfl (sF (.inr (.inl rfl)))) ?_;refine ax ?_;exact nm H (jj e)
   ·refine pw _ rfl ?_;exact nj ⟨k,H,jj e⟩
 ·rintro E q ⟨c,H,a,rfl,n,g⟩;exact rz H g
def wQ (x0:UInt32) (x1:Int):Option UInt32 :=
  bd (O5 x0 (bits .and .u64 (wu x1) 31)) fun x2 =>
  bd (GD x0 (wu (32 - bits .and .u64 (wu x1) 31))) fun x3 =>
  some (x2 ||| x3)
theorem D7 {x0:UInt32} {x1:Int} {r:UInt32} (hA:Gd F w) (H:wQ x0 x1=some r):pa aac K 131 [.i .u32 (x0.toNat:Int),.i .i64 x1] w fun v w'=>∃ (F':jL),v = .i .u32 (r.toNat:Int)∧St [] w F F' [] w':=by
 refine ra Tryz.func131 ?_;have hS:=St.start hA;refine ax ?_;refine qr (vZ abD adA rfl (rfl)) ?_;refine qr (oO rfl rfl (sF (.inl rfl))) ?_;obtain ⟨x2,a,x3,b,H⟩:=oU H;refine ax ?_;refine qr (oO rfl rfl (VL a)) ?_;refine au ?_;refine qr (oO rfl rfl (No b)) ?_;refine qr (oO rfl rfl ((sF (.inr (.inl rfl))).trans (congrArg (fun z=>some (jD.i .u32 z)) (Go.Wk.u32_or x2 x3)))) ?_;exact rz H hS
def qP.k2 (a:List UInt8):Option (List UInt8) :=
  some a
def qP.l3 (d:List UInt32) (c:(Int × (List UInt8))→Option (List UInt8)):(Int × (List UInt8))→Option (List UInt8)
  | (a,b) =>
    if decide (a < 32) then
      bd (ix d (wr (a.tdiv 4))) fun e =>
      bd (GD e (wr (24 - wr (8*a.tmod 4)))) fun f =>
      bd (ix b a) fun g =>
      c (wr (a+1),(b.set a.toNat f.toUInt8))
    else
      qP.k2 b
def qP.k1 (a:List UInt32):Option (List UInt8) :=
  loop (qP.l3 a) (0,(ph 32 (0:UInt8)))
def qP.k5 (a:List UInt8) (c:((List UInt8) × (List UInt32))→Option (List UInt8)) (d:List UInt32):Option (List UInt8) :=
  bd (cut (α:=UInt8) a 64 (a.length:Int)) fun b =>
  c (b,d)
def qP.l8 (c:List UInt8) (d:((List UInt8) × (List UInt32))→Option (List UInt8)) (f:List UInt32) (e:(Int × (List UInt32))→Option (List UInt8)):(Int × (List UInt32))→Option (List UInt8)
  | (a,b) =>
    if decide (a < 8) then
      bd (ix b a) fun g =>
      bd (ix f a) fun h =>
      bd (ix b a) fun i =>
      e (wr (a+1),(b.set a.toNat (g+h)))
    else
      qP.k5 c d b
def qP.k7 (a:List UInt8) (c:List UInt32) (b:((List UInt8) × (List UInt32))→Option (List UInt8)) (d:List UInt32):Option (List UInt8) :=
  loop (qP.l8 a b d) (0,c)
def qP.l9 (r:(List UInt32)) (m:List UInt8) (v:List UInt32) (s:((List UInt8) × (List UInt32))→Option (List UInt8)) (x:List UInt32) (u:(Int × (List UInt32))→Option (List UInt8)):(Int × (List UInt32))→Option (List UInt8)
  | (d,a) =>
    if decide (d < 64) then
      bd (ix a 4) fun b =>
      bd (ix a 0) fun c =>
      bd (wQ b (-6)) fun e =>
      bd (wQ b (-11)) fun f =>
      bd (wQ b (-25)) fun g =>
      bd (ix a 7) fun h =>
      bd (ix a 5) fun i =>
      bd (ix a 6) fun j =>
      bd (ix r d) fun k =>
      bd (ix x d) fun l =>
      bd (wQ c (-2)) fun n =>
      bd (wQ c (-13)) fun p =>
      bd (wQ c (-22)) fun q =>
      bd (ix a 1) fun y =>
      bd (ix a 2) fun z =>
      bd (ix a 1) fun A =>
      bd (ix a 2) fun B =>
      bd (ix a 1) fun D =>
      bd (ix a 2) fun G =>
      bd (ix a 3) fun I =>
      bd (ix a 5) fun J =>
      bd (ix a 6) fun L =>
      u (wr (d+1),([(((((h+((e ^^^ f) ^^^ g))+((b &&& i) ^^^ ((~~~b) &&& j)))+k)+l)+(((n ^^^ p) ^^^ q)+(((c &&& y) ^^^ (c &&& z)) ^^^ (A &&& B)))),c,D,G,(I+((((h+((e ^^^ f) ^^^ g))+((b &&& i) ^^^ ((~~~b) &&& j)))+k)+l)),b,J,L]:List UInt32))
    else
      qP.k7 m v s a
def qP.k6 (c:(List UInt32)) (b:List UInt8) (a:List UInt32) (d:((List UInt8) × (List UInt32))→Option (List UInt8)) (e:List UInt32):Option (List UInt8) :=
  loop (qP.l9 c b a d e) (0,a)
def qP.Aw (a:Int) (b:(Int × (List UInt32))→Option (List UInt8)) (c:List UInt32):Option (List UInt8) :=
  b (wr (a+1),c)
def qP.sm (m:(List UInt32)) (e:List UInt8) (p:List UInt32) (n:((List UInt8) × (List UInt32))→Option (List UInt8)) (f:(Int × (List UInt32))→Option (List UInt8)):(Int × (List UInt32))→Option (List UInt8)
  | (a,b) =>
    if decide (a < 64) then
      if decide (a < 16) then
        bd (cut (α:=UInt8) e (wr (4*a)) (wr (wr (4*a)+4))) fun g =>
        bd (CG g) fun h =>
        bd (ix b a) fun s =>
        qP.Aw a f (b.set a.toNat (Ie h))
      else
        bd (ix b (wr (a - 15))) fun c =>
        bd (ix b (wr (a - 2))) fun d =>
        bd (wQ c (-7)) fun i =>
        bd (wQ c (-18)) fun j =>
        bd (wQ d (-17)) fun k =>
        bd (wQ d (-19)) fun l =>
        bd (ix b (wr (a - 16))) fun q =>
        bd (ix b (wr (a - 7))) fun r =>
        bd (ix b a) fun u =>
        qP.Aw a f (b.set a.toNat (((q+((i ^^^ j) ^^^ (c >>> rD 3)))+r)+((k ^^^ l) ^^^ (d >>> rD 10))))
    else
      qP.k6 m e p n b
def qP.l4 (c:(List UInt32)) (d:((List UInt8) × (List UInt32))→Option (List UInt8)):((List UInt8) × (List UInt32))→Option (List UInt8)
  | (a,b) =>
    if decide (0 < (a.length:Int)) then
      loop (qP.sm c a b d) (0,(ph 64 (0:UInt32)))
    else
      qP.k1 b
def qP (x0:List (List UInt8)):Option (List UInt8) :=
  bd (wv x0) fun a =>
  bd (O4) fun c =>
  bd (xI a) fun b =>
  loop (qP.l4 c) (b,([1779033703,3144134277,1013904242,2773480762,1359893119,2600822924,528734635,1541459225]:List UInt32))
set_option maxHeartbeats 2000000 in
theorem ajj {x0:List (List UInt8)} {r:(List UInt8)} {v0:jD} (hA:Gd F w) (h0:oF (GJ tB) F v0 x0) (H:qP x0=some r):pa aac K 81 [v0] w fun v w'=>∃ (F':jL),v = .agg (pb r)∧(r).length=32∧St [] w F F' [] w':=by
 refine rA Tryz.func81 ?_;have hS:=St.start hA;refine qs ?_;refine xm (vF (cs:=pb (ph 32 (0:UInt8))) Ty.Fm rfl hS) ?_;rintro _ w1 ⟨c,rfl,b0⟩;obtain ⟨r2,dn,H⟩:=oL H;refine ax ?_;refine lm (aj7 b0.oR h0 dn) ?_;rintro eN w3 ⟨ev,_,rfl,bE⟩;have cw:=b0.call bE;have eF:=bE.ext;refine ax ?_;refine qr (Kx (vs:=nW 0 ([1779033703,3144134277,1013904242,2773480762,1359893119,2600822924,528734635,1541459225]:List UInt32)) (v:=.agg (pR 8 cW 0 ([1779033703,3144134277,1013904242,2773480762,1359893119,2600822924,528734635,1541459225]:List UInt32))) Ty.Nq rfl rfl) ?_;refine xm (vF (cs:=pR 8 cW 0 (ph 8 (0:UInt32))) Ty.Ps rfl cw) ?_;rintro _ w4 ⟨d,rfl,ey⟩;refine sb 0 (pR 8 cW 0 ([1779033703,3144134277,1013904242,2773480762,1359893119,2600822924,528734635,1541459225]:List UInt32)) ?_;intro w5 b9;obtain ⟨A,dr,H⟩:=oL H;refine ax ?_;refine lm (ajm b9.oR dr) ?_;rintro g w7 ⟨bz,_,rfl,bF⟩;have aU:=b9.call bF;have eG:=bF.ext;refine au ?_;refine pe (fun E wq=>∃ s9:List UInt32,qP.k1 s9=some r ∧ ∃ (F8:jL),E=[(2,pl c 0),(4,pl d 0)]∧bz.le F8∧(s9).length=8∧po aU [.box d (pR 8 cW 0 s9),.box c (pb (ph 32 (0:UInt8)))] F8 wq) ?_ ?_
 ·obtain ⟨eJ,dq,H⟩:=oL H;refine aq ?_;refine lm (ajl (Gd.now aU.wf) (aU.uK (k:=2) rfl) dq) ?_;rintro er fi ⟨ew,_,rfl,c0⟩;have b8:=aU.SE c0 ⟨fun _ _ _ h=>Y9 (t:=tB) (fun h=>h) h,trivial⟩;refine ax ?_;refine qC (fun (s:(List UInt8) × (List UInt32)) E wq=>∃ (P:jL) (u:jD),E=[(2,pl c 0),(4,pl d 0),(5,g),(6,u)]∧bz.le P∧oF tB P u s.1∧(s.2).length=8∧po b8 [.row tW g A,.box d (pR 8 cW 0 s.2),.box c (pb (ph 32 (0:UInt8)))] P wq) H ?_ ?_
  ·obtain ⟨eu,e7,c7,ct⟩:=b8.rv 0 [1,2,3,4] rfl (by decide) (by decide);exact lo ⟨_,er,rfl,pc,c7,rfl,pk [0,1,3] ct⟩
  ·rintro bs ⟨aV,B⟩ E fj hI H
   try dsimp only at hI
   obtain ⟨P,u,rfl,e8,bY,bn,bj⟩:=hI;refine ay ?_;refine qy H (fun c4 H=>?_) (fun c4 H=>?_)
   ·refine qk ?_;refine pe (fun E wq=>∃ aY:List UInt32,qP.k5 aV bs aY=some r ∧ ∃ (bf:jL),E=[(2,pl c 0),(4,pl d 0),(5,g),(6,u)]∧P.le bf∧(aY).length=8∧po bj [.row tW g A,.box d (pR 8 cW 0 aY),.box c (pb (ph 32 (0:UInt8)))] bf wq) ?_ ?_
    ·refine ax ?_;refine xm (vF (cs:=pR 64 cW 0 (ph 64 (0:UInt32))) Ty.Pr rfl bj) ?_;rintro _ fm ⟨G,rfl,bk⟩;refine qn ?_;refine pe (fun E wq=>∃ a8:List UInt32,qP.k6 A aV B bs a8=some r ∧ ∃ (ak:jL),E=[(2,pl c 0),(4,pl d 0),(5,g),(6,u),(7,pl G 0)]∧P.le ak∧(a8).length=64∧po bk [.box G (pR 64 cW 0 a8),.row tW g A,.box d (pR 8 cW 0 B),.box c (pb (ph 32 (0:UInt8)))] ak wq) ?_ ?_
     ·refine ax ?_;refine qC (fun (s:Int × (List UInt32)) E wq=>∃ (Z:jL),E=[(2,pl c 0),(4,pl d 0),(5,g),(6,u),(7,pl G 0),(35,.i .i64 s.1)]∧P.le Z∧(s.2).length=64∧po bk [.box G (pR 64 cW 0 s.2),.row tW g A,.box d (pR 8 cW 0 B),.box c (pb (ph 32 (0:UInt8)))] Z wq) H ?_ ?_
      ·exact lo ⟨_,rfl,pc,(AM),bk⟩
      ·rintro ep ⟨L,a7⟩ E eV hI H
       try dsimp only at hI
       obtain ⟨Z,rfl,e4,e,I⟩:=hI;refine ay ?_;refine qy H (fun c1 H=>?_) (fun c1 H=>?_)
       ·refine qk ?_;refine pe (fun E wq=>∃ aX:List UInt32,qP.Aw L ep aX=some r ∧ ∃ (be:jL),E=[(2,pl c 0),(4,pl d 0),(5,g),(6,u),(7,pl G 0),(35,.i .i64 L)]∧Z.le be∧(aX).length=64∧po I [.box G (pR 64 cW 0 aX),.row tW g A,.box d (pR 8 cW 0 B),.box c (pb (ph 32 (0:UInt8)))] be wq) ?_ ?_
        ·refine ay ?_;refine qy H (fun c2 H=>?_) (fun c2 H=>?_)
         ·obtain ⟨e1,cA,ch,di,H⟩:=oU H;obtain ⟨f0,dx,H⟩:=oL H;refine aq ?_;refine FJ (wr (4*L)) (wr (wr (4*L)+4)) rfl rfl rfl rfl aba Ty.vA rfl (.inr ⟨_,_,rfl,rfl⟩) (.inr ⟨_,_,rfl,rfl⟩) bY cA ?_;intro eH dv;refine lp (ajk I.oR (mo dv) di) I ?_;intro eX cq;refine qr (vZ adD adG rfl (akT _)) ?_;obtain ⟨cN,bo⟩:=oM dx;refine qr (qV adx Ty.qX rfl rfl cN (p8 e bo)) ?_;refine um (FG (cs':=pR 64 cW 0 (a7.set L.toNat (Ie ch))) 0 rfl rfl cq rfl rfl Ty.qX (by rw [IQ,pA];exact (p8 e bo)) (Hd e (p8 e bo) _)) ?_;rintro _ eZ cr;refine ax ?_;exact nj ⟨(a7.set L.toNat (Ie ch)),H,⟨Z,rfl,pc,(by rw [Ey];exact e),cr⟩⟩
         ·refine ay ?_;obtain ⟨aj,bT,bb,bU,H⟩:=oU H;refine rn ?_;refine au ?_;obtain ⟨cO,dM⟩:=oM bT;refine qr (qV adx Ty.qX rfl rfl cO (p8 e dM)) ?_;obtain ⟨_,dN⟩:=oM bT;refine qr (rR 0 Ty.rS rfl I rfl (by rw [pA];exact rW e dN)) ?_;refine au ?_;obtain ⟨cP,dO⟩:=oM bU;refine qr (qV adx Ty.qX rfl rfl cP (p8 e dO)) ?_;obtain ⟨_,dP⟩:=oM bU;refine qr (rR 0 Ty.rS rfl I rfl (by rw [pA];exact rW e dP)) ?_;obtain ⟨U,dj,V,dk,H⟩:=oU H;refine ax ?_;refine lp (D7 I.oR dj) I ?_;intro fb b4;refine qc ?_;refine lp (D7 b4.oR dk) b4 ?_;intro fc b5;refine qr (oO rfl rfl ((sF (.inr (.inr rfl))).trans (congrArg (fun z=>some (jD.i .u32 z)) (Go.Wk.u32_xor U V)))) ?_;refine qc ?_;refine qr (oO rfl rfl ((DP (by decide) (by decide)).trans (congrArg (fun z=>some (jD.i .u32 z)) (Po _ _ 3 rfl (by decide))))) ?_;refine qr (oO rfl rfl ((sF (.inr (.inr rfl))).trans (congrArg (fun z=>some (jD.i .u32 z)) (Go.Wk.u32_xor (U ^^^ V) (aj >>> rD 3))))) ?_;obtain ⟨a5,dl,a6,dm,H⟩:=oU H;refine ax ?_;refine lp (D7 b5.oR dl) b5 ?_;intro fd b6;refine qc ?_;refine lp (D7 b6.oR dm) b6 ?_;intro fe aT;refine qr (oO rfl rfl ((sF (.inr (.inr rfl))).trans (congrArg (fun z=>some (jD.i .u32 z)) (Go.Wk.u32_xor a5 a6)))) ?_;refine qc ?_;refine qr (oO rfl rfl ((DP (by decide) (by decide)).trans (congrArg (fun z=>some (jD.i .u32 z)) (Po _ _ 10 rfl (by decide))))) ?_;refine qr (oO rfl rfl ((sF (.inr (.inr rfl))).trans (congrArg (fun z=>some (jD.i .u32 z)) (Go.Wk.u32_xor (a5 ^^^ a6) (bb >>> rD 10))))) ?_;refine au ?_;obtain ⟨aD,bV,bc,bW,H⟩:=oU H;obtain ⟨f1,dy,H⟩:=oL H;refine rf aT ?_;refine au ?_;obtain ⟨cQ,dQ⟩:=oM bV;refine qr (qV adx Ty.qX rfl rfl cQ (p8 e dQ)) ?_;obtain ⟨_,dR⟩:=oM bV;refine qq (rR 0 Ty.rS rfl aT rfl (by rw [pA];exact rW e dR)) ?_;refine qc ?_;refine qr (oO rfl rfl (congrArg (fun z=>some (jD.i .u32 z)) (xf aD ((U ^^^ V) ^^^ (aj >>> rD 3))))) ?_
          refine au ?_;obtain ⟨cR,dS⟩:=oM bW;refine qr (qV adx Ty.qX rfl rfl cR (p8 e dS)) ?_;obtain ⟨_,dT⟩:=oM bW;refine qq (rR 0 Ty.rS rfl aT rfl (by rw [pA];exact rW e dT)) ?_;refine qr (oO rfl rfl (congrArg (fun z=>some (jD.i .u32 z)) (xf (aD+((U ^^^ V) ^^^ (aj >>> rD 3))) bc))) ?_;refine qc ?_;refine qr (oO rfl rfl (congrArg (fun z=>some (jD.i .u32 z)) (xf ((aD+((U ^^^ V) ^^^ (aj >>> rD 3)))+bc) ((a5 ^^^ a6) ^^^ (bb >>> rD 10))))) ?_;obtain ⟨cS,bp⟩:=oM dy;refine qr (qV adx Ty.qX rfl rfl cS (p8 e bp)) ?_;refine qu (FG (cs':=pR 64 cW 0 (a7.set L.toNat (((aD+((U ^^^ V) ^^^ (aj >>> rD 3)))+bc)+((a5 ^^^ a6) ^^^ (bb >>> rD 10))))) 0 rfl rfl aT rfl rfl Ty.qX (by rw [IQ,pA];exact (p8 e bp)) (Hd e (p8 e bp) _)) ?_;rintro _ ff b7;refine qw b7 ?_;refine ax ?_;exact nj ⟨(a7.set L.toNat (((aD+((U ^^^ V) ^^^ (aj >>> rD 3)))+bc)+((a5 ^^^ a6) ^^^ (bb >>> rD 10)))),H,⟨Z,rfl,pc,(by rw [Ey];exact e),b7⟩⟩
        ·rintro E eW ⟨aX,H,be,rfl,e5,c9,cp⟩;refine ax ?_;exact nm H ⟨_,rfl,pc,c9,cp⟩
       ·refine pw _ rfl ?_;exact nj ⟨a7,H,⟨_,rfl,pc,e,I⟩⟩
     ·rintro E fn ⟨a8,H,ak,rfl,eA,bH,cy⟩;refine aq ?_;refine xm (vF (cs:=pR 8 cW 0 (ph 8 (0:UInt32))) Ty.Ps rfl cy) ?_;rintro _ fo ⟨ad,rfl,ez⟩;refine sb 0 (pR 8 cW 0 B) ?_;intro fp bm;refine qn ?_;refine pe (fun E wq=>∃ a9:List UInt32,qP.k7 aV B bs a9=some r ∧ ∃ (aK:jL),E=[(2,pl c 0),(4,pl d 0),(5,g),(6,u),(13,pl ad 0)]∧ak.le aK∧(a9).length=8∧po bm [.box ad (pR 8 cW 0 a9),.row tW g A,.box d (pR 8 cW 0 B),.box c (pb (ph 32 (0:UInt8)))] aK wq) ?_ ?_
      ·refine ax ?_;refine qC (fun (s:Int × (List UInt32)) E wq=>∃ (bg:jL),E=[(2,pl c 0),(4,pl d 0),(5,g),(6,u),(7,pl G 0),(13,pl ad 0),(92,.i .i64 s.1)]∧ak.le bg∧(s.2).length=8∧po bm [.box ad (pR 8 cW 0 s.2),.box G (pR 64 cW 0 a8),.row tW g A,.box d (pR 8 cW 0 B),.box c (pb (ph 32 (0:UInt8)))] bg wq) H ?_ ?_
       ·exact lo ⟨_,rfl,pc,bn,bm⟩
       ·rintro eM ⟨e0,eq⟩ E fu hI H
        try dsimp only at hI
        obtain ⟨bg,rfl,eD,b,a4⟩:=hI;refine ay ?_;refine qy H (fun c6 H=>?_) (fun c6 H=>?_)
        ·refine ay ?_;obtain ⟨a,cb,f,cc,H⟩:=oU H;refine rn ?_;obtain ⟨cZ,ea⟩:=oM cb;refine qr (qV abb Ty.qX rfl rfl cZ (p8 b ea)) ?_;obtain ⟨_,eb⟩:=oM cb;refine qr (rR 0 Ty.rS rfl a4 rfl (by rw [pA];exact rW b eb)) ?_;obtain ⟨da,ec⟩:=oM cc;refine qr (qV abb Ty.qX rfl rfl da (p8 b ec)) ?_;obtain ⟨_,ed⟩:=oM cc;refine qr (rR 0 Ty.rS rfl a4 rfl (by rw [pA];exact rW b ed)) ?_;obtain ⟨j,ds,l,dt,H⟩:=oU H;obtain ⟨m,du,H⟩:=oL H;refine ax ?_;refine lp (D7 a4.oR ds) a4 ?_;intro fx bC;refine qc ?_;refine lp (D7 bC.oR dt) bC ?_;intro fy bD;refine qr (oO rfl rfl ((sF (.inr (.inr rfl))).trans (congrArg (fun z=>some (jD.i .u32 z)) (Go.Wk.u32_xor j l)))) ?_;refine qc ?_;refine lp (D7 bD.oR du) bD ?_;intro fz Q;refine qr (oO rfl rfl ((sF (.inr (.inr rfl))).trans (congrArg (fun z=>some (jD.i .u32 z)) (Go.Wk.u32_xor (j ^^^ l) m)))) ?_;refine ay ?_;obtain ⟨q,cd,n,ce,H⟩:=oU H;obtain ⟨p,cf,x,d2,H⟩:=oU H;obtain ⟨D,cg,H⟩:=oL H;refine rn ?_;obtain ⟨db,ee⟩:=oM cd;refine qr (qV abb Ty.qX rfl rfl db (p8 b ee)) ?_;obtain ⟨_,ef⟩:=oM cd;refine qr (rR 0 Ty.rS rfl Q rfl (by rw [pA];exact rW b ef)) ?_;refine qc ?_;refine qr (oO rfl rfl (congrArg (fun z=>some (jD.i .u32 z)) (xf q ((j ^^^ l) ^^^ m)))) ?_;refine qc ?_;obtain ⟨dc,eg⟩:=oM ce;refine qr (qV abb Ty.qX rfl rfl dc (p8 b eg)) ?_;obtain ⟨_,eh⟩:=oM ce;refine qr (rR 0 Ty.rS rfl Q rfl (by rw [pA];exact rW b eh)) ?_;refine qr (oO rfl rfl ((sF (.inl rfl)).trans (congrArg (fun z=>some (jD.i .u32 z)) (Go.Wk.u32_and a n)))) ?_;refine qc ?_;refine qr (Vo rfl (aaa a)) ?_;obtain ⟨dd,ei⟩:=oM cf;refine qr (qV abb Ty.qX rfl rfl dd (p8 b ei)) ?_;obtain ⟨_,ej⟩:=oM cf;refine qr (rR 0 Ty.rS rfl Q rfl (by rw [pA];exact rW b ej)) ?_;refine qr (oO rfl rfl ((sF (.inl rfl)).trans (congrArg (fun z=>some (jD.i .u32 z)) (Go.Wk.u32_and (~~~a) p)))) ?_
         refine qr (oO rfl rfl ((sF (.inr (.inr rfl))).trans (congrArg (fun z=>some (jD.i .u32 z)) (Go.Wk.u32_xor (a &&& n) ((~~~a) &&& p))))) ?_;refine qr (oO rfl rfl (congrArg (fun z=>some (jD.i .u32 z)) (xf (q+((j ^^^ l) ^^^ m)) ((a &&& n) ^^^ ((~~~a) &&& p))))) ?_;obtain ⟨_,rfl,_⟩:=tt 1 2 Q d2;refine au ?_;refine qr (oO rfl rfl (congrArg (fun z=>some (jD.i .u32 z)) (xf ((q+((j ^^^ l) ^^^ m))+((a &&& n) ^^^ ((~~~a) &&& p))) x))) ?_;refine qc ?_;obtain ⟨de,ek⟩:=oM cg;refine qr (qV adx Ty.qX rfl rfl de (p8 bH ek)) ?_;obtain ⟨_,d3⟩:=oM cg;refine qr (rR 1 Ty.rS rfl Q rfl (by rw [pA];exact rW bH d3)) ?_;refine qr (oO rfl rfl (congrArg (fun z=>some (jD.i .u32 z)) (xf (((q+((j ^^^ l) ^^^ m))+((a &&& n) ^^^ ((~~~a) &&& p)))+x) D))) ?_;obtain ⟨R,df,S,dg,H⟩:=oU H;obtain ⟨ah,dh,H⟩:=oL H;refine ax ?_;refine lp (D7 Q.oR df) Q ?_;intro eP b1;refine qc ?_;refine lp (D7 b1.oR dg) b1 ?_;intro eQ b2;refine qr (oO rfl rfl ((sF (.inr (.inr rfl))).trans (congrArg (fun z=>some (jD.i .u32 z)) (Go.Wk.u32_xor R S)))) ?_;refine qc ?_;refine lp (D7 b2.oR dh) b2 ?_;intro eR y;refine qr (oO rfl rfl ((sF (.inr (.inr rfl))).trans (congrArg (fun z=>some (jD.i .u32 z)) (Go.Wk.u32_xor (R ^^^ S) ah)))) ?_;obtain ⟨M,bJ,O,bK,H⟩:=oU H;obtain ⟨X,bM,Y,bN,H⟩:=oU H;refine ax ?_;obtain ⟨cE,d4⟩:=oM bJ;refine qr (qV abb Ty.qX rfl rfl cE (p8 b d4)) ?_;obtain ⟨_,d5⟩:=oM bJ;refine qr (rR 0 Ty.rS rfl y rfl (by rw [pA];exact rW b d5)) ?_;refine qr (oO rfl rfl ((sF (.inl rfl)).trans (congrArg (fun z=>some (jD.i .u32 z)) (Go.Wk.u32_and f M)))) ?_;refine qc ?_;obtain ⟨cF,d6⟩:=oM bK;refine qr (qV abb Ty.qX rfl rfl cF (p8 b d6)) ?_;obtain ⟨_,d7⟩:=oM bK;refine qr (rR 0 Ty.rS rfl y rfl (by rw [pA];exact rW b d7)) ?_;refine qr (oO rfl rfl ((sF (.inl rfl)).trans (congrArg (fun z=>some (jD.i .u32 z)) (Go.Wk.u32_and f O)))) ?_
         refine qr (oO rfl rfl ((sF (.inr (.inr rfl))).trans (congrArg (fun z=>some (jD.i .u32 z)) (Go.Wk.u32_xor (f &&& M) (f &&& O))))) ?_;obtain ⟨cG,d8⟩:=oM bM;refine qr (qV abb Ty.qX rfl rfl cG (p8 b d8)) ?_;obtain ⟨_,d9⟩:=oM bM;refine qr (rR 0 Ty.rS rfl y rfl (by rw [pA];exact rW b d9)) ?_;obtain ⟨cH,dA⟩:=oM bN;refine qr (qV abb Ty.qX rfl rfl cH (p8 b dA)) ?_;obtain ⟨_,dB⟩:=oM bN;refine qr (rR 0 Ty.rS rfl y rfl (by rw [pA];exact rW b dB)) ?_;refine qr (oO rfl rfl ((sF (.inl rfl)).trans (congrArg (fun z=>some (jD.i .u32 z)) (Go.Wk.u32_and X Y)))) ?_;refine qr (oO rfl rfl ((sF (.inr (.inr rfl))).trans (congrArg (fun z=>some (jD.i .u32 z)) (Go.Wk.u32_xor ((f &&& M) ^^^ (f &&& O)) (X &&& Y))))) ?_;refine qr (oO rfl rfl (congrArg (fun z=>some (jD.i .u32 z)) (xf ((R ^^^ S) ^^^ ah) (((f &&& M) ^^^ (f &&& O)) ^^^ (X &&& Y))))) ?_;obtain ⟨bt,bO,bu,bP,H⟩:=oU H;obtain ⟨ba,bQ,bv,bR,H⟩:=oU H;obtain ⟨bw,bS,H⟩:=oL H;refine ax ?_;refine qr (oO rfl rfl (congrArg (fun z=>some (jD.i .u32 z)) (xf ((((q+((j ^^^ l) ^^^ m))+((a &&& n) ^^^ ((~~~a) &&& p)))+x)+D) (((R ^^^ S) ^^^ ah)+(((f &&& M) ^^^ (f &&& O)) ^^^ (X &&& Y)))))) ?_;refine qc ?_;obtain ⟨cI,dC⟩:=oM bO;refine qr (qV abb Ty.qX rfl rfl cI (p8 b dC)) ?_;obtain ⟨_,dD⟩:=oM bO;refine qr (rR 0 Ty.rS rfl y rfl (by rw [pA];exact rW b dD)) ?_;obtain ⟨cJ,dE⟩:=oM bP;refine qr (qV abb Ty.qX rfl rfl cJ (p8 b dE)) ?_;obtain ⟨_,dF⟩:=oM bP;refine qr (rR 0 Ty.rS rfl y rfl (by rw [pA];exact rW b dF)) ?_;obtain ⟨cK,dG⟩:=oM bQ;refine qr (qV abb Ty.qX rfl rfl cK (p8 b dG)) ?_;obtain ⟨_,dH⟩:=oM bQ;refine qr (rR 0 Ty.rS rfl y rfl (by rw [pA];exact rW b dH)) ?_;refine qc ?_;refine qr (oO rfl rfl (congrArg (fun z=>some (jD.i .u32 z)) (xf ba ((((q+((j ^^^ l) ^^^ m))+((a &&& n) ^^^ ((~~~a) &&& p)))+x)+D)))) ?_
         refine qc ?_;obtain ⟨cL,dI⟩:=oM bR;refine qr (qV abb Ty.qX rfl rfl cL (p8 b dI)) ?_;obtain ⟨_,dJ⟩:=oM bR;refine qr (rR 0 Ty.rS rfl y rfl (by rw [pA];exact rW b dJ)) ?_;obtain ⟨cM,dK⟩:=oM bS;refine qr (qV abb Ty.qX rfl rfl cM (p8 b dK)) ?_;obtain ⟨_,dL⟩:=oM bS;refine qr (rR 0 Ty.rS rfl y rfl (by rw [pA];exact rW b dL)) ?_;refine qr (Kx (vs:=nW 0 ([(((((q+((j ^^^ l) ^^^ m))+((a &&& n) ^^^ ((~~~a) &&& p)))+x)+D)+(((R ^^^ S) ^^^ ah)+(((f &&& M) ^^^ (f &&& O)) ^^^ (X &&& Y)))),f,bt,bu,(ba+((((q+((j ^^^ l) ^^^ m))+((a &&& n) ^^^ ((~~~a) &&& p)))+x)+D)),a,bv,bw]:List UInt32)) (v:=.agg (pR 8 cW 0 ([(((((q+((j ^^^ l) ^^^ m))+((a &&& n) ^^^ ((~~~a) &&& p)))+x)+D)+(((R ^^^ S) ^^^ ah)+(((f &&& M) ^^^ (f &&& O)) ^^^ (X &&& Y)))),f,bt,bu,(ba+((((q+((j ^^^ l) ^^^ m))+((a &&& n) ^^^ ((~~~a) &&& p)))+x)+D)),a,bv,bw]:List UInt32))) Ty.Nq rfl rfl) ?_;refine sb 0 (pR 8 cW 0 ([(((((q+((j ^^^ l) ^^^ m))+((a &&& n) ^^^ ((~~~a) &&& p)))+x)+D)+(((R ^^^ S) ^^^ ah)+(((f &&& M) ^^^ (f &&& O)) ^^^ (X &&& Y)))),f,bt,bu,(ba+((((q+((j ^^^ l) ^^^ m))+((a &&& n) ^^^ ((~~~a) &&& p)))+x)+D)),a,bv,bw]:List UInt32)) ?_;intro eU co;refine ax ?_;exact nm H ⟨_,rfl,pc,rfl,co⟩
        ·refine pw _ rfl ?_;exact nj ⟨eq,H,⟨_,rfl,pc,b,pk [0,2,3,4] a4⟩⟩
      ·rintro E fr ⟨a9,H,aK,rfl,eB,bI,bA⟩;refine ax ?_;refine qC (fun (s:Int × (List UInt32)) E wq=>∃ (aO:jL),E=[(2,pl c 0),(4,pl d 0),(5,g),(6,u),(13,pl ad 0),(175,.i .i64 s.1)]∧aK.le aO∧(s.2).length=8∧po bA [.box ad (pR 8 cW 0 a9),.row tW g A,.box d (pR 8 cW 0 s.2),.box c (pb (ph 32 (0:UInt8)))] aO wq) H ?_ ?_
       ·exact lo ⟨_,rfl,pc,bn,bA⟩
       ·rintro eL ⟨en,cj⟩ E fs hI H
        try dsimp only at hI
        obtain ⟨aO,rfl,eC,J,ar⟩:=hI;refine ay ?_;refine qy H (fun c5 H=>?_) (fun c5 H=>?_)
        ·refine ay ?_;obtain ⟨cl,bZ,cm,ca,H⟩:=oU H;obtain ⟨f4,d1,H⟩:=oL H;refine rf ar ?_;refine qc ?_;obtain ⟨cV,dW⟩:=oM bZ;refine qr (qV abb Ty.qX rfl rfl cV (p8 J dW)) ?_;obtain ⟨_,dX⟩:=oM bZ;refine qq (rR 2 Ty.rS rfl ar rfl (by rw [pA];exact rW J dX)) ?_;refine qc ?_;obtain ⟨cX,dY⟩:=oM ca;refine qr (qV abb Ty.qX rfl rfl cX (p8 bI dY)) ?_;obtain ⟨_,dZ⟩:=oM ca;refine qq (rR 0 Ty.rS rfl ar rfl (by rw [pA];exact rW bI dZ)) ?_;refine qr (oO rfl rfl (congrArg (fun z=>some (jD.i .u32 z)) (xf cl cm))) ?_;obtain ⟨cY,br⟩:=oM d1;refine qr (qV abb Ty.qX rfl rfl cY (p8 J br)) ?_;refine qu (FG (cs':=pR 8 cW 0 (cj.set en.toNat (cl+cm))) 2 rfl rfl ar rfl rfl Ty.qX (by rw [IQ,pA];exact (p8 J br)) (Hd J (p8 J br) _)) ?_;rintro _ ft bB;refine qw bB ?_;refine ax ?_;exact nm H ⟨aO,rfl,pc,(by rw [Ey];exact J),bB⟩
        ·refine ax ?_;exact nj ⟨cj,H,⟨_,rfl,pc,J,pk [1,2,3] ar⟩⟩
    ·rintro E fk ⟨aY,H,bf,rfl,e9,cC,cx⟩;obtain ⟨e2,cD,H⟩:=oL H;refine ax ?_;refine FJ 64 (aV.length:Int) rfl rfl rfl rfl aba Ty.vA rfl (.inr ⟨_,_,rfl,rfl⟩) (.inl ⟨rfl,rfl⟩) bY cD ?_;intro eo dw;refine ax ?_;exact nm H ⟨_,eo,rfl,pc,(mo dw),cC,cx⟩
   ·refine pw _ rfl ?_;exact nj ⟨B,H,⟨_,rfl,pc,bn,pk [1,2] bj⟩⟩
 ·rintro E w8 ⟨s9,H,F8,rfl,eE,bG,cz⟩;refine qs ?_;refine xm (vF (cs:=pb (ph 32 (0:UInt8))) Ty.Fm rfl cz) ?_;rintro _ eS ⟨aR,rfl,bh⟩;refine qn ?_;refine pe (fun E wq=>∃ ai:List UInt8,qP.k2 ai=some r ∧ ∃ (aH:jL),E=[(2,pl c 0),(22,pl aR 0)]∧F8.le aH∧(ai).length=32∧po bh [.box aR (pb ai),.box c (pb (ph 32 (0:UInt8)))] aH wq) ?_ ?_
  ·refine ax ?_;refine qC (fun (s:Int × (List UInt8)) E wq=>∃ (aJ:jL),E=[(2,pl c 0),(4,pl d 0),(22,pl aR 0),(187,.i .i64 s.1)]∧F8.le aJ∧(s.2).length=32∧po bh [.box aR (pb s.2),.box d (pR 8 cW 0 s9),.box c (pb (ph 32 (0:UInt8)))] aJ wq) H ?_ ?_
   ·exact lo ⟨_,rfl,pc,(AM),bh⟩
   ·rintro eK ⟨em,ci⟩ E fa hI H
    try dsimp only at hI
    obtain ⟨aJ,rfl,e6,ae,bi⟩:=hI;refine ay ?_;refine qy H (fun c3 H=>?_) (fun c3 H=>?_)
    ·obtain ⟨f2,bX,et,dz,H⟩:=oU H;obtain ⟨f3,d0,H⟩:=oL H;refine ay ?_;refine qr (oO rfl rfl (by first | rfl | simp [ru,BG])) ?_;obtain ⟨cT,dU⟩:=oM bX;refine qr (qV abb Ty.qX rfl rfl cT (p8 bG dU)) ?_;obtain ⟨_,dV⟩:=oM bX;refine qr (rR 1 Ty.rS rfl bi rfl (by rw [pA];exact rW bG dV)) ?_;refine qc ?_;refine qr (oO rfl rfl (by first | rfl | simp [ru,BG])) ?_;refine au ?_;refine qr (oO rfl rfl (No dz)) ?_;refine qr (vZ adG acP rfl (Z8 _)) ?_;obtain ⟨cU,bq⟩:=oM d0;refine qr (qV acY Ty.vA rfl rfl cU (p8 ae bq)) ?_;refine um (FG (cs':=pb (ci.set em.toNat et.toUInt8)) 0 rfl rfl bi rfl rfl Ty.vA (by rw [Cy,pA];exact (p8 ae bq)) (X0 ae (p8 ae bq) _)) ?_;rintro _ fg cu;refine ax ?_;exact nm H ⟨aJ,rfl,pc,(by rw [Ey];exact ae),cu⟩
    ·refine pw _ rfl ?_;exact nj ⟨ci,H,⟨_,rfl,pc,ae,pk [0,2] bi⟩⟩
  ·rintro E eT ⟨ai,H,aH,rfl,e3,c8,ex⟩;refine aq ?_;refine sb 1 (pb ai) ?_;intro eY b3;refine qn ?_;obtain rfl:=oi H;refine yw (vs:=[.agg (pb ai)]) rfl ⟨(yB 1 Ty.yg Ty.uL b3 rfl rfl),trivial⟩ ?_;exact ⟨aH,rfl,c8,b3.pick [] (by decide)⟩
def Nx (x0:List UInt8) (x1:List UInt8):Option Int :=
  bd (QN x0 x1) fun a =>
  some a
theorem V5 [Kn (ye aac) K]  {x0:List UInt8} {x1:List UInt8} {r:Int} (hA:Gd F w) (b:x0.length=32) (c:x1.length=32) (H:Nx x0 x1=some r):pa aac K 122 [.agg (pb x0),.agg (pb x1)] w fun v w'=>∃ (F':jL),v = .i .i64 r∧St [] w F F' [] w':=by
 refine ra Tryz.func122 ?_;have hS:=St.start hA;refine qs ?_;refine bx (pb x0) ?_;intro s I y;refine bx (pb x1) ?_;intro x J d;refine ay ?_;obtain ⟨n,z,g,e⟩:=d.F5 1 [0] rfl (by decide) (by decide);obtain ⟨p,A,j,a⟩:=e.F5 0 [] rfl (by decide) (by decide);obtain ⟨G,k,H⟩:=oL H;refine rf a ?_;refine Ng rfl rfl rfl rfl acY Ty.vA rfl (g.at (fun q u h=>by simpa using h)) b ?_;intro B l;refine Ng rfl rfl rfl rfl acY Ty.vA rfl (j.at (fun q u h=>by simpa using h)) c ?_;intro D m;refine lq (VY a.oR (mo l) m k) a ?_;intro L f;exact rz H f
def KL (x0:Chunk) (x1:List UInt8):Option Int :=
  bd (Nx x0.id x1) fun a =>
  some a
theorem V2 [Kn (ye aac) K]  {x0:Chunk} {x1:List UInt8} {r:Int} {a:jD} {c:jD} (hA:Gd F w) (l:oF tB F a x0.data) (m:oF Loc.t F c x0.oN) (h:(x0.id).length=32) (e:x1.length=32) (H:KL x0 x1=some r):pa aac K 133 [.agg (Chunk.cells x0 a c),.agg (pb x1)] w fun v w'=>∃ (F':jL),v = .i .i64 r∧St [] w F F' [] w':=by
 refine ra Tryz.func133 ?_;have hS:=St.start hA;refine qs ?_;refine bx (pb x0.id++([.b x0.pX,a,c]:List jD)) ?_;intro j q n;refine bx (pb x1) ?_;intro k s d;obtain ⟨p,g,H⟩:=oL H;refine ax ?_;refine bl d 1 (pb x0.id) [.b x0.pX,a,c] ?_;refine au ?_;refine lp (V5 d.oR h e g) d ?_;intro u f;exact rz H f
def CH.k1 (x0:List Chunk) (x1:List UInt8) (a:Int):Option (Int × Bool) :=
  bd (only (decide (a < (x0.length:Int))) (ix x0 a) (Chunk.mk (ph 32 (0:UInt8)) false [] [])) fun x4 =>
  bd (only (decide (a < (x0.length:Int))) (KL x4 x1) 0) fun b =>
  some (a,(decide (a < (x0.length:Int))&&decide (b=0)))
def CH.l2 (x0:List Chunk) (x1:List UInt8) (c:(Int × Int)→Option (Int × Bool)):(Int × Int)→Option (Int × Bool)
  | (a,b) =>
    if decide (a < b) then
      bd (ix x0 (wr ((wu (wr (a+b))) / 2 ^ (1:Int).toNat))) fun e =>
      bd (KL e x1) fun d =>
      if decide (d < 0) then
        c (wr (wr ((wu (wr (a+b))) / 2 ^ (1:Int).toNat)+1),b)
      else
        c (a,wr ((wu (wr (a+b))) / 2 ^ (1:Int).toNat))
    else
      CH.k1 x0 x1 a
def CH (x0:List Chunk) (x1:List UInt8):Option (Int × Bool) :=
  loop (CH.l2 x0 x1) (0,(x0.length:Int))
theorem ajX [Kn (ye aac) K]  {x0:List Chunk} {x1:List UInt8} {r:Int × Bool} {j:jD} (hA:Gd F w) (p:oF Chunk.t F j x0) (q:x1.length=32) (H:CH x0 x1=some r):pa aac K 132 [j,.agg (pb x1),.f 133 []] w fun v w'=>∃ (F':jL),v = .qR [.i .i64 r.1,.b r.2]∧St [] w F F' [] w':=by
 refine BM Tryz.func132 ?_;have hS:=St.start hA;refine qs ?_;refine bx (pb x1) ?_;intro m w1 n;refine au ?_;refine aq ?_;refine aq ?_;refine pe (fun E wq=>∃ e:Int,CH.k1 x0 x1 e=some r ∧ ∃ (d:jL),E=[(0,j),(2,.f 133 []),(4,pl m 0),(8,.i .i64 (x0.length:Int)),(9,.i .i64 e)]∧F.le d∧ug n d wq) ?_ ?_
 ·refine xP ?_;refine qC (fun (s:Int × Int) E wq=>∃ (k:jL),E=[(0,j),(2,.f 133 []),(4,pl m 0),(8,.i .i64 (x0.length:Int)),(9,.i .i64 s.1),(10,.i .i64 s.2)]∧F.le k∧ug n k wq) H ?_ ?_
  ·exact lo (jj n)
  ·rintro a6 ⟨Z,ar⟩ E aD hI H
   try dsimp only at hI
   obtain ⟨k,rfl,ad,g⟩:=hI;refine ay ?_;refine qy H (fun B H=>?_) (fun B H=>?_)
   ·refine ax ?_;refine qr (vZ abD adA rfl (rfl)) ?_;refine qr (oO rfl rfl (DP (by decide) (by decide))) ?_;refine qr (vZ adA abD rfl (rfl)) ?_;refine ay ?_;obtain ⟨aO,V,a5,O,H⟩:=oU H;refine rf g ?_;obtain ⟨_,⟨a7,a8,rfl,I,Q,R⟩,am⟩:=qa 35 (p.mono ad) V;refine au ?_;refine bL g 0 (pb x1) [] ?_;refine lq (V2 g.oR Q R I q O) g ?_;intro aJ u;refine au ?_;refine qy H (fun D H=>?_) (fun D H=>?_)
    ·refine ax ?_;exact nm H (jj u)
    ·refine ax ?_;exact nm H (jj u)
   ·refine pw _ rfl ?_;exact nj ⟨Z,H,jj g⟩
 ·rintro E w2 ⟨e,H,d,rfl,ae,c⟩;refine qU ?_;obtain ⟨x4,X,r6,P,H⟩:=oU H;refine yd (fun E wq=>E=[(6,.i .i64 e),(7,.b (decide (e < (x0.length:Int))&&decide (r6=0)))] ∧ ∃ l:jL,d.le l∧St [] w F l [.box m (pb x1)] wq) ?_ ?_
  ·
   rcases uO (decide (e < (x0.length:Int))) with a | a
   ·refine rf c ?_;refine q3 ?_;refine qr (oO rfl rfl yV) ?_;refine qc ?_;refine ri 39 a ?_;refine q3 ?_;have y:=X;rw [qA a] at y;obtain ⟨L,Y⟩:=oM y;obtain ⟨ak,M,h⟩:=(p.mono ae).el Y;obtain ⟨ai,aj,rfl,J,S,U⟩:=M;replace h:=qj 35 h;have G:=h.rq;refine qi aaE Ty.tg G L ?_;refine qq (tD 0 (Chunk.cells x4 ai aj) Ty.Qw Ty.tg rfl (h.mono c.agree) (by first | omega | rfl) rfl (qY rfl)) ?_;refine bL c 0 (pb x1) [] ?_;have x:=P;rw [qA a] at x;refine lq (V2 c.oR S U J q x) c ?_;intro aC z;refine qr (oO rfl rfl uD) ?_;refine q3 ?_;refine qN ?_;exact sj _ ⟨rfl,d,(jL.le.refl _),z⟩ ⟨rfl,(sq rfl (by first | rfl | (rw [a];first | done | rfl) | simp [a])),trivial⟩
   ·refine rf c ?_;refine q3 ?_;refine qr (oO rfl rfl yV) ?_;refine qc ?_;refine ri 39 a ?_;refine pI ?_;refine pI ?_;refine pI ?_;refine pI ?_;refine q3 ?_;refine qN ?_;exact sj _ ⟨rfl,d,(jL.le.refl _),c⟩ ⟨rfl,(sq rfl (by first | rfl | (rw [a];first | done | rfl) | simp [a])),trivial⟩
  rintro E w7 ⟨rfl,l,a4,A⟩;refine tR ?_;exact rz H A
def IX (x0:List Chunk) (x1:List UInt8):Option (Int × Bool) :=
  bd (CH x0 x1) fun a =>
  some (a.1,a.2)
theorem QP [Kn (ye aac) K]  {x0:List Chunk} {x1:List UInt8} {r:Int × Bool} {c:jD} (hA:Gd F w) (d:oF Chunk.t F c x0) (e:x1.length=32) (H:IX x0 x1=some r):pa aac K 82 [c,.agg (pb x1)] w fun v w'=>∃ (F':jL),v = .qR [.i .i64 r.1,.b r.2]∧St [] w F F' [] w':=by
 refine ra Tryz.func82 ?_;have hS:=St.start hA;refine qs ?_;refine bx (pb x1) ?_;intro h k a;obtain ⟨j,g,H⟩:=oL H;refine ax ?_;refine lp (ajX a.oR d e g) a ?_;intro l f;exact rz H f
def Gt (x0:si) (x1:Int):Option ((List UInt8) × si) :=
  if (x0.bad||decide ((x0.b.length:Int) < x1)) then
    bd (rep x1 0) fun sm =>
    some (sm,(si.mk x0.b true))
  else
    bd (cut (α:=UInt8) x0.b 0 x1) fun a =>
    bd (cut (α:=UInt8) x0.b x1 (x0.b.length:Int)) fun wN =>
    some (a,(si.mk wN x0.bad))
theorem Oz {X:List Nat} {x0:si} {x1:Int} {r:(List UInt8) × si} {s8:Nat} {a:jD} (hS:St X w F F [.box s8 [a,.b x0.bad]] w) (c:oF tB F a (x0.b)) (H:Gt x0 x1=some r):pa aac K 136 [pl s8 0,.i .i64 x1] w fun v w'=>∃ (F':jL) (d:jD) (f:jD),v=d∧oF tB F' d (r.1)∧oF tB F' f (r.2.b)∧St X w F F' [.box s8 [f,.b r.2.bad]] w':=by
 refine ra Tryz.func136 ?_;refine aZ ?_;refine qy H (fun m H=>?_) (fun m H=>?_)
 ·refine aq ?_;refine sc 0 ([a,.b true]) ?_;intro I l;obtain ⟨sm,p,H⟩:=oL H;refine ax ?_;refine xm (Vb (t:=tB) (x0:=0) aba Ty.BN rfl rfl (T4 Ty.Pu rfl) p l) ?_;rintro z D h;refine au ?_;obtain ⟨g,B,n,j⟩:=h.rv 0 [1] rfl (by decide) (by decide);obtain rfl:=oi H;refine qt ?_;exact ⟨g,z,a,rfl,n,(mo c),j⟩
 ·obtain ⟨A,q,H⟩:=oL H;refine ax ?_;refine FJ 0 x1 rfl rfl rfl rfl aba Ty.vA rfl (.inl ⟨rfl,rfl⟩) (.inr ⟨_,_,rfl,rfl⟩) c q ?_;intro y u;obtain ⟨wN,s,H⟩:=oL H;refine ax ?_;refine FJ x1 (x0.b.length:Int) rfl rfl rfl rfl aba Ty.vA rfl (.inr ⟨_,_,rfl,rfl⟩) (.inl ⟨rfl,rfl⟩) c s ?_;intro e x;refine au ?_;refine sc 0 ([e,.b x0.bad]) ?_;intro G k;refine qn ?_;refine aq ?_;obtain rfl:=oi H;refine qt ?_;exact ⟨F,y,e,rfl,u,x,k⟩
def AT.k1 (x1:Int) (x2:Int) (a:Int):Option (Int × Int × Int) :=
  some (a,wr (x1+x2),0)
def AT.l2 (x1:Int) (x2:Int) (c:List UInt8) (d:(Int × Int)→Option (Int × Int × Int)):(Int × Int)→Option (Int × Int × Int)
  | (b,a) =>
    if decide (a < (c.length:Int)) then
      bd (ix c a) fun e =>
      d (bits .or .i64 (wr (b*2 ^ (8:Int).toNat)) (e.toNat:Int),wr (a+1))
    else
      AT.k1 x1 x2 b
def AT (x0:List UInt8) (x1:Int) (x2:Int):Option (Int × Int × Int) :=
  if (((decide (x2 < 1)||decide (7 < x2))||decide (x1 < 0))||decide ((x0.length:Int) < x1)) then
    some (0,0,1)
  else
    if decide (wr ((x0.length:Int) - x1) < x2) then
      some (0,0,3)
    else
      bd (cut (α:=UInt8) x0 x1 (wr (x1+x2))) fun a =>
      loop (AT.l2 x1 x2 a) (0,0)
theorem VO {x0:List UInt8} {x1:Int} {x2:Int} {r:Int × Int × Int} {e:jD} (hA:Gd F w) (f:oF tB F e x0) (H:AT x0 x1 x2=some r):pa aac K 89 [e,.i .i64 x1,.i .i64 x2] w fun v w'=>∃ (F':jL),v = .qR [.i .i64 r.1,.i .i64 r.2.1,.i .i64 r.2.2]∧St [] w F F' [] w':=by
 refine BM Tryz.func89 ?_;have hS:=St.start hA;refine aZ ?_;refine qy H (fun k H=>?_) (fun k H=>?_)
 ·exact rz H hS
 ·refine aq ?_;refine qy H (fun h H=>?_) (fun h H=>?_)
  ·exact rz H hS
  ·refine Bo ?_;refine Vh ?_;refine tR ?_;refine pe (fun E wq=>∃ c:Int,AT.k1 x1 x2 c=some r ∧ ∃ (a:jL),E=[(1,.i .i64 x1),(2,.i .i64 x2),(6,.i .i64 c)]∧F.le a∧ug hS a wq) ?_ ?_
   ·obtain ⟨q,l,H⟩:=oL H;refine aq ?_;refine FJ x1 (wr (x1+x2)) rfl rfl rfl rfl aba Ty.vA rfl (.inr ⟨_,_,rfl,rfl⟩) (.inr ⟨_,_,rfl,rfl⟩) f l ?_;intro x m;refine ax ?_;refine qC (fun (s:Int × Int) E wq=>∃ (b:jL),E=[(1,.i .i64 x1),(2,.i .i64 x2),(6,.i .i64 s.1),(40,x),(41,.i .i64 (q.length:Int)),(42,.i .i64 s.2)]∧F.le b∧ug hS b wq) H ?_ ?_
    ·exact lo (jj hS)
    ·rintro A ⟨p,y⟩ E D hI H
     try dsimp only at hI
     obtain ⟨b,rfl,u,d⟩:=hI;refine ay ?_;refine qy H (fun j H=>?_) (fun j H=>?_)
     ·obtain ⟨G,n,H⟩:=oL H;obtain ⟨_,rfl,_⟩:=qa 1 (m.mono u) n;refine ay ?_;refine qr (oO rfl rfl (EI (by decide) (by decide))) ?_;refine qc ?_;refine qr (vZ acP abD rfl (J3 _)) ?_;refine qr (oO rfl rfl (sF (.inr (.inl rfl)))) ?_;refine ax ?_;exact nm H (jj d)
     ·refine pw _ rfl ?_;exact nj ⟨p,H,jj d⟩
   ·rintro E B ⟨c,H,a,rfl,z,g⟩;exact rz H g
def BJ (x0:si) (x1:Int):Option (Int × si) :=
  bd (Gt x0 x1) fun a =>
  bd (AT a.1 0 x1) fun b =>
  some (b.1,a.2)
theorem LY {X:List Nat} {x0:si} {x1:Int} {r:Int × si} {s8:Nat} {d:jD} (hS:St X w F F [.box s8 [d,.b x0.bad]] w) (l:oF tB F d (x0.b)) (H:BJ x0 x1=some r):pa aac K 137 [pl s8 0,.i .i64 x1] w fun v w'=>∃ (F':jL) (e:jD),v = .i .i64 r.1∧oF tB F' e (r.2.b)∧St X w F F' [.box s8 [e,.b r.2.bad]] w':=by
 refine ra Tryz.func137 ?_;obtain ⟨n,j,p,k,H⟩:=oU H;refine ax ?_;refine lm (Oz (x0:=x0) (x1:=x1) (hS.u9 [0] (by decide)) l j) ?_;rintro q s ⟨f,_,aln,rfl,h,aeu,c⟩;have a:=hS.uV [0] [] (by decide) (by decide) c;have m:=c.ext;refine qc ?_;refine lp (VO a.oR h k) a ?_;intro u g;refine au ?_;refine aq ?_;obtain rfl:=oi H;refine qt ?_;exact ⟨f,aln,rfl,aeu,g⟩
def BP.k1:Option Bool :=
  some true
def BP.l2 (x0:List UInt8) (c:Int→Option Bool):Int→Option Bool
  | a =>
    if decide (a < (x0.length:Int)) then
      bd (ix x0 a) fun b =>
      bd (only (!decide ((b.toNat:Int) < 33)) (ix x0 a) 0) fun d =>
      if (decide ((b.toNat:Int) < 33)||decide (126 < (d.toNat:Int))) then
        some false
      else
        c (wr (a+1))
    else
      BP.k1
def BP (x0:List UInt8):Option Bool :=
  if (decide ((x0.length:Int) < 1)||decide (20 < (x0.length:Int))) then
    some false
  else
    loop (BP.l2 x0) 0
theorem Z3 {x0:List UInt8} {r:Bool} (hA:Gd F w) (H:BP x0=some r):pa aac K 160 [.s x0] w fun v w'=>∃ (F':jL),v = .b r∧St [] w F F' [] w':=by
 refine rA Tryz.func160 ?_;have hS:=St.start hA;refine aZ ?_;refine qy H (fun g H=>?_) (fun g H=>?_)
 ·exact rz H hS
 ·refine qk ?_;refine pe (jN (BP.k1=some r) [] hS) ?_ ?_
  ·refine ax ?_;refine lj hS (fun s:Int=>[(0,.s x0),(13,.i .i64 (x0.length:Int)),(14,.i .i64 s)]) H ?_;intro B y x G A a H;refine ay ?_;refine qy H (fun h H=>?_) (fun h H=>?_)
   ·obtain ⟨I,l,q,m,H⟩:=oU H;refine ay ?_;obtain ⟨j,n⟩:=oM l;refine qr (Nc acZ rfl rfl j n) ?_;refine aw ?_;refine uC (v:=.i .u8 (q.toNat:Int)) rfl rfl rfl rfl (fun ⟨c,_⟩=>?_) ?_
    ·rw [c];intro hK;have d:=m;rw [qA (by first | rfl | (rw [c];first | done | rfl) | simp [c])] at d;obtain ⟨k,p⟩:=oM d;refine qr (Nc acZ rfl rfl k p) ?_;exact hK
    refine aw ?_;refine qy H (fun f H=>?_) (fun f H=>?_)
    ·exact rz H a
    ·refine ax ?_;exact nm H (jj a)
   ·refine pw _ rfl ?_;exact nj ⟨H,jj a⟩
  ·rintro E D ⟨H,u,rfl,z,e⟩;exact rz H e
def Oy (x0:Part):Option Bool :=
  bd (BP x0.path) fun a =>
  some ((((a&&decide (0≤x0.size))&&decide (x0.size≤200))&&decide ((x0.ids.length:Int)≤25))&&(decide ((x0.ids.length:Int)=0) == decide (x0.size=0)))
theorem ag9 {x0:Part} {r:Bool} {a:jD} (hA:Gd F w) (h:oF rX F a x0.ids) (H:Oy x0=some r):pa aac K 161 [.agg (Part.cells x0 a)] w fun v w'=>∃ (F':jL),v = .b r∧St [] w F F' [] w':=by
 refine rA Tryz.func161 ?_;have hS:=St.start hA;refine qs ?_;refine bx ([.s x0.path,.i .i64 x0.size,a]) ?_;intro g k c;obtain ⟨j,f,H⟩:=oL H;refine ax ?_;refine lp (Z3 c.oR f) c ?_;intro l d;refine aw ?_;refine uC (v:=.b (decide ((x0.ids.length:Int)=0) == decide (x0.size=0))) rfl rfl rfl rfl (fun ⟨e,_⟩=>?_) ?_
 ·rw [e];exact (qr (oO rfl rfl (VI Tryz.underlying4)) ·)
 refine aw ?_;exact rz H d
def BI.k1:Option Int :=
  some 0
def BI.l2 (x0:oP) (e:Int→Option Int):Int→Option Int
  | a =>
    if decide (a < (x0.parts.length:Int)) then
      bd (ix x0.parts a) fun b =>
      bd (Oy b) fun c =>
      bd (only ((!(!c))&&decide (0 < a)) (ix x0.parts (wr (a - 1))) (Part.mk [] 0 [])) fun d =>
      if ((!c)||(decide (0 < a)&&(qI b.path d.path||b.path == d.path))) then
        some 1
      else
        e (wr (a+1))
    else
      BI.k1
def BI (x0:oP):Option Int :=
  bd (BP x0.name) fun a =>
  if ((!a)||decide (6 < (x0.parts.length:Int))) then
    some 1
  else
    loop (BI.l2 x0) 0
theorem Yp {x0:oP} {r:Int} {c:jD} (hA:Gd F w) (a:oF Part.t F c x0.parts) (H:BI x0=some r):pa aac K 124 [.agg (oP.cells x0 c)] w fun v w'=>∃ (F':jL),v = .i .i64 r∧St [] w F F' [] w':=by
 refine rA Tryz.func124 ?_;have hS:=St.start hA;refine qs ?_;refine bx ([.s x0.name,c]) ?_;intro k R g;obtain ⟨P,x,H⟩:=oL H;refine ay ?_;refine lp (Z3 g.oR x) g ?_;intro Y d;refine aw ?_;refine qy H (fun q H=>?_) (fun q H=>?_)
 ·exact rz H d
 ·refine qk ?_;refine pe (jO (BI.k1=some r) [] d []) ?_ ?_
  ·refine ax ?_;refine lj d (fun s:Int=>[(1,pl k 0),(16,c),(17,.i .i64 (x0.parts.length:Int)),(18,.i .i64 s)]) H ?_;intro Q L B S A l H;refine ay ?_;refine qy H (fun n H=>?_) (fun n H=>?_)
   ·obtain ⟨f,z,H⟩:=oL H;obtain ⟨_,⟨j,rfl,y⟩,J⟩:=qa 3 (a.mono A) z;refine ay ?_;refine al ?_;intro G U I;refine qc ?_;refine sb 0 ([.s f.path,.i .i64 f.size,j]) ?_;intro V b;refine ay ?_;obtain ⟨O,u,ad,e,H⟩:=oU H;refine rf b ?_;refine bL b 0 (Part.cells f j) [] ?_;refine lq (ag9 b.oR y u) b ?_;intro X h;refine aw ?_;refine xS (mo a) e ?_;refine xS (mo a) e ?_;refine xS (mo a) e ?_;refine aw ?_;refine qy H (fun p H=>?_) (fun p H=>?_)
    ·exact rz H h
    ·refine ax ?_;exact nm H (jj (pk [1] h))
   ·refine pw _ rfl ?_;exact nj ⟨H,jj (pk [] l)⟩
  ·rintro E Z ⟨H,D,rfl,M,m⟩;exact rz H m
end
end Go.Wk.Lf
end
