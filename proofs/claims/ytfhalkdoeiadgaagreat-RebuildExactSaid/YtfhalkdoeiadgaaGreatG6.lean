/-  -/
import Derived.Test.YtfhalkdoeiadgaaGreatG5
set_option linter.unusedVariables false
set_option linter.unusedSimpArgs false
open Go.Proofs.Tryz renaming prog→aac, underlying109→acv, underlying163→adG, underlying164→adx, underlying166→abb, underlying194→adD, underlying24→aam, underlying25→aaE, underlying26→aaF, underlying3→abD, underlying31→aba, underlying5→acP, underlying56→adz, underlying78→adA, underlying82→acY, underlying9→acZ
open List renaming all_append→rC, all_cons→tZ, all_nil→uR, eq_nil_of_length_eq_zero→tP, getElem?_eq_some_iff→qO, getElem?_set_self→vN, length_replicate→AM, length_set→Ey, replicate→ph
open Nat renaming le_of_ble_eq_true→qY, zero_add→pA, zero_lt_succ→wU
open UInt32 renaming ofNat→rD
section
namespace Go.Wk.Lf
open Go.V Go.Proofs
noncomputable section
set_option maxRecDepth 100000
variable {K:Tb} {F:jL} {w:Hp}
def Cd.k1 (x0:mZ):Option Bool :=
  some (decide ((x0.oD.length:Int)≤200))
def Cd.l2 (x0:mZ) (g:Int→Option Bool):Int→Option Bool
  | a =>
    if decide (a < (x0.oD.length:Int)) then
      bd (ix x0.oD a) fun x7 =>
      bd (Ac x7.seq 0 (wr (x0.seq - 1))) fun b =>
      bd (only ((!(!b))&&decide (0 < a)) (ix x0.oD (wr (a - 1))) (oC.mk 0 0 [])) fun c =>
      bd (only (!((!b)||(decide (0 < a)&&decide (x7.seq≤c.seq)))) (Ac x7.of 0 (wr (x7.seq - 1))) false) fun d =>
      bd (only (!((((!b)||(decide (0 < a)&&decide (x7.seq≤c.seq)))||(!d))||decide ((x7.oN.length:Int)=0))) (AU x0 x7.oN) false) fun e =>
      if (((((!b)||(decide (0 < a)&&decide (x7.seq≤c.seq)))||(!d))||decide ((x7.oN.length:Int)=0))||(!e)) then
        some false
      else
        bd (Pf x0.oB x7) fun f =>
        if f then
          some false
        else
          g (wr (a+1))
    else
      Cd.k1 x0
def Cd (x0:mZ):Option Bool :=
  loop (Cd.l2 x0) 0
set_option maxHeartbeats 2000000 in
theorem ab1 {x0:mZ} {r:Bool} {d:jD} {e:jD} {a:jD} {f:jD} (hA:Gd F w) (n:oF lU.t F d x0.oB) (D:oF Chunk.t F e x0.chunks) (c:oF oC.t F a x0.oD) (G:oF oH.t F f x0.oK) (H:Cd x0=some r):pa aac K 78 [.agg (mZ.cells x0 d e a f)] w fun v w'=>∃ (F':jL),v = .b r∧St [] w F F' [] w':=by
 refine rA Tryz.func78 ?_;have hS:=St.start hA;refine qs ?_;refine bx ([.i .i64 x0.seq,d,e,a,f]) ?_;intro m w1 p;refine au ?_;refine pe (jN (Cd.k1 x0=some r) [(1,pl m 0)] p) ?_ ?_
 ·refine ax ?_;refine lj p (fun s:Int=>[(1,pl m 0),(6,a),(7,.i .i64 (x0.oD.length:Int)),(8,.i .i64 s)]) H ?_;intro a9 i4 F3 w3 Y J H;refine ay ?_;refine qy H (fun O H=>?_) (fun O H=>?_)
  ·obtain ⟨x7,X,H⟩:=oL H;obtain ⟨_,⟨Z,rfl,B⟩,ak⟩:=qa 3 (c.mono Y) X;refine ay ?_;refine al ?_;intro g9 w9 aj;refine qc ?_;refine sb 0 ([.i .i64 x7.seq,.i .i64 x7.of,Z]) ?_;intro aD j;refine ay ?_;obtain ⟨a5,R,aV,l,H⟩:=oU H;obtain ⟨a6,S,a7,U,H⟩:=oU H;refine rf j ?_;refine au ?_;refine lq (Bs j.oR R) j ?_;intro aH x;refine aw ?_;refine xS (mo c) l ?_;refine xS (mo c) l ?_;refine xS (mo c) l ?_;refine aw ?_;refine gw x S (fun y=>Bs x.oR y) ?_;intro aO g;refine qw g ?_;refine aw ?_;refine uC (v:=.agg (mZ.cells x0 d e a f)) rfl rfl rfl rfl (fun ⟨L,_⟩=>?_) ?_
   ·rw [L];exact (qq (yy 1 (mZ.cells x0 d e a f) Ty.yU Ty.zh (wU _) rfl g rfl (fun q u h=>xd (post:=[]) rfl h)) ·)
   refine aw ?_;refine gw g U (fun y=>QQ g.oR (mo n) (mo D) (mo c) (mo G) B y) ?_;intro aR k;refine qw k ?_;refine aw ?_;refine qy H (fun P H=>?_) (fun P H=>?_)
   ·exact rz H k
   ·refine ay ?_;obtain ⟨ah,a4,M,z⟩:=k.F5 0 [1] rfl (by decide) (by decide);obtain ⟨a8,V,H⟩:=oL H;refine ax ?_;refine lp (aka z.oR (mo n) (mo B) M V) z ?_;intro aT A;refine qn ?_;refine qy H (fun Q H=>?_) (fun Q H=>?_)
    ·exact rz H A
    ·refine ax ?_;exact nm H (jj A)
  ·refine pw _ rfl ?_;exact nj ⟨H,jj J⟩
 ·rintro E w2 ⟨H,F2,rfl,ar,I⟩;exact rz H I
def KJ (x0:mZ):Option Int :=
  bd (Ac x0.seq 0 1073741824) fun a =>
  bd (only a (Ce x0.oK) false) fun b =>
  bd (only (a&&b) (Cc x0) false) fun c =>
  bd (only ((a&&b)&&c) (uw x0) false) fun d =>
  bd (only (((a&&b)&&c)&&d) (Cd x0) false) fun e =>
  if ((((a&&b)&&c)&&d)&&e) then
    some 0
  else
    some 1
theorem V1 [Kn (ye aac) K]  {x0:mZ} {r:Int} {e:jD} {f:jD} {g:jD} {h:jD} (hA:Gd F w) (b:oF lU.t F e x0.oB) (c:oF Chunk.t F f x0.chunks) (d:oF oC.t F g x0.oD) (a:oF oH.t F h x0.oK) (H:KJ x0=some r):pa aac K 34 [.agg (mZ.cells x0 e f g h)] w fun v w'=>∃ (F':jL),v = .i .i64 r∧St [] w F F' [] w':=by
 refine rA Tryz.func34 ?_;have hS:=St.start hA;refine qs ?_;refine bx ([.i .i64 x0.seq,e,f,g,h]) ?_;intro B M j;obtain ⟨D,s,G,u,H⟩:=oU H;obtain ⟨I,x,J,z,H⟩:=oU H;obtain ⟨L,A,H⟩:=oL H;refine ay ?_;refine lp (Bs j.oR s) j ?_;intro S p;refine aw ?_;refine gw p u (fun y=>ab3 p.oR a y) ?_;intro O k;refine pQ.now ?_;refine aw ?_;refine gw k x (fun y=>abZ k.oR b c d a y) ?_;intro P l;refine pQ.now ?_;refine aw ?_;refine gw l z (fun y=>ab2 l.oR b c d a y) ?_;intro Q m;refine pQ.now ?_;refine aw ?_;refine gw m A (fun y=>ab1 m.oR b c d a y) ?_;intro R n;refine pQ.now ?_;refine aw ?_;refine qy H (fun q H=>?_) (fun q H=>?_)
 ·exact rz H n
 ·refine qk ?_;exact rz H n
def Pd (x0:List lU):Option (List lU) :=
  bd (app (α:=lU) ([]:List lU) x0) fun l6 =>
  some l6
theorem aj3 {x0:List lU} {r:(List lU)} {f:jD} (hA:Gd F w) (a:oF lU.t F f x0) (H:Pd x0=some r):pa aac K 99 [f] w fun v w'=>∃ (F':jL) (e:jD),v=e∧St [] w F F' [.row lU.t e (r)] w':=by
 refine rA Tryz.func99 ?_;have hS:=St.start hA;refine ay ?_;refine FL rfl rfl rfl rfl aam rfl rfl a.ln ?_;intro k i;refine qn ?_;refine uS rfl (fun c=>?_) (fun c=>?_)
 ·have d:x0=[]:=tP (i c);have H:(some []:Option (List lU))=some r:=by first | (rw [d] at H;exact H) | (subst d;exact H)
  refine aq ?_;have g:=hS.sY lU.t;exact rx H g
 ·obtain ⟨l6,j,H⟩:=oL H;refine ax ?_;refine xm (sh (t:=lU.t) (vs:=[]) (xs:=([]:List lU)) aam Ty.Bb rfl trivial rfl rfl hS) ?_;rintro l n b;refine qc ?_;refine ap 0 b (a.src b.agree) j ?_;intro m p h;exact rx H h
def Pa (x0:List Chunk):Option (List Chunk) :=
  bd (app (α:=Chunk) ([]:List Chunk) x0) fun l6 =>
  some l6
theorem aj0 {x0:List Chunk} {r:(List Chunk)} {f:jD} (hA:Gd F w) (a:oF Chunk.t F f x0) (H:Pa x0=some r):pa aac K 100 [f] w fun v w'=>∃ (F':jL) (e:jD),v=e∧St [] w F F' [.row Chunk.t e (r)] w':=by
 refine rA Tryz.func100 ?_;have hS:=St.start hA;refine ay ?_;refine FL rfl rfl rfl rfl aaE rfl rfl a.ln ?_;intro k i;refine qn ?_;refine uS rfl (fun c=>?_) (fun c=>?_)
 ·have d:x0=[]:=tP (i c);have H:(some []:Option (List Chunk))=some r:=by first | (rw [d] at H;exact H) | (subst d;exact H)
  refine aq ?_;have g:=hS.sY Chunk.t;exact rx H g
 ·obtain ⟨l6,j,H⟩:=oL H;refine ax ?_;refine xm (sh (t:=Chunk.t) (vs:=[]) (xs:=([]:List Chunk)) aaE Ty.Dy rfl trivial rfl rfl hS) ?_;rintro l n b;refine qc ?_;refine ap 0 b (a.src b.agree) j ?_;intro m p h;exact rx H h
def Pb (x0:List oC):Option (List oC) :=
  bd (app (α:=oC) ([]:List oC) x0) fun l6 =>
  some l6
theorem aj1 {x0:List oC} {r:(List oC)} {f:jD} (hA:Gd F w) (a:oF oC.t F f x0) (H:Pb x0=some r):pa aac K 101 [f] w fun v w'=>∃ (F':jL) (e:jD),v=e∧St [] w F F' [.row oC.t e (r)] w':=by
 refine rA Tryz.func101 ?_;have hS:=St.start hA;refine ay ?_;refine FL rfl rfl rfl rfl aaF rfl rfl a.ln ?_;intro k i;refine qn ?_;refine uS rfl (fun c=>?_) (fun c=>?_)
 ·have d:x0=[]:=tP (i c);have H:(some []:Option (List oC))=some r:=by first | (rw [d] at H;exact H) | (subst d;exact H)
  refine aq ?_;have g:=hS.sY oC.t;exact rx H g
 ·obtain ⟨l6,j,H⟩:=oL H;refine ax ?_;refine xm (sh (t:=oC.t) (vs:=[]) (xs:=([]:List oC)) aaF Ty.Ei rfl trivial rfl rfl hS) ?_;rintro l n b;refine qc ?_;refine ap 0 b (a.src b.agree) j ?_;intro m p h;exact rx H h
def TC (x0:List Part):Option (List Part) :=
  bd (app (α:=Part) ([]:List Part) x0) fun l6 =>
  some l6
theorem aj2 {x0:List Part} {r:(List Part)} {f:jD} (hA:Gd F w) (a:oF Part.t F f x0) (H:TC x0=some r):pa aac K 151 [f] w fun v w'=>∃ (F':jL) (e:jD),v=e∧St [] w F F' [.row Part.t e (r)] w':=by
 refine rA Tryz.func151 ?_;have hS:=St.start hA;refine ay ?_;refine FL rfl rfl rfl rfl adz rfl rfl a.ln ?_;intro k i;refine qn ?_;refine uS rfl (fun c=>?_) (fun c=>?_)
 ·have d:x0=[]:=tP (i c);have H:(some []:Option (List Part))=some r:=by first | (rw [d] at H;exact H) | (subst d;exact H)
  refine aq ?_;have g:=hS.sY Part.t;exact rx H g
 ·obtain ⟨l6,j,H⟩:=oL H;refine ax ?_;refine xm (sh (t:=Part.t) (vs:=[]) (xs:=([]:List Part)) adz Ty.Ml rfl trivial rfl rfl hS) ?_;rintro l n b;refine qc ?_;refine ap 0 b (a.src b.agree) j ?_;intro m p h;exact rx H h
def Cb.k1 (x0:oP) (l7:List Part):Option oP :=
  some (oP.mk x0.name l7)
def Cb.l2 (x0:oP) (d:(List Part)) (e:(Int × (List Part))→Option oP):(Int × (List Part))→Option oP
  | (a,rZ) =>
    if decide (a < (d.length:Int)) then
      bd (ix rZ a) fun b =>
      bd (Mv b.ids) fun c =>
      e (wr (a+1),(rZ.set a.toNat (Part.mk b.path b.size c)))
    else
      Cb.k1 x0 rZ
def Cb (x0:oP):Option oP :=
  bd (TC x0.parts) fun a =>
  loop (Cb.l2 x0 a) (0,a)
theorem abX {x0:oP} {r:oP} {m:jD} (hA:Gd F w) (L:oF Part.t F m x0.parts) (H:Cb x0=some r):pa aac K 102 [.agg (oP.cells x0 m)] w fun v w'=>∃ (F':jL) (G:jD),v = .agg (oP.cells r G)∧oF Part.t F' G (r.parts)∧St [] w F F' [] w':=by
 refine rA Tryz.func102 ?_;have hS:=St.start hA;refine qs ?_;refine bx ([.s x0.name,m]) ?_;intro e w1 aj;refine al ?_;intro f w2 q;obtain ⟨r3,S,H⟩:=oL H;refine ax ?_;refine lm (aj2 q.oR L S) ?_;rintro a w4 ⟨p,_,rfl,B⟩;have ak:=q.call B;have a6:=B.ext;refine au ?_;refine sc 2 ([.s x0.name,a]) ?_;intro w5 g;refine qn ?_;refine pe (fun E wq=>∃ l7:List Part,Cb.k1 x0 l7=some r ∧ ∃ (j:jL),E=[(1,pl e 0),(2,pl f 0)]∧p.le j∧po g [.row Part.t a l7,.box f [.s [],.sl none 0 (.k 0)],.box e [.s x0.name,a]] j wq) ?_ ?_
 ·refine aq ?_;refine qr (qD adz rfl (g.rB (k:=0) rfl)) ?_;refine ax ?_;refine qC (fun (s:Int × (List Part)) E wq=>∃ (h:jL),E=[(1,pl e 0),(2,pl f 0),(10,.i .i64 (r3.length:Int)),(11,.i .i64 s.1)]∧p.le h∧po g [.row Part.t a s.2,.box f [.s [],.sl none 0 (.k 0)],.box e [.s x0.name,a]] h wq) H ?_ ?_
  ·exact lo (jj g)
  ·rintro a7 ⟨V,rZ⟩ E aC hI H
   try dsimp only at hI
   obtain ⟨h,rfl,ar,b⟩:=hI;refine ay ?_;refine qy H (fun O H=>?_) (fun O H=>?_)
   ·refine ay ?_;obtain ⟨n,D,Z,R,H⟩:=oU H;have d:=b.tK 2 rfl;refine rh 2 d b ?_;refine au ?_;refine hl 2 d b ?_;obtain ⟨_,⟨a8,rfl,U⟩,P⟩:=tt 3 0 b D;refine au ?_;refine qq (su 2 Ty.QR rfl P (by first | omega | rfl) rfl) ?_;refine ql (ZJ b.oR U R) ?_;rintro I aH ⟨ah,_,rfl,A⟩;have u:=b.call A;have Y:=A.ext;refine nf 3 d u Y ?_;refine au ?_;obtain ⟨ae,X,l,y⟩:=u.rv 0 [1,2,3] rfl (by decide) (by decide);refine wg 2 d y X ?_;refine qu (yx (c:=[I]) 0 (V.toNat) 2 n (Part.mk n.path n.size Z) rfl rfl y rfl (oM D).2 (by first | rfl | (show _=_*3+_;omega)) l.ln.cells Ty.ZB (by simp only [tZ,uR,rC,l.ln.one];rfl) (qY rfl) (by rintro cs ⟨a2,rfl,b2⟩;exact ⟨I,rfl,l⟩)) ?_;rintro _ aJ x;refine qh 2 d x ?_;refine ax ?_;exact nm H (jj x)
   ·refine pw _ rfl ?_;exact nj ⟨rZ,H,jj b⟩
 ·rintro E w6 ⟨l7,H,j,rfl,a4,am⟩;refine aq ?_;refine sb 1 ([.s x0.name,a]) ?_;intro w8 M;refine qn ?_;obtain ⟨J,a5,Q,z⟩:=M.rv 0 [1,2] rfl (by decide) (by decide);obtain rfl:=oi H;refine yw (vs:=[.agg (oP.cells (oP.mk x0.name l7) a)]) rfl ⟨(yB 0 Ty.zA Ty.zj z rfl rfl),trivial⟩ ?_;exact ⟨J,a,rfl,Q,z.pick [] (by decide)⟩
def Pe (x0:List UInt8):Option (List UInt8) :=
  bd (app (α:=UInt8) ([]:List UInt8) x0) fun l6 =>
  some l6
theorem aj4 {x0:List UInt8} {r:(List UInt8)} {f:jD} (hA:Gd F w) (a:oF tB F f x0) (H:Pe x0=some r):pa aac K 103 [f] w fun v w'=>∃ (F':jL) (e:jD),v=e∧St [] w F F' [.row tB e (r)] w':=by
 refine rA Tryz.func103 ?_;have hS:=St.start hA;refine ay ?_;refine FL rfl rfl rfl rfl aba rfl rfl a.ln ?_;intro k i;refine qn ?_;refine uS rfl (fun c=>?_) (fun c=>?_)
 ·have d:x0=[]:=tP (i c);have H:(some []:Option (List UInt8))=some r:=by first | (rw [d] at H;exact H) | (subst d;exact H)
  refine aq ?_;have g:=hS.sY tB;exact rx H g
 ·obtain ⟨l6,j,H⟩:=oL H;refine ax ?_;refine xm (sh (t:=tB) (vs:=[]) (xs:=([]:List UInt8)) aba Ty.BN rfl trivial rfl rfl hS) ?_;rintro l n b;refine qc ?_;refine ap 0 b (a.src b.agree) j ?_;intro m p h;exact rx H h
theorem le_toNat {a n:Nat} {i:Int} (hl:a=n) (b:0≤i) (h:¬ i < (n:Int)):a≤i.toNat:=by omega
theorem TY {i:Int} {n:Nat} (a:0≤i) (h:i < (n:Int)) (hf:n≤1073741824):(wr (i+1)).toNat=i.toNat+1:=by
  have Sh:wr (i+1)=i+1:=LN (by omega) (by omega);rw [Sh];omega
theorem Ik {i:Int} {n:Nat} (a:0≤i) (h:i < (n:Int)) (hf:n≤1073741824):0≤wr (i+1):=by
  have Sh:wr (i+1)=i+1:=LN (by omega) (by omega);rw [Sh];omega
theorem adh {l r:List lU} (h:Pd l=some r):r.length≤1073741824:=by
  obtain ⟨l6,a,q2⟩:=oL h;obtain ⟨q3,rfl⟩:=FO a;obtain rfl:=oi q2
  simpa using q3
theorem adf {l r:List Chunk} (h:Pa l=some r):r.length≤1073741824:=by
  obtain ⟨l6,a,q2⟩:=oL h;obtain ⟨q3,rfl⟩:=FO a;obtain rfl:=oi q2
  simpa using q3
theorem adg {l r:List oC} (h:Pb l=some r):r.length≤1073741824:=by
  obtain ⟨l6,a,q2⟩:=oL h;obtain ⟨q3,rfl⟩:=FO a;obtain rfl:=oi q2
  simpa using q3
def uh.k3 (x0:mZ) (c:(List oH)) (pN:List lU) (a:List Chunk) (b:List oC):Option mZ :=
  some (mZ.mk x0.seq pN a b c)
def uh.l4 (x0:mZ) (e:(List oC)) (f:(List oH)) (pN:List lU) (c:List Chunk) (g:(Int × (List oC))→Option mZ):(Int × (List oC))→Option mZ
  | (a,uo) =>
    if decide (a < (e.length:Int)) then
      bd (ix uo a) fun b =>
      bd (El b.oN) fun d =>
      g (wr (a+1),(uo.set a.toNat (oC.mk b.seq b.of d)))
    else
      uh.k3 x0 f pN c uo
def uh.k2 (x0:mZ) (a:(List oC)) (c:(List oH)) (pN:List lU) (b:List Chunk):Option mZ :=
  loop (uh.l4 x0 a c pN b) (0,a)
def uh.l5 (x0:mZ) (e:(List Chunk)) (g:(List oC)) (h:(List oH)) (pN:List lU) (i:(Int × (List Chunk))→Option mZ):(Int × (List Chunk))→Option mZ
  | (b,c) =>
    if decide (b < (e.length:Int)) then
      bd (ix c b) fun a =>
      bd (Pe a.data) fun d =>
      bd (El a.oN) fun f =>
      i (wr (b+1),((c.set b.toNat (Chunk.mk a.id a.pX d a.oN)).set b.toNat (Chunk.mk a.id a.pX d f)))
    else
      uh.k2 x0 g h pN c
def uh.k1 (x0:mZ) (a:(List Chunk)) (b:(List oC)) (c:(List oH)) (pN:List lU):Option mZ :=
  loop (uh.l5 x0 a b c pN) (0,a)
def uh.l6 (x0:mZ) (e:(List lU)) (f:(List Chunk)) (g:(List oC)) (h:(List oH)) (j:(Int × (List lU))→Option mZ):(Int × (List lU))→Option mZ
  | (a,c) =>
    if decide (a < (e.length:Int)) then
      bd (ix c a) fun b =>
      bd (Cb b.oJ) fun d =>
      bd (El b.oN) fun i =>
      j (wr (a+1),((c.set a.toNat (lU.mk b.seq d b.oN)).set a.toNat (lU.mk b.seq d i)))
    else
      uh.k1 x0 f g h c
def uh (x0:mZ):Option mZ :=
  bd (Pd x0.oB) fun a =>
  bd (Pa x0.chunks) fun b =>
  bd (Pb x0.oD) fun c =>
  bd (Mx x0.oK) fun d =>
  loop (uh.l6 x0 a b c d) (0,a)
set_option maxHeartbeats 2000000 in
theorem V3 {x0:mZ} {r:mZ} {aY:jD} {a7:jD} {S:jD} {I:jD} (hA:Gd F w) (bP:oF lU.t F aY x0.oB) (bQ:oF Chunk.t F a7 x0.chunks) (bR:oF oC.t F S x0.oD) (bS:oF oH.t F I x0.oK) (H:uh x0=some r):pa aac K 46 [.agg (mZ.cells x0 aY a7 S I)] w fun v w'=>∃ (F':jL) (bA:jD) (bM:List Nat) (bB:jD) (bN:List Nat) (bC:jD) (bO:List Nat) (bD:jD),v = .agg (mZ.cells r bA bB bC bD)∧St [] w F F' [.dp lU.o bM bA (r.oB),.dp Chunk.o bN bB (r.chunks),.dp oC.o bO bC (r.oD),.row oH.t bD (r.oK)] w':=by
 refine rA Tryz.func46 ?_;have hS:=St.start hA;refine qs ?_;refine bx ([.i .i64 x0.seq,aY,a7,S,I]) ?_;intro e w1 cR;refine al ?_;intro m w2 q;refine ay ?_;obtain ⟨r3,b4,D,b5,H⟩:=oU H;obtain ⟨p,b6,n,cf,H⟩:=oU H;have x:=q.tK 1 rfl;refine uT (G:=(F.hold w2 [e])) [0,1,3,4,6,7,9,10,2,12,5,8,11,13,14,15,16,17,18,19] rfl Ty.mixed (by kernel_rfl) (HB.agree (HB.cons 1 x q rfl HB.nil) q.agree) ?_;refine au ?_;refine hl 1 x q ?_;refine au ?_;refine hl 1 x q ?_;refine au ?_;refine hl 1 x q ?_;refine ql (aj3 q.oR bP b4) ?_;rintro a w8 ⟨cD,_,rfl,bv⟩;have aK:=q.call bv;have ct:=bv.ext;refine nf 2 x aK ct ?_;refine au ?_;refine ql (aj0 aK.oR (mo bQ) b5) ?_;rintro b w9 ⟨cE,_,rfl,bw⟩;have aO:=aK.call bw;have cw:=bw.ext;refine nf 3 x aO cw ?_;refine ql (aj1 aO.oR (mo bR) b6) ?_;rintro c dn ⟨cH,_,rfl,bo⟩;have aJ:=aO.call bo;have cz:=bo.ext;refine nf 4 x aJ cz ?_;refine ql (ZK aJ.oR (mo bS) cf) ?_;rintro d dq ⟨ba,_,rfl,bp⟩;have bb:=aJ.call bp;have c1:=bp.ext;refine nf 5 x bb c1 ?_;refine FK (by kernel_rfl) bb.agree ?_;refine sC 5 ([.i .i64 x0.seq,a,a7,S,I]) ?_;intro dr cS;refine au ?_;refine sC 5 ([.i .i64 x0.seq,a,b,S,I]) ?_;intro ds cT;refine au ?_;refine sC 5 ([.i .i64 x0.seq,a,b,c,I]) ?_;intro dt cU;refine au ?_;refine sC 5 ([.i .i64 x0.seq,a,b,c,d]) ?_;intro du X;refine qn ?_;refine pe (fun E wq=>∃ pN:List lU,uh.k1 x0 D p n pN=some r ∧ ∃ (J:jL) (IV:List Nat),E=[(1,pl e 0),(2,pl m 0)]∧ba.le J∧po X [.row oH.t d n,.row oC.t c p,.row Chunk.t b D,.dp lU.o IV a pN,.box m [.i .i64 0,.sl none 0 (.k 0),.sl none 0 (.k 0),.sl none 0 (.k 0),.sl none 0 (.k 0)],.box e [.i .i64 x0.seq,a,b,c,d]] J wq) ?_ ?_
 ·refine aq ?_;refine qr (qD aam rfl (X.rB (k:=3) rfl)) ?_;refine ax ?_;refine qC (fun (s:Int × (List lU)) E wq=>∃ (aD:jL) (xQ:List Nat),E=[(1,pl e 0),(2,pl m 0),(26,.i .i64 (r3.length:Int)),(27,.i .i64 s.1)]∧ba.le aD∧s.2.length=r3.length∧0≤s.1∧po X [.row oH.t d n,.row oC.t c p,.row Chunk.t b D,.dp (To.mix lU.o lU.t rfl) xQ a (ud s.1.toNat s.2),.box m [.i .i64 0,.sl none 0 (.k 0),.sl none 0 (.k 0),.sl none 0 (.k 0),.sl none 0 (.k 0)],.box e [.i .i64 x0.seq,a,b,c,d]] aD wq) H ?_ ?_
  ·exact lo ⟨_,_,rfl,pc,rfl,Int.le_refl _,X.SM rfl 3 rfl⟩
  ·rintro dg ⟨a5,b9⟩ E d7 hI H
   try dsimp only at hI
   obtain ⟨aD,xQ,rfl,dd,hlen,vJ,l⟩:=hI
   try dsimp only at hlen vJ
   refine ay ?_;refine qy H (fun ak H=>?_) (fun ak H=>?_)
   ·obtain ⟨a8,aU,H⟩:=oL H;refine ay ?_;obtain ⟨bZ,cq⟩:=oM aU;obtain ⟨cQ,cg,R⟩:=l.SO (k:=3) (by decide) rfl cq;obtain ⟨c7,dk,rfl,cm,cn⟩:=cg;replace R:=qj 4 R;have bX:=R.rq;refine qi aam Ty.sJ bX bZ ?_;refine au ?_;obtain ⟨aX,ch,c6,ci,H⟩:=oU H;have B:=l.u9 [] (by decide);refine uT [0,1,2,3,4,5,7,8,9,10,6,11,12,13,14,15,16,17] rfl Ty.mixed (by kernel_rfl) (HB.agree (l.AY [] [0,1,2,3,4,5] (by decide) B) B.agree) ?_;refine au ?_;refine qr (tD 1 (oP.cells a8.oJ c7) Ty.zA Ty.zj rfl (R.held (l.AY [] [0,1,2,3,4,5] (by decide) B) (l.N7 (j:=3) (rs:=[0,1,2,3,4,5]) (by decide) rfl)) (by first | omega | rfl) rfl (qY rfl)) ?_;refine au ?_;refine qr (su 3 Ty.wX rfl (R.held (l.AY [] [0,1,2,3,4,5] (by decide) B) (l.N7 (j:=3) (rs:=[0,1,2,3,4,5]) (by decide) rfl)) (by first | omega | rfl) rfl) ?_;refine ql (abX B.oR cm ch) ?_;rintro dl d8 ⟨cI,bG,rfl,bz,bt⟩;have P:=B.call bt;have c2:=bt.ext;refine pQ.tT (HB.le (l.AY [] [0,1,2,3,4,5] (by decide) P) c2) (HB.agree (l.AY [] [0,1,2,3,4,5] (by decide) P) P.agree) ?_;refine ql (Mw P.oR (mo cn) ci) ?_;rintro cA d9 ⟨bK,_,rfl,bu⟩;have ae:=P.call bu;have c3:=bu.ext;refine pQ.tT (HB.le (l.AY [] [0,1,2,3,4,5] (by decide) ae) c3) (HB.agree (l.AY [] [0,1,2,3,4,5] (by decide) ae) ae.agree) ?_;refine au ?_;have bk:=l.uV [] [0,1,2,3,4,5] (by decide) (by decide) ae;refine FK (by kernel_rfl) bk.agree ?_;refine qu (Va (f:=1) 4 (lU.mk a8.seq aX a8.oN) [.s aX.name,bG] (by decide) rfl rfl bk rfl (oM aU).2 (by first | rfl | (show _=_*4+_;omega)) rfl Ty.zj (by simp only [tZ,uR,rC,bz.ln.one];rfl) (qY rfl) (by rintro cs ⟨a2,a3,rfl,z,M⟩;exact ⟨bG,a3,rfl,(mo bz),(M:oF _ _ _ _)⟩)) ?_;rintro _ dA ⟨cM,bm⟩;refine qw bm ?_;refine au ?_;have bV:=bm.pick [0,4,1,2,3,5,6] (by decide);refine qu (Ql (f:=3) (lU.mk a8.seq aX c6) (by decide) rfl rfl bV (vN (by simpa using (qO.1 (oM aU).2).1)) (by first | rfl | (show _=_*4+_;omega)) Ty.AG (by decide) (by rintro h cs ⟨a2,a3,rfl,z,M⟩ k;exact ⟨a2,cA,rfl,z,k⟩)) ?_
    rintro _ dB ⟨cN,bn⟩;refine qw bn ?_;refine ax ?_;have vP:r3.length≤1073741824:=adh b4;have ht:(wr (a5+1)).toNat=a5.toNat+1:=TY vJ (of_decide_eq_true ak) vP;exact nm H ⟨bK,_,rfl,pc,(by simpa using hlen),(show 0≤wr (a5+1) from Ik vJ (of_decide_eq_true ak) vP),(show _ from by rw [ht];exact pk [1,2,3,0,4,5] bn)⟩
   ·refine pw _ rfl ?_;have D0:b9.length≤a5.toNat:=le_toNat hlen vJ (of_decide_eq_false ak);exact nj ⟨b9,H,⟨_,_,rfl,pc,l.SN 3 rfl D0⟩⟩
 ·rintro E dv ⟨pN,H,J,IV,rfl,cY,Y⟩;refine pe (fun E wq=>∃ y:List Chunk,uh.k2 x0 p n pN y=some r ∧ ∃ (L:jL) (Ns:List Nat),E=[(1,pl e 0),(2,pl m 0)]∧J.le L∧po Y [.row oH.t d n,.row oC.t c p,.dp Chunk.o Ns b y,.dp lU.o IV a pN,.box m [.i .i64 0,.sl none 0 (.k 0),.sl none 0 (.k 0),.sl none 0 (.k 0),.sl none 0 (.k 0)],.box e [.i .i64 x0.seq,a,b,c,d]] L wq) ?_ ?_
  ·refine aq ?_;refine qr (qD aaE rfl (Y.rB (k:=2) rfl)) ?_;refine ax ?_;refine qC (fun (s:Int × (List Chunk)) E wq=>∃ (aC:jL) (xQ:List Nat),E=[(1,pl e 0),(2,pl m 0),(53,.i .i64 (D.length:Int)),(54,.i .i64 s.1)]∧J.le aC∧s.2.length=D.length∧0≤s.1∧po Y [.row oH.t d n,.row oC.t c p,.dp (To.mix Chunk.o Chunk.t rfl) xQ b (ud s.1.toNat s.2),.dp lU.o IV a pN,.box m [.i .i64 0,.sl none 0 (.k 0),.sl none 0 (.k 0),.sl none 0 (.k 0),.sl none 0 (.k 0)],.box e [.i .i64 x0.seq,a,b,c,d]] aC wq) H ?_ ?_
   ·exact lo ⟨_,_,rfl,pc,rfl,Int.le_refl _,Y.SM rfl 2 rfl⟩
   ·rintro df ⟨a4,b8⟩ E d2 hI H
    try dsimp only at hI
    obtain ⟨aC,xQ,rfl,dc,hlen,vJ,g⟩:=hI
    try dsimp only at hlen vJ
    refine ay ?_;refine qy H (fun aj H=>?_) (fun aj H=>?_)
    ·obtain ⟨U,aT,H⟩:=oL H;refine ay ?_;obtain ⟨bY,cp⟩:=oM aT;obtain ⟨cP,cc,Q⟩:=g.SO (k:=2) (by decide) rfl cp;obtain ⟨di,dj,rfl,cX,ck,cl⟩:=cc;replace Q:=qj 35 Q;have bW:=Q.rq;refine qi aaE Ty.tg bW bY ?_;refine au ?_;obtain ⟨bE,cd,c5,ce,H⟩:=oU H;have A:=g.u9 [] (by decide);refine uT [0,1,2,3,4,5,7,8,9,10,6,11,12,13,14,15,16,17] rfl Ty.mixed (by kernel_rfl) (HB.agree (g.AY [] [0,1,2,3,4,5] (by decide) A) A.agree) ?_;refine au ?_;refine qr (su 33 Ty.IY rfl (Q.held (g.AY [] [0,1,2,3,4,5] (by decide) A) (g.N7 (j:=2) (rs:=[0,1,2,3,4,5]) (by decide) rfl)) (by first | omega | rfl) rfl) ?_;refine au ?_;refine qr (su 34 Ty.wX rfl (Q.held (g.AY [] [0,1,2,3,4,5] (by decide) A) (g.N7 (j:=2) (rs:=[0,1,2,3,4,5]) (by decide) rfl)) (by first | omega | rfl) rfl) ?_;refine ql (aj4 A.oR ck cd) ?_;rintro bF d3 ⟨cF,_,rfl,br⟩;have O:=A.call br;have cx:=br.ext;refine pQ.tT (HB.le (g.AY [] [0,1,2,3,4,5] (by decide) O) cx) (HB.agree (g.AY [] [0,1,2,3,4,5] (by decide) O) O.agree) ?_;refine ql (Mw O.oR (mo cl) ce) ?_;rintro c9 d4 ⟨cG,_,rfl,bs⟩;have ad:=O.call bs;have cy:=bs.ext;refine pQ.tT (HB.le (g.AY [] [0,1,2,3,4,5] (by decide) ad) cy) (HB.agree (g.AY [] [0,1,2,3,4,5] (by decide) ad) ad.agree) ?_;refine au ?_;have bg:=g.uV [] [0,1,2,3,4,5] (by decide) (by decide) ad;refine FK (by kernel_rfl) bg.agree ?_;obtain ⟨bI,cr,aR,bi⟩:=bg.rv 1 [0,2,3,4,5,6,7] rfl (by decide) (by decide);refine Vu cr bi.agree ?_;refine qu (Va (f:=33) 3 (Chunk.mk U.id U.pX bE U.oN) [bF] (by decide) rfl rfl bi rfl (oM aT).2 (by first | rfl | (show _=_*35+_;omega)) aR.ln.cells Ty.O7 (by simp only [tZ,uR,rC,aR.ln.one];rfl) (qY rfl) (by rintro cs ⟨a2,a3,rfl,c0,z,M⟩;exact ⟨bF,a3,rfl,c0,aR,(M:oF _ _ _ _)⟩)) ?_;rintro _ d5 ⟨cK,bh⟩;refine qw bh ?_;refine au ?_;have bU:=bh.pick [0,3,1,2,4,5,6] (by decide);refine qu (Ql (f:=34) (Chunk.mk U.id U.pX bE c5) (by decide) rfl rfl bU (vN (by simpa using (qO.1 (oM aT).2).1)) (by first | rfl | (show _=_*35+_;omega)) Ty.AG (by decide) (by rintro h cs ⟨a2,a3,rfl,c0,z,M⟩ k;exact ⟨a2,c9,rfl,c0,z,k⟩)) ?_
     rintro _ d6 ⟨cL,bj⟩;refine qw bj ?_;refine ax ?_;have vP:D.length≤1073741824:=adf b5;have ht:(wr (a4+1)).toNat=a4.toNat+1:=TY vJ (of_decide_eq_true aj) vP;exact nm H ⟨bI,_,rfl,pc,(by simpa using hlen),(show 0≤wr (a4+1) from Ik vJ (of_decide_eq_true aj) vP),(show _ from by rw [ht];exact pk [1,2,0,3,4,5] bj)⟩
    ·refine pw _ rfl ?_;have D0:b8.length≤a4.toNat:=le_toNat hlen vJ (of_decide_eq_false aj);exact nj ⟨b8,H,⟨_,_,rfl,pc,g.SN 2 rfl D0⟩⟩
  ·rintro E dw ⟨y,H,L,Ns,rfl,cZ,Z⟩;refine pe (fun E wq=>∃ a6:List oC,uh.k3 x0 n pN y a6=some r ∧ ∃ (V:jL) (VV:List Nat),E=[(1,pl e 0),(2,pl m 0)]∧L.le V∧po Z [.row oH.t d n,.dp oC.o VV c a6,.dp Chunk.o Ns b y,.dp lU.o IV a pN,.box m [.i .i64 0,.sl none 0 (.k 0),.sl none 0 (.k 0),.sl none 0 (.k 0),.sl none 0 (.k 0)],.box e [.i .i64 x0.seq,a,b,c,d]] V wq) ?_ ?_
   ·refine aq ?_;refine qr (qD aaF rfl (Z.rB (k:=1) rfl)) ?_;refine ax ?_;refine qC (fun (s:Int × (List oC)) E wq=>∃ (a9:jL) (xQ:List Nat),E=[(1,pl e 0),(2,pl m 0),(80,.i .i64 (p.length:Int)),(81,.i .i64 s.1)]∧L.le a9∧s.2.length=p.length∧0≤s.1∧po Z [.row oH.t d n,.dp (To.mix oC.o oC.t rfl) xQ c (ud s.1.toNat s.2),.dp Chunk.o Ns b y,.dp lU.o IV a pN,.box m [.i .i64 0,.sl none 0 (.k 0),.sl none 0 (.k 0),.sl none 0 (.k 0),.sl none 0 (.k 0)],.box e [.i .i64 x0.seq,a,b,c,d]] a9 wq) H ?_ ?_
    ·exact lo ⟨_,_,rfl,pc,rfl,Int.le_refl _,Z.SM rfl 1 rfl⟩
    ·rintro de ⟨ar,uo⟩ E dz hI H
     try dsimp only at hI
     obtain ⟨a9,xQ,rfl,db,hlen,vJ,u⟩:=hI
     try dsimp only at hlen vJ
     refine ay ?_;refine qy H (fun ai H=>?_) (fun ai H=>?_)
     ·refine ay ?_;obtain ⟨bH,b7,c4,ca,H⟩:=oU H;have ah:=u.tK 5 rfl;refine rh 5 ah u ?_;refine au ?_;refine hl 5 ah u ?_;refine au ?_;refine Dv 5 Ty.Bu u ?_;refine qc ?_;obtain ⟨b1,co⟩:=oM b7;obtain ⟨cO,cb,am⟩:=u.SO (k:=1) (by decide) rfl co;obtain ⟨dh,rfl,cj⟩:=cb;replace am:=qj 3 am;have b0:=am.rq;refine qi aaF Ty.uu b0 b1 ?_;refine au ?_;refine qq (su 2 Ty.wX rfl am (by first | omega | rfl) rfl) ?_;refine ql (Mw u.oR cj ca) ?_;rintro c8 d0 ⟨bJ,_,rfl,bq⟩;have be:=u.call bq;have cu:=bq.ext;refine nf 6 ah be cu ?_;refine qi aaF Ty.uu b0 b1 ?_;refine au ?_;have bT:=be.pick [0,2,1,3,4,5,6] (by decide);refine qu (Ql (f:=2) (oC.mk bH.seq bH.of c4) (by decide) rfl rfl bT (oM b7).2 (by first | rfl | (show _=_*3+_;omega)) Ty.AG (by decide) (by rintro h cs ⟨a2,rfl,z⟩ k;exact ⟨c8,rfl,k⟩)) ?_;rintro _ d1 ⟨cJ,bf⟩;refine qh 5 ah bf ?_;refine ax ?_;have vP:p.length≤1073741824:=adg b6;have ht:(wr (ar+1)).toNat=ar.toNat+1:=TY vJ (of_decide_eq_true ai) vP;exact nm H ⟨bJ,_,rfl,pc,(by simpa using hlen),(show 0≤wr (ar+1) from Ik vJ (of_decide_eq_true ai) vP),(show _ from by rw [ht];exact pk [1,0,2,3,4,5] bf)⟩
     ·refine pw _ rfl ?_;have D0:uo.length≤ar.toNat:=le_toNat hlen vJ (of_decide_eq_false ai);exact nj ⟨uo,H,⟨_,_,rfl,pc,u.SN 1 rfl D0⟩⟩
   ·rintro E dx ⟨a6,H,V,VV,rfl,da,cV⟩;refine aq ?_;refine sb 4 ([.i .i64 x0.seq,a,b,c,d]) ?_;intro dy bc;refine qn ?_;obtain rfl:=oi H;refine yw (vs:=[.agg (mZ.cells (mZ.mk x0.seq pN y a6 n) a b c d)]) rfl ⟨(yB 4 Ty.yU Ty.zh bc rfl rfl),trivial⟩ ?_;exact ⟨V,a,_,b,_,c,_,d,rfl,bc.pick [3,2,1,0] (by decide)⟩
def QW:Option (List UInt32) :=
  some ([1116352408,1899447441,3049323471,3921009573,961987163,1508970993,2453635748,2870763221,3624381080,310598401,607225278,1426881987,1925078388,2162078206,2614888103,3248222580,3835390401,4022224774,264347078,604807628,770255983,1249150122,1555081692,1996064986,2554220882,2821834349,2952996808,3210313671,3336571891,3584528711,113926993,338241895,666307205,773529912,1294757372,1396182291,1695183700,1986661051,2177026350,2456956037,2730485921,2820302411,3259730800,3345764771,3516065817,3600352804,4094571909,275423344,430227734,506948616,659060556,883997877,958139571,1322822218,1537002063,1747873779,1955562222,2024104815,2227730452,2361852424,2428436474,2756734187,3204031479,3329325298]:List UInt32)
theorem acj {r:(List UInt32)} (hA:Gd F w) (H:QW=some r):pa aac K 104 [] w fun v w'=>∃ (F':jL),v = .agg (pR 64 cW 0 r)∧(r).length=64∧St [] w F F' [] w':=by
 refine IL (args:=[]) Tryz.func104 rfl (by decide) rfl ?_;change C _ _ _ _ _ [] _;have hS:=St.start hA;refine qs ?_;refine xm (vF (cs:=pR 64 cW 0 (ph 64 (0:UInt32))) Ty.Pr rfl hS) ?_;rintro _ d ⟨b,rfl,c⟩;refine ax ?_;refine qr (Kx (vs:=nW 0 ([1116352408,1899447441,3049323471,3921009573,961987163,1508970993,2453635748,2870763221,3624381080,310598401,607225278,1426881987,1925078388,2162078206,2614888103,3248222580,3835390401,4022224774,264347078,604807628,770255983,1249150122,1555081692,1996064986,2554220882,2821834349,2952996808,3210313671,3336571891,3584528711,113926993,338241895,666307205,773529912,1294757372,1396182291,1695183700,1986661051,2177026350,2456956037,2730485921,2820302411,3259730800,3345764771,3516065817,3600352804,4094571909,275423344,430227734,506948616,659060556,883997877,958139571,1322822218,1537002063,1747873779,1955562222,2024104815,2227730452,2361852424,2428436474,2756734187,3204031479,3329325298]:List UInt32)) (v:=.agg (pR 64 cW 0 ([1116352408,1899447441,3049323471,3921009573,961987163,1508970993,2453635748,2870763221,3624381080,310598401,607225278,1426881987,1925078388,2162078206,2614888103,3248222580,3835390401,4022224774,264347078,604807628,770255983,1249150122,1555081692,1996064986,2554220882,2821834349,2952996808,3210313671,3336571891,3584528711,113926993,338241895,666307205,773529912,1294757372,1396182291,1695183700,1986661051,2177026350,2456956037,2730485921,2820302411,3259730800,3345764771,3516065817,3600352804,4094571909,275423344,430227734,506948616,659060556,883997877,958139571,1322822218,1537002063,1747873779,1955562222,2024104815,2227730452,2361852424,2428436474,2756734187,3204031479,3329325298]:List UInt32))) Ty.abB rfl rfl) ?_
 refine sb 0 (pR 64 cW 0 ([1116352408,1899447441,3049323471,3921009573,961987163,1508970993,2453635748,2870763221,3624381080,310598401,607225278,1426881987,1925078388,2162078206,2614888103,3248222580,3835390401,4022224774,264347078,604807628,770255983,1249150122,1555081692,1996064986,2554220882,2821834349,2952996808,3210313671,3336571891,3584528711,113926993,338241895,666307205,773529912,1294757372,1396182291,1695183700,1986661051,2177026350,2456956037,2730485921,2820302411,3259730800,3345764771,3516065817,3600352804,4094571909,275423344,430227734,506948616,659060556,883997877,958139571,1322822218,1537002063,1747873779,1955562222,2024104815,2227730452,2361852424,2428436474,2756734187,3204031479,3329325298]:List UInt32)) ?_;intro e a;refine qn ?_;obtain rfl:=oi H;refine yw (vs:=[.agg (pR 64 cW 0 ([1116352408,1899447441,3049323471,3921009573,961987163,1508970993,2453635748,2870763221,3624381080,310598401,607225278,1426881987,1925078388,2162078206,2614888103,3248222580,3835390401,4022224774,264347078,604807628,770255983,1249150122,1555081692,1996064986,2554220882,2821834349,2952996808,3210313671,3336571891,3584528711,113926993,338241895,666307205,773529912,1294757372,1396182291,1695183700,1986661051,2177026350,2456956037,2730485921,2820302411,3259730800,3345764771,3516065817,3600352804,4094571909,275423344,430227734,506948616,659060556,883997877,958139571,1322822218,1537002063,1747873779,1955562222,2024104815,2227730452,2361852424,2428436474,2756734187,3204031479,3329325298]:List UInt32))]) rfl ⟨(yB 0 Ty.Vz Ty.ZC a rfl rfl),trivial⟩ ?_
 exact ⟨F,rfl,rfl,a.pick [] (by decide)⟩
def xz.k2 (sI:List UInt8):Option (List UInt8) :=
  some sI
def xz.l3 (x0:List UInt8) (c:(Int × (List UInt8))→Option (List UInt8)):(Int × (List UInt8))→Option (List UInt8)
  | (a,wN) =>
    if decide (0≤a) then
      bd (JW (wu (wu (x0.length:Int)*8)) (wu (8*wu a))) fun d =>
      bd (app (α:=UInt8) wN [(tA d)]) fun b =>
      c (wr (a - 1),b)
    else
      xz.k2 wN
def xz.k1 (x0:List UInt8) (l8:List UInt8):Option (List UInt8) :=
  loop (xz.l3 x0) (7,l8)
def xz.l4 (x0:List UInt8) (b:(List UInt8)→Option (List UInt8)):(List UInt8)→Option (List UInt8)
  | uo =>
    if decide ((wr ((uo.length:Int)+8)).tmod 64≠0) then
      bd (app (α:=UInt8) uo [(0:UInt8)]) fun a =>
      b a
    else
      xz.k1 x0 uo
def xz (x0:List UInt8):Option (List UInt8) :=
  bd (app (α:=UInt8) [] x0) fun l1 =>
  bd (app (α:=UInt8) l1 [(128:UInt8)]) fun l4 =>
  loop (xz.l4 x0) l4
theorem ack {x0:List UInt8} {r:(List UInt8)} {e:jD} (hA:Gd F w) (B:oF tB F e x0) (H:xz x0=some r):pa aac K 105 [e] w fun v w'=>∃ (F':jL) (z:jD),v=z∧St [] w F F' [.row tB z (r)] w':=by
 refine rA Tryz.func105 ?_;have hS:=St.start hA;obtain ⟨l1,O,l4,R,H⟩:=oU H;refine ax ?_;have y:=hS.sY tB;refine ap 0 y (B.src y.agree) O ?_;intro v2 w2 G;refine xm (sh (t:=tB) (vs:=[.i .u8 ((128:UInt8).toNat:Int)]) (xs:=[(128:UInt8)]) aba Ty.BN rfl ⟨rfl,trivial⟩ rfl rfl G) ?_;rintro u3 w3 x;refine ap 1 x (x.tf (k:=0) rfl) R ?_;intro v5 w5 l;refine au ?_;refine pe (fun E wq=>∃ l8:List UInt8,xz.k1 x0 l8=some r ∧ ∃ (a:jL) (d:jD),E=[(0,e),(3,d)]∧F.le a∧po l [.row tB d l8] a wq) ?_ ?_
 ·refine xP ?_;refine qC (fun (s:(List UInt8)) E wq=>∃ (h:jL) (c:jD),E=[(0,e),(3,c)]∧F.le h∧po l [.row tB c s] h wq) H ?_ ?_
  ·exact lo ⟨_,v5,rfl,pc,pk [1] l⟩
  ·rintro a5 uo E aO hI H
   try dsimp only at hI
   obtain ⟨h,c,rfl,am,j⟩:=hI;refine ay ?_;refine qr (qD aba rfl (j.rB (k:=0) rfl)) ?_;refine qc ?_;refine qr (oO rfl rfl (by first | rfl | simp [ru,BG])) ?_;refine au ?_;refine qy H (fun M H=>?_) (fun M H=>?_)
   ·obtain ⟨ai,Q,H⟩:=oL H;refine ax ?_;refine xm (sh (t:=tB) (vs:=[.i .u8 ((0:UInt8).toNat:Int)]) (xs:=[(0:UInt8)]) aba Ty.BN rfl ⟨rfl,trivial⟩ rfl rfl j) ?_;rintro a7 aR u;refine ap 1 u (u.tf (k:=0) rfl) Q ?_;intro Z aU J;refine ax ?_;exact nm H ⟨_,Z,rfl,pc,pk [1] J⟩
   ·refine pw _ rfl ?_;exact nj ⟨uo,H,⟨_,c,rfl,pc,j⟩⟩
 ·rintro E w7 ⟨l8,H,a,d,rfl,ar,m⟩;refine aq ?_;refine qr (vZ abD adD rfl (rfl)) ?_;refine au ?_;refine pe (fun E wq=>∃ sI:List UInt8,xz.k2 sI=some r ∧ ∃ (f:jL) (n:jD),E=[(3,n)]∧a.le f∧po m [.row tB n sI] f wq) ?_ ?_
  ·refine ax ?_;refine qC (fun (s:Int × (List UInt8)) E wq=>∃ (g:jL) (b:jD),E=[(3,b),(4,.i .u64 (wu (wu (x0.length:Int)*8))),(5,.i .i64 s.1)]∧a.le g∧po m [.row tB b s.2] g wq) H ?_ ?_
   ·exact lo ⟨_,d,rfl,pc,m⟩
   ·rintro a4 ⟨ae,wN⟩ E aD hI H
    try dsimp only at hI
    obtain ⟨g,b,rfl,ak,p⟩:=hI;refine ay ?_;refine qy H (fun L H=>?_) (fun L H=>?_)
    ·obtain ⟨A,V,ah,P,H⟩:=oU H;refine ay ?_;refine qr (vZ abD adA rfl (rfl)) ?_;refine qc ?_;obtain ⟨X,S,U⟩:=Zl V;refine qr (oO rfl rfl (by rw [DP X S,← U])) ?_;refine qr (vZ adD acP rfl (XY _)) ?_;refine xm (sh (t:=tB) (vs:=[.i .u8 ((tA A).toNat:Int)]) (xs:=[(tA A)]) aba Ty.BN rfl ⟨rfl,trivial⟩ rfl rfl p) ?_;rintro a6 aJ q;refine ap 1 q (q.tf (k:=0) rfl) P ?_;intro Y aK I;refine ax ?_;exact nm H ⟨_,Y,rfl,pc,pk [1] I⟩
    ·refine pw _ rfl ?_;exact nj ⟨wN,H,⟨_,b,rfl,pc,p⟩⟩
  ·rintro E aC ⟨sI,H,f,n,rfl,aj,D⟩;exact rx H D
def xA (x0:UInt32) (x1:Int):Option UInt32 :=
  bd (GD x0 x1) fun x2 =>
  bd (O5 x0 (wu (32 - x1))) fun x3 =>
  some (x2 ||| x3)
theorem DR {x0:UInt32} {x1:Int} {r:UInt32} (hA:Gd F w) (H:xA x0 x1=some r):pa aac K 106 [.i .u32 (x0.toNat:Int),.i .u64 x1] w fun v w'=>∃ (F':jL),v = .i .u32 (r.toNat:Int)∧St [] w F F' [] w':=by
 refine ra Tryz.func106 ?_;have hS:=St.start hA;obtain ⟨x2,a,x3,b,H⟩:=oU H;refine ax ?_;refine qr (oO rfl rfl (No a)) ?_;refine au ?_;refine qr (oO rfl rfl (VL b)) ?_;refine qr (oO rfl rfl ((sF (.inr (.inl rfl))).trans (congrArg (fun z=>some (jD.i .u32 z)) (Go.Wk.u32_or x2 x3)))) ?_;exact rz H hS
def p9.k2 (a:List UInt8):Option (List UInt8) :=
  some a
def p9.l3 (d:List UInt32) (c:(Int × (List UInt8))→Option (List UInt8)):(Int × (List UInt8))→Option (List UInt8)
  | (a,b) =>
    if decide (a < 32) then
      bd (ix d (wr (a.tdiv 4))) fun e =>
      bd (GD e (wu (wr (24 - wr (8*a.tmod 4))))) fun f =>
      bd (ix b a) fun g =>
      c (wr (a+1),(b.set a.toNat f.toUInt8))
    else
      p9.k2 b
def p9.k1 (a:List UInt32):Option (List UInt8) :=
  loop (p9.l3 a) (0,(ph 32 (0:UInt8)))
def p9.k5 (a:Int) (b:(Int × (List UInt32))→Option (List UInt8)) (c:List UInt32):Option (List UInt8) :=
  b (wr (a+64),c)
def p9.l8 (c:Int) (d:(Int × (List UInt32))→Option (List UInt8)) (f:List UInt32) (e:(Int × (List UInt32))→Option (List UInt8)):(Int × (List UInt32))→Option (List UInt8)
  | (a,b) =>
    if decide (a < 8) then
      bd (ix b a) fun g =>
      bd (ix f a) fun h =>
      bd (ix b a) fun i =>
      e (wr (a+1),(b.set a.toNat (g+h)))
    else
      p9.k5 c d b
def p9.k7 (a:Int) (c:List UInt32) (b:(Int × (List UInt32))→Option (List UInt8)) (d:List UInt32):Option (List UInt8) :=
  loop (p9.l8 a b d) (0,c)
def p9.l9 (r:(List UInt32)) (m:Int) (v:List UInt32) (s:(Int × (List UInt32))→Option (List UInt8)) (x:List UInt32) (u:(Int × (List UInt32))→Option (List UInt8)):(Int × (List UInt32))→Option (List UInt8)
  | (d,a) =>
    if decide (d < 64) then
      bd (ix a 0) fun c =>
      bd (ix a 4) fun b =>
      bd (ix a 7) fun h =>
      bd (ix a 5) fun i =>
      bd (ix a 6) fun j =>
      bd (ix r d) fun k =>
      bd (ix x d) fun l =>
      bd (xA b 6) fun e =>
      bd (xA b 11) fun f =>
      bd (xA b 25) fun g =>
      bd (ix a 1) fun y =>
      bd (ix a 2) fun z =>
      bd (ix a 1) fun A =>
      bd (ix a 2) fun B =>
      bd (xA c 2) fun n =>
      bd (xA c 13) fun p =>
      bd (xA c 22) fun q =>
      bd (ix a 0) fun D =>
      bd (ix a 1) fun G =>
      bd (ix a 2) fun I =>
      bd (ix a 3) fun J =>
      bd (ix a 4) fun L =>
      bd (ix a 5) fun M =>
      bd (ix a 6) fun O =>
      u (wr (d+1),([(((((h+((e ^^^ f) ^^^ g))+((b &&& i) ^^^ ((~~~b) &&& j)))+k)+l)+(((n ^^^ p) ^^^ q)+(((c &&& y) ^^^ (c &&& z)) ^^^ (A &&& B)))),D,G,I,(J+((((h+((e ^^^ f) ^^^ g))+((b &&& i) ^^^ ((~~~b) &&& j)))+k)+l)),L,M,O]:List UInt32))
    else
      p9.k7 m v s a
def p9.k6 (c:(List UInt32)) (b:Int) (a:List UInt32) (d:(Int × (List UInt32))→Option (List UInt8)) (e:List UInt32):Option (List UInt8) :=
  loop (p9.l9 c b a d e) (0,a)
def p9.Aw (a:Int) (b:(Int × (List UInt32))→Option (List UInt8)) (c:List UInt32):Option (List UInt8) :=
  b (wr (a+1),c)
def p9.HS (a:Int) (b:List UInt32) (i:(Int × (List UInt32))→Option (List UInt8)):Option (List UInt8) :=
  bd (ix b (wr (a - 15))) fun c =>
  bd (ix b (wr (a - 2))) fun d =>
  bd (ix b (wr (a - 16))) fun j =>
  bd (ix b (wr (a - 7))) fun k =>
  bd (xA c 7) fun e =>
  bd (xA c 18) fun f =>
  bd (xA d 17) fun g =>
  bd (xA d 19) fun h =>
  bd (ix b a) fun l =>
  p9.Aw a i (b.set a.toNat (((j+k)+((e ^^^ f) ^^^ (c >>> rD 3)))+((g ^^^ h) ^^^ (d >>> rD 10))))
def p9.A4 (a:Int) (b:(Int × (List UInt32))→Option (List UInt8)) (c:List UInt32):Option (List UInt8) :=
  p9.Aw a b c
def p9.tL (e:(List UInt8)) (d:Int) (a:Int) (f:(Int × (List UInt32))→Option (List UInt8)) (g:(Int × (List UInt32))→Option (List UInt8)):(Int × (List UInt32))→Option (List UInt8)
  | (c,b) =>
    if decide (c < 4) then
      bd (ix b a) fun h =>
      bd (ix e (wr (wr (d+wr (4*a))+c))) fun i =>
      bd (ix b a) fun j =>
      g (wr (c+1),(b.set a.toNat ((h <<< rD 8) ||| i.toUInt32)))
    else
      p9.A4 a f b
def p9.sm (e:(List UInt32)) (f:(List UInt8)) (c:Int) (h:List UInt32) (g:(Int × (List UInt32))→Option (List UInt8)) (d:(Int × (List UInt32))→Option (List UInt8)):(Int × (List UInt32))→Option (List UInt8)
  | (a,b) =>
    if decide (a < 64) then
      if decide (a < 16) then
        loop (p9.tL f c a d) (0,b)
      else
        p9.HS a b d
    else
      p9.k6 e c h g b
def p9.l4 (d:(List UInt32)) (b:(List UInt8)) (e:(Int × (List UInt32))→Option (List UInt8)):(Int × (List UInt32))→Option (List UInt8)
  | (a,c) =>
    if decide (a < (b.length:Int)) then
      loop (p9.sm d b a c e) (0,(ph 64 (0:UInt32)))
    else
      p9.k1 c
def p9 (x0:List UInt8):Option (List UInt8) :=
  bd (QW) fun a =>
  bd (xz x0) fun b =>
  loop (p9.l4 a b) (0,([1779033703,3144134277,1013904242,2773480762,1359893119,2600822924,528734635,1541459225]:List UInt32))
set_option maxHeartbeats 2000000 in
theorem aci {x0:List UInt8} {r:(List UInt8)} {v0:jD} (hA:Gd F w) (h0:oF tB F v0 x0) (H:p9 x0=some r):pa aac K 47 [v0] w fun v w'=>∃ (F':jL),v = .agg (pb r)∧(r).length=32∧St [] w F F' [] w':=by
 refine rA Tryz.func47 ?_;have hS:=St.start hA;refine qs ?_;refine xm (vF (cs:=pb (ph 32 (0:UInt8))) Ty.Fm rfl hS) ?_;rintro _ w1 ⟨b,rfl,bO⟩;obtain ⟨J,dM,H⟩:=oL H;refine ax ?_;refine lm (acj bO.oR dM) ?_;rintro v4 w4 ⟨fd,rfl,ca,bV⟩;have cJ:=bO.call bV;have f1:=bV.ext;refine xm (vF (cs:=pR 64 cW 0 (ph 64 (0:UInt32))) Ty.Pr rfl cJ) ?_;rintro _ w3 ⟨f,rfl,fi⟩;refine sb 0 (pR 64 cW 0 J) ?_;intro w5 cL;refine ax ?_;refine qr (Kx (vs:=nW 0 ([1779033703,3144134277,1013904242,2773480762,1359893119,2600822924,528734635,1541459225]:List UInt32)) (v:=.agg (pR 8 cW 0 ([1779033703,3144134277,1013904242,2773480762,1359893119,2600822924,528734635,1541459225]:List UInt32))) Ty.Nq rfl rfl) ?_;refine xm (vF (cs:=pR 8 cW 0 (ph 8 (0:UInt32))) Ty.Ps rfl cL) ?_;rintro _ w6 ⟨e,rfl,fk⟩;refine sb 0 (pR 8 cW 0 ([1779033703,3144134277,1013904242,2773480762,1359893119,2600822924,528734635,1541459225]:List UInt32)) ?_;intro w7 bU;obtain ⟨P,dN,H⟩:=oL H;refine ax ?_;refine lm (ack bU.oR (mo h0) dN) ?_;rintro g w9 ⟨bN,_,rfl,bW⟩;have b7:=bU.call bW;have f2:=bW.ext;refine au ?_;refine pe (fun E wq=>∃ aV:List UInt32,p9.k1 aV=some r ∧ ∃ (aH:jL),E=[(2,pl b 0),(4,pl e 0)]∧bN.le aH∧(aV).length=8∧po b7 [.box e (pR 8 cW 0 aV),.box b (pb (ph 32 (0:UInt8)))] aH wq) ?_ ?_
 ·refine ax ?_;refine qC (fun (s:Int × (List UInt32)) E wq=>∃ (a6:jL),E=[(2,pl b 0),(3,pl f 0),(4,pl e 0),(5,g),(6,.i .i64 s.1)]∧bN.le a6∧(s.2).length=8∧po b7 [.row tB g P,.box e (pR 8 cW 0 s.2),.box f (pR 64 cW 0 J),.box b (pb (ph 32 (0:UInt8)))] a6 wq) H ?_ ?_
  ·exact lo ⟨_,rfl,pc,rfl,b7⟩
  ·rintro bE ⟨y,M⟩ E gf hI H
   try dsimp only at hI
   obtain ⟨a6,rfl,fv,b8,bm⟩:=hI;refine ay ?_;refine qr (qD aba rfl (bm.rB (k:=0) rfl)) ?_;refine au ?_;refine qy H (fun db H=>?_) (fun db H=>?_)
   ·refine qk ?_;refine pe (fun E wq=>∃ bp:List UInt32,p9.k5 y bE bp=some r ∧ ∃ (bu:jL),E=[(2,pl b 0),(3,pl f 0),(4,pl e 0),(5,g),(6,.i .i64 y)]∧a6.le bu∧(bp).length=8∧po bm [.row tB g P,.box e (pR 8 cW 0 bp),.box f (pR 64 cW 0 J),.box b (pb (ph 32 (0:UInt8)))] bu wq) ?_ ?_
    ·refine ax ?_;refine xm (vF (cs:=pR 64 cW 0 (ph 64 (0:UInt32))) Ty.Pr rfl bm) ?_;rintro _ gi ⟨l,rfl,b5⟩;refine qn ?_;refine pe (fun E wq=>∃ aY:List UInt32,p9.k6 J y M bE aY=some r ∧ ∃ (aJ:jL),E=[(2,pl b 0),(3,pl f 0),(4,pl e 0),(5,g),(6,.i .i64 y),(7,pl l 0)]∧a6.le aJ∧(aY).length=64∧po b5 [.box l (pR 64 cW 0 aY),.row tB g P,.box e (pR 8 cW 0 M),.box f (pR 64 cW 0 J),.box b (pb (ph 32 (0:UInt8)))] aJ wq) ?_ ?_
     ·refine ax ?_;refine qC (fun (s:Int × (List UInt32)) E wq=>∃ (a5:jL),E=[(2,pl b 0),(3,pl f 0),(4,pl e 0),(5,g),(6,.i .i64 y),(7,pl l 0),(8,.i .i64 s.1)]∧a6.le a5∧(s.2).length=64∧po b5 [.box l (pR 64 cW 0 s.2),.row tB g P,.box e (pR 8 cW 0 M),.box f (pR 64 cW 0 J),.box b (pb (ph 32 (0:UInt8)))] a5 wq) H ?_ ?_
      ·exact lo ⟨_,rfl,pc,(AM),b5⟩
      ·rintro bD ⟨O,bn⟩ E fQ hI H
       try dsimp only at hI
       obtain ⟨a5,rfl,fp,n,aj⟩:=hI;refine ay ?_;refine qy H (fun cX H=>?_) (fun cX H=>?_)
       ·refine qk ?_;refine pe (fun E wq=>∃ bo:List UInt32,p9.Aw O bD bo=some r ∧ ∃ (bs:jL),E=[(2,pl b 0),(3,pl f 0),(4,pl e 0),(5,g),(6,.i .i64 y),(7,pl l 0),(8,.i .i64 O)]∧a5.le bs∧(bo).length=64∧po aj [.box l (pR 64 cW 0 bo),.row tB g P,.box e (pR 8 cW 0 M),.box f (pR 64 cW 0 J),.box b (pb (ph 32 (0:UInt8)))] bs wq) ?_ ?_
        ·refine xP ?_;refine pe (jN (p9.HS O bn bD=some r) [(2,pl b 0),(3,pl f 0),(4,pl e 0),(5,g),(6,.i .i64 y),(7,pl l 0),(8,.i .i64 O)] aj) ?_ ?_
         ·refine aq ?_;refine qy H (fun cY H=>?_) (fun cY H=>?_)
          ·refine pe (fun E wq=>∃ aX:List UInt32,p9.A4 O bD aX=some r ∧ ∃ (bt:jL),E=[(2,pl b 0),(3,pl f 0),(4,pl e 0),(5,g),(6,.i .i64 y),(7,pl l 0),(8,.i .i64 O)]∧a5.le bt∧(aX).length=64∧po aj [.box l (pR 64 cW 0 aX),.row tB g P,.box e (pR 8 cW 0 M),.box f (pR 64 cW 0 J),.box b (pb (ph 32 (0:UInt8)))] bt wq) ?_ ?_
           ·refine ax ?_;refine qC (fun (s:Int × (List UInt32)) E wq=>∃ (bg:jL),E=[(2,pl b 0),(3,pl f 0),(4,pl e 0),(5,g),(6,.i .i64 y),(7,pl l 0),(8,.i .i64 O),(9,.i .i64 s.1)]∧a5.le bg∧(s.2).length=64∧po aj [.box l (pR 64 cW 0 s.2),.row tB g P,.box e (pR 8 cW 0 M),.box f (pR 64 cW 0 J),.box b (pb (ph 32 (0:UInt8)))] bg wq) H ?_ ?_
            ·exact lo ⟨_,rfl,pc,n,aj⟩
            ·rintro f3 ⟨fl,c3⟩ E fZ hI H
             try dsimp only at hI
             obtain ⟨bg,rfl,ft,ad,aO⟩:=hI;refine ay ?_;refine qy H (fun cZ H=>?_) (fun cZ H=>?_)
             ·refine ay ?_;obtain ⟨c7,cq,c8,dS,H⟩:=oU H;obtain ⟨gx,dT,H⟩:=oL H;refine rf aO ?_;refine au ?_;obtain ⟨d1,e3⟩:=oM cq;refine qr (qV adx Ty.qX rfl rfl d1 (p8 ad e3)) ?_;obtain ⟨_,e4⟩:=oM cq;refine qq (rR 0 Ty.rS rfl aO rfl (by rw [pA];exact rW ad e4)) ?_;refine qr (oO rfl rfl ((EI (by decide) (by decide)).trans (congrArg (fun z=>some (jD.i .u32 z)) (akY _ _ 8 rfl (by decide))))) ?_;obtain ⟨_,rfl,de⟩:=tt 1 1 aO dS;refine au ?_;refine qq (su 0 Ty.DQ rfl de (by first | omega | rfl) rfl) ?_;refine qr (vZ acP adG rfl (ak0 _)) ?_;refine qr (oO rfl rfl ((sF (.inr (.inl rfl))).trans (congrArg (fun z=>some (jD.i .u32 z)) (Go.Wk.u32_or (c7 <<< rD 8) c8.toUInt32)))) ?_;obtain ⟨d2,bA⟩:=oM dT;refine qr (qV adx Ty.qX rfl rfl d2 (p8 ad bA)) ?_;refine qu (FG (cs':=pR 64 cW 0 (c3.set O.toNat ((c7 <<< rD 8) ||| c8.toUInt32))) 0 rfl rfl aO rfl rfl Ty.qX (by rw [IQ,pA];exact (p8 ad bA)) (Hd ad (p8 ad bA) _)) ?_;rintro _ gb bR;refine qw bR ?_;refine ax ?_;exact nm H ⟨bg,rfl,pc,(by rw [Ey];exact ad),bR⟩
             ·refine pw _ rfl ?_;exact nj ⟨c3,H,⟨_,rfl,pc,ad,aO⟩⟩
           ·rintro E fY ⟨aX,H,bt,rfl,fs,dh,cG⟩;refine pw _ rfl ?_;exact nj ⟨aX,H,⟨_,rfl,pc,dh,cG⟩⟩
          ·refine Bo ?_;exact nj ⟨H,jj aj⟩
         ·rintro E eS ⟨H,bM,rfl,fr,R⟩;refine qU ?_;obtain ⟨bb,cm,br,cn,H⟩:=oU H;refine rn ?_;refine au ?_;obtain ⟨dw,ev⟩:=oM cm;refine qr (qV adx Ty.qX rfl rfl dw (p8 n ev)) ?_;obtain ⟨_,ew⟩:=oM cm;refine qr (rR 0 Ty.rS rfl R rfl (by rw [pA];exact rW n ew)) ?_;refine au ?_;obtain ⟨dx,ex⟩:=oM cn;refine qr (qV adx Ty.qX rfl rfl dx (p8 n ex)) ?_;obtain ⟨_,ey⟩:=oM cn;refine qr (rR 0 Ty.rS rfl R rfl (by rw [pA];exact rW n ey)) ?_;refine au ?_;obtain ⟨bc,co,be,cp,H⟩:=oU H;obtain ⟨a9,dI,aC,dJ,H⟩:=oU H;obtain ⟨aT,dK,aU,dL,H⟩:=oU H;obtain ⟨gv,dR,H⟩:=oL H;have V:=R.tK 0 rfl;refine uT (G:=(bM.hold eS [l])) [0,1,2,3,4,5,6,7,8,9,10,12,15,16,19,21,24,25,11,13,14,17,18,20,22,23,26,27,28,29] rfl Ty.mixed (by kernel_rfl) (HB.agree (HB.cons 0 V R rfl HB.nil) R.agree) ?_;refine au ?_;obtain ⟨dy,ez⟩:=oM co;refine qr (qV adx Ty.qX rfl rfl dy (p8 n ez)) ?_;obtain ⟨_,e0⟩:=oM co;refine qr (wB Ty.rS rfl (V.held (HB.cons 0 V R rfl HB.nil) (by simp)) (by rw [pA];exact rW n e0)) ?_;refine au ?_;obtain ⟨dz,e1⟩:=oM cp;refine qr (qV adx Ty.qX rfl rfl dz (p8 n e1)) ?_;obtain ⟨_,e2⟩:=oM cp;refine qr (wB Ty.rS rfl (V.held (HB.cons 0 V R rfl HB.nil) (by simp)) (by rw [pA];exact rW n e2)) ?_;refine qr (oO rfl rfl (congrArg (fun z=>some (jD.i .u32 z)) (xf bc be))) ?_;refine au ?_;refine qr (oO rfl rfl ((DP (by decide) (by decide)).trans (congrArg (fun z=>some (jD.i .u32 z)) (Po _ _ 3 rfl (by decide))))) ?_;refine au ?_;refine qr (oO rfl rfl ((DP (by decide) (by decide)).trans (congrArg (fun z=>some (jD.i .u32 z)) (Po _ _ 10 rfl (by decide))))) ?_;refine ql (DR R.oR dI) ?_;rintro fA fS ⟨eZ,rfl,cP⟩;have b0:=R.vw cP;refine qh 0 V b0 ?_;refine ql (DR b0.oR dJ) ?_;rintro fB fU ⟨fa,rfl,cQ⟩;have b1:=b0.vw cQ;refine qh 0 V b1 ?_
          refine qr (oO rfl rfl ((sF (.inr (.inr rfl))).trans (congrArg (fun z=>some (jD.i .u32 z)) (Go.Wk.u32_xor a9 aC)))) ?_;refine qr (oO rfl rfl ((sF (.inr (.inr rfl))).trans (congrArg (fun z=>some (jD.i .u32 z)) (Go.Wk.u32_xor (a9 ^^^ aC) (bb >>> rD 3))))) ?_;refine qr (oO rfl rfl (congrArg (fun z=>some (jD.i .u32 z)) (xf (bc+be) ((a9 ^^^ aC) ^^^ (bb >>> rD 3))))) ?_;refine ql (DR b1.oR dK) ?_;rintro fC fV ⟨fb,rfl,cR⟩;have b2:=b1.vw cR;refine qh 0 V b2 ?_;refine ql (DR b2.oR dL) ?_;rintro fD fW ⟨fc,rfl,cS⟩;have b3:=b2.vw cS;refine qh 0 V b3 ?_;refine qr (oO rfl rfl ((sF (.inr (.inr rfl))).trans (congrArg (fun z=>some (jD.i .u32 z)) (Go.Wk.u32_xor aT aU)))) ?_;refine qr (oO rfl rfl ((sF (.inr (.inr rfl))).trans (congrArg (fun z=>some (jD.i .u32 z)) (Go.Wk.u32_xor (aT ^^^ aU) (br >>> rD 10))))) ?_;refine qr (oO rfl rfl (congrArg (fun z=>some (jD.i .u32 z)) (xf ((bc+be)+((a9 ^^^ aC) ^^^ (bb >>> rD 3))) ((aT ^^^ aU) ^^^ (br >>> rD 10))))) ?_;obtain ⟨d0,b9⟩:=oM dR;refine qr (qV adx Ty.qX rfl rfl d0 (p8 n b9)) ?_;refine FK (by kernel_rfl) b3.agree ?_;refine qu (FG (cs':=pR 64 cW 0 (bn.set O.toNat (((bc+be)+((a9 ^^^ aC) ^^^ (bb >>> rD 3)))+((aT ^^^ aU) ^^^ (br >>> rD 10))))) 0 rfl rfl b3 rfl rfl Ty.qX (by rw [IQ,pA];exact (p8 n b9)) (Hd n (p8 n b9) _)) ?_;rintro _ fX bQ;refine qw bQ ?_;refine ax ?_;exact nj ⟨(bn.set O.toNat (((bc+be)+((a9 ^^^ aC) ^^^ (bb >>> rD 3)))+((aT ^^^ aU) ^^^ (br >>> rD 10)))),H,⟨bM,rfl,pc,(by rw [Ey];exact n),bQ⟩⟩
        ·rintro E fR ⟨bo,H,bs,rfl,fq,df,cF⟩;refine ax ?_;exact nm H ⟨_,rfl,pc,df,cF⟩
       ·refine pw _ rfl ?_;exact nj ⟨bn,H,⟨_,rfl,pc,n,aj⟩⟩
     ·rintro E gj ⟨aY,H,aJ,rfl,fx,bY,cK⟩;refine aq ?_;refine xm (vF (cs:=pR 8 cW 0 (ph 8 (0:UInt32))) Ty.Ps rfl cK) ?_;rintro _ gk ⟨Y,rfl,fj⟩;refine sb 0 (pR 8 cW 0 M) ?_;intro gl b6;refine qn ?_;refine pe (fun E wq=>∃ ba:List UInt32,p9.k7 y M bE ba=some r ∧ ∃ (bi:jL),E=[(2,pl b 0),(3,pl f 0),(4,pl e 0),(5,g),(6,.i .i64 y),(12,pl Y 0)]∧aJ.le bi∧(ba).length=8∧po b6 [.box Y (pR 8 cW 0 ba),.row tB g P,.box e (pR 8 cW 0 M),.box f (pR 64 cW 0 J),.box b (pb (ph 32 (0:UInt8)))] bi wq) ?_ ?_
      ·refine ax ?_;refine qC (fun (s:Int × (List UInt32)) E wq=>∃ (aK:jL),E=[(2,pl b 0),(3,pl f 0),(4,pl e 0),(5,g),(6,.i .i64 y),(7,pl l 0),(12,pl Y 0),(13,.i .i64 s.1)]∧aJ.le aK∧(s.2).length=8∧po b6 [.box Y (pR 8 cW 0 s.2),.box l (pR 64 cW 0 aY),.row tB g P,.box e (pR 8 cW 0 M),.box f (pR 64 cW 0 J),.box b (pb (ph 32 (0:UInt8)))] aK wq) H ?_ ?_
       ·exact lo ⟨_,rfl,pc,b8,b6⟩
       ·rintro f6 ⟨fm,eR⟩ E eT hI H
        try dsimp only at hI
        obtain ⟨aK,rfl,f0,a,c⟩:=hI;refine ay ?_;refine qy H (fun dd H=>?_) (fun dd H=>?_)
        ·refine ay ?_;obtain ⟨j,cw,d,cx,H⟩:=oU H;refine rn ?_;obtain ⟨d8,eB⟩:=oM cw;refine qr (qV abb Ty.qX rfl rfl d8 (p8 a eB)) ?_;obtain ⟨_,eC⟩:=oM cw;refine qr (rR 0 Ty.rS rfl c rfl (by rw [pA];exact rW a eC)) ?_;obtain ⟨d9,eD⟩:=oM cx;refine qr (qV abb Ty.qX rfl rfl d9 (p8 a eD)) ?_;obtain ⟨_,eE⟩:=oM cx;refine qr (rR 0 Ty.rS rfl c rfl (by rw [pA];exact rW a eE)) ?_;refine ay ?_;obtain ⟨L,cy,B,cz,H⟩:=oU H;obtain ⟨D,c0,Q,c1,H⟩:=oU H;obtain ⟨X,c2,p,dO,H⟩:=oU H;obtain ⟨q,dP,A,dQ,H⟩:=oU H;have m:=c.tK 0 rfl;have u:=c.tK 4 rfl;have x:=c.tK 1 rfl;refine uT (G:=(aK.hold eT [Y,f,l])) [0,1,2,4,7,11,12,13,14,15,16,17,18,19,20,22,23,24,26,27,28,3,5,6,8,9,10,21,25,29,30] rfl Ty.mixed (by kernel_rfl) (HB.agree (HB.cons 0 m c rfl (HB.cons 4 u c rfl (HB.cons 1 x c rfl HB.nil))) c.agree) ?_;obtain ⟨dA,eF⟩:=oM cy;refine qr (qV abb Ty.qX rfl rfl dA (p8 a eF)) ?_;obtain ⟨_,eG⟩:=oM cy;refine qr (wB Ty.rS rfl (m.held (HB.cons 0 m c rfl (HB.cons 4 u c rfl (HB.cons 1 x c rfl HB.nil))) (by simp)) (by rw [pA];exact rW a eG)) ?_;refine au ?_;obtain ⟨dB,eH⟩:=oM cz;refine qr (qV abb Ty.qX rfl rfl dB (p8 a eH)) ?_;obtain ⟨_,eI⟩:=oM cz;refine qr (wB Ty.rS rfl (m.held (HB.cons 0 m c rfl (HB.cons 4 u c rfl (HB.cons 1 x c rfl HB.nil))) (by simp)) (by rw [pA];exact rW a eI)) ?_;refine qr (oO rfl rfl ((sF (.inl rfl)).trans (congrArg (fun z=>some (jD.i .u32 z)) (Go.Wk.u32_and d B)))) ?_;refine qc ?_;refine qr (Vo rfl (aaa d)) ?_;obtain ⟨dC,eJ⟩:=oM c0;refine qr (qV abb Ty.qX rfl rfl dC (p8 a eJ)) ?_;obtain ⟨_,eK⟩:=oM c0;refine qr (wB Ty.rS rfl (m.held (HB.cons 0 m c rfl (HB.cons 4 u c rfl (HB.cons 1 x c rfl HB.nil))) (by simp)) (by rw [pA];exact rW a eK)) ?_;refine qr (oO rfl rfl ((sF (.inl rfl)).trans (congrArg (fun z=>some (jD.i .u32 z)) (Go.Wk.u32_and (~~~d) D)))) ?_
         refine qr (oO rfl rfl ((sF (.inr (.inr rfl))).trans (congrArg (fun z=>some (jD.i .u32 z)) (Go.Wk.u32_xor (d &&& B) ((~~~d) &&& D))))) ?_;refine qc ?_;obtain ⟨dD,eL⟩:=oM c1;refine qr (qV adx Ty.qX rfl rfl dD (p8 ca eL)) ?_;obtain ⟨_,eM⟩:=oM c1;refine qr (wB Ty.rS rfl (u.held (HB.cons 0 m c rfl (HB.cons 4 u c rfl (HB.cons 1 x c rfl HB.nil))) (by simp)) (by rw [pA];exact rW ca eM)) ?_;refine qc ?_;obtain ⟨dE,eN⟩:=oM c2;refine qr (qV adx Ty.qX rfl rfl dE (p8 bY eN)) ?_;obtain ⟨_,eO⟩:=oM c2;refine qr (wB Ty.rS rfl (x.held (HB.cons 0 m c rfl (HB.cons 4 u c rfl (HB.cons 1 x c rfl HB.nil))) (by simp)) (by rw [pA];exact rW bY eO)) ?_;refine ql (DR c.oR dO) ?_;rintro fF gt ⟨fe,rfl,cT⟩;have S:=c.vw cT;refine pQ.tT (HB.le (HB.cons 0 m S rfl (HB.cons 4 u S rfl (HB.cons 1 x S rfl HB.nil))) (jL.le.refl _)) (HB.agree (HB.cons 0 m S rfl (HB.cons 4 u S rfl (HB.cons 1 x S rfl HB.nil))) S.agree) ?_;refine ql (DR S.oR dP) ?_;rintro fG gu ⟨ff,rfl,cU⟩;have U:=S.vw cU;refine pQ.tT (HB.le (HB.cons 0 m U rfl (HB.cons 4 u U rfl (HB.cons 1 x U rfl HB.nil))) (jL.le.refl _)) (HB.agree (HB.cons 0 m U rfl (HB.cons 4 u U rfl (HB.cons 1 x U rfl HB.nil))) U.agree) ?_;refine qr (oO rfl rfl ((sF (.inr (.inr rfl))).trans (congrArg (fun z=>some (jD.i .u32 z)) (Go.Wk.u32_xor p q)))) ?_;refine ql (DR U.oR dQ) ?_;rintro fH eU ⟨fg,rfl,cV⟩;have h:=U.vw cV;refine pQ.tT (HB.le (HB.cons 0 m h rfl (HB.cons 4 u h rfl (HB.cons 1 x h rfl HB.nil))) (jL.le.refl _)) (HB.agree (HB.cons 0 m h rfl (HB.cons 4 u h rfl (HB.cons 1 x h rfl HB.nil))) h.agree) ?_;refine qr (oO rfl rfl ((sF (.inr (.inr rfl))).trans (congrArg (fun z=>some (jD.i .u32 z)) (Go.Wk.u32_xor (p ^^^ q) A)))) ?_;refine qr (oO rfl rfl (congrArg (fun z=>some (jD.i .u32 z)) (xf L ((p ^^^ q) ^^^ A)))) ?_;refine qr (oO rfl rfl (congrArg (fun z=>some (jD.i .u32 z)) (xf (L+((p ^^^ q) ^^^ A)) ((d &&& B) ^^^ ((~~~d) &&& D))))) ?_;refine qr (oO rfl rfl (congrArg (fun z=>some (jD.i .u32 z)) (xf ((L+((p ^^^ q) ^^^ A))+((d &&& B) ^^^ ((~~~d) &&& D))) Q))) ?_
         refine qr (oO rfl rfl (congrArg (fun z=>some (jD.i .u32 z)) (xf (((L+((p ^^^ q) ^^^ A))+((d &&& B) ^^^ ((~~~d) &&& D)))+Q) X))) ?_;refine ay ?_;obtain ⟨ah,cb,ai,cc,H⟩:=oU H;obtain ⟨ar,cd,a4,ce,H⟩:=oU H;obtain ⟨ak,dF,am,dG,H⟩:=oU H;obtain ⟨a8,dH,H⟩:=oL H;have I:=h.tK 0 rfl;refine uT (G:=(aK.hold eU [Y])) [0,2,5,8,9,10,11,12,13,14,15,16,17,18,19,20,21,22,1,3,4,6,7,23,24] rfl Ty.mixed (by kernel_rfl) (HB.agree (HB.cons 0 I h rfl HB.nil) h.agree) ?_;refine au ?_;obtain ⟨dj,dX⟩:=oM cb;refine qr (qV abb Ty.qX rfl rfl dj (p8 a dX)) ?_;obtain ⟨_,dY⟩:=oM cb;refine qr (wB Ty.rS rfl (I.held (HB.cons 0 I h rfl HB.nil) (by simp)) (by rw [pA];exact rW a dY)) ?_;refine qr (oO rfl rfl ((sF (.inl rfl)).trans (congrArg (fun z=>some (jD.i .u32 z)) (Go.Wk.u32_and j ah)))) ?_;refine qc ?_;obtain ⟨dk,dZ⟩:=oM cc;refine qr (qV abb Ty.qX rfl rfl dk (p8 a dZ)) ?_;obtain ⟨_,ea⟩:=oM cc;refine qr (wB Ty.rS rfl (I.held (HB.cons 0 I h rfl HB.nil) (by simp)) (by rw [pA];exact rW a ea)) ?_;refine qr (oO rfl rfl ((sF (.inl rfl)).trans (congrArg (fun z=>some (jD.i .u32 z)) (Go.Wk.u32_and j ai)))) ?_;refine qr (oO rfl rfl ((sF (.inr (.inr rfl))).trans (congrArg (fun z=>some (jD.i .u32 z)) (Go.Wk.u32_xor (j &&& ah) (j &&& ai))))) ?_;obtain ⟨dl,eb⟩:=oM cd;refine qr (qV abb Ty.qX rfl rfl dl (p8 a eb)) ?_;obtain ⟨_,ec⟩:=oM cd;refine qr (wB Ty.rS rfl (I.held (HB.cons 0 I h rfl HB.nil) (by simp)) (by rw [pA];exact rW a ec)) ?_;obtain ⟨dm,ed⟩:=oM ce;refine qr (qV abb Ty.qX rfl rfl dm (p8 a ed)) ?_;obtain ⟨_,ee⟩:=oM ce;refine qr (wB Ty.rS rfl (I.held (HB.cons 0 I h rfl HB.nil) (by simp)) (by rw [pA];exact rW a ee)) ?_;refine qr (oO rfl rfl ((sF (.inl rfl)).trans (congrArg (fun z=>some (jD.i .u32 z)) (Go.Wk.u32_and ar a4)))) ?_;refine qr (oO rfl rfl ((sF (.inr (.inr rfl))).trans (congrArg (fun z=>some (jD.i .u32 z)) (Go.Wk.u32_xor ((j &&& ah) ^^^ (j &&& ai)) (ar &&& a4))))) ?_
         refine ql (DR h.oR dF) ?_;rintro f7 fK ⟨eW,rfl,cM⟩;have bv:=h.vw cM;refine qh 0 I bv ?_;refine ql (DR bv.oR dG) ?_;rintro f8 fL ⟨eX,rfl,cN⟩;have bw:=bv.vw cN;refine qh 0 I bw ?_;refine qr (oO rfl rfl ((sF (.inr (.inr rfl))).trans (congrArg (fun z=>some (jD.i .u32 z)) (Go.Wk.u32_xor ak am)))) ?_;refine ql (DR bw.oR dH) ?_;rintro f9 fM ⟨eY,rfl,cO⟩;have Z:=bw.vw cO;refine qh 0 I Z ?_;refine qr (oO rfl rfl ((sF (.inr (.inr rfl))).trans (congrArg (fun z=>some (jD.i .u32 z)) (Go.Wk.u32_xor (ak ^^^ am) a8)))) ?_;refine qr (oO rfl rfl (congrArg (fun z=>some (jD.i .u32 z)) (xf ((ak ^^^ am) ^^^ a8) (((j &&& ah) ^^^ (j &&& ai)) ^^^ (ar &&& a4))))) ?_;obtain ⟨bF,cf,bG,cg,H⟩:=oU H;obtain ⟨bH,ch,bq,ci,H⟩:=oU H;obtain ⟨bI,cj,bJ,ck,H⟩:=oU H;obtain ⟨bK,cl,H⟩:=oL H;refine ax ?_;refine qr (oO rfl rfl (congrArg (fun z=>some (jD.i .u32 z)) (xf ((((L+((p ^^^ q) ^^^ A))+((d &&& B) ^^^ ((~~~d) &&& D)))+Q)+X) (((ak ^^^ am) ^^^ a8)+(((j &&& ah) ^^^ (j &&& ai)) ^^^ (ar &&& a4)))))) ?_;obtain ⟨dn,ef⟩:=oM cf;refine qr (qV abb Ty.qX rfl rfl dn (p8 a ef)) ?_;obtain ⟨_,eg⟩:=oM cf;refine qr (rR 0 Ty.rS rfl Z rfl (by rw [pA];exact rW a eg)) ?_;obtain ⟨dq,eh⟩:=oM cg;refine qr (qV abb Ty.qX rfl rfl dq (p8 a eh)) ?_;obtain ⟨_,ei⟩:=oM cg;refine qr (rR 0 Ty.rS rfl Z rfl (by rw [pA];exact rW a ei)) ?_;obtain ⟨dr,ej⟩:=oM ch;refine qr (qV abb Ty.qX rfl rfl dr (p8 a ej)) ?_;obtain ⟨_,ek⟩:=oM ch;refine qr (rR 0 Ty.rS rfl Z rfl (by rw [pA];exact rW a ek)) ?_;obtain ⟨ds,em⟩:=oM ci;refine qr (qV abb Ty.qX rfl rfl ds (p8 a em)) ?_;obtain ⟨_,en⟩:=oM ci;refine qr (rR 0 Ty.rS rfl Z rfl (by rw [pA];exact rW a en)) ?_;refine qc ?_;refine qr (oO rfl rfl (congrArg (fun z=>some (jD.i .u32 z)) (xf bq ((((L+((p ^^^ q) ^^^ A))+((d &&& B) ^^^ ((~~~d) &&& D)))+Q)+X)))) ?_
         obtain ⟨dt,eo⟩:=oM cj;refine qr (qV abb Ty.qX rfl rfl dt (p8 a eo)) ?_;obtain ⟨_,ep⟩:=oM cj;refine qr (rR 0 Ty.rS rfl Z rfl (by rw [pA];exact rW a ep)) ?_;obtain ⟨du,eq⟩:=oM ck;refine qr (qV abb Ty.qX rfl rfl du (p8 a eq)) ?_;obtain ⟨_,er⟩:=oM ck;refine qr (rR 0 Ty.rS rfl Z rfl (by rw [pA];exact rW a er)) ?_;obtain ⟨dv,et⟩:=oM cl;refine qr (qV abb Ty.qX rfl rfl dv (p8 a et)) ?_;obtain ⟨_,eu⟩:=oM cl;refine qr (rR 0 Ty.rS rfl Z rfl (by rw [pA];exact rW a eu)) ?_;refine qr (Kx (vs:=nW 0 ([(((((L+((p ^^^ q) ^^^ A))+((d &&& B) ^^^ ((~~~d) &&& D)))+Q)+X)+(((ak ^^^ am) ^^^ a8)+(((j &&& ah) ^^^ (j &&& ai)) ^^^ (ar &&& a4)))),bF,bG,bH,(bq+((((L+((p ^^^ q) ^^^ A))+((d &&& B) ^^^ ((~~~d) &&& D)))+Q)+X)),bI,bJ,bK]:List UInt32)) (v:=.agg (pR 8 cW 0 ([(((((L+((p ^^^ q) ^^^ A))+((d &&& B) ^^^ ((~~~d) &&& D)))+Q)+X)+(((ak ^^^ am) ^^^ a8)+(((j &&& ah) ^^^ (j &&& ai)) ^^^ (ar &&& a4)))),bF,bG,bH,(bq+((((L+((p ^^^ q) ^^^ A))+((d &&& B) ^^^ ((~~~d) &&& D)))+Q)+X)),bI,bJ,bK]:List UInt32))) Ty.Nq rfl rfl) ?_;refine sb 0 (pR 8 cW 0 ([(((((L+((p ^^^ q) ^^^ A))+((d &&& B) ^^^ ((~~~d) &&& D)))+Q)+X)+(((ak ^^^ am) ^^^ a8)+(((j &&& ah) ^^^ (j &&& ai)) ^^^ (ar &&& a4)))),bF,bG,bH,(bq+((((L+((p ^^^ q) ^^^ A))+((d &&& B) ^^^ ((~~~d) &&& D)))+Q)+X)),bI,bJ,bK]:List UInt32)) ?_;intro fP cE;refine ax ?_;exact nm H ⟨_,rfl,pc,rfl,cE⟩
        ·refine pw _ rfl ?_;exact nj ⟨eR,H,⟨_,rfl,pc,a,pk [0,2,3,4,5] c⟩⟩
      ·rintro E gm ⟨ba,H,bi,rfl,fy,bZ,bS⟩;refine ax ?_;refine qC (fun (s:Int × (List UInt32)) E wq=>∃ (bj:jL),E=[(2,pl b 0),(3,pl f 0),(4,pl e 0),(5,g),(6,.i .i64 y),(12,pl Y 0),(18,.i .i64 s.1)]∧bi.le bj∧(s.2).length=8∧po bS [.box Y (pR 8 cW 0 ba),.row tB g P,.box e (pR 8 cW 0 s.2),.box f (pR 64 cW 0 J),.box b (pb (ph 32 (0:UInt8)))] bj wq) H ?_ ?_
       ·exact lo ⟨_,rfl,pc,b8,bS⟩
       ·rintro f5 ⟨eQ,c5⟩ E gn hI H
        try dsimp only at hI
        obtain ⟨bj,rfl,fz,ae,aR⟩:=hI;refine ay ?_;refine qy H (fun dc H=>?_) (fun dc H=>?_)
        ·refine ay ?_;obtain ⟨c9,ct,cA,cu,H⟩:=oU H;obtain ⟨g0,dW,H⟩:=oL H;refine rf aR ?_;refine qc ?_;obtain ⟨d5,e7⟩:=oM ct;refine qr (qV abb Ty.qX rfl rfl d5 (p8 ae e7)) ?_;obtain ⟨_,e8⟩:=oM ct;refine qq (rR 2 Ty.rS rfl aR rfl (by rw [pA];exact rW ae e8)) ?_;refine qc ?_;obtain ⟨d6,e9⟩:=oM cu;refine qr (qV abb Ty.qX rfl rfl d6 (p8 bZ e9)) ?_;obtain ⟨_,eA⟩:=oM cu;refine qq (rR 0 Ty.rS rfl aR rfl (by rw [pA];exact rW bZ eA)) ?_;refine qr (oO rfl rfl (congrArg (fun z=>some (jD.i .u32 z)) (xf c9 cA))) ?_;obtain ⟨d7,bC⟩:=oM dW;refine qr (qV abb Ty.qX rfl rfl d7 (p8 ae bC)) ?_;refine qu (FG (cs':=pR 8 cW 0 (c5.set eQ.toNat (c9+cA))) 2 rfl rfl aR rfl rfl Ty.qX (by rw [IQ,pA];exact (p8 ae bC)) (Hd ae (p8 ae bC) _)) ?_;rintro _ gq bT;refine qw bT ?_;refine ax ?_;exact nm H ⟨bj,rfl,pc,(by rw [Ey];exact ae),bT⟩
        ·refine ax ?_;exact nj ⟨c5,H,⟨_,rfl,pc,ae,pk [1,2,3,4] aR⟩⟩
    ·rintro E gg ⟨bp,H,bu,rfl,fw,di,cI⟩;refine ax ?_;exact nm H ⟨_,rfl,pc,di,cI⟩
   ·refine pw _ rfl ?_;exact nj ⟨M,H,⟨_,rfl,pc,b8,pk [1,3] bm⟩⟩
 ·rintro E fJ ⟨aV,H,aH,rfl,fn,bX,cD⟩;refine qs ?_;refine xm (vF (cs:=pb (ph 32 (0:UInt8))) Ty.Fm rfl cD) ?_;rintro _ fN ⟨bk,rfl,bz⟩;refine qn ?_;refine pe (fun E wq=>∃ aD:List UInt8,p9.k2 aD=some r ∧ ∃ (bf:jL),E=[(2,pl b 0),(19,pl bk 0)]∧aH.le bf∧(aD).length=32∧po bz [.box bk (pb aD),.box b (pb (ph 32 (0:UInt8)))] bf wq) ?_ ?_
  ·refine ax ?_;refine qC (fun (s:Int × (List UInt8)) E wq=>∃ (bh:jL),E=[(2,pl b 0),(4,pl e 0),(19,pl bk 0),(20,.i .i64 s.1)]∧aH.le bh∧(s.2).length=32∧po bz [.box bk (pb s.2),.box e (pR 8 cW 0 aV),.box b (pb (ph 32 (0:UInt8)))] bh wq) H ?_ ?_
   ·exact lo ⟨_,rfl,pc,(AM),bz⟩
   ·rintro f4 ⟨eP,c4⟩ E ga hI H
    try dsimp only at hI
    obtain ⟨bh,rfl,fu,a7,b4⟩:=hI;refine ay ?_;refine qy H (fun da H=>?_) (fun da H=>?_)
    ·obtain ⟨gy,cr,eV,dU,H⟩:=oU H;obtain ⟨gz,dV,H⟩:=oL H;refine ay ?_;refine qr (oO rfl rfl (by first | rfl | simp [ru,BG])) ?_;obtain ⟨d3,e5⟩:=oM cr;refine qr (qV abb Ty.qX rfl rfl d3 (p8 bX e5)) ?_;obtain ⟨_,e6⟩:=oM cr;refine qr (rR 1 Ty.rS rfl b4 rfl (by rw [pA];exact rW bX e6)) ?_;refine qc ?_;refine qr (oO rfl rfl (by first | rfl | simp [ru,BG])) ?_;refine au ?_;refine qr (vZ abD adA rfl (rfl)) ?_;refine qr (oO rfl rfl (No dU)) ?_;refine qr (vZ adG acP rfl (Z8 _)) ?_;obtain ⟨d4,bB⟩:=oM dV;refine qr (qV acY Ty.vA rfl rfl d4 (p8 a7 bB)) ?_;refine um (FG (cs':=pb (c4.set eP.toNat eV.toUInt8)) 0 rfl rfl b4 rfl rfl Ty.vA (by rw [Cy,pA];exact (p8 a7 bB)) (X0 a7 (p8 a7 bB) _)) ?_;rintro _ gd cH;refine ax ?_;exact nm H ⟨bh,rfl,pc,(by rw [Ey];exact a7),cH⟩
    ·refine pw _ rfl ?_;exact nj ⟨c4,H,⟨_,rfl,pc,a7,pk [0,2] b4⟩⟩
  ·rintro E fO ⟨aD,H,bf,rfl,fo,dg,fh⟩;refine aq ?_;refine sb 1 (pb aD) ?_;intro fT bP;refine qn ?_;obtain rfl:=oi H;refine yw (vs:=[.agg (pb aD)]) rfl ⟨(yB 1 Ty.yg Ty.uL bP rfl rfl),trivial⟩ ?_;exact ⟨bf,rfl,dg,bP.pick [] (by decide)⟩
def Cm.k1:Option Bool :=
  some false
def Cm.l2 (x0:List UInt8) (x1:List UInt8) (b:Int→Option Bool):Int→Option Bool
  | a =>
    if decide (a < 32) then
      bd (ix x0 a) fun x8 =>
      bd (ix x1 a) fun x9 =>
      if decide ((x8.toNat:Int)≠(x9.toNat:Int)) then
        bd (ix x0 a) fun c =>
        bd (ix x1 a) fun d =>
        some (decide ((c.toNat:Int) < (d.toNat:Int)))
      else
        b (wr (a+1))
    else
      Cm.k1
def Cm (x0:List UInt8) (x1:List UInt8):Option Bool :=
  loop (Cm.l2 x0 x1) 0
theorem acn {x0:List UInt8} {x1:List UInt8} {r:Bool} (hA:Gd F w) (c:x0.length=32) (d:x1.length=32) (H:Cm x0 x1=some r):pa aac K 153 [.agg (pb x0),.agg (pb x1)] w fun v w'=>∃ (F':jL),v = .b r∧St [] w F F' [] w':=by
 refine ra Tryz.func153 ?_;have hS:=St.start hA;refine qs ?_;refine bx (pb x0) ?_;intro l Z S;refine bx (pb x1) ?_;intro m w2 e;refine au ?_;refine pe (jO (Cm.k1=some r) [] e []) ?_ ?_
 ·refine ax ?_;refine lj e (fun s:Int=>[(2,pl l 0),(3,pl m 0),(5,.i .i64 s)]) H ?_;intro Y U R w4 X a H;refine ay ?_;refine qy H (fun x H=>?_) (fun x H=>?_)
  ·refine ay ?_;obtain ⟨x8,j,x9,k,H⟩:=oU H;refine rn ?_;refine qc ?_;obtain ⟨y,D⟩:=oM j;refine qr (qV acY Ty.vA rfl rfl y (p8 c D)) ?_;obtain ⟨_,G⟩:=oM j;refine qr (rR 1 Ty.DQ rfl a rfl (Gl (fun q u h=>by simpa using h) c G)) ?_;refine qc ?_;obtain ⟨z,I⟩:=oM k;refine qr (qV acY Ty.vA rfl rfl z (p8 d I)) ?_;obtain ⟨_,J⟩:=oM k;refine qr (rR 0 Ty.DQ rfl a rfl (Gl (fun q u h=>by simpa using h) d J)) ?_;refine au ?_;refine qy H (fun p H=>?_) (fun p H=>?_)
   ·refine qU ?_;obtain ⟨ai,f,aj,g,H⟩:=oU H;refine rn ?_;refine qc ?_;obtain ⟨A,L⟩:=oM f;refine qr (qV acY Ty.vA rfl rfl A (p8 c L)) ?_;obtain ⟨_,M⟩:=oM f;refine qr (rR 1 Ty.DQ rfl a rfl (Gl (fun q u h=>by simpa using h) c M)) ?_;refine qc ?_;obtain ⟨B,O⟩:=oM g;refine qr (qV acY Ty.vA rfl rfl B (p8 d O)) ?_;obtain ⟨_,P⟩:=oM g;refine qr (rR 0 Ty.DQ rfl a rfl (Gl (fun q u h=>by simpa using h) d P)) ?_;exact rz H a
   ·refine ax ?_;exact nm H (jj a)
  ·refine pw _ rfl ?_;exact nj ⟨H,jj (pk [] a)⟩
 ·rintro E w3 ⟨H,Q,rfl,V,n⟩;exact rz H n
def Bz.k1 (x0:List (List UInt8)) (x1:List UInt8) (a:Int):Option ((List (List UInt8)) × Int × Bool) :=
  bd (only (decide (a < (x0.length:Int))) (ix x0 a) (ph 32 (0:UInt8))) fun x4 =>
  if (decide (a < (x0.length:Int))&&decide (x4=x1)) then
    some (x0,a,false)
  else
    bd (cut (α:=(List UInt8)) x0 0 a) fun b =>
    bd (app (α:=(List UInt8)) [] b) fun c =>
    bd (app (α:=(List UInt8)) c [x1]) fun uo =>
    bd (cut (α:=(List UInt8)) x0 a (x0.length:Int)) fun d =>
    bd (app (α:=(List UInt8)) uo d) fun e =>
    some (e,a,true)
def Bz.l2 (x0:List (List UInt8)) (x1:List UInt8) (c:Int→Option ((List (List UInt8)) × Int × Bool)):Int→Option ((List (List UInt8)) × Int × Bool)
  | a =>
    bd (only (decide (a < (x0.length:Int))) (ix x0 a) (ph 32 (0:UInt8))) fun d =>
    bd (only (decide (a < (x0.length:Int))) (Cm d x1) false) fun b =>
    if (decide (a < (x0.length:Int))&&b) then
      c (wr (a+1))
    else
      Bz.k1 x0 x1 a
def Bz (x0:List (List UInt8)) (x1:List UInt8):Option ((List (List UInt8)) × Int × Bool) :=
  loop (Bz.l2 x0 x1) 0
theorem Wd {x0:List (List UInt8)} {x1:List UInt8} {r:(List (List UInt8)) × Int × Bool} {j:jD} (hA:Gd F w) (a:oF rX F j x0) (D:x1.length=32) (H:Bz x0 x1=some r):pa aac K 107 [j,.agg (pb x1)] w fun v w'=>∃ (F':jL) (q0:jD),v = .qR [q0,.i .i64 r.2.1,.b r.2.2]∧oF rX F' q0 (r.1)∧St [] w F F' [] w':=by
 refine ra Tryz.func107 ?_;have hS:=St.start hA;refine qs ?_;refine bx (pb x1) ?_;intro B w1 S;refine au ?_;refine aq ?_;refine pe (fun E wq=>∃ e:Int,Bz.k1 x0 x1 e=some r ∧ ∃ (f:jL),E=[(0,j),(3,pl B 0),(7,.i .i64 e)]∧F.le f∧ug S f wq) ?_ ?_
 ·refine xP ?_;refine lj S (fun s:Int=>[(0,j),(3,pl B 0),(7,.i .i64 s)]) H ?_;intro b5 ai bh bE aj g H;refine ay ?_;obtain ⟨R,x,b4,aR,H⟩:=oU H;have n:(R).length=32:=by
   rcases Bool.eq_false_or_eq_true (decide (ai < (x0.length:Int))) with M | M
   ·have ad:=x;rw [qA M] at ad;obtain ⟨bs,bb⟩:=oM ad;obtain ⟨bj,aT,P⟩:=(a.mono aj).el bb;obtain ⟨rfl,n⟩:=aT;replace P:=qj 32 P;have bo:=P.rq;exact n
   ·have hy:=x;rw [te M] at hy;obtain rfl:=oi hy
    rfl
  refine rf g ?_;refine aw ?_;refine ge (mo a) x ?_;refine uC (v:=.agg (pb R)) rfl rfl rfl rfl (fun ⟨Y,_⟩=>?_) ?_
  ·rw [Y];intro hK;have ae:=x;rw [qA Y] at ae;obtain ⟨bt,bc⟩:=oM ae;obtain ⟨bk,aU,m⟩:=(a.mono aj).el bc;obtain ⟨rfl,n⟩:=aU;replace m:=qj 32 m;have bp:=m.rq;refine qq (tD 0 (pb R) Ty.yg Ty.uL rfl (m.mono g.agree) (by first | omega | rfl) rfl (qY rfl)) ?_;exact hK
  refine uC (v:=.agg (pb x1)) rfl rfl rfl rfl (fun ⟨a6,_⟩=>?_) ?_
  ·rw [a6];exact (qq (yy 0 (pb x1) Ty.yg Ty.uL (wU _) rfl g rfl (fun q u h=>xd (post:=[]) rfl h)) ·)
  refine gw g aR (fun y=>acn g.oR n D y) ?_;intro bF L;refine qw L ?_;refine aw ?_;refine qy H (fun a8 H=>?_) (fun a8 H=>?_)
  ·refine ax ?_;exact nm H (jj L)
  ·refine pw _ rfl ?_;exact nj ⟨ai,H,jj L⟩
 ·rintro E w2 ⟨e,H,f,rfl,A,c⟩;refine ay ?_;obtain ⟨x4,z,H⟩:=oL H;have p:(x4).length=32:=by
   rcases Bool.eq_false_or_eq_true (decide (e < (x0.length:Int))) with O | O
   ·have ah:=z;rw [qA O] at ah;obtain ⟨bu,be⟩:=oM ah;obtain ⟨bm,aV,Q⟩:=(a.mono A).el be;obtain ⟨rfl,p⟩:=aV;replace Q:=qj 32 Q;have bq:=Q.rq;exact p
   ·have hy:=z;rw [te O] at hy;obtain rfl:=oi hy
    rfl
  refine rn ?_;refine aw ?_;refine ge (mo a) z ?_;refine uC (v:=.agg (pb x4)) rfl rfl rfl rfl (fun ⟨X,_⟩=>?_) ?_
  ·rw [X];intro hK;have Z:=z;rw [qA X] at Z;obtain ⟨br,ba⟩:=oM Z;obtain ⟨bi,aO,l⟩:=(a.mono A).el ba;obtain ⟨rfl,p⟩:=aO;replace l:=qj 32 l;have bn:=l.rq;refine qr (tD 0 (pb x4) Ty.yg Ty.uL rfl (l.mono c.agree) (by first | omega | rfl) rfl (qY rfl)) ?_;exact hK
  refine aw ?_;refine uC (v:=.b (decide (x4=x1))) rfl rfl rfl rfl (fun ⟨a5,_⟩=>?_) ?_
  ·rw [a5];exact (qr (oO rfl rfl (IT Ty.Jc rfl rfl (Jb p D))) ·)
  refine aw ?_;refine qy H (fun a7 H=>?_) (fun a7 H=>?_)
  ·refine aq ?_;obtain rfl:=oi H;refine qt ?_;exact ⟨f,j,rfl,(mo a),c.pick [] (by decide)⟩
  ·refine ay ?_;obtain ⟨bv,aC,bw,aD,H⟩:=oU H;obtain ⟨uo,aH,H⟩:=oL H;have d:=c.tK 0 rfl;refine uT (G:=(f.hold w2 [B])) [0,1,2,3,5,6,4,7,8] rfl Ty.mixed (by kernel_rfl) (HB.agree (HB.cons 0 d c rfl HB.nil) c.agree) ?_;refine au ?_;refine FJ 0 e rfl rfl rfl rfl acv Ty.uL rfl (.inl ⟨rfl,rfl⟩) (.inr ⟨_,_,rfl,rfl⟩) a aC ?_;intro b2 aX;refine qr (Ky (pb x1) Ty.yg Ty.uL (wU _) rfl (d.held (HB.cons 0 d c rfl HB.nil) (by simp)) (fun q u h=>xd (post:=[]) rfl h)) ?_;refine qx (sh (t:=rX) (vs:=[.agg (pb x1)]) (xs:=[x1]) acv Ty.Fg rfl ⟨⟨rfl,D⟩,trivial⟩ rfl rfl c) ?_;rintro b6 bA U;refine qh 1 d U ?_;have V:=U.sY rX;refine qx (xl (t:=rX) 0 acv Ty.Fg Ty.Pv rfl rfl V rfl ((aX.mono A).src V.agree) aD) ?_;rintro b7 bB I;refine qh 2 d I ?_;refine qx (xl (t:=rX) 0 acv Ty.Fg Ty.Pv rfl rfl I rfl (I.tf (k:=1) rfl) aH) ?_;rintro b8 bC J;refine qh 2 d J ?_;obtain ⟨bz,aJ,b0,aK,H⟩:=oU H;refine ax ?_;refine FJ e (x0.length:Int) rfl rfl rfl rfl acv Ty.uL rfl (.inr ⟨_,_,rfl,rfl⟩) (.inl ⟨rfl,rfl⟩) a aJ ?_;intro b3 aY;refine ap 0 J ((aY.mono A).src J.agree) aK ?_;intro bf bD ar;refine au ?_;obtain ⟨am,b1,a9,a4⟩:=ar.rv 0 [1,2] rfl (by decide) (by decide);obtain rfl:=oi H;refine qt ?_;exact ⟨am,bf,rfl,a9,a4.pick [] (by decide)⟩
def yW.k2 (x0:mZ) (a:(List (List UInt8)) × Int × Bool) (sm:List Chunk):Option (Int × mZ) :=
  some (a.2.1,(mZ.mk x0.seq x0.oB sm x0.oD x0.oK))
def yW.k1 (x0:mZ) (x1:List UInt8) (l3:List (List UInt8)):Option (Int × mZ) :=
  bd (Bz l3 x1) fun a =>
  if a.2.2 then
    bd (wZ x0.chunks a.2.1 [(Chunk.mk x1 false [] [])]) fun b =>
    yW.k2 x0 a b
  else
    yW.k2 x0 a x0.chunks
def yW.l3 (x0:mZ) (x1:List UInt8) (d:((List (List UInt8)) × Int)→Option (Int × mZ)):((List (List UInt8)) × Int)→Option (Int × mZ)
  | (b,a) =>
    if decide (a < (x0.chunks.length:Int)) then
      bd (ix x0.chunks a) fun e =>
      bd (app (α:=(List UInt8)) b [e.id]) fun c =>
      d (c,wr (a+1))
    else
      yW.k1 x0 x1 b
def yW (x0:mZ) (x1:List UInt8):Option (Int × mZ) :=
  loop (yW.l3 x0 x1) ([],0)
theorem acu {X:List Nat} {x0:mZ} {x1:List UInt8} {r:Int × mZ} {s8:Nat} {b:jD} {yi:List Nat} {f:jD} {yC:List Nat} {d:jD} {yj:List Nat} {a:jD} (hS:St X w F F [.box s8 [.i .i64 x0.seq,b,f,d,a],.dp lU.o yi b x0.oB,.dp Chunk.o yC f x0.chunks,.dp oC.o yj d x0.oD,.row oH.t a x0.oK] w) (V:x1.length=32) (H:yW x0 x1=some r):pa aac K 48 [pl s8 0,.agg (pb x1)] w fun v w'=>∃ (F':jL) (ai:jD) (Hi:List Nat) (aj:jD) (Hj:List Nat) (ak:jD) (Hk:List Nat),v = .i .i64 r.1∧St X w F F' [.box s8 [.i .i64 r.2.seq,ai,aj,ak,a],.dp lU.o Hi ai r.2.oB,.dp Chunk.o Hj aj r.2.chunks,.dp oC.o Hk ak r.2.oD,.row oH.t a r.2.oK] w':=by
 refine ra Tryz.func48 ?_;refine qs ?_;refine bx (pb x1) ?_;intro m w1 J;refine au ?_;refine aq ?_;refine pe (fun E wq=>∃ l3:List (List UInt8),yW.k1 x0 x1 l3=some r ∧ ∃ (B:jL) (Q:jD),E=[(0,pl s8 0),(3,pl m 0),(5,Q)]∧F.le B∧po J [.box m (pb x1),.box s8 [.i .i64 x0.seq,b,f,d,a],.dp lU.o yi b x0.oB,.dp Chunk.o yC f x0.chunks,.dp oC.o yj d x0.oD,.row oH.t a x0.oK,.row rX Q l3] B wq) ?_ ?_
 ·refine ax ?_;refine qC (fun (s:(List (List UInt8)) × Int) E wq=>∃ (D:jL) (A:jD),E=[(0,pl s8 0),(3,pl m 0),(5,A),(6,.i .i64 s.2)]∧F.le D∧po J [.box m (pb x1),.box s8 [.i .i64 x0.seq,b,f,d,a],.dp lU.o yi b x0.oB,.dp Chunk.o yC f x0.chunks,.dp oC.o yj d x0.oD,.row oH.t a x0.oK,.row rX A s.1] D wq) H ?_ ?_
  ·have a7:=J.sY rX;exact lo ⟨F,(.sl none 0 (.k 0)),rfl,(jL.le.refl _),a7.pick [1,2,3,4,5,6,0] (by decide)⟩
  ·rintro bu ⟨aY,bk⟩ E bC hI H
   try dsimp only at hI
   obtain ⟨D,A,rfl,bo,p⟩:=hI;refine ay ?_;refine qr (qD aaE rfl (p.ub (k:=3) rfl)) ?_;refine au ?_;refine qy H (fun aC H=>?_) (fun aC H=>?_)
   ·obtain ⟨S,aV,bm,aK,H⟩:=oU H;obtain ⟨_,⟨bz,b0,rfl,aO,bg,bh⟩,aH⟩:=qa 35 (p.wI (k:=3) rfl Chunk.sf) aV;refine ay ?_;refine qr (tD 0 (pb S.id) Ty.yg Ty.uL rfl aH (by first | omega | rfl) rfl (qY rfl)) ?_;refine xm (sh (t:=rX) (vs:=[.agg (pb S.id)]) (xs:=[S.id]) acv Ty.Fg rfl ⟨⟨rfl,aO⟩,trivial⟩ rfl rfl p) ?_;rintro bw bD ad;refine ap 7 ad (ad.tf (k:=0) rfl) aK ?_;intro ba bE a6;refine ax ?_;exact nm H ⟨_,ba,rfl,pc,pk [1,2,3,4,5,6,7] a6⟩
   ·refine pw _ rfl ?_;exact nj ⟨aY,H,⟨_,A,rfl,pc,p⟩⟩
 ·rintro E w2 ⟨l3,H,B,Q,rfl,bn,ar⟩;obtain ⟨y,aR,H⟩:=oL H;refine aq ?_;obtain ⟨F7,bp,aJ,ae⟩:=ar.rv 6 [0,1,2,3,4,5] rfl (by decide) (by decide);refine lm (Wd ae.oR aJ V aR) ?_;rintro v8 w8 ⟨U,b1,rfl,bf,ah⟩;have g:=ae.call ah;have br:=ah.ext;refine au ?_;refine pe (fun E wq=>∃ sm:List Chunk,yW.k2 x0 y sm=some r ∧ ∃ (n:jL) (z:jD) (I:List Nat),E=[(8,.i .i64 y.2.1)]∧U.le n∧po g [.box s8 [.i .i64 x0.seq,b,z,d,a],.dp lU.o yi b x0.oB,.dp oC.o yj d x0.oD,.row oH.t a x0.oK,.dp Chunk.o I z sm] n wq) ?_ ?_
  ·refine aq ?_;refine qy H (fun a9 H=>?_) (fun a9 H=>?_)
   ·refine ay ?_;obtain ⟨aX,e,H⟩:=oL H;have j:=g.tK 0 rfl;refine uT (G:=(U.hold w8 [m])) [0,1,2,3,4,5,6,8,9,10,7,11,12] rfl Ty.mixed (by kernel_rfl) (HB.agree (HB.cons 0 j g rfl HB.nil) g.agree) ?_;refine au ?_;obtain ⟨acQ,alV,l,L⟩:=g.QA (t:=Chunk.o) (i:=3) (by decide) rfl;refine xq 4 0 y.2.1 rfl rfl rfl rfl aaE Ty.tg rfl (.inl ⟨rfl,rfl⟩) (.inr ⟨_,_,rfl,rfl⟩) L rfl (Jt l e) ?_;intro bs bi aU;refine qr (Ky (pb x1) Ty.yg Ty.uL (wU _) rfl (j.held (HB.cons 1 j L rfl HB.nil) (by simp)) (fun q u h=>xd (post:=[]) rfl h)) ?_;refine qM (v:=.agg (Chunk.cells (Chunk.mk x1 false [] []) (.sl none 0 (.k 0)) (.sl none 0 (.k 0)))) rfl rfl rfl rfl (fun _=>rfl) ?_;refine qx (Qk (t:=Chunk.o) (u:=.agg (Chunk.cells (Chunk.mk x1 false [] []) (.sl none 0 (.k 0)) (.sl none 0 (.k 0)))) (x:=(Chunk.mk x1 false [] [])) (by decide) aaE Ty.Dy rfl (fun _=>⟨.sl none 0 (.k 0),.sl none 0 (.k 0),rfl,V,(oF.nil _),⟨_,rfl,.inl ⟨rfl,rfl,rfl⟩⟩⟩) rfl rfl L) ?_;rintro bv b6 ⟨be,aD,Y⟩;refine qh 2 j Y ?_;have Z:=Y.sY (xe Chunk.o.size (by decide));refine qx (xl (t:=(xe Chunk.o.size (by decide))) 0 aaE Ty.Dy Ty.Px rfl rfl Z rfl ((Z.tf (k:=6) rfl).piece aU (Jt l e)) (Sm l e)) ?_;rintro b2 b7 M;refine qh 3 j M ?_;refine qx (xl (t:=(xe Chunk.o.size (by decide))) 0 aaE Ty.Dy Ty.Px rfl rfl M rfl (M.tf (k:=1) rfl) (Sn l e)) ?_;rintro b3 b8 O;refine qh 3 j O ?_;refine ax ?_;refine xq 6 y.2.1 (acQ.length:Int) rfl rfl rfl rfl aaE Ty.tg rfl (.inr ⟨_,_,rfl,rfl⟩) (.inl ⟨rfl,rfl⟩) O rfl (Sq l e) ?_;intro bt aT bj;refine xm (xl (t:=(xe Chunk.o.size (by decide))) 0 aaE Ty.Dy Ty.Px rfl rfl O rfl aT (Sp l e)) ?_;rintro R bA a4;obtain ⟨am,P⟩:=(a4.pick [0,2,1,3,4,5,7,8] (by decide)).TW aD e;refine au ?_;refine um (CY (c:=[R]) 3 ([.i .i64 x0.seq,b,R,d,a]) rfl rfl P rfl (P.ub (k:=0) rfl).cells Ty.ZE (by simp only [tZ,uR,rC,(P.ub (k:=0) rfl).one];rfl) rfl rfl) ?_;rintro _ bB a5;refine qN ?_
    exact nj ⟨aX,H,⟨_,R,am,rfl,pc,pk [3,4,5,6,0] a5⟩⟩
   ·refine Bo ?_;exact nj ⟨x0.chunks,H,⟨_,f,yC,rfl,pc,pk [1,2,4,5,3] g⟩⟩
  ·rintro E w9 ⟨sm,H,n,z,I,rfl,bq,a8⟩;refine aq ?_;obtain rfl:=oi H;refine qt ?_;exact ⟨n,b,yi,z,I,d,yj,rfl,a8.pick [0,1,4,2,3] (by decide)⟩
def vG (x0:vE) (x1:Int):Option ((List UInt8) × vE) :=
  if (x0.bad||decide (wr ((x0.b.length:Int) - x0.at_) < x1)) then
    bd (rep x1 0) fun wN =>
    some (wN,(vE.mk x0.b x0.at_ true))
  else
    bd (cut (α:=UInt8) x0.b x0.at_ (wr (x0.at_+x1))) fun qG =>
    some (qG,(vE.mk x0.b (wr (x0.at_+x1)) x0.bad))
theorem FT {X:List Nat} {x0:vE} {x1:Int} {r:(List UInt8) × vE} {s8:Nat} {a:jD} (hS:St X w F F [.box s8 [a,.i .i64 x0.at_,.b x0.bad]] w) (c:oF tB F a (x0.b)) (H:vG x0 x1=some r):pa aac K 108 [pl s8 0,.i .i64 x1] w fun v w'=>∃ (F':jL) (d:jD) (e:jD),v=d∧oF tB F' d (r.1)∧oF tB F' e (r.2.b)∧St X w F F' [.box s8 [e,.i .i64 r.2.at_,.b r.2.bad]] w':=by
 refine ra Tryz.func108 ?_;refine ay ?_;refine rn ?_;refine aw ?_;refine qy H (fun l H=>?_) (fun l H=>?_)
 ·refine aq ?_;refine sc 0 ([a,.i .i64 x0.at_,.b true]) ?_;intro y g;obtain ⟨wN,n,H⟩:=oL H;refine ax ?_;refine xm (Vb (t:=tB) (x0:=0) aba Ty.BN rfl rfl (T4 Ty.Pu rfl) n g) ?_;rintro u z h;refine au ?_;obtain ⟨f,x,m,j⟩:=h.rv 0 [1] rfl (by decide) (by decide);obtain rfl:=oi H;refine qt ?_;exact ⟨f,u,a,rfl,m,(mo c),j⟩
 ·refine ay ?_;obtain ⟨qG,p,H⟩:=oL H;refine rn ?_;refine au ?_;refine FJ x0.at_ (wr (x0.at_+x1)) rfl rfl rfl rfl aba Ty.vA rfl (.inr ⟨_,_,rfl,rfl⟩) (.inr ⟨_,_,rfl,rfl⟩) c p ?_;intro s q;refine ax ?_;refine sc 0 ([a,.i .i64 (wr (x0.at_+x1)),.b x0.bad]) ?_;intro A k;refine qn ?_;refine aq ?_;obtain rfl:=oi H;refine qt ?_;exact ⟨F,s,a,rfl,q,c,k⟩
def vl.k1 (a:Int):Option Int :=
  some a
def vl.l2 (x0:List UInt8) (c:(Int × Int)→Option Int):(Int × Int)→Option Int
  | (b,a) =>
    if decide (a < (x0.length:Int)) then
      bd (ix x0 a) fun x8 =>
      c (bits .or .i64 (wr (b*2 ^ (8:Int).toNat)) (x8.toNat:Int),wr (a+1))
    else
      vl.k1 b
def vl (x0:List UInt8):Option Int :=
  loop (vl.l2 x0) (0,0)
theorem KN {x0:List UInt8} {r:Int} {d:jD} (hA:Gd F w) (f:oF tB F d x0) (H:vl x0=some r):pa aac K 109 [d] w fun v w'=>∃ (F':jL),v = .i .i64 r∧St [] w F F' [] w':=by
 refine rA Tryz.func109 ?_;have hS:=St.start hA;refine aq ?_;refine aq ?_;refine pe (fun E wq=>∃ c:Int,vl.k1 c=some r ∧ ∃ (a:jL),E=[(3,.i .i64 c)]∧F.le a∧ug hS a wq) ?_ ?_
 ·refine ax ?_;refine qC (fun (s:Int × Int) E wq=>∃ (b:jL),E=[(0,d),(3,.i .i64 s.1),(4,.i .i64 s.2)]∧F.le b∧ug hS b wq) H ?_ ?_
  ·exact lo (jj hS)
  ·rintro p ⟨k,m⟩ E u hI H
   try dsimp only at hI
   obtain ⟨b,rfl,l,e⟩:=hI;refine ay ?_;refine qy H (fun h H=>?_) (fun h H=>?_)
   ·obtain ⟨x8,j,H⟩:=oL H;refine ay ?_;refine qr (oO rfl rfl (EI (by decide) (by decide))) ?_;obtain ⟨_,rfl,_⟩:=qa 1 (f.mono l) j;refine au ?_;refine qr (vZ acP abD rfl (J3 _)) ?_;refine qr (oO rfl rfl (sF (.inr (.inl rfl)))) ?_;refine ax ?_;exact nm H (jj e)
   ·refine pw _ rfl ?_;exact nj ⟨k,H,jj e⟩
 ·rintro E q ⟨c,H,a,rfl,n,g⟩;exact rz H g
def By.k1 (x0:List UInt8):Option Bool :=
  some (decide (1≤(x0.length:Int))&&decide ((x0.length:Int)≤20))
def By.l2 (x0:List UInt8) (b:Int→Option Bool):Int→Option Bool
  | a =>
    if decide (a < (x0.length:Int)) then
      bd (ix x0 a) fun x9 =>
      bd (only (!decide ((x9.toNat:Int) < 33)) (ix x0 a) 0) fun c =>
      if (decide ((x9.toNat:Int) < 33)||decide (126 < (c.toNat:Int))) then
        some false
      else
        b (wr (a+1))
    else
      By.k1 x0
def By (x0:List UInt8):Option Bool :=
  loop (By.l2 x0) 0
theorem Wc {x0:List UInt8} {r:Bool} (hA:Gd F w) (H:By x0=some r):pa aac K 80 [.s x0] w fun v w'=>∃ (F':jL),v = .b r∧St [] w F F' [] w':=by
 refine rA Tryz.func80 ?_;have hS:=St.start hA;refine aq ?_;refine pe (jN (By.k1 x0=some r) [(0,.s x0)] hS) ?_ ?_
 ·refine ax ?_;refine lj hS (fun s:Int=>[(0,.s x0),(3,.i .i64 s)]) H ?_;intro A x u D z a H;refine ay ?_;refine qy H (fun g H=>?_) (fun g H=>?_)
  ·obtain ⟨x9,l,p,k,H⟩:=oU H;refine ay ?_;obtain ⟨h,m⟩:=oM l;refine qr (Nc acZ rfl rfl h m) ?_;refine aw ?_;refine uC (v:=.i .u8 (p.toNat:Int)) rfl rfl rfl rfl (fun ⟨c,_⟩=>?_) ?_
   ·rw [c];intro hK;have d:=k;rw [qA (by first | rfl | (rw [c];first | done | rfl) | simp [c])] at d;obtain ⟨j,n⟩:=oM d;refine qr (Nc acZ rfl rfl j n) ?_;exact hK
   refine aw ?_;refine qy H (fun f H=>?_) (fun f H=>?_)
   ·exact rz H a
   ·refine ax ?_;exact nm H (jj a)
  ·refine pw _ rfl ?_;exact nj ⟨H,jj a⟩
 ·rintro E B ⟨H,q,rfl,y,e⟩;refine av ?_;exact rz H e
def BA.k1:Option Bool :=
  some true
def BA.l2 (x0:oP) (e:Int→Option Bool):Int→Option Bool
  | b =>
    if decide (b < (x0.parts.length:Int)) then
      bd (ix x0.parts b) fun a =>
      bd (By a.path) fun c =>
      bd (only ((!(!c))&&decide (0 < b)) (ix x0.parts (wr (b - 1))) (Part.mk [] 0 [])) fun d =>
      if ((((((!c)||(decide (0 < b)&&(qI a.path d.path||a.path == d.path)))||decide (a.size < 0))||decide (200 < a.size))||decide (25 < (a.ids.length:Int)))||(decide ((a.ids.length:Int)=0) != decide (a.size=0))) then
        some false
      else
        e (wr (b+1))
    else
      BA.k1
def BA (x0:oP):Option Bool :=
  bd (By x0.name) fun a =>
  if ((!a)||decide (6 < (x0.parts.length:Int))) then
    some false
  else
    loop (BA.l2 x0) 0
theorem Wg {x0:oP} {r:Bool} {g:jD} (hA:Gd F w) (a:oF Part.t F g x0.parts) (H:BA x0=some r):pa aac K 69 [.agg (oP.cells x0 g)] w fun v w'=>∃ (F':jL),v = .b r∧St [] w F F' [] w':=by
 refine rA Tryz.func69 ?_;have hS:=St.start hA;refine qs ?_;refine bx ([.s x0.name,g]) ?_;intro k U h;obtain ⟨R,y,H⟩:=oL H;refine ay ?_;refine lp (Wc h.oR y) h ?_;intro w3 e;refine aw ?_;refine qy H (fun u H=>?_) (fun u H=>?_)
 ·exact rz H e
 ·refine qk ?_;refine pe (jO (BA.k1=some r) [] e []) ?_ ?_
  ·refine ax ?_;refine lj e (fun s:Int=>[(1,pl k 0),(3,.i .i64 s)]) H ?_;intro S O D V A l H;refine ay ?_;refine qy H (fun p H=>?_) (fun p H=>?_)
   ·obtain ⟨c,z,H⟩:=oL H;obtain ⟨_,⟨B,rfl,M⟩,L⟩:=qa 3 (a.mono A) z;refine ay ?_;refine al ?_;intro I X J;refine sb 0 ([.s c.path,.i .i64 c.size,B]) ?_;intro Y d;refine ay ?_;obtain ⟨Q,x,ah,f,H⟩:=oU H;refine rf d ?_;refine au ?_;refine lq (Wc d.oR x) d ?_;intro Z j;refine aw ?_;refine xS (mo a) f ?_;refine xS (mo a) f ?_;refine xS (mo a) f ?_;refine aw ?_;refine uC (v:=.b (decide ((c.ids.length:Int)=0) != decide (c.size=0))) rfl rfl rfl rfl (fun ⟨n,_⟩=>?_) ?_
    ·rw [n];exact (qr (oO rfl rfl (abc Tryz.underlying4)) ·)
    refine aw ?_;refine qy H (fun q H=>?_) (fun q H=>?_)
    ·exact rz H j
    ·refine ax ?_;exact nm H (jj (pk [1] j))
   ·refine pw _ rfl ?_;exact nj ⟨H,jj (pk [] l)⟩
  ·rintro E w9 ⟨H,G,rfl,P,m⟩;exact rz H m
end
end Go.Wk.Lf
end
