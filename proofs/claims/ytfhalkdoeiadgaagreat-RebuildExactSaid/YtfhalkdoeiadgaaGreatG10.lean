/-  -/
import Derived.Test.YtfhalkdoeiadgaaGreatG9
set_option linter.unusedVariables false
set_option linter.unusedSimpArgs false
open Bool renaming eq_false_or_eq_true→uO
open Go.Proofs.Tryz renaming prog→aac, underlying23→adH, underlying24→aam, underlying25→aaE, underlying26→aaF, underlying31→aba, underlying59→aaT
open List renaming all_append→rC, all_cons→tZ, all_nil→uR, replicate→ph
open Nat renaming le_of_ble_eq_true→qY, zero_lt_succ→wU
section
namespace Go.Wk.Lf
open Go.V Go.Proofs
noncomputable section
set_option maxRecDepth 100000
variable {K:Tb} {F:jL} {w:Hp}
def Dx.k1 (x0:mZ) (x1:Found) (a:Int × Bool) (tc:List Chunk):Option mZ :=
  bd (ix tc a.1) fun d =>
  bd (app (α:=Loc) d.oN [x1.loc]) fun c =>
  bd (ix tc a.1) fun b =>
  some (mZ.mk x0.seq x0.oB (tc.set a.1.toNat (Chunk.mk b.id b.pX b.data c)) x0.oD x0.oK)
def Dx (x0:mZ) (x1:Found):Option mZ :=
  if (decide ((x1.oG.data.length:Int) < 1)||decide (64 < (x1.oG.data.length:Int))) then
    some x0
  else
    bd (qP [x1.oG.data]) fun b =>
    bd (IX x0.chunks b) fun a =>
    if (!a.2) then
      bd (wZ x0.chunks a.1 [(Chunk.mk b false [] [])]) fun c =>
      Dx.k1 x0 x1 a c
    else
      Dx.k1 x0 x1 a x0.chunks
theorem aii {X:List Nat} {x0:mZ} {x1:Found} {r:mZ} {s8:Nat} {a:jD} {yi:List Nat} {q:jD} {yC:List Nat} {b:jD} {yj:List Nat} {c:jD} {l:jD} (hS:St X w F F [.box s8 [.i .i64 x0.seq,a,q,b,c],.dp lU.o yi a x0.oB,.dp Chunk.o yC q x0.chunks,.dp oC.o yj b x0.oD,.row oH.t c x0.oK] w) (I:oF tB F l x1.oG.data) (H:Dx x0 x1=some r):pa aac KK 41 [pl s8 0,.agg (Found.cells x1 l)] w fun v w'=>∃ (F':jL) (R:jD) (Hi:List Nat) (S:jD) (Hj:List Nat) (U:jD) (Hk:List Nat),v = .qR []∧St X w F F' [.box s8 [.i .i64 r.seq,R,S,U,c],.dp lU.o Hi R r.oB,.dp Chunk.o Hj S r.chunks,.dp oC.o Hk U r.oD,.row oH.t c r.oK] w':=by
 refine ra Tryz.func41 ?_;refine qs ?_;refine bx ([.i .i64 x1.oG.kind,.i .i64 x1.oG.seq,l,.i .i64 x1.loc.pE,.i .i64 x1.loc.file,.i .i64 x1.loc.off,.i .i64 x1.loc.len]) ?_;intro G w1 J;refine aZ ?_;refine qy H (fun am H=>?_) (fun am H=>?_)
 ·obtain rfl:=oi H;refine qt ?_;exact ⟨F,a,yi,q,yC,b,yj,rfl,J.pick [1,2,3,4,5] (by decide)⟩
 ·obtain ⟨d,a8,H⟩:=oL H;refine ax ?_;refine xm (sh (t:=(GJ tB)) (vs:=[l]) (xs:=[x1.oG.data]) Tryz.underlying95 Ty.Y8 rfl (by simp only [List.map_cons,List.map_nil,I.ln.cells];exact ⟨⟨_,rfl,I⟩,trivial⟩) rfl rfl J) ?_;rintro u8 w8 z;refine lm (ajj (Gd.now z.wf) (z.uK (k:=0) rfl) a8) ?_;rintro bp bt ⟨aK,rfl,O,ai⟩;have Z:=z.SE ai trivial;refine xm (vF (cs:=pb (ph 32 (0:UInt8))) Ty.Fm rfl Z) ?_;rintro _ bs ⟨aU,rfl,aV⟩;refine sb 0 (pb d) ?_;intro bu e;refine ay ?_;obtain ⟨B,a7,H⟩:=oL H;refine rf e ?_;refine au ?_;refine bL e 0 (pb d) [] ?_;refine lq (QP (Gd.now e.wf) (e.wI (k:=5) rfl Chunk.sf) O a7) e ?_;intro bv f;refine au ?_;refine pe (fun E wq=>∃ tc:List Chunk,Dx.k1 x0 x1 B tc=some r ∧ ∃ (m:jL) (p:jD) (D:List Nat),E=[(0,pl s8 0),(3,pl G 0),(5,.i .i64 B.1)]∧F.le m∧po f [.box G [.i .i64 x1.oG.kind,.i .i64 x1.oG.seq,l,.i .i64 x1.loc.pE,.i .i64 x1.loc.file,.i .i64 x1.loc.off,.i .i64 x1.loc.len],.box s8 [.i .i64 x0.seq,a,p,b,c],.dp lU.o yi a x0.oB,.dp oC.o yj b x0.oD,.row oH.t c x0.oK,.dp Chunk.o D p tc] m wq) ?_ ?_
  ·refine aq ?_;refine qy H (fun ak H=>?_) (fun ak H=>?_)
   ·obtain ⟨aJ,a5,H⟩:=oL H;refine rf f ?_;refine au ?_;refine bL f 0 (pb d) [] ?_;refine qM (v:=.agg (Chunk.cells (Chunk.mk d false [] []) (.sl none 0 (.k 0)) (.sl none 0 (.k 0)))) rfl rfl rfl rfl (fun _=>rfl) ?_;refine qx (Qj (t:=Chunk.o) (u:=.agg (Chunk.cells (Chunk.mk d false [] []) (.sl none 0 (.k 0)) (.sl none 0 (.k 0)))) (x:=(Chunk.mk d false [] [])) aaE Ty.Dy rfl ⟨.sl none 0 (.k 0),.sl none 0 (.k 0),rfl,O,(oF.nil _),⟨_,rfl,.inl ⟨rfl,rfl,rfl⟩⟩⟩ rfl rfl f) ?_;rintro bk b2 ⟨aR,y⟩;refine qw y ?_;refine ql (af9 (y.u9 [6,0] (by decide)) a5) ?_;rintro Q b3 ⟨Y,aj⟩;have ae:=y.uV [6,0] [1,2,3,4,5,7,8] (by decide) (by decide) aj;refine qw ae ?_;refine au ?_;refine sC 4 ([.i .i64 x0.seq,a,Q,b,c]) ?_;intro b4 ah;refine qN ?_;exact nj ⟨aJ,H,⟨_,Q,Y,rfl,pc,pk [3,4,5,6,7,0] ah⟩⟩
   ·refine Bo ?_;exact nj ⟨x0.chunks,H,⟨_,q,yC,rfl,pc,pk [2,3,4,6,7,5] f⟩⟩
  ·rintro E bw ⟨tc,H,m,p,D,rfl,bh,g⟩;obtain ⟨b6,P,bg,a4,H⟩:=oU H;obtain ⟨b7,n,H⟩:=oL H;have j:=g.tK 1 rfl;refine rh 1 j g ?_;refine au ?_;refine hl 1 j g ?_;obtain ⟨_,⟨bn,bo,rfl,ba,be,bf⟩,_⟩:=qa 35 (g.wI (k:=5) rfl Chunk.sf) P;refine au ?_;obtain ⟨bi,aO,aT,A,a9,L⟩:=g.focus Chunk.yZ 5 rfl (oM P).2;replace A:=qj 35 A;refine qq (su 34 Ty.wX rfl A (by first | omega | rfl) a9) ?_;refine au ?_;refine bL L 1 (Loc.cells x1.loc) (([]:List jD)) ?_;refine qx (sh (t:=Loc.t) (vs:=[.agg (Loc.cells x1.loc)]) (xs:=[x1.loc]) aaT Ty.AF rfl ⟨rfl,trivial⟩ rfl rfl L) ?_;rintro bj bz s;refine qh 3 j s ?_;refine qx (xl (t:=Loc.t) 1 aaT Ty.AF Ty.Il rfl rfl s rfl (s.tf (k:=0) rfl) a4) ?_;rintro bq b0 h;refine qh 3 j h ?_;obtain ⟨a6,aC⟩:=oM n;have ar:=h.yD (k:=7) rfl (wc aC);refine qi aaE Ty.tg ar a6 ?_;obtain ⟨bb,aD⟩:=oM n;have aX:=h.yD (k:=7) rfl (wc aD);refine au ?_;obtain ⟨bc,aH⟩:=oM n;have aY:=h.yD (k:=7) rfl (wc aH);have ad:=h.pick [1,7,0,2,3,4,5,6] (by decide);refine qu (IB Chunk.yZ (B.1.toNat) rfl rfl ad (oM n).2 (by first | rfl | (show _=_*35+_;omega)) Ty.AG) ?_;rintro _ b1 ⟨V,M⟩;refine qh 3 j M ?_;refine qN ?_;obtain rfl:=oi H;refine IH rfl rfl ?_;exact ⟨m,a,yi,p,V,b,yj,rfl,M.pick [3,4,0,5,6] (by decide)⟩
def Eg.k1 (x0:mZ) (x1:Found) (a:Int × Bool) (sm:List lU):Option mZ :=
  bd (ix sm a.1) fun c =>
  bd (app (α:=Loc) c.oN [x1.loc]) fun qG =>
  bd (ix sm a.1) fun b =>
  some (mZ.mk (if x0.seq < wr ((if 1073741824 < x1.oG.seq then 1073741824 else x1.oG.seq)+1) then wr ((if 1073741824 < x1.oG.seq then 1073741824 else x1.oG.seq)+1) else x0.seq) (sm.set a.1.toNat (lU.mk b.seq b.oJ qG)) x0.chunks x0.oD x0.oK)
def Eg (x0:mZ) (x1:Found):Option mZ :=
  bd (ve x1.oG.data) fun b =>
  if decide (b.2≠0) then
    some x0
  else
    bd (CJ x0.oB x1.oG.seq) fun a =>
    if (!a.2) then
      bd (wZ x0.oB a.1 [(lU.mk x1.oG.seq b.1 [])]) fun c =>
      Eg.k1 x0 x1 a c
    else
      Eg.k1 x0 x1 a x0.oB
theorem aik {X:List Nat} {x0:mZ} {x1:Found} {r:mZ} {s8:Nat} {q:jD} {yi:List Nat} {a:jD} {yC:List Nat} {b:jD} {yj:List Nat} {c:jD} {y:jD} (hS:St X w F F [.box s8 [.i .i64 x0.seq,q,a,b,c],.dp lU.o yi q x0.oB,.dp Chunk.o yC a x0.chunks,.dp oC.o yj b x0.oD,.row oH.t c x0.oK] w) (ae:oF tB F y x1.oG.data) (H:Eg x0 x1=some r):pa aac KK 42 [pl s8 0,.agg (Found.cells x1 y)] w fun v w'=>∃ (F':jL) (U:jD) (Hi:List Nat) (V:jD) (Hj:List Nat) (Y:jD) (Hk:List Nat),v = .qR []∧St X w F F' [.box s8 [.i .i64 r.seq,U,V,Y,c],.dp lU.o Hi U r.oB,.dp Chunk.o Hj V r.chunks,.dp oC.o Hk Y r.oD,.row oH.t c r.oK] w':=by
 refine ra Tryz.func42 ?_;refine qs ?_;refine bx ([.i .i64 x1.oG.kind,.i .i64 x1.oG.seq,y,.i .i64 x1.loc.pE,.i .i64 x1.loc.file,.i .i64 x1.loc.off,.i .i64 x1.loc.len]) ?_;intro J w1 L;obtain ⟨d,aC,H⟩:=oL H;refine ax ?_;refine lm (ag7 L.oR ae aC) ?_;rintro v4 w4 ⟨G,e,rfl,Q,P⟩;have ba:=L.call P;have bj:=P.ext;refine au ?_;refine al ?_;intro g3 w3 aY;refine sb 0 ([.s d.1.name,e]) ?_;intro w5 g;refine ay ?_;refine qy H (fun a4 H=>?_) (fun a4 H=>?_)
 ·obtain rfl:=oi H;refine qt ?_;exact ⟨G,q,yi,a,yC,b,yj,rfl,g.pick [2,3,4,5,6] (by decide)⟩
 ·refine ay ?_;obtain ⟨D,aD,H⟩:=oL H;refine rf g ?_;refine au ?_;refine lq (ajZ (Gd.now g.wf) (g.wI (k:=3) rfl lU.sf) aD) g ?_;intro w8 h;refine au ?_;refine pe (fun E wq=>∃ sm:List lU,Eg.k1 x0 x1 D sm=some r ∧ ∃ (n:jL) (m:jD) (I:List Nat),E=[(0,pl s8 0),(3,pl J 0),(6,.i .i64 D.1)]∧G.le n∧po h [.box J [.i .i64 x1.oG.kind,.i .i64 x1.oG.seq,y,.i .i64 x1.loc.pE,.i .i64 x1.loc.file,.i .i64 x1.loc.off,.i .i64 x1.loc.len],.box s8 [.i .i64 x0.seq,m,a,b,c],.dp Chunk.o yC a x0.chunks,.dp oC.o yj b x0.oD,.row oH.t c x0.oK,.dp lU.o I m sm] n wq) ?_ ?_
  ·refine aq ?_;refine qy H (fun ar H=>?_) (fun ar H=>?_)
   ·obtain ⟨aR,a8,H⟩:=oL H;refine rf h ?_;refine au ?_;refine bL h 0 (oP.cells d.1 e) [] ?_;have a5:=Q.ln.cells;refine qr (FI (vs:=[(0,.i .i64 x1.oG.seq),(1,.agg (oP.cells d.1 e))]) (v:=.agg (lU.cells (lU.mk x1.oG.seq d.1 []) e (.sl none 0 (.k 0)))) Ty.VQ rfl (by simp only [xR,a5];rfl)) ?_;refine qx (Qj (t:=lU.o) (u:=.agg (lU.cells (lU.mk x1.oG.seq d.1 []) e (.sl none 0 (.k 0)))) (x:=(lU.mk x1.oG.seq d.1 [])) aam Ty.Bb rfl ⟨e,.sl none 0 (.k 0),rfl,Q,⟨_,rfl,.inl ⟨rfl,rfl,rfl⟩⟩⟩ rfl rfl h) ?_;rintro bn b0 ⟨aU,A⟩;refine qw A ?_;refine ql (agj (A.u9 [4,0] (by decide)) a8) ?_;rintro S b1 ⟨ad,am⟩;have aj:=A.uV [4,0] [1,2,3,5,6,7] (by decide) (by decide) am;refine qw aj ?_;refine au ?_;refine sC 3 ([.i .i64 x0.seq,S,a,b,c]) ?_;intro b2 ak;refine qN ?_;exact nj ⟨aR,H,⟨_,S,ad,rfl,pc,pk [2,3,4,5,6,0] ak⟩⟩
   ·refine Bo ?_;exact nj ⟨x0.oB,H,⟨_,q,yi,rfl,pc,pk [1,2,4,5,6,3] h⟩⟩
  ·rintro E w9 ⟨sm,H,n,m,I,rfl,bi,j⟩;refine qU ?_;obtain ⟨b7,R,qG,a7,H⟩:=oU H;obtain ⟨b8,p,H⟩:=oL H;have l:=j.tK 1 rfl;refine rh 1 l j ?_;refine au ?_;refine hl 1 l j ?_;obtain ⟨_,⟨bo,bp,rfl,bg,bh⟩,_⟩:=qa 4 (j.wI (k:=5) rfl lU.sf) R;refine au ?_;obtain ⟨bk,aT,aV,B,aH,M⟩:=j.focus lU.yZ 5 rfl (oM R).2;replace B:=qj 4 B;refine qq (su 3 Ty.wX rfl B (by first | omega | rfl) aH) ?_;refine au ?_;refine bL M 1 (Loc.cells x1.loc) (([]:List jD)) ?_;refine qx (sh (t:=Loc.t) (vs:=[.agg (Loc.cells x1.loc)]) (xs:=[x1.loc]) aaT Ty.AF rfl ⟨rfl,trivial⟩ rfl rfl M) ?_;rintro bm bt z;refine qh 3 l z ?_;refine qx (xl (t:=Loc.t) 1 aaT Ty.AF Ty.Il rfl rfl z rfl (z.tf (k:=0) rfl) a7) ?_;rintro bq bu f;refine qh 3 l f ?_;obtain ⟨a9,aJ⟩:=oM p;have a6:=f.yD (k:=7) rfl (wc aJ);refine qi aam Ty.sJ a6 a9 ?_;obtain ⟨be,aK⟩:=oM p;have bb:=f.yD (k:=7) rfl (wc aK);refine au ?_;obtain ⟨bf,aO⟩:=oM p;have bc:=f.yD (k:=7) rfl (wc aO);have ah:=f.pick [1,7,0,2,3,4,5,6] (by decide);refine qu (IB lU.yZ (D.1.toNat) rfl rfl ah (oM p).2 (by first | rfl | (show _=_*4+_;omega)) Ty.AG) ?_;rintro _ bv ⟨Z,O⟩;refine qh 3 l O ?_;refine qn ?_;refine rf O ?_;refine au ?_;refine sC 3 ([.i .i64 (if x0.seq < wr ((if 1073741824 < x1.oG.seq then 1073741824 else x1.oG.seq)+1) then wr ((if 1073741824 < x1.oG.seq then 1073741824 else x1.oG.seq)+1) else x0.seq),m,a,b,c]) ?_;intro bw ai;refine qN ?_;obtain rfl:=oi H;refine IH rfl rfl ?_;exact ⟨n,m,Z,a,yC,b,yj,rfl,ai.pick [3,0,4,5,6] (by decide)⟩
def Ee.k1 (x0:mZ) (x1:Found) (a:Int × Bool) (l8:List oC):Option mZ :=
  bd (ix l8 a.1) fun c =>
  bd (app (α:=Loc) c.oN [x1.loc]) fun tc =>
  bd (ix l8 a.1) fun b =>
  some (mZ.mk (if x0.seq < wr ((if 1073741824 < x1.oG.seq then 1073741824 else x1.oG.seq)+1) then wr ((if 1073741824 < x1.oG.seq then 1073741824 else x1.oG.seq)+1) else x0.seq) x0.oB x0.chunks (l8.set a.1.toNat (oC.mk b.seq b.of tc)) x0.oK)
def Ee (x0:mZ) (x1:Found):Option mZ :=
  if decide ((x1.oG.data.length:Int)≠4) then
    some x0
  else
    bd (AT x1.oG.data 0 4) fun c =>
    bd (CI x0.oD x1.oG.seq) fun a =>
    if (!a.2) then
      bd (wZ x0.oD a.1 [(oC.mk x1.oG.seq c.1 [])]) fun b =>
      Ee.k1 x0 x1 a b
    else
      Ee.k1 x0 x1 a x0.oD
theorem aij {X:List Nat} {x0:mZ} {x1:Found} {r:mZ} {s8:Nat} {a:jD} {yi:List Nat} {b:jD} {yC:List Nat} {n:jD} {yj:List Nat} {c:jD} {p:jD} (hS:St X w F F [.box s8 [.i .i64 x0.seq,a,b,n,c],.dp lU.o yi a x0.oB,.dp Chunk.o yC b x0.chunks,.dp oC.o yj n x0.oD,.row oH.t c x0.oK] w) (U:oF tB F p x1.oG.data) (H:Ee x0 x1=some r):pa aac KK 43 [pl s8 0,.agg (Found.cells x1 p)] w fun v w'=>∃ (F':jL) (O:jD) (Hi:List Nat) (P:jD) (Hj:List Nat) (Q:jD) (Hk:List Nat),v = .qR []∧St X w F F' [.box s8 [.i .i64 r.seq,O,P,Q,c],.dp lU.o Hi O r.oB,.dp Chunk.o Hj P r.chunks,.dp oC.o Hk Q r.oD,.row oH.t c r.oK] w':=by
 refine ra Tryz.func43 ?_;refine qs ?_;refine bx ([.i .i64 x1.oG.kind,.i .i64 x1.oG.seq,p,.i .i64 x1.loc.pE,.i .i64 x1.loc.file,.i .i64 x1.loc.off,.i .i64 x1.loc.len]) ?_;intro G w1 q;refine ay ?_;refine qy H (fun ah H=>?_) (fun ah H=>?_)
 ·obtain rfl:=oi H;refine qt ?_;exact ⟨F,a,yi,b,yC,n,yj,rfl,q.pick [1,2,3,4,5] (by decide)⟩
 ·obtain ⟨A,a4,H⟩:=oL H;refine ax ?_;refine lp (VO q.oR U a4) q ?_;intro w4 j;refine ay ?_;obtain ⟨B,a5,H⟩:=oL H;refine rf j ?_;refine au ?_;refine lq (ajY (Gd.now j.wf) (j.wI (k:=4) rfl oC.sf) a5) j ?_;intro w6 l;refine au ?_;refine pe (fun E wq=>∃ l8:List oC,Ee.k1 x0 x1 B l8=some r ∧ ∃ (h:jL) (g:jD) (D:List Nat),E=[(0,pl s8 0),(3,pl G 0),(7,.i .i64 B.1)]∧F.le h∧po l [.box G [.i .i64 x1.oG.kind,.i .i64 x1.oG.seq,p,.i .i64 x1.loc.pE,.i .i64 x1.loc.file,.i .i64 x1.loc.off,.i .i64 x1.loc.len],.box s8 [.i .i64 x0.seq,a,b,g,c],.dp lU.o yi a x0.oB,.dp Chunk.o yC b x0.chunks,.row oH.t c x0.oK,.dp oC.o D g l8] h wq) ?_ ?_
  ·refine aq ?_;refine qy H (fun ai H=>?_) (fun ai H=>?_)
   ·obtain ⟨aC,am,H⟩:=oL H;refine rf l ?_;refine au ?_;refine qM (v:=.agg (oC.cells (oC.mk x1.oG.seq A.1 []) (.sl none 0 (.k 0)))) rfl rfl rfl rfl (fun _=>rfl) ?_;refine qx (Qj (t:=oC.o) (u:=.agg (oC.cells (oC.mk x1.oG.seq A.1 []) (.sl none 0 (.k 0)))) (x:=(oC.mk x1.oG.seq A.1 [])) aaF Ty.Ei rfl ⟨.sl none 0 (.k 0),rfl,⟨_,rfl,.inl ⟨rfl,rfl,rfl⟩⟩⟩ rfl rfl l) ?_;rintro ba bj ⟨aH,y⟩;refine qw y ?_;refine ql (age (y.u9 [5,0] (by decide)) am) ?_;rintro M bk ⟨S,ae⟩;have Z:=y.uV [5,0] [1,2,3,4,6] (by decide) (by decide) ae;refine qw Z ?_;refine au ?_;refine sC 2 ([.i .i64 x0.seq,a,b,M,c]) ?_;intro bm ad;refine qN ?_;exact nj ⟨aC,H,⟨_,M,S,rfl,pc,pk [1,2,3,4,5,0] ad⟩⟩
   ·refine Bo ?_;exact nj ⟨x0.oD,H,⟨_,n,yj,rfl,pc,pk [0,1,2,3,5,4] l⟩⟩
  ·rintro E w7 ⟨l8,H,h,g,D,rfl,aV,e⟩;refine qU ?_;obtain ⟨bq,L,tc,ak,H⟩:=oU H;obtain ⟨br,m,H⟩:=oL H;have f:=e.tK 1 rfl;refine rh 1 f e ?_;refine au ?_;refine hl 1 f e ?_;obtain ⟨_,⟨bb,rfl,aU⟩,_⟩:=qa 3 (e.wI (k:=5) rfl oC.sf) L;refine au ?_;obtain ⟨aX,aD,aJ,z,a6,I⟩:=e.focus oC.yZ 5 rfl (oM L).2;replace z:=qj 3 z;refine qq (su 2 Ty.wX rfl z (by first | omega | rfl) a6) ?_;refine au ?_;refine bL I 1 (Loc.cells x1.loc) (([]:List jD)) ?_;refine qx (sh (t:=Loc.t) (vs:=[.agg (Loc.cells x1.loc)]) (xs:=[x1.loc]) aaT Ty.AF rfl ⟨rfl,trivial⟩ rfl rfl I) ?_;rintro aY bf s;refine qh 3 f s ?_;refine qx (xl (t:=Loc.t) 1 aaT Ty.AF Ty.Il rfl rfl s rfl (s.tf (k:=0) rfl) ak) ?_;rintro bc bg d;refine qh 3 f d ?_;obtain ⟨ar,a7⟩:=oM m;have aj:=d.yD (k:=7) rfl (wc a7);refine qi aaF Ty.uu aj ar ?_;obtain ⟨aR,a8⟩:=oM m;have aK:=d.yD (k:=7) rfl (wc a8);refine au ?_;obtain ⟨aT,a9⟩:=oM m;have aO:=d.yD (k:=7) rfl (wc a9);have V:=d.pick [1,7,0,2,3,4,5,6] (by decide);refine qu (IB oC.yZ (B.1.toNat) rfl rfl V (oM m).2 (by first | rfl | (show _=_*3+_;omega)) Ty.AG) ?_;rintro _ bh ⟨R,J⟩;refine qh 3 f J ?_;refine qn ?_;refine rf J ?_;refine au ?_;refine sC 3 ([.i .i64 (if x0.seq < wr ((if 1073741824 < x1.oG.seq then 1073741824 else x1.oG.seq)+1) then wr ((if 1073741824 < x1.oG.seq then 1073741824 else x1.oG.seq)+1) else x0.seq),a,b,g,c]) ?_;intro bi Y;refine qN ?_;obtain rfl:=oi H;refine IH rfl rfl ?_;exact ⟨h,a,yi,b,yC,g,R,rfl,Y.pick [3,4,5,0,6] (by decide)⟩
def CA.k1 (l3:List (List UInt8)):Option (List (List UInt8)) :=
  bd (GI uE l3) fun a =>
  bd (uM a) fun b =>
  bd (Mv b) fun c =>
  some c
def CA.l2 (x0:oP) (b:((List (List UInt8)) × Int)→Option (List (List UInt8))):((List (List UInt8)) × Int)→Option (List (List UInt8))
  | (tL,a) =>
    if decide (a < (x0.parts.length:Int)) then
      bd (ix x0.parts a) fun c =>
      bd (app (α:=(List UInt8)) tL c.ids) fun uo =>
      b (uo,wr (a+1))
    else
      CA.k1 tL
def CA (x0:oP):Option (List (List UInt8)) :=
  loop (CA.l2 x0) ([],0)
theorem ag6 {x0:oP} {r:(List (List UInt8))} {b:jD} (hA:Gd F w) (x:oF Part.t F b x0.parts) (H:CA x0=some r):pa aac KK 146 [.agg (oP.cells x0 b)] w fun v w'=>∃ (F':jL) (q:jD),v=q∧St [] w F F' [.row rX q (r)] w':=by
 refine rA Tryz.func146 ?_;have hS:=St.start hA;refine qs ?_;refine bx ([.s x0.name,b]) ?_;intro g1 w1 e;refine au ?_;refine aq ?_;refine pe (fun E wq=>∃ l3:List (List UInt8),CA.k1 l3=some r ∧ ∃ (d:jL) (f:jD),E=[(3,f)]∧F.le d∧po e [.row rX f l3] d wq) ?_ ?_
 ·refine ax ?_;refine qC (fun (s:(List (List UInt8)) × Int) E wq=>∃ (c:jL) (a:jD),E=[(3,a),(7,b),(8,.i .i64 (x0.parts.length:Int)),(9,.i .i64 s.2)]∧F.le c∧po e [.row rX a s.1] c wq) H ?_ ?_
  ·have D:=e.sY rX;exact lo ⟨F,(.sl none 0 (.k 0)),rfl,(jL.le.refl _),D.pick [0] (by decide)⟩
  ·rintro a9 ⟨tL,aj⟩ E aR hI H
   try dsimp only at hI
   obtain ⟨c,a,rfl,R,A⟩:=hI;refine ay ?_;refine qy H (fun G H=>?_) (fun G H=>?_)
   ·obtain ⟨u,Q,H⟩:=oL H;obtain ⟨_,⟨S,rfl,P⟩,ai⟩:=qa 3 (x.mono R) Q;refine ay ?_;refine al ?_;intro ae aU ah;refine sb 0 ([.s u.path,.i .i64 u.size,S]) ?_;intro aV j;obtain ⟨uo,J,H⟩:=oL H;refine ax ?_;refine ap 1 j (P.src j.agree) J ?_;intro U aX B;refine ax ?_;exact nm H ⟨_,U,rfl,pc,pk [1] B⟩
   ·refine pw _ rfl ?_;exact nj ⟨tL,H,⟨_,a,rfl,pc,A⟩⟩
 ·rintro E w2 ⟨l3,H,d,f,rfl,am,h⟩;obtain ⟨r6,L,H⟩:=oL H;refine aq ?_;refine lm (aks (h.Gq 0 rfl) L) ?_;rintro v7 w7 ⟨X,rfl,p⟩;have l:=h.FP 0 [] rfl (by decide) (by decide) p;have ar:=p.ext;obtain ⟨r8,M,r9,O,H⟩:=oU H;refine ax ?_;refine lm (aj5 (l.Gq 0 rfl) M) ?_;rintro aC aK ⟨Y,_,rfl,m⟩;have y:=l.FP 0 [] rfl (by decide) (by decide) m;have a4:=m.ext;obtain ⟨V,ak,I,g⟩:=y.rv 0 [] rfl (by decide) (by decide);refine lm (ZJ g.oR I O) ?_;rintro aD aO ⟨Z,_,rfl,n⟩;have z:=g.call n;have a5:=n.ext;exact rx H z
def OU (x0:mZ) (x1:lU):Option Bool :=
  bd (TE x0.oD x1) fun a =>
  if a then
    some false
  else
    bd (CA x1.oJ) fun b =>
    bd (TD b x0) fun c =>
    some (!c)
theorem aio {x0:mZ} {x1:lU} {r:Bool} {l:jD} {m:jD} {n:jD} {p:jD} {f:jD} {g:jD} (hA:Gd F w) (G:oF lU.t F l x0.oB) (I:oF Chunk.t F m x0.chunks) (x:oF oC.t F n x0.oD) (J:oF oH.t F p x0.oK) (y:oF Part.t F f x1.oJ.parts) (L:oF Loc.t F g x1.oN) (H:OU x0 x1=some r):pa aac KK 93 [.agg (mZ.cells x0 l m n p),.agg (lU.cells x1 f g)] w fun v w'=>∃ (F':jL),v = .b r∧St [] w F F' [] w':=by
 refine ra Tryz.func93 ?_;have hS:=St.start hA;refine qs ?_;refine bx ([.i .i64 x0.seq,l,m,n,p]) ?_;intro Z w1 ae;refine bx ([.i .i64 x1.seq,.s x1.oJ.name,f,g]) ?_;intro g2 w2 O;refine ay ?_;obtain ⟨V,e,D,z⟩:=O.F5 0 [1] rfl (by decide) (by decide);obtain ⟨r4,R,H⟩:=oL H;refine ax ?_;refine lp (aj9 z.oR (mo x) (mo y) (mo L) D R) z ?_;intro w5 A;refine qn ?_;refine qy H (fun Q H=>?_) (fun Q H=>?_)
 ·exact rz H A
 ·refine ay ?_;obtain ⟨X,c,P,j⟩:=A.F5 0 [] rfl (by decide) (by decide);obtain ⟨r8,S,r9,U,H⟩:=oU H;refine ax ?_;refine qr (Ky (oP.cells x1.oJ f) Ty.zA Ty.zj (wU _) rfl (D.mono (j.agree.le c)) (fun q u h=>xd (post:=[g]) rfl h)) ?_;refine lm (ag6 j.oR (mo y) S) ?_;rintro ak ar ⟨Y,_,rfl,B⟩;have a:=j.call B;have d:=B.ext;refine qc ?_;refine lp (aj8 (Gd.now a.wf) (a.uK (k:=0) rfl) (G.mono (a.agree.le ((e.trans c).trans d))) (I.mono (a.agree.le ((e.trans c).trans d))) (x.mono (a.agree.le ((e.trans c).trans d))) (J.mono (a.agree.le ((e.trans c).trans d))) (P.mono (a.agree.le d)) U) a ?_;intro a4 M;exact rz H M
def yO.k1 (l3:List lU):Option (List lU) :=
  some l3
def yO.k3 (a:Int) (b:((List lU) × Int)→Option (List lU)) (tL:List lU):Option (List lU) :=
  b (tL,wr (a+1))
def yO.l2 (x0:mZ) (c:((List lU) × Int)→Option (List lU)):((List lU) × Int)→Option (List lU)
  | (l7,a) =>
    if decide (a < (x0.oB.length:Int)) then
      bd (ix x0.oB a) fun b =>
      bd (OU x0 b) fun e =>
      if e then
        bd (zn l7 b) fun f =>
        bd (app (α:=lU) f [b]) fun d =>
        yO.k3 a c d
      else
        yO.k3 a c l7
    else
      yO.k1 l7
def yO (x0:mZ):Option (List lU) :=
  loop (yO.l2 x0) ([],0)
theorem ail {X:List Nat} {x0:mZ} {r:(List lU)} {a:jD} {b:jD} {c:jD} {d:jD} (hS:St X w F F [.row lU.t a x0.oB,.row Chunk.t b x0.chunks,.row oC.t c x0.oD,.row oH.t d x0.oK] w) (H:yO x0=some r):pa aac KK 44 [.agg (mZ.cells x0 a b c d)] w fun v w'=>∃ (F':jL) (S:jD),v=S∧St X w F F' [.row lU.t S (r),.row lU.t a x0.oB,.row Chunk.t b x0.chunks,.row oC.t c x0.oD,.row oH.t d x0.oK] w':=by
 refine rA Tryz.func44 ?_;refine qs ?_;refine bx ([.i .i64 x0.seq,a,b,c,d]) ?_;intro l w1 m;refine au ?_;refine aq ?_;refine pe (fun E wq=>∃ l3:List lU,yO.k1 l3=some r ∧ ∃ (z:jL) (L:jD),E=[(3,L)]∧F.le z∧po m [.row lU.t a x0.oB,.row Chunk.t b x0.chunks,.row oC.t c x0.oD,.row oH.t d x0.oK,.row lU.t L l3] z wq) ?_ ?_
 ·refine aq ?_;refine qr (qD aam rfl (m.rB (k:=1) rfl)) ?_;refine ax ?_;refine qC (fun (s:(List lU) × Int) E wq=>∃ (j:jL) (f:jD),E=[(1,pl l 0),(3,f),(7,a),(8,.i .i64 (x0.oB.length:Int)),(9,.i .i64 s.2)]∧F.le j∧po m [.box l [.i .i64 x0.seq,a,b,c,d],.row lU.t a x0.oB,.row Chunk.t b x0.chunks,.row oC.t c x0.oD,.row oH.t d x0.oK,.row lU.t f s.1] j wq) H ?_ ?_
  ·have ad:=m.sY lU.t;exact lo ⟨F,(.sl none 0 (.k 0)),rfl,(jL.le.refl _),ad.pick [1,2,3,4,5,0] (by decide)⟩
  ·rintro a5 ⟨l7,R⟩ E w6 hI H
   try dsimp only at hI
   obtain ⟨j,f,rfl,aK,D⟩:=hI;refine ay ?_;refine qy H (fun ae H=>?_) (fun ae H=>?_)
   ·refine qk ?_;refine pe (fun E wq=>∃ tL:List lU,yO.k3 R a5 tL=some r ∧ ∃ (y:jL) (n:jD),E=[(1,pl l 0),(3,n),(7,a),(8,.i .i64 (x0.oB.length:Int)),(9,.i .i64 R)]∧j.le y∧po D [.box l [.i .i64 x0.seq,a,b,c,d],.row lU.t a x0.oB,.row Chunk.t b x0.chunks,.row oC.t c x0.oD,.row oH.t d x0.oK,.row lU.t n tL] y wq) ?_ ?_
    ·obtain ⟨g,am,H⟩:=oL H;obtain ⟨_,⟨p,x,rfl,I,J⟩,aC⟩:=tt 4 1 D am;refine ax ?_;refine al ?_;intro a8 aY a9;refine sb 0 ([.i .i64 g.seq,.s g.oJ.name,p,x]) ?_;intro bb e;obtain ⟨aO,aj,H⟩:=oL H;refine ax ?_;refine lp (aio (Gd.now e.wf) (e.uK (k:=2) rfl) (e.uK (k:=3) rfl) (e.uK (k:=4) rfl) (e.uK (k:=5) rfl) (I.mono e.agree) (J.mono e.agree) aj) e ?_;intro bc M;refine qn ?_;refine qy H (fun ah H=>?_) (fun ah H=>?_)
     ·obtain ⟨U,aJ,Q,O⟩:=M.F5 0 [1,2,3,4,5,6] rfl (by decide) (by decide);obtain ⟨aR,ak,ar,ai,H⟩:=oU H;refine uT (G:=U) [0,1,3,4,2,5,6] rfl Ty.mixed (by kernel_rfl) O.agree ?_;refine au ?_;refine qr (Ky (lU.cells g p x) Ty.KD Ty.sJ (wU _) rfl Q (fun q u h=>xd (post:=[]) rfl h)) ?_;refine qx (sh (t:=lU.t) (vs:=[.agg (lU.cells g p x)]) (xs:=[g]) aam Ty.Bb rfl ⟨⟨p,x,rfl,(mo I),(mo J)⟩,trivial⟩ rfl rfl O) ?_;rintro aT be A;refine qw A ?_;refine ql (akd (A.Gq 6 rfl) (mo I) (mo J) Q ak) ?_;rintro aU bg ⟨a7,_,rfl,P⟩;have B:=A.FP 6 [0,1,2,3,4,5] rfl (by decide) (by decide) P;have a4:=P.ext;refine pQ.tT a4 B.agree ?_;refine aP 0 B (B.tf (k:=1) rfl) ai ?_;intro a6 bf Z;refine ax ?_;exact nj ⟨ar,H,⟨_,a6,rfl,pc,pk [2,3,4,5,6,0] Z⟩⟩
     ·refine ax ?_;exact nj ⟨l7,H,⟨_,f,rfl,pc,pk [1,2,3,4,5,6] M⟩⟩
    ·rintro E aX ⟨tL,H,y,n,rfl,aD,V⟩;refine ax ?_;exact nm H ⟨_,n,rfl,pc,V⟩
   ·refine pw _ rfl ?_;exact nj ⟨l7,H,⟨_,f,rfl,pc,pk [1,2,3,4,5] D⟩⟩
 ·rintro E w2 ⟨l3,H,z,L,rfl,aH,Y⟩;exact rx H (pk [4,0,1,2,3] Y)
def Fb (x0:List Loc):Option (List Loc) :=
  bd (El x0) fun a =>
  bd (GI sA a) fun b =>
  bd (uN b) fun c =>
  bd (El c) fun d =>
  some d
theorem S4 {x0:List Loc} {r:(List Loc)} {i:jD} (hA:Gd F w) (j:oF Loc.t F i x0) (H:Fb x0=some r):pa aac KK 45 [i] w fun v w'=>∃ (F':jL) (g:jD),v=g∧St [] w F F' [.row Loc.t g (r)] w':=by
 refine rA Tryz.func45 ?_;have hS:=St.start hA;obtain ⟨G,n,H⟩:=oL H;refine ax ?_;refine lm (Mw hS.oR j n) ?_;rintro M R ⟨u,_,rfl,d⟩;have b:=hS.call d;have A:=d.ext;obtain ⟨I,p,H⟩:=oL H;refine ax ?_;refine lm (akv (b.Gq 0 rfl) p) ?_;rintro Q S ⟨x,rfl,e⟩;have c:=b.FP 0 [] rfl (by decide) (by decide) e;have B:=e.ext;obtain ⟨J,q,L,s,H⟩:=oU H;refine ax ?_;refine lm (aj6 (c.Gq 0 rfl) q) ?_;rintro O U ⟨y,_,rfl,f⟩;have a:=c.FP 0 [] rfl (by decide) (by decide) f;have D:=f.ext;refine lm (Mw (Gd.now a.wf) (a.uK (k:=0) rfl) s) ?_;rintro P V ⟨z,_,rfl,m⟩;have l:=a.SE m ⟨fun _ _ _ h=>Y9 (t:=Loc.t) (fun h=>h) h,trivial⟩;exact rx H (pk [0] l)
def rL.k4 (a:Int) (b:List oH) (c:List lU) (d:List Chunk) (e:List oC):Option (mZ × Int) :=
  bd (KJ (mZ.mk a c d e b)) fun f =>
  if decide (f≠0) then
    some ((mZ.mk 0 [] [] [] []),1)
  else
    bd (uh (mZ.mk a c d e b)) fun g =>
    some (g,0)
def rL.l5 (pN:List oC) (d:Int) (e:List oH) (f:List lU) (g:List Chunk) (i:(Int × (List oC))→Option (mZ × Int)):(Int × (List oC))→Option (mZ × Int)
  | (a,b) =>
    if decide (a < (pN.length:Int)) then
      bd (ix b a) fun c =>
      bd (Fb c.oN) fun h =>
      i (wr (a+1),(b.set a.toNat (oC.mk c.seq c.of h)))
    else
      rL.k4 d e f g b
def rL.k3 (pN:List oC) (a:Int) (b:List oH) (c:List lU) (d:List Chunk):Option (mZ × Int) :=
  loop (rL.l5 pN a b c d) (0,pN)
def rL.l6 (pN:List oC) (e:List Chunk) (d:Int) (f:List oH) (g:List lU) (i:(Int × (List Chunk))→Option (mZ × Int)):(Int × (List Chunk))→Option (mZ × Int)
  | (a,c) =>
    if decide (a < (e.length:Int)) then
      bd (ix c a) fun b =>
      bd (Fb b.oN) fun h =>
      i (wr (a+1),(c.set a.toNat (Chunk.mk b.id b.pX b.data h)))
    else
      rL.k3 pN d f g c
def rL.k2 (pN:List oC) (a:List Chunk) (b:Int) (c:List oH) (d:List lU):Option (mZ × Int) :=
  loop (rL.l6 pN a b c d) (0,a)
def rL.l7 (pN:List oC) (e:List Chunk) (d:Int) (f:List oH) (g:(List lU)) (i:(Int × (List lU))→Option (mZ × Int)):(Int × (List lU))→Option (mZ × Int)
  | (a,b) =>
    if decide (a < (g.length:Int)) then
      bd (ix b a) fun c =>
      bd (Fb c.oN) fun h =>
      i (wr (a+1),(b.set a.toNat (lU.mk c.seq c.oJ h)))
    else
      rL.k2 pN e d f b
def rL.k1 (pN:List oC) (b:List Chunk) (e:List lU) (a:Int) (c:List oH):Option (mZ × Int) :=
  bd (yO (mZ.mk a e b pN c)) fun d =>
  loop (rL.l7 pN b a c d) (0,d)
def rL.k9 (b:Int) (g:(Int × (List oC) × (List Chunk) × (List lU) × Int × (List oH))→Option (mZ × Int)) (c:List oC) (d:List Chunk) (e:List lU) (a:Int) (f:List oH):Option (mZ × Int) :=
  g (wr (b+1),c,d,e,a,f)
def rL.l8 (x1:List Found) (k:(Int × (List oC) × (List Chunk) × (List lU) × Int × (List oH))→Option (mZ × Int)):(Int × (List oC) × (List Chunk) × (List lU) × Int × (List oH))→Option (mZ × Int)
  | (a,g,d,e,c,f) =>
    if decide (a < (x1.length:Int)) then
      bd (ix x1 a) fun b =>
      if decide (b.oG.kind=1) then
        bd (Dx (mZ.mk c e d g f) b) fun h =>
        rL.k9 a k h.oD h.chunks h.oB h.seq h.oK
      else
        if decide (b.oG.kind=2) then
          bd (Eg (mZ.mk c e d g f) b) fun i =>
          rL.k9 a k i.oD i.chunks i.oB i.seq i.oK
        else
          if decide (b.oG.kind=3) then
            bd (Ee (mZ.mk c e d g f) b) fun j =>
            rL.k9 a k j.oD j.chunks j.oB j.seq j.oK
          else
            rL.k9 a k g d e c f
    else
      rL.k1 g d e c f
def rL (x0:List oH) (x1:List Found):Option (mZ × Int) :=
  bd (Mx x0) fun a =>
  loop (rL.l8 x1) (0,[],[],[],0,a)
set_option maxHeartbeats 2000000 in
theorem YS {x0:List oH} {x1:List Found} {r:mZ × Int} {v0:jD} {v1:jD} (hA:Gd F w) (h0:oF oH.t F v0 x0) (h1:oF Found.t F v1 x1) (H:rL x0 x1=some r):pa aac KK 12 [v0,v1] w fun v w'=>∃ (F':jL) (bS:jD) (ce:List Nat) (bT:jD) (cf:List Nat) (bU:jD) (cg:List Nat) (bV:jD),v = .qR [.agg (mZ.cells r.1 bS bT bU bV),.i .i64 r.2]∧St [] w F F' [.dp lU.o ce bS (r.1.oB),.dp Chunk.o cf bT (r.1.chunks),.dp oC.o cg bU (r.1.oD),.row oH.t bV (r.1.oK)] w':=by
 refine ra Tryz.func12 ?_;have hS:=St.start hA;refine qs ?_;refine al ?_;intro e w1 ck;have cw:=ck.wk lU.o;have cx:=cw.wk Chunk.o;have bw:=cx.wk oC.o;obtain ⟨r5,dc,H⟩:=oL H;refine ax ?_;refine lm (ZK bw.oR h0 dc) ?_;rintro a eA ⟨aT,_,rfl,bE⟩;have co:=bw.call bE;have dw:=bE.ext;have cN:=(co.rB (k:=0) rfl).cells;refine qr (FI (vs:=[(4,a)]) (v:=.agg (mZ.cells (mZ.mk 0 [] [] [] r5) (.sl none 0 (.k 0)) (.sl none 0 (.k 0)) (.sl none 0 (.k 0)) a)) Ty.VP rfl (by simp only [xR,cN];rfl)) ?_;refine al ?_;intro g w6 cA;have cC:=cA.wk lU.o;have cD:=cC.wk Chunk.o;have dR:=cD.wk oC.o;refine sb 3 ([.i .i64 0,.sl none 0 (.k 0),.sl none 0 (.k 0),.sl none 0 (.k 0),a]) ?_;intro eE ct;have cl:=ct.wk lU.o;have cm:=cl.wk Chunk.o;have aY:=cm.wk oC.o;refine qn ?_;refine pe (fun E wq=>∃ pN:List oC,∃ n:List Chunk,∃ Q:List lU,∃ h:Int,∃ j:List oH,rL.k1 pN n Q h j=some r ∧ ∃ (aJ:jL) (b:jD) (bs:List Nat) (d:jD) (bt:List Nat) (a9:jD) (bu:List Nat),E=[(4,pl e 0),(6,pl g 0)]∧aT.le aJ∧po aY [.dp oC.o bs b pN,.dp Chunk.o bt d n,.dp lU.o bu a9 Q,.box g [.i .i64 h,a9,d,b,a],.row oH.t a j,.dp oC.o [] (.sl none 0 (.k 0)) [],.dp Chunk.o [] (.sl none 0 (.k 0)) [],.dp lU.o [] (.sl none 0 (.k 0)) [],.box e [.i .i64 0,(.sl none 0 (.k 0)),(.sl none 0 (.k 0)),(.sl none 0 (.k 0)),.sl none 0 (.k 0)]] aJ wq) ?_ ?_
 ·refine ax ?_;refine qC (fun (s:Int × (List oC) × (List Chunk) × (List lU) × Int × (List oH)) E wq=>∃ (ah:jL) (ad:jD) (aj:List Nat) (Y:jD) (ak:List Nat) (Z:jD) (am:List Nat),E=[(4,pl e 0),(6,pl g 0),(15,v1),(16,.i .i64 (x1.length:Int)),(17,.i .i64 s.1)]∧aT.le ah∧po aY [.dp oC.o aj ad s.2.1,.dp Chunk.o ak Y s.2.2.1,.dp lU.o am Z s.2.2.2.1,.box g [.i .i64 s.2.2.2.2.1,Z,Y,ad,a],.row oH.t a s.2.2.2.2.2,.dp oC.o [] (.sl none 0 (.k 0)) [],.dp Chunk.o [] (.sl none 0 (.k 0)) [],.dp lU.o [] (.sl none 0 (.k 0)) [],.box e [.i .i64 0,(.sl none 0 (.k 0)),(.sl none 0 (.k 0)),(.sl none 0 (.k 0)),.sl none 0 (.k 0)]] ah wq) H ?_ ?_
  ·exact lo ⟨aT,(.sl none 0 (.k 0)),[],(.sl none 0 (.k 0)),[],(.sl none 0 (.k 0)),[],rfl,(jL.le.refl _),aY.pick [0,1,2,6,7,8,9,10,11] (by decide)⟩
  ·rintro d5 ⟨bR,S,M,O,L,P⟩ E eZ hI H
   try dsimp only at hI
   obtain ⟨ah,ad,aj,Y,ak,Z,am,rfl,dv,bD⟩:=hI;refine ay ?_;refine qy H (fun cF H=>?_) (fun cF H=>?_)
   ·refine qk ?_;refine pe (fun E wq=>∃ bg:List oC,∃ bh:List Chunk,∃ bi:List lU,∃ bf:Int,∃ bj:List oH,rL.k9 bR d5 bg bh bi bf bj=some r ∧ ∃ (aH:jL) (a6:jD) (aU:List Nat) (a7:jD) (aV:List Nat) (a8:jD) (aX:List Nat),E=[(4,pl e 0),(6,pl g 0),(15,v1),(16,.i .i64 (x1.length:Int)),(17,.i .i64 bR)]∧ah.le aH∧po bD [.dp oC.o aU a6 bg,.dp Chunk.o aV a7 bh,.dp lU.o aX a8 bi,.box g [.i .i64 bf,a8,a7,a6,a],.row oH.t a bj,.dp oC.o [] (.sl none 0 (.k 0)) [],.dp Chunk.o [] (.sl none 0 (.k 0)) [],.dp lU.o [] (.sl none 0 (.k 0)) [],.box e [.i .i64 0,(.sl none 0 (.k 0)),(.sl none 0 (.k 0)),(.sl none 0 (.k 0)),.sl none 0 (.k 0)]] aH wq) ?_ ?_
    ·obtain ⟨p,dj,H⟩:=oL H;obtain ⟨_,⟨d6,rfl,be⟩,dS⟩:=qa 7 (h1.mono (dw.trans dv)) dj;refine ax ?_;refine al ?_;intro dN e8 dO;refine sb 0 ([.i .i64 p.oG.kind,.i .i64 p.oG.seq,d6,.i .i64 p.loc.pE,.i .i64 p.loc.file,.i .i64 p.loc.off,.i .i64 p.loc.len]) ?_;intro e9 u;refine ax ?_;refine qy H (fun cG H=>?_) (fun cG H=>?_)
     ·obtain ⟨U,cV,H⟩:=oL H;refine ax ?_;refine lm (aii (x0:=(mZ.mk L O M S P)) (x1:=p) (u.u9 [4,3,2,1,5] (by decide)) be cV) ?_;rintro e1 eB ⟨dG,alc,abE,ald,abF,ale,abG,rfl,bF⟩;have cp:=u.uV [4,3,2,1,5] [0,6,7,8,9] (by decide) (by decide) bF;have em:=bF.ext;refine ax ?_;exact nj ⟨U.oD,U.chunks,U.oB,U.seq,U.oK,H,⟨_,ale,abG,ald,abF,alc,abE,rfl,pc,pk [3,2,1,0,4,6,7,8,9] cp⟩⟩
     ·refine aq ?_;refine qy H (fun cH H=>?_) (fun cH H=>?_)
      ·obtain ⟨V,cX,H⟩:=oL H;refine ax ?_;refine lm (aik (x0:=(mZ.mk L O M S P)) (x1:=p) (u.u9 [4,3,2,1,5] (by decide)) be cX) ?_;rintro e2 eC ⟨dH,alg,abH,alh,abI,ali,abJ,rfl,bG⟩;have cq:=u.uV [4,3,2,1,5] [0,6,7,8,9] (by decide) (by decide) bG;have en:=bG.ext;refine ax ?_;exact nj ⟨V.oD,V.chunks,V.oB,V.seq,V.oK,H,⟨_,ali,abJ,alh,abI,alg,abH,rfl,pc,pk [3,2,1,0,4,6,7,8,9] cq⟩⟩
      ·refine aq ?_;refine qy H (fun cI H=>?_) (fun cI H=>?_)
       ·obtain ⟨X,cY,H⟩:=oL H;refine ax ?_;refine lm (aij (x0:=(mZ.mk L O M S P)) (x1:=p) (u.u9 [4,3,2,1,5] (by decide)) be cY) ?_;rintro e3 eD ⟨dI,alj,abK,alk,abL,alm,abM,rfl,bH⟩;have cr:=u.uV [4,3,2,1,5] [0,6,7,8,9] (by decide) (by decide) bH;have eo:=bH.ext;refine ax ?_;exact nj ⟨X.oD,X.chunks,X.oB,X.seq,X.oK,H,⟨_,alm,abM,alk,abL,alj,abK,rfl,pc,pk [3,2,1,0,4,6,7,8,9] cr⟩⟩
       ·refine ax ?_;exact nj ⟨S,M,O,L,P,H,⟨_,ad,aj,Y,ak,Z,am,rfl,pc,pk [1,2,3,4,5,6,7,8,9] u⟩⟩
    ·rintro E e7 ⟨bg,bh,bi,bf,bj,H,aH,a6,aU,a7,aV,a8,aX,rfl,dW,cn⟩;refine ax ?_;exact nm H ⟨_,a6,aU,a7,aV,a8,aX,rfl,pc,cn⟩
   ·refine pw _ rfl ?_;exact nj ⟨S,M,O,L,P,H,⟨_,ad,aj,Y,ak,Z,am,rfl,pc,bD⟩⟩
 ·rintro E eF ⟨pN,n,Q,h,j,H,aJ,b,bs,d,bt,a9,bu,rfl,dX,cu⟩;obtain ⟨d0,cZ,H⟩:=oL H;refine aq ?_;obtain ⟨d7,dY,cy⟩:=St.xD lU.sf 2 cu rfl;obtain ⟨d8,dZ,cz⟩:=St.xD Chunk.sf 1 cy rfl;obtain ⟨d9,ea,bv⟩:=St.xD oC.sf 0 cz rfl;refine Bp (f:=44) (args:=[.agg (mZ.cells (mZ.mk h Q n pN j) a9 d b a)]) rfl rfl rfl rfl (ail (x0:=(mZ.mk h Q n pN j)) (bv.u9 [2,1,0,4] (by decide)) cZ) ?_;rintro l eG ⟨br,_,rfl,bI⟩;have dP:=bv.uV [2,1,0,4] [3,5,6,7,8] (by decide) (by decide) bI;have ep:=bI.ext;refine pQ.now ?_;refine au ?_;refine sc 5 ([.i .i64 h,l,d,b,a]) ?_;intro eH ar;refine qn ?_;refine pe (fun E wq=>∃ m:List lU,rL.k2 pN n h j m=some r ∧ ∃ (B:jL),E=[(4,pl e 0),(6,pl g 0)]∧br.le B∧po ar [.row lU.t l m,.row Chunk.t d n,.row oC.t b pN,.row oH.t a j,.box g [.i .i64 h,l,d,b,a],.dp oC.o [] (.sl none 0 (.k 0)) [],.dp Chunk.o [] (.sl none 0 (.k 0)) [],.dp lU.o [] (.sl none 0 (.k 0)) [],.box e [.i .i64 0,(.sl none 0 (.k 0)),(.sl none 0 (.k 0)),(.sl none 0 (.k 0)),.sl none 0 (.k 0)]] B wq) ?_ ?_
  ·refine aq ?_;refine qr (qD aam rfl (ar.rB (k:=0) rfl)) ?_;refine ax ?_;refine qC (fun (s:Int × (List lU)) E wq=>∃ (aR:jL),E=[(4,pl e 0),(6,pl g 0),(42,.i .i64 (d0.length:Int)),(43,.i .i64 s.1)]∧br.le aR∧po ar [.row lU.t l s.2,.row Chunk.t d n,.row oC.t b pN,.row oH.t a j,.box g [.i .i64 h,l,d,b,a],.dp oC.o [] (.sl none 0 (.k 0)) [],.dp Chunk.o [] (.sl none 0 (.k 0)) [],.dp lU.o [] (.sl none 0 (.k 0)) [],.box e [.i .i64 0,(.sl none 0 (.k 0)),(.sl none 0 (.k 0)),(.sl none 0 (.k 0)),.sl none 0 (.k 0)]] aR wq) H ?_ ?_
   ·exact lo (jj (pk [0,2,3,4,5,6,7,8,9] ar))
   ·rintro ev ⟨dm,dr⟩ E eW hI H
    try dsimp only at hI
    obtain ⟨aR,rfl,ek,z⟩:=hI;refine ay ?_;refine qy H (fun cM H=>?_) (fun cM H=>?_)
    ·refine ay ?_;obtain ⟨bq,bQ,d4,df,H⟩:=oU H;have J:=z.tK 4 rfl;refine rh 4 J z ?_;refine au ?_;refine hl 4 J z ?_;obtain ⟨_,⟨ez,e0,rfl,dV,di⟩,cQ⟩:=tt 4 0 z bQ;refine au ?_;refine qq (su 3 Ty.wX rfl cQ (by first | omega | rfl) rfl) ?_;refine ql (S4 z.oR di df) ?_;rintro bZ eX ⟨dM,_,rfl,bN⟩;have bA:=z.call bN;have dz:=bN.ext;refine nf 5 J bA dz ?_;refine au ?_;obtain ⟨dF,du,bc,bC⟩:=bA.rv 0 [1,2,3,4,5,6,7,8,9] rfl (by decide) (by decide);refine wg 4 J bC du ?_;refine qu (yx (c:=[bZ]) 0 (dm.toNat) 3 bq (lU.mk bq.seq bq.oJ d4) rfl rfl bC rfl (oM bQ).2 (by first | rfl | (show _=_*4+_;omega)) bc.ln.cells Ty.AG (by simp only [tZ,uR,rC,bc.ln.one];rfl) (qY rfl) (by rintro cs ⟨a2,a3,rfl,b2,b3⟩;exact ⟨a2,bZ,rfl,b2,bc⟩)) ?_;rintro _ eY bB;refine qh 4 J bB ?_;refine ax ?_;exact nm H (jj bB)
    ·refine pw _ rfl ?_;exact nj ⟨dr,H,jj z⟩
  ·rintro E eI ⟨m,H,B,rfl,eb,a4⟩;refine pe (fun E wq=>∃ q:List Chunk,rL.k3 pN h j m q=some r ∧ ∃ (D:jL),E=[(4,pl e 0),(6,pl g 0)]∧B.le D∧po a4 [.row lU.t l m,.row Chunk.t d q,.row oC.t b pN,.row oH.t a j,.box g [.i .i64 h,l,d,b,a],.dp oC.o [] (.sl none 0 (.k 0)) [],.dp Chunk.o [] (.sl none 0 (.k 0)) [],.dp lU.o [] (.sl none 0 (.k 0)) [],.box e [.i .i64 0,(.sl none 0 (.k 0)),(.sl none 0 (.k 0)),(.sl none 0 (.k 0)),.sl none 0 (.k 0)]] D wq) ?_ ?_
   ·refine aq ?_;refine qr (qD aaE rfl (a4.rB (k:=1) rfl)) ?_;refine ax ?_;refine qC (fun (s:Int × (List Chunk)) E wq=>∃ (aO:jL),E=[(4,pl e 0),(6,pl g 0),(61,.i .i64 (n.length:Int)),(62,.i .i64 s.1)]∧B.le aO∧po a4 [.row lU.t l m,.row Chunk.t d s.2,.row oC.t b pN,.row oH.t a j,.box g [.i .i64 h,l,d,b,a],.dp oC.o [] (.sl none 0 (.k 0)) [],.dp Chunk.o [] (.sl none 0 (.k 0)) [],.dp lU.o [] (.sl none 0 (.k 0)) [],.box e [.i .i64 0,(.sl none 0 (.k 0)),(.sl none 0 (.k 0)),(.sl none 0 (.k 0)),.sl none 0 (.k 0)]] aO wq) H ?_ ?_
    ·exact lo (jj a4)
    ·rintro eu ⟨dl,dq⟩ E eT hI H
     try dsimp only at hI
     obtain ⟨aO,rfl,ej,y⟩:=hI;refine ay ?_;refine qy H (fun cL H=>?_) (fun cL H=>?_)
     ·refine ay ?_;obtain ⟨aD,bP,d3,de,H⟩:=oU H;have I:=y.tK 4 rfl;refine rh 4 I y ?_;refine au ?_;refine hl 4 I y ?_;obtain ⟨_,⟨ex,ey,rfl,dT,dU,dh⟩,cP⟩:=tt 35 1 y bP;refine au ?_;refine qq (su 34 Ty.wX rfl cP (by first | omega | rfl) rfl) ?_;refine ql (S4 y.oR dh de) ?_;rintro bY eU ⟨dL,_,rfl,bM⟩;have b7:=y.call bM;have dy:=bM.ext;refine nf 5 I b7 dy ?_;refine au ?_;obtain ⟨dE,dt,bb,b9⟩:=b7.rv 0 [1,2,3,4,5,6,7,8,9] rfl (by decide) (by decide);refine wg 4 I b9 dt ?_;refine qu (yx (c:=[bY]) 1 (dl.toNat) 34 aD (Chunk.mk aD.id aD.pX aD.data d3) rfl rfl b9 rfl (oM bP).2 (by first | rfl | (show _=_*35+_;omega)) bb.ln.cells Ty.AG (by simp only [tZ,uR,rC,bb.ln.one];rfl) (qY rfl) (by rintro cs ⟨a2,a3,rfl,c0,b2,b3⟩;exact ⟨a2,bY,rfl,c0,b2,bb⟩)) ?_;rintro _ eV b8;refine qh 4 I b8 ?_;refine ax ?_;exact nm H (jj b8)
     ·refine pw _ rfl ?_;exact nj ⟨dq,H,jj y⟩
   ·rintro E eJ ⟨q,H,D,rfl,ec,a5⟩;refine pe (fun E wq=>∃ R:List oC,rL.k4 h j m q R=some r ∧ ∃ (ae:jL),E=[(4,pl e 0),(6,pl g 0)]∧D.le ae∧po a5 [.row lU.t l m,.row Chunk.t d q,.row oC.t b R,.row oH.t a j,.box g [.i .i64 h,l,d,b,a],.dp oC.o [] (.sl none 0 (.k 0)) [],.dp Chunk.o [] (.sl none 0 (.k 0)) [],.dp lU.o [] (.sl none 0 (.k 0)) [],.box e [.i .i64 0,(.sl none 0 (.k 0)),(.sl none 0 (.k 0)),(.sl none 0 (.k 0)),.sl none 0 (.k 0)]] ae wq) ?_ ?_
    ·refine aq ?_;refine qr (qD aaF rfl (a5.rB (k:=2) rfl)) ?_;refine ax ?_;refine qC (fun (s:Int × (List oC)) E wq=>∃ (aK:jL),E=[(4,pl e 0),(6,pl g 0),(80,.i .i64 (pN.length:Int)),(81,.i .i64 s.1)]∧D.le aK∧po a5 [.row lU.t l m,.row Chunk.t d q,.row oC.t b s.2,.row oH.t a j,.box g [.i .i64 h,l,d,b,a],.dp oC.o [] (.sl none 0 (.k 0)) [],.dp Chunk.o [] (.sl none 0 (.k 0)) [],.dp lU.o [] (.sl none 0 (.k 0)) [],.box e [.i .i64 0,(.sl none 0 (.k 0)),(.sl none 0 (.k 0)),(.sl none 0 (.k 0)),.sl none 0 (.k 0)]] aK wq) H ?_ ?_
     ·exact lo (jj a5)
     ·rintro et ⟨dk,dn⟩ E eP hI H
      try dsimp only at hI
      obtain ⟨aK,rfl,ei,x⟩:=hI;refine ay ?_;refine qy H (fun cK H=>?_) (fun cK H=>?_)
      ·refine ay ?_;obtain ⟨bp,bO,d2,dd,H⟩:=oU H;have G:=x.tK 4 rfl;refine rh 4 G x ?_;refine au ?_;refine hl 4 G x ?_;obtain ⟨_,⟨ew,rfl,dg⟩,cO⟩:=tt 3 2 x bO;refine au ?_;refine qq (su 2 Ty.wX rfl cO (by first | omega | rfl) rfl) ?_;refine ql (S4 x.oR dg dd) ?_;rintro bX eR ⟨dK,_,rfl,bK⟩;have b4:=x.call bK;have dx:=bK.ext;refine nf 5 G b4 dx ?_;refine au ?_;obtain ⟨dD,ds,ba,b6⟩:=b4.rv 0 [1,2,3,4,5,6,7,8,9] rfl (by decide) (by decide);refine wg 4 G b6 ds ?_;refine qu (yx (c:=[bX]) 2 (dk.toNat) 2 bp (oC.mk bp.seq bp.of d2) rfl rfl b6 rfl (oM bO).2 (by first | rfl | (show _=_*3+_;omega)) ba.ln.cells Ty.AG (by simp only [tZ,uR,rC,ba.ln.one];rfl) (qY rfl) (by rintro cs ⟨a2,rfl,b2⟩;exact ⟨bX,rfl,ba⟩)) ?_;rintro _ eS b5;refine qh 4 G b5 ?_;refine ax ?_;exact nm H (jj b5)
      ·refine pw _ rfl ?_;exact nj ⟨dn,H,jj x⟩
    ·rintro E eK ⟨R,H,ae,rfl,ed,A⟩;obtain ⟨er,da,H⟩:=oL H;refine ay ?_;refine Bp (f:=34) (args:=[.agg (mZ.cells (mZ.mk h m q R j) l d b a)]) rfl rfl rfl rfl (V1 (Gd.now A.wf) (A.uK (k:=0) rfl) (A.uK (k:=1) rfl) (A.uK (k:=2) rfl) (A.uK (k:=3) rfl) da) ?_;rintro e4 eL ⟨dJ,rfl,cE⟩;have c1:=A.vw cE;refine pQ.now ?_;refine au ?_;refine qy H (fun cJ H=>?_) (fun cJ H=>?_)
     ·refine qs ?_;refine qM (v:=.agg (mZ.cells (mZ.mk 0 [] [] [] []) (.sl none 0 (.k 0)) (.sl none 0 (.k 0)) (.sl none 0 (.k 0)) (.sl none 0 (.k 0)))) rfl rfl rfl rfl (fun _=>rfl) ?_;refine sb 8 ([.i .i64 0,.sl none 0 (.k 0),.sl none 0 (.k 0),.sl none 0 (.k 0),.sl none 0 (.k 0)]) ?_;intro eM c5;have c2:=c5.wk lU.o;have c3:=c2.wk Chunk.o;have c4:=c3.wk oC.o;refine au ?_;have bz:=c4.sY oH.t;obtain rfl:=oi H;refine yw (vs:=[.agg (mZ.cells (mZ.mk 0 [] [] [] []) (.sl none 0 (.k 0)) (.sl none 0 (.k 0)) (.sl none 0 (.k 0)) (.sl none 0 (.k 0))),.i .i64 1]) rfl ⟨(yB 12 Ty.yU Ty.zh bz rfl rfl),rfl,trivial⟩ ?_;exact ⟨ae,(.sl none 0 (.k 0)),[],(.sl none 0 (.k 0)),[],(.sl none 0 (.k 0)),[],(.sl none 0 (.k 0)),rfl,bz.pick [3,2,1,0] (by decide)⟩
     ·obtain ⟨bW,db,H⟩:=oL H;refine ax ?_;obtain ⟨dA,ee,cR,c6⟩:=c1.rv 0 [1,2,3,4,5,6,7,8] rfl (by decide) (by decide);obtain ⟨dB,ef,cS,c7⟩:=c6.rv 0 [1,2,3,4,5,6,7] rfl (by decide) (by decide);obtain ⟨cb,eg,cT,c8⟩:=c7.rv 0 [1,2,3,4,5,6] rfl (by decide) (by decide);have c9:St [] w F cb [.row oH.t a j,.box g [.i .i64 h,l,d,b,a],.dp oC.o [] (.sl none 0 (.k 0)) [],.dp Chunk.o [] (.sl none 0 (.k 0)) [],.dp lU.o [] (.sl none 0 (.k 0)) [],.box e [.i .i64 0,(.sl none 0 (.k 0)),(.sl none 0 (.k 0)),(.sl none 0 (.k 0)),.sl none 0 (.k 0)]] _:=c8;obtain ⟨dC,eh,cU,b0⟩:=c9.rv 0 [1,2,3,4,5] rfl (by decide) (by decide);refine Bp (f:=46) (args:=[.agg (mZ.cells (mZ.mk h m q R j) l d b a)]) rfl rfl rfl rfl (V3 b0.oR (mo cR) (mo cS) (mo cT) cU db) ?_;rintro e5 eN ⟨cc,bk,abS,bm,abT,bn,abU,bo,rfl,bJ⟩;have dQ:=b0.call bJ;have eq:=bJ.ext;refine pQ.now ?_;refine sb 8 ([.i .i64 bW.seq,bk,bm,bn,bo]) ?_;intro eO b1;refine au ?_;obtain rfl:=oi H;refine yw (vs:=[.agg (mZ.cells bW bk bm bn bo),.i .i64 0]) rfl ⟨(yB 8 Ty.yU Ty.zh b1 rfl rfl),rfl,trivial⟩ ?_;exact ⟨cc,bk,abS,bm,abT,bn,abU,bo,rfl,b1.pick [0,1,2,3] (by decide)⟩
def ND:Option Bool :=
  bd (rL [(oH.mk 0 0 2 1)] [(Found.mk (tk.mk 1 0 [(120:UInt8)]) (Loc.mk 0 1 13 14))]) fun a =>
  bd (only (decide (a.2=0)&&decide ((a.1.chunks.length:Int)=1)) (ix a.1.chunks 0) (Chunk.mk (ph 32 (0:UInt8)) false [] [])) fun b =>
  bd (only ((decide (a.2=0)&&decide ((a.1.chunks.length:Int)=1))&&decide ((b.oN.length:Int)=1)) (ix a.1.chunks 0) (Chunk.mk (ph 32 (0:UInt8)) false [] [])) fun c =>
  some (((decide (a.2=0)&&decide ((a.1.chunks.length:Int)=1))&&decide ((b.oN.length:Int)=1))&&(!c.pX))
theorem Wb {r:Bool} (hA:Gd F w) (H:ND=some r):pa aac KK 22 [] w fun v w'=>∃ (F':jL),v = .b r∧St [] w F F' [] w':=by
 refine IL (args:=[]) Tryz.func22 rfl (by decide) rfl ?_;change C _ _ _ _ _ [] _;have hS:=St.start hA;obtain ⟨f,a8,H⟩:=oL H;refine ax ?_;refine qM (v:=.agg (oH.cells (oH.mk 0 0 2 1))) rfl rfl rfl rfl (fun _=>rfl) ?_;refine xm (sh (t:=oH.t) (vs:=[.agg (oH.cells (oH.mk 0 0 2 1))]) (xs:=[(oH.mk 0 0 2 1)]) Tryz.underlying22 Ty.OY rfl ⟨rfl,trivial⟩ rfl rfl hS) ?_;rintro u1 w1 Q;refine xm (sh (t:=tB) (vs:=[.i .u8 ((120:UInt8).toNat:Int)]) (xs:=[(120:UInt8)]) aba Ty.BN rfl ⟨rfl,trivial⟩ rfl rfl Q) ?_;rintro g w2 j;refine xm (aar 0 aba Tryz.underlying5 rfl j rfl (List.cons_ne_nil _ _) rfl) ?_;rintro _ _ ⟨rfl,rfl⟩;have ad:=(j.rB (k:=0) rfl).cells;refine qr (FI (vs:=[(0,.i .i64 1),(2,g)]) (v:=.agg (tk.cells (tk.mk 1 0 [(120:UInt8)]) g)) Ty.abz rfl (by simp only [xR,ad];rfl)) ?_;refine qM (v:=.agg (Loc.cells (Loc.mk 0 1 13 14))) rfl rfl rfl rfl (fun _=>rfl) ?_;have ae:=(j.rB (k:=0) rfl).cells;refine qr (FI (vs:=[(0,.agg (tk.cells (tk.mk 1 0 [(120:UInt8)]) g)),(1,.agg (Loc.cells (Loc.mk 0 1 13 14)))]) (v:=.agg (Found.cells (Found.mk (tk.mk 1 0 [(120:UInt8)]) (Loc.mk 0 1 13 14)) g)) Ty.abA rfl (by simp only [xR,ae];rfl)) ?_;obtain ⟨F8,bq,ai,Y⟩:=j.rv 0 [1] rfl (by decide) (by decide);refine xm (sh (t:=Found.t) (vs:=[.agg (Found.cells (Found.mk (tk.mk 1 0 [(120:UInt8)]) (Loc.mk 0 1 13 14)) g)]) (xs:=[(Found.mk (tk.mk 1 0 [(120:UInt8)]) (Loc.mk 0 1 13 14))]) adH Ty.Tp rfl ⟨⟨g,rfl,ai⟩,trivial⟩ rfl rfl Y) ?_;rintro u3 w3 X;obtain ⟨F9,br,aj,Z⟩:=X.rv 1 [0] rfl (by decide) (by decide);obtain ⟨aT,bk,ah,z⟩:=Z.rv 0 [] rfl (by decide) (by decide);refine lm (YS z.oR (mo aj) ah a8) ?_;rintro bz b1 ⟨ba,s,alZ,u,al0,x,al1,y,rfl,A⟩;have R:=z.call A;have bs:=A.ext;obtain ⟨aU,bm,S⟩:=St.xD lU.sf 0 R rfl;obtain ⟨aV,bn,U⟩:=St.xD Chunk.sf 1 S rfl;obtain ⟨h,bo,bf⟩:=St.xD oC.sf 2 U rfl;refine au ?_;refine al ?_;intro P w5 bg;refine sb 0 ([.i .i64 f.1.seq,s,u,x,y]) ?_;intro b2 c;refine au ?_;refine qU ?_;obtain ⟨O,I,aR,aC,H⟩:=oU H;refine yd (fun E wq=>E=[(0,.b (((decide (f.2=0)&&decide ((f.1.chunks.length:Int)=1))&&decide ((O.oN.length:Int)=1))&&(!aR.pX)))] ∧ ∃ p:jL,h.le p∧St [] w F p [.box P [.i .i64 f.1.seq,s,u,x,y],.row lU.t s f.1.oB,.row Chunk.t u f.1.chunks,.row oC.t x f.1.oD,.row oH.t y f.1.oK] wq) ?_ ?_
 ·
  rcases uO (decide (f.2=0)) with a | a
  ·
   rcases uO (decide ((f.1.chunks.length:Int)=1)) with d | d
   ·
    rcases uO (decide ((O.oN.length:Int)=1)) with e | e
    ·refine qd ?_;refine qc ?_;refine qr (oO rfl rfl uD) ?_;refine qc ?_;refine ri 17 a ?_;refine qf Ty.DW ?_;refine qb 0 Ty.AV c ?_;refine qr (qD aaE rfl (c.rB (k:=2) rfl)) ?_;refine qr (oO rfl rfl uD) ?_;refine q2 ?_;refine ri 23 d ?_;refine qf Ty.DW ?_;refine qb 0 Ty.AV c ?_;have J:=I;rw [qA (by first | rfl | (rw [d,a];first | done | rfl) | simp [a,d,e])] at J;obtain ⟨am,aD⟩:=oM J;obtain ⟨bb,a5,l⟩:=c.rowAt (k:=2) rfl aD;obtain ⟨aK,aO,rfl,ak,a9,q⟩:=a5;replace l:=qj 35 l;have B:=l.rq;refine qi aaE Ty.tg B am ?_;refine qr (uU 34 Ty.KZ rfl B) ?_;refine qr (su 34 Ty.wX rfl l (by first | omega | rfl) rfl) ?_;refine qr (qD aaT rfl q.ln) ?_;refine qr (oO rfl rfl uD) ?_;refine q2 ?_;refine ri 32 e ?_;refine qf Ty.DW ?_;refine qb 0 Ty.AV c ?_;have L:=aC;rw [qA (by first | rfl | (rw [d,e,a];first | done | rfl) | simp [a,d,e])] at L;obtain ⟨ar,aH⟩:=oM L;obtain ⟨bc,a6,m⟩:=c.rowAt (k:=2) rfl aH;obtain ⟨bv,bw,rfl,bh,bi,bj⟩:=a6;replace m:=qj 35 m;have D:=m.rq;refine qi aaE Ty.tg D ar ?_;refine qr (uU 32 Ty.WN rfl D) ?_;refine qr (su 32 Ty.EK rfl m (by first | omega | rfl) rfl) ?_;refine q3 ?_;refine qN ?_;exact sj _ ⟨rfl,h,(jL.le.refl _),c⟩ ⟨(sq rfl (by first | rfl | (rw [d,e,a];first | done | rfl) | simp [a,d,e])),trivial⟩
    ·refine qd ?_;refine qc ?_;refine qr (oO rfl rfl uD) ?_;refine qc ?_;refine ri 17 a ?_;refine qf Ty.DW ?_;refine qb 0 Ty.AV c ?_;refine qr (qD aaE rfl (c.rB (k:=2) rfl)) ?_;refine qr (oO rfl rfl uD) ?_;refine q2 ?_;refine ri 23 d ?_;refine qf Ty.DW ?_;refine qb 0 Ty.AV c ?_;have M:=I;rw [qA (by first | rfl | (rw [d,a];first | done | rfl) | simp [a,d,e])] at M;obtain ⟨a4,aJ⟩:=oM M;obtain ⟨be,a7,n⟩:=c.rowAt (k:=2) rfl aJ;obtain ⟨aK,aO,rfl,ak,a9,q⟩:=a7;replace n:=qj 35 n;have G:=n.rq;refine qi aaE Ty.tg G a4 ?_;refine qr (uU 34 Ty.KZ rfl G) ?_;refine qr (su 34 Ty.wX rfl n (by first | omega | rfl) rfl) ?_;refine qr (qD aaT rfl q.ln) ?_;refine qr (oO rfl rfl uD) ?_;refine q2 ?_;refine ri 32 e ?_;refine pI ?_;refine pI ?_;refine pI ?_;refine q2 ?_;refine qN ?_;exact sj _ ⟨rfl,h,(jL.le.refl _),c⟩ ⟨(sq rfl (by first | rfl | (rw [d,e,a];first | done | rfl) | simp [a,d,e])),trivial⟩
   ·refine qd ?_;refine qc ?_;refine qr (oO rfl rfl uD) ?_;refine qc ?_;refine ri 17 a ?_;refine qf Ty.DW ?_;refine qb 0 Ty.AV c ?_;refine qr (qD aaE rfl (c.rB (k:=2) rfl)) ?_;refine qr (oO rfl rfl uD) ?_;refine q2 ?_;refine ri 23 d ?_;refine pI ?_;refine pI ?_;refine pI ?_;refine qz ?_;refine q2 ?_;refine pI ?_;refine pI ?_;refine pI ?_;refine q2 ?_;refine qN ?_;exact sj _ ⟨rfl,h,(jL.le.refl _),c⟩ ⟨(sq rfl (by first | rfl | (rw [d,a];first | done | rfl) | simp [a,d])),trivial⟩
  ·refine qd ?_;refine qc ?_;refine qr (oO rfl rfl uD) ?_;refine qc ?_;refine ri 17 a ?_;refine pI ?_;refine pI ?_;refine q2 ?_;refine pI ?_;refine pI ?_;refine pI ?_;refine qz ?_;refine q2 ?_;refine pI ?_;refine pI ?_;refine pI ?_;refine q2 ?_;refine qN ?_;exact sj _ ⟨rfl,h,(jL.le.refl _),c⟩ ⟨(sq rfl (by first | rfl | (rw [a];first | done | rfl) | simp [a])),trivial⟩
 rintro E b4 ⟨rfl,p,bp,V⟩;refine tR ?_;exact rz H V
def xy.k2 (x2:mZ):Option Bool :=
  bd (xw x2) fun b =>
  bd (tY b) fun a =>
  bd (we b x2) fun f =>
  if ((!f)||decide (b.seq≠x2.seq)) then
    some false
  else
    bd (qF x2) fun g =>
    if (!g) then
      bd (we a (mZ.mk 0 [] [] [] [])) fun d =>
      bd (only (d&&decide (a.seq=0)) (ND) false) fun h =>
      some ((d&&decide (a.seq=0))&&h)
    else
      bd (sV x2) fun c =>
      bd (we a c) fun e =>
      bd (only (e&&decide (a.seq=c.seq)) (ND) false) fun i =>
      some ((e&&decide (a.seq=c.seq))&&i)
def xy.l3 (x1:List Found) (x2:mZ) (tc:List Found) (d:Int→Option Bool):Int→Option Bool
  | a =>
    if decide (a < (x1.length:Int)) then
      bd (ix tc a) fun e =>
      bd (ix x1 a) fun f =>
      bd (NA e.oG f.oG) fun b =>
      bd (only (!(!b)) (ix tc a) (Found.mk (tk.mk 0 0 []) (Loc.mk 0 0 0 0))) fun g =>
      bd (only (!(!b)) (ix x1 a) (Found.mk (tk.mk 0 0 []) (Loc.mk 0 0 0 0))) fun h =>
      bd (only (!(!b)) (I1 g.loc h.loc) false) fun c =>
      if ((!b)||(!c)) then
        some false
      else
        d (wr (a+1))
    else
      xy.k2 x2
def xy.k1 (x0:List oH) (x1:List Found) (x2:mZ) (rZ:List oH) (tc:List Found):Option Bool :=
  bd (rL rZ tc) fun a =>
  bd (pg x0 x1) fun b =>
  bd (only (!decide (a.2≠b.2)) (we a.1 b.1) false) fun c =>
  bd (only (!((decide (a.2≠b.2)||(!c))||decide (a.1.seq≠b.1.seq))) (Bx rZ x0) false) fun d =>
  if (((decide (a.2≠b.2)||(!c))||decide (a.1.seq≠b.1.seq))||(!d)) then
    some false
  else
    bd (NC a.1) fun e =>
    loop (xy.l3 x1 x2 tc) 0
def xy.l4 (x0:List oH) (x1:List Found) (x2:mZ) (rZ:List oH) (f:((List Found) × Int)→Option Bool):((List Found) × Int)→Option Bool
  | (c,b) =>
    if decide (b < (x1.length:Int)) then
      bd (ix x1 b) fun a =>
      bd (KM a.oG.data) fun e =>
      bd (app (α:=Found) c [(Found.mk (tk.mk a.oG.kind a.oG.seq e) a.loc)]) fun d =>
      f (d,wr (b+1))
    else
      xy.k1 x0 x1 x2 rZ c
def xy (x0:List oH) (x1:List Found) (x2:mZ):Option Bool :=
  bd (Ck x0 x1) fun a =>
  bd (only (!a) (uX x2) false) fun b =>
  if (a||b) then
    some true
  else
    bd (app (α:=oH) [] x0) fun rZ =>
    loop (xy.l4 x0 x1 x2 rZ) ([],0)
set_option maxHeartbeats 2000000 in
theorem ach {x0:List oH} {x1:List Found} {x2:mZ} {r:Bool} {v0:jD} {v1:jD} {M:jD} {O:jD} {P:jD} {Q:jD} (hA:Gd F w) (h0:oF oH.t F v0 x0) (R:oF Found.t F v1 x1) (ah:oF lU.t F M x2.oB) (ai:oF Chunk.t F O x2.chunks) (aj:oF oC.t F P x2.oD) (ak:oF oH.t F Q x2.oK) (H:xy x0 x1 x2=some r):pa aac KK 3 [v0,v1,.agg (mZ.cells x2 M O P Q)] w fun v w'=>∃ (F':jL),v = .b r∧St [] w F F' [] w':=by
 refine BM Tryz.func3 ?_;have hS:=St.start hA;refine qs ?_;refine bx ([.i .i64 x2.seq,M,O,P,Q]) ?_;intro J w1 bs;obtain ⟨r2,cQ,r3,cS,H⟩:=oU H;refine ay ?_;refine lp (acg bs.oR h0 R cQ) bs ?_;intro w4 b1;refine aw ?_;refine gw b1 cS (fun y=>acf b1.oR ah ai aj ak y) ?_;intro eA bt;refine pQ.now ?_;refine aw ?_;refine qy H (fun c4 H=>?_) (fun c4 H=>?_)
 ·exact rz H bt
 ·obtain ⟨rZ,cI,H⟩:=oL H;refine ax ?_;have bu:=bt.sY oH.t;refine ap 0 bu (h0.src bu.agree) cI ?_;intro aR eC aX;refine au ?_;refine aq ?_;refine pe (fun E wq=>∃ tc:List Found,xy.k1 x0 x1 x2 rZ tc=some r ∧ ∃ (aU:jL) (ar:jD),E=[(0,v0),(1,v1),(5,pl J 0),(7,aR),(8,ar)]∧F.le aU∧po aX [.row oH.t aR rZ,.box J [.i .i64 x2.seq,M,O,P,Q],.row Found.t ar tc] aU wq) ?_ ?_
  ·refine ax ?_;refine qC (fun (s:(List Found) × Int) E wq=>∃ (aT:jL) (aK:jD),E=[(0,v0),(1,v1),(5,pl J 0),(7,aR),(8,aK),(9,.i .i64 s.2)]∧F.le aT∧po aX [.row oH.t aR rZ,.box J [.i .i64 x2.seq,M,O,P,Q],.row Found.t aK s.1] aT wq) H ?_ ?_
   ·have cq:=aX.sY Found.t;exact lo ⟨F,(.sl none 0 (.k 0)),rfl,(jL.le.refl _),cq.pick [1,2,0] (by decide)⟩
   ·rintro ez ⟨dn,eh⟩ E eE hI H
    try dsimp only at hI
    obtain ⟨aT,aK,rfl,dq,cl⟩:=hI;refine ay ?_;refine qy H (fun c6 H=>?_) (fun c6 H=>?_)
    ·obtain ⟨n,dj,H⟩:=oL H;obtain ⟨_,⟨dv,rfl,dg⟩,dZ⟩:=qa 7 (R.mono dq) dj;refine ay ?_;refine al ?_;intro dK eG dN;refine sb 0 ([.i .i64 n.oG.kind,.i .i64 n.oG.seq,dv,.i .i64 n.loc.pE,.i .i64 n.loc.file,.i .i64 n.loc.off,.i .i64 n.loc.len]) ?_;intro eH bv;obtain ⟨bW,cO,H⟩:=oL H;refine ax ?_;refine lm (V8 bv.oR dg cO) ?_;rintro bp eI ⟨dC,_,rfl,b9⟩;have dO:=bv.call b9;have ek:=b9.ext;refine au ?_;refine sc 1 ([.i .i64 n.oG.kind,.i .i64 n.oG.seq,bp,.i .i64 n.loc.pE,.i .i64 n.loc.file,.i .i64 n.loc.off,.i .i64 n.loc.len]) ?_;intro eJ cn;obtain ⟨ei,cJ,H⟩:=oL H;refine ax ?_;obtain ⟨d3,ej,cD,cp⟩:=cn.rv 0 [1,2,3,4] rfl (by decide) (by decide);refine xm (sh (t:=Found.t) (vs:=[.agg (Found.cells (Found.mk (tk.mk n.oG.kind n.oG.seq bW) n.loc) bp)]) (xs:=[(Found.mk (tk.mk n.oG.kind n.oG.seq bW) n.loc)]) adH Ty.Tp rfl ⟨⟨bp,rfl,cD⟩,trivial⟩ rfl rfl cp) ?_;rintro e0 eK bw;refine ap 4 bw (bw.tf (k:=0) rfl) cJ ?_;intro d0 eL co;refine ax ?_;exact nm H ⟨_,d0,rfl,pc,pk [2,3,4] co⟩
    ·refine pw _ rfl ?_;exact nj ⟨dn,H,⟨_,aK,rfl,pc,cl⟩⟩
  ·rintro E eF ⟨tc,H,aU,ar,rfl,j,cm⟩;obtain ⟨u,cP,H⟩:=oL H;refine aq ?_;obtain ⟨d4,l,bG,cr⟩:=cm.rv 0 [1,2] rfl (by decide) (by decide);obtain ⟨d5,m,am,bz⟩:=cr.rv 1 [0] rfl (by decide) (by decide);refine lm (YS bz.oR (mo bG) am cP) ?_;rintro e3 eN ⟨dD,V,abN,X,abO,Y,abP,Z,rfl,bA⟩;have dQ:=bz.call bA;have e:=bA.ext;refine au ?_;refine al ?_;intro br eM dP;refine sb 0 ([.i .i64 u.1.seq,V,X,Y,Z]) ?_;intro eO b0;obtain ⟨L,cR,H⟩:=oL H;refine ax ?_;refine lm (acr b0.oR (mo h0) (mo R) cR) ?_;rintro e4 eQ ⟨ae,a4,a5,a6,a7,rfl,bg,bh,bi,bj,bB⟩;have dS:=b0.call bB;have g:=bB.ext;refine au ?_;refine al ?_;intro cj eP dR;refine sb 0 ([.i .i64 L.1.seq,a4,a5,a6,a7]) ?_;intro eR a;refine au ?_;refine qU ?_;refine qU ?_;obtain ⟨bX,bk,dr,cT,H⟩:=oU H;refine yd (fun E wq=>E=[(1,v1),(5,pl J 0),(8,ar),(11,pl br 0),(82,.b (((decide (u.2≠L.2)||(!bX))||decide (u.1.seq≠L.1.seq))||(!dr)))] ∧ ∃ aV:jL,ae.le aV∧St [] w F aV [.box cj [.i .i64 L.1.seq,a4,a5,a6,a7],.box br [.i .i64 u.1.seq,V,X,Y,Z],.dp lU.o abN V u.1.oB,.dp Chunk.o abO X u.1.chunks,.dp oC.o abP Y u.1.oD,.row oH.t Z u.1.oK,.box J [.i .i64 x2.seq,M,O,P,Q]] wq) ?_ ?_
   ·
    rcases uO (decide (u.2≠L.2)) with h | h
    ·refine qd ?_;refine q2 ?_;refine qr (oO rfl rfl Br) ?_;refine qc ?_;refine ri 64 h ?_;refine pI ?_;refine pI ?_;refine q2 ?_;refine pI ?_;refine pI ?_;refine qz ?_;refine q2 ?_;refine pI ?_;refine pI ?_;refine qc ?_;refine qN ?_;exact sj _ ⟨rfl,ae,(jL.le.refl _),a⟩ ⟨rfl,rfl,rfl,rfl,(sq rfl (by first | rfl | (rw [h];first | done | rfl) | simp [h])),trivial⟩
    ·
     rcases uO (!bX) with q | q
     ·refine qd ?_;refine q2 ?_;refine qr (oO rfl rfl Br) ?_;refine qc ?_;refine ri 64 h ?_;refine bl a 1 (mZ.cells u.1 V X Y Z) [] ?_;refine bl a 0 (mZ.cells L.1 a4 a5 a6 a7) [] ?_;have bS:=bk;rw [qA (by first | rfl | (rw [h];first | done | rfl) | simp [h,q])] at bS;refine lp (I0 (Gd.now a.wf) (a.wI (k:=2) rfl lU.sf) (a.wI (k:=3) rfl Chunk.sf) (a.wI (k:=4) rfl oC.sf) (a.uK (k:=5) rfl) (bg.mono a.agree) (bh.mono a.agree) (bi.mono a.agree) (bj.mono a.agree) bS) a ?_;intro eT cs;refine q3 ?_;refine ri 70 q ?_;refine pI ?_;refine pI ?_;refine qz ?_;refine q2 ?_;refine pI ?_;refine pI ?_;refine qc ?_;refine qN ?_;exact sj _ ⟨rfl,ae,(jL.le.refl _),cs⟩ ⟨rfl,rfl,rfl,rfl,(sq rfl (by first | rfl | (rw [h,q];first | done | rfl) | simp [h,q])),trivial⟩
     ·
      rcases uO (decide (u.1.seq≠L.1.seq)) with I | I
      ·refine qd ?_;refine q2 ?_;refine qr (oO rfl rfl Br) ?_;refine qc ?_;refine ri 64 h ?_;refine bl a 1 (mZ.cells u.1 V X Y Z) [] ?_;refine bl a 0 (mZ.cells L.1 a4 a5 a6 a7) [] ?_;have bT:=bk;rw [qA (by first | rfl | (rw [h];first | done | rfl) | simp [h,q,I])] at bT;refine lp (I0 (Gd.now a.wf) (a.wI (k:=2) rfl lU.sf) (a.wI (k:=3) rfl Chunk.sf) (a.wI (k:=4) rfl oC.sf) (a.uK (k:=5) rfl) (bg.mono a.agree) (bh.mono a.agree) (bi.mono a.agree) (bj.mono a.agree) bT) a ?_;intro eU bb;refine q3 ?_;refine ri 70 q ?_;refine qf Ty.KV ?_;refine qb 1 Ty.uW bb ?_;refine qf Ty.KV ?_;refine qb 0 Ty.uW bb ?_;refine qr (oO rfl rfl Br) ?_;refine q2 ?_;refine ri 77 I ?_;refine pI ?_;refine pI ?_;refine qc ?_;refine qN ?_;exact sj _ ⟨rfl,ae,(jL.le.refl _),bb⟩ ⟨rfl,rfl,rfl,rfl,(sq rfl (by first | rfl | (rw [I,h,q];first | done | rfl) | simp [h,q,I])),trivial⟩
      ·refine qd ?_;refine q2 ?_;refine qr (oO rfl rfl Br) ?_;refine qc ?_;refine ri 64 h ?_;refine bl a 1 (mZ.cells u.1 V X Y Z) [] ?_;refine bl a 0 (mZ.cells L.1 a4 a5 a6 a7) [] ?_;have bU:=bk;rw [qA (by first | rfl | (rw [h];first | done | rfl) | simp [h,q,I])] at bU;refine lp (I0 (Gd.now a.wf) (a.wI (k:=2) rfl lU.sf) (a.wI (k:=3) rfl Chunk.sf) (a.wI (k:=4) rfl oC.sf) (a.uK (k:=5) rfl) (bg.mono a.agree) (bh.mono a.agree) (bi.mono a.agree) (bj.mono a.agree) bU) a ?_;intro eW aC;refine q3 ?_;refine ri 70 q ?_;refine qf Ty.KV ?_;refine qb 1 Ty.uW aC ?_;refine qf Ty.KV ?_;refine qb 0 Ty.uW aC ?_;refine qr (oO rfl rfl Br) ?_;refine q2 ?_;refine ri 77 I ?_;refine q2 ?_;have bV:=cT;rw [qA (by first | rfl | (rw [I,h,q];first | done | rfl) | simp [h,q,I])] at bV;refine lp (V9 aC.oR (mo bG) (mo h0) bV) aC ?_;intro eX ct;refine q2 ?_;refine qN ?_;exact sj _ ⟨rfl,ae,(jL.le.refl _),ct⟩ ⟨rfl,rfl,rfl,rfl,(sq rfl (by first | rfl | (rw [I,h,q];first | done | rfl) | simp [h,q,I])),trivial⟩
   rintro E eS ⟨rfl,aV,c,ba⟩;refine tR ?_;refine qy H (fun c7 H=>?_) (fun c7 H=>?_)
   ·exact rz H ba
   ·obtain ⟨fq,dk,H⟩:=oL H;refine ax ?_;refine lm (acb (ba.u9 [2,3,4,5] (by decide)) dk) ?_;rintro _ eY ⟨d6,rfl,bC⟩;have b2:=ba.uV [2,3,4,5] [0,1,6] (by decide) (by decide) bC;have d:=bC.ext;refine qn ?_;refine pe (jO (xy.k2 x2=some r) [(5,pl J 0)] b2 [.box J [.i .i64 x2.seq,M,O,P,Q]]) ?_ ?_
    ·refine ax ?_;refine lj (pk [2] b2) (fun s:Int=>[(1,v1),(5,pl J 0),(8,ar),(15,.i .i64 s)]) H ?_;intro ey eg dB fp U S H;refine ay ?_;refine qy H (fun c3 H=>?_) (fun c3 H=>?_)
     ·refine ay ?_;obtain ⟨d1,dh,d2,di,H⟩:=oU H;obtain ⟨en,cK,cg,bm,H⟩:=oU H;obtain ⟨ch,bn,eo,cL,H⟩:=oU H;refine rf S ?_;obtain ⟨_,⟨dt,rfl,de⟩,cA⟩:=qa 7 (am.mono ((((e.trans g).trans c).trans d).trans U)) dh;refine au ?_;refine qq (tD 0 (tk.cells d1.oG dt) Ty.Nn Ty.O8 rfl (cA.mono S.agree) (by first | omega | rfl) rfl (qY rfl)) ?_;obtain ⟨_,⟨du,rfl,df⟩,cC⟩:=qa 7 (R.mono (((((((j.trans l).trans m).trans e).trans g).trans c).trans d).trans U)) di;refine au ?_;refine qq (tD 0 (tk.cells d2.oG du) Ty.Nn Ty.O8 rfl (cC.mono S.agree) (by first | omega | rfl) rfl (qY rfl)) ?_;refine lq (ab9 S.oR de df cK) S ?_;intro eB a9;refine aw ?_;refine ge (mo am) bm ?_;refine ge (mo am) bm ?_;refine uC (v:=.agg (Loc.cells cg.loc)) rfl rfl rfl rfl (fun ⟨be,_⟩=>?_) ?_
      ·rw [be];intro hK;have bQ:=bm;rw [qA (by first | rfl | (rw [be];first | done | rfl) | simp [be])] at bQ;obtain ⟨ec,dl⟩:=oM bQ;obtain ⟨dI,cM,aH⟩:=(am.mono ((((e.trans g).trans c).trans d).trans U)).el dl;obtain ⟨e1,rfl,ee⟩:=cM;replace aH:=qj 7 aH;have ea:=aH.rq;refine qq (tD 3 (Loc.cells cg.loc) Ty.AQ Ty.vz rfl (aH.mono a9.agree) (by first | omega | rfl) rfl (qY rfl)) ?_;exact hK
      refine aw ?_;refine ge (R.mono (((((((j.trans l).trans m).trans e).trans g).trans c).trans d).trans U)) bn ?_;refine ge (R.mono (((((((j.trans l).trans m).trans e).trans g).trans c).trans d).trans U)) bn ?_;refine uC (v:=.agg (Loc.cells ch.loc)) rfl rfl rfl rfl (fun ⟨bf,_⟩=>?_) ?_
      ·rw [bf];intro hK;have bR:=bn;rw [qA (by first | rfl | (rw [bf];first | done | rfl) | simp [bf])] at bR;obtain ⟨ed,dm⟩:=oM bR;obtain ⟨dJ,cN,aJ⟩:=(R.mono (((((((j.trans l).trans m).trans e).trans g).trans c).trans d).trans U)).el dm;obtain ⟨e2,rfl,ef⟩:=cN;replace aJ:=qj 7 aJ;have eb:=aJ.rq;refine qq (tD 3 (Loc.cells ch.loc) Ty.AQ Ty.vz rfl (aJ.mono a9.agree) (by first | omega | rfl) rfl (qY rfl)) ?_;exact hK
      refine gw a9 cL (fun y=>QS a9.oR y) ?_;intro eD aY;refine qw aY ?_;refine aw ?_;refine qy H (fun c5 H=>?_) (fun c5 H=>?_)
      ·exact rz H aY
      ·refine ax ?_;exact nm H (jj aY)
     ·refine pw _ rfl ?_;exact nj ⟨H,jj S⟩
    ·rintro E eZ ⟨H,d7,rfl,p,b3⟩;obtain ⟨bo,cU,H⟩:=oL H;refine aq ?_;refine lm (V7 b3.oR (ah.mono (((((((j.trans l).trans m).trans e).trans g).trans c).trans d).trans p)) (ai.mono (((((((j.trans l).trans m).trans e).trans g).trans c).trans d).trans p)) (aj.mono (((((((j.trans l).trans m).trans e).trans g).trans c).trans d).trans p)) (ak.mono (((((((j.trans l).trans m).trans e).trans g).trans c).trans d).trans p)) cU) ?_;rintro e5 fb ⟨dE,bZ,ca,cb,bq,rfl,bD⟩;have dU:=b3.call bD;have D:=bD.ext;refine al ?_;intro ck fa dT;refine sb 0 ([.i .i64 bo.seq,bZ,ca,cb,bq]) ?_;intro fc cu;obtain ⟨bY,cV,H⟩:=oL H;refine ax ?_;obtain ⟨d8,x,bH,cw⟩:=cu.rv 1 [0,2,3,4,5] rfl (by decide) (by decide);obtain ⟨d9,z,bI,cx⟩:=cw.rv 1 [0,2,3,4] rfl (by decide) (by decide);obtain ⟨ci,A,bJ,cy⟩:=cx.rv 1 [0,2,3] rfl (by decide) (by decide);have cz:St [] w F ci [.box ck [.i .i64 bo.seq,bZ,ca,cb,bq],.row oH.t bq bo.oK,.box J [.i .i64 x2.seq,M,O,P,Q]] _:=cy;obtain ⟨dA,B,bK,b4⟩:=cz.rv 1 [0,2] rfl (by decide) (by decide);refine lm (aih b4.oR (mo bH) (mo bI) (mo bJ) bK cV) ?_;rintro e6 fe ⟨dF,cc,cd,ce,cf,rfl,bM,bN,bO,bP,bE⟩;have dW:=b4.call bE;have G:=bE.ext;refine al ?_;intro dL fd dV;refine sb 0 ([.i .i64 bY.seq,cc,cd,ce,cf]) ?_;intro ff b5;obtain ⟨er,cX,H⟩:=oL H;refine ay ?_;refine lp (I0 b5.oR (mo bH) (mo bI) (mo bJ) (mo bK) (ah.mono (((((((((((((j.trans l).trans m).trans e).trans g).trans c).trans d).trans p).trans D).trans x).trans z).trans A).trans B).trans G)) (ai.mono (((((((((((((j.trans l).trans m).trans e).trans g).trans c).trans d).trans p).trans D).trans x).trans z).trans A).trans B).trans G)) (aj.mono (((((((((((((j.trans l).trans m).trans e).trans g).trans c).trans d).trans p).trans D).trans x).trans z).trans A).trans B).trans G)) (ak.mono (((((((((((((j.trans l).trans m).trans e).trans g).trans c).trans d).trans p).trans D).trans x).trans z).trans A).trans B).trans G)) cX) b5 ?_
     intro fg bc;refine aw ?_;refine qy H (fun c8 H=>?_) (fun c8 H=>?_)
     ·exact rz H bc
     ·obtain ⟨et,cY,H⟩:=oL H;refine ay ?_;refine lp (Wh bc.oR (ah.mono (((((((((((((j.trans l).trans m).trans e).trans g).trans c).trans d).trans p).trans D).trans x).trans z).trans A).trans B).trans G)) (ai.mono (((((((((((((j.trans l).trans m).trans e).trans g).trans c).trans d).trans p).trans D).trans x).trans z).trans A).trans B).trans G)) (aj.mono (((((((((((((j.trans l).trans m).trans e).trans g).trans c).trans d).trans p).trans D).trans x).trans z).trans A).trans B).trans G)) (ak.mono (((((((((((((j.trans l).trans m).trans e).trans g).trans c).trans d).trans p).trans D).trans x).trans z).trans A).trans B).trans G)) cY) bc ?_;intro fh aD;refine au ?_;refine qy H (fun c9 H=>?_) (fun c9 H=>?_)
      ·obtain ⟨eu,cZ,ev,da,H⟩:=oU H;refine aq ?_;refine qM (v:=.agg (mZ.cells (mZ.mk 0 [] [] [] []) (.sl none 0 (.k 0)) (.sl none 0 (.k 0)) (.sl none 0 (.k 0)) (.sl none 0 (.k 0)))) rfl rfl rfl rfl (fun _=>rfl) ?_;refine Bp (f:=14) (args:=[.agg (mZ.cells bY cc cd ce cf),.agg (mZ.cells (mZ.mk 0 [] [] [] []) (.sl none 0 (.k 0)) (.sl none 0 (.k 0)) (.sl none 0 (.k 0)) (.sl none 0 (.k 0)))]) rfl rfl rfl rfl (I0 aD.oR bM bN bO bP (oF.nil _) (oF.nil _) (oF.nil _) (oF.nil _) cZ) ?_;rintro e7 fi ⟨dG,rfl,c2⟩;have b6:=aD.vw c2;refine pQ.now ?_;refine aw ?_;refine gw b6 da (fun y=>Wb b6.oR y) ?_;intro fj c0;refine pQ.now ?_;refine aw ?_;exact rz H c0
      ·obtain ⟨ds,db,H⟩:=oL H;refine ax ?_;refine lm (acs aD.oR (ah.mono (((((((((((((j.trans l).trans m).trans e).trans g).trans c).trans d).trans p).trans D).trans x).trans z).trans A).trans B).trans G)) (ai.mono (((((((((((((j.trans l).trans m).trans e).trans g).trans c).trans d).trans p).trans D).trans x).trans z).trans A).trans B).trans G)) (aj.mono (((((((((((((j.trans l).trans m).trans e).trans g).trans c).trans d).trans p).trans D).trans x).trans z).trans A).trans B).trans G)) (ak.mono (((((((((((((j.trans l).trans m).trans e).trans g).trans c).trans d).trans p).trans D).trans x).trans z).trans A).trans B).trans G)) db) ?_;rintro e8 fl ⟨dH,dw,dx,dy,dz,rfl,cE,cF,cG,cH,bF⟩;have dY:=aD.call bF;have em:=bF.ext;refine al ?_;intro dM fk dX;refine sb 0 ([.i .i64 ds.seq,dw,dx,dy,dz]) ?_;intro fm b7;obtain ⟨ew,dc,ex,dd,H⟩:=oU H;refine ax ?_;refine lp (I0 b7.oR (mo bM) (mo bN) (mo bO) (mo bP) cE cF cG cH dc) b7 ?_;intro fn b8;refine aw ?_;refine gw b8 dd (fun y=>Wb b8.oR y) ?_;intro fo c1;refine pQ.now ?_;refine aw ?_;exact rz H c1
end
end Go.Wk.Lf
end
