/-  -/
import Derived.Test.YtfhalkdoeiadgaaGreatG8
set_option linter.unusedVariables false
set_option linter.unusedSimpArgs false
open Go.Proofs.Tryz renaming prog→aac, underlying22→adB, underlying24→aam, underlying25→aaE, underlying26→aaF
open Int renaming le_refl→DH
open List renaming all_append→rC, all_cons→tZ, all_nil→uR, drop_eq_nil_of_le→Fy, drop_zero→yu, getD_cons_succ→UJ, getD_cons_zero→UK, getElem?_eq_getElem→pF, getElem?_set_self→vN, length_append→rH, length_drop→ue, length_take→rb, mapM_cons→vY, mapM_nil→Ez, map_set→P4, replicate→ph, take_of_length_le→Bl
open Nat renaming add_mul→rV, add_zero→xM, le_of_ble_eq_true→qY, le_of_lt→zx, le_refl→px, le_succ→AN, lt_of_lt_of_le→xO, lt_succ_self→BY, mul_le_mul_right→tG, sub_mul→CW, sub_zero→DK, zero_add→pA, zero_le→pY, zero_mul→EB
section
namespace Go.Wk.Lf
open Go.V Go.Proofs
noncomputable section
set_option maxRecDepth 100000
variable {K:Tb} {F:jL} {w:Hp}
def Hm.l1 (b:(Int × (List Loc))→Option (List Loc)):(Int × (List Loc))→Option (List Loc)
  | (a,l3) =>
    if decide (a < (l3.length:Int)) then
      bd (ix l3 a) fun x6 =>
      bd (ix (l3.set a.toNat (Loc.mk (-9) x6.file x6.off x6.len)) a) fun x8 =>
      b (wr (a+1),((l3.set a.toNat (Loc.mk (-9) x6.file x6.off x6.len)).set a.toNat (Loc.mk x8.pE x8.file (-9) x8.len)))
    else
      some l3
def Hm (x0:List Loc):Option (List Loc) :=
  loop (Hm.l1) (0,x0)
theorem QU {x0:List Loc} {r:(List Loc)} {a:jD} (hS:St a.own w F F [.row Loc.t a x0] w) (H:Hm x0=some r):pa aac K 56 [a] w fun v w'=>∃ (F':jL),v = .qR []∧St a.own w F F' [.row Loc.t a (r)] w':=by
 refine rA Tryz.func56 ?_;refine ax ?_;refine qC (fun (s:Int × (List Loc)) E wq=>∃ (b:jL),E=[(0,a),(2,.i .i64 s.1)]∧F.le b∧po hS [.row Loc.t a s.2] b wq) H ?_ ?_
 ·exact lo (jj hS)
 ·rintro n ⟨h,l3⟩ E p hI H
  try dsimp only at hI
  obtain ⟨b,rfl,m,d⟩:=hI;refine ay ?_;refine qr (qD Tryz.underlying59 rfl (d.rB (k:=0) rfl)) ?_;refine au ?_;refine qy H (fun l H=>?_) (fun l H=>?_)
  ·obtain ⟨x6,f,x8,g,H⟩:=oU H;obtain ⟨_,rfl,_⟩:=tt 4 0 d f;refine ay ?_;refine um (yx (c:=[.i .i64 (-9)]) 0 (h.toNat) 0 x6 (Loc.mk (-9) x6.file x6.off x6.len) rfl rfl d rfl (oM f).2 (by first | rfl | (show _=_*4+_;omega)) rfl Ty.Mt rfl (qY rfl) (by rintro cs rfl;rfl)) ?_;rintro _ q e;obtain ⟨_,rfl,_⟩:=tt 4 0 e g;refine au ?_;refine um (yx (c:=[.i .i64 (-9)]) 0 (h.toNat) 2 x8 (Loc.mk x8.pE x8.file (-9) x8.len) rfl rfl e rfl (oM g).2 (by first | rfl | (show _=_*4+_;omega)) rfl Ty.Mt rfl (qY rfl) (by rintro cs rfl;rfl)) ?_;rintro _ u j;refine ax ?_;exact nm H (jj j)
  ·refine pw _ rfl ?_;obtain rfl:=oi H;refine IH rfl rfl ?_;exact ⟨b,rfl,d⟩
theorem TJ {l:List Loc} (h:l.length≤1073741824):∃ r,Hm l=some r:=by
  unfold Hm
  refine SI (σ:=List Loc) (fun i s=>((i:Int),s)) l.length (fun _ s=>s.length=l.length) (fun o=>∃ r,o=some r) (s0:=l) rfl (pY _) rfl (by omega) ?_ ?_
  · intro rec i s hi hs pq
    simp only [Hm.l1]
    rw [oW (by simpa using (by omega:i < s.length))];have a:ix s (i:Int)=some (s[i]'(by omega)):=pF _;rw [a]
    simp only [bd]
    have b:∀ x,ix (s.set (i:Int).toNat x) (i:Int)=some x:=fun x=>by
      show (s.set i x)[i]? = some x
      rw [vN (by omega)]
    rw [b]
    simp only
    rw [show wr ((i:Int)+1)=((i+1:Nat):Int) from LN (by omega) (by omega)];exact pq _ (by simpa using hs)
  · intro rec s hs
    simp only [Hm.l1]
    rw [oX (by simp;omega)];exact ⟨_,rfl⟩
def Hn (n:Nat) (rec:Int→Option Unit) (i:Int):Option Unit:=if decide (i < (n:Int)) then rec (wr (i+1)) else some ()
theorem KP {n:Nat} (h:n≤1073741824):iter (Hn n) 18446744073709551616 0=some ():=by
  refine Yn (F:=Hn n) (s0:=(0:Int)) (a:=some ()) (fun i=>0≤i) (fun i=>((n:Int) - i).toNat) (DH _) (by omega) ?_;intro rec i b pq
  unfold Hn
  by_cases hi:i < (n:Int)
  · rw [oW (decide_eq_true hi)]
    rw [show wr (i+1)=i+1 from LN (by omega) (by omega)];exact pq _ (by omega) (by omega)
  · rw [oX (decide_eq_false hi)]
def NC (x0:mZ):Option Unit:=if x0.chunks.all (fun c=>c.data.isEmpty) then some () else none
theorem akD {a:jD} (hA:Gd F w) (c:oF tB F a []):pa aac K 57 [a] w fun v w'=>∃ (F':jL),v = .qR []∧St [] w F F' [] w':=by
 refine rA Tryz.func57 ?_;have hS:=St.start hA;refine ax ?_;refine qC (fun (s:Int) E wq=>E=[(0,a),(2,.i .i64 0)]∧s=0∧St [] w F F [] wq) (KP (n:=0) (by decide)) ?_ ?_
 · exact ⟨_,⟨rfl,rfl,hS⟩,⟨rfl,rfl,trivial⟩⟩
 · rintro rec i E d ⟨rfl,rfl,b⟩ H
   refine ay ?_;refine aan rfl ?_;refine pw _ rfl ?_;refine IH rfl rfl ?_;exact ⟨F,rfl,b⟩
theorem Zk {α:Type} {l:List α} {i:Nat} {x:α} (h:l[i]? = some x):l.set i x=l:=by
  apply List.ext_getElem?
  intro j
  by_cases hj:j=i
  · subst hj
    rw [vN (List.getElem?_eq_some_iff.1 h).1,h]
  · rw [List.getElem?_set_ne (fun q=>hj q.symm)]
theorem ah2 {id:List UInt8} {b c:Bool} {a d:jD} (h:id.length=32):p6 (pb id++[.b b,a,d]) 32 [.b c]=pb id++[.b c,a,d]:=by
  have:(pb id).length=32:=by simp [Cy,h]
  unfold p6
  rw [List.take_left' this,List.length_singleton,List.drop_append,Fy (by omega),this]
  simp
set_option maxHeartbeats 2000000 in
theorem acb {X:List Nat} {x0:mZ} {d f g j:jD} {b0 R G:List Nat} (hS:St X w F F [.dp lU.o b0 d x0.oB,.dp Chunk.o R f x0.chunks,.dp oC.o G g x0.oD,.row oH.t j x0.oK] w) (H:NC x0=some ()):pa aac K 16 [.agg (mZ.cells x0 d f g j)] w fun v w'=>∃ (F':jL),v = .qR []∧St X w F F' [] w':=by
 refine rA Tryz.func16 ?_;have ael:∀ c,c∈x0.chunks→c.data=[]:=by
   unfold NC at H
   split at H
   · rename_i A;intro c hc;have:=List.all_eq_true.1 A c hc;simpa using this
   · cases H
 clear H
 have ai:x0.oB.length≤1073741824:=To.H8 (hS.ok (i:=0) rfl);have q:x0.chunks.length≤1073741824:=To.H8 (hS.ok (i:=1) rfl);have aj:x0.oD.length≤1073741824:=To.H8 (hS.ok (i:=2) rfl);have ak:x0.oK.length≤1073741824:=To.H8 (hS.ok (i:=3) rfl);refine qs ?_;refine bx ([.i .i64 x0.seq,d,f,g,j]) ?_;intro l w0 a5;refine qn ?_;refine pe (fun E wq=>∃ (M:jL) (r:List Nat) (z:List lU),E=[(1,pl l 0)]∧F.le M∧St X w F M [.box l [.i .i64 x0.seq,d,f,g,j],.dp lU.o r d z,.dp Chunk.o R f x0.chunks,.dp oC.o G g x0.oD,.row oH.t j x0.oK] wq) ?_ ?_
 ·refine ax ?_;refine qC (fun (s:Int) E wq=>∃ (a:jL) (xQ:List Nat) (lL:List lU),E=[(1,pl l 0),(2,.i .i64 s)]∧F.le a∧0≤s∧lL.length=x0.oB.length∧St X w F a [.box l [.i .i64 x0.seq,d,f,g,j],.dp lU.o xQ d lL,.dp Chunk.o R f x0.chunks,.dp oC.o G g x0.oD,.row oH.t j x0.oK] wq) (KP (n:=x0.oB.length) ai) ?_ ?_
  · exact ⟨_,⟨F,_,_,rfl,(jL.le.refl _),DH _,rfl,a5⟩,⟨rfl,rfl,trivial⟩⟩
  · rintro rec i E w1 hI H
    obtain ⟨a,xQ,lL,rfl,p,vJ,y7,hS⟩:=hI;refine ay ?_;refine qr (qD aam rfl (hS.ub (k:=1) rfl)) ?_;refine au ?_;refine uS rfl (fun hc=>?_) (fun hc=>?_)
    · unfold Hn at H
      rw [oW (by rw [← y7];exact hc)] at H;have pv:i < (lL.length:Int):=of_decide_eq_true hc;have q:lL.length≤1073741824:=y7 ▸ ai;obtain ⟨x,hy⟩:∃ x,lL[i.toNat]? = some x:=⟨_,pF (by omega)⟩;have hp:0≤i:=vJ;refine ay ?_;obtain ⟨u,cs,he,hu,Gh,K8⟩:=(hS.pick [1,0,2,3,4] (by decide)).within lU.yZ hy;replace he:=qj 4 he;have hi:=he.rq;refine qi aam Ty.sJ hi hp ?_;refine qr (uU 3 Ty.Rf rfl hi) ?_;refine qr (su 3 Ty.wX rfl he (by first | omega | rfl) hu) ?_;obtain ⟨l2,J⟩:=TJ (To.H8 (Gh.ok (i:=0) rfl));refine lm (QU Gh J) ?_;rintro _ w3 ⟨D,rfl,hT⟩;have y:=p.trans hT.ext;obtain ⟨S,m⟩:=K8 _ _ _ hT;replace m:=m.pick [1,0,2,3,4] (by decide);refine ax ?_;refine qi aam Ty.sJ hi hp ?_;refine qr (uU 0 Ty.KX rfl hi) ?_;refine um (Qm (c:=[.i .i64 (-9)]) 1 i.toNat 0 (lU.mk x.seq x.oJ l2) (lU.mk (-9) x.oJ l2) (by decide) rfl rfl m rfl (vN (by omega)) rfl rfl Ty.Mt rfl (by decide) (by rintro h cs e ⟨a0,a1,rfl,Y,k⟩;exact ⟨a0,a1,rfl,Y,k⟩)) ?_;rintro _ w4 ⟨U,B⟩;refine ax ?_;exact nm H ⟨D,U,((lL.set i.toNat (lU.mk x.seq x.oJ l2)).set i.toNat (lU.mk (-9) x.oJ l2)),rfl,y,Ik vJ pv q,(by simpa using y7),B⟩
    · refine pw _ rfl ?_
      exact nj ⟨a,xQ,lL,rfl,p,hS⟩
 ·rintro E be ⟨M,r,z,rfl,p,a6⟩;refine pe (fun E wq=>∃ (O:jL) (I:List Nat) (L:List Chunk),E=[(1,pl l 0)]∧F.le O∧St X w F O [.box l [.i .i64 x0.seq,d,f,g,j],.dp lU.o r d z,.dp Chunk.o I f L,.dp oC.o G g x0.oD,.row oH.t j x0.oK] wq) ?_ ?_
  ·refine ax ?_;refine qC (fun (s:Int) E wq=>∃ (a:jL) (xQ:List Nat) (lL:List Chunk),E=[(1,pl l 0),(3,.i .i64 s)]∧F.le a∧0≤s∧lL.length=x0.chunks.length∧lL.map (·.data)=x0.chunks.map (·.data)∧St X w F a [.box l [.i .i64 x0.seq,d,f,g,j],.dp lU.o r d z,.dp Chunk.o xQ f lL,.dp oC.o G g x0.oD,.row oH.t j x0.oK] wq) (KP (n:=x0.chunks.length) q) ?_ ?_
   · exact ⟨_,⟨M,_,_,rfl,p,DH _,rfl,rfl,a6⟩,⟨rfl,rfl,trivial⟩⟩
   · rintro rec i E w1 hI H
     obtain ⟨a,xQ,lL,rfl,p,vJ,y7,Xs,hS⟩:=hI;refine ay ?_;refine qr (qD aaE rfl (hS.ub (k:=2) rfl)) ?_;refine au ?_;refine uS rfl (fun hc=>?_) (fun hc=>?_)
     · unfold Hn at H
       rw [oW (by rw [← y7];exact hc)] at H;have pv:i < (lL.length:Int):=of_decide_eq_true hc;have q:lL.length≤1073741824:=y7 ▸ q;obtain ⟨x,hy⟩:∃ x,lL[i.toNat]? = some x:=⟨_,pF (by omega)⟩;have hp:0≤i:=vJ;refine ay ?_;obtain ⟨aK,e0,⟨u0,u1,rfl,hid,hd,hk⟩,_,Z⟩:=hS.Q6 (k:=2) (by decide) rfl hy;replace Z:=qj 35 Z;have hi:=Z.rq;refine qi aaE Ty.tg hi hp ?_;refine qr (uU 33 Ty.NQ rfl hi) ?_;refine au ?_;have hdx:x.data=[]:=by
         have A:x.data∈x0.chunks.map (·.data):=Xs ▸ List.mem_map_of_mem (List.mem_of_getElem? hy);obtain ⟨c,aC,aD⟩:=List.mem_map.1 A;rw [← aD];exact ael c aC
       rw [hdx] at hd;refine lm (akD hS.oR hd) ?_;rintro _ w2 ⟨F2,rfl,a9⟩;have hS:=hS.vw a9;refine ax ?_;obtain ⟨u,cs,he,hu,Gh,K8⟩:=(hS.pick [2,0,1,3,4] (by decide)).within Chunk.yZ hy;replace he:=qj 35 he;have hi:=he.rq;refine qi aaE Ty.tg hi hp ?_;refine qr (uU 34 Ty.KZ rfl hi) ?_;refine qr (su 34 Ty.wX rfl he (by first | omega | rfl) hu) ?_;obtain ⟨l2,J⟩:=TJ (To.H8 (Gh.ok (i:=0) rfl));refine lm (QU Gh J) ?_;rintro _ w3 ⟨D,rfl,hT⟩;have y:=p.trans hT.ext;obtain ⟨S,m⟩:=K8 _ _ _ hT;replace m:=m.pick [1,2,0,3,4] (by decide);refine qn ?_;refine rf m ?_;obtain ⟨aO,e4,⟨u4,u5,rfl,amj,aU,aV⟩,_,Q⟩:=m.Q6 (k:=2) (i:=i.toNat) (by decide) rfl (vN (by omega));replace Q:=qj 35 Q;have ah:=Q.rq;refine au ?_;refine qi aaE Ty.tg ah hp ?_;refine au ?_;refine qq (su 32 Ty.EK rfl Q (by first | omega | rfl) rfl) ?_;refine qc ?_;refine qi aaE Ty.tg ah hp ?_;refine au ?_;refine qu (Qm (c:=[.b (!x.pX)]) 2 i.toNat 32 (Chunk.mk x.id x.pX x.data l2) (Chunk.mk x.id (!x.pX) x.data l2) (by decide) rfl rfl m rfl (vN (by omega)) rfl rfl Ty.O9 rfl (qY rfl) (by rintro h cs e ⟨a0,a1,rfl,hl,Y,k⟩;exact ⟨a0,a1,by rw [Chunk.cells,Chunk.cells];exact ah2 hl,hl,Y,k⟩)) ?_;rintro _ w4 ⟨U,B⟩;refine qw B ?_;refine ax ?_;have ad8:((lL.set i.toNat (Chunk.mk x.id x.pX x.data l2)).set i.toNat (Chunk.mk x.id (!x.pX) x.data l2)).map (·.data)=x0.chunks.map (·.data):=by
         rw [P4,P4,← Xs];have A:(lL.map (·.data))[i.toNat]? = some x.data:=by rw [List.getElem?_map,hy];rfl
         rw [Zk A,Zk A]
       exact nm H ⟨D,U,((lL.set i.toNat (Chunk.mk x.id x.pX x.data l2)).set i.toNat (Chunk.mk x.id (!x.pX) x.data l2)),rfl,y,Ik vJ pv q,(by simpa using y7),ad8,B⟩
     · refine pw _ rfl ?_
       exact nj ⟨a,xQ,lL,rfl,p,hS⟩
  ·rintro E bf ⟨O,I,L,rfl,aH,a7⟩;refine pe (fun E wq=>∃ (P:jL) (V:List Nat) (m2:List oC),E=[(1,pl l 0)]∧F.le P∧St X w F P [.box l [.i .i64 x0.seq,d,f,g,j],.dp lU.o r d z,.dp Chunk.o I f L,.dp oC.o V g m2,.row oH.t j x0.oK] wq) ?_ ?_
   ·refine ax ?_;refine qC (fun (s:Int) E wq=>∃ (a:jL) (xQ:List Nat) (lL:List oC),E=[(1,pl l 0),(4,.i .i64 s)]∧F.le a∧0≤s∧lL.length=x0.oD.length∧St X w F a [.box l [.i .i64 x0.seq,d,f,g,j],.dp lU.o r d z,.dp Chunk.o I f L,.dp oC.o xQ g lL,.row oH.t j x0.oK] wq) (KP (n:=x0.oD.length) aj) ?_ ?_
    · exact ⟨_,⟨O,_,_,rfl,aH,DH _,rfl,a7⟩,⟨rfl,rfl,trivial⟩⟩
    · rintro rec i E w1 hI H
      obtain ⟨a,xQ,lL,rfl,p,vJ,y7,hS⟩:=hI;refine ay ?_;refine qr (qD aaF rfl (hS.ub (k:=3) rfl)) ?_;refine au ?_;refine uS rfl (fun hc=>?_) (fun hc=>?_)
      · unfold Hn at H
        rw [oW (by rw [← y7];exact hc)] at H;have pv:i < (lL.length:Int):=of_decide_eq_true hc;have q:lL.length≤1073741824:=y7 ▸ aj;refine ay ?_;obtain ⟨x,hy⟩:∃ x,lL[i.toNat]? = some x:=⟨_,pF (by omega)⟩;have hp:0≤i:=vJ;refine ax ?_;obtain ⟨u,cs,he,hu,Gh,K8⟩:=(hS.pick [3,0,1,2,4] (by decide)).within oC.yZ hy;replace he:=qj 3 he;have hi:=he.rq;refine qi aaF Ty.uu hi hp ?_;refine qr (uU 2 Ty.WR rfl hi) ?_;refine qr (su 2 Ty.wX rfl he (by first | omega | rfl) hu) ?_;obtain ⟨l2,J⟩:=TJ (To.H8 (Gh.ok (i:=0) rfl));refine lm (QU Gh J) ?_;rintro _ w3 ⟨D,rfl,hT⟩;have y:=p.trans hT.ext;obtain ⟨S,m⟩:=K8 _ _ _ hT;replace m:=m.pick [1,2,3,0,4] (by decide);refine ax ?_;exact nm H ⟨D,S,(lL.set i.toNat (oC.mk x.seq x.of l2)),rfl,y,Ik vJ pv q,(by simpa using y7),m⟩
      · refine pw _ rfl ?_
        exact nj ⟨a,xQ,lL,rfl,p,hS⟩
   ·rintro E bg ⟨P,V,m2,rfl,y,a8⟩;refine ax ?_;refine qC (fun (s:Int) E wq=>∃ (a:jL) (lL:List oH),E=[(1,pl l 0),(5,.i .i64 s)]∧F.le a∧0≤s∧lL.length=x0.oK.length∧St X w F a [.box l [.i .i64 x0.seq,d,f,g,j],.dp lU.o r d z,.dp Chunk.o I f L,.dp oC.o V g m2,.row oH.t j lL] wq) (KP (n:=x0.oK.length) ak) ?_ ?_
    · exact ⟨_,⟨P,_,rfl,y,DH _,rfl,a8⟩,⟨rfl,rfl,trivial⟩⟩
    · rintro rec i E w1 hI H
      obtain ⟨a,lL,rfl,p,vJ,y7,hS⟩:=hI;refine ay ?_;refine qr (qD adB rfl (hS.rB (k:=4) rfl)) ?_;refine au ?_;refine uS rfl (fun hc=>?_) (fun hc=>?_)
      · unfold Hn at H
        rw [oW (by rw [← y7];exact hc)] at H;have pv:i < (lL.length:Int):=of_decide_eq_true hc;have q:lL.length≤1073741824:=y7 ▸ ak;refine ay ?_;obtain ⟨x,hy⟩:∃ x,lL[i.toNat]? = some x:=⟨_,pF (by omega)⟩;have hp:0≤i:=vJ;refine ax ?_;obtain ⟨cs,hr,he⟩:=hS.rowAt (k:=4) rfl hy;obtain rfl:=hr;replace he:=qj 4 he;have hi:=he.rq;refine qi adB Ty.ZG hi hp ?_;refine qr (uU 3 Ty.WO rfl hi) ?_;refine um (yx (c:=[.i .i64 (-9)]) 4 i.toNat 3 x (oH.mk x.AD x.Af x.state (-9)) rfl rfl hS rfl hy rfl rfl Ty.Mt rfl (qY rfl) (by rintro cs rfl;rfl)) ?_;rintro _ w4 B;refine ax ?_;exact nm H ⟨a,(lL.set i.toNat (oH.mk x.AD x.Af x.state (-9))),rfl,p,Ik vJ pv q,(by simpa using y7),B⟩
      · refine pw _ rfl ?_
        refine IH rfl rfl ?_;exact ⟨a,rfl,hS.pick [] (by decide)⟩
def NA (x0:tk) (x1:tk):Option Bool :=
  bd (only (decide (x0.kind=x1.kind)&&decide (x0.seq=x1.seq)) (Bv x0.data x1.data) false) fun a =>
  some ((decide (x0.kind=x1.kind)&&decide (x0.seq=x1.seq))&&a)
theorem ab9 {x0:tk} {x1:tk} {r:Bool} {a:jD} {c:jD} (hA:Gd F w) (e:oF tB F a x0.data) (f:oF tB F c x1.data) (H:NA x0 x1=some r):pa aac K 17 [.agg (tk.cells x0 a),.agg (tk.cells x1 c)] w fun v w'=>∃ (F':jL),v = .b r∧St [] w F F' [] w':=by
 refine ra Tryz.func17 ?_;have hS:=St.start hA;refine qs ?_;refine bx ([.i .i64 x0.kind,.i .i64 x0.seq,a]) ?_;intro j n l;refine bx ([.i .i64 x1.kind,.i .i64 x1.seq,c]) ?_;intro k q d;obtain ⟨m,h,H⟩:=oL H;refine az ?_;refine gw d h (fun y=>V6 d.oR e f y) ?_;intro p g;refine pQ.now ?_;refine aw ?_;exact rz H g
def Bw.k1 (x0:oP) (l4:List Part):Option oP :=
  some (oP.mk x0.name l4)
def Bw.l2 (x0:oP) (d:((List Part) × Int)→Option oP):((List Part) × Int)→Option oP
  | (sI,a) =>
    if decide (a < (x0.parts.length:Int)) then
      bd (ix x0.parts a) fun b =>
      bd (app (α:=(List UInt8)) [] b.ids) fun qQ =>
      bd (app (α:=Part) sI [(Part.mk b.path b.size qQ)]) fun c =>
      d (c,wr (a+1))
    else
      Bw.k1 x0 sI
def Bw (x0:oP):Option oP :=
  loop (Bw.l2 x0) ([],0)
theorem ace {x0:oP} {r:oP} {c:jD} (hA:Gd F w) (x:oF Part.t F c x0.parts) (H:Bw x0=some r):pa aac K 59 [.agg (oP.cells x0 c)] w fun v w'=>∃ (F':jL) (q:jD),v = .agg (oP.cells r q)∧oF Part.t F' q (r.parts)∧St [] w F F' [] w':=by
 refine rA Tryz.func59 ?_;have hS:=St.start hA;refine qs ?_;refine bx ([.s x0.name,c]) ?_;intro d w1 Z;refine al ?_;intro e w2 j;refine qn ?_;refine aq ?_;refine pe (fun E wq=>∃ l4:List Part,Bw.k1 x0 l4=some r ∧ ∃ (h:jL) (b:jD),E=[(1,pl d 0),(2,pl e 0),(3,b)]∧F.le h∧po j [.box e [.s [],.sl none 0 (.k 0)],.box d [.s x0.name,c],.row Part.t b l4] h wq) ?_ ?_
 ·refine ax ?_;refine qC (fun (s:(List Part) × Int) E wq=>∃ (g:jL) (f:jD),E=[(1,pl d 0),(2,pl e 0),(3,f),(4,.i .i64 s.2)]∧F.le g∧po j [.box e [.s [],.sl none 0 (.k 0)],.box d [.s x0.name,c],.row Part.t f s.1] g wq) H ?_ ?_
  ·have G:=j.sY Part.t;exact lo ⟨F,(.sl none 0 (.k 0)),rfl,(jL.le.refl _),G.pick [1,2,0] (by decide)⟩
  ·rintro a6 ⟨sI,ak⟩ E a9 hI H
   try dsimp only at hI
   obtain ⟨g,f,rfl,S,y⟩:=hI;refine ay ?_;refine qy H (fun J H=>?_) (fun J H=>?_)
   ·obtain ⟨a,R,H⟩:=oL H;obtain ⟨_,⟨U,rfl,Q⟩,aj⟩:=qa 3 (x.mono S) R;refine ay ?_;refine al ?_;intro Y aC ad;refine sb 0 ([.s a.path,.i .i64 a.size,U]) ?_;intro aH z;obtain ⟨qQ,O,H⟩:=oL H;refine ax ?_;have m:=z.sY rX;refine ap 0 m (Q.src m.agree) O ?_;intro l aJ ae;refine au ?_;refine sc 1 ([.s a.path,.i .i64 a.size,l]) ?_;intro aK A;obtain ⟨am,P,H⟩:=oL H;refine ax ?_;obtain ⟨X,ar,L,D⟩:=A.rv 0 [1,2,3,4] rfl (by decide) (by decide);refine xm (sh (t:=Part.t) (vs:=[.agg (Part.cells (Part.mk a.path a.size qQ) l)]) (xs:=[(Part.mk a.path a.size qQ)]) Tryz.underlying56 Ty.Ml rfl ⟨⟨l,rfl,L⟩,trivial⟩ rfl rfl D) ?_;rintro a7 aO n;refine ap 4 n (n.tf (k:=0) rfl) P ?_;intro V aR B;refine ax ?_;exact nm H ⟨_,V,rfl,pc,pk [2,3,4] B⟩
   ·refine pw _ rfl ?_;exact nj ⟨sI,H,⟨_,f,rfl,pc,y⟩⟩
 ·rintro E w3 ⟨l4,H,h,b,rfl,a4,ah⟩;refine aq ?_;refine sc 1 ([.s x0.name,b]) ?_;intro w7 ai;refine ax ?_;refine sb 0 ([.s x0.name,b]) ?_;intro w8 I;refine qn ?_;obtain ⟨u,a5,M,p⟩:=I.rv 2 [0,1] rfl (by decide) (by decide);obtain rfl:=oi H;refine yw (vs:=[.agg (oP.cells (oP.mk x0.name l4) b)]) rfl ⟨(yB 0 Ty.zA Ty.zj p rfl rfl),trivial⟩ ?_;exact ⟨u,b,rfl,M,p.pick [] (by decide)⟩
def I2 (x0:List Loc):Option (List Loc) :=
  bd (app (α:=Loc) [] x0) fun l1 =>
  some l1
theorem QV {x0:List Loc} {r:(List Loc)} {c:jD} (hA:Gd F w) (d:oF Loc.t F c x0) (H:I2 x0=some r):pa aac K 60 [c] w fun v w'=>∃ (F':jL) (b:jD),v=b∧St [] w F F' [.row Loc.t b (r)] w':=by
 refine rA Tryz.func60 ?_;have hS:=St.start hA;obtain ⟨l1,f,H⟩:=oL H;refine ax ?_;have a:=hS.sY Loc.t;refine ap 0 a (d.src a.agree) f ?_;intro g h e;exact rx H e
def Ci.k1 (l2:List Chunk):Option (List Chunk) :=
  some l2
def Ci.l2 (x0:List Chunk) (e:((List Chunk) × Int)→Option (List Chunk)):((List Chunk) × Int)→Option (List Chunk)
  | (l6,b) =>
    if decide (b < (x0.length:Int)) then
      bd (ix x0 b) fun a =>
      bd (KM a.data) fun c =>
      bd (I2 a.oN) fun d =>
      bd (app (α:=Chunk) l6 [(Chunk.mk a.id a.pX c d)]) fun uo =>
      e (uo,wr (b+1))
    else
      Ci.k1 l6
def Ci (x0:List Chunk):Option (List Chunk) :=
  loop (Ci.l2 x0) ([],0)
theorem acd {x0:List Chunk} {r:(List Chunk)} {n:jD} (hA:Gd F w) (J:oF Chunk.t F n x0) (H:Ci x0=some r):pa aac K 61 [n] w fun v w'=>∃ (F':jL) (z:jD),v=z∧St [] w F F' [.row Chunk.t z (r)] w':=by
 refine rA Tryz.func61 ?_;have hS:=St.start hA;refine aq ?_;refine aq ?_;refine pe (fun E wq=>∃ l2:List Chunk,Ci.k1 l2=some r ∧ ∃ (h:jL) (l:jD),E=[(3,l)]∧F.le h∧po hS [.row Chunk.t l l2] h wq) ?_ ?_
 ·refine ax ?_;refine qC (fun (s:(List Chunk) × Int) E wq=>∃ (d:jL) (f:jD),E=[(0,n),(3,f),(4,.i .i64 s.2)]∧F.le d∧po hS [.row Chunk.t f s.1] d wq) H ?_ ?_
  ·have R:=hS.sY Chunk.t;exact lo ⟨F,(.sl none 0 (.k 0)),rfl,(jL.le.refl _),R⟩
  ·rintro aT ⟨l6,i9⟩ E w5 hI H
   try dsimp only at hI
   obtain ⟨d,f,rfl,aj,u⟩:=hI;refine ay ?_;refine qy H (fun S H=>?_) (fun S H=>?_)
   ·obtain ⟨a,ai,H⟩:=oL H;obtain ⟨_,⟨ar,D,rfl,Y,ae,ah⟩,aH⟩:=qa 35 (J.mono aj) ai;refine ay ?_;refine xm (vF (cs:=pb (ph 32 (0:UInt8))++([.b false,.sl none 0 (.k 0),.sl none 0 (.k 0)]:List jD)) Ty.MD rfl u) ?_;rintro _ aX ⟨I,rfl,aC⟩;refine sb 0 (pb a.id++([.b a.pX,ar,D]:List jD)) ?_;intro a5 c;refine ay ?_;obtain ⟨A,Z,B,ad,H⟩:=oU H;have e:=c.tK 0 rfl;refine uT (G:=(d.hold a5 [I])) [0,1,3,4,2,6,5,7,8,9] rfl Ty.mixed (by kernel_rfl) (HB.agree (HB.cons 0 e c rfl HB.nil) c.agree) ?_;refine au ?_;refine hl 0 e c ?_;refine ql (V8 c.oR ae Z) ?_;rintro g aY ⟨a8,_,rfl,x⟩;have j:=c.call x;have ak:=x.ext;refine nf 1 e j ak ?_;refine au ?_;refine ql (QV j.oR (mo ah) ad) ?_;rintro m ba ⟨a9,_,rfl,y⟩;have p:=j.call y;have am:=y.ext;refine nf 2 e p am ?_;refine FK (by kernel_rfl) p.agree ?_;refine sC 2 (pb a.id++([.b a.pX,g,D]:List jD)) ?_;intro bb aD;refine au ?_;refine sC 2 (pb a.id++([.b a.pX,g,m]:List jD)) ?_;intro bc M;obtain ⟨uo,X,H⟩:=oL H;refine ax ?_;obtain ⟨a6,aO,U,P⟩:=M.rv 1 [0,2,3] rfl (by decide) (by decide);obtain ⟨a7,aR,V,Q⟩:=P.rv 0 [1,2] rfl (by decide) (by decide);refine xm (sh (t:=Chunk.t) (vs:=[.agg (Chunk.cells (Chunk.mk a.id a.pX A B) g m)]) (xs:=[(Chunk.mk a.id a.pX A B)]) aaE Ty.Dy rfl ⟨⟨g,m,rfl,Y,(mo U),V⟩,trivial⟩ rfl rfl Q) ?_;rintro aU be q;refine ap 2 q (q.tf (k:=0) rfl) X ?_;intro a4 bf O;refine ax ?_;exact nm H ⟨_,a4,rfl,pc,pk [2] O⟩
   ·refine pw _ rfl ?_;exact nj ⟨l6,H,⟨_,f,rfl,pc,u⟩⟩
 ·rintro E w1 ⟨l2,H,h,l,rfl,aK,L⟩;exact rx H L
def xw.k2 (x0:mZ) (l4:List lU) (l8:List oC):Option mZ :=
  bd (Ci x0.chunks) fun a =>
  bd (app (α:=oH) [] x0.oK) fun rZ =>
  some (mZ.mk x0.seq l4 a l8 rZ)
def xw.l3 (x0:mZ) (l4:List lU) (f:((List oC) × Int)→Option mZ):((List oC) × Int)→Option mZ
  | (c,a) =>
    if decide (a < (x0.oD.length:Int)) then
      bd (ix x0.oD a) fun b =>
      bd (I2 b.oN) fun e =>
      bd (app (α:=oC) c [(oC.mk b.seq b.of e)]) fun d =>
      f (d,wr (a+1))
    else
      xw.k2 x0 l4 c
def xw.k1 (x0:mZ) (l4:List lU):Option mZ :=
  loop (xw.l3 x0 l4) ([],0)
def xw.l4 (x0:mZ) (g:((List lU) × Int)→Option mZ):((List lU) × Int)→Option mZ
  | (c,a) =>
    if decide (a < (x0.oB.length:Int)) then
      bd (ix x0.oB a) fun b =>
      bd (Bw b.oJ) fun e =>
      bd (I2 b.oN) fun f =>
      bd (app (α:=lU) c [(lU.mk b.seq e f)]) fun d =>
      g (d,wr (a+1))
    else
      xw.k1 x0 c
def xw (x0:mZ):Option mZ :=
  loop (xw.l4 x0) ([],0)
set_option maxHeartbeats 2000000 in
theorem V7 {x0:mZ} {r:mZ} {l:jD} {g:jD} {d:jD} {b:jD} (hA:Gd F w) (aK:oF lU.t F l x0.oB) (aO:oF Chunk.t F g x0.chunks) (aR:oF oC.t F d x0.oD) (aT:oF oH.t F b x0.oK) (H:xw x0=some r):pa aac K 19 [.agg (mZ.cells x0 l g d b)] w fun v w'=>∃ (F':jL) (a5:jD) (a6:jD) (a7:jD) (a8:jD),v = .agg (mZ.cells r a5 a6 a7 a8)∧St [] w F F' [.row lU.t a5 (r.oB),.row Chunk.t a6 (r.chunks),.row oC.t a7 (r.oD),.row oH.t a8 (r.oK)] w':=by
 refine rA Tryz.func19 ?_;have hS:=St.start hA;refine qs ?_;refine bx ([.i .i64 x0.seq,l,g,d,b]) ?_;intro c w1 bK;refine al ?_;intro e w2 M;refine qn ?_;refine aq ?_;refine pe (fun E wq=>∃ l4:List lU,xw.k1 x0 l4=some r ∧ ∃ (n:jL) (a:jD),E=[(1,pl c 0),(2,pl e 0),(3,a)]∧F.le n∧po M [.box e [.i .i64 0,.sl none 0 (.k 0),.sl none 0 (.k 0),.sl none 0 (.k 0),.sl none 0 (.k 0)],.box c [.i .i64 x0.seq,l,g,d,b],.row lU.t a l4] n wq) ?_ ?_
 ·refine ax ?_;refine qC (fun (s:(List lU) × Int) E wq=>∃ (u:jL) (D:jD),E=[(1,pl c 0),(2,pl e 0),(3,D),(4,.i .i64 s.2)]∧F.le u∧po M [.box e [.i .i64 0,.sl none 0 (.k 0),.sl none 0 (.k 0),.sl none 0 (.k 0),.sl none 0 (.k 0)],.box c [.i .i64 x0.seq,l,g,d,b],.row lU.t D s.1] u wq) H ?_ ?_
  ·have bg:=M.sY lU.t;exact lo ⟨F,(.sl none 0 (.k 0)),rfl,(jL.le.refl _),bg.pick [1,2,0] (by decide)⟩
  ·rintro ce ⟨b2,bX⟩ E c0 hI H
   try dsimp only at hI
   obtain ⟨u,D,rfl,b4,bb⟩:=hI;refine ay ?_;refine qy H (fun bi H=>?_) (fun bi H=>?_)
   ·obtain ⟨m,b0,H⟩:=oL H;obtain ⟨_,⟨aD,Q,rfl,bv,bw⟩,bV⟩:=qa 4 (aK.mono b4) b0;refine ay ?_;refine al ?_;intro aJ c1 bS;refine sb 0 ([.i .i64 m.seq,.s m.oJ.name,aD,Q]) ?_;intro bC j;refine ay ?_;obtain ⟨A,bs,aC,bt,H⟩:=oU H;have z:=j.tK 0 rfl;refine uT (G:=(u.hold bC [aJ])) [0,1,3,4,2,6,5,7,8,9] rfl Ty.mixed (by kernel_rfl) (HB.agree (HB.cons 0 z j rfl HB.nil) j.agree) ?_;refine au ?_;refine bL j 0 (oP.cells m.oJ aD) [Q] ?_;refine au ?_;refine hl 0 z j ?_;refine ql (ace j.oR bv bs) ?_;rintro ch c2 ⟨bH,I,rfl,bm,ak⟩;have P:=j.call ak;have b6:=ak.ext;refine nf 0 z P b6 ?_;refine au ?_;refine ql (QV P.oR (mo bw) bt) ?_;rintro S c3 ⟨bI,_,rfl,am⟩;have ae:=P.call am;have b7:=am.ext;refine nf 1 z ae b7 ?_;refine FK (by kernel_rfl) ae.agree ?_;refine sB 1 ([.i .i64 m.seq,.s A.name,I,Q]) ?_;intro c4 bT;refine au ?_;refine sC 1 ([.i .i64 m.seq,.s A.name,I,S]) ?_;intro c5 bc;obtain ⟨bZ,bp,H⟩:=oL H;refine ax ?_;obtain ⟨bF,cb,bk,bf⟩:=bc.rv 0 [1,2,3,4] rfl (by decide) (by decide);refine xm (sh (t:=lU.t) (vs:=[.agg (lU.cells (lU.mk m.seq A aC) I S)]) (xs:=[(lU.mk m.seq A aC)]) aam Ty.Bb rfl ⟨⟨I,S,rfl,(mo bm),bk⟩,trivial⟩ rfl rfl bf) ?_;rintro cg c6 ah;refine ap 4 ah (ah.tf (k:=0) rfl) bp ?_;intro bB c7 be;refine ax ?_;exact nm H ⟨_,bB,rfl,pc,pk [2,3,4] be⟩
   ·refine pw _ rfl ?_;exact nj ⟨b2,H,⟨_,D,rfl,pc,bb⟩⟩
 ·rintro E w3 ⟨l4,H,n,a,rfl,ar,O⟩;refine aq ?_;refine pe (fun E wq=>∃ l8:List oC,xw.k2 x0 l4 l8=some r ∧ ∃ (x:jL) (f:jD),E=[(1,pl c 0),(2,pl e 0),(3,a),(6,f)]∧n.le x∧po O [.box e [.i .i64 0,.sl none 0 (.k 0),.sl none 0 (.k 0),.sl none 0 (.k 0),.sl none 0 (.k 0)],.box c [.i .i64 x0.seq,l,g,d,b],.row lU.t a l4,.row oC.t f l8] x wq) ?_ ?_
  ·refine ax ?_;refine qC (fun (s:(List oC) × Int) E wq=>∃ (L:jL) (B:jD),E=[(1,pl c 0),(2,pl e 0),(3,a),(6,B),(7,.i .i64 s.2)]∧n.le L∧po O [.box e [.i .i64 0,.sl none 0 (.k 0),.sl none 0 (.k 0),.sl none 0 (.k 0),.sl none 0 (.k 0)],.box c [.i .i64 x0.seq,l,g,d,b],.row lU.t a l4,.row oC.t B s.1] L wq) H ?_ ?_
   ·have ba:=O.sY oC.t;exact lo ⟨n,(.sl none 0 (.k 0)),rfl,(jL.le.refl _),ba.pick [1,2,3,0] (by decide)⟩
   ·rintro cd ⟨b1,bW⟩ E cr hI H
    try dsimp only at hI
    obtain ⟨L,B,rfl,b3,aU⟩:=hI;refine ay ?_;refine qy H (fun bh H=>?_) (fun bh H=>?_)
    ·obtain ⟨h,bz,H⟩:=oL H;obtain ⟨_,⟨b9,rfl,bu⟩,bU⟩:=qa 3 (aR.mono (ar.trans b3)) bz;refine ay ?_;refine al ?_;intro bJ ct bQ;refine sb 0 ([.i .i64 h.seq,.i .i64 h.of,b9]) ?_;intro cu Z;obtain ⟨a9,br,H⟩:=oL H;refine ax ?_;refine lm (QV Z.oR bu br) ?_;rintro R cw ⟨bG,_,rfl,aj⟩;have bR:=Z.call aj;have cc:=aj.ext;refine au ?_;refine sc 1 ([.i .i64 h.seq,.i .i64 h.of,R]) ?_;intro cx aV;obtain ⟨bY,bo,H⟩:=oL H;refine ax ?_;obtain ⟨bE,ca,bj,aY⟩:=aV.rv 0 [1,2,3,4,5] rfl (by decide) (by decide);refine xm (sh (t:=oC.t) (vs:=[.agg (oC.cells (oC.mk h.seq h.of a9) R)]) (xs:=[(oC.mk h.seq h.of a9)]) aaF Ty.Ei rfl ⟨⟨R,rfl,bj⟩,trivial⟩ rfl rfl aY) ?_;rintro cf cy ad;refine ap 5 ad (ad.tf (k:=0) rfl) bo ?_;intro bA cz aX;refine ax ?_;exact nm H ⟨_,bA,rfl,pc,pk [2,3,4,5] aX⟩
    ·refine pw _ rfl ?_;exact nj ⟨b1,H,⟨_,B,rfl,pc,aU⟩⟩
  ·rintro E w7 ⟨l8,H,x,f,rfl,b5,p⟩;refine ay ?_;obtain ⟨b8,bq,rZ,bn,H⟩:=oU H;have y:=p.tK 1 rfl;refine uT (G:=(x.hold w7 [c])) [0,1,2,4,5,6,7,9,3,8,10,11,12,13,14,15,16] rfl Ty.mixed (by kernel_rfl) (HB.agree (HB.cons 1 y p rfl HB.nil) p.agree) ?_;refine au ?_;refine hl 1 y p ?_;refine au ?_;refine ql (acd p.oR (mo aO) bq) ?_;rintro q ck ⟨aH,_,rfl,ai⟩;have V:=p.call ai;have a4:=ai.ext;refine nf 2 y V a4 ?_;have X:=V.sY oH.t;refine qx (xl (t:=oH.t) 0 adB Ty.OY Ty.aal rfl rfl X rfl ((aT.mono ((ar.trans b5).trans a4)).src X.agree) bn) ?_;rintro J cj U;refine qh 3 y U ?_;refine FK (by kernel_rfl) U.agree ?_;refine sC 3 ([.i .i64 x0.seq,a,g,d,b]) ?_;intro cl bM;refine au ?_;refine sC 3 ([.i .i64 x0.seq,a,q,d,b]) ?_;intro cm bN;refine au ?_;refine sC 3 ([.i .i64 x0.seq,a,q,f,b]) ?_;intro cn bO;refine au ?_;refine sC 3 ([.i .i64 x0.seq,a,q,f,J]) ?_;intro cp bP;refine ax ?_;refine sb 2 ([.i .i64 x0.seq,a,q,f,J]) ?_;intro cq Y;refine qn ?_;obtain rfl:=oi H;refine yw (vs:=[.agg (mZ.cells (mZ.mk x0.seq l4 b8 l8 rZ) a q f J)]) rfl ⟨(yB 2 Ty.yU Ty.zh Y rfl rfl),trivial⟩ ?_;exact ⟨aH,a,q,f,J,rfl,Y.pick [4,1,5,0] (by decide)⟩
def Md (x0:lU):Option Bool :=
  some (decide ((x0.oN.length:Int)=0))
theorem YT {x0:lU} {r:Bool} {a:jD} {c:jD} (hA:Gd F w) (f:oF Part.t F a x0.oJ.parts) (g:oF Loc.t F c x0.oN) (H:Md x0=some r):pa aac K 63 [.agg (lU.cells x0 a c)] w fun v w'=>∃ (F':jL),v = .b r∧St [] w F F' [] w':=by
 refine rA Tryz.func63 ?_;have hS:=St.start hA;refine qs ?_;refine bx ([.i .i64 x0.seq,.s x0.oJ.name,a,c]) ?_;intro e h d;refine au ?_;exact rz H d
def CL.k1:Option Int :=
  some (-1)
def CL.l2 (x0:List lU) (c:Int→Option Int):Int→Option Int
  | a =>
    if decide (a < (x0.length:Int)) then
      bd (ix x0 a) fun x6 =>
      bd (Md x6) fun b =>
      if b then
        some a
      else
        c (wr (a+1))
    else
      CL.k1
def CL (x0:List lU):Option Int :=
  loop (CL.l2 x0) 0
theorem akj {x0:List lU} {r:Int} {b:jD} (hA:Gd F w) (d:oF lU.t F b x0) (H:CL x0=some r):pa aac K 113 [b,.f 63 []] w fun v w'=>∃ (F':jL),v = .i .i64 r∧St [] w F F' [] w':=by
 refine ra Tryz.func113 ?_;have hS:=St.start hA;refine aq ?_;refine pe (jN (CL.k1=some r) [] hS) ?_ ?_
 ·refine ax ?_;refine lj hS (fun s:Int=>[(0,b),(1,.f 63 []),(7,.i .i64 (x0.length:Int)),(8,.i .i64 s)]) H ?_;intro A x q J n a H;refine ay ?_;refine qy H (fun h H=>?_) (fun h H=>?_)
  ·obtain ⟨x6,m,z,j,H⟩:=oU H;obtain ⟨_,⟨B,D,rfl,k,l⟩,u⟩:=qa 4 (d.mono n) m;refine ay ?_;refine lp (YT a.oR k l j) a ?_;intro I c;refine qn ?_;refine qy H (fun g H=>?_) (fun g H=>?_)
   ·exact rz H c
   ·refine ax ?_;exact nm H (jj c)
  ·refine pw _ rfl ?_;exact nj ⟨H,jj a⟩
 ·rintro E G ⟨H,p,rfl,y,e⟩;exact rz H e
def zm.k1 (a:Int) (l6:List lU):Option (List lU) :=
  bd (cut (α:=lU) l6 a (l6.length:Int)) fun l7 =>
  bd (Co l6 a.toNat ((l6.length:Int).toNat - a.toNat) (lU.mk 0 (oP.mk [] []) [])) fun l9 =>
  bd (cut (α:=lU) l9 0 a) fun sI =>
  bd (nz l9) fun _ =>
  some sI
def zm.k3 (a:Int) (c:(Int × Int × (List lU))→Option (List lU)) (b:Int) (qQ:List lU):Option (List lU) :=
  c (b,wr (a+1),qQ)
def zm.l2 (c:(Int × Int × (List lU))→Option (List lU)):(Int × Int × (List lU))→Option (List lU)
  | (a,b,pN) =>
    if decide (b < (pN.length:Int)) then
      bd (ix pN b) fun d =>
      bd (Md d) fun e =>
      if (!e) then
        bd (ix pN a) fun f =>
        zm.k3 b c (wr (a+1)) (pN.set a.toNat d)
      else
        zm.k3 b c a pN
    else
      zm.k1 a pN
def zm (x0:List lU):Option (List lU) :=
  bd (CL x0) fun a =>
  if decide (a=(-1)) then
    some x0
  else
    loop (zm.l2) (a,wr (a+1),x0)
theorem akc {x0:List lU} {r:(List lU)} {a:jD} (hS:St a.own w F F [.row lU.t a x0] w) (H:zm x0=some r):pa aac K 62 [a,.f 63 []] w fun v w'=>∃ (F':jL) (J:jD),v=J∧St a.own w F F' [.row lU.t J (r)] w':=by
 refine ra Tryz.func62 ?_;obtain ⟨r1,V,H⟩:=oL H;refine ax ?_;refine lp (akj (Gd.now hS.wf) (hS.uK (k:=0) rfl) V) hS ?_;intro w2 j;refine ay ?_;refine qy H (fun Q H=>?_) (fun Q H=>?_)
 ·exact rx H j
 ·refine qk ?_;refine pe (fun E wq=>∃ e:Int,∃ l6:List lU,zm.k1 e l6=some r ∧ ∃ (m:jL),E=[(0,a),(5,.i .i64 e)]∧F.le m∧po j [.row lU.t a l6] m wq) ?_ ?_
  ·refine ax ?_;refine qC (fun (s:Int × Int × (List lU)) E wq=>∃ (g:jL),E=[(0,a),(1,.f 63 []),(5,.i .i64 s.1),(6,.i .i64 s.2.1)]∧F.le g∧po j [.row lU.t a s.2.2] g wq) H ?_ ?_
   ·exact lo (jj j)
   ·rintro ae ⟨d,I,pN⟩ E aU hI H
    try dsimp only at hI
    obtain ⟨g,rfl,a8,h⟩:=hI;refine ay ?_;refine qr (qD aam rfl (h.rB (k:=0) rfl)) ?_;refine au ?_;refine qy H (fun P H=>?_) (fun P H=>?_)
    ·refine qk ?_;refine pe (fun E wq=>∃ u:Int,∃ qQ:List lU,zm.k3 I ae u qQ=some r ∧ ∃ (l:jL),E=[(0,a),(1,.f 63 []),(5,.i .i64 u),(6,.i .i64 I)]∧g.le l∧po h [.row lU.t a qQ] l wq) ?_ ?_
     ·obtain ⟨b,ad,H⟩:=oL H;obtain ⟨_,⟨x,y,rfl,p,q⟩,ar⟩:=tt 4 0 h ad;refine ax ?_;refine al ?_;intro ak aY am;refine sb 0 ([.i .i64 b.seq,.s b.oJ.name,x,y]) ?_;intro ba A;obtain ⟨aK,X,H⟩:=oL H;refine ax ?_;refine lp (YT A.oR p q X) A ?_;intro bb n;refine au ?_;refine qy H (fun R H=>?_) (fun R H=>?_)
      ·obtain ⟨ah,G,H⟩:=oL H;obtain ⟨_,⟨aO,aR,rfl,a4,a5⟩,_⟩:=tt 4 1 n G;refine aq ?_;refine um (yx (c:=[.i .i64 b.seq,.s b.oJ.name,x,y]) 1 (d.toNat) 0 ah b rfl rfl n rfl (oM G).2 (by first | rfl | (show _=_*4+_;omega)) rfl Ty.sJ (by simp only [tZ,uR,rC,p.ln.one,q.ln.one];rfl) (qY rfl) (by rintro cs ⟨a2,a3,rfl,b2,b3⟩;exact ⟨x,y,rfl,p,q⟩)) ?_;rintro _ bc O;refine ax ?_;exact nj ⟨wr (d+1),(pN.set d.toNat b),H,jj (pk [1] O)⟩
      ·refine ax ?_;exact nj ⟨d,pN,H,jj (pk [1] n)⟩
     ·rintro E aX ⟨u,qQ,H,l,rfl,a9,M⟩;refine ax ?_;exact nm H (jj M)
    ·refine pw _ rfl ?_;exact nj ⟨d,pN,H,jj h⟩
  ·rintro E w4 ⟨e,l6,H,m,rfl,aC,B⟩;obtain ⟨l7,S,l9,U,H⟩:=oU H;refine aq ?_;refine xq 0 e (l6.length:Int) rfl rfl rfl rfl aam Ty.sJ rfl (.inr ⟨_,_,rfl,rfl⟩) (.inl ⟨rfl,rfl⟩) B rfl S ?_;intro q8 a7 Z;refine um (Ks (tr:=lU.t) (x0:=(lU.mk 0 (oP.mk [] []) [])) 0 aam Ty.T2 ⟨.sl none 0 (.k 0),.sl none 0 (.k 0),rfl,(oF.nil _),(oF.nil _)⟩ rfl B rfl Z U) ?_;rintro _ aT z;obtain ⟨sI,D,H⟩:=oL H;refine ax ?_;refine xq 0 0 e rfl rfl rfl rfl aam Ty.sJ rfl (.inl ⟨rfl,rfl⟩) (.inr ⟨_,_,rfl,rfl⟩) z rfl D ?_;intro aD a6 Y;refine au ?_;obtain ⟨_,Lz,H⟩:=oL H;have L:=z.shrink 0 rfl Y D Lz;exact rx H L
def Me (x0:Chunk):Option Bool :=
  some (decide ((x0.oN.length:Int)=0))
theorem YU {x0:Chunk} {r:Bool} {a:jD} {c:jD} (hA:Gd F w) (f:oF tB F a x0.data) (g:oF Loc.t F c x0.oN) (h:(x0.id).length=32) (H:Me x0=some r):pa aac K 65 [.agg (Chunk.cells x0 a c)] w fun v w'=>∃ (F':jL),v = .b r∧St [] w F F' [] w':=by
 refine rA Tryz.func65 ?_;have hS:=St.start hA;refine qs ?_;refine bx (pb x0.id++([.b x0.pX,a,c]:List jD)) ?_;intro e i d;refine au ?_;exact rz H d
def CK.k1:Option Int :=
  some (-1)
def CK.l2 (x0:List Chunk) (c:Int→Option Int):Int→Option Int
  | a =>
    if decide (a < (x0.length:Int)) then
      bd (ix x0 a) fun x6 =>
      bd (Me x6) fun b =>
      if b then
        some a
      else
        c (wr (a+1))
    else
      CK.k1
def CK (x0:List Chunk):Option Int :=
  loop (CK.l2 x0) 0
theorem akg {x0:List Chunk} {r:Int} {b:jD} (hA:Gd F w) (d:oF Chunk.t F b x0) (H:CK x0=some r):pa aac K 114 [b,.f 65 []] w fun v w'=>∃ (F':jL),v = .i .i64 r∧St [] w F F' [] w':=by
 refine ra Tryz.func114 ?_;have hS:=St.start hA;refine aq ?_;refine pe (jN (CK.k1=some r) [] hS) ?_ ?_
 ·refine ax ?_;refine lj hS (fun s:Int=>[(0,b),(1,.f 65 []),(7,.i .i64 (x0.length:Int)),(8,.i .i64 s)]) H ?_;intro B y u L p a H;refine ay ?_;refine qy H (fun h H=>?_) (fun h H=>?_)
  ·obtain ⟨x6,n,A,k,H⟩:=oU H;obtain ⟨_,⟨D,G,rfl,j,l,m⟩,x⟩:=qa 35 (d.mono p) n;refine ay ?_;refine lp (YU a.oR l m j k) a ?_;intro J c;refine qn ?_;refine qy H (fun g H=>?_) (fun g H=>?_)
   ·exact rz H c
   ·refine ax ?_;exact nm H (jj c)
  ·refine pw _ rfl ?_;exact nj ⟨H,jj a⟩
 ·rintro E I ⟨H,q,rfl,z,e⟩;exact rz H e
def zl.k1 (a:Int) (l6:List Chunk):Option (List Chunk) :=
  bd (cut (α:=Chunk) l6 a (l6.length:Int)) fun l7 =>
  bd (Co l6 a.toNat ((l6.length:Int).toNat - a.toNat) (Chunk.mk (ph 32 (0:UInt8)) false [] [])) fun l9 =>
  bd (cut (α:=Chunk) l9 0 a) fun sI =>
  bd (nz l9) fun _ =>
  some sI
def zl.k3 (a:Int) (c:(Int × Int × (List Chunk))→Option (List Chunk)) (b:Int) (qQ:List Chunk):Option (List Chunk) :=
  c (b,wr (a+1),qQ)
def zl.l2 (c:(Int × Int × (List Chunk))→Option (List Chunk)):(Int × Int × (List Chunk))→Option (List Chunk)
  | (a,b,pN) =>
    if decide (b < (pN.length:Int)) then
      bd (ix pN b) fun d =>
      bd (Me d) fun e =>
      if (!e) then
        bd (ix pN a) fun f =>
        zl.k3 b c (wr (a+1)) (pN.set a.toNat d)
      else
        zl.k3 b c a pN
    else
      zl.k1 a pN
def zl (x0:List Chunk):Option (List Chunk) :=
  bd (CK x0) fun a =>
  if decide (a=(-1)) then
    some x0
  else
    loop (zl.l2) (a,wr (a+1),x0)
theorem akb {x0:List Chunk} {r:(List Chunk)} {a:jD} (hS:St a.own w F F [.row Chunk.t a x0] w) (H:zl x0=some r):pa aac K 64 [a,.f 65 []] w fun v w'=>∃ (F':jL) (M:jD),v=M∧St a.own w F F' [.row Chunk.t M (r)] w':=by
 refine ra Tryz.func64 ?_;obtain ⟨r1,Y,H⟩:=oL H;refine ax ?_;refine lp (akg (Gd.now hS.wf) (hS.uK (k:=0) rfl) Y) hS ?_;intro w2 l;refine ay ?_;refine qy H (fun S H=>?_) (fun S H=>?_)
 ·exact rx H l
 ·refine qk ?_;refine pe (fun E wq=>∃ h:Int,∃ l6:List Chunk,zl.k1 h l6=some r ∧ ∃ (n:jL),E=[(0,a),(5,.i .i64 h)]∧F.le n∧po l [.row Chunk.t a l6] n wq) ?_ ?_
  ·refine ax ?_;refine qC (fun (s:Int × Int × (List Chunk)) E wq=>∃ (j:jL),E=[(0,a),(1,.f 65 []),(5,.i .i64 s.1),(6,.i .i64 s.2.1)]∧F.le j∧po l [.row Chunk.t a s.2.2] j wq) H ?_ ?_
   ·exact lo (jj l)
   ·rintro ai ⟨g,L,pN⟩ E ba hI H
    try dsimp only at hI
    obtain ⟨j,rfl,aH,e⟩:=hI;refine ay ?_;refine qr (qD aaE rfl (e.rB (k:=0) rfl)) ?_;refine au ?_;refine qy H (fun R H=>?_) (fun R H=>?_)
    ·refine qk ?_;refine pe (fun E wq=>∃ x:Int,∃ qQ:List Chunk,zl.k3 L ai x qQ=some r ∧ ∃ (m:jL),E=[(0,a),(1,.f 65 []),(5,.i .i64 x),(6,.i .i64 L)]∧j.le m∧po e [.row Chunk.t a qQ] m wq) ?_ ?_
     ·obtain ⟨d,ah,H⟩:=oL H;obtain ⟨_,⟨y,z,rfl,I,q,u⟩,a6⟩:=tt 35 0 e ah;refine ax ?_;refine xm (vF (cs:=pb (ph 32 (0:UInt8))++([.b false,.sl none 0 (.k 0),.sl none 0 (.k 0)]:List jD)) Ty.MD rfl e) ?_;rintro _ be ⟨a4,rfl,a5⟩;refine sb 0 (pb d.id++([.b d.pX,y,z]:List jD)) ?_;intro bf B;obtain ⟨aU,Z,H⟩:=oL H;refine ax ?_;refine lp (YU B.oR q u I Z) B ?_;intro bg p;refine au ?_;refine qy H (fun U H=>?_) (fun U H=>?_)
      ·obtain ⟨aj,J,H⟩:=oL H;obtain ⟨_,⟨aV,aX,rfl,a7,a8,a9⟩,_⟩:=tt 35 1 p J;refine aq ?_;refine um (yx (c:=pb d.id++([.b d.pX,y,z]:List jD)) 1 (g.toNat) 0 aj d rfl rfl p rfl (oM J).2 (by first | rfl | (show _=_*35+_;omega)) rfl Ty.tg (by simp only [tZ,uR,rC,q.ln.one,u.ln.one];rfl) (qY rfl) (by rintro cs ⟨a2,a3,rfl,c0,b2,b3⟩;exact ⟨y,z,rfl,I,q,u⟩)) ?_;rintro _ bh Q;refine ax ?_;exact nj ⟨wr (g+1),(pN.set g.toNat d),H,jj (pk [1] Q)⟩
      ·refine ax ?_;exact nj ⟨g,pN,H,jj (pk [1] p)⟩
     ·rintro E bc ⟨x,qQ,H,m,rfl,aJ,P⟩;refine ax ?_;exact nm H (jj P)
    ·refine pw _ rfl ?_;exact nj ⟨g,pN,H,jj e⟩
  ·rintro E w4 ⟨h,l6,H,n,rfl,aK,D⟩;obtain ⟨l7,V,l9,X,H⟩:=oU H;refine aq ?_;refine xq 0 h (l6.length:Int) rfl rfl rfl rfl aaE Ty.tg rfl (.inr ⟨_,_,rfl,rfl⟩) (.inl ⟨rfl,rfl⟩) D rfl V ?_;intro q8 aD ae;refine um (Ks (tr:=Chunk.t) (x0:=(Chunk.mk (ph 32 (0:UInt8)) false [] [])) 0 aaE Ty.MD ⟨.sl none 0 (.k 0),.sl none 0 (.k 0),rfl,(List.length_replicate),(oF.nil _),(oF.nil _)⟩ rfl D rfl ae X) ?_;rintro _ aY A;obtain ⟨sI,G,H⟩:=oL H;refine ax ?_;refine xq 0 0 h rfl rfl rfl rfl aaE Ty.tg rfl (.inl ⟨rfl,rfl⟩) (.inr ⟨_,_,rfl,rfl⟩) A rfl G ?_;intro aO aC ad;refine au ?_;obtain ⟨_,Lz,H⟩:=oL H;have O:=A.shrink 0 rfl ad G Lz;exact rx H O
def tY.k3 (a:mZ) (c:(List lU)) (qQ:List Chunk) (b:Int):Option mZ :=
  some (mZ.mk b c qQ a.oD a.oK)
def tY.l4 (c:mZ) (e:(List lU)) (qQ:List Chunk) (f:(Int × Int)→Option mZ):(Int × Int)→Option mZ
  | (a,b) =>
    if decide (a < (c.oD.length:Int)) then
      bd (ix c.oD a) fun d =>
      f (wr (a+1),(if b < wr (d.seq+1) then wr (d.seq+1) else b))
    else
      tY.k3 c e qQ b
def tY.k2 (c:mZ) (b:(List lU)) (qQ:List Chunk) (a:Int):Option mZ :=
  loop (tY.l4 c b qQ) (0,a)
def tY.l5 (e:mZ) (c:(List lU)) (qQ:List Chunk) (f:(Int × Int)→Option mZ):(Int × Int)→Option mZ
  | (a,b) =>
    if decide (a < (c.length:Int)) then
      bd (ix c a) fun d =>
      f (wr (a+1),(if b < wr (d.seq+1) then wr (d.seq+1) else b))
    else
      tY.k2 e c qQ b
def tY.k1 (b:mZ) (a:(List lU)) (qQ:List Chunk):Option mZ :=
  loop (tY.l5 b a qQ) (0,0)
def tY.l6 (g:mZ) (e:(List lU)) (f:(List Chunk)) (h:(Int × (List Chunk))→Option mZ):(Int × (List Chunk))→Option mZ
  | (a,c) =>
    if decide (a < (f.length:Int)) then
      bd (ix c a) fun b =>
      bd (ix (c.set a.toNat (Chunk.mk b.id false b.data b.oN)) a) fun d =>
      h (wr (a+1),((c.set a.toNat (Chunk.mk b.id false b.data b.oN)).set a.toNat (Chunk.mk d.id d.pX [] d.oN)))
    else
      tY.k1 g e c
def tY (x0:mZ):Option mZ :=
  bd (KJ x0) fun d =>
  if decide (d≠0) then
    some (mZ.mk 0 [] [] [] [])
  else
    bd (uh x0) fun a =>
    bd (zm a.oB) fun c =>
    bd (zl a.chunks) fun b =>
    loop (tY.l6 a c b) (0,b)
set_option maxHeartbeats 2000000 in
theorem aih [Kn (ye aac) K]  {x0:mZ} {r:mZ} {X:jD} {Y:jD} {Z:jD} {ad:jD} (hA:Gd F w) (ai:oF lU.t F X x0.oB) (aj:oF Chunk.t F Y x0.chunks) (ak:oF oC.t F Z x0.oD) (am:oF oH.t F ad x0.oK) (H:tY x0=some r):pa aac K 20 [.agg (mZ.cells x0 X Y Z ad)] w fun v w'=>∃ (F':jL) (aU:jD) (aV:jD) (aX:jD) (aY:jD),v = .agg (mZ.cells r aU aV aX aY)∧oF lU.t F' aU (r.oB)∧oF Chunk.t F' aV (r.chunks)∧oF oC.t F' aX (r.oD)∧oF oH.t F' aY (r.oK)∧St [] w F F' [] w':=by
 refine rA Tryz.func20 ?_;have hS:=St.start hA;refine qs ?_;refine bx ([.i .i64 x0.seq,X,Y,Z,ad]) ?_;intro g1 w1 bN;refine al ?_;intro h w2 a5;obtain ⟨r3,b1,H⟩:=oL H;refine ay ?_;refine lp (V1 a5.oR ai aj ak am b1) a5 ?_;intro w4 a8;refine au ?_;refine qy H (fun br H=>?_) (fun br H=>?_)
 ·refine qs ?_;refine qM (v:=.agg (mZ.cells (mZ.mk 0 [] [] [] []) (.sl none 0 (.k 0)) (.sl none 0 (.k 0)) (.sl none 0 (.k 0)) (.sl none 0 (.k 0)))) rfl rfl rfl rfl (fun _=>rfl) ?_;refine sb 0 ([.i .i64 0,.sl none 0 (.k 0),.sl none 0 (.k 0),.sl none 0 (.k 0),.sl none 0 (.k 0)]) ?_;intro w6 aC;refine qn ?_;obtain rfl:=oi H;refine yw (vs:=[.agg (mZ.cells (mZ.mk 0 [] [] [] []) (.sl none 0 (.k 0)) (.sl none 0 (.k 0)) (.sl none 0 (.k 0)) (.sl none 0 (.k 0)))]) rfl ⟨(yB 0 Ty.yU Ty.zh aC rfl rfl),trivial⟩ ?_;exact ⟨F,.sl none 0 (.k 0),.sl none 0 (.k 0),.sl none 0 (.k 0),.sl none 0 (.k 0),rfl,(oF.nil _),(oF.nil _),(oF.nil _),(oF.nil _),aC.pick [] (by decide)⟩
 ·obtain ⟨f,b4,H⟩:=oL H;refine ax ?_;refine lm (V3 a8.oR ai aj ak am b4) ?_;rintro v9 w9 ⟨bI,ba,al2,V,al3,a,al4,d,rfl,aK⟩;have bo:=a8.call aK;have c3:=aK.ext;obtain ⟨bC,cl,be⟩:=St.xD lU.sf 0 bo rfl;obtain ⟨bD,cm,bf⟩:=St.xD Chunk.sf 1 be rfl;obtain ⟨bE,cn,bO⟩:=St.xD oC.sf 2 bf rfl;refine al ?_;intro j w8 bX;refine sb 0 ([.i .i64 f.seq,ba,V,a,d]) ?_;intro cF bP;refine ax ?_;refine sc 0 ([.i .i64 0,ba,V,a,d]) ?_;intro cG ar;obtain ⟨l,bz,H⟩:=oL H;refine ax ?_;refine lm (akc (ar.Gq 1 rfl) bz) ?_;rintro e cH ⟨bH,_,rfl,aH⟩;have bQ:=ar.FP 1 [0,2,3,4,5,6] rfl (by decide) (by decide) aH;have c1:=aH.ext;refine au ?_;refine sc 1 ([.i .i64 0,e,V,a,d]) ?_;intro cI a4;obtain ⟨b8,b0,H⟩:=oL H;refine ax ?_;refine lm (akb (a4.Gq 2 rfl) b0) ?_;rintro g cJ ⟨ae,_,rfl,aJ⟩;have bR:=a4.FP 2 [0,1,3,4,5,6] rfl (by decide) (by decide) aJ;have c2:=aJ.ext;refine au ?_;refine sc 2 ([.i .i64 0,e,g,a,d]) ?_;intro cL u;refine qn ?_;refine pe (fun E wq=>∃ qQ:List Chunk,tY.k1 f l qQ=some r ∧ ∃ (p:jL),E=[(2,pl h 0),(3,pl j 0)]∧ae.le p∧po u [.row Chunk.t g qQ,.row lU.t e l,.box j [.i .i64 0,e,g,a,d],.row oC.t a f.oD,.row oH.t d f.oK,.box h [.i .i64 0,.sl none 0 (.k 0),.sl none 0 (.k 0),.sl none 0 (.k 0),.sl none 0 (.k 0)]] p wq) ?_ ?_
  ·refine aq ?_;refine qr (qD aaE rfl (u.rB (k:=0) rfl)) ?_;refine ax ?_;refine qC (fun (s:Int × (List Chunk)) E wq=>∃ (M:jL),E=[(2,pl h 0),(3,pl j 0),(26,.i .i64 (b8.length:Int)),(27,.i .i64 s.1)]∧ae.le M∧po u [.row Chunk.t g s.2,.row lU.t e l,.box j [.i .i64 0,e,g,a,d],.row oC.t a f.oD,.row oH.t d f.oK,.box h [.i .i64 0,.sl none 0 (.k 0),.sl none 0 (.k 0),.sl none 0 (.k 0),.sl none 0 (.k 0)]] M wq) H ?_ ?_
   ·exact lo (jj (pk [0,1,2,3,4,5] u))
   ·rintro c7 ⟨aT,b7⟩ E da hI H
    try dsimp only at hI
    obtain ⟨M,rfl,cz,n⟩:=hI;refine ay ?_;refine qy H (fun bs H=>?_) (fun bs H=>?_)
    ·refine ay ?_;obtain ⟨D,aO,G,aR,H⟩:=oU H;have z:=n.tK 2 rfl;refine rh 2 z n ?_;refine au ?_;refine hl 2 z n ?_;obtain ⟨_,⟨c8,c9,rfl,ca,cf,cg⟩,_⟩:=tt 35 0 n aO;refine au ?_;refine qu (yx (c:=[.b false]) 0 (aT.toNat) 32 D (Chunk.mk D.id false D.data D.oN) rfl rfl n rfl (oM aO).2 (by first | rfl | (show _=_*35+_;omega)) rfl Ty.O9 rfl (qY rfl) (by rintro cs ⟨a2,a3,rfl,P,b2,O⟩;exact ⟨a2,a3,rfl,P,b2,O⟩)) ?_;rintro _ dc Q;refine qh 2 z Q ?_;obtain ⟨_,⟨cA,cC,rfl,cb,ch,ci⟩,_⟩:=tt 35 0 Q aR;refine au ?_;refine qu (yx (c:=[.sl none 0 (.k 0)]) 0 (aT.toNat) 33 G (Chunk.mk G.id G.pX [] G.oN) rfl rfl Q rfl (oM aR).2 (by first | rfl | (show _=_*35+_;omega)) rfl Ty.O7 rfl (qY rfl) (by rintro cs ⟨a2,a3,rfl,P,b2,O⟩;exact ⟨.sl none 0 (.k 0),a3,rfl,P,(oF.nil _),O⟩)) ?_;rintro _ dd aD;refine qh 2 z aD ?_;refine ax ?_;exact nm H (jj aD)
    ·refine pw _ rfl ?_;exact nj ⟨b7,H,jj n⟩
  ·rintro E cM ⟨qQ,H,p,rfl,co,x⟩;refine pe (fun E wq=>∃ R:Int,tY.k2 f l qQ R=some r ∧ ∃ (q:jL),E=[(2,pl h 0),(3,pl j 0)]∧p.le q∧po x [.row Chunk.t g qQ,.row lU.t e l,.box j [.i .i64 R,e,g,a,d],.row oC.t a f.oD,.row oH.t d f.oK,.box h [.i .i64 0,.sl none 0 (.k 0),.sl none 0 (.k 0),.sl none 0 (.k 0),.sl none 0 (.k 0)]] q wq) ?_ ?_
   ·refine aq ?_;refine qr (qD aam rfl (x.rB (k:=1) rfl)) ?_;refine ax ?_;refine qC (fun (s:Int × Int) E wq=>∃ (L:jL),E=[(2,pl h 0),(3,pl j 0),(42,e),(43,.i .i64 (l.length:Int)),(44,.i .i64 s.1)]∧p.le L∧po x [.row Chunk.t g qQ,.row lU.t e l,.box j [.i .i64 s.2,e,g,a,d],.row oC.t a f.oD,.row oH.t d f.oK,.box h [.i .i64 0,.sl none 0 (.k 0),.sl none 0 (.k 0),.sl none 0 (.k 0),.sl none 0 (.k 0)]] L wq) H ?_ ?_
    ·exact lo (jj x)
    ·rintro c6 ⟨ck,U⟩ E cV hI H
     try dsimp only at hI
     obtain ⟨L,rfl,cy,a9⟩:=hI;refine ay ?_;refine qy H (fun bq H=>?_) (fun bq H=>?_)
     ·obtain ⟨B,b6,H⟩:=oL H;obtain ⟨_,⟨bA,bB,rfl,cd,ce⟩,bZ⟩:=tt 4 1 a9 b6;refine ay ?_;refine al ?_;intro bM cX bV;refine sb 0 ([.i .i64 B.seq,.s B.oJ.name,bA,bB]) ?_;intro cY bW;refine ax ?_;refine sc 3 ([.i .i64 (if U < wr (B.seq+1) then wr (B.seq+1) else U),e,g,a,d]) ?_;intro cZ bn;refine ax ?_;exact nm H (jj (pk [1,2,3,4,5,6] bn))
     ·refine pw _ rfl ?_;exact nj ⟨U,H,jj a9⟩
   ·rintro E cN ⟨R,H,q,rfl,cp,y⟩;refine pe (fun E wq=>∃ m:Int,tY.k3 f l qQ m=some r ∧ ∃ (I:jL),E=[(2,pl h 0),(3,pl j 0)]∧q.le I∧po y [.row Chunk.t g qQ,.row lU.t e l,.box j [.i .i64 m,e,g,a,d],.row oC.t a f.oD,.row oH.t d f.oK,.box h [.i .i64 0,.sl none 0 (.k 0),.sl none 0 (.k 0),.sl none 0 (.k 0),.sl none 0 (.k 0)]] I wq) ?_ ?_
    ·refine aq ?_;refine qr (qD aaF rfl (y.rB (k:=3) rfl)) ?_;refine ax ?_;refine qC (fun (s:Int × Int) E wq=>∃ (J:jL),E=[(2,pl h 0),(3,pl j 0),(57,a),(58,.i .i64 (f.oD.length:Int)),(59,.i .i64 s.1)]∧q.le J∧po y [.row Chunk.t g qQ,.row lU.t e l,.box j [.i .i64 s.2,e,g,a,d],.row oC.t a f.oD,.row oH.t d f.oK,.box h [.i .i64 0,.sl none 0 (.k 0),.sl none 0 (.k 0),.sl none 0 (.k 0),.sl none 0 (.k 0)]] J wq) H ?_ ?_
     ·exact lo (jj y)
     ·rintro c5 ⟨cj,S⟩ E cQ hI H
      try dsimp only at hI
      obtain ⟨J,rfl,cx,a7⟩:=hI;refine ay ?_;refine qy H (fun bp H=>?_) (fun bp H=>?_)
      ·obtain ⟨A,b5,H⟩:=oL H;obtain ⟨_,⟨b9,rfl,cc⟩,bY⟩:=tt 3 3 a7 b5;refine ay ?_;refine al ?_;intro bK cS bT;refine sb 0 ([.i .i64 A.seq,.i .i64 A.of,b9]) ?_;intro cT bU;refine ax ?_;refine sc 3 ([.i .i64 (if S < wr (A.seq+1) then wr (A.seq+1) else S),e,g,a,d]) ?_;intro cU bm;refine ax ?_;exact nm H (jj (pk [1,2,3,4,5,6] bm))
      ·refine pw _ rfl ?_;exact nj ⟨S,H,jj a7⟩
    ·rintro E cO ⟨m,H,I,rfl,cq,bS⟩;refine aq ?_;refine sb 5 ([.i .i64 m,e,g,a,d]) ?_;intro cP bg;refine qn ?_;obtain ⟨bF,cr,bt,bh⟩:=bg.rv 1 [0,2,3,4,5] rfl (by decide) (by decide);obtain ⟨bG,ct,bu,bi⟩:=bh.rv 0 [1,2,3,4] rfl (by decide) (by decide);obtain ⟨bb,cu,bv,bj⟩:=bi.rv 1 [0,2,3] rfl (by decide) (by decide);have bk:St [] w F bb [.box j [.i .i64 m,e,g,a,d],.row oH.t d f.oK,.box h [.i .i64 m,e,g,a,d]] _:=bj;obtain ⟨bc,cw,bw,a6⟩:=bk.rv 1 [0,2] rfl (by decide) (by decide);obtain rfl:=oi H;refine yw (vs:=[.agg (mZ.cells (mZ.mk m l qQ f.oD f.oK) e g a d)]) rfl ⟨(yB 1 Ty.yU Ty.zh a6 rfl rfl),trivial⟩ ?_;exact ⟨bc,e,g,a,d,rfl,(mo bt),(mo bu),(mo bv),bw,a6.pick [] (by decide)⟩
def sV.k3 (a:mZ) (rZ:List lU) (tc:List Chunk) (b:Int):Option mZ :=
  some (mZ.mk b rZ tc a.oD a.oK)
def sV.l4 (c:mZ) (rZ:List lU) (tc:List Chunk) (e:(Int × Int)→Option mZ):(Int × Int)→Option mZ
  | (a,b) =>
    if decide (a < (c.oD.length:Int)) then
      bd (ix c.oD a) fun d =>
      e (wr (a+1),(if b < wr (d.seq+1) then wr (d.seq+1) else b))
    else
      sV.k3 c rZ tc b
def sV.k2 (b:mZ) (a:Int) (rZ:List lU) (tc:List Chunk) (c:List Chunk):Option mZ :=
  loop (sV.l4 b rZ tc) (0,a)
def sV.k6 (a:Int) (d:(Int × (List Chunk) × (List Chunk))→Option mZ) (b:List Chunk) (c:List Chunk):Option mZ :=
  d (wr (a+1),b,c)
def sV.l5 (i:mZ) (g:Int) (rZ:List lU) (f:(Int × (List Chunk) × (List Chunk))→Option mZ):(Int × (List Chunk) × (List Chunk))→Option mZ
  | (a,e,c) =>
    if decide (a < (c.length:Int)) then
      bd (ix c a) fun j =>
      if decide (0 < (j.oN.length:Int)) then
        bd (ix c a) fun b =>
        bd (ix (c.set a.toNat (Chunk.mk b.id false b.data b.oN)) a) fun d =>
        bd (ix ((c.set a.toNat (Chunk.mk b.id false b.data b.oN)).set a.toNat (Chunk.mk d.id d.pX [] d.oN)) a) fun k =>
        bd (app (α:=Chunk) e [k]) fun h =>
        sV.k6 a f h ((c.set a.toNat (Chunk.mk b.id false b.data b.oN)).set a.toNat (Chunk.mk d.id d.pX [] d.oN))
      else
        sV.k6 a f e c
    else
      sV.k2 i g rZ e c
def sV.k1 (a:mZ) (b:Int) (rZ:List lU):Option mZ :=
  loop (sV.l5 a b rZ) (0,[],a.chunks)
def sV.k8 (a:Int) (d:(Int × Int × (List lU))→Option mZ) (b:Int) (c:List lU):Option mZ :=
  d (wr (a+1),b,c)
def sV.l7 (b:mZ) (e:(Int × Int × (List lU))→Option mZ):(Int × Int × (List lU))→Option mZ
  | (a,c,d) =>
    if decide (a < (b.oB.length:Int)) then
      bd (ix b.oB a) fun h =>
      if decide (0 < (h.oN.length:Int)) then
        bd (ix b.oB a) fun i =>
        bd (app (α:=lU) d [i]) fun g =>
        bd (ix b.oB a) fun f =>
        sV.k8 a e (if c < wr (f.seq+1) then wr (f.seq+1) else c) g
      else
        sV.k8 a e c d
    else
      sV.k1 b c d
def sV (x0:mZ):Option mZ :=
  bd (xw x0) fun a =>
  loop (sV.l7 a) (0,0,[])
set_option maxHeartbeats 2000000 in
theorem acs {x0:mZ} {r:mZ} {aX:jD} {aY:jD} {ba:jD} {bb:jD} (hA:Gd F w) (b1:oF lU.t F aX x0.oB) (b4:oF Chunk.t F aY x0.chunks) (b5:oF oC.t F ba x0.oD) (b6:oF oH.t F bb x0.oK) (H:sV x0=some r):pa aac K 23 [.agg (mZ.cells x0 aX aY ba bb)] w fun v w'=>∃ (F':jL) (bs:jD) (bt:jD) (bu:jD) (bv:jD),v = .agg (mZ.cells r bs bt bu bv)∧oF lU.t F' bs (r.oB)∧oF Chunk.t F' bt (r.chunks)∧oF oC.t F' bu (r.oD)∧oF oH.t F' bv (r.oK)∧St [] w F F' [] w':=by
 refine rA Tryz.func23 ?_;have hS:=St.start hA;refine qs ?_;refine bx ([.i .i64 x0.seq,aX,aY,ba,bb]) ?_;intro m w1 ct;refine al ?_;intro g w2 bh;obtain ⟨a,cb,H⟩:=oL H;refine ax ?_;refine lm (V7 bh.oR b1 b4 b5 b6 cb) ?_;rintro v4 w4 ⟨ai,j,l,e,d,rfl,bm⟩;have cw:=bh.call bm;have cR:=bm.ext;refine sb 5 ([.i .i64 a.seq,j,l,e,d]) ?_;intro w5 bj;refine ax ?_;have bO:=(bj.rB (k:=2) rfl).cells;have bP:=(bj.rB (k:=3) rfl).cells;refine qr (FI (vs:=[(3,e),(4,d)]) (v:=.agg (mZ.cells (mZ.mk 0 [] [] a.oD a.oK) (.sl none 0 (.k 0)) (.sl none 0 (.k 0)) e d)) Ty.VP rfl (by simp only [xR,bO,bP];rfl)) ?_;refine al ?_;intro h w6 cx;refine sb 0 ([.i .i64 0,.sl none 0 (.k 0),.sl none 0 (.k 0),e,d]) ?_;intro w9 a7;refine qn ?_;refine pe (fun E wq=>∃ u:Int,∃ rZ:List lU,sV.k1 a u rZ=some r ∧ ∃ (B:jL) (f:jD),E=[(1,pl m 0),(2,pl g 0),(3,pl h 0)]∧ai.le B∧po a7 [.box h [.i .i64 u,f,.sl none 0 (.k 0),e,d],.row lU.t j a.oB,.row Chunk.t l a.chunks,.row oC.t e a.oD,.row oH.t d a.oK,.box g [.i .i64 0,.sl none 0 (.k 0),.sl none 0 (.k 0),.sl none 0 (.k 0),.sl none 0 (.k 0)],.box m [.i .i64 a.seq,j,l,e,d],.row lU.t f rZ] B wq) ?_ ?_
 ·refine ax ?_;refine qC (fun (s:Int × Int × (List lU)) E wq=>∃ (P:jL) (M:jD),E=[(1,pl m 0),(2,pl g 0),(3,pl h 0),(4,.i .i64 s.1)]∧ai.le P∧po a7 [.box h [.i .i64 s.2.1,M,.sl none 0 (.k 0),e,d],.row lU.t j a.oB,.row Chunk.t l a.chunks,.row oC.t e a.oD,.row oH.t d a.oK,.box g [.i .i64 0,.sl none 0 (.k 0),.sl none 0 (.k 0),.sl none 0 (.k 0),.sl none 0 (.k 0)],.box m [.i .i64 a.seq,j,l,e,d],.row lU.t M s.2.2] P wq) H ?_ ?_
  ·have b7:=a7.sY lU.t;exact lo ⟨ai,(.sl none 0 (.k 0)),rfl,(jL.le.refl _),b7.pick [1,2,3,4,5,6,7,0] (by decide)⟩
  ·rintro cp ⟨bp,y,br⟩ E d2 hI H
   try dsimp only at hI
   obtain ⟨P,M,rfl,cP,q⟩:=hI;refine ay ?_;refine qr (qD aam rfl (q.rB (k:=1) rfl)) ?_;refine au ?_;refine qy H (fun bM H=>?_) (fun bM H=>?_)
   ·refine qk ?_;refine pe (fun E wq=>∃ aD:Int,∃ aO:List lU,sV.k8 bp cp aD aO=some r ∧ ∃ (ah:jL) (V:jD),E=[(1,pl m 0),(2,pl g 0),(3,pl h 0),(4,.i .i64 bp)]∧P.le ah∧po q [.box h [.i .i64 aD,V,.sl none 0 (.k 0),e,d],.row lU.t j a.oB,.row Chunk.t l a.chunks,.row oC.t e a.oD,.row oH.t d a.oK,.box g [.i .i64 0,.sl none 0 (.k 0),.sl none 0 (.k 0),.sl none 0 (.k 0),.sl none 0 (.k 0)],.box m [.i .i64 a.seq,j,l,e,d],.row lU.t V aO] ah wq) ?_ ?_
    ·obtain ⟨dA,cj,H⟩:=oL H;obtain ⟨_,⟨dd,de,rfl,c9,cA⟩,_⟩:=tt 4 1 q cj;refine ax ?_;refine qy H (fun bN H=>?_) (fun bN H=>?_)
     ·refine qU ?_;obtain ⟨bf,ck,cn,bZ,H⟩:=oU H;refine rf q ?_;refine au ?_;refine Dv 6 Ty.Bt q ?_;obtain ⟨_,⟨aU,aV,rfl,ce,cf⟩,bS⟩:=tt 4 1 q ck;refine au ?_;refine qq (tD 0 (lU.cells bf aU aV) Ty.KD Ty.sJ rfl bS (by first | omega | rfl) rfl (qY rfl)) ?_;refine qx (sh (t:=lU.t) (vs:=[.agg (lU.cells bf aU aV)]) (xs:=[bf]) aam Ty.Bb rfl ⟨⟨aU,aV,rfl,ce,cf⟩,trivial⟩ rfl rfl q) ?_;rintro cU d5 a8;refine qw a8 ?_;refine aP 8 a8 (a8.tf (k:=0) rfl) bZ ?_;intro X d6 a9;refine au ?_;refine qu (CY (c:=[X]) 1 ([.i .i64 y,X,.sl none 0 (.k 0),e,d]) rfl rfl a9 rfl (a9.rB (k:=8) rfl).cells Ty.ZD (by simp only [tZ,uR,rC,(a9.rB (k:=8) rfl).one];rfl) rfl rfl) ?_;rintro _ d7 Q;refine qw Q ?_;refine qn ?_;obtain ⟨Y,cl,H⟩:=oL H;refine rf Q ?_;refine au ?_;refine Dv 7 Ty.Bt Q ?_;obtain ⟨_,⟨df,dg,rfl,cC,cD⟩,bT⟩:=tt 4 2 Q cl;refine au ?_;refine qq (su 0 Ty.uW rfl bT (by first | omega | rfl) rfl) ?_;refine au ?_;refine sC 1 ([.i .i64 (if y < wr (Y.seq+1) then wr (Y.seq+1) else y),X,.sl none 0 (.k 0),e,d]) ?_;intro d8 bH;refine ax ?_;exact nj ⟨(if y < wr (Y.seq+1) then wr (Y.seq+1) else y),cn,H,⟨_,X,rfl,pc,pk [1,2,3,4,5,6,7,8] bH⟩⟩
     ·refine ax ?_;exact nj ⟨y,br,H,⟨_,M,rfl,pc,q⟩⟩
    ·rintro E d3 ⟨aD,aO,H,ah,V,rfl,cQ,bG⟩;refine ax ?_;exact nm H ⟨_,V,rfl,pc,bG⟩
   ·refine pw _ rfl ?_;exact nj ⟨y,br,H,⟨_,M,rfl,pc,q⟩⟩
 ·rintro E dj ⟨u,rZ,H,B,f,rfl,cF,am⟩;refine pe (fun E wq=>∃ tc:List Chunk,∃ S:List Chunk,sV.k2 a u rZ tc S=some r ∧ ∃ (G:jL) (n:jD),E=[(1,pl m 0),(2,pl g 0),(3,pl h 0)]∧B.le G∧po am [.box h [.i .i64 u,f,n,e,d],.row lU.t j a.oB,.row Chunk.t l S,.row oC.t e a.oD,.row oH.t d a.oK,.box g [.i .i64 0,.sl none 0 (.k 0),.sl none 0 (.k 0),.sl none 0 (.k 0),.sl none 0 (.k 0)],.box m [.i .i64 a.seq,j,l,e,d],.row lU.t f rZ,.row Chunk.t n tc] G wq) ?_ ?_
  ·refine ax ?_;refine qC (fun (s:Int × (List Chunk) × (List Chunk)) E wq=>∃ (O:jL) (L:jD),E=[(1,pl m 0),(2,pl g 0),(3,pl h 0),(5,.i .i64 s.1)]∧B.le O∧po am [.box h [.i .i64 u,f,L,e,d],.row lU.t j a.oB,.row Chunk.t l s.2.2,.row oC.t e a.oD,.row oH.t d a.oK,.box g [.i .i64 0,.sl none 0 (.k 0),.sl none 0 (.k 0),.sl none 0 (.k 0),.sl none 0 (.k 0)],.box m [.i .i64 a.seq,j,l,e,d],.row lU.t f rZ,.row Chunk.t L s.2.1] O wq) H ?_ ?_
   ·have bF:=am.sY Chunk.t;exact lo ⟨B,(.sl none 0 (.k 0)),rfl,(jL.le.refl _),bF.pick [1,2,3,4,5,6,7,8,0] (by decide)⟩
   ·rintro co ⟨D,bq,aH⟩ E ds hI H
    try dsimp only at hI
    obtain ⟨O,L,rfl,cN,p⟩:=hI;refine ay ?_;refine qr (qD aaE rfl (p.rB (k:=2) rfl)) ?_;refine au ?_;refine qy H (fun bJ H=>?_) (fun bJ H=>?_)
    ·refine qk ?_;refine pe (fun E wq=>∃ aJ:List Chunk,∃ aK:List Chunk,sV.k6 D co aJ aK=some r ∧ ∃ (ae:jL) (U:jD),E=[(1,pl m 0),(2,pl g 0),(3,pl h 0),(5,.i .i64 D)]∧O.le ae∧po p [.box h [.i .i64 u,f,U,e,d],.row lU.t j a.oB,.row Chunk.t l aK,.row oC.t e a.oD,.row oH.t d a.oK,.box g [.i .i64 0,.sl none 0 (.k 0),.sl none 0 (.k 0),.sl none 0 (.k 0),.sl none 0 (.k 0)],.box m [.i .i64 a.seq,j,l,e,d],.row lU.t f rZ,.row Chunk.t U aJ] ae wq) ?_ ?_
     ·obtain ⟨d9,ch,H⟩:=oL H;obtain ⟨_,⟨cX,cY,rfl,cy,c3,c4⟩,_⟩:=tt 35 2 p ch;refine ax ?_;refine qy H (fun bK H=>?_) (fun bK H=>?_)
      ·refine qU ?_;obtain ⟨z,bn,A,bo,H⟩:=oU H;have R:=p.tK 6 rfl;refine rh 6 R p ?_;refine au ?_;refine Dv 6 Ty.AV p ?_;refine au ?_;refine hl 6 R p ?_;obtain ⟨_,⟨cZ,da,rfl,cz,c5,c6⟩,_⟩:=tt 35 2 p bn;refine au ?_;refine qu (yx (c:=[.b false]) 2 (D.toNat) 32 z (Chunk.mk z.id false z.data z.oN) rfl rfl p rfl (oM bn).2 (by first | rfl | (show _=_*35+_;omega)) rfl Ty.O9 rfl (qY rfl) (by rintro cs ⟨a2,a3,rfl,c0,b2,b3⟩;exact ⟨a2,a3,rfl,c0,b2,b3⟩)) ?_;rintro _ dx a4;refine qh 6 R a4 ?_;obtain ⟨_,⟨db,dc,rfl,c1,c7,c8⟩,_⟩:=tt 35 2 a4 bo;refine au ?_;refine qu (yx (c:=[.sl none 0 (.k 0)]) 2 (D.toNat) 33 A (Chunk.mk A.id A.pX [] A.oN) rfl rfl a4 rfl (oM bo).2 (by first | rfl | (show _=_*35+_;omega)) rfl Ty.O7 rfl (qY rfl) (by rintro cs ⟨a2,a3,rfl,c0,b2,b3⟩;exact ⟨.sl none 0 (.k 0),a3,rfl,c0,(oF.nil _),b3⟩)) ?_;rintro _ dy J;refine qh 6 R J ?_;refine qn ?_;obtain ⟨be,ci,cm,bY,H⟩:=oU H;refine rf J ?_;refine au ?_;refine Dv 6 Ty.AV J ?_;obtain ⟨_,⟨aR,aT,rfl,ca,cc,cd⟩,bR⟩:=tt 35 2 J ci;refine au ?_;refine qq (tD 0 (Chunk.cells be aR aT) Ty.Qw Ty.tg rfl bR (by first | omega | rfl) rfl (qY rfl)) ?_;refine qx (sh (t:=Chunk.t) (vs:=[.agg (Chunk.cells be aR aT)]) (xs:=[be]) aaE Ty.Dy rfl ⟨⟨aR,aT,rfl,ca,cc,cd⟩,trivial⟩ rfl rfl J) ?_;rintro cT dz a5;refine qw a5 ?_;refine aP 9 a5 (a5.tf (k:=0) rfl) bY ?_;intro bc d0 a6;refine au ?_;refine qu (CY (c:=[bc]) 1 ([.i .i64 u,f,bc,e,d]) rfl rfl a6 rfl (a6.rB (k:=9) rfl).cells Ty.ZE (by simp only [tZ,uR,rC,(a6.rB (k:=9) rfl).one];rfl) rfl rfl) ?_;rintro _ d1 bk;refine qw bk ?_;refine ax ?_;exact nj ⟨cm,((aH.set D.toNat (Chunk.mk z.id false z.data z.oN)).set D.toNat (Chunk.mk A.id A.pX [] A.oN)),H,⟨_,bc,rfl,pc,pk [1,2,3,4,5,6,7,8,9] bk⟩⟩
      ·refine ax ?_;exact nj ⟨bq,aH,H,⟨_,L,rfl,pc,p⟩⟩
     ·rintro E du ⟨aJ,aK,H,ae,U,rfl,cO,bE⟩;refine ax ?_;exact nm H ⟨_,U,rfl,pc,bE⟩
    ·refine pw _ rfl ?_;exact nj ⟨bq,aH,H,⟨_,L,rfl,pc,p⟩⟩
  ·rintro E dk ⟨tc,S,H,G,n,rfl,cG,ar⟩;refine pe (fun E wq=>∃ x:Int,sV.k3 a rZ tc x=some r ∧ ∃ (Z:jL),E=[(2,pl g 0),(3,pl h 0)]∧G.le Z∧po ar [.box h [.i .i64 x,f,n,e,d],.row oC.t e a.oD,.row oH.t d a.oK,.box g [.i .i64 0,.sl none 0 (.k 0),.sl none 0 (.k 0),.sl none 0 (.k 0),.sl none 0 (.k 0)],.row lU.t f rZ,.row Chunk.t n tc] Z wq) ?_ ?_
   ·refine ax ?_;refine qC (fun (s:Int × Int) E wq=>∃ (ad:jL),E=[(1,pl m 0),(2,pl g 0),(3,pl h 0),(6,.i .i64 s.1)]∧G.le ad∧po ar [.box h [.i .i64 s.2,f,n,e,d],.row lU.t j a.oB,.row Chunk.t l S,.row oC.t e a.oD,.row oH.t d a.oK,.box g [.i .i64 0,.sl none 0 (.k 0),.sl none 0 (.k 0),.sl none 0 (.k 0),.sl none 0 (.k 0)],.box m [.i .i64 a.seq,j,l,e,d],.row lU.t f rZ,.row Chunk.t n tc] ad wq) H ?_ ?_
    ·exact lo (jj ar)
    ·rintro cS ⟨cE,aC⟩ E dq hI H
     try dsimp only at hI
     obtain ⟨ad,rfl,cM,I⟩:=hI;refine ay ?_;refine qr (qD aaF rfl (I.rB (k:=3) rfl)) ?_;refine au ?_;refine qy H (fun bI H=>?_) (fun bI H=>?_)
     ·refine ay ?_;obtain ⟨bw,cg,H⟩:=oL H;refine rf I ?_;refine au ?_;refine Dv 6 Ty.Bu I ?_;obtain ⟨_,⟨cV,rfl,c2⟩,bQ⟩:=tt 3 3 I cg;refine au ?_;refine qq (su 0 Ty.uW rfl bQ (by first | omega | rfl) rfl) ?_;refine au ?_;refine sC 0 ([.i .i64 (if aC < wr (bw.seq+1) then wr (bw.seq+1) else aC),f,n,e,d]) ?_;intro dr bD;refine ax ?_;exact nm H (jj bD)
     ·refine pw _ rfl ?_;exact nj ⟨aC,H,jj (pk [0,3,4,5,7,8] I)⟩
   ·rintro E dm ⟨x,H,Z,rfl,cH,cu⟩;refine aq ?_;refine sb 3 ([.i .i64 x,f,n,e,d]) ?_;intro dn b8;refine qn ?_;obtain ⟨cq,cI,bU,b9⟩:=b8.rv 4 [0,1,2,3,5] rfl (by decide) (by decide);obtain ⟨cr,cJ,bV,bA⟩:=b9.rv 4 [0,1,2,3] rfl (by decide) (by decide);obtain ⟨bz,cK,bW,bB⟩:=bA.rv 1 [0,2,3] rfl (by decide) (by decide);have bC:St [] w F bz [.box h [.i .i64 x,f,n,e,d],.row oH.t d a.oK,.box g [.i .i64 x,f,n,e,d]] _:=bB;obtain ⟨b0,cL,bX,bi⟩:=bC.rv 1 [0,2] rfl (by decide) (by decide);obtain rfl:=oi H;refine yw (vs:=[.agg (mZ.cells (mZ.mk x rZ tc a.oD a.oK) f n e d)]) rfl ⟨(yB 1 Ty.yU Ty.zh bi rfl rfl),trivial⟩ ?_;exact ⟨b0,f,n,e,d,rfl,(mo bU),(mo bV),(mo bW),bX,bi.pick [] (by decide)⟩
end
end Go.Wk.Lf
end
section
namespace Go.Wk.Lf
open Go.V Go.Proofs
open Go.V Go.Proofs Go.Sort
abbrev KK:Tb:=fun f args h M=>IG aac Qo 96 4 f args h M∨IG aac (ye aac) 168 32 f args h M∨ye aac f args h M∨B4 aac f args h M∨FH aac (B4 aac) 83 f args h M∨FH aac (B4 aac) 88 f args h M∨FH aac (B4 aac) 92 f args h M
instance : Kn (ye aac) KK := ⟨fun _ _ _ _ h => .inr (.inr (.inl h))⟩
theorem Sz:∀ f args h M,B4 aac f args h M→KK f args h M:=fun _ _ _ _ h=>.inr (.inr (.inr (.inl h)))
theorem agA:∀ args h M,FH aac (B4 aac) 83 83 args h M→KK 83 args h M:=fun _ _ _ h=>.inr (.inr (.inr (.inr (.inl h))))
theorem agC:∀ args h M,FH aac (B4 aac) 88 88 args h M→KK 88 args h M:=fun _ _ _ h=>.inr (.inr (.inr (.inr (.inr (.inl h)))))
theorem agB:∀ args h M,FH aac (B4 aac) 92 92 args h M→KK 92 args h M:=fun _ _ _ h=>.inr (.inr (.inr (.inr (.inr (.inr h)))))
def sA (a b:Loc):Int:=JI [C9 a.pE b.pE,C9 a.file b.file,C9 a.off b.off,C9 a.len b.len]
theorem KQ (a b:Int):EO a b=some (C9 a b):=by
 simp only [EO,cmp_isNaN_int,bd,C9]
 simp only [ne_eq,not_true_eq_false,decide_false,Bool.false_eq_true,if_false,decide_eq_true_eq]
 split <;> (try split) <;> rfl
theorem or_eq (xs:List Int) (h:xs.length≤1073741824):Da xs=some (JI xs):=by
 have key:∀ (m i:Nat),i≤xs.length→xs.length - i < m→iter (Da.l2 xs) m (i:Int)=some (JI (xs.drop i)):=by
  intro m
  induction m with
  | zero=>intro i _ h;omega
  | succ m ih =>
   intro i hi hm;rw [iter]
   simp only [Da.l2,Da.k1,decide_eq_true_eq]
   by_cases hn:i < xs.length
   ·have hw:wr ((i:Int)+1)=((i+1:Nat):Int):=by
     have:=TZ (x:=(i:Int)+1) (n:=i+1) (by omega) (by omega);exact this
    have hix:ix xs (i:Int)=some xs[i]:=by
     unfold ix
     simp [hn]
    rw [if_pos (by omega),hix]
    simp only [bd]
    rw [hw,List.drop_eq_getElem_cons hn]
    simp only [JI]
    by_cases h0:xs[i]=0
    ·rw [if_neg (by simp [h0]),if_neg (by simp [h0])]
     exact ih (i+1) (by omega) (by omega)
    ·rw [if_pos (by simp [h0]),if_pos h0]
   ·rw [if_neg (by omega),Fy (by omega)];rfl
 have:=key 18446744073709551616 0 (pY _) (by omega);exact this
theorem ahJ (a b:Loc):S5 a b=some (sA a b):=by
 simp only [S5,KQ,bd]
 rw [or_eq _ (by simp)];rfl
theorem L9 (a b:Loc):sA a b < 0 ↔ a.pE < b.pE∨a.pE=b.pE∧(a.file < b.file∨a.file=b.file∧(a.off < b.off∨a.off=b.off∧a.len < b.len)):=by
 simp only [sA,JI,C9]
 repeat' split
 all_goals omega
theorem zR (a b:Loc):ltOf sA a b=decide (sA a b < 0):=rfl
theorem JJ:SWO (ltOf sA) where
 irrefl x:=by simp only [zR,decide_eq_false_iff_not,L9];omega
 trans x y z h1 h2:=by simp only [zR,decide_eq_true_eq,L9] at *;omega
 ntrans x y z h1 h2:=by simp only [zR,decide_eq_false_iff_not,L9] at *;omega
theorem agY {a b:Loc} (h1:a.pE=b.pE) (h2:a.file=b.file) (h3:a.off=b.off) (h4:a.len=b.len):a=b:=by cases a;cases b;simp_all
theorem Ma (x y:Loc) (h1:ltOf sA x y=false) (h2:ltOf sA y x=false):x=y:=by
 simp only [zR,decide_eq_false_iff_not,L9] at h1 h2
 exact agY (by omega) (by omega) (by omega) (by omega)
theorem agl (a b:List UInt8):Yq a b=some (uE a b):=rfl
theorem Wu:SWO (ltOf uE):=akJ (f:=fun x=>x) fun _ _=>I4 _ _
theorem acC (x y:List UInt8) (h1:ltOf uE x y=false) (h2:ltOf uE y x=false):x=y:=by
 rw [I4] at h1 h2;exact H9 h1 h2
theorem akC (a:Option (Nat × Nat)) (k:Cap) (w:Hp):pa aac KK 96 [.sl a 0 k,.f 97 []] w fun u w'=>u = .qR []∧w' = w :=
 XW.mono (WK 100 _ (.call (.qR []) w) (by kernel_rfl)) fun o e=>⟨_,_,e,rfl,rfl⟩
theorem akB (a:Option (Nat × Nat)) (k:Cap) (w:Hp):pa aac KK 168 [.sl a 0 k,.f 169 []] w fun u w'=>u = .qR []∧w' = w :=
 XW.mono (WK 100 _ (.call (.qR []) w) (by kernel_rfl)) fun o e=>⟨_,_,e,rfl,rfl⟩
theorem akv {F:jL} {w:Hp} {v:jD} {xs r:List Loc} (hS:St v.own w F F [.row Loc.t v xs] w) (H:GI sA xs=some r):pa aac KK 96 [v,.f 97 []] w fun u w'=>∃ F',u = .qR []∧St v.own w F F' [.row Loc.t v r] w' :=
 ZP (K0:=Qo) (fun _ _ _ h=>.inl h) rfl JJ Ma Tryz.func97 rfl (by decide) akC (fun G h' cs x ds y hG hx hy=>by
  obtain rfl:=hx
  obtain rfl:=hy
  exact (ahY hG (ahJ x y)).mono fun v w' ⟨F',e,_⟩=>e) hS H
theorem aks {F:jL} {w:Hp} {v:jD} {xs r:List (List UInt8)} (hS:St v.own w F F [.row rX v xs] w) (H:GI uE xs=some r):pa aac KK 168 [v,.f 169 []] w fun u w'=>∃ F',u = .qR []∧St v.own w F F' [.row rX v r] w' :=
 ZP (K0:=ye aac) (fun _ _ _ h=>.inr (.inl h)) rfl Wu acC Tryz.func169 rfl (by decide) akB (fun G h' cs x ds y hG hx hy=>by
  obtain ⟨rfl,hx⟩:=hx
  obtain ⟨rfl,hy⟩:=hy
  exact (ag8 hG hx hy (agl x y)).mono fun v w' ⟨F',e,_⟩=>e) hS H
set_option maxRecDepth 100000 in
theorem X3 {K:Tb} (hL:∀ f args h M,B4 aac f args h M→K f args h M) {h:Hp} {b n m i vb y:Nat} {ck:Cap} {c d:List jD} (hW:Wf h) (hb:b < h.next) (hg:h.get b=some (.cells 35 c)) (hv:h.get vb=some (.cells 35 d)) (pM:vb≠b) (hi:i < n) (yq:n≤m) (Am:c.length=m*35) (hy:0 < y) (xU:y*35≤d.length) (uk:c.all jD.one=true) (wK:d.all jD.one=true) (RE:n+y≤2 ^ 30) (Jp:vb < h.next) :
  pa aac K 83 [.sl (some (b,0)) n (.k m),.i .i64 (i:Int),.sl (some (vb,0)) y ck] h (Ku 35 h b i n y c d):=by
 have XX:d.drop 0=d:=yu;have D0:h.get h.next=none:=hW _ (px _);refine BM Tryz.func83 ?_;refine JP ?_;refine qs ?_;refine q2 ?_;refine qM rfl rfl rfl rfl (wa i n aaE Ty.tg rfl (.inr ⟨_,_,rfl,rfl⟩) (.inl ⟨rfl,rfl⟩) (zx hi) yq (xO hi yq)) ?_;refine qn ?_;refine wm ?_;refine qr (qD aaE rfl (.inr ⟨_,_,rfl,fun q=>by cases q⟩)) ?_;refine qm ?_;refine qU ?_;refine wm ?_;refine qr (oO rfl rfl uD) ?_;refine qn ?_;refine uS rfl (fun hc=>absurd (of_decide_eq_true hc) (by omega)) (fun _=>?_);refine qk ?_;refine wm ?_;refine qr (qD aaE rfl (.inr ⟨_,_,rfl,fun q=>by cases q⟩)) ?_;refine qm ?_;refine qU ?_;refine qs ?_;refine q2 ?_;refine qr (oO rfl rfl uD) ?_;refine qn ?_;refine uS rfl (fun hc=>absurd (of_decide_eq_true hc) (by omega)) (fun _=>?_);refine qk ?_;refine qU ?_;refine qs ?_;refine q2 ?_;refine qr (oO rfl rfl (yA (a:=n) (b:=y) (by omega))) ?_;refine qc ?_;refine qM (v:=.i .i64 (m:Int)) rfl rfl rfl rfl (fun h=>by simp only [oE,UJ,UK,pW,yY,vY,Ez,oS,look];rfl) ?_;refine qr (oO rfl rfl Bq) ?_;refine qn ?_;refine uS rfl (fun hc=>?_) (fun hc=>?_)
 ·have sR:m < n+y:=by have:=of_decide_eq_true hc;omega
  refine qs ?_;refine q2 ?_;refine qM rfl rfl rfl rfl (wa 0 i aaE Ty.tg rfl (.inl ⟨rfl,rfl⟩) (.inr ⟨_,_,rfl,rfl⟩) (pY _) (by omega) (by omega)) ?_;refine q2 ?_;refine qr (oO rfl rfl (yA (a:=n) (b:=y) (by omega))) ?_;refine qc ?_;refine qr (oO rfl rfl (QD (a:=n+y) (b:=i) (by omega) (by omega))) ?_;refine xm (Qh (N:=n+y - i) (c:=c) aaE Ty.Dy (by kernel_rfl) rfl rfl (by omega) (by omega) (by omega) (by omega) hg (by rw [Am];simp only [EB,xM,pA,DK];exact tG _ (by omega)) uk) ?_;rintro _ _ ⟨rfl,zs,tV,sS,rfl⟩;refine qc ?_;refine qN ?_
  simp only [EB,xM,DK]
  have zK:i+(n+y - i)=n+y:=by omega
  rw [zK];have g0:∀ B q,q < h.next→(h.new B).get q=h.get q:=fun B q hq=>by rw [Hp.rO,if_neg (by omega)]
  have K4:(h.new (.cells 35 ((c.drop 0).take (i*35)++zs))).get h.next=some (.cells 35 ((c.drop 0).take (i*35)++zs)):=by rw [Hp.rO,if_pos rfl]
  have e1:(i+y)*35=i*35+y*35:=rV _ _ _;have e2:(n - i)*35=n*35 - i*35:=CW _ _ _;have e3:(n+y)*35=n*35+y*35:=rV _ _ _;have e4:i*35≤n*35:=tG _ (zx hi);have e5:n*35≤m*35:=tG _ yq;have e6:(n+y - i)*35=n*35+y*35 - i*35:=by rw [CW,rV]
  have lD:((d.drop 0).take (y*35)).length=y*35:=by rw [rb,ue];omega
  have lB:((c.drop 0).take (i*35)++zs).length=(n+y)*35:=by rw [rH,rb,ue];omega
  have o1:((c.drop 0).take (i*35)++zs).all jD.one=true:=by rw [rC,AB uk,sS];rfl
  refine tR ?_;refine qs ?_;refine q2 ?_;refine qM rfl rfl rfl rfl (II i (n+y) aaE Ty.tg rfl (.inr ⟨_,_,rfl,rfl⟩) (.inl ⟨rfl,rfl⟩) (by omega) (px _) (by omega)) ?_;refine qc ?_;refine xm (B3 (m:=y) aaE Ty.tg rfl rfl (by omega) K4 ((g0 _ _ Jp).trans hv) (by rw [pA];exact xU) (by rw [lB];omega) wK hy) ?_;rintro _ _ rfl;refine qN ?_;rw [pA];have vQ:=yt (c:=(c.drop 0).take (i*35)++zs) (o:=i*35) (vs:=(d.drop 0).take (y*35)) (by rw [lD,lB];omega);refine tR ?_;refine qU ?_;refine uT (G:=fun _ _=>none) [0,1,2,3,4,5,6,7,8] rfl Ty.mixed (by kernel_rfl) (fun _ _ _ q=>by cases q) ?_;refine q3 ?_;refine qr (oO rfl rfl (yA (a:=i) (b:=y) (by omega))) ?_;refine qM rfl rfl rfl rfl (II (i+y) (n+y) aaE Ty.tg rfl (.inr ⟨_,_,rfl,rfl⟩) (.inl ⟨rfl,rfl⟩) (by omega) (px _) (by omega)) ?_;refine q2 ?_;refine qM rfl rfl rfl rfl (wa i n aaE Ty.tg rfl (.inr ⟨_,_,rfl,rfl⟩) (.inl ⟨rfl,rfl⟩) (by omega) (by omega) (by omega)) ?_;refine qx (B3 (m:=n - i) aaE Ty.tg rfl rfl (by omega) (by rw [Hp.pD,if_pos rfl]) (by rw [Hp.pD,if_neg (by omega)];exact (g0 _ _ hb).trans hg) (by rw [pA];omega) (by rw [vQ,lB,pA];omega) uk (by omega)) ?_;rintro _ _ rfl;refine pQ.tT (jL.le.refl _) (fun _ _ _ q=>by cases q) ?_;refine qn ?_;refine wm ?_;refine qm ?_;refine qt ?_
  simp only [pA]
  obtain ⟨k1,k2⟩:=Su (z:=35) hi yq Am xU tV;refine ⟨h.next,none,_,rfl,by rw [Hp.pD,if_pos rfl],by rw [Bl (by rw [k2];omega)];exact k1,fun _=>by rw [k2];exact px _,fun q e=>(by cases e),CE (CE o1 (AB wK)) (AB uk),BY _,AN _,fun q hq=>?_,fun q hq _=>?_,.inr (px _)⟩
  ·have xT:h.next+1≤q:=hq
   rw [Hp.pD,if_neg (by omega),Hp.pD,if_neg (by omega),Hp.rO,if_neg (by omega)];exact hW _ (by omega)
  ·rw [Hp.pD,if_neg (by omega),Hp.pD,if_neg (by omega)]
   exact g0 _ _ hq
 ·have sR:n+y≤m:=by have:=of_decide_eq_false hc;omega
  have e1:(i+y)*35=i*35+y*35:=rV _ _ _;have e2:(n - i)*35=n*35 - i*35:=CW _ _ _;have e3:(n+y)*35=n*35+y*35:=rV _ _ _;have e4:i*35≤n*35:=tG _ (zx hi);have e5:(n+y)*35≤m*35:=tG _ sR;have e7:n+y - (i+y)=n - i:=by omega
  refine qk ?_;refine qs ?_;refine q3 ?_;refine qr (oO rfl rfl (yA (a:=n) (b:=y) (by omega))) ?_;refine qM rfl rfl rfl rfl (wa 0 (n+y) aaE Ty.tg rfl (.inl ⟨rfl,rfl⟩) (.inr ⟨_,_,rfl,rfl⟩) (pY _) (by omega) (by omega)) ?_;refine qc ?_;refine qN ?_
  simp only [EB,xM,DK]
  refine tR ?_;refine qU ?_;refine qs ?_;refine q4 ?_;refine qr (oO rfl rfl (yA (a:=i) (b:=y) (by omega))) ?_;refine qM rfl rfl rfl rfl (wa (i+y) (n+y) aaE Ty.tg rfl (.inr ⟨_,_,rfl,rfl⟩) (.inl ⟨rfl,rfl⟩) (by omega) (by omega) (by omega)) ?_;refine Bp (f:=134) (args:=[.sl (some (vb,0)) y ck,.sl (some (b,0+(i+y)*35)) (n+y - (i+y)) (.k (m - (i+y)))]) rfl rfl rfl rfl (XW.known (M:=fun v w'=>v = .b false∧w' = h) (hL _ _ _ _ ⟨_,_,4,_,_,_,_,_,_,_,_,_,_,_,_,_,_,Tryz.func134,rfl,rfl,rfl,by kernel_rfl,aaE,Ty.tg,rfl,pM,hv,by decide,by omega,hg,by omega,rfl,rfl⟩) fun v h' q=>⟨v,h',rfl,q⟩) ?_;rintro _ w1 ⟨rfl,BE⟩;obtain rfl:h=w1:=BE.symm;refine pQ.now ?_;refine qm ?_;refine Qf rfl ?_;refine qU ?_;refine uT (G:=fun _ _=>none) [0,1,2,3,4,5,6,7,8] rfl Ty.mixed (by kernel_rfl) (fun _ _ _ q=>by cases q) ?_;refine q3 ?_;refine qr (oO rfl rfl (yA (a:=i) (b:=y) (by omega))) ?_;refine qM rfl rfl rfl rfl (wa (i+y) (n+y) aaE Ty.tg rfl (.inr ⟨_,_,rfl,rfl⟩) (.inl ⟨rfl,rfl⟩) (by omega) (by omega) (by omega)) ?_;refine q2 ?_;refine qM rfl rfl rfl rfl (wa i (n+y) aaE Ty.tg rfl (.inr ⟨_,_,rfl,rfl⟩) (.inl ⟨rfl,rfl⟩) (by omega) (by omega) (by omega)) ?_;refine qx (B3 (m:=n - i) aaE Ty.tg rfl rfl (by omega) hg hg (by rw [pA];omega) (by rw [pA];omega) uk (by omega)) ?_;rintro _ _ rfl;refine pQ.tT (jL.le.refl _) (fun _ _ _ q=>by cases q) ?_;refine qN ?_
  simp only [pA]
  have lA:((c.drop (i*35)).take ((n - i)*35)).length=(n - i)*35:=by rw [rb,ue];omega
  have vQ:=yt (c:=c) (o:=(i+y)*35) (vs:=(c.drop (i*35)).take ((n - i)*35)) (by rw [lA];omega);refine tR ?_;refine qs ?_;refine q2 ?_;refine qM rfl rfl rfl rfl (wa i (n+y) aaE Ty.tg rfl (.inr ⟨_,_,rfl,rfl⟩) (.inl ⟨rfl,rfl⟩) (by omega) (by omega) (by omega)) ?_;refine qc ?_;refine xm (B3 (m:=y) aaE Ty.tg rfl rfl (by omega) (by rw [Hp.pD,if_pos rfl]) (by rw [Hp.pD,if_neg pM];exact hv) (by rw [pA];exact xU) (by rw [vQ,pA];omega) wK hy) ?_;rintro _ _ rfl;refine qn ?_;refine wm ?_;refine qm ?_;refine qt ?_
  simp only [pA]
  obtain ⟨k1,k2⟩:=Ss (z:=35) hi sR Am xU;refine ⟨b,some m,_,rfl,by rw [Hp.pD,if_pos rfl],k1,fun e=>(by cases e),fun q e=>(by obtain rfl:=oi e;exact ⟨k2,sR⟩),CE (CE uk (AB uk)) (AB wK),hb,px _,fun q hq=>?_,fun q hq As=>?_,.inl rfl⟩
  ·have xT:h.next≤q:=hq
   rw [Hp.pD,if_neg (by omega),Hp.pD,if_neg (by omega)];exact hW _ xT
  ·rw [Hp.pD,if_neg As,Hp.pD,if_neg As]
set_option maxRecDepth 100000 in
theorem aga {K:Tb} {t:To Chunk} {X:List Nat} {h0 h:Hp} {F0 F:jL} {L:List Ob} {bs rE:List Nat} {v v2:jD} {xs ys zs:List Chunk} (y9:t.size=35) (hS:St X h0 F0 F (.dp t rE v2 ys :: .dp t bs v xs::L) h) (hy:0 < ys.length) (hz:app xs ys=some zs) :
  pa aac K 83 [v,.i .i64 (xs.length:Int),v2] h (fun u h'=>∃ qv,St X h0 F0 F (.dp t qv u zs::L) h'):=by
 have vP:=(FO hz).1;refine BM Tryz.func83 ?_;refine JP ?_;refine qs ?_;refine q2 ?_;refine Qt (t:=t) 1 (xs.length:Int) (xs.length:Int) rfl rfl rfl rfl aaE (by rw [y9];exact Ty.tg) rfl (.inr ⟨_,_,rfl,rfl⟩) (.inl ⟨rfl,rfl⟩) hS rfl (by omega) (by omega) (by omega) ?_;intro v';refine qn ?_;refine wm ?_;refine qr (qD aaE rfl (hS.ub (k:=0) rfl)) ?_;refine qm ?_;refine qU ?_;refine wm ?_;refine qr (oO rfl rfl uD) ?_;refine qn ?_;refine uS rfl (fun hc=>absurd (of_decide_eq_true hc) (by omega)) (fun _=>?_);refine qk ?_;refine wm ?_;refine qr (qD aaE rfl (hS.ub (k:=1) rfl)) ?_;refine qm ?_;refine qU ?_;refine qs ?_;refine q2 ?_;refine qr (oO rfl rfl uD) ?_;refine qn ?_;refine uS rfl (fun _=>?_) (fun hc=>absurd rfl (of_decide_eq_false hc));refine qs ?_;refine q2 ?_;refine xm (Qi (t:=t) aaE (by rw [y9];exact Ty.Dy) (by kernel_rfl) rfl rfl hS hz) ?_;rintro u w' ⟨qv,hT⟩;refine qm ?_;refine qt ?_;exact ⟨qv,hT⟩
theorem af9 {F:jL} {w:Hp} {X:List Nat} {bs rE:List Nat} {v v2:jD} {i:Int} {xs ys r:List Chunk} (hS:St X w F F [.dp Chunk.o bs v xs,.dp Chunk.o rE v2 ys] w) (H:wZ xs i ys=some r) :
  pa aac KK 83 [v,.i .i64 i,v2] w fun u w'=>∃ qv,St X w F F [.dp Chunk.o qv u r] w' :=
 Sr (z:=35) rfl (by decide) (fun hS hy hz=>aga rfl hS hy hz) (X3 Sz) (X3 fun _ _ _ _ q=>q) (agA) hS H
set_option maxRecDepth 100000 in
theorem X5 {K:Tb} (hL:∀ f args h M,B4 aac f args h M→K f args h M) {h:Hp} {b n m i vb y:Nat} {ck:Cap} {c d:List jD} (hW:Wf h) (hb:b < h.next) (hg:h.get b=some (.cells 4 c)) (hv:h.get vb=some (.cells 4 d)) (pM:vb≠b) (hi:i < n) (yq:n≤m) (Am:c.length=m*4) (hy:0 < y) (xU:y*4≤d.length) (uk:c.all jD.one=true) (wK:d.all jD.one=true) (RE:n+y≤2 ^ 30) (Jp:vb < h.next) :
  pa aac K 88 [.sl (some (b,0)) n (.k m),.i .i64 (i:Int),.sl (some (vb,0)) y ck] h (Ku 4 h b i n y c d):=by
 have XX:d.drop 0=d:=yu;have D0:h.get h.next=none:=hW _ (px _);refine BM Tryz.func88 ?_;refine JP ?_;refine qs ?_;refine q2 ?_;refine qM rfl rfl rfl rfl (wa i n aam Ty.sJ rfl (.inr ⟨_,_,rfl,rfl⟩) (.inl ⟨rfl,rfl⟩) (zx hi) yq (xO hi yq)) ?_;refine qn ?_;refine wm ?_;refine qr (qD aam rfl (.inr ⟨_,_,rfl,fun q=>by cases q⟩)) ?_;refine qm ?_;refine qU ?_;refine wm ?_;refine qr (oO rfl rfl uD) ?_;refine qn ?_;refine uS rfl (fun hc=>absurd (of_decide_eq_true hc) (by omega)) (fun _=>?_);refine qk ?_;refine wm ?_;refine qr (qD aam rfl (.inr ⟨_,_,rfl,fun q=>by cases q⟩)) ?_;refine qm ?_;refine qU ?_;refine qs ?_;refine q2 ?_;refine qr (oO rfl rfl uD) ?_;refine qn ?_;refine uS rfl (fun hc=>absurd (of_decide_eq_true hc) (by omega)) (fun _=>?_);refine qk ?_;refine qU ?_;refine qs ?_;refine q2 ?_;refine qr (oO rfl rfl (yA (a:=n) (b:=y) (by omega))) ?_;refine qc ?_;refine qM (v:=.i .i64 (m:Int)) rfl rfl rfl rfl (fun h=>by simp only [oE,UJ,UK,pW,yY,vY,Ez,oS,look];rfl) ?_;refine qr (oO rfl rfl Bq) ?_;refine qn ?_;refine uS rfl (fun hc=>?_) (fun hc=>?_)
 ·have sR:m < n+y:=by have:=of_decide_eq_true hc;omega
  refine qs ?_;refine q2 ?_;refine qM rfl rfl rfl rfl (wa 0 i aam Ty.sJ rfl (.inl ⟨rfl,rfl⟩) (.inr ⟨_,_,rfl,rfl⟩) (pY _) (by omega) (by omega)) ?_;refine q2 ?_;refine qr (oO rfl rfl (yA (a:=n) (b:=y) (by omega))) ?_;refine qc ?_;refine qr (oO rfl rfl (QD (a:=n+y) (b:=i) (by omega) (by omega))) ?_;refine xm (Qh (N:=n+y - i) (c:=c) aam Ty.Bb (by kernel_rfl) rfl rfl (by omega) (by omega) (by omega) (by omega) hg (by rw [Am];simp only [EB,xM,pA,DK];exact tG _ (by omega)) uk) ?_;rintro _ _ ⟨rfl,zs,tV,sS,rfl⟩;refine qc ?_;refine qN ?_
  simp only [EB,xM,DK]
  have zK:i+(n+y - i)=n+y:=by omega
  rw [zK];have g0:∀ B q,q < h.next→(h.new B).get q=h.get q:=fun B q hq=>by rw [Hp.rO,if_neg (by omega)]
  have K4:(h.new (.cells 4 ((c.drop 0).take (i*4)++zs))).get h.next=some (.cells 4 ((c.drop 0).take (i*4)++zs)):=by rw [Hp.rO,if_pos rfl]
  have e1:(i+y)*4=i*4+y*4:=rV _ _ _;have e2:(n - i)*4=n*4 - i*4:=CW _ _ _;have e3:(n+y)*4=n*4+y*4:=rV _ _ _;have e4:i*4≤n*4:=tG _ (zx hi);have e5:n*4≤m*4:=tG _ yq;have e6:(n+y - i)*4=n*4+y*4 - i*4:=by rw [CW,rV]
  have lD:((d.drop 0).take (y*4)).length=y*4:=by rw [rb,ue];omega
  have lB:((c.drop 0).take (i*4)++zs).length=(n+y)*4:=by rw [rH,rb,ue];omega
  have o1:((c.drop 0).take (i*4)++zs).all jD.one=true:=by rw [rC,AB uk,sS];rfl
  refine tR ?_;refine qs ?_;refine q2 ?_;refine qM rfl rfl rfl rfl (II i (n+y) aam Ty.sJ rfl (.inr ⟨_,_,rfl,rfl⟩) (.inl ⟨rfl,rfl⟩) (by omega) (px _) (by omega)) ?_;refine qc ?_;refine xm (B3 (m:=y) aam Ty.sJ rfl rfl (by omega) K4 ((g0 _ _ Jp).trans hv) (by rw [pA];exact xU) (by rw [lB];omega) wK hy) ?_;rintro _ _ rfl;refine qN ?_;rw [pA];have vQ:=yt (c:=(c.drop 0).take (i*4)++zs) (o:=i*4) (vs:=(d.drop 0).take (y*4)) (by rw [lD,lB];omega);refine tR ?_;refine qU ?_;refine uT (G:=fun _ _=>none) [0,1,2,3,4,5,6,7,8] rfl Ty.mixed (by kernel_rfl) (fun _ _ _ q=>by cases q) ?_;refine q3 ?_;refine qr (oO rfl rfl (yA (a:=i) (b:=y) (by omega))) ?_;refine qM rfl rfl rfl rfl (II (i+y) (n+y) aam Ty.sJ rfl (.inr ⟨_,_,rfl,rfl⟩) (.inl ⟨rfl,rfl⟩) (by omega) (px _) (by omega)) ?_;refine q2 ?_;refine qM rfl rfl rfl rfl (wa i n aam Ty.sJ rfl (.inr ⟨_,_,rfl,rfl⟩) (.inl ⟨rfl,rfl⟩) (by omega) (by omega) (by omega)) ?_;refine qx (B3 (m:=n - i) aam Ty.sJ rfl rfl (by omega) (by rw [Hp.pD,if_pos rfl]) (by rw [Hp.pD,if_neg (by omega)];exact (g0 _ _ hb).trans hg) (by rw [pA];omega) (by rw [vQ,lB,pA];omega) uk (by omega)) ?_;rintro _ _ rfl;refine pQ.tT (jL.le.refl _) (fun _ _ _ q=>by cases q) ?_;refine qn ?_;refine wm ?_;refine qm ?_;refine qt ?_
  simp only [pA]
  obtain ⟨k1,k2⟩:=Su (z:=4) hi yq Am xU tV;refine ⟨h.next,none,_,rfl,by rw [Hp.pD,if_pos rfl],by rw [Bl (by rw [k2];omega)];exact k1,fun _=>by rw [k2];exact px _,fun q e=>(by cases e),CE (CE o1 (AB wK)) (AB uk),BY _,AN _,fun q hq=>?_,fun q hq _=>?_,.inr (px _)⟩
  ·have xT:h.next+1≤q:=hq
   rw [Hp.pD,if_neg (by omega),Hp.pD,if_neg (by omega),Hp.rO,if_neg (by omega)];exact hW _ (by omega)
  ·rw [Hp.pD,if_neg (by omega),Hp.pD,if_neg (by omega)]
   exact g0 _ _ hq
 ·have sR:n+y≤m:=by have:=of_decide_eq_false hc;omega
  have e1:(i+y)*4=i*4+y*4:=rV _ _ _;have e2:(n - i)*4=n*4 - i*4:=CW _ _ _;have e3:(n+y)*4=n*4+y*4:=rV _ _ _;have e4:i*4≤n*4:=tG _ (zx hi);have e5:(n+y)*4≤m*4:=tG _ sR;have e7:n+y - (i+y)=n - i:=by omega
  refine qk ?_;refine qs ?_;refine q3 ?_;refine qr (oO rfl rfl (yA (a:=n) (b:=y) (by omega))) ?_;refine qM rfl rfl rfl rfl (wa 0 (n+y) aam Ty.sJ rfl (.inl ⟨rfl,rfl⟩) (.inr ⟨_,_,rfl,rfl⟩) (pY _) (by omega) (by omega)) ?_;refine qc ?_;refine qN ?_
  simp only [EB,xM,DK]
  refine tR ?_;refine qU ?_;refine qs ?_;refine q4 ?_;refine qr (oO rfl rfl (yA (a:=i) (b:=y) (by omega))) ?_;refine qM rfl rfl rfl rfl (wa (i+y) (n+y) aam Ty.sJ rfl (.inr ⟨_,_,rfl,rfl⟩) (.inl ⟨rfl,rfl⟩) (by omega) (by omega) (by omega)) ?_;refine Bp (f:=139) (args:=[.sl (some (vb,0)) y ck,.sl (some (b,0+(i+y)*4)) (n+y - (i+y)) (.k (m - (i+y)))]) rfl rfl rfl rfl (XW.known (M:=fun v w'=>v = .b false∧w' = h) (hL _ _ _ _ ⟨_,_,4,_,_,_,_,_,_,_,_,_,_,_,_,_,_,Tryz.func139,rfl,rfl,rfl,by kernel_rfl,aam,Ty.sJ,rfl,pM,hv,by decide,by omega,hg,by omega,rfl,rfl⟩) fun v h' q=>⟨v,h',rfl,q⟩) ?_;rintro _ w1 ⟨rfl,BE⟩;obtain rfl:h=w1:=BE.symm;refine pQ.now ?_;refine qm ?_;refine Qf rfl ?_;refine qU ?_;refine uT (G:=fun _ _=>none) [0,1,2,3,4,5,6,7,8] rfl Ty.mixed (by kernel_rfl) (fun _ _ _ q=>by cases q) ?_;refine q3 ?_;refine qr (oO rfl rfl (yA (a:=i) (b:=y) (by omega))) ?_;refine qM rfl rfl rfl rfl (wa (i+y) (n+y) aam Ty.sJ rfl (.inr ⟨_,_,rfl,rfl⟩) (.inl ⟨rfl,rfl⟩) (by omega) (by omega) (by omega)) ?_;refine q2 ?_;refine qM rfl rfl rfl rfl (wa i (n+y) aam Ty.sJ rfl (.inr ⟨_,_,rfl,rfl⟩) (.inl ⟨rfl,rfl⟩) (by omega) (by omega) (by omega)) ?_;refine qx (B3 (m:=n - i) aam Ty.sJ rfl rfl (by omega) hg hg (by rw [pA];omega) (by rw [pA];omega) uk (by omega)) ?_;rintro _ _ rfl;refine pQ.tT (jL.le.refl _) (fun _ _ _ q=>by cases q) ?_;refine qN ?_
  simp only [pA]
  have lA:((c.drop (i*4)).take ((n - i)*4)).length=(n - i)*4:=by rw [rb,ue];omega
  have vQ:=yt (c:=c) (o:=(i+y)*4) (vs:=(c.drop (i*4)).take ((n - i)*4)) (by rw [lA];omega);refine tR ?_;refine qs ?_;refine q2 ?_;refine qM rfl rfl rfl rfl (wa i (n+y) aam Ty.sJ rfl (.inr ⟨_,_,rfl,rfl⟩) (.inl ⟨rfl,rfl⟩) (by omega) (by omega) (by omega)) ?_;refine qc ?_;refine xm (B3 (m:=y) aam Ty.sJ rfl rfl (by omega) (by rw [Hp.pD,if_pos rfl]) (by rw [Hp.pD,if_neg pM];exact hv) (by rw [pA];exact xU) (by rw [vQ,pA];omega) wK hy) ?_;rintro _ _ rfl;refine qn ?_;refine wm ?_;refine qm ?_;refine qt ?_
  simp only [pA]
  obtain ⟨k1,k2⟩:=Ss (z:=4) hi sR Am xU;refine ⟨b,some m,_,rfl,by rw [Hp.pD,if_pos rfl],k1,fun e=>(by cases e),fun q e=>(by obtain rfl:=oi e;exact ⟨k2,sR⟩),CE (CE uk (AB uk)) (AB wK),hb,px _,fun q hq=>?_,fun q hq As=>?_,.inl rfl⟩
  ·have xT:h.next≤q:=hq
   rw [Hp.pD,if_neg (by omega),Hp.pD,if_neg (by omega)];exact hW _ xT
  ·rw [Hp.pD,if_neg As,Hp.pD,if_neg As]
set_option maxRecDepth 100000 in
theorem agd {K:Tb} {t:To lU} {X:List Nat} {h0 h:Hp} {F0 F:jL} {L:List Ob} {bs rE:List Nat} {v v2:jD} {xs ys zs:List lU} (y9:t.size=4) (hS:St X h0 F0 F (.dp t rE v2 ys :: .dp t bs v xs::L) h) (hy:0 < ys.length) (hz:app xs ys=some zs) :
  pa aac K 88 [v,.i .i64 (xs.length:Int),v2] h (fun u h'=>∃ qv,St X h0 F0 F (.dp t qv u zs::L) h'):=by
 have vP:=(FO hz).1;refine BM Tryz.func88 ?_;refine JP ?_;refine qs ?_;refine q2 ?_;refine Qt (t:=t) 1 (xs.length:Int) (xs.length:Int) rfl rfl rfl rfl aam (by rw [y9];exact Ty.sJ) rfl (.inr ⟨_,_,rfl,rfl⟩) (.inl ⟨rfl,rfl⟩) hS rfl (by omega) (by omega) (by omega) ?_;intro v';refine qn ?_;refine wm ?_;refine qr (qD aam rfl (hS.ub (k:=0) rfl)) ?_;refine qm ?_;refine qU ?_;refine wm ?_;refine qr (oO rfl rfl uD) ?_;refine qn ?_;refine uS rfl (fun hc=>absurd (of_decide_eq_true hc) (by omega)) (fun _=>?_);refine qk ?_;refine wm ?_;refine qr (qD aam rfl (hS.ub (k:=1) rfl)) ?_;refine qm ?_;refine qU ?_;refine qs ?_;refine q2 ?_;refine qr (oO rfl rfl uD) ?_;refine qn ?_;refine uS rfl (fun _=>?_) (fun hc=>absurd rfl (of_decide_eq_false hc));refine qs ?_;refine q2 ?_;refine xm (Qi (t:=t) aam (by rw [y9];exact Ty.Bb) (by kernel_rfl) rfl rfl hS hz) ?_;rintro u w' ⟨qv,hT⟩;refine qm ?_;refine qt ?_;exact ⟨qv,hT⟩
theorem agj {F:jL} {w:Hp} {X:List Nat} {bs rE:List Nat} {v v2:jD} {i:Int} {xs ys r:List lU} (hS:St X w F F [.dp lU.o bs v xs,.dp lU.o rE v2 ys] w) (H:wZ xs i ys=some r) :
  pa aac KK 88 [v,.i .i64 i,v2] w fun u w'=>∃ qv,St X w F F [.dp lU.o qv u r] w' :=
 Sr (z:=4) rfl (by decide) (fun hS hy hz=>agd rfl hS hy hz) (X5 Sz) (X5 fun _ _ _ _ q=>q) (agC) hS H
set_option maxRecDepth 100000 in
theorem X4 {K:Tb} (hL:∀ f args h M,B4 aac f args h M→K f args h M) {h:Hp} {b n m i vb y:Nat} {ck:Cap} {c d:List jD} (hW:Wf h) (hb:b < h.next) (hg:h.get b=some (.cells 3 c)) (hv:h.get vb=some (.cells 3 d)) (pM:vb≠b) (hi:i < n) (yq:n≤m) (Am:c.length=m*3) (hy:0 < y) (xU:y*3≤d.length) (uk:c.all jD.one=true) (wK:d.all jD.one=true) (RE:n+y≤2 ^ 30) (Jp:vb < h.next) :
  pa aac K 92 [.sl (some (b,0)) n (.k m),.i .i64 (i:Int),.sl (some (vb,0)) y ck] h (Ku 3 h b i n y c d):=by
 have XX:d.drop 0=d:=yu;have D0:h.get h.next=none:=hW _ (px _);refine BM Tryz.func92 ?_;refine JP ?_;refine qs ?_;refine q2 ?_;refine qM rfl rfl rfl rfl (wa i n aaF Ty.uu rfl (.inr ⟨_,_,rfl,rfl⟩) (.inl ⟨rfl,rfl⟩) (zx hi) yq (xO hi yq)) ?_;refine qn ?_;refine wm ?_;refine qr (qD aaF rfl (.inr ⟨_,_,rfl,fun q=>by cases q⟩)) ?_;refine qm ?_;refine qU ?_;refine wm ?_;refine qr (oO rfl rfl uD) ?_;refine qn ?_;refine uS rfl (fun hc=>absurd (of_decide_eq_true hc) (by omega)) (fun _=>?_);refine qk ?_;refine wm ?_;refine qr (qD aaF rfl (.inr ⟨_,_,rfl,fun q=>by cases q⟩)) ?_;refine qm ?_;refine qU ?_;refine qs ?_;refine q2 ?_;refine qr (oO rfl rfl uD) ?_;refine qn ?_;refine uS rfl (fun hc=>absurd (of_decide_eq_true hc) (by omega)) (fun _=>?_);refine qk ?_;refine qU ?_;refine qs ?_;refine q2 ?_;refine qr (oO rfl rfl (yA (a:=n) (b:=y) (by omega))) ?_;refine qc ?_;refine qM (v:=.i .i64 (m:Int)) rfl rfl rfl rfl (fun h=>by simp only [oE,UJ,UK,pW,yY,vY,Ez,oS,look];rfl) ?_;refine qr (oO rfl rfl Bq) ?_;refine qn ?_;refine uS rfl (fun hc=>?_) (fun hc=>?_)
 ·have sR:m < n+y:=by have:=of_decide_eq_true hc;omega
  refine qs ?_;refine q2 ?_;refine qM rfl rfl rfl rfl (wa 0 i aaF Ty.uu rfl (.inl ⟨rfl,rfl⟩) (.inr ⟨_,_,rfl,rfl⟩) (pY _) (by omega) (by omega)) ?_;refine q2 ?_;refine qr (oO rfl rfl (yA (a:=n) (b:=y) (by omega))) ?_;refine qc ?_;refine qr (oO rfl rfl (QD (a:=n+y) (b:=i) (by omega) (by omega))) ?_;refine xm (Qh (N:=n+y - i) (c:=c) aaF Ty.Ei (by kernel_rfl) rfl rfl (by omega) (by omega) (by omega) (by omega) hg (by rw [Am];simp only [EB,xM,pA,DK];exact tG _ (by omega)) uk) ?_;rintro _ _ ⟨rfl,zs,tV,sS,rfl⟩;refine qc ?_;refine qN ?_
  simp only [EB,xM,DK]
  have zK:i+(n+y - i)=n+y:=by omega
  rw [zK];have g0:∀ B q,q < h.next→(h.new B).get q=h.get q:=fun B q hq=>by rw [Hp.rO,if_neg (by omega)]
  have K4:(h.new (.cells 3 ((c.drop 0).take (i*3)++zs))).get h.next=some (.cells 3 ((c.drop 0).take (i*3)++zs)):=by rw [Hp.rO,if_pos rfl]
  have e1:(i+y)*3=i*3+y*3:=rV _ _ _;have e2:(n - i)*3=n*3 - i*3:=CW _ _ _;have e3:(n+y)*3=n*3+y*3:=rV _ _ _;have e4:i*3≤n*3:=tG _ (zx hi);have e5:n*3≤m*3:=tG _ yq;have e6:(n+y - i)*3=n*3+y*3 - i*3:=by rw [CW,rV]
  have lD:((d.drop 0).take (y*3)).length=y*3:=by rw [rb,ue];omega
  have lB:((c.drop 0).take (i*3)++zs).length=(n+y)*3:=by rw [rH,rb,ue];omega
  have o1:((c.drop 0).take (i*3)++zs).all jD.one=true:=by rw [rC,AB uk,sS];rfl
  refine tR ?_;refine qs ?_;refine q2 ?_;refine qM rfl rfl rfl rfl (II i (n+y) aaF Ty.uu rfl (.inr ⟨_,_,rfl,rfl⟩) (.inl ⟨rfl,rfl⟩) (by omega) (px _) (by omega)) ?_;refine qc ?_;refine xm (B3 (m:=y) aaF Ty.uu rfl rfl (by omega) K4 ((g0 _ _ Jp).trans hv) (by rw [pA];exact xU) (by rw [lB];omega) wK hy) ?_;rintro _ _ rfl;refine qN ?_;rw [pA];have vQ:=yt (c:=(c.drop 0).take (i*3)++zs) (o:=i*3) (vs:=(d.drop 0).take (y*3)) (by rw [lD,lB];omega);refine tR ?_;refine qU ?_;refine uT (G:=fun _ _=>none) [0,1,2,3,4,5,6,7,8] rfl Ty.mixed (by kernel_rfl) (fun _ _ _ q=>by cases q) ?_;refine q3 ?_;refine qr (oO rfl rfl (yA (a:=i) (b:=y) (by omega))) ?_;refine qM rfl rfl rfl rfl (II (i+y) (n+y) aaF Ty.uu rfl (.inr ⟨_,_,rfl,rfl⟩) (.inl ⟨rfl,rfl⟩) (by omega) (px _) (by omega)) ?_;refine q2 ?_;refine qM rfl rfl rfl rfl (wa i n aaF Ty.uu rfl (.inr ⟨_,_,rfl,rfl⟩) (.inl ⟨rfl,rfl⟩) (by omega) (by omega) (by omega)) ?_;refine qx (B3 (m:=n - i) aaF Ty.uu rfl rfl (by omega) (by rw [Hp.pD,if_pos rfl]) (by rw [Hp.pD,if_neg (by omega)];exact (g0 _ _ hb).trans hg) (by rw [pA];omega) (by rw [vQ,lB,pA];omega) uk (by omega)) ?_;rintro _ _ rfl;refine pQ.tT (jL.le.refl _) (fun _ _ _ q=>by cases q) ?_;refine qn ?_;refine wm ?_;refine qm ?_;refine qt ?_
  simp only [pA]
  obtain ⟨k1,k2⟩:=Su (z:=3) hi yq Am xU tV;refine ⟨h.next,none,_,rfl,by rw [Hp.pD,if_pos rfl],by rw [Bl (by rw [k2];omega)];exact k1,fun _=>by rw [k2];exact px _,fun q e=>(by cases e),CE (CE o1 (AB wK)) (AB uk),BY _,AN _,fun q hq=>?_,fun q hq _=>?_,.inr (px _)⟩
  ·have xT:h.next+1≤q:=hq
   rw [Hp.pD,if_neg (by omega),Hp.pD,if_neg (by omega),Hp.rO,if_neg (by omega)];exact hW _ (by omega)
  ·rw [Hp.pD,if_neg (by omega),Hp.pD,if_neg (by omega)]
   exact g0 _ _ hq
 ·have sR:n+y≤m:=by have:=of_decide_eq_false hc;omega
  have e1:(i+y)*3=i*3+y*3:=rV _ _ _;have e2:(n - i)*3=n*3 - i*3:=CW _ _ _;have e3:(n+y)*3=n*3+y*3:=rV _ _ _;have e4:i*3≤n*3:=tG _ (zx hi);have e5:(n+y)*3≤m*3:=tG _ sR;have e7:n+y - (i+y)=n - i:=by omega
  refine qk ?_;refine qs ?_;refine q3 ?_;refine qr (oO rfl rfl (yA (a:=n) (b:=y) (by omega))) ?_;refine qM rfl rfl rfl rfl (wa 0 (n+y) aaF Ty.uu rfl (.inl ⟨rfl,rfl⟩) (.inr ⟨_,_,rfl,rfl⟩) (pY _) (by omega) (by omega)) ?_;refine qc ?_;refine qN ?_
  simp only [EB,xM,DK]
  refine tR ?_;refine qU ?_;refine qs ?_;refine q4 ?_;refine qr (oO rfl rfl (yA (a:=i) (b:=y) (by omega))) ?_;refine qM rfl rfl rfl rfl (wa (i+y) (n+y) aaF Ty.uu rfl (.inr ⟨_,_,rfl,rfl⟩) (.inl ⟨rfl,rfl⟩) (by omega) (by omega) (by omega)) ?_;refine Bp (f:=141) (args:=[.sl (some (vb,0)) y ck,.sl (some (b,0+(i+y)*3)) (n+y - (i+y)) (.k (m - (i+y)))]) rfl rfl rfl rfl (XW.known (M:=fun v w'=>v = .b false∧w' = h) (hL _ _ _ _ ⟨_,_,4,_,_,_,_,_,_,_,_,_,_,_,_,_,_,Tryz.func141,rfl,rfl,rfl,by kernel_rfl,aaF,Ty.uu,rfl,pM,hv,by decide,by omega,hg,by omega,rfl,rfl⟩) fun v h' q=>⟨v,h',rfl,q⟩) ?_;rintro _ w1 ⟨rfl,BE⟩;obtain rfl:h=w1:=BE.symm;refine pQ.now ?_;refine qm ?_;refine Qf rfl ?_;refine qU ?_;refine uT (G:=fun _ _=>none) [0,1,2,3,4,5,6,7,8] rfl Ty.mixed (by kernel_rfl) (fun _ _ _ q=>by cases q) ?_;refine q3 ?_;refine qr (oO rfl rfl (yA (a:=i) (b:=y) (by omega))) ?_;refine qM rfl rfl rfl rfl (wa (i+y) (n+y) aaF Ty.uu rfl (.inr ⟨_,_,rfl,rfl⟩) (.inl ⟨rfl,rfl⟩) (by omega) (by omega) (by omega)) ?_;refine q2 ?_;refine qM rfl rfl rfl rfl (wa i (n+y) aaF Ty.uu rfl (.inr ⟨_,_,rfl,rfl⟩) (.inl ⟨rfl,rfl⟩) (by omega) (by omega) (by omega)) ?_;refine qx (B3 (m:=n - i) aaF Ty.uu rfl rfl (by omega) hg hg (by rw [pA];omega) (by rw [pA];omega) uk (by omega)) ?_;rintro _ _ rfl;refine pQ.tT (jL.le.refl _) (fun _ _ _ q=>by cases q) ?_;refine qN ?_
  simp only [pA]
  have lA:((c.drop (i*3)).take ((n - i)*3)).length=(n - i)*3:=by rw [rb,ue];omega
  have vQ:=yt (c:=c) (o:=(i+y)*3) (vs:=(c.drop (i*3)).take ((n - i)*3)) (by rw [lA];omega);refine tR ?_;refine qs ?_;refine q2 ?_;refine qM rfl rfl rfl rfl (wa i (n+y) aaF Ty.uu rfl (.inr ⟨_,_,rfl,rfl⟩) (.inl ⟨rfl,rfl⟩) (by omega) (by omega) (by omega)) ?_;refine qc ?_;refine xm (B3 (m:=y) aaF Ty.uu rfl rfl (by omega) (by rw [Hp.pD,if_pos rfl]) (by rw [Hp.pD,if_neg pM];exact hv) (by rw [pA];exact xU) (by rw [vQ,pA];omega) wK hy) ?_;rintro _ _ rfl;refine qn ?_;refine wm ?_;refine qm ?_;refine qt ?_
  simp only [pA]
  obtain ⟨k1,k2⟩:=Ss (z:=3) hi sR Am xU;refine ⟨b,some m,_,rfl,by rw [Hp.pD,if_pos rfl],k1,fun e=>(by cases e),fun q e=>(by obtain rfl:=oi e;exact ⟨k2,sR⟩),CE (CE uk (AB uk)) (AB wK),hb,px _,fun q hq=>?_,fun q hq As=>?_,.inl rfl⟩
  ·have xT:h.next≤q:=hq
   rw [Hp.pD,if_neg (by omega),Hp.pD,if_neg (by omega)];exact hW _ xT
  ·rw [Hp.pD,if_neg As,Hp.pD,if_neg As]
set_option maxRecDepth 100000 in
theorem agb {K:Tb} {t:To oC} {X:List Nat} {h0 h:Hp} {F0 F:jL} {L:List Ob} {bs rE:List Nat} {v v2:jD} {xs ys zs:List oC} (y9:t.size=3) (hS:St X h0 F0 F (.dp t rE v2 ys :: .dp t bs v xs::L) h) (hy:0 < ys.length) (hz:app xs ys=some zs) :
  pa aac K 92 [v,.i .i64 (xs.length:Int),v2] h (fun u h'=>∃ qv,St X h0 F0 F (.dp t qv u zs::L) h'):=by
 have vP:=(FO hz).1;refine BM Tryz.func92 ?_;refine JP ?_;refine qs ?_;refine q2 ?_;refine Qt (t:=t) 1 (xs.length:Int) (xs.length:Int) rfl rfl rfl rfl aaF (by rw [y9];exact Ty.uu) rfl (.inr ⟨_,_,rfl,rfl⟩) (.inl ⟨rfl,rfl⟩) hS rfl (by omega) (by omega) (by omega) ?_;intro v';refine qn ?_;refine wm ?_;refine qr (qD aaF rfl (hS.ub (k:=0) rfl)) ?_;refine qm ?_;refine qU ?_;refine wm ?_;refine qr (oO rfl rfl uD) ?_;refine qn ?_;refine uS rfl (fun hc=>absurd (of_decide_eq_true hc) (by omega)) (fun _=>?_);refine qk ?_;refine wm ?_;refine qr (qD aaF rfl (hS.ub (k:=1) rfl)) ?_;refine qm ?_;refine qU ?_;refine qs ?_;refine q2 ?_;refine qr (oO rfl rfl uD) ?_;refine qn ?_;refine uS rfl (fun _=>?_) (fun hc=>absurd rfl (of_decide_eq_false hc));refine qs ?_;refine q2 ?_;refine xm (Qi (t:=t) aaF (by rw [y9];exact Ty.Ei) (by kernel_rfl) rfl rfl hS hz) ?_;rintro u w' ⟨qv,hT⟩;refine qm ?_;refine qt ?_;exact ⟨qv,hT⟩
theorem age {F:jL} {w:Hp} {X:List Nat} {bs rE:List Nat} {v v2:jD} {i:Int} {xs ys r:List oC} (hS:St X w F F [.dp oC.o bs v xs,.dp oC.o rE v2 ys] w) (H:wZ xs i ys=some r) :
  pa aac KK 92 [v,.i .i64 i,v2] w fun u w'=>∃ qv,St X w F F [.dp oC.o qv u r] w' :=
 Sr (z:=3) rfl (by decide) (fun hS hy hz=>agb rfl hS hy hz) (X4 Sz) (X4 fun _ _ _ _ q=>q) (agB) hS H
end Go.Wk.Lf
end
