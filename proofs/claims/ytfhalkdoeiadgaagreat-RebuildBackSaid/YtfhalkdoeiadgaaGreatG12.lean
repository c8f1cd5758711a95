/- RebuildBack is true. Law arguments: arrays of bytes, structs. RebuildBack: what is known of the arguments is enough. -/
import Derived.Test.YtfhalkdoeiadgaaGreatG11
set_option linter.unusedVariables false
set_option linter.unusedSimpArgs false
set_option linter.unusedSectionVars false
open Bool renaming and_eq_true→jK, false_or→nG, not_false→pF
open Go.Proofs.Tryz renaming prog→il, underlying163→EK, underlying194→Di, underlying3→mH, underlying31→lL, underlying4→EN, underlying5→p7, underlying67→uo, underlying68→MK, underlying78→p9, underlying9→wH
open List renaming eq_nil_of_length_eq_zero→nK, getElem?_eq_getElem→jx, getElem_mem→jF, getElem_of_mem→my, mem_append→mF, mem_append_left→wK, mem_append_right→JL, mem_map_of_mem→Dv, mem_singleton→o8
open Nat renaming add_mod→G6, lt_irrefl→jr, mod_eq_of_lt→zQ, mod_lt→zR, zero_le→ju
section
namespace Go.Wk.Lf
open Go.V Go.Sort Go.Proofs
def Ek(o:Int):List UInt8:=[jC (o/2^(24:Int).toNat),jC (o/2^(16:Int).toNat),jC (o/2^(8:Int).toNat),jC o]
theorem Mk(x:Int):((jC x).toNat:Int)=x%256:=by
 unfold jC;rw[UInt8.toNat_ofNat',zQ (by omega)];omega
theorem aeW{o:Int}(h0:0≤o)(h1:o<4294967296):(mG (Ek o):Int)=o:=by
 have e:(mG (Ek o):Int)=((((jC (o/2^(24:Int).toNat)).toNat:Int)*256+(jC (o/2^(16:Int).toNat)).toNat)*256+(jC (o/2^(8:Int).toNat)).toNat)*256+(jC o).toNat:=by
  simp[mG,Ek]
 rw[e,Mk,Mk,Mk,Mk,show(2:Int)^(24:Int).toNat=16777216 by decide,show(2:Int)^(16:Int).toNat=65536 by decide,show(2:Int)^(8:Int).toNat=256 by decide];omega
theorem Lq{vs:List iz}{l:List Loc}(h:mN vs l=true):l.length≤200:=by
 unfold mN at h;simp only[jK,decide_eq_true_eq]at h;exact h.1
theorem LO(l:List Found)(r:mP)(ls:List Loc)(h:l.length+ls.length≤1000000):vk l r ls=some (l++ls.map (Found.mk r)):=by
 unfold vk;refine nV (S:=Int×List Found) (σ:=List Found) (λi s=>((i:Int),s)) ls.length (λi s=>s=l++(ls.take i).map (Found.mk r)) _ (i0:=0) (s0:=l) rfl (ju _) (by simp) (by omega) ?_ ?_
 ·intro rec i s hi hI jh;simp only[vk.l2];rw[iZ (jl hi),iX hi,ij,ki (by rw[hI];simp;omega),ij,ja (by omega)];refine jh _ ?_;rw[hI,ou hi,List.map_append,List.append_assoc];rfl
 ·intro rec s hI;simp only[vk.l2,vk.k1];rw[iR (jk (jr _)),hI,List.take_length]
def src(c:ig)(K:List Chunk)(D:List ie)(f:Found):Prop:=(∃x∈c.chunks,∃q∈K,q.id=x.id∧f.iM=⟨1,0,q.data⟩∧f.loc∈x.locs)∨(∃s,(s∈c.ik∨s∈D)∧f.iM=⟨2,s.seq,vE s.iw⟩∧f.loc∈s.locs) ∨ ∃e∈c.im,f.iM=⟨3,e.seq,Ek e.of⟩∧f.loc∈e.locs
theorem ah3{c K D}{f:Found}(h:src c K [] f):src c K D f:=by
 rcases h with h|⟨s,hs,q⟩|h
 ·exact .inl h
 ·exact .inr (.inl ⟨s,.inl (hs.resolve_right λz=>(by cases z)),q⟩)
 ·exact .inr (.inr h)
structure JY(c:ig)(K:List Chunk)(l:List Found)(b:Bool):Prop where
 all:∀f∈l,src c K [] f
 len:l.length≤82000
 ch:b=true → ∀x∈c.chunks,∀y∈x.locs,∃q∈K,q.id=x.id∧Found.mk ⟨1,0,q.data⟩ y∈l
 sn:∀s∈c.ik,∀y∈s.locs,Found.mk ⟨2,s.seq,vE s.iw⟩ y∈l
 ex:∀e∈c.im,∀y∈e.locs,Found.mk ⟨3,e.seq,Ek e.of⟩ y∈l
theorem Lx{P:Found→Prop}{l:List Found}{r:mP}{ls:List Loc}(h:∀f∈l,P f)(h2:∀y∈ls,P (Found.mk r y)):∀f∈l++ls.map (Found.mk r),P f:=λf hf=>by
 rcases mF.1 hf with h3|h3
 ·exact h f h3
 ·obtain⟨y,hy,rfl⟩:=List.mem_map.1 h3;exact h2 y hy
theorem ah4{c:ig}{K:List Chunk}(k:Cap 1000 c)(r:Fm c)(hK:K.length≤100000):Told (lS c K) λp=>JY c K p.1 p.2:=by
 have hc:=r.nc;have hs:=r.ns;have he:=r.ne;unfold lS;have vw:∀(b:Bool)(l0:List Found),(∀f∈l0,src c K [] f)→l0.length≤40000→(b=true → ∀x∈c.chunks,∀y∈x.locs,∃q∈K,q.id=x.id∧Found.mk ⟨1,0,q.data⟩ y∈l0)→Told (lS.k1 c l0 b) λp=>JY c K p.1 p.2:=by
  intro b l0 a1 a2 a3;unfold lS.k1;refine Told.loop (S:=List Found×Int) (σ:=List Found) (λi s=>(s,(i:Int))) c.ik.length (λi s=>(∀f∈s,src c K [] f)∧s.length≤40000+200*i∧(∀f∈l0,f∈s) ∧ ∀j(h:j<c.ik.length),j<i → ∀y∈c.ik[j].locs,Found.mk ⟨2,c.ik[j].seq,vE c.ik[j].iw⟩ y∈s) (i0:=0) (s0:=l0) rfl (ju _) ⟨a1,a2,λf hf=>hf,λj h hj=>by omega⟩ (by omega) ?_ ?_
  ·intro rec i s hi hI jh;simp only[lS.l5];obtain⟨i1,i2,i3,i4⟩:=hI;have hx:=r.ks _ (jF hi);have hl:=Lq hx.2.2.1;rw[iZ (jl hi),iX hi,ij,V3 _ hx.2.1 (k.snap _ (jF hi)).2.ids,ij,LO _ _ _ (by omega),ij,ja (by omega)];refine jh _ ⟨Lx i1 λy hy=>.inr (.inl ⟨_,.inl (jF hi),rfl,hy⟩),by simp;omega,λf hf=>wK _ (i3 f hf),λj h hj y hy=>?_⟩
   by_cases e:j=i
   ·subst e;exact JL _ (Dv hy)
   ·exact wK _ (i4 j h (by omega) y hy)
  ·intro rec l1 hI;simp only[lS.l5,lS.k2];rw[iR (jk (jr _))];obtain⟨b1,b2,b3,b4⟩:=hI;refine Told.loop (S:=List Found×Int) (σ:=List Found) (λi s=>(s,(i:Int))) c.im.length (λi s=>(∀f∈s,src c K [] f)∧s.length≤42000+200*i∧(∀f∈l1,f∈s) ∧ ∀j(h:j<c.im.length),j<i → ∀y∈c.im[j].locs,Found.mk ⟨3,c.im[j].seq,Ek c.im[j].of⟩ y∈s) (i0:=0) (s0:=l1) rfl (ju _) ⟨b1,by omega,λf hf=>hf,λj h hj=>by omega⟩ (by omega) ?_ ?_
   ·intro rec i s hi hI jh;simp only[lS.l4];obtain⟨i1,i2,i3,i4⟩:=hI;have hx:=r.ke _ (jF hi);have hl:=Lq hx.2.2.2.1;rw[iZ (jl hi),iX hi,ij,ij,LO _ _ _ (by omega),ij,ja (by omega)];refine jh _ ⟨Lx i1 λy hy=>.inr (.inr ⟨_,jF hi,rfl,hy⟩),by simp;omega,λf hf=>wK _ (i3 f hf),λj h hj y hy=>?_⟩
    by_cases e:j=i
    ·subst e;exact JL _ (Dv hy)
    ·exact wK _ (i4 j h (by omega) y hy)
   ·intro rec s hI;simp only[lS.l4,lS.k3];obtain⟨i1,i2,i3,i4⟩:=hI;rw[iR (jk (jr _))];refine Told.mk ⟨i1,by show s.length≤_;omega,λhb x hx y hy=>?_,λt ht y hy=>?_,λt ht y hy=>?_⟩
    ·obtain⟨q,hq,e1,e2⟩:=a3 hb x hx y hy;exact⟨q,hq,e1,i3 _ (b3 _ e2)⟩
    ·obtain⟨j,hj,rfl⟩:=my ht;exact i3 _ (b4 j hj hj y hy)
    ·obtain⟨j,hj,rfl⟩:=my ht;exact i4 j hj hj y hy
 refine Told.loop (S:=List Found×Bool×Int) (σ:=List Found×Bool) (λi s=>(s.1,s.2,(i:Int))) c.chunks.length (λi s=>(∀f∈s.1,src c K [] f)∧s.1.length≤200*i∧(s.2=true → ∀j(h:j<c.chunks.length),j<i → ∀y∈c.chunks[j].locs,∃q∈K,q.id=c.chunks[j].id∧Found.mk ⟨1,0,q.data⟩ y∈s.1)) (i0:=0) (s0:=([],true)) rfl (ju _) ⟨λf hf=>(by cases hf),ju _,λ_ j h hj=>by omega⟩ (by omega) ?_ ?_
 ·rintro rec i ⟨l,b⟩ hi hI jh;simp only at hI ⊢;simp only[lS.l6];obtain⟨i1,i2,i3⟩:=hI;have hl:=Lq (r.kc _ (jF hi)).1;rw[iZ (jl hi)];have H8:∀at_:Int,(at_ = -1 ∨ ∃n,∃h:n<K.length,at_=(n:Int)∧K[n].id=c.chunks[i].id)→Told (lS.k8 c K l b (i:Int) rec at_) λp=>JY c K p.1 p.2:=by
   intro at_ y4;unfold lS.k8;simp only[lS.k7];rw[ja (by omega)];rcases y4 with rfl|⟨n,hn,rfl,e⟩
   ·rw[iZ (by decide),iX hi,ng,ij];refine jh (l,_) ⟨i1,by show l.length≤_;omega,λhb j h hj y hy=>?_⟩;have hb:(b&&decide ((((if b=true then c.chunks[i]else Chunk.mk (List.replicate 32 (0:UInt8)) false [] []).locs.length:Nat):Int)=0))=true:=hb;cases b with
    |false=>cases hb
    |true =>
     have rN:=of_decide_eq_true (Bool.and_eq_true_iff.1 hb).2;rw[if_pos rfl]at rN
     by_cases z:j=i
     ·subst z;rw[nK (by omega:c.chunks[j].locs.length=0)]at hy;cases hy
     ·exact i3 rfl j h (by omega) y hy
   ·rw[iR (decide_eq_false (by omega)),iX hn,ij,iX hi,ij,LO _ _ _ (by omega),ij];refine jh (_,_) ⟨Lx i1 λy hy=>.inl ⟨_,jF hi,_,jF hn,e,rfl,hy⟩,by simp;omega,λhb j h hj y hy=>?_⟩
    by_cases z:j=i
    ·subst z;exact⟨_,jF hn,e,JL _ (Dv hy)⟩
    ·obtain⟨q,hq,e1,e2⟩:=i3 hb j h (by omega) y hy;exact⟨q,hq,e1,wK _ e2⟩
  refine Told.loop (S:=Int×Int) (σ:=Int) (λj s=>(s,(j:Int))) K.length (λj s=>s = -1 ∨ ∃n,∃h:n<K.length,s=(n:Int)∧K[n].id=c.chunks[i].id) (i0:=0) (s0:=-1) rfl (ju _) (.inl rfl) (by omega) ?_ ?_
  ·intro n9 j s hj hJ nC;simp only[lS.l9,lS.BJ]
   by_cases Bz:s<0
   ·rw[iZ (by rw[jl hj,decide_eq_true Bz];rfl),iX hj,ij,iX hi,ij,ja (by omega)];exact Told.kL (λq=>nC _ (.inr ⟨j,hj,rfl,of_decide_eq_true q⟩)) λ_=>nC _ hJ
   ·rw[iR (by rw[decide_eq_false Bz,Bool.and_false])];exact H8 s hJ
  ·intro n9 s hJ;simp only[lS.l9];rw[iR (by rw[jk (jr _),Bool.false_and])];exact H8 s hJ
 ·rintro rec ⟨l,b⟩ hI;simp only at hI ⊢;simp only[lS.l6];obtain⟨i1,i2,i3⟩:=hI;rw[iR (jk (jr _))];exact vw b l i1 (by omega) λhb x hx y hy=>by
   obtain⟨j,hj,rfl⟩:=my hx;exact i3 hb j hj hj y hy
structure Fi(c:ig)(K:List Chunk)(D:List ie):Prop where
 right:Fm c
 cap:Cap 1000 c
 kept:∀q∈K,lh q.data=q.id∧1≤q.data.length∧q.data.length≤64
 wh:∀s∈c.ik,s.locs≠[] → ∀id∈lU s.iw,∃x∈c.chunks,x.id=id∧x.locs≠[]
 dd:∀s∈D,mO s.iw∧xr s.iw∧s.locs.length≤200∧0≤s.seq ∧ ∃e∈c.im,e.of=s.seq
theorem aeg{c d:ig}{K:List Chunk}{D D':List ie}{x:Change}(h:Fi c K D)(hm:yK c x)(hw:∀i,Jo c x i)(hk:x.kind=1∨x.kind=3)(hb:A1 c d x)(rd:Fm d)(kd:Cap 1000 d)
  (hD:∀s∈D',s∈D∨(s∈c.ik ∧ ∀t∈d.ik,t.iw.name≠s.iw.name)):Fi d (K++x.chunks) D':=by
 have h1:∀y∈x.items,x.kind=3:=λy hy=>hk.resolve_left λq=>by rw[hm.it q]at hy;cases hy
 refine⟨rd,kd,λq hq=>?_,λs hs hn id sU=>?_,λs hs=>?_⟩
 ·rcases mF.1 hq with q2|q2
  ·exact h.kept q q2
  ·exact hm.ch q q2
 ·obtain⟨s0,Bz,e1,e2,e3⟩:=hb.sn s hs hn;rw[←e2]at sU;have on:(∃x∈c.chunks,x.id=id∧x.locs≠[]) → ∃x∈d.chunks,x.id=id∧x.locs≠[]:=λ⟨z,hz,q1,q2⟩=>by
   obtain⟨z',wj,q3,q4⟩:=hb.ch z hz q2;exact⟨z',wj,q3.trans q1,q4⟩
  rcases e3 with e3|⟨y,hy,y1,y2⟩
  ·exact on (h.wh s0 Bz e3 id sU)
  ·obtain⟨i,hi,rfl⟩:=my hy;rcases hw i hi y1 s0 Bz (e1.trans y2.symm) id sU with q|⟨z,hz,z1,z2⟩
   ·exact on q
   ·obtain⟨u,hu,u1,u2⟩:=(hb.dn (h1 z hz) z hz).1 z1;exact⟨u,hu,u1.trans z2,u2⟩
 ·rcases hD s hs with q|⟨q,kK⟩
  ·obtain⟨a1,a2,a3,a4,e,he,a5⟩:=h.dd s q;obtain⟨e',CA,_,b2⟩:=hb.ex e he;exact⟨a1,a2,a3,a4,e',CA,b2.trans a5⟩
  ·have hx:=h.right.ks s q;refine⟨hx.2.1,(h.cap.snap s q).2.ids,Lq hx.2.2.1,hx.1.1,?_⟩;rcases hb.kp s q with⟨t,ht,_,t2⟩|⟨y,hy,y1,y2⟩
   ·exact absurd (by rw[t2]) (kK t ht)
   ·obtain⟨e,he,e1⟩:=(hb.dn (h1 y hy) y hy).2 (by omega) (by omega);rcases hm.ex y hy y1 with⟨e0,OL,f1,f2⟩|⟨f1,f2⟩
    ·obtain⟨e',CA,_,b2⟩:=hb.ex e0 OL;exact⟨e',CA,b2.trans (f2.trans y2)⟩
    ·rcases hb.ey e he with⟨e0,OL,g1,_⟩|⟨z,hz,_,_,z3,z4⟩
     ·have:=(h.right.ke e0 OL).1.2;omega
     ·have hz:z∈x.items:=hz;rw[f1]at hz;have ez:=o8.1 hz;exact⟨e,he,by rw[←z4,ez,y2]⟩
theorem aik{α:Type}{l o:List α}{k:Nat}(hl:0<l.length)(h1:o.length=l.length)(h2:∀j,j<l.length→o[j]? =l[(j+k)%l.length]?)(x:α):x∈o↔x∈l:=by
 constructor
 ·intro hx;obtain⟨j,hj,rfl⟩:=my hx;have:=h2 j (by omega);rw[jx hj,jx (zR _ hl)]at this;rw[Option.some.inj this];exact jF _
 ·intro hx;obtain⟨j,hj,rfl⟩:=my hx;have hq:=h2 ((j+(l.length-k%l.length))%l.length) (zR _ hl);have hk:=zR k hl;have e:((j+(l.length-k%l.length))%l.length+k)%l.length=j:=by
   rw[G6,Nat.mod_mod,←G6,G6 _ k,G6 j,←Nat.add_mod_mod];have:(j%l.length+(l.length-k%l.length)%l.length)%l.length=(j+(l.length-k%l.length))%l.length:=(G6 ..).symm;rw[this,←G6,Nat.add_mod_mod,←Nat.mod_add_mod];rw[Nat.mod_add_mod,show j+(l.length-k%l.length)+k=j+(l.length-k%l.length)+k from rfl];have Aj:=Nat.div_add_mod k l.length;have:j+(l.length-k%l.length)+k=j+l.length*(k/l.length+1):=by
    rw[Nat.mul_add,Nat.mul_one];omega
   rw[this,Nat.add_mul_mod_self_left,zQ hj]
  rw[e,jx hj]at hq;exact List.mem_of_getElem? hq
theorem S0{c:ig}{K:List Chunk}{D:List ie}{l o:List Found}(h:Fi c K D)(hS:JY c K l true)(h1:∀f∈o,src c K D f)(h2:∀f∈l,f∈o):Ng c D λf=>f∈o:=by
 have iC:∀q∈K,∀y,Ap q.id (Found.mk ⟨1,0,q.data⟩ y):=λq hq y=>⟨rfl,(h.kept q hq).2,(h.kept q hq).1⟩
 have iS:∀s:ie,mO s.iw→xr s.iw → ∀y,qV s.iw s.seq (Found.mk ⟨2,s.seq,vE s.iw⟩ y):=λs a b y=>⟨rfl,V6 ⟨a,b,rfl⟩,rfl⟩
 have iE:∀e∈c.im,∀y,sw e.of e.seq (Found.mk ⟨3,e.seq,Ek e.of⟩ y):=λe he y=>⟨rfl,rfl,by
  have a:=(h.right.ke e he).1;have b:=(h.right.ke e he).2.1;have q:=h.right.q.2;exact aeW b.1 (by omega),rfl⟩
 refine⟨λf hf=>?_,λx hx y hy=>?_,λs hs y hy=>?_,λe he y hy=>?_⟩
 ·obtain⟨rr,loc⟩:=f;rcases h1 _ hf with⟨x,hx,q,hq,e1,e2,e3⟩|⟨s,hs,e2,e3⟩|⟨e,he,e2,e3⟩
  ·have e2:rr=_:=e2;subst e2;exact .inl ⟨x,hx,by rw[←e1];exact iC q hq _,e3⟩
  ·have e2:rr=_:=e2;subst e2;refine .inr (.inl ⟨s,hs,?_,e3⟩);rcases hs with hs|hs
   ·exact iS s (h.right.ks s hs).2.1 (h.cap.snap s hs).2.ids _
   ·exact iS s (h.dd s hs).1 (h.dd s hs).2.1 _
  ·have e2:rr=_:=e2;subst e2;exact .inr (.inr ⟨e,he,iE e he _,e3⟩)
 ·obtain⟨q,hq,e1,e2⟩:=hS.ch rfl x hx y hy;exact⟨_,h2 _ e2,by rw[←e1];exact iC q hq y,rfl⟩
 ·exact⟨_,h2 _ (hS.sn s hs y hy),iS s (h.right.ks s hs).2.1 (h.cap.snap s hs).2.ids y,rfl⟩
 ·exact⟨_,h2 _ (hS.ex e he y hy),iE e he y,rfl⟩
theorem SZ{c:ig}{K:List Chunk}{D:List ie}{o:List Found}(h:Fi c K D)(jm:Ng c D λf=>f∈o)(ac5:∀f∈o,src c K D f)(hl:o.length≤500000):lk.k3 c.seq c.ik c.chunks c.im c.iv o=some true:=by
 have oW:∀f∈o,fit f:=λf hf=>by
  obtain⟨rr,loc⟩:=f;rcases ac5 _ hf with⟨x,hx,q,hq,e1,e2,e3⟩|⟨s,hs,e2,e3⟩|⟨e,he,e2,e3⟩
  ·have e2:rr=_:=e2;subst e2;have:=(h.kept q hq).2.2;exact⟨by show q.data.length≤_;omega,by show(-9223372036854775808:Int)≤0;decide⟩
  ·have e2:rr=_:=e2;subst e2;rcases hs with hs|hs
   ·have a:=h.right.ks s hs;have:=PF a.2.1 (h.cap.snap s hs).2.ids;exact⟨by show(vE s.iw).length≤_;omega,by have:=a.1.1;show _≤s.seq;omega⟩
   ·have a:=h.dd s hs;have:=PF a.1 a.2.1;exact⟨by show(vE s.iw).length≤_;omega,by have:=a.2.2.2.1;show _≤s.seq;omega⟩
  ·have e2:rr=_:=e2;subst e2;have a:=(h.right.ke e he).1.1;exact⟨by show(4:Nat)≤_;omega,by show _≤e.seq;omega⟩
 have hv:=h.cap.iv;obtain⟨W,hW,hh,hg,Gc⟩:=aaV c.iv o (by omega) hl oW;obtain⟨q1,q2,q3⟩:=YS h.right (λs hs=>(h.dd s hs).2.2.2.2) h.wh jm hh hg Gc;have KT:=(Kd c).2 h.right;have Iq:=Kc q2;unfold lk.k3;rw[if_pos q2]at hW;rw[hW,ij,agw KT];simp only[ne_eq,not_true_eq_false,decide_false,pF,ng,ij,if_true,nG];rw[adM _ _ Iq,jX rfl,ij,decide_eq_true q1,NQ _ Iq.1 Iq.2.1.1 Iq.2.2.1.1 Iq.2.2.2.1,if_pos q2,ng,ij];rw[decide_eq_false (show¬c.seq<(Ae W).seq by omega)];simp only[Bool.not_true,pF,if_true,ne_eq,not_true_eq_false,decide_false,Bool.or_self,Bool.false_eq_true,if_false];rw[Xu];rfl
theorem YT{c:ig}{K:List Chunk}{D:List ie}(h:Fi c K D)(hK:K.length≤100000)(hD:D.length≤1000)(t:Int):Told (lk.k1 t K D c.seq c.ik c.chunks c.im c.iv) λb=>b=true:=by
 unfold lk.k1;refine(ah4 h.cap h.right hK).bd λp hp=>?_;obtain⟨l,b⟩:=p;refine Told.kL (λ_=>by rw[Xu];exact Told.mk rfl) λhb=>?_;have hb:b=true:=by simpa using hb
 subst hb;have hlen:=hp.len;refine Told.loop (S:=List ie×List Found×Int) (σ:=List Found) (λi s=>(D,s,(i:Int))) D.length (λi s=>(∀f∈s,src c K D f)∧s.length≤82000+200*i ∧ ∀f∈l,f∈s) (i0:=0) (s0:=l) rfl (ju _) ⟨λf hf=>ah3 (hp.all f hf),hlen,λf hf=>hf⟩ (by omega) ?_ ?_
 ·intro rec i s hi hI jh;simp only[lk.l5];obtain⟨i1,i2,i3⟩:=hI;obtain⟨d1,d2,d3,_⟩:=h.dd _ (jF hi);rw[iZ (jl hi),iX hi,ij,V3 _ d1 d2,ij,LO _ _ _ (by omega),ij,ja (by omega)];exact jh _ ⟨Lx i1 λy hy=>.inr (.inl ⟨_,.inr (jF hi),rfl,hy⟩),by simp;omega,λf hf=>wK _ (i3 f hf)⟩
 ·intro rec s hI;simp only[lk.l5,lk.k2];obtain⟨i1,i2,i3⟩:=hI;rw[iR (jk (jr _))]
  by_cases h0:s.length=0
  ·have xg:=nK h0;subst xg;refine Told.loop (S:=List Found×Int) (σ:=Unit) (λi _=>([],(i:Int))) 0 (λ_ _=>True) (i0:=0) (s0:=()) rfl (ju _) trivial (by omega) (λrec i _ hi=>by omega) λrec _ _=>?_;simp only[lk.l4];rw[iR (by simp)];exact⟨true,SZ h (S0 h hp (λf hf=>by cases hf) i3) (λf hf=>by cases hf) (ju _),rfl⟩
  ·obtain⟨q,m1,m2,m3⟩:=PQ t (s.length:Int) (by omega) (by omega);refine Told.loop (S:=List Found×Int) (σ:=List Found) (λi o=>(o,(i:Int))) s.length (λi o=>o.length=i ∧ ∀j,j<i→o[j]? =s[(j+q)%s.length]?) (i0:=0) (s0:=[]) rfl (ju _) ⟨rfl,λj hj=>by omega⟩ (by omega) ?_ ?_
   ·intro n9 i o hi hJ nC;simp only[lk.l4];have hr:rem (wu t) (s.length:Int)=some ((wu t).tmod (s.length:Int)):=if_neg (by omega);have hr2:rem (((i+q:Nat):Int)) (s.length:Int)=some (((i+q)%s.length:Nat):Int):=by
     have:rem (((i+q:Nat):Int)) (s.length:Int)=some ((((i+q:Nat):Int)).tmod (s.length:Int)):=if_neg (by omega);rw[this,Int.tmod_eq_emod_of_nonneg (by omega)];rfl
    have jB:=zR (i+q) (show 0<s.length by omega);rw[iZ (jl hi),zF (show(0:Int)≤(s.length:Int) by omega) (by omega),hr,ij,m1,show wr ((i:Int)+(q:Int))=((i+q:Nat):Int)from by rw[ll (by omega) (by omega)];omega,hr2,ij,iX jB,ij,ki (by simp;omega),ij,ja (by omega)];refine nC _ ⟨by simp[hJ.1],λj hj=>?_⟩
    by_cases e:j=i
    ·subst e;rw[List.getElem?_append_right (by omega),hJ.1,Nat.sub_self,jx jB];rfl
    ·rw[List.getElem?_append_left (by omega)];exact hJ.2 j (by omega)
   ·intro n9 o hJ;simp only[lk.l4];rw[iR (jk (jr _))];have hm:=aik (by omega) hJ.1 hJ.2;have hs:∀f∈o,src c K D f:=λf hf=>i1 f ((hm f).1 hf);exact⟨true,SZ h (S0 h hp hs λf hf=>(hm f).2 (i3 f hf)) hs (by rw[hJ.1];omega),rfl⟩
abbrev XX:=List Chunk×List ie×Int×Int×List ie×List Chunk×List iu×List iz
theorem YV(x0:List Int)(x1:List mJ)(x2:Int):lk x0 x1 x2=some true:=by
 unfold lk
 by_cases Ou:(30:Int)<(x0.length:Int)
 ·rw[decide_eq_true Ou];rfl
 ·rw[decide_eq_false Ou];simp only[pF,nG];rw[jX rfl];obtain⟨b,hb,hg⟩:=abO x1;rw[hb,ij];cases b with
  |true=>rfl
  | false =>
   rw[iR rfl];obtain⟨p,hp,p1,p8,p01⟩:=afq x0 (by omega);rw[hp,ij,af1 p p8,ij];have hl:=hg rfl;have key:Told (loop (lk.l6 x1 x2) ([],[],0,(rF (tA p)).seq,(rF (tA p)).ik,(rF (tA p)).chunks,(rF (tA p)).im,(rF (tA p)).iv)) λb=>b=true:=by
    refine Told.loop (S:=XX) (σ:=List Chunk×List ie×ig) (λi s=>(s.1,s.2.1,(i:Int),s.2.2.seq,s.2.2.ik,s.2.2.chunks,s.2.2.im,s.2.2.iv)) (min x1.length 30) (λi s=>Fi s.2.2 s.1 s.2.1∧s.1.length≤1000*i∧s.2.1.length≤8*i) (i0:=0) (s0:=([],[],rF (tA p))) rfl (ju _) ⟨⟨(Kd _).1 (aeI p p1 p8 p01),aeH p p8,λq hq=>(by cases hq),λs hs=>(by cases hs),λs hs=>by cases hs⟩,ju _,ju _⟩ (by omega) ?_ ?_
    ·rintro rec i ⟨K,D,c⟩ hi hI jh;simp only at hI ⊢;obtain⟨hL,hK,hD⟩:=hI;have yf:i<x1.length:=by omega
     have O9:Told (rec (K,D,((i+1:Nat):Int),c.seq,c.ik,c.chunks,c.im,c.iv)) λb=>b=true:=jh (K,D,c) ⟨hL,by show K.length≤_;omega,by show D.length≤_;omega⟩;simp only[lk.l6,lk.k7];rw[iZ (by simp;omega),iX yf,ij,ja (by omega)];refine(aen hL.cap (hl i yf (by omega))).bd λr hr=>Told.kL (λ_=>O9) λkK=>?_;simp only[Bool.or_eq_false_iff,decide_eq_false_iff_not]at kK;obtain⟨⟨⟨n1,n4⟩,n5⟩,n2⟩:=kK;obtain⟨hX,hM⟩:=hr (by simpa using n1);refine(aiS hL.cap hL.right hX.items).bd λw hw=>Told.kL (λ_=>O9) λhwt=>?_;have hw:=hw (by simpa using hwt);refine(afA hL.cap (by omega) (by omega) hX ⟨n2,n4,n5⟩).bd λq hq=>Told.kL (λ_=>O9) λO2=>?_;obtain⟨⟨q1,q2⟩,q3,q4⟩:=hq (by simpa using O2);have sr:=hM.tc;have q2:=Zl q2 q1;have rd:=(Kd _).1 q1;have mX:=hL.right.ns;have hqs:=q2.ik;rw[ki (by omega),ij];refine Told.loop (S:=List ie×Int) (σ:=List ie) (λi s=>(s,(i:Int))) c.ik.length (λj s=>s.length≤D.length+j ∧ ∀t∈s,t∈D∨(t∈c.ik ∧ ∀u∈q.1.ik,u.iw.name≠t.iw.name)) (i0:=0) (s0:=D) rfl (ju _) ⟨Nat.le_refl _,λt ht=>.inl ht⟩ (by omega) ?_ ?_
     ·intro n9 j s hj hJ nC;simp only[lk.l9,lk.BJ];have Um:=hJ.1;rw[iZ (jl hj),iX hj,ij,Qt _ _ (by omega),ij,ng,ij,ij,ki (by simp;omega),ij,ja (by omega)];refine Told.kL (λhd=>nC _ ⟨by simp;omega,λt ht=>?_⟩) λ_=>nC _ ⟨by omega,hJ.2⟩;rcases mF.1 ht with h|h
      ·exact hJ.2 t h
      ·have e:=o8.1 h;subst e;rw[jK]at hd;have K7:=of_decide_eq_true hd.1;refine .inr ⟨jF hj,λu hu=>?_⟩;obtain⟨v,hv,rfl⟩:=my hu;have acF:oT q.1.ik.length (λi=>(q.1.ik.getD i default).iw.name==c.ik[j].iw.name) = -1:=by
        by_cases z:oT q.1.ik.length (λi=>(q.1.ik.getD i default).iw.name==c.ik[j].iw.name) = -1
        ·exact z
        ·obtain⟨y,_,e,_⟩:=HM z;omega
       have:=KF.1 acF v hv;rw[jo hv]at this;simpa using this
     ·intro n9 s hJ;simp only[lk.l9,lk.k8,lk.k7];have Um:=hJ.1;rw[iR (jk (jr _)),ja (by omega)];exact jh (K++r.1.chunks,s,q.1) ⟨aeg hL hM hw q3 q4 rd q2 hJ.2,by show(K++r.1.chunks).length≤_;simp;omega,by show s.length≤_;omega⟩
    ·rintro rec ⟨K,D,c⟩ hI;simp only at hI ⊢;obtain⟨hL,hK,hD⟩:=hI;simp only[lk.l6];rw[iR (by simp;omega)];exact YT hL (by omega) (by omega) x2
   obtain⟨r,hr,e⟩:=key;rw[e]at hr;exact hr
end Go.Wk.Lf
end
section
namespace Go.V
open Go.RowKit Go.ChangeShapes Go.WideShapes Go.Deep
structure RM(α:Type)where
 rel:gL→List gE→α→Prop
 mono:∀{F G vs a},gL.le F G→rel F vs a→rel G vs a
def RM.nil:RM Unit:=⟨λ_ vs _=>vs=[],λ_ h=>h⟩
def RM.cons{α β:Type}(t:Tr α)(r:RM β):RM (α×β):=⟨λF vs p=>∃v1 v2,vs=v1++v2∧t.rel F v1 p.1∧r.rel F v2 p.2,λl ⟨v1,v2,e,h1,h2⟩=>⟨v1,v2,e,t.mono l h1,r.mono l h2⟩⟩
section
variable{H:Type}{enc:TypeId×Value→H}{P:Program}{w:World}
def Fk{α:Type}(enc:TypeId×Value→H)(P:Program)(w:World)(fs:Array Field)(n i off:Nat)(r:RM α)(ok:α→Prop):Prop :=
 ∀fuel(cs:List Value)(xs:List (DataW H×List MemPlace)),cs.length=n→xs.length=fs.size→(∀(i:Nat)(f:Field),fs[i]? =some f→DataW.trod enc P w 0 (λ_=>true) true fuel f.type ((cs.drop f.offset).take (P.cellsOf f.type))=xs[i]?) →
  ∀ρ h,Rel ρ h w→sf h → ∃ρ' h' vs a,Rel ρ' h' w∧sf h'∧ρ.le ρ'∧gL.le (kq h) (kq h')∧jc ρ' vs (cs.drop off)∧r.rel (kq h') vs a∧ok a
theorem Fk.nil{fs:Array Field}{n i off:Nat}(h:n≤off):Fk enc P w fs n i off RM.nil λ_=>True:=λfuel cs xs h1 h2 h3 ρ hp r hb =>
 ⟨ρ,hp,[],(),r,hb,Ren.le.refl _,gL.le.refl _,by rw[List.drop_eq_nil_of_le (by omega)];exact jc.nil,rfl,trivial⟩
theorem Fk.cons{α β:Type}{fs:Array Field}{n i off t:Nat}{tr:Tr α}{ok:α→Prop}{r:RM β}{VM:β→Prop}(hf:(fs[i]?.map λf=>(f.type,f.offset))=some (t,off))(hs:P.cellsOf t=tr.size)(ho:vQ enc P w t tr ok)(k:Fk enc P w fs n (i+1) (off+tr.size) r VM):Fk enc P w fs n i off (RM.cons tr r) λp=>ok p.1∧VM p.2:=λfuel cs xs h1 h2 h3 ρ hp hr hb=>by
 obtain⟨fd,ea,eb⟩:=Option.map_eq_some_iff.1 hf;injection eb with eb ec;have g:=h3 i fd ea;rw[eb,ec,hs,jx (by rw[h2];exact(Array.getElem?_eq_some_iff.1 ea).1)]at g;obtain⟨B3,m1,v1,a1,r1,b1,l1,f1,y1,t1,k1⟩:=ho _ _ _ g _ _ hr hb;obtain⟨Da,m2,v2,a2,r2,b2,l2,f2,y2,t2,k2⟩:=k fuel cs xs h1 h2 h3 _ _ r1 b1;refine⟨Da,m2,v1++v2,(a1,a2),r2,b2,l1.trans l2,f1.trans f2,?_,⟨v1,v2,rfl,tr.mono f2 t1,t2⟩,k1,k2⟩;have:=(y1.mono l2).append y2;rw[←List.drop_drop,List.take_append_drop]at this;exact this
theorem VP{α β:Type}{T:TypeId}{fs:Array Field}{n:Nat}{tr:Tr β}{VN:β→Prop}{r:RM α}{ok:α→Prop}(hu:P.underlying T=some (.struct fs))(hz:P.cellsOf T=n)(k:Fk enc P w fs n 0 0 r ok)(g:α→β)(hg:∀F vs a,r.rel F vs a→tr.rel F vs (g a))(hk:∀a,ok a→VN (g a)):vQ enc P w T tr VN:=by
 intro fuel cs x h ρ hp hr hb;obtain⟨xs,m,_,rfl,hl,hlen,hf⟩:=DataW.trod_struct hu h;obtain⟨Da,m2,v2,a2,r2,b2,l2,f2,y2,t2,k2⟩:=k m cs xs (by rw[hl,hz]) hlen hf _ _ hr hb;exact⟨Da,m2,v2,g a2,r2,b2,l2,f2,y2,hg _ _ _ t2,hk _ k2⟩
end
end Go.V
end
section
namespace Go.Wk.Lf
open Go.V Go.Proofs
end Go.Wk.Lf
namespace Go.Wk.Lf
open Go.V Go.RowKit Go.ChangeShapes Go.WideShapes Go.Deep
def jd.ok(x:jd):Prop:=(λs:List UInt8=>s.length≤maxLen) x.path∧(Ay LD) x.data
theorem ae3{H:Type}{enc:TypeId×Value→H}{w:World}:vQ enc il w 128 jd.t jd.ok:=VP (n:=2) (by kernel_rfl:il.underlying 128=some (.struct (il.fieldsOf 128))) (by kernel_rfl) (.cons (t:=9) (by kernel_rfl) (by kernel_rfl) (ae5 wH) (.cons (t:=31) (by kernel_rfl) (by kernel_rfl) (Gt lL (by kernel_rfl) (ae6 p7)) (.nil (by decide)))) (λp=>jd.mk p.1 p.2.1) (by rintro F vs ⟨a0,a1,_⟩ ⟨_,_,rfl,rfl,⟨_,_,rfl,⟨u1,rfl,s1⟩,rfl⟩⟩;exact⟨u1,rfl,s1⟩) (λp h=>⟨h.1,h.2.1⟩)
def mJ.ok(x:mJ):Prop:=Ax x.pe∧Ax x.n∧Ax x.iQ∧(Ay jd.ok) x.tree∧(Ay LD) x.pick
theorem ae2{H:Type}{enc:TypeId×Value→H}{w:World}:vQ enc il w 70 mJ.t mJ.ok:=VP (n:=5) (by kernel_rfl:il.underlying 70=some (.struct (il.fieldsOf 70))) (by kernel_rfl) (.cons (t:=3) (by kernel_rfl) (by kernel_rfl) (Gs mH) (.cons (t:=3) (by kernel_rfl) (by kernel_rfl) (Gs mH) (.cons (t:=3) (by kernel_rfl) (by kernel_rfl) (Gs mH) (.cons (t:=67) (by kernel_rfl) (by kernel_rfl) (Gt uo (by kernel_rfl) ae3) (.cons (t:=68) (by kernel_rfl) (by kernel_rfl) (Gt MK (by kernel_rfl) (ae4 EN)) (.nil (by decide))))))) (λp=>mJ.mk p.1 p.2.1 p.2.2.1 p.2.2.2.1 p.2.2.2.2.1) (by rintro F vs ⟨a0,a1,a2,a3,a4,_⟩ ⟨_,_,rfl,rfl,⟨_,_,rfl,rfl,⟨_,_,rfl,rfl,⟨_,_,rfl,⟨u3,rfl,s3⟩,⟨_,_,rfl,⟨u4,rfl,s4⟩,rfl⟩⟩⟩⟩⟩;exact⟨u3,u4,rfl,s3,s4⟩) (λp h=>⟨h.1,h.2.1,h.2.2.1,h.2.2.2.1,h.2.2.2.2.1⟩)
end Go.Wk.Lf
end
section
namespace Go.Wk.Lf
open Go.V
theorem YU(x0:List Int)(x1:List mJ)(x2:Int)(k0:Ay Ax x0)(k1:Ay mJ.ok x1)(k2:Ax x2):lk x0 x1 x2=some true:=YV x0 x1 x2
end Go.Wk.Lf
end
section
namespace Go.Wk.Lf
open Go.V Go.Proofs
end Go.Wk.Lf
namespace Go.Proofs
open Go.Shelf
def Tryz.ahY:Go.Shelf.Ren:=⟨λ |6=>96|15=>149|14=>148|28=>179|29=>180|20=>171|21=>172|22=>173|23=>174|24=>175|25=>176|26=>177|27=>178|46=>186|47=>187|48=>188|49=>189|50=>190|57=>199|n=>n,λ |22=>59|24=>35|25=>158|3=>3|39=>78|0=>0|53=>163|55=>194|4=>4|46=>229|45=>228|50=>142|5=>5|9=>9|66=>240|70=>244|76=>251|77=>252|n=>n,λ |n=>n⟩
theorem Tryz.ahW:Go.Proofs.SlLaysF0.n6 il Tryz.ahY:={
  mixed:=by kernel_rfl
  f6:=⟨Tryz.f96.name,by decide,Tryz.func96.trans (congrArg some (by kernel_rfl))⟩
  f14:=⟨Tryz.f148.name,by decide,Tryz.func148.trans (congrArg some (by kernel_rfl))⟩
  f15:=Tryz.func149.trans (congrArg some (by kernel_rfl))
  f20:=⟨Tryz.f171.name,by decide,Tryz.func171.trans (congrArg some (by kernel_rfl))⟩
  f21:=⟨Tryz.f172.name,by decide,Tryz.func172.trans (congrArg some (by kernel_rfl))⟩
  f22:=⟨Tryz.f173.name,by decide,Tryz.func173.trans (congrArg some (by kernel_rfl))⟩
  f23:=⟨Tryz.f174.name,by decide,Tryz.func174.trans (congrArg some (by kernel_rfl))⟩
  f24:=⟨Tryz.f175.name,by decide,Tryz.func175.trans (congrArg some (by kernel_rfl))⟩
  f25:=⟨Tryz.f176.name,by decide,Tryz.func176.trans (congrArg some (by kernel_rfl))⟩
  f26:=⟨Tryz.f177.name,by decide,Tryz.func177.trans (congrArg some (by kernel_rfl))⟩
  f27:=⟨Tryz.f178.name,by decide,Tryz.func178.trans (congrArg some (by kernel_rfl))⟩
  f28:=Tryz.func179.trans (congrArg some (by kernel_rfl))
  f29:=Tryz.func180.trans (congrArg some (by kernel_rfl))
  f46:=⟨Tryz.f186.name,by decide,Tryz.func186.trans (congrArg some (by kernel_rfl))⟩
  f47:=Tryz.func187.trans (congrArg some (by kernel_rfl))
  f48:=Tryz.func188.trans (congrArg some (by kernel_rfl))
  f49:=⟨Tryz.f189.name,by decide,Tryz.func189.trans (congrArg some (by kernel_rfl))⟩
  f50:=⟨Tryz.f190.name,by decide,Tryz.func190.trans (congrArg some (by kernel_rfl))⟩
  f57:=⟨Tryz.f199.name,by decide,Tryz.func199.trans (congrArg some (by kernel_rfl))⟩
  t0:=Tryz.underlying0
  a0:=Tryz.isAgg0
  z0:=Tryz.sizeOf0
  v0:=Tryz.zeroValue0
  t3:=mH
  a3:=Tryz.isAgg3
  z3:=Tryz.sizeOf3
  v3:=Tryz.zeroValue3
  t4:=EN
  a4:=Tryz.isAgg4
  z4:=Tryz.sizeOf4
  v4:=Tryz.zeroValue4
  t5:=p7
  a5:=Tryz.isAgg5
  z5:=Tryz.sizeOf5
  v5:=Tryz.zeroValue5
  t9:=wH
  a9:=Tryz.isAgg9
  z9:=Tryz.sizeOf9
  v9:=Tryz.zeroValue9
  t22:=Tryz.underlying59
  a22:=Tryz.isAgg59
  z22:=Tryz.sizeOf59
  v22:=Tryz.zeroValue59
  t25:=Tryz.underlying158
  a25:=Tryz.isAgg158
  z25:=Tryz.sizeOf158
  v25:=Tryz.zeroValue158
  t39:=p9
  a39:=Tryz.isAgg78
  z39:=Tryz.sizeOf78
  v39:=Tryz.zeroValue78
  t45:=Tryz.underlying228
  a45:=Tryz.isAgg228
  z45:=Tryz.sizeOf228
  v45:=Tryz.zeroValue228
  t46:=Tryz.underlying229
  a46:=Tryz.isAgg229
  z46:=Tryz.sizeOf229
  v46:=Tryz.zeroValue229
  t50:=Tryz.underlying142
  a50:=Tryz.isAgg142
  z50:=Tryz.sizeOf142
  v50:=Tryz.zeroValue142
  t53:=EK
  a53:=Tryz.isAgg163
  z53:=Tryz.sizeOf163
  v53:=Tryz.zeroValue163
  t55:=Di
  a55:=Tryz.isAgg194
  z55:=Tryz.sizeOf194
  v55:=Tryz.zeroValue194
  t66:=Tryz.underlying240
  a66:=Tryz.isAgg240
  z66:=Tryz.sizeOf240
  v66:=Tryz.zeroValue240
  t70:=Tryz.underlying244
  a70:=Tryz.isAgg244
  z70:=Tryz.sizeOf244
  v70:=Tryz.zeroValue244
  t76:=Tryz.underlying251
  a76:=Tryz.isAgg251
  z76:=Tryz.sizeOf251
  v76:=Tryz.zeroValue251
  t77:=Tryz.underlying252
  a77:=Tryz.isAgg252
  z77:=Tryz.sizeOf252
  v77:=Tryz.zeroValue252 }
def Tryz.ahV:Go.Shelf.Ren:=⟨λ |6=>168|15=>149|14=>185|28=>179|29=>180|20=>191|21=>192|22=>193|23=>194|24=>195|25=>196|26=>197|27=>198|46=>200|47=>187|48=>188|49=>201|50=>202|57=>203|n=>n,λ |22=>109|24=>82|25=>187|3=>3|39=>78|0=>0|53=>163|55=>194|4=>4|46=>229|45=>228|50=>142|5=>5|9=>9|66=>240|70=>244|76=>251|77=>252|n=>n,λ |n=>n⟩
theorem Tryz.ahT:Go.Proofs.SlLaysF0.n6 il Tryz.ahV:={
  mixed:=by kernel_rfl
  f6:=⟨Tryz.f168.name,by decide,Tryz.func168.trans (congrArg some (by kernel_rfl))⟩
  f14:=⟨Tryz.f185.name,by decide,Tryz.func185.trans (congrArg some (by kernel_rfl))⟩
  f15:=Tryz.func149.trans (congrArg some (by kernel_rfl))
  f20:=⟨Tryz.f191.name,by decide,Tryz.func191.trans (congrArg some (by kernel_rfl))⟩
  f21:=⟨Tryz.f192.name,by decide,Tryz.func192.trans (congrArg some (by kernel_rfl))⟩
  f22:=⟨Tryz.f193.name,by decide,Tryz.func193.trans (congrArg some (by kernel_rfl))⟩
  f23:=⟨Tryz.f194.name,by decide,Tryz.func194.trans (congrArg some (by kernel_rfl))⟩
  f24:=⟨Tryz.f195.name,by decide,Tryz.func195.trans (congrArg some (by kernel_rfl))⟩
  f25:=⟨Tryz.f196.name,by decide,Tryz.func196.trans (congrArg some (by kernel_rfl))⟩
  f26:=⟨Tryz.f197.name,by decide,Tryz.func197.trans (congrArg some (by kernel_rfl))⟩
  f27:=⟨Tryz.f198.name,by decide,Tryz.func198.trans (congrArg some (by kernel_rfl))⟩
  f28:=Tryz.func179.trans (congrArg some (by kernel_rfl))
  f29:=Tryz.func180.trans (congrArg some (by kernel_rfl))
  f46:=⟨Tryz.f200.name,by decide,Tryz.func200.trans (congrArg some (by kernel_rfl))⟩
  f47:=Tryz.func187.trans (congrArg some (by kernel_rfl))
  f48:=Tryz.func188.trans (congrArg some (by kernel_rfl))
  f49:=⟨Tryz.f201.name,by decide,Tryz.func201.trans (congrArg some (by kernel_rfl))⟩
  f50:=⟨Tryz.f202.name,by decide,Tryz.func202.trans (congrArg some (by kernel_rfl))⟩
  f57:=⟨Tryz.f203.name,by decide,Tryz.func203.trans (congrArg some (by kernel_rfl))⟩
  t0:=Tryz.underlying0
  a0:=Tryz.isAgg0
  z0:=Tryz.sizeOf0
  v0:=Tryz.zeroValue0
  t3:=mH
  a3:=Tryz.isAgg3
  z3:=Tryz.sizeOf3
  v3:=Tryz.zeroValue3
  t4:=EN
  a4:=Tryz.isAgg4
  z4:=Tryz.sizeOf4
  v4:=Tryz.zeroValue4
  t5:=p7
  a5:=Tryz.isAgg5
  z5:=Tryz.sizeOf5
  v5:=Tryz.zeroValue5
  t9:=wH
  a9:=Tryz.isAgg9
  z9:=Tryz.sizeOf9
  v9:=Tryz.zeroValue9
  t22:=Tryz.underlying109
  a22:=Tryz.isAgg109
  z22:=Tryz.sizeOf109
  v22:=Tryz.zeroValue109
  t25:=Tryz.underlying187
  a25:=Tryz.isAgg187
  z25:=Tryz.sizeOf187
  v25:=Tryz.zeroValue187
  t39:=p9
  a39:=Tryz.isAgg78
  z39:=Tryz.sizeOf78
  v39:=Tryz.zeroValue78
  t45:=Tryz.underlying228
  a45:=Tryz.isAgg228
  z45:=Tryz.sizeOf228
  v45:=Tryz.zeroValue228
  t46:=Tryz.underlying229
  a46:=Tryz.isAgg229
  z46:=Tryz.sizeOf229
  v46:=Tryz.zeroValue229
  t50:=Tryz.underlying142
  a50:=Tryz.isAgg142
  z50:=Tryz.sizeOf142
  v50:=Tryz.zeroValue142
  t53:=EK
  a53:=Tryz.isAgg163
  z53:=Tryz.sizeOf163
  v53:=Tryz.zeroValue163
  t55:=Di
  a55:=Tryz.isAgg194
  z55:=Tryz.sizeOf194
  v55:=Tryz.zeroValue194
  t66:=Tryz.underlying240
  a66:=Tryz.isAgg240
  z66:=Tryz.sizeOf240
  v66:=Tryz.zeroValue240
  t70:=Tryz.underlying244
  a70:=Tryz.isAgg244
  z70:=Tryz.sizeOf244
  v70:=Tryz.zeroValue244
  t76:=Tryz.underlying251
  a76:=Tryz.isAgg251
  z76:=Tryz.sizeOf251
  v76:=Tryz.zeroValue251
  t77:=Tryz.underlying252
  a77:=Tryz.isAgg252
  z77:=Tryz.sizeOf252
  v77:=Tryz.zeroValue252 }
end Go.Proofs
namespace Go.Wk.Lf
open Go.V Go.Proofs
theorem adU:vO il KK :=
  Tb.or (Sm (ff:=Tryz.f96) XO Tryz.ahW rfl Tryz.isAgg35 Tryz.sizeOf35 Tryz.func96 rfl (by decide)) (Tb.or (Sm (ff:=Tryz.f168) Sl Tryz.ahT rfl Tryz.isAgg82 Tryz.sizeOf82 Tryz.func168 rfl (by decide)) (Tb.or Sl (Tb.or JU (Tb.or (M9 JU) (Tb.or (M9 JU) (M9 JU))))))
end Go.Wk.Lf
end
