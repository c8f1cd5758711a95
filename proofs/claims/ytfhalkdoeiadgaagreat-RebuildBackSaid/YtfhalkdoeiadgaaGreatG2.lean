/- Own rows: an element is read, is written. What is owned is frozen: a result, or what is lent to readers. Rules for walks: what comes behind stands in the post. Operations that look into memory, in regions in the text's order. More slots filled: operations tell the same. More slots filled: what XW shows stays. Walks over lists of slots: continuations as data, rules for code and operations. The words of lifted functions; loops over them; own objects by their places. Operations that read: what they tell, out of frozen cells. Own rows: some elements more at once; made anew. Operations that turn me -/
import Derived.Test.YtfhalkdoeiadgaaGreatG1
import Derived.Shelf.SlSortCmp.WholeK
import Derived.Lib.Overlaps
set_option linter.unusedVariables false
set_option linter.unusedSimpArgs false
open Array renaming getElem?_append_left→Jq, getElem?_eq_some_iff→Mu, getElem?_modify→zG
open BitVec renaming ofInt→pv
open Bool renaming and_eq_true→jK, false_or→nG, true_and→oP
open Eq renaming symm→Mz, trans→Jt
open Go renaming FuncId→nI, IntKind→pQ, Operand→iT, Program→iY, ResultVar→Dl, TypeDesc→tF, TypeId→iA, Value→iU
open Go.IntKind renaming bits→EI, i64→yE, signed→EJ, u32→AS, u64→Dg, u8→Rs, wrap→Jz
open Go.Op renaming bytesLess→wF
open Go.Sort renaming ahead→xz
open Go.World renaming cell?→uq, frozen?→ET, shape?→JE
open Int renaming natCast_mul→JG, natCast_nonneg→RL, natCast_pow→RN, toNat_natCast→ly
open List renaming all_append→lz, all_eq_true→j9, append_assoc→pG, append_nil→rY, drop_drop→Dq, drop_zero→ur, eq_nil_of_length_eq_zero→nK, eq_of_mem_replicate→JI, ext_getElem→JJ, ext_getElem?→Ca, flatten_append→uu, flatten_cons→o7, flatten_nil→MR, getElem?_append_left→mU, getElem?_append_right→nq, getElem?_cons_zero→E1, getElem?_drop→pS, getElem?_eq_getElem→jx, getElem?_eq_none→zN, getElem?_eq_none_iff→RU, getElem?_eq_some_iff→kI, getElem?_map→sF, getElem?_set_ne→wI, getElem?_set_self→uv, getElem?_take→oc, getElem_of_mem→my, head_eq_of_cons_eq→sG, length_append→kU, length_cons→tG, length_drop→od, length_map→sH, length_replicate→vL, length_set→AV, length_take→kX, mapM_cons→qa, mapM_nil→AW, map_append→vM, map_cons→qI, map_map→yH, map_nil→E4, mem_append→mF, mem_cons→lM, mem_cons_of_mem→mV, mem_filterMap→Du, mem_flatMap→AX, mem_flatten→ny, mem_map→qJ, mem_map_of_mem→Dv, mem_of_getElem?→pH, mem_of_mem_drop→sI, mem_of_mem_take→sJ, mem_or_eq_of_mem_set→G3, mem_replicate→JM, nil_append→wM, nodup_append→Cb, nodup_cons→tH, nodup_nil→AY, pairwise_cons→zP, pairwise_map→E6, range→mI, replicate→iV, size_toArray→RW, take→RX, take_append_drop→u7, take_append_of_le_length→JN, take_left→MX, take_left'→E7, take_length→ow, take_of_length_le→xB, take_take→E8
open List.Perm renaming cons→RP, refl→JH
open List.cons renaming injEq→EU
open Nat renaming add_assoc→sK, add_mul→lQ, add_zero→sZ, beq→rZ, ble→xC, blt→lC, div_add_mod→RZ, div_eq_of_lt→R2, eq_of_beq_eq_true→xD, le_of_ble_eq_true→kY, le_of_lt→uw, le_refl→jg, le_succ→vN, le_trans→nY, lt_of_le_of_lt→R3, lt_of_lt_of_le→sa, lt_succ_self→xF, min_eq_left→xG, mod_eq_of_lt→zQ, mod_eq_sub_mod→R5, mul_comm→R6, mul_le_mul_right→nL, mul_one→MZ, mul_pos→Fa, ne_of_beq_eq_false→G8, sub_mul→yI, zero_add→jn, zero_le→ju
open Option renaming bind_eq_bind→wN, bind_eq_some_iff→iO, bind_some→jy, isSome_iff_exists→Ha, map_eq_some_iff→jR, map_some→lE
open Option.some renaming inj→iK, injEq→km
open Prod.mk renaming inj→Sb, injEq→jT
open Subtype renaming val→kg
open UInt32 renaming ofNat→kQ, toNat_ofNat'→Hd
section
namespace Go.V
theorem KI{s:Nat}(hs:0<s):∀(css:List (Cl s))(p:Nat),(css.map kg).flatten[p]? =(css[p/s]?).bind λd=>d.1[p%s]?
 |[],p=>by simp
 |d::r,p=>by
  rw[qI,o7]
  by_cases hp:p<s
  ·rw[mU (by rw[d.2];exact hp),R2 hp,zQ hp];rfl
  ·have e1:p/s=(p-s)/s+1:=Nat.div_eq_sub_div hs (by omega);have e2:p%s=(p-s)%s:=R5 (by omega);rw[nq (by rw[d.2];omega),d.2,KI hs r (p-s),e1,e2];rfl
theorem Oh{β:Type}:∀(l:List (List β))(i:Nat)(e':List β),l.flatten.Nodup→e'.Nodup→(∀g,g∈e' → ∀j e2,j≠i→l[j]? =some e2→g∉e2)→(l.set i e').flatten.Nodup
 |[],i,e',_,_,_=>by simp
 |a::l,0,e',h,he,hd=>by
  rw[o7]at h;obtain⟨_,h2,_⟩:=Cb.1 h;rw[List.set_cons_zero,o7];refine Cb.2 ⟨he,h2,λx hx y hy q=>?_⟩;subst q;obtain⟨e2,q1,q2⟩:=ny.1 hy;obtain⟨j,hj,rfl⟩:=my q1;exact hd x hx (j+1) _ (by omega) (by simp[hj]) q2
 |a::l,i+1,e',h,he,hd=>by
  rw[o7]at h;obtain⟨h1,h2,h3⟩:=Cb.1 h;rw[List.set_cons_succ,o7];refine Cb.2 ⟨h1,Oh l i e' h2 he λg hg j e2 hj h2=>hd g hg (j+1) e2 (by omega) (by simpa using h2),λx hx y hy q=>?_⟩;subst q;obtain⟨e2,q1,q2⟩:=ny.1 hy;rcases G3 q1 with q|q
  ·exact h3 x hx x (ny.2 ⟨e2,q,q2⟩) rfl
  ·subst q;exact hd x q2 0 a (by omega) rfl hx
theorem KH{β:Type}:∀(l:List (List β)){i j:Nat}{e e2:List β}{g:β},l.flatten.Nodup→j≠i→l[j]? =some e2→l[i]? =some e→g∈e2→g∈e→False
 |[],i,j,e,e2,g,_,_,h,_,_,_=>by simp at h
 |a::l,0,0,e,e2,g,_,hj,_,_,_,_=>hj rfl
 |a::l,0,j+1,e,e2,g,h,_,h2,h1,g2,g1=>by
  rw[o7]at h;simp at h1 h2;subst h1;exact(Cb.1 h).2.2 g g1 g (ny.2 ⟨e2,pH h2,g2⟩) rfl
 |a::l,i+1,0,e,e2,g,h,_,h2,h1,g2,g1=>by
  rw[o7]at h;simp at h1 h2;subst h2;exact(Cb.1 h).2.2 g g2 g (ny.2 ⟨e,pH h1,g1⟩) rfl
 |a::l,i+1,j+1,e,e2,g,h,hj,h2,h1,g2,g1=>by
  rw[o7]at h;exact KH l (i:=i) (j:=j) (Cb.1 h).2.1 (by omega) (by simpa using h2) (by simpa using h1) g2 g1
section
variable{α:Type}{t:To α}{F:gL}{h:Hp}{bs:List Nat}{v:gE}{xs:List α}
theorem To.Wp(po:0<t.size)(r:(To.row t).rel F h bs [v] xs){i:Nat}{x:α}(hi:xs[i]? =some x) :
  ∃b k cs e,v = .sl (some (b,0)) xs.length (.of t.size k)∧b∈bs∧b<h.next∧(∀g,g∈e→g∈bs∧g≠b)∧t.rel F h e cs x∧rd h b (i*t.size) t.size=some cs ∧
   ∀(us:List gE)(q:Nat)(ds:List gE)(y:α)(e':List Nat),us.all gE.one=true→q+us.length≤t.size→ds=kA cs q us→(∀h',h'.next=h.next→(∀g,g≠b→h'.get g=h.get g)→t.rel F h' e' ds y)→(∀g,g∈e'→g∉bs∨g∈e)→(∀g,g∈e'→g<h.next)→e'.Nodup →
    ∃h' kE,p6 h b (i*t.size+q) us=some h'∧(To.row t).rel F h' kE [v] (xs.set i y)∧h'.next=h.next∧(∀g,g≠b→h'.get g=h.get g) ∧ ∀g,g∈kE→g∈bs∨g∈e':=by
 obtain⟨v0,lK,r⟩:=r;obtain rfl:=sG lK;have jU:=(kI.1 hi).1;rcases r with⟨rfl,rfl,rfl⟩|⟨b,c,k,css,bss,r⟩
 ·simp at hi
 ·obtain⟨y8,hblk,Cz,Bo,HU,nE,vu,Ij,te,xb,DU,y7,uN⟩:=r;subst y8;subst y7;obtain⟨rk,rN⟩:=tH.1 uN;have pB:=vq css;have Ux:xs.length*t.size≤c.length:=by
   have:(c.take (xs.length*t.size)).length=xs.length*t.size:=by rw[vu,pB,Bo]
   rw[kX]at this;omega
  have hd:=jx (l:=css) (i:=i) (by omega);have he:=jx (l:=bss) (i:=i) (by omega);generalize tR:css[i]=d at hd;generalize hee:bss[i]=e at he;have hr:=nE i d x e hd hi he;have uL:∀g,g∈e→g∈bss.flatten:=λg hg=>ny.2 ⟨e,pH he,hg⟩;have hiz:i*t.size+t.size≤xs.length*t.size:=by
   have:=nL t.size (show i+1≤xs.length from jU);rw[lQ]at this;omega
  have KT:∀p,p<xs.length*t.size→c[p]? =(css[p/t.size]?).bind λd=>d.1[p%t.size]?:=λp hp=>by
   rw[←KI po,←vu,oc,if_pos hp]
  have Uz:∀j,j<t.size→c[i*t.size+j]? =d.1[j]?:=λj hj=>by
   rw[KT _ (by omega),R6 i,Nat.mul_add_div po,Nat.mul_add_mod,R2 hj,zQ hj,sZ,hd];rfl
  refine⟨b,k,d.1,e,rfl,by simp,Cz,λg hg=>⟨mV _ (uL g hg),λq=>rk (q▸uL g hg)⟩,hr,?_,?_⟩
  ·unfold rd;rw[hblk];simp only;rw[if_pos (by omega)]
   congr 1
   apply Ca;intro j;rw[oc]
   split
   ·rename_i hj;rw[pS];exact Uz j hj
   ·rw[zN (by rw[d.2];omega)]
  ·intro us q ds y e' Am hq UB hy CA K3 acz;have hle:i*t.size+q+us.length≤c.length:=by omega
   have abH:ds.length=t.size:=by rw[UB,tv (by rw[d.2];exact hq)];exact d.2
   refine⟨h.set b (.cells t.size (kA c (i*t.size+q) us)),b::(bss.set i e').flatten,?_,⟨_,rfl,.inr ⟨b,kA c (i*t.size+q) us,k,css.set i ⟨ds,abH⟩,bss.set i e',?_⟩⟩,rfl,λg hg=>by rw[Hp.jv,if_neg hg],λg hg=>?_⟩
   ·unfold p6;rw[hblk];simp only;rw[if_pos ⟨hle,Am⟩]
   ·have Ik:∀(j:Nat)(e2:List Nat),bss[j]? =some e2 → ∀g,g∈e2→g≠b:=λj e2 h2 g hg q=>rk (q▸ny.2 ⟨e2,pH h2,hg⟩);refine⟨by simp,by rw[Hp.jv,if_pos rfl],Cz,by simp[Bo],by simp[HU],λj d2 x2 e2 q1 q2 q3=>?_,?_,λq=>by rw[tv hle];simpa using Ij q,λm q=>by rw[tv hle];simpa using te m q,by simpa using xb,?_,rfl,?_⟩
    ·by_cases hj:j=i
     ·subst hj;rw[uv (by omega)]at q1 q2 q3;obtain rfl:=iK q1;obtain rfl:=iK q2;obtain rfl:=iK q3;exact hy _ rfl λg hg=>by rw[Hp.jv,if_neg hg]
     ·rw[wI (λq=>hj q.symm)]at q1 q2 q3;exact t.frame (nE j d2 x2 e2 q1 q2 q3) (jg _) λg hg=>by rw[Hp.jv,if_neg (Ik j e2 q3 g hg)]
    ·apply Ca;intro p;rw[KI po,oc,AV]
     split
     ·rename_i hp;rw[AB hle]
      by_cases K8:p/t.size=i
      ·have hpe:p=i*t.size+p%t.size:=by rw[←K8,R6];exact(RZ p t.size).symm
       have hpm:=Nat.mod_lt p po;rw[K8,uv (by omega)];show _=ds[p%t.size]?;rw[UB,AB (by rw[d.2];exact hq)]
       by_cases hw:q≤p%t.size∧p%t.size<q+us.length
       ·rw[if_pos hw,if_pos (by omega),show p-(i*t.size+q)=p%t.size-q by omega]
       ·rw[if_neg hw,if_neg (by omega),←Uz _ hpm,←hpe]
      ·rw[wI (λq=>K8 q.symm),if_neg,KT p hp];intro hw;apply K8;have sW:i*t.size≤p:=by omega
       have rP:p<(i+1)*t.size:=by rw[lQ];omega
       exact Nat.div_eq_of_lt_le sW rP
     ·rename_i hp;rw[zN]
      ·rfl
      ·rw[AV,Bo];exact(Nat.le_div_iff_mul_le po).2 (by omega)
    ·unfold kA;rw[lz,lz,Am];have q1:(c.take (i*t.size+q)).all gE.one=true:=j9.2 λx hx=>j9.1 DU x (sJ hx);have q2:(c.drop (i*t.size+q+us.length)).all gE.one=true:=j9.2 λx hx=>j9.1 DU x (sI hx);rw[q1,q2];rfl
    ·refine tH.2 ⟨λq=>?_,Oh bss i e' rN acz λg hg j e2 hj h2 pg=>?_⟩
     ·obtain⟨e2,q1,q2⟩:=ny.1 q;rcases G3 q1 with q3|q3
      ·exact rk (ny.2 ⟨e2,q3,q2⟩)
      ·subst q3;rcases CA b q2 with q4|q4
       ·exact q4 (by simp)
       ·exact rk (uL b q4)
     ·rcases CA g hg with q4|q4
      ·exact q4 (mV _ (ny.2 ⟨e2,pH h2,pg⟩))
      ·exact KH bss rN hj h2 he pg q4
   ·rcases lM.1 hg with rfl|hg
    ·exact .inl (by simp)
    ·obtain⟨e2,h2,pg⟩:=ny.1 hg;rcases G3 h2 with q|q
     ·exact .inl (mV _ (ny.2 ⟨e2,q,pg⟩))
     ·exact .inr (q▸pg)
end
end Go.V
end
section
namespace Go.V
def gL.plus(F:gL)(h:Hp)(bs:List Nat):gL:=λb o=>if b∈bs then lP h b o else F b o
theorem gL.LJ{F:gL}{h:Hp}{bs:List Nat}(hn:∀b,b∈bs → ∀k,F b k=none):F.le (F.plus h bs):=λb o u e=>by
 unfold gL.plus;rw[if_neg]
 ·exact e
 ·intro q;rw[hn b q o]at e;cases e
section
variable{X:List Nat}{h0 h:Hp}{F0 F:gL}{L:List Ob}
theorem St.PW(s:St X h0 F0 F L h){i:Nat}{o:Ob}(hi:L[i]? =some o):∀b,b∈o.bs → ∀k,F b k=none:=λb hb=>((s.own i o hi).2 b hb).1
theorem St.freeze(s:St X h0 F0 F L h){i:Nat}{o:Ob}(hi:L[i]? =some o):St X h0 F0 (F.plus h o.bs) (L.eraseIdx i) h:=by
 have hle:=gL.LJ (h:=h) (s.PW hi);have tg:∀(j:Nat)(p:Ob),(L.eraseIdx i)[j]? =some p → ∃j',j'≠i∧L[j']? =some p∧(j'=if j<i then j else j+1):=λj p hj=>by
  rw[List.getElem?_eraseIdx]at hj
  split at hj
  ·rename_i q;exact⟨j,by omega,hj,by rw[if_pos q]⟩
  ·rename_i q;exact⟨j+1,by omega,hj,by rw[if_neg q]⟩
 refine⟨s.next,s.wf,s.ua,λb k u e=>?_,s.ext.trans hle,λb k u e=>?_,λj p hj=>?_,λj k p p' b hj hk hp ti=>?_⟩
 ·unfold gL.plus at e
  split at e
  ·exact e
  ·exact s.agree b k u e
 ·unfold gL.plus at e
  split at e
  ·rename_i q;exact .inr ((s.own i o hi).2 b q).2
  ·exact s.new b k u e
 ·obtain⟨j',q1,q2,_⟩:=tg j p hj;obtain⟨t1,t2⟩:=s.own j' p q2;refine⟨p.t.mono hle t1,λb hb=>⟨λk=>?_,(t2 b hb).2⟩⟩;unfold gL.plus;rw[if_neg λq=>q1 (s.apart j' i p o b q2 hi hb q)];exact(t2 b hb).1 k
 ·obtain⟨j',q1,q2,q3⟩:=tg j p hj;obtain⟨k',r1,r2,r3⟩:=tg k p' hk;have:=s.apart j' k' p p' b q2 r2 hp ti
  split at q3<;>split at r3<;>omega
end
theorem I9{α:Type}{t:Tr α}{F G:gL}{h:Hp}{bs:List Nat}{v:gE}{xs:List α}(r:(To.row (To.ma t)).rel F h bs [v] xs)(hl:F.le G)(hg:∀b,b∈bs → ∀o u,lP h b o=some u→G b o=some u):iq t G v xs:=by
 obtain⟨v0,lK,r⟩:=r;obtain rfl:=sG lK;rcases r with⟨rfl,rfl,_⟩|⟨b,c,k,css,bss,r⟩
 ·exact iq.nil _
 ·have xb:xs.length≤maxLen:=nY r.tc (by unfold maxLen;decide);have key:∀css:List (Cl t.size),css.length=xs.length→(∀(i:Nat)(d:Cl t.size)(x:α),css[i]? =some d→xs[i]? =some x→t.rel F d.1 x)→c.take (xs.length*t.size)=(css.map kg).flatten→iq t G v xs:=λcss lT nE hc=>by
   refine⟨css,⟨lT,λi d x h1 h2=>t.mono hl (nE i d x h1 h2)⟩,.inr ⟨some (b,0),k,by rw[r.form,lT];rfl,by rw[lT];exact xb,λm hm=>by rw[lT];exact(r.cap m hm).2,λq=>(by cases q),λb' o' pA i d j u h1 h2=>?_⟩⟩;simp only[km,jT]at pA;obtain⟨rfl,rfl⟩:=pA;refine hg b (by rw[r.vr];simp) _ _ ?_;unfold lP;rw[r.kG,jn];have jU:=(kI.1 h1).1;have nT:j<t.size:=by have:=(kI.1 h2).1;rw[d.2]at this;exact this
   have jB:i*t.size+j<xs.length*t.size:=by
    have:=nL t.size (show i+1≤xs.length by rw[←lT];exact jU);rw[lQ]at this;omega
   have:=FO h1 h2;show c[i*t.size+j]? =some u;rw[←hc,oc,if_pos jB]at this;exact this
  refine key css r.mr (λi d x h1 h2=>?_) r.cells;have hi:=(kI.1 h2).1;exact(r.rel i d x _ h1 h2 (jx (by rw[r.og];exact hi))).2
end Go.V
end
section
namespace Go.V
section
variable{P:iY}{K:Tb}
def Nh(P:iY)(K:Tb)(n:Nat)(b:Code)(Q:Out→Prop):Out→Prop
 | .code .mZ env h=>XW P K (.code n b env h) Q
 |o=>Q o
def Sf(id:Nat)(Q:Out→Prop):Out→Prop
 | .code (.ext i) env h=>Q (.code (if i=id then .mZ else .ext i) env h)
 |o=>Q o
def Si(P:iY)(rs:List Dl)(Q:Out→Prop):Out→Prop
 | .code .mZ env h=>∃vs,wy P env h rs=some vs∧Q (.call (zq vs) h)
 | .code .ret env h=>∃vs,wy P env h rs=some vs∧Q (.call (zq vs) h)
 |_=>False
theorem XW.Wy{n:Nat}{a b:Code}{env:Env}{h:Hp}{Q:Out→Prop}(x:XW P K (.code n a env h) (Nh P K n b Q)):XW P K (.code n (.seq a b) env h) Q :=
 .seq x (λlr h' q=>q) λe lr h' ne q=>by cases e<;>first|exact absurd rfl ne|exact q
theorem XW.Y8{n id:Nat}{a:Code}{env:Env}{h:Hp}{Q:Out→Prop}(x:XW P K (.code n a env h) (Sf id Q)):XW P K (.code n (.block id a) env h) Q :=
 .block x λe lr h' q=>by cases e<;>exact q
theorem XW.Zk{f:nI}{args:List gE}{h:Hp}{Q:Out→Prop}{fn:Func}{c:Code}(hf:P.funcs[f]? =some fn)(hb:fn.body=some c)(hn:fn.name ≠ "runtime.NumGoroutine")(hl:args.length≤fn.ntmps)(x:XW P K (.code fn.ntmps c (DC 0 args .lf) h) (Si P fn.results.toList Q)):XW P K (.call f args h) Q :=
 .call hf hb hn hl x λe lr h' q=>by
  cases e with
  |mZ=>exact⟨.inl rfl,q⟩
  |ret=>exact⟨.inr rfl,q⟩
  |ext i=>exact q.elim
theorem XW.TK{n:Nat}{x:iT}{a b:Code}{env:Env}{h:Hp}{Q:Out→Prop}(hx:jI env x=some (.b true))(q:XW P K (.code n a env h) Q):XW P K (.code n (.cond x a b) env h) Q:=.cond (t:=true) hx q
theorem XW.aap{n:Nat}{x:iT}{a b:Code}{env:Env}{h:Hp}{Q:Out→Prop}(hx:jI env x=some (.b false))(q:XW P K (.code n b env h) Q):XW P K (.code n (.cond x a b) env h) Q:=.cond (t:=false) hx q
theorem XW.aaq{n:Nat}{x:iT}{a b:Code}{env:Env}{h:Hp}{Q:Out→Prop}{t:Bool}(hx:jI env x=some (.b t))(q1:t=true→XW P K (.code n a env h) Q)(q2:t=false→XW P K (.code n b env h) Q):XW P K (.code n (.cond x a b) env h) Q:=by
 cases t
 ·exact .aap hx (q2 rfl)
 ·exact .TK hx (q1 rfl)
end
end Go.V
end
section
namespace Go.V
section
variable{P:iY}{K:Tb}
def XV(I:Nat→Env→Hp→Prop)(k:Nat)(Q:Out→Prop):Out→Prop
 | .code .mZ env h=>∃j,j<k∧I j env h
 |o=>Q o
theorem XW.aej{n:Nat}{a:Code}{Q:Out→Prop}(I:Nat→Env→Hp→Prop)(step:∀k env h,I k env h→XW P K (.code n a env h) (XV I k Q)):∀(k:Nat)(env:Env)(h:Hp),I k env h→XW P K (.code n (.loop a) env h) Q:=by
 intro k
 induction k using Nat.strongRecOn with
 | _ k ih =>
  intro env h hI;refine .loop (step k env h hI) (λlr h' q=>?_) (λe lr h' ne q=>?_)
  ·obtain⟨j,hj,HP⟩:=q;exact ih j hj lr h' HP
  ·cases e with
   |mZ=>exact absurd rfl ne
   |ext i=>exact q
   |ret=>exact q
theorem V5{h:Hp}{b o z off n:Nat}{cs:List gE}(hr:rd h b o z=some cs)(hn:off+n≤z):rd h b (o+off) n=some ((cs.drop off).take n):=by
 have key:∀c:List gE,(if o+z≤c.length then some ((c.drop o).take z)else none)=some cs→(if o+off+n≤c.length then some ((c.drop (o+off)).take n)else none)=some ((cs.drop off).take n):=λc hq=>by
  split at hq
  ·obtain rfl:=iK hq;rw[if_pos (by omega),List.drop_take,Dq,E8,xG (by omega)]
  ·cases hq
 unfold rd at hr ⊢
 split at hr
 ·exact key _ hr
 ·exact key _ hr
 ·cases hr
theorem adp{t e:iA}{z b o len i:Nat}{c:Cap}{k:pQ}(ht:P.underlying t=some (.slice e))(hz:sz P e=some z)(hi:i<len):Eb P t (.sl (some (b,o)) len c) (.i k i)=some (.p (some (b,o+i*z))):=by
 unfold Eb uc;simp only;rw[if_pos (by omega)];simp[ht,hz,hi]
theorem Px{h:Hp}{t:iA}{b o:Nat}{v:gE}(ht:lG P t=some false)(hr:rd h b o 1=some [v]):tt P h t (.p (some (b,o)))=some v:=by
 simp[tt,ht,hr]
theorem Ix{h:Hp}{t:iA}{b o n:Nat}{cs:List gE}(ht:lG P t=some true)(hz:sz P t=some n)(hr:rd h b o n=some cs):tt P h t (.p (some (b,o)))=some (.agg cs):=by
 simp[tt,ht,hz,hr]
end
end Go.V
end
section
namespace Go.V
def Le{α:Type}(o o':Option α):Prop:=∀a,o=some a→o'=some a
theorem Le.refl{α:Type}(o:Option α):Le o o:=λ_ h=>h
theorem Le.bind{α β:Type}{o o':Option α}{f g:α→Option β}(h:Le o o')(k:∀a,Le (f a) (g a)):Le (o.bind f) (o'.bind g):=λb e=>by
 rw[iO]at e ⊢;obtain⟨a,e1,e2⟩:=e;exact⟨a,h a e1,k a b e2⟩
theorem Le.map{α β:Type}{o o':Option α}{f:α→β}(h:Le o o'):Le (o.map f) (o'.map f):=λb e=>by
 obtain⟨a,e1,e2⟩:=jR.1 e;exact jR.2 ⟨a,h a e1,e2⟩
theorem Le.mapM{α β:Type}{f g:α→Option β}(h:∀a,Le (f a) (g a)):∀l:List α,Le (l.mapM f) (l.mapM g)
 |[]=>Le.refl _
 |a::l=>by
  rw[qa,qa];exact Le.bind (h a) λ_=>Le.bind (Le.mapM h l) λ_=>Le.refl _
end Go.V
end
section
namespace Go.V
end Go.V
end
section
namespace Go.V
abbrev EL:=List (Nat×gE)
def look:EL→Nat→Option gE
 |[],_=>none
 |(k,v)::l,t=>match rZ k t with|true=>some v|false=>look l t
def Has(E:EL)(env:Env):Prop:=∀t v,look E t=some v→env.get t=some v
def iP(E:EL):iT→Option gE
 | .tmp t=>look E t
 | .const v=>cv v
 | .global _=>none
 | .func f=>some (.f f [])
def tP(E:EL)(l:List iT):Option (List gE):=l.mapM (iP E)
def DQ(E:EL)(l:List (Nat×iT)):Option (List (Nat×gE)):=l.mapM λq=>(iP E q.2).map λv=>(q.1,v)
def xa(E:EL):Option iT→Option (Option gE)
 |none=>some none
 |some x=>(iP E x).map some
def jS(P:iY)(env:EL)(h:Hp):Op→Option (gE×Hp)
 | .move x | .assign x=>(iP env x).map λv=>(v,h)
 | .pick c a b=>(iP env c).bind λ | .b true=>(iP env a).map λv=>(v,h) | .b false=>(iP env b).map λv=>(v,h)|_=>none
 | .alloc e=>(zeroV P e).bind λv=>vR h v.cells.length v.cells
 | .box e x=>(iP env x).bind λv=>vR h v.cells.length v.cells
 | .build t ps=>(DQ env ps.toList).bind λps=>(Fx P t ps).map λv=>(v,h)
 | .buildSlice t n ps=>(DQ env ps.toList).bind λps=>Cq P h t n ps
 | .load t a=>(iP env a).bind λa=>(tt P h t a).map λv=>(v,h)
 | .store t a x=>(iP env a).bind λa=>(iP env x).bind λx=>(BY P h t a x).map λh=>(.no,h)
 | .nilCheck x=>(iP env x).bind λ | .p none=>none | .nf=>none | .un=>none|v=>some (v,h)
 | .binOp op t x y _=>(iP env x).bind λx=>(iP env y).bind λy=>(kJ P op t x y).map λv=>(v,h)
 | .unOp op _ x=>(iP env x).bind λx=>(GL op x).map λv=>(v,h)
 | .convert s d x=>(iP env x).bind λx=>qQ P h s d x
 | .sliceToArrayPointer t x=>(iP env x).bind λ | .sl (some a) n _=>(match P.underlying t with|some (.array k _)=>if k≤n then some (.p (some a),h)else none|_=>none)|_=>none
 | .makeFunc (.func f) first rH=>if first.size=0 then(tP env rH.toList).map λl=>(.f f l,h)else none
 | .makeMap t r=>match r with
  |none=>some (.m (some h.next),h.new (.map []))
  |some x=>(iP env x).bind λv=>match P.underlying t,v with|some (.map _ _),.i _ _=>some (.m (some h.next),h.new (.map []))|_,_=>none
 | .makeSlice t l c=>(iP env l).bind λl=>(iP env c).bind λc=>Ei P h t l c
 | .slice t x lo hi mx=>(iP env x).bind λx=>(xa env lo).bind λlo=>(xa env hi).bind λhi=>(xa env mx).bind λmx=>(ry P t x lo hi mx).map λv=>(v,h)
 | .fieldAddr s x f=>(iP env x).bind λ | .p (some (b,o))=>((Bn P s f).bind λq=>(sz P q.type).bind λn=>if 0<n then some (.p (some (b,o+q.offset)),h)else none)|_=>none
 | .field s x f=>(iP env x).bind λ | .agg cs=>((Bn P s f).bind λq=>(Gw P q.type cs q.offset).map λv=>(v,h))|_=>none
 | .indexAddr t x i=>(iP env x).bind λx=>(iP env i).bind λi=>(Eb P t x i).map λv=>(v,h)
 | .index t x i=>(iP env x).bind λx=>(iP env i).bind λi=>(Iv P t x i).map λv=>(v,h)
 | .lookup t m k ok=>(iP env m).bind λm=>(iP env k).bind λk=>(CM P h t m k ok).map λv=>(v,h)
 | .mapUpdate t m k x=>(iP env m).bind λm=>(iP env k).bind λk=>(iP env x).bind λx=>(ID P h t m k x).map λh=>(.no,h)
 | .extract x i=>(iP env x).bind λ | .kx vs=>(vs[i]?).map λv=>(v,h)|_=>none
 | .call { callee:=.builtin b,args,argTypes }=>(tP env args.toList).bind λl=>qO P h b argTypes.toList l
 |_=>none
def AN(env:EL):Op→Option (nI×List gE)
 | .call { callee:=.value f,args,.. }=>(iP env f).bind λ | .f g rH=>(tP env args.toList).map λl=>(g,l++rH)|_=>none
 |_=>none
def mf(A:List Oper)(env:EL)(o:Oper):Option Bool:=match o.guard with
 |none=>some true
 |some (j,want)=>match((A[j]?).bind (·.dst)).bind (look env)with
  |some (.b x)=>some (x==want)
  |some (.kx [])=>some false
  |_=>none
section
variable{E:EL}{env:Env}
theorem Has.nil(env:Env):Has [] env:=λt v h=>by simp[look]at h
theorem Has.jI(l:Has E env)(x:iT):Le (iP E x) (jI env x):=by
 cases x with
 |tmp t=>exact l t
 |const v=>exact Le.refl _
 |global g=>exact Le.refl _
 |func f=>exact Le.refl _
theorem Has.pN(l:Has E env)(xs:List iT):Le (tP E xs) (pN env xs):=Le.mapM l.jI xs
theorem Has.uH(l:Has E env)(xs:List (Nat×iT)):Le (DQ E xs) (uH env xs):=Le.mapM (f:=λq:Nat×iT=>(iP E q.2).map λv=>(q.1,v)) (g:=λq=>(Go.V.jI env q.2).map λv=>(q.1,v)) (λq=>(l.jI q.2).map) xs
theorem Has.vp(l:Has E env)(x:Option iT):Le (xa E x) (vp env x):=by
 cases x with
 |none=>exact Le.refl _
 |some x=>exact(l.jI x).map
theorem Has.put(l:Has E env)(d:Nat)(v:gE):Has ((d,v)::E) (env.set d v):=λt u h=>by
 simp only[look]at h;rw[T.jv];cases hb:rZ d t with
 |true=>rw[hb]at h;rw[if_pos (xD hb).symm];exact h
 |false=>rw[hb]at h;rw[if_neg (λe=>G8 hb e.symm)];exact l t u h
theorem Has.jz{P:iY}(l:Has E env)(h:Hp)(op:Op):Le (jS P E h op) (jz P env h op):=by
 cases op
 case pick c a b =>
  simp only[jS,Go.V.jz];exact Le.bind (l.jI _) λc=>by
   cases c with
   |b x=>cases x<;>exact(l.jI _).map
   |_=>exact λ_ h=>by cases h
 case makeFunc f first rH =>
  cases f with
  |func f =>
   simp only[jS,Go.V.jz]
   split
   ·exact(l.pN _).map
   ·exact Le.refl _
  |_=>exact λ_ h=>by cases h
 case call c =>
  obtain⟨callee,args,ts⟩:=c;cases callee with
  |builtin b=>exact Le.bind (l.pN _) λ_=>Le.refl _
  |_=>exact λ_ h=>by cases h
 case makeMap t r =>
  cases r with
  |none=>exact Le.refl _
  |some x =>
   simp only[jS,Go.V.jz];exact Le.bind (l.jI _) λv=>Le.refl _
 all_goals first
  |exact λ_ h=>by cases h
  |exact Le.refl _
  |(simp only[jS,Go.V.jz];repeat' first|exact Le.refl _|exact l.jI _|exact l.pN _|exact l.uH _|exact l.vp _|(refine Le.bind ?_ λ_=>?_)|refine Le.map ?_)
theorem Has.uk(l:Has E env)(op:Op):Le (AN E op) (uk env op):=by
 cases op
 case call c =>
  obtain⟨callee,args,ts⟩:=c;cases callee with
  | value f =>
   simp only[AN,Go.V.uk];exact Le.bind (l.jI _) λv=>by
    cases v with
    |f g rH=>exact(l.pN _).map
    |_=>exact λ_ h=>by cases h
  |_=>exact λ_ h=>by cases h
 all_goals exact λ_ h=>by cases h
theorem Has.want(l:Has E env)(A:List Oper)(o:Oper):Le (mf A E o) (sE A env o):=λb e=>by
 cases hg:o.guard with
 |none=>simp only[mf,sE,hg]at e ⊢;exact e
 | some q =>
  obtain⟨j,want⟩:=q;simp only[mf,sE,hg]at e ⊢;cases hA:(A[j]?).bind (·.dst)with
  |none=>rw[hA]at e;simp at e
  |some d =>
   rw[hA]at e;simp only[jy]at e ⊢;cases hq:look E d with
   |none=>rw[hq]at e;simp at e
   |some x=>rw[hq]at e;rw[l d x hq];exact e
def Sub:EL→EL→Prop
 |[],_=>True
 |(t,v)::r,l=>look l t=some v∧Sub r l
theorem Sub.look{r l:EL}(h:Sub r l):∀t v,look r t=some v→look l t=some v:=by
 induction r with
 |nil=>intro t v h;simp[V.look]at h
 | cons x r ih =>
  obtain⟨k,u⟩:=x;intro t v hv;simp only[V.look]at hv;cases hb:rZ k t with
  |true =>
   rw[hb]at hv;have:k=t:=xD hb;subst this;have:u=v:=by simpa using hv
   subst this;exact h.1
  |false=>rw[hb]at hv;exact ih h.2 t v hv
theorem Has.sub{r l:EL}(hs:Has l env)(h:Sub r l):Has r env:=λt v hv=>hs t v (h.look t v hv)
end
theorem lZ{l:EL}{t:Nat}{x y:Bool}(h:look l t=some (.b x))(e:x=y):look l t=some (.b y):=e▸h
inductive oe where
 |done (R:gE→Hp→Prop)
 |code (y:Code) (k:oe)
 |block (id:Nat) (k:oe)
 |loop (J:Env→Hp→Prop) (k:oe)
def iN(P:iY)(K:Tb)(f:nI)(args:List gE)(h:Hp)(R:gE→Hp→Prop):Prop:=XW P K (.call f args h) λo=>∃v h',o = .call v h'∧R v h'
theorem iN.mono{P:iY}{K:Tb}{f:nI}{args:List gE}{h:Hp}{R R':gE→Hp→Prop}(x:iN P K f args h R)(hr:∀v h',R v h'→R' v h'):iN P K f args h R' :=
 XW.mono x λo ⟨v,h',e,q⟩=>⟨v,h',e,hr _ _ q⟩
def oe.post(P:iY)(K:Tb)(fn:Func):oe→Out→Prop
 | .done R=>Si P fn.results.toList λo=>∃v h',o = .call v h'∧R v h'
 | .code y k=>Nh P K fn.ntmps y (k.post P K fn)
 | .block id k=>Sf id (k.post P K fn)
 | .loop J k=>λo=>match o with
  | .code .mZ env h=>J env h
  |o=>k.post P K fn o
def oe.final:oe→gE→Hp→Prop
 | .done R=>R
 | .code _ k=>k.final
 | .block _ k=>k.final
 | .loop _ k=>k.final
def oe.EC(id:Nat):oe→Option oe
 | .done _=>none
 | .code _ k=>k.EC id
 | .block i k=>match rZ id i with|true=>some k|false=>k.EC id
 | .loop _ k=>k.EC id
def A6(P:iY)(A:List Oper)(dr:Bool)(G:gL)(L:List Nat)(pd:List sO):Prop:=dr=true → ∀q,q∈pd→kz P (ir A q.idx).op = .read∧((∀j,j∈L→kz P (ir A j).op = .mL→((qN A []).getD j 0).testBit q.idx=true) ∨ ∀h,Agree G h→jz P q.env h q.op=some (q.v,h))
section
variable(P:iY)(K:Tb)(fn:Func)
def C(k:oe)(c:Code)(E:EL)(h:Hp):Prop:=∀env,Has E env→XW P K (.code fn.ntmps c env h) (k.post P K fn)
def N(k:oe)(E:EL)(h:Hp):Prop:=∀env,Has E env→k.post P K fn (.code .mZ env h)
def W(k:oe)(A:List Oper)(dr:Bool)(G:gL)(L:List Nat)(E:EL)(h:Hp):Prop:=Agree G h → ∀env pd,Has E env→A6 P A dr G L pd→XW P K (.ops fn.ntmps A dr L pd env h) (k.post P K fn)
end
section rules
variable{P:iY}{K:Tb}{fn:Func}{k:oe}{E:EL}{h:Hp}
theorem Sg{id:Nat}{A:List Oper}(hd:uF fn.ntmps A=true)(x:W P K fn k A false (kq h) (mI A.length) E h):C P K fn k (.region id A.toArray false) E h :=
 λenv he=>.region hd (by simp) (x (Gm h) env [] he λq=>by cases q)
theorem nA{id:Nat}{A:List Oper}{G:gL}(L:List Nat)(hd:uF fn.ntmps A=true)(hf:P.follows .mixedOrders=true)(hL:CT P A L=true)(hG:Agree G h)(x:W P K fn k A true G L E h):C P K fn k (.region id A.toArray true) E h :=
 λenv he=>.region hd (by simp only[if_true];exact⟨hf,hL⟩) (x hG env [] he λ_ q hq=>by cases hq)
theorem kr{x y:Code}(q:C P K fn (.code y k) x E h):C P K fn k (.seq x y) E h:=λenv he=>.Wy (q env he)
theorem s6(q:N P K fn k E h):C P K fn k .skip E h:=λenv he=>.skip (q env he)
theorem qZ{id:Nat}{c:Code}(q:C P K fn (.block id k) c E h):C P K fn k (.block id c) E h:=λenv he=>.Y8 (q env he)
theorem qg{x:iT}{c d:Code}{t:Bool}(hx:iP E x=some (.b t))(ht:t=true→C P K fn k c E h)(hf:t=false→C P K fn k d E h):C P K fn k (.cond x c d) E h :=
 λenv he=>.aaq (he.jI _ _ hx) (λe=>ht e env he) (λe=>hf e env he)
theorem M1{x:iT}{c d:Code}(hx:iP E x=some (.b true))(ht:C P K fn k c E h):C P K fn k (.cond x c d) E h:=λenv he=>.TK (he.jI _ _ hx) (ht env he)
theorem ku{A:List Oper}{dr:Bool}{G:gL}(q:N P K fn k E h):W P K fn k A dr G [] E h:=λ_ env pd he _=>.IK (q env he)
theorem nN{y:Code}(q:C P K fn k y E h):N P K fn (.code y k) E h:=λenv he=>q env he
theorem Sp{id:Nat}(q:N P K fn k E h):N P K fn (.block id k) E h:=λenv he=>q env he
theorem Sq{J:Env→Hp→Prop}(q:∀env,Has E env→J env h):N P K fn (.loop J k) E h:=λenv he=>q env he
theorem aiu{id:Nat}{k k':oe}(e:k.EC id=some k'){env:Env}{h:Hp}(hn:k'.post P K fn (.code .mZ env h)):k.post P K fn (.code (.ext id) env h):=by
 induction k with
 |done R=>simp[oe.EC]at e
 |code y k ih=>exact ih e
 |loop J k ih=>exact ih e
 | block i k ih =>
  simp only[oe.EC]at e;show k.post P K fn (.code (if id=i then .mZ else .ext id) env h);cases hb:rZ id i with
  |true =>
   rw[hb]at e;have:k=k':=by simpa using e
   subst this;rw[if_pos (xD hb)];exact hn
  |false=>rw[hb]at e;rw[if_neg (G8 hb)];exact ih e
theorem jf{id:Nat}(k':oe)(e:k.EC id=some k')(hn:N P K fn k' E h):C P K fn k (.exit id) E h:=λenv he=>.exit (aiu e (hn env he))
theorem aaN(k:oe){env:Env}{h:Hp}{vs:List gE}(hr:wy P env h fn.results.toList=some vs)(hR:k.final (zq vs) h):k.post P K fn (.code .ret env h):=by
 induction k with
 |done R=>exact⟨vs,hr,_,_,rfl,hR⟩
 |code y k ih=>exact ih hR
 |loop J k ih=>exact ih hR
 |block i k ih=>exact ih hR
def outs(P:iY)(E:EL)(h:Hp):List Dl→Option (List gE)
 |[]=>some []
 | .tmp t::r=>(look E t).bind λv=>(outs P E h r).map (v :: ·)
 | .cell a t::r=>(look E a).bind λp=>(tt P h t p).bind λv=>(outs P E h r).map (v :: ·)
theorem LH{env:Env}(he:Has E env):∀rs,Le (outs P E h rs) (wy P env h rs)
 |[]=>Le.refl _
 | .tmp t::r=>Le.bind (he t) λ_=>(LH he r).map
 | .cell a t::r=>Le.bind (he a) λ_=>Le.bind (Le.refl _) λ_=>(LH he r).map
theorem Sh{vs:List gE}{v:gE}(hv:outs P E h fn.results.toList=some vs)(ho:zq vs=v)(hR:k.final v h):C P K fn k .ret E h:=λenv he=>.ret (aaN k (LH he _ _ hv) (ho▸hR))
theorem Nb{R:gE→Hp→Prop}{vs:List gE}{v:gE}(hv:outs P E h fn.results.toList=some vs)(ho:zq vs=v)(hR:R v h):N P K fn (.done R) E h:=λenv he=>⟨vs,LH he _ _ hv,_,_,rfl,ho▸hR⟩
def JQ{S A:Type}(Inv:S→EL→Hp→Prop)(rec:S→Option A)(a:A):Env→Hp→Prop:=λenv h=>∃s E,Inv s E h∧Has E env∧rec s=some a
def JT(J:EL→Hp→Prop):Env→Hp→Prop:=λenv h=>∃l,J l h∧Has l env
theorem agK{J:Env→Hp→Prop}{k:oe}{y:Code}(hy:∀env h,J env h→XW P K (.code fn.ntmps y env h) (k.post P K fn))(o:Out)(q:(oe.loop J k).post P K fn o):Nh P K fn.ntmps y (k.post P K fn) o:=by
 cases o with
 |code e env h=>cases e with
  |mZ=>exact hy env h q
  |ext i=>exact q
  |ret=>exact q
 |call v h=>exact q
theorem iL(J:EL→Hp→Prop){x y:Code}(hx:C P K fn (.loop (JT J) k) x E h)(hy:∀l' h',J l' h'→C P K fn k y l' h'):C P K fn k (.seq x y) E h :=
 λenv he=>.Wy ((hx env he).mono (agK λenv h ⟨l,hJ,hl⟩=>hy l h hJ env hl))
theorem sL(J:EL→Hp→Prop){c:Code}(hx:C P K fn (.loop (JT J) k) c E h)(hn:∀l' h',J l' h'→N P K fn k l' h'):C P K fn k c E h :=
 λenv he=>(hx env he).mono λo q=>by
  cases o with
  |code e env h=>cases e with
   |mZ=>obtain⟨l,hJ,hl⟩:=q;exact hn l h hJ env hl
   |ext i=>exact q
   |ret=>exact q
  |call v h=>exact q
theorem lW{J:EL→Hp→Prop}(l':EL)(hJ:J l' h)(hs:Sub l' E):N P K fn (.loop (JT J) k) E h:=Sq λ_ he=>⟨l',hJ,he.sub hs⟩
def DD:Nat→List gE→EL
 |_,[]=>[]
 |i,v::vs=>(i,v)::DD (i+1) vs
theorem Ur:∀(vs:List gE)(i:Nat)(E:EL)(env:Env),Has E env→(∀t,i≤t→look E t=none)→Has (DD i vs++E) (DC i vs env)
 |[],i,E,env,he,_=>he
 | v::vs,i,E,env,he,hn=>by
  have h1:Has ((i,v)::E) (env.set i v):=he.put i v;have h2:=Ur vs (i+1) ((i,v)::E) (env.set i v) h1 λt ht=>by
   simp only[look];rw[show rZ i t=false from(by cases hb:rZ i t with|false=>rfl|true=>have:=xD hb;omega)];exact hn t (by omega)
  intro t u hu;refine h2 t u ?_;have key:∀(us:List gE)(j:Nat)(E:EL),i<j→look ((i,v)::(DD j us++E)) t=look (DD j us++(i,v)::E) t:=by
   intro us
   induction us with
   |nil=>intro j E hj;rfl
   | cons w ws ih =>
    intro j E hj;simp only[DD,List.cons_append,look];cases hb:rZ i t with
    |true =>
     have e:i=t:=xD hb;have:rZ j t=false:=by cases hc:rZ j t with|false=>rfl|true=>have:=xD hc;omega
     rw[this];simp only;rw[←ih (j+1) E (by omega)];simp[look,hb]
    | false =>
     cases hc:rZ j t with
     |true=>rfl
     |false =>
      simp only;rw[←ih (j+1) E (by omega)];simp[look,hb]
  have ze:look ((i,v)::(DD (i+1) vs++E)) t=some u:=hu;rw[key vs (i+1) E (by omega)]at ze;exact ze
theorem Dz{f:nI}{c:Code}{args:List gE}{R:gE→Hp→Prop}(hf:P.funcs[f]? =some fn)(hb:fn.body=some c)(hm:fn.name ≠ "runtime.NumGoroutine")(hn:xC args.length fn.ntmps=true)(q:C P K fn (.done R) c (DD 0 args) h):iN P K f args h R:=by
 refine XW.Zk hf hb hm (kY hn) (q _ ?_);have:=Ur args 0 [] .lf (Has.nil _) (λ_ _=>rfl);simpa using this
def Nf(P:iY)(G:gL)(E:EL)(op:Op)(v:gE):Prop:=∀h,Agree G h→jS P E h op=some (v,h)
section
variable{A:List Oper}{dr:Bool}{G:gL}{L:List Nat}{i d:Nat}
theorem A6.tail{pd:List sO}(hp:A6 P A dr G (i::L) pd):A6 P A dr G L pd:=λlX q hq=>⟨(hp lX q hq).1,(hp lX q hq).2.imp (λr j hj=>r j (mV _ hj)) id⟩
theorem A6.le{pd:List sO}{G':gL}(hp:A6 P A dr G L pd)(l:dr=true→G.le G'):A6 P A dr G' L pd:=λlX q hq=>⟨(hp lX q hq).1,(hp lX q hq).2.imp id λr h ha=>r h (ha.le (l lX))⟩
theorem A6.stays{pd:List sO}{h':Hp}(hp:A6 P A dr G (i::L) pd)(he:kz P (ir A i).op = .mL)(ha:dr=true→Agree G h'):Hm P A dr i pd h':=λlX q hq hb=>by
 rcases(hp lX q hq).2 with r|r
 ·have:=r i (by simp) he;rw[this]at hb;cases hb
 ·exact r h' (ha lX)
theorem SC{v:gE}(hi:lC i A.length=true)(hw:mf A E (ir A i)=some true)(hd:(ir A i).dst=some d)(hk:decide (kz P (ir A i).op = .mL)=false)(ho:Nf P G E (ir A i).op v)(x:W P K fn k A dr G L ((d,v)::E) h):W P K fn k A dr G (i::L) E h:=by
 intro ha env pd he hp;have ji:∀h,Agree G h→jz P env h (ir A i).op=some (v,h):=λh q=>he.jz _ _ _ (ho h q);refine .BQ (by simpa using hi) (he.want _ _ _ hw) (ji h ha) (λe=>absurd e (by simpa using hk)) ?_;rw[hd];refine x ha _ _ (he.put d v) λlX q hq=>?_;unfold uT at hq
 split at hq
 ·rename_i DZ;rcases lM.1 hq with rfl|hq
  ·exact⟨DZ,.inr ji⟩
  ·exact hp.tail lX q hq
 ·exact hp.tail lX q hq
def ahead(P:iY)(A:List Oper)(i:Nat)(L:List Nat):Bool:=L.all λj=>!decide (kz P (ir A j).op = .mL)||((qN A []).getD j 0).testBit i
theorem X1{v:gE}(hb:ahead P A i L=true)(hi:lC i A.length=true)(hw:mf A E (ir A i)=some true)(hd:(ir A i).dst=some d)(hk:decide (kz P (ir A i).op = .mL)=false)(ho:Nf P (kq h) E (ir A i).op v)(x:W P K fn k A dr G L ((d,v)::E) h):W P K fn k A dr G (i::L) E h:=by
 intro ha env pd he hp;refine .BQ (by simpa using hi) (he.want _ _ _ hw) (he.jz _ _ _ (ho h (Gm h))) (λe=>absurd e (by simpa using hk)) ?_;rw[hd];refine x ha _ _ (he.put d v) λlX q hq=>?_;unfold uT at hq
 split at hq
 ·rename_i DZ;rcases lM.1 hq with rfl|hq
  ·refine⟨DZ,.inl λj hj hk=>?_⟩;have:=j9.1 hb j hj;simpa[hk]using this
  ·exact hp.tail lX q hq
 ·exact hp.tail lX q hq
theorem Fq(hi:lC i A.length=true)(hw:mf A E (ir A i)=some false)(hd:(ir A i).dst=some d)(x:W P K fn k A dr G L ((d,.no)::E) h):W P K fn k A dr G (i::L) E h:=by
 intro ha env pd he hp;refine .IL (by simpa using hi) (he.want _ _ _ hw) ?_;rw[hd];exact x ha _ _ (he.put d _) hp.tail
def jG(P:iY)(K:Tb)(fn:Func)(k:oe)(A:List Oper)(dr:Bool)(G:gL)(L:List Nat)(E:EL)(h:Hp):Prop:=∃G',(dr=true→G.le G')∧Agree G' h∧W P K fn k A dr G' L E h
theorem jG.now(x:W P K fn k A false (kq h) L E h):jG P K fn k A false G L E h:=⟨_,λe=>(by cases e),Gm h,x⟩
theorem jG.mW{G':gL}(l:G.le G')(ha:Agree G' h)(x:W P K fn k A dr G' L E h):jG P K fn k A dr G L E h:=⟨G',λ_=>l,ha,x⟩
theorem A7{G':gL}(l:G.le G')(ha:Agree G' h)(x:W P K fn k A dr G' L E h):W P K fn k A dr G L E h:=λ_ env pd he hp=>x ha env pd he (hp.le λ_=>l)
def settled(P:iY)(A:List Oper)(L:List Nat):Bool:=(mI A.length).all λi=>!decide (kz P (ir A i).op = .read)||ahead P A i L
theorem zX{G':gL}(hs:settled P A L=true)(ha:Agree G' h)(x:W P K fn k A dr G' L E h):W P K fn k A dr G L E h:=λ_ env pd he hp=>x ha env pd he λlX q hq=>by
 obtain⟨hk,_⟩:=hp lX q hq;refine⟨hk,.inl λj hj H9=>?_⟩;have hl:q.idx<A.length:=by
  apply Classical.byContradiction;intro hn;have:ir A q.idx=⟨none,.panic (.func 0),0,"",#[],none⟩:=by
   unfold ir;rw[List.getD_eq_getElem?_getD,zN (by omega)];rfl
  rw[this]at hk;cases hk
 have h1:=j9.1 hs q.idx (List.mem_range.2 hl);simp only[hk,decide_true,Bool.not_true,nG]at h1;have h2:=j9.1 h1 j hj;simpa[H9]using h2
def Ef(P:iY)(E:EL)(h:Hp)(op:Op)(Q:gE→Hp→Prop):Prop:=decide (kz P op = .read)=false ∧ ∃v h',jS P E h op=some (v,h')∧Q v h'
theorem SE{Q:gE→Hp→Prop}(hi:lC i A.length=true)(hw:mf A E (ir A i)=some true)(hd:(ir A i).dst=some d)(ho:Ef P E h (ir A i).op Q)(x:∀v h',Q v h'→jG P K fn k A dr G L ((d,v)::E) h'):W P K fn k A dr G (i::L) E h:=by
 obtain⟨hk,v,h',ho,hq⟩:=ho;obtain⟨G',l,Cx,x⟩:=x v h' hq;intro ha env pd he hp;refine .BQ (by simpa using hi) (he.want _ _ _ hw) (he.jz _ _ _ ho) (λH9=>hp.stays H9 λlX=>Cx.le (l lX)) ?_;rw[hd];refine x Cx _ _ (he.put d v) ?_;unfold uT;rw[if_neg (by simpa using hk)];exact hp.tail.le l
theorem SF{Q:gE→Hp→Prop}(hi:lC i A.length=true)(hw:mf A E (ir A i)=some true)(hd:(ir A i).dst=none)(ho:Ef P E h (ir A i).op Q)(x:∀v h',Q v h'→jG P K fn k A dr G L E h'):W P K fn k A dr G (i::L) E h:=by
 obtain⟨hk,v,h',ho,hq⟩:=ho;obtain⟨G',l,Cx,x⟩:=x v h' hq;intro ha env pd he hp;refine .BQ (by simpa using hi) (he.want _ _ _ hw) (he.jz _ _ _ ho) (λH9=>hp.stays H9 λlX=>Cx.le (l lX)) ?_;rw[hd];refine x Cx _ _ he ?_;unfold uT;rw[if_neg (by simpa using hk)];exact hp.tail.le l
theorem qM{f:nI}{args:List gE}{R:gE→Hp→Prop}(hi:lC i A.length=true)(hw:mf A E (ir A i)=some true)(hd:(ir A i).dst=some d)(ht:AN E (ir A i).op=some (f,args))(hc:iN P K f args h R)
  (x:∀v h',R v h'→jG P K fn k A dr G L ((d,v)::E) h'):W P K fn k A dr G (i::L) E h:=by
 intro ha env pd he hp;refine .Gp (by simpa using hi) (he.want _ _ _ hw) (he.uk _ _ ht) hc (λv h' m=>?_) (λv h' m=>?_)
 ·obtain⟨v,h',e,m⟩:=m;obtain⟨rfl,rfl⟩:=Out.call.inj e;obtain⟨G',g1,g2,_⟩:=x _ _ m;exact hp.stays (QX (he.uk _ _ ht)) λlX=>g2.le (g1 lX)
 ·obtain⟨v,h',e,m⟩:=m;obtain⟨rfl,rfl⟩:=Out.call.inj e;obtain⟨G',g1,g2,g3⟩:=x _ _ m;rw[hd];exact g3 g2 _ _ (he.put d _) (hp.tail.le g1)
theorem ai3{f:nI}{args:List gE}{R:gE→Hp→Prop}(hi:lC i A.length=true)(hw:mf A E (ir A i)=some true)(hd:(ir A i).dst=none)(ht:AN E (ir A i).op=some (f,args))(hc:iN P K f args h R)
  (x:∀v h',R v h'→jG P K fn k A dr G L E h'):W P K fn k A dr G (i::L) E h:=by
 intro ha env pd he hp;refine .Gp (by simpa using hi) (he.want _ _ _ hw) (he.uk _ _ ht) hc (λv h' m=>?_) (λv h' m=>?_)
 ·obtain⟨v,h',e,m⟩:=m;obtain⟨rfl,rfl⟩:=Out.call.inj e;obtain⟨G',g1,g2,_⟩:=x _ _ m;exact hp.stays (QX (he.uk _ _ ht)) λlX=>g2.le (g1 lX)
 ·obtain⟨v,h',e,m⟩:=m;obtain⟨rfl,rfl⟩:=Out.call.inj e;obtain⟨G',g1,g2,g3⟩:=x _ _ m;rw[hd];exact g3 g2 _ _ he (hp.tail.le g1)
theorem XY{t:Nat}{v v':gE}(hl:look E t=some v)(e:v=v')(x:W P K fn k A dr G L ((t,v')::E) h):W P K fn k A dr G L E h:=by
 intro ha env pd he hp;refine x ha env pd (λt' u hu=>?_) hp;simp only[look]at hu;cases hb:rZ t t' with
 |true =>
  rw[hb]at hu;have e':t=t':=xD hb;subst e';have:v'=u:=by simpa using hu
  subst this;subst e;exact he t _ hl
 |false=>rw[hb]at hu;exact he t' u hu
end
end rules
end Go.V
end
section
namespace Go.Wk
def bd{α β:Type}(o:Option α)(f:α→Option β):Option β:=match o with|some x=>f x|none=>none
theorem iy{α β:Type}{o:Option α}{f:α→Option β}{r:β}(h:bd o f=some r):∃x,o=some x∧f x=some r:=by
 cases o with
 |none=>cases h
 |some x=>exact⟨x,rfl,h⟩
def ix{α:Type}(l:List α)(i:Int):Option α:=match i with | .ofNat n=>l[n]? | .negSucc _=>none
theorem iD{α:Type}{l:List α}{i:Int}{x:α}(h:ix l i=some x):0≤i∧l[i.toNat]? =some x:=by
 cases i with
 |ofNat n=>exact⟨RL n,h⟩
 |negSucc n=>cases h
def cut{α:Type}(l:List α)(a b:Int):Option (List α):=if 0≤a∧a≤b∧b≤(l.length:Int)then some ((l.take b.toNat).drop a.toNat)else none
theorem Ky{α:Type}{l r:List α}{a b:Int}(h:cut l a b=some r):0≤a∧a≤b∧b≤(l.length:Int)∧r=(l.take b.toNat).drop a.toNat:=by
 unfold cut at h
 split at h
 ·rename_i hc;exact⟨hc.1,hc.2.1,hc.2.2,(iK h).symm⟩
 ·cases h
def app{α:Type}(xs ys:List α):Option (List α):=if xs.length+ys.length≤1073741824 then some (xs++ys)else none
theorem Fs{α:Type}{xs ys r:List α}(h:app xs ys=some r):xs.length+ys.length≤1073741824∧r=xs++ys:=by
 unfold app at h
 split at h
 ·rename_i hc;exact⟨hc,(iK h).symm⟩
 ·cases h
def rep{α:Type}(n:Int)(x:α):Option (List α):=if 0≤n∧n≤1073741824 then some (iV n.toNat x)else none
theorem afW{α:Type}{n:Int}{x:α}{r:List α}(h:rep n x=some r):0≤n∧n≤1073741824∧r=iV n.toNat x:=by
 unfold rep at h
 split at h
 ·rename_i hc;exact⟨hc.1,hc.2,(iK h).symm⟩
 ·cases h
abbrev wr(x:Int):Int:=yE.wrap x
abbrev wu(x:Int):Int:=Dg.wrap x
def rem(a b:Int):Option Int:=if b=0 then none else some (a.tmod b)
theorem LR{a b r:Int}(h:rem a b=some r):b≠0∧r=a.tmod b:=by
 unfold rem at h
 split at h
 ·cases h
 ·rename_i hc;exact⟨hc,(iK h).symm⟩
def only{α:Type}(b:Bool)(o:Option α)(z:α):Option α:=if b=true then o else some z
theorem jX{α:Type}{b:Bool}{o:Option α}{z:α}(h:b=true):only b o z=o:=if_pos h
def iter{S A:Type}(F:(S→Option A)→S→Option A):Nat→S→Option A
 |0,_=>none
 |n+1,s=>F (iter F n) s
def loop{S A:Type}(F:(S→Option A)→S→Option A)(s:S):Option A:=iter F 18446744073709551616 s
theorem iZ{α:Type}{b:Bool}{x y:α}(h:b=true):(if b=true then x else y)=x:=if_pos h
theorem iR{α:Type}{b:Bool}{x y:α}(h:b=false):(if b=true then x else y)=y:=if_neg (by rw[h];decide)
end Go.Wk
namespace Go.V
open Go.Wk
section
variable{P:iY}{K:Tb}{fn:Func}{k:oe}{E:EL}{h:Hp}
theorem jH{S A:Type}{a:A}{c:Code}{n:Nat}{Fn:(S→Option A)→S→Option A}{s0:S}(Inv:S→EL→Hp→Prop)(H:iter Fn n s0=some a)(h0:∃E',Inv s0 E' h∧Sub E' E)
  (round:∀(rec:S→Option A)s E h',Inv s E h'→Fn rec s=some a→C P K fn (.loop (JQ Inv rec a) k) c E h'):C P K fn k (.loop c) E h:=by
 obtain⟨E0,hI0,F5⟩:=h0;intro env he;refine XW.aej (λm env h=>∃s E,Inv s E h∧Has E env∧iter Fn m s=some a) ?_ n env h ⟨s0,E0,hI0,he.sub F5,H⟩;rintro m lr h' ⟨s,E',hI,hs,hm⟩;cases m with
 |zero=>cases hm
 | succ m =>
  refine(round (iter Fn m) s E' h' hI hm lr hs).mono λo q=>?_;cases o with
  |code e env2 h2=>cases e with
   |mZ=>obtain⟨s',E2,HP,yh,hr⟩:=q;exact⟨m,xF m,s',E2,HP,yh,hr⟩
   |ext i=>exact q
   |ret=>exact q
  |call v h=>exact q
theorem XP{S A:Type}{Inv:S→EL→Hp→Prop}{rec:S→Option A}{a:A}(s:S)(E':EL)(H:rec s=some a)(hI:Inv s E' h)(hE:Sub E' E):N P K fn (.loop (JQ Inv rec a) k) E h :=
 Sq λ_ ha=>⟨s,E',hI,ha.sub hE,H⟩
end
def Wf(h:Hp):Prop:=∀b,h.next≤b→h.get b=none
structure Gd(F:gL)(h:Hp):Prop where
 wf:Wf h
 agree:Agree F h
theorem Gd.now{h:Hp}(w:Wf h):Gd (kq h) h:=⟨w,Gm h⟩
def gE.own:gE→List Nat
 | .sl (some a) _ _=>[a.1]
 |_=>[]
def Ob.row{α:Type}(t:Tr α)(v:gE)(xs:List α):Ob:=⟨To.row (To.ma t),v.own,[v],xs⟩
def ah7:To (List gE)where
 size:=1
 rel F h bs cs x:=∃g,bs=[g]∧cs=[.p (some (g,0))]∧h.get g=some (.cells x.length x)∧g<h.next∧x.all gE.one=true
 len:=λ⟨g,_,q,_⟩=>by rw[q];rfl
 one:=λ⟨g,_,q,_⟩=>by rw[q];rfl
 lt:=λ⟨g,q,_,_,h3,_⟩ b hb=>by rw[q]at hb;simp at hb;subst hb;exact h3
 nodup:=λ⟨g,q,_⟩=>by rw[q];simp
 mono:=λ_ q=>q
 frame:=λ⟨g,h1,h2,h3,h4,h5⟩ hn hk=>⟨g,h1,h2,(hk g (by rw[h1];simp)).trans h3,sa h4 hn,h5⟩
def Ob.box(g:Nat)(cs:List gE):Ob:=⟨ah7,[g],[.p (some (g,0))],cs⟩
theorem Ep{α:Type}{t:Tr α}{F:gL}{h:Hp}{bs:List Nat}{v:gE}{xs:List α}(r:(To.row (To.ma t)).rel F h bs [v] xs):bs=v.own:=by
 obtain⟨v0,lK,r⟩:=r;obtain rfl:=sG lK;rcases r with⟨rfl,_,rfl⟩|⟨b,c,k,css,bss,r⟩
 ·rfl
 ·rw[r.form,r.vr];have:bss.flatten=[]:=by
   rw[List.flatten_eq_nil_iff];intro e he;obtain⟨i,hi,rfl⟩:=my he;have h1:i<css.length:=by rw[r.mr,←r.og];exact hi
   exact(r.rel i _ _ _ (jx h1) (jx (by rw[←r.og];exact hi)) (jx hi)).1
  rw[this];rfl
theorem Ob.BO{α:Type}{t:Tr α}{F:gL}{h:Hp}{bs:List Nat}{v:gE}{xs:List α}(r:(To.row (To.ma t)).rel F h bs [v] xs):(Ob.row t v xs).ok F h:=by
 have:=Ep r;subst this;exact r
section
variable{X:List Nat}{h0 h h':Hp}{F0 F F':gL}{L Lr:List Ob}
theorem St.iH(s:St X h0 F0 F L h):Gd F h:=⟨s.wf,s.agree⟩
theorem St.start(g:Gd F h):St [] h F F [] h:=St.entry g.wf g.agree
theorem afk(L:List Ob):∀(is:List Nat),is.Nodup → ∃f:Nat→Nat,(∀j o,(is.filterMap λi=>L[i]?)[j]? =some o→f j∈is∧L[f j]? =some o) ∧ ∀j j' o o',(is.filterMap λi=>L[i]?)[j]? =some o→(is.filterMap λi=>L[i]?)[j']? =some o'→f j=f j'→j=j':=by
 intro is
 induction is with
 |nil=>intro _;exact⟨id,λj o h=>by simp at h,λj j' o o' h=>by simp at h⟩
 | cons a r ih =>
  intro kV;obtain⟨K6,hnr⟩:=tH.1 kV;obtain⟨f,h1,h2⟩:=ih hnr;cases ha:L[a]? with
  |none=>simp only[List.filterMap_cons,ha];exact⟨f,λj o hj=>⟨mV _ (h1 j o hj).1,(h1 j o hj).2⟩,h2⟩
  | some x =>
   simp only[List.filterMap_cons,ha];refine⟨λj=>match j with|0=>a|j+1=>f j,λj o hj=>?_,λj j' o o' hj ph e=>?_⟩
   ·cases j with
    |zero=>simp at hj;subst hj;exact⟨by simp,ha⟩
    |succ j=>have:=h1 j o (by simpa using hj);exact⟨mV _ this.1,this.2⟩
   ·cases j with
    |zero=>cases j' with
     |zero=>rfl
     |succ j'=>have:=(h1 j' o' (by simpa using ph)).1;simp only at e;rw[←e]at this;exact absurd this K6
    |succ j=>cases j' with
     |zero=>have:=(h1 j o (by simpa using hj)).1;simp only at e;rw[e]at this;exact absurd this K6
     |succ j'=>simp only at e;rw[h2 j j' o o' (by simpa using hj) (by simpa using ph) e]
theorem St.pick(s:St X h0 F0 F L h)(is:List Nat)(kV:is.Nodup):St X h0 F0 F (is.filterMap λi=>L[i]?) h:=by
 obtain⟨f,f1,f2⟩:=afk L is kV;exact⟨s.next,s.wf,s.ua,s.agree,s.ext,s.new,λi o hi=>s.own (f i) o (f1 i o hi).2,λi j o o' g hi hj ho pX=>f2 i j o o' hi hj (s.apart _ _ o o' g (f1 i o hi).2 (f1 j o' hj).2 ho pX)⟩
theorem St.lb{α:Type}(s:St X h0 F0 F L h)(t:Tr α):St X h0 F0 F (.row t (.sl none 0 (.k 0)) []::L) h :=
 s.fresh ⟨jg _,s.wf,λ_ _=>rfl⟩ ⟨_,rfl,.inl ⟨rfl,rfl,rfl⟩⟩ (λb hb=>by cases hb)
theorem St.SG{w:Hp}(s:St [] h F0 F L w):JP h w:=⟨s.next,s.wf,λb hb=>s.ua b hb (by simp)⟩
theorem St.oN{G G':gL}(s:St X h0 F0 F L h)(k:St [] h G G' Lr h'):St X h0 F0 F L h':=by
 have e:St [] h F F [] h':=⟨k.next,k.wf,λb hb _=>k.ua b hb (by simp),k.SG.agree s.wf s.agree,gL.le.refl _,λ_ _ _ q=>.inl q,λi o hi=>by simp at hi,λi j o o' g hi=>by simp at hi⟩
 simpa using s.call e
theorem St.Vx(s:St X h0 F0 F L h)(is:List Nat)(kV:is.Nodup)(Y:List Nat)(hY:∀(i:Nat)(o:Ob)(g:Nat),i∈is→L[i]? =some o→g∈o.bs→g∈Y):St Y h F F (is.filterMap λi=>L[i]?) h:=by
 have hp:=s.pick is kV;refine⟨jg _,s.wf,λ_ _ _=>rfl,s.agree,gL.le.refl _,λ_ _ _ e=>.inl e,λi o hi=>?_,hp.apart⟩;obtain⟨h1,h2⟩:=hp.own i o hi;refine⟨h1,λg hg=>⟨(h2 g hg).1,.inr ?_⟩⟩;have hm:o∈is.filterMap λi=>L[i]?:=pH hi;obtain⟨i',lY,hL⟩:=Du.1 hm;exact hY i' o g lY hL hg
theorem St.Te(s:St X h0 F0 F L h)(is rs:List Nat)(Y:List Nat)(kV:rs.Nodup)(hY:∀g,g∈Y → ∃i o,i∈is∧L[i]? =some o∧g∈o.bs)(hrs:∀i,i∈rs→i∉is)(k:St Y h F F' Lr h'):St X h0 F0 F' (Lr++rs.filterMap λi=>L[i]?) h':=by
 have hp:=s.pick rs kV;have OB:∀g,g∈Y→(∀k,F g k=none)∧(h0.next≤g∨g∈X)∧g<h.next:=λg hg=>by
  obtain⟨i,o,_,hL,ho⟩:=hY g hg;exact⟨((s.own i o hL).2 g ho).1,((s.own i o hL).2 g ho).2,o.t.lt (s.ok hL) g ho⟩
 have Bt:∀b,b<h.next→b∉Y→h'.get b=h.get b:=λb hb hx=>k.ua b hb hx;have hP:∀(i:Nat)(o:Ob),(rs.filterMap λi=>L[i]?)[i]? =some o → ∀g,g∈o.bs→g∉Y:=λi o hi g hg hgY=>by
  have hm:o∈rs.filterMap λi=>L[i]?:=pH hi;obtain⟨i',lY,hL⟩:=Du.1 hm;obtain⟨j,o2,hj,Oy,D6⟩:=hY g hgY;have:=s.apart i' j o o2 g hL Oy hg D6;exact hrs i' lY (this▸hj)
 have hL:∀(i:Nat)(o:Ob),(rs.filterMap λi=>L[i]?)[i]? =some o→o.ok F' h' ∧ ∀g,g∈o.bs→(∀q,F' g q=none)∧(h0.next≤g∨g∈X):=by
  intro i o hi;obtain⟨h1,h2⟩:=hp.own i o hi;refine⟨o.t.mono k.ext (o.t.frame h1 k.next λg hg=>Bt g (o.t.lt h1 g hg) (hP i o hi g hg)),λg hg=>⟨λq=>?_,(h2 g hg).2⟩⟩;cases hF:F' g q with
  |none=>rfl
  |some u =>
   rcases k.new g q u hF with h3|h3|h3
   ·rw[(h2 g hg).1 q]at h3;cases h3
   ·have:=o.t.lt h1 g hg;omega
   ·exact absurd h3 (hP i o hi g hg)
 have hR:∀(i:Nat)(o:Ob),Lr[i]? =some o → ∀g,g∈o.bs→h.next≤g∨g∈Y:=λi o hi g hg=>((k.own i o hi).2 g hg).2;refine⟨nY s.next k.next,k.wf,λb hb hx=>?_,k.agree,s.ext.trans k.ext,λa q u e=>?_,λi o hi=>?_,λi j o o' g hi hj ho pX=>?_⟩
 ·rw[Bt b (sa hb s.next) (λhy=>by
   rcases(OB b hy).2.1 with h3|h3
   ·omega
   ·exact hx h3)]
  exact s.ua b hb hx
 ·rcases k.new a q u e with h3|h3|h3
  ·exact s.new a q u h3
  ·exact .inr (.inl (nY s.next h3))
  ·exact .inr (OB _ h3).2.1
 ·by_cases hl:i<Lr.length
  ·rw[mU hl]at hi;obtain⟨h1,h2⟩:=k.own i o hi;refine⟨h1,λg hg=>⟨(h2 g hg).1,?_⟩⟩;rcases hR i o hi g hg with h3|h3
   ·exact .inl (nY s.next h3)
   ·exact(OB g h3).2.1
  ·rw[nq (by omega)]at hi;exact hL _ o hi
 ·have HG:∀(i j:Nat)(o o':Ob),Lr[i]? =some o→(rs.filterMap λi=>L[i]?)[j]? =some o'→g∈o.bs→g∈o'.bs→False:=by
   intro i j o o' hi hj ho pX;rcases hR i o hi g ho with h3|h3
   ·have:=o'.t.lt (hp.ok hj) g pX;omega
   ·exact hP j o' hj g pX h3
  by_cases hl:i<Lr.length<;>by_cases hm:j<Lr.length
  ·rw[mU hl]at hi;rw[mU hm]at hj;exact k.apart i j o o' g hi hj ho pX
  ·rw[mU hl]at hi;rw[nq (by omega)]at hj;exact(HG i _ o o' hi hj ho pX).elim
  ·rw[nq (by omega)]at hi;rw[mU hm]at hj;exact(HG j _ o' o hj hi pX ho).elim
  ·rw[nq (by omega)]at hi hj;have:=hp.apart _ _ o o' g hi hj ho pX;omega
theorem St.rp(s:St X h0 F0 F L h)(is:List Nat)(kV:is.Nodup):St ((is.filterMap λi=>L[i]?).flatMap Ob.bs) h F F (is.filterMap λi=>L[i]?) h :=
 s.Vx is kV _ λi o g hi hL hg=>AX.2 ⟨o,Du.2 ⟨i,hi,hL⟩,hg⟩
theorem St.ri(s:St X h0 F0 F L h)(is rs:List Nat)(kV:rs.Nodup)(hd:∀i,i∈rs→i∉is)(k:St ((is.filterMap λi=>L[i]?).flatMap Ob.bs) h F F' Lr h'):St X h0 F0 F' (Lr++rs.filterMap λi=>L[i]?) h' :=
 s.Te is rs _ kV (λg hg=>by
  obtain⟨o,ho,CD⟩:=AX.1 hg;obtain⟨i,hi,hL⟩:=Du.1 ho;exact⟨i,o,hi,hL,CD⟩) hd k
theorem St.zl{α:Type}{t:Tr α}{v:gE}{xs:List α}(k:Nat)(s:St X h0 F0 F L h)(hk:L[k]? =some (.row t v xs)):St v.own h F F [.row t v xs] h:=by
 have:=s.Vx [k] (by simp) v.own λi o g hi hL hg=>by
  simp at hi;subst hi;rw[hk]at hL;obtain rfl:=iK hL;exact hg
 simpa[hk]using this
theorem St.yM{α:Type}{t:Tr α}{v:gE}{xs:List α}(k:Nat)(rs:List Nat)(s:St X h0 F0 F L h)(hk:L[k]? =some (.row t v xs))(kV:rs.Nodup)(DZ:k∉rs)(hT:St v.own h F F' Lr h'):St X h0 F0 F' (Lr++rs.filterMap λi=>L[i]?) h' :=
 s.Te [k] rs _ kV (λg hg=>⟨k,_,by simp,hk,hg⟩) (λi hi q=>DZ (by simp at q;exact q▸hi)) hT
theorem St.kh{α:Type}{t:Tr α}{v:gE}{xs:List α}(k:Nat)(is:List Nat)(s:St X h0 F0 F L h)(hk:L[k]? =some (.row t v xs))(kV:is.Nodup)(vy:k∉is) :
  ∃F',F.le F'∧iq t F' v xs∧St X h0 F0 F' (is.filterMap λi=>L[i]?) h:=by
 have hp:=s.pick (k::is) (tH.2 ⟨vy,kV⟩);have e:((k::is).filterMap λi=>L[i]?)=Ob.row t v xs::is.filterMap λi=>L[i]?:=by simp[hk]
 rw[e]at hp;have hf:=hp.freeze (i:=0) rfl;have hle:=gL.LJ (h:=h) (hp.PW (i:=0) rfl);exact⟨_,hle,I9 (s.ok hk) hle (λb hb o u q=>by unfold gL.plus;rw[if_pos hb];exact q),by simpa using hf⟩
theorem Qs{α:Type}{t:Tr α}{v:gE}{xs:List α}(r:(Ob.row t v xs).ok F h)(ag:Agree F h):iq t (kq h) v xs:=I9 r ag (λb hb o u q=>q)
theorem St.ni{α:Type}{t:Tr α}{v:gE}{xs:List α}{k:Nat}(s:St X h0 F0 F L h)(hk:L[k]? =some (.row t v xs)):iq t (kq h) v xs:=Qs (s.ok hk) s.agree
end
end Go.V
end
section
namespace Go.V
open Go.Wk
def Rd(P:iY)(G:gL)(E:EL)(op:Op)(v:gE):Prop:=decide (kz P op = .mL)=false∧Nf P G E op v
def Ln(v:gE)(n:Nat):Prop:=(v = .es∧n=0) ∨ ∃a c,v = .sl a n c∧(a=none→n=0)
theorem iq.ln{α:Type}{t:Tr α}{F:gL}{v:gE}{xs:List α}(s:iq t F v xs):Ln v xs.length:=by
 obtain⟨css,h1,h2⟩:=s;rcases h2 with⟨rfl,rfl⟩|⟨a,c,rfl,_,_,e4,_⟩
 ·exact .inl ⟨rfl,by rw[←h1.1];rfl⟩
 ·rw[←h1.1];exact .inr ⟨a,_,rfl,λq=>by rw[(e4 q).1];rfl⟩
theorem To.Gz{α:Type}{t:To α}{F:gL}{h:Hp}{bs:List Nat}{v:gE}{xs:List α}(r:(To.row t).rel F h bs [v] xs):Ln v xs.length:=by
 obtain⟨v0,lK,r⟩:=r;obtain rfl:=sG lK;rcases r with⟨rfl,rfl,_⟩|⟨b,c,k,css,bss,r⟩
 ·exact .inr ⟨none,.k 0,rfl,λ_=>rfl⟩
 ·exact .inr ⟨_,_,r.form,λq=>by cases q⟩
theorem Ln.one{v:gE}{n:Nat}(l:Ln v n):v.one=true:=by rcases l with⟨rfl,_⟩|⟨a,c,rfl,_⟩<;>rfl
theorem Ln.cells{v:gE}{n:Nat}(l:Ln v n):v.cells=[v]:=by rcases l with⟨rfl,_⟩|⟨a,c,rfl,_⟩<;>rfl
theorem St.kH{X:List Nat}{h0 h:Hp}{F0 F:gL}{L:List Ob}{α:Type}{t:Tr α}{v:gE}{xs:List α}{k:Nat}(s:St X h0 F0 F L h)(hk:L[k]? =some (.row t v xs)):Ln v xs.length:=To.Gz (s.ok hk)
def oy(v:gE)(o:Nat):gE:=match v with
 | .sl (some (b,q)) _ _=>.p (some (b,q+o))
 |_=>.p none
abbrev pl(g o:Nat):gE:=.p (some (g,o))
def nM(F:gL)(v:gE)(s i:Nat)(cs:List gE):Prop:=cs.length=s∧0<s ∧ ∃b q n c,v = .sl (some (b,q)) n c∧i<n ∧ ∀j u,cs[j]? =some u→F b (q+i*s+j)=some u
theorem nM.mono{F G:gL}{v:gE}{s i:Nat}{cs:List gE}(e:nM F v s i cs)(l:F.le G):nM G v s i cs:=by
 obtain⟨h0,h1,b,q,n,c,h2,h3,h4⟩:=e;exact⟨h0,h1,b,q,n,c,h2,h3,λj u hj=>l _ _ _ (h4 j u hj)⟩
theorem iq.el{α:Type}{t:Tr α}{F:gL}{v:gE}{xs:List α}(s:iq t F v xs){i:Nat}{x:α}(hi:xs[i]? =some x):∃cs,t.rel F cs x∧nM F v t.size i cs:=by
 obtain⟨cs,b,o,c,e,hr,hq⟩:=s.at_ hi;exact⟨cs,hr,t.len hr,t.pos,b,o,_,_,e,(kI.1 hi).1,hq⟩
theorem nM.rd{F:gL}{v:gE}{s i:Nat}{cs:List gE}(e:nM F v s i cs){h:Hp}(a:Agree F h):∃b q n c,v = .sl (some (b,q)) n c∧i<n∧V.rd h b (q+i*s) s=some cs:=by
 obtain⟨h0,h1,b,q,n,c,h2,h3,h4⟩:=e;exact⟨b,q,n,c,h2,h3,Eo h0 h1 λj u hj=>a _ _ _ (h4 j u hj)⟩
def zU(v:gE)(i:Nat):Prop:=∃b q n c,v = .sl (some (b,q)) n c∧i<n
theorem nM.ky{F:gL}{v:gE}{s i:Nat}{cs:List gE}(e:nM F v s i cs):zU v i:=by
 obtain⟨h0,h1,b,q,n,c,h2,h3,h4⟩:=e;exact⟨b,q,n,c,h2,h3⟩
theorem zU.form{v:gE}{i:Nat}(e:zU v i):∃b q,∀o,oy v o = .p (some (b,q+o)):=by
 obtain⟨b,q,n,c,rfl,_⟩:=e;exact⟨b,q,λo=>rfl⟩
def oz(P:iY)(s:iA)(f:Nat):Option Nat:=(Bn P s f).bind λq=>(sz P q.type).bind λn=>if 0<n then some q.offset else none
theorem o5{cs cs' post:List gE}{f:Nat}(h:cs.drop f=cs'++post){q:Nat}{u:gE}(hq:cs'[q]? =some u):cs[f+q]? =some u:=by
 rw[←pS,h,mU (kI.1 hq).1];exact hq
section
variable{P:iY}{G:gL}{E:EL}
theorem jV{T e:iA}{x:iT}{v:gE}{n:Nat}(ht:P.underlying T=some (.slice e))(hx:iP E x=some v)(hn:Ln v n):Rd P G E (.call { callee:=.builtin .len,args:=#[x],argTypes:=#[T] }) (.i .i64 n):=by
 refine⟨?_,λh _=>?_⟩
 ·simp[kz,Gi,ht]
 ·rcases hn with⟨rfl,rfl⟩|⟨a,c,rfl,_⟩<;>simp[jS,tP,hx,qO,Ar,ht]
theorem Sw{T:iA}{x:iT}{s:List UInt8}(ht:P.underlying T=some .string)(hx:iP E x=some (.s s)):Rd P G E (.call { callee:=.builtin .len,args:=#[x],argTypes:=#[T] }) (.i .i64 s.length):=by
 refine⟨?_,λh _=>?_⟩
 ·simp[kz,Gi,ht]
 ·simp[jS,tP,hx,qO,Ar,ht]
theorem Su{t e:iA}{s i:Nat}{v:gE}{x y:iT}{kk:pQ}{n:Int}(ht:P.underlying t=some (.slice e))(hz:sz P e=some s)(hx:iP E x=some v)(hy:iP E y=some (.i kk n))(hE:zU v i)(hn:0≤n)(UX:n.toNat=i):Rd P G E (.indexAddr t x y) (oy v (i*s)):=by
 refine⟨rfl,λh _=>?_⟩;obtain⟨b,q,m,c,rfl,hi⟩:=hE;have tU:n=(i:Int):=by omega
 subst tU;simp only[jS,hx,hy,jy,adp ht hz hi];rfl
theorem nr{s f:Nat}{v:gE}{x:iT}{o i:Nat}(off:Nat)(hf:oz P s f=some off)(hx:iP E x=some (oy v o))(hE:zU v i):Rd P G E (.fieldAddr s x f) (oy v (o+off)):=by
 refine⟨rfl,λh _=>?_⟩;obtain⟨b,q,hb⟩:=hE.form;rw[hb]at hx ⊢;unfold oz at hf;rw[iO]at hf;obtain⟨fd,h1,hf⟩:=hf;rw[iO]at hf;obtain⟨n,h2,hf⟩:=hf
 split at hf
 ·rename_i hp;obtain rfl:=iK hf;simp[jS,hx,h1,h2,hp,sK]
 ·cases hf
theorem Ss{s f g o:Nat}{x:iT}(off:Nat)(hf:oz P s f=some off)(hx:iP E x=some (pl g o)):Rd P G E (.fieldAddr s x f) (pl g (o+off)):=by
 refine⟨rfl,λh _=>?_⟩;unfold oz at hf;rw[iO]at hf;obtain⟨fd,h1,hf⟩:=hf;rw[iO]at hf;obtain⟨n,h2,hf⟩:=hf
 split at hf
 ·rename_i hp;obtain rfl:=iK hf;simp[jS,hx,h1,h2,hp]
 ·cases hf
theorem afF{h:Hp}{b o z f:Nat}{cs:List gE}{u:gE}(hr:rd h b o z=some cs)(hl:cs.length=z)(hu:cs[f]? =some u):rd h b (o+f) 1=some [u]:=by
 have hf:=(kI.1 hu).1;rw[V5 hr (by omega)]
 congr 1
 apply Ca;intro j;rw[oc]
 split
 ·rename_i hj;have:j=0:=by omega
  subst this;rw[pS];simpa using hu
 ·rw[zN (by simp;omega)]
theorem la{t:iA}{s i:Nat}{v u:gE}{cs:List gE}{x:iT}{o:Nat}(f:Nat)(ht:lG P t=some false)(hx:iP E x=some (oy v o))(hE:nM G v s i cs)(ho:o=i*s+f)(hu:cs[f]? =some u):Rd P G E (.load t x) u:=by
 refine⟨rfl,λh ha=>?_⟩;have hl:=hE.1;obtain⟨b,q,n,c,rfl,hi,hr⟩:=hE.rd ha;subst ho;simp only[jS,hx,jy,oy];rw[Px ht (by rw[←sK];exact afF hr hl hu)];rfl
theorem pw{t:iA}{s i:Nat}{v:gE}{cs:List gE}{x:iT}{o:Nat}(f:Nat)(cs':List gE)(ht:lG P t=some true)(hz:sz P t=some cs'.length)(hx:iP E x=some (oy v o))(hE:nM G v s i cs)(ho:o=i*s+f)(mX:(cs.drop f).take cs'.length=cs')(hf:f+cs'.length≤s):Rd P G E (.load t x) (.agg cs'):=by
 refine⟨rfl,λh ha=>?_⟩;obtain⟨b,q,n,c,rfl,hi,hr⟩:=hE.rd ha;subst ho;simp only[jS,hx,jy,oy];rw[Ix ht hz (by rw[←sK,V5 hr hf,mX])];rfl
theorem XS{i:Nat}{v:gE}{x:iT}{o:Nat}(hx:iP E x=some (oy v o))(hE:zU v i):Rd P G E (.nilCheck x) (oy v o):=by
 refine⟨rfl,λh _=>?_⟩;obtain⟨b,q,hb⟩:=hE.form;rw[hb]at hx ⊢;simp[jS,hx]
theorem JW{t:iA}{s:List UInt8}{c:UInt8}{x y:iT}{kk:pQ}{n:Int}(ht:P.underlying t=some .string)(hx:iP E x=some (.s s))(hy:iP E y=some (.i kk n))(hn:0≤n)(hc:s[n.toNat]? =some c):Rd P G E (.index t x y) (.i .u8 c.toNat):=by
 refine⟨rfl,λh _=>?_⟩;have tU:n=((n.toNat:Nat):Int):=by omega
 rw[tU]at hy;simp only[jS,hx,hy,jy,Iv,uc];rw[if_pos (by omega)];simp only[jy,ht,ly,hc,lE]
theorem ml{s t:iA}{a:tF}{k k0:pQ}{n m:Int}{x:iT}(h1:P.underlying s=some a)(h2:P.underlying t=some (.int k))(hx:iP E x=some (.i k0 n))(hm:k.wrap n=m):Rd P G E (.convert s t x) (.i k m):=by
 refine⟨?_,λh _=>?_⟩
 ·simp only[kz,Bi,h1,h2];cases a<;>rfl
 ·simp only[jS,hx,jy,qQ,h1,h2,hm]
theorem iB{op:BinOp}{t t2:iA}{x y:iT}{a b v:gE}(hx:iP E x=some a)(hy:iP E y=some b)(hv:kJ P op t a b=some v):Rd P G E (.binOp op t x y t2) v:=by
 refine⟨rfl,λh _=>?_⟩;simp[jS,hx,hy,hv]
theorem XT{t t2 e:iA}{x y:iT}{v:gE}{n:Nat}(ht:P.underlying t=some (.slice e))(hx:iP E x=some v)(hy:iP E y=some (.sl none 0 (.k 0)))(hn:Ln v n):∃b:Bool,(b=true→n=0)∧Rd P G E (.binOp .eql t x y t2) (.b b):=by
 rcases hn with⟨rfl,rfl⟩|⟨a,c,rfl,ha⟩
 ·exact⟨false,(λq=>by cases q),iB hx hy (by simp[kJ,vm,ht])⟩
 ·cases a with
  |none=>exact⟨true,λ_=>ha rfl,iB hx hy (by simp[kJ,vm,ht])⟩
  |some a=>exact⟨false,(λq=>by cases q),iB hx hy (by simp[kJ,vm,ht])⟩
end
section
variable{P:iY}{K:Tb}{fn:Func}{k:oe}{E:EL}{h:Hp}{A:List Oper}{dr:Bool}{G:gL}{L:List Nat}{i d:Nat}
theorem ra{v:gE}(hi:lC i A.length=true)(hw:mf A E (ir A i)=some true)(hd:(ir A i).dst=some d)(ho:Rd P G E (ir A i).op v)(x:W P K fn k A dr G L ((d,v)::E) h):W P K fn k A dr G (i::L) E h:=SC hi hw hd ho.1 ho.2 x
theorem JZ{v:gE}(hb:ahead P A i L=true)(hi:lC i A.length=true)(hw:mf A E (ir A i)=some true)(hd:(ir A i).dst=some d)(ho:Rd P (kq h) E (ir A i).op v)(x:W P K fn k A dr G L ((d,v)::E) h):W P K fn k A dr G (i::L) E h:=X1 hb hi hw hd ho.1 ho.2 x
theorem Ck{t t2 e:iA}{x y:iT}{v:gE}{n:Nat}(hi:lC i A.length=true)(hw:mf A E (ir A i)=some true)(hd:(ir A i).dst=some d)(ji:(ir A i).op = .binOp .eql t x y t2)(ht:P.underlying t=some (.slice e))(hx:iP E x=some v)(hy:iP E y=some (.sl none 0 (.k 0)))(hn:Ln v n)
  (q:∀b:Bool,(b=true→n=0)→W P K fn k A dr G L ((d,.b b)::E) h):W P K fn k A dr G (i::L) E h:=by
 obtain⟨b,h1,h2⟩:=XT (P:=P) (G:=G) (t2:=t2) ht hx hy hn;exact ra hi hw hd (by rw[ji];exact h2) (q b h1)
theorem j8{v:gE}(hi:lC i A.length=true)(hw:mf A E (ir A i)=some true)(hd:(ir A i).dst=some d)(hk:decide (kz P (ir A i).op = .mL)=false)(ho:∀h,jS P E h (ir A i).op=some (v,h))(x:W P K fn k A dr G L ((d,v)::E) h):W P K fn k A dr G (i::L) E h:=SC hi hw hd hk (λh _=>ho h) x
end
end Go.V
end
section
namespace Go.V
open Go.Wk
structure mm{α:Type}(t:To α)(F:gL)(h:Hp)(css:List (Cl t.size))(bss:List (List Nat))(xs:List α):Prop where
 mr:css.length=xs.length
 og:bss.length=xs.length
 rel:∀(i:Nat)(d:Cl t.size)(x:α)(e:List Nat),css[i]? =some d→xs[i]? =some x→bss[i]? =some e→t.rel F h e d.1 x
section
variable{α:Type}{t:To α}{F:gL}{h h1:Hp}{bs:List Nat}{v:gE}{xs ys:List α}{b:Nat}{c:List gE}{k:Option Nat}{css mK:List (Cl t.size)}{bss px:List (List Nat)}
theorem mm.nil:mm t F h [] [] []:=⟨rfl,rfl,λi d x e q=>by simp at q⟩
theorem mm.cat(a:mm t F h css bss xs)(b:mm t F h mK px ys):mm t F h (css++mK) (bss++px) (xs++ys):=by
 refine⟨by simp[a.mr,b.mr],by simp[a.og,b.og],λi d x e q1 q2 q3=>?_⟩
 by_cases hi:i<css.length
 ·rw[mU hi]at q1;rw[mU (by rw[←a.mr];exact hi)]at q2;rw[mU (by rw[a.og,←a.mr];exact hi)]at q3;exact a.rel i d x e q1 q2 q3
 ·rw[nq (by omega)]at q1;rw[nq (by rw[←a.mr];omega),←a.mr]at q2;rw[nq (by rw[a.og,←a.mr];omega),a.og,←a.mr]at q3;exact b.rel _ d x e q1 q2 q3
theorem mm.one{cs:List gE}{e:List Nat}{x:α}(r:t.rel F h e cs x):mm t F h [⟨cs,t.len r⟩] [e] [x]:=by
 refine⟨rfl,rfl,λi d y e' q1 q2 q3=>?_⟩;cases i with
 |zero=>simp at q1 q2 q3;subst q1;subst q2;subst q3;exact r
 |succ i=>simp at q1
theorem mm.frame(a:mm t F h css bss xs)(hn:h.next≤h1.next)(hk:∀g,g∈bss.flatten→h1.get g=h.get g):mm t F h1 css bss xs :=
 ⟨a.mr,a.og,λi d x e q1 q2 q3=>t.frame (a.rel i d x e q1 q2 q3) hn λg hg=>hk g (ny.2 ⟨e,pH q3,hg⟩)⟩
theorem mm.lt(a:mm t F h css bss xs):∀g,g∈bss.flatten→g<h.next:=λg hg=>by
 obtain⟨e,CA,hg⟩:=ny.1 hg;obtain⟨i,hi,rfl⟩:=my CA;have lY:i<xs.length:=by rw[←a.og];exact hi
 exact t.lt (a.rel i _ _ _ (jx (by rw[a.mr];exact lY)) (jx lY) (jx hi)) g hg
theorem mm.xL(a:mm t F h css bss xs):(css.map kg).flatten.all gE.one=true:=by
 refine j9.2 λu hu=>?_;obtain⟨l,hl,hu⟩:=ny.1 hu;obtain⟨d,hd,rfl⟩:=qJ.1 hl;obtain⟨i,hi,rfl⟩:=my hd;have lY:i<xs.length:=by rw[←a.mr];exact hi
 exact j9.1 (t.one (a.rel i _ _ _ (jx hi) (jx lY) (jx (by rw[a.og];exact lY)))) u hu
theorem mm.flat{tr:Tr α}{css:List (Cl tr.size)}(r:qL tr F css xs):mm (To.ma tr) F h css (xs.map λ_=>[]) xs:=by
 refine⟨r.1,by simp,λi d x e q1 q2 q3=>⟨?_,r.2 i d x q1 q2⟩⟩;rw[sF]at q3;cases hx:xs[i]? with
 |none=>rw[hx]at q3;cases q3
 |some y=>rw[hx]at q3;exact(iK q3).symm
theorem tQ{β γ:Type}:∀xs:List β,(xs.map λ_=>([]:List γ)).flatten=[]
 |[]=>rfl
 |_::r=>by rw[qI,o7,tQ r];rfl
theorem I8(a:mm t F h1 css bss xs)(hb:b<h1.next)(hg:h1.get b=some (.cells t.size c))(hc:c.take (xs.length*t.size)=(css.map kg).flatten)(ho:k=none→xs.length*t.size≤c.length)(hk:∀m,k=some m→c.length=m*t.size∧xs.length≤m)(hf:xs.length≤2^30)(Ah:c.all gE.one=true)(kV:(b::bss.flatten).Nodup) :
  Ci t F h1 (b::bss.flatten) (.sl (some (b,0)) xs.length (.of t.size k)) xs b c k css bss:=⟨rfl,hg,hb,a.mr,a.og,a.rel,hc,ho,hk,hf,Ah,rfl,kV⟩
theorem I7(a:mm t F h css bss xs)(hn:h1.next=h.next)(hk:∀g,g∈bss.flatten→h1.get g=h.get g)(kV:bss.flatten.Nodup)(hf:xs.length≤2^30){m:Option Nat}{post:List gE}(hp:m=none→post=[])(hm:∀q,m=some q→xs.length*t.size+post.length=q*t.size∧xs.length≤q)(Ah:post.all gE.one=true) :
  Ci t F (h1.new (.cells t.size ((css.map kg).flatten++post))) (h.next::bss.flatten) (.sl (some (h.next,0)) xs.length (.of t.size m)) xs h.next ((css.map kg).flatten++post) m css bss:=by
 have pB:(css.map kg).flatten.length=xs.length*t.size:=by rw[vq,a.mr]
 have jB:=a.lt;refine I8 (a.frame (by show h.next≤h1.next+1;omega) λg hg=>?_) (by show h.next<h1.next+1;omega) (by rw[Hp.lI,hn,if_pos rfl]) (by rw[←pB,MX]) (λq=>by rw[hp q,rY];exact Nat.le_of_eq pB.symm) (λq hq=>⟨by rw[kU,pB];exact(hm q hq).1,(hm q hq).2⟩) hf (by rw[lz,a.xL,Ah];rfl) (tH.2 ⟨λq=>by have:=jB _ q;omega,kV⟩);rw[Hp.lI,hn,if_neg (by have:=jB g hg;omega)];exact hk g hg
theorem EE{B:mA}(hn:h1.next=h.next)(hw:∀g,h.next≤g→h1.get g=none):∀g,(h1.new B).next≤g→(h1.new B).get g=none:=λg hg=>by
 have pV:h1.next+1≤g:=hg;rw[Hp.lI,if_neg (by omega)];exact hw g (by omega)
theorem To.L1(po:0<t.size)(r:(To.row t).rel F h bs [v] xs)(r2:mm t F h mK px ys)(UU:px.flatten.Nodup)(hd:∀g,g∈px.flatten→g∉bs)(hw:∀g,h.next≤g→h.get g=none)(sr:xs.length+ys.length≤2^30) :
  ∃v' h' kE,vS h t.size ys.length (mK.map kg).flatten v=some (v',h')∧(To.row t).rel F h' kE [v'] (xs++ys)∧h.next≤h'.next∧(∀g,h'.next≤g→h'.get g=none)∧(∀g,g<h.next→g∉bs→h'.get g=h.get g) ∧ ∀g,g∈kE→g∈bs∨g∈px.flatten∨h.next≤g:=by
 obtain⟨v0,lK,r⟩:=r;obtain rfl:=sG lK;have Ul:(mK.map kg).flatten.length=ys.length*t.size:=by rw[vq,r2.mr]
 rcases r with⟨rfl,rfl,rfl⟩|⟨b,c,k,css,bss,r⟩
 ·by_cases hy:ys.length=0
  ·have:ys=[]:=nK hy;subst this;exact⟨.sl none 0 (.k 0),h,[],by simp[vS],⟨_,rfl,.inl ⟨rfl,rfl,rfl⟩⟩,jg _,hw,λg _ _=>rfl,λg hg=>by simp at hg⟩
  ·have R:=I7 (h1:=h) (m:=none) (post:=[]) r2 rfl (λg q=>rfl) UU (by omega) (λ_=>rfl) (λq e=>by cases e) rfl;rw[rY]at R;refine⟨_,_,_,?_,⟨_,rfl,.inr ⟨_,_,_,_,_,R⟩⟩,vN _,EE rfl hw,λg hg _=>?_,λg hg=>?_⟩
   ·simp only[Cap.Aw,Cap.CR,vS];rw[if_pos ⟨trivial,trivial⟩,if_neg hy];unfold ru;rw[if_pos r2.xL];rfl
   ·rw[Hp.lI,if_neg (by omega)]
   ·rcases lM.1 hg with rfl|hg
    ·exact .inr (.inr (jg _))
    ·exact .inr (.inl hg)
 ·obtain⟨y8,hblk,Cz,Bo,HU,nE,vu,Ij,te,xb,DU,y7,uN⟩:=r;have hr:mm t F h css bss xs:=⟨Bo,HU,nE⟩
  subst y8;subst y7;obtain⟨rk,rN⟩:=tH.1 uN;have pB:=vq css;have Ux:xs.length*t.size≤c.length:=by
   have:(c.take (xs.length*t.size)).length=xs.length*t.size:=by rw[vu,pB,Bo]
   rw[kX]at this;omega
  have hR:=hr.cat r2;have kV:(bss++px).flatten.Nodup:=by
   rw[uu];exact Cb.2 ⟨rN,UU,λx hx y hy e=>hd y hy (e▸mV _ hx)⟩
  have OG:∀g,g∈(bss++px).flatten→g≠b:=λg hg e=>by
   subst e;rw[uu]at hg;rcases mF.1 hg with q|q
   ·exact rk q
   ·exact hd _ q (by simp)
  have xh:∀g,g∈(bss++px).flatten→g∈b::bss.flatten∨g∈px.flatten:=λg hg=>by
   rw[uu]at hg;rcases mF.1 hg with q|q
   ·exact .inl (mV _ q)
   ·exact .inr q
  have Ea:(xs++ys).length*t.size=xs.length*t.size+ys.length*t.size:=by rw[kU,lQ]
  have UD:∀cap,oL h t.size xs.length (.sl (some (b,0)) xs.length cap)=some (css.map kg).flatten:=λcap=>by
   simp only[oL]
   split
   ·rename_i h0;have:css=[]:=nK (by omega);rw[this];rfl
   ·unfold rd;rw[hblk];simp only[jn,ur];rw[if_pos Ux,vu]
  have Vd:∀(k:Option Nat),0+(xs.length+ys.length)*t.size≤c.length→(k=none→(xs++ys).length*t.size≤c.length)→(∀m,k=some m→c.length=m*t.size∧(xs++ys).length≤m) →
    ∃h',p6 h b (0+xs.length*t.size) (mK.map kg).flatten=some h'∧(To.row t).rel F h' (b::(bss++px).flatten) [.sl (some (b,0)) (xs.length+ys.length) (.of t.size k)] (xs++ys)∧h'.next=h.next ∧ ∀g,g≠b→h'.get g=h.get g:=λk mM ho hm=>by
   have hle:0+xs.length*t.size+(mK.map kg).flatten.length≤c.length:=by rw[Ul];rw[lQ]at mM;omega
   refine⟨h.set b (.cells t.size (kA c (0+xs.length*t.size) (mK.map kg).flatten)),?_,⟨_,rfl,.inr ⟨b,kA c (0+xs.length*t.size) (mK.map kg).flatten,k,css++mK,bss++px,?_⟩⟩,rfl,λg hg=>by rw[Hp.jv,if_neg hg]⟩
   ·unfold p6;rw[hblk];simp only;rw[if_pos ⟨hle,r2.xL⟩]
   ·have:=I8 (b:=b) (k:=k) (c:=kA c (0+xs.length*t.size) (mK.map kg).flatten) (hR.frame (h1:=h.set b (.cells t.size (kA c (0+xs.length*t.size) (mK.map kg).flatten))) (jg _) λg hg=>by rw[Hp.jv,if_neg (OG g hg)]) Cz (by rw[Hp.jv,if_pos rfl]) ?_ (λq=>by rw[tv hle];exact ho q) (λm q=>by rw[tv hle];exact hm m q) (by rw[kU];exact sr) ?_ (tH.2 ⟨λq=>OG b q rfl,kV⟩)
    ·rw[kU]at this;exact this
    ·rw[vM,uu,Ea];unfold kA;have hL:((css.map kg).flatten++(mK.map kg).flatten).length=xs.length*t.size+ys.length*t.size:=by rw[kU,pB,Ul,Bo]
     rw[jn,vu,JN (by rw[hL];exact jg _),xB (by rw[hL];exact jg _)]
    ·unfold kA;rw[lz,lz,r2.xL];have q1:(c.take (0+xs.length*t.size)).all gE.one=true:=j9.2 λx hx=>j9.1 DU x (sJ hx);have q2:(c.drop (0+xs.length*t.size+(mK.map kg).flatten.length)).all gE.one=true:=j9.2 λx hx=>j9.1 DU x (sI hx);rw[q1,q2];rfl
  have fin:∀(h1:Hp),h1.next=h.next→(∀g,g≠b→h1.get g=h.get g)→(∀g,h.next≤g→h1.get g=none) → ∀cap,vS h t.size ys.length (mK.map kg).flatten (.sl (some (b,0)) xs.length (.of t.size cap))=ru h1 t.size ((css.map kg).flatten++(mK.map kg).flatten) (xs.length+ys.length) none →
    ∃v' h' kE,vS h t.size ys.length (mK.map kg).flatten (.sl (some (b,0)) xs.length (.of t.size cap))=some (v',h')∧(To.row t).rel F h' kE [v'] (xs++ys)∧h.next≤h'.next∧(∀g,h'.next≤g→h'.get g=none)∧(∀g,g<h.next→g∉b::bss.flatten→h'.get g=h.get g) ∧ ∀g,g∈kE→g∈b::bss.flatten∨g∈px.flatten∨h.next≤g:=λh1 xf vw xi cap he=>by
   have R:=I7 (h1:=h1) (m:=none) (post:=[]) hR xf (λg q=>vw g (OG g q)) kV (by rw[kU];exact sr) (λ_=>rfl) (λq e=>by cases e) rfl;rw[rY,vM,uu]at R;have nS:=hR.xL;rw[vM,uu]at nS;refine⟨_,_,_,?_,⟨_,rfl,.inr ⟨_,_,_,_,_,R⟩⟩,by show h.next≤h1.next+1;omega,EE xf xi,λg hg kK=>?_,λg hg=>?_⟩
   ·rw[he];unfold ru;rw[nS,if_pos rfl,xf,kU]
   ·rw[Hp.lI,xf,if_neg (by omega)];exact vw g λe=>kK (by rw[e];simp)
   ·rcases lM.1 hg with rfl|hg
    ·exact .inr (.inr (jg _))
    ·exact(xh g hg).imp id .inl
  cases k with
  | none =>
   have hl:=Ij rfl
   by_cases hy:0+(xs.length+ys.length)*t.size≤c.length
   ·obtain⟨h',q1,q2,q3,q4⟩:=Vd none hy (λ_=>by rw[kU];omega) (λm e=>by cases e);refine⟨_,h',_,?_,q2,by rw[q3];exact jg _,λg hg=>?_,λg _ kK=>q4 g λe=>kK (by rw[e];simp),λg hg=>?_⟩
    ·simp only[Cap.Aw,Cap.CR,vS,hblk];rw[if_pos ⟨trivial,xb,by omega⟩,if_pos hy,q1];rfl
    ·rw[q3]at hg;rw[q4 g (by omega)];exact hw g hg
    ·rcases lM.1 hg with rfl|hg
     ·exact .inl (by simp)
     ·exact(xh g hg).imp id .inl
   ·refine fin (h.set b .dead) rfl (λg hg=>by rw[Hp.jv,if_neg hg]) (λg hg=>by rw[Hp.jv,if_neg (by omega)];exact hw g hg) none ?_;simp only[Cap.Aw,Cap.CR,vS,hblk];rw[if_pos ⟨trivial,xb,by omega⟩,if_neg hy,UD];rfl
  | some m =>
   obtain⟨K4,xe⟩:=te m rfl
   by_cases mM:xs.length+ys.length≤m
   ·have hrm:=nL t.size mM;obtain⟨h',q1,q2,q3,q4⟩:=Vd (some m) (by rw[K4];omega) (λq=>by cases q) (λm' e=>by obtain rfl:=iK e;exact⟨K4,by rw[kU];exact mM⟩);refine⟨_,h',_,?_,q2,by rw[q3];exact jg _,λg hg=>?_,λg _ kK=>q4 g λe=>kK (by rw[e];simp),λg hg=>?_⟩
    ·simp only[Cap.Aw,Cap.CR,vS];rw[if_pos mM,q1];rfl
    ·rw[q3]at hg;rw[q4 g (by omega)];exact hw g hg
    ·rcases lM.1 hg with rfl|hg
     ·exact .inl (by simp)
     ·exact(xh g hg).imp id .inl
   ·refine fin h rfl (λg hg=>rfl) hw (some m) ?_;simp only[Cap.Aw,Cap.CR,vS];rw[if_neg mM,if_pos ⟨xe,xb⟩,UD];rfl
end
end Go.V
end
section
namespace Go.V
open Go.Wk
def pC(P:iY)(e:iA)(s:Nat):Bool:=match sz P e,P.info? e,zeroV P e with
 |some z,some inf,some zero=>rZ z s&&rZ zero.cells.length z&&lC 0 z&&lC 0 inf.bytes&&xC inf.bytes 4096
 |_,_,_=>false
theorem CZ{P:iY}{e:iA}{s:Nat}(h:pC P e s=true):∃inf zero,sz P e=some s∧P.info? e=some inf∧zeroV P e=some zero∧zero.cells.length=s∧0<s∧0<inf.bytes∧inf.bytes≤2^12:=by
 unfold pC at h
 split at h
 ·rename_i z inf zero h1 h2 h3;simp only[jK]at h;obtain⟨⟨⟨⟨a1,a2⟩,a3⟩,a4⟩,a5⟩:=h;have b1:=xD a1;have b2:=xD a2;have b5:=kY a5;subst b1;exact⟨inf,zero,h1,h2,h3,b2,by simpa using a3,by simpa using a4,by omega⟩
 ·cases h
def Src{α:Type}(t:Tr α)(F:gL)(h:Hp)(x:gE)(ys:List α):Prop:=∃css:List (Cl t.size),qL t F css ys∧DA (kq h) x t.size css
theorem iq.src{α:Type}{t:Tr α}{F:gL}{h:Hp}{x:gE}{ys:List α}(s:iq t F x ys)(a:Agree F h):Src t F h x ys:=by
 obtain⟨css,h1,h2⟩:=s;exact⟨css,h1,h2.mono a⟩
theorem agu{α:Type}{t:Tr α}{F:gL}{h:Hp}{bs:List Nat}{v:gE}{xs:List α}(r:(To.row (To.ma t)).rel F h bs [v] xs):Src t F h v xs:=by
 obtain⟨v0,lK,r⟩:=r;obtain rfl:=sG lK;rcases r with⟨rfl,rfl,_⟩|⟨b,c,k,css,bss,r⟩
 ·exact⟨[],⟨rfl,λi d x h _=>by simp at h⟩,.inr ⟨none,some 0,rfl,by simp,λk hk=>by simp,λ_=>⟨rfl,rfl⟩,λb o h=>by cases h⟩⟩
 ·have xb:xs.length≤maxLen:=nY r.tc (by unfold maxLen;decide);have key:∀css:List (Cl t.size),css.length=xs.length→(∀(i:Nat)(d:Cl t.size)(x:α),css[i]? =some d→xs[i]? =some x→t.rel F d.1 x)→c.take (xs.length*t.size)=(css.map kg).flatten→Src t F h v xs:=λcss lT nE hc=>by
   refine⟨css,⟨lT,nE⟩,.inr ⟨some (b,0),k,by rw[r.form,lT];rfl,by rw[lT];exact xb,λm hm=>by rw[lT];exact(r.cap m hm).2,λq=>(by cases q),λb' o' pA i d j u h1 h2=>?_⟩⟩;simp only[km,jT]at pA;obtain⟨rfl,rfl⟩:=pA;show lP h b _=some u;unfold lP;rw[r.kG,jn];have jU:=(kI.1 h1).1;have nT:j<t.size:=by have:=(kI.1 h2).1;rw[d.2]at this;exact this
   have jB:i*t.size+j<xs.length*t.size:=by
    have:=nL t.size (show i+1≤xs.length by rw[←lT];exact jU);rw[lQ]at this;omega
   have:=FO h1 h2;show c[i*t.size+j]? =some u;rw[←hc,oc,if_pos jB]at this;exact this
  refine key css r.mr (λi d x h1 h2=>?_) r.cells;have hi:=(kI.1 h2).1;exact(r.rel i d x _ h1 h2 (jx (by rw[r.og];exact hi))).2
theorem DA.first{h:Hp}{x:gE}{s:Nat}{css:List (Cl s)}(hs:0<s)(c:DA (kq h) x s css):As x=some css.length∧oL h s css.length x=some (css.map kg).flatten:=by
 rcases c with⟨rfl,rfl⟩|⟨a,k,rfl,e2,e3,e4,e5⟩
 ·exact⟨rfl,rfl⟩
 ·refine⟨rfl,?_⟩;cases a with
  |none=>rw[(e4 rfl).1];rfl
  |some a =>
   obtain⟨b,o⟩:=a;simp only[oL]
   split
   ·rename_i h0;rw[nK h0];rfl
   ·rename_i h0;refine Eo (vq css) (Fa (Nat.pos_of_ne_zero h0) hs) λp u hp=>?_;rw[KI hs,iO]at hp;obtain⟨d,q1,q2⟩:=hp;have:=e5 b o rfl _ d _ u q1 q2;rw[R6,RZ]at this;exact this
def Fl{α:Type}(t:Tr α)(F:gL):List (List gE)→List α→Prop
 |[],[]=>True
 |c::cs,x::xs=>t.rel F c x∧Fl t F cs xs
 |_,_=>False
theorem Fl.mk{α:Type}{t:Tr α}{F:gL}:∀{cs:List (List gE)}{xs:List α},Fl t F cs xs → ∃css:List (Cl t.size),css.map kg=cs∧qL t F css xs
 |[],[],_=>⟨[],rfl,rfl,λi d x h _=>by simp at h⟩
 |c::cs,x::xs,⟨h1,h2⟩=>by
  obtain⟨css,h3,h4,h5⟩:=Fl.mk h2;refine⟨⟨c,t.len h1⟩::css,by simp[h3],by simp[h4],λi d y hi hy=>?_⟩;cases i with
  |zero=>simp at hi hy;subst hi;subst hy;exact h1
  |succ i=>exact h5 i d y (by simpa using hi) (by simpa using hy)
 |[],_::_,h=>h.elim
 |_::_,[],h=>h.elim
def Gn:Nat→List gE→List (Nat×gE)
 |_,[]=>[]
 |k,v::r=>(k,v)::Gn (k+1) r
theorem Od{z:Nat}{zero:List gE}(hz:zero.length=z):∀(vs:List gE)(k:Nat)(pre:List gE),(∀v,v∈vs→v.cells.length=z)→pre.length=k*z→oS (λi=>some (i*z,z)) (pre++mT zero vs.length) (Gn k vs)=some (pre++(vs.map gE.cells).flatten)
 |[],k,pre,_,_=>by simp[oS,Gn,mT]
 | v::r,k,pre,hv,hp=>by
  have h1:=hv v (by simp);have zf:mT zero (v::r).length=zero++mT zero r.length:=by
   simp[mT,List.replicate_succ]
  have ih:=Od hz r (k+1) (pre++v.cells) (λw hw=>hv w (mV _ hw)) (by rw[kU,hp,h1,lQ];omega);simp only[Gn,oS,jy];rw[if_pos ⟨h1,by rw[zf];simp only[kU];omega⟩];have:kA (pre++mT zero (v::r).length) (k*z) v.cells=pre++v.cells++mT zero r.length:=by
   unfold kA;rw[zf,←hp,MX,←Dq,List.drop_left,h1,←hz,List.drop_left]
  rw[this,ih];simp
section
variable{P:iY}{E:EL}{X:List Nat}{h0 h:Hp}{F0 F:gL}{L:List Ob}
theorem St.mi{α:Type}{t:Tr α}{v:gE}{xs:List α}{k:Nat}(s:St X h0 F0 F L h)(hk:L[k]? =some (.row t v xs)):Src t F h v xs:=agu (s.ok hk)
theorem Src.el{α:Type}{t:Tr α}{F:gL}{h:Hp}{x:gE}{ys:List α}(s:Src t F h x ys){i:Nat}{y:α}(hi:ys[i]? =some y):∃cs,t.rel F cs y∧nM (kq h) x t.size i cs:=by
 obtain⟨css,h1,h2⟩:=s;have hl:=(kI.1 hi).1;obtain⟨d,hd⟩:∃d,css[i]? =some d:=⟨_,jx (by rw[h1.1];exact hl)⟩
 rcases h2 with⟨rfl,rfl⟩|⟨a,c,rfl,e2,e3,e4,e5⟩
 ·simp at hd
 ·cases a with
  |none=>rw[(e4 rfl).1]at hd;simp at hd
  |some a=>exact⟨_,h1.2 _ _ _ hd hi,d.2,t.pos,a.1,a.2,_,_,rfl,by rw[h1.1];exact hl,λj u hj=>by rw[sK];exact e5 _ _ rfl i _ j u hd hj⟩
theorem St.rowAt{α:Type}{t:Tr α}{v:gE}{xs:List α}{k i:Nat}{x:α}(s:St X h0 F0 F L h)(hk:L[k]? =some (.row t v xs))(hi:xs[i]? =some x):∃cs,t.rel F cs x∧nM (kq h) v t.size i cs:=(s.mi hk).el hi
theorem sM{α:Type}{t:Tr α}{ts tx e:iA}{sx xx:iT}{v x:gE}{xs ys zs:List α}(k:Nat)(ht:P.underlying ts=some (.slice e))(rm:pC P e t.size=true)(vB:rV P tx=some false)(hs:iP E sx=some v)(xj:iP E xx=some x)(hS:St X h0 F0 F L h)(hk:L[k]? =some (.row t v xs))
  (hx:Src t F h x ys) (hz:app xs ys=some zs):Ef P E h (.call { callee:=.builtin .append,args:=#[sx,xx],argTypes:=#[ts,tx] }) (λv' h'=>St X h0 F0 F (L.set k (.row t v' zs)) h'):=by
 obtain⟨sr,rfl⟩:=Fs hz;obtain⟨inf,zero,r1,r2,r3,r4,r5,r6,r7⟩:=CZ rm;obtain⟨css,c1,c2⟩:=hx;obtain⟨c3,c4⟩:=c2.first r5
 have hE:mm (To.ma t) F h css (ys.map λ_=>[]) ys:=.flat c1;obtain⟨v',h',kE,q1,q2,q3,q4,q5,q6⟩:=To.L1 r5 (hS.ok hk) hE (by rw[tQ];exact AY) (λg hg=>by rw[tQ]at hg;cases hg) hS.wf sr;refine⟨rfl,v',h',?_,hS.pE hk (Ob.BO q2) q3 q4 q5 λb hb=>?_⟩
 ·simp only[jS,tP,qa,AW,hs,xj,qO,Co,ht,r1,r2,r3,vB,CP,c3,c4,jy,lE,cond_false,pure,wN];rw[if_pos ⟨r4,r5,by rw[c1.1];omega,r6,r7,vq css,hE.xL⟩,c1.1];exact q1
 ·have:=Ep q2;have jM:b∈v'.own:=hb;rw[←this]at jM;rcases q6 b jM with q|q|q
  ·exact .inl q
  ·rw[tQ]at q;cases q
  ·exact .inr q
theorem kN{α:Type}{t:Tr α}{ts e:iA}{n:Nat}{ps:Array (Nat×iT)}{vs:List gE}{xs:List α}(ht:P.underlying ts=some (.slice e))(rm:pC P e t.size=true)(hp:DQ E ps.toList=some (Gn 0 vs))(hr:Fl t F (vs.map gE.cells) xs)(hn:n=vs.length)(hle:xC (n*t.size) 16777216=true)(hS:St X h0 F0 F L h) :
  Ef P E h (.buildSlice ts n ps) (λv' h'=>St X h0 F0 F (.row t v' xs::L) h'):=by
 obtain⟨inf,zero,r1,r2,r3,r4,r5,r6,r7⟩:=CZ rm;obtain⟨css,c1,c2⟩:=hr.mk;have hE:mm (To.ma t) F h css (xs.map λ_=>[]) xs:=.flat c2;have U7:vs.length=xs.length:=by
  have q:(css.map kg).length=css.length:=sH _;rw[←c2.1,←q,c1,sH]
 have nS:(css.map kg).flatten.all gE.one=true:=hE.xL;have acE:=kY hle;have H3:=Od (z:=t.size) r4 vs 0 [] (λw hw=>by
  have:w.cells∈css.map kg:=by rw[c1];exact Dv hw
  obtain⟨d,_,q⟩:=qJ.1 this;rw[←q];exact d.2) (by simp)
 simp only[wM]at H3;have R:=I7 (h1:=h) (m:=some xs.length) (post:=[]) hE rfl (λg q=>rfl) (by rw[tQ];exact AY) (by
  have:=Nat.le_mul_of_pos_right n r5;rw[←U7,←hn];omega) (λ_=>rfl) (λq e=>by obtain rfl:=iK e;exact⟨by simp,jg _⟩) rfl
 rw[rY,tQ]at R;refine⟨rfl,.sl (some (h.next,0)) xs.length (.k xs.length),_,?_,hS.fresh ⟨vN _,EE rfl hS.wf,λb hb=>?_⟩ (Ob.BO ⟨_,rfl,.inr ⟨_,_,_,_,_,R⟩⟩) (λb hb=>?_)⟩
 ·simp only[jS,hp,jy,Cq,ht,r1,r3];rw[if_pos ⟨by omega,r4,r5⟩,hn,H3,←c1];simp only[jy,ru];rw[if_pos nS,U7];rfl
 ·rw[Hp.lI,if_neg (by omega)]
 ·have:b=h.next:=by simpa[Ob.row,gE.own]using hb
  omega
theorem XK{α:Type}{t:Tr α}{ts e:iA}{x y:iT}{kl kc:pQ}{n:Int}{x0:α}{zs:List α}(ht:P.underlying ts=some (.slice e))(rm:pC P e t.size=true)(hx:iP E x=some (.i kl n))(hy:iP E y=some (.i kc n))(BF:∀z,zeroV P e=some z→t.rel F z.cells x0)(hz:rep n x0=some zs)(hS:St X h0 F0 F L h) :
  Ef P E h (.makeSlice ts x y) (λv' h'=>St X h0 F0 F (.row t v' zs::L) h'):=by
 obtain⟨inf,zero,r1,r2,r3,r4,r5,r6,r7⟩:=CZ rm;obtain⟨n0,n1,rfl⟩:=afW hz;have mY:=BF _ r3;obtain⟨css,c2,vu⟩:∃css:List (Cl t.size),qL t F css (iV n.toNat x0)∧(css.map kg).flatten=mT zero.cells n.toNat :=
  ⟨iV n.toNat ⟨zero.cells,r4⟩,⟨by simp,λi d x q1 q2=>by
   rw[List.getElem?_replicate]at q1 q2
   split at q1
   ·rw[if_pos (by assumption)]at q2;obtain rfl:=iK q1;obtain rfl:=iK q2;exact mY
   ·cases q1⟩,by simp[mT]⟩
 have hE:mm (To.ma t) F h css ((iV n.toNat x0).map λ_=>[]) (iV n.toNat x0):=.flat c2;have nS:(css.map kg).flatten.all gE.one=true:=hE.xL;have R:=I7 (h1:=h) (m:=some n.toNat) (post:=[]) hE rfl (λg q=>rfl) (by rw[tQ];exact AY) (by simp;omega) (λ_=>rfl) (λq e=>by obtain rfl:=iK e;exact⟨by simp,by simp⟩) rfl;rw[rY,tQ,vL]at R;refine⟨rfl,.sl (some (h.next,0)) n.toNat (.k n.toNat),_,?_,hS.fresh ⟨vN _,EE rfl hS.wf,λb hb=>?_⟩ (Ob.BO ⟨_,rfl,.inr ⟨_,_,_,_,_,R⟩⟩) (λb hb=>?_)⟩
 ·have Ig:xp (.i kl n)=some n.toNat:=by unfold xp;simp only;rw[if_pos ⟨n0,by omega⟩]
  have acH:xp (.i kc n)=some n.toNat:=by unfold xp;simp only;rw[if_pos ⟨n0,by omega⟩]
  have hb:inf.bytes*n.toNat≤2^48:=by
   have:=Nat.mul_le_mul r7 (show n.toNat≤1073741824 by omega);omega
  simp only[jS,hx,hy,jy,Ei,ht,r1,r2,r3,Ig,acH];rw[if_pos ⟨jg _,hb,r4,r5⟩,←vu];simp only[ru];rw[if_pos nS];rfl
 ·rw[Hp.lI,if_neg (by omega)]
 ·have:b=h.next:=by simpa[Ob.row,gE.own]using hb
  omega
theorem NB{g:Nat}{cs:List gE}{h1:Hp}(hg:h1.get g=some (.cells cs.length cs))(hl:g<h1.next)(Ah:cs.all gE.one=true):(Ob.box g cs).ok F h1:=⟨g,rfl,rfl,hg,hl,Ah⟩
theorem SN{cs:List gE}(h1:cs.all gE.one=true)(hS:St X h0 F0 F L h):∃h',vR h cs.length cs=some (pl h.next 0,h')∧St X h0 F0 F (.box h.next cs::L) h':=by
 refine⟨_,by unfold vR;rw[if_pos h1],hS.fresh ⟨vN _,EE rfl hS.wf,λb hb=>by rw[Hp.lI,if_neg (by omega)]⟩ (NB (by rw[Hp.lI,if_pos rfl]) (xF _) h1) λb hb=>?_⟩;have:b=h.next:=by simpa[Ob.box]using hb
 omega
theorem o9{t:iA}{cs:List gE}(hz:(zeroV P t).map gE.cells=some cs)(h1:cs.all gE.one=true)(hS:St X h0 F0 F L h):Ef P E h (.alloc t) (λv' h'=>∃g,v'=pl g 0∧St X h0 F0 F (.box g cs::L) h'):=by
 obtain⟨z,qU,rfl⟩:=jR.1 hz;obtain⟨h',q1,q2⟩:=SN h1 hS;exact⟨rfl,_,h',by simp only[jS];rw[qU];exact q1,_,rfl,q2⟩
theorem XI{t:iA}{x:iT}{v:gE}{cs:List gE}(hx:iP E x=some v)(hc:v.cells=cs)(h1:cs.all gE.one=true)(hS:St X h0 F0 F L h):Ef P E h (.box t x) (λv' h'=>∃g,v'=pl g 0∧St X h0 F0 F (.box g cs::L) h'):=by
 subst hc;obtain⟨h',q1,q2⟩:=SN h1 hS;exact⟨rfl,_,h',by simp only[jS,hx,jy];exact q1,_,rfl,q2⟩
theorem St.Fw{g:Nat}{cs:List gE}(k:Nat)(s:St X h0 F0 F L h)(hk:L[k]? =some (.box g cs)):h.get g=some (.cells cs.length cs)∧g<h.next∧cs.all gE.one=true:=by
 obtain⟨g',q1,q2,q3,q4,q5⟩:=s.ok hk;simp only[Ob.box,EU,and_true]at q1;subst q1;exact⟨q3,q4,q5⟩
theorem NA{g:Nat}{cs:List gE}{k:Nat}(s:St X h0 F0 F L h)(hk:L[k]? =some (.box g cs)){o:Nat}{u:gE}(hu:cs[o]? =some u):kq h g o=some u:=by
 have:=(s.Fw k hk).1;show lP h g o=some u;unfold lP;rw[this];exact hu
theorem lN{t:iA}{x:iT}{g o:Nat}{cs:List gE}{u:gE}(k:Nat)(ht:lG P t=some false)(hx:iP E x=some (pl g o))(hS:St X h0 F0 F L h)(hk:L[k]? =some (.box g cs))(hu:cs[o]? =some u):Rd P (kq h) E (.load t x) u:=by
 refine⟨rfl,λh2 ha=>?_⟩;have:=ha _ _ _ (NA hS hk hu);simp only[jS,hx,jy];rw[Px ht (Eo (c:=[u]) rfl (by decide) λj w hj=>by
  cases j with
  |zero=>simp at hj;subst hj;exact this
  |succ j=>simp at hj)]
 rfl
theorem rC{t:iA}{x:iT}{g o:Nat}{cs:List gE}(k:Nat)(cs':List gE)(ht:lG P t=some true)(hz:sz P t=some cs'.length)(hp:0<cs'.length)(hx:iP E x=some (pl g o))(hS:St X h0 F0 F L h)(hk:L[k]? =some (.box g cs))(mX:∀(q:Nat)(u:gE),cs'[q]? =some u→cs[o+q]? =some u):Rd P (kq h) E (.load t x) (.agg cs'):=by
 refine⟨rfl,λh2 ha=>?_⟩;simp only[jS,hx,jy];rw[Ix ht hz (Eo (c:=cs') rfl hp λj w hj=>ha _ _ _ (NA hS hk (mX j w hj)))];rfl
theorem va{t:iA}{x y:iT}{g o:Nat}{cs c:List gE}{v:gE}(k:Nat)(cs':List gE)(hx:iP E x=some (pl g o))(hy:iP E y=some v)(hS:St X h0 F0 F L h)(hk:L[k]? =some (.box g cs))(hc:v.cells=c)(hz:sz P t=some c.length)(h1:c.all gE.one=true)(oW:xC (o+c.length) cs.length=true)(mX:kA cs o c=cs') :
  Ef P E h (.store t x y) (λ_ h'=>St X h0 F0 F (L.set k (.box g cs')) h'):=by
 obtain⟨q1,q2,q3⟩:=hS.Fw k hk;have hf:=kY oW;subst mX;subst hc;have nS:(kA cs o v.cells).all gE.one=true:=by
  unfold kA;rw[lz,lz,h1];have p1:(cs.take o).all gE.one=true:=j9.2 λx hx=>j9.1 q3 x (sJ hx);have p2:(cs.drop (o+v.cells.length)).all gE.one=true:=j9.2 λx hx=>j9.1 q3 x (sI hx);rw[p1,p2];rfl
 have hlen:=tv (c:=cs) (o:=o) (vs:=v.cells) hf;refine⟨rfl,.no,h.set g (.cells cs.length (kA cs o v.cells)),?_,hS.pE hk (NB (by rw[Hp.jv,if_pos rfl,hlen]) q2 nS) (jg _) (λb hb=>?_) (λb hb hn=>?_) λb hb=>.inl hb⟩
 ·simp only[jS,hx,hy,jy,BY,hz];rw[if_pos trivial];unfold p6;rw[q1];simp only;rw[if_pos ⟨hf,h1⟩];rfl
 ·have jM:h.next≤b:=hb;rw[Hp.jv,if_neg (by omega)];exact hS.wf b jM
 ·rw[Hp.jv,if_neg (λe=>hn (by rw[e];simp[Ob.box]))]
theorem pT{α:Type}{tr:Tr α}{t:iA}{v u:gE}{xs:List α}{xo yo:iT}{o:Nat}(i j f:Nat)(x x':α)(c:List gE)(hx:iP E xo=some (oy v o))(hy:iP E yo=some u)(hS:St X h0 F0 F L h)(hk:L[i]? =some (.row tr v xs))(hj:xs[j]? =some x)(ho:o=j*tr.size+f)
  (hc:u.cells=c) (hz:sz P t=some c.length) (h1:c.all gE.one=true) (oW:f+c.length≤tr.size) (nE:∀cs,tr.rel F cs x→tr.rel F (kA cs f c) x'):Ef P E h (.store t xo yo) (λ_ h'=>St X h0 F0 F (L.set i (.row tr v (xs.set j x'))) h'):=by
 subst hc;obtain⟨b,k,cs,e,q1,q2,q3,q4,q5,q6,q7⟩:=To.Wp (t:=To.ma tr) tr.pos (hS.ok hk) hj;obtain⟨h',kE,w1,w2,w3,w4,w5⟩:=q7 u.cells f (kA cs f u.cells) x' [] h1 oW rfl (λh' _ _=>⟨rfl,nE _ q5.2⟩) (λg hg=>by cases hg) (λg hg=>by cases hg) AY;refine⟨rfl,.no,h',?_,hS.pE hk (Ob.BO w2) (by rw[w3];exact jg _) (λb' hb=>?_) (λb' hb hn=>w4 b' λe'=>hn (by rw[e'];exact q2)) λb' hb=>.inl (by
  have:=Ep w2;exact hb)⟩
 ·rw[q1]at hx;subst ho;have tm:iP E xo=some (.p (some (b,j*tr.size+f))):=by rw[hx];simp[oy]
  simp only[jS,tm,hy,jy,BY,hz];rw[if_pos trivial];have QY:p6 h b (j*tr.size+f) u.cells=some h':=w1;rw[QY];rfl
 ·rw[w3]at hb;rw[w4 b' (by omega)];exact hS.wf b' hb
end
end Go.V
end
section
namespace Go.Wk
def jC(x:Int):UInt8:=UInt8.ofNat (x%256).toNat
def jt(a b:List UInt8):Bool:=wF a b
def oR(a b:List UInt8):Int:=if jt a b then -1 else if jt b a then 1 else 0
end Go.Wk
namespace Go.V
open Go.Wk
theorem yj(x:Int):Rs.wrap x=((jC x).toNat:Int):=by
 simp[Jz,EI,EJ,jC];omega
theorem ain(x:UInt8):yE.wrap (x.toNat:Int)=(x.toNat:Int):=by
 have:=x.toNat_lt;simp[Jz,EI,EJ];omega
section
variable{P:iY}{t:iA}{k:pQ}{a b:Int}{x y:List UInt8}
theorem nQ:kJ P .eql t (.i k a) (.i k b)=some (.b (decide (a=b))):=by simp only[kJ,if_pos];rfl
theorem Cp:kJ P .neq t (.i k a) (.i k b)=some (.b (decide (a≠b))):=by
 simp only[kJ,if_pos];show some (gE.b (!(a==b)))=_
 by_cases h:a=b
 ·subst h;simp
 ·simp[h]
theorem qv:kJ P .lss t (.i k a) (.i k b)=some (.b (decide (a<b))):=by simp only[kJ,if_pos];rfl
theorem YD:kJ P .leq t (.i k a) (.i k b)=some (.b (decide (a≤b))):=by simp only[kJ,if_pos];rfl
theorem vg:kJ P .gtr t (.i k a) (.i k b)=some (.b (decide (b<a))):=by simp only[kJ,if_pos];rfl
theorem DH:kJ P .geq t (.i k a) (.i k b)=some (.b (decide (b≤a))):=by simp only[kJ,if_pos];rfl
theorem SS{x y:Bool}(ht:P.underlying t=some .bool):kJ P .eql t (.b x) (.b y)=some (.b (x==y)):=by simp only[kJ,vm,ht];rfl
theorem YC{x y:Bool}(ht:P.underlying t=some .bool):kJ P .neq t (.b x) (.b y)=some (.b (x !=y)):=by simp only[kJ,vm,ht];rfl
theorem SU:kJ P .eql t (.s x) (.s y)=some (.b (x==y)):=rfl
theorem YI:kJ P .neq t (.s x) (.s y)=some (.b (!(x==y))):=rfl
theorem SV:kJ P .lss t (.s x) (.s y)=some (.b (jt x y)):=rfl
theorem YH:kJ P .leq t (.s x) (.s y)=some (.b (jt x y||x==y)):=rfl
theorem YG:kJ P .gtr t (.s x) (.s y)=some (.b (!(jt x y||x==y))):=rfl
theorem YF:kJ P .geq t (.s x) (.s y)=some (.b (!jt x y)):=rfl
end
def yN(P:iY)(t:iA):Option (List (Nat×Nat)×List gE):=(zeroV P t).bind λzero=>match P.underlying t with
 |some (.struct fs)=>(fs.toList.mapM λf=>(sz P f.type).map λn=>(f.offset,n)).map λpl=>(pl,zero.cells)
 |_=>none
section
variable{P:iY}{G:gL}{E:EL}
theorem tJ{t:iA}{ps:Array (Nat×iT)}{pl:List (Nat×Nat)}{zc:List gE}{vs:List (Nat×gE)}{v:gE}(ht:yN P t=some (pl,zc))(hp:DQ E ps.toList=some vs)(hf:(oS (λi=>pl[i]?) zc vs).map gE.agg=some v):Rd P G E (.build t ps) v:=by
 refine⟨rfl,λh _=>?_⟩;unfold yN at ht;rw[iO]at ht;obtain⟨zero,h1,ht⟩:=ht
 split at ht
 ·rename_i fs hu;obtain⟨pl',h2,e⟩:=jR.1 ht;obtain⟨rfl,rfl⟩:=Sb e;simp only[jS,hp,jy,Fx,h1,hu,h2,hf,lE]
 ·cases ht
end
end Go.V
end
section
namespace Go.Wk
theorem adk{x:Int}(h0:-9223372036854775808≤x)(h1:x≤9223372036854775807):yE.wrap x=x:=IntWalk.i64_in x ⟨h0,h1⟩
theorem aip(x:Int):Rs.wrap x=x%256:=by
 simp[Jz,EI,EJ]
theorem EB(x:Int):AS.wrap x=x%4294967296:=by
 simp[Jz,EI,EJ]
theorem Mm(x:Int):Dg.wrap x=x%18446744073709551616:=by
 simp[Jz,EI,EJ]
theorem qH(x y:UInt32):AS.wrap ((x.toNat:Int)+(y.toNat:Int))=((x+y).toNat:Int):=by
 rw[EB,UInt32.toNat_add];omega
theorem Xm(x y:UInt32):AS.wrap ((x.toNat:Int)*(y.toNat:Int))=((x*y).toNat:Int):=by
 rw[EB,UInt32.toNat_mul,←JG,Int.natCast_emod];rfl
theorem ofInt_natCast(n x:Nat):pv n (x:Int)=BitVec.ofNat n x:=by
 apply BitVec.eq_of_toNat_eq;simp
theorem Gq(x:UInt32):pv 32 (x.toNat:Int)=x.toBitVec:=by
 rw[ofInt_natCast];simp
theorem Q3(b:BitVec 32):AS.wrap (b.toNat:Int)=(b.toNat:Int):=by
 rw[EB];have:=b.isLt;omega
theorem u32_and(x y:UInt32):bits .and .u32 (x.toNat:Int) (y.toNat:Int)=((x &&& y).toNat:Int):=by
 show AS.wrap ((pv 32 (x.toNat:Int) &&& pv 32 (y.toNat:Int)).toNat:Int)=_;rw[Q3,Gq,Gq];rfl
theorem u32_or(x y:UInt32):bits .or .u32 (x.toNat:Int) (y.toNat:Int)=((x ||| y).toNat:Int):=by
 show AS.wrap ((pv 32 (x.toNat:Int) ||| pv 32 (y.toNat:Int)).toNat:Int)=_;rw[Q3,Gq,Gq];rfl
theorem u32_xor(x y:UInt32):bits .xor .u32 (x.toNat:Int) (y.toNat:Int)=((x ^^^y).toNat:Int):=by
 show AS.wrap ((pv 32 (x.toNat:Int) ^^^pv 32 (y.toNat:Int)).toNat:Int)=_;rw[Q3,Gq,Gq];rfl
theorem aim(x:UInt32)(n:Int)(c:Nat)(hn:n.toNat=c)(hc:c<32):AS.wrap ((x.toNat:Int)*2^n.toNat)=((x <<< (kQ c)).toNat:Int):=by
 rw[EB,UInt32.toNat_shiftLeft,hn];have:(kQ c).toNat%32=c:=by simp;omega
 rw[this,Nat.shiftLeft_eq,Int.natCast_emod,JG,RN];rfl
theorem Jk(x:UInt32)(n:Int)(c:Nat)(hn:n.toNat=c)(hc:c<32):(x.toNat:Int)/2^n.toNat=((x >>> (kQ c)).toNat:Int):=by
 rw[UInt32.toNat_shiftRight,hn];have:(kQ c).toNat%32=c:=by simp;omega
 rw[this,Nat.shiftRight_eq_div_pow]
 norm_cast
theorem aio(b:UInt8):Dg.wrap (b.toNat:Int)=(b.toUInt64.toNat:Int):=by
 rw[Mm,UInt8.toNat_toUInt64];have:=b.toNat_lt;omega
theorem Xp(b:UInt8):AS.wrap (b.toNat:Int)=(b.toUInt32.toNat:Int):=by
 rw[EB,UInt8.toNat_toUInt32];have:=b.toNat_lt;omega
theorem Xn(x:UInt32):Rs.wrap (x.toNat:Int)=(x.toUInt8.toNat:Int):=by
 rw[aip,UInt32.toNat_toUInt8];omega
end Go.Wk
end
section
namespace Go.V
open Go.Wk
def A5(v v':gE)(z a n:Nat):Prop:=(v' = .es∧n=0 ∧ ∃b len k,v = .sl (some (b,0)) len k∧len≤a)∨(v' = .sl none 0 (.k 0)∧n=0∧v = .sl none 0 (.k 0)) ∨ ∃b o len k k',v = .sl (some (b,0)) len (.of z k)∧v' = .sl (some (b,o)) n (.of z k')∧(o=a*z∨n=0∧o=0)∧(∀m,k'=some m→n≤m)∧k'=k.map (· -a)
theorem A5.ln{v v':gE}{z a n:Nat}(p:A5 v v' z a n):Ln v' n:=by
 rcases p with⟨rfl,rfl,_⟩|⟨rfl,rfl,_⟩|⟨b,o,len,k,k',_,rfl,_⟩
 ·exact .inl ⟨rfl,rfl⟩
 ·exact .inr ⟨none,.k 0,rfl,λ_=>rfl⟩
 ·exact .inr ⟨_,_,rfl,λq=>by cases q⟩
theorem Src.piece{α:Type}{t:Tr α}{F:gL}{h:Hp}{v v':gE}{xs zs:List α}{a b:Int}(s:Src t F h v xs)(p:A5 v v' t.size a.toNat (b.toNat-a.toNat))(hc:cut xs a b=some zs):Src t F h v' zs:=by
 obtain⟨c0,c1,c2,rfl⟩:=Ky hc;obtain⟨css,h1,h2⟩:=s;have hl:((css.take b.toNat).drop a.toNat).length=b.toNat-a.toNat:=by
  have:=h1.1;simp;omega
 have nE:qL t F ((css.take b.toNat).drop a.toNat) ((xs.take b.toNat).drop a.toNat):=by
  refine⟨by simp[h1.1],λi d x q1 q2=>?_⟩;rw[pS,oc]at q1 q2
  split at q1
  ·rw[if_pos (by assumption)]at q2;exact h1.2 _ d x q1 q2
  ·cases q1
 have acu:b.toNat-a.toNat≤maxLen∨css=[]:=by
  rcases h2 with⟨_,rfl⟩|⟨_,_,_,e2,_⟩
  ·exact .inr rfl
  ·have:=h1.1;exact .inl (by omega)
 refine⟨_,nE,?_⟩;rcases p with⟨rfl,hn,_⟩|⟨rfl,hn,_⟩|⟨g,o,len,k,k',rfl,rfl,ho,hk,_⟩
 ·exact .inl ⟨rfl,nK (by omega)⟩
 ·have:(css.take b.toNat).drop a.toNat=[]:=nK (by omega);rw[this];exact .inr ⟨none,some 0,rfl,by simp,λk hk=>by simp,λ_=>⟨rfl,rfl⟩,λb o h=>by cases h⟩
 ·refine .inr ⟨some (g,o),k',by rw[hl],?_,λm hm=>by rw[hl];exact hk m hm,λq=>(by cases q),λb' o' pA i d j u q1 q2=>?_⟩
  ·rw[hl];rcases acu with q|q
   ·exact q
   ·have:=h1.1;rw[q]at this;simp at this;rw[show b.toNat-a.toNat=0 by omega];exact ju _
  ·simp only[km,jT]at pA;obtain⟨rfl,rfl⟩:=pA;have hi:=(kI.1 q1).1;have pX:o=a.toNat*t.size:=ho.elim id λq=>by omega
   rw[pX];rw[pS,oc]at q1
   split at q1
   ·rcases h2 with⟨e,_⟩|⟨a',c',e1,e2,e3,e4,e5⟩
    ·cases e
    ·simp only[gE.sl.injEq]at e1;obtain⟨rfl,_,_⟩:=e1;have:=e5 g 0 rfl _ d j u q1 q2;rw[show 0+((a.toNat+i)*t.size+j)=a.toNat*t.size+(i*t.size+j) by rw[lQ];omega]at this;exact this
   ·cases q1
theorem nM.piece{F:gL}{v v':gE}{s i a n:Nat}{cs:List gE}(e:nM F v s (a+i) cs)(p:A5 v v' s a n)(hi:i<n):nM F v' s i cs:=by
 obtain⟨h0,h1,b,q,m,c,rfl,h3,h4⟩:=e;rcases p with⟨rfl,hn,_⟩|⟨rfl,hn,_⟩|⟨g,o,len,k,k',hv,rfl,ho,_⟩
 ·omega
 ·omega
 ·simp only[gE.sl.injEq,km,jT]at hv;obtain⟨⟨rfl,rfl⟩,_,_⟩:=hv;have pX:o=a*s:=ho.elim id λq=>by omega
  refine⟨h0,h1,b,o,n,_,rfl,hi,λj u hj=>?_⟩;have:=h4 j u hj;rw[show 0+(a+i)*s+j=o+i*s+j by rw[pX,lQ];omega]at this;exact this
def yJ(r:Option gE)(z n:Int):Prop:=(r=none∧n=z) ∨ ∃kk,r=some (.i kk n)
def Bd(E:EL)(o:Option iT)(z n:Int):Prop:=(o=none∧n=z) ∨ ∃y kk,o=some y∧iP E y=some (.i kk n)
theorem Bd.val{E:EL}{o:Option iT}{z n:Int}(b:Bd E o z n):∃r,xa E o=some r∧yJ r z n:=by
 rcases b with⟨rfl,h⟩|⟨y,kk,rfl,h⟩
 ·exact⟨none,rfl,.inl ⟨rfl,h⟩⟩
 ·exact⟨some (.i kk n),by simp[xa,h],.inr ⟨kk,rfl⟩⟩
theorem xM{len cap:Nat}{lo hi:Option gE}{a b:Int}(sW:yJ lo 0 a)(rP:yJ hi len b)(h0:0≤a)(h1:a≤b)(h2:b≤(len:Int))(hc:len≤cap):uB len cap lo hi none=some (a.toNat,b.toNat,cap):=by
 have na:∀kk,uc (.i kk a)=some a.toNat:=λkk=>by unfold uc;simp only;rw[if_pos h0]
 have nb:∀kk,uc (.i kk b)=some b.toNat:=λkk=>by unfold uc;simp only;rw[if_pos (by omega)]
 have e1:yq hi len=some b.toNat:=by
  rcases rP with⟨rfl,rfl⟩|⟨kk,rfl⟩
  ·simp[yq]
  ·exact nb kk
 have e2:yq lo 0=some a.toNat:=by
  rcases sW with⟨rfl,rfl⟩|⟨kk,rfl⟩
  ·rfl
  ·exact na kk
 unfold uB;rw[e1,e2];simp only[yq,jy];rw[if_pos ⟨jg _,by omega,by omega,λq=>by cases q⟩]
section
variable{P:iY}{h:Hp}{X:List Nat}{h0:Hp}{F0 F:gL}{Lo:List Ob}
theorem ahn{α:Type}{tr:Tr α}{t e:iA}{v:gE}{xs zs:List α}{lo hi:Option gE}{j:Nat}{a b:Int}(ht:P.underlying t=some (.slice e))(hz:sz P e=some tr.size)(sW:yJ lo 0 a)(rP:yJ hi xs.length b)(hS:St X h0 F0 F Lo h)(hj:Lo[j]? =some (.row tr v xs))(hc:cut xs a b=some zs) :
  ∃v',ry P t v lo hi none=some v'∧A5 v v' tr.size a.toNat (b.toNat-a.toNat):=by
 obtain⟨c0,c1,c2,_⟩:=Ky hc;obtain⟨v0,lK,r⟩:=hS.ok hj;obtain rfl:=sG lK;rcases r with⟨rfl,yi,_⟩|⟨g,c,m,css,bss,r⟩
 ·have BE:xs.length=0:=by rw[show xs=[]from yi];rfl
  rw[BE]at rP c2;refine⟨.sl none 0 (.k 0),?_,.inr (.inl ⟨rfl,by omega,rfl⟩)⟩;unfold ry;simp only[ht,hz,jy];rw[xM sW rP c0 c1 c2 (jg _)];have e1:a.toNat=0:=by omega
  have e2:b.toNat=0:=by omega
  simp[e1,e2]
 ·have hf:v = .sl (some (g,0)) xs.length (.of tr.size m):=r.form;subst hf;cases m with
  |some m =>
   have hm:xs.length≤m:=(r.cap m rfl).2;refine⟨_,by unfold ry;simp only[Cap.CR,ht,hz,jy];rw[xM sW rP c0 c1 c2 hm];rfl,?_⟩;dsimp only
   by_cases he:m=a.toNat
   ·rw[if_pos he];exact .inr (.inr ⟨g,_,_,some m,some (m-a.toNat),rfl,rfl,.inr ⟨by omega,rfl⟩,λq hq=>by obtain rfl:=iK hq;omega,rfl⟩)
   ·rw[if_neg he];exact .inr (.inr ⟨g,_,_,some m,some (m-a.toNat),rfl,rfl,.inl (jn _),λq hq=>by obtain rfl:=iK hq;omega,rfl⟩)
  |none =>
   by_cases jB:a.toNat<xs.length
   ·refine⟨.sl (some (g,0+a.toNat*tr.size)) (b.toNat-a.toNat) (.op tr.size),?_,.inr (.inr ⟨g,_,_,none,none,rfl,rfl,.inl (jn _),λq hq=>(by cases hq),rfl⟩)⟩;unfold ry;simp only[Cap.Aw,ht,hz,jy,if_true];rw[xM sW rP c0 c1 c2 (jg _)];simp[jB]
   ·refine⟨.es,?_,.inl ⟨rfl,by omega,g,_,_,rfl,by omega⟩⟩;unfold ry;simp only[Cap.Aw,ht,hz,jy,if_true];rw[xM sW rP c0 c1 c2 (jg _)];simp[jB]
end
section
variable{P:iY}{K:Tb}{fn:Func}{k:oe}{E:EL}{h:Hp}{A:List Oper}{dr:Bool}{G:gL}{L:List Nat}{i d:Nat}{X:List Nat}{h0:Hp}{F0 F:gL}{Lo:List Ob}
theorem sP{α:Type}{tr:Tr α}{t e:iA}{v:gE}{xs zs:List α}{x:iT}{ol oh:Option iT}(j:Nat)(a b:Int)(hi:lC i A.length=true)(hw:mf A E (ir A i)=some true)(hd:(ir A i).dst=some d)(ji:(ir A i).op = .slice t x ol oh none)
  (ht:P.underlying t=some (.slice e)) (hz:sz P e=some tr.size) (hx:iP E x=some v) (hl:Bd E ol 0 a) (hh:Bd E oh xs.length b) (hS:St X h0 F0 F Lo h) (hj:Lo[j]? =some (.row tr v xs)) (hc:cut xs a b=some zs)
  (q:∀v',Src tr F h v' zs→A5 v v' tr.size a.toNat (b.toNat-a.toNat)→W P K fn k A dr G L ((d,v')::E) h):W P K fn k A dr G (i::L) E h:=by
 obtain⟨lo,l1,l2⟩:=hl.val;obtain⟨lY,r1,r2⟩:=hh.val;obtain⟨v',k1,k2⟩:=ahn (P:=P) ht hz l2 r2 hS hj hc;refine j8 hi hw hd (by rw[ji];rfl) (λh=>?_) (q v' ((hS.mi hj).piece k2 hc) k2);rw[ji];have n0:xa E none=some none:=rfl;simp only[jS,hx,l1,r1,n0,jy,k1,lE]
theorem iq.cut{α:Type}{tr:Tr α}{t e:iA}{v:gE}{xs zs:List α}{lo hi:Option gE}{a b:Int}(ht:P.underlying t=some (.slice e))(hz:sz P e=some tr.size)(sW:yJ lo 0 a)(rP:yJ hi xs.length b)(hs:iq tr F v xs)(hc:Go.Wk.cut xs a b=some zs) :
  ∃v',ry P t v lo hi none=some v'∧iq tr F v' zs:=by
 obtain⟨c0,c1,c2,rfl⟩:=Ky hc;obtain⟨css,h1,h2⟩:=hs;have hl:((css.take b.toNat).drop a.toNat).length=b.toNat-a.toNat:=by
  have:=h1.1;simp;omega
 have nE:qL tr F ((css.take b.toNat).drop a.toNat) ((xs.take b.toNat).drop a.toNat):=by
  refine⟨by simp[h1.1],λi d x q1 q2=>?_⟩;rw[pS,oc]at q1 q2
  split at q1
  ·rw[if_pos (by assumption)]at q2;exact h1.2 _ d x q1 q2
  ·cases q1
 rcases h2 with⟨rfl,rfl⟩|⟨ad,c,rfl,e2,e3,e4,e5⟩
 ·have BE:xs.length=0:=h1.1.symm;rw[BE]at rP c2;refine⟨.es,?_,_,nE,.inl ⟨rfl,by simp⟩⟩;unfold ry;simp only[ht,hz,jy];rw[xM sW rP c0 c1 c2 (jg _)];rfl
 ·have Ld:=h1.1;cases c with
  | some m =>
   have hm:=e3 m rfl;refine⟨_,by unfold ry;simp only[Cap.CR,ht,hz,jy];rw[xM sW (by rw[Ld];exact rP) c0 c1 (by omega) hm];rfl,_,nE,?_⟩;dsimp only;refine .inr ⟨_,some (m-a.toNat),by rw[hl];rfl,by rw[hl];omega,λq hq=>by obtain rfl:=iK hq;rw[hl];omega,λq=>?_,λb' o' pA i d j u q1 q2=>?_⟩
   ·have hn:ad=none:=by
     split at q
     ·exact q
     ·cases ad with
      |none=>rfl
      |some _=>cases q
    obtain⟨z1,z2⟩:=e4 hn;obtain rfl:=iK z2;exact⟨by rw[z1];simp,by simp⟩
   ·have hi:=(kI.1 q1).1;have jw:¬m=a.toNat:=by omega
    split at pA
    ·contradiction
    obtain⟨⟨b0,o0⟩,rfl,pA⟩:=jR.1 pA;cases pA;rw[pS,oc]at q1
    split at q1
    ·have:=e5 _ _ rfl _ d j u q1 q2;rw[show o0+((a.toNat+i)*tr.size+j)=o0+a.toNat*tr.size+(i*tr.size+j) by rw[lQ];omega]at this;exact this
    ·cases q1
  | none =>
   cases ad with
   |none=>exact absurd (e4 rfl).2 (by simp)
   | some ad =>
    obtain⟨b0,o0⟩:=ad
    by_cases jB:a.toNat<css.length
    ·refine⟨.sl (some (b0,o0+a.toNat*tr.size)) (b.toNat-a.toNat) (.op tr.size),?_,_,nE,.inr ⟨some (b0,o0+a.toNat*tr.size),none,by rw[hl];rfl,by rw[hl];omega,λq hq=>(by cases hq),λq=>(by cases q),λb' o' pA i d j u q1 q2=>?_⟩⟩
     ·unfold ry;simp only[Cap.Aw,ht,hz,jy,if_true];rw[xM sW (by rw[Ld];exact rP) c0 c1 (by omega) (jg _)];simp[jB]
     ·simp only[km,jT]at pA;obtain⟨rfl,rfl⟩:=pA;rw[pS,oc]at q1
      split at q1
      ·have:=e5 _ _ rfl _ d j u q1 q2;rw[show o0+((a.toNat+i)*tr.size+j)=o0+a.toNat*tr.size+(i*tr.size+j) by rw[lQ];omega]at this;exact this
      ·cases q1
    ·refine⟨.es,?_,_,nE,.inl ⟨rfl,nK (by omega)⟩⟩;unfold ry;simp only[Cap.Aw,ht,hz,jy,if_true];rw[xM sW (by rw[Ld];exact rP) c0 c1 (by omega) (jg _)];simp[jB]
theorem wO{α:Type}{tr:Tr α}{t e:iA}{v:gE}{xs zs:List α}{x:iT}{ol oh:Option iT}(a b:Int)(hi:lC i A.length=true)(hw:mf A E (ir A i)=some true)(hd:(ir A i).dst=some d)(ji:(ir A i).op = .slice t x ol oh none)
  (ht:P.underlying t=some (.slice e)) (hz:sz P e=some tr.size) (hx:iP E x=some v) (hl:Bd E ol 0 a) (hh:Bd E oh xs.length b) (hs:iq tr F v xs) (hc:cut xs a b=some zs)
  (q:∀v',iq tr F v' zs→W P K fn k A dr G L ((d,v')::E) h):W P K fn k A dr G (i::L) E h:=by
 obtain⟨lo,l1,l2⟩:=hl.val;obtain⟨lY,r1,r2⟩:=hh.val;obtain⟨v',k1,k2⟩:=hs.cut (P:=P) ht hz l2 r2 hc;refine j8 hi hw hd (by rw[ji];rfl) (λh=>?_) (q v' k2);rw[ji];have n0:xa E none=some none:=rfl;simp only[jS,hx,l1,r1,n0,jy,k1,lE]
end
end Go.V
end
section
namespace Go.V
open Go.Wk
def Ob.dp{α:Type}(t:To α)(bs:List Nat)(v:gE)(xs:List α):Ob:=⟨To.row t,bs,[v],xs⟩
structure zW{α:Type}(t:To α)(tr:Tr α):Prop where
 size:t.size=tr.size
 rel:∀{F G h bs cs x},t.rel F h bs cs x→F.le G→(∀b,b∈bs → ∀o u,lP h b o=some u→G b o=some u)→tr.rel G cs x
theorem zW.flat{α:Type}(tr:Tr α):zW (To.ma tr) tr:=⟨rfl,λq l _=>tr.mono l q.2⟩
section
variable{α:Type}{t t':To α}{F:gL}{h:Hp}{bs:List Nat}{v:gE}{xs:List α}
theorem To.Qs{tr:Tr α}(s:zW t tr)(r:(To.row t).rel F h bs [v] xs)(ag:Agree F h):iq tr (kq h) v xs:=by
 obtain⟨v0,lK,r⟩:=r;obtain rfl:=sG lK;rcases r with⟨rfl,rfl,_⟩|⟨b,c,k,css,bss,r⟩
 ·exact iq.nil _
 ·have xb:xs.length≤maxLen:=nY r.tc (by unfold maxLen;decide);have hs:=s.size;refine⟨css.map λd=>⟨d.1,hs▸d.2⟩,⟨by simp[r.mr],λi d x h1 h2=>?_⟩,.inr ⟨some (b,0),k,by rw[r.form,sH,r.mr,hs],by rw[sH,r.mr];exact xb,λm hm=>by rw[sH,r.mr];exact(r.cap m hm).2,λq=>(by cases q),λb' o' pA i d j u h1 h2=>?_⟩⟩
  ·rw[sF]at h1;obtain⟨d0,rO,rfl⟩:=jR.1 h1;have hi:=(kI.1 h2).1;exact s.rel (r.rel i d0 x _ rO h2 (jx (by rw[r.og];exact hi))) ag λ_ _ _ _ q=>q
  ·simp only[km,jT]at pA;obtain⟨rfl,rfl⟩:=pA;rw[sF]at h1;obtain⟨d0,rO,rfl⟩:=jR.1 h1;show lP h b _=some u;unfold lP;rw[r.kG,jn,←hs];have jU:=(kI.1 rO).1;have nT:j<t.size:=by
    have e1:j<d0.1.length:=(kI.1 h2).1;have e:d0.1.length=t.size:=d0.2;omega
   have jB:i*t.size+j<xs.length*t.size:=by
    have:=nL t.size (show i+1≤xs.length by rw[←r.mr];exact jU);rw[lQ]at this;omega
   have:=FO rO h2;show c[i*t.size+j]? =some u;rw[←r.cells,oc,if_pos jB]at this;exact this
theorem To.agr{β:Type}{s:To β}{ys:List β}(hs:t.size=s.size)(r:(To.row t).rel F h bs [v] xs)(hl:ys.length=xs.length)(hr:∀(i:Nat)x y e cs,xs[i]? =some x→ys[i]? =some y→t.rel F h e cs x→s.rel F h e cs y):(To.row s).rel F h bs [v] ys:=by
 obtain⟨v0,lK,r⟩:=r;refine⟨v0,lK,?_⟩;obtain rfl:=sG lK;rcases r with⟨rfl,rfl,h3⟩|⟨b,c,k,css,bss,r⟩
 ·exact .inl ⟨rfl,nK (by rw[hl];rfl),h3⟩
 ·have FP:c.take (ys.length*s.size)=((css.map λd=>(⟨d.1,hs▸d.2⟩:Cl s.size)).map kg).flatten:=by
   have e:(css.map λd=>(⟨d.1,hs▸d.2⟩:Cl s.size)).map kg=css.map kg:=by rw[yH];rfl
   rw[e,hl,←r.cells,hs]
  refine .inr ⟨b,c,k,css.map λd=>⟨d.1,hs▸d.2⟩,bss,?_⟩;refine⟨by rw[hl,←hs];exact r.form,by rw[←hs];exact r.kG,r.lt,by rw[sH,r.mr,hl],by rw[r.og,hl],λi d y e q1 q2 q3=>?_,FP,λq=>by rw[hl,←hs];exact r.Az q,λm q=>by rw[hl,←hs];exact r.cap m q,by rw[hl];exact r.tc,r.one,r.vr,r.nodup⟩;rw[sF]at q1;obtain⟨d0,rO,rfl⟩:=jR.1 q1;have hi:i<xs.length:=by rw[←hl];exact(kI.1 q2).1
  exact hr i _ y e _ (jx hi) q2 (r.rel i d0 _ e rO (jx hi) q3)
theorem To.agv(r:(To.row t).rel F h bs [v] xs){i:Nat}{x:α}(hi:xs[i]? =some x):∃cs e,t.rel F h e cs x∧(∀g,g∈e→g∈bs)∧(0<t.size→nM (kq h) v t.size i cs) ∧
  ∀{β:Type}(t':To β)(ys:List β)(y:β)(e':List Nat),t.size=t'.size→ys.length=xs.length→ys[i]? =some y→(∀j x y e cs,j≠i→xs[j]? =some x→ys[j]? =some y→t.rel F h e cs x→t'.rel F h e cs y)→t'.rel F h e' cs y→(∀g,g∈e'→g∉bs∨g∈e) → ∃kE,(To.row t').rel F h kE [v] ys ∧ ∀g,g∈kE↔(g∈bs∧g∉e)∨g∈e':=by
 obtain⟨v0,lK,r⟩:=r;obtain rfl:=sG lK;have jU:=(kI.1 hi).1;rcases r with⟨rfl,rfl,rfl⟩|⟨b,c,k,css,bss,r⟩
 ·simp at hi
 ·obtain⟨y8,hblk,Cz,Bo,HU,nE,vu,Ij,te,xb,DU,y7,uN⟩:=r;subst y8;subst y7;obtain⟨rk,rN⟩:=tH.1 uN;obtain⟨d,hd⟩:∃d,css[i]? =some d:=⟨_,jx (by omega)⟩
  obtain⟨e,he⟩:∃e,bss[i]? =some e:=⟨_,jx (by omega)⟩
  have hr:=nE i d x e hd hi he;have uL:∀g,g∈e→g∈bss.flatten:=λg hg=>ny.2 ⟨e,pH he,hg⟩;refine⟨d.1,e,hr,λg hg=>mV _ (uL g hg),λpo=>⟨d.2,po,b,0,_,_,rfl,jU,λj u hj=>?_⟩,λt' ys y e' hs hl hy ho U8 y5=>?_⟩
  ·show lP h b _=some u;unfold lP;rw[hblk,jn];have nT:j<t.size:=by
    have e1:j<d.1.length:=(kI.1 hj).1;have e2:d.1.length=t.size:=d.2;omega
   have jB:i*t.size+j<xs.length*t.size:=by
    have:=nL t.size (show i+1≤xs.length from jU);rw[lQ]at this;omega
   have:=FO hd hj;rw[←vu,oc,if_pos jB]at this;exact this
  have Ik:∀j e2,j≠i→bss[j]? =some e2 → ∀g,g∈e'→g∉e2:=λj e2 hj h2 g hg pg=>by
   rcases y5 g hg with q|q
   ·exact q (mV _ (ny.2 ⟨e2,pH h2,pg⟩))
   ·exact KH bss rN hj h2 he pg q
  have kV:(bss.set i e').flatten.Nodup:=Oh bss i e' rN (t'.nodup U8) λg hg j e2 hj h2=>Ik j e2 hj h2 g hg;have UP:∀g,g∈(bss.set i e').flatten↔(g∈bss.flatten∧g∉e)∨g∈e':=λg=>by
   constructor
   ·intro hg;obtain⟨e2,q1,q2⟩:=ny.1 hg;obtain⟨j,hj,rfl⟩:=my q1
    by_cases FV:j=i
    ·subst FV;simp at q2;exact .inr q2
    ·have ph:j<bss.length:=by simpa using hj
     have hb:(bss.set i e')[j]'hj=bss[j]:=by rw[List.getElem_set_ne (λq=>FV q.symm)]
     rw[hb]at q2;have h2:bss[j]? =some bss[j]:=jx ph;exact .inl ⟨ny.2 ⟨_,pH h2,q2⟩,λq=>KH bss rN FV h2 he q2 q⟩
   ·rintro(⟨q1,q2⟩|q)
    ·obtain⟨e2,p1,p2⟩:=ny.1 q1;obtain⟨j,hj,rfl⟩:=my p1;have FV:j≠i:=λq=>by
      subst q;rw[jx hj]at he;obtain rfl:=iK he;exact q2 p2
     refine ny.2 ⟨bss[j],?_,p2⟩;refine pH (i:=j) ?_;rw[wI (λq=>FV q.symm),jx hj]
    ·refine ny.2 ⟨e',pH (i:=i) (uv (by omega)),q⟩
  have FP:c.take (ys.length*t'.size)=((css.map λd=>(⟨d.1,hs▸d.2⟩:Cl t'.size)).map kg).flatten:=by
   have e:(css.map λd=>(⟨d.1,hs▸d.2⟩:Cl t'.size)).map kg=css.map kg:=by rw[yH];rfl
   rw[e,hl,←vu,hs]
  refine⟨b::(bss.set i e').flatten,⟨_,rfl,.inr ⟨b,c,k,css.map λd=>⟨d.1,hs▸d.2⟩,bss.set i e',?_⟩⟩,λg=>?_⟩
  ·refine⟨by rw[hl,hs],by rw[←hs];exact hblk,Cz,by simp[Bo,hl],by simp[HU,hl],λj d2 x2 e2 q1 q2 q3=>?_,FP,λq=>by rw[hl,←hs];exact Ij q,λm q=>by rw[hl,←hs];exact te m q,by rw[hl];exact xb,DU,rfl,tH.2 ⟨λq=>?_,kV⟩⟩
   ·rw[sF]at q1;obtain⟨d0,rO,rfl⟩:=jR.1 q1
    by_cases hj:j=i
    ·subst hj;rw[uv (by omega)]at q3;rw[hd]at rO;rw[hy]at q2;obtain rfl:=iK rO;obtain rfl:=iK q2;obtain rfl:=iK q3;exact U8
    ·rw[wI (λq=>hj q.symm)]at q3;have UI:j<xs.length:=by rw[←hl];exact(kI.1 q2).1
     exact ho j _ x2 e2 _ hj (jx UI) q2 (nE j d0 _ e2 rO (jx UI) q3)
   ·rcases(UP b).1 q with⟨q1,_⟩|q1
    ·exact rk q1
    ·rcases y5 b q1 with q2|q2
     ·exact q2 (by simp)
     ·exact rk (uL b q2)
  ·rw[lM,lM,UP];constructor
   ·rintro(rfl|q)
    ·exact .inl ⟨.inl rfl,λq=>rk (uL g q)⟩
    ·rcases q with⟨q1,q2⟩|q
     ·exact .inl ⟨.inr q1,q2⟩
     ·exact .inr q
   ·rintro(⟨q1|q1,q2⟩|q)
    ·exact .inl q1
    ·exact .inr (.inl ⟨q1,q2⟩)
    ·exact .inr (.inr q)
end
section
variable{X:List Nat}{h0 h h':Hp}{F0 F F':gL}{L Lr:List Ob}
theorem St.yp{α:Type}(s:St X h0 F0 F L h)(t:To α):St X h0 F0 F (.dp t [] (.sl none 0 (.k 0)) []::L) h :=
 s.fresh ⟨jg _,s.wf,λ_ _=>rfl⟩ ⟨_,rfl,.inl ⟨rfl,rfl,rfl⟩⟩ (λb hb=>by cases hb)
theorem St.wb{α:Type}{t:To α}{bs:List Nat}{v:gE}{xs:List α}{k:Nat}(s:St X h0 F0 F L h)(hk:L[k]? =some (.dp t bs v xs)):Ln v xs.length:=To.Gz (s.ok hk)
theorem St.FH{α:Type}{t:To α}{tr:Tr α}{bs:List Nat}{v:gE}{xs:List α}{k:Nat}(s:St X h0 F0 F L h)(hk:L[k]? =some (.dp t bs v xs))(hs:zW t tr):iq tr (kq h) v xs:=To.Qs hs (s.ok hk) s.agree
theorem St.pZ(s:St X h0 F0 F L h){i:Nat}{o o':Ob}(hi:L[i]? =some o)(ho:o'.ok F h)(hb:∀b,b∈o'.bs→b∈o.bs):St X h0 F0 F (L.set i o') h :=
 s.pE hi ho (jg _) s.wf (λ_ _ _=>rfl) λb q=>.inl (hb b q)
theorem St.part(s:St X h0 F0 F L h){i:Nat}{o:Ob}(o1 o2:Ob)(hi:L[i]? =some o)(h1:o1.ok F h)(h2:o2.ok F h)(rk:∀g,g∈o1.bs→g∈o.bs)(rN:∀g,g∈o2.bs→g∈o.bs)(hd:∀g,g∈o1.bs→g∉o2.bs):St X h0 F0 F (o1::L.set i o2) h:=by
 have hp:=s.pZ hi h2 rN;obtain⟨ho,hog⟩:=s.own i o hi;have jU:=(kI.1 hi).1;have hx:∀(q:Nat)(p:Ob)(g:Nat),(L.set i o2)[q]? =some p→g∈o1.bs→g∈p.bs→False:=λq p g hq hg CE=>by
  by_cases e:q=i
  ·subst e;rw[uv jU]at hq;obtain rfl:=iK hq;exact hd g hg CE
  ·rw[wI (λz=>e z.symm)]at hq;exact e (s.apart i q o p g hi hq (rk g hg) CE).symm
 refine⟨hp.next,hp.wf,hp.ua,hp.agree,hp.ext,hp.new,λq p hq=>?_,λq q' p p' g hq ss hg pV=>?_⟩
 ·cases q with
  |zero=>simp at hq;subst hq;exact⟨h1,λg hg=>hog g (rk g hg)⟩
  |succ q=>exact hp.own q p (by simpa using hq)
 ·cases q with
  |zero =>
   simp at hq;subst hq;cases q' with
   |zero=>rfl
   |succ q'=>exact(hx q' p' g (by simpa using ss) hg pV).elim
  |succ q =>
   cases q' with
   |zero=>simp at ss;subst ss;exact(hx q p g (by simpa using hq) pV hg).elim
   |succ q'=>rw[hp.apart q q' p p' g (by simpa using hq) (by simpa using ss) hg pV]
theorem St.join{o1 o2:Ob}(s:St X h0 F0 F (o1::o2::L) h)(o:Ob)(ho:o.ok F h')(hn:h.next≤h'.next)(hw:Wf h')(hk:∀b,b<h.next→b∉o1.bs→b∉o2.bs→h'.get b=h.get b)(hb:∀b,b∈o.bs→b∈o1.bs∨b∈o2.bs∨h.next≤b):St X h0 F0 F (o::L) h':=by
 obtain⟨a1,a2⟩:=s.own 0 o1 rfl;obtain⟨b1,b2⟩:=s.own 1 o2 rfl;have hL:∀(i:Nat)(p:Ob),L[i]? =some p→(o1::o2::L)[i+2]? =some p:=λi p hp=>hp;have DW:∀b k u,F b k=some u→b<h.next∧b∉o1.bs∧b∉o2.bs:=λb k u e=>⟨HW s.wf (s.agree b k u e),(λq=>by rw[(a2 b q).1 k]at e;cases e),(λq=>by rw[(b2 b q).1 k]at e;cases e)⟩
 have xh:∀(i:Nat)(p:Ob),L[i]? =some p → ∀b,b∈p.bs→b<h.next∧b∉o1.bs∧b∉o2.bs:=λi p hp b hb=>by
  refine⟨p.t.lt (s.ok (hL i p hp)) b hb,λq=>?_,λq=>?_⟩
  ·have:=s.apart 0 (i+2) o1 p b rfl (hL i p hp) q hb;omega
  ·have:=s.apart 1 (i+2) o2 p b rfl (hL i p hp) q hb;omega
 refine⟨nY s.next hn,hw,λb jM hx=>?_,λb k u e=>?_,s.ext,s.new,λi p hp=>?_,λi j p p' b hi hj hp ti=>?_⟩
 ·rw[hk b (sa jM s.next) (λq=>(a2 b q).2.elim (λh3=>by omega) hx) (λq=>(b2 b q).2.elim (λh3=>by omega) hx)];exact s.ua b jM hx
 ·obtain⟨q1,q2,q3⟩:=DW b k u e;have:=s.agree b k u e;unfold lP at this ⊢;rw[hk b q1 q2 q3];exact this
 ·cases i with
  | zero =>
   simp at hp;subst hp;refine⟨ho,λb jM=>?_⟩;rcases hb b jM with q|q|q
   ·exact a2 b q
   ·exact b2 b q
   ·refine⟨λk=>?_,.inl (nY s.next q)⟩;cases hF:F b k with
    |none=>rfl
    |some u=>have:=(DW b k u hF).1;omega
  |succ i =>
   have ti:L[i]? =some p:=by simpa using hp
   obtain⟨t1,t2⟩:=s.own (i+2) p (hL i p ti);exact⟨p.t.frame t1 hn λb jM=>hk b (xh i p ti b jM).1 (xh i p ti b jM).2.1 (xh i p ti b jM).2.2,t2⟩
 ·have HG:∀(i:Nat)(p:Ob),L[i]? =some p→b∈o.bs→b∈p.bs→False:=λi p hi h1 h2=>by
   obtain⟨t1,t2,t3⟩:=xh i p hi b h2;rcases hb b h1 with q|q|q
   ·exact t2 q
   ·exact t3 q
   ·omega
  cases i with
  |zero =>
   simp at hi;subst hi;cases j with
   |zero=>rfl
   |succ j=>exact(HG j p' (by simpa using hj) hp ti).elim
  | succ i =>
   cases j with
   |zero=>simp at hj;subst hj;exact(HG i p (by simpa using hi) ti hp).elim
   |succ j =>
    have:=s.apart (i+2) (j+2) p p' b (hL i p (by simpa using hi)) (hL j p' (by simpa using hj)) hp ti;omega
end
end Go.V
end
section
namespace Go.V
open Go.Wk
def To.tag{α:Type}(a b:To α)(hs:b.size=a.size):To (α×Bool)where
 size:=a.size
 rel F h bs cs x:=(x.2=true∧a.rel F h bs cs x.1)∨(x.2=false∧b.rel F h bs cs x.1)
 len:=λq=>q.elim (λq=>a.len q.2) λq=>(b.len q.2).trans hs
 one:=λq=>q.elim (λq=>a.one q.2) λq=>b.one q.2
 lt:=λq=>q.elim (λq=>a.lt q.2) λq=>b.lt q.2
 nodup:=λq=>q.elim (λq=>a.nodup q.2) λq=>b.nodup q.2
 mono:=λl q=>q.imp (λq=>⟨q.1,a.mono l q.2⟩) λq=>⟨q.1,b.mono l q.2⟩
 frame:=λq hn hk=>q.imp (λq=>⟨q.1,a.frame q.2 hn hk⟩) λq=>⟨q.1,b.frame q.2 hn hk⟩
section
variable{P:iY}{E:EL}{X:List Nat}{h0 h:Hp}{F0 F:gL}{L:List Ob}
theorem XN{α β:Type}{t:To α}{s:To β}{ty:iA}{v u:gE}{bs mh:List Nat}{xs:List α}{y:β}{xo yo:iT}{o:Nat}(j f:Nat)(x x':α)(po:0<t.size)(hx:iP E xo=some (oy v o))(hy:iP E yo=some u)(hS:St X h0 F0 F (⟨s,mh,[u],y⟩ :: .dp t bs v xs::L) h)(hj:xs[j]? =some x)(ho:o=j*t.size+f)
  (hc:u.cells=[u]) (hz:sz P ty=some 1) (oW:f+1≤t.size) (nE:∀h cs e,t.rel F h e cs x→s.rel F h mh [u] y→t.rel F h mh (kA cs f [u]) x'):Ef P E h (.store ty xo yo) (λ_ h'=>∃kE,St X h0 F0 F (.dp t kE v (xs.set j x')::L) h'):=by
 have hk:(⟨s,mh,[u],y⟩ :: .dp t bs v xs::L:List Ob)[1]? =some (.dp t bs v xs):=rfl;have LC:s.rel F h mh [u] y:=hS.ok (i:=0) rfl;have DS:∀g,g∈mh→g∉bs:=λg h1 h2=>by
  have:=hS.apart 0 1 _ _ g rfl hk h1 h2;omega
 obtain⟨b,k,cs,e,q1,q2,q3,q4,q5,q6,q7⟩:=To.Wp po (hS.ok hk) hj;have DW:∀h',h'.next=h.next→(∀g,g≠b→h'.get g=h.get g)→t.rel F h' mh (kA cs f [u]) x':=λh' hn hg =>
  nE _ _ _ (t.frame q5 (by rw[hn];exact jg _) λg pV=>hg g (q4 g pV).2) (s.frame LC (by rw[hn];exact jg _) λg pV=>hg g λe=>DS g pV (e▸q2))
 obtain⟨h',kE,w1,w2,w3,w4,w5⟩:=q7 [u] f (kA cs f [u]) x' mh (s.one LC) oW rfl DW (λg hg=>.inl (DS g hg)) (λg hg=>s.lt LC g hg) (s.nodup LC);refine⟨rfl,.no,h',?_,kE,hS.join _ w2 (by rw[w3];exact jg _) (λb' hb=>?_) (λb' hb _ hn=>w4 b' λe'=>hn (by rw[e'];exact q2)) λb' hb=>(w5 b' hb).elim (λq=>.inr (.inl q)) λq=>.inl q⟩
 ·rw[q1]at hx;subst ho;have tm:iP E xo=some (.p (some (b,j*t.size+f))):=by rw[hx];simp[oy]
  simp only[jS,tm,hy,jy,BY,hz,hc];rw[if_pos (show[u].length=1 from rfl)];have QY:p6 h b (j*t.size+f) [u]=some h':=w1;rw[QY];rfl
 ·rw[w3]at hb;rw[w4 b' (by omega)];exact hS.wf b' hb
end
end Go.V
end
section
namespace Go.V
open Go.Wk
def T.mp{α β:Type}(f:α→β):T α→T β
 | .lf=>.lf
 | .nd v l r=>.nd (v.map f) (T.mp f l) (T.mp f r)
theorem T.aaX{α β:Type}(f:α→β)(t:T α):∀n,(t.mp f).get n=(t.get n).map f:=by
 induction t with
 |lf=>intro n;rfl
 | nd v l r ihl ihr =>
  intro n;cases n with
  |zero=>rfl
  |succ m =>
   simp only[T.mp,T.get];cases rZ (m%2) 0
   ·exact ihr _
   ·exact ihl _
def mA.pZ:mA→mA
 | .cells _ c=>.ro c
 | .ro c=>.ro c
 |_=>.dead
def Hp.pZ(h:Hp):Hp:=⟨h.next,h.t.mp mA.pZ⟩
theorem Hp.KN(h:Hp)(b:Nat):h.pZ.get b=(h.get b).map mA.pZ:=T.aaX _ _ _
section
variable{P:iY}{ρ:Ren}{h:Hp}{w W:World}{b:Nat}{i:Info}
theorem S2(h:Hp)(b:Nat):sf (h.pZ.set b .dead):=λb' ⟨B,q1,q2⟩=>by
 rw[Hp.jv]at q1
 split at q1
 ·obtain rfl:=iK q1;cases q2
 ·rw[Hp.KN]at q1;obtain⟨B',_,rfl⟩:=jR.1 q1;cases B'<;>cases q2
theorem Rel.seen(r:Rel ρ h w)(hb:ρ b=some i)(ho:own h b)(hs:w.heap.size≤W.heap.size)(hk:∀g,g<w.heap.size→g≠i.g→W.heap[g]? =w.heap[g]?):Rel ρ (h.pZ.set b .dead) W:=by
 refine⟨λb' i' e=>⟨(r.nv b' i' e).1,sa (r.nv b' i' e).2 hs⟩,λb' i' B e f=>?_,λb1 b2 i1 i2 _ _ _ q=>absurd q (S2 h b b2),λb' hn=>?_⟩
 ·rw[Hp.jv]at f
  split at f
  ·obtain rfl:=iK f;trivial
  ·rename_i jw;rw[Hp.KN]at f;obtain⟨B',hg,rfl⟩:=jR.1 f;have hB:=r.kG b' i' B' e hg;have FW:∀M0,B'=M0→M0.IA=true→i'.g≠i.g:=λM0 eq hl q=>jw (r.inj b' b i' i e hb ⟨B',hg,eq▸hl⟩ ho q);cases B' with
   |cells z c =>
    have hn:=FW _ rfl rfl;obtain⟨_,_,_,h4,_,h6⟩:=hB;refine⟨h4,λj u hj=>?_⟩;obtain⟨u',a,q⟩:=h6 j u hj;exact⟨u',by rw[DN (a:=⟨i'.g,i'.base+j,none⟩) (hk _ (r.nv b' i' e).2 hn)];exact a,q⟩
   |ro c =>
    have hn:=FW _ rfl rfl;obtain⟨h4,h6⟩:=hB;refine⟨h4,λj u hj=>?_⟩;obtain⟨u',a,q⟩:=h6 j u hj;exact⟨u',by rw[DN (a:=⟨i'.g,i'.base+j,none⟩) (hk _ (r.nv b' i' e).2 hn)];exact a,q⟩
   |map es=>trivial
   |dead=>trivial
 ·have tU:h.next≤b':=hn;rw[Hp.jv,if_neg (by have:=(r.nv b i hb).1;omega),Hp.KN,r.wf b' tU];rfl
theorem abz{q o:Nat}{u:gE}(hq:q≠b)(e:lP h q o=some u):lP (h.pZ.set b .dead) q o=some u:=by
 unfold lP at e ⊢;rw[Hp.jv,if_neg hq,Hp.KN];cases hg:h.get q with
 |none=>rw[hg]at e;cases e
 |some B =>
  rw[hg]at e;cases B with
  |cells z c=>exact e
  |ro c=>exact e
  |map es=>cases e
  |dead=>cases e
theorem adP{W w':World}(h:Kept W w'):∃q os,w'=Go.Sort.grow (W.drewN q) os:=by
 refine⟨w'.drawn-W.drawn,w'.heap.extract W.heap.size w'.heap.size,?_⟩;have h1:=h.os;have h2:=h.tape;have h3:=h.output;have h4:=h.drawn;have h5:=h.block;have h6:=h.size;obtain⟨hp,tp,dr,os,out⟩:=w';simp only at h1 h2 h3 h4 h5 h6;subst h1;subst h2;subst h3;simp only[Go.Sort.grow,World.drewN]
 congr 1
 ·apply Array.ext_getElem?;intro i
  by_cases hi:i<W.heap.size
  ·rw[Jq hi,h5 i hi]
  ·rw[Array.getElem?_append_right (by omega)]
   by_cases hl:i<hp.size
   ·simp[hl,show i-W.heap.size<hp.size-W.heap.size by omega,show W.heap.size+(i-W.heap.size)=i by omega]
   ·rw[Array.getElem?_eq_none (by omega),Array.getElem?_eq_none (by simp;omega)]
 ·omega
end
def Fh(P:iY)(K0:Tb)(f z:Nat):Tb:=λf' args h M=>f'=f ∧ ∃(β:Type)(x0:β)(enc:β→Cl z)(cf:β→β→Int)(xs:List β)(g b:Nat)(k:Option Nat)(rest:List gE)(fn:Func)(c:Code),
 args=[.sl (some (b,0)) xs.length (.of z k),.f g []]∧h.get b=some (.cells z ((xs.map λx=>(enc x).1).flatten++rest))∧0<xs.length∧xs.length≤2^30∧0<z∧Go.Sort.SWO (Go.Proofs.ltOf cf)∧(∀x,(enc x).1.all gE.one=true) ∧
 P.funcs[g]? =some fn∧fn.body=some c∧fn.name ≠ "runtime.NumGoroutine" ∧
 (∀x y h',Wf h'→(∀q o u,q≠b→lP h q o=some u→lP h' q o=some u)→iN P K0 g [.agg (enc x).1,.agg (enc y).1] h' λv _=>v = .i .i64 (cf x y)) ∧
 ∀S:List β,S.Perm xs→S.Pairwise (λx y=>¬cf y x<0)→M (.kx []) (h.set b (.cells z ((S.map λx=>(enc x).1).flatten++rest)))
section
open Go.Sort Go.Shelf Go.Proofs
abbrev s7(ρ:Ren){β:Type}{z:Nat}(enc:β→Cl z):={ p:β×List iU //p.2.length=z∧jc ρ (enc p.1).1 p.2 }
theorem VT{ρ:Ren}{β:Type}{z:Nat}(enc:β→Cl z):∀(xs:List β)(us:List iU),jc ρ ((xs.map λx=>(enc x).1).flatten) us → ∃ds:List (s7 ρ enc),ds.map (λp=>p.1.1)=xs∧(ds.map λp=>p.1.2).flatten=us
 |[],us,h=>⟨[],rfl,by have:us=[]:=nK (by rw[←h.1];rfl);rw[this];rfl⟩
 | x::xs,us,h=>by
  rw[qI,o7]at h;have hz:(enc x).1.length=z:=(enc x).2;have hlen:=h.1;rw[kU,hz]at hlen;have h1:jc ρ (enc x).1 (us.take z):=⟨by rw[kX,hz];omega,λj u u' a b=>h.2 j u u' (by rw[mU (kI.1 a).1];exact a) (by
   rw[oc]at b
   split at b
   ·exact b
   ·cases b)⟩
  have h2:jc ρ (xs.map λx=>(enc x).1).flatten (us.drop z):=⟨by rw[od];omega,λj u u' a b=>h.2 (z+j) u u' (by rw[nq (by omega),hz,Nat.add_sub_cancel_left];exact a) (by rw[pS]at b;exact b)⟩
  obtain⟨ds,q1,q2⟩:=VT enc xs _ h2;exact⟨⟨(x,us.take z),by rw[kX];omega,h1⟩::ds,by simp[q1],by simp[q2]⟩
theorem Oe{ρ:Ren}{β:Type}{z:Nat}(enc:β→Cl z)(ds:List (s7 ρ enc)):jc ρ ((ds.map λp=>(enc p.1.1).1).flatten) (ds.map λp=>p.1.2).flatten:=by
 induction ds with
 |nil=>exact jc.nil
 |cons p ds ih=>exact p.2.2.append ih
theorem Of{α:Type}[Inhabited α]{enc:α→List iU}{k:Nat}(hk:∀x,(enc x).length=k)(hp:0<k)(ds:List α){j:Nat}{u:iU}(hj:(ds.map enc).flatten[j]? =some u):j<ds.length*k∧(flatK enc k ds.toArray)[j]! =u:=by
 have hl:(ds.map enc).flatten.length=ds.length*k:=by
  induction ds with
  |nil=>simp
  | cons d r ih =>
   clear hj
   have:∀r:List α,(r.map enc).flatten.length=r.length*k:=λr=>by
    induction r with
    |nil=>simp
    |cons d r ih=>rw[qI,o7,kU,hk,ih,tG,lQ];omega
   exact this _
 have nT:j<ds.length*k:=by rw[←hl];exact(kI.1 hj).1
 refine⟨nT,?_⟩;have key:∀(ds:List α)(j:Nat),j<ds.length*k→(ds.map enc).flatten[j]? =(ds[j/k]?).bind λd=>(enc d)[j%k]?:=λds=>by
  induction ds with
  |nil=>intro j h;simp at h
  |cons d r ih =>
   intro j h;rw[qI,o7]
   by_cases jB:j<k
   ·rw[mU (by rw[hk];exact jB),R2 jB,zQ jB];rfl
   ·have e1:j/k=(j-k)/k+1:=Nat.div_eq_sub_div hp (by omega);have e2:j%k=(j-k)%k:=R5 (by omega);rw[nq (by rw[hk];omega),hk,ih (j-k) (by rw[tG,lQ]at h;omega),e1,e2];rfl
 rw[key ds j nT,iO]at hj;obtain⟨d,q1,q2⟩:=hj;rw[get_flatK _ _ _ _ (by simpa using nT)];have hi:=kI.1 q1;have hd:ds.toArray[j/k]! =d:=by rw[getElem!_pos ds.toArray (j/k) (by simpa using hi.1)];simpa using hi.2
 rw[hd];have hq:=kI.1 q2;rw[getElem!_pos (enc d) (j%k) hq.1];exact hq.2
section
variable{P:iY}{K0:Tb}{ρs:Go.Shelf.Ren}{f z:Nat}{ff:Func}{Z5:Code}
theorem Sm(hK0:vO P K0)(L:SlLaysF0.n6 P ρs)(hf:ρs.f 6=f)(aE:∀w,(isAgg (ρs.t 24)).run P w = .ok true w)(zE:∀w,(Go.sizeOf (ρs.t 24)).run P w = .ok z w)(hff:P.funcs[f]? =some ff)(hbf:ff.body=some Z5)(hnf:ff.name ≠ "runtime.NumGoroutine"):vO P (Fh P K0 f z):=by
 rintro f' args h M ⟨rfl,β,x0,enc,cf,xs,g,b,k,rest,fn,c,rfl,tg,po,sr,hz,hO,h1,xc,pg,FT,HZ,hM⟩ ρ w nP r hr;have OZ:own h b:=⟨_,tg,rfl⟩
 have main:∀(i:Info)(c':Nat),ρ b=some i→M3 P f' #[.slice (some ⟨i.g,i.base+0,none⟩) xs.length c',.func (.func g) #[] #[]] w λv' w'=>∃v h' ρ',M v h'∧VR ρ' v v'∧Rel ρ' h' w'∧Ext ρ h w ρ' h' w':=by
  intro i c' hb;obtain⟨b1,b2,b3,b4,⟨b5,b6⟩,b7⟩:=r.kG b i _ hb tg;obtain⟨OI,UF⟩:=r.nv b i hb;have lT:((xs.map λx=>(enc x).1).flatten).length=xs.length*z:=by
   have:=vq (xs.map enc);simpa[yH,Function.comp_def]using this
  let us:List iU:=(mI (xs.length*z)).map λj=>(w.cell? ⟨i.g,i.base+j,none⟩).getD undef
  have Am:jc ρ ((xs.map λx=>(enc x).1).flatten) us:=⟨by simp[us,lT],λj u u' a q=>by
   have hj:j<xs.length*z:=by rw[←lT];exact(kI.1 a).1
   obtain⟨u2,p1,p2⟩:=b7 j u (by rw[mU (by rw[lT];exact hj)];exact a);simp[us,hj,p1]at q;subst q;exact p2⟩
  obtain⟨ds,d1,d2⟩:=VT enc xs us Am;have uJ:ds.length=xs.length:=by rw[←d1,sH]
  obtain⟨d0,rO⟩:∃d0,ds[0]? =some d0:=⟨_,jx (by omega)⟩
  haveI:Inhabited (s7 ρ enc):=⟨d0⟩
  have hk:∀p:s7 ρ enc,p.1.2.length=z:=λp=>p.2.1;have rl:∀p:s7 ρ enc,∀v∈p.1.2,v.oneCell'=true:=λp=>p.2.2.one (h1 _);have hO':SWO (ltOf λp q:s7 ρ enc=>cf p.1.1 q.1.1):=⟨λx=>hO.irrefl _,λx y z=>hO.trans _ _ _,λx y z=>hO.ntrans _ _ _⟩
  have aby:∀j,j<ds.length*z→w.cell? ⟨i.g,i.base+j,none⟩=some ((flatK (λp:s7 ρ enc=>p.1.2) z ds.toArray)[j]!):=λj hj=>by
   obtain⟨u,hu⟩:∃u,((ds.map λp=>p.1.2).flatten)[j]? =some u:=by
    rw[d2];exact⟨_,jx (by simp[us];rw[←uJ];exact hj)⟩
   rw[(Of hk hz ds hu).2];rw[d2]at hu;have ph:j<xs.length*z:=by rw[←uJ];exact hj
   have hs:=(b5 (i.base+j) (by rw[b2,kU,lT]at b3;omega)).1;obtain⟨u2,tk⟩:=Ha.1 hs;simp[us,ph,tk]at hu;rw[tk,hu]
  have aa8:HoldsK (λp:s7 ρ enc=>p.1.2) z w i.g i.base ds.toArray:=by
   intro j hj;have ph:j<ds.length*z:=by simpa using hj
   refine⟨aby j ph,(b5 (i.base+j) ?_).2⟩;rw[uJ]at ph;rw[b2,kU,lT]at b3;omega
  have OK:=AnyQ.slices_SortFunc L z aE zE (λp:s7 ρ enc=>p.1.2) hk rl (λp q=>cf p.1.1 q.1.1) hO' g #[] i.g i.base c' ds.toArray w (λargs w=>L4 xc pg FT args w) (λm os dk _ x y=>by
   have uP:w.heap.size≤(sortWorldK (λp:s7 ρ enc=>p.1.2) z w i.g i.base m dk os).heap.size:=by
    show w.heap.size≤((mapBlock (xz w m) i.g _).heap++os).size;simp[mapBlock,xz]
   have Ik:∀q,q<w.heap.size→q≠i.g→(sortWorldK (λp:s7 ρ enc=>p.1.2) z w i.g i.base m dk os).heap[q]? =w.heap[q]?:=λq hq O5=>by
    show((mapBlock (xz w m) i.g _).heap++os)[q]? =_;rw[Jq (by simp[mapBlock,xz];omega)];simp[mapBlock,xz,zG];intro h;exact absurd h.symm O5
   have hR:=r.seen hb OZ uP Ik;have It:Wf (h.pZ.set b .dead):=hR.wf;have hx:=HZ x.1.1 y.1.1 _ It (λq o u hq e=>abz hq e);have hv:jc ρ [.agg (enc x.1.1).1,.agg (enc y.1.1).1] [.agg x.1.2.toArray,.agg y.1.2.toArray]:=jc.cons (.agg x.2.2.1 x.2.2.2) (jc.cons (.agg y.2.2.1 y.2.2.2) jc.nil);refine Calls.mono (XW.back (M:=λv _=>v = .i .i64 (cf x.1.1 y.1.1)) hK0 xc pg FT hR hv hx) λe w' hq=>?_;cases e with
   |returned v' =>
    obtain⟨v,h',ρ',rfl,q2,q3,q4⟩:=hq;cases q2;obtain⟨q,os',e⟩:=adP (q4.kept (S2 h b));exact⟨rfl,q,os',e⟩
   |_=>exact hq.elim) aa8 UF (by simp;omega)
  refine .inl ⟨by rw[←hf];rw[hf];exact L4 hff hbf hnf _ w,?_⟩;rw[hf]at OK;simp only[RW,uJ]at OK;rw[sZ];refine Calls.mono OK λe w' hq=>?_;obtain⟨rfl,d',n,os,hp,Ir,rfl⟩:=hq;have D7:d'.toList.Perm ds:=by
   have h3:=hp.2.2;have h4:d'.size=xs.length:=by have:=hp.1;simp at this;omega
   simp only[List.extract_toArray]at h3;rw[←h4]at h3;rw[Array.extract_size]at h3;have h5:d'.size=ds.length:=by omega
   simpa[h5]using h3
  have abG:d'.toList.toArray=d':=by simp
  rw[←abG]at Ir ⊢;generalize d'.toList=S at *;have OA:S.length=xs.length:=by rw[D7.length_eq,uJ]
  have acZ:(S.map λp=>p.1.1).Pairwise λx y=>¬cf y x<0:=by
   rw[E6,List.pairwise_iff_getElem];intro a q ha hq haq;have h3:=Ir a q (ju _) haq (by rw[←OA];exact hq);rw[getElem!_pos S.toArray a (by simpa using ha),getElem!_pos S.toArray q (by simpa using hq)]at h3;simpa[ltOf]using h3
  have D8:(S.map λp=>p.1.1).Perm xs:=by rw[←d1];exact D7.map _
  have Un:=hM _ D8 acZ;have hSf:((S.map λp=>p.1.1).map λx=>(enc x).1).flatten=(S.map λp=>(enc p.1.1).1).flatten:=by rw[yH];rfl
  rw[hSf]at Un;have HS:((S.map λp=>(enc p.1.1).1).flatten).length=xs.length*z:=by
   have:=vq ((S.map λp=>p.1.1).map enc);simpa[yH,Function.comp_def,OA]using this
  obtain⟨OQ,KX,hgf,uK⟩:∃c e fr,w.heap[i.g]? =some (.cells c e fr):=by
   have hs:=(b5 i.base (by rw[b2,kU,lT]at b3;have:=Fa po hz;omega)).1;obtain⟨u,hu⟩:=Ha.1 hs;obtain⟨c,e,fr,q,_⟩:=cells_of_cell? hu;exact⟨c,e,fr,q⟩
  have hW:∀q,q<w.heap.size→q≠i.g→(sortWorldK (λp:s7 ρ enc=>p.1.2) z w i.g i.base n S.toArray os).heap[q]? =w.heap[q]?:=λq hq O5=>by
   show((mapBlock (xz w n) i.g _).heap++os)[q]? =_;rw[Jq (by simp[mapBlock,xz];omega)];simp[mapBlock,xz,zG];intro h;exact absurd h.symm O5
  have KQ:(sortWorldK (λp:s7 ρ enc=>p.1.2) z w i.g i.base n S.toArray os).heap[i.g]? =some (.cells (Go.Sort.putCells id i.base (flatK (λp:s7 ρ enc=>p.1.2) z S.toArray) OQ) KX hgf):=by
   show((mapBlock (xz w n) i.g _).heap++os)[i.g]? =_;rw[Jq (by simp[mapBlock,xz];exact UF)];simp[mapBlock,xz,zG,uK,onCells]
  have OJ:∀o,(sortWorldK (λp:s7 ρ enc=>p.1.2) z w i.g i.base n S.toArray os).cell? ⟨i.g,o,none⟩=if i.base≤o∧o<i.base+xs.length*z then some ((flatK (λp:s7 ρ enc=>p.1.2) z S.toArray)[o-i.base]!)else w.cell? ⟨i.g,o,none⟩:=λo=>by
   have jB:i.base+xs.length*z≤OQ.size:=by
    have hs:=(b5 (i.base+xs.length*z-1) (by rw[b2,kU,lT]at b3;have:=Fa po hz;omega)).1;obtain⟨u,hu⟩:=Ha.1 hs;simp only[uq,uK]at hu;have:=(Mu.1 hu).1;have:=Fa po hz;omega
   simp only[uq,KQ,uK,Go.Sort.putCells,Array.getElem?_mapIdx,size_flatK,RW,OA]
   by_cases ho:i.base≤o∧o<i.base+xs.length*z
   ·rw[if_pos ho,Array.getElem?_eq_getElem (by omega)];simp[ho]
   ·rw[if_neg ho];cases OQ[o]? with
    |none=>rfl
    |some v=>simp only[lE,if_neg ho]
  have hfW:∀o,(sortWorldK (λp:s7 ρ enc=>p.1.2) z w i.g i.base n S.toArray os).frozen? ⟨i.g,o,none⟩=w.frozen? ⟨i.g,o,none⟩:=λo=>by simp only[ET,KQ,uK]
  have U4:w.heap.size≤(sortWorldK (λp:s7 ρ enc=>p.1.2) z w i.g i.base n S.toArray os).heap.size:=by
   show w.heap.size≤((mapBlock (xz w n) i.g _).heap++os).size;simp[mapBlock,xz]
  have ab8:∀b' i',ρ b'=some i'→b'≠b → ∀B,h.get b'=some B→B.IA=true→i'.g≠i.g:=λb' i' e jw B hB hl q=>jw (r.inj b' b i' i e hb ⟨B,hB,hl⟩ OZ q);refine⟨.kx [],_,ρ,Un,.kx rfl (λj u u' a _=>by simp at a),⟨λb' i' e=>⟨(r.nv b' i' e).1,sa (r.nv b' i' e).2 U4⟩,λb' i' B e q=>?_,λYA YB i1 i2 e1 e2 l1 l2 q=>?_,λb' hn=>?_⟩,⟨Ren.le.refl _,jg _,λb' jM _=>⟨jM,?_⟩,U4,λg' pV kK=>⟨hW g' pV λq=>kK b i hb OZ q.symm,λb' i' e o=>?_⟩,rfl,rfl,rfl,?_⟩⟩
  ·rw[Hp.jv]at q
   split at q
   ·rename_i pU;subst pU;rw[hb]at e;obtain rfl:=iK e;obtain rfl:=iK q;refine⟨b1,by rw[b2,kU,kU,lT,HS],b3,?_,⟨λo ho=>?_,λc2 e2 fz hq=>?_,λo u hq=>?_,λmY c2 e2 fz hq=>?_⟩,λj u hj=>?_⟩
    ·rw[lz]at b4 ⊢;simp only[jK]at b4 ⊢;refine⟨j9.2 λu hu=>?_,b4.2⟩;obtain⟨l,hl,hu⟩:=ny.1 hu;obtain⟨p,_,rfl⟩:=qJ.1 hl;exact j9.1 (h1 p.1.1) u hu
    ·rw[hfW,OJ];refine⟨?_,(b5 o ho).2⟩
     split
     ·rfl
     ·exact(b5 o ho).1
    ·rw[KQ]at hq;simp only[km,Obj.cells.injEq]at hq;obtain⟨_,_,rfl⟩:=hq;exact b6.1 _ _ _ uK
    ·rw[OJ]at hq
     split at hq
     ·obtain rfl:=iK hq;rename_i ho;obtain⟨u',ze⟩:∃u',((S.map λp=>p.1.2).flatten)[o-i.base]? =some u':=by
       have:=(Oe enc S).1;rw[HS]at this;exact⟨_,jx (by rw[←this];omega)⟩
      rw[(Of hk hz S ze).2];exact(Oe enc S).one (j9.2 λx hx=>by
       obtain⟨l,hl,hx⟩:=ny.1 hx;obtain⟨p,_,rfl⟩:=qJ.1 hl;exact j9.1 (h1 p.1.1) x hx) _ (pH ze)
     ·exact b6.2.1 o u hq
    ·rw[KQ]at hq;simp only[km,Obj.cells.injEq]at hq;obtain⟨_,_,rfl⟩:=hq;exact b6.2.2 mY _ _ _ uK
    ·rw[OJ]
     by_cases nT:j<xs.length*z
     ·rw[mU (by rw[HS];exact nT)]at hj;obtain⟨u',p1,p2⟩:=(Oe enc S).at hj;rw[if_pos ⟨by omega,by omega⟩,Nat.add_sub_cancel_left,(Of hk hz S p1).2];exact⟨u',rfl,p2⟩
     ·rw[nq (by rw[HS];omega),HS]at hj;rw[if_neg (by omega)];exact b7 j u (by rw[nq (by rw[lT];omega),lT];exact hj)
   ·rename_i jw;cases hl:B.IA with
    |true=>exact(r.kG b' i' B e q).congr (Ren.le.refl _) (hW _ (r.nv b' i' e).2 (ab8 b' i' e jw B q hl))
    |false=>cases B<;>first|trivial|cases hl
  ·have cv:∀x,live (h.set b (.cells z ((S.map λp=>(enc p.1.1).1).flatten++rest))) x→live h x:=λx ⟨B,p1,p2⟩=>by
    rw[Hp.jv]at p1
    split at p1
    ·rename_i hx;exact⟨_,hx▸tg,rfl⟩
    ·exact⟨B,p1,p2⟩
   have co:∀x,own (h.set b (.cells z ((S.map λp=>(enc p.1.1).1).flatten++rest))) x→own h x:=λx ⟨B,p1,p2⟩=>by
    rw[Hp.jv]at p1
    split at p1
    ·rename_i hx;exact⟨_,hx▸tg,rfl⟩
    ·exact⟨B,p1,p2⟩
   exact r.inj YA YB i1 i2 e1 e2 (cv _ l1) (co _ l2) q
  ·have tU:h.next≤b':=hn;rw[Hp.jv,if_neg (by omega)];exact r.wf b' tU
  ·rw[Hp.jv,if_neg (λq=>by rw[q,hb]at jM;cases jM)]
  ·have:own h b':=by
    obtain⟨B,p1,p2⟩:=o;rw[Hp.jv]at p1
    split at p1
    ·rename_i hx;exact⟨_,hx▸tg,rfl⟩
    ·exact⟨B,p1,p2⟩
   exact kK b' i' e this
  ·show w.drawn≤w.drawn+n;omega
 match nP,hr with
 | [u,v],hr =>
  have hu:=hr.head;have hv:=hr.tail.head;cases hv with
  | @f _ _ vs hl _ =>
   have:vs=[]:=nK hl.symm;subst this;generalize Cap.of z k=cp at hu;cases hu with
   |sk hb _=>exact main _ _ hb
   |so hb _ _ _=>exact main _ _ hb
 |[],hr=>exact absurd hr.1 (by simp)
 |[_],hr=>exact absurd hr.1 (by simp)
 |_::_::_::_,hr=>exact absurd hr.1 (by simp)
end
end
end Go.V
end
section
namespace Go.Wk
open Go.Shelf Go.Sort Go.Lib Go.Proofs
section
variable{α:Type}
def ins(cf:α→α→Int)(x:α):List α→List α
 |[]=>[x]
 |y::l=>if cf x y<0 then x::y::l else y::ins cf x l
def xk(cf:α→α→Int)(l:List α):List α:=l.foldr (ins cf) []
theorem Vl(cf:α→α→Int)(x:α)(l:List α):(ins cf x l).Perm (x::l):=by
 induction l with
 |nil=>exact JH _
 |cons y l ih =>
  unfold ins
  split
  ·exact JH _
  ·exact(RP y ih).trans (List.Perm.swap x y l)
theorem Gg(cf:α→α→Int)(l:List α):(xk cf l).Perm l:=by
 induction l with
 |nil=>exact JH _
 |cons x l ih=>exact(Vl cf x _).trans (RP x ih)
theorem adF(cf:α→α→Int)(l:List α):(xk cf l).length=l.length:=(Gg cf l).length_eq
theorem PI{cf:α→α→Int}{l:List α}{x:α}:x∈xk cf l↔x∈l:=(Gg cf l).mem_iff
def xJ(cf:α→α→Int)(l:List α):Prop:=l.Pairwise λx y=>¬cf y x<0
theorem adC{cf:α→α→Int}(hO:SWO (ltOf cf))(x:α)(l:List α)(h:xJ cf l):xJ cf (ins cf x l):=by
 induction l with
 |nil=>simp[ins,xJ]
 | cons y l ih =>
  have h':=zP.1 h;unfold ins
  split
  ·rename_i Ea;refine zP.2 ⟨λz hz hzx=>?_,h⟩;have e1:ltOf cf x y=true:=by simpa[ltOf]using Ea
   have e2:ltOf cf z x=true:=by simpa[ltOf]using hzx
   have e3:=hO.trans z x y e2 e1;have e3':cf z y<0:=by simpa[ltOf]using e3
   rcases lM.1 hz with rfl|hz
   ·have:=hO.irrefl z;rw[e3]at this;cases this
   ·exact h'.1 z hz e3'
  ·rename_i Ea;refine zP.2 ⟨λz hz=>?_,ih h'.2⟩;rcases lM.1 ((Vl cf x l).mem_iff.1 hz)with rfl|hz
   ·exact Ea
   ·exact h'.1 z hz
theorem Pr{cf:α→α→Int}(hO:SWO (ltOf cf))(l:List α):xJ cf (xk cf l):=by
 induction l with
 |nil=>exact List.Pairwise.nil
 |cons x l ih=>exact adC hO x _ ih
theorem Wi{cf:α→α→Int}(hT:∀x y,ltOf cf x y=false→ltOf cf y x=false→x=y){a b:List α}(h1:xJ cf a)(h2:xJ cf b)(hp:a.Perm b):a=b :=
 List.Perm.eq_of_pairwise (le:=λx y=>¬cf y x<0) (λx y _ _ h3 h4=>hT x y (by simpa[ltOf]using h4) (by simpa[ltOf]using h3)) h1 h2 hp
end
theorem Jb:∀(x y:List UInt8),jt x y=decide (x<y)
 |[],[]=>by simp[jt,wF]
 |_::_,[]=>by simp[jt,wF]
 |[],_::_=>by simp[jt,wF]
 |a::x,b::y=>by
  have h:=Jb x y;rw[jt]at h ⊢;rw[wF,h];simp only[List.cons_lt_cons_iff]
  by_cases h1:a<b<;>by_cases h2:a=b<;>by_cases h3:x<y<;>simp[h1,h2,h3]
theorem AI(x:List UInt8):jt x x=false:=by rw[Jb];simp[List.lt_irrefl]
theorem xt{x y z:List UInt8}(h1:jt x y=true)(h2:jt y z=true):jt x z=true:=by
 rw[Jb,decide_eq_true_eq]at *;exact List.lt_trans h1 h2
theorem C0{x y:List UInt8}(h1:jt x y=false)(h2:jt y x=false):x=y:=by
 rw[Jb,decide_eq_false_iff_not,List.not_lt]at *;exact List.le_antisymm h2 h1
theorem Wv{x y:List UInt8}(h1:jt x y=true):jt y x=false:=by
 cases h:jt y x with
 |false=>rfl
 |true=>have:=xt h1 h;rw[AI]at this;cases this
theorem FC(a b:List UInt8):ltOf oR a b=jt a b:=by
 simp only[ltOf,oR]
 by_cases h:jt a b=true
 ·simp[h]
 ·by_cases h2:jt b a=true<;>simp[h,h2]
theorem QS:SWO jt:=⟨AI,λ_ _ _=>xt,λx y z h1 h2=>by
 rw[Jb,decide_eq_false_iff_not,List.not_lt]at *;exact List.le_trans h2 h1⟩
theorem ah6{α:Type}{cf:α→α→Int}{f:α→List UInt8}(h:∀x y,ltOf cf x y=jt (f x) (f y)):SWO (ltOf cf) :=
 ⟨λx=>by rw[h];exact QS.irrefl _,λx y z h1 h2=>by rw[h]at *;exact QS.trans _ _ _ h1 h2,λx y z h1 h2=>by rw[h]at *;exact QS.ntrans _ _ _ h1 h2⟩
theorem On(a b:List UInt8):(!(jt a b||a==b))=jt b a:=by
 cases h:jt a b with
 |true=>rw[Wv h];rfl
 | false =>
  cases h2:jt b a with
  |true =>
   have:a≠b:=by intro e;subst e;rw[AI]at h2;cases h2
   simp[this]
  |false=>have:=C0 h h2;simp[this]
end Go.Wk
end
section
namespace Go.V
open Go.Wk Go.Sort Go.Proofs
section
variable{α:Type}{t:To α}{F:gL}{h:Hp}
abbrev Fc(t:To α)(F:gL)(h:Hp):={ p:Cl t.size×List Nat×α //t.rel F h p.2.1 p.1.1 p.2.2 }
theorem elems:∀{css:List (Cl t.size)}{bss:List (List Nat)}{xs:List α},mm t F h css bss xs → ∃ds:List (Fc t F h),ds.map (λp=>p.1.1)=css∧ds.map (λp=>p.1.2.1)=bss∧ds.map (λp=>p.1.2.2)=xs
 |[],[],[],_=>⟨[],rfl,rfl,rfl⟩
 |c::css,e::bss,x::xs,r=>by
  obtain⟨ds,h1,h2,h3⟩:=elems (css:=css) (bss:=bss) (xs:=xs) ⟨by simpa using r.mr,by simpa using r.og,λi d x e q1 q2 q3=>r.rel (i+1) d x e (by simpa using q1) (by simpa using q2) (by simpa using q3)⟩;exact⟨⟨(c,e,x),r.rel 0 c x e rfl rfl rfl⟩::ds,by simp[h1],by simp[h2],by simp[h3]⟩
 |[],_::_,_,r=>by have:=r.mr;have:=r.og;simp at *;omega
 |[],[],_::_,r=>by have:=r.mr;simp at this
 |_::_,[],_,r=>by have:=r.mr;have:=r.og;simp at *;omega
 |_::_,_::_,[],r=>by have:=r.mr;simp at this
theorem aaC(ds:List (Fc t F h)):mm t F h (ds.map λp=>p.1.1) (ds.map λp=>p.1.2.1) (ds.map λp=>p.1.2.2) :=
 ⟨by simp,by simp,λi d x e q1 q2 q3=>by
  simp only[sF,jR]at q1 q2 q3;obtain⟨p,hp,rfl⟩:=q1;obtain⟨p2,uO,rfl⟩:=q2;obtain⟨p3,UY,rfl⟩:=q3;rw[hp]at uO UY;obtain rfl:=iK uO;obtain rfl:=iK UY;exact p.2⟩
theorem afj{β:Type}{a b:List (List β)}(p:a.Perm b):a.flatten.Perm b.flatten:=by
 induction p with
 |nil=>exact JH _
 |cons x _ ih=>simpa using ih.append_left x
 |swap x y l=>simp only[o7,←pG];exact List.Perm.append_right _ List.perm_append_comm
 |trans _ _ tY qB=>exact tY.trans qB
end
theorem ah0{P:iY}{K K0:Tb}{α:Type}{t:To α}{tr:Tr α}{f g z:Nat}{cf:α→α→Int}{fn:Func}{c:Code}(hK:∀args h M,Fh P K0 f z f args h M→K f args h M)(hz:t.size=z)(po:0<z)(hs:zW t tr)(hO:SWO (ltOf cf))(xc:P.funcs[g]? =some fn)(pg:fn.body=some c)(FT:fn.name ≠ "runtime.NumGoroutine")
  (h0:∀a k w,iN P K f [.sl a 0 k,.f g []] w λu w'=>u = .kx []∧w'=w)
  (HZ:∀G h' cs x ds y,Gd G h'→tr.rel G cs x→tr.rel G ds y→iN P K0 g [.agg cs,.agg ds] h' λv _=>v = .i .i64 (cf x y))
  {F:gL} {w:Hp} {bs:List Nat} {v:gE} {xs:List α} (hS:St bs w F F [.dp t bs v xs] w):iN P K f [v,.f g []] w λu w'=>u = .kx [] ∧ ∃l' kE,l'.Perm xs∧xJ cf l'∧St bs w F F [.dp t kE v l'] w':=by
 subst hz;have Vo:∀a k,v = .sl a 0 k→xs=[]→iN P K f [v,.f g []] w λu w'=>u = .kx [] ∧ ∃l' kE,l'.Perm xs∧xJ cf l'∧St bs w F F [.dp t kE v l'] w':=λa k hv hx=>by
  subst hv;subst hx;refine(h0 a k w).mono λu w' ⟨q1,q2⟩=>⟨q1,[],bs,JH _,List.Pairwise.nil,by rw[q2];exact hS⟩
 obtain⟨v0,lK,r⟩:=hS.ok (i:=0) rfl;obtain rfl:=sG lK;rcases r with⟨rfl,yi,_⟩|⟨b,cl,k,css,bss,r⟩
 ·exact Vo _ _ rfl yi
 ·have hf:v = .sl (some (b,0)) xs.length (.of t.size k):=r.form
  by_cases hx:xs.length=0
  ·exact Vo _ _ (by rw[hf,hx]) (nK hx)
  have hE:mm t F w css bss xs:=⟨r.mr,r.og,r.rel⟩
  obtain⟨ds,d1,d2,d3⟩:=elems hE;have uJ:ds.length=xs.length:=by rw[←d3,sH]
  have DV:bs=b::bss.flatten:=r.vr;have uN:bs.Nodup:=r.nodup;rw[DV]at uN;obtain⟨rk,rN⟩:=tH.1 uN;have hblk:w.get b=some (.cells t.size cl):=r.kG;have lT:cl=((ds.map λp=>p.1.1.1).flatten)++cl.drop (xs.length*t.size):=by
   have h1:cl.take (xs.length*t.size)=(ds.map λp=>p.1.1.1).flatten:=by
    have:=r.cells;rw[←d1,yH]at this;exact this
   rw[←h1,u7]
  have hFb:∀o,F b o=none:=(hS.own 0 _ rfl).2 b (by show b∈bs;rw[DV];simp) |>.1;have hEb:∀p:Fc t F w,p∈ds → ∀q,q∈p.1.2.1→q∈bss.flatten:=λp hp q hq=>ny.2 ⟨p.1.2.1,by rw[←d2];exact Dv hp,hq⟩;rw[hf];obtain⟨p0,hp0⟩:∃p0,ds[0]? =some p0:=⟨_,jx (by omega)⟩
  let β:={ p:Fc t F w //p∈ds }
  have Us:(ds.attach.map λp=>p.1)=ds:=List.attach_map_subtype_val ds;have OD:ds.attach.length=xs.length:=by rw[List.length_attach,uJ]
  have hKs:Fh P K0 f t.size f [.sl (some (b,0)) xs.length (.of t.size k),.f g []] w λu w'=>u = .kx [] ∧ ∃l' kE,l'.Perm xs∧xJ cf l'∧St bs w F F [.dp t kE (.sl (some (b,0)) xs.length (.of t.size k)) l'] w':=by
   refine⟨rfl,β,⟨p0,pH hp0⟩,λp=>p.1.1.1,λp q=>cf p.1.1.2.2 q.1.1.2.2,ds.attach,g,b,k,cl.drop (xs.length*t.size),fn,c,by rw[OD],?_,by rw[OD];omega,by rw[OD];exact r.tc,po,⟨λx=>hO.irrefl _,λx y z=>hO.trans _ _ _,λx y z=>hO.ntrans _ _ _⟩,λx=>t.one x.1.2,xc,pg,FT,λx y h' hw hh=>?_,λS hp hr=>?_⟩
   ·rw[hblk];have e:(ds.attach.map λx:β=>x.1.1.1.1).flatten=(ds.map λp=>p.1.1.1).flatten:=by
     conv=>rhs;rw[←Us]
     rw[yH];rfl
    rw[e,←lT]
   ·have hG:Gd (λq o=>if q=b then none else lP w q o) h':=⟨hw,λq o u e=>by
     by_cases hq:q=b
     ·rw[if_pos hq]at e;cases e
     ·rw[if_neg hq]at e;exact hh q o u hq e⟩
    have hl:F.le λq o=>if q=b then none else lP w q o:=λq o u e=>by
     by_cases hq:q=b
     ·rw[hq,hFb]at e;cases e
     ·show(if q=b then none else lP w q o)=some u;rw[if_neg hq];exact hS.agree q o u e
    have nE:∀p:β,tr.rel (λq o=>if q=b then none else lP w q o) p.1.1.1.1 p.1.1.2.2:=λp=>hs.rel p.1.2 hl λq hq o u e=>by
     show(if q=b then none else lP w q o)=some u;have vz:q≠b:=λz=>rk (by rw[←z];exact hEb p.1 p.2 q hq);rw[if_neg vz];exact e
    exact HZ _ _ _ _ _ _ hG (nE x) (nE y)
   ·have D7:(S.map λp=>p.1).Perm ds:=by have:=hp.map (λp:β=>p.1);rw[Us]at this;exact this
    generalize hT:(S.map λp=>p.1)=T at D7;have Uo:T.length=xs.length:=by rw[D7.length_eq,uJ]
    have hTr:(T.map λp=>p.1.2.2).Pairwise λx y=>¬cf y x<0:=by
     rw[←hT,yH,E6];exact hr
    have hTc:(S.map λx:β=>x.1.1.1.1).flatten=(T.map λp=>p.1.1.1).flatten:=by rw[←hT,yH];rfl
    rw[hTc];have KP:=aaC T;have KR:(T.map λp=>p.1.2.1).flatten.Perm bss.flatten:=by rw[←d2];exact afj (D7.map _)
    have Ib:(T.map λp=>p.1.2.2).length=xs.length:=by rw[sH,Uo]
    have OP:((T.map λp=>p.1.1).map kg).flatten=(T.map λp=>p.1.1.1).flatten:=by rw[yH];rfl
    have pB:((T.map λp=>p.1.1.1).flatten).length=xs.length*t.size:=by rw[←OP,vq,sH,Uo]
    have Uy:cl.length=xs.length*t.size+(cl.drop (xs.length*t.size)).length:=by
     conv=>lhs;rw[lT]
     rw[kU]
     congr 1
     have:=vq (ds.map λp=>p.1.1);rw[yH,sH,uJ]at this;exact this
    have OX:w.next≤(w.set b (.cells t.size ((T.map λp=>p.1.1.1).flatten++cl.drop (xs.length*t.size)))).next:=jg _;have FZ:∀q,q≠b→(w.set b (.cells t.size ((T.map λp=>p.1.1.1).flatten++cl.drop (xs.length*t.size)))).get q=w.get q:=λq hq=>by rw[Hp.jv,if_neg hq]
    have hR:Ci t F (w.set b (.cells t.size ((T.map λp=>p.1.1.1).flatten++cl.drop (xs.length*t.size)))) (b::(T.map λp=>p.1.2.1).flatten) (.sl (some (b,0)) xs.length (.of t.size k)) (T.map λp=>p.1.2.2) b ((T.map λp=>p.1.1.1).flatten++cl.drop (xs.length*t.size)) k (T.map λp=>p.1.1) (T.map λp=>p.1.2.1):=by
     refine⟨by rw[Ib],by rw[Hp.jv,if_pos rfl],r.lt,KP.mr,KP.og,λi d x e q1 q2 q3=>?_,?_,λq=>?_,λm q=>?_,by rw[Ib];exact r.tc,?_,rfl,?_⟩
     ·refine t.frame (KP.rel i d x e q1 q2 q3) OX λq hq=>FZ q λz=>rk ?_;rw[←z];exact KR.mem_iff.1 (ny.2 ⟨e,pH q3,hq⟩)
     ·rw[Ib,←pB,MX,OP]
     ·rw[Ib,kU,pB,←Uy];exact r.Az q
     ·rw[Ib,kU,pB,←Uy];exact r.cap m q
     ·have h1:=KP.xL;rw[OP]at h1;have h2:(cl.drop (xs.length*t.size)).all gE.one=true:=j9.2 λx hx=>j9.1 r.one x (sI hx);rw[lz,h1,h2];rfl
     ·exact tH.2 ⟨λq=>rk (KR.mem_iff.1 q),KR.nodup_iff.2 rN⟩
    have hpx:(T.map λp=>p.1.2.2).Perm xs:=by
     have:=D7.map λp:Fc t F w=>p.1.2.2;rw[d3]at this;exact this
    refine⟨rfl,(T.map λp:Fc t F w=>p.1.2.2:List α),b::(T.map λp=>p.1.2.1).flatten,hpx,hTr,?_⟩;have pf:=hS;rw[hf]at pf;have:=pf.pE (i:=0) (o':=.dp t (b::(T.map λp=>p.1.2.1).flatten) (.sl (some (b,0)) xs.length (.of t.size k)) (T.map λp=>p.1.2.2)) rfl ⟨_,rfl,.inr ⟨_,_,_,_,_,hR⟩⟩ OX (λq hq=>by rw[Hp.jv,if_neg (by have:=r.lt;have ss:w.next≤q:=hq;omega)];exact hS.wf q hq) (λq hq hn=>FZ q λz=>hn (by show q∈bs;rw[DV,z];simp)) (λq hq=>.inl (by
     show q∈bs;rw[DV];rcases lM.1 hq with z|z
     ·rw[z];simp
     ·exact mV _ (KR.mem_iff.1 z)))
    simpa using this
  exact .known (hK _ _ _ hKs) λu w' m=>⟨u,w',rfl,m⟩
end Go.V
end
section
namespace Go.Wk
def Ev(x n:Int):Option Int:=if 0≤n∧n≤64 then some (x/2^n.toNat)else none
theorem agQ{x n r:Int}(h:Ev x n=some r):0≤n∧n≤((yE.bits:Nat):Int)∧r=x/2^n.toNat:=by
 unfold Ev at h;split at h
 ·rename_i hc;exact⟨hc.1,hc.2,(iK h).symm⟩
 ·cases h
def cat(a b:List UInt8):Option (List UInt8):=if a.length+b.length≤1073741824 then some (a++b)else none
theorem Zn{a b r:List UInt8}(h:cat a b=some r):a.length+b.length≤1073741824∧r=a++b:=by
 unfold cat at h;split at h
 ·rename_i hc;exact⟨hc,(iK h).symm⟩
 ·cases h
def DE(xs:List UInt8):Option (List UInt8):=if 32≤xs.length∧xs.length≤1073741824 then some (xs.take 32)else none
theorem SQ{xs r:List UInt8}(h:DE xs=some r):32≤xs.length∧r=xs.take 32:=by
 unfold DE at h;split at h
 ·rename_i hc;exact⟨hc.1,(iK h).symm⟩
 ·cases h
theorem Yx{xs r:List UInt8}(h:DE xs=some r):r.length=32:=by
 obtain⟨h1,rfl⟩:=SQ h;simp;omega
end Go.Wk
namespace Go.V
open Go.Wk
def cB(b:UInt8):gE:=.i .u8 b.toNat
def iJ(x:List UInt8):List gE:=(mI 32).map λi=>.i .u8 ((x.getD i 0).toNat:Int)
theorem BG(x:List UInt8):(iJ x).length=32:=by simp[iJ]
theorem Ge(x:List UInt8):(iJ x).all gE.one=true:=by simp[iJ,gE.one]
theorem Iu{x:List UInt8}(h:x.length=32):iJ x=x.map cB:=by
 apply JJ
 ·simp[iJ,h]
 ·intro i h1 h2;have hi:i<x.length:=by simpa[iJ,h]using h1
  simp[iJ,cB,hi]
theorem adl{x:List UInt8}(h:x.length=32){i:Nat}{b:UInt8}(hb:x[i]? =some b):(iJ x)[i]? =some (.i .u8 (b.toNat:Int)):=by
 rw[Iu h];simp[hb,cB]
def lV:Tr (List UInt8):=⟨32,λ_ cs x=>cs=iJ x∧x.length=32,by decide,λh=>by rw[h.1,BG],λh=>by rw[h.1,Ge],λ_ h=>h⟩
section
variable{P:iY}{t:iA}{k:pQ}{a b:Int}{x y:List UInt8}
theorem mR{op:BinOp}(h:op = .and∨op = .or∨op = .xor):kJ P op t (.i k a) (.i k b)=some (.i k (bits op k a b)):=by
 rcases h with rfl|rfl|rfl<;>simp only[kJ,if_pos]<;>rfl
theorem Hr{j:pQ}(h0:0≤b)(h1:b≤(k.bits:Nat)):kJ P .shl t (.i k a) (.i j b)=some (.i k (k.wrap (a*2^b.toNat))):=by
 simp only[kJ,GD];rw[if_neg (by omega),xG (by omega)]
theorem vh{j:pQ}(h0:0≤b)(h1:b≤(k.bits:Nat)):kJ P .shr t (.i k a) (.i j b)=some (.i k (a/2^b.toNat)):=by
 simp only[kJ,GD];rw[if_neg (by omega),xG (by omega),Int.fdiv_eq_ediv_of_nonneg _ (Int.le_of_lt (Int.pow_pos (by decide)))]
theorem YE{r:List UInt8}(h:cat x y=some r):kJ P .add t (.s x) (.s y)=some (.s r):=by
 obtain⟨h1,rfl⟩:=Zn h;simp only[kJ,Md];rw[if_pos (by omega)]
def HH(P:iY)(t:iA):Option (List tF):=match P.underlying t with
 |some (.struct _)|some (.array _ _)=>if P.eqGuardType P.depth t then none else HN P t
 |_=>none
theorem z7{l:List tF}{xs ys:List gE}{q:Bool}(h:HH P t=some l)(hx:pY l xs=true)(hy:pY l ys=true)(he:sS xs ys=q):kJ P .eql t (.agg xs) (.agg ys)=some (.b q):=by
 subst he;unfold HH at h
 split at h
 ·rename_i hu
  split at h
  ·cases h
  ·rename_i hg;simp only[kJ,vm,hu,h];rw[if_pos (by simp[hx,hy,hg])];rfl
 ·rename_i hu
  split at h
  ·cases h
  ·rename_i hg;simp only[kJ,vm,hu,h];rw[if_pos (by simp[hx,hy,hg])];rfl
 ·cases h
theorem Ns{l:List tF}{xs ys:List gE}{q:Bool}(h:HH P t=some l)(hx:pY l xs=true)(hy:pY l ys=true)(he:sS xs ys=q):kJ P .neq t (.agg xs) (.agg ys)=some (.b (!q)):=by
 have h2:=z7 h hx hy he;simp only[kJ,jR]at h2 ⊢;obtain⟨a,h3,h4⟩:=h2;exact⟨a,h3,by cases h4;rfl⟩
theorem TT:∀(x y:List UInt8),sS (x.map cB) (y.map cB)=decide (x=y)
 |[],[]=>rfl
 |[],_::_=>rfl
 |_::_,[]=>rfl
 | a::x,b::y=>by
  simp only[qI,sS,TT x y,cB,uG,EU,Bool.decide_and]
  congr 1
  have:((a.toNat:Int)==(b.toNat:Int))=decide (a=b):=by
   by_cases h:a=b
   ·subst h;simp
   ·have:a.toNat≠b.toNat:=λe=>h (UInt8.toNat_inj.1 e);simp[h];omega
  rw[this];simp
theorem Af{x y:List UInt8}(hx:x.length=32)(hy:y.length=32):sS (iJ x) (iJ y)=decide (x=y):=by
 rw[Iu hx,Iu hy,TT]
end
def rB(F:gL)(g:Nat)(cs:List gE):Prop:=∀(o:Nat)(u:gE),cs[o]? =some u→F g o=some u
theorem rB.mono{F G:gL}{g:Nat}{cs:List gE}(h:rB F g cs)(l:F.le G):rB G g cs:=λo u hu=>l _ _ _ (h o u hu)
def gL.hold(F:gL)(w:Hp)(bs:List Nat):gL:=λb o=>match F b o with|some u=>some u|none=>if b∈bs then lP w b o else none
theorem gL.Iy(F:gL)(w:Hp)(bs:List Nat):F.le (F.hold w bs):=λb o u e=>by unfold gL.hold;rw[e]
theorem gL.acM{F G:gL}{w:Hp}{bs:List Nat}(l:F.le G)(hn:∀g,g∈bs → ∀q,G g q=none):(F.hold w bs).le (G.hold w bs):=λb o u e=>by
 unfold gL.hold at e ⊢;cases hF:F b o with
 |some u'=>rw[hF]at e;rw[l _ _ _ hF];exact e
 |none =>
  rw[hF]at e;simp only at e
  split at e
  ·rename_i hb;rw[hn b hb o];simp only;rw[if_pos hb];exact e
  ·cases e
def A2(w:Hp)(g:Nat)(cs:List gE):Prop:=w.get g=some (.cells cs.length cs)
def HB(F:gL)(w h:Hp)(bs:List Nat):Prop:=∀g,g∈bs→(∀q,F g q=none) ∧ ∀o u,lP w g o=some u→lP h g o=some u
section
variable{X:List Nat}{h0 h w:Hp}{F0 F:gL}{L:List Ob}{g:Nat}{cs:List gE}{bs:List Nat}
theorem St.mC(k:Nat)(s:St X h0 F0 F L h)(hk:L[k]? =some (.box g cs)):A2 h g cs:=(s.Fw k hk).1
theorem HB.nil:HB F w h []:=λg hg=>by cases hg
theorem HB.cons(k:Nat)(b:A2 w g cs)(s:St X h0 F0 F L h)(hk:L[k]? =some (.box g cs))(r:HB F w h bs):HB F w h (g::bs):=λg' pV=>by
 rcases lM.1 pV with rfl|pV
 ·refine⟨λq=>((s.own k _ hk).2 g' (by simp[Ob.box])).1 q,λo u e=>?_⟩;have h1:=(s.Fw k hk).1;have b':w.get g'=_:=b;unfold lP at e ⊢;rw[b']at e;rw[h1];exact e
 ·exact r g' pV
theorem HB.agree(r:HB F w h bs)(a:Agree F h):Agree (F.hold w bs) h:=λb o u e=>by
 unfold gL.hold at e;cases hF:F b o with
 |some u'=>rw[hF]at e;obtain rfl:=iK e;exact a _ _ _ hF
 |none =>
  rw[hF]at e;simp only at e
  split at e
  ·rename_i hb;exact(r b hb).2 o u e
  ·cases e
theorem HB.le{F':gL}(r:HB F' w h bs)(l:F.le F'):(F.hold w bs).le (F'.hold w bs):=gL.acM l λg hg q=>(r g hg).1 q
theorem A2.held(b:A2 w g cs)(r:HB F w h bs)(hg:g∈bs):rB (F.hold w bs) g cs:=λo u hu=>by
 unfold gL.hold;rw[(r g hg).1 o];simp only;rw[if_pos hg];have b':w.get g=_:=b;unfold lP;rw[b'];exact hu
theorem St.Cw(k:Nat)(is:List Nat)(s:St X h0 F0 F L h)(hk:L[k]? =some (.box g cs))(kV:is.Nodup)(vy:k∉is) :
  ∃F',F.le F'∧rB F' g cs∧St X h0 F0 F' (is.filterMap λi=>L[i]?) h:=by
 have hp:=s.pick (k::is) (tH.2 ⟨vy,kV⟩);have e:((k::is).filterMap λi=>L[i]?)=Ob.box g cs::is.filterMap λi=>L[i]?:=by simp[hk]
 rw[e]at hp;have hf:=hp.freeze (i:=0) rfl;have hle:=gL.LJ (h:=h) (hp.PW (i:=0) rfl);refine⟨_,hle,λo u hu=>?_,by simpa using hf⟩;unfold gL.plus;rw[if_pos (by simp[Ob.box])];exact NA s hk hu
end
section
variable{P:iY}{G:gL}{E:EL}
theorem qo{t:iA}{x:iT}{g o:Nat}{cs:List gE}{u:gE}(ht:lG P t=some false)(hx:iP E x=some (pl g o))(hb:rB G g cs)(hu:cs[o]? =some u):Rd P G E (.load t x) u:=by
 refine⟨rfl,λh2 ha=>?_⟩;have:=ha _ _ _ (hb _ _ hu);simp only[jS,hx,jy];rw[Px ht (Eo (c:=[u]) rfl (by decide) λj w hj=>by
  cases j with
  |zero=>simp at hj;subst hj;exact this
  |succ j=>simp at hj)]
 rfl
theorem A4{t:iA}{x:iT}{g o:Nat}{cs:List gE}(cs':List gE)(ht:lG P t=some true)(hz:sz P t=some cs'.length)(hp:0<cs'.length)(hx:iP E x=some (pl g o))(hb:rB G g cs)(mX:∀(q:Nat)(u:gE),cs'[q]? =some u→cs[o+q]? =some u):Rd P G E (.load t x) (.agg cs'):=by
 refine⟨rfl,λh2 ha=>?_⟩;simp only[jS,hx,jy];rw[Ix ht hz (Eo (c:=cs') rfl hp λj w hj=>ha _ _ _ (hb _ _ (mX j w hj)))];rfl
theorem ND:∀xs:List UInt8,yO (xs.map cB)=some xs
 |[]=>rfl
 |b::xs=>by simp[yO,cB,ND xs]
theorem Mg{F:gL}:∀{css:List (Cl tB.size)}{xs:List UInt8},qL tB F css xs→(css.map kg).flatten=xs.map cB
 |[],[],_=>rfl
 |[],_::_,h=>by simp[qL]at h
 |_::_,[],h=>by simp[qL]at h
 |d::css,b::xs,⟨h1,h2⟩=>by
  have e:d.1=[cB b]:=h2 0 d b rfl rfl;have ih:=Mg (F:=F) (css:=css) (xs:=xs) ⟨by simpa using h1,λi d x q1 q2=>h2 (i+1) d x (by simpa using q1) (by simpa using q2)⟩;simp only[qI,o7,ih,e];rfl
theorem Nc{src dst e:iA}{x:iT}{v:gE}{xs:List UInt8}(hs:P.underlying src=some (.slice e))(he:P.underlying e=some (.int .u8))(hd:P.underlying dst=some .string)(hx:iP E x=some v)(hv:iq tB G v xs):Rd P G E (.convert src dst x) (.s xs):=by
 refine⟨by simp[kz,Bi,hs,hd],λh ha=>?_⟩;obtain⟨css,h1,h2⟩:=hv;have h3:=(h2.mono (G:=kq h) ha)
 obtain⟨_,h4⟩:=h3.first (by decide)
 have hc:=Mg h1;rw[hc]at h4;rcases h2 with⟨rfl,rfl⟩|⟨a,c,rfl,_,_,e4,_⟩
 ·have:xs=[]:=nK h1.1.symm;subst this;simp only[jS,hx,jy,qQ,hs,hd,GK,he,if_true]
 ·cases a with
  |none =>
   have h5:=(e4 rfl).1;have:xs=[]:=nK (by rw[←h1.1,h5];rfl);subst this;simp only[jS,hx,jy,qQ,hs,hd,GK,he,if_true]
  | some a =>
   obtain⟨b,o⟩:=a;have h6:(if css.length=0 then some []else rd h b o css.length)=some (xs.map cB):=by
    have:tB.size=1:=rfl;simp only[oL,this,MZ]at h4;exact h4
   simp only[jS,hx,jy,qQ,hs,hd,he];rw[h6];simp only[jy,ND,lE]
theorem WV{F:gL}{b o:Nat}{x:List UInt8}(hl:x.length=32)(hc:∀(q:Nat)(u:gE),(iJ x)[q]? =some u→F b (o+q)=some u):iq tB F (.sl (some (b,o)) 32 (.k 32)) x:=by
 rw[Iu hl]at hc;refine⟨x.map λc=>⟨[cB c],rfl⟩,⟨by simp,λi d y q1 q2=>?_⟩,.inr ⟨some (b,o),some 32,by simp[hl],by simp[hl,maxLen],λk hk=>by obtain rfl:=iK hk;simp[hl],λq=>(by cases q),λb' o' pA i d j u q1 q2=>?_⟩⟩
 ·rw[sF,q2]at q1;obtain rfl:=iK q1;rfl
 ·simp only[km,jT]at pA;obtain⟨rfl,rfl⟩:=pA;rw[sF]at q1;obtain⟨c,h1,rfl⟩:=jR.1 q1;cases j with
  |succ j=>simp at q2
  |zero =>
   simp at q2;subst q2;have:=hc i (cB c) (by rw[sF,h1];rfl);simpa[tB]using this
theorem Sx{t e:iA}{x:iT}{b o:Nat}(ht:P.underlying t=some (.array 32 e))(hz:sz P e=some 1)(hx:iP E x=some (pl b o)):Rd P G E (.slice t x none none none) (.sl (some (b,o)) 32 (.k 32)):=by
 refine⟨rfl,λh _=>?_⟩;have n0:xa E none=some none:=rfl;simp only[jS,hx,n0,jy,ry,ht,hz];rfl
theorem CJ{cs:List gE}{o i:Nat}{x:List UInt8}{c:UInt8}(mX:∀(q:Nat)(u:gE),(iJ x)[q]? =some u→cs[o+q]? =some u)(hl:x.length=32)(hc:x[i]? =some c):cs[o+i]? =some (.i .u8 (c.toNat:Int)):=mX _ _ (adl hl hc)
theorem XQ{t:iA}{x:iT}{b o:Nat}{r:List UInt8}(ht:lG P t=some true)(hz:sz P t=some 32)(hx:iP E x=some (pl b o))(hc:∀(q:Nat)(u:gE),(iJ r)[q]? =some u→G b (o+q)=some u):Rd P G E (.load t x) (.agg (iJ r)):=by
 refine⟨rfl,λh2 ha=>?_⟩;simp only[jS,hx,jy];rw[Ix ht hz (Eo (c:=iJ r) (BG r) (by decide) λj w hj=>ha _ _ _ (hc j w hj))];rfl
end
end Go.V
end
section
namespace Go.Wk
def PO{κ ν:Type}:κ→Option ν:=λ_=>none
def Av{κ ν:Type}[DecidableEq κ](m:κ→Option ν)(k:κ)(v:ν):κ→Option ν:=λj=>if j=k then some v else m j
end Go.Wk
namespace Go.V
open Go.Wk
class Kn(A B:Tb):Prop where
 le:∀f args h M,A f args h M→B f args h M
instance(A : Tb) : Kn A A := ⟨λ_ _ _ _ h => h⟩
def Ff(F:gL)(b o:Nat)(r:List UInt8):Prop:=∀(q:Nat)(u:gE),(iJ r)[q]? =some u→F b (o+q)=some u
theorem Ff.mono{F G:gL}{b o:Nat}{r:List UInt8}(h:Ff F b o r)(l:F.le G):Ff G b o r:=λq u e=>l _ _ _ (h q u e)
theorem rB.at{F:gL}{g o:Nat}{cs:List gE}{x:List UInt8}(hb:rB F g cs)(mX:∀(q:Nat)(u:gE),(iJ x)[q]? =some u→cs[o+q]? =some u):Ff F g o x:=λq u h=>hb _ _ (mX q u h)
section
variable{P:iY}{K:Tb}{fn:Func}{k:oe}{E:EL}{h:Hp}{A:List Oper}{dr:Bool}{G:gL}{L:List Nat}{i d:Nat}
def Rn(P:iY)(h:Hp)(E:EL)(op:Op)(v:gE):Prop:=decide (kz P op = .mL)=false∧jS P E h op=some (v,h)
theorem X0{v:gE}(hb:dr=false∨ahead P A i L=true)(hi:lC i A.length=true)(hw:mf A E (ir A i)=some true)(hd:(ir A i).dst=some d)(ho:Rn P h E (ir A i).op v)(x:W P K fn k A dr G L ((d,v)::E) h):W P K fn k A dr G (i::L) E h:=by
 intro ha env pd he hp;refine .BQ (by simpa using hi) (he.want _ _ _ hw) (he.jz _ _ _ ho.2) (λe=>absurd e (by simpa using ho.1)) ?_;rw[hd];refine x ha _ _ (he.put d v) λlX q hq=>?_;unfold uT at hq
 split at hq
 ·rename_i DZ;rcases lM.1 hq with rfl|hq
  ·refine⟨DZ,.inl λj hj hk=>?_⟩;rcases hb with hb|hb
   ·rw[hb]at lX;cases lX
   ·have:=j9.1 hb j hj;simpa[hk]using this
  ·exact hp.tail lX q hq
 ·exact hp.tail lX q hq
theorem J0{F:gL}{t e:iA}{x:iT}{b o:Nat}{y:List UInt8}(hi:lC i A.length=true)(hw:mf A E (ir A i)=some true)(hd:(ir A i).dst=some d)(ji:(ir A i).op = .slice t x none none none)(ht:P.underlying t=some (.array 32 e))(hz:sz P e=some 1)(hx:iP E x=some (pl b o))(ha:Ff F b o y)(hl:y.length=32)
  (q:∀v',iq tB F v' y→W P K fn k A dr G L ((d,v')::E) h):W P K fn k A dr G (i::L) E h :=
 ra hi hw hd (by rw[ji];exact Sx ht hz hx) (q _ (WV hl ha))
theorem X5{F:gL}{t e:iA}{x:iT}{v:gE}{o s i' f:Nat}{cs:List gE}{y:List UInt8}(hi:lC i A.length=true)(hw:mf A E (ir A i)=some true)(hd:(ir A i).dst=some d)(ji:(ir A i).op = .slice t x none none none)(ht:P.underlying t=some (.array 32 e))(hz:sz P e=some 1)(hx:iP E x=some (oy v o))(hE:nM F v s i' cs)(ho:o=i'*s+f)(hl:y.length=32)(mX:(cs.drop f).take 32=iJ y)
  (q:∀v',iq tB F v' y→W P K fn k A dr G L ((d,v')::E) h):W P K fn k A dr G (i::L) E h:=by
 obtain⟨h0,h1,b,q',n,c,rfl,h3,h4⟩:=hE;subst ho;refine ra hi hw hd (by rw[ji];exact Sx ht hz hx) (q _ (WV hl λj u hj=>?_));rw[←mX,oc]at hj
 split at hj
 ·rw[pS]at hj;have:=h4 _ _ hj;rw[show q'+(i'*s+f)+j=q'+i'*s+(f+j) by omega];exact this
 ·cases hj
theorem X4{F:gL}{t e:iA}{x:iT}{v:gE}{xs r:List UInt8}(hi:lC i A.length=true)(hw:mf A E (ir A i)=some true)(hd:(ir A i).dst=some d)(ji:(ir A i).op = .sliceToArrayPointer t x)(ht:P.underlying t=some (.array 32 e))(hx:iP E x=some v)(hv:iq tB F v xs)(hr:DE xs=some r)
  (q:∀b o,Ff F b o r→W P K fn k A dr G L ((d,pl b o)::E) h):W P K fn k A dr G (i::L) E h:=by
 obtain⟨h1,rfl⟩:=SQ hr;obtain⟨css,c1,c2⟩:=hv;have hl:=c1.1;rcases c2 with⟨rfl,rfl⟩|⟨a,c,rfl,e2,e3,e4,e5⟩
 ·simp at hl;omega
 ·cases a with
  |none=>rw[(e4 rfl).1]at hl;simp at hl;omega
  | some a =>
   obtain⟨b,o⟩:=a;refine j8 (v:=pl b o) hi hw hd (by rw[ji];rfl) (λh=>?_) (q b o λq u hq=>?_)
   ·rw[ji];simp only[jS,hx,jy,ht];rw[if_pos (by omega)]
   ·rw[Iu (by simp;omega)]at hq;rw[sF]at hq;obtain⟨y,hy,rfl⟩:=jR.1 hq;rw[oc]at hy
    split at hy
    ·obtain⟨d',y5⟩:∃d,css[q]? =some d:=⟨_,jx (by have:=(kI.1 hy).1;omega)⟩
     have hdv:d'.1=[cB y]:=c1.2 q d' y y5 hy;have:=e5 b o rfl q d' 0 (cB y) y5 (by rw[hdv];rfl);have h1:tB.size=1:=rfl;rw[h1]at this;simpa using this
    ·cases hy
end
def Tr.Flat{α:Type}(t:Tr α):Prop:=∀{F G:gL}{cs:List gE}{x:α},t.rel F cs x→t.rel G cs x
section
variable{X:List Nat}{h0 h h':Hp}{F0 F F':gL}{L Lr:List Ob}
theorem Wq{α:Type}{t:Tr α}{v:gE}{xs:List α}{G:gL}(hf:t.Flat)(r:(Ob.row t v xs).ok F h):(Ob.row t v xs).ok G h:=by
 obtain⟨v0,lK,r⟩:=r;refine⟨v0,lK,?_⟩;rcases r with r|⟨b,c,k,css,bss,r⟩
 ·exact .inl r
 ·exact .inr ⟨b,c,k,css,bss,⟨r.form,r.kG,r.lt,r.mr,r.og,λi d x e q1 q2 q3=>⟨(r.rel i d x e q1 q2 q3).1,hf (r.rel i d x e q1 q2 q3).2⟩,r.cells,r.Az,r.cap,r.tc,r.one,r.vr,r.nodup⟩⟩
def JS:List Ob→Prop
 |[]=>True
 |o::r=>(∀F G h,o.ok F h→o.ok G h)∧JS r
theorem JS.get:∀{Lr:List Ob},JS Lr → ∀(i:Nat)(o:Ob),Lr[i]? =some o → ∀F G h,o.ok F h→o.ok G h
 |[],_,i,o,hi=>by simp at hi
 |a::r,hf,i,o,hi=>by
  cases i with
  |zero=>simp at hi;subst hi;exact hf.1
  |succ i=>exact hf.2.get i o (by simpa using hi)
theorem St.Pz{G G':gL}(s:St X h0 F0 F L h)(k:St [] h G G' Lr h')(hf:JS Lr):St X h0 F0 F (Lr++L) h':=by
 have e:St [] h F F Lr h':=⟨k.next,k.wf,λb hb _=>k.ua b hb (by simp),k.SG.agree s.wf s.agree,gL.le.refl _,λ_ _ _ q=>.inl q,λi o hi=>by
   obtain⟨h1,h2⟩:=k.own i o hi;refine⟨hf.get i o hi _ _ _ h1,λb hb=>⟨λq=>?_,(h2 b hb).2⟩⟩;rcases(h2 b hb).2 with h3|h3
   ·cases hF:F b q with
    |none=>rfl
    |some u=>have:=HW s.wf (s.agree _ _ _ hF);omega
   ·simp at h3,k.apart⟩
 exact s.call e
end
theorem TJ:∀a b:List UInt8,Lib.compareBytes a b=oR a b
 |[],[]=>rfl
 |[],_::_=>rfl
 |_::_,[]=>rfl
 | a::l,b::bs=>by
  have ih:=TJ l bs;simp only[Lib.compareBytes,oR,jt,wF]at ih ⊢
  by_cases h1:a<b
  ·simp[h1]
  ·by_cases h2:b<a
   ·have:a≠b:=λe=>by subst e;exact h1 h2
    simp[h1,h2,this]
   ·have:a=b:=UInt8.le_antisymm (UInt8.not_lt.1 h2) (UInt8.not_lt.1 h1);subst this;simp only[h1,if_false,ih,decide_false,nG,beq_self_eq_true,oP]
    by_cases h3:wF l bs=true
    ·exact Jt (if_pos h3) (Mz (if_pos h3))
    ·refine Jt (if_neg h3) (Jt ?_ (Mz (if_neg h3)))
     by_cases h4:wF bs l=true
     ·exact Jt (if_pos h4) (Mz (if_pos h4))
     ·exact Jt (if_neg h4) (Mz (if_neg h4))
theorem WX{h:Hp}{v:gE}{xs:List UInt8}(s:iq tB (kq h) v xs):Jf h v=some xs:=by
 obtain⟨css,c1,c2⟩:=s;obtain⟨_,c4⟩:=c2.first (by decide)
 rw[Mg c1]at c4;have hl:=c1.1;rcases c2 with⟨rfl,rfl⟩|⟨a,c,rfl,_,_,e4,_⟩
 ·have:xs=[]:=nK hl.symm;subst this;rfl
 ·cases a with
  |none =>
   have:xs=[]:=nK (by rw[←hl,(e4 rfl).1];rfl);subst this;rfl
  |some a =>
   have c5:oL h 1 css.length (.sl (some a) css.length (.of 1 c))=some (xs.map cB):=c4;show(oL h 1 css.length (.sl (some a) css.length (.of 1 c))).bind yO=_;rw[c5];exact ND xs
theorem aan{P:iY}{K:Tb}[hK:Kn (sN P) K]{f:nI}{g:Func}{h:Hp}{u v:gE}{xs ys:List UInt8}(hf:P.funcs[f]? =some g)(h1:(g.name == "runtime.NumGoroutine")=false)(h2:g.body.isNone=true)(h3:Extern.findNext g=none)(h4:Extern.find g=some Extern.BytealgCompare.compare)(hu:iq tB (kq h) u xs)(hv:iq tB (kq h) v ys):iN P K f [u,v] h λr w'=>r = .i .i64 (oR xs ys)∧w'=h :=
 .known (M:=λr w'=>r = .i .i64 (oR xs ys)∧w'=h) (hK.le _ _ _ _ ⟨g,u,v,xs,ys,hf,h1,h2,h3,h4,rfl,WX hu,WX hv,by rw[TJ],rfl⟩) λv h' m=>⟨v,h',rfl,m⟩
section
variable{P:iY}{E:EL}{X:List Nat}{h0 h:Hp}{F0 F:gL}{L:List Ob}
theorem XC{α:Type}{tr:Tr α}{e:iA}{cs:List gE}{x:α}(hz:(zeroV P e).map gE.cells=some cs)(hr:tr.rel F cs x):∀z,zeroV P e=some z→tr.rel F z.cells x:=λz wj=>by
 rw[wj]at hz;obtain rfl:=iK hz;exact hr
theorem Zj(F:gL)(s:List UInt8):∃css:List (Cl (To.ma tB).size),qL tB F css s∧(css.map kg).flatten=s.map cB:=by
 have h:qL tB F (s.map λc=>(⟨[cB c],rfl⟩:Cl tB.size)) s:=⟨by simp,λi d x q1 q2=>by
  rw[sF,q2]at q1;obtain rfl:=iK q1;rfl⟩
 exact⟨_,h,Mg h⟩
theorem Sj{ts tx e:iA}{sx xx:iT}{v:gE}{xs s zs:List UInt8}(k:Nat)(ht:P.underlying ts=some (.slice e))(rm:pC P e 1=true)(vB:rV P tx=some false)(hs:iP E sx=some v)(xj:iP E xx=some (.s s))(hS:St X h0 F0 F L h)(hk:L[k]? =some (.row tB v xs))(hz:app xs s=some zs) :
  Ef P E h (.call { callee:=.builtin .append,args:=#[sx,xx],argTypes:=#[ts,tx] }) (λv' h'=>St X h0 F0 F (L.set k (.row tB v' zs)) h'):=by
 obtain⟨sr,rfl⟩:=Fs hz;obtain⟨inf,zero,r1,r2,r3,r4,r5,r6,r7⟩:=CZ rm;obtain⟨css,c1,mX⟩:=Zj F s;have hE:mm (To.ma tB) F h css (s.map λ_=>[]) s:=.flat c1;obtain⟨v',h',kE,q1,q2,q3,q4,q5,q6⟩:=To.L1 (t:=To.ma tB) (by decide) (hS.ok hk) hE (by rw[tQ];exact AY) (λg hg=>by rw[tQ]at hg;cases hg) hS.wf sr;refine⟨rfl,v',h',?_,hS.pE hk (Ob.BO q2) q3 q4 q5 λb hb=>?_⟩
 ·have lT:oL h 1 s.length (.s s)=some (s.map cB):=by simp only[oL,ow];rfl
  have nS:(s.map cB).all gE.one=true:=j9.2 λx hx=>by
   obtain⟨c,_,rfl⟩:=qJ.1 hx;rfl
  simp only[jS,tP,qa,AW,hs,xj,qO,Co,ht,r1,r2,r3,vB,CP,As,lT,jy,lE,cond_false,pure,wN];rw[if_pos ⟨r4,r5,by omega,r6,r7,by simp,nS⟩];rw[mX]at q1;exact q1
 ·have:=Ep q2;have jM:b∈v'.own:=hb;rw[←this]at jM;rcases q6 b jM with q|q|q
  ·exact .inl q
  ·rw[tQ]at q;cases q
  ·exact .inr q
end
structure Hi(κ:Type)[DecidableEq κ]where
 enc:κ→gE
 eq:∀a b,uQ (enc a) (enc b)=decide (a=b)
def kS:Hi (List UInt8):=⟨.s,λa b=>by simp[uQ,uG];exact Bool.eq_iff_iff.2 (by simp)⟩
structure Fp(ν:Type)where
 rel:gL→gE→ν→Prop
 mono:∀{F G u v},F.le G→rel F u v→rel G u v
def Fp.of{ν:Type}(enc:ν→gE):Fp ν:=⟨λ_ u v=>u=enc v,λ_ h=>h⟩
def ah8{κ ν:Type}[DecidableEq κ](K:Hi κ)(t:Fp ν):To (κ→Option ν)where
 size:=1
 rel F h bs cs m:=∃g es,bs=[g]∧cs=[.m (some g)]∧h.get g=some (.map es)∧g<h.next∧(∀e,e∈es → ∃k,e.1=K.enc k) ∧ ∀k,(m k=none∧td (K.enc k) es=none) ∨ ∃v u,m k=some v∧td (K.enc k) es=some u∧t.rel F u v
 len:=λ⟨g,es,_,q,_⟩=>by rw[q];rfl
 one:=λ⟨g,es,_,q,_⟩=>by rw[q];rfl
 lt:=λ⟨g,es,q,_,_,h3,_⟩ b hb=>by rw[q]at hb;simp at hb;subst hb;exact h3
 nodup:=λ⟨g,es,q,_⟩=>by rw[q];simp
 mono:=λl ⟨g,es,q1,q2,q3,q4,q5,q6⟩=>⟨g,es,q1,q2,q3,q4,q5,λk=>(q6 k).imp id λ⟨v,u,a,b,c⟩=>⟨v,u,a,b,t.mono l c⟩⟩
 frame:=λ⟨g,es,h1,h2,h3,h4,h5⟩ hn hk=>⟨g,es,h1,h2,(hk g (by rw[h1];simp)).trans h3,sa h4 hn,h5⟩
def Ob.map{κ ν:Type}[DecidableEq κ](K:Hi κ)(t:Fp ν)(g:Nat)(m:κ→Option ν):Ob:=⟨ah8 K t,[g],[.m (some g)],m⟩
theorem Vp{P:iY}{t:iA}(h:P.underlying t=some .string):∀k,pO P t (kS.enc k)=true:=λk=>by simp[pO,h,kS]
section
variable{P:iY}{E:EL}{X:List Nat}{h0 h:Hp}{F0 F:gL}{L:List Ob}{κ ν:Type}[DecidableEq κ]{K:Hi κ}{tr:Fp ν}
theorem XL{t:iA}(K:Hi κ)(tr:Fp ν)(hS:St X h0 F0 F L h):Ef P E h (.makeMap t none) (λv' h'=>∃g,v' = .m (some g)∧St X h0 F0 F (.map K tr g (PO:κ→Option ν)::L) h') :=
 ⟨rfl,_,_,rfl,_,rfl,hS.fresh ⟨vN _,EE rfl hS.wf,λb hb=>by rw[Hp.lI,if_neg (by omega)]⟩ ⟨_,[],rfl,rfl,by rw[Hp.lI,if_pos rfl],xF _,λe he=>(by cases he),λk=>.inl ⟨rfl,rfl⟩⟩ λb hb=>by
  have:b=h.next:=by simpa[Ob.map]using hb
  omega⟩
theorem St.VE{g:Nat}{m:κ→Option ν}(k:Nat)(s:St X h0 F0 F L h)(hk:L[k]? =some (.map K tr g m)):∃es,h.get g=some (.map es)∧g<h.next∧(∀e,e∈es → ∃k,e.1=K.enc k) ∧ ∀k,(m k=none∧td (K.enc k) es=none) ∨ ∃v u,m k=some v∧td (K.enc k) es=some u∧tr.rel F u v:=by
 obtain⟨g',es,q1,q2,q3⟩:=s.ok hk;simp only[Ob.map,EU,and_true]at q1;subst q1;exact⟨es,q3⟩
theorem Vr{kt:iA}{es:List (gE×gE)}(hk:∀k,pO P kt (K.enc k)=true)(h:∀e,e∈es → ∃k,e.1=K.enc k):es.all (λe=>pO P kt e.1)=true:=j9.2 λe he=>by
 obtain⟨k,q⟩:=h e he;rw[q];exact hk k
theorem XR{t kt vt:iA}{x y:iT}{g:Nat}{enc:ν→gE}{m:κ→Option ν}(k:Nat)(a:κ)(z0:ν)(ht:P.underlying t=some (.map kt vt))(D0:∀k,pO P kt (K.enc k)=true)(hz:zeroV P vt=some (enc z0))(hx:iP E x=some (.m (some g)))(hy:iP E y=some (K.enc a))(hS:St X h0 F0 F L h)(hk:L[k]? =some (.map K (.of enc) g m)) :
  Rn P h E (.lookup t x y false) (enc ((m a).getD z0)):=by
 obtain⟨es,q1,q2,q3,q4⟩:=hS.VE k hk;refine⟨rfl,?_⟩;simp only[jS,hx,hy,jy,CM,ht,D0,if_true,q1];rw[if_pos (Vr D0 q3)];simp only[jy,hz];rcases q4 a with⟨r1,r2⟩|⟨v,u,r1,r2,r3⟩
 ·rw[r1,r2];rfl
 ·rw[r1,r2];have r4:u=enc v:=r3;rw[r4];rfl
theorem T2{k j:κ}{u:gE}:∀es:List (gE×gE),(∀e,e∈es → ∃k,e.1=K.enc k)→td (K.enc j) (uW (K.enc k) u es)=if j=k then some u else td (K.enc j) es
 |[],_=>by
  simp only[uW,td,K.eq]
  by_cases h:j=k
  ·simp[h]
  ·simp[h,td]
 | (k',w)::r,h=>by
  obtain⟨a,ha⟩:=h (k',w) (by simp);simp only at ha;subst ha;have ih:=T2 (k:=k) (j:=j) (u:=u) r λe he=>h e (mV _ he);simp only[uW,K.eq]
  by_cases h1:k=a
  ·subst h1;simp only[decide_true,cond_true,td,K.eq]
   by_cases h2:j=k
   ·simp[h2]
   ·simp[h2]
  ·simp only[h1,decide_false,cond_false,td,K.eq]
   by_cases h2:j=a
   ·subst h2;have:¬j=k:=λe=>h1 e.symm;simp[this]
   ·simp only[h2,decide_false,cond_false,ih]
theorem Xs{k:κ}{u:gE}:∀es:List (gE×gE),(∀e,e∈es → ∃k,e.1=K.enc k) → ∀e,e∈uW (K.enc k) u es → ∃k,e.1=K.enc k
 |[],_,e,he=>by simp[uW]at he;subst he;exact⟨k,rfl⟩
 | (k',w)::r,h,e,he=>by
  simp only[uW]at he;cases hb:uQ (K.enc k) k' with
  |true =>
   rw[hb]at he;rcases lM.1 he with rfl|he
   ·exact⟨k,rfl⟩
   ·exact h e (mV _ he)
  |false =>
   rw[hb]at he;rcases lM.1 he with rfl|he
   ·exact h _ (by simp)
   ·exact Xs r (λe he=>h e (mV _ he)) e he
theorem XM{t kt vt:iA}{x y z:iT}{g:Nat}{m:κ→Option ν}{u:gE}(k:Nat)(a:κ)(v:ν)(ht:P.underlying t=some (.map kt vt))(D0:∀k,pO P kt (K.enc k)=true)(hx:iP E x=some (.m (some g)))(hy:iP E y=some (K.enc a))(hz:iP E z=some u)(hr:tr.rel F u v)(hS:St X h0 F0 F L h)(hk:L[k]? =some (.map K tr g m)) :
  Ef P E h (.mapUpdate t x y z) (λ_ h'=>St X h0 F0 F (L.set k (.map K tr g (Av m a v))) h'):=by
 obtain⟨es,q1,q2,q3,q4⟩:=hS.VE k hk;refine⟨rfl,.no,h.set g (.map (uW (K.enc a) u es)),?_,hS.pE hk (o':=.map K tr g (Av m a v)) ⟨g,_,rfl,rfl,by rw[Hp.jv,if_pos rfl],q2,Xs es q3,λj=>?_⟩ (jg _) (λb hb=>?_) (λb hb hn=>?_) λb hb=>.inl hb⟩
 ·simp only[jS,hx,hy,hz,jy,ID,ht,q1];rw[if_pos ⟨D0 a,Vr D0 q3⟩];rfl
 ·show((Av m a v) j=none∧_) ∨ ∃v' u',(Av m a v) j=some v'∧_;rw[T2 es q3];unfold Av
  by_cases h1:j=a
  ·rw[if_pos h1,if_pos h1];exact .inr ⟨v,u,rfl,rfl,hr⟩
  ·rw[if_neg h1,if_neg h1];exact q4 j
 ·have jM:h.next≤b:=hb;rw[Hp.jv,if_neg (by omega)];exact hS.wf b jM
 ·rw[Hp.jv,if_neg (λe=>hn (by rw[e];simp[Ob.map]))]
end
end Go.V
end
section
namespace Go.V
open Go.Wk
def Hl(P:iY)(E:EL)(h:Hp):List Dl→List gE→Prop
 |[],[]=>True
 | .tmp t::r,v::vs=>look E t=some v∧Hl P E h r vs
 | .cell a t::r,v::vs=>(∃p,look E a=some p∧tt P h t p=some v)∧Hl P E h r vs
 |_,_=>False
section
variable{P:iY}{K:Tb}{fn:Func}{k:oe}{E:EL}{h:Hp}
theorem Hl.outs:∀{rs:List Dl}{vs:List gE},Hl P E h rs vs→outs P E h rs=some vs
 |[],[],_=>rfl
 | .tmp t::r,v::vs,⟨h1,h2⟩=>by simp only[V.outs,h1,jy,h2.outs,lE]
 | .cell a t::r,v::vs,⟨⟨p,h0,h1⟩,h2⟩=>by simp only[V.outs,h0,h1,jy,h2.outs,lE]
 |[],_::_,h=>h.elim
 | .tmp _::_,[],h=>h.elim
 | .cell _ _::_,[],h=>h.elim
theorem oH{vs:List gE}{v:gE}(ho:zq vs=v)(hv:Hl P E h fn.results.toList vs)(hR:k.final v h):C P K fn k .ret E h:=Sh hv.outs ho hR
theorem oJ{X:List Nat}{h0:Hp}{F0 F:gL}{L:List Ob}{t:iA}{a g:Nat}{cs:List gE}(i:Nat)(ht:lG P t=some true)(hz:sz P t=some cs.length)(hS:St X h0 F0 F L h)(hi:L[i]? =some (.box g cs))(hx:look E a=some (pl g 0)):∃p,look E a=some p∧tt P h t p=some (.agg cs) :=
 ⟨_,hx,Ix ht hz (by
  unfold rd;rw[(hS.Fw i hi).1];simp)⟩
end
end Go.V
end
section
namespace Go.Wk
theorem me{α:Type}{b:Bool}{o:Option α}{z:α}(h:b=false):only b o z=some z:=if_neg (by rw[h];decide)
end Go.Wk
namespace Go.V
open Go.Wk
def pc:List (Bool×Bool)→gE→gE
 |[],v=>v
 |(b,w)::r,v=>match b,w with
  |true,true=>pc r v
  |false,false=>pc r v
  |_,_=>.no
def pI:List (Bool×Bool)→Prop
 |[]=>True
 |(b,w)::r=>b=w∧pI r
theorem FE:∀{cs:List (Bool×Bool)}{v:gE},pI cs→pc cs v=v
 |[],_,_=>rfl
 |(b,w)::r,v,h=>by
  obtain⟨h1,h2⟩:=h;replace h1:b=w:=h1;subst h1;have e:=FE (v:=v) h2;cases b<;>exact e
theorem HE:∀{cs:List (Bool×Bool)}{v:gE},¬pI cs→pc cs v = .no
 |[],_,h=>absurd trivial h
 |(b,w)::r,v,h=>by
  cases b<;>cases w
  ·have e:pc r v = .no:=HE λh2=>h ⟨rfl,h2⟩;exact e
  ·rfl
  ·rfl
  ·have e:pc r v = .no:=HE λh2=>h ⟨rfl,h2⟩;exact e
theorem He:∀{cs:List (Bool×Bool)}{b w:Bool},pI (cs++[(b,w)])↔pI cs∧b=w
 |[],b,w=>⟨λh=>⟨trivial,h.1⟩,λh=>⟨h.2,trivial⟩⟩
 |(_,_)::r,b,w=>⟨λh=>⟨⟨h.1,(He.1 h.2).1⟩,(He.1 h.2).2⟩,λh=>⟨h.1.1,He.2 ⟨h.1.2,h.2⟩⟩⟩
def uX(A:List Oper)(E:EL)(j:Nat):Option gE:=((A[j]?).bind (·.dst)).bind (look E)
section
variable{P:iY}{K:Tb}{fn:Func}{k:oe}{E:EL}{h:Hp}{A:List Oper}{dr:Bool}{G:gL}{L:List Nat}{i d j:Nat}{b want:Bool}{v:gE}{cs:List (Bool×Bool)}
theorem Xv(hg:(ir A i).guard=some (j,want))(hy:uX A E j=some (pc cs (.b b)))(hn:¬pI (cs++[(b,want)])):mf A E (ir A i)=some false:=by
 unfold mf;simp only[hg];unfold uX at hy;rw[hy]
 by_cases hc:pI cs
 ·rw[FE hc];have hb:b≠want:=λe=>hn (He.2 ⟨hc,e⟩);simp[hb]
 ·rw[HE hc];rfl
theorem Cj(hg:(ir A i).guard=some (j,want))(hy:uX A E j=some (pc cs (.b b)))(hi:lC i A.length=true)(hd:(ir A i).dst=some d)
  (ji:pI (cs++[(b,want)])→W P K fn k A dr G L ((d,v)::E) h→W P K fn k A dr G (i::L) E h)
  (x:W P K fn k A dr G L ((d,pc (cs++[(b,want)]) v)::E) h):W P K fn k A dr G (i::L) E h:=by
 by_cases ha:pI (cs++[(b,want)])
 ·rw[FE ha]at x;exact ji ha x
 ·rw[HE ha]at x;exact Fq hi (Xv hg hy ha) hd x
theorem nO(hg:(ir A i).guard=some (j,want))(hy:uX A E j=some (.b b))(hi:lC i A.length=true)(hd:(ir A i).dst=some d)
  (ji:pI [(b,want)]→W P K fn k A dr G L ((d,v)::E) h→W P K fn k A dr G (i::L) E h)
  (x:W P K fn k A dr G L ((d,pc [(b,want)] v)::E) h):W P K fn k A dr G (i::L) E h:=Cj (cs:=[]) hg hy hi hd ji x
theorem jG.w(x:jG P K fn k A dr G L E h):W P K fn k A dr G L E h:=by
 obtain⟨G',l,ha,x⟩:=x;exact λ_ env pd he hp=>x ha env pd he (hp.le l)
theorem SB{Q:Hp→Prop}(hQ:Q h)(hg:(ir A i).guard=some (j,want))(hy:uX A E j=some (pc cs (.b b)))(hi:lC i A.length=true)(hd:(ir A i).dst=some d)
  (ji:pI (cs++[(b,want)])→(∀w',Q w'→jG P K fn k A dr G L ((d,v)::E) w')→W P K fn k A dr G (i::L) E h)
  (x:∀w',Q w'→jG P K fn k A dr G L ((d,pc (cs++[(b,want)]) v)::E) w'):W P K fn k A dr G (i::L) E h:=by
 by_cases ha:pI (cs++[(b,want)])
 ·rw[FE ha]at x;exact ji ha x
 ·rw[HE ha]at x;exact Fq hi (Xv hg hy ha) hd (x h hQ).w
theorem XZ{Q:Hp→Prop}(hQ:Q h)(hg:(ir A i).guard=some (j,want))(hy:uX A E j=some (.b b))(hi:lC i A.length=true)(hd:(ir A i).dst=some d)
  (ji:pI [(b,want)]→(∀w',Q w'→jG P K fn k A dr G L ((d,v)::E) w')→W P K fn k A dr G (i::L) E h)
  (x:∀w',Q w'→jG P K fn k A dr G L ((d,pc [(b,want)] v)::E) w'):W P K fn k A dr G (i::L) E h:=SB (cs:=[]) hQ hg hy hi hd ji x
variable{c x y:iT}{p q:Bool}
theorem SD{u:gE}(hi:lC i A.length=true)(hw:mf A E (ir A i)=some true)(hd:(ir A i).dst=some d)(ji:(ir A i).op = .pick c x y)(hc:iP E c=some (.b b))(hx:b=true→iP E x=some u)(hy:b=false→iP E y=some u)(z:W P K fn k A dr G L ((d,u)::E) h):W P K fn k A dr G (i::L) E h:=by
 refine j8 hi hw hd (by rw[ji];rfl) (λh=>?_) z;rw[ji];simp only[jS,hc,jy];cases b with
 |true=>simp only[hx rfl,lE]
 |false=>simp only[hy rfl,lE]
theorem X2(hi:lC i A.length=true)(hw:mf A E (ir A i)=some true)(hd:(ir A i).dst=some d)(ji:(ir A i).op = .pick c x y)(hc:iP E c=some (.b b))(hx:b=true→iP E x=some (.b p))(hy:iP E y=some (.b false))(z:W P K fn k A dr G L ((d,.b (b&&p))::E) h):W P K fn k A dr G (i::L) E h :=
 SD (u:=.b (b&&p)) hi hw hd ji hc (λe=>by rw[hx e,e];rfl) (λe=>by rw[hy,e];rfl) z
theorem X3(hi:lC i A.length=true)(hw:mf A E (ir A i)=some true)(hd:(ir A i).dst=some d)(ji:(ir A i).op = .pick c x y)(hc:iP E c=some (.b b))(hx:iP E x=some (.b true))(hy:b=false→iP E y=some (.b q))(z:W P K fn k A dr G L ((d,.b (b||q))::E) h):W P K fn k A dr G (i::L) E h :=
 SD (u:=.b (b||q)) hi hw hd ji hc (λe=>by rw[hx,e];rfl) (λe=>by rw[hy e,e];rfl) z
end
end Go.V
end
section
namespace Go.V
open Go.Wk
def OM(L:List Ob)(rs:List Nat):List Nat:=(rs.filterMap λi=>L[i]?).flatMap Ob.bs
section
variable{X:List Nat}{h0 w h:Hp}{F0 F F':gL}{L L':List Ob}{bs:List Nat}
theorem abQ{o:Ob}{j:Nat}{rs:List Nat}(hj:j∈rs)(hL:L[j]? =some o):∀g,g∈o.bs→g∈OM L rs:=λg hg=>AX.2 ⟨o,Du.2 ⟨j,hj,hL⟩,hg⟩
theorem St.wc(is rs:List Nat)(s:St X h0 F0 F L w)(hd:∀i,i∈rs→i∉is)(k:St ((is.filterMap λi=>L[i]?).flatMap Ob.bs) w F F' L' h):HB F' w h (OM L rs):=λg hg=>by
 obtain⟨o,ho,CD⟩:=AX.1 hg;obtain⟨j,hj,hL⟩:=Du.1 ho;have h1:=s.own j o hL;have jB:=o.t.lt h1.1 g CD;have UT:g∉(is.filterMap λi=>L[i]?).flatMap Ob.bs:=λq=>by
  obtain⟨o2,D6,ab7⟩:=AX.1 q;obtain⟨i,hi,Oy⟩:=Du.1 D6;have:=s.apart j i o o2 g hL Oy CD ab7;exact hd j hj (this▸hi)
 refine⟨λq=>?_,λp u e=>?_⟩
 ·cases hF:F' g q with
  |none=>rfl
  |some u =>
   rcases k.new g q u hF with h3|h3|h3
   ·rw[(h1.2 g CD).1 q]at h3;cases h3
   ·omega
   ·exact absurd h3 UT
 ·unfold lP at e ⊢;rw[k.ua g jB UT];exact e
theorem St.KW{α:Type}{t:Tr α}{v:gE}{xs:List α}{j:Nat}{rs:List Nat}(s:St X h0 F0 F L w)(hj:j∈rs)(hL:L[j]? =some (.row t v xs)):∀g,g∈v.own→g∈OM L rs:=abQ (o:=.row t v xs) hj hL
theorem nM.held{v:gE}{s i:Nat}{cs:List gE}(e:nM (kq w) v s i cs)(b:HB F' w h bs)(hv:∀g,g∈v.own→g∈bs):nM (F'.hold w bs) v s i cs:=by
 obtain⟨h0,h1,g,q,n,c,rfl,h3,h4⟩:=e;have hg:g∈bs:=hv g (by simp[gE.own]);refine⟨h0,h1,g,q,n,c,rfl,h3,λj u hj=>?_⟩;unfold gL.hold;rw[(b g hg).1];simp only;rw[if_pos hg];exact h4 j u hj
end
end Go.V
end
section
namespace Go.Wk
def yc{α:Type}(l:List α)(a n:Nat)(z:α):Option (List α):=if a+n=l.length then some (l.take a++iV n z)else none
theorem aae{α:Type}{l r:List α}{a n:Nat}{z:α}(h:yc l a n z=some r):a+n=l.length∧r=l.take a++iV n z:=by
 unfold yc at h
 split at h
 ·rename_i hc;exact⟨hc,(iK h).symm⟩
 ·cases h
def nz{α:Type}:List α→Option Unit
 |[]=>none
 |_::_=>some ()
def BI{α:Type}(l:List α)(a n:Nat)(i:Int):Option α:=match i with | .ofNat k=>if k<n then l[a+k]? else none | .negSucc _=>none
theorem Gh{α:Type}{l:List α}{a n:Nat}{i:Int}{x:α}(h:BI l a n i=some x):0≤i∧i.toNat<n∧l[a+i.toNat]? =some x:=by
 cases i with
 |ofNat k =>
  simp only[BI]at h
  split at h
  ·exact⟨RL k,by assumption,h⟩
  ·cases h
 |negSucc k=>cases h
end Go.Wk
namespace Go.V
open Go.Wk
section
variable{α:Type}{tr:Tr α}{F:gL}{h:Hp}{bs:List Nat}{v:gE}{xs zs:List α}{b:Nat}{c:List gE}{k:Option Nat}{css:List (Cl (To.ma tr).size)}{bss:List (List Nat)}
theorem aaP{mK:List (Cl tr.size)}(hr:qL tr F mK zs):(mK.map kg).flatten.all gE.one=true:=(mm.flat (h:=Hp.empty) hr).xL
theorem Qr(r:Ci (To.ma tr) F h bs v xs b c k css bss):xs.length*tr.size≤c.length:=by
 cases k with
 |none=>exact r.Az rfl
 |some m =>
  obtain⟨q1,q2⟩:=r.cap m rfl;rw[q1];exact nL _ q2
theorem agq(r:Ci (To.ma tr) F h bs v xs b c k css bss){mK:List (Cl tr.size)}(hr:qL tr F mK zs)(hl:zs.length=xs.length) :
  (Ob.row tr v zs).ok F (h.set b (.cells tr.size ((mK.map kg).flatten++c.drop (xs.length*tr.size)))):=by
 have pB:(mK.map kg).flatten.length=xs.length*tr.size:=by rw[vq,hr.1,hl]
 have lT:=Qr r;have hlen:((mK.map kg).flatten++c.drop (xs.length*tr.size)).length=c.length:=by rw[kU,pB,od];omega
 have hE:mm (To.ma tr) F (h.set b (.cells tr.size ((mK.map kg).flatten++c.drop (xs.length*tr.size)))) mK (zs.map λ_=>[]) zs:=.flat hr;have rl:((mK.map kg).flatten++c.drop (xs.length*tr.size)).all gE.one=true:=by
  rw[lz,aaP hr];exact j9.2 λx hx=>j9.1 r.one x (sI hx)
 have R:=I8 (b:=b) (c:=(mK.map kg).flatten++c.drop (xs.length*tr.size)) (k:=k) hE r.lt (by rw[Hp.jv,if_pos rfl];rfl) (by rw[hl];exact E7 pB) (λq=>by rw[hlen,hl];exact r.Az q) (λm q=>by rw[hlen,hl];exact r.cap m q) (by rw[hl];exact r.tc) rl (by rw[tQ];simp);have hv:v = .sl (some (b,0)) zs.length (.of (To.ma tr).size k):=by rw[hl];exact r.form
 rw[hv];exact Ob.BO ⟨_,rfl,.inr ⟨_,_,_,_,_,R⟩⟩
end
theorem St.shrink{α:Type}{X:List Nat}{h0 h:Hp}{F0 F:gL}{L:List Ob}{t:Tr α}{v v':gE}{xs zs:List α}{b:Int}{u:Unit}(k:Nat)(s:St X h0 F0 F L h)(hk:L[k]? =some (.row t v xs))(p:A5 v v' t.size (0:Int).toNat (b.toNat-(0:Int).toNat))(hc:cut xs 0 b=some zs)(hnz:nz xs=some u):St X h0 F0 F (L.set k (.row t v' zs)) h:=by
 obtain⟨c0,c1,c2,hz⟩:=Ky hc;have wj:zs=xs.take b.toNat:=hz;subst wj;have hlen:(xs.take b.toNat).length=b.toNat:=by simp;omega
 have po:0<xs.length:=by
  cases xs with
  |nil=>cases hnz
  |cons a l=>simp
 obtain⟨v0,lK,r⟩:=s.ok hk;obtain rfl:=sG lK
 suffices h:(Ob.row t v' (xs.take b.toNat)).ok F h ∧ ∀g,g∈v'.own→g∈v.own from s.pZ hk h.1 h.2
 have y8:∃b2 k2,v = .sl (some (b2,0)) xs.length (.of t.size k2):=by
  rcases r with⟨rfl,yi,_⟩|⟨b2,c,k2,css,bss,r⟩
  ·have:xs=[]:=yi;rw[this]at po;simp at po
  ·exact⟨b2,k2,r.form⟩
 rcases p with⟨rfl,hn,b3,len,k3,hv,hle⟩|⟨rfl,hn,hv⟩|⟨g,o,len,k1,k',hv,rfl,ho,te,om⟩
 ·obtain⟨b2,k2,hf⟩:=y8;rw[hf]at hv;simp only[gE.sl.injEq]at hv;simp at hle;omega
 ·obtain⟨b2,k2,hf⟩:=y8;rw[hf]at hv;cases hv
 ·have pX:o=0:=ho.elim (λq=>by simpa using q) λq=>q.2;subst pX;rcases r with⟨rfl,_,_⟩|⟨b2,c,k2,css,bss,r⟩
  ·cases hv
  ·have hf:v = .sl (some (b2,0)) xs.length (.of t.size k2):=r.form;rw[hf]at hv;simp only[gE.sl.injEq,km,jT,and_true]at hv;obtain⟨rfl,_,UL⟩:=hv;have vw:k1=k2:=by
    cases k1<;>cases k2<;>simp[Cap.of]at UL ⊢
    exact UL.symm
   subst vw;have Aj:k'=k1:=by rw[om];cases k1<;>simp
   subst Aj;obtain⟨rL,vA,vu⟩:∃rL:List (Cl t.size),qL t F rL xs∧c.take (xs.length*t.size)=(rL.map kg).flatten:=⟨css,⟨r.mr,λi d x q1 q2=>(r.rel i d x _ q1 q2 (jx (by rw[r.og];exact(kI.1 q2).1))).2⟩,r.cells⟩
   have ac0:qL t F (rL.take b.toNat) (xs.take b.toNat):=⟨by simp[vA.1],λi d x q1 q2=>by
    rw[oc]at q1 q2
    split at q1
    ·rw[if_pos (by assumption)]at q2;exact vA.2 i d x q1 q2
    ·cases q1⟩
   have pB:((rL.take b.toNat).map kg).flatten=c.take (b.toNat*t.size):=by
    have h1:((rL.take b.toNat).map kg).flatten.length=b.toNat*t.size:=by rw[vq (s:=t.size),kX,vA.1];congr 1;omega
    have h2:c.take (xs.length*t.size)=((rL.take b.toNat).map kg).flatten++((rL.drop b.toNat).map kg).flatten:=by
     rw[vu,←uu,←vM,u7]
    have h3:=congrArg (RX (b.toNat*t.size)) h2;rw[E7 h1,E8,xG (nL _ (by omega))]at h3;exact h3.symm
   have hE:mm (To.ma t) F h (rL.take b.toNat) ((xs.take b.toNat).map λ_=>[]) (xs.take b.toNat):=.flat ac0;have oW:=Qr r;have hmul:b.toNat*t.size≤xs.length*t.size:=nL _ (by omega);have R:=I8 (b:=b2) (c:=c) (k:=k') hE r.lt r.kG (by rw[hlen];exact pB.symm) (λq=>by rw[hlen];exact nY hmul oW) (λm q=>⟨(r.cap m q).1,by have q2:xs.length≤m:=(r.cap m q).2;omega⟩) (by have q2:xs.length≤2^30:=r.tc;omega) r.one (by rw[tQ];simp);rw[hlen]at R;exact⟨Ob.BO ⟨_,rfl,.inr ⟨_,_,_,_,_,R⟩⟩,λg hg=>by rw[hf];exact hg⟩
section
variable{P:iY}{E:EL}{X:List Nat}{h0 h:Hp}{F0 F:gL}{L:List Ob}
theorem Hf{α:Type}{tr:Tr α}{t e:iA}{v v':gE}{xs zs:List α}{x:iT}{TM:List gE}{x0:α}{a n:Nat}(j:Nat)(ht:P.underlying t=some (.slice e))(hz:(zeroV P e).map gE.cells=some TM)(BF:tr.rel F TM x0)(hx:iP E x=some v')(hS:St X h0 F0 F L h)(hj:L[j]? =some (.row tr v xs))(hp:A5 v v' tr.size a n)(hc:yc xs a n x0=some zs) :
  Ef P E h (.call { callee:=.builtin .clear,args:=#[x],argTypes:=#[t] }) (λ_ h'=>St X h0 F0 F (L.set j (.row tr v zs)) h'):=by
 obtain⟨hn,rfl⟩:=aae hc;obtain⟨z,mY,rfl⟩:=jR.1 hz;have same:∀u,n=0→(op:Option (gE×Hp))→op=some (u,h) → ∃v'' h',op=some (v'',h')∧St X h0 F0 F (L.set j (.row tr v (xs.take a++iV n x0))) h':=λu kP op ji=>by
  subst kP;refine⟨u,h,ji,?_⟩;have:xs.take a++iV 0 x0=xs:=by rw[List.replicate_zero,rY];exact xB (by omega)
  rw[this];exact hS.pZ hj (hS.ok hj) λb q=>q
 refine⟨rfl,?_⟩;have ev:∀q:Option (gE×Hp),Cs P h [t] v'=q→jS P E h (.call { callee:=.builtin .clear,args:=#[x],argTypes:=#[t] })=q:=λq hq=>by
  simp only[jS,tP,qa,AW,hx,qO,jy,wN,pure];exact hq
 rcases hp with⟨rfl,kP,_⟩|⟨rfl,kP,_⟩|⟨b,o,len,k,k',hv,rfl,ho,hk,_⟩
 ·exact same (.kx []) kP _ (ev _ (by simp[Cs,ht,mY]))
 ·exact same (.kx []) kP _ (ev _ (by simp[Cs,ht,mY]))
 ·by_cases kP:n=0
  ·exact same (.kx []) kP _ (ev _ (by simp[Cs,ht,mY,kP]))
  ·obtain⟨v0,lK,r⟩:=hS.ok hj;obtain rfl:=sG lK;rcases r with⟨rfl,yi,_⟩|⟨b2,c,k2,css,bss,r⟩
   ·cases hv
   ·have hf:v = .sl (some (b2,0)) xs.length (.of tr.size k2):=r.form;rw[hf]at hv;simp only[gE.sl.injEq,km,jT]at hv;obtain⟨⟨rfl,_⟩,_,_⟩:=hv;have zf:z.cells.length=tr.size:=tr.len BF;have pX:o=a*tr.size:=ho.elim id λq=>by omega
    subst pX;obtain⟨rL,vA,vu⟩:∃rL:List (Cl tr.size),qL tr F rL xs∧c.take (xs.length*tr.size)=(rL.map kg).flatten:=⟨css,⟨r.mr,λi d x q1 q2=>(r.rel i d x _ q1 q2 (jx (by rw[r.og];exact(kI.1 q2).1))).2⟩,r.cells⟩
    have nE:qL tr F (rL.take a++iV n (⟨z.cells,zf⟩:Cl tr.size)) (xs.take a++iV n x0):=⟨by simp[vA.1],λq dd y hq hy=>by
     by_cases UZ:q<a
     ·have pW:q<(rL.take a).length:=by simp[vA.1];omega
      have yg:q<(xs.take a).length:=by simp;omega
      rw[mU pW,List.getElem?_take_of_lt UZ]at hq;rw[mU yg,List.getElem?_take_of_lt UZ]at hy;exact vA.2 _ _ _ hq hy
     ·have pW:(rL.take a).length=a:=by simp[vA.1];omega
      have yg:(xs.take a).length=a:=by simp;omega
      rw[nq (by omega),pW]at hq;rw[nq (by omega),yg]at hy;rw[JI (pH hq),JI (pH hy)];exact BF⟩
    have yg:(xs.take a++iV n x0).length=xs.length:=by simp;omega
    have Bw:=agq r nE yg;have lT:=Qr r;have pB:((rL.take a).map kg).flatten=c.take (a*tr.size):=by
     have h1:((rL.take a).map kg).flatten.length=a*tr.size:=by rw[vq (s:=tr.size),kX,vA.1];congr 1;omega
     have h2:c.take (xs.length*tr.size)=((rL.take a).map kg).flatten++((rL.drop a).map kg).flatten:=by
      rw[vu,←uu,←vM,u7]
     have h3:=congrArg (RX (a*tr.size)) h2;rw[E7 h1,E8,xG (nL _ (by omega))]at h3;exact h3.symm
    have nZ:((iV n (⟨z.cells,zf⟩:Cl tr.size)).map kg).flatten=mT z.cells n:=by simp[mT]
    have mE:kA c (a*tr.size) (mT z.cells n)=((rL.take a++iV n (⟨z.cells,zf⟩:Cl tr.size)).map kg).flatten++c.drop (xs.length*tr.size):=by
     unfold kA;rw[vM,uu,pB,nZ]
     congr 2
     have:(mT z.cells n).length=n*tr.size:=by simp[mT,zf]
     rw[this,←hn,lQ]
    have adh:(mT z.cells n).length=n*tr.size:=by simp[mT,zf]
    have adi:(mT z.cells n).all gE.one=true:=by
     refine j9.2 λu hu=>?_;obtain⟨l,hl,hu⟩:=ny.1 hu;rw[JI hl]at hu;exact j9.1 (tr.one BF) u hu
    have oW:a*tr.size+(mT z.cells n).length≤c.length:=by
     rw[adh,←lQ,hn];exact lT
    have hblk:h.get b2=some (.cells tr.size c):=r.kG;refine⟨.kx [],_,ev _ (by
     simp only[Cs,E1,jy,ht,mY];rw[if_neg kP,if_pos (by rw[zf];exact tr.pos)];unfold p6;rw[hblk];simp only;rw[if_pos ⟨oW,adi⟩,mE];rfl),hS.pE hj Bw (jg _) (λq hq=>?_) (λq hq tU=>?_) λq hq=>.inl hq⟩
    ·have ss:h.next≤q:=hq;have:=r.lt;rw[Hp.jv,if_neg (by omega)];exact hS.wf q ss
    ·rw[Hp.jv,if_neg (λe'=>tU (by rw[e',hf];simp[Ob.row,gE.own]))]
end
end Go.V
end
section
namespace Go.Wk
def C5{α:Type}(cf:α→α→Int)(xs:List α):Option (List α):=if xs.length≤1073741824 then some (xk cf xs)else none
theorem ahZ{α:Type}{cf:α→α→Int}{xs r:List α}(h:C5 cf xs=some r):xs.length≤1073741824∧r=xk cf xs:=by
 unfold C5 at h
 split at h
 ·rename_i hc;exact⟨hc,(iK h).symm⟩
 ·cases h
def yT(a b:Int):Int:=if a<b then -1 else if b<a then 1 else 0
def Gu:List Int→Int
 |[]=>0
 |x::r=>if x≠0 then x else Gu r
end Go.Wk
namespace Go.V
open Go.Wk Go.Sort Go.Proofs
def Na:Tb:=λ_ _ _ _=>False
theorem XO{P:iY}:vO P Na:=λ_ _ _ _ h=>h.elim
theorem W2{P:iY}{K K0:Tb}{α:Type}{tr:Tr α}{f g z:Nat}{cf:α→α→Int}{fn:Func}{c:Code}(hK:∀args h M,Fh P K0 f z f args h M→K f args h M)(hz:tr.size=z)(hO:SWO (ltOf cf))(hT:∀x y,ltOf cf x y=false→ltOf cf y x=false→x=y)(xc:P.funcs[g]? =some fn)(pg:fn.body=some c)(FT:fn.name ≠ "runtime.NumGoroutine")
  (h0:∀a k w,iN P K f [.sl a 0 k,.f g []] w λu w'=>u = .kx []∧w'=w)
  (HZ:∀G h' cs x ds y,Gd G h'→tr.rel G cs x→tr.rel G ds y→iN P K0 g [.agg cs,.agg ds] h' λv _=>v = .i .i64 (cf x y))
  {F:gL} {w:Hp} {v:gE} {xs r:List α} (hS:St v.own w F F [.row tr v xs] w) (H:C5 cf xs=some r):iN P K f [v,.f g []] w λu w'=>∃F',u = .kx []∧St v.own w F F' [.row tr v r] w':=by
 obtain⟨_,rfl⟩:=ahZ H;have pf:St v.own w F F [.dp (To.ma tr) v.own v xs] w:=hS;refine(ah0 (t:=To.ma tr) hK hz (by rw[←hz];exact tr.pos) (zW.flat tr) hO xc pg FT h0 HZ pf).mono λu w' ⟨q1,l',kE,q2,q3,q4⟩=>⟨F,q1,?_⟩
 have e:l'=xk cf xs:=Wi hT q3 (Pr hO xs) (q2.trans (Gg cf xs).symm);subst e;have hb:kE=v.own:=Ep (q4.ok (i:=0) rfl);subst hb;exact q4
end Go.V
end
section
namespace Go.Wk
def EA(x:Int):UInt32:=kQ (x%4294967296).toNat
def L7(x:UInt32)(n:Int):Option UInt32:=if 0≤n∧n≤32 then some (kQ (x.toNat*2^n.toNat))else none
def C3(x:UInt32)(n:Int):Option UInt32:=if 0≤n∧n≤32 then some (kQ (x.toNat/2^n.toNat))else none
def GF(x n:Int):Option Int:=if 0≤n∧n≤64 then some (x/2^n.toNat)else none
theorem WB{x n r:Int}(h:GF x n=some r):0≤n∧n≤((Dg.bits:Nat):Int)∧r=x/2^n.toNat:=by
 unfold GF at h;split at h
 ·rename_i hc;exact⟨hc.1,hc.2,(iK h).symm⟩
 ·cases h
def Hq{α:Type}(xs:List α)(n:Int)(d:α):Option (List α):=if 0≤n∧(xs.length:Int)+n≤1073741824 then some (xs++iV n.toNat d)else none
theorem Yt{α:Type}{xs r:List α}{n:Int}{d:α}(h:Hq xs n d=some r):0≤n∧(xs.length:Int)+n≤1073741824∧r=xs++iV n.toNat d:=by
 unfold Hq at h;split at h
 ·rename_i hc;exact⟨hc.1,hc.2,(iK h).symm⟩
 ·cases h
end Go.Wk
namespace Go.V
open Go.Wk
def cW(x:UInt32):gE:=.i .u32 x.toNat
def tW:Tr UInt32:=⟨1,λ_ cs n=>cs=[cW n],by decide,λh=>by rw[h];rfl,λh=>by rw[h];rfl,λ_ h=>h⟩
def jL{α:Type}(n:Nat)(enc:α→gE)(d:α)(x:List α):List gE:=(mI n).map λi=>enc (x.getD i d)
section
variable{α:Type}{n:Nat}{enc:α→gE}{d:α}{x:List α}
theorem Ft:(jL n enc d x).length=n:=by simp[jL]
theorem Nr(h:x.length=n):jL n enc d x=x.map enc:=by
 apply JJ
 ·simp[jL,h]
 ·intro i h1 h2;have hi:i<x.length:=by simpa[jL,h]using h1
  simp[jL,hi]
theorem lR(h:x.length=n){i:Nat}{b:α}(hb:x[i]? =some b):(jL n enc d x)[i]? =some (enc b):=by rw[Nr h];simp[hb]
theorem DF(h:x.length=n){i:Nat}(hi:i<n)(b:α):kA (jL n enc d x) (0+i) [enc b]=jL n enc d (x.set i b):=by
 rw[Nr h,Nr (by simpa using h),jn];apply Ca;intro j;rw[AB (by simp;omega)]
 by_cases hj:j=i
 ·subst hj;rw[if_pos (by simp),Nat.sub_self,List.map_set,uv (by simp;omega)];rfl
 ·rw[if_neg (by simp;omega)];simp only[sF];rw[wI (λq=>hj q.symm)]
theorem jZ(h:x.length=n){i:Nat}{b:α}(hb:x[i]? =some b):i<n:=by rw[←h];exact(kI.1 hb).1
theorem Va(x:List UInt8):iJ x=jL 32 cB 0 x:=rfl
theorem Vb{x:List UInt8}(h:x.length=32){i:Nat}(hi:i<32)(b:UInt8):kA (iJ x) (0+i) [cB b]=iJ (x.set i b):=by
 rw[Va,Va];exact DF h hi b
end
theorem SX{P:iY}{t:iA}{j:pQ}{x r:UInt32}{n:Int}(h:L7 x n=some r):kJ P .shl t (.i .u32 (x.toNat:Int)) (.i j n)=some (.i .u32 (r.toNat:Int)):=by
 unfold L7 at h
 split at h
 ·rename_i hc;obtain rfl:=iK h;rw[Hr (k:=.u32) hc.1 hc.2,EB,Hd];have e:((x.toNat*2^n.toNat:Nat):Int)=(x.toNat:Int)*2^n.toNat:=by rw[JG,RN];rfl
  rw[←e]
  congr 2
 ·cases h
theorem J6{P:iY}{t:iA}{j:pQ}{x r:UInt32}{n:Int}(h:C3 x n=some r):kJ P .shr t (.i .u32 (x.toNat:Int)) (.i j n)=some (.i .u32 (r.toNat:Int)):=by
 unfold C3 at h
 split at h
 ·rename_i hc;obtain rfl:=iK h;rw[vh (k:=.u32) hc.1 hc.2,Hd]
  congr 2
  have h1:x.toNat/2^n.toNat<2^32:=R3 (Nat.div_le_self _ _) x.toNat_lt;rw[zQ h1,Int.natCast_ediv,RN];rfl
 ·cases h
theorem aie(x:Int):AS.wrap x=((EA x).toNat:Int):=by
 rw[EB,EA,Hd];omega
theorem Xq(x:UInt32):GL .xor (.i .u32 (x.toNat:Int))=some (.i .u32 ((~~~x).toNat:Int)):=by
 have e:(4294967295:UInt32) ^^^x = ~~~x:=by
  apply UInt32.toBitVec_inj.1;rw[UInt32.toBitVec_xor,UInt32.toBitVec_not,BitVec.xor_comm];exact BitVec.xor_allOnes
 have h:=Go.Wk.u32_xor (4294967295:UInt32) x;rw[e]at h;exact congrArg (λz=>some (gE.i .u32 z)) h
section
variable{P:iY}{G:gL}{E:EL}
theorem Sy{op:UnOp}{t:iA}{x:iT}{a v:gE}(hx:iP E x=some a)(hv:GL op a=some v):Rd P G E (.unOp op t x) v:=by
 refine⟨rfl,λh _=>?_⟩;simp[jS,hx,hv]
theorem kD{t e:iA}{m:Nat}{x y:iT}{b o:Nat}{kk:pQ}{n:Int}(ht:P.underlying t=some (.array m e))(hz:sz P e=some 1)(hx:iP E x=some (pl b o))(hy:iP E y=some (.i kk n))(h0:0≤n)(h1:n.toNat<m):Rd P G E (.indexAddr t x y) (pl b (o+n.toNat)):=by
 refine⟨rfl,λh _=>?_⟩;simp only[jS,hx,hy,jy,Eb,uc];rw[if_pos h0];simp only[jy,ht,hz];rw[if_pos h1,MZ];rfl
def J9(P:iY)(t:iA):Option (Nat×List gE):=(zeroV P t).bind λzero=>match P.underlying t with
 |some (.array _ e)=>(sz P e).map λz=>(z,zero.cells)
 |_=>none
theorem Hk{t:iA}{ps:Array (Nat×iT)}{z:Nat}{zc:List gE}{vs:List (Nat×gE)}{v:gE}(ht:J9 P t=some (z,zc))(hp:DQ E ps.toList=some vs)(hf:(oS (λi=>some (i*z,z)) zc vs).map gE.agg=some v):Rd P G E (.build t ps) v:=by
 refine⟨rfl,λh _=>?_⟩;unfold J9 at ht;rw[iO]at ht;obtain⟨zero,h1,ht⟩:=ht
 split at ht
 ·rename_i m e hu;obtain⟨z',h2,e'⟩:=jR.1 ht;obtain⟨rfl,rfl⟩:=Sb e';simp only[jS,hp,jy,Fx,h1,hu,h2,hf,lE]
 ·cases ht
end
section
variable{P:iY}{E:EL}{X:List Nat}{h0 h:Hp}{F0 F:gL}{L:List Ob}
theorem Ce{t:iA}{x y:iT}{g o:Nat}{cs cs':List gE}{u:gE}(k:Nat)(hx:iP E x=some (pl g o))(hy:iP E y=some u)(hS:St X h0 F0 F L h)(hk:L[k]? =some (.box g cs))(h1:u.one=true)(hz:sz P t=some 1)(oW:o<cs.length)(mX:kA cs o [u]=cs') :
  Ef P E h (.store t x y) (λ_ h'=>St X h0 F0 F (L.set k (.box g cs')) h'):=by
 obtain⟨q1,q2,q3⟩:=hS.Fw k hk;have hc:u.cells=[u]:=by cases u<;>first|rfl|cases h1
 subst mX;have Ah:[u].all gE.one=true:=by simp[h1]
 have hf:o+[u].length≤cs.length:=by simp;omega
 have nS:(kA cs o [u]).all gE.one=true:=by
  unfold kA;rw[lz,lz,Ah];have p1:(cs.take o).all gE.one=true:=j9.2 λx hx=>j9.1 q3 x (sJ hx);have p2:(cs.drop (o+[u].length)).all gE.one=true:=j9.2 λx hx=>j9.1 q3 x (sI hx);rw[p1,p2];rfl
 have hlen:=tv (c:=cs) (o:=o) (vs:=[u]) hf;refine⟨rfl,.no,h.set g (.cells cs.length (kA cs o [u])),?_,hS.pE hk (NB (by rw[Hp.jv,if_pos rfl,hlen]) q2 nS) (jg _) (λb hb=>?_) (λb hb hn=>?_) λb hb=>.inl hb⟩
 ·simp only[jS,hx,hy,jy,BY,hz,hc];rw[if_pos (by simp)];unfold p6;rw[q1];simp only;rw[if_pos ⟨hf,Ah⟩];rfl
 ·have jM:h.next≤b:=hb;rw[Hp.jv,if_neg (by omega)];exact hS.wf b jM
 ·rw[Hp.jv,if_neg (λe=>hn (by rw[e];simp[Ob.box]))]
theorem XH{α:Type}{t:Tr α}{ts tx e:iA}{sx xx:iT}{v:gE}{xs zs:List α}{n:Int}{d:α}{kk:pQ}(k:Nat)(ht:P.underlying ts=some (.slice e))(rm:pC P e t.size=true)(vB:rV P tx=some true)(BF:∀z,zeroV P e=some z→t.rel F z.cells d)(hs:iP E sx=some v)(xj:iP E xx=some (.i kk n))(hS:St X h0 F0 F L h)(hk:L[k]? =some (.row t v xs))(hz:Hq xs n d=some zs) :
  Ef P E h (.call { callee:=.builtin .append,args:=#[sx,xx],argTypes:=#[ts,tx] }) (λv' h'=>St X h0 F0 F (L.set k (.row t v' zs)) h'):=by
 obtain⟨n0,sr,rfl⟩:=Yt hz;obtain⟨inf,zero,r1,r2,r3,r4,r5,r6,r7⟩:=CZ rm;have mY:=BF _ r3;have c1:qL t F (iV n.toNat (⟨zero.cells,r4⟩:Cl t.size)) (iV n.toNat d):=⟨by simp,λi d' x q1 q2=>by
  rw[JI (pH q1),JI (pH q2)];exact mY⟩
 have hE:mm (To.ma t) F h (iV n.toNat (⟨zero.cells,r4⟩:Cl t.size)) ((iV n.toNat d).map λ_=>[]) (iV n.toNat d):=.flat c1;obtain⟨v',h',kE,q1,q2,q3,q4,q5,q6⟩:=To.L1 (t:=To.ma t) r5 (hS.ok hk) hE (by rw[tQ];exact AY) (λg hg=>by rw[tQ]at hg;cases hg) hS.wf (by simp only[vL];show xs.length+n.toNat≤2^30;omega);refine⟨rfl,v',h',?_,hS.pE hk (Ob.BO q2) q3 q4 q5 λb hb=>?_⟩
 ·have Ig:xp (.i kk n)=some n.toNat:=by unfold xp;simp only;rw[if_pos ⟨n0,by omega⟩]
  have nZ:((iV n.toNat (⟨zero.cells,r4⟩:Cl t.size)).map kg).flatten=mT zero.cells n.toNat:=by simp[mT]
  have hlen:(mT zero.cells n.toNat).length=n.toNat*t.size:=by simp[mT,r4]
  have rl:(mT zero.cells n.toNat).all gE.one=true:=by rw[←nZ];exact hE.xL
  simp only[jS,tP,qa,AW,hs,xj,qO,Co,ht,r1,r2,r3,vB,CP,Ig,jy,cond_true,pure,wN];rw[if_pos r4];simp only[jy];rw[if_pos ⟨r4,r5,by omega,r6,r7,hlen,rl⟩];rw[vL]at q1;have En:vS h t.size n.toNat ((iV n.toNat (⟨zero.cells,r4⟩:Cl t.size)).map kg).flatten v=some (v',h'):=q1;rw[nZ]at En;exact En
 ·have:=Ep q2;have jM:b∈v'.own:=hb;rw[←this]at jM;rcases q6 b jM with q|q|q
  ·exact .inl q
  ·rw[tQ]at q;cases q
  ·exact .inr q
theorem XU{G:gL}{t e:iA}{z:Nat}{x:iT}{ol oh:Option iT}(ht:P.underlying t=some (.slice e))(hz:sz P e=some z)(hx:iP E x=some (.sl none 0 (.k 0)))(hl:Bd E ol 0 0)(hh:Bd E oh 0 0):Rd P G E (.slice t x ol oh none) (.sl none 0 (.k 0)):=by
 refine⟨rfl,λh _=>?_⟩;obtain⟨lo,l1,l2⟩:=hl.val;obtain⟨lY,r1,r2⟩:=hh.val;have n0:xa E none=some none:=rfl;simp only[jS,hx,l1,r1,n0,jy,ry,ht,hz];rw[xM (len:=0) l2 r2 (by omega) (by omega) (by omega) (jg _)];rfl
theorem Sv{G:gL}{T e:iA}{x:iT}(ht:P.underlying T=some (.slice e))(hx:iP E x=some (.sl none 0 (.k 0))):Rd P G E (.call { callee:=.builtin .len,args:=#[x],argTypes:=#[T] }) (.i .i64 0):=jV (n:=0) ht hx (.inr ⟨none,_,rfl,λ_=>rfl⟩)
theorem Sr{G:gL}{T e:iA}{x:iT}(ht:P.underlying T=some (.slice e))(hx:iP E x=some (.sl none 0 (.k 0))):Rd P G E (.call { callee:=.builtin .cap,args:=#[x],argTypes:=#[T] }) (.i .i64 0):=by
 refine⟨rfl,λh _=>?_⟩;simp[jS,tP,hx,qO,Kb,ht]
end
end Go.V
end
section
namespace Go.V
open Go.Wk
structure Hg{α β:Type}(t:To α)(tr:Tr β)(f:Nat)(get:α→List β)(set:α→List β→α):Prop where
 lt:f<t.size
 op:∀{F h e cs x},t.rel F h e cs x → ∃u,cs[f]? =some u∧(To.row (To.ma tr)).rel F h e [u] (get x)
 cl:∀{F h e cs x F' h' e' u' l'},t.rel F h e cs x→F.le F'→(To.row (To.ma tr)).rel F' h' e' [u'] l'→t.rel F' h' e' (kA cs f [u']) (set x l')
def To.hu{α:Type}(t:To α)(f:Nat)(u:gE):To α where
 size:=t.size
 rel F h bs cs x:=bs=[] ∧ ∃h0 e0,t.rel F h0 e0 cs x∧cs[f]? =some u
 len:=λ⟨_,_,_,q,_⟩=>t.len q
 one:=λ⟨_,_,_,q,_⟩=>t.one q
 lt:=λ⟨q,_⟩ b hb=>by rw[q]at hb;cases hb
 nodup:=λ⟨q,_⟩=>by rw[q];exact AY
 mono:=λl ⟨q,h0,e0,q1,q2⟩=>⟨q,h0,e0,t.mono l q1,q2⟩
 frame:=λq _ _=>q
abbrev To.CG{α:Type}(t:To α)(f:Nat)(u:gE):To (α×Bool):=To.tag t (t.hu f u) rfl
def xN{α:Type}(i:Nat)(l:List α):List (α×Bool):=l.mapIdx λj x=>(x,decide (j≠i))
theorem Ta{α:Type}(i:Nat)(l:List α):(xN i l).length=l.length:=by simp[xN]
theorem wT{α:Type}{i j:Nat}{l:List α}{x:α}(h:l[j]? =some x):(xN i l)[j]? =some (x,decide (j≠i)):=by simp[xN,h]
section
variable{α β:Type}{t:To α}{tr:Tr β}{f:Nat}{get:α→List β}{set:α→List β→α}{X:List Nat}{h0 h:Hp}{F0 F:gL}{L:List Ob}{bs mh:List Nat}{v:gE}{xs:List α}{x:α}{i:Nat}
theorem St.focus(fo:Hg t tr f get set)(k:Nat)(s:St X h0 F0 F L h)(hk:L[k]? =some (.dp t bs v xs))(hi:xs[i]? =some x):∃u mh cs,nM (kq h) v t.size i cs∧cs[f]? =some u∧St X h0 F0 F (.row tr u (get x)::L.set k (.dp (t.CG f u) mh v (xN i xs))) h:=by
 obtain⟨cs,e,hr,F5,he,hsw⟩:=To.agv (t:=t) (s.ok hk) hi;have po:0<t.size:=R3 (ju _) fo.lt;obtain⟨u,hu,rm⟩:=fo.op hr;obtain⟨mh,hh2,xe⟩:=hsw (t.CG f u) (xN i xs) (x,false) [] rfl (Ta _ _) (by rw[wT hi];simp) (λj x y e cs hj h1 h2 h3=>by
  have Ah:xs[j]? =some x:=h1;rw[wT Ah]at h2;obtain rfl:=iK h2;exact .inl ⟨by simpa using hj,h3⟩) (.inr ⟨rfl,rfl,h,e,hr,hu⟩) (λg hg=>by cases hg)
 have Bx:e=u.own:=Ep rm;subst Bx;have Oz:=s.part (i:=k) (.row tr u (get x)) (.dp (t.CG f u) mh v (xN i xs)) hk rm hh2 F5 (λg hg=>((xe g).1 hg).elim (λq=>q.1) λq=>by cases q) (λg hg pg=>((xe g).1 pg).elim (λq=>q.2 hg) λq=>by cases q);exact⟨u,mh,cs,he po,hu,Oz⟩
theorem aiq{u:gE}{y:α}(hi:i<xs.length)(r:(Ob.dp (t.CG f u) bs v ((xN i xs).set i (y,true))).ok F h):(Ob.dp t bs v (xs.set i y)).ok F h :=
 To.agr (t:=t.CG f u) (s:=t) (xs:=(xN i xs).set i (y,true)) (ys:=xs.set i y) rfl r (by simp[xN]) λj a b e cs h1 h2 h3=>by
  by_cases hj:j=i
  ·subst hj;rw[uv (by rw[Ta];exact hi)]at h1;rw[uv hi]at h2;obtain rfl:=iK h1;obtain rfl:=iK h2;exact h3.elim (λq=>q.2) λq=>by cases q.1
  ·rw[wI (λq=>hj q.symm)]at h1 h2;rw[wT h2]at h1;obtain rfl:=iK h1;exact h3.elim (λq=>q.2) λq=>absurd q.1 (by simpa using hj)
end
section
variable{P:iY}{E:EL}{α β:Type}{t:To α}{tr:Tr β}{f:Nat}{get:α→List β}{set:α→List β→α}{X:List Nat}{h0 h:Hp}{F0 F:gL}{L:List Ob}{bs mh:List Nat}{v:gE}{xs:List α}{x:α}
theorem M7{ty:iA}{u u':gE}{l':List β}{xo yo:iT}{o:Nat}(fo:Hg t tr f get set)(i:Nat)(hx:iP E xo=some (oy v o))(hy:iP E yo=some u')(hS:St X h0 F0 F (.row tr u' l' :: .dp (t.CG f u) bs v (xN i xs)::L) h)(hi:xs[i]? =some x)(ho:o=i*t.size+f)(hz:sz P ty=some 1) :
  Ef P E h (.store ty xo yo) (λ_ h'=>∃kE,St X h0 F0 F (.dp t kE v (xs.set i (set x l'))::L) h'):=by
 have po:0<t.size:=R3 (ju _) fo.lt;have rm:(To.row (To.ma tr)).rel F h u'.own [u'] l':=hS.ok (i:=0) rfl;have rl:=(To.Gz rm).cells;have pf:St X h0 F0 F (⟨To.row (To.ma tr),u'.own,[u'],l'⟩ :: .dp (t.CG f u) bs v (xN i xs)::L) h:=hS;have jU:=(kI.1 hi).1;obtain⟨q0,v',h',q1,kE,q2⟩:=XN (P:=P) (E:=E) (ty:=ty) (u:=u') (xo:=xo) (yo:=yo) (o:=o) i f (x,false) (set x l',true) (t:=t.CG f u) po hx hy pf (by rw[wT hi];simp) ho rl hz fo.lt (λh cs e r1 r2=>by
  rcases r1 with⟨r1,_⟩|⟨_,_,h1,e1,r1,_⟩
  ·cases r1
  ·exact .inl ⟨rfl,fo.cl r1 (gL.le.refl _) r2⟩)
 refine⟨q0,v',h',q1,kE,?_⟩;have:=q2.pZ (i:=0) (o':=.dp t kE v (xs.set i (set x l'))) rfl (aiq jU (q2.ok (i:=0) rfl)) (λb q=>q);simpa using this
end
section
variable{α:Type}{t:To α}{tr:Tr α}{X:List Nat}{h0 h:Hp}{F0 F:gL}{L:List Ob}{bs:List Nat}{v:gE}{xs:List α}
theorem St.FN(s:zW t tr)(k:Nat)(hS:St X h0 F0 F L h)(hk:L[k]? =some (.dp t bs v xs)):∃F',F.le F'∧St X h0 F0 F' (L.set k (.row tr v xs)) h:=by
 obtain⟨v0,lK,r⟩:=hS.ok hk;obtain rfl:=sG lK;have UM:=(kI.1 hk).1;rcases r with⟨rfl,yi,Uv⟩|⟨b,c,kk,css,bss,r⟩
 ·have adg:xs=[]:=yi;subst adg;exact⟨F,gL.le.refl _,hS.pZ hk (o':=.row tr (.sl none 0 (.k 0)) []) ⟨_,rfl,.inl ⟨rfl,rfl,rfl⟩⟩ λb hb=>by cases hb⟩
 ·have y7:bs=b::bss.flatten:=r.vr;have uN:bs.Nodup:=r.nodup;rw[y7]at uN;obtain⟨rk,rN⟩:=tH.1 uN;have Bx:=(hS.own k _ hk).2;have sV:∀g,g∈bss.flatten→(∀q,F g q=none)∧(h0.next≤g∨g∈X):=λg hg=>Bx g (by show g∈bs;rw[y7];exact mV _ hg);have Uu:(∀q,F b q=none)∧(h0.next≤b∨b∈X):=Bx b (by show b∈bs;rw[y7];simp);have hle:=gL.LJ (h:=h) (F:=F) λg hg=>(sV g hg).1;have y8:v = .sl (some (b,0)) xs.length (.of t.size kk):=r.form;have hs:=s.size;obtain⟨mK,oA,DT,hc3⟩:∃mK:List (Cl (To.ma tr).size),mK.length=css.length∧mK.map kg=css.map kg ∧ ∀(i:Nat)(d:Cl (To.ma tr).size),mK[i]? =some d → ∃d0,css[i]? =some d0∧d.1=d0.1 :=
   ⟨css.map (λd=>(⟨d.1,d.2.trans hs⟩:Cl (To.ma tr).size)),by simp,by rw[yH];rfl,λi d q=>by
    rw[sF]at q;obtain⟨d0,rO,rfl⟩:=jR.1 q;exact⟨d0,rO,rfl⟩⟩
  have rm:(Ob.row tr v xs).ok (F.plus h bss.flatten) h:=by
   refine Ob.BO (bs:=b::(xs.map λ_=>([]:List Nat)).flatten) ⟨_,rfl,.inr ⟨b,c,kk,mK,xs.map λ_=>[],?_⟩⟩;refine⟨by rw[y8,hs];rfl,by rw[r.kG,hs];rfl,r.lt,by rw[oA];exact r.mr,by simp,λi d x e q1 q2 q3=>?_,?_,λq=>by have:=r.Az q;rw[hs]at this;exact this,λm q=>by have:=r.cap m q;rw[hs]at this;exact this,r.tc,r.one,rfl,by rw[tQ];simp⟩
   ·rw[sF]at q3;obtain⟨d0,rO,tR⟩:=hc3 i d q1;have jU:=(kI.1 q2).1;have he:e=[]:=by
     rw[jx jU]at q3;exact(iK q3).symm
    have Ut:i<bss.length:=by rw[r.og];exact jU
    refine⟨he,tR▸s.rel (r.rel i d0 x _ rO q2 (jx Ut)) hle λg hg o u hu=>?_⟩;unfold gL.plus;rw[if_pos (ny.2 ⟨_,List.getElem_mem Ut,hg⟩)];exact hu
   ·have h1:c.take (xs.length*tr.size)=(css.map kg).flatten:=by rw[←hs];exact r.cells
    exact h1.trans (congrArg List.flatten DT.symm)
  have Pf:v.own=[b]:=by rw[y8];rfl
  have hnk:∀(j:Nat)(p:Ob)(g:Nat),j≠k→L[j]? =some p→g∈p.bs→g∉bs:=λj p g hj hp hg pg=>hj (hS.apart j k p _ g hp hk hg pg);refine⟨F.plus h bss.flatten,hle,hS.next,hS.wf,hS.ua,λg q u e=>?_,hS.ext.trans hle,λg q u e=>?_,λj p hj=>?_,λj j' p p' g hj ph hg pV=>?_⟩
  ·unfold gL.plus at e
   split at e
   ·exact e
   ·exact hS.agree g q u e
  ·unfold gL.plus at e
   split at e
   ·rename_i hg;exact .inr (sV g hg).2
   ·exact hS.new g q u e
  ·by_cases xd:j=k
   ·subst xd;rw[uv UM]at hj;obtain rfl:=iK hj;refine⟨rm,λg hg=>?_⟩;have pV:g∈v.own:=hg;rw[Pf]at pV;have:g=b:=by simpa using pV
    subst this;refine⟨λq=>?_,Uu.2⟩;unfold gL.plus;rw[if_neg rk];exact Uu.1 q
   ·rw[wI (λq=>xd q.symm)]at hj;obtain⟨t1,t2⟩:=hS.own j p hj;refine⟨p.t.mono hle t1,λg hg=>⟨λq=>?_,(t2 g hg).2⟩⟩;unfold gL.plus;rw[if_neg λz=>hnk j p g xd hj hg (by rw[y7];exact mV _ z)];exact(t2 g hg).1 q
  ·have Xg:∀(j:Nat)(p:Ob),(L.set k (.row tr v xs))[j]? =some p → ∃p0,L[j]? =some p0 ∧ ∀g,g∈p.bs→g∈p0.bs:=λj p hj=>by
    by_cases xd:j=k
    ·subst xd;rw[uv UM]at hj;obtain rfl:=iK hj;refine⟨_,hk,λg hg=>?_⟩;have pV:g∈v.own:=hg;rw[Pf]at pV;show g∈bs;rw[y7];have:g=b:=by simpa using pV
     simp[this]
    ·rw[wI (λq=>xd q.symm)]at hj;exact⟨p,hj,λg hg=>hg⟩
   obtain⟨p0,e1,e2⟩:=Xg j p hj;obtain⟨p1,e3,e4⟩:=Xg j' p' ph;exact hS.apart j j' p0 p1 g e1 e3 (e2 g hg) (e4 g pV)
end
section
variable{α:Type}{t:To α}{F:gL}{h:Hp}{bs:List Nat}{v:gE}{xs:List α}
theorem To.ags(po:0<t.size)(r:(To.row t).rel F h bs [v] xs):∃css bss,mm t F h css bss xs∧bss.flatten.Nodup∧(∀g,g∈bss.flatten→g∈bs)∧As v=some xs.length∧oL h t.size xs.length v=some (css.map kg).flatten:=by
 obtain⟨v0,lK,r⟩:=r;obtain rfl:=sG lK;rcases r with⟨rfl,rfl,_⟩|⟨b,c,k,css,bss,r⟩
 ·exact⟨[],[],.nil,AY,(λg hg=>by simp at hg),rfl,rfl⟩
 ·have hf:=r.form;have uN:=r.nodup;rw[r.vr]at uN;have oW:xs.length*t.size≤c.length:=by
   cases k with
   |none=>exact r.Az rfl
   |some m=>obtain⟨q1,q2⟩:=r.cap m rfl;rw[q1];exact nL _ q2
  refine⟨css,bss,⟨r.mr,r.og,r.rel⟩,(tH.1 uN).2,λg hg=>by rw[r.vr];exact mV _ hg,by rw[hf];rfl,?_⟩;rw[hf];simp only[oL]
  split
  ·rename_i h0;have:css=[]:=nK (by rw[r.mr];exact h0);subst this;rfl
  ·unfold rd;rw[r.kG];simp only[jn,ur];rw[if_pos oW,r.cells]
theorem St.Bk{X:List Nat}{h0:Hp}{F0:gL}{L:List Ob}{k i:Nat}{x:α}(hS:St X h0 F0 F L h)(hk:L[k]? =some (.dp t bs v xs))(hi:xs[i]? =some x):zU v i:=by
 obtain⟨v0,lK,r⟩:=hS.ok hk;obtain rfl:=sG lK;have jU:=(kI.1 hi).1;rcases r with⟨rfl,yi,_⟩|⟨b,c,k,css,bss,r⟩
 ·have:xs=[]:=yi;subst this;simp at jU
 ·exact⟨b,0,_,_,r.form,jU⟩
theorem To.agt{P:iY}{ty e:iA}{lo hi:Option gE}{a b:Int}(r:(To.row t).rel F h bs [v] xs)(ht:P.underlying ty=some (.slice e))(hz:sz P e=some t.size)(sW:yJ lo 0 a)(rP:yJ hi xs.length b)(h0:0≤a)(h1:a≤b)(h2:b≤(xs.length:Int)):∃v',ry P ty v lo hi none=some v':=by
 obtain⟨v0,lK,r⟩:=r;obtain rfl:=sG lK;rcases r with⟨rfl,rfl,_⟩|⟨g,c,m,css,bss,r⟩
 ·refine⟨_,by unfold ry;simp only[ht,hz,jy];rw[xM (len:=0) sW rP h0 h1 h2 (jg _)];rfl⟩
 ·have hf:=r.form;subst hf;cases m with
  |some m=>exact⟨_,by unfold ry;simp only[Cap.CR,ht,hz,jy];rw[xM sW rP h0 h1 h2 (r.cap m rfl).2];rfl⟩
  |none=>exact⟨_,by unfold ry;simp only[Cap.Aw,ht,hz,jy,if_true];rw[xM sW rP h0 h1 h2 (jg _)];rfl⟩
end
section
variable{P:iY}{K:Tb}{fn:Func}{k:oe}{E:EL}{h:Hp}{A:List Oper}{dr:Bool}{G:gL}{L:List Nat}{i d:Nat}{X:List Nat}{h0:Hp}{F0 F:gL}{Lo:List Ob}
theorem Ni{α:Type}{t:To α}{ty e:iA}{v:gE}{bs:List Nat}{xs:List α}{x:iT}{ol oh:Option iT}(j:Nat)(a b:Int)(hi:lC i A.length=true)(hw:mf A E (ir A i)=some true)(hd:(ir A i).dst=some d)(ji:(ir A i).op = .slice ty x ol oh none)
  (ht:P.underlying ty=some (.slice e)) (hz:sz P e=some t.size) (hx:iP E x=some v) (hl:Bd E ol 0 a) (hh:Bd E oh xs.length b) (hS:St X h0 F0 F Lo h) (hj:Lo[j]? =some (.dp t bs v xs)) (q0:0≤a) (q1:a≤b) (q2:b≤(xs.length:Int))
  (q:∀v',W P K fn k A dr G L ((d,v')::E) h):W P K fn k A dr G (i::L) E h:=by
 obtain⟨lo,l1,l2⟩:=hl.val;obtain⟨lY,r1,r2⟩:=hh.val;obtain⟨v',k1⟩:=To.agt (P:=P) (hS.ok hj) ht hz l2 r2 q0 q1 q2;refine j8 (v:=v') hi hw hd (by rw[ji];rfl) (λh=>?_) (q v');rw[ji];have n0:xa E none=some none:=rfl;simp only[jS,hx,l1,r1,n0,jy,k1,lE]
end
section
variable{P:iY}{E:EL}{X:List Nat}{h0 h:Hp}{F0 F:gL}{L:List Ob}
theorem M5{α:Type}{t:To α}{ts tx e:iA}{sx xx:iT}{v v2:gE}{bs mh:List Nat}{xs ys zs:List α}(ht:P.underlying ts=some (.slice e))(rm:pC P e t.size=true)(vB:rV P tx=some false)(hs:iP E sx=some v)(xj:iP E xx=some v2)(hS:St X h0 F0 F (.dp t mh v2 ys :: .dp t bs v xs::L) h)(hz:app xs ys=some zs) :
  Ef P E h (.call { callee:=.builtin .append,args:=#[sx,xx],argTypes:=#[ts,tx] }) (λv' h'=>∃kE,St X h0 F0 F (.dp t kE v' zs::L) h'):=by
 obtain⟨sr,rfl⟩:=Fs hz;obtain⟨inf,zero,r1,r2,r3,r4,r5,r6,r7⟩:=CZ rm;have hk:(.dp t mh v2 ys :: .dp t bs v xs::L:List Ob)[1]? =some (.dp t bs v xs):=rfl;obtain⟨css,bss,hE,kV,F5,c3,c4⟩:=To.ags (t:=t) (bs:=mh) (v:=v2) (xs:=ys) r5 (hS.ok (i:=0) rfl);have DS:∀g,g∈mh→g∉bs:=λg h1 h2=>by
  have:=hS.apart 0 1 _ _ g rfl hk h1 h2;omega
 obtain⟨v',h',kE,q1,q2,q3,q4,q5,q6⟩:=To.L1 (t:=t) (bs:=bs) (v:=v) (xs:=xs) r5 (hS.ok hk) hE kV (λg hg=>DS g (F5 g hg)) hS.wf sr;refine⟨rfl,v',h',?_,kE,hS.join _ q2 q3 q4 (λb hb _ hn=>q5 b hb hn) λb hb=>?_⟩
 ·have lT:=hE.mr;simp only[jS,tP,qa,AW,hs,xj,qO,Co,ht,r1,r2,r3,vB,CP,c3,jy,lE,cond_false,pure,wN];rw[c4];simp only[lE,jy];rw[if_pos ⟨r4,r5,by omega,r6,r7,by rw[vq css,lT],hE.xL⟩];exact q1
 ·rcases q6 b hb with q|q|q
  ·exact .inr (.inl q)
  ·exact .inl (F5 b q)
  ·exact .inr (.inr q)
theorem M6{α:Type}{t:To α}{ts e:iA}{n:Nat}{ps:Array (Nat×iT)}{u:gE}{x:α}(ht:P.underlying ts=some (.slice e))(rm:pC P e t.size=true)(hp:DQ E ps.toList=some (Gn 0 [u]))(hr:t.rel F h [] u.cells x)(hn:n=1)(hle:xC t.size 16777216=true)(hS:St X h0 F0 F L h) :
  Ef P E h (.buildSlice ts n ps) (λv' h'=>∃kE,St X h0 F0 F (.dp t kE v' [x]::L) h'):=by
 subst hn;obtain⟨inf,zero,r1,r2,r3,r4,r5,r6,r7⟩:=CZ rm;have hE:mm t F h [⟨u.cells,t.len hr⟩] [[]] [x]:=.one hr;have nS:u.cells.all gE.one=true:=t.one hr;have acE:=kY hle;have H3:=Od (z:=t.size) r4 [u] 0 [] (λw hw=>by simp at hw;subst hw;exact t.len hr) (by simp);simp only[wM,qI,E4,o7,MR,rY,List.length_singleton]at H3;have R:=I7 (h1:=h) (m:=some 1) (post:=[]) hE rfl (λg q=>rfl) (by simp) (by simp) (λ_=>rfl) (λq e=>by obtain rfl:=iK e;exact⟨by simp,by simp⟩) rfl;simp only[qI,E4,o7,MR,rY]at R;refine⟨rfl,.sl (some (h.next,0)) 1 (.k 1),_,?_,[h.next],hS.fresh ⟨vN _,EE rfl hS.wf,λb hb=>?_⟩ ⟨_,rfl,.inr ⟨_,_,_,_,_,R⟩⟩ (λb hb=>?_)⟩
 ·simp only[jS,hp,jy,Cq,ht,r1,r3];rw[if_pos ⟨by omega,r4,r5⟩,H3];simp only[jy,ru];rw[if_pos nS];rfl
 ·rw[Hp.lI,if_neg (by omega)]
 ·have:b=h.next:=by simpa[Ob.dp]using hb
  omega
end
end Go.V
end
section
namespace Go.V
open Go.Wk
section
variable{P:iY}{K0:Tb}
def Cg(P:iY)(K0:Tb)(f:nI):Tb:=λf' args h M=>f'=f ∧ ∃b n z c rest,args = .sl (some (b,0)) n (.op z)::rest∧h.get b=some (.cells z c)∧n*z≤c.length ∧
 ∀m,n≤m→c.length≤m*z→iN P K0 f (.sl (some (h.next,0)) n (.k m)::rest) ((h.set b .dead).new (.cells z (c++iV (m*z-c.length) .un))) M
theorem M9(hK:vO P K0){f:nI}:vO P (Cg P K0 f):=by
 rintro f' args h M ⟨rfl,b,n,z,c,rest,rfl,hg,hn,hx⟩ ρ w nP r hr;obtain⟨a0,ar,rfl⟩:∃a0 ar,nP=a0::ar:=by
  cases nP with
  |nil=>exact absurd hr.1 (by simp)
  |cons a r=>exact⟨a,r,rfl⟩
 have h0:=hr.head;cases h0 with
 | so hb zd p1 p2 =>
  rename_i m i;obtain⟨b1,b2,b3,b4,b5,b6⟩:=r.kG _ _ _ hb hg;rw[jn,b2]at p1;rw[sZ]at p2;have hc:c.length≤m*i.z:=p1;have nS:(c++iV (m*i.z-c.length) gE.un).all gE.one=true:=by
   rw[lz,b4,oP];exact j9.2 λu hu=>by rw[(JM.1 hu).2];rfl
  have hlen:(c++iV (m*i.z-c.length) gE.un).length=m*i.z:=by rw[kU,vL];omega
  obtain⟨q2,q3⟩:=r.VI (p:=0) (us:=[]) (z:=i.z) (n:=0) (N:=i.N) (base:=i.base) (c:=c++iV (m*i.z-c.length) gE.un) hb hg nS (by rw[hlen];exact p2) (λu hu=>by cases hu) b5.2 b5.1 (λj u hj=>by
   by_cases nT:j<c.length
   ·rw[mU nT]at hj;exact b6 j u hj
   ·rw[nq (by omega)]at hj;have hu:u = .un:=(JM.1 (pH hj)).2;have hjm:j<m*i.z:=by
     have:=(kI.1 hj).1;rw[vL]at this;omega
    subst hu;obtain⟨u',ze⟩:=Ha.1 (b5.1 (i.base+j) (by omega)).1;exact⟨u',ze,.un (b5.2.2.1 _ _ ze)⟩)
  have hv:jc (ρ.put h.next ⟨i.g,i.base,i.z,(c++iV (m*i.z-c.length) gE.un).length,i.N⟩) (.sl (some (h.next,0)) n (.k m)::rest) (.slice (some ⟨i.g,i.base+0,none⟩) n m::ar) :=
   jc.cons (VR.sk (i:=⟨i.g,i.base,i.z,(c++iV (m*i.z-c.length) gE.un).length,i.N⟩) (BT _ _) zd) (hr.tail.mono q3.le)
  have hm:=WD hK (hx m zd hc) _ _ _ q2 hv;have conv:∀v' w',(∃v h' ρ',(∃v0 h0,Out.call v h' = .call v0 h0∧M v0 h0)∧VR ρ' v v'∧Rel ρ' h' w'∧Ext (ρ.put h.next ⟨i.g,i.base,i.z,(c++iV (m*i.z-c.length) gE.un).length,i.N⟩) ((h.set b .dead).new (.cells i.z (c++iV (m*i.z-c.length) .un))) w ρ' h' w') → ∃v h' ρ',M v h'∧VR ρ' v v'∧Rel ρ' h' w'∧Ext ρ h w ρ' h' w':=by
   rintro v' w' ⟨v,h',ρ',⟨v0,h0,e,hM⟩,k1,k2,k3⟩;obtain⟨rfl,rfl⟩:=Out.call.inj e;exact⟨_,_,ρ',hM,k1,k2,q3.trans k3⟩
  rcases hm with⟨e1,e2⟩|⟨v,w',e1,e2⟩
  ·refine .inl ⟨e1,Calls.mono e2 λe w' q=>?_⟩;cases e with
   |returned v=>exact conv _ _ q
   |panicked c=>exact q.elim
   |outgrown=>exact q.elim
  ·exact .inr ⟨v,w',e1,conv _ _ e2⟩
def xI(P:iY):Tb:=λf args h M=>∃g t tr e z vb vo vn vc d1 z1 b o n c d2 z2,P.funcs[f]? =some g∧(g.name == "runtime.NumGoroutine")=false∧g.body.isNone=true∧Extern.findNext g=none∧Extern.find g=some (Extern.SlicesOverlaps.overlaps #[t,t] #[tr])∧P.underlying t=some (.slice e)∧sz P e=some z ∧
 args=[.sl (some (vb,vo)) vn vc,.sl (some (b,o)) n c]∧vb≠b∧h.get vb=some (.cells z1 d1)∧z1≠1∧vo<d1.length∧h.get b=some (.cells z2 d2)∧0<d2.length∧M (.b false) h
theorem JU:vO P (xI P):=by
 rintro f args h M ⟨g,t,tr,e,z,vb,vo,vn,vc,d1,z1,b,o,n,c,d2,z2,hf,OV,hb,hn,he,ht,hz,rfl,jw,xc,mY,Pf,pg,KV,hM⟩ ρ w nP r hr
 match nP,hr with
 | [u',v'],hr =>
  have WW:∀{b o n c u},VR ρ (.sl (some (b,o)) n c) u → ∃i cc,ρ b=some i∧u = .slice (some ⟨i.g,i.base+o,none⟩) n cc:=λh=>by
   cases h with
   |sk hb _=>exact⟨_,_,hb,rfl⟩
   |so hb _ _ _=>exact⟨_,_,hb,rfl⟩
  obtain⟨i1,c1,e1,rfl⟩:=WW hr.head;obtain⟨i2,c2,e2,rfl⟩:=WW hr.tail.head;obtain⟨a1,a2,a3,a4,a5,a6⟩:=r.kG _ _ _ e1 xc;obtain⟨b1,b2,b3,b4,b5,b6⟩:=r.kG _ _ _ e2 pg;have hg:i1.g≠i2.g:=λq=>jw (r.inj vb b i1 i2 e1 e2 ⟨_,xc,rfl⟩ ⟨_,pg,rfl⟩ q);obtain⟨u1,qT⟩:=Ha.1 (a5.1 (i1.base+vo) (by omega)).1;obtain⟨u2,tk⟩:=Ha.1 (b5.1 i2.base (by omega)).1;obtain⟨C1,t1,f1,s1,s1'⟩:=Go.Sort.cells_of_cell? qT;obtain⟨C2,t2,f2,s2,s2'⟩:=Go.Sort.cells_of_cell? tk;have k2:C2.size≠0:=by
   simp only[uq,s2]at tk;have:=(Mu.1 tk).1;omega
  have h1:=run_callFunc_extern (P:=P) hf OV hb hn he #[.slice (some ⟨i1.g,i1.base+vo,none⟩) vn c1,.slice (some ⟨i2.g,i2.base+o,none⟩) n c2] w;rw[Lib.run_overlaps_apart w t tr e ht z (qE hz) ⟨i1.g,i1.base+vo,none⟩ ⟨i2.g,i2.base+o,none⟩ vn c1 n c2 hg t1 t2 C1.size C2.size (by simp only[JE,s1]) (by simp only[JE,s2]) k2 (a5.1 _ (by omega)).2 (by
   have:=a5.2.2.2 (by rw[←a1]at mY;exact a1▸mY) _ _ _ s1;simp only[ET,s1];simp;omega)]at h1
  exact .inr ⟨_,w,h1,_,h,ρ,hM,.b _,r,Ext.refl _ _ _⟩
 |[],hr=>exact absurd hr.1 (by simp)
 |[_],hr=>exact absurd hr.1 (by simp)
 |_::_::_::_,hr=>exact absurd hr.1 (by simp)
end
section
variable{P:iY}{E:EL}{X:List Nat}{h0 h:Hp}{F0 F:gL}{L:List Ob}
theorem XJ{α:Type}{t:Tr α}{ty e:iA}{x:iT}{v:gE}{xs:List α}(k:Nat)(hs:P.underlying ty=some (.slice e))(he:P.underlying e=some (.int .u8))(hx:iP E x=some v)(hS:St X h0 F0 F L h)(hk:L[k]? =some (.row t v xs))(hn:xs≠[])(h1:t.size=1):Ef P E h (.convert ty ty x) (λv' h'=>v=v'∧h=h'):=by
 refine⟨by simp[kz,Bi,hs],v,h,?_,rfl,rfl⟩;obtain⟨v0,lK,r⟩:=hS.ok hk;obtain rfl:=sG lK;rcases r with⟨rfl,yi,_⟩|⟨b,c,kk,css,bss,r⟩
 ·exact absurd yi hn
 ·have hf:v = .sl (some (b,0)) xs.length (.of t.size kk):=r.form;have hb:h.get b=some (.cells t.size c):=r.kG;rw[h1]at hb hf;subst hf;simp only[jS,hx,jy,qQ,hs,he,hb,beq_self_eq_true]
end
end Go.V
end
section
namespace Go.V
open Go.Wk
theorem TQ{u:iU}{v:gE}(h:yV u=some v):v.one=true:=by
 unfold yV at h
 split at h<;>first|(obtain rfl:=iK h;rfl)|cases h
theorem aey:∀{l:List iU}{vs:List gE},l.mapM yV=some vs→vs.all gE.one=true:=by
 intro l
 induction l with
 |nil=>intro vs h;simp at h;subst h;rfl
 |cons x l ih =>
  intro vs h;simp only[qa,wN,Option.pure_def,iO,km]at h;obtain⟨v,h1,us,h2,rfl⟩:=h;rw[List.all_cons,TQ h1,ih h2];rfl
theorem aaw{u:iU}{v:gE}(h:cv u=some v):v.cells.all gE.one=true:=by
 unfold cv at h
 split at h
 ·obtain⟨vs,h1,rfl⟩:=jR.1 h;exact aey h1
 ·have h1:=TQ h;cases v<;>first|(simp[gE.cells,gE.one];done)|(simp[gE.one]at h1)
section
variable{P:iY}{E:EL}{G:gL}{h:Hp}
theorem Q2{x:Int}{n:Nat}(hx:x=(n:Int))(hn:n<4611686018427387904):yE.wrap x=(n:Int):=by
 subst hx;have h1:((n:Int)%(2^64:Int))=n:=Int.emod_eq_of_lt (by omega) (by omega);show(if(true&&decide ((n:Int)%(2^64:Int)≥(2^63:Int)))=true then(n:Int)%(2^64:Int)-(2^64:Int)else(n:Int)%(2^64:Int))=n;rw[h1,if_neg];simp only[oP,decide_eq_true_eq];omega
theorem s8{t:iA}{a b:Nat}(h:a+b<4611686018427387904):kJ P .add t (.i .i64 (a:Int)) (.i .i64 (b:Int))=some (.i .i64 ((a+b:Nat):Int)):=by
 simp only[kJ,tX,if_true];rw[Q2 (n:=a+b) (by omega) h]
theorem Nt{t:iA}{a b:Nat}(h:b≤a)(ha:a<4611686018427387904):kJ P .sub t (.i .i64 (a:Int)) (.i .i64 (b:Int))=some (.i .i64 ((a-b:Nat):Int)):=by
 simp only[kJ,tX,if_true];rw[Q2 (n:=a-b) (by omega) (by omega)]
theorem S9{len cap:Nat}{lo hi:Option gE}{a b:Nat}(sW:yJ lo 0 (a:Int))(rP:yJ hi len (b:Int))(h1:a≤b)(hc:b≤cap):uB len cap lo hi none=some (a,b,cap):=by
 have na:∀kk,uc (.i kk (a:Int))=some a:=λkk=>by unfold uc;simp only;rw[if_pos (by omega)];rfl
 have nb:∀kk,uc (.i kk (b:Int))=some b:=λkk=>by unfold uc;simp only;rw[if_pos (by omega)];rfl
 have e1:yq hi len=some b:=by
  rcases rP with⟨rfl,e⟩|⟨kk,rfl⟩
  ·simp[yq];omega
  ·exact nb kk
 have e2:yq lo 0=some a:=by
  rcases sW with⟨rfl,e⟩|⟨kk,rfl⟩
  ·simp[yq];omega
  ·exact na kk
 unfold uB;rw[e1,e2];simp only[yq,jy];rw[if_pos ⟨jg _,by omega,by omega,λq=>by cases q⟩]
theorem qp{t e:iA}{z b o len k:Nat}{x:iT}{ol oh:Option iT}(l u:Nat)(ht:P.underlying t=some (.slice e))(hz:sz P e=some z)(hx:iP E x=some (.sl (some (b,o)) len (.k k)))(hl:Bd E ol 0 (l:Int))(hh:Bd E oh len (u:Int))(h1:l≤u)(h2:u≤k)(h3:l<k)(h:Hp) :
  jS P E h (.slice t x ol oh none)=some (.sl (some (b,o+l*z)) (u-l) (.k (k-l)),h):=by
 obtain⟨lo,l1,l2⟩:=hl.val;obtain⟨hi,r1,r2⟩:=hh.val;have n0:xa E none=some none:=rfl;simp only[jS,hx,l1,r1,n0,jy,ry,ht,hz];rw[S9 l2 r2 h1 h2];simp only[lE];rw[if_neg (by omega)]
theorem Fj{t e:iA}{z b o len:Nat}{x:iT}{ol oh:Option iT}(l u:Nat)(ht:P.underlying t=some (.slice e))(hz:sz P e=some z)(hx:iP E x=some (.sl (some (b,o)) len (.op z)))(hl:Bd E ol 0 (l:Int))(hh:Bd E oh len (u:Int))(h1:l≤u)(h2:u≤len)(h3:l<len)(h:Hp) :
  jS P E h (.slice t x ol oh none)=some (.sl (some (b,o+l*z)) (u-l) (.op z),h):=by
 obtain⟨lo,l1,l2⟩:=hl.val;obtain⟨hi,r1,r2⟩:=hh.val;have n0:xa E none=some none:=rfl;simp only[jS,hx,l1,r1,n0,jy,ry,ht,hz,if_true];rw[S9 l2 r2 h1 h2];simp only[lE,Option.isSome_none,Bool.false_eq_true,if_false];rw[if_pos h3]
theorem xH{t e:iA}{dx sx:iT}{b o n b2 o2 n2 z z1 z2 m:Nat}{k k2:Cap}{c d:List gE}(ht:P.underlying t=some (.slice e))(hz:sz P e=some z)(hd:iP E dx=some (.sl (some (b,o)) n k))(hx:iP E sx=some (.sl (some (b2,o2)) n2 k2))(hm:min n2 n=m)
  (hg:h.get b=some (.cells z1 c)) (pg:h.get b2=some (.cells z2 d)) (h1:o2+m*z≤d.length) (h2:o+m*z≤c.length) (h3:d.all gE.one=true) (hm0:0<m) :
  Ef P E h (.call { callee:=.builtin .copy,args:=#[dx,sx],argTypes:=#[t,t] }) (λu h'=>h'=h.set b (.cells z1 (kA c o ((d.drop o2).take (m*z))))):=by
 refine⟨rfl,.i .i64 ((min n2 n:Nat):Int),_,?_,rfl⟩;have hf:oL h z m (.sl (some (b2,o2)) n2 k2)=some ((d.drop o2).take (m*z)):=by
  simp only[oL];rw[if_neg (by omega)];unfold rd;rw[pg];simp only;rw[if_pos h1]
 have hlen:((d.drop o2).take (m*z)).length=m*z:=by rw[kX,od];omega
 have rl:((d.drop o2).take (m*z)).all gE.one=true:=j9.2 λx hx=>j9.1 h3 x (sI (sJ hx));simp only[jS,tP,qa,AW,hd,hx,qO,copyV,jy,wN,pure,E1,ht,hz,As,hm,hf];rw[if_pos hlen];unfold p6;rw[hg];simp only;rw[if_pos ⟨by rw[hlen];exact h2,rl⟩];rfl
theorem M4{ts tx e:iA}{sx xx:iT}{b o l k N z zb:Nat}{kk:pQ}{c:List gE}(ht:P.underlying ts=some (.slice e))(rm:pC P e z=true)(vB:rV P tx=some true)(hs:iP E sx=some (.sl (some (b,o)) l (.k k)))(xj:iP E xx=some (.i kk (N:Int)))
  (zd:l≤k) (mM:k<l+N) (hl:l≤2^30) (hN:N≤2^30) (hg:h.get b=some (.cells zb c)) (hc:o+l*z≤c.length) (h1:c.all gE.one=true) :
  Ef P E h (.call { callee:=.builtin .append,args:=#[sx,xx],argTypes:=#[ts,tx] }) (λv' h'=>v' = .sl (some (h.next,0)) (l+N) (.op z) ∧ ∃zs,zs.length=N*z∧zs.all gE.one=true∧h'=h.new (.cells z ((c.drop o).take (l*z)++zs))):=by
 obtain⟨inf,zero,r1,r2,r3,r4,r5,r6,r7⟩:=CZ rm;have Ig:xp (.i kk (N:Int))=some N:=by unfold xp;simp only;rw[if_pos ⟨by omega,by omega⟩];rfl
 have hlen:(mT zero.cells N).length=N*z:=by simp[mT,r4]
 have mY:(mT zero.cells N).all gE.one=true:=by
  refine j9.2 λu hu=>?_;unfold mT at hu;obtain⟨q,hq,hu⟩:=ny.1 hu;rw[(JM.1 hq).2]at hu;obtain⟨i,zz,e1,e2,e3⟩:=yD r3;have:=aaw e3;exact j9.1 this u hu
 have rl:((c.drop o).take (l*z)).all gE.one=true:=j9.2 λx hx=>j9.1 h1 x (sI (sJ hx));refine⟨rfl,.sl (some (h.next,0)) (l+N) (.op z),h.new (.cells z ((c.drop o).take (l*z)++mT zero.cells N)),?_,rfl,_,hlen,mY,rfl⟩;simp only[jS,tP,qa,AW,hs,xj,qO,Co,ht,r1,r2,r3,vB,CP,Ig,jy,cond_true,pure,wN];rw[if_pos r4];simp only[jy];rw[if_pos ⟨r4,r5,by omega,r6,r7,hlen,mY⟩];simp only[vS];rw[if_neg (by omega),if_pos ⟨zd,by omega⟩];have hf:oL h z l (.sl (some (b,o)) l (.k k))=some ((c.drop o).take (l*z)):=by
  simp only[oL]
  split
  ·rename_i h0;subst h0;simp
  ·unfold rd;rw[hg];simp only;rw[if_pos hc]
 rw[hf];simp only[jy,ru];rw[if_pos (by rw[lz,rl,mY];rfl)];rfl
end
def Hh(z:Nat)(h:Hp)(b i n y:Nat)(c d:List gE)(u:gE)(h':Hp):Prop :=
 ∃g k c',u = .sl (some (g,0)) (n+y) (.of z k)∧h'.get g=some (.cells z c')∧c'.take ((n+y)*z)=c.take (i*z)++d.take (y*z)++(c.take (n*z)).drop (i*z)∧(k=none→(n+y)*z≤c'.length)∧(∀q,k=some q→c'.length=q*z∧n+y≤q) ∧
  c'.all gE.one=true∧g<h'.next∧h.next≤h'.next∧Wf h'∧(∀q,q<h.next→q≠b→h'.get q=h.get q)∧(g=b∨h.next≤g)
theorem yr{c v:List gE}{o:Nat}(h1:c.all gE.one=true)(h2:v.all gE.one=true):(kA c o v).all gE.one=true:=by
 unfold kA;rw[lz,lz,h2];have p1:(c.take o).all gE.one=true:=j9.2 λx hx=>j9.1 h1 x (sJ hx);have p2:(c.drop (o+v.length)).all gE.one=true:=j9.2 λx hx=>j9.1 h1 x (sI hx);rw[p1,p2];rfl
theorem vF{c:List gE}{a b:Nat}(h1:c.all gE.one=true):((c.drop a).take b).all gE.one=true:=j9.2 λx hx=>j9.1 h1 x (sI (sJ hx))
section
variable{z i n y m:Nat}{c d:List gE}
theorem Po(hi:i<n)(qA:n+y≤m)(vv:c.length=m*z)(su:y*z≤d.length) :
  (kA (kA c ((i+y)*z) ((c.drop (i*z)).take ((n-i)*z))) (i*z) ((d.drop 0).take (y*z))).take ((n+y)*z)=c.take (i*z)++d.take (y*z)++(c.take (n*z)).drop (i*z) ∧
  (kA (kA c ((i+y)*z) ((c.drop (i*z)).take ((n-i)*z))) (i*z) ((d.drop 0).take (y*z))).length=m*z:=by
 have e1:(i+y)*z=i*z+y*z:=lQ _ _ _;have e2:(n-i)*z=n*z-i*z:=yI _ _ _;have e3:(n+y)*z=n*z+y*z:=lQ _ _ _;have e4:i*z≤n*z:=nL _ (uw hi);have e5:(n+y)*z≤m*z:=nL _ qA;generalize i*z=I at *;generalize n*z=N at *;generalize y*z=Y at *;generalize m*z=M at *;have lA:((c.drop I).take (N-I)).length=N-I:=by rw[kX,od];omega
 have lD:((d.drop 0).take Y).length=Y:=by rw[kX,od];omega
 rw[e1,e2,e3];have pW:(kA c (I+Y) ((c.drop I).take (N-I))).length=M:=by rw[tv (by rw[lA];omega)];exact vv
 have yg:(kA (kA c (I+Y) ((c.drop I).take (N-I))) I ((d.drop 0).take Y)).length=M:=by rw[tv (by rw[lD,pW];omega)];exact pW
 refine⟨?_,yg⟩;apply Ca;intro j;rw[oc]
 by_cases hj:j<N+Y
 ·rw[if_pos hj,AB (by rw[lD,pW];omega),lD]
  by_cases h1:j<I
  ·rw[if_neg (by omega),AB (by rw[lA];omega),lA,if_neg (by omega),pG,mU (by rw[kX];omega),oc,if_pos h1]
  ·by_cases h2:j<I+Y
   ·rw[if_pos ⟨by omega,h2⟩,mU (by simp only[kU,kX];omega),nq (by rw[kX];omega),ur,kX,xG (by omega)]
   ·rw[if_neg (by omega),AB (by rw[lA];omega),lA,if_pos (by omega),nq (by simp only[kU,kX];omega),oc,if_pos (by omega),pS,pS,oc];simp only[kU,kX];rw[if_pos (by omega)]
    congr 1;omega
 ·rw[if_neg hj]
  symm
  rw[RU];simp only[kU,kX,od];omega
theorem Pp{zs:List gE}(hi:i<n)(qA:n≤m)(vv:c.length=m*z)(su:y*z≤d.length)(nZ:zs.length=(n+y-i)*z) :
  kA (kA ((c.drop 0).take (i*z)++zs) (i*z) ((d.drop 0).take (y*z))) ((i+y)*z) ((c.drop (i*z)).take ((n-i)*z))=c.take (i*z)++d.take (y*z)++(c.take (n*z)).drop (i*z) ∧
  (kA (kA ((c.drop 0).take (i*z)++zs) (i*z) ((d.drop 0).take (y*z))) ((i+y)*z) ((c.drop (i*z)).take ((n-i)*z))).length=(n+y)*z:=by
 have e1:(i+y)*z=i*z+y*z:=lQ _ _ _;have e2:(n-i)*z=n*z-i*z:=yI _ _ _;have e3:(n+y)*z=n*z+y*z:=lQ _ _ _;have e4:i*z≤n*z:=nL _ (uw hi);have e5:n*z≤m*z:=nL _ qA;have e6:(n+y-i)*z=n*z+y*z-i*z:=by rw[yI,lQ]
 rw[e6]at nZ;generalize i*z=I at *;generalize n*z=N at *;generalize y*z=Y at *;generalize m*z=M at *;have lA:((c.drop I).take (N-I)).length=N-I:=by rw[kX,od];omega
 have lD:((d.drop 0).take Y).length=Y:=by rw[kX,od];omega
 have lB:((c.drop 0).take I++zs).length=N+Y:=by rw[kU,kX,od];omega
 rw[e1,e2,e3];have pW:(kA ((c.drop 0).take I++zs) I ((d.drop 0).take Y)).length=N+Y:=by rw[tv (by rw[lD,lB];omega)];exact lB
 have yg:(kA (kA ((c.drop 0).take I++zs) I ((d.drop 0).take Y)) (I+Y) ((c.drop I).take (N-I))).length=N+Y:=by rw[tv (by rw[lA,pW];omega)];exact pW
 refine⟨?_,yg⟩;apply Ca;intro j
 by_cases hj:j<N+Y
 ·rw[AB (by rw[lA,pW];omega),lA]
  by_cases h1:j<I
  ·rw[if_neg (by omega),AB (by rw[lD,lB];omega),lD,if_neg (by omega),pG,mU (by rw[kX,od];omega),mU (by rw[kX];omega),ur]
  ·by_cases h2:j<I+Y
   ·rw[if_neg (by omega),AB (by rw[lD,lB];omega),lD,if_pos ⟨by omega,h2⟩,mU (by simp only[kU,kX];omega),nq (by rw[kX];omega),ur,kX,xG (by omega)]
   ·rw[if_pos (by omega),nq (by simp only[kU,kX];omega),oc,if_pos (by omega),pS,pS,oc];simp only[kU,kX];rw[if_pos (by omega)]
    congr 1;omega
 ·rw[RU.2 (by rw[yg];omega)]
  symm
  rw[RU];simp only[kU,kX,od];omega
end
end Go.V
end
section
namespace Go.Wk
def zg{α:Type}(xs:List α)(i:Int)(ys:List α):Option (List α):=if 0≤i∧i≤(xs.length:Int)∧0<ys.length∧xs.length+ys.length≤1073741824 then some (xs.take i.toNat++ys++xs.drop i.toNat)else none
theorem adu{α:Type}{xs ys r:List α}{i:Int}(h:zg xs i ys=some r):0≤i∧i≤(xs.length:Int)∧0<ys.length∧xs.length+ys.length≤1073741824∧r=xs.take i.toNat++ys++xs.drop i.toNat:=by
 unfold zg at h
 split at h
 ·rename_i hc;exact⟨hc.1,hc.2.1,hc.2.2.1,hc.2.2.2,(iK h).symm⟩
 ·cases h
end Go.Wk
namespace Go.V
open Go.Wk
section
variable{α:Type}{t:To α}{F:gL}{h h':Hp}{css:List (Cl t.size)}{bss:List (List Nat)}{xs:List α}
theorem mm.take(a:mm t F h css bss xs)(i:Nat):mm t F h (css.take i) (bss.take i) (xs.take i) :=
 ⟨by rw[kX,kX,a.mr],by rw[kX,kX,a.og],λj d x e h1 h2 h3=>by
  rw[oc]at h1 h2 h3
  split at h1
  ·rename_i hj;rw[if_pos hj]at h2 h3;exact a.rel j d x e h1 h2 h3
  ·cases h1⟩
theorem mm.drop(a:mm t F h css bss xs)(i:Nat):mm t F h (css.drop i) (bss.drop i) (xs.drop i) :=
 ⟨by rw[od,od,a.mr],by rw[od,od,a.og],λj d x e h1 h2 h3=>by
  rw[pS]at h1 h2 h3;exact a.rel _ d x e h1 h2 h3⟩
theorem Ub{s:Nat}:∀(css:List (Cl s))(i:Nat),((css.take i).map kg).flatten=((css.map kg).flatten).take (i*s)
 |[],i=>by simp
 |d::r,0=>by simp
 |d::r,i+1=>by
  rw[List.take_succ_cons,qI,o7,qI,o7,Ub r i,List.take_append,d.2,lQ,Nat.one_mul,Nat.add_sub_cancel,xB (l:=d.1) (by rw[d.2];omega)]
theorem Ua{s:Nat}:∀(css:List (Cl s))(i:Nat),((css.drop i).map kg).flatten=((css.map kg).flatten).drop (i*s)
 |[],i=>by simp
 |d::r,0=>by simp
 |d::r,i+1=>by
  rw[List.drop_succ_cons,qI,o7,Ua r i,List.drop_append,d.2,lQ,Nat.one_mul,Nat.add_sub_cancel,show d.1.drop (i*s+s)=[]from List.drop_eq_nil_of_le (by rw[d.2];omega),wM]
def Sk(P:iY)(K:Tb)(f:nI)(z:Nat):Prop:=∀{h:Hp}{b n m i vb y:Nat}{ck:Cap}{c d:List gE}(hW:Wf h)(hb:b<h.next)(hg:h.get b=some (.cells z c))(hv:h.get vb=some (.cells z d))(jw:vb≠b)(hi:i<n)(qA:n≤m)(vv:c.length=m*z)(hy:0<y)(su:y*z≤d.length)(oA:c.all gE.one=true)(qR:d.all gE.one=true)(OH:n+y≤2^30)(Gb:vb<h.next),
  iN P K f [.sl (some (b,0)) n (.k m),.i .i64 (i:Int),.sl (some (vb,0)) y ck] h (Hh z h b i n y c d)
end
section
variable{α:Type}{t:To α}{F:gL}{w:Hp}{X:List Nat}{bs mh:List Nat}{v v2:gE}{i:Int}{xs ys r:List α}{P:iY}{K K0:Tb}{f z:Nat}
theorem Vk(hz:t.size=z){n:Nat}(hS:St X w F F [.dp t bs v xs,.dp t mh v2 ys] w)(hn:n<xs.length)(sr:xs.length+ys.length≤1073741824)
  {b:Nat} {c:List gE} {k:Option Nat} {css:List (Cl t.size)} {bss:List (List Nat)} (r1:Ci t F w bs v xs b c k css bss) {vb:Nat} {d:List gE} {k2:Option Nat} {mK:List (Cl t.size)} {px:List (List Nat)} (r2:Ci t F w mh v2 ys vb d k2 mK px)
  {h2:Hp} {b':Nat} {c2:List gE} (hn2:w.next≤h2.next) (Aj:∀q,q<w.next→q≠b→h2.get q=w.get q) (jM:b'=b∨w.next≤b') (DT:∃post,c2=c++post) {u:gE} {h':Hp} (hI:Hh z h2 b' n xs.length ys.length c2 d u h'):∃kE,St X w F F [.dp t kE u (xs.take n++ys++xs.drop n)] h':=by
 subst hz;obtain⟨g,k',c',rfl,hg,mX,ho,te,h1,hgl,OX,It,Bt,uK⟩:=hI;obtain⟨post,rfl⟩:=DT;have DS:∀q,q∈bs→q∉mh:=λq h1 h2=>by
  have:=hS.apart 0 1 _ _ q rfl rfl h1 h2;omega
 have CB:=r1.vr;have FQ:=r2.vr;have xf:=r1.nodup;have UR:=r2.nodup;rw[CB]at xf;rw[FQ]at UR;have e1:mm t F w css bss xs:=⟨r1.mr,r1.og,r1.rel⟩
 have e2:mm t F w mK px ys:=⟨r2.mr,r2.og,r2.rel⟩
 have eA:mm t F w (css.take n++mK++css.drop n) (bss.take n++px++bss.drop n) (xs.take n++ys++xs.drop n):=((e1.take n).cat e2).cat (e1.drop n);have uL:∀q,q∈(bss.take n++px++bss.drop n).flatten→q∈bss.flatten∨q∈px.flatten:=λq hq=>by
  simp only[uu,mF]at hq;rcases hq with(hq|hq)|hq
  ·obtain⟨e,he,hq⟩:=ny.1 hq;exact .inl (ny.2 ⟨e,sJ he,hq⟩)
  ·exact .inr hq
  ·obtain⟨e,he,hq⟩:=ny.1 hq;exact .inl (ny.2 ⟨e,sI he,hq⟩)
 have jB:∀q,q∈(bss.take n++px++bss.drop n).flatten→q<w.next:=eA.lt;have UW:∀q,q∈(bss.take n++px++bss.drop n).flatten→q≠b:=λq hq e=>by
  subst e;rcases uL q hq with h|h
  ·exact(tH.1 xf).1 h
  ·exact DS q (by rw[CB];simp) (by rw[FQ];exact mV _ h)
 have pj:∀q,q<w.next→q≠b→h'.get q=w.get q:=λq hq vz=>by
  rw[Bt q (by omega) (λe=>by rcases jM with rfl|jM;exact vz e;omega)];exact Aj q hq vz
 have eB:=eA.frame (h1:=h') (by omega) λq hq=>pj q (jB q hq) (UW q hq);have FU:g=b∨w.next≤g:=by
  rcases uK with rfl|h
  ·exact jM
  ·exact .inr (by omega)
 have hlen:(xs.take n++ys++xs.drop n).length=xs.length+ys.length:=by simp only[kU,kX,od];omega
 have ajf:xs.length*t.size≤c.length:=by
  cases k with
  |none=>exact r1.Az rfl
  |some m=>obtain⟨q1,q2⟩:=r1.cap m rfl;rw[q1];exact nL _ q2
 have uN:(bss.take n++px++bss.drop n).flatten.Nodup:=by
  have p:((bss.take n++px++bss.drop n).flatten).Perm (bss.flatten++px.flatten):=by
   have q:bss.flatten=(bss.take n).flatten++(bss.drop n).flatten:=by rw[←uu,u7]
   rw[q,uu,uu,pG,pG];exact List.Perm.append_left _ List.perm_append_comm
  rw[p.nodup_iff];exact Cb.2 ⟨(tH.1 xf).2,(tH.1 UR).2,λx hx y hy e=>by
   subst e;exact DS x (by rw[CB];exact mV _ hx) (by rw[FQ];exact mV _ hy)⟩
 have R:=I8 (b:=g) (c:=c') (k:=k') eB hgl hg (by
   rw[hlen,mX,vM,vM,uu,uu,Ub,Ua,←r1.cells,←r2.cells];have l1:n*t.size≤xs.length*t.size:=nL _ (uw hn);rw[E8,xG l1,JN (by omega),JN (by omega)])
  (by rw[hlen];exact ho) (by rw[hlen];exact te) (by rw[hlen];omega) h1 (tH.2 ⟨λhq=>by
   rcases FU with e|e
   ·exact UW g hq e
   ·have:=jB g hq;omega,uN⟩)
 rw[hlen]at R;refine⟨g::(bss.take n++px++bss.drop n).flatten,hS.join (.dp t _ _ _) ⟨_,rfl,.inr ⟨_,_,_,_,_,R⟩⟩ (by omega) It (λq hq h1 h2=>pj q hq (λe=>h1 (by show q∈bs;rw[CB,e];simp))) λq hq=>?_⟩;rcases lM.1 hq with rfl|hq
 ·rcases FU with e|e
  ·exact .inl (by show q∈bs;rw[CB,e];simp)
  ·exact .inr (.inr e)
 ·rcases uL q hq with h|h
  ·exact .inl (by show q∈bs;rw[CB];exact mV _ h)
  ·exact .inr (.inl (by show q∈mh;rw[FQ];exact mV _ h))
theorem Pn(hz:t.size=z)(mY:0<z)
  (he:∀{X:List Nat}{h0 h:Hp}{F0 F:gL}{L:List Ob}{bs mh:List Nat}{v v2:gE}{xs ys zs:List α}(hS:St X h0 F0 F (.dp t mh v2 ys :: .dp t bs v xs::L) h)(hy:0<ys.length)(hz:app xs ys=some zs),iN P K f [v,.i .i64 (xs.length:Int),v2] h (λu h'=>∃kE,St X h0 F0 F (.dp t kE u zs::L) h'))
  (h1:Sk P K f z) (h0:Sk P K0 f z) (lT:∀args h M,Cg P K0 f f args h M→K f args h M)
  (hS:St X w F F [.dp t bs v xs,.dp t mh v2 ys] w) (H:zg xs i ys=some r):iN P K f [v,.i .i64 i,v2] w λu w'=>∃kE,St X w F F [.dp t kE u r] w':=by
 obtain⟨i0,i1,hy,sr,rfl⟩:=adu H;obtain⟨n,rfl⟩:∃n:Nat,i=n:=⟨i.toNat,by omega⟩
 rw[ly]
 by_cases hn:n=xs.length
 ·subst hn;have Oz:St X w F F [.dp t mh v2 ys,.dp t bs v xs] w:=hS.pick [1,0] (by decide);have:=he Oz hy (zs:=xs++ys) (by unfold app;rw[if_pos sr]);rw[ow,List.drop_length,rY];exact this
 ·have tU:n<xs.length:=by omega
  obtain⟨v0,lK,q1⟩:=hS.ok (i:=0) rfl;obtain rfl:=sG lK;obtain⟨v0,lK,q2⟩:=hS.ok (i:=1) rfl;obtain rfl:=sG lK;rcases q1 with⟨_,e,_⟩|⟨b,c,k,css,bss,r1⟩
  ·have e':xs=[]:=e;subst e';simp at tU
  rcases q2 with⟨_,e,_⟩|⟨vb,d,k2,mK,px,r2⟩
  ·have e':ys=[]:=e;subst e';simp at hy
  have f1:v = .sl (some (b,0)) xs.length (.of t.size k):=r1.form;have f2:v2 = .sl (some (vb,0)) ys.length (.of t.size k2):=r2.form;have Uw:vb≠b:=λe=>by
   have h1:b∈bs:=by have:=r1.vr;show b∈bs;rw[show bs=b::bss.flatten from this];simp
   have h2:vb∈mh:=by have:=r2.vr;show vb∈mh;rw[show mh=vb::px.flatten from this];simp
   have:=hS.apart 0 1 _ _ b rfl rfl h1 (e▸h2);omega
  have g1:w.get b=some (.cells t.size c):=r1.kG;have g2:w.get vb=some (.cells t.size d):=r2.kG;have su:ys.length*t.size≤d.length:=by
   cases k2 with
   |none=>exact r2.Az rfl
   |some m=>obtain⟨q1,q2⟩:=r2.cap m rfl;rw[show d.length=m*t.size from q1];exact nL _ q2
  have Cz:b<w.next:=r1.lt;have Pe:vb<w.next:=r2.lt;subst hz;cases k with
  |some m =>
   obtain⟨m1,m2⟩:=r1.cap m rfl;rw[f1,f2];exact(h1 (ck:=.of t.size k2) hS.wf Cz g1 g2 Uw tU m2 m1 hy su r1.one r2.one (by omega) Pe).mono λu h' hI=>Vk rfl hS tU sr r1 r2 (jg _) (λ_ _ _=>rfl) (.inl rfl) ⟨[],by simp⟩ hI
  | none =>
   have oW:xs.length*t.size≤c.length:=r1.Az rfl;rw[f1];refine .known (M:=λu w'=>∃kE,St X w F F [.dp t kE u (xs.take n++ys++xs.drop n)] w') (lT _ _ _ ⟨rfl,b,xs.length,t.size,c,_,rfl,g1,oW,λm K4 xe=>?_⟩) λu w' q=>⟨u,w',rfl,q⟩
   rw[f2];have gw:∀B q,q<w.next→q≠b→((w.set b .dead).new B).get q=w.get q:=λB q hq vz=>by
    rw[Hp.lI];have:(w.set b .dead).next=w.next:=rfl;rw[this,if_neg (by omega),Hp.jv,if_neg vz]
   refine(h0 (h:=(w.set b .dead).new (.cells t.size (c++iV (m*t.size-c.length) .un))) (b:=w.next) (ck:=.of t.size k2) (c:=c++iV (m*t.size-c.length) .un) (λq hq=>?_) (xF _) (by rw[Hp.lI];exact if_pos rfl) ((gw _ _ Pe Uw).trans g2) (by omega) tU K4 (by rw[kU,vL];omega) hy su ?_ r2.one (by omega) (Nat.lt_succ_of_lt Pe)).mono λu h' hI=>Vk rfl hS tU sr r1 r2 (vN _) (gw _) (.inr (jg _)) ⟨_,rfl⟩ hI
   ·have ss:w.next+1≤q:=hq;rw[Hp.lI];have:(w.set b .dead).next=w.next:=rfl;rw[this,if_neg (by omega),Hp.jv,if_neg (by omega)];exact hS.wf q (by omega)
   ·rw[lz,r1.one,oP];exact j9.2 λu hu=>by rw[(JM.1 hu).2];rfl
end
theorem J5{P:iY}{t:iA}{k:pQ}{a b r:Int}(h0:b≠0)(h:r=a.tmod b):kJ P .rem t (.i k a) (.i k b)=some (.i k r):=by
 subst h;simp only[kJ,tX,if_true];rw[if_neg h0]
end Go.V
end
section
namespace Go.V
open Go.Wk
abbrev mB(A:List Oper)(E:EL)(i d:Nat):Prop:=Nat.blt i A.length=true∧mf A E (ir A i)=some true∧(ir A i).dst=some d
abbrev Fo(A:List Oper)(E:EL)(i:Nat):Prop:=Nat.blt i A.length=true∧mf A E (ir A i)=some true∧(ir A i).dst=none
abbrev mq{X:List Nat}{h0 h:Hp}{F0 F:gL}{L:List Ob}(_:St X h0 F0 F L h)(F':gL)(h':Hp):Prop:=St X h0 F0 F' L h'
abbrev iW{X:List Nat}{h0 h:Hp}{F0 F:gL}{L:List Ob}(_:St X h0 F0 F L h)(L':List Ob)(F':gL)(h':Hp):Prop:=St X h0 F0 F' L' h'
section
variable{P:Program}{K:Tb}{fn:Func}{k:oe}{E:EL}{h:Hp}{A:List Oper}{dr:Bool}{G:gL}{L:List Nat}{i d:Nat}
theorem qc{v:gE}(x:W P K fn k A dr G L ((d,v)::E) h)(hq:mB A E i d:=by exact⟨rfl,rfl,rfl⟩)(hk:decide (kz P (ir A i).op = .mL)=false:=by exact rfl)(ho:∀h,jS P E h (ir A i).op=some (v,h):=by exact λ_=>rfl):W P K fn k A dr G (i::L) E h:=j8 hq.1 hq.2.1 hq.2.2 hk ho x
theorem q2{j0 e0 j1 e1:Nat}{v0 v1:gE}(x:W P K fn k A dr G L ((e1,v1)::((e0,v0)::E)) h)(oM:Nat.blt j0 A.length=true:=by exact rfl)(BC:mf A E (ir A j0)=some true:=by exact rfl)(rO:(ir A j0).dst=some e0:=by exact rfl)(za:decide (kz P (ir A j0).op = .mL)=false:=by exact rfl)(Ii:∀h,jS P E h (ir A j0).op=some (v0,h):=by exact λ_=>rfl)(yf:Nat.blt j1 A.length=true:=by exact rfl)(xi:mf A ((e0,v0)::E) (ir A j1)=some true:=by exact rfl)(qR:(ir A j1).dst=some e1:=by exact rfl)(vw:decide (kz P (ir A j1).op = .mL)=false:=by exact rfl)(Bv:∀h,jS P ((e0,v0)::E) h (ir A j1).op=some (v1,h):=by exact λ_=>rfl):W P K fn k A dr G (j0::j1::L) E h:=j8 oM BC rO za Ii (j8 yf xi qR vw Bv x)
theorem q3{j0 e0 j1 e1 j2 e2:Nat}{v0 v1 v2:gE}(x:W P K fn k A dr G L ((e2,v2)::((e1,v1)::((e0,v0)::E))) h)(oM:Nat.blt j0 A.length=true:=by exact rfl)(BC:mf A E (ir A j0)=some true:=by exact rfl)(rO:(ir A j0).dst=some e0:=by exact rfl)(za:decide (kz P (ir A j0).op = .mL)=false:=by exact rfl)(Ii:∀h,jS P E h (ir A j0).op=some (v0,h):=by exact λ_=>rfl)(yf:Nat.blt j1 A.length=true:=by exact rfl)(xi:mf A ((e0,v0)::E) (ir A j1)=some true:=by exact rfl)(qR:(ir A j1).dst=some e1:=by exact rfl)(vw:decide (kz P (ir A j1).op = .mL)=false:=by exact rfl)(Bv:∀h,jS P ((e0,v0)::E) h (ir A j1).op=some (v1,h):=by exact λ_=>rfl)(sT:Nat.blt j2 A.length=true:=by exact rfl)(BD:mf A ((e1,v1)::((e0,v0)::E)) (ir A j2)=some true:=by exact rfl)(KV:(ir A j2).dst=some e2:=by exact rfl)(Aj:decide (kz P (ir A j2).op = .mL)=false:=by exact rfl)(D6:∀h,jS P ((e1,v1)::((e0,v0)::E)) h (ir A j2).op=some (v2,h):=by exact λ_=>rfl):W P K fn k A dr G (j0::j1::j2::L) E h:=j8 oM BC rO za Ii (j8 yf xi qR vw Bv (j8 sT BD KV Aj D6 x))
theorem q4{j0 e0 j1 e1 j2 e2 j3 e3:Nat}{v0 v1 v2 v3:gE}(x:W P K fn k A dr G L ((e3,v3)::((e2,v2)::((e1,v1)::((e0,v0)::E)))) h)(oM:Nat.blt j0 A.length=true:=by exact rfl)(BC:mf A E (ir A j0)=some true:=by exact rfl)(rO:(ir A j0).dst=some e0:=by exact rfl)(za:decide (kz P (ir A j0).op = .mL)=false:=by exact rfl)(Ii:∀h,jS P E h (ir A j0).op=some (v0,h):=by exact λ_=>rfl)(yf:Nat.blt j1 A.length=true:=by exact rfl)(xi:mf A ((e0,v0)::E) (ir A j1)=some true:=by exact rfl)(qR:(ir A j1).dst=some e1:=by exact rfl)(vw:decide (kz P (ir A j1).op = .mL)=false:=by exact rfl)(Bv:∀h,jS P ((e0,v0)::E) h (ir A j1).op=some (v1,h):=by exact λ_=>rfl)(sT:Nat.blt j2 A.length=true:=by exact rfl)(BD:mf A ((e1,v1)::((e0,v0)::E)) (ir A j2)=some true:=by exact rfl)(KV:(ir A j2).dst=some e2:=by exact rfl)(Aj:decide (kz P (ir A j2).op = .mL)=false:=by exact rfl)(D6:∀h,jS P ((e1,v1)::((e0,v0)::E)) h (ir A j2).op=some (v2,h):=by exact λ_=>rfl)(hi3:Nat.blt j3 A.length=true:=by exact rfl)(hw3:mf A ((e2,v2)::((e1,v1)::((e0,v0)::E))) (ir A j3)=some true:=by exact rfl)(hd3:(ir A j3).dst=some e3:=by exact rfl)(KZ:decide (kz P (ir A j3).op = .mL)=false:=by exact rfl)(ho3:∀h,jS P ((e2,v2)::((e1,v1)::((e0,v0)::E))) h (ir A j3).op=some (v3,h):=by exact λ_=>rfl):W P K fn k A dr G (j0::j1::j2::j3::L) E h:=j8 oM BC rO za Ii (j8 yf xi qR vw Bv (j8 sT BD KV Aj D6 (j8 hi3 hw3 hd3 KZ ho3 x)))
theorem qr{v:gE}(ho:Rd P G E (ir A i).op v)(x:W P K fn k A dr G L ((d,v)::E) h)(hq:mB A E i d:=by exact⟨rfl,rfl,rfl⟩):W P K fn k A dr G (i::L) E h:=ra hq.1 hq.2.1 hq.2.2 ho x
theorem qq{v:gE}(ho:Rd P (kq h) E (ir A i).op v)(x:W P K fn k A dr G L ((d,v)::E) h)(hb:ahead P A i L=true:=by kernel_rfl)(hq:mB A E i d:=by exact⟨rfl,rfl,rfl⟩):W P K fn k A dr G (i::L) E h:=JZ hb hq.1 hq.2.1 hq.2.2 ho x
theorem qx{Q:gE→Hp→Prop}(ho:Ef P E h (ir A i).op Q)(x:∀v h',Q v h'→jG P K fn k A dr G L ((d,v)::E) h')(hq:mB A E i d:=by exact⟨rfl,rfl,rfl⟩):W P K fn k A dr G (i::L) E h:=SE hq.1 hq.2.1 hq.2.2 ho x
theorem qu{Q:gE→Hp→Prop}(ho:Ef P E h (ir A i).op Q)(x:∀v h',Q v h'→jG P K fn k A dr G L E h')(hq:Fo A E i:=by exact⟨rfl,rfl,rfl⟩):W P K fn k A dr G (i::L) E h:=SF hq.1 hq.2.1 hq.2.2 ho x
theorem ql{f:FuncId}{args:List gE}{R:gE→Hp→Prop}(hc:iN P K f args h R)(x:∀v h',R v h'→jG P K fn k A dr G L ((d,v)::E) h')(hq:mB A E i d:=by exact⟨rfl,rfl,rfl⟩)(ht:AN E (ir A i).op=some (f,args):=by exact rfl):W P K fn k A dr G (i::L) E h:=qM hq.1 hq.2.1 hq.2.2 ht hc x
theorem qn{y:Code}(q:C P K fn k y E h):W P K fn (.code y k) A dr G [] E h:=ku (nN q)
theorem qs{id:Nat}{y:Code}(x:W P K fn (.code y k) A false (kq h) (List.range A.length) E h)(hd:uF fn.ntmps A=true:=by exact rfl):C P K fn k (.seq (.region id A.toArray false) y) E h:=kr (Sg hd x)
theorem qd{id:Nat}(x:W P K fn k A false (kq h) (List.range A.length) E h)(hd:uF fn.ntmps A=true:=by exact rfl):C P K fn k (.region id A.toArray false) E h:=Sg hd x
variable{y:Code}{X:List Nat}{h0 w:Hp}{F0 F' F:gL}{Ls:List Ob}{g o off s f:Nat}{cs:List gE}{v u:gE}{x y' z':Operand}{t e':TypeId}
theorem qm(q:C P K fn k y ((d,v)::E) h)(hq:mB A E i d:=by exact⟨rfl,rfl,rfl⟩)(hk:decide (kz P (ir A i).op = .mL)=false:=by exact rfl)(ho:∀h,jS P E h (ir A i).op=some (v,h):=by exact λ_=>rfl):W P K fn (.code y k) A dr G [i] E h:=j8 hq.1 hq.2.1 hq.2.2 hk ho (ku (nN q))
theorem qk(q:C P K fn k y E h):C P K fn (.code y k) .skip E h:=s6 (nN q)
theorem qz(q:W P K fn k A dr G L ((d,.no)::E) h)(hi:Nat.blt i A.length=true:=by exact rfl)(hw:mf A E (ir A i)=some false:=by exact rfl)(hd:(ir A i).dst=some d:=by exact rfl):W P K fn k A dr G (i::L) E h:=Fq hi hw hd q
theorem qf(hf:oz P s f=some off)(q:W P K fn k A dr G L ((d,pl g (o+off))::E) h)(hq:mB A E i d:=by exact⟨rfl,rfl,rfl⟩)(ji:(ir A i).op = .fieldAddr s x f:=by exact rfl)(hx:iP E x=some (pl g o):=by exact rfl):W P K fn k A dr G (i::L) E h:=ra hq.1 hq.2.1 hq.2.2 (ji▸Ss off hf hx) q
theorem qb(n:Nat)(ht:lG P t=some false)(hS:St X h0 F0 F Ls h)(q:W P K fn k A dr (kq h) L ((d,u)::E) h)(hq:mB A E i d:=by exact⟨rfl,rfl,rfl⟩)(ji:(ir A i).op = .load t x:=by exact rfl)(hx:iP E x=some (pl g o):=by exact rfl)(hk:Ls[n]? =some (.box g cs):=by exact rfl)(hu:cs[o]? =some u:=by exact rfl):W P K fn k A dr (kq h) (i::L) E h:=ra hq.1 hq.2.1 hq.2.2 (ji▸lN n ht hx hS hk hu) q
theorem zr(n:Nat)(ht:lG P t=some false)(hS:St X h0 F0 F Ls h)(q:W P K fn k A dr G L ((d,u)::E) h)(hb:ahead P A i L=true:=by kernel_rfl)(hq:mB A E i d:=by exact⟨rfl,rfl,rfl⟩)(ji:(ir A i).op = .load t x:=by exact rfl)(hx:iP E x=some (pl g o):=by exact rfl)(hk:Ls[n]? =some (.box g cs):=by exact rfl)(hu:cs[o]? =some u:=by exact rfl):W P K fn k A dr G (i::L) E h:=JZ hb hq.1 hq.2.1 hq.2.2 (ji▸lN n ht hx hS hk hu) q
theorem qh(n:Nat)(b:A2 w g cs)(hS:St X h0 F0 F Ls h)(q:W P K fn k A dr (F.hold w [g]) L E h)(hk:Ls[n]? =some (.box g cs):=by exact rfl):jG P K fn k A dr (F.hold w [g]) L E h:=jG.mW (HB.le (HB.cons n b hS hk HB.nil) (gL.le.refl _)) (HB.agree (HB.cons n b hS hk HB.nil) hS.agree) q
theorem qi{a b:Nat}{kk:IntKind}{n:Int}(ht:P.underlying t=some (.slice e'))(hz:sz P e'=some a)(hE:zU v b)(hn:0≤n)(q:W P K fn k A dr G L ((d,oy v (b*a))::E) h)(hq:mB A E i d:=by exact⟨rfl,rfl,rfl⟩)(ji:(ir A i).op = .indexAddr t x y':=by exact rfl)(hx:iP E x=some v:=by exact rfl)(hy:iP E y'=some (.i kk n):=by exact rfl)(UX:n.toNat=b:=by exact rfl):W P K fn k A dr G (i::L) E h:=ra hq.1 hq.2.1 hq.2.2 (ji▸Su ht hz hx hy hE hn UX) q
theorem lm{f:FuncId}{args:List gE}{R:gE→Hp→Prop}(hc:iN P K f args h R)(x:∀v h',R v h'→W P K fn k A false (kq h') L ((d,v)::E) h')(hq:mB A E i d:=by exact⟨rfl,rfl,rfl⟩)(ht:AN E (ir A i).op=some (f,args):=by exact rfl):W P K fn k A false G (i::L) E h:=qM hq.1 hq.2.1 hq.2.2 ht hc λv h' r=>jG.now (x v h' r)
theorem xm{Q:gE→Hp→Prop}(ho:Ef P E h (ir A i).op Q)(x:∀v h',Q v h'→W P K fn k A false (kq h') L ((d,v)::E) h')(hq:mB A E i d:=by exact⟨rfl,rfl,rfl⟩):W P K fn k A false G (i::L) E h:=SE hq.1 hq.2.1 hq.2.2 ho λv h' r=>jG.now (x v h' r)
theorem um{Q:gE→Hp→Prop}(ho:Ef P E h (ir A i).op Q)(x:∀v h',Q v h'→W P K fn k A false (kq h') L E h')(hq:Fo A E i:=by exact⟨rfl,rfl,rfl⟩):W P K fn k A false G (i::L) E h:=SF hq.1 hq.2.1 hq.2.2 ho λv h' r=>jG.now (x v h' r)
theorem lg{f:FuncId}{c:Code}{a0:gE}{R:gE→Hp→Prop}(hf:P.funcs[f]? =some fn)(q:C P K fn (.done R) c [(0,a0)] h)(hb:fn.body=some c:=by exact rfl)(hm:fn.name ≠ "runtime.NumGoroutine":=by decide)(hn:Nat.ble 1 fn.ntmps=true:=by exact rfl):iN P K f [a0] h R:=Dz (args:=[a0]) hf hb hm hn q
theorem kB{f:FuncId}{c:Code}{a0 a1:gE}{R:gE→Hp→Prop}(hf:P.funcs[f]? =some fn)(q:C P K fn (.done R) c [(0,a0),(1,a1)] h)(hb:fn.body=some c:=by exact rfl)(hm:fn.name ≠ "runtime.NumGoroutine":=by decide)(hn:Nat.ble 2 fn.ntmps=true:=by exact rfl):iN P K f [a0,a1] h R:=Dz (args:=[a0,a1]) hf hb hm hn q
theorem vH{f:FuncId}{c:Code}{a0 a1 a2:gE}{R:gE→Hp→Prop}(hf:P.funcs[f]? =some fn)(q:C P K fn (.done R) c [(0,a0),(1,a1),(2,a2)] h)(hb:fn.body=some c:=by exact rfl)(hm:fn.name ≠ "runtime.NumGoroutine":=by decide)(hn:Nat.ble 3 fn.ntmps=true:=by exact rfl):iN P K f [a0,a1,a2] h R:=Dz (args:=[a0,a1,a2]) hf hb hm hn q
theorem qa4{f:FuncId}{c:Code}{a0 a1 a2 a3:gE}{R:gE→Hp→Prop}(hf:P.funcs[f]? =some fn)(q:C P K fn (.done R) c [(0,a0),(1,a1),(2,a2),(3,a3)] h)(hb:fn.body=some c:=by exact rfl)(hm:fn.name ≠ "runtime.NumGoroutine":=by decide)(hn:Nat.ble 4 fn.ntmps=true:=by exact rfl):iN P K f [a0,a1,a2,a3] h R:=Dz (args:=[a0,a1,a2,a3]) hf hb hm hn q
theorem qC{id:Nat}{y:Code}{v:gE}(x:W P K fn (.code y k) A false (kq h) L ((d,v)::E) h)(y5:uF fn.ntmps A=true:=by exact rfl)(hl:List.range A.length=i::L:=by exact rfl)(hq:mB A E i d:=by exact⟨rfl,rfl,rfl⟩)(hk:decide (kz P (ir A i).op = .mL)=false:=by exact rfl)(ho:∀h,jS P E h (ir A i).op=some (v,h):=by exact λ_=>rfl):C P K fn k (.seq (.region id A.toArray false) y) E h:=qs (hl▸qc x hq hk ho) y5
theorem Gy{id:Nat}{y:Code}{v:gE}(x:C P K fn k y ((d,v)::E) h)(y5:uF fn.ntmps A=true:=by exact rfl)(hl:List.range A.length=[i]:=by exact rfl)(hq:mB A E i d:=by exact⟨rfl,rfl,rfl⟩)(hk:decide (kz P (ir A i).op = .mL)=false:=by exact rfl)(ho:∀h,jS P E h (ir A i).op=some (v,h):=by exact λ_=>rfl):C P K fn k (.seq (.region id A.toArray false) y) E h:=qs (hl▸qm x hq hk ho) y5
theorem qw{h0:Hp}{X:List Nat}{F0 F:gL}{Ls:List Ob}(hS:St X h0 F0 F Ls h)(q:W P K fn k A dr F L E h):jG P K fn k A dr F L E h:=jG.mW (gL.le.refl _) hS.agree q
theorem kC{b b':Bool}(t:Nat)(e:b=b')(q:W P K fn k A dr G L ((t,.b b')::E) h)(hl:look E t=some (.b b):=by exact rfl):W P K fn k A dr G L E h:=XY hl (congrArg gE.b e) q
theorem qt{vs:List gE}{v:gE}(hR:k.final v h)(hv:outs P E h fn.results.toList=some vs:=by exact rfl)(ho:zq vs=v:=by exact rfl):C P K fn k .ret E h:=Sh hv ho hR
theorem qj{G:gL}{v:gE}{i:Nat}{cs:List gE}(s:Nat)(q:nM G v s i cs):nM G v s i cs:=q
theorem qy{α:Type}{a b:Option α}{r:α}{t:Bool}{c d:Code}{x:Operand}(H:(if t=true then a else b)=some r)(p:t=true→a=some r→C P K fn k c E h)(q:t=false→b=some r→C P K fn k d E h)(hx:iP E x=some (.b t):=by exact rfl):C P K fn k (.cond x c d) E h:=qg hx (λe=>p e ((iZ e).symm.trans H)) (λe=>q e ((iR e).symm.trans H))
theorem je{j d':Nat}(q:W P K fn k A dr G L ((d',.no)::(d,.no)::E) h)(hi:Nat.blt i A.length=true:=by exact rfl)(hw:mf A E (ir A i)=some false:=by exact rfl)(hd:(ir A i).dst=some d:=by exact rfl)(lY:Nat.blt j A.length=true:=by exact rfl)(hw':mf A ((d,.no)::E) (ir A j)=some false:=by exact rfl)(y5:(ir A j).dst=some d':=by exact rfl):W P K fn k A dr G (i::j::L) E h:=Fq hi hw hd (Fq lY hw' y5 q)
theorem iG{α β γ:Type}{o:Option α}{p:α→Option β}{f:α→β→Option γ}{r:γ}(H:(bd o λx=>bd (p x) (f x))=some r):∃x,o=some x ∧ ∃y,p x=some y∧f x y=some r:=by
 obtain⟨x,h1,H⟩:=iy H;obtain⟨y,h2,H⟩:=iy H;exact⟨x,h1,y,h2,H⟩
theorem oi{α:Type}{a b:α}(h:some a=some b):a=b:=Option.some.inj h
end
end Go.V
end
section
namespace Go.V
open Go.Wk
class kZ(P:Program)(s f:Nat)(off:outParam Nat):Prop where
 out:oz P s f=some off
class mz(P:Program)(t:Nat)(b:outParam Bool):Prop where
 out:lG P t=some b
class xK(P:Program)(t:Nat)(cs:outParam (List gE)):Prop where
 out:(zeroV P t).map gE.cells=some cs
class mQ(P:Program)(t:Nat)(n:outParam Nat):Prop where
 out:sz P t=some n
class sg(P:Program)(t:Nat)(e:outParam Nat):Prop where
 out:P.underlying t=some (.slice e)
class SA(P:Program)(t:Nat):Prop where
 out:P.underlying t=some .string
class uz(P:Program)(t:Nat)(n:outParam Nat):Prop where
 out:pC P t n=true
class uA(P:Program)(t:Nat):Prop where
 out:rV P t=some false
theorem gL.tr{a b c:gL}(h2:b.le c)(h1:a.le b):a.le c:=h1.trans h2
theorem iI{a b:gL}(h:a.le b:=by first|exact gL.le.refl _|assumption|(refine gL.tr (by assumption) ?_;first|exact gL.le.refl _|assumption|(refine gL.tr (by assumption) ?_;first|exact gL.le.refl _|assumption|(refine gL.tr (by assumption) ?_;first|exact gL.le.refl _|assumption|(refine gL.tr (by assumption) ?_;first|exact gL.le.refl _|assumption|(refine gL.tr (by assumption) ?_;first|exact gL.le.refl _|assumption|(refine gL.tr (by assumption) ?_;first|exact gL.le.refl _|assumption|(refine gL.tr (by assumption) ?_;first|exact gL.le.refl _|assumption|(refine gL.tr (by assumption) ?_;first|exact gL.le.refl _|assumption))))))))):a.le b:=h
def aaB:Op→Bool
 | .move _=>true
 | .assign _=>true
 | .unOp .not _ _=>true
 | .extract _ _=>true
 | .pick _ _ _=>true
 | .nilCheck _=>true
 | .unOp .neg _ _=>true
 | .makeFunc ..=>true
 | .call { callee:=.builtin .max,.. }=>true
 | .call { callee:=.builtin .min,.. }=>true
 |_=>false
section
variable{P:Program}{K:Tb}{fn:Func}{k:oe}{E:EL}{h:Hp}{A:List Oper}{dr:Bool}{G:gL}{L:List Nat}{i d:Nat}
theorem ac{v:gE}(x:W P K fn k A dr G L ((d,v)::E) h)(he:aaB (ir A i).op=true:=by exact rfl)(hq:mB A E i d:=by exact⟨rfl,rfl,rfl⟩)(hk:decide (kz P (ir A i).op = .mL)=false:=by exact rfl)(ho:∀h,jS P E h (ir A i).op=some (v,h):=by exact λ_=>rfl):W P K fn k A dr G (i::L) E h:=j8 hq.1 hq.2.1 hq.2.2 hk ho x
def wide:IntKind→Bool
 | .i64=>true
 | .u64=>true
 |_=>false
theorem aA{op:BinOp}{t t2:TypeId}{x y:Operand}{kk:IntKind}{a:Int}{v:gE}(z:W P K fn k A dr G L ((d,v)::E) h)(ji:(ir A i).op = .binOp op t x y t2:=by exact rfl)(hx:iP E x=some (.i kk a):=by exact rfl)(hk:wide kk=true:=by exact rfl)(hA:(op == .add||op == .sub||op == .mul)=true:=by exact rfl)(hq:mB A E i d:=by exact⟨rfl,rfl,rfl⟩)(he:decide (kz P (ir A i).op = .mL)=false:=by exact rfl)(ho:∀h,jS P E h (ir A i).op=some (v,h):=by exact λ_=>rfl):W P K fn k A dr G (i::L) E h:=j8 hq.1 hq.2.1 hq.2.2 he ho z
theorem an(x:W P K fn k A dr G L ((d,.no)::E) h)(hi:Nat.blt i A.length=true:=by exact rfl)(hw:mf A E (ir A i)=some false:=by exact rfl)(hd:(ir A i).dst=some d:=by exact rfl):W P K fn k A dr G (i::L) E h:=Fq hi hw hd x
theorem ab{op:BinOp}{t t2:TypeId}{x y:Operand}{a b v:gE}(z:W P K fn k A dr G L ((d,v)::E) h)(ji:(ir A i).op = .binOp op t x y t2:=by exact rfl)(hq:mB A E i d:=by exact⟨rfl,rfl,rfl⟩)(hx:iP E x=some a:=by exact rfl)(hy:iP E y=some b:=by exact rfl)(hv:kJ P op t a b=some v:=by first|exact nQ|exact Cp|exact qv|exact YD|exact vg|exact DH|exact SU|exact YI|exact SV|exact YH|exact YG|exact YF):W P K fn k A dr G (i::L) E h :=
 ra hq.1 hq.2.1 hq.2.2 (by rw[ji];exact iB hx hy hv) z
theorem af{s f g o off:Nat}{x:Operand}(q:W P K fn k A dr G L ((d,pl g (o+off))::E) h)(ji:(ir A i).op = .fieldAddr s x f:=by exact rfl)(hx:iP E x=some (pl g o):=by exact rfl)(hq:mB A E i d:=by exact⟨rfl,rfl,rfl⟩)(hf:oz P s f=some off:=by exact kZ.out):W P K fn k A dr G (i::L) E h :=
 ra hq.1 hq.2.1 hq.2.2 (ji▸Ss off hf hx) q
theorem aF{s f o off j:Nat}{v:gE}{x:Operand}(q:W P K fn k A dr G L ((d,oy v (o+off))::E) h)(ji:(ir A i).op = .fieldAddr s x f:=by exact rfl)(hx:iP E x=some (oy v o):=by exact rfl)(hq:mB A E i d:=by exact⟨rfl,rfl,rfl⟩)(hj:zU v j:=by first|assumption|exact nM.ky (by assumption))(hf:oz P s f=some off:=by exact kZ.out):W P K fn k A dr G (i::L) E h :=
 ra hq.1 hq.2.1 hq.2.2 (ji▸nr off hf hx hj) q
theorem aN{o j:Nat}{v:gE}{x:Operand}(q:W P K fn k A dr G L ((d,oy v o)::E) h)(ji:(ir A i).op = .nilCheck x:=by exact rfl)(hx:iP E x=some (oy v o):=by exact rfl)(hq:mB A E i d:=by exact⟨rfl,rfl,rfl⟩)(hj:zU v j:=by first|assumption|exact nM.ky (by assumption)):W P K fn k A dr G (i::L) E h :=
 ra hq.1 hq.2.1 hq.2.2 (ji▸XS hx hj) q
theorem aL{T e:TypeId}{x:Operand}{v:gE}{n:Nat}(q:W P K fn k A dr G L ((d,.i .i64 n)::E) h)(ji:(ir A i).op = .call { callee:=.builtin .len,args:=#[x],argTypes:=#[T] }:=by exact rfl)(hx:iP E x=some v:=by exact rfl)(hq:mB A E i d:=by exact⟨rfl,rfl,rfl⟩)(hn:Ln v n:=by first|exact A5.ln (by assumption)|exact iq.ln (by assumption))(ht:P.underlying T=some (.slice e):=by exact sg.out):W P K fn k A dr G (i::L) E h :=
 ra hq.1 hq.2.1 hq.2.2 (ji▸jV ht hx hn) q
theorem aS{T:TypeId}{x:Operand}{s:List UInt8}(q:W P K fn k A dr G L ((d,.i .i64 s.length)::E) h)(ji:(ir A i).op = .call { callee:=.builtin .len,args:=#[x],argTypes:=#[T] }:=by exact rfl)(hx:iP E x=some (.s s):=by exact rfl)(hq:mB A E i d:=by exact⟨rfl,rfl,rfl⟩)(ht:P.underlying T=some .string:=by exact SA.out):W P K fn k A dr G (i::L) E h :=
 ra hq.1 hq.2.1 hq.2.2 (ji▸Sw ht hx) q
theorem aB{X:List Nat}{h0:Hp}{F0 F:gL}{Ls:List Ob}{g o:Nat}{cs:List gE}{t:TypeId}{x:Operand}{u:gE}(q:W P K fn k A dr (kq h) L ((d,u)::E) h)(ji:(ir A i).op = .load t x:=by exact rfl)(hx:iP E x=some (pl g o):=by exact rfl)(hS:St X h0 F0 F Ls h:=by assumption)(hk:∃n:Nat,Ls[n]? =some (.box g cs):=by first|exact⟨0,rfl⟩|exact⟨1,rfl⟩|exact⟨2,rfl⟩|exact⟨3,rfl⟩|exact⟨4,rfl⟩|exact⟨5,rfl⟩|exact⟨6,rfl⟩|exact⟨7,rfl⟩|exact⟨8,rfl⟩)(hq:mB A E i d:=by exact⟨rfl,rfl,rfl⟩)(hu:cs[o]? =some u:=by exact rfl)(ht:lG P t=some false:=by exact mz.out):W P K fn k A dr (kq h) (i::L) E h :=
 hk.elim λn hk=>ra hq.1 hq.2.1 hq.2.2 (ji▸lN n ht hx hS hk hu) q
theorem aE{F1:gL}{t:TypeId}{s j f:Nat}{v u:gE}{cs:List gE}{x:Operand}(q:W P K fn k A dr G L ((d,u)::E) h)(ji:(ir A i).op = .load t x:=by exact rfl)(hx:iP E x=some (oy v (j*s+f)):=by exact rfl)(hq:mB A E i d:=by exact⟨rfl,rfl,rfl⟩)(ht:lG P t=some false:=by exact mz.out)(hE:nM F1 v s j cs:=by assumption)(hm:F1.le G:=by first|exact gL.le.refl _|exact St.agree (by assumption)|exact Agree.le (St.agree (by assumption)) iI|exact iI|exact gL.tr (gL.Iy _ _ _) iI)(hu:cs[f]? =some u:=by exact rfl):W P K fn k A dr G (i::L) E h :=
 ra hq.1 hq.2.1 hq.2.2 (ji▸la f ht hx (hE.mono hm) rfl hu) q
theorem J1{F1:gL}{t:TypeId}{s j:Nat}{v u:gE}{cs:List gE}{x:Operand}(q:W P K fn k A dr G L ((d,u)::E) h)(ji:(ir A i).op = .load t x:=by exact rfl)(hx:iP E x=some (oy v (j*s)):=by exact rfl)(hq:mB A E i d:=by exact⟨rfl,rfl,rfl⟩)(ht:lG P t=some false:=by exact mz.out)(hE:nM F1 v s j cs:=by assumption)(hm:F1.le G:=by first|exact gL.le.refl _|exact St.agree (by assumption)|exact Agree.le (St.agree (by assumption)) iI|exact iI|exact gL.tr (gL.Iy _ _ _) iI)(hu:cs[0]? =some u:=by exact rfl):W P K fn k A dr G (i::L) E h :=
 ra hq.1 hq.2.1 hq.2.2 (ji▸la 0 ht hx (hE.mono hm) rfl hu) q
theorem J2{F1:gL}{t:TypeId}{s j f e:Nat}{v u:gE}{cs:List gE}{x:Operand}(q:W P K fn k A dr G L ((d,u)::E) h)(ji:(ir A i).op = .load t x:=by exact rfl)(hx:iP E x=some (oy v (j*s+f+e)):=by exact rfl)(hq:mB A E i d:=by exact⟨rfl,rfl,rfl⟩)(ht:lG P t=some false:=by exact mz.out)(hE:nM F1 v s j cs:=by assumption)(hm:F1.le G:=by first|exact gL.le.refl _|exact St.agree (by assumption)|exact Agree.le (St.agree (by assumption)) iI|exact iI|exact gL.tr (gL.Iy _ _ _) iI)(hu:cs[f+e]? =some u:=by exact rfl):W P K fn k A dr G (i::L) E h :=
 ra hq.1 hq.2.1 hq.2.2 (ji▸la (f+e) ht hx (hE.mono hm) (Nat.add_assoc _ _ _) hu) q
theorem aG{F1:gL}{t:TypeId}{s j:Nat}{v:gE}{cs:List gE}{x:Operand}(q:W P K fn k A dr G L ((d,.agg cs)::E) h)(ji:(ir A i).op = .load t x:=by exact rfl)(hx:iP E x=some (oy v (j*s)):=by exact rfl)(hq:mB A E i d:=by exact⟨rfl,rfl,rfl⟩)(ht:lG P t=some true:=by exact mz.out)(hz:sz P t=some s:=by exact mQ.out)(hE:nM F1 v s j cs:=by assumption)(hm:F1.le G:=by first|exact gL.le.refl _|exact St.agree (by assumption)|exact Agree.le (St.agree (by assumption)) iI|exact iI|exact gL.tr (gL.Iy _ _ _) iI):W P K fn k A dr G (i::L) E h :=
 ra hq.1 hq.2.1 hq.2.2 (ji▸pw 0 cs ht (by rw[hE.1];exact hz) hx (hE.mono hm) rfl (by rw[hE.1,List.drop_zero,List.take_of_length_le (Nat.le_of_eq hE.1)]) (by rw[hE.1,Nat.zero_add];exact Nat.le_refl _)) q
theorem aI{T e:TypeId}{F1:gL}{s:Nat}{kk:IntKind}{n:Int}{v:gE}{cs:List gE}{x y:Operand}{α:Type}{xs:List α}{z:α}(q:W P K fn k A dr G L ((d,oy v (n.toNat*s))::E) h)(ji:(ir A i).op = .indexAddr T x y:=by exact rfl)(hx:iP E x=some v:=by exact rfl)(hy:iP E y=some (.i kk n):=by exact rfl)(hq:mB A E i d:=by exact⟨rfl,rfl,rfl⟩)(ht:P.underlying T=some (.slice e):=by exact sg.out)(hz:sz P e=some s:=by exact mQ.out)(hE:nM F1 v s n.toNat cs:=by assumption)(hn:ix xs n=some z:=by assumption):W P K fn k A dr G (i::L) E h :=
 ra hq.1 hq.2.1 hq.2.2 (ji▸Su ht hz hx hy hE.ky (iD hn).1 rfl) q
theorem aW{X:List Nat}{h0:Hp}{F0 F:gL}{Ls:List Ob}{g:Nat}{cs:List gE}{t:TypeId}{x:Operand}(q:W P K fn k A dr (kq h) L ((d,.agg cs)::E) h)(ji:(ir A i).op = .load t x:=by exact rfl)(hx:iP E x=some (pl g 0):=by exact rfl)(hq:mB A E i d:=by exact⟨rfl,rfl,rfl⟩)(ht:lG P t=some true:=by exact mz.out)(hS:St X h0 F0 F Ls h:=by assumption)(hk:∃n:Nat,Ls[n]? =some (.box g cs):=by first|exact⟨0,rfl⟩|exact⟨1,rfl⟩|exact⟨2,rfl⟩|exact⟨3,rfl⟩|exact⟨4,rfl⟩|exact⟨5,rfl⟩|exact⟨6,rfl⟩|exact⟨7,rfl⟩|exact⟨8,rfl⟩)(hz:sz P t=some cs.length:=by exact mQ.out)(hp:0<cs.length:=by exact Nat.zero_lt_succ _):W P K fn k A dr (kq h) (i::L) E h :=
 hk.elim λn hk=>ra hq.1 hq.2.1 hq.2.2 (ji▸rC n cs ht hz hp hx hS hk (λq u h=>by rw[Nat.zero_add];exact h)) q
theorem js{α:Type}{t:Tr α}{F:gL}{v:gE}{xs:List α}{i:Int}{x:α}(n:Nat)(s:iq t F v xs)(hx:ix xs i=some x)(hz:t.size=n:=by exact rfl):∃cs,t.rel F cs x∧nM F v n i.toNat cs:=by
 subst hz;exact s.el (iD hx).2
theorem mw{α:Type}{t:Tr α}{X:List Nat}{h0:Hp}{F0 F:gL}{Ls:List Ob}{v:gE}{xs:List α}{i:Int}{x:α}(n k:Nat)(hS:St X h0 F0 F Ls h)(hx:ix xs i=some x)(hk:Ls[k]? =some (.row t v xs):=by exact rfl)(hz:t.size=n:=by exact rfl):∃cs,t.rel F cs x∧nM (kq h) v n i.toNat cs:=by
 subst hz;exact hS.rowAt hk (iD hx).2
theorem lp{X:List Nat}{h0:Hp}{F0 F F1:gL}{Ls:List Ob}{f:FuncId}{args:List gE}{u:gE}(hc:iN P K f args h λv w'=>∃F',v=u∧St [] h F1 F' [] w')(hS:St X h0 F0 F Ls h)(x:∀w',St X h0 F0 F Ls w'→W P K fn k A false (kq w') L ((d,u)::E) w')(hq:mB A E i d:=by exact⟨rfl,rfl,rfl⟩)(ht:AN E (ir A i).op=some (f,args):=by exact rfl):W P K fn k A false G (i::L) E h :=
 lm hc (by rintro v w' ⟨F',rfl,hT⟩;exact x w' (hS.oN hT)) hq ht
theorem aQ{X:List Nat}{h0:Hp}{F0 F:gL}{Ls:List Ob}{g o:Nat}{cs:List gE}{t:TypeId}{x:Operand}{u:gE}(q:W P K fn k A dr G L ((d,u)::E) h)(ji:(ir A i).op = .load t x:=by exact rfl)(hx:iP E x=some (pl g o):=by exact rfl)(hS:St X h0 F0 F Ls h:=by assumption)(hk:∃n:Nat,Ls[n]? =some (.box g cs):=by first|exact⟨0,rfl⟩|exact⟨1,rfl⟩|exact⟨2,rfl⟩|exact⟨3,rfl⟩|exact⟨4,rfl⟩)(hq:mB A E i d:=by exact⟨rfl,rfl,rfl⟩)(hu:cs[o]? =some u:=by exact rfl)(ht:lG P t=some false:=by exact mz.out)(hb:ahead P A i L=true:=by decide+kernel):W P K fn k A dr G (i::L) E h :=
 hk.elim λn hk=>JZ hb hq.1 hq.2.1 hq.2.2 (ji▸lN n ht hx hS hk hu) q
theorem ao{c x y:Operand}{b p:Bool}(z:W P K fn k A dr G L ((d,.b (b||p))::E) h)(ji:(ir A i).op = .pick c x y:=by exact rfl)(hx:iP E x=some (.b true):=by exact rfl)(hq:mB A E i d:=by exact⟨rfl,rfl,rfl⟩)(hc:iP E c=some (.b b):=by exact rfl)(hy:b=false→iP E y=some (.b p):=by first|exact λ_=>rfl|exact λhc=>by rw[hc];rfl):W P K fn k A dr G (i::L) E h:=X3 hq.1 hq.2.1 hq.2.2 ji hc hx hy z
theorem aa{c x y:Operand}{b p:Bool}(z:W P K fn k A dr G L ((d,.b (b&&p))::E) h)(ji:(ir A i).op = .pick c x y:=by exact rfl)(hy:iP E y=some (.b false):=by exact rfl)(hq:mB A E i d:=by exact⟨rfl,rfl,rfl⟩)(hc:iP E c=some (.b b):=by exact rfl)(hx:b=true→iP E x=some (.b p):=by first|exact λ_=>rfl|exact λhc=>by rw[hc];rfl):W P K fn k A dr G (i::L) E h:=X2 hq.1 hq.2.1 hq.2.2 ji hc hx hy z
structure Left(S:Prop):Prop where
 out:S
theorem a0{S Q:Prop}(hp:S)(hq:Left S→Q:=by
  intro hp
  first|refine ac ?_|refine aA ?_|refine af ?_|refine ab ?_|refine aF ?_|refine aL ?_|refine aS ?_|refine aB ?_|refine aN ?_|refine aa ?_|refine ao ?_|refine aW ?_|refine aQ ?_
  exact hp.out):Q:=hq ⟨hp⟩
theorem a1{S Q:Prop}(hp:S)(hq:Left S→Q:=by
  intro hp
  first|refine ac ?_|refine qn ?_|refine aA ?_|refine af ?_|refine ab ?_|refine aF ?_|refine aL ?_|refine aB ?_|refine aI ?_|refine aE ?_|refine aQ ?_|refine J1 ?_|refine aG ?_|refine aW ?_|refine J2 ?_|refine aS ?_|refine aN ?_
  exact hp.out):Q:=hq ⟨hp⟩
theorem aiR{j:Nat}{cs:List (Bool×Bool)}{b want:Bool}(hg:(ir A i).guard=some (j,want))(hy:uX A E j=some (pc cs (.b b)))(hn:pI (cs++[(b,want)])):mf A E (ir A i)=some true:=by
 obtain⟨h1,h2⟩:=He.1 hn;unfold mf;simp only[hg];unfold uX at hy;rw[hy,FE h1];simp[h2]
theorem SK{j:Nat}{cs:List (Bool×Bool)}{b want:Bool}{u:gE}{x:Operand}(q:W P K fn k A dr G L ((d,pc (cs++[(b,want)]) u)::E) h)(ji:(ir A i).op = .move x:=by exact rfl)(hg:(ir A i).guard=some (j,want):=by exact rfl)(hy:uX A E j=some (pc cs (.b b)):=by exact rfl)(hi:Nat.blt i A.length=true:=by exact rfl)(hd:(ir A i).dst=some d:=by exact rfl)(hx:iP E x=some (pc (cs++[(b,want)]) u):=by exact rfl):W P K fn k A dr G (i::L) E h :=
 Cj hg hy hi hd (λha hK=>j8 hi (aiR hg hy ha) hd (by rw[ji];rfl) (λh=>by rw[ji];simp only[jS,hx,FE ha,Option.map_some]) hK) q
theorem Yj{j:Nat}{b want:Bool}{u:gE}{x:Operand}(q:W P K fn k A dr G L ((d,pc [(b,want)] u)::E) h)(ji:(ir A i).op = .move x:=by exact rfl)(hg:(ir A i).guard=some (j,want):=by exact rfl)(hy:uX A E j=some (.b b):=by exact rfl)(hi:Nat.blt i A.length=true:=by exact rfl)(hd:(ir A i).dst=some d:=by exact rfl)(hx:iP E x=some (pc [(b,want)] u):=by exact rfl):W P K fn k A dr G (i::L) E h :=
 SK (cs:=[]) q ji hg hy hi hd hx
theorem ag{j:Nat}{b want:Bool}{v:gE}(q:W P K fn k A dr G L ((d,pc [(b,want)] v)::E) h)(hg:(ir A i).guard=some (j,want):=by exact rfl)(hy:uX A E j=some (.b b):=by exact rfl)(hi:Nat.blt i A.length=true:=by exact rfl)(hd:(ir A i).dst=some d:=by exact rfl)(ji:pI [(b,want)]→W P K fn k A dr G L ((d,v)::E) h→W P K fn k A dr G (i::L) E h:=by
  rintro⟨hb,_⟩
  try rw[hb]
  intro hK;refine a0 ?_;exact hK):W P K fn k A dr G (i::L) E h:=nO hg hy hi hd ji q
theorem Yh{j:Nat}{cs:List (Bool×Bool)}{b want:Bool}{v:gE}(q:W P K fn k A dr G L ((d,pc (cs++[(b,want)]) v)::E) h)(hg:(ir A i).guard=some (j,want):=by exact rfl)(hy:uX A E j=some (pc cs (.b b)):=by exact rfl)(hi:Nat.blt i A.length=true:=by exact rfl)(hd:(ir A i).dst=some d:=by exact rfl)(ji:pI (cs++[(b,want)])→W P K fn k A dr G L ((d,v)::E) h→W P K fn k A dr G (i::L) E h:=by
  first|((first|(rintro⟨h1,h2,(_:True)⟩;try rw[h2];try rw[h1])|(rintro⟨h1,h2,h3,(_:True)⟩;try rw[h3];try rw[h2];try rw[h1])|(rintro⟨h1,h2,h3,h4,(_:True)⟩;try rw[h4];try rw[h3];try rw[h2];try rw[h1])|(rintro⟨h1,h2,h3,h4,h5,(_:True)⟩;try rw[h5];try rw[h4];try rw[h3];try rw[h2];try rw[h1]));intro hK;refine a0 ?_;exact hK)|((first|(rintro⟨h1,h2,(_:True)⟩;try rw[h1];try rw[h2])|(rintro⟨h1,h2,h3,(_:True)⟩;try rw[h1];try rw[h2];try rw[h3])|(rintro⟨h1,h2,h3,h4,(_:True)⟩;try rw[h1];try rw[h2];try rw[h3];try rw[h4])|(rintro⟨h1,h2,h3,h4,h5,(_:True)⟩;try rw[h1];try rw[h2];try rw[h3];try rw[h4];try rw[h5]));intro hK;refine a0 ?_;exact hK)):W P K fn k A dr G (i::L) E h:=Cj hg hy hi hd ji q
theorem gE.Tw{v:gE}(h:v.one=true):v.cells=[v]:=by cases v<;>first|rfl|cases h
theorem o1{v:gE}(h:v.one=true:=by first|exact rfl|exact(iq.ln (by assumption)).one|exact(St.kH (k:=0) (by assumption) rfl).one|exact(St.kH (k:=1) (by assumption) rfl).one|exact(St.kH (k:=2) (by assumption) rfl).one|exact(St.kH (k:=3) (by assumption) rfl).one|exact(St.kH (k:=4) (by assumption) rfl).one|exact(St.kH (k:=5) (by assumption) rfl).one|exact(St.kH (k:=6) (by assumption) rfl).one|exact(St.kH (k:=7) (by assumption) rfl).one|exact(St.wb (k:=0) (by assumption) rfl).one|exact(St.wb (k:=1) (by assumption) rfl).one|exact(St.wb (k:=2) (by assumption) rfl).one|exact(St.wb (k:=3) (by assumption) rfl).one|exact(St.wb (k:=4) (by assumption) rfl).one|exact(St.wb (k:=5) (by assumption) rfl).one|exact(St.wb (k:=6) (by assumption) rfl).one|exact(St.wb (k:=7) (by assumption) rfl).one):v.one=true:=h
theorem Np{v:gE}{l:List gE}(h2:l.all gE.one=true)(h1:v.one=true):(v::l).all gE.one=true:=by rw[List.all_cons,h1,h2];rfl
theorem No{a b:List gE}(h2:b.all gE.one=true)(h1:a.all gE.one=true):(a++b).all gE.one=true:=by rw[List.all_append,h1,h2];rfl
theorem sc{X:List Nat}{h0:Hp}{F0 F:gL}{Ls:List Ob}{g o:Nat}{cs:List gE}{t:TypeId}{x y:Operand}{v:gE}(n:Nat)(cs':List gE)(q:∀w',St X h0 F0 F (Ls.set n (.box g cs')) w'→W P K fn k A false (kq w') L E w')(ji:(ir A i).op = .store t x y:=by exact rfl)(hx:iP E x=some (pl g o):=by exact rfl)(hy:iP E y=some v:=by exact rfl)(hS:St X h0 F0 F Ls h:=by assumption)(hk:Ls[n]? =some (.box g cs):=by exact rfl)(hq:Fo A E i:=by exact⟨rfl,rfl,rfl⟩)(h1:v.one=true:=by exact o1)(hz:sz P t=some 1:=by exact mQ.out)(oW:Nat.ble (o+1) cs.length=true:=by exact rfl)(mX:kA cs o [v]=cs':=by exact rfl):W P K fn k A false G (i::L) E h :=
 um (Q:=λ_ h'=>St X h0 F0 F (Ls.set n (.box g cs')) h') (ji▸va (c:=[v]) n cs' hx hy hS hk (gE.Tw h1) hz (by simp[h1]) oW mX) (λ_ w' pf=>q w' pf) hq
theorem sC{X:List Nat}{h0:Hp}{F0 F:gL}{Ls:List Ob}{g o:Nat}{cs:List gE}{t:TypeId}{x y:Operand}{v:gE}(n:Nat)(cs':List gE)(q:∀w',St X h0 F0 F (Ls.set n (.box g cs')) w'→W P K fn k A dr F L E w')(ji:(ir A i).op = .store t x y:=by exact rfl)(hx:iP E x=some (pl g o):=by exact rfl)(hy:iP E y=some v:=by exact rfl)(hS:St X h0 F0 F Ls h:=by assumption)(hk:Ls[n]? =some (.box g cs):=by exact rfl)(hq:Fo A E i:=by exact⟨rfl,rfl,rfl⟩)(h1:v.one=true:=by exact o1)(hz:sz P t=some 1:=by exact mQ.out)(oW:Nat.ble (o+1) cs.length=true:=by exact rfl)(mX:kA cs o [v]=cs':=by exact rfl):W P K fn k A dr F (i::L) E h :=
 qu (Q:=λ_ h'=>St X h0 F0 F (Ls.set n (.box g cs')) h') (ji▸va (c:=[v]) n cs' hx hy hS hk (gE.Tw h1) hz (by simp[h1]) oW mX) (λ_ w' pf=>qw pf (q w' pf)) hq
theorem sb{X:List Nat}{h0:Hp}{F0 F:gL}{Ls:List Ob}{g o:Nat}{cs:List gE}{t:TypeId}{x y:Operand}{v:gE}(n:Nat)(cs':List gE)(q:∀w',St X h0 F0 F (Ls.set n (.box g cs')) w'→W P K fn k A false (kq w') L E w')(ji:(ir A i).op = .store t x y:=by exact rfl)(hx:iP E x=some (pl g o):=by exact rfl)(hy:iP E y=some v:=by exact rfl)(hS:St X h0 F0 F Ls h:=by assumption)(hk:Ls[n]? =some (.box g cs):=by exact rfl)(hq:Fo A E i:=by exact⟨rfl,rfl,rfl⟩)(h1:v.cells.all gE.one=true:=by repeat(first|exact rfl|refine No ?_ rfl|refine Np ?_ (by exact o1)))(hz:sz P t=some v.cells.length:=by exact mQ.out)(oW:Nat.ble (o+v.cells.length) cs.length=true:=by exact rfl)(mX:kA cs o v.cells=cs':=by exact rfl):W P K fn k A false G (i::L) E h :=
 um (Q:=λ_ h'=>St X h0 F0 F (Ls.set n (.box g cs')) h') (ji▸va (c:=v.cells) n cs' hx hy hS hk rfl hz h1 oW mX) (λ_ w' pf=>q w' pf) hq
theorem sB{X:List Nat}{h0:Hp}{F0 F:gL}{Ls:List Ob}{g o:Nat}{cs:List gE}{t:TypeId}{x y:Operand}{v:gE}(n:Nat)(cs':List gE)(q:∀w',St X h0 F0 F (Ls.set n (.box g cs')) w'→W P K fn k A dr F L E w')(ji:(ir A i).op = .store t x y:=by exact rfl)(hx:iP E x=some (pl g o):=by exact rfl)(hy:iP E y=some v:=by exact rfl)(hS:St X h0 F0 F Ls h:=by assumption)(hk:Ls[n]? =some (.box g cs):=by exact rfl)(hq:Fo A E i:=by exact⟨rfl,rfl,rfl⟩)(h1:v.cells.all gE.one=true:=by repeat(first|exact rfl|refine No ?_ rfl|refine Np ?_ (by exact o1)))(hz:sz P t=some v.cells.length:=by exact mQ.out)(oW:Nat.ble (o+v.cells.length) cs.length=true:=by exact rfl)(mX:kA cs o v.cells=cs':=by exact rfl):W P K fn k A dr F (i::L) E h :=
 qu (Q:=λ_ h'=>St X h0 F0 F (Ls.set n (.box g cs')) h') (ji▸va (c:=v.cells) n cs' hx hy hS hk rfl hz h1 oW mX) (λ_ w' pf=>qw pf (q w' pf)) hq
theorem al{X:List Nat}{h0:Hp}{F0 F:gL}{Ls:List Ob}{t:TypeId}{cs:List gE}(q:∀g w',St X h0 F0 F (.box g cs::Ls) w'→W P K fn k A false (kq w') L ((d,pl g 0)::E) w')(ji:(ir A i).op = .alloc t:=by exact rfl)(hq:mB A E i d:=by exact⟨rfl,rfl,rfl⟩)(hz:(zeroV P t).map gE.cells=some cs:=by exact xK.out)(h1:cs.all gE.one=true:=by exact rfl)(hS:St X h0 F0 F Ls h:=by assumption):W P K fn k A false G (i::L) E h :=
 xm (ji▸o9 hz h1 hS) (by rintro _ w' ⟨g,rfl,pf⟩;exact q g w' pf) hq
theorem aM{X:List Nat}{h0:Hp}{F0 F:gL}{Ls:List Ob}{t:TypeId}{cs:List gE}(q:∀g w',St X h0 F0 F (.box g cs::Ls) w'→W P K fn k A dr F L ((d,pl g 0)::E) w')(ji:(ir A i).op = .alloc t:=by exact rfl)(hq:mB A E i d:=by exact⟨rfl,rfl,rfl⟩)(hz:(zeroV P t).map gE.cells=some cs:=by exact xK.out)(h1:cs.all gE.one=true:=by exact rfl)(hS:St X h0 F0 F Ls h:=by assumption):W P K fn k A dr F (i::L) E h :=
 qx (ji▸o9 hz h1 hS) (by rintro _ w' ⟨g,rfl,pf⟩;exact qw pf (q g w' pf)) hq
theorem bx{X:List Nat}{h0:Hp}{F0 F:gL}{Ls:List Ob}{t:TypeId}{x:Operand}{v:gE}(cs:List gE)(q:∀g w',St X h0 F0 F (.box g cs::Ls) w'→W P K fn k A false (kq w') L ((d,pl g 0)::E) w')(ji:(ir A i).op = .box t x:=by exact rfl)(hq:mB A E i d:=by exact⟨rfl,rfl,rfl⟩)(hx:iP E x=some v:=by exact rfl)(hc:v.cells=cs:=by exact rfl)(h1:cs.all gE.one=true:=by repeat(first|exact rfl|refine No ?_ rfl|refine Np ?_ (by exact o1)))(hS:St X h0 F0 F Ls h:=by assumption):W P K fn k A false G (i::L) E h :=
 xm (ji▸XI hx hc h1 hS) (by rintro _ w' ⟨g,rfl,pf⟩;exact q g w' pf) hq
theorem lq{X:List Nat}{h0:Hp}{F0 F F1:gL}{Ls:List Ob}{f:FuncId}{args:List gE}{u:gE}(hc:iN P K f args h λv w'=>∃F',v=u∧St [] h F1 F' [] w')(hS:St X h0 F0 F Ls h)(x:∀w',St X h0 F0 F Ls w'→W P K fn k A dr F L ((d,u)::E) w')(hq:mB A E i d:=by exact⟨rfl,rfl,rfl⟩)(ht:AN E (ir A i).op=some (f,args):=by exact rfl):W P K fn k A dr F (i::L) E h :=
 ql hc (by rintro v w' ⟨F',rfl,hT⟩;exact qw (hS.oN hT) (x w' (hS.oN hT))) hq ht
theorem rn{id:Nat}(x:W P K fn k A true (kq h) (List.range A.length) E h)(hd:uF fn.ntmps A=true:=by exact rfl)(hf:P.follows .mixedOrders=true:=by kernel_rfl)(hL:CT P A (List.range A.length)=true:=by kernel_rfl):C P K fn k (.region id A.toArray true) E h:=nA _ hd hf hL (Gm h) x
theorem rf{id:Nat}{X:List Nat}{h0:Hp}{F0 F:gL}{Ls:List Ob}(hS:St X h0 F0 F Ls h)(x:W P K fn k A true F (List.range A.length) E h)(hd:uF fn.ntmps A=true:=by exact rfl)(hf:P.follows .mixedOrders=true:=by kernel_rfl)(hL:CT P A (List.range A.length)=true:=by kernel_rfl):C P K fn k (.region id A.toArray true) E h:=nA _ hd hf hL hS.agree x
theorem nj{J:EL→Hp→Prop}{l':EL}(hJ:J l' h)(hs:Sub l' E:=by repeat(first|exact trivial|refine⟨rfl,?_⟩)):N P K fn (.loop (JT J) k) E h:=lW l' hJ hs
theorem nm{S B:Type}{Inv:S→EL→Hp→Prop}{rec:S→Option B}{a:B}{s:S}{E':EL}(H:rec s=some a)(hI:Inv s E' h)(hE:Sub E' E:=by repeat(first|exact trivial|refine⟨rfl,?_⟩)):N P K fn (.loop (JQ Inv rec a) k) E h:=XP s E' H hI hE
theorem lo{Q:EL→Prop}{E':EL}(hI:Q E')(hE:Sub E' E:=by repeat(first|exact trivial|refine⟨rfl,?_⟩)):∃E',Q E'∧Sub E' E:=⟨E',hI,hE⟩
theorem a2{S Q:Prop}(hp:S)(hq:Left S→Q:=by
  intro hp
  first|refine Yj ?_|refine SK ?_|refine ag ?_|refine ao ?_|refine aa ?_|refine Yh ?_
  exact hp.out):Q:=hq ⟨hp⟩
theorem au{S Q:Prop}(hp:S)(hq:Left S→Q:=by
  intro hp
  repeat(refine a1 ?_)
  exact hp.out):Q:=hq ⟨hp⟩
theorem aq{S Q:Prop}(hp:S)(hq:Left S→Q:=by
  intro hp;refine qs ?_
  repeat(refine a1 ?_)
  exact hp.out):Q:=hq ⟨hp⟩
theorem aw{S Q:Prop}(hp:S)(hq:Left S→Q:=by
  intro hp
  repeat(first|refine a1 ?_|refine a2 ?_)
  exact hp.out):Q:=hq ⟨hp⟩
theorem av{S Q:Prop}(hp:S)(hq:Left S→Q:=by
  intro hp;refine qs ?_
  repeat(first|refine a1 ?_|refine a2 ?_)
  exact hp.out):Q:=hq ⟨hp⟩
end
end Go.V
end
section
namespace Go.V
open Go.Wk
def wV:List UInt32→List gE
 |[]=>[]
 |x::r=>.i .u32 (x.toNat:Int)::wV r
def nW:Nat→List UInt32→List (Nat×gE)
 |_,[]=>[]
 |i,x::r=>(i,.i .u32 (x.toNat:Int))::nW (i+1) r
theorem Xt{F:gL}:∀l:List UInt32,Fl tW F ((wV l).map gE.cells) l
 |[]=>trivial
 |_::r=>⟨rfl,Xt r⟩
theorem ot{α:Type}{c:Bool}{o:Option α}{d r:α}(h:only c o d=some r)(hc:c=true):o=some r:=by rwa[jX hc]at h
abbrev jE{X:List Nat}{h0 h:Hp}{F0 F:gL}{Ls:List Ob}(E0:EL)(_:St X h0 F0 F Ls h):EL→Hp→Prop:=λE w=>∃F':gL,E=E0∧F.le F'∧St X h0 F0 F' Ls w
abbrev jN{X:List Nat}{h0 h:Hp}{F0 F:gL}{Ls:List Ob}(p:Prop)(E0:EL)(_:St X h0 F0 F Ls h):EL→Hp→Prop:=λE w=>p ∧ ∃F':gL,E=E0∧F.le F'∧St X h0 F0 F' Ls w
abbrev jO{X:List Nat}{h0 h:Hp}{F0 F:gL}{Ls:List Ob}(p:Prop)(E0:EL)(_:St X h0 F0 F Ls h)(Lt:List Ob):EL→Hp→Prop:=λE w=>p ∧ ∃F':gL,E=E0∧F.le F'∧St X h0 F0 F' Lt w
theorem jj{X:List Nat}{h0 h:Hp}{F0 F F1:gL}{Ls:List Ob}{E0:EL}(hS:St X h0 F0 F Ls h)(l:F1.le F:=by exact iI):∃F':gL,E0=E0∧F1.le F'∧St X h0 F0 F' Ls h:=⟨F,rfl,l,hS⟩
theorem pk{X:List Nat}{h0 h:Hp}{F0 F:gL}{Ls:List Ob}(is:List Nat)(hS:St X h0 F0 F Ls h)(hn:is.Nodup:=by decide):St X h0 F0 F (is.filterMap λi=>Ls[i]?) h:=hS.pick is hn
theorem mo{α:Type}{t:Tr α}{F G:gL}{v:gE}{xs:List α}(h:iq t F v xs)(l:F.le G:=by exact iI):iq t G v xs:=h.mono l
section
variable{P:Program}{K:Tb}{fn:Func}{k:oe}{E:EL}{h:Hp}{A:List Oper}{dr:Bool}{G:gL}{L:List Nat}{i d:Nat}{X:List Nat}{h0:Hp}{F0 F F1:gL}{Ls:List Ob}
theorem lj{S T:Type}{a:T}{c:Code}{n:Nat}{Fn:(S→Option T)→S→Option T}{s0:S}(hS:St X h0 F0 F1 Ls h)(e:S→EL)(H:iter Fn n s0=some a)
  (round:∀(rec:S→Option T)s F w',F1.le F→St X h0 F0 F Ls w'→Fn rec s=some a→C P K fn (.loop (JQ (λs=>jE (e s) hS) rec a) k) c (e s) w') (hE:Sub (e s0) E:=by repeat(first|exact trivial|refine⟨rfl,?_⟩)):C P K fn k (.loop c) E h :=
 jH (λs=>jE (e s) hS) H ⟨_,⟨F1,rfl,gL.le.refl _,hS⟩,hE⟩ (by
  rintro rec s E w' ⟨F,rfl,le,pf⟩ H;exact round rec s F w' le pf H)
theorem gw{α:Type}{c:Bool}{o:Option α}{z r:α}{j:Nat}{b want:Bool}{f:FuncId}{args:List gE}{u:gE}{F2:gL}(hS:St X h0 F0 F Ls h)(hr:only c o z=some r)(hc:o=some r→iN P K f args h λv w'=>∃F',v=u∧St [] h F2 F' [] w')
  (x:∀w',St X h0 F0 F Ls w'→jG P K fn k A dr G L ((d,pc [(b,want)] u)::E) w') (hg:(ir A i).guard=some (j,want):=by exact rfl) (hy:uX A E j=some (.b b):=by exact rfl) (hi:Nat.blt i A.length=true:=by exact rfl) (hd:(ir A i).dst=some d:=by exact rfl)
  (tf:pI [(b,want)]→c=true:=by
   rintro⟨h1,_⟩
   first|exact h1|(rw[h1];first|done|rfl)|simp[h1])
  (ht:pI [(b,want)]→AN E (ir A i).op=some (f,args):=by
   rintro⟨h1,_⟩
   first|exact rfl|(rw[h1];exact rfl))
  (hw:pI [(b,want)]→mf A E (ir A i)=some true:=by
   rintro⟨h1,_⟩;rw[h1];exact rfl):W P K fn k A dr G (i::L) E h :=
 XZ (v:=u) (Q:=St X h0 F0 F Ls) hS hg hy hi hd (λha hK=>ql (hc (ot hr (tf ha))) (by rintro v w' ⟨F',rfl,hT⟩;exact hK _ (hS.oN hT)) ⟨hi,hw ha,hd⟩ (ht ha)) x
theorem Oq{α:Type}{c:Bool}{o:Option α}{z r:α}{j:Nat}{cs:List (Bool×Bool)}{b want:Bool}{f:FuncId}{args:List gE}{u:gE}{F2:gL}(hS:St X h0 F0 F Ls h)(hr:only c o z=some r)(hc:o=some r→iN P K f args h λv w'=>∃F',v=u∧St [] h F2 F' [] w')
  (x:∀w',St X h0 F0 F Ls w'→jG P K fn k A dr G L ((d,pc (cs++[(b,want)]) u)::E) w') (hg:(ir A i).guard=some (j,want):=by exact rfl) (hy:uX A E j=some (pc cs (.b b)):=by exact rfl) (hi:Nat.blt i A.length=true:=by exact rfl) (hd:(ir A i).dst=some d:=by exact rfl)
  (tf:pI (cs++[(b,want)])→c=true:=by
   first|(rintro⟨h1,h2,(_:True)⟩;first|rfl|(rw[h1,h2];rfl)|(rw[h2,h1];rfl)|simp[h1,h2])|(rintro⟨h1,h2,h3,(_:True)⟩;first|rfl|(rw[h1,h2,h3];rfl)|(rw[h3,h2,h1];rfl)|simp[h1,h2,h3])|(rintro⟨h1,h2,h3,h4,(_:True)⟩;first|rfl|(rw[h1,h2,h3,h4];rfl)|(rw[h4,h3,h2,h1];rfl)|simp[h1,h2,h3,h4])|(rintro⟨h1,h2,h3,h4,h5,(_:True)⟩;first|rfl|(rw[h1,h2,h3,h4,h5];rfl)|(rw[h5,h4,h3,h2,h1];rfl)|simp[h1,h2,h3,h4,h5]))
  (ht:pI (cs++[(b,want)])→AN E (ir A i).op=some (f,args):=by
   first|exact λ_=>rfl|((first|(rintro⟨h1,h2,(_:True)⟩;try rw[h2];try rw[h1])|(rintro⟨h1,h2,h3,(_:True)⟩;try rw[h3];try rw[h2];try rw[h1])|(rintro⟨h1,h2,h3,h4,(_:True)⟩;try rw[h4];try rw[h3];try rw[h2];try rw[h1])|(rintro⟨h1,h2,h3,h4,h5,(_:True)⟩;try rw[h5];try rw[h4];try rw[h3];try rw[h2];try rw[h1]));exact rfl)|((first|(rintro⟨h1,h2,(_:True)⟩;try rw[h1];try rw[h2])|(rintro⟨h1,h2,h3,(_:True)⟩;try rw[h1];try rw[h2];try rw[h3])|(rintro⟨h1,h2,h3,h4,(_:True)⟩;try rw[h1];try rw[h2];try rw[h3];try rw[h4])|(rintro⟨h1,h2,h3,h4,h5,(_:True)⟩;try rw[h1];try rw[h2];try rw[h3];try rw[h4];try rw[h5]));exact rfl))
  (hw:pI (cs++[(b,want)])→mf A E (ir A i)=some true:=by
   first|((first|(rintro⟨h1,h2,(_:True)⟩;try rw[h2];try rw[h1])|(rintro⟨h1,h2,h3,(_:True)⟩;try rw[h3];try rw[h2];try rw[h1])|(rintro⟨h1,h2,h3,h4,(_:True)⟩;try rw[h4];try rw[h3];try rw[h2];try rw[h1])|(rintro⟨h1,h2,h3,h4,h5,(_:True)⟩;try rw[h5];try rw[h4];try rw[h3];try rw[h2];try rw[h1]));exact rfl)|((first|(rintro⟨h1,h2,(_:True)⟩;try rw[h1];try rw[h2])|(rintro⟨h1,h2,h3,(_:True)⟩;try rw[h1];try rw[h2];try rw[h3])|(rintro⟨h1,h2,h3,h4,(_:True)⟩;try rw[h1];try rw[h2];try rw[h3];try rw[h4])|(rintro⟨h1,h2,h3,h4,h5,(_:True)⟩;try rw[h1];try rw[h2];try rw[h3];try rw[h4];try rw[h5]));exact rfl)):W P K fn k A dr G (i::L) E h :=
 SB (v:=u) (Q:=St X h0 F0 F Ls) hS hg hy hi hd (λha hK=>ql (hc (ot hr (tf ha))) (by rintro v w' ⟨F',rfl,hT⟩;exact hK _ (hS.oN hT)) ⟨hi,hw ha,hd⟩ (ht ha)) x
theorem ge{α:Type}{t:Tr α}{xs:List α}{n:Int}{c:Bool}{z x:α}{y v:gE}{j:Nat}{b want:Bool}(hE:iq t F1 y xs)(hx:only c (ix xs n) z=some x)
  (q:W P K fn k A dr G L ((d,pc [(b,want)] v)::E) h) (hg:(ir A i).guard=some (j,want):=by exact rfl) (hy:uX A E j=some (.b b):=by exact rfl) (hi:Nat.blt i A.length=true:=by exact rfl) (hd:(ir A i).dst=some d:=by exact rfl)
  (tf:pI [(b,want)]→c=true:=by
   rintro⟨h1,_⟩
   first|exact h1|(rw[h1];first|done|rfl)|simp[h1])
  (ji:pI [(b,want)]→ix xs n=some x→(∃cs,t.rel F1 cs x∧nM F1 y t.size n.toNat cs)→W P K fn k A dr G L ((d,v)::E) h→W P K fn k A dr G (i::L) E h:=by
   rintro⟨hb,_⟩ hX ⟨_,hr,he⟩;replace he:=qj _ he
   try rw[hb]
   intro hK
   first|exact aI hK|exact aF hK|(first|obtain rfl:=hr|obtain⟨rfl,_⟩:=hr|obtain⟨_,rfl,_⟩:=hr|obtain⟨_,_,rfl,_⟩:=hr|obtain⟨_,_,_,rfl,_⟩:=hr|obtain⟨_,_,_,_,rfl,_⟩:=hr);first|exact aE hK|exact J1 hK|exact aG hK|exact J2 hK):W P K fn k A dr G (i::L) E h :=
 nO hg hy hi hd (λha hK=>ji ha (ot hx (tf ha)) (hE.el (iD (ot hx (tf ha))).2) hK) q
theorem oU{α:Type}{t:Tr α}{xs:List α}{n:Int}{c:Bool}{z x:α}{y v:gE}{j:Nat}{cs:List (Bool×Bool)}{b want:Bool}(hE:iq t F1 y xs)(hx:only c (ix xs n) z=some x)
  (q:W P K fn k A dr G L ((d,pc (cs++[(b,want)]) v)::E) h) (hg:(ir A i).guard=some (j,want):=by exact rfl) (hy:uX A E j=some (pc cs (.b b)):=by exact rfl) (hi:Nat.blt i A.length=true:=by exact rfl) (hd:(ir A i).dst=some d:=by exact rfl)
  (tf:pI (cs++[(b,want)])→c=true:=by
   first|(rintro⟨h1,h2,(_:True)⟩;first|rfl|(rw[h1,h2];rfl)|(rw[h2,h1];rfl)|simp[h1,h2])|(rintro⟨h1,h2,h3,(_:True)⟩;first|rfl|(rw[h1,h2,h3];rfl)|(rw[h3,h2,h1];rfl)|simp[h1,h2,h3])|(rintro⟨h1,h2,h3,h4,(_:True)⟩;first|rfl|(rw[h1,h2,h3,h4];rfl)|(rw[h4,h3,h2,h1];rfl)|simp[h1,h2,h3,h4])|(rintro⟨h1,h2,h3,h4,h5,(_:True)⟩;first|rfl|(rw[h1,h2,h3,h4,h5];rfl)|(rw[h5,h4,h3,h2,h1];rfl)|simp[h1,h2,h3,h4,h5]))
  (ji:pI (cs++[(b,want)])→ix xs n=some x→(∃cs,t.rel F1 cs x∧nM F1 y t.size n.toNat cs)→W P K fn k A dr G L ((d,v)::E) h→W P K fn k A dr G (i::L) E h:=by
   first|((first|(rintro⟨h1,h2,(_:True)⟩;try rw[h2];try rw[h1])|(rintro⟨h1,h2,h3,(_:True)⟩;try rw[h3];try rw[h2];try rw[h1])|(rintro⟨h1,h2,h3,h4,(_:True)⟩;try rw[h4];try rw[h3];try rw[h2];try rw[h1])|(rintro⟨h1,h2,h3,h4,h5,(_:True)⟩;try rw[h5];try rw[h4];try rw[h3];try rw[h2];try rw[h1]));rintro hX ⟨_,hr,he⟩ hK;replace he:=qj _ he;first|exact aI hK|exact aF hK|(first|obtain rfl:=hr|obtain⟨rfl,_⟩:=hr|obtain⟨_,rfl,_⟩:=hr|obtain⟨_,_,rfl,_⟩:=hr|obtain⟨_,_,_,rfl,_⟩:=hr|obtain⟨_,_,_,_,rfl,_⟩:=hr);first|exact aE hK|exact J1 hK|exact aG hK|exact J2 hK)|((first|(rintro⟨h1,h2,(_:True)⟩;try rw[h1];try rw[h2])|(rintro⟨h1,h2,h3,(_:True)⟩;try rw[h1];try rw[h2];try rw[h3])|(rintro⟨h1,h2,h3,h4,(_:True)⟩;try rw[h1];try rw[h2];try rw[h3];try rw[h4])|(rintro⟨h1,h2,h3,h4,h5,(_:True)⟩;try rw[h1];try rw[h2];try rw[h3];try rw[h4];try rw[h5]));rintro hX ⟨_,hr,he⟩ hK;replace he:=qj _ he;first|exact aI hK|exact aF hK|(first|obtain rfl:=hr|obtain⟨rfl,_⟩:=hr|obtain⟨_,rfl,_⟩:=hr|obtain⟨_,_,rfl,_⟩:=hr|obtain⟨_,_,_,rfl,_⟩:=hr|obtain⟨_,_,_,_,rfl,_⟩:=hr);first|exact aE hK|exact J1 hK|exact aG hK|exact J2 hK)):W P K fn k A dr G (i::L) E h :=
 Cj hg hy hi hd (λha hK=>ji ha (ot hx (tf ha)) (hE.el (iD (ot hx (tf ha))).2) hK) q
theorem bl{g o:Nat}{cs:List gE}{t:TypeId}{x:Operand}(hS:St X h0 F0 F Ls h)(n:Nat)(c post:List gE)(q:W P K fn k A dr (kq h) L ((d,.agg c)::E) h)(ji:(ir A i).op = .load t x:=by exact rfl)(hx:iP E x=some (pl g o):=by exact rfl)(hk:Ls[n]? =some (.box g cs):=by exact rfl)(hq:mB A E i d:=by exact⟨rfl,rfl,rfl⟩)(ht:lG P t=some true:=by exact mz.out)(hz:sz P t=some c.length:=by exact mQ.out)(hp:0<c.length:=by exact Nat.zero_lt_succ _)(hs:cs.drop o=c++post:=by exact rfl):W P K fn k A dr (kq h) (i::L) E h :=
 ra hq.1 hq.2.1 hq.2.2 (ji▸rC n c ht hz hp hx hS hk λq u h=>o5 hs h) q
theorem bL{g o:Nat}{cs:List gE}{t:TypeId}{x:Operand}(hS:St X h0 F0 F Ls h)(n:Nat)(c post:List gE)(q:W P K fn k A dr G L ((d,.agg c)::E) h)(hb:ahead P A i L=true:=by kernel_rfl)(ji:(ir A i).op = .load t x:=by exact rfl)(hx:iP E x=some (pl g o):=by exact rfl)(hk:Ls[n]? =some (.box g cs):=by exact rfl)(hq:mB A E i d:=by exact⟨rfl,rfl,rfl⟩)(ht:lG P t=some true:=by exact mz.out)(hz:sz P t=some c.length:=by exact mQ.out)(hp:0<c.length:=by exact Nat.zero_lt_succ _)(hs:cs.drop o=c++post:=by exact rfl):W P K fn k A dr G (i::L) E h :=
 JZ hb hq.1 hq.2.1 hq.2.2 (ji▸rC n c ht hz hp hx hS hk λq u h=>o5 hs h) q
theorem ap{α:Type}{t:Tr α}{ts tx e:TypeId}{sx xx:Operand}{v x:gE}{xs ys zs:List α}(n:Nat)(hS:St X h0 F0 F Ls h)(hx:Src t F h x ys)(hz:app xs ys=some zs)(q:∀v' w',St X h0 F0 F (Ls.set n (.row t v' zs)) w'→W P K fn k A false (kq w') L ((d,v')::E) w')(ji:(ir A i).op = .call { callee:=.builtin .append,args:=#[sx,xx],argTypes:=#[ts,tx] }:=by exact rfl)(hs:iP E sx=some v:=by exact rfl)(xj:iP E xx=some x:=by exact rfl)(hk:Ls[n]? =some (.row t v xs):=by exact rfl)(hq:mB A E i d:=by exact⟨rfl,rfl,rfl⟩)(ht:P.underlying ts=some (.slice e):=by exact sg.out)(hr:pC P e t.size=true:=by exact uz.out)(vB:rV P tx=some false:=by exact uA.out):W P K fn k A false G (i::L) E h :=
 xm (ji▸sM n ht hr vB hs xj hS hk hx hz) q hq
theorem aP{α:Type}{t:Tr α}{ts tx e:TypeId}{sx xx:Operand}{v x:gE}{xs ys zs:List α}(n:Nat)(hS:St X h0 F0 F Ls h)(hx:Src t F h x ys)(hz:app xs ys=some zs)(q:∀v' w',St X h0 F0 F (Ls.set n (.row t v' zs)) w'→W P K fn k A dr F L ((d,v')::E) w')(ji:(ir A i).op = .call { callee:=.builtin .append,args:=#[sx,xx],argTypes:=#[ts,tx] }:=by exact rfl)(hs:iP E sx=some v:=by exact rfl)(xj:iP E xx=some x:=by exact rfl)(hk:Ls[n]? =some (.row t v xs):=by exact rfl)(hq:mB A E i d:=by exact⟨rfl,rfl,rfl⟩)(ht:P.underlying ts=some (.slice e):=by exact sg.out)(hr:pC P e t.size=true:=by exact uz.out)(vB:rV P tx=some false:=by exact uA.out):W P K fn k A dr F (i::L) E h :=
 qx (ji▸sM n ht hr vB hs xj hS hk hx hz) (λv' w' pf=>qw pf (q v' w' pf)) hq
theorem rh{id g:Nat}{w0:Hp}{cs:List gE}(n:Nat)(b:A2 w0 g cs)(hS:St X h0 F0 F Ls h)(x:W P K fn k A true (F.hold w0 [g]) (List.range A.length) E h)(hk:Ls[n]? =some (.box g cs):=by exact rfl)(hd:uF fn.ntmps A=true:=by exact rfl)(hf:P.follows .mixedOrders=true:=by kernel_rfl)(hL:CT P A (List.range A.length)=true:=by kernel_rfl):C P K fn k (.region id A.toArray true) E h :=
 nA _ hd hf hL (HB.agree (HB.cons n b hS hk HB.nil) hS.agree) x
theorem hl{g o:Nat}{w0:Hp}{cs:List gE}{t:TypeId}{x:Operand}{u:gE}(n:Nat)(b:A2 w0 g cs)(hS:St X h0 F0 F Ls h)(q:W P K fn k A dr (F.hold w0 [g]) L ((d,u)::E) h)(hk:Ls[n]? =some (.box g cs):=by exact rfl)(ji:(ir A i).op = .load t x:=by exact rfl)(hx:iP E x=some (pl g o):=by exact rfl)(hq:mB A E i d:=by exact⟨rfl,rfl,rfl⟩)(hu:cs[o]? =some u:=by exact rfl)(ht:lG P t=some false:=by exact mz.out):W P K fn k A dr (F.hold w0 [g]) (i::L) E h :=
 ra hq.1 hq.2.1 hq.2.2 (ji▸qo ht hx (b.held (HB.cons n b hS hk HB.nil) (List.mem_cons_self ..)) hu) q
theorem nf{g:Nat}{w0:Hp}{cs:List gE}{F':gL}(n:Nat)(b:A2 w0 g cs)(hS:St X h0 F0 F' Ls h)(l:F.le F')(q:W P K fn k A dr (F'.hold w0 [g]) L E h)(hk:Ls[n]? =some (.box g cs):=by exact rfl):jG P K fn k A dr (F.hold w0 [g]) L E h :=
 jG.mW (HB.le (HB.cons n b hS hk HB.nil) l) (HB.agree (HB.cons n b hS hk HB.nil) hS.agree) q
theorem wg{g:Nat}{w0:Hp}{cs:List gE}{F':gL}(n:Nat)(b:A2 w0 g cs)(hS:St X h0 F0 F' Ls h)(l:F.le F')(q:W P K fn k A dr (F'.hold w0 [g]) L E h)(hk:Ls[n]? =some (.box g cs):=by exact rfl):W P K fn k A dr (F.hold w0 [g]) L E h :=
 A7 (HB.le (HB.cons n b hS hk HB.nil) l) (HB.agree (HB.cons n b hS hk HB.nil) hS.agree) q
end
theorem a3{S Q:Prop}(hp:S)(hq:Left S→Q:=by
  intro hp
  first|with_reducible refine s6 ?_|with_reducible refine qZ ?_|with_reducible refine Sp ?_|with_reducible refine nN ?_|with_reducible refine ku ?_|refine qd ?_|refine qs ?_|refine jf _ rfl ?_
  exact hp.out):Q:=hq ⟨hp⟩
theorem ax{S Q:Prop}(hp:S)(hq:Left S→Q:=by
  intro hp
  repeat(first|refine a3 ?_|refine a1 ?_)
  exact hp.out):Q:=hq ⟨hp⟩
theorem az{S Q:Prop}(hp:S)(hq:Left S→Q:=by
  intro hp
  repeat(first|refine a3 ?_|refine a1 ?_|refine a2 ?_)
  exact hp.out):Q:=hq ⟨hp⟩
theorem ay{S Q:Prop}(hp:S)(hq:Left S→Q:=by
  intro hp
  repeat(first|refine qs ?_|with_reducible refine kr ?_|refine a3 ?_|refine a1 ?_)
  exact hp.out):Q:=hq ⟨hp⟩
theorem aZ{S Q:Prop}(hp:S)(hq:Left S→Q:=by
  intro hp
  repeat(first|refine qs ?_|with_reducible refine kr ?_|refine a3 ?_|refine a1 ?_|refine a2 ?_)
  exact hp.out):Q:=hq ⟨hp⟩
theorem rz{α:Type}{a r:α}{Q:Prop}{X:List Nat}{h0 h:Hp}{F0 F:gL}{Ls:List Ob}(H:some a=some r)(hS:St X h0 F0 F Ls h)(hq:some a=some r→St X h0 F0 F Ls h→Q:=by
  intro H hS;obtain rfl:=oi H
  try refine qs ?_
  repeat(refine a1 ?_)
  refine qt ?_
  first|exact⟨_,rfl,hS⟩|exact⟨_,rfl,hS.pick [] (by decide)⟩):Q:=hq H hS
theorem rx{α:Type}{a r:α}{Q:Prop}{X:List Nat}{h0 h:Hp}{F0 F:gL}{Ls:List Ob}(H:some a=some r)(hS:St X h0 F0 F Ls h)(hq:some a=some r→St X h0 F0 F Ls h→Q:=by
  intro H hS;obtain rfl:=oi H
  try refine qs ?_
  repeat(refine a1 ?_)
  refine qt ?_
  first|exact⟨_,rfl,hS⟩|exact⟨_,_,rfl,hS⟩|exact⟨_,_,_,rfl,hS⟩|exact⟨_,_,_,_,rfl,hS⟩):Q:=hq H hS
end Go.V
end
section
namespace Go.V
open Go.Wk
end Go.V
end
section
namespace Go.V
open Go.Wk
end Go.V
end
