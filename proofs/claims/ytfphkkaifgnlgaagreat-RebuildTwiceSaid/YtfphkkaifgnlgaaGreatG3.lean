/- Open rows are closed for a call; slices.overlaps; bytes as bytes. Closed rows by their cells: slices, copies; what slices.Insert makes. slices.Insert at rows whose elements own memory. Rules that find what is known by themselves: shorter texts. -/
import Derived.Test.YtfphkkaifgnlgaaGreatG2
import Derived.Lib.Overlaps
import Derived.Test.YtfphkkaifgnlgaaGreatProg
set_option linter.unusedVariables false
set_option linter.unusedSimpArgs false
section
namespace Go.V
open Go.Wk
section
variable {P:Program} {K0:Tb}
def ztk (P:Program) (K0:Tb) (f:FuncId):Tb:=fun f' args h M=>f' = f ∧ ∃ b n z c rest,args = .sl (some (b,0)) n (.op z)::rest∧h.get b=some (.cells z c)∧n*z≤c.length ∧
 ∀ m,n≤m→c.length≤m*z→Ret P K0 f (.sl (some (h.next,0)) n (.k m)::rest) ((h.set b .dead).new (.cells z (c++List.replicate (m*z - c.length) .un))) M
theorem zwo (hK:KOk P K0) {f:FuncId}:KOk P (ztk P K0 f):=by
 rintro f' args h M ⟨rfl,b,n,z,c,rest,rfl,hg,hn,hx⟩ ρ w args' r hr;obtain ⟨a0,ar,rfl⟩:∃ a0 ar,args' = a0::ar:=by
  cases args' with
  | nil=>exact absurd hr.1 (by simp)
  | cons a r=>exact ⟨a,r,rfl⟩
 have h0:=hr.head;cases h0 with
 | so hb hlk p1 p2 =>
  rename_i m i;obtain ⟨b1,b2,b3,b4,b5,b6⟩:=r.blk _ _ _ hb hg;rw [Nat.zero_add,b2] at p1;rw [Nat.add_zero] at p2;have hc:c.length≤m*i.z:=p1;have hall:(c++List.replicate (m*i.z - c.length) Val.un).all Val.one=true:=by
   rw [List.all_append,b4,Bool.true_and];exact List.all_eq_true.2 fun u hu=>by rw [(List.mem_replicate.1 hu).2];rfl
  have hlen:(c++List.replicate (m*i.z - c.length) Val.un).length=m*i.z:=by rw [List.length_append,List.length_replicate];omega
  obtain ⟨q2,q3⟩:=r.newIn (p:=0) (us:=[]) (z:=i.z) (n:=0) (N:=i.N) (base:=i.base) (c:=c++List.replicate (m*i.z - c.length) Val.un) hb hg hall (by rw [hlen];exact p2) (fun u hu=>by cases hu) b5.2 b5.1 (fun j u hj=>by
   by_cases hjl:j < c.length
   ·rw [List.getElem?_append_left hjl] at hj;exact b6 j u hj
   ·rw [List.getElem?_append_right (by omega)] at hj;have hu:u = .un:=(List.mem_replicate.1 (List.mem_of_getElem? hj)).2;have hjm:j < m*i.z:=by
     have:=(List.getElem?_eq_some_iff.1 hj).1;rw [List.length_replicate] at this;omega
    subst hu;obtain ⟨u',hu'⟩:=Option.isSome_iff_exists.1 (b5.1 (i.base+j) (by omega)).1;exact ⟨u',hu',.un (b5.2.2.1 _ _ hu')⟩)
  have hv:VRL (ρ.put h.next ⟨i.g,i.base,i.z,(c++List.replicate (m*i.z - c.length) Val.un).length,i.N⟩) (.sl (some (h.next,0)) n (.k m)::rest) (.slice (some ⟨i.g,i.base+0,none⟩) n m::ar) :=
   VRL.cons (VR.sk (i:=⟨i.g,i.base,i.z,(c++List.replicate (m*i.z - c.length) Val.un).length,i.N⟩) (zlb _ _) hlk) (hr.tail.mono q3.le)
  have hm:=sim_all hK (hx m hlk hc) _ _ _ q2 hv;have conv:∀ v' w',(∃ v h' ρ',(∃ v0 h0,Out.call v h' = .call v0 h0∧M v0 h0)∧VR ρ' v v' ∧ Rel ρ' h' w' ∧ Ext (ρ.put h.next ⟨i.g,i.base,i.z,(c++List.replicate (m*i.z - c.length) Val.un).length,i.N⟩) ((h.set b .dead).new (.cells i.z (c++List.replicate (m*i.z - c.length) .un))) w ρ' h' w') → ∃ v h' ρ',M v h' ∧ VR ρ' v v' ∧ Rel ρ' h' w' ∧ Ext ρ h w ρ' h' w':=by
   rintro v' w' ⟨v,h',ρ',⟨v0,h0,e,hM⟩,k1,k2,k3⟩;obtain ⟨rfl,rfl⟩:=Out.call.inj e;exact ⟨_,_,ρ',hM,k1,k2,q3.trans k3⟩
  rcases hm with ⟨e1,e2⟩ | ⟨v,w',e1,e2⟩
  ·refine .inl ⟨e1,Calls.mono e2 fun e w' q=>?_⟩;cases e with
   | returned v=>exact conv _ _ q
   | panicked c=>exact q.elim
   | outgrown=>exact q.elim
  ·exact .inr ⟨v,w',e1,conv _ _ e2⟩
def KLap (P:Program):Tb:=fun f args h M=>∃ g t tr e z vb vo vn vc d1 z1 b o n c d2 z2,P.funcs[f]? = some g∧(g.name == "runtime.NumGoroutine")=false∧g.body.isNone=true∧Extern.findNext g=none∧Extern.find g=some (Extern.SlicesOverlaps.overlaps #[t,t] #[tr])∧P.underlying t=some (.slice e)∧sz P e=some z ∧
 args=[.sl (some (vb,vo)) vn vc,.sl (some (b,o)) n c]∧vb≠b∧h.get vb=some (.cells z1 d1)∧z1≠1∧vo < d1.length∧h.get b=some (.cells z2 d2)∧0 < d2.length∧M (.b false) h
theorem zzn:KOk P (KLap P):=by
 rintro f args h M ⟨g,t,tr,e,z,vb,vo,vn,vc,d1,z1,b,o,n,c,d2,z2,hf,hname,hb,hn,he,ht,hz,rfl,hne,hg1,hz1,hvo,hg2,hd2,hM⟩ ρ w args' r hr
 match args',hr with
 | [u',v'],hr =>
  have slc:∀ {b o n c u},VR ρ (.sl (some (b,o)) n c) u → ∃ i cc,ρ b=some i∧u = .slice (some ⟨i.g,i.base+o,none⟩) n cc:=fun h=>by
   cases h with
   | sk hb _=>exact ⟨_,_,hb,rfl⟩
   | so hb _ _ _=>exact ⟨_,_,hb,rfl⟩
  obtain ⟨i1,c1,e1,rfl⟩:=slc hr.head;obtain ⟨i2,c2,e2,rfl⟩:=slc hr.tail.head;obtain ⟨a1,a2,a3,a4,a5,a6⟩:=r.blk _ _ _ e1 hg1;obtain ⟨b1,b2,b3,b4,b5,b6⟩:=r.blk _ _ _ e2 hg2;have hg:i1.g≠i2.g:=fun q=>hne (r.inj vb b i1 i2 e1 e2 ⟨_,hg1,rfl⟩ ⟨_,hg2,rfl⟩ q);obtain ⟨u1,hu1⟩:=Option.isSome_iff_exists.1 (a5.1 (i1.base+vo) (by omega)).1;obtain ⟨u2,hu2⟩:=Option.isSome_iff_exists.1 (b5.1 i2.base (by omega)).1;obtain ⟨C1,t1,f1,s1,s1'⟩:=Go.Sort.cells_of_cell? hu1;obtain ⟨C2,t2,f2,s2,s2'⟩:=Go.Sort.cells_of_cell? hu2;have k2:C2.size≠0:=by
   simp only [World.cell?,s2] at hu2;have:=(Array.getElem?_eq_some_iff.1 hu2).1;omega
  have h1:=run_callFunc_extern (P:=P) hf hname hb hn he #[.slice (some ⟨i1.g,i1.base+vo,none⟩) vn c1,.slice (some ⟨i2.g,i2.base+o,none⟩) n c2] w;rw [Lib.run_overlaps_apart w t tr e ht z (zhy hz) ⟨i1.g,i1.base+vo,none⟩ ⟨i2.g,i2.base+o,none⟩ vn c1 n c2 hg t1 t2 C1.size C2.size (by simp only [World.shape?,s1]) (by simp only [World.shape?,s2]) k2 (a5.1 _ (by omega)).2 (by
   have:=a5.2.2.2 (by rw [← a1] at hz1;exact a1 ▸ hz1) _ _ _ s1;simp only [World.frozen?,s1];simp;omega)] at h1
  exact .inr ⟨_,w,h1,_,h,ρ,hM,.b _,r,Ext.refl _ _ _⟩
 | [],hr=>exact absurd hr.1 (by simp)
 | [_],hr=>exact absurd hr.1 (by simp)
 | _::_::_::_,hr=>exact absurd hr.1 (by simp)
end
section
variable {P:Program} {E:EL} {X:List Nat} {h0 h:Hp} {F0 F:Frz} {L:List Ob}
theorem E_cvt {α:Type} {t:Tr α} {ty e:TypeId} {x:Operand} {v:Val} {xs:List α} (k:Nat) (hs:P.underlying ty=some (.slice e)) (he:P.underlying e=some (.int .u8)) (hx:evLO E x=some v) (hS:St X h0 F0 F L h) (hk:L[k]? = some (.row t v xs)) (hn:xs≠[]) (h1:t.size=1):Ef P E h (.convert ty ty x) (fun v' h'=>v=v' ∧ h=h'):=by
 refine ⟨by simp [zcw,zzc,hs],v,h,?_,rfl,rfl⟩;obtain ⟨v0,hv0,r⟩:=hS.ok hk;obtain rfl:=List.head_eq_of_cons_eq hv0;rcases r with ⟨rfl,hxs,_⟩ | ⟨b,c,kk,css,bss,r⟩
 ·exact absurd hxs hn
 ·have hf:v = .sl (some (b,0)) xs.length (.of t.size kk):=r.form;have hb:h.get b=some (.cells t.size c):=r.blk;rw [h1] at hb hf;subst hf;simp only [opL,hx,Option.bind_some,zlu,hs,he,hb,beq_self_eq_true]
end
end Go.V
end
section
namespace Go.V
open Go.Wk
theorem cv1_one' {u:Value} {v:Val} (h:cv1 u=some v):v.one=true:=by
 unfold cv1 at h
 split at h <;> first | (obtain rfl:=Option.some.inj h;rfl) | cases h
theorem mapM_one':∀ {l:List Value} {vs:List Val},l.mapM cv1=some vs→vs.all Val.one=true:=by
 intro l
 induction l with
 | nil=>intro vs h;simp at h;subst h;rfl
 | cons x l ih =>
  intro vs h;simp only [List.mapM_cons,Option.bind_eq_bind,Option.pure_def,Option.bind_eq_some_iff,Option.some.injEq] at h;obtain ⟨v,h1,us,h2,rfl⟩:=h;rw [List.all_cons,cv1_one' h1,ih h2];rfl
theorem cv_one' {u:Value} {v:Val} (h:cv u=some v):v.cells.all Val.one=true:=by
 unfold cv at h
 split at h
 ·obtain ⟨vs,h1,rfl⟩:=Option.map_eq_some_iff.1 h;exact mapM_one' h1
 ·have h1:=cv1_one' h;cases v <;> first | (simp [Val.cells,Val.one];done) | (simp [Val.one] at h1)
section
variable {P:Program} {E:EL} {G:Frz} {h:Hp}
theorem zxs {x:Int} {n:Nat} (hx:x=(n:Int)) (hn:n < 4611686018427387904):IntKind.i64.wrap x=(n:Int):=by
 subst hx;have h1:((n:Int) % (2 ^ 64:Int))=n:=Int.emod_eq_of_lt (by omega) (by omega);show (if (true&&decide ((n:Int) % (2 ^ 64:Int) ≥ (2 ^ 63:Int)))=true then (n:Int) % (2 ^ 64:Int) - (2 ^ 64:Int) else (n:Int) % (2 ^ 64:Int))=n;rw [h1,if_neg];simp only [Bool.true_and,decide_eq_true_eq];omega
theorem zhw {t:TypeId} {a b:Nat} (h:a+b < 4611686018427387904):binV P .add t (.i .i64 (a:Int)) (.i .i64 (b:Int))=some (.i .i64 ((a+b:Nat):Int)):=by
 simp only [binV,ibin,if_true];rw [zxs (n:=a+b) (by omega) h]
theorem bI_subN {t:TypeId} {a b:Nat} (h:b≤a) (ha:a < 4611686018427387904):binV P .sub t (.i .i64 (a:Int)) (.i .i64 (b:Int))=some (.i .i64 ((a - b:Nat):Int)):=by
 simp only [binV,ibin,if_true];rw [zxs (n:=a - b) (by omega) (by omega)]
theorem bnd_ok2 {len cap:Nat} {lo hi:Option Val} {a b:Nat} (hlo:BdV lo 0 (a:Int)) (hhi:BdV hi len (b:Int)) (h1:a≤b) (hc:b≤cap):bndV len cap lo hi none=some (a,b,cap):=by
 have na:∀ kk,natI (.i kk (a:Int))=some a:=fun kk=>by unfold natI;simp only;rw [if_pos (by omega)];rfl
 have nb:∀ kk,natI (.i kk (b:Int))=some b:=fun kk=>by unfold natI;simp only;rw [if_pos (by omega)];rfl
 have e1:znx hi len=some b:=by
  rcases hhi with ⟨rfl,e⟩ | ⟨kk,rfl⟩
  ·simp [znx];omega
  ·exact nb kk
 have e2:znx lo 0=some a:=by
  rcases hlo with ⟨rfl,e⟩ | ⟨kk,rfl⟩
  ·simp [znx];omega
  ·exact na kk
 unfold bndV;rw [e1,e2];simp only [znx,Option.bind_some];rw [if_pos ⟨Nat.le_refl _,by omega,by omega,fun q=>by cases q⟩]
theorem zlf {t e:TypeId} {z b o len k:Nat} {x:Operand} {ol oh:Option Operand} (l u:Nat) (ht:P.underlying t=some (.slice e)) (hz:sz P e=some z) (hx:evLO E x=some (.sl (some (b,o)) len (.k k))) (hl:Bd E ol 0 (l:Int)) (hh:Bd E oh len (u:Int)) (h1:l≤u) (h2:u≤k) (h3:l < k) (h:Hp) :
  opL P E h (.slice t x ol oh none)=some (.sl (some (b,o+l*z)) (u - l) (.k (k - l)),h):=by
 obtain ⟨lo,l1,l2⟩:=hl.val;obtain ⟨hi,r1,r2⟩:=hh.val;have n0:evLQ E none=some none:=rfl;simp only [opL,hx,l1,r1,n0,Option.bind_some,zil,ht,hz];rw [bnd_ok2 l2 r2 h1 h2];simp only [Option.map_some];rw [if_neg (by omega)]
theorem O_slO {t e:TypeId} {z b o len:Nat} {x:Operand} {ol oh:Option Operand} (l u:Nat) (ht:P.underlying t=some (.slice e)) (hz:sz P e=some z) (hx:evLO E x=some (.sl (some (b,o)) len (.op z))) (hl:Bd E ol 0 (l:Int)) (hh:Bd E oh len (u:Int)) (h1:l≤u) (h2:u≤len) (h3:l < len) (h:Hp) :
  opL P E h (.slice t x ol oh none)=some (.sl (some (b,o+l*z)) (u - l) (.op z),h):=by
 obtain ⟨lo,l1,l2⟩:=hl.val;obtain ⟨hi,r1,r2⟩:=hh.val;have n0:evLQ E none=some none:=rfl;simp only [opL,hx,l1,r1,n0,Option.bind_some,zil,ht,hz,if_true];rw [bnd_ok2 l2 r2 h1 h2];simp only [Option.map_some,Option.isSome_none,Bool.false_eq_true,if_false];rw [if_pos h3]
theorem E_cp {t e:TypeId} {dx sx:Operand} {b o n b2 o2 n2 z z1 z2 m:Nat} {k k2:Cap} {c d:List Val} (ht:P.underlying t=some (.slice e)) (hz:sz P e=some z) (hd:evLO E dx=some (.sl (some (b,o)) n k)) (hx:evLO E sx=some (.sl (some (b2,o2)) n2 k2)) (hm:min n2 n=m)
  (hg:h.get b=some (.cells z1 c)) (hg2:h.get b2=some (.cells z2 d)) (h1:o2+m*z≤d.length) (h2:o+m*z≤c.length) (h3:d.all Val.one=true) (hm0:0 < m) :
  Ef P E h (.call { callee:=.builtin .copy,args:=#[dx,sx],argTypes:=#[t,t] }) (fun u h'=>h' = h.set b (.cells z1 (putL c o ((d.drop o2).take (m*z))))):=by
 refine ⟨rfl,.i .i64 ((min n2 n:Nat):Int),_,?_,rfl⟩;have hf:zgm h z m (.sl (some (b2,o2)) n2 k2)=some ((d.drop o2).take (m*z)):=by
  simp only [zgm];rw [if_neg (by omega)];unfold rd;rw [hg2];simp only;rw [if_pos h1]
 have hlen:((d.drop o2).take (m*z)).length=m*z:=by rw [List.length_take,List.length_drop];omega
 have hone:((d.drop o2).take (m*z)).all Val.one=true:=List.all_eq_true.2 fun x hx=>List.all_eq_true.1 h3 x (List.mem_of_mem_drop (List.mem_of_mem_take hx));simp only [opL,evLL,List.mapM_cons,List.mapM_nil,hd,hx,bltV,copyV,Option.bind_some,Option.bind_eq_bind,pure,List.getElem?_cons_zero,ht,hz,lenV,hm,hf];rw [if_pos hlen];unfold wrH;rw [hg];simp only;rw [if_pos ⟨by rw [hlen];exact h2,hone⟩];rfl
theorem E_apK {ts tx e:TypeId} {sx xx:Operand} {b o l k N z zb:Nat} {kk:IntKind} {c:List Val} (ht:P.underlying ts=some (.slice e)) (hrow:zlk P e z=true) (hzk:zik P tx=some true) (hs:evLO E sx=some (.sl (some (b,o)) l (.k k))) (hxx:evLO E xx=some (.i kk (N:Int)))
  (hlk:l≤k) (hroom:k < l+N) (hl:l≤2 ^ 30) (hN:N≤2 ^ 30) (hg:h.get b=some (.cells zb c)) (hc:o+l*z≤c.length) (h1:c.all Val.one=true) :
  Ef P E h (.call { callee:=.builtin .append,args:=#[sx,xx],argTypes:=#[ts,tx] }) (fun v' h'=>v' = .sl (some (h.next,0)) (l+N) (.op z) ∧ ∃ zs,zs.length=N*z∧zs.all Val.one=true∧h' = h.new (.cells z ((c.drop o).take (l*z)++zs))):=by
 obtain ⟨inf,zero,r1,r2,r3,r4,r5,r6,r7⟩:=zix hrow;have hnv:natV (.i kk (N:Int))=some N:=by unfold natV;simp only;rw [if_pos ⟨by omega,by omega⟩];rfl
 have hlen:(zew zero.cells N).length=N*z:=by simp [zew,r4]
 have hz1:(zew zero.cells N).all Val.one=true:=by
  refine List.all_eq_true.2 fun u hu=>?_;unfold zew at hu;obtain ⟨q,hq,hu⟩:=List.mem_flatten.1 hu;rw [(List.mem_replicate.1 hq).2] at hu;obtain ⟨i,zz,e1,e2,e3⟩:=zgo r3;have:=cv_one' e3;exact List.all_eq_true.1 this u hu
 have hone:((c.drop o).take (l*z)).all Val.one=true:=List.all_eq_true.2 fun x hx=>List.all_eq_true.1 h1 x (List.mem_of_mem_drop (List.mem_of_mem_take hx));refine ⟨rfl,.sl (some (h.next,0)) (l+N) (.op z),h.new (.cells z ((c.drop o).take (l*z)++zew zero.cells N)),?_,rfl,_,hlen,hz1,rfl⟩;simp only [opL,evLL,List.mapM_cons,List.mapM_nil,hs,hxx,bltV,zpp,ht,r1,r2,r3,hzk,moreV,hnv,Option.bind_some,cond_true,pure,Option.bind_eq_bind];rw [if_pos r4];simp only [Option.bind_some];rw [if_pos ⟨r4,r5,by omega,r6,r7,hlen,hz1⟩];simp only [appV];rw [if_neg (by omega),if_pos ⟨hlk,by omega⟩];have hf:zgm h z l (.sl (some (b,o)) l (.k k))=some ((c.drop o).take (l*z)):=by
  simp only [zgm]
  split
  ·rename_i h0;subst h0;simp
  ·unfold rd;rw [hg];simp only;rw [if_pos hc]
 rw [hf];simp only [Option.bind_some,rowV];rw [if_pos (by rw [List.all_append,hone,hz1];rfl)];rfl
end
def InsR (z:Nat) (h:Hp) (b i n y:Nat) (c d:List Val) (u:Val) (h':Hp):Prop :=
 ∃ g k c',u = .sl (some (g,0)) (n+y) (.of z k)∧h'.get g=some (.cells z c')∧c'.take ((n+y)*z)=c.take (i*z)++d.take (y*z)++(c.take (n*z)).drop (i*z)∧(k=none→(n+y)*z≤c'.length)∧(∀ q,k=some q→c'.length=q*z∧n+y≤q) ∧
  c'.all Val.one=true∧g < h'.next∧h.next≤h'.next∧Wf h' ∧ (∀ q,q < h.next→q≠b→h'.get q=h.get q)∧(g=b∨h.next≤g)
theorem ziv {c v:List Val} {o:Nat} (h1:c.all Val.one=true) (h2:v.all Val.one=true):(putL c o v).all Val.one=true:=by
 unfold putL;rw [List.all_append,List.all_append,h2];have p1:(c.take o).all Val.one=true:=List.all_eq_true.2 fun x hx=>List.all_eq_true.1 h1 x (List.mem_of_mem_take hx);have p2:(c.drop (o+v.length)).all Val.one=true:=List.all_eq_true.2 fun x hx=>List.all_eq_true.1 h1 x (List.mem_of_mem_drop hx);rw [p1,p2];rfl
theorem zhl {c:List Val} {a b:Nat} (h1:c.all Val.one=true):((c.drop a).take b).all Val.one=true:=List.all_eq_true.2 fun x hx=>List.all_eq_true.1 h1 x (List.mem_of_mem_drop (List.mem_of_mem_take hx))
section
variable {z i n y m:Nat} {c d:List Val}
theorem ins_in (hi:i < n) (hnm:n+y≤m) (hcm:c.length=m*z) (hyd:y*z≤d.length) :
  (putL (putL c ((i+y)*z) ((c.drop (i*z)).take ((n - i)*z))) (i*z) ((d.drop 0).take (y*z))).take ((n+y)*z)=c.take (i*z)++d.take (y*z)++(c.take (n*z)).drop (i*z) ∧
  (putL (putL c ((i+y)*z) ((c.drop (i*z)).take ((n - i)*z))) (i*z) ((d.drop 0).take (y*z))).length=m*z:=by
 have e1:(i+y)*z=i*z+y*z:=Nat.add_mul _ _ _;have e2:(n - i)*z=n*z - i*z:=Nat.sub_mul _ _ _;have e3:(n+y)*z=n*z+y*z:=Nat.add_mul _ _ _;have e4:i*z≤n*z:=Nat.mul_le_mul_right _ (Nat.le_of_lt hi);have e5:(n+y)*z≤m*z:=Nat.mul_le_mul_right _ hnm;generalize i*z=I at *;generalize n*z=N at *;generalize y*z=Y at *;generalize m*z=M at *;have lA:((c.drop I).take (N - I)).length=N - I:=by rw [List.length_take,List.length_drop];omega
 have lD:((d.drop 0).take Y).length=Y:=by rw [List.length_take,List.length_drop];omega
 rw [e1,e2,e3];have hl1:(putL c (I+Y) ((c.drop I).take (N - I))).length=M:=by rw [zdq (by rw [lA];omega)];exact hcm
 have hl2:(putL (putL c (I+Y) ((c.drop I).take (N - I))) I ((d.drop 0).take Y)).length=M:=by rw [zdq (by rw [lD,hl1];omega)];exact hl1
 refine ⟨?_,hl2⟩;apply List.ext_getElem?;intro j;rw [List.getElem?_take]
 by_cases hj:j < N+Y
 ·rw [if_pos hj,zki (by rw [lD,hl1];omega),lD]
  by_cases h1:j < I
  ·rw [if_neg (by omega),zki (by rw [lA];omega),lA,if_neg (by omega),List.append_assoc,List.getElem?_append_left (by rw [List.length_take];omega),List.getElem?_take,if_pos h1]
  ·by_cases h2:j < I+Y
   ·rw [if_pos ⟨by omega,h2⟩,List.getElem?_append_left (by simp only [List.length_append,List.length_take];omega),List.getElem?_append_right (by rw [List.length_take];omega),List.drop_zero,List.length_take,Nat.min_eq_left (by omega)]
   ·rw [if_neg (by omega),zki (by rw [lA];omega),lA,if_pos (by omega),List.getElem?_append_right (by simp only [List.length_append,List.length_take];omega),List.getElem?_take,if_pos (by omega),List.getElem?_drop,List.getElem?_drop,List.getElem?_take];simp only [List.length_append,List.length_take];rw [if_pos (by omega)]
    congr 1;omega
 ·rw [if_neg hj]
  symm
  rw [List.getElem?_eq_none_iff];simp only [List.length_append,List.length_take,List.length_drop];omega
theorem ins_new {zs:List Val} (hi:i < n) (hnm:n≤m) (hcm:c.length=m*z) (hyd:y*z≤d.length) (hzs:zs.length=(n+y - i)*z) :
  putL (putL ((c.drop 0).take (i*z)++zs) (i*z) ((d.drop 0).take (y*z))) ((i+y)*z) ((c.drop (i*z)).take ((n - i)*z))=c.take (i*z)++d.take (y*z)++(c.take (n*z)).drop (i*z) ∧
  (putL (putL ((c.drop 0).take (i*z)++zs) (i*z) ((d.drop 0).take (y*z))) ((i+y)*z) ((c.drop (i*z)).take ((n - i)*z))).length=(n+y)*z:=by
 have e1:(i+y)*z=i*z+y*z:=Nat.add_mul _ _ _;have e2:(n - i)*z=n*z - i*z:=Nat.sub_mul _ _ _;have e3:(n+y)*z=n*z+y*z:=Nat.add_mul _ _ _;have e4:i*z≤n*z:=Nat.mul_le_mul_right _ (Nat.le_of_lt hi);have e5:n*z≤m*z:=Nat.mul_le_mul_right _ hnm;have e6:(n+y - i)*z=n*z+y*z - i*z:=by rw [Nat.sub_mul,Nat.add_mul]
 rw [e6] at hzs;generalize i*z=I at *;generalize n*z=N at *;generalize y*z=Y at *;generalize m*z=M at *;have lA:((c.drop I).take (N - I)).length=N - I:=by rw [List.length_take,List.length_drop];omega
 have lD:((d.drop 0).take Y).length=Y:=by rw [List.length_take,List.length_drop];omega
 have lB:((c.drop 0).take I++zs).length=N+Y:=by rw [List.length_append,List.length_take,List.length_drop];omega
 rw [e1,e2,e3];have hl1:(putL ((c.drop 0).take I++zs) I ((d.drop 0).take Y)).length=N+Y:=by rw [zdq (by rw [lD,lB];omega)];exact lB
 have hl2:(putL (putL ((c.drop 0).take I++zs) I ((d.drop 0).take Y)) (I+Y) ((c.drop I).take (N - I))).length=N+Y:=by rw [zdq (by rw [lA,hl1];omega)];exact hl1
 refine ⟨?_,hl2⟩;apply List.ext_getElem?;intro j
 by_cases hj:j < N+Y
 ·rw [zki (by rw [lA,hl1];omega),lA]
  by_cases h1:j < I
  ·rw [if_neg (by omega),zki (by rw [lD,lB];omega),lD,if_neg (by omega),List.append_assoc,List.getElem?_append_left (by rw [List.length_take,List.length_drop];omega),List.getElem?_append_left (by rw [List.length_take];omega),List.drop_zero]
  ·by_cases h2:j < I+Y
   ·rw [if_neg (by omega),zki (by rw [lD,lB];omega),lD,if_pos ⟨by omega,h2⟩,List.getElem?_append_left (by simp only [List.length_append,List.length_take];omega),List.getElem?_append_right (by rw [List.length_take];omega),List.drop_zero,List.length_take,Nat.min_eq_left (by omega)]
   ·rw [if_pos (by omega),List.getElem?_append_right (by simp only [List.length_append,List.length_take];omega),List.getElem?_take,if_pos (by omega),List.getElem?_drop,List.getElem?_drop,List.getElem?_take];simp only [List.length_append,List.length_take];rw [if_pos (by omega)]
    congr 1;omega
 ·rw [List.getElem?_eq_none_iff.2 (by rw [hl2];omega)]
  symm
  rw [List.getElem?_eq_none_iff];simp only [List.length_append,List.length_take,List.length_drop];omega
end
end Go.V
end
section
namespace Go.Wk
def insD {α:Type} (xs:List α) (i:Int) (ys:List α):Option (List α):=if 0≤i∧i≤(xs.length:Int)∧0 < ys.length∧xs.length+ys.length≤1073741824 then some (xs.take i.toNat++ys++xs.drop i.toNat) else none
theorem insD_some {α:Type} {xs ys r:List α} {i:Int} (h:insD xs i ys=some r):0≤i∧i≤(xs.length:Int)∧0 < ys.length∧xs.length+ys.length≤1073741824∧r=xs.take i.toNat++ys++xs.drop i.toNat:=by
 unfold insD at h
 split at h
 ·rename_i hc;exact ⟨hc.1,hc.2.1,hc.2.2.1,hc.2.2.2,(Option.some.inj h).symm⟩
 ·cases h
end Go.Wk
namespace Go.V
open Go.Wk
section
variable {α:Type} {t:To α} {F:Frz} {h h':Hp} {css:List (Cl t.size)} {bss:List (List Nat)} {xs:List α}
theorem RowE.take (a:RowE t F h css bss xs) (i:Nat):RowE t F h (css.take i) (bss.take i) (xs.take i) :=
 ⟨by rw [List.length_take,List.length_take,a.csl],by rw [List.length_take,List.length_take,a.bsl],fun j d x e h1 h2 h3=>by
  rw [List.getElem?_take] at h1 h2 h3
  split at h1
  ·rename_i hj;rw [if_pos hj] at h2 h3;exact a.rel j d x e h1 h2 h3
  ·cases h1⟩
theorem RowE.drop (a:RowE t F h css bss xs) (i:Nat):RowE t F h (css.drop i) (bss.drop i) (xs.drop i) :=
 ⟨by rw [List.length_drop,List.length_drop,a.csl],by rw [List.length_drop,List.length_drop,a.bsl],fun j d x e h1 h2 h3=>by
  rw [List.getElem?_drop] at h1 h2 h3;exact a.rel _ d x e h1 h2 h3⟩
theorem flat_take {s:Nat}:∀ (css:List (Cl s)) (i:Nat),((css.take i).map Subtype.val).flatten=((css.map Subtype.val).flatten).take (i*s)
 | [],i=>by simp
 | d::r,0=>by simp
 | d::r,i+1=>by
  rw [List.take_succ_cons,List.map_cons,List.flatten_cons,List.map_cons,List.flatten_cons,flat_take r i,List.take_append,d.2,Nat.add_mul,Nat.one_mul,Nat.add_sub_cancel,List.take_of_length_le (l:=d.1) (by rw [d.2];omega)]
theorem flat_drop {s:Nat}:∀ (css:List (Cl s)) (i:Nat),((css.drop i).map Subtype.val).flatten=((css.map Subtype.val).flatten).drop (i*s)
 | [],i=>by simp
 | d::r,0=>by simp
 | d::r,i+1=>by
  rw [List.drop_succ_cons,List.map_cons,List.flatten_cons,flat_drop r i,List.drop_append,d.2,Nat.add_mul,Nat.one_mul,Nat.add_sub_cancel,show d.1.drop (i*s+s)=[] from List.drop_eq_nil_of_le (by rw [d.2];omega),List.nil_append]
def InsW (P:Program) (K:Tb) (f:FuncId) (z:Nat):Prop:=∀ {h:Hp} {b n m i vb y:Nat} {ck:Cap} {c d:List Val} (hW:Wf h) (hb:b < h.next) (hg:h.get b=some (.cells z c)) (hv:h.get vb=some (.cells z d)) (hne:vb≠b) (hi:i < n) (hnm:n≤m) (hcm:c.length=m*z) (hy:0 < y) (hyd:y*z≤d.length) (hc1:c.all Val.one=true) (hd1:d.all Val.one=true) (hbig:n+y≤2 ^ 30) (hvb:vb < h.next),
  Ret P K f [.sl (some (b,0)) n (.k m),.i .i64 (i:Int),.sl (some (vb,0)) y ck] h (InsR z h b i n y c d)
end
section
variable {α:Type} {t:To α} {F:Frz} {w:Hp} {X:List Nat} {bs bs2:List Nat} {v v2:Val} {i:Int} {xs ys r:List α} {P:Program} {K K0:Tb} {f z:Nat}
theorem insR_dp (hz:t.size=z) {n:Nat} (hS:St X w F F [.dp t bs v xs,.dp t bs2 v2 ys] w) (hn:n < xs.length) (hfew:xs.length+ys.length≤1073741824)
  {b:Nat} {c:List Val} {k:Option Nat} {css:List (Cl t.size)} {bss:List (List Nat)} (r1:RowO t F w bs v xs b c k css bss) {vb:Nat} {d:List Val} {k2:Option Nat} {css2:List (Cl t.size)} {bss2:List (List Nat)} (r2:RowO t F w bs2 v2 ys vb d k2 css2 bss2)
  {h2:Hp} {b':Nat} {c2:List Val} (hn2:w.next≤h2.next) (hk2:∀ q,q < w.next→q≠b→h2.get q=w.get q) (hb':b' = b∨w.next≤b') (hc2:∃ post,c2=c++post) {u:Val} {h':Hp} (hI:InsR z h2 b' n xs.length ys.length c2 d u h'):∃ bs',St X w F F [.dp t bs' u (xs.take n++ys++xs.drop n)] h':=by
 subst hz;obtain ⟨g,k',c',rfl,hg,hcs,ho,hcap,h1,hgl,hnx,hwf,hkeep,hgb⟩:=hI;obtain ⟨post,rfl⟩:=hc2;have hap:∀ q,q∈bs→q ∉ bs2:=fun q h1 h2=>by
  have:=hS.apart 0 1 _ _ q rfl rfl h1 h2;omega
 have hf1:=r1.foot;have hf2:=r2.foot;have hn1:=r1.nodup;have hn2':=r2.nodup;rw [hf1] at hn1;rw [hf2] at hn2';have e1:RowE t F w css bss xs:=⟨r1.csl,r1.bsl,r1.rel⟩
 have e2:RowE t F w css2 bss2 ys:=⟨r2.csl,r2.bsl,r2.rel⟩
 have eA:RowE t F w (css.take n++css2++css.drop n) (bss.take n++bss2++bss.drop n) (xs.take n++ys++xs.drop n):=((e1.take n).cat e2).cat (e1.drop n);have hmem:∀ q,q∈(bss.take n++bss2++bss.drop n).flatten→q∈bss.flatten∨q∈bss2.flatten:=fun q hq=>by
  simp only [List.flatten_append,List.mem_append] at hq;rcases hq with (hq | hq) | hq
  ·obtain ⟨e,he,hq⟩:=List.mem_flatten.1 hq;exact .inl (List.mem_flatten.2 ⟨e,List.mem_of_mem_take he,hq⟩)
  ·exact .inr hq
  ·obtain ⟨e,he,hq⟩:=List.mem_flatten.1 hq;exact .inl (List.mem_flatten.2 ⟨e,List.mem_of_mem_drop he,hq⟩)
 have hlt:∀ q,q∈(bss.take n++bss2++bss.drop n).flatten→q < w.next:=eA.lt;have hneb:∀ q,q∈(bss.take n++bss2++bss.drop n).flatten→q≠b:=fun q hq e=>by
  subst e;rcases hmem q hq with h | h
  ·exact (List.nodup_cons.1 hn1).1 h
  ·exact hap q (by rw [hf1];simp) (by rw [hf2];exact List.mem_cons_of_mem _ h)
 have hnew:∀ q,q < w.next→q≠b→h'.get q=w.get q:=fun q hq hqb=>by
  rw [hkeep q (by omega) (fun e=>by rcases hb' with rfl | hb';exact hqb e;omega)];exact hk2 q hq hqb
 have eB:=eA.frame (h1:=h') (by omega) fun q hq=>hnew q (hlt q hq) (hneb q hq);have hgg:g=b∨w.next≤g:=by
  rcases hgb with rfl | h
  ·exact hb'
  ·exact .inr (by omega)
 have hlen:(xs.take n++ys++xs.drop n).length=xs.length+ys.length:=by simp only [List.length_append,List.length_take,List.length_drop];omega
 have hfitc:xs.length*t.size≤c.length:=by
  cases k with
  | none=>exact r1.opn rfl
  | some m=>obtain ⟨q1,q2⟩:=r1.cap m rfl;rw [q1];exact Nat.mul_le_mul_right _ q2
 have hnod:(bss.take n++bss2++bss.drop n).flatten.Nodup:=by
  have p:((bss.take n++bss2++bss.drop n).flatten).Perm (bss.flatten++bss2.flatten):=by
   have q:bss.flatten=(bss.take n).flatten++(bss.drop n).flatten:=by rw [← List.flatten_append,List.take_append_drop]
   rw [q,List.flatten_append,List.flatten_append,List.append_assoc,List.append_assoc];exact List.Perm.append_left _ List.perm_append_comm
  rw [p.nodup_iff];exact List.nodup_append.2 ⟨(List.nodup_cons.1 hn1).2,(List.nodup_cons.1 hn2').2,fun x hx y hy e=>by
   subst e;exact hap x (by rw [hf1];exact List.mem_cons_of_mem _ hx) (by rw [hf2];exact List.mem_cons_of_mem _ hy)⟩
 have R:=zva (b:=g) (c:=c') (k:=k') eB hgl hg (by
   rw [hlen,hcs,List.map_append,List.map_append,List.flatten_append,List.flatten_append,flat_take,flat_drop,← r1.cells,← r2.cells];have l1:n*t.size≤xs.length*t.size:=Nat.mul_le_mul_right _ (Nat.le_of_lt hn);rw [List.take_take,Nat.min_eq_left l1,List.take_append_of_le_length (by omega),List.take_append_of_le_length (by omega)])
  (by rw [hlen];exact ho) (by rw [hlen];exact hcap) (by rw [hlen];omega) h1 (List.nodup_cons.2 ⟨fun hq=>by
   rcases hgg with e | e
   ·exact hneb g hq e
   ·have:=hlt g hq;omega,hnod⟩)
 rw [hlen] at R;refine ⟨g::(bss.take n++bss2++bss.drop n).flatten,hS.join (.dp t _ _ _) ⟨_,rfl,.inr ⟨_,_,_,_,_,R⟩⟩ (by omega) hwf (fun q hq h1 h2=>hnew q hq (fun e=>h1 (by show q∈bs;rw [hf1,e];simp))) fun q hq=>?_⟩;rcases List.mem_cons.1 hq with rfl | hq
 ·rcases hgg with e | e
  ·exact .inl (by show q∈bs;rw [hf1,e];simp)
  ·exact .inr (.inr e)
 ·rcases hmem q hq with h | h
  ·exact .inl (by show q∈bs;rw [hf1];exact List.mem_cons_of_mem _ h)
  ·exact .inr (.inl (by show q∈bs2;rw [hf2];exact List.mem_cons_of_mem _ h))
theorem ins_dp (hz:t.size=z) (hz1:0 < z)
  (he:∀ {X:List Nat} {h0 h:Hp} {F0 F:Frz} {L:List Ob} {bs bs2:List Nat} {v v2:Val} {xs ys zs:List α} (hS:St X h0 F0 F (.dp t bs2 v2 ys :: .dp t bs v xs::L) h) (hy:0 < ys.length) (hz:app xs ys=some zs),Ret P K f [v,.i .i64 (xs.length:Int),v2] h (fun u h'=>∃ bs',St X h0 F0 F (.dp t bs' u zs::L) h'))
  (h1:InsW P K f z) (h0:InsW P K0 f z) (hcl:∀ args h M,ztk P K0 f f args h M→K f args h M)
  (hS:St X w F F [.dp t bs v xs,.dp t bs2 v2 ys] w) (H:insD xs i ys=some r):Ret P K f [v,.i .i64 i,v2] w fun u w'=>∃ bs',St X w F F [.dp t bs' u r] w':=by
 obtain ⟨i0,i1,hy,hfew,rfl⟩:=insD_some H;obtain ⟨n,rfl⟩:∃ n:Nat,i=n:=⟨i.toNat,by omega⟩
 rw [Int.toNat_natCast]
 by_cases hn:n=xs.length
 ·subst hn;have hS2:St X w F F [.dp t bs2 v2 ys,.dp t bs v xs] w:=hS.pick [1,0] (by decide);have:=he hS2 hy (zs:=xs++ys) (by unfold app;rw [if_pos hfew]);rw [List.take_length,List.drop_length,List.append_nil];exact this
 ·have hn':n < xs.length:=by omega
  obtain ⟨v0,hv0,q1⟩:=hS.ok (i:=0) rfl;obtain rfl:=List.head_eq_of_cons_eq hv0;obtain ⟨v0,hv0,q2⟩:=hS.ok (i:=1) rfl;obtain rfl:=List.head_eq_of_cons_eq hv0;rcases q1 with ⟨_,e,_⟩ | ⟨b,c,k,css,bss,r1⟩
  ·have e':xs=[]:=e;subst e';simp at hn'
  rcases q2 with ⟨_,e,_⟩ | ⟨vb,d,k2,css2,bss2,r2⟩
  ·have e':ys=[]:=e;subst e';simp at hy
  have f1:v = .sl (some (b,0)) xs.length (.of t.size k):=r1.form;have f2:v2 = .sl (some (vb,0)) ys.length (.of t.size k2):=r2.form;have hbv:vb≠b:=fun e=>by
   have h1:b∈bs:=by have:=r1.foot;show b∈bs;rw [show bs=b::bss.flatten from this];simp
   have h2:vb∈bs2:=by have:=r2.foot;show vb∈bs2;rw [show bs2=vb::bss2.flatten from this];simp
   have:=hS.apart 0 1 _ _ b rfl rfl h1 (e ▸ h2);omega
  have g1:w.get b=some (.cells t.size c):=r1.blk;have g2:w.get vb=some (.cells t.size d):=r2.blk;have hyd:ys.length*t.size≤d.length:=by
   cases k2 with
   | none=>exact r2.opn rfl
   | some m=>obtain ⟨q1,q2⟩:=r2.cap m rfl;rw [show d.length=m*t.size from q1];exact Nat.mul_le_mul_right _ q2
  have hblt:b < w.next:=r1.lt;have hvlt:vb < w.next:=r2.lt;subst hz;cases k with
  | some m =>
   obtain ⟨m1,m2⟩:=r1.cap m rfl;rw [f1,f2];exact (h1 (ck:=.of t.size k2) hS.wf hblt g1 g2 hbv hn' m2 m1 hy hyd r1.one r2.one (by omega) hvlt).mono fun u h' hI=>insR_dp rfl hS hn' hfew r1 r2 (Nat.le_refl _) (fun _ _ _=>rfl) (.inl rfl) ⟨[],by simp⟩ hI
  | none =>
   have hfit:xs.length*t.size≤c.length:=r1.opn rfl;rw [f1];refine .known (M:=fun u w'=>∃ bs',St X w F F [.dp t bs' u (xs.take n++ys++xs.drop n)] w') (hcl _ _ _ ⟨rfl,b,xs.length,t.size,c,_,rfl,g1,hfit,fun m hm1 hm2=>?_⟩) fun u w' q=>⟨u,w',rfl,q⟩
   rw [f2];have gw:∀ B q,q < w.next→q≠b→((w.set b .dead).new B).get q=w.get q:=fun B q hq hqb=>by
    rw [Hp.get_new];have:(w.set b .dead).next=w.next:=rfl;rw [this,if_neg (by omega),Hp.get_set,if_neg hqb]
   refine (h0 (h:=(w.set b .dead).new (.cells t.size (c++List.replicate (m*t.size - c.length) .un))) (b:=w.next) (ck:=.of t.size k2) (c:=c++List.replicate (m*t.size - c.length) .un) (fun q hq=>?_) (Nat.lt_succ_self _) (by rw [Hp.get_new];exact if_pos rfl) ((gw _ _ hvlt hbv).trans g2) (by omega) hn' hm1 (by rw [List.length_append,List.length_replicate];omega) hy hyd ?_ r2.one (by omega) (Nat.lt_succ_of_lt hvlt)).mono fun u h' hI=>insR_dp rfl hS hn' hfew r1 r2 (Nat.le_succ _) (gw _) (.inr (Nat.le_refl _)) ⟨_,rfl⟩ hI
   ·have hq':w.next+1≤q:=hq;rw [Hp.get_new];have:(w.set b .dead).next=w.next:=rfl;rw [this,if_neg (by omega),Hp.get_set,if_neg (by omega)];exact hS.wf q (by omega)
   ·rw [List.all_append,r1.one,Bool.true_and];exact List.all_eq_true.2 fun u hu=>by rw [(List.mem_replicate.1 hu).2];rfl
end
theorem bI_rem {P:Program} {t:TypeId} {k:IntKind} {a b r:Int} (h0:b≠0) (h:r=a.tmod b):binV P .rem t (.i k a) (.i k b)=some (.i k r):=by
 subst h;simp only [binV,ibin,if_true];rw [if_neg h0]
end Go.V
end
section
namespace Go.V
open Go.Wk
section
variable {P:Program} {K:Tb} {fn:Func} {k:Kont} {E:EL} {h:Hp} {A:List Oper} {dr:Bool} {G:Frz} {L:List Nat} {i d:Nat}
theorem qc {v:Val} (x:W P K fn k A dr G L ((d,v)::E) h) (hi:Nat.blt i A.length=true:=by exact rfl) (hw:zfg A E (opAt A i)=some true:=by exact rfl) (hd:(opAt A i).dst=some d:=by exact rfl) (hk:decide (zcw P (opAt A i).op = .eff)=false:=by exact rfl) (ho:∀ h,opL P E h (opAt A i).op=some (v,h):=by exact fun _=>rfl):W P K fn k A dr G (i::L) E h:=W_c hi hw hd hk ho x
theorem q2 {j0 e0 j1 e1:Nat} {v0 v1:Val} (x:W P K fn k A dr G L ((e1,v1)::((e0,v0)::E)) h) (hi0:Nat.blt j0 A.length=true:=by exact rfl) (hw0:zfg A E (opAt A j0)=some true:=by exact rfl) (hd0:(opAt A j0).dst=some e0:=by exact rfl) (hk0:decide (zcw P (opAt A j0).op = .eff)=false:=by exact rfl) (ho0:∀ h,opL P E h (opAt A j0).op=some (v0,h):=by exact fun _=>rfl) (hi1:Nat.blt j1 A.length=true:=by exact rfl) (hw1:zfg A ((e0,v0)::E) (opAt A j1)=some true:=by exact rfl) (hd1:(opAt A j1).dst=some e1:=by exact rfl) (hk1:decide (zcw P (opAt A j1).op = .eff)=false:=by exact rfl) (ho1:∀ h,opL P ((e0,v0)::E) h (opAt A j1).op=some (v1,h):=by exact fun _=>rfl):W P K fn k A dr G (j0::j1::L) E h:=W_c hi0 hw0 hd0 hk0 ho0 (W_c hi1 hw1 hd1 hk1 ho1 x)
theorem q3 {j0 e0 j1 e1 j2 e2:Nat} {v0 v1 v2:Val} (x:W P K fn k A dr G L ((e2,v2)::((e1,v1)::((e0,v0)::E))) h) (hi0:Nat.blt j0 A.length=true:=by exact rfl) (hw0:zfg A E (opAt A j0)=some true:=by exact rfl) (hd0:(opAt A j0).dst=some e0:=by exact rfl) (hk0:decide (zcw P (opAt A j0).op = .eff)=false:=by exact rfl) (ho0:∀ h,opL P E h (opAt A j0).op=some (v0,h):=by exact fun _=>rfl) (hi1:Nat.blt j1 A.length=true:=by exact rfl) (hw1:zfg A ((e0,v0)::E) (opAt A j1)=some true:=by exact rfl) (hd1:(opAt A j1).dst=some e1:=by exact rfl) (hk1:decide (zcw P (opAt A j1).op = .eff)=false:=by exact rfl) (ho1:∀ h,opL P ((e0,v0)::E) h (opAt A j1).op=some (v1,h):=by exact fun _=>rfl) (hi2:Nat.blt j2 A.length=true:=by exact rfl) (hw2:zfg A ((e1,v1)::((e0,v0)::E)) (opAt A j2)=some true:=by exact rfl) (hd2:(opAt A j2).dst=some e2:=by exact rfl) (hk2:decide (zcw P (opAt A j2).op = .eff)=false:=by exact rfl) (ho2:∀ h,opL P ((e1,v1)::((e0,v0)::E)) h (opAt A j2).op=some (v2,h):=by exact fun _=>rfl):W P K fn k A dr G (j0::j1::j2::L) E h:=W_c hi0 hw0 hd0 hk0 ho0 (W_c hi1 hw1 hd1 hk1 ho1 (W_c hi2 hw2 hd2 hk2 ho2 x))
theorem q4 {j0 e0 j1 e1 j2 e2 j3 e3:Nat} {v0 v1 v2 v3:Val} (x:W P K fn k A dr G L ((e3,v3)::((e2,v2)::((e1,v1)::((e0,v0)::E)))) h) (hi0:Nat.blt j0 A.length=true:=by exact rfl) (hw0:zfg A E (opAt A j0)=some true:=by exact rfl) (hd0:(opAt A j0).dst=some e0:=by exact rfl) (hk0:decide (zcw P (opAt A j0).op = .eff)=false:=by exact rfl) (ho0:∀ h,opL P E h (opAt A j0).op=some (v0,h):=by exact fun _=>rfl) (hi1:Nat.blt j1 A.length=true:=by exact rfl) (hw1:zfg A ((e0,v0)::E) (opAt A j1)=some true:=by exact rfl) (hd1:(opAt A j1).dst=some e1:=by exact rfl) (hk1:decide (zcw P (opAt A j1).op = .eff)=false:=by exact rfl) (ho1:∀ h,opL P ((e0,v0)::E) h (opAt A j1).op=some (v1,h):=by exact fun _=>rfl) (hi2:Nat.blt j2 A.length=true:=by exact rfl) (hw2:zfg A ((e1,v1)::((e0,v0)::E)) (opAt A j2)=some true:=by exact rfl) (hd2:(opAt A j2).dst=some e2:=by exact rfl) (hk2:decide (zcw P (opAt A j2).op = .eff)=false:=by exact rfl) (ho2:∀ h,opL P ((e1,v1)::((e0,v0)::E)) h (opAt A j2).op=some (v2,h):=by exact fun _=>rfl) (hi3:Nat.blt j3 A.length=true:=by exact rfl) (hw3:zfg A ((e2,v2)::((e1,v1)::((e0,v0)::E))) (opAt A j3)=some true:=by exact rfl) (hd3:(opAt A j3).dst=some e3:=by exact rfl) (hk3:decide (zcw P (opAt A j3).op = .eff)=false:=by exact rfl) (ho3:∀ h,opL P ((e2,v2)::((e1,v1)::((e0,v0)::E))) h (opAt A j3).op=some (v3,h):=by exact fun _=>rfl):W P K fn k A dr G (j0::j1::j2::j3::L) E h:=W_c hi0 hw0 hd0 hk0 ho0 (W_c hi1 hw1 hd1 hk1 ho1 (W_c hi2 hw2 hd2 hk2 ho2 (W_c hi3 hw3 hd3 hk3 ho3 x)))
theorem qr {v:Val} (ho:Rd P G E (opAt A i).op v) (x:W P K fn k A dr G L ((d,v)::E) h) (hi:Nat.blt i A.length=true:=by exact rfl) (hw:zfg A E (opAt A i)=some true:=by exact rfl) (hd:(opAt A i).dst=some d:=by exact rfl):W P K fn k A dr G (i::L) E h:=W_r hi hw hd ho x
theorem qq {v:Val} (ho:Rd P (nowF h) E (opAt A i).op v) (x:W P K fn k A dr G L ((d,v)::E) h) (hb:ahead P A i L=true:=by kernel_rfl) (hi:Nat.blt i A.length=true:=by exact rfl) (hw:zfg A E (opAt A i)=some true:=by exact rfl) (hd:(opAt A i).dst=some d:=by exact rfl):W P K fn k A dr G (i::L) E h:=W_q hb hi hw hd ho x
theorem qx {Q:Val→Hp→Prop} (ho:Ef P E h (opAt A i).op Q) (x:∀ v h',Q v h' → Nxt P K fn k A dr G L ((d,v)::E) h') (hi:Nat.blt i A.length=true:=by exact rfl) (hw:zfg A E (opAt A i)=some true:=by exact rfl) (hd:(opAt A i).dst=some d:=by exact rfl):W P K fn k A dr G (i::L) E h:=W_x hi hw hd ho x
theorem qu {Q:Val→Hp→Prop} (ho:Ef P E h (opAt A i).op Q) (x:∀ v h',Q v h' → Nxt P K fn k A dr G L E h') (hi:Nat.blt i A.length=true:=by exact rfl) (hw:zfg A E (opAt A i)=some true:=by exact rfl) (hd:(opAt A i).dst=none:=by exact rfl):W P K fn k A dr G (i::L) E h:=W_xU hi hw hd ho x
theorem ql {f:FuncId} {args:List Val} {R:Val→Hp→Prop} (hc:Ret P K f args h R) (x:∀ v h',R v h' → Nxt P K fn k A dr G L ((d,v)::E) h') (hi:Nat.blt i A.length=true:=by exact rfl) (hw:zfg A E (opAt A i)=some true:=by exact rfl) (hd:(opAt A i).dst=some d:=by exact rfl) (ht:tgtL E (opAt A i).op=some (f,args):=by exact rfl):W P K fn k A dr G (i::L) E h:=W_call hi hw hd ht hc x
theorem qlU {f:FuncId} {args:List Val} {R:Val→Hp→Prop} (hc:Ret P K f args h R) (x:∀ v h',R v h' → Nxt P K fn k A dr G L E h') (hi:Nat.blt i A.length=true:=by exact rfl) (hw:zfg A E (opAt A i)=some true:=by exact rfl) (hd:(opAt A i).dst=none:=by exact rfl) (ht:tgtL E (opAt A i).op=some (f,args):=by exact rfl):W P K fn k A dr G (i::L) E h:=W_callU hi hw hd ht hc x
theorem qn {y:Code} (q:C P K fn k y E h):W P K fn (.code y k) A dr G [] E h:=zbk (zcl q)
theorem qs {id:Nat} {y:Code} (x:W P K fn (.code y k) A false (nowF h) (List.range A.length) E h) (hd:zss fn.ntmps A=true:=by exact rfl):C P K fn k (.seq (.region id A.toArray false) y) E h:=zay (C_region hd x)
theorem qd {id:Nat} (x:W P K fn k A false (nowF h) (List.range A.length) E h) (hd:zss fn.ntmps A=true:=by exact rfl):C P K fn k (.region id A.toArray false) E h:=C_region hd x
variable {y:Code} {X:List Nat} {h0 w:Hp} {F0 F' F:Frz} {Ls:List Ob} {g o off s f:Nat} {cs:List Val} {v u:Val} {x y' z':Operand} {t e':TypeId}
theorem qm (q:C P K fn k y ((d,v)::E) h) (hi:Nat.blt i A.length=true:=by exact rfl) (hw:zfg A E (opAt A i)=some true:=by exact rfl) (hd:(opAt A i).dst=some d:=by exact rfl) (hk:decide (zcw P (opAt A i).op = .eff)=false:=by exact rfl) (ho:∀ h,opL P E h (opAt A i).op=some (v,h):=by exact fun _=>rfl):W P K fn (.code y k) A dr G [i] E h:=W_c hi hw hd hk ho (zbk (zcl q))
theorem qk (q:C P K fn k y E h):C P K fn (.code y k) .skip E h:=zec (zcl q)
theorem qz (q:W P K fn k A dr G L ((d,.no)::E) h) (hi:Nat.blt i A.length=true:=by exact rfl) (hw:zfg A E (opAt A i)=some false:=by exact rfl) (hd:(opAt A i).dst=some d:=by exact rfl):W P K fn k A dr G (i::L) E h:=W_no hi hw hd q
theorem qf (hf:zeq P s f=some off) (q:W P K fn k A dr G L ((d,pl g (o+off))::E) h) (hi:Nat.blt i A.length=true:=by exact rfl) (hw:zfg A E (opAt A i)=some true:=by exact rfl) (hd:(opAt A i).dst=some d:=by exact rfl) (hop:(opAt A i).op = .fieldAddr s x f:=by exact rfl) (hx:evLO E x=some (pl g o):=by exact rfl):W P K fn k A dr G (i::L) E h:=W_r hi hw hd (hop ▸ O_fldB off hf hx) q
theorem qb (n:Nat) (ht:aggT P t=some false) (hS:St X h0 F0 F Ls h) (q:W P K fn k A dr (nowF h) L ((d,u)::E) h) (hi:Nat.blt i A.length=true:=by exact rfl) (hw:zfg A E (opAt A i)=some true:=by exact rfl) (hd:(opAt A i).dst=some d:=by exact rfl) (hop:(opAt A i).op = .load t x:=by exact rfl) (hx:evLO E x=some (pl g o):=by exact rfl) (hk:Ls[n]? = some (.box g cs):=by exact rfl) (hu:cs[o]? = some u:=by exact rfl):W P K fn k A dr (nowF h) (i::L) E h:=W_r hi hw hd (hop ▸ zem n ht hx hS hk hu) q
theorem qbq (n:Nat) (ht:aggT P t=some false) (hS:St X h0 F0 F Ls h) (q:W P K fn k A dr G L ((d,u)::E) h) (hb:ahead P A i L=true:=by kernel_rfl) (hi:Nat.blt i A.length=true:=by exact rfl) (hw:zfg A E (opAt A i)=some true:=by exact rfl) (hd:(opAt A i).dst=some d:=by exact rfl) (hop:(opAt A i).op = .load t x:=by exact rfl) (hx:evLO E x=some (pl g o):=by exact rfl) (hk:Ls[n]? = some (.box g cs):=by exact rfl) (hu:cs[o]? = some u:=by exact rfl):W P K fn k A dr G (i::L) E h:=W_q hb hi hw hd (hop ▸ zem n ht hx hS hk hu) q
theorem qg {j:Nat} {b want:Bool} {v:Val} (hop:Aeq [(b,want)]→W P K fn k A dr G L ((d,v)::E) h→W P K fn k A dr G (i::L) E h) (q:W P K fn k A dr G L ((d,cnds [(b,want)] v)::E) h) (hg:(opAt A i).guard=some (j,want):=by exact rfl) (hy:ylL A E j=some (.b b):=by exact rfl) (hi:Nat.blt i A.length=true:=by exact rfl) (hd:(opAt A i).dst=some d:=by exact rfl):W P K fn k A dr G (i::L) E h:=W_gs hg hy hi hd hop q
theorem qh (n:Nat) (b:BoxAt w g cs) (hS:St X h0 F0 F Ls h) (q:W P K fn k A dr (F.hold w [g]) L E h) (hk:Ls[n]? = some (.box g cs):=by exact rfl):Nxt P K fn k A dr (F.hold w [g]) L E h:=Nxt.frz (HB.le (HB.cons n b hS hk HB.nil) (Frz.le.refl _)) (HB.agree (HB.cons n b hS hk HB.nil) hS.agree) q
theorem qi {a b:Nat} {kk:IntKind} {n:Int} (ht:P.underlying t=some (.slice e')) (hz:sz P e' = some a) (hE:Ixd v b) (hn:0≤n) (q:W P K fn k A dr G L ((d,elp v (b*a))::E) h) (hi:Nat.blt i A.length=true:=by exact rfl) (hw:zfg A E (opAt A i)=some true:=by exact rfl) (hd:(opAt A i).dst=some d:=by exact rfl) (hop:(opAt A i).op = .indexAddr t x y':=by exact rfl) (hx:evLO E x=some v:=by exact rfl) (hy:evLO E y' = some (.i kk n):=by exact rfl) (hni:n.toNat=b:=by exact rfl):W P K fn k A dr G (i::L) E h:=W_r hi hw hd (hop ▸ O_ix ht hz hx hy hE hn hni) q
theorem lm {f:FuncId} {args:List Val} {R:Val→Hp→Prop} (hc:Ret P K f args h R) (x:∀ v h',R v h' → W P K fn k A false (nowF h') L ((d,v)::E) h') (hi:Nat.blt i A.length=true:=by exact rfl) (hw:zfg A E (opAt A i)=some true:=by exact rfl) (hd:(opAt A i).dst=some d:=by exact rfl) (ht:tgtL E (opAt A i).op=some (f,args):=by exact rfl):W P K fn k A false G (i::L) E h:=W_call hi hw hd ht hc fun v h' r=>Nxt.now (x v h' r)
theorem lU {f:FuncId} {args:List Val} {R:Val→Hp→Prop} (hc:Ret P K f args h R) (x:∀ v h',R v h' → W P K fn k A false (nowF h') L E h') (hi:Nat.blt i A.length=true:=by exact rfl) (hw:zfg A E (opAt A i)=some true:=by exact rfl) (hd:(opAt A i).dst=none:=by exact rfl) (ht:tgtL E (opAt A i).op=some (f,args):=by exact rfl):W P K fn k A false G (i::L) E h:=W_callU hi hw hd ht hc fun v h' r=>Nxt.now (x v h' r)
theorem xm {Q:Val→Hp→Prop} (ho:Ef P E h (opAt A i).op Q) (x:∀ v h',Q v h' → W P K fn k A false (nowF h') L ((d,v)::E) h') (hi:Nat.blt i A.length=true:=by exact rfl) (hw:zfg A E (opAt A i)=some true:=by exact rfl) (hd:(opAt A i).dst=some d:=by exact rfl):W P K fn k A false G (i::L) E h:=W_x hi hw hd ho fun v h' r=>Nxt.now (x v h' r)
theorem um {Q:Val→Hp→Prop} (ho:Ef P E h (opAt A i).op Q) (x:∀ v h',Q v h' → W P K fn k A false (nowF h') L E h') (hi:Nat.blt i A.length=true:=by exact rfl) (hw:zfg A E (opAt A i)=some true:=by exact rfl) (hd:(opAt A i).dst=none:=by exact rfl):W P K fn k A false G (i::L) E h:=W_xU hi hw hd ho fun v h' r=>Nxt.now (x v h' r)
theorem qa1 {f:FuncId} {c:Code} {a0:Val} {R:Val→Hp→Prop} (hf:P.funcs[f]? = some fn) (q:C P K fn (.done R) c [(0,a0)] h) (hb:fn.body=some c:=by exact rfl) (hm:fn.name ≠ "runtime.NumGoroutine":=by decide) (hn:Nat.ble 1 fn.ntmps=true:=by exact rfl):Ret P K f [a0] h R:=zsf (args:=[a0]) hf hb hm hn q
theorem qa2 {f:FuncId} {c:Code} {a0 a1:Val} {R:Val→Hp→Prop} (hf:P.funcs[f]? = some fn) (q:C P K fn (.done R) c [(0,a0),(1,a1)] h) (hb:fn.body=some c:=by exact rfl) (hm:fn.name ≠ "runtime.NumGoroutine":=by decide) (hn:Nat.ble 2 fn.ntmps=true:=by exact rfl):Ret P K f [a0,a1] h R:=zsf (args:=[a0,a1]) hf hb hm hn q
theorem qa3 {f:FuncId} {c:Code} {a0 a1 a2:Val} {R:Val→Hp→Prop} (hf:P.funcs[f]? = some fn) (q:C P K fn (.done R) c [(0,a0),(1,a1),(2,a2)] h) (hb:fn.body=some c:=by exact rfl) (hm:fn.name ≠ "runtime.NumGoroutine":=by decide) (hn:Nat.ble 3 fn.ntmps=true:=by exact rfl):Ret P K f [a0,a1,a2] h R:=zsf (args:=[a0,a1,a2]) hf hb hm hn q
theorem qa4 {f:FuncId} {c:Code} {a0 a1 a2 a3:Val} {R:Val→Hp→Prop} (hf:P.funcs[f]? = some fn) (q:C P K fn (.done R) c [(0,a0),(1,a1),(2,a2),(3,a3)] h) (hb:fn.body=some c:=by exact rfl) (hm:fn.name ≠ "runtime.NumGoroutine":=by decide) (hn:Nat.ble 4 fn.ntmps=true:=by exact rfl):Ret P K f [a0,a1,a2,a3] h R:=zsf (args:=[a0,a1,a2,a3]) hf hb hm hn q
theorem qa5 {f:FuncId} {c:Code} {a0 a1 a2 a3 a4:Val} {R:Val→Hp→Prop} (hf:P.funcs[f]? = some fn) (q:C P K fn (.done R) c [(0,a0),(1,a1),(2,a2),(3,a3),(4,a4)] h) (hb:fn.body=some c:=by exact rfl) (hm:fn.name ≠ "runtime.NumGoroutine":=by decide) (hn:Nat.ble 5 fn.ntmps=true:=by exact rfl):Ret P K f [a0,a1,a2,a3,a4] h R:=zsf (args:=[a0,a1,a2,a3,a4]) hf hb hm hn q
theorem qa6 {f:FuncId} {c:Code} {a0 a1 a2 a3 a4 a5:Val} {R:Val→Hp→Prop} (hf:P.funcs[f]? = some fn) (q:C P K fn (.done R) c [(0,a0),(1,a1),(2,a2),(3,a3),(4,a4),(5,a5)] h) (hb:fn.body=some c:=by exact rfl) (hm:fn.name ≠ "runtime.NumGoroutine":=by decide) (hn:Nat.ble 6 fn.ntmps=true:=by exact rfl):Ret P K f [a0,a1,a2,a3,a4,a5] h R:=zsf (args:=[a0,a1,a2,a3,a4,a5]) hf hb hm hn q
theorem qsc {id:Nat} {y:Code} {v:Val} (x:W P K fn (.code y k) A false (nowF h) L ((d,v)::E) h) (hd':zss fn.ntmps A=true:=by exact rfl) (hl:List.range A.length=i::L:=by exact rfl) (hi:Nat.blt i A.length=true:=by exact rfl) (hw:zfg A E (opAt A i)=some true:=by exact rfl) (hd:(opAt A i).dst=some d:=by exact rfl) (hk:decide (zcw P (opAt A i).op = .eff)=false:=by exact rfl) (ho:∀ h,opL P E h (opAt A i).op=some (v,h):=by exact fun _=>rfl):C P K fn k (.seq (.region id A.toArray false) y) E h:=qs (hl ▸ qc x hi hw hd hk ho) hd'
theorem qsm {id:Nat} {y:Code} {v:Val} (x:C P K fn k y ((d,v)::E) h) (hd':zss fn.ntmps A=true:=by exact rfl) (hl:List.range A.length=[i]:=by exact rfl) (hi:Nat.blt i A.length=true:=by exact rfl) (hw:zfg A E (opAt A i)=some true:=by exact rfl) (hd:(opAt A i).dst=some d:=by exact rfl) (hk:decide (zcw P (opAt A i).op = .eff)=false:=by exact rfl) (ho:∀ h,opL P E h (opAt A i).op=some (v,h):=by exact fun _=>rfl):C P K fn k (.seq (.region id A.toArray false) y) E h:=qs (hl ▸ qm x hi hw hd hk ho) hd'
theorem qw {h0:Hp} {X:List Nat} {F0 F:Frz} {Ls:List Ob} (hS:St X h0 F0 F Ls h) (q:W P K fn k A dr F L E h):Nxt P K fn k A dr F L E h:=Nxt.frz (Frz.le.refl _) hS.agree q
theorem qvb {b b':Bool} (t:Nat) (e:b=b') (q:W P K fn k A dr G L ((t,.b b')::E) h) (hl:look E t=some (.b b):=by exact rfl):W P K fn k A dr G L E h:=W_eqv hl (congrArg Val.b e) q
theorem qt {vs:List Val} {v:Val} (hR:k.final v h) (hv:outs P E h fn.results.toList=some vs:=by exact rfl) (ho:oneV vs=v:=by exact rfl):C P K fn k .ret E h:=C_ret hv ho hR
theorem qj {G:Frz} {v:Val} {i:Nat} {cs:List Val} (s:Nat) (q:Elf G v s i cs):Elf G v s i cs:=q
theorem qy {α:Type} {a b:Option α} {r:α} {t:Bool} {c d:Code} {x:Operand} (H:(if t=true then a else b)=some r) (p:t=true→a=some r→C P K fn k c E h) (q:t=false→b=some r→C P K fn k d E h) (hx:evLO E x=some (.b t):=by exact rfl):C P K fn k (.cond x c d) E h:=zib hx (fun e=>p e ((if_t e).symm.trans H)) (fun e=>q e ((if_f e).symm.trans H))
theorem qz2 {j d':Nat} (q:W P K fn k A dr G L ((d',.no)::(d,.no)::E) h) (hi:Nat.blt i A.length=true:=by exact rfl) (hw:zfg A E (opAt A i)=some false:=by exact rfl) (hd:(opAt A i).dst=some d:=by exact rfl) (hi':Nat.blt j A.length=true:=by exact rfl) (hw':zfg A ((d,.no)::E) (opAt A j)=some false:=by exact rfl) (hd':(opAt A j).dst=some d':=by exact rfl):W P K fn k A dr G (i::j::L) E h:=W_no hi hw hd (W_no hi' hw' hd' q)
theorem bd2 {α β γ:Type} {o:Option α} {p:α→Option β} {f:α→β→Option γ} {r:γ} (H:(bd o fun x=>bd (p x) (f x))=some r):∃ x,o=some x ∧ ∃ y,p x=some y∧f x y=some r:=by
 obtain ⟨x,h1,H⟩:=zap H;obtain ⟨y,h2,H⟩:=zap H;exact ⟨x,h1,y,h2,H⟩
theorem oi {α:Type} {a b:α} (h:some a=some b):a=b:=Option.some.inj h
end
end Go.V
end
section
namespace Go.Wk.Lf
open Go.V
structure Loc where
  vol:Int
  file:Int
  off:Int
  len:Int
  deriving DecidableEq,Inhabited
def Loc.cells (x:Loc):List Val:=[.i .i64 x.vol,.i .i64 x.file,.i .i64 x.off,.i .i64 x.len]
def Loc.t:Tr Loc where
  size:=4
  rel F cs x:=cs=Loc.cells x
  pos:=by decide
  len:=by rintro F cs x rfl;simp [Loc.cells]
  one:=by rintro F cs x rfl;rfl
  mono:=by rintro F G cs x l rfl;exact rfl
structure Part where
  path:List UInt8
  size:Int
  ids:List (List UInt8)
  deriving DecidableEq,Inhabited
def Part.cells (x:Part) (u0:Val):List Val:=[.s x.path,.i .i64 x.size,u0]
def Part.t:Tr Part where
  size:=3
  rel F cs x:=∃ u0,cs=Part.cells x u0∧SlF tId F u0 (x.ids)
  pos:=by decide
  len:=by rintro F cs x ⟨u0,rfl,h0⟩;simp [Part.cells]
  one:=by rintro F cs x ⟨u0,rfl,h0⟩;simp only [Part.cells,List.all_cons,List.all_nil,List.all_append,h0.one];rfl
  mono:=by rintro F G cs x l ⟨u0,rfl,h0⟩;exact ⟨u0,rfl,h0.mono l⟩
structure Manifest where
  name:List UInt8
  parts:List Part
  deriving DecidableEq,Inhabited
def Manifest.cells (x:Manifest) (u0:Val):List Val:=[.s x.name,u0]
def Manifest.t:Tr Manifest where
  size:=2
  rel F cs x:=∃ u0,cs=Manifest.cells x u0∧SlF Part.t F u0 (x.parts)
  pos:=by decide
  len:=by rintro F cs x ⟨u0,rfl,h0⟩;simp [Manifest.cells]
  one:=by rintro F cs x ⟨u0,rfl,h0⟩;simp only [Manifest.cells,List.all_cons,List.all_nil,List.all_append,h0.one];rfl
  mono:=by rintro F G cs x l ⟨u0,rfl,h0⟩;exact ⟨u0,rfl,h0.mono l⟩
structure Snap where
  seq:Int
  man:Manifest
  locs:List Loc
  deriving DecidableEq,Inhabited
def Snap.cells (x:Snap) (u0 u1:Val):List Val:=[.i .i64 x.seq,.s x.man.name,u0,u1]
def Snap.t:Tr Snap where
  size:=4
  rel F cs x:=∃ u0 u1,cs=Snap.cells x u0 u1∧SlF Part.t F u0 (x.man.parts)∧SlF Loc.t F u1 (x.locs)
  pos:=by decide
  len:=by rintro F cs x ⟨u0,u1,rfl,h0,h1⟩;simp [Snap.cells]
  one:=by rintro F cs x ⟨u0,u1,rfl,h0,h1⟩;simp only [Snap.cells,List.all_cons,List.all_nil,List.all_append,h0.one,h1.one];rfl
  mono:=by rintro F G cs x l ⟨u0,u1,rfl,h0,h1⟩;exact ⟨u0,u1,rfl,h0.mono l,h1.mono l⟩
structure Chunk where
  id:List UInt8
  staged:Bool
  data:List UInt8
  locs:List Loc
  deriving DecidableEq,Inhabited
def Chunk.cells (x:Chunk) (u0 u1:Val):List Val:=zao x.id++[.b x.staged,u0,u1]
def Chunk.t:Tr Chunk where
  size:=35
  rel F cs x:=∃ u0 u1,cs=Chunk.cells x u0 u1∧(x.id).length=32∧SlF tB F u0 (x.data)∧SlF Loc.t F u1 (x.locs)
  pos:=by decide
  len:=by rintro F cs x ⟨u0,u1,rfl,h0,h1,h2⟩;simp [Chunk.cells,zic]
  one:=by rintro F cs x ⟨u0,u1,rfl,h0,h1,h2⟩;simp only [Chunk.cells,List.all_cons,List.all_nil,List.all_append,zlq,h1.one,h2.one];rfl
  mono:=by rintro F G cs x l ⟨u0,u1,rfl,h0,h1,h2⟩;exact ⟨u0,u1,rfl,h0,h1.mono l,h2.mono l⟩
structure Exp where
  seq:Int
  of:Int
  locs:List Loc
  deriving DecidableEq,Inhabited
def Exp.cells (x:Exp) (u0:Val):List Val:=[.i .i64 x.seq,.i .i64 x.of,u0]
def Exp.t:Tr Exp where
  size:=3
  rel F cs x:=∃ u0,cs=Exp.cells x u0∧SlF Loc.t F u0 (x.locs)
  pos:=by decide
  len:=by rintro F cs x ⟨u0,rfl,h0⟩;simp [Exp.cells]
  one:=by rintro F cs x ⟨u0,rfl,h0⟩;simp only [Exp.cells,List.all_cons,List.all_nil,List.all_append,h0.one];rfl
  mono:=by rintro F G cs x l ⟨u0,rfl,h0⟩;exact ⟨u0,rfl,h0.mono l⟩
structure Vol where
  pool:Int
  epoch:Int
  state:Int
  files:Int
  deriving DecidableEq,Inhabited
def Vol.cells (x:Vol):List Val:=[.i .i64 x.pool,.i .i64 x.epoch,.i .i64 x.state,.i .i64 x.files]
def Vol.t:Tr Vol where
  size:=4
  rel F cs x:=cs=Vol.cells x
  pos:=by decide
  len:=by rintro F cs x rfl;simp [Vol.cells]
  one:=by rintro F cs x rfl;rfl
  mono:=by rintro F G cs x l rfl;exact rfl
structure Catalog where
  seq:Int
  snaps:List Snap
  chunks:List Chunk
  exps:List Exp
  vols:List Vol
  deriving DecidableEq,Inhabited
def Catalog.cells (x:Catalog) (u0 u1 u2 u3:Val):List Val:=[.i .i64 x.seq,u0,u1,u2,u3]
structure Record where
  kind:Int
  seq:Int
  data:List UInt8
  deriving DecidableEq,Inhabited
def Record.cells (x:Record) (u0:Val):List Val:=[.i .i64 x.kind,.i .i64 x.seq,u0]
structure Found where
  rec_:Record
  loc:Loc
  deriving DecidableEq,Inhabited
def Found.cells (x:Found) (u0:Val):List Val:=[.i .i64 x.rec_.kind,.i .i64 x.rec_.seq,u0,.i .i64 x.loc.vol,.i .i64 x.loc.file,.i .i64 x.loc.off,.i .i64 x.loc.len]
def Found.t:Tr Found where
  size:=7
  rel F cs x:=∃ u0,cs=Found.cells x u0∧SlF tB F u0 (x.rec_.data)
  pos:=by decide
  len:=by rintro F cs x ⟨u0,rfl,h0⟩;simp [Found.cells]
  one:=by rintro F cs x ⟨u0,rfl,h0⟩;simp only [Found.cells,List.all_cons,List.all_nil,List.all_append,h0.one];rfl
  mono:=by rintro F G cs x l ⟨u0,rfl,h0⟩;exact ⟨u0,rfl,h0.mono l⟩
structure ManifestReader where
  b:List UInt8
  bad:Bool
  deriving DecidableEq,Inhabited
def ManifestReader.cells (x:ManifestReader) (u0:Val):List Val:=[u0,.b x.bad]
structure File where
  path:List UInt8
  data:List UInt8
  deriving DecidableEq,Inhabited
def File.cells (x:File) (u0:Val):List Val:=[.s x.path,u0]
def File.t:Tr File where
  size:=2
  rel F cs x:=∃ u0,cs=File.cells x u0∧SlF tB F u0 (x.data)
  pos:=by decide
  len:=by rintro F cs x ⟨u0,rfl,h0⟩;simp [File.cells]
  one:=by rintro F cs x ⟨u0,rfl,h0⟩;simp only [File.cells,List.all_cons,List.all_nil,List.all_append,h0.one];rfl
  mono:=by rintro F G cs x l ⟨u0,rfl,h0⟩;exact ⟨u0,rfl,h0.mono l⟩
theorem Loc.eqc (a b:Loc):eqL a.cells b.cells=decide (a=b):=by
  obtain ⟨a0,a1,a2,a3⟩:=a
  obtain ⟨b0,b1,b2,b3⟩:=b
  rw [Bool.eq_iff_iff]
  simp [Loc.cells,eqL,eq1]
def Snap.o:To Snap where
  size:=4
  rel F h bs cs x:=∃ u0 u1,cs=Snap.cells x u0 u1∧SlF Part.t F u0 (x.man.parts)∧(To.row (.ofTr Loc.t)).rel F h bs [u1] x.locs
  len:=by rintro F h bs cs x ⟨u0,u1,rfl,h0,k⟩;simp [Snap.cells,zic]
  one:=by rintro F h bs cs x ⟨u0,u1,rfl,h0,k⟩;simp only [Snap.cells,List.all_cons,List.all_nil,List.all_append,zlq,h0.one,(To.row_ln k).one];rfl
  lt:=by rintro F h bs cs x ⟨u0,u1,rfl,h0,k⟩;exact (To.row (.ofTr Loc.t)).lt k
  nodup:=by rintro F h bs cs x ⟨u0,u1,rfl,h0,k⟩;exact (To.row (.ofTr Loc.t)).nodup k
  mono:=by rintro F G h bs cs x l ⟨u0,u1,rfl,h0,k⟩;exact ⟨u0,u1,rfl,h0.mono l,(To.row (.ofTr Loc.t)).mono l k⟩
  frame:=by rintro F h h2 bs cs x ⟨u0,u1,rfl,h0,k⟩ hn hk;exact ⟨u0,u1,rfl,h0,(To.row (.ofTr Loc.t)).frame k hn hk⟩
theorem Snap.sees:Sees Snap.o Snap.t:=⟨rfl,by rintro F G h bs cs x ⟨u0,u1,rfl,h0,k⟩ l hg;exact ⟨u0,u1,rfl,h0.mono l,zmy k l hg⟩⟩
theorem Snap.foc:Foc Snap.o Loc.t 3 Snap.locs (fun x l=>Snap.mk x.seq x.man l):=⟨by decide,by rintro F h e cs x ⟨u0,u1,rfl,h0,k⟩;exact ⟨u1,rfl,k⟩,by rintro F h e cs x F2 h2 e2 u' l2 ⟨u0,u1,rfl,h0,k⟩ l k2;exact ⟨u0,u',rfl,h0.mono l,k2⟩⟩
def Exp.o:To Exp where
  size:=3
  rel F h bs cs x:=∃ u0,cs=Exp.cells x u0∧(To.row (.ofTr Loc.t)).rel F h bs [u0] x.locs
  len:=by rintro F h bs cs x ⟨u0,rfl,k⟩;simp [Exp.cells,zic]
  one:=by rintro F h bs cs x ⟨u0,rfl,k⟩;simp only [Exp.cells,List.all_cons,List.all_nil,List.all_append,zlq,(To.row_ln k).one];rfl
  lt:=by rintro F h bs cs x ⟨u0,rfl,k⟩;exact (To.row (.ofTr Loc.t)).lt k
  nodup:=by rintro F h bs cs x ⟨u0,rfl,k⟩;exact (To.row (.ofTr Loc.t)).nodup k
  mono:=by rintro F G h bs cs x l ⟨u0,rfl,k⟩;exact ⟨u0,rfl,(To.row (.ofTr Loc.t)).mono l k⟩
  frame:=by rintro F h h2 bs cs x ⟨u0,rfl,k⟩ hn hk;exact ⟨u0,rfl,(To.row (.ofTr Loc.t)).frame k hn hk⟩
theorem Exp.sees:Sees Exp.o Exp.t:=⟨rfl,by rintro F G h bs cs x ⟨u0,rfl,k⟩ l hg;exact ⟨u0,rfl,zmy k l hg⟩⟩
theorem Exp.foc:Foc Exp.o Loc.t 2 Exp.locs (fun x l=>Exp.mk x.seq x.of l):=⟨by decide,by rintro F h e cs x ⟨u0,rfl,k⟩;exact ⟨u0,rfl,k⟩,by rintro F h e cs x F2 h2 e2 u' l2 ⟨u0,rfl,k⟩ l k2;exact ⟨u',rfl,k2⟩⟩
def Chunk.o:To Chunk where
  size:=35
  rel F h bs cs x:=∃ u0 u1,cs=Chunk.cells x u0 u1∧(x.id).length=32∧SlF tB F u0 (x.data)∧(To.row (.ofTr Loc.t)).rel F h bs [u1] x.locs
  len:=by rintro F h bs cs x ⟨u0,u1,rfl,h0,h1,k⟩;simp [Chunk.cells,zic]
  one:=by rintro F h bs cs x ⟨u0,u1,rfl,h0,h1,k⟩;simp only [Chunk.cells,List.all_cons,List.all_nil,List.all_append,zlq,h1.one,(To.row_ln k).one];rfl
  lt:=by rintro F h bs cs x ⟨u0,u1,rfl,h0,h1,k⟩;exact (To.row (.ofTr Loc.t)).lt k
  nodup:=by rintro F h bs cs x ⟨u0,u1,rfl,h0,h1,k⟩;exact (To.row (.ofTr Loc.t)).nodup k
  mono:=by rintro F G h bs cs x l ⟨u0,u1,rfl,h0,h1,k⟩;exact ⟨u0,u1,rfl,h0,h1.mono l,(To.row (.ofTr Loc.t)).mono l k⟩
  frame:=by rintro F h h2 bs cs x ⟨u0,u1,rfl,h0,h1,k⟩ hn hk;exact ⟨u0,u1,rfl,h0,h1,(To.row (.ofTr Loc.t)).frame k hn hk⟩
theorem Chunk.sees:Sees Chunk.o Chunk.t:=⟨rfl,by rintro F G h bs cs x ⟨u0,u1,rfl,h0,h1,k⟩ l hg;exact ⟨u0,u1,rfl,h0,h1.mono l,zmy k l hg⟩⟩
theorem Chunk.foc:Foc Chunk.o Loc.t 34 Chunk.locs (fun x l=>Chunk.mk x.id x.staged x.data l):=⟨by decide,by rintro F h e cs x ⟨u0,u1,rfl,h0,h1,k⟩;exact ⟨u1,rfl,k⟩,by rintro F h e cs x F2 h2 e2 u' l2 ⟨u0,u1,rfl,h0,h1,k⟩ l k2;exact ⟨u0,u',rfl,h0,h1.mono l,k2⟩⟩
end Go.Wk.Lf
end
section
namespace Go.Wk.Lf.Ty
open Go.V Go.Proofs
theorem zsd:aggT Tryz.prog 138=some true:=by kernel_rfl
theorem agg170:aggT Tryz.prog 170=some true:=by kernel_rfl
theorem agg172:aggT Tryz.prog 172=some true:=by kernel_rfl
theorem agg32:aggT Tryz.prog 32=some true:=by kernel_rfl
theorem zql:aggT Tryz.prog 38=some true:=by kernel_rfl
theorem zpq:aggT Tryz.prog 43=some true:=by kernel_rfl
theorem zsx:aggT Tryz.prog 46=some true:=by kernel_rfl
theorem zsw:aggT Tryz.prog 51=some true:=by kernel_rfl
theorem agg53:aggT Tryz.prog 53=some true:=by kernel_rfl
theorem agg55:aggT Tryz.prog 55=some true:=by kernel_rfl
theorem zhs:aggT Tryz.prog 58=some true:=by kernel_rfl
theorem agg60:aggT Tryz.prog 60=some true:=by kernel_rfl
theorem bld101:zth Tryz.prog 101=some ([(0,1),(1,1)],[.s [],.sl none 0 (.k 0)]):=by kernel_rfl
theorem bld202:zth Tryz.prog 202=some ([(0,1),(1,1)],[.sl none 0 (.k 0),.b false]):=by kernel_rfl
theorem bld38:zth Tryz.prog 38=some ([(0,1),(1,1),(2,1),(3,1),(4,1)],[.i .i64 0,.sl none 0 (.k 0),.sl none 0 (.k 0),.sl none 0 (.k 0),.sl none 0 (.k 0)]):=by kernel_rfl
theorem bld46:zth Tryz.prog 46=some ([(0,1),(1,2),(3,1)],[.i .i64 0,.s [],.sl none 0 (.k 0),.sl none 0 (.k 0)]):=by kernel_rfl
theorem bld49:zth Tryz.prog 49=some ([(0,1),(1,1),(2,1)],[.i .i64 0,.i .i64 0,.sl none 0 (.k 0)]):=by kernel_rfl
theorem bld53:zth Tryz.prog 53=some ([(0,3),(3,4)],[.i .i64 0,.i .i64 0,.sl none 0 (.k 0),.i .i64 0,.i .i64 0,.i .i64 0,.i .i64 0]):=by kernel_rfl
theorem zkt:aggT Tryz.prog 118=some false:=by kernel_rfl
theorem zcv:aggT Tryz.prog 169=some false:=by kernel_rfl
theorem zdd:aggT Tryz.prog 3=some false:=by kernel_rfl
theorem zwg:aggT Tryz.prog 33=some false:=by kernel_rfl
theorem zhr:aggT Tryz.prog 34=some false:=by kernel_rfl
theorem zgd:aggT Tryz.prog 35=some false:=by kernel_rfl
theorem ziy:aggT Tryz.prog 36=some false:=by kernel_rfl
theorem zwu:aggT Tryz.prog 4=some false:=by kernel_rfl
theorem zjs:aggT Tryz.prog 41=some false:=by kernel_rfl
theorem zhh:aggT Tryz.prog 44=some false:=by kernel_rfl
theorem zhg:aggT Tryz.prog 47=some false:=by kernel_rfl
theorem zwt:aggT Tryz.prog 5=some false:=by kernel_rfl
theorem zkp:aggT Tryz.prog 9=some false:=by kernel_rfl
theorem zhu:zeq Tryz.prog 101 0=some 0:=by kernel_rfl
theorem zqa:zeq Tryz.prog 101 1=some 1:=by kernel_rfl
theorem zkd:zeq Tryz.prog 138 0=some 0:=by kernel_rfl
theorem zli:zeq Tryz.prog 138 1=some 1:=by kernel_rfl
theorem zfk:zeq Tryz.prog 138 2=some 2:=by kernel_rfl
theorem zlh:zeq Tryz.prog 202 0=some 0:=by kernel_rfl
theorem zlg:zeq Tryz.prog 202 1=some 1:=by kernel_rfl
theorem zwb:zeq Tryz.prog 32 0=some 0:=by kernel_rfl
theorem zwa:zeq Tryz.prog 32 1=some 1:=by kernel_rfl
theorem zni:zeq Tryz.prog 32 2=some 2:=by kernel_rfl
theorem zpc:zeq Tryz.prog 32 3=some 3:=by kernel_rfl
theorem zjp:zeq Tryz.prog 38 0=some 0:=by kernel_rfl
theorem zdi:zeq Tryz.prog 38 1=some 1:=by kernel_rfl
theorem zcq:zeq Tryz.prog 38 2=some 2:=by kernel_rfl
theorem zef:zeq Tryz.prog 38 3=some 3:=by kernel_rfl
theorem zkm:zeq Tryz.prog 38 4=some 4:=by kernel_rfl
theorem zjo:zeq Tryz.prog 43 0=some 0:=by kernel_rfl
theorem zee:zeq Tryz.prog 43 1=some 1:=by kernel_rfl
theorem zkl:zeq Tryz.prog 46 0=some 0:=by kernel_rfl
theorem zie:zeq Tryz.prog 46 1=some 1:=by kernel_rfl
theorem zid:zeq Tryz.prog 46 2=some 3:=by kernel_rfl
theorem field49_0:zeq Tryz.prog 49 0=some 0:=by kernel_rfl
theorem znh:zeq Tryz.prog 49 1=some 1:=by kernel_rfl
theorem zng:zeq Tryz.prog 49 2=some 2:=by kernel_rfl
theorem zhp:zeq Tryz.prog 51 0=some 0:=by kernel_rfl
theorem zjn:zeq Tryz.prog 51 1=some 1:=by kernel_rfl
theorem zlt:zeq Tryz.prog 51 2=some 2:=by kernel_rfl
theorem zpb:zeq Tryz.prog 51 3=some 3:=by kernel_rfl
theorem zhc:zeq Tryz.prog 53 0=some 0:=by kernel_rfl
theorem zsa:zeq Tryz.prog 53 1=some 3:=by kernel_rfl
theorem zls:zeq Tryz.prog 55 0=some 0:=by kernel_rfl
theorem zpa:zeq Tryz.prog 55 1=some 1:=by kernel_rfl
theorem zit:zeq Tryz.prog 55 2=some 2:=by kernel_rfl
theorem zjm:zeq Tryz.prog 60 0=some 0:=by kernel_rfl
theorem zoz:zeq Tryz.prog 60 1=some 32:=by kernel_rfl
theorem znf:zeq Tryz.prog 60 2=some 33:=by kernel_rfl
theorem zgs:zeq Tryz.prog 60 3=some 34:=by kernel_rfl
theorem mixed:Tryz.prog.follows .mixedOrders=true:=by kernel_rfl
theorem row101:zlk Tryz.prog 101 2=true:=by kernel_rfl
theorem zwy:zlk Tryz.prog 138 3=true:=by kernel_rfl
theorem row169:zlk Tryz.prog 169 1=true:=by kernel_rfl
theorem row3:zlk Tryz.prog 3 1=true:=by kernel_rfl
theorem row32:zlk Tryz.prog 32 4=true:=by kernel_rfl
theorem row46:zlk Tryz.prog 46 4=true:=by kernel_rfl
theorem row47:zlk Tryz.prog 47 1=true:=by kernel_rfl
theorem row5:zlk Tryz.prog 5 1=true:=by kernel_rfl
theorem row51:zlk Tryz.prog 51 4=true:=by kernel_rfl
theorem zwq:zlk Tryz.prog 53 7=true:=by kernel_rfl
theorem row55:zlk Tryz.prog 55 3=true:=by kernel_rfl
theorem zvb:zlk Tryz.prog 58 32=true:=by kernel_rfl
theorem row60:zlk Tryz.prog 60 35=true:=by kernel_rfl
theorem zin:sz Tryz.prog 101=some 2:=by kernel_rfl
theorem size118:sz Tryz.prog 118=some 1:=by kernel_rfl
theorem zfn:sz Tryz.prog 138=some 3:=by kernel_rfl
theorem zcd:sz Tryz.prog 169=some 1:=by kernel_rfl
theorem size170:sz Tryz.prog 170=some 64:=by kernel_rfl
theorem zon:sz Tryz.prog 172=some 8:=by kernel_rfl
theorem size3:sz Tryz.prog 3=some 1:=by kernel_rfl
theorem zom:sz Tryz.prog 32=some 4:=by kernel_rfl
theorem size33:sz Tryz.prog 33=some 1:=by kernel_rfl
theorem size34:sz Tryz.prog 34=some 1:=by kernel_rfl
theorem size35:sz Tryz.prog 35=some 1:=by kernel_rfl
theorem size36:sz Tryz.prog 36=some 1:=by kernel_rfl
theorem zhx:sz Tryz.prog 38=some 5:=by kernel_rfl
theorem size4:sz Tryz.prog 4=some 1:=by kernel_rfl
theorem size41:sz Tryz.prog 41=some 1:=by kernel_rfl
theorem zgy:sz Tryz.prog 43=some 2:=by kernel_rfl
theorem zrh:sz Tryz.prog 44=some 1:=by kernel_rfl
theorem zdl:sz Tryz.prog 46=some 4:=by kernel_rfl
theorem zqm:sz Tryz.prog 47=some 1:=by kernel_rfl
theorem zjw:sz Tryz.prog 5=some 1:=by kernel_rfl
theorem zgx:sz Tryz.prog 51=some 4:=by kernel_rfl
theorem zmt:sz Tryz.prog 53=some 7:=by kernel_rfl
theorem zfb:sz Tryz.prog 55=some 3:=by kernel_rfl
theorem zcy:sz Tryz.prog 58=some 32:=by kernel_rfl
theorem zep:sz Tryz.prog 60=some 35:=by kernel_rfl
theorem zoj:(zho Tryz.prog 138).map Val.cells=some [.s [],.i .i64 0,.sl none 0 (.k 0)]:=by kernel_rfl
theorem zxq:(zho Tryz.prog 170).map Val.cells=some [.i .u32 0,.i .u32 0,.i .u32 0,.i .u32 0,.i .u32 0,.i .u32 0,.i .u32 0,.i .u32 0,.i .u32 0,.i .u32 0,.i .u32 0,.i .u32 0,.i .u32 0,.i .u32 0,.i .u32 0,.i .u32 0,.i .u32 0,.i .u32 0,.i .u32 0,.i .u32 0,.i .u32 0,.i .u32 0,.i .u32 0,.i .u32 0,.i .u32 0,.i .u32 0,.i .u32 0,.i .u32 0,.i .u32 0,.i .u32 0,.i .u32 0,.i .u32 0,.i .u32 0,.i .u32 0,.i .u32 0,.i .u32 0,.i .u32 0,.i .u32 0,.i .u32 0,.i .u32 0,.i .u32 0,.i .u32 0,.i .u32 0,.i .u32 0,.i .u32 0,.i .u32 0,.i .u32 0,.i .u32 0,.i .u32 0,.i .u32 0,.i .u32 0,.i .u32 0,.i .u32 0,.i .u32 0,.i .u32 0,.i .u32 0,.i .u32 0,.i .u32 0,.i .u32 0,.i .u32 0,.i .u32 0,.i .u32 0,.i .u32 0,.i .u32 0]:=by kernel_rfl
theorem zxp:(zho Tryz.prog 172).map Val.cells=some [.i .u32 0,.i .u32 0,.i .u32 0,.i .u32 0,.i .u32 0,.i .u32 0,.i .u32 0,.i .u32 0]:=by kernel_rfl
theorem zero32:(zho Tryz.prog 32).map Val.cells=some [.i .i64 0,.i .i64 0,.i .i64 0,.i .i64 0]:=by kernel_rfl
theorem zuq:(zho Tryz.prog 38).map Val.cells=some [.i .i64 0,.sl none 0 (.k 0),.sl none 0 (.k 0),.sl none 0 (.k 0),.sl none 0 (.k 0)]:=by kernel_rfl
theorem zup:(zho Tryz.prog 43).map Val.cells=some [.s [],.sl none 0 (.k 0)]:=by kernel_rfl
theorem zero46:(zho Tryz.prog 46).map Val.cells=some [.i .i64 0,.s [],.sl none 0 (.k 0),.sl none 0 (.k 0)]:=by kernel_rfl
theorem zero5:(zho Tryz.prog 5).map Val.cells=some [.i .u8 0]:=by kernel_rfl
theorem zero51:(zho Tryz.prog 51).map Val.cells=some [.i .i64 0,.i .i64 0,.i .i64 0,.i .i64 0]:=by kernel_rfl
theorem zero53:(zho Tryz.prog 53).map Val.cells=some [.i .i64 0,.i .i64 0,.sl none 0 (.k 0),.i .i64 0,.i .i64 0,.i .i64 0,.i .i64 0]:=by kernel_rfl
theorem zero55:(zho Tryz.prog 55).map Val.cells=some [.i .i64 0,.i .i64 0,.sl none 0 (.k 0)]:=by kernel_rfl
theorem zsz:(zho Tryz.prog 58).map Val.cells=some [.i .u8 0,.i .u8 0,.i .u8 0,.i .u8 0,.i .u8 0,.i .u8 0,.i .u8 0,.i .u8 0,.i .u8 0,.i .u8 0,.i .u8 0,.i .u8 0,.i .u8 0,.i .u8 0,.i .u8 0,.i .u8 0,.i .u8 0,.i .u8 0,.i .u8 0,.i .u8 0,.i .u8 0,.i .u8 0,.i .u8 0,.i .u8 0,.i .u8 0,.i .u8 0,.i .u8 0,.i .u8 0,.i .u8 0,.i .u8 0,.i .u8 0,.i .u8 0]:=by kernel_rfl
theorem zero60:(zho Tryz.prog 60).map Val.cells=some [.i .u8 0,.i .u8 0,.i .u8 0,.i .u8 0,.i .u8 0,.i .u8 0,.i .u8 0,.i .u8 0,.i .u8 0,.i .u8 0,.i .u8 0,.i .u8 0,.i .u8 0,.i .u8 0,.i .u8 0,.i .u8 0,.i .u8 0,.i .u8 0,.i .u8 0,.i .u8 0,.i .u8 0,.i .u8 0,.i .u8 0,.i .u8 0,.i .u8 0,.i .u8 0,.i .u8 0,.i .u8 0,.i .u8 0,.i .u8 0,.i .u8 0,.i .u8 0,.b false,.sl none 0 (.k 0),.sl none 0 (.k 0)]:=by kernel_rfl
theorem zk118:zik Tryz.prog 118=some false:=by kernel_rfl
theorem zk22:zik Tryz.prog 22=some false:=by kernel_rfl
theorem zk27:zik Tryz.prog 27=some false:=by kernel_rfl
theorem zk33:zik Tryz.prog 33=some false:=by kernel_rfl
theorem zk34:zik Tryz.prog 34=some false:=by kernel_rfl
theorem zk35:zik Tryz.prog 35=some false:=by kernel_rfl
theorem zk36:zik Tryz.prog 36=some false:=by kernel_rfl
theorem zk41:zik Tryz.prog 41=some false:=by kernel_rfl
theorem zk44:zik Tryz.prog 44=some false:=by kernel_rfl
theorem zk47:zik Tryz.prog 47=some false:=by kernel_rfl
theorem zk9:zik Tryz.prog 9=some false:=by kernel_rfl
theorem zk95:zik Tryz.prog 95=some false:=by kernel_rfl
theorem blda170:buildA Tryz.prog 170=some (1,[.i .u32 0,.i .u32 0,.i .u32 0,.i .u32 0,.i .u32 0,.i .u32 0,.i .u32 0,.i .u32 0,.i .u32 0,.i .u32 0,.i .u32 0,.i .u32 0,.i .u32 0,.i .u32 0,.i .u32 0,.i .u32 0,.i .u32 0,.i .u32 0,.i .u32 0,.i .u32 0,.i .u32 0,.i .u32 0,.i .u32 0,.i .u32 0,.i .u32 0,.i .u32 0,.i .u32 0,.i .u32 0,.i .u32 0,.i .u32 0,.i .u32 0,.i .u32 0,.i .u32 0,.i .u32 0,.i .u32 0,.i .u32 0,.i .u32 0,.i .u32 0,.i .u32 0,.i .u32 0,.i .u32 0,.i .u32 0,.i .u32 0,.i .u32 0,.i .u32 0,.i .u32 0,.i .u32 0,.i .u32 0,.i .u32 0,.i .u32 0,.i .u32 0,.i .u32 0,.i .u32 0,.i .u32 0,.i .u32 0,.i .u32 0,.i .u32 0,.i .u32 0,.i .u32 0,.i .u32 0,.i .u32 0,.i .u32 0,.i .u32 0,.i .u32 0]):=by kernel_rfl
theorem zzj:buildA Tryz.prog 172=some (1,[.i .u32 0,.i .u32 0,.i .u32 0,.i .u32 0,.i .u32 0,.i .u32 0,.i .u32 0,.i .u32 0]):=by kernel_rfl
theorem eqt51:eqT Tryz.prog 51=some [.int .i64,.int .i64,.int .i64,.int .i64]:=by kernel_rfl
theorem eqt58:eqT Tryz.prog 58=some [.int .u8,.int .u8,.int .u8,.int .u8,.int .u8,.int .u8,.int .u8,.int .u8,.int .u8,.int .u8,.int .u8,.int .u8,.int .u8,.int .u8,.int .u8,.int .u8,.int .u8,.int .u8,.int .u8,.int .u8,.int .u8,.int .u8,.int .u8,.int .u8,.int .u8,.int .u8,.int .u8,.int .u8,.int .u8,.int .u8,.int .u8,.int .u8]:=by kernel_rfl
theorem zkt3:zik Tryz.prog 3=some true:=by kernel_rfl
theorem zv4:zho Tryz.prog 4=some (.b false):=by kernel_rfl
end Go.Wk.Lf.Ty
end
section
namespace Go.Wk.Lf
open Go.V Go.Proofs
noncomputable section
set_option maxRecDepth 100000
variable {K:Tb} {F:Frz} {w:Hp}
def zjq (x0:Int):Option Bool :=
  some (decide (x0≠x0))
theorem znz {x0:Int} {r:Bool} (hA:Gd F w) (H:zjq x0=some r):Ret Tryz.prog K 140 [.i .i64 x0] w fun v w'=>∃ (F':Frz),v = .b r∧St [] w F F' [] w':=by
 refine qa1 Tryz.func140 ?_;have hS:=St.start hA;dsimp only [zjq] at H;refine qsm ?_;refine qs ?_;refine q2 ?_;refine qr (zah rfl rfl zeb) ?_;refine qm ?_;obtain rfl:=oi H;refine qt ?_;exact ⟨F,rfl,hS⟩
def zdx (x0:Int) (x1:Int):Option Int :=
  bd (zjq x0) fun r1 =>
  bd (zjq x1) fun r3 =>
  if r1 then
    if r3 then
      some 0
    else
      some (-1)
  else
    if r3 then
      some 1
    else
      if decide (x0 < x1) then
        some (-1)
      else
        if decide (x1 < x0) then
          some 1
        else
          some 0
theorem zfq {x0:Int} {x1:Int} {r:Int} (hA:Gd F w) (H:zdx x0 x1=some r):Ret Tryz.prog K 90 [.i .i64 x0,.i .i64 x1] w fun v w'=>∃ (F':Frz),v = .i .i64 r∧St [] w F F' [] w':=by
 refine qa2 Tryz.func90 ?_;have hS:=St.start hA;dsimp only [zdx] at H;refine qsm ?_;obtain ⟨r1,hr1,H⟩:=zap H;refine qsc ?_;refine lm (znz hS.good hr1) ?_;rintro v2 w2 ⟨Fr1,rfl,hT2⟩;have hS2:=hS.lent hT2;refine qm ?_;obtain ⟨r3,hr3,H⟩:=zap H;refine qsc ?_;refine lm (znz hS2.good hr3) ?_;rintro v4 w4 ⟨Fr3,rfl,hT4⟩;have hS4:=hS2.lent hT4;refine qm ?_;refine zay ?_;refine qsm ?_;refine qy H (fun hc5 H=>?_) (fun hc5 H=>?_)
 ·refine zay ?_;refine qsm ?_;refine qy H (fun hc6 H=>?_) (fun hc6 H=>?_)
  ·refine qsm ?_;obtain rfl:=oi H;refine qt ?_;exact ⟨F,rfl,hS4⟩
  ·refine qk ?_;refine qsm ?_;obtain rfl:=oi H;refine qt ?_;exact ⟨F,rfl,hS4⟩
 ·refine qk ?_;refine zay ?_;refine qsm ?_;refine qy H (fun hc7 H=>?_) (fun hc7 H=>?_)
  ·refine qsm ?_;obtain rfl:=oi H;refine qt ?_;exact ⟨F,rfl,hS4⟩
  ·refine qk ?_;refine zay ?_;refine qs ?_;refine q2 ?_;refine qr (zah rfl rfl zbp) ?_;refine qn ?_;refine qy H (fun hc8 H=>?_) (fun hc8 H=>?_)
   ·refine qsm ?_;obtain rfl:=oi H;refine qt ?_;exact ⟨F,rfl,hS4⟩
   ·refine qk ?_;refine zay ?_;refine qs ?_;refine q2 ?_;refine qr (zah rfl rfl zgn) ?_;refine qn ?_;refine qy H (fun hc9 H=>?_) (fun hc9 H=>?_)
    ·refine qsm ?_;obtain rfl:=oi H;refine qt ?_;exact ⟨F,rfl,hS4⟩
    ·refine qk ?_;refine qsm ?_;obtain rfl:=oi H;refine qt ?_;exact ⟨F,rfl,hS4⟩
def zfp.k1:Option Int :=
  some 0
def zfp.l2 (x0:List Int) (rec4:Int→Option Int):Int→Option Int
  | i3 =>
    if decide (i3 < (x0.length:Int)) then
      bd (ix x0 i3) fun x6 =>
      if decide (x6≠0) then
        some x6
      else
        rec4 (wr (i3+1))
    else
      zfp.k1
def zfp (x0:List Int):Option Int :=
  loop (zfp.l2 x0) 0
theorem zze {x0:List Int} {r:Int} {v0:Val} (hA:Gd F w) (h0:SlF tI F v0 x0) (H:zfp x0=some r):Ret Tryz.prog K 152 [v0] w fun v w'=>∃ (F':Frz),v = .i .i64 r∧St [] w F F' [] w':=by
 refine qa1 Tryz.func152 ?_;have hS:=St.start hA;dsimp only [zfp] at H;refine qsm ?_;refine qsm ?_;refine zai (fun E wq=>zfp.k1=some r ∧ ∃ (F1:Frz),E=[(3,.i .i64 0)]∧F.le F1∧St [] w F F1 [] wq) ?_ ?_
 ·refine qsc ?_;refine qr (zbs Tryz.underlying72 rfl h0.ln) ?_;refine qm ?_;refine zar ?_;refine zbm (fun (s:Int) E wq=>∃ (F2:Frz),E=[(3,.i .i64 0),(6,v0),(7,.i .i64 (x0.length:Int)),(8,.i .i64 s)]∧F.le F2∧St [] w F F2 [] wq) H ?_ ?_
  ·exact ⟨_,⟨F,rfl,(Frz.le.refl _),hS⟩,⟨rfl,rfl,rfl,rfl,trivial⟩⟩
  ·rintro rec4 i3 E w2 hI H
   try dsimp only at hI
   obtain ⟨F2,rfl,le2,hS2⟩:=hI;dsimp only [zfp.l2] at H;refine qs ?_;refine qr (zah rfl rfl zbp) ?_;refine qn ?_;refine zay ?_;refine qy H (fun hc5 H=>?_) (fun hc5 H=>?_)
   ·refine qk ?_;refine zay ?_;refine zar ?_;obtain ⟨x6,hx6,H⟩:=zap H;refine qs ?_;obtain ⟨hp8,hy8⟩:=zac hx6;obtain ⟨cs8,hr8,he8⟩:=(h0.mono le2).el hy8;obtain rfl:=hr8;replace he8:=qj 1 he8;have hi8:=he8.ixd;refine qi Tryz.underlying72 Ty.size3 hi8 hp8 ?_;refine qr (zfs 0 Ty.zdd rfl (he8.mono hS2.agree) (by omega) rfl) ?_;refine qm ?_;refine qs ?_;refine q2 ?_;refine qr (zah rfl rfl zeb) ?_;refine qn ?_;refine qy H (fun hc9 H=>?_) (fun hc9 H=>?_)
    ·refine qsc ?_;refine qm ?_;obtain rfl:=oi H;refine qt ?_;exact ⟨F2,rfl,hS2⟩
    ·refine zec ?_;refine zbf ?_;refine zcl ?_;refine qd ?_;refine q2 ?_;refine zbk ?_;exact zbd (wr (i3+1)) _ H ⟨F2,rfl,le2,hS2⟩ ⟨rfl,rfl,rfl,rfl,trivial⟩
   ·refine zcc _ rfl ?_;exact zbe _ ⟨H,⟨F2,rfl,le2,hS2⟩⟩ ⟨rfl,trivial⟩
 ·rintro E w1 ⟨H,F1,rfl,le1,hS1⟩;dsimp only [zfp.k1] at H;refine qsc ?_;refine qm ?_;obtain rfl:=oi H;refine qt ?_;exact ⟨F1,rfl,hS1⟩
def zpu (x0:Loc) (x1:Loc):Option Int :=
  bd (zdx x0.vol x1.vol) fun r3 =>
  bd (zdx x0.file x1.file) fun r4 =>
  bd (zdx x0.off x1.off) fun r5 =>
  bd (zdx x0.len x1.len) fun r6 =>
  bd (zfp [r3,r4,r5,r6]) fun r8 =>
  some r8
theorem zyc {x0:Loc} {x1:Loc} {r:Int} (hA:Gd F w) (H:zpu x0 x1=some r):Ret Tryz.prog K 100 [.agg (Loc.cells x0),.agg (Loc.cells x1)] w fun v w'=>∃ (F':Frz),v = .i .i64 r∧St [] w F F' [] w':=by
 refine qa2 Tryz.func100 ?_;have hS:=St.start hA;dsimp only [zpu] at H;refine qs ?_;refine xm (E_bx (cs:=[.i .i64 x0.vol,.i .i64 x0.file,.i .i64 x0.off,.i .i64 x0.len]) rfl rfl rfl hS) ?_;rintro _ w1 ⟨g1,rfl,hS1⟩;refine xm (E_bx (cs:=[.i .i64 x1.vol,.i .i64 x1.file,.i .i64 x1.off,.i .i64 x1.len]) rfl rfl rfl hS1) ?_;rintro _ w2 ⟨g2,rfl,hS2⟩;refine qm ?_;refine zay ?_;obtain ⟨r3,hr3,r4,hr4,H⟩:=bd2 H;obtain ⟨r5,hr5,r6,hr6,H⟩:=bd2 H;obtain ⟨r8,hr8,H⟩:=zap H;have hb9:=hS2.boxAt 1 rfl;have hb10:=hS2.boxAt 0 rfl;refine zaz (G:=(F.hold w2 [g1,g2])) [0,1,2,3,5,6,7,8,10,11,12,13,15,16,17,18,4,9,14,19,20,21,22] rfl Ty.mixed (by kernel_rfl) (HB.agree (HB.cons 1 hb9 hS2 rfl (HB.cons 0 hb10 hS2 rfl HB.nil)) hS2.agree) ?_;refine qf Ty.zhp ?_;refine qbq 1 Ty.zdd hS2 ?_;refine qf Ty.zhp ?_;refine qbq 0 Ty.zdd hS2 ?_;refine qf Ty.zjn ?_;refine qr (zfj Ty.zdd rfl (hb9.held (HB.cons 1 hb9 hS2 rfl (HB.cons 0 hb10 hS2 rfl HB.nil)) (by simp)) rfl) ?_;refine qf Ty.zjn ?_;refine qr (zfj Ty.zdd rfl (hb10.held (HB.cons 1 hb9 hS2 rfl (HB.cons 0 hb10 hS2 rfl HB.nil)) (by simp)) rfl) ?_;refine qf Ty.zlt ?_;refine qr (zfj Ty.zdd rfl (hb9.held (HB.cons 1 hb9 hS2 rfl (HB.cons 0 hb10 hS2 rfl HB.nil)) (by simp)) rfl) ?_;refine qf Ty.zlt ?_;refine qr (zfj Ty.zdd rfl (hb10.held (HB.cons 1 hb9 hS2 rfl (HB.cons 0 hb10 hS2 rfl HB.nil)) (by simp)) rfl) ?_;refine qf Ty.zpb ?_;refine qr (zfj Ty.zdd rfl (hb9.held (HB.cons 1 hb9 hS2 rfl (HB.cons 0 hb10 hS2 rfl HB.nil)) (by simp)) rfl) ?_;refine qf Ty.zpb ?_;refine qr (zfj Ty.zdd rfl (hb10.held (HB.cons 1 hb9 hS2 rfl (HB.cons 0 hb10 hS2 rfl HB.nil)) (by simp)) rfl) ?_;refine ql (zfq hS2.good hr3) ?_;rintro v11 w11 ⟨Fr3,rfl,hT11⟩;have hS11:=hS2.lent hT11;refine Nxt.frz (HB.le (HB.cons 1 hb9 hS11 rfl (HB.cons 0 hb10 hS11 rfl HB.nil)) (Frz.le.refl _)) (HB.agree (HB.cons 1 hb9 hS11 rfl (HB.cons 0 hb10 hS11 rfl HB.nil)) hS11.agree) ?_;refine ql (zfq hS11.good hr4) ?_;rintro v12 w12 ⟨Fr4,rfl,hT12⟩;have hS12:=hS11.lent hT12;refine Nxt.frz (HB.le (HB.cons 1 hb9 hS12 rfl (HB.cons 0 hb10 hS12 rfl HB.nil)) (Frz.le.refl _)) (HB.agree (HB.cons 1 hb9 hS12 rfl (HB.cons 0 hb10 hS12 rfl HB.nil)) hS12.agree) ?_;refine ql (zfq hS12.good hr5) ?_;rintro v13 w13 ⟨Fr5,rfl,hT13⟩;have hS13:=hS12.lent hT13;refine Nxt.frz (HB.le (HB.cons 1 hb9 hS13 rfl (HB.cons 0 hb10 hS13 rfl HB.nil)) (Frz.le.refl _)) (HB.agree (HB.cons 1 hb9 hS13 rfl (HB.cons 0 hb10 hS13 rfl HB.nil)) hS13.agree) ?_
 refine ql (zfq hS13.good hr6) ?_;rintro v14 w14 ⟨Fr6,rfl,hT14⟩;have hS14:=hS13.lent hT14;refine Nxt.frz (HB.le (HB.cons 1 hb9 hS14 rfl (HB.cons 0 hb10 hS14 rfl HB.nil)) (Frz.le.refl _)) (HB.agree (HB.cons 1 hb9 hS14 rfl (HB.cons 0 hb10 hS14 rfl HB.nil)) hS14.agree) ?_;refine qx (E_bs (t:=tI) (vs:=[.i .i64 r3,.i .i64 r4,.i .i64 r5,.i .i64 r6]) (xs:=[r3,r4,r5,r6]) Tryz.underlying72 Ty.row3 rfl ⟨rfl,⟨rfl,⟨rfl,⟨rfl,trivial⟩⟩⟩⟩ rfl rfl hS14) ?_;rintro u7 w7 hS7;refine Nxt.frz (HB.le (HB.cons 2 hb9 hS7 rfl (HB.cons 1 hb10 hS7 rfl HB.nil)) (Frz.le.refl _)) (HB.agree (HB.cons 2 hb9 hS7 rfl (HB.cons 1 hb10 hS7 rfl HB.nil)) hS7.agree) ?_;refine ql (zze (Gd.now hS7.wf) (hS7.rowNow (k:=0) rfl) hr8) ?_;rintro v15 w15 ⟨Fr8,rfl,hT15⟩;have hS15:=hS7.lent hT15;refine Nxt.frz (HB.le (HB.cons 2 hb9 hS15 rfl (HB.cons 1 hb10 hS15 rfl HB.nil)) (Frz.le.refl _)) (HB.agree (HB.cons 2 hb9 hS15 rfl (HB.cons 1 hb10 hS15 rfl HB.nil)) hS15.agree) ?_;refine qm ?_;obtain rfl:=oi H;refine qt ?_;exact ⟨F,rfl,hS15.pick [] (by decide)⟩
def zle (x0:List UInt8) (x1:List UInt8):Option Int :=
  some (cmpT x0 x1)
theorem zob [Kn (KExt Tryz.prog) K]  {x0:List UInt8} {x1:List UInt8} {r:Int} {v0:Val} {v1:Val} (hA:Gd F w) (h0:SlF tB F v0 x0) (h1:SlF tB F v1 x1) (H:zle x0 x1=some r):Ret Tryz.prog K 158 [v0,v1] w fun v w'=>∃ (F':Frz),v = .i .i64 r∧St [] w F F' [] w':=by
 refine qa2 Tryz.func158 ?_;have hS:=St.start hA;dsimp only [zle] at H;refine qsm ?_;refine qs ?_;refine q2 ?_;refine lm (zzd Tryz.func181 rfl rfl (by kernel_rfl) (by kernel_rfl) (h0.mono hS.agree) (h1.mono hS.agree)) ?_;rintro _ _ ⟨rfl,rfl⟩;refine qm ?_;obtain rfl:=oi H;refine qt ?_;exact ⟨F,rfl,hS⟩
def zmk (x0:List UInt8) (x1:List UInt8):Option Int :=
  bd (zle x0 x1) fun r7 =>
  some r7
theorem zsn [Kn (KExt Tryz.prog) K]  {x0:List UInt8} {x1:List UInt8} {r:Int} (hA:Gd F w) (h0:x0.length=32) (h1:x1.length=32) (H:zmk x0 x1=some r):Ret Tryz.prog K 169 [.agg (zao x0),.agg (zao x1)] w fun v w'=>∃ (F':Frz),v = .i .i64 r∧St [] w F F' [] w':=by
 refine qa2 Tryz.func169 ?_;have hS:=St.start hA;dsimp only [zmk] at H;refine qs ?_;refine xm (E_bx (cs:=zao x0) rfl rfl rfl hS) ?_;rintro _ w1 ⟨g1,rfl,hS1⟩;refine xm (E_bx (cs:=zao x1) rfl rfl rfl hS1) ?_;rintro _ w2 ⟨g2,rfl,hS2⟩;refine qm ?_;refine zay ?_;obtain ⟨F3,le3,hbx3,hS3⟩:=hS2.freezeB 1 [0] rfl (by decide) (by decide);obtain ⟨F4,le4,hbx4,hS4⟩:=hS3.freezeB 0 [] rfl (by decide) (by decide);obtain ⟨r7,hr7,H⟩:=zap H;refine zaz (G:=F4) [0,1,2,3] rfl Ty.mixed (by kernel_rfl) hS4.agree ?_;refine W_slB rfl rfl rfl rfl Tryz.underlying58 Ty.zjw rfl (hbx3.at (fun q u h=>by simpa using h)) h0 ?_;intro q5 hv5;refine W_slB rfl rfl rfl rfl Tryz.underlying58 Ty.zjw rfl (hbx4.at (fun q u h=>by simpa using h)) h1 ?_;intro q6 hv6;refine ql (zob hS4.good (hv5.mono le4) hv6 hr7) ?_;rintro v8 w8 ⟨Fr7,rfl,hT8⟩;have hS8:=hS4.lent hT8;refine qw hS8 ?_;refine qm ?_;obtain rfl:=oi H;refine qt ?_;exact ⟨F4,rfl,hS8⟩
def zfa (x0:Int) (x1:Int) (x2:Int):Option Bool :=
  some (decide (x1≤x0)&&decide (x0≤x2))
theorem zed {x0:Int} {x1:Int} {x2:Int} {r:Bool} (hA:Gd F w) (H:zfa x0 x1 x2=some r):Ret Tryz.prog K 76 [.i .i64 x0,.i .i64 x1,.i .i64 x2] w fun v w'=>∃ (F':Frz),v = .b r∧St [] w F F' [] w':=by
 refine qa3 Tryz.func76 ?_;have hS:=St.start hA;dsimp only [zfa] at H;refine qsm ?_;refine qs ?_;refine q2 ?_;refine qr (zah rfl rfl znk) ?_;refine qc ?_;refine W_gs (v:=.i .i64 x0) rfl rfl rfl rfl (fun ⟨hb1,_⟩=>?_) ?_
 ·rw [hb1];exact (qc ·)
 refine W_gs (v:=.i .i64 x2) rfl rfl rfl rfl (fun ⟨hb2,_⟩=>?_) ?_
 ·rw [hb2];exact (qc ·)
 refine W_gs (v:=.b (decide (x0≤x2))) rfl rfl rfl rfl (fun ⟨hb3,_⟩=>?_) ?_
 ·rw [hb3];exact (qr (zah rfl rfl zwl) ·)
 refine ziu rfl rfl rfl rfl rfl (fun hc=>by rw [hc];rfl) rfl ?_;refine qm ?_;obtain rfl:=oi H;refine qt ?_;exact ⟨F,rfl,hS⟩
def zdg (x0:List Vol):Option (List Vol) :=
  bd (app (α:=Vol) ([]:List Vol) x0) fun l6 =>
  some l6
theorem zha {x0:List Vol} {r:(List Vol)} {v0:Val} (hA:Gd F w) (h0:SlF Vol.t F v0 x0) (H:zdg x0=some r):Ret Tryz.prog K 42 [v0] w fun v w'=>∃ (F':Frz) (q0:Val),v=q0∧St [] w F F' [.row Vol.t q0 (r)] w':=by
 refine qa1 Tryz.func42 ?_;have hS:=St.start hA;dsimp only [zdg] at H;refine qsm ?_;refine zay ?_;refine qsc ?_;refine zti rfl rfl rfl rfl Tryz.underlying33 rfl rfl h0.ln ?_;intro b1 hb1;refine qn ?_;refine zib rfl (fun hc2=>?_) (fun hc2=>?_)
 ·have hx2:x0=[]:=List.eq_nil_of_length_eq_zero (hb1 hc2);have H:(some []:Option (List Vol))=some r:=by first | (rw [hx2] at H;exact H) | (subst hx2;exact H)
  refine qsm ?_;have hS4:=hS.nilRow Vol.t;obtain rfl:=oi H;refine qt ?_;exact ⟨F,(.sl none 0 (.k 0)),rfl,hS4⟩
 ·refine qk ?_;obtain ⟨l6,hl6,H⟩:=zap H;refine qs ?_;refine xm (E_bs (t:=Vol.t) (vs:=[]) (xs:=([]:List Vol)) Tryz.underlying33 Ty.row32 rfl trivial rfl rfl hS) ?_;rintro u5 w5 hS5;refine qc ?_;refine xm (zgg (t:=Vol.t) 0 Tryz.underlying33 Ty.row32 Ty.zk33 rfl rfl hS5 rfl (h0.src hS5.agree) hl6) ?_;rintro v7 w7 hS7;refine qm ?_;obtain rfl:=oi H;refine qt ?_;exact ⟨F,v7,rfl,hS7⟩
def zbo.k2 (l3:List UInt8):Option (List UInt8) :=
  some l3
def zbo.k1 (x1:Int):Option (List UInt8) :=
  if decide (0 < wr (x1 - wr (0 - 0))) then
    bd (appZ (α:=UInt8) [] (wr (x1 - wr (0 - 0))) 0) fun l7 =>
    bd (cut (α:=UInt8) l7 0 0) fun l9 =>
    bd (nz l7) fun _ =>
    zbo.k2 l9
  else
    zbo.k2 []
def zbo (x1:Int):Option (List UInt8) :=
  if decide (x1 < 0) then
    none
  else
    zbo.k1 x1
theorem zmr {x1:Int} {r:(List UInt8)} (hA:Gd F w) (H:zbo x1=some r):Ret Tryz.prog K 162 [.sl none 0 (.k 0),.i .i64 x1] w fun v w'=>∃ (F':Frz) (q0:Val),v=q0∧St [] w F F' [.row tB q0 (r)] w':=by
 refine qa2 Tryz.func162 ?_;have hS:=St.start hA;dsimp only [zbo] at H;refine qsm ?_;refine zai (fun E wq=>zbo.k1 x1=some r ∧ ∃ (F1:Frz),E=[(0,.sl none 0 (.k 0)),(1,.i .i64 x1)]∧F.le F1∧St [] w F F1 [] wq) ?_ ?_
 ·refine qsc ?_;refine qr (zah rfl rfl zbp) ?_;refine qn ?_;refine qy H (fun hc15 H=>?_) (fun hc15 H=>?_)
  ·
   cases H
  ·refine zec ?_;exact zbe _ ⟨H,⟨F,rfl,(Frz.le.refl _),hS⟩⟩ ⟨rfl,rfl,trivial⟩
 ·rintro E w1 ⟨H,F1,rfl,le1,hS1⟩;dsimp only [zbo.k1] at H;refine zai (fun E wq=>∃ l3:List UInt8,zbo.k2 l3=some r ∧ ∃ (F2:Frz) (u4:Val),E=[(0,u4)]∧F1.le F2∧St [] w F F2 [.row tB u4 l3] wq) ?_ ?_
  ·refine qs ?_;refine q2 ?_;refine qr (O_cap0 Tryz.underlying47 rfl) ?_;refine qc ?_;refine qr (O_len0 Tryz.underlying47 rfl) ?_;refine q2 ?_;refine qm ?_;refine qsc ?_;refine qr (zah rfl rfl zgn) ?_;refine qn ?_;refine qy H (fun hc6 H=>?_) (fun hc6 H=>?_)
   ·obtain ⟨l7,hl7,l9,hl9,H⟩:=bd2 H;refine qd ?_;refine q2 ?_;refine qr (O_cap0 Tryz.underlying47 rfl) ?_;refine qr (O_slN Tryz.underlying47 Ty.zjw rfl (.inl ⟨rfl,rfl⟩) (.inr ⟨_,_,rfl,rfl⟩)) ?_;refine qc ?_;have hS11:=hS1.nilRow tB;refine xm (E_appZ (t:=tB) (d:=0) 0 Tryz.underlying47 Ty.row5 Ty.zkt3 (zero_rel Ty.zero5 rfl) rfl rfl hS11 rfl hl7) ?_;rintro v8 w8 hS8;refine qc ?_;refine qr (O_len0 Tryz.underlying47 rfl) ?_;refine znl 0 0 0 rfl rfl rfl rfl Tryz.underlying47 Ty.zjw rfl (.inl ⟨rfl,rfl⟩) (.inr ⟨_,_,rfl,rfl⟩) hS8 rfl hl9 ?_;intro q10 hv10 hw10;refine qc ?_;refine zbk ?_;obtain ⟨_,hnz12,H⟩:=zap H;have hS12:=hS8.shrink 0 rfl hw10 hl9 hnz12;exact zbe _ ⟨l9,H,⟨F1,q10,rfl,(Frz.le.refl _),hS12⟩⟩ ⟨rfl,trivial⟩
   ·refine zec ?_;have hS14:=hS1.nilRow tB;exact zbe _ ⟨[],H,⟨F1,(.sl none 0 (.k 0)),rfl,(Frz.le.refl _),hS14⟩⟩ ⟨rfl,trivial⟩
  ·rintro E w2 ⟨l3,H,F2,u4,rfl,le2,hS2⟩;dsimp only [zbo.k2] at H;refine qsc ?_;refine qm ?_;obtain rfl:=oi H;refine qt ?_;exact ⟨F2,u4,rfl,hS2⟩
def zat.k2 (l6:List UInt8):Option (List UInt8) :=
  some l6
def zat.l3 (x0:List (List UInt8)) (rec12:(Int × (List UInt8))→Option (List UInt8)):(Int × (List UInt8))→Option (List UInt8)
  | (i9,l10) =>
    if decide (i9 < (x0.length:Int)) then
      bd (ix x0 i9) fun x14 =>
      bd (app (α:=UInt8) l10 x14) fun l17 =>
      rec12 (wr (i9+1),l17)
    else
      zat.k2 l10
def zat.k1 (x0:List (List UInt8)) (i2:Int):Option (List UInt8) :=
  bd (zbo i2) fun r3 =>
  loop (zat.l3 x0) (0,r3)
def zat.k5 (i21:Int) (rec22:(Int × Int)→Option (List UInt8)) (i25:Int):Option (List UInt8) :=
  rec22 (i25,wr (i21+1))
def zat.l4 (x0:List (List UInt8)) (rec22:(Int × Int)→Option (List UInt8)):(Int × Int)→Option (List UInt8)
  | (i20,i21) =>
    if decide (i21 < (x0.length:Int)) then
      bd (ix x0 i21) fun x26 =>
      if decide (wr (i20+(x26.length:Int)) < 0) then
        none
      else
        zat.k5 i21 rec22 (wr (i20+(x26.length:Int)))
    else
      zat.k1 x0 i20
def zat (x0:List (List UInt8)):Option (List UInt8) :=
  loop (zat.l4 x0) (0,0)
theorem zlx {x0:List (List UInt8)} {r:(List UInt8)} {v0:Val} (hA:Gd F w) (h0:SlF (tSl tB) F v0 x0) (H:zat x0=some r):Ret Tryz.prog K 129 [v0] w fun v w'=>∃ (F':Frz) (q0:Val),v=q0∧St [] w F F' [.row tB q0 (r)] w':=by
 refine qa1 Tryz.func129 ?_;have hS:=St.start hA;dsimp only [zat] at H;refine qsm ?_;refine qsm ?_;refine zai (fun E wq=>∃ i2:Int,zat.k1 x0 i2=some r ∧ ∃ (F1:Frz),E=[(0,v0),(3,.i .i64 i2)]∧F.le F1∧St [] w F F1 [] wq) ?_ ?_
 ·refine qsc ?_;refine qr (zbs Tryz.underlying95 rfl h0.ln) ?_;refine qm ?_;refine zar ?_;refine zbm (fun (s:Int × Int) E wq=>∃ (F19:Frz),E=[(0,v0),(3,.i .i64 s.1),(9,v0),(10,.i .i64 (x0.length:Int)),(11,.i .i64 s.2)]∧F.le F19∧St [] w F F19 [] wq) H ?_ ?_
  ·exact ⟨_,⟨F,rfl,(Frz.le.refl _),hS⟩,⟨rfl,rfl,rfl,rfl,rfl,trivial⟩⟩
  ·rintro rec22 ⟨i20,i21⟩ E w19 hI H
   try dsimp only at hI
   obtain ⟨F19,rfl,le19,hS19⟩:=hI;dsimp only [zat.l4] at H;refine qs ?_;refine qr (zah rfl rfl zbp) ?_;refine qn ?_;refine zay ?_;refine qy H (fun hc23 H=>?_) (fun hc23 H=>?_)
   ·refine qk ?_;refine zai (fun E wq=>∃ i25:Int,zat.k5 i21 rec22 i25=some r ∧ ∃ (F24:Frz),E=[(0,v0),(3,.i .i64 i25),(9,v0),(10,.i .i64 (x0.length:Int)),(11,.i .i64 i21)]∧F19.le F24∧St [] w F F24 [] wq) ?_ ?_
    ·refine zar ?_;obtain ⟨x26,hx26,H⟩:=zap H;refine qs ?_;obtain ⟨hp28,hy28⟩:=zac hx26;obtain ⟨cs28,hr28,he28⟩:=(h0.mono le19).el hy28;obtain ⟨ue27,rfl,hue27⟩:=hr28;replace he28:=qj 1 he28;have hi28:=he28.ixd;refine qi Tryz.underlying95 Ty.zqm hi28 hp28 ?_;refine qr (zfs 0 Ty.zhg rfl (he28.mono hS19.agree) (by omega) rfl) ?_;refine qm ?_;refine qs ?_;refine q2 ?_;refine qr (zbs Tryz.underlying47 rfl hue27.ln) ?_;refine qc ?_;refine qm ?_;refine qsc ?_;refine qr (zah rfl rfl zbp) ?_;refine qn ?_;refine qy H (fun hc29 H=>?_) (fun hc29 H=>?_)
     ·
      cases H
     ·refine zec ?_;refine zbf ?_;exact zbe _ ⟨wr (i20+(x26.length:Int)),H,⟨F19,rfl,(Frz.le.refl _),hS19⟩⟩ ⟨rfl,rfl,rfl,rfl,rfl,trivial⟩
    ·rintro E w24 ⟨i25,H,F24,rfl,le24,hS24⟩;dsimp only [zat.k5] at H;refine qd ?_;refine q2 ?_;refine zbk ?_;exact zbd (i25,wr (i21+1)) _ H ⟨F24,rfl,(le19.trans le24),hS24⟩ ⟨rfl,rfl,rfl,rfl,rfl,trivial⟩
   ·refine zcc _ rfl ?_;exact zbe _ ⟨i20,H,⟨F19,rfl,le19,hS19⟩⟩ ⟨rfl,rfl,trivial⟩
 ·rintro E w1 ⟨i2,H,F1,rfl,le1,hS1⟩;dsimp only [zat.k1] at H;obtain ⟨r3,hr3,H⟩:=zap H;refine qsc ?_;refine lm (zmr hS1.good hr3) ?_;rintro ur3_0 w4 ⟨Fr3,_,rfl,hT4⟩;have hS4:=hS1.call hT4;have ler3:=hT4.ext;refine qm ?_;refine zai (fun E wq=>∃ l6:List UInt8,zat.k2 l6=some r ∧ ∃ (F5:Frz) (u7:Val),E=[(6,u7)]∧Fr3.le F5∧St [] w F F5 [.row tB u7 l6] wq) ?_ ?_
  ·refine qsc ?_;refine qr (zbs Tryz.underlying95 rfl h0.ln) ?_;refine qm ?_;refine zar ?_;refine zbm (fun (s:Int × (List UInt8)) E wq=>∃ (F8:Frz) (u11:Val),E=[(6,u11),(25,v0),(26,.i .i64 (x0.length:Int)),(27,.i .i64 s.1)]∧Fr3.le F8∧St [] w F F8 [.row tB u11 s.2] wq) H ?_ ?_
   ·exact ⟨_,⟨Fr3,ur3_0,rfl,(Frz.le.refl _),hS4⟩,⟨rfl,rfl,rfl,rfl,trivial⟩⟩
   ·rintro rec12 ⟨i9,l10⟩ E w8 hI H
    try dsimp only at hI
    obtain ⟨F8,u11,rfl,le8,hS8⟩:=hI;dsimp only [zat.l3] at H;refine qs ?_;refine qr (zah rfl rfl zbp) ?_;refine qn ?_;refine zay ?_;refine qy H (fun hc13 H=>?_) (fun hc13 H=>?_)
    ·refine qk ?_;refine zay ?_;refine zar ?_;obtain ⟨x14,hx14,H⟩:=zap H;refine qs ?_;obtain ⟨hp16,hy16⟩:=zac hx14;obtain ⟨cs16,hr16,he16⟩:=(h0.mono ((le1.trans ler3).trans le8)).el hy16;obtain ⟨ue15,rfl,hue15⟩:=hr16;replace he16:=qj 1 he16;have hi16:=he16.ixd;refine qi Tryz.underlying95 Ty.zqm hi16 hp16 ?_;refine qr (zfs 0 Ty.zhg rfl (he16.mono hS8.agree) (by omega) rfl) ?_;refine qm ?_;obtain ⟨l17,hl17,H⟩:=zap H;refine qd ?_;refine q2 ?_;refine xm (zgg (t:=tB) 0 Tryz.underlying47 Ty.row5 Ty.zk47 rfl rfl hS8 rfl (hue15.src hS8.agree) hl17) ?_;rintro v18 w18 hS18;refine qc ?_;refine zbk ?_;refine zbf ?_;refine zcl ?_;refine qd ?_;refine q2 ?_;refine zbk ?_;exact zbd (wr (i9+1),l17) _ H ⟨F8,v18,rfl,le8,hS18⟩ ⟨rfl,rfl,rfl,rfl,trivial⟩
    ·refine zcc _ rfl ?_;exact zbe _ ⟨l10,H,⟨F8,u11,rfl,le8,hS8⟩⟩ ⟨rfl,trivial⟩
  ·rintro E w5 ⟨l6,H,F5,u7,rfl,le5,hS5⟩;dsimp only [zat.k2] at H;refine qsc ?_;refine qm ?_;obtain rfl:=oi H;refine qt ?_;exact ⟨F5,u7,rfl,hS5⟩
def zmu:Option (List UInt32) :=
  some [1116352408,1899447441,3049323471,3921009573,961987163,1508970993,2453635748,2870763221,3624381080,310598401,607225278,1426881987,1925078388,2162078206,2614888103,3248222580,3835390401,4022224774,264347078,604807628,770255983,1249150122,1555081692,1996064986,2554220882,2821834349,2952996808,3210313671,3336571891,3584528711,113926993,338241895,666307205,773529912,1294757372,1396182291,1695183700,1986661051,2177026350,2456956037,2730485921,2820302411,3259730800,3345764771,3516065817,3600352804,4094571909,275423344,430227734,506948616,659060556,883997877,958139571,1322822218,1537002063,1747873779,1955562222,2024104815,2227730452,2361852424,2428436474,2756734187,3204031479,3329325298]
theorem zxw {r:(List UInt32)} (hA:Gd F w) (H:zmu=some r):Ret Tryz.prog K 130 [] w fun v w'=>∃ (F':Frz) (q0:Val),v=q0∧St [] w F F' [.row tW q0 (r)] w':=by
 refine zsf (args:=[]) Tryz.func130 rfl (by decide) rfl ?_;change C _ _ _ _ _ [] _;have hS:=St.start hA;dsimp only [zmu] at H;refine qsm ?_;refine qs ?_;refine xm (E_bs (t:=tW) (vs:=[.i .u32 ((1116352408:UInt32).toNat:Int),.i .u32 ((1899447441:UInt32).toNat:Int),.i .u32 ((3049323471:UInt32).toNat:Int),.i .u32 ((3921009573:UInt32).toNat:Int),.i .u32 ((961987163:UInt32).toNat:Int),.i .u32 ((1508970993:UInt32).toNat:Int),.i .u32 ((2453635748:UInt32).toNat:Int),.i .u32 ((2870763221:UInt32).toNat:Int),.i .u32 ((3624381080:UInt32).toNat:Int),.i .u32 ((310598401:UInt32).toNat:Int),.i .u32 ((607225278:UInt32).toNat:Int),.i .u32 ((1426881987:UInt32).toNat:Int),.i .u32 ((1925078388:UInt32).toNat:Int),.i .u32 ((2162078206:UInt32).toNat:Int),.i .u32 ((2614888103:UInt32).toNat:Int),.i .u32 ((3248222580:UInt32).toNat:Int),.i .u32 ((3835390401:UInt32).toNat:Int),.i .u32 ((4022224774:UInt32).toNat:Int),.i .u32 ((264347078:UInt32).toNat:Int),.i .u32 ((604807628:UInt32).toNat:Int),.i .u32 ((770255983:UInt32).toNat:Int),.i .u32 ((1249150122:UInt32).toNat:Int),.i .u32 ((1555081692:UInt32).toNat:Int),.i .u32 ((1996064986:UInt32).toNat:Int),.i .u32 ((2554220882:UInt32).toNat:Int),.i .u32 ((2821834349:UInt32).toNat:Int),.i .u32 ((2952996808:UInt32).toNat:Int),.i .u32 ((3210313671:UInt32).toNat:Int),.i .u32 ((3336571891:UInt32).toNat:Int),.i .u32 ((3584528711:UInt32).toNat:Int),.i .u32 ((113926993:UInt32).toNat:Int),.i .u32 ((338241895:UInt32).toNat:Int),.i .u32 ((666307205:UInt32).toNat:Int),.i .u32 ((773529912:UInt32).toNat:Int),.i .u32 ((1294757372:UInt32).toNat:Int),.i .u32 ((1396182291:UInt32).toNat:Int),.i .u32 ((1695183700:UInt32).toNat:Int),.i .u32 ((1986661051:UInt32).toNat:Int),.i .u32 ((2177026350:UInt32).toNat:Int),.i .u32 ((2456956037:UInt32).toNat:Int),.i .u32 ((2730485921:UInt32).toNat:Int),.i .u32 ((2820302411:UInt32).toNat:Int),.i .u32 ((3259730800:UInt32).toNat:Int),.i .u32 ((3345764771:UInt32).toNat:Int),.i .u32 ((3516065817:UInt32).toNat:Int),.i .u32 ((3600352804:UInt32).toNat:Int),.i .u32 ((4094571909:UInt32).toNat:Int),.i .u32 ((275423344:UInt32).toNat:Int),.i .u32 ((430227734:UInt32).toNat:Int),.i .u32 ((506948616:UInt32).toNat:Int),.i .u32 ((659060556:UInt32).toNat:Int),.i .u32 ((883997877:UInt32).toNat:Int),.i .u32 ((958139571:UInt32).toNat:Int),.i .u32 ((1322822218:UInt32).toNat:Int),.i .u32 ((1537002063:UInt32).toNat:Int),.i .u32 ((1747873779:UInt32).toNat:Int),.i .u32 ((1955562222:UInt32).toNat:Int),.i .u32 ((2024104815:UInt32).toNat:Int),.i .u32 ((2227730452:UInt32).toNat:Int),.i .u32 ((2361852424:UInt32).toNat:Int),.i .u32 ((2428436474:UInt32).toNat:Int),.i .u32 ((2756734187:UInt32).toNat:Int),.i .u32 ((3204031479:UInt32).toNat:Int),.i .u32 ((3329325298:UInt32).toNat:Int)]) (xs:=[(1116352408:UInt32),(1899447441:UInt32),(3049323471:UInt32),(3921009573:UInt32),(961987163:UInt32),(1508970993:UInt32),(2453635748:UInt32),(2870763221:UInt32),(3624381080:UInt32),(310598401:UInt32),(607225278:UInt32),(1426881987:UInt32),(1925078388:UInt32),(2162078206:UInt32),(2614888103:UInt32),(3248222580:UInt32),(3835390401:UInt32),(4022224774:UInt32),(264347078:UInt32),(604807628:UInt32),(770255983:UInt32),(1249150122:UInt32),(1555081692:UInt32),(1996064986:UInt32),(2554220882:UInt32),(2821834349:UInt32),(2952996808:UInt32),(3210313671:UInt32),(3336571891:UInt32),(3584528711:UInt32),(113926993:UInt32),(338241895:UInt32),(666307205:UInt32),(773529912:UInt32),(1294757372:UInt32),(1396182291:UInt32),(1695183700:UInt32),(1986661051:UInt32),(2177026350:UInt32),(2456956037:UInt32),(2730485921:UInt32),(2820302411:UInt32),(3259730800:UInt32),(3345764771:UInt32),(3516065817:UInt32),(3600352804:UInt32),(4094571909:UInt32),(275423344:UInt32),(430227734:UInt32),(506948616:UInt32),(659060556:UInt32),(883997877:UInt32),(958139571:UInt32),(1322822218:UInt32),(1537002063:UInt32),(1747873779:UInt32),(1955562222:UInt32),(2024104815:UInt32),(2227730452:UInt32),(2361852424:UInt32),(2428436474:UInt32),(2756734187:UInt32),(3204031479:UInt32),(3329325298:UInt32)]) Tryz.underlying192 Ty.row169 rfl (by exact ⟨rfl,⟨rfl,⟨rfl,⟨rfl,⟨rfl,⟨rfl,⟨rfl,⟨rfl,⟨rfl,⟨rfl,⟨rfl,⟨rfl,⟨rfl,⟨rfl,⟨rfl,⟨rfl,⟨rfl,⟨rfl,⟨rfl,⟨rfl,⟨rfl,⟨rfl,⟨rfl,⟨rfl,⟨rfl,⟨rfl,⟨rfl,⟨rfl,⟨rfl,⟨rfl,⟨rfl,⟨rfl,⟨rfl,⟨rfl,⟨rfl,⟨rfl,⟨rfl,⟨rfl,⟨rfl,⟨rfl,⟨rfl,⟨rfl,⟨rfl,⟨rfl,⟨rfl,⟨rfl,⟨rfl,⟨rfl,⟨rfl,⟨rfl,⟨rfl,⟨rfl,⟨rfl,⟨rfl,⟨rfl,⟨rfl,⟨rfl,⟨rfl,⟨rfl,⟨rfl,⟨rfl,⟨rfl,⟨rfl,⟨rfl,trivial⟩⟩⟩⟩⟩⟩⟩⟩⟩⟩⟩⟩⟩⟩⟩⟩⟩⟩⟩⟩⟩⟩⟩⟩⟩⟩⟩⟩⟩⟩⟩⟩⟩⟩⟩⟩⟩⟩⟩⟩⟩⟩⟩⟩⟩⟩⟩⟩⟩⟩⟩⟩⟩⟩⟩⟩⟩⟩⟩⟩⟩⟩⟩⟩) rfl rfl hS) ?_
 rintro u1 w1 hS1;refine qm ?_;obtain rfl:=oi H;refine qt ?_;exact ⟨F,u1,rfl,hS1⟩
def zcz.k2 (l11:List UInt8):Option (List UInt8) :=
  some l11
def zcz.l3 (x0:List UInt8) (rec17:(Int × (List UInt8))→Option (List UInt8)):(Int × (List UInt8))→Option (List UInt8)
  | (i14,l15) =>
    if decide (0≤i14) then
      bd (shrU (wu ((wu (x0.length:Int))*2 ^ (3:Int).toNat)) (wr (8*i14))) fun x19 =>
      bd (app (α:=UInt8) l15 [(toB8 x19)]) fun l21 =>
      rec17 (wr (i14 - 1),l21)
    else
      zcz.k2 l15
def zcz.k1 (x0:List UInt8) (l8:List UInt8):Option (List UInt8) :=
  loop (zcz.l3 x0) (7,l8)
def zcz.l4 (x0:List UInt8) (rec27:(List UInt8)→Option (List UInt8)):(List UInt8)→Option (List UInt8)
  | l25 =>
    if decide ((l25.length:Int).tmod 64≠56) then
      bd (app (α:=UInt8) l25 [(0:UInt8)]) fun l30 =>
      rec27 l30
    else
      zcz.k1 x0 l25
def zcz (x0:List UInt8):Option (List UInt8) :=
  bd (app (α:=UInt8) ([]:List UInt8) x0) fun l2 =>
  bd (app (α:=UInt8) l2 [(128:UInt8)]) fun l5 =>
  loop (zcz.l4 x0) l5
theorem zxx {x0:List UInt8} {r:(List UInt8)} {v0:Val} (hA:Gd F w) (h0:SlF tB F v0 x0) (H:zcz x0=some r):Ret Tryz.prog K 131 [v0] w fun v w'=>∃ (F':Frz) (q0:Val),v=q0∧St [] w F F' [.row tB q0 (r)] w':=by
 refine qa1 Tryz.func131 ?_;have hS:=St.start hA;dsimp only [zcz] at H;refine qsm ?_;obtain ⟨l2,hl2,l5,hl5,H⟩:=bd2 H;refine qs ?_;refine xm (E_bs (t:=tB) (vs:=[]) (xs:=([]:List UInt8)) Tryz.underlying47 Ty.row5 rfl trivial rfl rfl hS) ?_;rintro u1 w1 hS1;refine qc ?_;refine xm (zgg (t:=tB) 0 Tryz.underlying47 Ty.row5 Ty.zk47 rfl rfl hS1 rfl (h0.src hS1.agree) hl2) ?_;rintro v3 w3 hS3;refine xm (E_bs (t:=tB) (vs:=[.i .u8 ((128:UInt8).toNat:Int)]) (xs:=[(128:UInt8)]) Tryz.underlying47 Ty.row5 rfl ⟨rfl,trivial⟩ rfl rfl hS3) ?_;rintro u4 w4 hS4;refine xm (zgg (t:=tB) 1 Tryz.underlying47 Ty.row5 Ty.zk47 rfl rfl hS4 rfl (hS4.rowSrc (k:=0) rfl) hl5) ?_;rintro v6 w6 hS6;refine qm ?_;refine zai (fun E wq=>∃ l8:List UInt8,zcz.k1 x0 l8=some r ∧ ∃ (F7:Frz) (u9:Val),E=[(0,v0),(3,u9)]∧F.le F7∧St [] w F F7 [.row tB u9 l8] wq) ?_ ?_
 ·refine zar ?_;refine zbm (fun (s:(List UInt8)) E wq=>∃ (F24:Frz) (u26:Val),E=[(0,v0),(3,u26)]∧F.le F24∧St [] w F F24 [.row tB u26 s] wq) H ?_ ?_
  ·exact ⟨_,⟨F,v6,rfl,(Frz.le.refl _),hS6.pick [1] (by decide)⟩,⟨rfl,rfl,trivial⟩⟩
  ·rintro rec27 l25 E w24 hI H
   try dsimp only at hI
   obtain ⟨F24,u26,rfl,le24,hS24⟩:=hI;dsimp only [zcz.l4] at H;refine zay ?_;refine qsc ?_;refine qr (zbs Tryz.underlying47 rfl (hS24.rowLn (k:=0) rfl)) ?_;refine qr (zah rfl rfl (by first | rfl | simp [binV,ibin])) ?_;refine qr (zah rfl rfl zeb) ?_;refine qn ?_;refine qy H (fun hc28 H=>?_) (fun hc28 H=>?_)
   ·refine qk ?_;refine zar ?_;obtain ⟨l30,hl30,H⟩:=zap H;refine qd ?_;refine qc ?_;refine xm (E_bs (t:=tB) (vs:=[.i .u8 ((0:UInt8).toNat:Int)]) (xs:=[(0:UInt8)]) Tryz.underlying47 Ty.row5 rfl ⟨rfl,trivial⟩ rfl rfl hS24) ?_;rintro u29 w29 hS29;refine xm (zgg (t:=tB) 1 Tryz.underlying47 Ty.row5 Ty.zk47 rfl rfl hS29 rfl (hS29.rowSrc (k:=0) rfl) hl30) ?_;rintro v31 w31 hS31;refine qc ?_;refine zbk ?_;refine zbf ?_;exact zbd l30 _ H ⟨F24,v31,rfl,le24,hS31.pick [1] (by decide)⟩ ⟨rfl,rfl,trivial⟩
   ·refine zcc _ rfl ?_;exact zbe _ ⟨l25,H,⟨F24,u26,rfl,le24,hS24⟩⟩ ⟨rfl,rfl,trivial⟩
 ·rintro E w7 ⟨l8,H,F7,u9,rfl,le7,hS7⟩;dsimp only [zcz.k1] at H;refine qsc ?_;refine qr (zbs Tryz.underlying47 rfl h0.ln) ?_;refine qr (zgv Tryz.underlying3 Tryz.underlying194 rfl (rfl)) ?_;refine qr (zah rfl rfl (bI_shl (by decide) (by decide))) ?_;refine qm ?_;refine zai (fun E wq=>∃ l11:List UInt8,zcz.k2 l11=some r ∧ ∃ (F10:Frz) (u12:Val),E=[(3,u12)]∧F7.le F10∧St [] w F F10 [.row tB u12 l11] wq) ?_ ?_
  ·refine qsm ?_;refine zar ?_;refine zbm (fun (s:Int × (List UInt8)) E wq=>∃ (F13:Frz) (u16:Val),E=[(3,u16),(4,.i .u64 (wu ((wu (x0.length:Int))*2 ^ (3:Int).toNat))),(5,.i .i64 s.1)]∧F7.le F13∧St [] w F F13 [.row tB u16 s.2] wq) H ?_ ?_
   ·exact ⟨_,⟨F7,u9,rfl,(Frz.le.refl _),hS7⟩,⟨rfl,rfl,rfl,trivial⟩⟩
   ·rintro rec17 ⟨i14,l15⟩ E w13 hI H
    try dsimp only at hI
    obtain ⟨F13,u16,rfl,le13,hS13⟩:=hI;dsimp only [zcz.l3] at H;refine zay ?_;refine qsc ?_;refine qr (zah rfl rfl znk) ?_;refine qn ?_;refine qy H (fun hc18 H=>?_) (fun hc18 H=>?_)
    ·refine qk ?_;refine zay ?_;refine zar ?_;obtain ⟨x19,hx19,l21,hl21,H⟩:=bd2 H;refine qd ?_;refine q4 ?_;obtain ⟨hz23,hv23,hw23⟩:=shrU_some hx19;refine qr (zah rfl rfl (by rw [zod hz23 hv23,← hw23])) ?_;refine qr (zgv Tryz.underlying194 Tryz.underlying5 rfl (i8_of _)) ?_;refine xm (E_bs (t:=tB) (vs:=[.i .u8 ((toB8 x19).toNat:Int)]) (xs:=[(toB8 x19)]) Tryz.underlying47 Ty.row5 rfl ⟨rfl,trivial⟩ rfl rfl hS13) ?_;rintro u20 w20 hS20;refine xm (zgg (t:=tB) 1 Tryz.underlying47 Ty.row5 Ty.zk47 rfl rfl hS20 rfl (hS20.rowSrc (k:=0) rfl) hl21) ?_;rintro v22 w22 hS22;refine qc ?_;refine zbk ?_;refine zbf ?_;refine zcl ?_;refine qd ?_;refine q3 ?_;refine zbk ?_;exact zbd (wr (i14 - 1),l21) _ H ⟨F13,v22,rfl,le13,hS22.pick [1] (by decide)⟩ ⟨rfl,rfl,rfl,trivial⟩
    ·refine zcc _ rfl ?_;exact zbe _ ⟨l15,H,⟨F13,u16,rfl,le13,hS13⟩⟩ ⟨rfl,trivial⟩
  ·rintro E w10 ⟨l11,H,F10,u12,rfl,le10,hS10⟩;dsimp only [zcz.k2] at H;refine qsc ?_;refine qm ?_;obtain rfl:=oi H;refine qt ?_;exact ⟨F10,u12,rfl,hS10⟩
def zhi.k1 (i2:Int):Option Int :=
  some i2
def zhi.l2 (x0:List UInt8) (rec6:(Int × Int)→Option Int):(Int × Int)→Option Int
  | (i4,i5) =>
    if decide (i5 < (x0.length:Int)) then
      bd (ix x0 i5) fun x8 =>
      rec6 (bits .or .u64 (wu (i4*2 ^ (8:Int).toNat)) (x8.toNat:Int),wr (i5+1))
    else
      zhi.k1 i4
def zhi (x0:List UInt8):Option Int :=
  loop (zhi.l2 x0) (0,0)
theorem sha_high_ok {x0:List UInt8} {r:Int} {v0:Val} (hA:Gd F w) (h0:SlF tB F v0 x0) (H:zhi x0=some r):Ret Tryz.prog K 132 [v0] w fun v w'=>∃ (F':Frz),v = .i .u64 r∧St [] w F F' [] w':=by
 refine qa1 Tryz.func132 ?_;have hS:=St.start hA;dsimp only [zhi] at H;refine qsm ?_;refine qsm ?_;refine zai (fun E wq=>∃ i2:Int,zhi.k1 i2=some r ∧ ∃ (F1:Frz),E=[(3,.i .u64 i2)]∧F.le F1∧St [] w F F1 [] wq) ?_ ?_
 ·refine qsc ?_;refine qr (zbs Tryz.underlying47 rfl h0.ln) ?_;refine qm ?_;refine zar ?_;refine zbm (fun (s:Int × Int) E wq=>∃ (F3:Frz),E=[(3,.i .u64 s.1),(6,v0),(7,.i .i64 (x0.length:Int)),(8,.i .i64 s.2)]∧F.le F3∧St [] w F F3 [] wq) H ?_ ?_
  ·exact ⟨_,⟨F,rfl,(Frz.le.refl _),hS⟩,⟨rfl,rfl,rfl,rfl,trivial⟩⟩
  ·rintro rec6 ⟨i4,i5⟩ E w3 hI H
   try dsimp only at hI
   obtain ⟨F3,rfl,le3,hS3⟩:=hI;dsimp only [zhi.l2] at H;refine qs ?_;refine qr (zah rfl rfl zbp) ?_;refine qn ?_;refine zay ?_;refine qy H (fun hc7 H=>?_) (fun hc7 H=>?_)
   ·refine qk ?_;refine zay ?_;refine zar ?_;obtain ⟨x8,hx8,H⟩:=zap H;refine qs ?_;obtain ⟨hp10,hy10⟩:=zac hx8;obtain ⟨cs10,hr10,he10⟩:=(h0.mono le3).el hy10;obtain rfl:=hr10;replace he10:=qj 1 he10;have hi10:=he10.ixd;refine qi Tryz.underlying47 Ty.zjw hi10 hp10 ?_;refine qr (zfs 0 Ty.zwt rfl (he10.mono hS3.agree) (by omega) rfl) ?_;refine qm ?_;refine qd ?_;refine qc ?_;refine qr (zah rfl rfl (bI_shl (by decide) (by decide))) ?_;refine qc ?_;refine qr (zgv Tryz.underlying5 Tryz.underlying194 rfl (u8_u64 _)) ?_;refine qr (zah rfl rfl (zdn (.inr (.inl rfl)))) ?_;refine qc ?_;refine zbk ?_;refine zbf ?_;refine zcl ?_;refine qd ?_;refine q2 ?_;refine zbk ?_;exact zbd (bits .or .u64 (wu (i4*2 ^ (8:Int).toNat)) (x8.toNat:Int),wr (i5+1)) _ H ⟨F3,rfl,le3,hS3⟩ ⟨rfl,rfl,rfl,rfl,trivial⟩
   ·refine zcc _ rfl ?_;exact zbe _ ⟨i4,H,⟨F3,rfl,le3,hS3⟩⟩ ⟨rfl,trivial⟩
 ·rintro E w1 ⟨i2,H,F1,rfl,le1,hS1⟩;dsimp only [zhi.k1] at H;refine qsc ?_;refine qm ?_;obtain rfl:=oi H;refine qt ?_;exact ⟨F1,rfl,hS1⟩
def zba (x0:UInt32) (x1:Int):Option UInt32 :=
  bd (shlW x0 (bits .and .u64 (wu x1) 31)) fun x2 =>
  bd (shrW x0 (wu (32 - bits .and .u64 (wu x1) 31))) fun x3 =>
  some (x2 ||| x3)
theorem zce {x0:UInt32} {x1:Int} {r:UInt32} (hA:Gd F w) (H:zba x0 x1=some r):Ret Tryz.prog K 133 [.i .u32 (x0.toNat:Int),.i .i64 x1] w fun v w'=>∃ (F':Frz),v = .i .u32 (r.toNat:Int)∧St [] w F F' [] w':=by
 refine qa2 Tryz.func133 ?_;have hS:=St.start hA;dsimp only [zba] at H;refine qsm ?_;refine qsc ?_;refine qr (zgv Tryz.underlying3 Tryz.underlying26 rfl (rfl)) ?_;refine qr (zah rfl rfl (zdn (.inl rfl))) ?_;refine qm ?_;obtain ⟨x2,hx2,x3,hx3,H⟩:=bd2 H;refine qs ?_;refine q2 ?_;refine qr (zah rfl rfl (bW_shl hx2)) ?_;refine q3 ?_;refine qr (zah rfl rfl (bW_shr hx3)) ?_;refine qr (zah rfl rfl ((zdn (.inr (.inl rfl))).trans (congrArg (fun z=>some (Val.i .u32 z)) (Go.Wk.u32_or x2 x3)))) ?_;refine qm ?_;obtain rfl:=oi H;refine qt ?_;exact ⟨F,rfl,hS⟩
def zbl.k2 (s13:List UInt8):Option (List UInt8) :=
  some s13
def zbl.l3 (s9:List UInt32) (rec20:(Int × (List UInt8))→Option (List UInt8)):(Int × (List UInt8))→Option (List UInt8)
  | (i17,s18) =>
    if decide (i17 < 32) then
      bd (ix s9 (wr (i17.tdiv 4))) fun x22 =>
      bd (shrW x22 (wr (24 - wr (8*i17.tmod 4)))) fun x23 =>
      bd (ix s18 i17) fun x24 =>
      rec20 (wr (i17+1),(s18.set i17.toNat x23.toUInt8))
    else
      zbl.k2 s18
def zbl.k1 (s9:List UInt32):Option (List UInt8) :=
  loop (zbl.l3 s9) (0,(List.replicate 32 (0:UInt8)))
def zbl.k5 (l32:List UInt8) (rec37:((List UInt8) × (List UInt32))→Option (List UInt8)) (s40:List UInt32):Option (List UInt8) :=
  bd (cut (α:=UInt8) l32 64 (l32.length:Int)) fun l42 =>
  rec37 (l42,s40)
def zbl.l8 (l32:List UInt8) (rec37:((List UInt8) × (List UInt32))→Option (List UInt8)) (s51:List UInt32) (rec57:(Int × (List UInt32))→Option (List UInt8)):(Int × (List UInt32))→Option (List UInt8)
  | (i54,s55) =>
    if decide (i54 < 8) then
      bd (ix s55 i54) fun x59 =>
      bd (ix s51 i54) fun x60 =>
      bd (ix s55 i54) fun x61 =>
      rec57 (wr (i54+1),(s55.set i54.toNat (x59+x60)))
    else
      zbl.k5 l32 rec37 s55
def zbl.k7 (l32:List UInt8) (s35:List UInt32) (rec37:((List UInt8) × (List UInt32))→Option (List UInt8)) (s51:List UInt32):Option (List UInt8) :=
  loop (zbl.l8 l32 rec37 s51) (0,s35)
def zbl.l9 (r6:(List UInt32)) (l32:List UInt8) (s35:List UInt32) (rec37:((List UInt8) × (List UInt32))→Option (List UInt8)) (s46:List UInt32) (rec72:(Int × (List UInt32))→Option (List UInt8)):(Int × (List UInt32))→Option (List UInt8)
  | (i69,s70) =>
    if decide (i69 < 64) then
      bd (ix s70 4) fun x74 =>
      bd (ix s70 0) fun x75 =>
      bd (zba x74 (-6)) fun r80 =>
      bd (zba x74 (-11)) fun r81 =>
      bd (zba x74 (-25)) fun r82 =>
      bd (ix s70 7) fun x86 =>
      bd (ix s70 5) fun x87 =>
      bd (ix s70 6) fun x88 =>
      bd (ix r6 i69) fun x89 =>
      bd (ix s46 i69) fun x91 =>
      bd (zba x75 (-2)) fun r101 =>
      bd (zba x75 (-13)) fun r102 =>
      bd (zba x75 (-22)) fun r103 =>
      bd (ix s70 1) fun x107 =>
      bd (ix s70 2) fun x108 =>
      bd (ix s70 1) fun x109 =>
      bd (ix s70 2) fun x110 =>
      bd (ix s70 1) fun x119 =>
      bd (ix s70 2) fun x120 =>
      bd (ix s70 3) fun x121 =>
      bd (ix s70 5) fun x122 =>
      bd (ix s70 6) fun x123 =>
      rec72 (wr (i69+1),([(((((x86+((r80 ^^^ r81) ^^^ r82))+((x74 &&& x87) ^^^ ((~~~x74) &&& x88)))+x89)+x91)+(((r101 ^^^ r102) ^^^ r103)+(((x75 &&& x107) ^^^ (x75 &&& x108)) ^^^ (x109 &&& x110)))),x75,x119,x120,(x121+((((x86+((r80 ^^^ r81) ^^^ r82))+((x74 &&& x87) ^^^ ((~~~x74) &&& x88)))+x89)+x91)),x74,x122,x123]:List UInt32))
    else
      zbl.k7 l32 s35 rec37 s70
def zbl.k6 (r6:(List UInt32)) (l32:List UInt8) (s35:List UInt32) (rec37:((List UInt8) × (List UInt32))→Option (List UInt8)) (s46:List UInt32):Option (List UInt8) :=
  loop (zbl.l9 r6 l32 s35 rec37 s46) (0,s35)
def zbl.k11 (i136:Int) (rec139:(Int × (List UInt32))→Option (List UInt8)) (s142:List UInt32):Option (List UInt8) :=
  rec139 (wr (i136+1),s142)
def zbl.l10 (r6:(List UInt32)) (l32:List UInt8) (s35:List UInt32) (rec37:((List UInt8) × (List UInt32))→Option (List UInt8)) (rec139:(Int × (List UInt32))→Option (List UInt8)):(Int × (List UInt32))→Option (List UInt8)
  | (i136,s137) =>
    if decide (i136 < 64) then
      if decide (i136 < 16) then
        bd (cut (α:=UInt8) l32 (wr (4*i136)) (wr (wr (4*i136)+4))) fun l145 =>
        bd (zhi l145) fun r147 =>
        bd (ix s137 i136) fun x148 =>
        zbl.k11 i136 rec139 (s137.set i136.toNat (toW r147))
      else
        bd (ix s137 (wr (i136 - 15))) fun x152 =>
        bd (ix s137 (wr (i136 - 2))) fun x153 =>
        bd (zba x152 (-7)) fun r158 =>
        bd (zba x152 (-18)) fun r159 =>
        bd (zba x153 (-17)) fun r162 =>
        bd (zba x153 (-19)) fun r163 =>
        bd (ix s137 (wr (i136 - 16))) fun x166 =>
        bd (ix s137 (wr (i136 - 7))) fun x167 =>
        bd (ix s137 i136) fun x168 =>
        zbl.k11 i136 rec139 (s137.set i136.toNat (((x166+((r158 ^^^ r159) ^^^ (x152 >>> UInt32.ofNat 3)))+x167)+((r162 ^^^ r163) ^^^ (x153 >>> UInt32.ofNat 10))))
    else
      zbl.k6 r6 l32 s35 rec37 s137
def zbl.l4 (r6:(List UInt32)) (rec37:((List UInt8) × (List UInt32))→Option (List UInt8)):((List UInt8) × (List UInt32))→Option (List UInt8)
  | (l32,s35) =>
    if decide (0 < (l32.length:Int)) then
      loop (zbl.l10 r6 l32 s35 rec37) (0,(List.replicate 64 (0:UInt32)))
    else
      zbl.k1 s35
def zbl (x0:List (List UInt8)):Option (List UInt8) :=
  bd (zat x0) fun r2 =>
  bd (zmu) fun r6 =>
  bd (zcz r2) fun r29 =>
  loop (zbl.l4 r6) (r29,([1779033703,3144134277,1013904242,2773480762,1359893119,2600822924,528734635,1541459225]:List UInt32))
set_option maxHeartbeats 2000000 in
theorem sha_Sum_ok {x0:List (List UInt8)} {r:(List UInt8)} {v0:Val} (hA:Gd F w) (h0:SlF (tSl tB) F v0 x0) (H:zbl x0=some r):Ret Tryz.prog K 84 [v0] w fun v w'=>∃ (F':Frz),v = .agg (zao r)∧(r).length=32∧St [] w F F' [] w':=by
 refine qa1 Tryz.func84 ?_;have hS:=St.start hA;dsimp only [zbl] at H;refine qs ?_;refine xm (zft (cs:=zao (List.replicate 32 (0:UInt8))) Ty.zsz rfl hS) ?_;rintro _ w1 ⟨g1,rfl,hS1⟩;refine qn ?_;obtain ⟨r2,hr2,H⟩:=zap H;refine qsc ?_;refine lm (zlx hS1.good h0 hr2) ?_;rintro ur2_0 w3 ⟨Fr2,_,rfl,hT3⟩;have hS3:=hS1.call hT3;have ler2:=hT3.ext;refine qm ?_;refine qs ?_;refine qr (zsg (vs:=[(0,.i .u32 ((1779033703:UInt32).toNat:Int)),(1,.i .u32 ((3144134277:UInt32).toNat:Int)),(2,.i .u32 ((1013904242:UInt32).toNat:Int)),(3,.i .u32 ((2773480762:UInt32).toNat:Int)),(4,.i .u32 ((1359893119:UInt32).toNat:Int)),(5,.i .u32 ((2600822924:UInt32).toNat:Int)),(6,.i .u32 ((528734635:UInt32).toNat:Int)),(7,.i .u32 ((1541459225:UInt32).toNat:Int))]) (v:=.agg (arrC 8 cW 0 ([1779033703,3144134277,1013904242,2773480762,1359893119,2600822924,528734635,1541459225]:List UInt32))) Ty.zzj rfl rfl) ?_;refine xm (zft (cs:=arrC 8 cW 0 (List.replicate 8 (0:UInt32))) Ty.zxp rfl hS3) ?_;rintro _ w4 ⟨g4,rfl,hS4⟩;refine um (zea (c:=arrC 8 cW 0 ([1779033703,3144134277,1013904242,2773480762,1359893119,2600822924,528734635,1541459225]:List UInt32)) 0 (arrC 8 cW 0 ([1779033703,3144134277,1013904242,2773480762,1359893119,2600822924,528734635,1541459225]:List UInt32)) rfl rfl hS4 rfl rfl Ty.zon rfl rfl rfl) ?_;rintro _ w5 hS5;refine qn ?_;obtain ⟨r6,hr6,H⟩:=zap H;refine qs ?_;refine lm (zxw hS5.good hr6) ?_;rintro ur6_0 w7 ⟨Fr6,_,rfl,hT7⟩;have hS7:=hS5.call hT7;have ler6:=hT7.ext;refine qm ?_;refine zai (fun E wq=>∃ s9:List UInt32,zbl.k1 s9=some r ∧ ∃ (F8:Frz),E=[(2,pl g1 0),(4,pl g4 0)]∧Fr6.le F8∧(s9).length=8∧St [] w F F8 [.box g4 (arrC 8 cW 0 s9),.box g1 (zao (List.replicate 32 (0:UInt8)))] wq) ?_ ?_
 ·obtain ⟨r29,hr29,H⟩:=zap H;refine qsc ?_;refine lm (zxx (Gd.now hS7.wf) (hS7.rowNow (k:=2) rfl) hr29) ?_;rintro ur29_0 w30 ⟨Fr29,_,rfl,hT30⟩;have hS30:=hS7.lentFlat hT30 ⟨fun _ _ _ h=>row_flat (t:=tB) (fun h=>h) h,trivial⟩;refine qm ?_;refine zar ?_;refine zbm (fun (s:(List UInt8) × (List UInt32)) E wq=>∃ (F31:Frz) (u33:Val),E=[(2,pl g1 0),(4,pl g4 0),(5,ur6_0),(6,u33)]∧Fr6.le F31∧SlF tB F31 u33 s.1∧(s.2).length=8∧St [] w F F31 [.row tW ur6_0 r6,.box g4 (arrC 8 cW 0 s.2),.box g1 (zao (List.replicate 32 (0:UInt8)))] wq) H ?_ ?_
  ·obtain ⟨F175,le175,hf175,hS175⟩:=hS30.freezeR 0 [1,2,3,4] rfl (by decide) (by decide);exact ⟨_,⟨F175,ur29_0,rfl,le175,hf175,rfl,hS175.pick [0,1,3] (by decide)⟩,⟨rfl,rfl,rfl,rfl,trivial⟩⟩
  ·rintro rec37 ⟨l32,s35⟩ E w31 hI H
   try dsimp only at hI
   obtain ⟨F31,u33,rfl,le31,hx34,hl36,hS31⟩:=hI;dsimp only [zbl.l4] at H;refine zay ?_;refine qsc ?_;refine qr (zbs Tryz.underlying47 rfl hx34.ln) ?_;refine qr (zah rfl rfl zgn) ?_;refine qn ?_;refine qy H (fun hc38 H=>?_) (fun hc38 H=>?_)
   ·refine qk ?_;refine zai (fun E wq=>∃ s40:List UInt32,zbl.k5 l32 rec37 s40=some r ∧ ∃ (F39:Frz),E=[(2,pl g1 0),(4,pl g4 0),(5,ur6_0),(6,u33)]∧F31.le F39∧(s40).length=8∧St [] w F F39 [.row tW ur6_0 r6,.box g4 (arrC 8 cW 0 s40),.box g1 (zao (List.replicate 32 (0:UInt8)))] wq) ?_ ?_
    ·refine zar ?_;refine qs ?_;refine xm (zft (cs:=arrC 64 cW 0 (List.replicate 64 (0:UInt32))) Ty.zxq rfl hS31) ?_;rintro _ w44 ⟨g44,rfl,hS44⟩;refine qn ?_;refine zai (fun E wq=>∃ s46:List UInt32,zbl.k6 r6 l32 s35 rec37 s46=some r ∧ ∃ (F45:Frz),E=[(2,pl g1 0),(4,pl g4 0),(5,ur6_0),(6,u33),(7,pl g44 0)]∧F31.le F45∧(s46).length=64∧St [] w F F45 [.box g44 (arrC 64 cW 0 s46),.row tW ur6_0 r6,.box g4 (arrC 8 cW 0 s35),.box g1 (zao (List.replicate 32 (0:UInt8)))] wq) ?_ ?_
     ·refine qsm ?_;refine zar ?_;refine zbm (fun (s:Int × (List UInt32)) E wq=>∃ (F135:Frz),E=[(2,pl g1 0),(4,pl g4 0),(5,ur6_0),(6,u33),(7,pl g44 0),(35,.i .i64 s.1)]∧F31.le F135∧(s.2).length=64∧St [] w F F135 [.box g44 (arrC 64 cW 0 s.2),.row tW ur6_0 r6,.box g4 (arrC 8 cW 0 s35),.box g1 (zao (List.replicate 32 (0:UInt8)))] wq) H ?_ ?_
      ·exact ⟨_,⟨F31,rfl,(Frz.le.refl _),(List.length_replicate),hS44⟩,⟨rfl,rfl,rfl,rfl,rfl,rfl,trivial⟩⟩
      ·rintro rec139 ⟨i136,s137⟩ E w135 hI H
       try dsimp only at hI
       obtain ⟨F135,rfl,le135,hl138,hS135⟩:=hI;dsimp only [zbl.l10] at H;refine qs ?_;refine qr (zah rfl rfl zbp) ?_;refine qn ?_;refine zay ?_;refine qy H (fun hc140 H=>?_) (fun hc140 H=>?_)
       ·refine qk ?_;refine zai (fun E wq=>∃ s142:List UInt32,zbl.k11 i136 rec139 s142=some r ∧ ∃ (F141:Frz),E=[(2,pl g1 0),(4,pl g4 0),(5,ur6_0),(6,u33),(7,pl g44 0),(35,.i .i64 i136)]∧F135.le F141∧(s142).length=64∧St [] w F F141 [.box g44 (arrC 64 cW 0 s142),.row tW ur6_0 r6,.box g4 (arrC 8 cW 0 s35),.box g1 (zao (List.replicate 32 (0:UInt8)))] wq) ?_ ?_
        ·refine zar ?_;refine qsc ?_;refine qm ?_;refine zay ?_;refine qsc ?_;refine qr (zah rfl rfl zbp) ?_;refine qn ?_;refine qy H (fun hc144 H=>?_) (fun hc144 H=>?_)
         ·obtain ⟨l145,hl145,r147,hr147,H⟩:=bd2 H;obtain ⟨x148,hx148,H⟩:=zap H;refine qs ?_;refine q4 ?_;refine q3 ?_;refine zse (wr (4*i136)) (wr (wr (4*i136)+4)) rfl rfl rfl rfl Tryz.underlying47 Ty.zjw rfl (.inr ⟨_,_,rfl,rfl⟩) (.inr ⟨_,_,rfl,rfl⟩) hx34 hl145 ?_;intro q146 hv146;refine lm (sha_high_ok hS135.good (hv146.mono le135) hr147) ?_;rintro v149 w149 ⟨Fr147,rfl,hT149⟩;have hS149:=hS135.lent hT149;refine qr (zgv Tryz.underlying194 Tryz.underlying169 rfl (toW_of _)) ?_;obtain ⟨hp150,hy150⟩:=zac hx148;refine qr (zev Tryz.underlying170 Ty.zcd rfl rfl hp150 (zcm hl138 hy150)) ?_;refine um (ztl (cs':=arrC 64 cW 0 (s137.set i136.toNat (toW r147))) 0 rfl rfl hS149 rfl rfl Ty.zcd (by rw [zqc,Nat.zero_add];exact (zcm hl138 hy150)) (zra hl138 (zcm hl138 hy150) _)) ?_;rintro _ w151 hS151;refine qn ?_;refine zcc _ rfl ?_;exact zbe _ ⟨(s137.set i136.toNat (toW r147)),H,⟨F135,rfl,(Frz.le.refl _),(by rw [List.length_set];exact hl138),hS151⟩⟩ ⟨rfl,rfl,rfl,rfl,rfl,rfl,trivial⟩
         ·refine qk ?_;refine zay ?_;obtain ⟨x152,hx152,x153,hx153,H⟩:=bd2 H;refine zaz (G:=(nowF _)) [0,1,2,3,4,5,6,7,8,9] rfl Ty.mixed (by kernel_rfl) (zdc _) ?_;refine q2 ?_;obtain ⟨hp154,hy154⟩:=zac hx152;refine qr (zev Tryz.underlying170 Ty.zcd rfl rfl hp154 (zcm hl138 hy154)) ?_;obtain ⟨_,hy155⟩:=zac hx152;refine qr (zem 0 Ty.zcv rfl hS135 rfl (by rw [Nat.zero_add];exact zdr hl138 hy155)) ?_;refine q2 ?_;obtain ⟨hp156,hy156⟩:=zac hx153;refine qr (zev Tryz.underlying170 Ty.zcd rfl rfl hp156 (zcm hl138 hy156)) ?_;obtain ⟨_,hy157⟩:=zac hx153;refine qr (zem 0 Ty.zcv rfl hS135 rfl (by rw [Nat.zero_add];exact zdr hl138 hy157)) ?_;refine qc ?_;refine qm ?_;obtain ⟨r158,hr158,r159,hr159,H⟩:=bd2 H;refine qsc ?_;refine lm (zce hS135.good hr158) ?_;rintro v160 w160 ⟨Fr158,rfl,hT160⟩;have hS160:=hS135.lent hT160;refine qc ?_;refine lm (zce hS160.good hr159) ?_;rintro v161 w161 ⟨Fr159,rfl,hT161⟩;have hS161:=hS160.lent hT161;refine qr (zah rfl rfl ((zdn (.inr (.inr rfl))).trans (congrArg (fun z=>some (Val.i .u32 z)) (Go.Wk.zgh r158 r159)))) ?_;refine qc ?_;refine qr (zah rfl rfl ((zod (by decide) (by decide)).trans (congrArg (fun z=>some (Val.i .u32 z)) (zus _ _ 3 rfl (by decide))))) ?_;refine qr (zah rfl rfl ((zdn (.inr (.inr rfl))).trans (congrArg (fun z=>some (Val.i .u32 z)) (Go.Wk.zgh (r158 ^^^ r159) (x152 >>> UInt32.ofNat 3))))) ?_;refine qm ?_;obtain ⟨r162,hr162,r163,hr163,H⟩:=bd2 H;refine qsc ?_;refine lm (zce hS161.good hr162) ?_;rintro v164 w164 ⟨Fr162,rfl,hT164⟩;have hS164:=hS161.lent hT164;refine qc ?_;refine lm (zce hS164.good hr163) ?_;rintro v165 w165 ⟨Fr163,rfl,hT165⟩;have hS165:=hS164.lent hT165;refine qr (zah rfl rfl ((zdn (.inr (.inr rfl))).trans (congrArg (fun z=>some (Val.i .u32 z)) (Go.Wk.zgh r162 r163)))) ?_;refine qc ?_;refine qr (zah rfl rfl ((zod (by decide) (by decide)).trans (congrArg (fun z=>some (Val.i .u32 z)) (zus _ _ 10 rfl (by decide))))) ?_;refine qr (zah rfl rfl ((zdn (.inr (.inr rfl))).trans (congrArg (fun z=>some (Val.i .u32 z)) (Go.Wk.zgh (r162 ^^^ r163) (x153 >>> UInt32.ofNat 10))))) ?_;refine qm ?_;obtain ⟨x166,hx166,x167,hx167,H⟩:=bd2 H;obtain ⟨x168,hx168,H⟩:=zap H;refine zaz (G:=F135) [0,1,2,3,4,5,6,7,8,9,10,11,12,13,14,15] rfl Ty.mixed (by kernel_rfl) hS165.agree ?_
          refine q3 ?_;obtain ⟨hp169,hy169⟩:=zac hx166;refine qr (zev Tryz.underlying170 Ty.zcd rfl rfl hp169 (zcm hl138 hy169)) ?_;obtain ⟨_,hy170⟩:=zac hx166;refine qq (zem 0 Ty.zcv rfl hS165 rfl (by rw [Nat.zero_add];exact zdr hl138 hy170)) ?_;refine qc ?_;refine qr (zah rfl rfl (congrArg (fun z=>some (Val.i .u32 z)) (zfz x166 ((r158 ^^^ r159) ^^^ (x152 >>> UInt32.ofNat 3))))) ?_;refine q2 ?_;obtain ⟨hp171,hy171⟩:=zac hx167;refine qr (zev Tryz.underlying170 Ty.zcd rfl rfl hp171 (zcm hl138 hy171)) ?_;obtain ⟨_,hy172⟩:=zac hx167;refine qq (zem 0 Ty.zcv rfl hS165 rfl (by rw [Nat.zero_add];exact zdr hl138 hy172)) ?_;refine qr (zah rfl rfl (congrArg (fun z=>some (Val.i .u32 z)) (zfz (x166+((r158 ^^^ r159) ^^^ (x152 >>> UInt32.ofNat 3))) x167))) ?_;refine qc ?_;refine qr (zah rfl rfl (congrArg (fun z=>some (Val.i .u32 z)) (zfz ((x166+((r158 ^^^ r159) ^^^ (x152 >>> UInt32.ofNat 3)))+x167) ((r162 ^^^ r163) ^^^ (x153 >>> UInt32.ofNat 10))))) ?_;obtain ⟨hp173,hy173⟩:=zac hx168;refine qr (zev Tryz.underlying170 Ty.zcd rfl rfl hp173 (zcm hl138 hy173)) ?_;refine qu (ztl (cs':=arrC 64 cW 0 (s137.set i136.toNat (((x166+((r158 ^^^ r159) ^^^ (x152 >>> UInt32.ofNat 3)))+x167)+((r162 ^^^ r163) ^^^ (x153 >>> UInt32.ofNat 10))))) 0 rfl rfl hS165 rfl rfl Ty.zcd (by rw [zqc,Nat.zero_add];exact (zcm hl138 hy173)) (zra hl138 (zcm hl138 hy173) _)) ?_;rintro _ w174 hS174;refine qw hS174 ?_;refine zbk ?_;refine zbf ?_;exact zbe _ ⟨(s137.set i136.toNat (((x166+((r158 ^^^ r159) ^^^ (x152 >>> UInt32.ofNat 3)))+x167)+((r162 ^^^ r163) ^^^ (x153 >>> UInt32.ofNat 10)))),H,⟨F135,rfl,(Frz.le.refl _),(by rw [List.length_set];exact hl138),hS174⟩⟩ ⟨rfl,rfl,rfl,rfl,rfl,rfl,trivial⟩
        ·rintro E w141 ⟨s142,H,F141,rfl,le141,hl143,hS141⟩;dsimp only [zbl.k11] at H;refine qd ?_;refine q2 ?_;refine zbk ?_;exact zbd (wr (i136+1),s142) _ H ⟨F141,rfl,(le135.trans le141),hl143,hS141⟩ ⟨rfl,rfl,rfl,rfl,rfl,rfl,trivial⟩
       ·refine zcc _ rfl ?_;exact zbe _ ⟨s137,H,⟨F135,rfl,le135,hl138,hS135⟩⟩ ⟨rfl,rfl,rfl,rfl,rfl,trivial⟩
     ·rintro E w45 ⟨s46,H,F45,rfl,le45,hl47,hS45⟩;dsimp only [zbl.k6] at H;refine qs ?_;refine qr (zde 2 (arrC 8 cW 0 s35) Ty.agg172 Ty.zon (Nat.zero_lt_succ _) rfl hS45 rfl (fun q u h=>zdb (post:=[]) rfl h)) ?_;refine xm (zft (cs:=arrC 8 cW 0 (List.replicate 8 (0:UInt32))) Ty.zxp rfl hS45) ?_;rintro _ w48 ⟨g48,rfl,hS48⟩;refine um (zea (c:=arrC 8 cW 0 s35) 0 (arrC 8 cW 0 s35) rfl rfl hS48 rfl rfl Ty.zon rfl rfl rfl) ?_;rintro _ w49 hS49;refine qn ?_;refine zai (fun E wq=>∃ s51:List UInt32,zbl.k7 l32 s35 rec37 s51=some r ∧ ∃ (F50:Frz),E=[(2,pl g1 0),(4,pl g4 0),(5,ur6_0),(6,u33),(13,pl g48 0)]∧F45.le F50∧(s51).length=8∧St [] w F F50 [.box g48 (arrC 8 cW 0 s51),.row tW ur6_0 r6,.box g4 (arrC 8 cW 0 s35),.box g1 (zao (List.replicate 32 (0:UInt8)))] wq) ?_ ?_
      ·refine qsm ?_;refine zar ?_;refine zbm (fun (s:Int × (List UInt32)) E wq=>∃ (F68:Frz),E=[(2,pl g1 0),(4,pl g4 0),(5,ur6_0),(6,u33),(7,pl g44 0),(13,pl g48 0),(92,.i .i64 s.1)]∧F45.le F68∧(s.2).length=8∧St [] w F F68 [.box g48 (arrC 8 cW 0 s.2),.box g44 (arrC 64 cW 0 s46),.row tW ur6_0 r6,.box g4 (arrC 8 cW 0 s35),.box g1 (zao (List.replicate 32 (0:UInt8)))] wq) H ?_ ?_
       ·exact ⟨_,⟨F45,rfl,(Frz.le.refl _),hl36,hS49⟩,⟨rfl,rfl,rfl,rfl,rfl,rfl,rfl,trivial⟩⟩
       ·rintro rec72 ⟨i69,s70⟩ E w68 hI H
        try dsimp only at hI
        obtain ⟨F68,rfl,le68,hl71,hS68⟩:=hI;dsimp only [zbl.l9] at H;refine qs ?_;refine qr (zah rfl rfl zbp) ?_;refine qn ?_;refine zay ?_;refine qy H (fun hc73 H=>?_) (fun hc73 H=>?_)
        ·refine qk ?_;refine zay ?_;refine zar ?_;refine qsc ?_;refine qm ?_;refine zay ?_;obtain ⟨x74,hx74,x75,hx75,H⟩:=bd2 H;refine zaz (G:=(nowF _)) [0,1,2,3,4,5] rfl Ty.mixed (by kernel_rfl) (zdc _) ?_;obtain ⟨hp76,hy76⟩:=zac hx74;refine qr (zev Tryz.underlying172 Ty.zcd rfl rfl hp76 (zcm hl71 hy76)) ?_;obtain ⟨_,hy77⟩:=zac hx74;refine qr (zem 0 Ty.zcv rfl hS68 rfl (by rw [Nat.zero_add];exact zdr hl71 hy77)) ?_;obtain ⟨hp78,hy78⟩:=zac hx75;refine qr (zev Tryz.underlying172 Ty.zcd rfl rfl hp78 (zcm hl71 hy78)) ?_;obtain ⟨_,hy79⟩:=zac hx75;refine qr (zem 0 Ty.zcv rfl hS68 rfl (by rw [Nat.zero_add];exact zdr hl71 hy79)) ?_;refine qc ?_;refine qm ?_;obtain ⟨r80,hr80,r81,hr81,H⟩:=bd2 H;obtain ⟨r82,hr82,H⟩:=zap H;refine qsc ?_;refine lm (zce hS68.good hr80) ?_;rintro v83 w83 ⟨Fr80,rfl,hT83⟩;have hS83:=hS68.lent hT83;refine qc ?_;refine lm (zce hS83.good hr81) ?_;rintro v84 w84 ⟨Fr81,rfl,hT84⟩;have hS84:=hS83.lent hT84;refine qr (zah rfl rfl ((zdn (.inr (.inr rfl))).trans (congrArg (fun z=>some (Val.i .u32 z)) (Go.Wk.zgh r80 r81)))) ?_;refine qc ?_;refine lm (zce hS84.good hr82) ?_;rintro v85 w85 ⟨Fr82,rfl,hT85⟩;have hS85:=hS84.lent hT85;refine qr (zah rfl rfl ((zdn (.inr (.inr rfl))).trans (congrArg (fun z=>some (Val.i .u32 z)) (Go.Wk.zgh (r80 ^^^ r81) r82)))) ?_;refine qm ?_;refine zay ?_;obtain ⟨x86,hx86,x87,hx87,H⟩:=bd2 H;obtain ⟨x88,hx88,x89,hx89,H⟩:=bd2 H;obtain ⟨x91,hx91,H⟩:=zap H;refine zaz (G:=(nowF _)) [0,1,2,3,4,5,6,7,8,9,10,11,12,13,14,15,16,17,18,19,20,21,22,23,24] rfl Ty.mixed (by kernel_rfl) (zdc _) ?_;obtain ⟨hp92,hy92⟩:=zac hx86;refine qr (zev Tryz.underlying172 Ty.zcd rfl rfl hp92 (zcm hl71 hy92)) ?_;obtain ⟨_,hy93⟩:=zac hx86;refine qr (zem 0 Ty.zcv rfl hS85 rfl (by rw [Nat.zero_add];exact zdr hl71 hy93)) ?_;refine qc ?_;refine qr (zah rfl rfl (congrArg (fun z=>some (Val.i .u32 z)) (zfz x86 ((r80 ^^^ r81) ^^^ r82)))) ?_;refine qc ?_;obtain ⟨hp94,hy94⟩:=zac hx87;refine qr (zev Tryz.underlying172 Ty.zcd rfl rfl hp94 (zcm hl71 hy94)) ?_;obtain ⟨_,hy95⟩:=zac hx87;refine qr (zem 0 Ty.zcv rfl hS85 rfl (by rw [Nat.zero_add];exact zdr hl71 hy95)) ?_;refine qr (zah rfl rfl ((zdn (.inl rfl)).trans (congrArg (fun z=>some (Val.i .u32 z)) (Go.Wk.zmi x74 x87)))) ?_
         refine qc ?_;refine qr (O_un rfl (uW_not x74)) ?_;obtain ⟨hp96,hy96⟩:=zac hx88;refine qr (zev Tryz.underlying172 Ty.zcd rfl rfl hp96 (zcm hl71 hy96)) ?_;obtain ⟨_,hy97⟩:=zac hx88;refine qr (zem 0 Ty.zcv rfl hS85 rfl (by rw [Nat.zero_add];exact zdr hl71 hy97)) ?_;refine qr (zah rfl rfl ((zdn (.inl rfl)).trans (congrArg (fun z=>some (Val.i .u32 z)) (Go.Wk.zmi (~~~x74) x88)))) ?_;refine qr (zah rfl rfl ((zdn (.inr (.inr rfl))).trans (congrArg (fun z=>some (Val.i .u32 z)) (Go.Wk.zgh (x74 &&& x87) ((~~~x74) &&& x88))))) ?_;refine qr (zah rfl rfl (congrArg (fun z=>some (Val.i .u32 z)) (zfz (x86+((r80 ^^^ r81) ^^^ r82)) ((x74 &&& x87) ^^^ ((~~~x74) &&& x88))))) ?_;refine q2 ?_;obtain ⟨hp98,hy98⟩:=zac hx89;obtain ⟨cs98,hr98,he98⟩:=hS85.rowAt (k:=2) rfl hy98;obtain rfl:=hr98;replace he98:=qj 1 he98;have hi98:=he98.ixd;refine qi Tryz.underlying192 Ty.zcd hi98 hp98 ?_;refine qr (zfs 0 Ty.zcv rfl he98 (by omega) rfl) ?_;refine qr (zah rfl rfl (congrArg (fun z=>some (Val.i .u32 z)) (zfz ((x86+((r80 ^^^ r81) ^^^ r82))+((x74 &&& x87) ^^^ ((~~~x74) &&& x88))) x89))) ?_;refine qc ?_;obtain ⟨hp99,hy99⟩:=zac hx91;refine qr (zev Tryz.underlying170 Ty.zcd rfl rfl hp99 (zcm hl47 hy99)) ?_;obtain ⟨_,hy100⟩:=zac hx91;refine qr (zem 1 Ty.zcv rfl hS85 rfl (by rw [Nat.zero_add];exact zdr hl47 hy100)) ?_;refine qr (zah rfl rfl (congrArg (fun z=>some (Val.i .u32 z)) (zfz (((x86+((r80 ^^^ r81) ^^^ r82))+((x74 &&& x87) ^^^ ((~~~x74) &&& x88)))+x89) x91))) ?_;refine qm ?_;obtain ⟨r101,hr101,r102,hr102,H⟩:=bd2 H;obtain ⟨r103,hr103,H⟩:=zap H;refine qsc ?_;refine lm (zce hS85.good hr101) ?_;rintro v104 w104 ⟨Fr101,rfl,hT104⟩;have hS104:=hS85.lent hT104;refine qc ?_;refine lm (zce hS104.good hr102) ?_;rintro v105 w105 ⟨Fr102,rfl,hT105⟩;have hS105:=hS104.lent hT105;refine qr (zah rfl rfl ((zdn (.inr (.inr rfl))).trans (congrArg (fun z=>some (Val.i .u32 z)) (Go.Wk.zgh r101 r102)))) ?_;refine qc ?_;refine lm (zce hS105.good hr103) ?_;rintro v106 w106 ⟨Fr103,rfl,hT106⟩;have hS106:=hS105.lent hT106;refine qr (zah rfl rfl ((zdn (.inr (.inr rfl))).trans (congrArg (fun z=>some (Val.i .u32 z)) (Go.Wk.zgh (r101 ^^^ r102) r103)))) ?_;refine qm ?_;obtain ⟨x107,hx107,x108,hx108,H⟩:=bd2 H;obtain ⟨x109,hx109,x110,hx110,H⟩:=bd2 H
         refine qs ?_;refine q2 ?_;obtain ⟨hp111,hy111⟩:=zac hx107;refine qr (zev Tryz.underlying172 Ty.zcd rfl rfl hp111 (zcm hl71 hy111)) ?_;obtain ⟨_,hy112⟩:=zac hx107;refine qr (zem 0 Ty.zcv rfl hS106 rfl (by rw [Nat.zero_add];exact zdr hl71 hy112)) ?_;refine qr (zah rfl rfl ((zdn (.inl rfl)).trans (congrArg (fun z=>some (Val.i .u32 z)) (Go.Wk.zmi x75 x107)))) ?_;refine qc ?_;obtain ⟨hp113,hy113⟩:=zac hx108;refine qr (zev Tryz.underlying172 Ty.zcd rfl rfl hp113 (zcm hl71 hy113)) ?_;obtain ⟨_,hy114⟩:=zac hx108;refine qr (zem 0 Ty.zcv rfl hS106 rfl (by rw [Nat.zero_add];exact zdr hl71 hy114)) ?_;refine qr (zah rfl rfl ((zdn (.inl rfl)).trans (congrArg (fun z=>some (Val.i .u32 z)) (Go.Wk.zmi x75 x108)))) ?_;refine qr (zah rfl rfl ((zdn (.inr (.inr rfl))).trans (congrArg (fun z=>some (Val.i .u32 z)) (Go.Wk.zgh (x75 &&& x107) (x75 &&& x108))))) ?_;obtain ⟨hp115,hy115⟩:=zac hx109;refine qr (zev Tryz.underlying172 Ty.zcd rfl rfl hp115 (zcm hl71 hy115)) ?_;obtain ⟨_,hy116⟩:=zac hx109;refine qr (zem 0 Ty.zcv rfl hS106 rfl (by rw [Nat.zero_add];exact zdr hl71 hy116)) ?_;obtain ⟨hp117,hy117⟩:=zac hx110;refine qr (zev Tryz.underlying172 Ty.zcd rfl rfl hp117 (zcm hl71 hy117)) ?_;obtain ⟨_,hy118⟩:=zac hx110;refine qr (zem 0 Ty.zcv rfl hS106 rfl (by rw [Nat.zero_add];exact zdr hl71 hy118)) ?_;refine qr (zah rfl rfl ((zdn (.inl rfl)).trans (congrArg (fun z=>some (Val.i .u32 z)) (Go.Wk.zmi x109 x110)))) ?_;refine qr (zah rfl rfl ((zdn (.inr (.inr rfl))).trans (congrArg (fun z=>some (Val.i .u32 z)) (Go.Wk.zgh ((x75 &&& x107) ^^^ (x75 &&& x108)) (x109 &&& x110))))) ?_;refine qr (zah rfl rfl (congrArg (fun z=>some (Val.i .u32 z)) (zfz ((r101 ^^^ r102) ^^^ r103) (((x75 &&& x107) ^^^ (x75 &&& x108)) ^^^ (x109 &&& x110))))) ?_;refine qm ?_;obtain ⟨x119,hx119,x120,hx120,H⟩:=bd2 H;obtain ⟨x121,hx121,x122,hx122,H⟩:=bd2 H;obtain ⟨x123,hx123,H⟩:=zap H;refine qd ?_;refine q2 ?_;refine qr (zah rfl rfl (congrArg (fun z=>some (Val.i .u32 z)) (zfz ((((x86+((r80 ^^^ r81) ^^^ r82))+((x74 &&& x87) ^^^ ((~~~x74) &&& x88)))+x89)+x91) (((r101 ^^^ r102) ^^^ r103)+(((x75 &&& x107) ^^^ (x75 &&& x108)) ^^^ (x109 &&& x110)))))) ?_;refine qc ?_;obtain ⟨hp124,hy124⟩:=zac hx119;refine qr (zev Tryz.underlying172 Ty.zcd rfl rfl hp124 (zcm hl71 hy124)) ?_
         obtain ⟨_,hy125⟩:=zac hx119;refine qr (zem 0 Ty.zcv rfl hS106 rfl (by rw [Nat.zero_add];exact zdr hl71 hy125)) ?_;obtain ⟨hp126,hy126⟩:=zac hx120;refine qr (zev Tryz.underlying172 Ty.zcd rfl rfl hp126 (zcm hl71 hy126)) ?_;obtain ⟨_,hy127⟩:=zac hx120;refine qr (zem 0 Ty.zcv rfl hS106 rfl (by rw [Nat.zero_add];exact zdr hl71 hy127)) ?_;obtain ⟨hp128,hy128⟩:=zac hx121;refine qr (zev Tryz.underlying172 Ty.zcd rfl rfl hp128 (zcm hl71 hy128)) ?_;obtain ⟨_,hy129⟩:=zac hx121;refine qr (zem 0 Ty.zcv rfl hS106 rfl (by rw [Nat.zero_add];exact zdr hl71 hy129)) ?_;refine qc ?_;refine qr (zah rfl rfl (congrArg (fun z=>some (Val.i .u32 z)) (zfz x121 ((((x86+((r80 ^^^ r81) ^^^ r82))+((x74 &&& x87) ^^^ ((~~~x74) &&& x88)))+x89)+x91)))) ?_;refine qc ?_;obtain ⟨hp130,hy130⟩:=zac hx122;refine qr (zev Tryz.underlying172 Ty.zcd rfl rfl hp130 (zcm hl71 hy130)) ?_;obtain ⟨_,hy131⟩:=zac hx122;refine qr (zem 0 Ty.zcv rfl hS106 rfl (by rw [Nat.zero_add];exact zdr hl71 hy131)) ?_;obtain ⟨hp132,hy132⟩:=zac hx123;refine qr (zev Tryz.underlying172 Ty.zcd rfl rfl hp132 (zcm hl71 hy132)) ?_;obtain ⟨_,hy133⟩:=zac hx123;refine qr (zem 0 Ty.zcv rfl hS106 rfl (by rw [Nat.zero_add];exact zdr hl71 hy133)) ?_;refine qr (zsg (vs:=[(0,.i .u32 ((((((x86+((r80 ^^^ r81) ^^^ r82))+((x74 &&& x87) ^^^ ((~~~x74) &&& x88)))+x89)+x91)+(((r101 ^^^ r102) ^^^ r103)+(((x75 &&& x107) ^^^ (x75 &&& x108)) ^^^ (x109 &&& x110)))).toNat:Int)),(1,.i .u32 (x75.toNat:Int)),(2,.i .u32 (x119.toNat:Int)),(3,.i .u32 (x120.toNat:Int)),(4,.i .u32 ((x121+((((x86+((r80 ^^^ r81) ^^^ r82))+((x74 &&& x87) ^^^ ((~~~x74) &&& x88)))+x89)+x91)).toNat:Int)),(5,.i .u32 (x74.toNat:Int)),(6,.i .u32 (x122.toNat:Int)),(7,.i .u32 (x123.toNat:Int))]) (v:=.agg (arrC 8 cW 0 ([(((((x86+((r80 ^^^ r81) ^^^ r82))+((x74 &&& x87) ^^^ ((~~~x74) &&& x88)))+x89)+x91)+(((r101 ^^^ r102) ^^^ r103)+(((x75 &&& x107) ^^^ (x75 &&& x108)) ^^^ (x109 &&& x110)))),x75,x119,x120,(x121+((((x86+((r80 ^^^ r81) ^^^ r82))+((x74 &&& x87) ^^^ ((~~~x74) &&& x88)))+x89)+x91)),x74,x122,x123]:List UInt32))) Ty.zzj rfl rfl) ?_;refine um (zea (c:=arrC 8 cW 0 ([(((((x86+((r80 ^^^ r81) ^^^ r82))+((x74 &&& x87) ^^^ ((~~~x74) &&& x88)))+x89)+x91)+(((r101 ^^^ r102) ^^^ r103)+(((x75 &&& x107) ^^^ (x75 &&& x108)) ^^^ (x109 &&& x110)))),x75,x119,x120,(x121+((((x86+((r80 ^^^ r81) ^^^ r82))+((x74 &&& x87) ^^^ ((~~~x74) &&& x88)))+x89)+x91)),x74,x122,x123]:List UInt32)) 0 (arrC 8 cW 0 ([(((((x86+((r80 ^^^ r81) ^^^ r82))+((x74 &&& x87) ^^^ ((~~~x74) &&& x88)))+x89)+x91)+(((r101 ^^^ r102) ^^^ r103)+(((x75 &&& x107) ^^^ (x75 &&& x108)) ^^^ (x109 &&& x110)))),x75,x119,x120,(x121+((((x86+((r80 ^^^ r81) ^^^ r82))+((x74 &&& x87) ^^^ ((~~~x74) &&& x88)))+x89)+x91)),x74,x122,x123]:List UInt32)) rfl rfl hS106 rfl rfl Ty.zon rfl rfl rfl) ?_
         rintro _ w134 hS134;refine zbk ?_;refine zbf ?_;refine zcl ?_;refine qd ?_;refine q2 ?_;refine zbk ?_;exact zbd (wr (i69+1),([(((((x86+((r80 ^^^ r81) ^^^ r82))+((x74 &&& x87) ^^^ ((~~~x74) &&& x88)))+x89)+x91)+(((r101 ^^^ r102) ^^^ r103)+(((x75 &&& x107) ^^^ (x75 &&& x108)) ^^^ (x109 &&& x110)))),x75,x119,x120,(x121+((((x86+((r80 ^^^ r81) ^^^ r82))+((x74 &&& x87) ^^^ ((~~~x74) &&& x88)))+x89)+x91)),x74,x122,x123]:List UInt32)) _ H ⟨F68,rfl,le68,rfl,hS134⟩ ⟨rfl,rfl,rfl,rfl,rfl,rfl,rfl,trivial⟩
        ·refine zcc _ rfl ?_;exact zbe _ ⟨s70,H,⟨F68,rfl,le68,hl71,hS68.pick [0,2,3,4] (by decide)⟩⟩ ⟨rfl,rfl,rfl,rfl,rfl,trivial⟩
      ·rintro E w50 ⟨s51,H,F50,rfl,le50,hl52,hS50⟩;dsimp only [zbl.k7] at H;refine qsm ?_;refine zar ?_;refine zbm (fun (s:Int × (List UInt32)) E wq=>∃ (F53:Frz),E=[(2,pl g1 0),(4,pl g4 0),(5,ur6_0),(6,u33),(13,pl g48 0),(175,.i .i64 s.1)]∧F50.le F53∧(s.2).length=8∧St [] w F F53 [.box g48 (arrC 8 cW 0 s51),.row tW ur6_0 r6,.box g4 (arrC 8 cW 0 s.2),.box g1 (zao (List.replicate 32 (0:UInt8)))] wq) H ?_ ?_
       ·exact ⟨_,⟨F50,rfl,(Frz.le.refl _),hl36,hS50⟩,⟨rfl,rfl,rfl,rfl,rfl,rfl,trivial⟩⟩
       ·rintro rec57 ⟨i54,s55⟩ E w53 hI H
        try dsimp only at hI
        obtain ⟨F53,rfl,le53,hl56,hS53⟩:=hI;dsimp only [zbl.l8] at H;refine qs ?_;refine qr (zah rfl rfl zbp) ?_;refine qn ?_;refine zay ?_;refine qy H (fun hc58 H=>?_) (fun hc58 H=>?_)
        ·refine qk ?_;refine zay ?_;refine zar ?_;refine qsc ?_;refine qm ?_;obtain ⟨x59,hx59,x60,hx60,H⟩:=bd2 H;obtain ⟨x61,hx61,H⟩:=zap H;refine zaz (G:=F53) [0,1,2,3,4,5,6,7,8] rfl Ty.mixed (by kernel_rfl) hS53.agree ?_;refine qc ?_;obtain ⟨hp62,hy62⟩:=zac hx59;refine qr (zev Tryz.underlying172 Ty.zcd rfl rfl hp62 (zcm hl56 hy62)) ?_;obtain ⟨_,hy63⟩:=zac hx59;refine qq (zem 2 Ty.zcv rfl hS53 rfl (by rw [Nat.zero_add];exact zdr hl56 hy63)) ?_;refine qc ?_;obtain ⟨hp64,hy64⟩:=zac hx60;refine qr (zev Tryz.underlying172 Ty.zcd rfl rfl hp64 (zcm hl52 hy64)) ?_;obtain ⟨_,hy65⟩:=zac hx60;refine qq (zem 0 Ty.zcv rfl hS53 rfl (by rw [Nat.zero_add];exact zdr hl52 hy65)) ?_;refine qr (zah rfl rfl (congrArg (fun z=>some (Val.i .u32 z)) (zfz x59 x60))) ?_;obtain ⟨hp66,hy66⟩:=zac hx61;refine qr (zev Tryz.underlying172 Ty.zcd rfl rfl hp66 (zcm hl56 hy66)) ?_;refine qu (ztl (cs':=arrC 8 cW 0 (s55.set i54.toNat (x59+x60))) 2 rfl rfl hS53 rfl rfl Ty.zcd (by rw [zqc,Nat.zero_add];exact (zcm hl56 hy66)) (zra hl56 (zcm hl56 hy66) _)) ?_;rintro _ w67 hS67;refine qw hS67 ?_;refine zbk ?_;refine zbf ?_;refine zcl ?_;refine qd ?_;refine q2 ?_;refine zbk ?_;exact zbd (wr (i54+1),(s55.set i54.toNat (x59+x60))) _ H ⟨F53,rfl,le53,(by rw [List.length_set];exact hl56),hS67⟩ ⟨rfl,rfl,rfl,rfl,rfl,rfl,trivial⟩
        ·refine zcc _ rfl ?_;refine zbf ?_;exact zbe _ ⟨s55,H,⟨F53,rfl,((le45.trans le50).trans le53),hl56,hS53.pick [1,2,3] (by decide)⟩⟩ ⟨rfl,rfl,rfl,rfl,trivial⟩
    ·rintro E w39 ⟨s40,H,F39,rfl,le39,hl41,hS39⟩;dsimp only [zbl.k5] at H;obtain ⟨l42,hl42,H⟩:=zap H;refine qd ?_;refine qc ?_;refine zse 64 (l32.length:Int) rfl rfl rfl rfl Tryz.underlying47 Ty.zjw rfl (.inr ⟨_,_,rfl,rfl⟩) (.inl ⟨rfl,rfl⟩) hx34 hl42 ?_;intro q43 hv43;refine qc ?_;refine zbk ?_;exact zbd (l42,s40) _ H ⟨F39,q43,rfl,(le31.trans le39),(hv43.mono le39),hl41,hS39⟩ ⟨rfl,rfl,rfl,rfl,trivial⟩
   ·refine zcc _ rfl ?_;exact zbe _ ⟨s35,H,⟨F31,rfl,le31,hl36,hS31.pick [1,2] (by decide)⟩⟩ ⟨rfl,rfl,trivial⟩
 ·rintro E w8 ⟨s9,H,F8,rfl,le8,hl10,hS8⟩;dsimp only [zbl.k1] at H;refine qs ?_;refine xm (zft (cs:=zao (List.replicate 32 (0:UInt8))) Ty.zsz rfl hS8) ?_;rintro _ w11 ⟨g11,rfl,hS11⟩;refine qn ?_;refine zai (fun E wq=>∃ s13:List UInt8,zbl.k2 s13=some r ∧ ∃ (F12:Frz),E=[(2,pl g1 0),(22,pl g11 0)]∧F8.le F12∧(s13).length=32∧St [] w F F12 [.box g11 (zao s13),.box g1 (zao (List.replicate 32 (0:UInt8)))] wq) ?_ ?_
  ·refine qsm ?_;refine zar ?_;refine zbm (fun (s:Int × (List UInt8)) E wq=>∃ (F16:Frz),E=[(2,pl g1 0),(4,pl g4 0),(22,pl g11 0),(187,.i .i64 s.1)]∧F8.le F16∧(s.2).length=32∧St [] w F F16 [.box g11 (zao s.2),.box g4 (arrC 8 cW 0 s9),.box g1 (zao (List.replicate 32 (0:UInt8)))] wq) H ?_ ?_
   ·exact ⟨_,⟨F8,rfl,(Frz.le.refl _),(List.length_replicate),hS11⟩,⟨rfl,rfl,rfl,rfl,trivial⟩⟩
   ·rintro rec20 ⟨i17,s18⟩ E w16 hI H
    try dsimp only at hI
    obtain ⟨F16,rfl,le16,hl19,hS16⟩:=hI;dsimp only [zbl.l3] at H;refine qs ?_;refine qr (zah rfl rfl zbp) ?_;refine qn ?_;refine zay ?_;refine qy H (fun hc21 H=>?_) (fun hc21 H=>?_)
    ·refine qk ?_;refine zay ?_;refine zar ?_;refine qsc ?_;refine qm ?_;obtain ⟨x22,hx22,x23,hx23,H⟩:=bd2 H;obtain ⟨x24,hx24,H⟩:=zap H;refine qd ?_;refine q2 ?_;refine qr (zah rfl rfl (by first | rfl | simp [binV,ibin])) ?_;obtain ⟨hp25,hy25⟩:=zac hx22;refine qr (zev Tryz.underlying172 Ty.zcd rfl rfl hp25 (zcm hl10 hy25)) ?_;obtain ⟨_,hy26⟩:=zac hx22;refine qr (zem 1 Ty.zcv rfl hS16 rfl (by rw [Nat.zero_add];exact zdr hl10 hy26)) ?_;refine qc ?_;refine qr (zah rfl rfl (by first | rfl | simp [binV,ibin])) ?_;refine q2 ?_;refine qr (zah rfl rfl (bW_shr hx23)) ?_;refine qr (zgv Tryz.underlying169 Tryz.underlying5 rfl (u32_u8 _)) ?_;obtain ⟨hp27,hy27⟩:=zac hx24;refine qr (zev Tryz.underlying58 Ty.zjw rfl rfl hp27 (zcm hl19 hy27)) ?_;refine um (ztl (cs':=zao (s18.set i17.toNat x23.toUInt8)) 0 rfl rfl hS16 rfl rfl Ty.zjw (by rw [zic,Nat.zero_add];exact (zcm hl19 hy27)) (id_put hl19 (zcm hl19 hy27) _)) ?_;rintro _ w28 hS28;refine zbk ?_;refine zbf ?_;refine zcl ?_;refine qd ?_;refine q2 ?_;refine zbk ?_;exact zbd (wr (i17+1),(s18.set i17.toNat x23.toUInt8)) _ H ⟨F16,rfl,le16,(by rw [List.length_set];exact hl19),hS28⟩ ⟨rfl,rfl,rfl,rfl,trivial⟩
    ·refine zcc _ rfl ?_;exact zbe _ ⟨s18,H,⟨F16,rfl,le16,hl19,hS16.pick [0,2] (by decide)⟩⟩ ⟨rfl,rfl,trivial⟩
  ·rintro E w12 ⟨s13,H,F12,rfl,le12,hl14,hS12⟩;dsimp only [zbl.k2] at H;refine qs ?_;refine qr (zde 0 (zao s13) Ty.zhs Ty.zcy (Nat.zero_lt_succ _) rfl hS12 rfl (fun q u h=>zdb (post:=[]) rfl h)) ?_;refine um (zea (c:=zao s13) 1 (zao s13) rfl rfl hS12 rfl rfl Ty.zcy rfl rfl rfl) ?_;rintro _ w15 hS15;refine qn ?_;obtain rfl:=oi H;refine zoe (vs:=[.agg (zao s13)]) rfl ⟨(zkv 1 Ty.zhs Ty.zcy hS15 rfl rfl),trivial⟩ ?_;exact ⟨F12,rfl,hl14,hS15.pick [] (by decide)⟩
def zjt (x0:List UInt8) (x1:List UInt8):Option Int :=
  bd (zle x0 x1) fun r7 =>
  some r7
theorem zoa [Kn (KExt Tryz.prog) K]  {x0:List UInt8} {x1:List UInt8} {r:Int} (hA:Gd F w) (h0:x0.length=32) (h1:x1.length=32) (H:zjt x0 x1=some r):Ret Tryz.prog K 122 [.agg (zao x0),.agg (zao x1)] w fun v w'=>∃ (F':Frz),v = .i .i64 r∧St [] w F F' [] w':=by
 refine qa2 Tryz.func122 ?_;have hS:=St.start hA;dsimp only [zjt] at H;refine qs ?_;refine xm (E_bx (cs:=zao x0) rfl rfl rfl hS) ?_;rintro _ w1 ⟨g1,rfl,hS1⟩;refine xm (E_bx (cs:=zao x1) rfl rfl rfl hS1) ?_;rintro _ w2 ⟨g2,rfl,hS2⟩;refine qm ?_;refine zay ?_;obtain ⟨F3,le3,hbx3,hS3⟩:=hS2.freezeB 1 [0] rfl (by decide) (by decide);obtain ⟨F4,le4,hbx4,hS4⟩:=hS3.freezeB 0 [] rfl (by decide) (by decide);obtain ⟨r7,hr7,H⟩:=zap H;refine zaz (G:=F4) [0,1,2,3] rfl Ty.mixed (by kernel_rfl) hS4.agree ?_;refine W_slB rfl rfl rfl rfl Tryz.underlying58 Ty.zjw rfl (hbx3.at (fun q u h=>by simpa using h)) h0 ?_;intro q5 hv5;refine W_slB rfl rfl rfl rfl Tryz.underlying58 Ty.zjw rfl (hbx4.at (fun q u h=>by simpa using h)) h1 ?_;intro q6 hv6;refine ql (zob hS4.good (hv5.mono le4) hv6 hr7) ?_;rintro v8 w8 ⟨Fr7,rfl,hT8⟩;have hS8:=hS4.lent hT8;refine qw hS8 ?_;refine qm ?_;obtain rfl:=oi H;refine qt ?_;exact ⟨F4,rfl,hS8⟩
def zhf (x0:Chunk) (x1:List UInt8):Option Int :=
  bd (zjt x0.id x1) fun r3 =>
  some r3
theorem zmd [Kn (KExt Tryz.prog) K]  {x0:Chunk} {x1:List UInt8} {r:Int} {v0_0:Val} {v0_1:Val} (hA:Gd F w) (h0_0:SlF tB F v0_0 x0.data) (h0_1:SlF Loc.t F v0_1 x0.locs) (l0_0:(x0.id).length=32) (h1:x1.length=32) (H:zhf x0 x1=some r):Ret Tryz.prog K 135 [.agg (Chunk.cells x0 v0_0 v0_1),.agg (zao x1)] w fun v w'=>∃ (F':Frz),v = .i .i64 r∧St [] w F F' [] w':=by
 refine qa2 Tryz.func135 ?_;have hS:=St.start hA;dsimp only [zhf] at H;refine qs ?_;refine xm (E_bx (cs:=zao x0.id++[.b x0.staged,v0_0,v0_1]) rfl rfl (by simp only [List.all_cons,List.all_nil,List.all_append,h0_0.ln.one,h0_1.ln.one];rfl) hS) ?_;rintro _ w1 ⟨g1,rfl,hS1⟩;refine xm (E_bx (cs:=zao x1) rfl rfl rfl hS1) ?_;rintro _ w2 ⟨g2,rfl,hS2⟩;refine qm ?_;obtain ⟨r3,hr3,H⟩:=zap H;refine qs ?_;refine qf Ty.zjm ?_;refine qr (zde 1 (zao x0.id) Ty.zhs Ty.zcy (Nat.zero_lt_succ _) rfl hS2 rfl (fun q u h=>zdb (post:=[.b x0.staged,v0_0,v0_1]) rfl h)) ?_;refine qr (zde 0 (zao x1) Ty.zhs Ty.zcy (Nat.zero_lt_succ _) rfl hS2 rfl (fun q u h=>zdb (post:=[]) rfl h)) ?_;refine lm (zoa hS2.good l0_0 h1 hr3) ?_;rintro v4 w4 ⟨Fr3,rfl,hT4⟩;have hS4:=hS2.lent hT4;refine qm ?_;obtain rfl:=oi H;refine qt ?_;exact ⟨F,rfl,hS4.pick [] (by decide)⟩
def zad.k1 (x0:List Chunk) (x1:List UInt8) (i3:Int):Option (Int × Bool) :=
  bd (only (decide (i3 < (x0.length:Int))) (ix x0 i3) (Chunk.mk (List.replicate 32 (0:UInt8)) false [] [])) fun x4 =>
  bd (only (decide (i3 < (x0.length:Int))) (zhf x4 x1) 0) fun r6 =>
  some (i3,(decide (i3 < (x0.length:Int))&&decide (r6=0)))
def zad.l2 (x0:List Chunk) (x1:List UInt8) (rec16:(Int × Int)→Option (Int × Bool)):(Int × Int)→Option (Int × Bool)
  | (i14,i15) =>
    if decide (i14 < i15) then
      bd (ix x0 (wr ((wu (wr (i14+i15))) / 2 ^ (1:Int).toNat))) fun x18 =>
      bd (zhf x18 x1) fun r20 =>
      if decide (r20 < 0) then
        rec16 (wr (wr ((wu (wr (i14+i15))) / 2 ^ (1:Int).toNat)+1),i15)
      else
        rec16 (i14,wr ((wu (wr (i14+i15))) / 2 ^ (1:Int).toNat))
    else
      zad.k1 x0 x1 i14
def zad (x0:List Chunk) (x1:List UInt8):Option (Int × Bool) :=
  loop (zad.l2 x0 x1) (0,(x0.length:Int))
theorem zej [Kn (KExt Tryz.prog) K]  {x0:List Chunk} {x1:List UInt8} {r:Int × Bool} {v0:Val} (hA:Gd F w) (h0:SlF Chunk.t F v0 x0) (h1:x1.length=32) (H:zad x0 x1=some r):Ret Tryz.prog K 134 [v0,.agg (zao x1),.f 135 []] w fun v w'=>∃ (F':Frz),v = .tup [.i .i64 r.1,.b r.2]∧St [] w F F' [] w':=by
 refine qa3 Tryz.func134 ?_;have hS:=St.start hA;dsimp only [zad] at H;refine qs ?_;refine xm (E_bx (cs:=zao x1) rfl rfl rfl hS) ?_;rintro _ w1 ⟨g1,rfl,hS1⟩;refine qc ?_;refine qm ?_;refine qsc ?_;refine qr (zbs Tryz.underlying35 rfl h0.ln) ?_;refine qm ?_;refine qs ?_;refine q2 ?_;refine qm ?_;refine zai (fun E wq=>∃ i3:Int,zad.k1 x0 x1 i3=some r ∧ ∃ (F2:Frz),E=[(0,v0),(2,.f 135 []),(4,pl g1 0),(8,.i .i64 (x0.length:Int)),(9,.i .i64 i3)]∧F.le F2∧St [] w F F2 [.box g1 (zao x1)] wq) ?_ ?_
 ·refine zar ?_;refine zbm (fun (s:Int × Int) E wq=>∃ (F13:Frz),E=[(0,v0),(2,.f 135 []),(4,pl g1 0),(8,.i .i64 (x0.length:Int)),(9,.i .i64 s.1),(10,.i .i64 s.2)]∧F.le F13∧St [] w F F13 [.box g1 (zao x1)] wq) H ?_ ?_
  ·exact ⟨_,⟨F,rfl,(Frz.le.refl _),hS1⟩,⟨rfl,rfl,rfl,rfl,rfl,rfl,trivial⟩⟩
  ·rintro rec16 ⟨i14,i15⟩ E w13 hI H
   try dsimp only at hI
   obtain ⟨F13,rfl,le13,hS13⟩:=hI;dsimp only [zad.l2] at H;refine zay ?_;refine qs ?_;refine q2 ?_;refine qr (zah rfl rfl zbp) ?_;refine qn ?_;refine qy H (fun hc17 H=>?_) (fun hc17 H=>?_)
   ·refine qk ?_;refine zar ?_;refine qs ?_;refine q3 ?_;refine qr (zgv Tryz.underlying3 Tryz.underlying26 rfl (rfl)) ?_;refine qr (zah rfl rfl (zod (by decide) (by decide))) ?_;refine qr (zgv Tryz.underlying26 Tryz.underlying3 rfl (rfl)) ?_;refine qm ?_;refine zay ?_;obtain ⟨x18,hx18,r20,hr20,H⟩:=bd2 H;refine zaz (G:=F13) [0,1,2,3,4,5,6,7] rfl Ty.mixed (by kernel_rfl) hS13.agree ?_;refine q3 ?_;obtain ⟨hp21,hy21⟩:=zac hx18;obtain ⟨cs21,hr21,he21⟩:=(h0.mono le13).el hy21;obtain ⟨ue19_0,ue19_1,rfl,hle19_0,hue19_0,hue19_1⟩:=hr21;replace he21:=qj 35 he21;have hi21:=he21.ixd;refine qi Tryz.underlying35 Ty.zep hi21 hp21 ?_;refine qq (zfe 0 (Chunk.cells x18 ue19_0 ue19_1) Ty.agg60 Ty.zep rfl (he21.mono hS13.agree) (by omega) rfl (Nat.le_of_ble_eq_true rfl)) ?_;refine qq (zde 0 (zao x1) Ty.zhs Ty.zcy (Nat.zero_lt_succ _) rfl hS13 rfl (fun q u h=>zdb (post:=[]) rfl h)) ?_;refine ql (zmd hS13.good hue19_0 hue19_1 hle19_0 h1 hr20) ?_;rintro v22 w22 ⟨Fr20,rfl,hT22⟩;have hS22:=hS13.lent hT22;refine qw hS22 ?_;refine qr (zah rfl rfl zbp) ?_;refine qn ?_;refine qy H (fun hc23 H=>?_) (fun hc23 H=>?_)
    ·refine qd ?_;refine q3 ?_;refine zbk ?_;refine zbf ?_;exact zbd (wr (wr ((wu (wr (i14+i15))) / 2 ^ (1:Int).toNat)+1),i15) _ H ⟨F13,rfl,le13,hS22⟩ ⟨rfl,rfl,rfl,rfl,rfl,rfl,trivial⟩
    ·refine qd ?_;refine q2 ?_;refine zbk ?_;refine zbf ?_;exact zbd (i14,wr ((wu (wr (i14+i15))) / 2 ^ (1:Int).toNat)) _ H ⟨F13,rfl,le13,hS22⟩ ⟨rfl,rfl,rfl,rfl,rfl,rfl,trivial⟩
   ·refine zcc _ rfl ?_;exact zbe _ ⟨i14,H,⟨F13,rfl,le13,hS13⟩⟩ ⟨rfl,rfl,rfl,rfl,rfl,trivial⟩
 ·rintro E w2 ⟨i3,H,F2,rfl,le2,hS2⟩;dsimp only [zad.k1] at H;refine zay ?_;obtain ⟨x4,hx4,r6,hr6,H⟩:=bd2 H;refine zsh (fun E wq=>E=[(6,.i .i64 i3),(7,.b (decide (i3 < (x0.length:Int))&&decide (r6=0)))] ∧ ∃ F7:Frz,F2.le F7∧St [] w F F7 [.box g1 (zao x1)] wq) ?_ ?_
  ·
   rcases Bool.eq_false_or_eq_true (decide (i3 < (x0.length:Int))) with hb8 | hb8
   ·refine zaz (G:=F2) [0,1,2,3,4,5,6,7,8,9,10,11,12,13,14,15] rfl Ty.mixed (by kernel_rfl) hS2.agree ?_;refine q3 ?_;refine qr (zah rfl rfl zbp) ?_;refine qc ?_;refine qvb 39 hb8 ?_;refine q3 ?_;have hy9:=hx4;rw [zbu hb8] at hy9;obtain ⟨hp10,hy10⟩:=zac hy9;obtain ⟨cs10,hr10,he10⟩:=(h0.mono le2).el hy10;obtain ⟨ue5_0,ue5_1,rfl,hle5_0,hue5_0,hue5_1⟩:=hr10;replace he10:=qj 35 he10;have hi10:=he10.ixd;refine qi Tryz.underlying35 Ty.zep hi10 hp10 ?_;refine qq (zfe 0 (Chunk.cells x4 ue5_0 ue5_1) Ty.agg60 Ty.zep rfl (he10.mono hS2.agree) (by omega) rfl (Nat.le_of_ble_eq_true rfl)) ?_;refine qq (zde 0 (zao x1) Ty.zhs Ty.zcy (Nat.zero_lt_succ _) rfl hS2 rfl (fun q u h=>zdb (post:=[]) rfl h)) ?_;have hy11:=hr6;rw [zbu hb8] at hy11;refine ql (zmd hS2.good hue5_0 hue5_1 hle5_0 h1 hy11) ?_;rintro v12 w12 ⟨Fr6,rfl,hT12⟩;have hS12:=hS2.lent hT12;refine qw hS12 ?_;refine qr (zah rfl rfl zeg) ?_;refine q3 ?_;refine zbk ?_;exact zbe _ ⟨rfl,F2,(Frz.le.refl _),hS12⟩ ⟨rfl,(zdw rfl (by first | rfl | (rw [hb8];first | done | rfl) | simp [hb8])),trivial⟩
   ·refine zaz (G:=F2) [0,1,2,3,4,5,6,7,8,9,10,11,12,13,14,15] rfl Ty.mixed (by kernel_rfl) hS2.agree ?_;refine q3 ?_;refine qr (zah rfl rfl zbp) ?_;refine qc ?_;refine qvb 39 hb8 ?_;refine qz2 ?_;refine qz2 ?_;refine qz2 ?_;refine qz2 ?_;refine q3 ?_;refine zbk ?_;exact zbe _ ⟨rfl,F2,(Frz.le.refl _),hS2⟩ ⟨rfl,(zdw rfl (by first | rfl | (rw [hb8];first | done | rfl) | simp [hb8])),trivial⟩
  rintro E w7 ⟨rfl,F7,le7,hS7⟩;refine zcl ?_;obtain rfl:=oi H;refine qt ?_;exact ⟨F7,rfl,hS7.pick [] (by decide)⟩
def zhn (x0:List Chunk) (x1:List UInt8):Option (Int × Bool) :=
  bd (zad x0 x1) fun r2 =>
  some (r2.1,r2.2)
theorem zku [Kn (KExt Tryz.prog) K]  {x0:List Chunk} {x1:List UInt8} {r:Int × Bool} {v0:Val} (hA:Gd F w) (h0:SlF Chunk.t F v0 x0) (h1:x1.length=32) (H:zhn x0 x1=some r):Ret Tryz.prog K 85 [v0,.agg (zao x1)] w fun v w'=>∃ (F':Frz),v = .tup [.i .i64 r.1,.b r.2]∧St [] w F F' [] w':=by
 refine qa2 Tryz.func85 ?_;have hS:=St.start hA;dsimp only [zhn] at H;refine qs ?_;refine xm (E_bx (cs:=zao x1) rfl rfl rfl hS) ?_;rintro _ w1 ⟨g1,rfl,hS1⟩;refine qc ?_;refine qm ?_;obtain ⟨r2,hr2,H⟩:=zap H;refine qsc ?_;refine qr (zde 0 (zao x1) Ty.zhs Ty.zcy (Nat.zero_lt_succ _) rfl hS1 rfl (fun q u h=>zdb (post:=[]) rfl h)) ?_;refine lm (zej hS1.good h0 h1 hr2) ?_;rintro v3 w3 ⟨Fr2,rfl,hT3⟩;have hS3:=hS1.lent hT3;refine q3 ?_;refine qm ?_;obtain rfl:=oi H;refine qt ?_;exact ⟨F,rfl,hS3.pick [] (by decide)⟩
def zcu (x0:ManifestReader) (x1:Int):Option ((List UInt8) × ManifestReader) :=
  if (x0.bad||decide ((x0.b.length:Int) < x1)) then
    bd (rep x1 0) fun l10 =>
    some (l10,(ManifestReader.mk x0.b true))
  else
    bd (cut (α:=UInt8) x0.b 0 x1) fun l13 =>
    bd (cut (α:=UInt8) x0.b x1 (x0.b.length:Int)) fun l15 =>
    some (l13,(ManifestReader.mk l15 x0.bad))
theorem zff {X:List Nat} {x0:ManifestReader} {x1:Int} {r:(List UInt8) × ManifestReader} {gp0:Nat} {v0_0:Val} (hS:St X w F F [.box gp0 [v0_0,.b x0.bad]] w) (hv0_0:SlF tB F v0_0 (x0.b)) (H:zcu x0 x1=some r):Ret Tryz.prog K 138 [pl gp0 0,.i .i64 x1] w fun v w'=>∃ (F':Frz) (q0:Val) (z0_0:Val),v=q0∧SlF tB F' q0 (r.1)∧SlF tB F' z0_0 (r.2.b)∧St X w F F' [.box gp0 [z0_0,.b r.2.bad]] w':=by
 refine qa2 Tryz.func138 ?_;dsimp only [zcu] at H;refine qsm ?_;refine zay ?_;refine qs ?_;refine q2 ?_;refine qf Ty.zlg ?_;refine qb 0 Ty.zwu hS ?_;refine qc ?_;refine W_gs (v:=pl gp0 0) rfl rfl rfl rfl (fun ⟨hb1,_⟩=>?_) ?_
 ·rw [hb1];exact (qc ·)
 refine W_gs (v:=pl gp0 0) rfl rfl rfl rfl (fun ⟨hb2,_⟩=>?_) ?_
 ·rw [hb2];exact (qc ·)
 refine W_gs (v:=pl gp0 (0+0)) rfl rfl rfl rfl (fun ⟨hb3,_⟩=>?_) ?_
 ·rw [hb3];exact (qf Ty.zlh ·)
 refine W_gs (v:=v0_0) rfl rfl rfl rfl (fun ⟨hb4,_⟩=>?_) ?_
 ·rw [hb4];exact (qb 0 Ty.zhg hS ·)
 refine W_gs (v:=.i .i64 (x0.b.length:Int)) rfl rfl rfl rfl (fun ⟨hb5,_⟩=>?_) ?_
 ·rw [hb5];exact (qr (zbs Tryz.underlying47 rfl hv0_0.ln) ·)
 refine W_gs (v:=.i .i64 x1) rfl rfl rfl rfl (fun ⟨hb6,_⟩=>?_) ?_
 ·rw [hb6];exact (qc ·)
 refine W_gs (v:=.b (decide ((x0.b.length:Int) < x1))) rfl rfl rfl rfl (fun ⟨hb7,_⟩=>?_) ?_
 ·rw [hb7];exact (qr (zah rfl rfl zbp) ·)
 refine zgl rfl rfl rfl rfl rfl rfl (fun hc=>by rw [hc];rfl) ?_;refine qn ?_;refine qy H (fun hc8 H=>?_) (fun hc8 H=>?_)
 ·refine qs ?_;refine q2 ?_;refine qf Ty.zlg ?_;refine um (zea (c:=[.b true]) 0 ([v0_0,.b true]) rfl rfl hS rfl rfl Ty.size4 rfl rfl rfl) ?_;rintro _ w9 hS9;refine qn ?_;obtain ⟨l10,hl10,H⟩:=zap H;refine qsc ?_;refine xm (E_mk (t:=tB) (x0:=0) Tryz.underlying47 Ty.row5 rfl rfl (zero_rel Ty.zero5 rfl) hl10 hS9) ?_;rintro v11 w11 hS11;refine qm ?_;obtain ⟨F12,le12,hf12,hS12⟩:=hS11.freezeR 0 [1] rfl (by decide) (by decide);obtain rfl:=oi H;refine qt ?_;exact ⟨F12,v11,v0_0,rfl,hf12,(hv0_0.mono le12),hS12⟩
 ·refine qk ?_;obtain ⟨l13,hl13,H⟩:=zap H;refine qs ?_;refine q2 ?_;refine qf Ty.zlh ?_;refine qb 0 Ty.zhg hS ?_;refine qc ?_;refine zse 0 x1 rfl rfl rfl rfl Tryz.underlying47 Ty.zjw rfl (.inl ⟨rfl,rfl⟩) (.inr ⟨_,_,rfl,rfl⟩) hv0_0 hl13 ?_;intro q14 hv14;refine qm ?_;obtain ⟨l15,hl15,H⟩:=zap H;refine qs ?_;refine q3 ?_;refine qf Ty.zlh ?_;refine qb 0 Ty.zhg hS ?_;refine qc ?_;refine zse x1 (x0.b.length:Int) rfl rfl rfl rfl Tryz.underlying47 Ty.zjw rfl (.inr ⟨_,_,rfl,rfl⟩) (.inl ⟨rfl,rfl⟩) hv0_0 hl15 ?_;intro q16 hv16;refine qc ?_;refine qf Ty.zlh ?_;refine um (zea (c:=[q16]) 0 ([q16,.b x0.bad]) rfl rfl hS rfl hv16.ln.cells Ty.zqm (by simp only [List.all_cons,List.all_nil,List.all_append,hv16.ln.one];rfl) rfl rfl) ?_;rintro _ w17 hS17;refine qn ?_;refine qsc ?_;refine qm ?_;obtain rfl:=oi H;refine qt ?_;exact ⟨F,q14,q16,rfl,hv14,hv16,hS17⟩
def zip.k1 (x1:Int) (x2:Int) (i12:Int):Option (Int × Int × Int) :=
  some (i12,wr (x1+x2),0)
def zip.l2 (x1:Int) (x2:Int) (l13:List UInt8) (rec18:(Int × Int)→Option (Int × Int × Int)):(Int × Int)→Option (Int × Int × Int)
  | (i16,i17) =>
    if decide (i17 < (l13.length:Int)) then
      bd (ix l13 i17) fun x20 =>
      rec18 (bits .or .i64 (wr (i16*2 ^ (8:Int).toNat)) (x20.toNat:Int),wr (i17+1))
    else
      zip.k1 x1 x2 i16
def zip (x0:List UInt8) (x1:Int) (x2:Int):Option (Int × Int × Int) :=
  if (((decide (x2 < 1)||decide (7 < x2))||decide (x1 < 0))||decide ((x0.length:Int) < x1)) then
    some (0,0,1)
  else
    if decide (wr ((x0.length:Int) - x1) < x2) then
      some (0,0,3)
    else
      bd (cut (α:=UInt8) x0 x1 (wr (x1+x2))) fun l13 =>
      loop (zip.l2 x1 x2 l13) (0,0)
theorem zxm {x0:List UInt8} {x1:Int} {x2:Int} {r:Int × Int × Int} {v0:Val} (hA:Gd F w) (h0:SlF tB F v0 x0) (H:zip x0 x1 x2=some r):Ret Tryz.prog K 92 [v0,.i .i64 x1,.i .i64 x2] w fun v w'=>∃ (F':Frz),v = .tup [.i .i64 r.1,.i .i64 r.2.1,.i .i64 r.2.2]∧St [] w F F' [] w':=by
 refine qa3 Tryz.func92 ?_;have hS:=St.start hA;dsimp only [zip] at H;refine qs ?_;refine q2 ?_;refine qm ?_;refine zay ?_;refine zar ?_;refine qsc ?_;refine qr (zah rfl rfl zbp) ?_;refine qc ?_;refine W_gs (v:=.i .i64 x2) rfl rfl rfl rfl (fun ⟨hb1,_⟩=>?_) ?_
 ·rw [hb1];exact (qc ·)
 refine W_gs (v:=.b (decide (7 < x2))) rfl rfl rfl rfl (fun ⟨hb2,_⟩=>?_) ?_
 ·rw [hb2];exact (qr (zah rfl rfl zgn) ·)
 refine zgl rfl rfl rfl rfl rfl rfl (fun hc=>by rw [hc];rfl) ?_;refine qc ?_;refine W_gs (v:=.i .i64 x1) rfl rfl rfl rfl (fun ⟨hb3,_⟩=>?_) ?_
 ·rw [hb3];exact (qc ·)
 refine W_gs (v:=.b (decide (x1 < 0))) rfl rfl rfl rfl (fun ⟨hb4,_⟩=>?_) ?_
 ·rw [hb4];exact (qr (zah rfl rfl zbp) ·)
 refine zgl rfl rfl rfl rfl rfl rfl (fun hc=>by rw [hc];rfl) ?_;refine qc ?_;refine W_gs (v:=.i .i64 x1) rfl rfl rfl rfl (fun ⟨hb5,_⟩=>?_) ?_
 ·rw [hb5];exact (qc ·)
 refine W_gs (v:=v0) rfl rfl rfl rfl (fun ⟨hb6,_⟩=>?_) ?_
 ·rw [hb6];exact (qc ·)
 refine W_gs (v:=.i .i64 (x0.length:Int)) rfl rfl rfl rfl (fun ⟨hb7,_⟩=>?_) ?_
 ·rw [hb7];exact (qr (zbs Tryz.underlying47 rfl h0.ln) ·)
 refine W_gs (v:=.b (decide ((x0.length:Int) < x1))) rfl rfl rfl rfl (fun ⟨hb8,_⟩=>?_) ?_
 ·rw [hb8];exact (qr (zah rfl rfl zgn) ·)
 refine zgl rfl rfl rfl rfl rfl rfl (fun hc=>by rw [hc];rfl) ?_;refine qm ?_;refine qy H (fun hc9 H=>?_) (fun hc9 H=>?_)
 ·refine qs ?_;refine q2 ?_;refine qm ?_;obtain rfl:=oi H;refine qt ?_;exact ⟨F,rfl,hS⟩
 ·refine qsc ?_;refine qr (zbs Tryz.underlying47 rfl h0.ln) ?_;refine q3 ?_;refine qr (zah rfl rfl zbp) ?_;refine qm ?_;refine qy H (fun hc10 H=>?_) (fun hc10 H=>?_)
  ·refine qs ?_;refine q2 ?_;refine qm ?_;obtain rfl:=oi H;refine qt ?_;exact ⟨F,rfl,hS⟩
  ·refine zec ?_;refine zbf ?_;refine zcl ?_;refine zai (fun E wq=>∃ i12:Int,zip.k1 x1 x2 i12=some r ∧ ∃ (F11:Frz),E=[(1,.i .i64 x1),(2,.i .i64 x2),(6,.i .i64 i12)]∧F.le F11∧St [] w F F11 [] wq) ?_ ?_
   ·obtain ⟨l13,hl13,H⟩:=zap H;refine qs ?_;refine q4 ?_;refine qc ?_;refine zse x1 (wr (x1+x2)) rfl rfl rfl rfl Tryz.underlying47 Ty.zjw rfl (.inr ⟨_,_,rfl,rfl⟩) (.inr ⟨_,_,rfl,rfl⟩) h0 hl13 ?_;intro q14 hv14;refine qr (zbs Tryz.underlying47 rfl hv14.ln) ?_;refine qm ?_;refine zar ?_;refine zbm (fun (s:Int × Int) E wq=>∃ (F15:Frz),E=[(1,.i .i64 x1),(2,.i .i64 x2),(6,.i .i64 s.1),(40,q14),(41,.i .i64 (l13.length:Int)),(42,.i .i64 s.2)]∧F.le F15∧St [] w F F15 [] wq) H ?_ ?_
    ·exact ⟨_,⟨F,rfl,(Frz.le.refl _),hS⟩,⟨rfl,rfl,rfl,rfl,rfl,rfl,trivial⟩⟩
    ·rintro rec18 ⟨i16,i17⟩ E w15 hI H
     try dsimp only at hI
     obtain ⟨F15,rfl,le15,hS15⟩:=hI;dsimp only [zip.l2] at H;refine qs ?_;refine qr (zah rfl rfl zbp) ?_;refine qn ?_;refine zay ?_;refine qy H (fun hc19 H=>?_) (fun hc19 H=>?_)
     ·refine qk ?_;refine zay ?_;refine zar ?_;obtain ⟨x20,hx20,H⟩:=zap H;refine qs ?_;obtain ⟨hp22,hy22⟩:=zac hx20;obtain ⟨cs22,hr22,he22⟩:=(hv14.mono le15).el hy22;obtain rfl:=hr22;replace he22:=qj 1 he22;have hi22:=he22.ixd;refine qi Tryz.underlying47 Ty.zjw hi22 hp22 ?_;refine qr (zfs 0 Ty.zwt rfl (he22.mono hS15.agree) (by omega) rfl) ?_;refine qm ?_;refine qd ?_;refine qc ?_;refine qr (zah rfl rfl (bI_shl (by decide) (by decide))) ?_;refine qc ?_;refine qr (zgv Tryz.underlying5 Tryz.underlying3 rfl (u8_i64 _)) ?_;refine qr (zah rfl rfl (zdn (.inr (.inl rfl)))) ?_;refine qc ?_;refine zbk ?_;refine zbf ?_;refine zcl ?_;refine qd ?_;refine q2 ?_;refine zbk ?_;exact zbd (bits .or .i64 (wr (i16*2 ^ (8:Int).toNat)) (x20.toNat:Int),wr (i17+1)) _ H ⟨F15,rfl,le15,hS15⟩ ⟨rfl,rfl,rfl,rfl,rfl,rfl,trivial⟩
     ·refine zcc _ rfl ?_;exact zbe _ ⟨i16,H,⟨F15,rfl,le15,hS15⟩⟩ ⟨rfl,rfl,rfl,trivial⟩
   ·rintro E w11 ⟨i12,H,F11,rfl,le11,hS11⟩;dsimp only [zip.k1] at H;refine qs ?_;refine q4 ?_;refine q2 ?_;refine qm ?_;obtain rfl:=oi H;refine qt ?_;exact ⟨F11,rfl,hS11⟩
def zbv (x0:ManifestReader) (x1:Int):Option (Int × ManifestReader) :=
  bd (zcu x0 x1) fun r1 =>
  bd (zip r1.1 0 x1) fun r2 =>
  some (r2.1,r1.2)
theorem zel {X:List Nat} {x0:ManifestReader} {x1:Int} {r:Int × ManifestReader} {gp0:Nat} {v0_0:Val} (hS:St X w F F [.box gp0 [v0_0,.b x0.bad]] w) (hv0_0:SlF tB F v0_0 (x0.b)) (H:zbv x0 x1=some r):Ret Tryz.prog K 139 [pl gp0 0,.i .i64 x1] w fun v w'=>∃ (F':Frz) (z0_0:Val),v = .i .i64 r.1∧SlF tB F' z0_0 (r.2.b)∧St X w F F' [.box gp0 [z0_0,.b r.2.bad]] w':=by
 refine qa2 Tryz.func139 ?_;dsimp only [zbv] at H;refine qsm ?_;obtain ⟨r1,hr1,r2,hr2,H⟩:=bd2 H;refine qs ?_;refine q2 ?_;refine lm (zff (x0:=x0) (x1:=x1) (hS.lendL [0] (by decide)) hv0_0 hr1) ?_;rintro ur1_0 w3 ⟨Fr1,_,ur1_b0_0,rfl,hfr1_0,hfr1_b0_0,hT3⟩;have hS3:=hS.backL [0] [] (by decide) (by decide) hT3;have ler1:=hT3.ext;refine qc ?_;refine lm (zxm hS3.good hfr1_0 hr2) ?_;rintro v4 w4 ⟨Fr2,rfl,hT4⟩;have hS4:=hS3.lent hT4;refine q4 ?_;refine q2 ?_;refine qm ?_;refine qsc ?_;refine qm ?_;obtain rfl:=oi H;refine qt ?_;exact ⟨Fr1,ur1_b0_0,rfl,hfr1_b0_0,hS4⟩
def zfu.k1:Option Bool :=
  some true
def zfu.l2 (x0:List UInt8) (rec8:Int→Option Bool):Int→Option Bool
  | i7 =>
    if decide (i7 < (x0.length:Int)) then
      bd (ix x0 i7) fun x10 =>
      bd (only (!decide ((x10.toNat:Int) < 33)) (ix x0 i7) 0) fun x11 =>
      if (decide ((x10.toNat:Int) < 33)||decide (126 < (x11.toNat:Int))) then
        some false
      else
        rec8 (wr (i7+1))
    else
      zfu.k1
def zfu (x0:List UInt8):Option Bool :=
  if (decide ((x0.length:Int) < 1)||decide (20 < (x0.length:Int))) then
    some false
  else
    loop (zfu.l2 x0) 0
theorem ztb {x0:List UInt8} {r:Bool} (hA:Gd F w) (H:zfu x0=some r):Ret Tryz.prog K 160 [.s x0] w fun v w'=>∃ (F':Frz),v = .b r∧St [] w F F' [] w':=by
 refine qa1 Tryz.func160 ?_;have hS:=St.start hA;dsimp only [zfu] at H;refine qsm ?_;refine zay ?_;refine qsc ?_;refine qr (ztj Tryz.underlying9 rfl) ?_;refine qr (zah rfl rfl zbp) ?_;refine qc ?_;refine W_gs (v:=.s x0) rfl rfl rfl rfl (fun ⟨hb1,_⟩=>?_) ?_
 ·rw [hb1];exact (qc ·)
 refine W_gs (v:=.i .i64 (x0.length:Int)) rfl rfl rfl rfl (fun ⟨hb2,_⟩=>?_) ?_
 ·rw [hb2];exact (qr (ztj Tryz.underlying9 rfl) ·)
 refine W_gs (v:=.b (decide (20 < (x0.length:Int)))) rfl rfl rfl rfl (fun ⟨hb3,_⟩=>?_) ?_
 ·rw [hb3];exact (qr (zah rfl rfl zgn) ·)
 refine zgl rfl rfl rfl rfl rfl rfl (fun hc=>by rw [hc];rfl) ?_;refine qn ?_;refine qy H (fun hc4 H=>?_) (fun hc4 H=>?_)
 ·refine qsm ?_;obtain rfl:=oi H;refine qt ?_;exact ⟨F,rfl,hS⟩
 ·refine qk ?_;refine zai (fun E wq=>zfu.k1=some r ∧ ∃ (F5:Frz),E=[]∧F.le F5∧St [] w F F5 [] wq) ?_ ?_
  ·refine qsc ?_;refine qr (ztj Tryz.underlying9 rfl) ?_;refine qm ?_;refine zar ?_;refine zbm (fun (s:Int) E wq=>∃ (F6:Frz),E=[(0,.s x0),(13,.i .i64 (x0.length:Int)),(14,.i .i64 s)]∧F.le F6∧St [] w F F6 [] wq) H ?_ ?_
   ·exact ⟨_,⟨F,rfl,(Frz.le.refl _),hS⟩,⟨rfl,rfl,rfl,trivial⟩⟩
   ·rintro rec8 i7 E w6 hI H
    try dsimp only at hI
    obtain ⟨F6,rfl,le6,hS6⟩:=hI;dsimp only [zfu.l2] at H;refine qs ?_;refine qr (zah rfl rfl zbp) ?_;refine qn ?_;refine zay ?_;refine qy H (fun hc9 H=>?_) (fun hc9 H=>?_)
    ·refine qk ?_;refine zay ?_;refine zar ?_;refine qsc ?_;refine qm ?_;obtain ⟨x10,hx10,x11,hx11,H⟩:=bd2 H;refine qs ?_;refine q2 ?_;obtain ⟨hp12,hy12⟩:=zac hx10;refine qr (O_ixS Tryz.underlying9 rfl rfl hp12 hy12) ?_;refine qr (zah rfl rfl zbp) ?_;refine qc ?_;refine W_gs (v:=.s x0) rfl rfl rfl rfl (fun ⟨hb13,_⟩=>?_) ?_
     ·rw [hb13];exact (qc ·)
     refine W_gs (v:=.i .i64 i7) rfl rfl rfl rfl (fun ⟨hb14,_⟩=>?_) ?_
     ·rw [hb14];exact (qc ·)
     refine W_gs (v:=.i .u8 (x11.toNat:Int)) rfl rfl rfl rfl (fun ⟨hb15,_⟩=>?_) ?_
     ·rw [hb15];intro hK;have hy17:=hx11;rw [zbu (by first | rfl | (rw [hb15];first | done | rfl) | simp [hb15])] at hy17;obtain ⟨hp16,hy16⟩:=zac hy17;refine qr (O_ixS Tryz.underlying9 rfl rfl hp16 hy16) ?_;exact hK
     refine W_gs (v:=.b (decide (126 < (x11.toNat:Int)))) rfl rfl rfl rfl (fun ⟨hb18,_⟩=>?_) ?_
     ·rw [hb18];exact (qr (zah rfl rfl zgn) ·)
     refine zgl rfl rfl rfl rfl rfl rfl (fun hc=>by rw [hc];rfl) ?_;refine qn ?_;refine qy H (fun hc19 H=>?_) (fun hc19 H=>?_)
     ·refine qsm ?_;obtain rfl:=oi H;refine qt ?_;exact ⟨F6,rfl,hS6⟩
     ·refine zec ?_;refine zbf ?_;refine zcl ?_;refine qd ?_;refine q2 ?_;refine zbk ?_;exact zbd (wr (i7+1)) _ H ⟨F6,rfl,le6,hS6⟩ ⟨rfl,rfl,rfl,trivial⟩
    ·refine zcc _ rfl ?_;exact zbe _ ⟨H,⟨F6,rfl,le6,hS6⟩⟩ trivial
  ·rintro E w5 ⟨H,F5,rfl,le5,hS5⟩;dsimp only [zfu.k1] at H;refine qsm ?_;obtain rfl:=oi H;refine qt ?_;exact ⟨F5,rfl,hS5⟩
def zjj (x0:Part):Option Bool :=
  bd (zfu x0.path) fun r2 =>
  some ((((r2&&decide (0≤x0.size))&&decide (x0.size≤200))&&decide ((x0.ids.length:Int)≤25))&&(decide ((x0.ids.length:Int)=0) == decide (x0.size=0)))
theorem zts {x0:Part} {r:Bool} {v0_0:Val} (hA:Gd F w) (h0_0:SlF tId F v0_0 x0.ids) (H:zjj x0=some r):Ret Tryz.prog K 161 [.agg (Part.cells x0 v0_0)] w fun v w'=>∃ (F':Frz),v = .b r∧St [] w F F' [] w':=by
 refine qa1 Tryz.func161 ?_;have hS:=St.start hA;dsimp only [zjj] at H;refine qs ?_;refine xm (E_bx (cs:=[.s x0.path,.i .i64 x0.size,v0_0]) rfl rfl (by simp only [List.all_cons,List.all_nil,List.all_append,h0_0.ln.one];rfl) hS) ?_;rintro _ w1 ⟨g1,rfl,hS1⟩;refine qm ?_;obtain ⟨r2,hr2,H⟩:=zap H;refine qs ?_;refine qf Ty.zkd ?_;refine qb 0 Ty.zkp hS1 ?_;refine lm (ztb hS1.good hr2) ?_;rintro v3 w3 ⟨Fr2,rfl,hT3⟩;have hS3:=hS1.lent hT3;refine qc ?_;refine W_gs (v:=pl g1 (0+1)) rfl rfl rfl rfl (fun ⟨hb4,_⟩=>?_) ?_
 ·rw [hb4];exact (qf Ty.zli ·)
 refine W_gs (v:=.i .i64 x0.size) rfl rfl rfl rfl (fun ⟨hb5,_⟩=>?_) ?_
 ·rw [hb5];exact (qb 0 Ty.zdd hS3 ·)
 refine W_gs (v:=.b (decide (0≤x0.size))) rfl rfl rfl rfl (fun ⟨hb6,_⟩=>?_) ?_
 ·rw [hb6];exact (qr (zah rfl rfl znk) ·)
 refine ziu rfl rfl rfl rfl rfl (fun hc=>by rw [hc];rfl) rfl ?_;refine qc ?_;refine W_gs (v:=pl g1 (0+1)) rfl rfl rfl rfl (fun ⟨hb7,_⟩=>?_) ?_
 ·rw [hb7];exact (qf Ty.zli ·)
 refine W_gs (v:=.i .i64 x0.size) rfl rfl rfl rfl (fun ⟨hb8,_⟩=>?_) ?_
 ·rw [hb8];exact (qb 0 Ty.zdd hS3 ·)
 refine W_gs (v:=.b (decide (x0.size≤200))) rfl rfl rfl rfl (fun ⟨hb9,_⟩=>?_) ?_
 ·rw [hb9];exact (qr (zah rfl rfl zwl) ·)
 refine ziu rfl rfl rfl rfl rfl (fun hc=>by rw [hc];rfl) rfl ?_;refine qc ?_;refine W_gs (v:=pl g1 (0+2)) rfl rfl rfl rfl (fun ⟨hb10,_⟩=>?_) ?_
 ·rw [hb10];exact (qf Ty.zfk ·)
 refine W_gs (v:=v0_0) rfl rfl rfl rfl (fun ⟨hb11,_⟩=>?_) ?_
 ·rw [hb11];exact (qb 0 Ty.zkt hS3 ·)
 refine W_gs (v:=.i .i64 (x0.ids.length:Int)) rfl rfl rfl rfl (fun ⟨hb12,_⟩=>?_) ?_
 ·rw [hb12];exact (qr (zbs Tryz.underlying118 rfl h0_0.ln) ·)
 refine W_gs (v:=.b (decide ((x0.ids.length:Int)≤25))) rfl rfl rfl rfl (fun ⟨hb13,_⟩=>?_) ?_
 ·rw [hb13];exact (qr (zah rfl rfl zwl) ·)
 refine ziu rfl rfl rfl rfl rfl (fun hc=>by rw [hc];rfl) rfl ?_;refine qc ?_;refine W_gs (v:=pl g1 (0+2)) rfl rfl rfl rfl (fun ⟨hb14,_⟩=>?_) ?_
 ·rw [hb14];exact (qf Ty.zfk ·)
 refine W_gs (v:=v0_0) rfl rfl rfl rfl (fun ⟨hb15,_⟩=>?_) ?_
 ·rw [hb15];exact (qb 0 Ty.zkt hS3 ·)
 refine W_gs (v:=.i .i64 (x0.ids.length:Int)) rfl rfl rfl rfl (fun ⟨hb16,_⟩=>?_) ?_
 ·rw [hb16];exact (qr (zbs Tryz.underlying118 rfl h0_0.ln) ·)
 refine W_gs (v:=.b (decide ((x0.ids.length:Int)=0))) rfl rfl rfl rfl (fun ⟨hb17,_⟩=>?_) ?_
 ·rw [hb17];exact (qr (zah rfl rfl zeg) ·)
 refine W_gs (v:=pl g1 (0+1)) rfl rfl rfl rfl (fun ⟨hb18,_⟩=>?_) ?_
 ·rw [hb18];exact (qf Ty.zli ·)
 refine W_gs (v:=.i .i64 x0.size) rfl rfl rfl rfl (fun ⟨hb19,_⟩=>?_) ?_
 ·rw [hb19];exact (qb 0 Ty.zdd hS3 ·)
 refine W_gs (v:=.b (decide (x0.size=0))) rfl rfl rfl rfl (fun ⟨hb20,_⟩=>?_) ?_
 ·rw [hb20];exact (qr (zah rfl rfl zeg) ·)
 refine W_gs (v:=.b (decide ((x0.ids.length:Int)=0) == decide (x0.size=0))) rfl rfl rfl rfl (fun ⟨hb21,_⟩=>?_) ?_
 ·rw [hb21];exact (qr (zah rfl rfl (bB_eql Tryz.underlying4)) ·)
 refine ziu rfl rfl rfl rfl rfl (fun hc=>by rw [hc];rfl) rfl ?_;refine qm ?_;obtain rfl:=oi H;refine qt ?_;exact ⟨F,rfl,hS3.pick [] (by decide)⟩
def zda.k1:Option Int :=
  some 0
def zda.l2 (x0:Manifest) (rec12:Int→Option Int):Int→Option Int
  | i11 =>
    if decide (i11 < (x0.parts.length:Int)) then
      bd (ix x0.parts i11) fun x14 =>
      bd (zjj x14) fun r19 =>
      bd (only ((!(!r19))&&decide (0 < i11)) (ix x0.parts (wr (i11 - 1))) (Part.mk [] 0 [])) fun x20 =>
      if ((!r19)||(decide (0 < i11)&&(sLt x14.path x20.path||x14.path == x20.path))) then
        some 1
      else
        rec12 (wr (i11+1))
    else
      zda.k1
def zda (x0:Manifest):Option Int :=
  bd (zfu x0.name) fun r2 =>
  if ((!r2)||decide (6 < (x0.parts.length:Int))) then
    some 1
  else
    loop (zda.l2 x0) 0
theorem znc {x0:Manifest} {r:Int} {v0_0:Val} (hA:Gd F w) (h0_0:SlF Part.t F v0_0 x0.parts) (H:zda x0=some r):Ret Tryz.prog K 124 [.agg (Manifest.cells x0 v0_0)] w fun v w'=>∃ (F':Frz),v = .i .i64 r∧St [] w F F' [] w':=by
 refine qa1 Tryz.func124 ?_;have hS:=St.start hA;dsimp only [zda] at H;refine qs ?_;refine xm (E_bx (cs:=[.s x0.name,v0_0]) rfl rfl (by simp only [List.all_cons,List.all_nil,List.all_append,h0_0.ln.one];rfl) hS) ?_;rintro _ w1 ⟨g1,rfl,hS1⟩;refine qm ?_;refine zay ?_;obtain ⟨r2,hr2,H⟩:=zap H;refine qs ?_;refine qf Ty.zjo ?_;refine qb 0 Ty.zkp hS1 ?_;refine lm (ztb hS1.good hr2) ?_;rintro v3 w3 ⟨Fr2,rfl,hT3⟩;have hS3:=hS1.lent hT3;refine q2 ?_;refine W_gs (v:=pl g1 (0+1)) rfl rfl rfl rfl (fun ⟨hb4,_⟩=>?_) ?_
 ·rw [hb4];exact (qf Ty.zee ·)
 refine W_gs (v:=v0_0) rfl rfl rfl rfl (fun ⟨hb5,_⟩=>?_) ?_
 ·rw [hb5];exact (qb 0 Ty.zjs hS3 ·)
 refine W_gs (v:=.i .i64 (x0.parts.length:Int)) rfl rfl rfl rfl (fun ⟨hb6,_⟩=>?_) ?_
 ·rw [hb6];exact (qr (zbs Tryz.underlying41 rfl h0_0.ln) ·)
 refine W_gs (v:=.b (decide (6 < (x0.parts.length:Int)))) rfl rfl rfl rfl (fun ⟨hb7,_⟩=>?_) ?_
 ·rw [hb7];exact (qr (zah rfl rfl zgn) ·)
 refine zgl rfl rfl rfl rfl rfl rfl (fun hc=>by rw [hc];rfl) ?_;refine qn ?_;refine qy H (fun hc8 H=>?_) (fun hc8 H=>?_)
 ·refine qsm ?_;obtain rfl:=oi H;refine qt ?_;exact ⟨F,rfl,hS3.pick [] (by decide)⟩
 ·refine qk ?_;refine zai (fun E wq=>zda.k1=some r ∧ ∃ (F9:Frz),E=[]∧F.le F9∧St [] w F F9 [] wq) ?_ ?_
  ·refine qs ?_;refine qf Ty.zee ?_;refine qb 0 Ty.zjs hS3 ?_;refine qr (zbs Tryz.underlying41 rfl h0_0.ln) ?_;refine qm ?_;refine zar ?_;refine zbm (fun (s:Int) E wq=>∃ (F10:Frz),E=[(1,pl g1 0),(16,v0_0),(17,.i .i64 (x0.parts.length:Int)),(18,.i .i64 s)]∧F.le F10∧St [] w F F10 [.box g1 [.s x0.name,v0_0]] wq) H ?_ ?_
   ·exact ⟨_,⟨F,rfl,(Frz.le.refl _),hS3⟩,⟨rfl,rfl,rfl,rfl,trivial⟩⟩
   ·rintro rec12 i11 E w10 hI H
    try dsimp only at hI
    obtain ⟨F10,rfl,le10,hS10⟩:=hI;dsimp only [zda.l2] at H;refine qs ?_;refine qr (zah rfl rfl zbp) ?_;refine qn ?_;refine zay ?_;refine qy H (fun hc13 H=>?_) (fun hc13 H=>?_)
    ·refine qk ?_;refine zay ?_;refine zar ?_;obtain ⟨x14,hx14,H⟩:=zap H;refine qsc ?_;obtain ⟨hp17,hy17⟩:=zac hx14;obtain ⟨cs17,hr17,he17⟩:=(h0_0.mono le10).el hy17;obtain ⟨ue15_0,rfl,hue15_0⟩:=hr17;replace he17:=qj 3 he17;have hi17:=he17.ixd;refine qi Tryz.underlying41 Ty.zfn hi17 hp17 ?_;refine qr (zfe 0 (Part.cells x14 ue15_0) Ty.zsd Ty.zfn rfl (he17.mono hS10.agree) (by omega) rfl (Nat.le_of_ble_eq_true rfl)) ?_;refine xm (zft (cs:=[.s [],.i .i64 0,.sl none 0 (.k 0)]) Ty.zoj rfl hS10) ?_;rintro _ w16 ⟨g16,rfl,hS16⟩;refine qc ?_;refine um (zea (c:=[.s x14.path,.i .i64 x14.size,ue15_0]) 0 ([.s x14.path,.i .i64 x14.size,ue15_0]) rfl rfl hS16 rfl rfl Ty.zfn (by simp only [List.all_cons,List.all_nil,List.all_append,hue15_0.ln.one];rfl) rfl rfl) ?_;rintro _ w18 hS18;refine qn ?_;refine zay ?_;obtain ⟨r19,hr19,x20,hx20,H⟩:=bd2 H;refine zaz (G:=F10) [0,1,2,3,4,5,6,7,8,9,10,11,12,13,14,15,16,17,18] rfl Ty.mixed (by kernel_rfl) hS18.agree ?_;refine qq (zde 0 (Part.cells x14 ue15_0) Ty.zsd Ty.zfn (Nat.zero_lt_succ _) rfl hS18 rfl (fun q u h=>zdb (post:=[]) rfl h)) ?_;refine ql (zts hS18.good hue15_0 hr19) ?_;rintro v22 w22 ⟨Fr19,rfl,hT22⟩;have hS22:=hS18.lent hT22;refine qw hS22 ?_;refine q2 ?_;refine W_gs (v:=.i .i64 i11) rfl rfl rfl rfl (fun ⟨hb23,_⟩=>?_) ?_
     ·rw [hb23];exact (qc ·)
     refine W_gs (v:=.b (decide (0 < i11))) rfl rfl rfl rfl (fun ⟨hb24,_⟩=>?_) ?_
     ·rw [hb24];exact (qr (zah rfl rfl zgn) ·)
     refine W_gs (v:=.b (decide (0 < i11))) rfl rfl rfl rfl (fun ⟨hb25,_⟩=>?_) ?_
     ·rw [hb25];exact (qc ·)
     refine zek (v:=pl g16 (0+0)) rfl rfl rfl rfl (fun ⟨hb26,hb27,_⟩=>?_) ?_
     ·rw [hb27,hb26];exact (qf Ty.zkd ·)
     refine zek (v:=.s x14.path) rfl rfl rfl rfl (fun ⟨hb28,hb29,_⟩=>?_) ?_
     ·rw [hb29,hb28];exact (qbq 0 Ty.zkp hS22 ·)
     refine zek (v:=pl g1 (0+1)) rfl rfl rfl rfl (fun ⟨hb30,hb31,_⟩=>?_) ?_
     ·rw [hb31,hb30];exact (qf Ty.zee ·)
     refine zek (v:=v0_0) rfl rfl rfl rfl (fun ⟨hb32,hb33,_⟩=>?_) ?_
     ·rw [hb33,hb32];exact (qbq 1 Ty.zjs hS22 ·)
     refine zek (v:=.i .i64 i11) rfl rfl rfl rfl (fun ⟨hb34,hb35,_⟩=>?_) ?_
     ·rw [hb35,hb34];exact (qc ·)
     refine zek (v:=.i .i64 (wr (i11 - 1))) rfl rfl rfl rfl (fun ⟨hb36,hb37,_⟩=>?_) ?_
     ·rw [hb37,hb36];exact (qc ·)
     refine zek (v:=elp v0_0 ((wr (i11 - 1)).toNat*3)) rfl rfl rfl rfl (fun ⟨hb38,hb39,_⟩=>?_) ?_
     ·rw [hb39,hb38];intro hK;have hy40:=hx20;rw [zbu (by first | rfl | (rw [hb39,hb38];first | done | rfl) | simp [hb38,hb39])] at hy40;obtain ⟨hp41,hy41⟩:=zac hy40;obtain ⟨cs41,hr41,he41⟩:=(h0_0.mono le10).el hy41;obtain ⟨ue21_0,rfl,hue21_0⟩:=hr41;replace he41:=qj 3 he41;have hi41:=he41.ixd;refine qi Tryz.underlying41 Ty.zfn hi41 hp41 ?_;exact hK
     refine zek (v:=elp v0_0 (((wr (i11 - 1)).toNat*3)+0)) rfl rfl rfl rfl (fun ⟨hb42,hb43,_⟩=>?_) ?_
     ·rw [hb43,hb42];intro hK;have hy44:=hx20;rw [zbu (by first | rfl | (rw [hb43,hb42];first | done | rfl) | simp [hb42,hb43])] at hy44;obtain ⟨hp45,hy45⟩:=zac hy44;obtain ⟨cs45,hr45,he45⟩:=(h0_0.mono le10).el hy45;obtain ⟨ue21_0,rfl,hue21_0⟩:=hr45;replace he45:=qj 3 he45;have hi45:=he45.ixd;refine qr (zfm 0 Ty.zkd rfl hi45) ?_;exact hK
     refine zek (v:=.s x20.path) rfl rfl rfl rfl (fun ⟨hb46,hb47,_⟩=>?_) ?_
     ·rw [hb47,hb46];intro hK;have hy48:=hx20;rw [zbu (by first | rfl | (rw [hb47,hb46];first | done | rfl) | simp [hb46,hb47])] at hy48;obtain ⟨hp49,hy49⟩:=zac hy48;obtain ⟨cs49,hr49,he49⟩:=(h0_0.mono le10).el hy49;obtain ⟨ue21_0,rfl,hue21_0⟩:=hr49;replace he49:=qj 3 he49;have hi49:=he49.ixd;refine qq (zfs 0 Ty.zkp rfl (he49.mono hS22.agree) (by omega) rfl) ?_;exact hK
     refine zek (v:=.b (sLt x14.path x20.path||x14.path == x20.path)) rfl rfl rfl rfl (fun ⟨hb50,hb51,_⟩=>?_) ?_
     ·rw [hb51,hb50];exact (qr (zah rfl rfl bS_leq) ·)
     refine W_gs (v:=.b (decide (0 < i11)&&(sLt x14.path x20.path||x14.path == x20.path))) rfl rfl rfl rfl (fun ⟨hb52,_⟩=>?_) ?_
     ·rw [hb52];exact (ziu rfl rfl rfl rfl rfl (fun hc=>by rw [hc];rfl) rfl ·)
     refine zgl rfl rfl rfl rfl rfl rfl (fun hc=>by rw [hc];rfl) ?_;refine qn ?_;refine qy H (fun hc53 H=>?_) (fun hc53 H=>?_)
     ·refine qsm ?_;obtain rfl:=oi H;refine qt ?_;exact ⟨F10,rfl,hS22.pick [] (by decide)⟩
     ·refine zec ?_;refine zbf ?_;refine zcl ?_;refine qd ?_;refine q2 ?_;refine zbk ?_;exact zbd (wr (i11+1)) _ H ⟨F10,rfl,le10,hS22.pick [1] (by decide)⟩ ⟨rfl,rfl,rfl,rfl,trivial⟩
    ·refine zcc _ rfl ?_;exact zbe _ ⟨H,⟨F10,rfl,le10,hS10.pick [] (by decide)⟩⟩ trivial
  ·rintro E w9 ⟨H,F9,rfl,le9,hS9⟩;dsimp only [zda.k1] at H;refine qsm ?_;obtain rfl:=oi H;refine qt ?_;exact ⟨F9,rfl,hS9⟩
def zbi.k1 (r5:(List UInt8) × ManifestReader) (l11:List Part) (l14:List UInt8) (b17:Bool):Option (Manifest × Int) :=
  bd (only (!(b17||decide (0 < (l14.length:Int)))) (zda (Manifest.mk r5.1 l11)) 0) fun r18 =>
  if ((b17||decide (0 < (l14.length:Int)))||decide (r18≠0)) then
    some ((Manifest.mk [] []),3)
  else
    some ((Manifest.mk r5.1 l11),0)
def zbi.k3 (i31:Int) (rec39:(Int × (List UInt8) × Bool × (List Part))→Option (Manifest × Int)) (l42:List UInt8) (b45:Bool) (l46:List Part):Option (Manifest × Int) :=
  rec39 (wr (i31+1),l42,b45,l46)
def zbi.k4 (r5:(List UInt8) × ManifestReader) (i31:Int) (l36:List Part) (rec39:(Int × (List UInt8) × Bool × (List Part))→Option (Manifest × Int)) (r51:(List UInt8) × ManifestReader) (r52:Int × ManifestReader) (l58:List UInt8) (b61:Bool) (l62:List (List UInt8)):Option (Manifest × Int) :=
  bd (app (α:=Part) l36 [(Part.mk r51.1 r52.1 l62)]) fun l66 =>
  if b61 then
    zbi.k1 r5 l66 l58 b61
  else
    zbi.k3 i31 rec39 l58 b61 l66
def zbi.l5 (r5:(List UInt8) × ManifestReader) (i31:Int) (l36:List Part) (rec39:(Int × (List UInt8) × Bool × (List Part))→Option (Manifest × Int)) (r51:(List UInt8) × ManifestReader) (r52:Int × ManifestReader) (r71:Int × ManifestReader) (rec82:(Int × (List UInt8) × Bool × (List (List UInt8)))→Option (Manifest × Int)):(Int × (List UInt8) × Bool × (List (List UInt8)))→Option (Manifest × Int)
  | (i74,l75,b78,l79) =>
    if decide (i74 < r71.1) then
      bd (zcu (ManifestReader.mk l75 b78) 32) fun r84 =>
      bd (arr32 r84.1) fun a85 =>
      bd (app (α:=(List UInt8)) l79 [a85]) fun l88 =>
      rec82 (wr (i74+1),r84.2.b,r84.2.bad,l88)
    else
      zbi.k4 r5 i31 l36 rec39 r51 r52 l75 b78 l79
def zbi.l2 (r5:(List UInt8) × ManifestReader) (r28:Int × ManifestReader) (rec39:(Int × (List UInt8) × Bool × (List Part))→Option (Manifest × Int)):(Int × (List UInt8) × Bool × (List Part))→Option (Manifest × Int)
  | (i31,l32,b35,l36) =>
    if decide (i31 < r28.1) then
      bd (zbv (ManifestReader.mk l32 b35) 1) fun r50 =>
      bd (zcu r50.2 r50.1) fun r51 =>
      bd (zbv r51.2 2) fun r52 =>
      bd (zbv r52.2 1) fun r71 =>
      loop (zbi.l5 r5 i31 l36 rec39 r51 r52 r71) (0,r71.2.b,r71.2.bad,[])
    else
      zbi.k1 r5 l36 l32 b35
def zbi (x0:List UInt8):Option (Manifest × Int) :=
  bd (zbv (ManifestReader.mk x0 false) 1) fun r4 =>
  bd (zcu r4.2 r4.1) fun r5 =>
  bd (zbv r5.2 1) fun r28 =>
  loop (zbi.l2 r5 r28) (0,r28.2.b,r28.2.bad,[])
set_option maxHeartbeats 2000000 in
theorem ztt {x0:List UInt8} {r:Manifest × Int} {v0:Val} (hA:Gd F w) (h0:SlF tB F v0 x0) (H:zbi x0=some r):Ret Tryz.prog K 87 [v0] w fun v w'=>∃ (F':Frz) (q0_0:Val),v = .tup [.agg (Manifest.cells r.1 q0_0),.i .i64 r.2]∧SlF Part.t F' q0_0 (r.1.parts)∧St [] w F F' [] w':=by
 refine qa1 Tryz.func87 ?_;have hS:=St.start hA;dsimp only [zbi] at H;refine qs ?_;refine xm (zft (cs:=[.s [],.sl none 0 (.k 0)]) Ty.zup rfl hS) ?_;rintro _ w1 ⟨g1,rfl,hS1⟩;refine qm ?_;refine qsc ?_;have hcl3:=h0.ln.cells;refine qr (zmn (vs:=[(0,v0)]) (v:=.agg (ManifestReader.cells (ManifestReader.mk x0 false) v0)) Ty.bld202 rfl (by simp only [zly,hcl3];rfl)) ?_;refine xm (E_bx (cs:=[v0,.b false]) rfl rfl (by simp only [List.all_cons,List.all_nil,List.all_append,h0.ln.one];rfl) hS1) ?_;rintro _ w2 ⟨g2,rfl,hS2⟩;refine qm ?_;obtain ⟨r4,hr4,r5,hr5,H⟩:=bd2 H;refine qs ?_;refine q2 ?_;refine lm (zel (x0:=(ManifestReader.mk x0 false)) (x1:=1) (hS2.lendL [0] (by decide)) h0 hr4) ?_;rintro v7 w7 ⟨Fr4,ur4_b0_0,rfl,hfr4_b0_0,hT7⟩;have hS7:=hS2.backL [0] [1] (by decide) (by decide) hT7;have ler4:=hT7.ext;refine lm (zff (x0:=r4.2) (x1:=r4.1) (hS7.lendL [0] (by decide)) hfr4_b0_0 hr5) ?_;rintro ur5_0 w8 ⟨Fr5,_,ur5_b0_0,rfl,hfr5_0,hfr5_b0_0,hT8⟩;have hS8:=hS7.backL [0] [1] (by decide) (by decide) hT8;have ler5:=hT8.ext;refine qr (O_bstr Tryz.underlying47 Tryz.underlying5 Tryz.underlying9 rfl (hfr5_0.mono hS8.agree)) ?_;refine W_c (v:=.agg (Manifest.cells (Manifest.mk r5.1 []) (.sl none 0 (.k 0)))) rfl rfl rfl rfl (fun _=>rfl) ?_;refine xm (zft (cs:=[.s [],.sl none 0 (.k 0)]) Ty.zup rfl hS8) ?_;rintro _ w6 ⟨g6,rfl,hS6⟩;refine um (zea (c:=[.s r5.1,.sl none 0 (.k 0)]) 0 ([.s r5.1,.sl none 0 (.k 0)]) rfl rfl hS6 rfl rfl Ty.zgy rfl rfl rfl) ?_;rintro _ w9 hS9;refine qn ?_;refine zai (fun E wq=>∃ l11:List Part,∃ l14:List UInt8,∃ b17:Bool,zbi.k1 r5 l11 l14 b17=some r ∧ ∃ (F10:Frz) (u12:Val) (u15:Val),E=[(2,pl g1 0),(4,pl g2 0),(5,pl g6 0)]∧Fr5.le F10∧SlF tB F10 u15 l14∧St [] w F F10 [.box g6 [.s r5.1,u12],.box g2 [u15,.b b17],.box g1 [.s [],.sl none 0 (.k 0)],.row Part.t u12 l11] wq) ?_ ?_
 ·obtain ⟨r28,hr28,H⟩:=zap H;refine qsc ?_;refine lm (zel (x0:=r5.2) (x1:=1) (hS9.lendL [1] (by decide)) hfr5_b0_0 hr28) ?_;rintro v29 w29 ⟨Fr28,ur28_b0_0,rfl,hfr28_b0_0,hT29⟩;have hS29:=hS9.backL [1] [0,2] (by decide) (by decide) hT29;have ler28:=hT29.ext;refine qm ?_;refine zar ?_;refine zbm (fun (s:Int × (List UInt8) × Bool × (List Part)) E wq=>∃ (F30:Frz) (u33:Val) (u37:Val),E=[(2,pl g1 0),(4,pl g2 0),(5,pl g6 0),(17,.i .i64 r28.1),(18,.i .i64 s.1)]∧Fr28.le F30∧SlF tB F30 u33 s.2.1∧St [] w F F30 [.box g2 [u33,.b s.2.2.1],.box g6 [.s r5.1,u37],.box g1 [.s [],.sl none 0 (.k 0)],.row Part.t u37 s.2.2.2] wq) H ?_ ?_
  ·have hS96:=hS29.nilRow Part.t;exact ⟨_,⟨Fr28,ur28_b0_0,(.sl none 0 (.k 0)),rfl,(Frz.le.refl _),hfr28_b0_0,hS96.pick [1,2,3,0] (by decide)⟩,⟨rfl,rfl,rfl,rfl,rfl,trivial⟩⟩
  ·rintro rec39 ⟨i31,l32,b35,l36⟩ E w30 hI H
   try dsimp only at hI
   obtain ⟨F30,u33,u37,rfl,le30,hx34,hS30⟩:=hI;dsimp only [zbi.l2] at H;refine qs ?_;refine qr (zah rfl rfl zbp) ?_;refine qn ?_;refine zay ?_;refine qy H (fun hc40 H=>?_) (fun hc40 H=>?_)
   ·refine qk ?_;refine zai (fun E wq=>∃ l42:List UInt8,∃ b45:Bool,∃ l46:List Part,zbi.k3 i31 rec39 l42 b45 l46=some r ∧ ∃ (F41:Frz) (u43:Val) (u47:Val),E=[(2,pl g1 0),(4,pl g2 0),(5,pl g6 0),(17,.i .i64 r28.1),(18,.i .i64 i31)]∧F30.le F41∧SlF tB F41 u43 l42∧St [] w F F41 [.box g2 [u43,.b b45],.box g6 [.s r5.1,u47],.box g1 [.s [],.sl none 0 (.k 0)],.row Part.t u47 l46] wq) ?_ ?_
    ·refine zar ?_;refine zay ?_;obtain ⟨r50,hr50,r51,hr51,H⟩:=bd2 H;obtain ⟨r52,hr52,H⟩:=zap H;refine zaz (G:=F30) [0,1,5,8,2,3,4,6,7,9] rfl Ty.mixed (by kernel_rfl) hS30.agree ?_;refine q3 ?_;refine qx (zft (cs:=[.s [],.i .i64 0,.sl none 0 (.k 0)]) Ty.zoj rfl hS30) ?_;rintro _ w49 ⟨g49,rfl,hS49⟩;refine qw hS49 ?_;refine ql (zel (x0:=(ManifestReader.mk l32 b35)) (x1:=1) (hS49.lendL [1] (by decide)) hx34 hr50) ?_;rintro v53 w53 ⟨Fr50,ur50_b0_0,rfl,hfr50_b0_0,hT53⟩;have hS53:=hS49.backL [1] [0,2,3,4] (by decide) (by decide) hT53;have ler50:=hT53.ext;refine Nxt.frz ler50 hS53.agree ?_;refine ql (zff (x0:=r50.2) (x1:=r50.1) (hS53.lendL [0] (by decide)) hfr50_b0_0 hr51) ?_;rintro ur51_0 w54 ⟨Fr51,_,ur51_b0_0,rfl,hfr51_0,hfr51_b0_0,hT54⟩;have hS54:=hS53.backL [0] [1,2,3,4] (by decide) (by decide) hT54;have ler51:=hT54.ext;refine Nxt.frz ler51 hS54.agree ?_;refine qr (O_bstr Tryz.underlying47 Tryz.underlying5 Tryz.underlying9 rfl hfr51_0) ?_;refine ql (zel (x0:=r51.2) (x1:=2) (hS54.lendL [0] (by decide)) hfr51_b0_0 hr52) ?_;rintro v55 w55 ⟨Fr52,ur52_b0_0,rfl,hfr52_b0_0,hT55⟩;have hS55:=hS54.backL [0] [1,2,3,4] (by decide) (by decide) hT55;have ler52:=hT55.ext;refine Nxt.frz ler52 hS55.agree ?_;refine W_c (v:=.agg (Part.cells (Part.mk r51.1 r52.1 []) (.sl none 0 (.k 0)))) rfl rfl rfl rfl (fun _=>rfl) ?_;refine qu (zea (c:=[.s r51.1,.i .i64 r52.1,.sl none 0 (.k 0)]) 1 ([.s r51.1,.i .i64 r52.1,.sl none 0 (.k 0)]) rfl rfl hS55 rfl rfl Ty.zfn rfl rfl rfl) ?_;rintro _ w56 hS56;refine qw hS56 ?_;refine qn ?_;refine zai (fun E wq=>∃ l58:List UInt8,∃ b61:Bool,∃ l62:List (List UInt8),zbi.k4 r5 i31 l36 rec39 r51 r52 l58 b61 l62=some r ∧ ∃ (F57:Frz) (u59:Val) (u63:Val),E=[(2,pl g1 0),(4,pl g2 0),(5,pl g6 0),(6,pl g49 0),(17,.i .i64 r28.1),(18,.i .i64 i31)]∧Fr52.le F57∧SlF tB F57 u59 l58∧St [] w F F57 [.box g2 [u59,.b b61],.box g49 [.s r51.1,.i .i64 r52.1,u63],.box g6 [.s r5.1,u37],.box g1 [.s [],.sl none 0 (.k 0)],.row Part.t u37 l36,.row tId u63 l62] wq) ?_ ?_
     ·obtain ⟨r71,hr71,H⟩:=zap H;refine qsc ?_;refine lm (zel (x0:=r52.2) (x1:=1) (hS56.lendL [0] (by decide)) hfr52_b0_0 hr71) ?_;rintro v72 w72 ⟨Fr71,ur71_b0_0,rfl,hfr71_b0_0,hT72⟩;have hS72:=hS56.backL [0] [1,2,3,4] (by decide) (by decide) hT72;have ler71:=hT72.ext;refine qm ?_;refine zar ?_;refine zbm (fun (s:Int × (List UInt8) × Bool × (List (List UInt8))) E wq=>∃ (F73:Frz) (u76:Val) (u80:Val),E=[(2,pl g1 0),(4,pl g2 0),(5,pl g6 0),(6,pl g49 0),(17,.i .i64 r28.1),(18,.i .i64 i31),(29,.i .i64 r71.1),(30,.i .i64 s.1)]∧Fr71.le F73∧SlF tB F73 u76 s.2.1∧St [] w F F73 [.box g2 [u76,.b s.2.2.1],.box g49 [.s r51.1,.i .i64 r52.1,u80],.box g6 [.s r5.1,u37],.box g1 [.s [],.sl none 0 (.k 0)],.row Part.t u37 l36,.row tId u80 s.2.2.2] wq) H ?_ ?_
      ·have hS94:=hS72.nilRow tId;exact ⟨_,⟨Fr71,ur71_b0_0,(.sl none 0 (.k 0)),rfl,(Frz.le.refl _),hfr71_b0_0,hS94.pick [1,2,3,4,5,0] (by decide)⟩,⟨rfl,rfl,rfl,rfl,rfl,rfl,rfl,rfl,trivial⟩⟩
      ·rintro rec82 ⟨i74,l75,b78,l79⟩ E w73 hI H
       try dsimp only at hI
       obtain ⟨F73,u76,u80,rfl,le73,hx77,hS73⟩:=hI;dsimp only [zbi.l5] at H;refine qs ?_;refine qr (zah rfl rfl zbp) ?_;refine qn ?_;refine zay ?_;refine qy H (fun hc83 H=>?_) (fun hc83 H=>?_)
       ·refine qk ?_;refine zay ?_;refine zar ?_;obtain ⟨r84,hr84,a85,ha85,H⟩:=bd2 H;have hla85:a85.length=32:=arr32_len ha85;obtain ⟨l88,hl88,H⟩:=zap H;have hb90:=hS73.boxAt 1 rfl;refine zaz (G:=(F73.hold w73 [g49])) [0,1,2,3,4,5,6,7,8,9] rfl Ty.mixed (by kernel_rfl) (HB.agree (HB.cons 1 hb90 hS73 rfl HB.nil) hS73.agree) ?_;refine qf Ty.zfk ?_;refine qr (zfj Ty.zkt rfl (hb90.held (HB.cons 1 hb90 hS73 rfl HB.nil) (by simp)) rfl) ?_;refine qc ?_;refine ql (zff (x0:=(ManifestReader.mk l75 b78)) (x1:=32) (hS73.lendL [0] (by decide)) hx77 hr84) ?_;rintro ur84_0 w91 ⟨Fr84,_,ur84_b0_0,rfl,hfr84_0,hfr84_b0_0,hT91⟩;have hS91:=hS73.backL [0] [1,2,3,4,5] (by decide) (by decide) hT91;have ler84:=hT91.ext;refine Nxt.frz (HB.le (HB.cons 1 hb90 hS91 rfl HB.nil) ler84) (HB.agree (HB.cons 1 hb90 hS91 rfl HB.nil) hS91.agree) ?_;refine W_s2a rfl rfl rfl rfl Tryz.underlying58 rfl hfr84_0 ha85 ?_;intro ga86 oa86 ha86;refine qq (O_lda Ty.zhs Ty.zcy rfl (ha86.mono hS91.agree)) ?_;refine qx (E_bs (t:=tId) (vs:=[.agg (zao a85)]) (xs:=[a85]) Tryz.underlying118 Ty.zvb rfl ⟨⟨rfl,hla85⟩,trivial⟩ rfl rfl hS91) ?_;rintro u87 w87 hS87;refine qh 2 hb90 hS87 ?_;refine qx (zgg (t:=tId) 6 Tryz.underlying118 Ty.zvb Ty.zk118 rfl rfl hS87 rfl (hS87.rowSrc (k:=0) rfl) hl88) ?_;rintro v89 w89 hS89;refine qh 2 hb90 hS89 ?_;refine qf Ty.zfk ?_;refine W_drop (by kernel_rfl) hS89.agree ?_;refine qu (zea (c:=[v89]) 2 ([.s r51.1,.i .i64 r52.1,v89]) rfl rfl hS89 rfl (hS89.rowLn (k:=6) rfl).cells Ty.size118 (by simp only [List.all_cons,List.all_nil,List.all_append,(hS89.rowLn (k:=6) rfl).one];rfl) rfl rfl) ?_;rintro _ w92 hS92;refine qw hS92 ?_;refine zbk ?_;refine zbf ?_;refine zcl ?_;refine qd ?_;refine q2 ?_;refine zbk ?_;exact zbd (wr (i74+1),r84.2.b,r84.2.bad,l88) _ H ⟨Fr84,ur84_b0_0,v89,rfl,(le73.trans ler84),hfr84_b0_0,hS92.pick [1,2,3,4,5,6] (by decide)⟩ ⟨rfl,rfl,rfl,rfl,rfl,rfl,rfl,rfl,trivial⟩
       ·refine zcc _ rfl ?_;exact zbe _ ⟨l75,b78,l79,H,⟨F73,u76,u80,rfl,(ler71.trans le73),hx77,hS73⟩⟩ ⟨rfl,rfl,rfl,rfl,rfl,rfl,trivial⟩
     ·rintro E w57 ⟨l58,b61,l62,H,F57,u59,u63,rfl,le57,hx60,hS57⟩;dsimp only [zbi.k4] at H;obtain ⟨l66,hl66,H⟩:=zap H;refine qs ?_;refine qf Ty.zee ?_;refine qb 2 Ty.zjs hS57 ?_;refine qr (zde 1 (Part.cells (Part.mk r51.1 r52.1 l62) u63) Ty.zsd Ty.zfn (Nat.zero_lt_succ _) rfl hS57 rfl (fun q u h=>zdb (post:=[]) rfl h)) ?_;obtain ⟨F68,le68,hf68,hS68⟩:=hS57.freezeR 5 [0,1,2,3,4] rfl (by decide) (by decide);refine xm (E_bs (t:=Part.t) (vs:=[.agg (Part.cells (Part.mk r51.1 r52.1 l62) u63)]) (xs:=[(Part.mk r51.1 r52.1 l62)]) Tryz.underlying41 Ty.zwy rfl ⟨⟨u63,rfl,hf68⟩,trivial⟩ rfl rfl hS68) ?_;rintro u65 w65 hS65;refine xm (zgg (t:=Part.t) 5 Tryz.underlying41 Ty.zwy Ty.zk41 rfl rfl hS65 rfl (hS65.rowSrc (k:=0) rfl) hl66) ?_;rintro v67 w67 hS67;refine qf Ty.zee ?_;refine um (zea (c:=[v67]) 3 ([.s r5.1,v67]) rfl rfl hS67 rfl (hS67.rowLn (k:=5) rfl).cells Ty.size41 (by simp only [List.all_cons,List.all_nil,List.all_append,(hS67.rowLn (k:=5) rfl).one];rfl) rfl rfl) ?_;rintro _ w69 hS69;refine qn ?_;refine qs ?_;refine q2 ?_;refine qf Ty.zlg ?_;refine qb 1 Ty.zwu hS69 ?_;refine qn ?_;refine qy H (fun hc70 H=>?_) (fun hc70 H=>?_)
      ·refine zcc _ rfl ?_;exact zbe _ ⟨l66,l58,b61,H,⟨F68,v67,u59,rfl,((((((ler28.trans le30).trans ler50).trans ler51).trans ler52).trans le57).trans le68),(hx60.mono le68),hS69.pick [3,1,4,5] (by decide)⟩⟩ ⟨rfl,rfl,rfl,trivial⟩
      ·refine zec ?_;refine zbf ?_;exact zbe _ ⟨l58,b61,l66,H,⟨F68,u59,v67,rfl,((((ler50.trans ler51).trans ler52).trans le57).trans le68),(hx60.mono le68),hS69.pick [1,3,4,5] (by decide)⟩⟩ ⟨rfl,rfl,rfl,rfl,rfl,trivial⟩
    ·rintro E w41 ⟨l42,b45,l46,H,F41,u43,u47,rfl,le41,hx44,hS41⟩;dsimp only [zbi.k3] at H;refine qd ?_;refine q2 ?_;refine zbk ?_;exact zbd (wr (i31+1),l42,b45,l46) _ H ⟨F41,u43,u47,rfl,(le30.trans le41),hx44,hS41⟩ ⟨rfl,rfl,rfl,rfl,rfl,trivial⟩
   ·refine zcc _ rfl ?_;exact zbe _ ⟨l36,l32,b35,H,⟨F30,u37,u33,rfl,(ler28.trans le30),hx34,hS30.pick [1,0,2,3] (by decide)⟩⟩ ⟨rfl,rfl,rfl,trivial⟩
 ·rintro E w10 ⟨l11,l14,b17,H,F10,u12,u15,rfl,le10,hx16,hS10⟩;dsimp only [zbi.k1] at H;refine zay ?_;refine zay ?_;obtain ⟨r18,hr18,H⟩:=zap H;refine zsh (fun E wq=>E=[(2,pl g1 0),(5,pl g6 0),(69,.b ((b17||decide (0 < (l14.length:Int)))||decide (r18≠0)))] ∧ ∃ F19:Frz,F10.le F19∧St [] w F F19 [.box g6 [.s r5.1,u12],.box g2 [u15,.b b17],.box g1 [.s [],.sl none 0 (.k 0)],.row Part.t u12 l11] wq) ?_ ?_
  ·
   rcases Bool.eq_false_or_eq_true b17 with hb20 | hb20
   ·refine qd ?_;refine q2 ?_;refine qf Ty.zlg ?_;refine qb 1 Ty.zwu hS10 ?_;refine qc ?_;refine qvb 57 hb20 ?_;refine qz2 ?_;refine qz2 ?_;refine qz2 ?_;refine q2 ?_;refine qz2 ?_;refine qz ?_;refine qc ?_;refine zbk ?_;exact zbe _ ⟨rfl,F10,(Frz.le.refl _),hS10⟩ ⟨rfl,rfl,(zdw rfl (by first | rfl | (rw [hb20];first | done | rfl) | simp [hb20])),trivial⟩
   ·
    rcases Bool.eq_false_or_eq_true (decide (0 < (l14.length:Int))) with hb21 | hb21
    ·refine qd ?_;refine q2 ?_;refine qf Ty.zlg ?_;refine qb 1 Ty.zwu hS10 ?_;refine qc ?_;refine qvb 57 hb20 ?_;refine q2 ?_;refine qf Ty.zlh ?_;refine qb 1 Ty.zhg hS10 ?_;refine qr (zbs Tryz.underlying47 rfl hx16.ln) ?_;refine qr (zah rfl rfl zgn) ?_;refine q2 ?_;refine qvb 65 hb21 ?_;refine qz2 ?_;refine qz ?_;refine qc ?_;refine zbk ?_;exact zbe _ ⟨rfl,F10,(Frz.le.refl _),hS10⟩ ⟨rfl,rfl,(zdw rfl (by first | rfl | (rw [hb21,hb20];first | done | rfl) | simp [hb20,hb21])),trivial⟩
    ·refine qd ?_;refine q2 ?_;refine qf Ty.zlg ?_;refine qb 1 Ty.zwu hS10 ?_;refine qc ?_;refine qvb 57 hb20 ?_;refine q2 ?_;refine qf Ty.zlh ?_;refine qb 1 Ty.zhg hS10 ?_;refine qr (zbs Tryz.underlying47 rfl hx16.ln) ?_;refine qr (zah rfl rfl zgn) ?_;refine q2 ?_;refine qvb 65 hb21 ?_;refine qr (zde 0 (Manifest.cells (Manifest.mk r5.1 l11) u12) Ty.zpq Ty.zgy (Nat.zero_lt_succ _) rfl hS10 rfl (fun q u h=>zdb (post:=[]) rfl h)) ?_;have hy22:=hr18;rw [zbu (by first | rfl | (rw [hb21,hb20];first | done | rfl) | simp [hb20,hb21])] at hy22;refine lm (znc (Gd.now hS10.wf) (hS10.rowNow (k:=3) rfl) hy22) ?_;rintro v23 w23 ⟨Fr18,rfl,hT23⟩;have hS23:=hS10.lent hT23;refine qr (zah rfl rfl zeb) ?_;refine qc ?_;refine zbk ?_;exact zbe _ ⟨rfl,F10,(Frz.le.refl _),hS23⟩ ⟨rfl,rfl,(zdw rfl (by first | rfl | (rw [hb21,hb20];first | done | rfl) | simp [hb20,hb21])),trivial⟩
  rintro E w19 ⟨rfl,F19,le19,hS19⟩;refine zcl ?_;refine qy H (fun hc24 H=>?_) (fun hc24 H=>?_)
  ·refine qs ?_;refine W_c (v:=.agg (Manifest.cells (Manifest.mk [] []) (.sl none 0 (.k 0)))) rfl rfl rfl rfl (fun _=>rfl) ?_;refine um (zea (c:=[.s [],.sl none 0 (.k 0)]) 2 ([.s [],.sl none 0 (.k 0)]) rfl rfl hS19 rfl rfl Ty.zgy rfl rfl rfl) ?_;rintro _ w25 hS25;refine qm ?_;obtain rfl:=oi H;refine zoe (vs:=[.agg (Manifest.cells (Manifest.mk [] []) (.sl none 0 (.k 0))),.i .i64 3]) rfl ⟨(zkv 2 Ty.zpq Ty.zgy hS25 rfl rfl),rfl,trivial⟩ ?_;exact ⟨F19,.sl none 0 (.k 0),rfl,(SlF.nil _),hS25.pick [] (by decide)⟩
  ·refine qk ?_;refine qs ?_;refine qr (zde 0 (Manifest.cells (Manifest.mk r5.1 l11) u12) Ty.zpq Ty.zgy (Nat.zero_lt_succ _) rfl hS19 rfl (fun q u h=>zdb (post:=[]) rfl h)) ?_;refine um (zea (c:=[.s r5.1,u12]) 2 ([.s r5.1,u12]) rfl rfl hS19 rfl rfl Ty.zgy (by simp only [List.all_cons,List.all_nil,List.all_append,(hS19.rowLn (k:=3) rfl).one];rfl) rfl rfl) ?_;rintro _ w26 hS26;refine qm ?_;obtain ⟨F27,le27,hf27,hS27⟩:=hS26.freezeR 3 [0,1,2] rfl (by decide) (by decide);obtain rfl:=oi H;refine zoe (vs:=[.agg (Manifest.cells (Manifest.mk r5.1 l11) u12),.i .i64 0]) rfl ⟨(zkv 2 Ty.zpq Ty.zgy hS27 rfl rfl),rfl,trivial⟩ ?_;exact ⟨F27,u12,rfl,hf27,hS27.pick [] (by decide)⟩
def zht (x0:Snap) (x1:Int):Option Int :=
  bd (zdx x0.seq x1) fun r2 =>
  some r2
theorem zmz {x0:Snap} {x1:Int} {r:Int} {v0_0:Val} {v0_1:Val} (hA:Gd F w) (h0_0:SlF Part.t F v0_0 x0.man.parts) (h0_1:SlF Loc.t F v0_1 x0.locs) (H:zht x0 x1=some r):Ret Tryz.prog K 89 [.agg (Snap.cells x0 v0_0 v0_1),.i .i64 x1] w fun v w'=>∃ (F':Frz),v = .i .i64 r∧St [] w F F' [] w':=by
 refine qa2 Tryz.func89 ?_;have hS:=St.start hA;dsimp only [zht] at H;refine qs ?_;refine xm (E_bx (cs:=[.i .i64 x0.seq,.s x0.man.name,v0_0,v0_1]) rfl rfl (by simp only [List.all_cons,List.all_nil,List.all_append,h0_0.ln.one,h0_1.ln.one];rfl) hS) ?_;rintro _ w1 ⟨g1,rfl,hS1⟩;refine qm ?_;obtain ⟨r2,hr2,H⟩:=zap H;refine qs ?_;refine qf Ty.zkl ?_;refine qb 0 Ty.zdd hS1 ?_;refine qc ?_;refine lm (zfq hS1.good hr2) ?_;rintro v3 w3 ⟨Fr2,rfl,hT3⟩;have hS3:=hS1.lent hT3;refine qm ?_;obtain rfl:=oi H;refine qt ?_;exact ⟨F,rfl,hS3.pick [] (by decide)⟩
def zaa.k1 (x0:List Snap) (x1:Int) (i2:Int):Option (Int × Bool) :=
  bd (only (decide (i2 < (x0.length:Int))) (ix x0 i2) (Snap.mk 0 (Manifest.mk [] []) [])) fun x3 =>
  bd (only (decide (i2 < (x0.length:Int))) (zht x3 x1) 0) fun r5 =>
  some (i2,(decide (i2 < (x0.length:Int))&&decide (r5=0)))
def zaa.l2 (x0:List Snap) (x1:Int) (rec15:(Int × Int)→Option (Int × Bool)):(Int × Int)→Option (Int × Bool)
  | (i13,i14) =>
    if decide (i13 < i14) then
      bd (ix x0 (wr ((wu (wr (i13+i14))) / 2 ^ (1:Int).toNat))) fun x17 =>
      bd (zht x17 x1) fun r19 =>
      if decide (r19 < 0) then
        rec15 (wr (wr ((wu (wr (i13+i14))) / 2 ^ (1:Int).toNat)+1),i14)
      else
        rec15 (i13,wr ((wu (wr (i13+i14))) / 2 ^ (1:Int).toNat))
    else
      zaa.k1 x0 x1 i13
def zaa (x0:List Snap) (x1:Int):Option (Int × Bool) :=
  loop (zaa.l2 x0 x1) (0,(x0.length:Int))
theorem zex {x0:List Snap} {x1:Int} {r:Int × Bool} {v0:Val} (hA:Gd F w) (h0:SlF Snap.t F v0 x0) (H:zaa x0 x1=some r):Ret Tryz.prog K 88 [v0,.i .i64 x1,.f 89 []] w fun v w'=>∃ (F':Frz),v = .tup [.i .i64 r.1,.b r.2]∧St [] w F F' [] w':=by
 refine qa3 Tryz.func88 ?_;have hS:=St.start hA;dsimp only [zaa] at H;refine qsc ?_;refine qm ?_;refine qsc ?_;refine qr (zbs Tryz.underlying34 rfl h0.ln) ?_;refine qm ?_;refine qs ?_;refine q2 ?_;refine qm ?_;refine zai (fun E wq=>∃ i2:Int,zaa.k1 x0 x1 i2=some r ∧ ∃ (F1:Frz),E=[(0,v0),(1,.i .i64 x1),(2,.f 89 []),(8,.i .i64 (x0.length:Int)),(9,.i .i64 i2)]∧F.le F1∧St [] w F F1 [] wq) ?_ ?_
 ·refine zar ?_;refine zbm (fun (s:Int × Int) E wq=>∃ (F12:Frz),E=[(0,v0),(1,.i .i64 x1),(2,.f 89 []),(8,.i .i64 (x0.length:Int)),(9,.i .i64 s.1),(10,.i .i64 s.2)]∧F.le F12∧St [] w F F12 [] wq) H ?_ ?_
  ·exact ⟨_,⟨F,rfl,(Frz.le.refl _),hS⟩,⟨rfl,rfl,rfl,rfl,rfl,rfl,trivial⟩⟩
  ·rintro rec15 ⟨i13,i14⟩ E w12 hI H
   try dsimp only at hI
   obtain ⟨F12,rfl,le12,hS12⟩:=hI;dsimp only [zaa.l2] at H;refine zay ?_;refine qs ?_;refine q2 ?_;refine qr (zah rfl rfl zbp) ?_;refine qn ?_;refine qy H (fun hc16 H=>?_) (fun hc16 H=>?_)
   ·refine qk ?_;refine zar ?_;refine qs ?_;refine q3 ?_;refine qr (zgv Tryz.underlying3 Tryz.underlying26 rfl (rfl)) ?_;refine qr (zah rfl rfl (zod (by decide) (by decide))) ?_;refine qr (zgv Tryz.underlying26 Tryz.underlying3 rfl (rfl)) ?_;refine qm ?_;obtain ⟨x17,hx17,r19,hr19,H⟩:=bd2 H;refine qs ?_;refine q3 ?_;obtain ⟨hp20,hy20⟩:=zac hx17;obtain ⟨cs20,hr20,he20⟩:=(h0.mono le12).el hy20;obtain ⟨ue18_0,ue18_1,rfl,hue18_0,hue18_1⟩:=hr20;replace he20:=qj 4 he20;have hi20:=he20.ixd;refine qi Tryz.underlying34 Ty.zdl hi20 hp20 ?_;refine qr (zfe 0 (Snap.cells x17 ue18_0 ue18_1) Ty.zsx Ty.zdl rfl (he20.mono hS12.agree) (by omega) rfl (Nat.le_of_ble_eq_true rfl)) ?_;refine qc ?_;refine lm (zmz hS12.good hue18_0 hue18_1 hr19) ?_;rintro v21 w21 ⟨Fr19,rfl,hT21⟩;have hS21:=hS12.lent hT21;refine qr (zah rfl rfl zbp) ?_;refine qn ?_;refine qy H (fun hc22 H=>?_) (fun hc22 H=>?_)
    ·refine qd ?_;refine q3 ?_;refine zbk ?_;refine zbf ?_;exact zbd (wr (wr ((wu (wr (i13+i14))) / 2 ^ (1:Int).toNat)+1),i14) _ H ⟨F12,rfl,le12,hS21⟩ ⟨rfl,rfl,rfl,rfl,rfl,rfl,trivial⟩
    ·refine qd ?_;refine q2 ?_;refine zbk ?_;refine zbf ?_;exact zbd (i13,wr ((wu (wr (i13+i14))) / 2 ^ (1:Int).toNat)) _ H ⟨F12,rfl,le12,hS21⟩ ⟨rfl,rfl,rfl,rfl,rfl,rfl,trivial⟩
   ·refine zcc _ rfl ?_;exact zbe _ ⟨i13,H,⟨F12,rfl,le12,hS12⟩⟩ ⟨rfl,rfl,rfl,rfl,rfl,trivial⟩
 ·rintro E w1 ⟨i2,H,F1,rfl,le1,hS1⟩;dsimp only [zaa.k1] at H;refine zay ?_;obtain ⟨x3,hx3,r5,hr5,H⟩:=bd2 H;refine zsh (fun E wq=>E=[(6,.i .i64 i2),(7,.b (decide (i2 < (x0.length:Int))&&decide (r5=0)))] ∧ ∃ F6:Frz,F1.le F6∧St [] w F F6 [] wq) ?_ ?_
  ·
   rcases Bool.eq_false_or_eq_true (decide (i2 < (x0.length:Int))) with hb7 | hb7
   ·refine qd ?_;refine q3 ?_;refine qr (zah rfl rfl zbp) ?_;refine qc ?_;refine qvb 39 hb7 ?_;refine q3 ?_;have hy8:=hx3;rw [zbu hb7] at hy8;obtain ⟨hp9,hy9⟩:=zac hy8;obtain ⟨cs9,hr9,he9⟩:=(h0.mono le1).el hy9;obtain ⟨ue4_0,ue4_1,rfl,hue4_0,hue4_1⟩:=hr9;replace he9:=qj 4 he9;have hi9:=he9.ixd;refine qi Tryz.underlying34 Ty.zdl hi9 hp9 ?_;refine qr (zfe 0 (Snap.cells x3 ue4_0 ue4_1) Ty.zsx Ty.zdl rfl (he9.mono hS1.agree) (by omega) rfl (Nat.le_of_ble_eq_true rfl)) ?_;refine qc ?_;have hy10:=hr5;rw [zbu hb7] at hy10;refine lm (zmz hS1.good hue4_0 hue4_1 hy10) ?_;rintro v11 w11 ⟨Fr5,rfl,hT11⟩;have hS11:=hS1.lent hT11;refine qr (zah rfl rfl zeg) ?_;refine q3 ?_;refine zbk ?_;exact zbe _ ⟨rfl,F1,(Frz.le.refl _),hS11⟩ ⟨rfl,(zdw rfl (by first | rfl | (rw [hb7];first | done | rfl) | simp [hb7])),trivial⟩
   ·refine qd ?_;refine q3 ?_;refine qr (zah rfl rfl zbp) ?_;refine qc ?_;refine qvb 39 hb7 ?_;refine qz2 ?_;refine qz2 ?_;refine qz2 ?_;refine qz2 ?_;refine q3 ?_;refine zbk ?_;exact zbe _ ⟨rfl,F1,(Frz.le.refl _),hS1⟩ ⟨rfl,(zdw rfl (by first | rfl | (rw [hb7];first | done | rfl) | simp [hb7])),trivial⟩
  rintro E w6 ⟨rfl,F6,le6,hS6⟩;refine zcl ?_;obtain rfl:=oi H;refine qt ?_;exact ⟨F6,rfl,hS6⟩
def zla (x0:Exp) (x1:Int):Option Int :=
  bd (zdx x0.seq x1) fun r2 =>
  some r2
theorem znw {x0:Exp} {x1:Int} {r:Int} {v0_0:Val} (hA:Gd F w) (h0_0:SlF Loc.t F v0_0 x0.locs) (H:zla x0 x1=some r):Ret Tryz.prog K 94 [.agg (Exp.cells x0 v0_0),.i .i64 x1] w fun v w'=>∃ (F':Frz),v = .i .i64 r∧St [] w F F' [] w':=by
 refine qa2 Tryz.func94 ?_;have hS:=St.start hA;dsimp only [zla] at H;refine qs ?_;refine xm (E_bx (cs:=[.i .i64 x0.seq,.i .i64 x0.of,v0_0]) rfl rfl (by simp only [List.all_cons,List.all_nil,List.all_append,h0_0.ln.one];rfl) hS) ?_;rintro _ w1 ⟨g1,rfl,hS1⟩;refine qm ?_;obtain ⟨r2,hr2,H⟩:=zap H;refine qs ?_;refine qf Ty.zls ?_;refine qb 0 Ty.zdd hS1 ?_;refine qc ?_;refine lm (zfq hS1.good hr2) ?_;rintro v3 w3 ⟨Fr2,rfl,hT3⟩;have hS3:=hS1.lent hT3;refine qm ?_;obtain rfl:=oi H;refine qt ?_;exact ⟨F,rfl,hS3.pick [] (by decide)⟩
end
end Go.Wk.Lf
end
