/- Closed rows by their cells: slices, copies; what slices.Insert makes. slices.Insert at rows whose elements own memory. Rules that find what is known by themselves: shorter texts. A run of steps that find all by themselves. Shorter still: returns, joins, loops, guards, that find what they need. The types, found by themselves. -/
import Derived.Test.YtfphkkaifgnlgaaGreatG2
import Derived.Test.YtfphkkaifgnlgaaGreatProg
set_option linter.unusedVariables false
set_option linter.unusedSimpArgs false
section
namespace Go.V
open Go.Wk
theorem cv1_one' {u:Value} {v:Val} (h:cv1 u=some v):v.one=true:=by
 unfold cv1 at h
 split at h <;> first | (obtain rfl:=Option.some.inj h;rfl) | cases h
theorem mapM_one':∀ {l:List Value} {vs:List Val},l.mapM cv1=some vs→vs.all Val.one=true:=by
 intro l
 induction l with
 | nil=>intro vs h;simp at h;subst h;rfl
 | cons x l ih =>
  intro vs h;simp only [List.mapM_cons,Option.bind_eq_bind,Option.pure_def,Option.bind_eq_some_iff,Option.some.injEq] at h;obtain ⟨v,h1,us,h2,rfl⟩:=h;rw [List.all_cons,cv1_one' h1,ih h2];rfl
theorem cv_one' {u:Value} {v:Val} (h:cv u=some v):v.cells.all Val.one=true:=by
 unfold cv at h
 split at h
 ·obtain ⟨vs,h1,rfl⟩:=Option.map_eq_some_iff.1 h;exact mapM_one' h1
 ·have h1:=cv1_one' h;cases v <;> first | (simp [Val.cells,Val.one];done) | (simp [Val.one] at h1)
section
variable {P:Program} {E:EL} {G:Frz} {h:Hp}
theorem zwl {x:Int} {n:Nat} (hx:x=(n:Int)) (hn:n < 4611686018427387904):IntKind.i64.wrap x=(n:Int):=by
 subst hx;have h1:((n:Int) % (2 ^ 64:Int))=n:=Int.emod_eq_of_lt (by omega) (by omega);show (if (true&&decide ((n:Int) % (2 ^ 64:Int) ≥ (2 ^ 63:Int)))=true then (n:Int) % (2 ^ 64:Int) - (2 ^ 64:Int) else (n:Int) % (2 ^ 64:Int))=n;rw [h1,if_neg];simp only [Bool.true_and,decide_eq_true_eq];omega
theorem zsa {t:TypeId} {a b:Nat} (h:a+b < 4611686018427387904):binV P .add t (.i .i64 (a:Int)) (.i .i64 (b:Int))=some (.i .i64 ((a+b:Nat):Int)):=by
 simp only [binV,ibin,if_true];rw [zwl (n:=a+b) (by omega) h]
theorem bI_subN {t:TypeId} {a b:Nat} (h:b≤a) (ha:a < 4611686018427387904):binV P .sub t (.i .i64 (a:Int)) (.i .i64 (b:Int))=some (.i .i64 ((a - b:Nat):Int)):=by
 simp only [binV,ibin,if_true];rw [zwl (n:=a - b) (by omega) (by omega)]
theorem bnd_ok2 {len cap:Nat} {lo hi:Option Val} {a b:Nat} (hlo:BdV lo 0 (a:Int)) (hhi:BdV hi len (b:Int)) (h1:a≤b) (hc:b≤cap):bndV len cap lo hi none=some (a,b,cap):=by
 have na:∀ kk,natI (.i kk (a:Int))=some a:=fun kk=>by unfold natI;simp only;rw [if_pos (by omega)];rfl
 have nb:∀ kk,natI (.i kk (b:Int))=some b:=fun kk=>by unfold natI;simp only;rw [if_pos (by omega)];rfl
 have e1:zmn hi len=some b:=by
  rcases hhi with ⟨rfl,e⟩ | ⟨kk,rfl⟩
  ·simp [zmn];omega
  ·exact nb kk
 have e2:zmn lo 0=some a:=by
  rcases hlo with ⟨rfl,e⟩ | ⟨kk,rfl⟩
  ·simp [zmn];omega
  ·exact na kk
 unfold bndV;rw [e1,e2];simp only [zmn,Option.bind_some];rw [if_pos ⟨Nat.le_refl _,by omega,by omega,fun q=>by cases q⟩]
theorem O_slK {t e:TypeId} {z b o len k:Nat} {x:Operand} {ol oh:Option Operand} (l u:Nat) (ht:P.underlying t=some (.slice e)) (hz:sz P e=some z) (hx:evLO E x=some (.sl (some (b,o)) len (.k k))) (hl:Bd E ol 0 (l:Int)) (hh:Bd E oh len (u:Int)) (h1:l≤u) (h2:u≤k) (h3:l < k) (h:Hp) :
  opL P E h (.slice t x ol oh none)=some (.sl (some (b,o+l*z)) (u - l) (.k (k - l)),h):=by
 obtain ⟨lo,l1,l2⟩:=hl.val;obtain ⟨hi,r1,r2⟩:=hh.val;have n0:evLQ E none=some none:=rfl;simp only [opL,hx,l1,r1,n0,Option.bind_some,zhn,ht,hz];rw [bnd_ok2 l2 r2 h1 h2];simp only [Option.map_some];rw [if_neg (by omega)]
theorem O_slO {t e:TypeId} {z b o len:Nat} {x:Operand} {ol oh:Option Operand} (l u:Nat) (ht:P.underlying t=some (.slice e)) (hz:sz P e=some z) (hx:evLO E x=some (.sl (some (b,o)) len (.op z))) (hl:Bd E ol 0 (l:Int)) (hh:Bd E oh len (u:Int)) (h1:l≤u) (h2:u≤len) (h3:l < len) (h:Hp) :
  opL P E h (.slice t x ol oh none)=some (.sl (some (b,o+l*z)) (u - l) (.op z),h):=by
 obtain ⟨lo,l1,l2⟩:=hl.val;obtain ⟨hi,r1,r2⟩:=hh.val;have n0:evLQ E none=some none:=rfl;simp only [opL,hx,l1,r1,n0,Option.bind_some,zhn,ht,hz,if_true];rw [bnd_ok2 l2 r2 h1 h2];simp only [Option.map_some,Option.isSome_none,Bool.false_eq_true,if_false];rw [if_pos h3]
theorem E_cp {t e:TypeId} {dx sx:Operand} {b o n b2 o2 n2 z z1 z2 m:Nat} {k k2:Cap} {c d:List Val} (ht:P.underlying t=some (.slice e)) (hz:sz P e=some z) (hd:evLO E dx=some (.sl (some (b,o)) n k)) (hx:evLO E sx=some (.sl (some (b2,o2)) n2 k2)) (hm:min n2 n=m)
  (hg:h.get b=some (.cells z1 c)) (hg2:h.get b2=some (.cells z2 d)) (h1:o2+m*z≤d.length) (h2:o+m*z≤c.length) (h3:d.all Val.one=true) (hm0:0 < m) :
  Ef P E h (.call { callee:=.builtin .copy,args:=#[dx,sx],argTypes:=#[t,t] }) (fun u h'=>h' = h.set b (.cells z1 (putL c o ((d.drop o2).take (m*z))))):=by
 refine ⟨rfl,.i .i64 ((min n2 n:Nat):Int),_,?_,rfl⟩;have hf:zgd h z m (.sl (some (b2,o2)) n2 k2)=some ((d.drop o2).take (m*z)):=by
  simp only [zgd];rw [if_neg (by omega)];unfold rd;rw [hg2];simp only;rw [if_pos h1]
 have hlen:((d.drop o2).take (m*z)).length=m*z:=by rw [List.length_take,List.length_drop];omega
 have hone:((d.drop o2).take (m*z)).all Val.one=true:=List.all_eq_true.2 fun x hx=>List.all_eq_true.1 h3 x (List.mem_of_mem_drop (List.mem_of_mem_take hx));simp only [opL,evLL,List.mapM_cons,List.mapM_nil,hd,hx,bltV,copyV,Option.bind_some,Option.bind_eq_bind,pure,List.getElem?_cons_zero,ht,hz,lenV,hm,hf];rw [if_pos hlen];unfold wrH;rw [hg];simp only;rw [if_pos ⟨by rw [hlen];exact h2,hone⟩];rfl
theorem E_apK {ts tx e:TypeId} {sx xx:Operand} {b o l k N z zb:Nat} {kk:IntKind} {c:List Val} (ht:P.underlying ts=some (.slice e)) (hrow:zkq P e z=true) (hzk:zhs P tx=some true) (hs:evLO E sx=some (.sl (some (b,o)) l (.k k))) (hxx:evLO E xx=some (.i kk (N:Int)))
  (hlk:l≤k) (hroom:k < l+N) (hl:l≤2 ^ 30) (hN:N≤2 ^ 30) (hg:h.get b=some (.cells zb c)) (hc:o+l*z≤c.length) (h1:c.all Val.one=true) :
  Ef P E h (.call { callee:=.builtin .append,args:=#[sx,xx],argTypes:=#[ts,tx] }) (fun v' h'=>v' = .sl (some (h.next,0)) (l+N) (.op z) ∧ ∃ zs,zs.length=N*z∧zs.all Val.one=true∧h' = h.new (.cells z ((c.drop o).take (l*z)++zs))):=by
 obtain ⟨inf,zero,r1,r2,r3,r4,r5,r6,r7⟩:=zkb hrow;have hnv:natV (.i kk (N:Int))=some N:=by unfold natV;simp only;rw [if_pos ⟨by omega,by omega⟩];rfl
 have hlen:(zeu zero.cells N).length=N*z:=by simp [zeu,r4]
 have hz1:(zeu zero.cells N).all Val.one=true:=by
  refine List.all_eq_true.2 fun u hu=>?_;unfold zeu at hu;obtain ⟨q,hq,hu⟩:=List.mem_flatten.1 hu;rw [(List.mem_replicate.1 hq).2] at hu;obtain ⟨i,zz,e1,e2,e3⟩:=zfx r3;have:=cv_one' e3;exact List.all_eq_true.1 this u hu
 have hone:((c.drop o).take (l*z)).all Val.one=true:=List.all_eq_true.2 fun x hx=>List.all_eq_true.1 h1 x (List.mem_of_mem_drop (List.mem_of_mem_take hx));refine ⟨rfl,.sl (some (h.next,0)) (l+N) (.op z),h.new (.cells z ((c.drop o).take (l*z)++zeu zero.cells N)),?_,rfl,_,hlen,hz1,rfl⟩;simp only [opL,evLL,List.mapM_cons,List.mapM_nil,hs,hxx,bltV,zpo,ht,r1,r2,r3,hzk,moreV,hnv,Option.bind_some,cond_true,pure,Option.bind_eq_bind];rw [if_pos r4];simp only [Option.bind_some];rw [if_pos ⟨r4,r5,by omega,r6,r7,hlen,hz1⟩];simp only [appV];rw [if_neg (by omega),if_pos ⟨hlk,by omega⟩];have hf:zgd h z l (.sl (some (b,o)) l (.k k))=some ((c.drop o).take (l*z)):=by
  simp only [zgd]
  split
  ·rename_i h0;subst h0;simp
  ·unfold rd;rw [hg];simp only;rw [if_pos hc]
 rw [hf];simp only [Option.bind_some,rowV];rw [if_pos (by rw [List.all_append,hone,hz1];rfl)];rfl
end
def InsR (z:Nat) (h:Hp) (b i n y:Nat) (c d:List Val) (u:Val) (h':Hp):Prop :=
 ∃ g k c',u = .sl (some (g,0)) (n+y) (.of z k)∧h'.get g=some (.cells z c')∧c'.take ((n+y)*z)=c.take (i*z)++d.take (y*z)++(c.take (n*z)).drop (i*z)∧(k=none→(n+y)*z≤c'.length)∧(∀ q,k=some q→c'.length=q*z∧n+y≤q) ∧
  c'.all Val.one=true∧g < h'.next∧h.next≤h'.next∧Wf h' ∧ (∀ q,q < h.next→q≠b→h'.get q=h.get q)∧(g=b∨h.next≤g)
theorem ztf {c v:List Val} {o:Nat} (h1:c.all Val.one=true) (h2:v.all Val.one=true):(putL c o v).all Val.one=true:=by
 unfold putL;rw [List.all_append,List.all_append,h2];have p1:(c.take o).all Val.one=true:=List.all_eq_true.2 fun x hx=>List.all_eq_true.1 h1 x (List.mem_of_mem_take hx);have p2:(c.drop (o+v.length)).all Val.one=true:=List.all_eq_true.2 fun x hx=>List.all_eq_true.1 h1 x (List.mem_of_mem_drop hx);rw [p1,p2];rfl
theorem zqg {c:List Val} {a b:Nat} (h1:c.all Val.one=true):((c.drop a).take b).all Val.one=true:=List.all_eq_true.2 fun x hx=>List.all_eq_true.1 h1 x (List.mem_of_mem_drop (List.mem_of_mem_take hx))
section
variable {z i n y m:Nat} {c d:List Val}
theorem ins_in (hi:i < n) (hnm:n+y≤m) (hcm:c.length=m*z) (hyd:y*z≤d.length) :
  (putL (putL c ((i+y)*z) ((c.drop (i*z)).take ((n - i)*z))) (i*z) ((d.drop 0).take (y*z))).take ((n+y)*z)=c.take (i*z)++d.take (y*z)++(c.take (n*z)).drop (i*z) ∧
  (putL (putL c ((i+y)*z) ((c.drop (i*z)).take ((n - i)*z))) (i*z) ((d.drop 0).take (y*z))).length=m*z:=by
 have e1:(i+y)*z=i*z+y*z:=Nat.add_mul _ _ _;have e2:(n - i)*z=n*z - i*z:=Nat.sub_mul _ _ _;have e3:(n+y)*z=n*z+y*z:=Nat.add_mul _ _ _;have e4:i*z≤n*z:=Nat.mul_le_mul_right _ (Nat.le_of_lt hi);have e5:(n+y)*z≤m*z:=Nat.mul_le_mul_right _ hnm;generalize i*z=I at *;generalize n*z=N at *;generalize y*z=Y at *;generalize m*z=M at *;have lA:((c.drop I).take (N - I)).length=N - I:=by rw [List.length_take,List.length_drop];omega
 have lD:((d.drop 0).take Y).length=Y:=by rw [List.length_take,List.length_drop];omega
 rw [e1,e2,e3];have hl1:(putL c (I+Y) ((c.drop I).take (N - I))).length=M:=by rw [zek (by rw [lA];omega)];exact hcm
 have hl2:(putL (putL c (I+Y) ((c.drop I).take (N - I))) I ((d.drop 0).take Y)).length=M:=by rw [zek (by rw [lD,hl1];omega)];exact hl1
 refine ⟨?_,hl2⟩;apply List.ext_getElem?;intro j;rw [List.getElem?_take]
 by_cases hj:j < N+Y
 ·rw [if_pos hj,zjj (by rw [lD,hl1];omega),lD]
  by_cases h1:j < I
  ·rw [if_neg (by omega),zjj (by rw [lA];omega),lA,if_neg (by omega),List.append_assoc,List.getElem?_append_left (by rw [List.length_take];omega),List.getElem?_take,if_pos h1]
  ·by_cases h2:j < I+Y
   ·rw [if_pos ⟨by omega,h2⟩,List.getElem?_append_left (by simp only [List.length_append,List.length_take];omega),List.getElem?_append_right (by rw [List.length_take];omega),List.drop_zero,List.length_take,Nat.min_eq_left (by omega)]
   ·rw [if_neg (by omega),zjj (by rw [lA];omega),lA,if_pos (by omega),List.getElem?_append_right (by simp only [List.length_append,List.length_take];omega),List.getElem?_take,if_pos (by omega),List.getElem?_drop,List.getElem?_drop,List.getElem?_take];simp only [List.length_append,List.length_take];rw [if_pos (by omega)]
    congr 1;omega
 ·rw [if_neg hj]
  symm
  rw [List.getElem?_eq_none_iff];simp only [List.length_append,List.length_take,List.length_drop];omega
theorem ins_new {zs:List Val} (hi:i < n) (hnm:n≤m) (hcm:c.length=m*z) (hyd:y*z≤d.length) (hzs:zs.length=(n+y - i)*z) :
  putL (putL ((c.drop 0).take (i*z)++zs) (i*z) ((d.drop 0).take (y*z))) ((i+y)*z) ((c.drop (i*z)).take ((n - i)*z))=c.take (i*z)++d.take (y*z)++(c.take (n*z)).drop (i*z) ∧
  (putL (putL ((c.drop 0).take (i*z)++zs) (i*z) ((d.drop 0).take (y*z))) ((i+y)*z) ((c.drop (i*z)).take ((n - i)*z))).length=(n+y)*z:=by
 have e1:(i+y)*z=i*z+y*z:=Nat.add_mul _ _ _;have e2:(n - i)*z=n*z - i*z:=Nat.sub_mul _ _ _;have e3:(n+y)*z=n*z+y*z:=Nat.add_mul _ _ _;have e4:i*z≤n*z:=Nat.mul_le_mul_right _ (Nat.le_of_lt hi);have e5:n*z≤m*z:=Nat.mul_le_mul_right _ hnm;have e6:(n+y - i)*z=n*z+y*z - i*z:=by rw [Nat.sub_mul,Nat.add_mul]
 rw [e6] at hzs;generalize i*z=I at *;generalize n*z=N at *;generalize y*z=Y at *;generalize m*z=M at *;have lA:((c.drop I).take (N - I)).length=N - I:=by rw [List.length_take,List.length_drop];omega
 have lD:((d.drop 0).take Y).length=Y:=by rw [List.length_take,List.length_drop];omega
 have lB:((c.drop 0).take I++zs).length=N+Y:=by rw [List.length_append,List.length_take,List.length_drop];omega
 rw [e1,e2,e3];have hl1:(putL ((c.drop 0).take I++zs) I ((d.drop 0).take Y)).length=N+Y:=by rw [zek (by rw [lD,lB];omega)];exact lB
 have hl2:(putL (putL ((c.drop 0).take I++zs) I ((d.drop 0).take Y)) (I+Y) ((c.drop I).take (N - I))).length=N+Y:=by rw [zek (by rw [lA,hl1];omega)];exact hl1
 refine ⟨?_,hl2⟩;apply List.ext_getElem?;intro j
 by_cases hj:j < N+Y
 ·rw [zjj (by rw [lA,hl1];omega),lA]
  by_cases h1:j < I
  ·rw [if_neg (by omega),zjj (by rw [lD,lB];omega),lD,if_neg (by omega),List.append_assoc,List.getElem?_append_left (by rw [List.length_take,List.length_drop];omega),List.getElem?_append_left (by rw [List.length_take];omega),List.drop_zero]
  ·by_cases h2:j < I+Y
   ·rw [if_neg (by omega),zjj (by rw [lD,lB];omega),lD,if_pos ⟨by omega,h2⟩,List.getElem?_append_left (by simp only [List.length_append,List.length_take];omega),List.getElem?_append_right (by rw [List.length_take];omega),List.drop_zero,List.length_take,Nat.min_eq_left (by omega)]
   ·rw [if_pos (by omega),List.getElem?_append_right (by simp only [List.length_append,List.length_take];omega),List.getElem?_take,if_pos (by omega),List.getElem?_drop,List.getElem?_drop,List.getElem?_take];simp only [List.length_append,List.length_take];rw [if_pos (by omega)]
    congr 1;omega
 ·rw [List.getElem?_eq_none_iff.2 (by rw [hl2];omega)]
  symm
  rw [List.getElem?_eq_none_iff];simp only [List.length_append,List.length_take,List.length_drop];omega
end
end Go.V
end
section
namespace Go.Wk
def insD {α:Type} (xs:List α) (i:Int) (ys:List α):Option (List α):=if 0≤i∧i≤(xs.length:Int)∧0 < ys.length∧xs.length+ys.length≤1073741824 then some (xs.take i.toNat++ys++xs.drop i.toNat) else none
theorem insD_some {α:Type} {xs ys r:List α} {i:Int} (h:insD xs i ys=some r):0≤i∧i≤(xs.length:Int)∧0 < ys.length∧xs.length+ys.length≤1073741824∧r=xs.take i.toNat++ys++xs.drop i.toNat:=by
 unfold insD at h
 split at h
 ·rename_i hc;exact ⟨hc.1,hc.2.1,hc.2.2.1,hc.2.2.2,(Option.some.inj h).symm⟩
 ·cases h
end Go.Wk
namespace Go.V
open Go.Wk
section
variable {α:Type} {t:To α} {F:Frz} {h h':Hp} {css:List (Cl t.size)} {bss:List (List Nat)} {xs:List α}
theorem RowE.take (a:RowE t F h css bss xs) (i:Nat):RowE t F h (css.take i) (bss.take i) (xs.take i) :=
 ⟨by rw [List.length_take,List.length_take,a.csl],by rw [List.length_take,List.length_take,a.bsl],fun j d x e h1 h2 h3=>by
  rw [List.getElem?_take] at h1 h2 h3
  split at h1
  ·rename_i hj;rw [if_pos hj] at h2 h3;exact a.rel j d x e h1 h2 h3
  ·cases h1⟩
theorem RowE.drop (a:RowE t F h css bss xs) (i:Nat):RowE t F h (css.drop i) (bss.drop i) (xs.drop i) :=
 ⟨by rw [List.length_drop,List.length_drop,a.csl],by rw [List.length_drop,List.length_drop,a.bsl],fun j d x e h1 h2 h3=>by
  rw [List.getElem?_drop] at h1 h2 h3;exact a.rel _ d x e h1 h2 h3⟩
theorem flat_take {s:Nat}:∀ (css:List (Cl s)) (i:Nat),((css.take i).map Subtype.val).flatten=((css.map Subtype.val).flatten).take (i*s)
 | [],i=>by simp
 | d::r,0=>by simp
 | d::r,i+1=>by
  rw [List.take_succ_cons,List.map_cons,List.flatten_cons,List.map_cons,List.flatten_cons,flat_take r i,List.take_append,d.2,Nat.add_mul,Nat.one_mul,Nat.add_sub_cancel,List.take_of_length_le (l:=d.1) (by rw [d.2];omega)]
theorem flat_drop {s:Nat}:∀ (css:List (Cl s)) (i:Nat),((css.drop i).map Subtype.val).flatten=((css.map Subtype.val).flatten).drop (i*s)
 | [],i=>by simp
 | d::r,0=>by simp
 | d::r,i+1=>by
  rw [List.drop_succ_cons,List.map_cons,List.flatten_cons,flat_drop r i,List.drop_append,d.2,Nat.add_mul,Nat.one_mul,Nat.add_sub_cancel,show d.1.drop (i*s+s)=[] from List.drop_eq_nil_of_le (by rw [d.2];omega),List.nil_append]
def InsW (P:Program) (K:Tb) (f:FuncId) (z:Nat):Prop:=∀ {h:Hp} {b n m i vb y:Nat} {ck:Cap} {c d:List Val} (hW:Wf h) (hb:b < h.next) (hg:h.get b=some (.cells z c)) (hv:h.get vb=some (.cells z d)) (hne:vb≠b) (hi:i < n) (hnm:n≤m) (hcm:c.length=m*z) (hy:0 < y) (hyd:y*z≤d.length) (hc1:c.all Val.one=true) (hd1:d.all Val.one=true) (hbig:n+y≤2 ^ 30) (hvb:vb < h.next),
  Ret P K f [.sl (some (b,0)) n (.k m),.i .i64 (i:Int),.sl (some (vb,0)) y ck] h (InsR z h b i n y c d)
end
section
variable {α:Type} {t:To α} {F:Frz} {w:Hp} {X:List Nat} {bs bs2:List Nat} {v v2:Val} {i:Int} {xs ys r:List α} {P:Program} {K K0:Tb} {f z:Nat}
theorem insR_dp (hz:t.size=z) {n:Nat} (hS:St X w F F [.dp t bs v xs,.dp t bs2 v2 ys] w) (hn:n < xs.length) (hfew:xs.length+ys.length≤1073741824)
  {b:Nat} {c:List Val} {k:Option Nat} {css:List (Cl t.size)} {bss:List (List Nat)} (r1:RowO t F w bs v xs b c k css bss) {vb:Nat} {d:List Val} {k2:Option Nat} {css2:List (Cl t.size)} {bss2:List (List Nat)} (r2:RowO t F w bs2 v2 ys vb d k2 css2 bss2)
  {h2:Hp} {b':Nat} {c2:List Val} (hn2:w.next≤h2.next) (hk2:∀ q,q < w.next→q≠b→h2.get q=w.get q) (hb':b' = b∨w.next≤b') (hc2:∃ post,c2=c++post) {u:Val} {h':Hp} (hI:InsR z h2 b' n xs.length ys.length c2 d u h'):∃ bs',St X w F F [.dp t bs' u (xs.take n++ys++xs.drop n)] h':=by
 subst hz;obtain ⟨g,k',c',rfl,hg,hcs,ho,hcap,h1,hgl,hnx,hwf,hkeep,hgb⟩:=hI;obtain ⟨post,rfl⟩:=hc2;have hap:∀ q,q∈bs→q ∉ bs2:=fun q h1 h2=>by
  have:=hS.apart 0 1 _ _ q rfl rfl h1 h2;omega
 have hf1:=r1.foot;have hf2:=r2.foot;have hn1:=r1.nodup;have hn2':=r2.nodup;rw [hf1] at hn1;rw [hf2] at hn2';have e1:RowE t F w css bss xs:=⟨r1.csl,r1.bsl,r1.rel⟩
 have e2:RowE t F w css2 bss2 ys:=⟨r2.csl,r2.bsl,r2.rel⟩
 have eA:RowE t F w (css.take n++css2++css.drop n) (bss.take n++bss2++bss.drop n) (xs.take n++ys++xs.drop n):=((e1.take n).cat e2).cat (e1.drop n);have hmem:∀ q,q∈(bss.take n++bss2++bss.drop n).flatten→q∈bss.flatten∨q∈bss2.flatten:=fun q hq=>by
  simp only [List.flatten_append,List.mem_append] at hq;rcases hq with (hq | hq) | hq
  ·obtain ⟨e,he,hq⟩:=List.mem_flatten.1 hq;exact .inl (List.mem_flatten.2 ⟨e,List.mem_of_mem_take he,hq⟩)
  ·exact .inr hq
  ·obtain ⟨e,he,hq⟩:=List.mem_flatten.1 hq;exact .inl (List.mem_flatten.2 ⟨e,List.mem_of_mem_drop he,hq⟩)
 have hlt:∀ q,q∈(bss.take n++bss2++bss.drop n).flatten→q < w.next:=eA.lt;have hneb:∀ q,q∈(bss.take n++bss2++bss.drop n).flatten→q≠b:=fun q hq e=>by
  subst e;rcases hmem q hq with h | h
  ·exact (List.nodup_cons.1 hn1).1 h
  ·exact hap q (by rw [hf1];simp) (by rw [hf2];exact List.mem_cons_of_mem _ h)
 have hnew:∀ q,q < w.next→q≠b→h'.get q=w.get q:=fun q hq hqb=>by
  rw [hkeep q (by omega) (fun e=>by rcases hb' with rfl | hb';exact hqb e;omega)];exact hk2 q hq hqb
 have eB:=eA.frame (h1:=h') (by omega) fun q hq=>hnew q (hlt q hq) (hneb q hq);have hgg:g=b∨w.next≤g:=by
  rcases hgb with rfl | h
  ·exact hb'
  ·exact .inr (by omega)
 have hlen:(xs.take n++ys++xs.drop n).length=xs.length+ys.length:=by simp only [List.length_append,List.length_take,List.length_drop];omega
 have hfitc:xs.length*t.size≤c.length:=by
  cases k with
  | none=>exact r1.opn rfl
  | some m=>obtain ⟨q1,q2⟩:=r1.cap m rfl;rw [q1];exact Nat.mul_le_mul_right _ q2
 have hnod:(bss.take n++bss2++bss.drop n).flatten.Nodup:=by
  have p:((bss.take n++bss2++bss.drop n).flatten).Perm (bss.flatten++bss2.flatten):=by
   have q:bss.flatten=(bss.take n).flatten++(bss.drop n).flatten:=by rw [← List.flatten_append,List.take_append_drop]
   rw [q,List.flatten_append,List.flatten_append,List.append_assoc,List.append_assoc];exact List.Perm.append_left _ List.perm_append_comm
  rw [p.nodup_iff];exact List.nodup_append.2 ⟨(List.nodup_cons.1 hn1).2,(List.nodup_cons.1 hn2').2,fun x hx y hy e=>by
   subst e;exact hap x (by rw [hf1];exact List.mem_cons_of_mem _ hx) (by rw [hf2];exact List.mem_cons_of_mem _ hy)⟩
 have R:=ztr (b:=g) (c:=c') (k:=k') eB hgl hg (by
   rw [hlen,hcs,List.map_append,List.map_append,List.flatten_append,List.flatten_append,flat_take,flat_drop,← r1.cells,← r2.cells];have l1:n*t.size≤xs.length*t.size:=Nat.mul_le_mul_right _ (Nat.le_of_lt hn);rw [List.take_take,Nat.min_eq_left l1,List.take_append_of_le_length (by omega),List.take_append_of_le_length (by omega)])
  (by rw [hlen];exact ho) (by rw [hlen];exact hcap) (by rw [hlen];omega) h1 (List.nodup_cons.2 ⟨fun hq=>by
   rcases hgg with e | e
   ·exact hneb g hq e
   ·have:=hlt g hq;omega,hnod⟩)
 rw [hlen] at R;refine ⟨g::(bss.take n++bss2++bss.drop n).flatten,hS.join (.dp t _ _ _) ⟨_,rfl,.inr ⟨_,_,_,_,_,R⟩⟩ (by omega) hwf (fun q hq h1 h2=>hnew q hq (fun e=>h1 (by show q∈bs;rw [hf1,e];simp))) fun q hq=>?_⟩;rcases List.mem_cons.1 hq with rfl | hq
 ·rcases hgg with e | e
  ·exact .inl (by show q∈bs;rw [hf1,e];simp)
  ·exact .inr (.inr e)
 ·rcases hmem q hq with h | h
  ·exact .inl (by show q∈bs;rw [hf1];exact List.mem_cons_of_mem _ h)
  ·exact .inr (.inl (by show q∈bs2;rw [hf2];exact List.mem_cons_of_mem _ h))
theorem ins_dp (hz:t.size=z) (hz1:0 < z)
  (he:∀ {X:List Nat} {h0 h:Hp} {F0 F:Frz} {L:List Ob} {bs bs2:List Nat} {v v2:Val} {xs ys zs:List α} (hS:St X h0 F0 F (.dp t bs2 v2 ys :: .dp t bs v xs::L) h) (hy:0 < ys.length) (hz:app xs ys=some zs),Ret P K f [v,.i .i64 (xs.length:Int),v2] h (fun u h'=>∃ bs',St X h0 F0 F (.dp t bs' u zs::L) h'))
  (h1:InsW P K f z) (h0:InsW P K0 f z) (hcl:∀ args h M,zwh P K0 f f args h M→K f args h M)
  (hS:St X w F F [.dp t bs v xs,.dp t bs2 v2 ys] w) (H:insD xs i ys=some r):Ret P K f [v,.i .i64 i,v2] w fun u w'=>∃ bs',St X w F F [.dp t bs' u r] w':=by
 obtain ⟨i0,i1,hy,hfew,rfl⟩:=insD_some H;obtain ⟨n,rfl⟩:∃ n:Nat,i=n:=⟨i.toNat,by omega⟩
 rw [Int.toNat_natCast]
 by_cases hn:n=xs.length
 ·subst hn;have hS2:St X w F F [.dp t bs2 v2 ys,.dp t bs v xs] w:=hS.pick [1,0] (by decide);have:=he hS2 hy (zs:=xs++ys) (by unfold app;rw [if_pos hfew]);rw [List.take_length,List.drop_length,List.append_nil];exact this
 ·have hn':n < xs.length:=by omega
  obtain ⟨v0,hv0,q1⟩:=hS.ok (i:=0) rfl;obtain rfl:=List.head_eq_of_cons_eq hv0;obtain ⟨v0,hv0,q2⟩:=hS.ok (i:=1) rfl;obtain rfl:=List.head_eq_of_cons_eq hv0;rcases q1 with ⟨_,e,_⟩ | ⟨b,c,k,css,bss,r1⟩
  ·have e':xs=[]:=e;subst e';simp at hn'
  rcases q2 with ⟨_,e,_⟩ | ⟨vb,d,k2,css2,bss2,r2⟩
  ·have e':ys=[]:=e;subst e';simp at hy
  have f1:v = .sl (some (b,0)) xs.length (.of t.size k):=r1.form;have f2:v2 = .sl (some (vb,0)) ys.length (.of t.size k2):=r2.form;have hbv:vb≠b:=fun e=>by
   have h1:b∈bs:=by have:=r1.foot;show b∈bs;rw [show bs=b::bss.flatten from this];simp
   have h2:vb∈bs2:=by have:=r2.foot;show vb∈bs2;rw [show bs2=vb::bss2.flatten from this];simp
   have:=hS.apart 0 1 _ _ b rfl rfl h1 (e ▸ h2);omega
  have g1:w.get b=some (.cells t.size c):=r1.blk;have g2:w.get vb=some (.cells t.size d):=r2.blk;have hyd:ys.length*t.size≤d.length:=by
   cases k2 with
   | none=>exact r2.opn rfl
   | some m=>obtain ⟨q1,q2⟩:=r2.cap m rfl;rw [show d.length=m*t.size from q1];exact Nat.mul_le_mul_right _ q2
  have hblt:b < w.next:=r1.lt;have hvlt:vb < w.next:=r2.lt;subst hz;cases k with
  | some m =>
   obtain ⟨m1,m2⟩:=r1.cap m rfl;rw [f1,f2];exact (h1 (ck:=.of t.size k2) hS.wf hblt g1 g2 hbv hn' m2 m1 hy hyd r1.one r2.one (by omega) hvlt).mono fun u h' hI=>insR_dp rfl hS hn' hfew r1 r2 (Nat.le_refl _) (fun _ _ _=>rfl) (.inl rfl) ⟨[],by simp⟩ hI
  | none =>
   have hfit:xs.length*t.size≤c.length:=r1.opn rfl;rw [f1];refine .known (M:=fun u w'=>∃ bs',St X w F F [.dp t bs' u (xs.take n++ys++xs.drop n)] w') (hcl _ _ _ ⟨rfl,b,xs.length,t.size,c,_,rfl,g1,hfit,fun m hm1 hm2=>?_⟩) fun u w' q=>⟨u,w',rfl,q⟩
   rw [f2];have gw:∀ B q,q < w.next→q≠b→((w.set b .dead).new B).get q=w.get q:=fun B q hq hqb=>by
    rw [Hp.get_new];have:(w.set b .dead).next=w.next:=rfl;rw [this,if_neg (by omega),Hp.get_set,if_neg hqb]
   refine (h0 (h:=(w.set b .dead).new (.cells t.size (c++List.replicate (m*t.size - c.length) .un))) (b:=w.next) (ck:=.of t.size k2) (c:=c++List.replicate (m*t.size - c.length) .un) (fun q hq=>?_) (Nat.lt_succ_self _) (by rw [Hp.get_new];exact if_pos rfl) ((gw _ _ hvlt hbv).trans g2) (by omega) hn' hm1 (by rw [List.length_append,List.length_replicate];omega) hy hyd ?_ r2.one (by omega) (Nat.lt_succ_of_lt hvlt)).mono fun u h' hI=>insR_dp rfl hS hn' hfew r1 r2 (Nat.le_succ _) (gw _) (.inr (Nat.le_refl _)) ⟨_,rfl⟩ hI
   ·have hq':w.next+1≤q:=hq;rw [Hp.get_new];have:(w.set b .dead).next=w.next:=rfl;rw [this,if_neg (by omega),Hp.get_set,if_neg (by omega)];exact hS.wf q (by omega)
   ·rw [List.all_append,r1.one,Bool.true_and];exact List.all_eq_true.2 fun u hu=>by rw [(List.mem_replicate.1 hu).2];rfl
end
theorem bI_rem {P:Program} {t:TypeId} {k:IntKind} {a b r:Int} (h0:b≠0) (h:r=a.tmod b):binV P .rem t (.i k a) (.i k b)=some (.i k r):=by
 subst h;simp only [binV,ibin,if_true];rw [if_neg h0]
end Go.V
end
section
namespace Go.V
open Go.Wk
abbrev Same {X:List Nat} {h0 h:Hp} {F0 F:Frz} {L:List Ob} (_:St X h0 F0 F L h) (F':Frz) (h':Hp):Prop:=St X h0 F0 F' L h'
abbrev Also {X:List Nat} {h0 h:Hp} {F0 F:Frz} {L:List Ob} (_:St X h0 F0 F L h) (L':List Ob) (F':Frz) (h':Hp):Prop:=St X h0 F0 F' L' h'
section
variable {P:Program} {K:Tb} {fn:Func} {k:Kont} {E:EL} {h:Hp} {A:List Oper} {dr:Bool} {G:Frz} {L:List Nat} {i d:Nat}
theorem qc {v:Val} (x:W P K fn k A dr G L ((d,v)::E) h) (hi:Nat.blt i A.length=true:=by exact rfl) (hw:zdc A E (opAt A i)=some true:=by exact rfl) (hd:(opAt A i).dst=some d:=by exact rfl) (hk:decide (zcs P (opAt A i).op = .eff)=false:=by exact rfl) (ho:∀ h,opL P E h (opAt A i).op=some (v,h):=by exact fun _=>rfl):W P K fn k A dr G (i::L) E h:=W_c hi hw hd hk ho x
theorem q2 {j0 e0 j1 e1:Nat} {v0 v1:Val} (x:W P K fn k A dr G L ((e1,v1)::((e0,v0)::E)) h) (hi0:Nat.blt j0 A.length=true:=by exact rfl) (hw0:zdc A E (opAt A j0)=some true:=by exact rfl) (hd0:(opAt A j0).dst=some e0:=by exact rfl) (hk0:decide (zcs P (opAt A j0).op = .eff)=false:=by exact rfl) (ho0:∀ h,opL P E h (opAt A j0).op=some (v0,h):=by exact fun _=>rfl) (hi1:Nat.blt j1 A.length=true:=by exact rfl) (hw1:zdc A ((e0,v0)::E) (opAt A j1)=some true:=by exact rfl) (hd1:(opAt A j1).dst=some e1:=by exact rfl) (hk1:decide (zcs P (opAt A j1).op = .eff)=false:=by exact rfl) (ho1:∀ h,opL P ((e0,v0)::E) h (opAt A j1).op=some (v1,h):=by exact fun _=>rfl):W P K fn k A dr G (j0::j1::L) E h:=W_c hi0 hw0 hd0 hk0 ho0 (W_c hi1 hw1 hd1 hk1 ho1 x)
theorem q3 {j0 e0 j1 e1 j2 e2:Nat} {v0 v1 v2:Val} (x:W P K fn k A dr G L ((e2,v2)::((e1,v1)::((e0,v0)::E))) h) (hi0:Nat.blt j0 A.length=true:=by exact rfl) (hw0:zdc A E (opAt A j0)=some true:=by exact rfl) (hd0:(opAt A j0).dst=some e0:=by exact rfl) (hk0:decide (zcs P (opAt A j0).op = .eff)=false:=by exact rfl) (ho0:∀ h,opL P E h (opAt A j0).op=some (v0,h):=by exact fun _=>rfl) (hi1:Nat.blt j1 A.length=true:=by exact rfl) (hw1:zdc A ((e0,v0)::E) (opAt A j1)=some true:=by exact rfl) (hd1:(opAt A j1).dst=some e1:=by exact rfl) (hk1:decide (zcs P (opAt A j1).op = .eff)=false:=by exact rfl) (ho1:∀ h,opL P ((e0,v0)::E) h (opAt A j1).op=some (v1,h):=by exact fun _=>rfl) (hi2:Nat.blt j2 A.length=true:=by exact rfl) (hw2:zdc A ((e1,v1)::((e0,v0)::E)) (opAt A j2)=some true:=by exact rfl) (hd2:(opAt A j2).dst=some e2:=by exact rfl) (hk2:decide (zcs P (opAt A j2).op = .eff)=false:=by exact rfl) (ho2:∀ h,opL P ((e1,v1)::((e0,v0)::E)) h (opAt A j2).op=some (v2,h):=by exact fun _=>rfl):W P K fn k A dr G (j0::j1::j2::L) E h:=W_c hi0 hw0 hd0 hk0 ho0 (W_c hi1 hw1 hd1 hk1 ho1 (W_c hi2 hw2 hd2 hk2 ho2 x))
theorem q4 {j0 e0 j1 e1 j2 e2 j3 e3:Nat} {v0 v1 v2 v3:Val} (x:W P K fn k A dr G L ((e3,v3)::((e2,v2)::((e1,v1)::((e0,v0)::E)))) h) (hi0:Nat.blt j0 A.length=true:=by exact rfl) (hw0:zdc A E (opAt A j0)=some true:=by exact rfl) (hd0:(opAt A j0).dst=some e0:=by exact rfl) (hk0:decide (zcs P (opAt A j0).op = .eff)=false:=by exact rfl) (ho0:∀ h,opL P E h (opAt A j0).op=some (v0,h):=by exact fun _=>rfl) (hi1:Nat.blt j1 A.length=true:=by exact rfl) (hw1:zdc A ((e0,v0)::E) (opAt A j1)=some true:=by exact rfl) (hd1:(opAt A j1).dst=some e1:=by exact rfl) (hk1:decide (zcs P (opAt A j1).op = .eff)=false:=by exact rfl) (ho1:∀ h,opL P ((e0,v0)::E) h (opAt A j1).op=some (v1,h):=by exact fun _=>rfl) (hi2:Nat.blt j2 A.length=true:=by exact rfl) (hw2:zdc A ((e1,v1)::((e0,v0)::E)) (opAt A j2)=some true:=by exact rfl) (hd2:(opAt A j2).dst=some e2:=by exact rfl) (hk2:decide (zcs P (opAt A j2).op = .eff)=false:=by exact rfl) (ho2:∀ h,opL P ((e1,v1)::((e0,v0)::E)) h (opAt A j2).op=some (v2,h):=by exact fun _=>rfl) (hi3:Nat.blt j3 A.length=true:=by exact rfl) (hw3:zdc A ((e2,v2)::((e1,v1)::((e0,v0)::E))) (opAt A j3)=some true:=by exact rfl) (hd3:(opAt A j3).dst=some e3:=by exact rfl) (hk3:decide (zcs P (opAt A j3).op = .eff)=false:=by exact rfl) (ho3:∀ h,opL P ((e2,v2)::((e1,v1)::((e0,v0)::E))) h (opAt A j3).op=some (v3,h):=by exact fun _=>rfl):W P K fn k A dr G (j0::j1::j2::j3::L) E h:=W_c hi0 hw0 hd0 hk0 ho0 (W_c hi1 hw1 hd1 hk1 ho1 (W_c hi2 hw2 hd2 hk2 ho2 (W_c hi3 hw3 hd3 hk3 ho3 x)))
theorem qr {v:Val} (ho:Rd P G E (opAt A i).op v) (x:W P K fn k A dr G L ((d,v)::E) h) (hi:Nat.blt i A.length=true:=by exact rfl) (hw:zdc A E (opAt A i)=some true:=by exact rfl) (hd:(opAt A i).dst=some d:=by exact rfl):W P K fn k A dr G (i::L) E h:=W_r hi hw hd ho x
theorem qq {v:Val} (ho:Rd P (nowF h) E (opAt A i).op v) (x:W P K fn k A dr G L ((d,v)::E) h) (hb:ahead P A i L=true:=by kernel_rfl) (hi:Nat.blt i A.length=true:=by exact rfl) (hw:zdc A E (opAt A i)=some true:=by exact rfl) (hd:(opAt A i).dst=some d:=by exact rfl):W P K fn k A dr G (i::L) E h:=W_q hb hi hw hd ho x
theorem qx {Q:Val→Hp→Prop} (ho:Ef P E h (opAt A i).op Q) (x:∀ v h',Q v h' → Nxt P K fn k A dr G L ((d,v)::E) h') (hi:Nat.blt i A.length=true:=by exact rfl) (hw:zdc A E (opAt A i)=some true:=by exact rfl) (hd:(opAt A i).dst=some d:=by exact rfl):W P K fn k A dr G (i::L) E h:=W_x hi hw hd ho x
theorem qu {Q:Val→Hp→Prop} (ho:Ef P E h (opAt A i).op Q) (x:∀ v h',Q v h' → Nxt P K fn k A dr G L E h') (hi:Nat.blt i A.length=true:=by exact rfl) (hw:zdc A E (opAt A i)=some true:=by exact rfl) (hd:(opAt A i).dst=none:=by exact rfl):W P K fn k A dr G (i::L) E h:=W_xU hi hw hd ho x
theorem ql {f:FuncId} {args:List Val} {R:Val→Hp→Prop} (hc:Ret P K f args h R) (x:∀ v h',R v h' → Nxt P K fn k A dr G L ((d,v)::E) h') (hi:Nat.blt i A.length=true:=by exact rfl) (hw:zdc A E (opAt A i)=some true:=by exact rfl) (hd:(opAt A i).dst=some d:=by exact rfl) (ht:tgtL E (opAt A i).op=some (f,args):=by exact rfl):W P K fn k A dr G (i::L) E h:=zoi hi hw hd ht hc x
theorem qlU {f:FuncId} {args:List Val} {R:Val→Hp→Prop} (hc:Ret P K f args h R) (x:∀ v h',R v h' → Nxt P K fn k A dr G L E h') (hi:Nat.blt i A.length=true:=by exact rfl) (hw:zdc A E (opAt A i)=some true:=by exact rfl) (hd:(opAt A i).dst=none:=by exact rfl) (ht:tgtL E (opAt A i).op=some (f,args):=by exact rfl):W P K fn k A dr G (i::L) E h:=W_callU hi hw hd ht hc x
theorem qn {y:Code} (q:C P K fn k y E h):W P K fn (.code y k) A dr G [] E h:=zew (zgl q)
theorem qs {id:Nat} {y:Code} (x:W P K fn (.code y k) A false (nowF h) (List.range A.length) E h) (hd:zpj fn.ntmps A=true:=by exact rfl):C P K fn k (.seq (.region id A.toArray false) y) E h:=zfl (C_region hd x)
theorem qd {id:Nat} (x:W P K fn k A false (nowF h) (List.range A.length) E h) (hd:zpj fn.ntmps A=true:=by exact rfl):C P K fn k (.region id A.toArray false) E h:=C_region hd x
variable {y:Code} {X:List Nat} {h0 w:Hp} {F0 F' F:Frz} {Ls:List Ob} {g o off s f:Nat} {cs:List Val} {v u:Val} {x y' z':Operand} {t e':TypeId}
theorem qm (q:C P K fn k y ((d,v)::E) h) (hi:Nat.blt i A.length=true:=by exact rfl) (hw:zdc A E (opAt A i)=some true:=by exact rfl) (hd:(opAt A i).dst=some d:=by exact rfl) (hk:decide (zcs P (opAt A i).op = .eff)=false:=by exact rfl) (ho:∀ h,opL P E h (opAt A i).op=some (v,h):=by exact fun _=>rfl):W P K fn (.code y k) A dr G [i] E h:=W_c hi hw hd hk ho (zew (zgl q))
theorem qk (q:C P K fn k y E h):C P K fn (.code y k) .skip E h:=ziz (zgl q)
theorem qz (q:W P K fn k A dr G L ((d,.no)::E) h) (hi:Nat.blt i A.length=true:=by exact rfl) (hw:zdc A E (opAt A i)=some false:=by exact rfl) (hd:(opAt A i).dst=some d:=by exact rfl):W P K fn k A dr G (i::L) E h:=W_no hi hw hd q
theorem qf (hf:zdb P s f=some off) (q:W P K fn k A dr G L ((d,pl g (o+off))::E) h) (hi:Nat.blt i A.length=true:=by exact rfl) (hw:zdc A E (opAt A i)=some true:=by exact rfl) (hd:(opAt A i).dst=some d:=by exact rfl) (hop:(opAt A i).op = .fieldAddr s x f:=by exact rfl) (hx:evLO E x=some (pl g o):=by exact rfl):W P K fn k A dr G (i::L) E h:=W_r hi hw hd (hop ▸ O_fldB off hf hx) q
theorem qb (n:Nat) (ht:aggT P t=some false) (hS:St X h0 F0 F Ls h) (q:W P K fn k A dr (nowF h) L ((d,u)::E) h) (hi:Nat.blt i A.length=true:=by exact rfl) (hw:zdc A E (opAt A i)=some true:=by exact rfl) (hd:(opAt A i).dst=some d:=by exact rfl) (hop:(opAt A i).op = .load t x:=by exact rfl) (hx:evLO E x=some (pl g o):=by exact rfl) (hk:Ls[n]? = some (.box g cs):=by exact rfl) (hu:cs[o]? = some u:=by exact rfl):W P K fn k A dr (nowF h) (i::L) E h:=W_r hi hw hd (hop ▸ zdm n ht hx hS hk hu) q
theorem qbq (n:Nat) (ht:aggT P t=some false) (hS:St X h0 F0 F Ls h) (q:W P K fn k A dr G L ((d,u)::E) h) (hb:ahead P A i L=true:=by kernel_rfl) (hi:Nat.blt i A.length=true:=by exact rfl) (hw:zdc A E (opAt A i)=some true:=by exact rfl) (hd:(opAt A i).dst=some d:=by exact rfl) (hop:(opAt A i).op = .load t x:=by exact rfl) (hx:evLO E x=some (pl g o):=by exact rfl) (hk:Ls[n]? = some (.box g cs):=by exact rfl) (hu:cs[o]? = some u:=by exact rfl):W P K fn k A dr G (i::L) E h:=W_q hb hi hw hd (hop ▸ zdm n ht hx hS hk hu) q
theorem qg {j:Nat} {b want:Bool} {v:Val} (hop:Aeq [(b,want)]→W P K fn k A dr G L ((d,v)::E) h→W P K fn k A dr G (i::L) E h) (q:W P K fn k A dr G L ((d,cnds [(b,want)] v)::E) h) (hg:(opAt A i).guard=some (j,want):=by exact rfl) (hy:ylL A E j=some (.b b):=by exact rfl) (hi:Nat.blt i A.length=true:=by exact rfl) (hd:(opAt A i).dst=some d:=by exact rfl):W P K fn k A dr G (i::L) E h:=W_gs hg hy hi hd hop q
theorem qh (n:Nat) (b:BoxAt w g cs) (hS:St X h0 F0 F Ls h) (q:W P K fn k A dr (F.hold w [g]) L E h) (hk:Ls[n]? = some (.box g cs):=by exact rfl):Nxt P K fn k A dr (F.hold w [g]) L E h:=Nxt.frz (HB.le (HB.cons n b hS hk HB.nil) (Frz.le.refl _)) (HB.agree (HB.cons n b hS hk HB.nil) hS.agree) q
theorem qi {a b:Nat} {kk:IntKind} {n:Int} (ht:P.underlying t=some (.slice e')) (hz:sz P e' = some a) (hE:Ixd v b) (hn:0≤n) (q:W P K fn k A dr G L ((d,elp v (b*a))::E) h) (hi:Nat.blt i A.length=true:=by exact rfl) (hw:zdc A E (opAt A i)=some true:=by exact rfl) (hd:(opAt A i).dst=some d:=by exact rfl) (hop:(opAt A i).op = .indexAddr t x y':=by exact rfl) (hx:evLO E x=some v:=by exact rfl) (hy:evLO E y' = some (.i kk n):=by exact rfl) (hni:n.toNat=b:=by exact rfl):W P K fn k A dr G (i::L) E h:=W_r hi hw hd (hop ▸ O_ix ht hz hx hy hE hn hni) q
theorem lm {f:FuncId} {args:List Val} {R:Val→Hp→Prop} (hc:Ret P K f args h R) (x:∀ v h',R v h' → W P K fn k A false (nowF h') L ((d,v)::E) h') (hi:Nat.blt i A.length=true:=by exact rfl) (hw:zdc A E (opAt A i)=some true:=by exact rfl) (hd:(opAt A i).dst=some d:=by exact rfl) (ht:tgtL E (opAt A i).op=some (f,args):=by exact rfl):W P K fn k A false G (i::L) E h:=zoi hi hw hd ht hc fun v h' r=>Nxt.now (x v h' r)
theorem lU {f:FuncId} {args:List Val} {R:Val→Hp→Prop} (hc:Ret P K f args h R) (x:∀ v h',R v h' → W P K fn k A false (nowF h') L E h') (hi:Nat.blt i A.length=true:=by exact rfl) (hw:zdc A E (opAt A i)=some true:=by exact rfl) (hd:(opAt A i).dst=none:=by exact rfl) (ht:tgtL E (opAt A i).op=some (f,args):=by exact rfl):W P K fn k A false G (i::L) E h:=W_callU hi hw hd ht hc fun v h' r=>Nxt.now (x v h' r)
theorem xm {Q:Val→Hp→Prop} (ho:Ef P E h (opAt A i).op Q) (x:∀ v h',Q v h' → W P K fn k A false (nowF h') L ((d,v)::E) h') (hi:Nat.blt i A.length=true:=by exact rfl) (hw:zdc A E (opAt A i)=some true:=by exact rfl) (hd:(opAt A i).dst=some d:=by exact rfl):W P K fn k A false G (i::L) E h:=W_x hi hw hd ho fun v h' r=>Nxt.now (x v h' r)
theorem um {Q:Val→Hp→Prop} (ho:Ef P E h (opAt A i).op Q) (x:∀ v h',Q v h' → W P K fn k A false (nowF h') L E h') (hi:Nat.blt i A.length=true:=by exact rfl) (hw:zdc A E (opAt A i)=some true:=by exact rfl) (hd:(opAt A i).dst=none:=by exact rfl):W P K fn k A false G (i::L) E h:=W_xU hi hw hd ho fun v h' r=>Nxt.now (x v h' r)
theorem qa1 {f:FuncId} {c:Code} {a0:Val} {R:Val→Hp→Prop} (hf:P.funcs[f]? = some fn) (q:C P K fn (.done R) c [(0,a0)] h) (hb:fn.body=some c:=by exact rfl) (hm:fn.name ≠ "runtime.NumGoroutine":=by decide) (hn:Nat.ble 1 fn.ntmps=true:=by exact rfl):Ret P K f [a0] h R:=zra (args:=[a0]) hf hb hm hn q
theorem qa2 {f:FuncId} {c:Code} {a0 a1:Val} {R:Val→Hp→Prop} (hf:P.funcs[f]? = some fn) (q:C P K fn (.done R) c [(0,a0),(1,a1)] h) (hb:fn.body=some c:=by exact rfl) (hm:fn.name ≠ "runtime.NumGoroutine":=by decide) (hn:Nat.ble 2 fn.ntmps=true:=by exact rfl):Ret P K f [a0,a1] h R:=zra (args:=[a0,a1]) hf hb hm hn q
theorem qa3 {f:FuncId} {c:Code} {a0 a1 a2:Val} {R:Val→Hp→Prop} (hf:P.funcs[f]? = some fn) (q:C P K fn (.done R) c [(0,a0),(1,a1),(2,a2)] h) (hb:fn.body=some c:=by exact rfl) (hm:fn.name ≠ "runtime.NumGoroutine":=by decide) (hn:Nat.ble 3 fn.ntmps=true:=by exact rfl):Ret P K f [a0,a1,a2] h R:=zra (args:=[a0,a1,a2]) hf hb hm hn q
theorem qa4 {f:FuncId} {c:Code} {a0 a1 a2 a3:Val} {R:Val→Hp→Prop} (hf:P.funcs[f]? = some fn) (q:C P K fn (.done R) c [(0,a0),(1,a1),(2,a2),(3,a3)] h) (hb:fn.body=some c:=by exact rfl) (hm:fn.name ≠ "runtime.NumGoroutine":=by decide) (hn:Nat.ble 4 fn.ntmps=true:=by exact rfl):Ret P K f [a0,a1,a2,a3] h R:=zra (args:=[a0,a1,a2,a3]) hf hb hm hn q
theorem qa5 {f:FuncId} {c:Code} {a0 a1 a2 a3 a4:Val} {R:Val→Hp→Prop} (hf:P.funcs[f]? = some fn) (q:C P K fn (.done R) c [(0,a0),(1,a1),(2,a2),(3,a3),(4,a4)] h) (hb:fn.body=some c:=by exact rfl) (hm:fn.name ≠ "runtime.NumGoroutine":=by decide) (hn:Nat.ble 5 fn.ntmps=true:=by exact rfl):Ret P K f [a0,a1,a2,a3,a4] h R:=zra (args:=[a0,a1,a2,a3,a4]) hf hb hm hn q
theorem qa6 {f:FuncId} {c:Code} {a0 a1 a2 a3 a4 a5:Val} {R:Val→Hp→Prop} (hf:P.funcs[f]? = some fn) (q:C P K fn (.done R) c [(0,a0),(1,a1),(2,a2),(3,a3),(4,a4),(5,a5)] h) (hb:fn.body=some c:=by exact rfl) (hm:fn.name ≠ "runtime.NumGoroutine":=by decide) (hn:Nat.ble 6 fn.ntmps=true:=by exact rfl):Ret P K f [a0,a1,a2,a3,a4,a5] h R:=zra (args:=[a0,a1,a2,a3,a4,a5]) hf hb hm hn q
theorem qsc {id:Nat} {y:Code} {v:Val} (x:W P K fn (.code y k) A false (nowF h) L ((d,v)::E) h) (hd':zpj fn.ntmps A=true:=by exact rfl) (hl:List.range A.length=i::L:=by exact rfl) (hi:Nat.blt i A.length=true:=by exact rfl) (hw:zdc A E (opAt A i)=some true:=by exact rfl) (hd:(opAt A i).dst=some d:=by exact rfl) (hk:decide (zcs P (opAt A i).op = .eff)=false:=by exact rfl) (ho:∀ h,opL P E h (opAt A i).op=some (v,h):=by exact fun _=>rfl):C P K fn k (.seq (.region id A.toArray false) y) E h:=qs (hl ▸ qc x hi hw hd hk ho) hd'
theorem qsm {id:Nat} {y:Code} {v:Val} (x:C P K fn k y ((d,v)::E) h) (hd':zpj fn.ntmps A=true:=by exact rfl) (hl:List.range A.length=[i]:=by exact rfl) (hi:Nat.blt i A.length=true:=by exact rfl) (hw:zdc A E (opAt A i)=some true:=by exact rfl) (hd:(opAt A i).dst=some d:=by exact rfl) (hk:decide (zcs P (opAt A i).op = .eff)=false:=by exact rfl) (ho:∀ h,opL P E h (opAt A i).op=some (v,h):=by exact fun _=>rfl):C P K fn k (.seq (.region id A.toArray false) y) E h:=qs (hl ▸ qm x hi hw hd hk ho) hd'
theorem qw {h0:Hp} {X:List Nat} {F0 F:Frz} {Ls:List Ob} (hS:St X h0 F0 F Ls h) (q:W P K fn k A dr F L E h):Nxt P K fn k A dr F L E h:=Nxt.frz (Frz.le.refl _) hS.agree q
theorem qvb {b b':Bool} (t:Nat) (e:b=b') (q:W P K fn k A dr G L ((t,.b b')::E) h) (hl:look E t=some (.b b):=by exact rfl):W P K fn k A dr G L E h:=W_eqv hl (congrArg Val.b e) q
theorem qt {vs:List Val} {v:Val} (hR:k.final v h) (hv:outs P E h fn.results.toList=some vs:=by exact rfl) (ho:oneV vs=v:=by exact rfl):C P K fn k .ret E h:=C_ret hv ho hR
theorem qj {G:Frz} {v:Val} {i:Nat} {cs:List Val} (s:Nat) (q:Elf G v s i cs):Elf G v s i cs:=q
theorem qy {α:Type} {a b:Option α} {r:α} {t:Bool} {c d:Code} {x:Operand} (H:(if t=true then a else b)=some r) (p:t=true→a=some r→C P K fn k c E h) (q:t=false→b=some r→C P K fn k d E h) (hx:evLO E x=some (.b t):=by exact rfl):C P K fn k (.cond x c d) E h:=zlc hx (fun e=>p e ((if_t e).symm.trans H)) (fun e=>q e ((if_f e).symm.trans H))
theorem qz2 {j d':Nat} (q:W P K fn k A dr G L ((d',.no)::(d,.no)::E) h) (hi:Nat.blt i A.length=true:=by exact rfl) (hw:zdc A E (opAt A i)=some false:=by exact rfl) (hd:(opAt A i).dst=some d:=by exact rfl) (hi':Nat.blt j A.length=true:=by exact rfl) (hw':zdc A ((d,.no)::E) (opAt A j)=some false:=by exact rfl) (hd':(opAt A j).dst=some d':=by exact rfl):W P K fn k A dr G (i::j::L) E h:=W_no hi hw hd (W_no hi' hw' hd' q)
theorem bd2 {α β γ:Type} {o:Option α} {p:α→Option β} {f:α→β→Option γ} {r:γ} (H:(bd o fun x=>bd (p x) (f x))=some r):∃ x,o=some x ∧ ∃ y,p x=some y∧f x y=some r:=by
 obtain ⟨x,h1,H⟩:=zaj H;obtain ⟨y,h2,H⟩:=zaj H;exact ⟨x,h1,y,h2,H⟩
theorem oi {α:Type} {a b:α} (h:some a=some b):a=b:=Option.some.inj h
end
end Go.V
end
section
namespace Go.V
open Go.Wk
class Fld (P:Program) (s f:Nat) (off:outParam Nat):Prop where
 out:zdb P s f=some off
class Agg (P:Program) (t:Nat) (b:outParam Bool):Prop where
 out:aggT P t=some b
class Zro (P:Program) (t:Nat) (cs:outParam (List Val)):Prop where
 out:(zge P t).map Val.cells=some cs
class Szt (P:Program) (t:Nat) (n:outParam Nat):Prop where
 out:sz P t=some n
class Slc (P:Program) (t:Nat) (e:outParam Nat):Prop where
 out:P.underlying t=some (.slice e)
class Stt (P:Program) (t:Nat):Prop where
 out:P.underlying t=some .string
theorem Frz.tr {a b c:Frz} (h2:b.le c) (h1:a.le b):a.le c:=h1.trans h2
theorem lec {a b:Frz} (h:a.le b:=by first | exact Frz.le.refl _ | assumption | (refine Frz.tr (by assumption) ?_;first | exact Frz.le.refl _ | assumption | (refine Frz.tr (by assumption) ?_;first | exact Frz.le.refl _ | assumption | (refine Frz.tr (by assumption) ?_;first | exact Frz.le.refl _ | assumption | (refine Frz.tr (by assumption) ?_;first | exact Frz.le.refl _ | assumption | (refine Frz.tr (by assumption) ?_;first | exact Frz.le.refl _ | assumption | (refine Frz.tr (by assumption) ?_;first | exact Frz.le.refl _ | assumption | (refine Frz.tr (by assumption) ?_;first | exact Frz.le.refl _ | assumption | (refine Frz.tr (by assumption) ?_;first | exact Frz.le.refl _ | assumption))))))))):a.le b:=h
def easy:Op→Bool
 | .move _=>true
 | .assign _=>true
 | .unOp .not _ _=>true
 | .extract _ _=>true
 | .pick _ _ _=>true
 | .nilCheck _=>true
 | .unOp .neg _ _=>true
 | .makeFunc ..=>true
 | .call { callee:=.builtin .max,.. }=>true
 | .call { callee:=.builtin .min,.. }=>true
 | _=>false
section
variable {P:Program} {K:Tb} {fn:Func} {k:Kont} {E:EL} {h:Hp} {A:List Oper} {dr:Bool} {G:Frz} {L:List Nat} {i d:Nat}
theorem ac {v:Val} (x:W P K fn k A dr G L ((d,v)::E) h) (he:easy (opAt A i).op=true:=by exact rfl) (hi:Nat.blt i A.length=true:=by exact rfl) (hw:zdc A E (opAt A i)=some true:=by exact rfl) (hd:(opAt A i).dst=some d:=by exact rfl) (hk:decide (zcs P (opAt A i).op = .eff)=false:=by exact rfl) (ho:∀ h,opL P E h (opAt A i).op=some (v,h):=by exact fun _=>rfl):W P K fn k A dr G (i::L) E h:=W_c hi hw hd hk ho x
def wide:IntKind→Bool
 | .i64=>true
 | .u64=>true
 | _=>false
theorem aA {op:BinOp} {t t2:TypeId} {x y:Operand} {kk:IntKind} {a:Int} {v:Val} (z:W P K fn k A dr G L ((d,v)::E) h) (hop:(opAt A i).op = .binOp op t x y t2:=by exact rfl) (hx:evLO E x=some (.i kk a):=by exact rfl) (hk:wide kk=true:=by exact rfl) (hA:(op == .add||op == .sub||op == .mul)=true:=by exact rfl) (hi:Nat.blt i A.length=true:=by exact rfl) (hw:zdc A E (opAt A i)=some true:=by exact rfl) (hd:(opAt A i).dst=some d:=by exact rfl) (he:decide (zcs P (opAt A i).op = .eff)=false:=by exact rfl) (ho:∀ h,opL P E h (opAt A i).op=some (v,h):=by exact fun _=>rfl):W P K fn k A dr G (i::L) E h:=W_c hi hw hd he ho z
theorem an (x:W P K fn k A dr G L ((d,.no)::E) h) (hi:Nat.blt i A.length=true:=by exact rfl) (hw:zdc A E (opAt A i)=some false:=by exact rfl) (hd:(opAt A i).dst=some d:=by exact rfl):W P K fn k A dr G (i::L) E h:=W_no hi hw hd x
theorem ab {op:BinOp} {t t2:TypeId} {x y:Operand} {a b v:Val} (z:W P K fn k A dr G L ((d,v)::E) h) (hop:(opAt A i).op = .binOp op t x y t2:=by exact rfl) (hi:Nat.blt i A.length=true:=by exact rfl) (hw:zdc A E (opAt A i)=some true:=by exact rfl) (hd:(opAt A i).dst=some d:=by exact rfl) (hx:evLO E x=some a:=by exact rfl) (hy:evLO E y=some b:=by exact rfl) (hv:binV P op t a b=some v:=by first | exact zhh | exact bI_neq | exact ziy | exact bI_leq | exact zid | exact bI_geq | exact bS_eql | exact bS_neq | exact bS_lss | exact bS_leq | exact bS_gtr | exact bS_geq):W P K fn k A dr G (i::L) E h :=
 W_r hi hw hd (by rw [hop];exact zbc hx hy hv) z
theorem af {s f g o off:Nat} {x:Operand} (q:W P K fn k A dr G L ((d,pl g (o+off))::E) h) (hop:(opAt A i).op = .fieldAddr s x f:=by exact rfl) (hx:evLO E x=some (pl g o):=by exact rfl) (hi:Nat.blt i A.length=true:=by exact rfl) (hw:zdc A E (opAt A i)=some true:=by exact rfl) (hd:(opAt A i).dst=some d:=by exact rfl) (hf:zdb P s f=some off:=by exact Fld.out):W P K fn k A dr G (i::L) E h :=
 W_r hi hw hd (hop ▸ O_fldB off hf hx) q
theorem aF {s f o off j:Nat} {v:Val} {x:Operand} (q:W P K fn k A dr G L ((d,elp v (o+off))::E) h) (hop:(opAt A i).op = .fieldAddr s x f:=by exact rfl) (hx:evLO E x=some (elp v o):=by exact rfl) (hi:Nat.blt i A.length=true:=by exact rfl) (hw:zdc A E (opAt A i)=some true:=by exact rfl) (hd:(opAt A i).dst=some d:=by exact rfl) (hj:Ixd v j:=by first | assumption | exact Elf.ixd (by assumption)) (hf:zdb P s f=some off:=by exact Fld.out):W P K fn k A dr G (i::L) E h :=
 W_r hi hw hd (hop ▸ zga off hf hx hj) q
theorem aN {o j:Nat} {v:Val} {x:Operand} (q:W P K fn k A dr G L ((d,elp v o)::E) h) (hop:(opAt A i).op = .nilCheck x:=by exact rfl) (hx:evLO E x=some (elp v o):=by exact rfl) (hi:Nat.blt i A.length=true:=by exact rfl) (hw:zdc A E (opAt A i)=some true:=by exact rfl) (hd:(opAt A i).dst=some d:=by exact rfl) (hj:Ixd v j:=by first | assumption | exact Elf.ixd (by assumption)):W P K fn k A dr G (i::L) E h :=
 W_r hi hw hd (hop ▸ O_nil hx hj) q
theorem aL {T e:TypeId} {x:Operand} {v:Val} {n:Nat} (q:W P K fn k A dr G L ((d,.i .i64 n)::E) h) (hop:(opAt A i).op = .call { callee:=.builtin .len,args:=#[x],argTypes:=#[T] }:=by exact rfl) (hx:evLO E x=some v:=by exact rfl) (hi:Nat.blt i A.length=true:=by exact rfl) (hw:zdc A E (opAt A i)=some true:=by exact rfl) (hd:(opAt A i).dst=some d:=by exact rfl) (hn:Ln v n:=by first | exact Pce.ln (by assumption) | exact SlF.ln (by assumption)) (ht:P.underlying T=some (.slice e):=by exact Slc.out):W P K fn k A dr G (i::L) E h :=
 W_r hi hw hd (hop ▸ zdh ht hx hn) q
theorem aS {T:TypeId} {x:Operand} {s:List UInt8} (q:W P K fn k A dr G L ((d,.i .i64 s.length)::E) h) (hop:(opAt A i).op = .call { callee:=.builtin .len,args:=#[x],argTypes:=#[T] }:=by exact rfl) (hx:evLO E x=some (.s s):=by exact rfl) (hi:Nat.blt i A.length=true:=by exact rfl) (hw:zdc A E (opAt A i)=some true:=by exact rfl) (hd:(opAt A i).dst=some d:=by exact rfl) (ht:P.underlying T=some .string:=by exact Stt.out):W P K fn k A dr G (i::L) E h :=
 W_r hi hw hd (hop ▸ O_lenS ht hx) q
theorem aB {X:List Nat} {h0:Hp} {F0 F:Frz} {Ls:List Ob} {g o:Nat} {cs:List Val} {t:TypeId} {x:Operand} {u:Val} (n:Nat) (q:W P K fn k A dr (nowF h) L ((d,u)::E) h) (hop:(opAt A i).op = .load t x:=by exact rfl) (hx:evLO E x=some (pl g o):=by exact rfl) (hS:St X h0 F0 F Ls h:=by assumption) (hk:Ls[n]? = some (.box g cs):=by exact rfl) (hi:Nat.blt i A.length=true:=by exact rfl) (hw:zdc A E (opAt A i)=some true:=by exact rfl) (hd:(opAt A i).dst=some d:=by exact rfl) (hu:cs[o]? = some u:=by exact rfl) (ht:aggT P t=some false:=by exact Agg.out):W P K fn k A dr (nowF h) (i::L) E h :=
 W_r hi hw hd (hop ▸ zdm n ht hx hS hk hu) q
theorem aE {F1:Frz} {t:TypeId} {s j f:Nat} {v u:Val} {cs:List Val} {x:Operand} (q:W P K fn k A dr G L ((d,u)::E) h) (hop:(opAt A i).op = .load t x:=by exact rfl) (hx:evLO E x=some (elp v (j*s+f)):=by exact rfl) (hi:Nat.blt i A.length=true:=by exact rfl) (hw:zdc A E (opAt A i)=some true:=by exact rfl) (hd:(opAt A i).dst=some d:=by exact rfl) (ht:aggT P t=some false:=by exact Agg.out) (hE:Elf F1 v s j cs:=by assumption) (hm:F1.le G:=by first | exact Frz.le.refl _ | exact St.agree (by assumption) | exact zit.le (St.agree (by assumption)) lec | exact lec | exact Frz.tr (Frz.le_hold _ _ _) lec) (hu:cs[f]? = some u:=by exact rfl):W P K fn k A dr G (i::L) E h :=
 W_r hi hw hd (hop ▸ zej f ht hx (hE.mono hm) rfl hu) q
theorem aE0 {F1:Frz} {t:TypeId} {s j:Nat} {v u:Val} {cs:List Val} {x:Operand} (q:W P K fn k A dr G L ((d,u)::E) h) (hop:(opAt A i).op = .load t x:=by exact rfl) (hx:evLO E x=some (elp v (j*s)):=by exact rfl) (hi:Nat.blt i A.length=true:=by exact rfl) (hw:zdc A E (opAt A i)=some true:=by exact rfl) (hd:(opAt A i).dst=some d:=by exact rfl) (ht:aggT P t=some false:=by exact Agg.out) (hE:Elf F1 v s j cs:=by assumption) (hm:F1.le G:=by first | exact Frz.le.refl _ | exact St.agree (by assumption) | exact zit.le (St.agree (by assumption)) lec | exact lec | exact Frz.tr (Frz.le_hold _ _ _) lec) (hu:cs[0]? = some u:=by exact rfl):W P K fn k A dr G (i::L) E h :=
 W_r hi hw hd (hop ▸ zej 0 ht hx (hE.mono hm) rfl hu) q
theorem aE2 {F1:Frz} {t:TypeId} {s j f e:Nat} {v u:Val} {cs:List Val} {x:Operand} (q:W P K fn k A dr G L ((d,u)::E) h) (hop:(opAt A i).op = .load t x:=by exact rfl) (hx:evLO E x=some (elp v (j*s+f+e)):=by exact rfl) (hi:Nat.blt i A.length=true:=by exact rfl) (hw:zdc A E (opAt A i)=some true:=by exact rfl) (hd:(opAt A i).dst=some d:=by exact rfl) (ht:aggT P t=some false:=by exact Agg.out) (hE:Elf F1 v s j cs:=by assumption) (hm:F1.le G:=by first | exact Frz.le.refl _ | exact St.agree (by assumption) | exact zit.le (St.agree (by assumption)) lec | exact lec | exact Frz.tr (Frz.le_hold _ _ _) lec) (hu:cs[f+e]? = some u:=by exact rfl):W P K fn k A dr G (i::L) E h :=
 W_r hi hw hd (hop ▸ zej (f+e) ht hx (hE.mono hm) (Nat.add_assoc _ _ _) hu) q
theorem aG {F1:Frz} {t:TypeId} {s j:Nat} {v:Val} {cs:List Val} {x:Operand} (q:W P K fn k A dr G L ((d,.agg cs)::E) h) (hop:(opAt A i).op = .load t x:=by exact rfl) (hx:evLO E x=some (elp v (j*s)):=by exact rfl) (hi:Nat.blt i A.length=true:=by exact rfl) (hw:zdc A E (opAt A i)=some true:=by exact rfl) (hd:(opAt A i).dst=some d:=by exact rfl) (ht:aggT P t=some true:=by exact Agg.out) (hz:sz P t=some s:=by exact Szt.out) (hE:Elf F1 v s j cs:=by assumption) (hm:F1.le G:=by first | exact Frz.le.refl _ | exact St.agree (by assumption) | exact zit.le (St.agree (by assumption)) lec | exact lec | exact Frz.tr (Frz.le_hold _ _ _) lec):W P K fn k A dr G (i::L) E h :=
 W_r hi hw hd (hop ▸ zoj 0 cs ht (by rw [hE.1];exact hz) hx (hE.mono hm) rfl (by rw [hE.1,List.drop_zero,List.take_of_length_le (Nat.le_of_eq hE.1)]) (by rw [hE.1,Nat.zero_add];exact Nat.le_refl _)) q
theorem aI {T e:TypeId} {F1:Frz} {s:Nat} {kk:IntKind} {n:Int} {v:Val} {cs:List Val} {x y:Operand} {α:Type} {xs:List α} {z:α} (q:W P K fn k A dr G L ((d,elp v (n.toNat*s))::E) h) (hop:(opAt A i).op = .indexAddr T x y:=by exact rfl) (hx:evLO E x=some v:=by exact rfl) (hy:evLO E y=some (.i kk n):=by exact rfl) (hi:Nat.blt i A.length=true:=by exact rfl) (hw:zdc A E (opAt A i)=some true:=by exact rfl) (hd:(opAt A i).dst=some d:=by exact rfl) (ht:P.underlying T=some (.slice e):=by exact Slc.out) (hz:sz P e=some s:=by exact Szt.out) (hE:Elf F1 v s n.toNat cs:=by assumption) (hn:ix xs n=some z:=by assumption):W P K fn k A dr G (i::L) E h :=
 W_r hi hw hd (hop ▸ O_ix ht hz hx hy hE.ixd (zaf hn).1 rfl) q
theorem aW {X:List Nat} {h0:Hp} {F0 F:Frz} {Ls:List Ob} {g:Nat} {cs:List Val} {t:TypeId} {x:Operand} (n:Nat) (q:W P K fn k A dr (nowF h) L ((d,.agg cs)::E) h) (hop:(opAt A i).op = .load t x:=by exact rfl) (hx:evLO E x=some (pl g 0):=by exact rfl) (hi:Nat.blt i A.length=true:=by exact rfl) (hw:zdc A E (opAt A i)=some true:=by exact rfl) (hd:(opAt A i).dst=some d:=by exact rfl) (ht:aggT P t=some true:=by exact Agg.out) (hS:St X h0 F0 F Ls h:=by assumption) (hk:Ls[n]? = some (.box g cs):=by exact rfl) (hz:sz P t=some cs.length:=by exact Szt.out) (hp:0 < cs.length:=by exact Nat.zero_lt_succ _):W P K fn k A dr (nowF h) (i::L) E h :=
 W_r hi hw hd (hop ▸ zdx n cs ht hz hp hx hS hk (fun q u h=>by rw [Nat.zero_add];exact h)) q
theorem elx {α:Type} {t:Tr α} {F:Frz} {v:Val} {xs:List α} {i:Int} {x:α} (n:Nat) (s:SlF t F v xs) (hx:ix xs i=some x) (hz:t.size=n:=by exact rfl):∃ cs,t.rel F cs x∧Elf F v n i.toNat cs:=by
 subst hz;exact s.el (zaf hx).2
theorem elr {α:Type} {t:Tr α} {X:List Nat} {h0:Hp} {F0 F:Frz} {Ls:List Ob} {v:Val} {xs:List α} {i:Int} {x:α} (n k:Nat) (hS:St X h0 F0 F Ls h) (hx:ix xs i=some x) (hk:Ls[k]? = some (.row t v xs):=by exact rfl) (hz:t.size=n:=by exact rfl):∃ cs,t.rel F cs x∧Elf (nowF h) v n i.toNat cs:=by
 subst hz;exact hS.rowAt hk (zaf hx).2
theorem lp {X:List Nat} {h0:Hp} {F0 F F1:Frz} {Ls:List Ob} {f:FuncId} {args:List Val} {u:Val} (hc:Ret P K f args h fun v w'=>∃ F',v=u∧St [] h F1 F' [] w') (hS:St X h0 F0 F Ls h) (x:∀ w',St X h0 F0 F Ls w' → W P K fn k A false (nowF w') L ((d,u)::E) w') (hi:Nat.blt i A.length=true:=by exact rfl) (hw:zdc A E (opAt A i)=some true:=by exact rfl) (hd:(opAt A i).dst=some d:=by exact rfl) (ht:tgtL E (opAt A i).op=some (f,args):=by exact rfl):W P K fn k A false G (i::L) E h :=
 lm hc (by rintro v w' ⟨F',rfl,hT⟩;exact x w' (hS.lent hT)) hi hw hd ht
theorem aQ {X:List Nat} {h0:Hp} {F0 F:Frz} {Ls:List Ob} {g o:Nat} {cs:List Val} {t:TypeId} {x:Operand} {u:Val} (n:Nat) (q:W P K fn k A dr G L ((d,u)::E) h) (hop:(opAt A i).op = .load t x:=by exact rfl) (hx:evLO E x=some (pl g o):=by exact rfl) (hS:St X h0 F0 F Ls h:=by assumption) (hk:Ls[n]? = some (.box g cs):=by exact rfl) (hi:Nat.blt i A.length=true:=by exact rfl) (hw:zdc A E (opAt A i)=some true:=by exact rfl) (hd:(opAt A i).dst=some d:=by exact rfl) (hu:cs[o]? = some u:=by exact rfl) (ht:aggT P t=some false:=by exact Agg.out) (hb:ahead P A i L=true:=by decide +kernel):W P K fn k A dr G (i::L) E h :=
 W_q hb hi hw hd (hop ▸ zdm n ht hx hS hk hu) q
theorem ao {c x y:Operand} {b p:Bool} (z:W P K fn k A dr G L ((d,.b (b||p))::E) h) (hop:(opAt A i).op = .pick c x y:=by exact rfl) (hx:evLO E x=some (.b true):=by exact rfl) (hi:Nat.blt i A.length=true:=by exact rfl) (hw:zdc A E (opAt A i)=some true:=by exact rfl) (hd:(opAt A i).dst=some d:=by exact rfl) (hc:evLO E c=some (.b b):=by exact rfl) (hy:b=false→evLO E y=some (.b p):=by first | exact fun _=>rfl | exact fun hc=>by rw [hc];rfl):W P K fn k A dr G (i::L) E h:=W_pkO hi hw hd hop hc hx hy z
theorem aa {c x y:Operand} {b p:Bool} (z:W P K fn k A dr G L ((d,.b (b&&p))::E) h) (hop:(opAt A i).op = .pick c x y:=by exact rfl) (hy:evLO E y=some (.b false):=by exact rfl) (hi:Nat.blt i A.length=true:=by exact rfl) (hw:zdc A E (opAt A i)=some true:=by exact rfl) (hd:(opAt A i).dst=some d:=by exact rfl) (hc:evLO E c=some (.b b):=by exact rfl) (hx:b=true→evLO E x=some (.b p):=by first | exact fun _=>rfl | exact fun hc=>by rw [hc];rfl):W P K fn k A dr G (i::L) E h:=W_pkA hi hw hd hop hc hx hy z
theorem want_yes {j:Nat} {cs:List (Bool × Bool)} {b want:Bool} (hg:(opAt A i).guard=some (j,want)) (hy:ylL A E j=some (cnds cs (.b b))) (hn:Aeq (cs++[(b,want)])):zdc A E (opAt A i)=some true:=by
 obtain ⟨h1,h2⟩:=zrc.1 hn;unfold zdc;simp only [hg];unfold ylL at hy;rw [hy,zwc h1];simp [h2]
theorem agm {j:Nat} {cs:List (Bool × Bool)} {b want:Bool} {u:Val} {x:Operand} (q:W P K fn k A dr G L ((d,cnds (cs++[(b,want)]) u)::E) h) (hop:(opAt A i).op = .move x:=by exact rfl) (hg:(opAt A i).guard=some (j,want):=by exact rfl) (hy:ylL A E j=some (cnds cs (.b b)):=by exact rfl) (hi:Nat.blt i A.length=true:=by exact rfl) (hd:(opAt A i).dst=some d:=by exact rfl) (hx:evLO E x=some (cnds (cs++[(b,want)]) u):=by exact rfl):W P K fn k A dr G (i::L) E h :=
 W_gsc hg hy hi hd (fun ha hK=>W_c hi (want_yes hg hy ha) hd (by rw [hop];rfl) (fun h=>by rw [hop];simp only [opL,hx,zwc ha,Option.map_some]) hK) q
theorem agm0 {j:Nat} {b want:Bool} {u:Val} {x:Operand} (q:W P K fn k A dr G L ((d,cnds [(b,want)] u)::E) h) (hop:(opAt A i).op = .move x:=by exact rfl) (hg:(opAt A i).guard=some (j,want):=by exact rfl) (hy:ylL A E j=some (.b b):=by exact rfl) (hi:Nat.blt i A.length=true:=by exact rfl) (hd:(opAt A i).dst=some d:=by exact rfl) (hx:evLO E x=some (cnds [(b,want)] u):=by exact rfl):W P K fn k A dr G (i::L) E h :=
 agm (cs:=[]) q hop hg hy hi hd hx
theorem ag {j:Nat} {b want:Bool} {v:Val} (q:W P K fn k A dr G L ((d,cnds [(b,want)] v)::E) h) (hg:(opAt A i).guard=some (j,want):=by exact rfl) (hy:ylL A E j=some (.b b):=by exact rfl) (hi:Nat.blt i A.length=true:=by exact rfl) (hd:(opAt A i).dst=some d:=by exact rfl) (hop:Aeq [(b,want)]→W P K fn k A dr G L ((d,v)::E) h→W P K fn k A dr G (i::L) E h:=by
  rintro ⟨hb,_⟩
  try rw [hb]
  intro hK
  first | exact ac hK | exact aA hK | exact af hK | exact ab hK | exact aF hK | exact aL hK | exact aS hK | exact aB 0 hK | exact aB 1 hK | exact aB 2 hK | exact aB 3 hK | exact aB 4 hK | exact aB 5 hK | exact aB 6 hK | exact aB 7 hK | exact aN hK | exact aa hK | exact ao hK | exact aW 0 hK | exact aW 1 hK | exact aQ 0 hK | exact aQ 1 hK | exact aQ 2 hK | exact aQ 3 hK | exact aQ 4 hK):W P K fn k A dr G (i::L) E h:=W_gs hg hy hi hd hop q
theorem agc {j:Nat} {cs:List (Bool × Bool)} {b want:Bool} {v:Val} (q:W P K fn k A dr G L ((d,cnds (cs++[(b,want)]) v)::E) h) (hg:(opAt A i).guard=some (j,want):=by exact rfl) (hy:ylL A E j=some (cnds cs (.b b)):=by exact rfl) (hi:Nat.blt i A.length=true:=by exact rfl) (hd:(opAt A i).dst=some d:=by exact rfl) (hop:Aeq (cs++[(b,want)])→W P K fn k A dr G L ((d,v)::E) h→W P K fn k A dr G (i::L) E h:=by
  first | ((first | (rintro ⟨h1,h2,(_:True)⟩;try rw [h2];try rw [h1]) | (rintro ⟨h1,h2,h3,(_:True)⟩;try rw [h3];try rw [h2];try rw [h1]) | (rintro ⟨h1,h2,h3,h4,(_:True)⟩;try rw [h4];try rw [h3];try rw [h2];try rw [h1]) | (rintro ⟨h1,h2,h3,h4,h5,(_:True)⟩;try rw [h5];try rw [h4];try rw [h3];try rw [h2];try rw [h1]));intro hK;first | exact ac hK | exact aA hK | exact af hK | exact ab hK | exact aF hK | exact aL hK | exact aS hK | exact aB 0 hK | exact aB 1 hK | exact aB 2 hK | exact aB 3 hK | exact aB 4 hK | exact aB 5 hK | exact aB 6 hK | exact aB 7 hK | exact aN hK | exact aa hK | exact ao hK | exact aW 0 hK | exact aW 1 hK | exact aQ 0 hK | exact aQ 1 hK | exact aQ 2 hK | exact aQ 3 hK | exact aQ 4 hK) | ((first | (rintro ⟨h1,h2,(_:True)⟩;try rw [h1];try rw [h2]) | (rintro ⟨h1,h2,h3,(_:True)⟩;try rw [h1];try rw [h2];try rw [h3]) | (rintro ⟨h1,h2,h3,h4,(_:True)⟩;try rw [h1];try rw [h2];try rw [h3];try rw [h4]) | (rintro ⟨h1,h2,h3,h4,h5,(_:True)⟩;try rw [h1];try rw [h2];try rw [h3];try rw [h4];try rw [h5]));intro hK;first | exact ac hK | exact aA hK | exact af hK | exact ab hK | exact aF hK | exact aL hK | exact aS hK | exact aB 0 hK | exact aB 1 hK | exact aB 2 hK | exact aB 3 hK | exact aB 4 hK | exact aB 5 hK | exact aB 6 hK | exact aB 7 hK | exact aN hK | exact aa hK | exact ao hK | exact aW 0 hK | exact aW 1 hK | exact aQ 0 hK | exact aQ 1 hK | exact aQ 2 hK | exact aQ 3 hK | exact aQ 4 hK)):W P K fn k A dr G (i::L) E h:=W_gsc hg hy hi hd hop q
theorem Val.cells1 {v:Val} (h:v.one=true):v.cells=[v]:=by cases v <;> first | rfl | cases h
theorem allc {v:Val} {l:List Val} (h2:l.all Val.one=true) (h1:v.one=true):(v::l).all Val.one=true:=by rw [List.all_cons,h1,h2];rfl
theorem alla {a b:List Val} (h2:b.all Val.one=true) (h1:a.all Val.one=true):(a++b).all Val.one=true:=by rw [List.all_append,h1,h2];rfl
theorem on1 {v:Val} {X:List Nat} {h0:Hp} {F0 F:Frz} {Ls:List Ob} (hS:St X h0 F0 F Ls h) (h1:v.one=true:=by first | exact rfl | exact (SlF.ln (by assumption)).one | exact (St.rowLn (k:=0) (by assumption) rfl).one | exact (St.rowLn (k:=1) (by assumption) rfl).one | exact (St.rowLn (k:=2) (by assumption) rfl).one | exact (St.rowLn (k:=3) (by assumption) rfl).one | exact (St.rowLn (k:=4) (by assumption) rfl).one | exact (St.rowLn (k:=5) (by assumption) rfl).one | exact (St.rowLn (k:=6) (by assumption) rfl).one | exact (St.rowLn (k:=7) (by assumption) rfl).one | exact (St.dpLn (k:=0) (by assumption) rfl).one | exact (St.dpLn (k:=1) (by assumption) rfl).one | exact (St.dpLn (k:=2) (by assumption) rfl).one | exact (St.dpLn (k:=3) (by assumption) rfl).one | exact (St.dpLn (k:=4) (by assumption) rfl).one | exact (St.dpLn (k:=5) (by assumption) rfl).one | exact (St.dpLn (k:=6) (by assumption) rfl).one | exact (St.dpLn (k:=7) (by assumption) rfl).one):v.one=true:=h1
theorem sc {X:List Nat} {h0:Hp} {F0 F:Frz} {Ls:List Ob} {g o:Nat} {cs:List Val} {t:TypeId} {x y:Operand} {v:Val} (n:Nat) (cs':List Val) (q:∀ w',St X h0 F0 F (Ls.set n (.box g cs')) w' → W P K fn k A false (nowF w') L E w') (hop:(opAt A i).op = .store t x y:=by exact rfl) (hx:evLO E x=some (pl g o):=by exact rfl) (hy:evLO E y=some v:=by exact rfl) (hS:St X h0 F0 F Ls h:=by assumption) (hk:Ls[n]? = some (.box g cs):=by exact rfl) (hi:Nat.blt i A.length=true:=by exact rfl) (hw:zdc A E (opAt A i)=some true:=by exact rfl) (hd:(opAt A i).dst=none:=by exact rfl) (h1:v.one=true:=by first | exact rfl | exact (SlF.ln (by assumption)).one | exact (St.rowLn (k:=0) (by assumption) rfl).one | exact (St.rowLn (k:=1) (by assumption) rfl).one | exact (St.rowLn (k:=2) (by assumption) rfl).one | exact (St.rowLn (k:=3) (by assumption) rfl).one | exact (St.rowLn (k:=4) (by assumption) rfl).one | exact (St.rowLn (k:=5) (by assumption) rfl).one | exact (St.rowLn (k:=6) (by assumption) rfl).one | exact (St.rowLn (k:=7) (by assumption) rfl).one | exact (St.dpLn (k:=0) (by assumption) rfl).one | exact (St.dpLn (k:=1) (by assumption) rfl).one | exact (St.dpLn (k:=2) (by assumption) rfl).one | exact (St.dpLn (k:=3) (by assumption) rfl).one | exact (St.dpLn (k:=4) (by assumption) rfl).one | exact (St.dpLn (k:=5) (by assumption) rfl).one | exact (St.dpLn (k:=6) (by assumption) rfl).one | exact (St.dpLn (k:=7) (by assumption) rfl).one) (hz:sz P t=some 1:=by exact Szt.out) (hfit:Nat.ble (o+1) cs.length=true:=by exact rfl) (hcs:putL cs o [v]=cs':=by exact rfl):W P K fn k A false G (i::L) E h :=
 um (Q:=fun _ h'=>St X h0 F0 F (Ls.set n (.box g cs')) h') (hop ▸ zpr (c:=[v]) n cs' hx hy hS hk (Val.cells1 h1) hz (by simp [h1]) hfit hcs) (fun _ w' hS'=>q w' hS') hi hw hd
theorem sC {X:List Nat} {h0:Hp} {F0 F:Frz} {Ls:List Ob} {g o:Nat} {cs:List Val} {t:TypeId} {x y:Operand} {v:Val} (n:Nat) (cs':List Val) (q:∀ w',St X h0 F0 F (Ls.set n (.box g cs')) w' → W P K fn k A dr F L E w') (hop:(opAt A i).op = .store t x y:=by exact rfl) (hx:evLO E x=some (pl g o):=by exact rfl) (hy:evLO E y=some v:=by exact rfl) (hS:St X h0 F0 F Ls h:=by assumption) (hk:Ls[n]? = some (.box g cs):=by exact rfl) (hi:Nat.blt i A.length=true:=by exact rfl) (hw:zdc A E (opAt A i)=some true:=by exact rfl) (hd:(opAt A i).dst=none:=by exact rfl) (h1:v.one=true:=by first | exact rfl | exact (SlF.ln (by assumption)).one | exact (St.rowLn (k:=0) (by assumption) rfl).one | exact (St.rowLn (k:=1) (by assumption) rfl).one | exact (St.rowLn (k:=2) (by assumption) rfl).one | exact (St.rowLn (k:=3) (by assumption) rfl).one | exact (St.rowLn (k:=4) (by assumption) rfl).one | exact (St.rowLn (k:=5) (by assumption) rfl).one | exact (St.rowLn (k:=6) (by assumption) rfl).one | exact (St.rowLn (k:=7) (by assumption) rfl).one | exact (St.dpLn (k:=0) (by assumption) rfl).one | exact (St.dpLn (k:=1) (by assumption) rfl).one | exact (St.dpLn (k:=2) (by assumption) rfl).one | exact (St.dpLn (k:=3) (by assumption) rfl).one | exact (St.dpLn (k:=4) (by assumption) rfl).one | exact (St.dpLn (k:=5) (by assumption) rfl).one | exact (St.dpLn (k:=6) (by assumption) rfl).one | exact (St.dpLn (k:=7) (by assumption) rfl).one) (hz:sz P t=some 1:=by exact Szt.out) (hfit:Nat.ble (o+1) cs.length=true:=by exact rfl) (hcs:putL cs o [v]=cs':=by exact rfl):W P K fn k A dr F (i::L) E h :=
 qu (Q:=fun _ h'=>St X h0 F0 F (Ls.set n (.box g cs')) h') (hop ▸ zpr (c:=[v]) n cs' hx hy hS hk (Val.cells1 h1) hz (by simp [h1]) hfit hcs) (fun _ w' hS'=>qw hS' (q w' hS')) hi hw hd
theorem sb {X:List Nat} {h0:Hp} {F0 F:Frz} {Ls:List Ob} {g o:Nat} {cs:List Val} {t:TypeId} {x y:Operand} {v:Val} (n:Nat) (cs':List Val) (q:∀ w',St X h0 F0 F (Ls.set n (.box g cs')) w' → W P K fn k A false (nowF w') L E w') (hop:(opAt A i).op = .store t x y:=by exact rfl) (hx:evLO E x=some (pl g o):=by exact rfl) (hy:evLO E y=some v:=by exact rfl) (hS:St X h0 F0 F Ls h:=by assumption) (hk:Ls[n]? = some (.box g cs):=by exact rfl) (hi:Nat.blt i A.length=true:=by exact rfl) (hw:zdc A E (opAt A i)=some true:=by exact rfl) (hd:(opAt A i).dst=none:=by exact rfl) (h1:v.cells.all Val.one=true:=by repeat (first | exact rfl | refine alla ?_ rfl | refine allc ?_ (by first | exact rfl | exact (SlF.ln (by assumption)).one | exact (St.rowLn (k:=0) (by assumption) rfl).one | exact (St.rowLn (k:=1) (by assumption) rfl).one | exact (St.rowLn (k:=2) (by assumption) rfl).one | exact (St.rowLn (k:=3) (by assumption) rfl).one | exact (St.rowLn (k:=4) (by assumption) rfl).one | exact (St.rowLn (k:=5) (by assumption) rfl).one | exact (St.rowLn (k:=6) (by assumption) rfl).one | exact (St.rowLn (k:=7) (by assumption) rfl).one | exact (St.dpLn (k:=0) (by assumption) rfl).one | exact (St.dpLn (k:=1) (by assumption) rfl).one | exact (St.dpLn (k:=2) (by assumption) rfl).one | exact (St.dpLn (k:=3) (by assumption) rfl).one | exact (St.dpLn (k:=4) (by assumption) rfl).one | exact (St.dpLn (k:=5) (by assumption) rfl).one | exact (St.dpLn (k:=6) (by assumption) rfl).one | exact (St.dpLn (k:=7) (by assumption) rfl).one))) (hz:sz P t=some v.cells.length:=by exact Szt.out) (hfit:Nat.ble (o+v.cells.length) cs.length=true:=by exact rfl) (hcs:putL cs o v.cells=cs':=by exact rfl):W P K fn k A false G (i::L) E h :=
 um (Q:=fun _ h'=>St X h0 F0 F (Ls.set n (.box g cs')) h') (hop ▸ zpr (c:=v.cells) n cs' hx hy hS hk rfl hz h1 hfit hcs) (fun _ w' hS'=>q w' hS') hi hw hd
theorem sB {X:List Nat} {h0:Hp} {F0 F:Frz} {Ls:List Ob} {g o:Nat} {cs:List Val} {t:TypeId} {x y:Operand} {v:Val} (n:Nat) (cs':List Val) (q:∀ w',St X h0 F0 F (Ls.set n (.box g cs')) w' → W P K fn k A dr F L E w') (hop:(opAt A i).op = .store t x y:=by exact rfl) (hx:evLO E x=some (pl g o):=by exact rfl) (hy:evLO E y=some v:=by exact rfl) (hS:St X h0 F0 F Ls h:=by assumption) (hk:Ls[n]? = some (.box g cs):=by exact rfl) (hi:Nat.blt i A.length=true:=by exact rfl) (hw:zdc A E (opAt A i)=some true:=by exact rfl) (hd:(opAt A i).dst=none:=by exact rfl) (h1:v.cells.all Val.one=true:=by repeat (first | exact rfl | refine alla ?_ rfl | refine allc ?_ (by first | exact rfl | exact (SlF.ln (by assumption)).one | exact (St.rowLn (k:=0) (by assumption) rfl).one | exact (St.rowLn (k:=1) (by assumption) rfl).one | exact (St.rowLn (k:=2) (by assumption) rfl).one | exact (St.rowLn (k:=3) (by assumption) rfl).one | exact (St.rowLn (k:=4) (by assumption) rfl).one | exact (St.rowLn (k:=5) (by assumption) rfl).one | exact (St.rowLn (k:=6) (by assumption) rfl).one | exact (St.rowLn (k:=7) (by assumption) rfl).one | exact (St.dpLn (k:=0) (by assumption) rfl).one | exact (St.dpLn (k:=1) (by assumption) rfl).one | exact (St.dpLn (k:=2) (by assumption) rfl).one | exact (St.dpLn (k:=3) (by assumption) rfl).one | exact (St.dpLn (k:=4) (by assumption) rfl).one | exact (St.dpLn (k:=5) (by assumption) rfl).one | exact (St.dpLn (k:=6) (by assumption) rfl).one | exact (St.dpLn (k:=7) (by assumption) rfl).one))) (hz:sz P t=some v.cells.length:=by exact Szt.out) (hfit:Nat.ble (o+v.cells.length) cs.length=true:=by exact rfl) (hcs:putL cs o v.cells=cs':=by exact rfl):W P K fn k A dr F (i::L) E h :=
 qu (Q:=fun _ h'=>St X h0 F0 F (Ls.set n (.box g cs')) h') (hop ▸ zpr (c:=v.cells) n cs' hx hy hS hk rfl hz h1 hfit hcs) (fun _ w' hS'=>qw hS' (q w' hS')) hi hw hd
theorem al {X:List Nat} {h0:Hp} {F0 F:Frz} {Ls:List Ob} {t:TypeId} {cs:List Val} (q:∀ g w',St X h0 F0 F (.box g cs::Ls) w' → W P K fn k A false (nowF w') L ((d,pl g 0)::E) w') (hop:(opAt A i).op = .alloc t:=by exact rfl) (hi:Nat.blt i A.length=true:=by exact rfl) (hw:zdc A E (opAt A i)=some true:=by exact rfl) (hd:(opAt A i).dst=some d:=by exact rfl) (hz:(zge P t).map Val.cells=some cs:=by exact Zro.out) (h1:cs.all Val.one=true:=by exact rfl) (hS:St X h0 F0 F Ls h:=by assumption):W P K fn k A false G (i::L) E h :=
 xm (hop ▸ zis hz h1 hS) (by rintro _ w' ⟨g,rfl,hS'⟩;exact q g w' hS') hi hw hd
theorem aM {X:List Nat} {h0:Hp} {F0 F:Frz} {Ls:List Ob} {t:TypeId} {cs:List Val} (q:∀ g w',St X h0 F0 F (.box g cs::Ls) w' → W P K fn k A dr F L ((d,pl g 0)::E) w') (hop:(opAt A i).op = .alloc t:=by exact rfl) (hi:Nat.blt i A.length=true:=by exact rfl) (hw:zdc A E (opAt A i)=some true:=by exact rfl) (hd:(opAt A i).dst=some d:=by exact rfl) (hz:(zge P t).map Val.cells=some cs:=by exact Zro.out) (h1:cs.all Val.one=true:=by exact rfl) (hS:St X h0 F0 F Ls h:=by assumption):W P K fn k A dr F (i::L) E h :=
 qx (hop ▸ zis hz h1 hS) (by rintro _ w' ⟨g,rfl,hS'⟩;exact qw hS' (q g w' hS')) hi hw hd
theorem bx {X:List Nat} {h0:Hp} {F0 F:Frz} {Ls:List Ob} {t:TypeId} {x:Operand} {v:Val} (cs:List Val) (q:∀ g w',St X h0 F0 F (.box g cs::Ls) w' → W P K fn k A false (nowF w') L ((d,pl g 0)::E) w') (hop:(opAt A i).op = .box t x:=by exact rfl) (hi:Nat.blt i A.length=true:=by exact rfl) (hw:zdc A E (opAt A i)=some true:=by exact rfl) (hd:(opAt A i).dst=some d:=by exact rfl) (hx:evLO E x=some v:=by exact rfl) (hc:v.cells=cs:=by exact rfl) (h1:cs.all Val.one=true:=by repeat (first | exact rfl | refine alla ?_ rfl | refine allc ?_ (by first | exact rfl | exact (SlF.ln (by assumption)).one | exact (St.rowLn (k:=0) (by assumption) rfl).one | exact (St.rowLn (k:=1) (by assumption) rfl).one | exact (St.rowLn (k:=2) (by assumption) rfl).one | exact (St.rowLn (k:=3) (by assumption) rfl).one | exact (St.rowLn (k:=4) (by assumption) rfl).one | exact (St.rowLn (k:=5) (by assumption) rfl).one | exact (St.rowLn (k:=6) (by assumption) rfl).one | exact (St.rowLn (k:=7) (by assumption) rfl).one | exact (St.dpLn (k:=0) (by assumption) rfl).one | exact (St.dpLn (k:=1) (by assumption) rfl).one | exact (St.dpLn (k:=2) (by assumption) rfl).one | exact (St.dpLn (k:=3) (by assumption) rfl).one | exact (St.dpLn (k:=4) (by assumption) rfl).one | exact (St.dpLn (k:=5) (by assumption) rfl).one | exact (St.dpLn (k:=6) (by assumption) rfl).one | exact (St.dpLn (k:=7) (by assumption) rfl).one))) (hS:St X h0 F0 F Ls h:=by assumption):W P K fn k A false G (i::L) E h :=
 xm (hop ▸ E_bx hx hc h1 hS) (by rintro _ w' ⟨g,rfl,hS'⟩;exact q g w' hS') hi hw hd
theorem lq {X:List Nat} {h0:Hp} {F0 F F1:Frz} {Ls:List Ob} {f:FuncId} {args:List Val} {u:Val} (hc:Ret P K f args h fun v w'=>∃ F',v=u∧St [] h F1 F' [] w') (hS:St X h0 F0 F Ls h) (x:∀ w',St X h0 F0 F Ls w' → W P K fn k A dr F L ((d,u)::E) w') (hi:Nat.blt i A.length=true:=by exact rfl) (hw:zdc A E (opAt A i)=some true:=by exact rfl) (hd:(opAt A i).dst=some d:=by exact rfl) (ht:tgtL E (opAt A i).op=some (f,args):=by exact rfl):W P K fn k A dr F (i::L) E h :=
 ql hc (by rintro v w' ⟨F',rfl,hT⟩;exact qw (hS.lent hT) (x w' (hS.lent hT))) hi hw hd ht
theorem rn {id:Nat} (x:W P K fn k A true (nowF h) (List.range A.length) E h) (hd:zpj fn.ntmps A=true:=by exact rfl) (hf:P.follows .mixedOrders=true:=by kernel_rfl) (hL:okL P A (List.range A.length)=true:=by kernel_rfl):C P K fn k (.region id A.toArray true) E h:=zbw _ hd hf hL (zkc h) x
theorem rf {id:Nat} {X:List Nat} {h0:Hp} {F0 F:Frz} {Ls:List Ob} (hS:St X h0 F0 F Ls h) (x:W P K fn k A true F (List.range A.length) E h) (hd:zpj fn.ntmps A=true:=by exact rfl) (hf:P.follows .mixedOrders=true:=by kernel_rfl) (hL:okL P A (List.range A.length)=true:=by kernel_rfl):C P K fn k (.region id A.toArray true) E h:=zbw _ hd hf hL hS.agree x
theorem nj {J:EL→Hp→Prop} {l':EL} (hJ:J l' h) (hs:Sub l' E:=by repeat (first | exact trivial | refine ⟨rfl,?_⟩)):N P K fn (.loop (Join J) k) E h:=zdy l' hJ hs
theorem nm {S B:Type} {Inv:S→EL→Hp→Prop} {rec:S→Option B} {a:B} {s:S} {E':EL} (H:rec s=some a) (hI:Inv s E' h) (hE:Sub E' E:=by repeat (first | exact trivial | refine ⟨rfl,?_⟩)):N P K fn (.loop (AgainM Inv rec a) k) E h:=N_againM s E' H hI hE
theorem lo {Q:EL→Prop} {E':EL} (hI:Q E') (hE:Sub E' E:=by repeat (first | exact trivial | refine ⟨rfl,?_⟩)):∃ E',Q E' ∧ Sub E' E:=⟨E',hI,hE⟩
structure Left (S:Prop):Prop where
 out:S
theorem au {S Q:Prop} (hp:S) (hq:Left S→Q:=by
  intro hp
  repeat (first | refine ac ?_ | refine qn ?_ | refine aA ?_ | refine af ?_ | refine ab ?_ | refine aF ?_ | refine aL ?_ | refine aB 0 ?_ | refine aB 1 ?_ | refine aB 2 ?_ | refine aB 3 ?_ | refine aB 4 ?_ | refine aB 5 ?_ | refine aB 6 ?_ | refine aB 7 ?_ | refine aB 8 ?_ | refine aI ?_ | refine aE ?_ | refine aQ 0 ?_ | refine aQ 1 ?_ | refine aQ 2 ?_ | refine aQ 3 ?_ | refine aQ 4 ?_ | refine aE0 ?_ | refine aG ?_ | refine aW 0 ?_ | refine aW 1 ?_ | refine aW 2 ?_ | refine aW 3 ?_ | refine aW 4 ?_ | refine aW 5 ?_ | refine aW 6 ?_ | refine aW 7 ?_ | refine aW 8 ?_ | refine aE2 ?_ | refine aS ?_ | refine aN ?_)
  exact hp.out):Q:=hq ⟨hp⟩
theorem aq {S Q:Prop} (hp:S) (hq:Left S→Q:=by
  intro hp;refine qs ?_
  repeat (first | refine ac ?_ | refine qn ?_ | refine aA ?_ | refine af ?_ | refine ab ?_ | refine aF ?_ | refine aL ?_ | refine aB 0 ?_ | refine aB 1 ?_ | refine aB 2 ?_ | refine aB 3 ?_ | refine aB 4 ?_ | refine aB 5 ?_ | refine aB 6 ?_ | refine aB 7 ?_ | refine aB 8 ?_ | refine aI ?_ | refine aE ?_ | refine aQ 0 ?_ | refine aQ 1 ?_ | refine aQ 2 ?_ | refine aQ 3 ?_ | refine aQ 4 ?_ | refine aE0 ?_ | refine aG ?_ | refine aW 0 ?_ | refine aW 1 ?_ | refine aW 2 ?_ | refine aW 3 ?_ | refine aW 4 ?_ | refine aW 5 ?_ | refine aW 6 ?_ | refine aW 7 ?_ | refine aW 8 ?_ | refine aE2 ?_ | refine aS ?_ | refine aN ?_)
  exact hp.out):Q:=hq ⟨hp⟩
theorem aw {S Q:Prop} (hp:S) (hq:Left S→Q:=by
  intro hp
  repeat (first | refine ac ?_ | refine qn ?_ | refine aA ?_ | refine af ?_ | refine ab ?_ | refine aF ?_ | refine aL ?_ | refine aB 0 ?_ | refine aB 1 ?_ | refine aB 2 ?_ | refine aB 3 ?_ | refine aB 4 ?_ | refine aB 5 ?_ | refine aB 6 ?_ | refine aB 7 ?_ | refine aB 8 ?_ | refine aI ?_ | refine aE ?_ | refine aQ 0 ?_ | refine aQ 1 ?_ | refine aQ 2 ?_ | refine aQ 3 ?_ | refine aQ 4 ?_ | refine aE0 ?_ | refine aG ?_ | refine aW 0 ?_ | refine aW 1 ?_ | refine aW 2 ?_ | refine aW 3 ?_ | refine aW 4 ?_ | refine aW 5 ?_ | refine aW 6 ?_ | refine aW 7 ?_ | refine aW 8 ?_ | refine aE2 ?_ | refine agm0 ?_ | refine agm ?_ | refine ag ?_ | refine ao ?_ | refine aa ?_ | refine agc ?_ | refine aS ?_ | refine aN ?_)
  exact hp.out):Q:=hq ⟨hp⟩
theorem av {S Q:Prop} (hp:S) (hq:Left S→Q:=by
  intro hp;refine qs ?_
  repeat (first | refine ac ?_ | refine qn ?_ | refine aA ?_ | refine af ?_ | refine ab ?_ | refine aF ?_ | refine aL ?_ | refine aB 0 ?_ | refine aB 1 ?_ | refine aB 2 ?_ | refine aB 3 ?_ | refine aB 4 ?_ | refine aB 5 ?_ | refine aB 6 ?_ | refine aB 7 ?_ | refine aB 8 ?_ | refine aI ?_ | refine aE ?_ | refine aQ 0 ?_ | refine aQ 1 ?_ | refine aQ 2 ?_ | refine aQ 3 ?_ | refine aQ 4 ?_ | refine aE0 ?_ | refine aG ?_ | refine aW 0 ?_ | refine aW 1 ?_ | refine aW 2 ?_ | refine aW 3 ?_ | refine aW 4 ?_ | refine aW 5 ?_ | refine aW 6 ?_ | refine aW 7 ?_ | refine aW 8 ?_ | refine aE2 ?_ | refine agm0 ?_ | refine agm ?_ | refine ag ?_ | refine ao ?_ | refine aa ?_ | refine agc ?_ | refine aS ?_ | refine aN ?_)
  exact hp.out):Q:=hq ⟨hp⟩
end
end Go.V
end
section
namespace Go.V
open Go.Wk
theorem ot {α:Type} {c:Bool} {o:Option α} {d r:α} (h:only c o d=some r) (hc:c=true):o=some r:=by rwa [zck hc] at h
abbrev jE {X:List Nat} {h0 h:Hp} {F0 F:Frz} {Ls:List Ob} (E0:EL) (_:St X h0 F0 F Ls h):EL→Hp→Prop:=fun E w=>∃ F':Frz,E=E0∧F.le F' ∧ St X h0 F0 F' Ls w
abbrev jN {X:List Nat} {h0 h:Hp} {F0 F:Frz} {Ls:List Ob} (p:Prop) (E0:EL) (_:St X h0 F0 F Ls h):EL→Hp→Prop:=fun E w=>p ∧ ∃ F':Frz,E=E0∧F.le F' ∧ St X h0 F0 F' Ls w
abbrev jL {X:List Nat} {h0 h:Hp} {F0 F:Frz} {Ls:List Ob} (E0:EL) (_:St X h0 F0 F Ls h) (Lt:List Ob):EL→Hp→Prop:=fun E w=>∃ F':Frz,E=E0∧F.le F' ∧ St X h0 F0 F' Lt w
abbrev jO {X:List Nat} {h0 h:Hp} {F0 F:Frz} {Ls:List Ob} (p:Prop) (E0:EL) (_:St X h0 F0 F Ls h) (Lt:List Ob):EL→Hp→Prop:=fun E w=>p ∧ ∃ F':Frz,E=E0∧F.le F' ∧ St X h0 F0 F' Lt w
theorem jj {X:List Nat} {h0 h:Hp} {F0 F F1:Frz} {Ls:List Ob} {E0:EL} (hS:St X h0 F0 F Ls h) (l:F1.le F:=by exact lec):∃ F':Frz,E0=E0∧F1.le F' ∧ St X h0 F0 F' Ls h:=⟨F,rfl,l,hS⟩
theorem pk {X:List Nat} {h0 h:Hp} {F0 F:Frz} {Ls:List Ob} (is:List Nat) (hS:St X h0 F0 F Ls h) (hn:is.Nodup:=by decide):St X h0 F0 F (is.filterMap fun i=>Ls[i]?) h:=hS.pick is hn
theorem mo {α:Type} {t:Tr α} {F G:Frz} {v:Val} {xs:List α} (h:SlF t F v xs) (l:F.le G:=by exact lec):SlF t G v xs:=h.mono l
section
variable {P:Program} {K:Tb} {fn:Func} {k:Kont} {E:EL} {h:Hp} {A:List Oper} {dr:Bool} {G:Frz} {L:List Nat} {i d:Nat} {X:List Nat} {h0:Hp} {F0 F F1:Frz} {Ls:List Ob}
theorem lj {S T:Type} {a:T} {c:Code} {n:Nat} {Fn:(S→Option T)→S→Option T} {s0:S} (hS:St X h0 F0 F1 Ls h) (e:S→EL) (H:iter Fn n s0=some a)
  (round:∀ (rec:S→Option T) s F w',F1.le F→St X h0 F0 F Ls w' → Fn rec s=some a→C P K fn (.loop (AgainM (fun s=>jE (e s) hS) rec a) k) c (e s) w') (hE:Sub (e s0) E:=by repeat (first | exact trivial | refine ⟨rfl,?_⟩)):C P K fn k (.loop c) E h :=
 zbo (fun s=>jE (e s) hS) H ⟨_,⟨F1,rfl,Frz.le.refl _,hS⟩,hE⟩ (by
  rintro rec s E w' ⟨F,rfl,le,hS'⟩ H;exact round rec s F w' le hS' H)
theorem gw {α:Type} {c:Bool} {o:Option α} {z r:α} {j:Nat} {b want:Bool} {f:FuncId} {args:List Val} {u:Val} {F2:Frz} (hS:St X h0 F0 F Ls h) (hr:only c o z=some r) (hc:o=some r→Ret P K f args h fun v w'=>∃ F',v=u∧St [] h F2 F' [] w')
  (x:∀ w',St X h0 F0 F Ls w' → Nxt P K fn k A dr G L ((d,cnds [(b,want)] u)::E) w') (hg:(opAt A i).guard=some (j,want):=by exact rfl) (hy:ylL A E j=some (.b b):=by exact rfl) (hi:Nat.blt i A.length=true:=by exact rfl) (hd:(opAt A i).dst=some d:=by exact rfl)
  (hcc:Aeq [(b,want)]→c=true:=by
   rintro ⟨h1,_⟩
   first | exact h1 | (rw [h1];first | done | rfl) | simp [h1])
  (ht:Aeq [(b,want)]→tgtL E (opAt A i).op=some (f,args):=by
   rintro ⟨h1,_⟩
   first | exact rfl | (rw [h1];exact rfl))
  (hw:Aeq [(b,want)]→zdc A E (opAt A i)=some true:=by
   rintro ⟨h1,_⟩;rw [h1];exact rfl):W P K fn k A dr G (i::L) E h :=
 W_gw (v:=u) (Q:=St X h0 F0 F Ls) hS hg hy hi hd (fun ha hK=>ql (hc (ot hr (hcc ha))) (by rintro v w' ⟨F',rfl,hT⟩;exact hK _ (hS.lent hT)) hi (hw ha) hd (ht ha)) x
theorem gwc {α:Type} {c:Bool} {o:Option α} {z r:α} {j:Nat} {cs:List (Bool × Bool)} {b want:Bool} {f:FuncId} {args:List Val} {u:Val} {F2:Frz} (hS:St X h0 F0 F Ls h) (hr:only c o z=some r) (hc:o=some r→Ret P K f args h fun v w'=>∃ F',v=u∧St [] h F2 F' [] w')
  (x:∀ w',St X h0 F0 F Ls w' → Nxt P K fn k A dr G L ((d,cnds (cs++[(b,want)]) u)::E) w') (hg:(opAt A i).guard=some (j,want):=by exact rfl) (hy:ylL A E j=some (cnds cs (.b b)):=by exact rfl) (hi:Nat.blt i A.length=true:=by exact rfl) (hd:(opAt A i).dst=some d:=by exact rfl)
  (hcc:Aeq (cs++[(b,want)])→c=true:=by
   first | (rintro ⟨h1,h2,(_:True)⟩;first | rfl | (rw [h1,h2];rfl) | (rw [h2,h1];rfl) | simp [h1,h2]) | (rintro ⟨h1,h2,h3,(_:True)⟩;first | rfl | (rw [h1,h2,h3];rfl) | (rw [h3,h2,h1];rfl) | simp [h1,h2,h3]) | (rintro ⟨h1,h2,h3,h4,(_:True)⟩;first | rfl | (rw [h1,h2,h3,h4];rfl) | (rw [h4,h3,h2,h1];rfl) | simp [h1,h2,h3,h4]) | (rintro ⟨h1,h2,h3,h4,h5,(_:True)⟩;first | rfl | (rw [h1,h2,h3,h4,h5];rfl) | (rw [h5,h4,h3,h2,h1];rfl) | simp [h1,h2,h3,h4,h5]))
  (ht:Aeq (cs++[(b,want)])→tgtL E (opAt A i).op=some (f,args):=by
   first | exact fun _=>rfl | ((first | (rintro ⟨h1,h2,(_:True)⟩;try rw [h2];try rw [h1]) | (rintro ⟨h1,h2,h3,(_:True)⟩;try rw [h3];try rw [h2];try rw [h1]) | (rintro ⟨h1,h2,h3,h4,(_:True)⟩;try rw [h4];try rw [h3];try rw [h2];try rw [h1]) | (rintro ⟨h1,h2,h3,h4,h5,(_:True)⟩;try rw [h5];try rw [h4];try rw [h3];try rw [h2];try rw [h1]));exact rfl) | ((first | (rintro ⟨h1,h2,(_:True)⟩;try rw [h1];try rw [h2]) | (rintro ⟨h1,h2,h3,(_:True)⟩;try rw [h1];try rw [h2];try rw [h3]) | (rintro ⟨h1,h2,h3,h4,(_:True)⟩;try rw [h1];try rw [h2];try rw [h3];try rw [h4]) | (rintro ⟨h1,h2,h3,h4,h5,(_:True)⟩;try rw [h1];try rw [h2];try rw [h3];try rw [h4];try rw [h5]));exact rfl))
  (hw:Aeq (cs++[(b,want)])→zdc A E (opAt A i)=some true:=by
   first | ((first | (rintro ⟨h1,h2,(_:True)⟩;try rw [h2];try rw [h1]) | (rintro ⟨h1,h2,h3,(_:True)⟩;try rw [h3];try rw [h2];try rw [h1]) | (rintro ⟨h1,h2,h3,h4,(_:True)⟩;try rw [h4];try rw [h3];try rw [h2];try rw [h1]) | (rintro ⟨h1,h2,h3,h4,h5,(_:True)⟩;try rw [h5];try rw [h4];try rw [h3];try rw [h2];try rw [h1]));exact rfl) | ((first | (rintro ⟨h1,h2,(_:True)⟩;try rw [h1];try rw [h2]) | (rintro ⟨h1,h2,h3,(_:True)⟩;try rw [h1];try rw [h2];try rw [h3]) | (rintro ⟨h1,h2,h3,h4,(_:True)⟩;try rw [h1];try rw [h2];try rw [h3];try rw [h4]) | (rintro ⟨h1,h2,h3,h4,h5,(_:True)⟩;try rw [h1];try rw [h2];try rw [h3];try rw [h4];try rw [h5]));exact rfl)):W P K fn k A dr G (i::L) E h :=
 W_gwc (v:=u) (Q:=St X h0 F0 F Ls) hS hg hy hi hd (fun ha hK=>ql (hc (ot hr (hcc ha))) (by rintro v w' ⟨F',rfl,hT⟩;exact hK _ (hS.lent hT)) hi (hw ha) hd (ht ha)) x
theorem ge {α:Type} {t:Tr α} {xs:List α} {n:Int} {c:Bool} {z x:α} {y v:Val} {j:Nat} {b want:Bool} (hE:SlF t F1 y xs) (hx:only c (ix xs n) z=some x)
  (q:W P K fn k A dr G L ((d,cnds [(b,want)] v)::E) h) (hg:(opAt A i).guard=some (j,want):=by exact rfl) (hy:ylL A E j=some (.b b):=by exact rfl) (hi:Nat.blt i A.length=true:=by exact rfl) (hd:(opAt A i).dst=some d:=by exact rfl)
  (hcc:Aeq [(b,want)]→c=true:=by
   rintro ⟨h1,_⟩
   first | exact h1 | (rw [h1];first | done | rfl) | simp [h1])
  (hop:Aeq [(b,want)]→ix xs n=some x→(∃ cs,t.rel F1 cs x∧Elf F1 y t.size n.toNat cs)→W P K fn k A dr G L ((d,v)::E) h→W P K fn k A dr G (i::L) E h:=by
   rintro ⟨hb,_⟩ hX ⟨_,hr,he⟩;replace he:=qj _ he
   try rw [hb]
   intro hK
   first | exact aI hK | exact aF hK | (first | obtain rfl:=hr | obtain ⟨rfl,_⟩:=hr | obtain ⟨_,rfl,_⟩:=hr | obtain ⟨_,_,rfl,_⟩:=hr | obtain ⟨_,_,_,rfl,_⟩:=hr | obtain ⟨_,_,_,_,rfl,_⟩:=hr);first | exact aE hK | exact aE0 hK | exact aG hK | exact aE2 hK):W P K fn k A dr G (i::L) E h :=
 W_gs hg hy hi hd (fun ha hK=>hop ha (ot hx (hcc ha)) (hE.el (zaf (ot hx (hcc ha))).2) hK) q
theorem gec {α:Type} {t:Tr α} {xs:List α} {n:Int} {c:Bool} {z x:α} {y v:Val} {j:Nat} {cs:List (Bool × Bool)} {b want:Bool} (hE:SlF t F1 y xs) (hx:only c (ix xs n) z=some x)
  (q:W P K fn k A dr G L ((d,cnds (cs++[(b,want)]) v)::E) h) (hg:(opAt A i).guard=some (j,want):=by exact rfl) (hy:ylL A E j=some (cnds cs (.b b)):=by exact rfl) (hi:Nat.blt i A.length=true:=by exact rfl) (hd:(opAt A i).dst=some d:=by exact rfl)
  (hcc:Aeq (cs++[(b,want)])→c=true:=by
   first | (rintro ⟨h1,h2,(_:True)⟩;first | rfl | (rw [h1,h2];rfl) | (rw [h2,h1];rfl) | simp [h1,h2]) | (rintro ⟨h1,h2,h3,(_:True)⟩;first | rfl | (rw [h1,h2,h3];rfl) | (rw [h3,h2,h1];rfl) | simp [h1,h2,h3]) | (rintro ⟨h1,h2,h3,h4,(_:True)⟩;first | rfl | (rw [h1,h2,h3,h4];rfl) | (rw [h4,h3,h2,h1];rfl) | simp [h1,h2,h3,h4]) | (rintro ⟨h1,h2,h3,h4,h5,(_:True)⟩;first | rfl | (rw [h1,h2,h3,h4,h5];rfl) | (rw [h5,h4,h3,h2,h1];rfl) | simp [h1,h2,h3,h4,h5]))
  (hop:Aeq (cs++[(b,want)])→ix xs n=some x→(∃ cs,t.rel F1 cs x∧Elf F1 y t.size n.toNat cs)→W P K fn k A dr G L ((d,v)::E) h→W P K fn k A dr G (i::L) E h:=by
   first | ((first | (rintro ⟨h1,h2,(_:True)⟩;try rw [h2];try rw [h1]) | (rintro ⟨h1,h2,h3,(_:True)⟩;try rw [h3];try rw [h2];try rw [h1]) | (rintro ⟨h1,h2,h3,h4,(_:True)⟩;try rw [h4];try rw [h3];try rw [h2];try rw [h1]) | (rintro ⟨h1,h2,h3,h4,h5,(_:True)⟩;try rw [h5];try rw [h4];try rw [h3];try rw [h2];try rw [h1]));rintro hX ⟨_,hr,he⟩ hK;replace he:=qj _ he;first | exact aI hK | exact aF hK | (first | obtain rfl:=hr | obtain ⟨rfl,_⟩:=hr | obtain ⟨_,rfl,_⟩:=hr | obtain ⟨_,_,rfl,_⟩:=hr | obtain ⟨_,_,_,rfl,_⟩:=hr | obtain ⟨_,_,_,_,rfl,_⟩:=hr);first | exact aE hK | exact aE0 hK | exact aG hK | exact aE2 hK) | ((first | (rintro ⟨h1,h2,(_:True)⟩;try rw [h1];try rw [h2]) | (rintro ⟨h1,h2,h3,(_:True)⟩;try rw [h1];try rw [h2];try rw [h3]) | (rintro ⟨h1,h2,h3,h4,(_:True)⟩;try rw [h1];try rw [h2];try rw [h3];try rw [h4]) | (rintro ⟨h1,h2,h3,h4,h5,(_:True)⟩;try rw [h1];try rw [h2];try rw [h3];try rw [h4];try rw [h5]));rintro hX ⟨_,hr,he⟩ hK;replace he:=qj _ he;first | exact aI hK | exact aF hK | (first | obtain rfl:=hr | obtain ⟨rfl,_⟩:=hr | obtain ⟨_,rfl,_⟩:=hr | obtain ⟨_,_,rfl,_⟩:=hr | obtain ⟨_,_,_,rfl,_⟩:=hr | obtain ⟨_,_,_,_,rfl,_⟩:=hr);first | exact aE hK | exact aE0 hK | exact aG hK | exact aE2 hK)):W P K fn k A dr G (i::L) E h :=
 W_gsc hg hy hi hd (fun ha hK=>hop ha (ot hx (hcc ha)) (hE.el (zaf (ot hx (hcc ha))).2) hK) q
end
theorem ax {S Q:Prop} (hp:S) (hq:Left S→Q:=by
  intro hp
  repeat (first | with_reducible refine ziz ?_ | with_reducible refine zfa ?_ | with_reducible refine zyg ?_ | with_reducible refine zgl ?_ | with_reducible refine zew ?_ | refine qd ?_ | refine qs ?_ | refine zbe _ rfl ?_ | refine ac ?_ | refine aA ?_ | refine af ?_ | refine ab ?_ | refine aF ?_ | refine aL ?_ | refine aB 0 ?_ | refine aB 1 ?_ | refine aB 2 ?_ | refine aB 3 ?_ | refine aB 4 ?_ | refine aB 5 ?_ | refine aB 6 ?_ | refine aB 7 ?_ | refine aB 8 ?_ | refine aI ?_ | refine aE ?_ | refine aQ 0 ?_ | refine aQ 1 ?_ | refine aQ 2 ?_ | refine aQ 3 ?_ | refine aQ 4 ?_ | refine aE0 ?_ | refine aG ?_ | refine aW 0 ?_ | refine aW 1 ?_ | refine aW 2 ?_ | refine aW 3 ?_ | refine aW 4 ?_ | refine aW 5 ?_ | refine aW 6 ?_ | refine aW 7 ?_ | refine aW 8 ?_ | refine aE2 ?_ | refine aS ?_ | refine aN ?_)
  exact hp.out):Q:=hq ⟨hp⟩
theorem ay {S Q:Prop} (hp:S) (hq:Left S→Q:=by
  intro hp
  repeat (first | refine qs ?_ | with_reducible refine zfl ?_ | with_reducible refine ziz ?_ | with_reducible refine zfa ?_ | with_reducible refine zyg ?_ | with_reducible refine zgl ?_ | with_reducible refine zew ?_ | refine qd ?_ | refine zbe _ rfl ?_ | refine ac ?_ | refine aA ?_ | refine af ?_ | refine ab ?_ | refine aF ?_ | refine aL ?_ | refine aB 0 ?_ | refine aB 1 ?_ | refine aB 2 ?_ | refine aB 3 ?_ | refine aB 4 ?_ | refine aB 5 ?_ | refine aB 6 ?_ | refine aB 7 ?_ | refine aB 8 ?_ | refine aI ?_ | refine aE ?_ | refine aQ 0 ?_ | refine aQ 1 ?_ | refine aQ 2 ?_ | refine aQ 3 ?_ | refine aQ 4 ?_ | refine aE0 ?_ | refine aG ?_ | refine aW 0 ?_ | refine aW 1 ?_ | refine aW 2 ?_ | refine aW 3 ?_ | refine aW 4 ?_ | refine aW 5 ?_ | refine aW 6 ?_ | refine aW 7 ?_ | refine aW 8 ?_ | refine aE2 ?_ | refine aS ?_ | refine aN ?_)
  exact hp.out):Q:=hq ⟨hp⟩
theorem az {S Q:Prop} (hp:S) (hq:Left S→Q:=by
  intro hp
  repeat (first | with_reducible refine ziz ?_ | with_reducible refine zfa ?_ | with_reducible refine zyg ?_ | with_reducible refine zgl ?_ | with_reducible refine zew ?_ | refine qd ?_ | refine qs ?_ | refine zbe _ rfl ?_ | refine ac ?_ | refine aA ?_ | refine af ?_ | refine ab ?_ | refine aF ?_ | refine aL ?_ | refine aB 0 ?_ | refine aB 1 ?_ | refine aB 2 ?_ | refine aB 3 ?_ | refine aB 4 ?_ | refine aB 5 ?_ | refine aB 6 ?_ | refine aB 7 ?_ | refine aB 8 ?_ | refine aI ?_ | refine aE ?_ | refine aQ 0 ?_ | refine aQ 1 ?_ | refine aQ 2 ?_ | refine aQ 3 ?_ | refine aQ 4 ?_ | refine aE0 ?_ | refine aG ?_ | refine aW 0 ?_ | refine aW 1 ?_ | refine aW 2 ?_ | refine aW 3 ?_ | refine aW 4 ?_ | refine aW 5 ?_ | refine aW 6 ?_ | refine aW 7 ?_ | refine aW 8 ?_ | refine aE2 ?_ | refine agm0 ?_ | refine agm ?_ | refine ag ?_ | refine ao ?_ | refine aa ?_ | refine agc ?_ | refine aS ?_ | refine aN ?_)
  exact hp.out):Q:=hq ⟨hp⟩
theorem aZ {S Q:Prop} (hp:S) (hq:Left S→Q:=by
  intro hp
  repeat (first | refine qs ?_ | with_reducible refine zfl ?_ | with_reducible refine ziz ?_ | with_reducible refine zfa ?_ | with_reducible refine zyg ?_ | with_reducible refine zgl ?_ | with_reducible refine zew ?_ | refine qd ?_ | refine zbe _ rfl ?_ | refine ac ?_ | refine aA ?_ | refine af ?_ | refine ab ?_ | refine aF ?_ | refine aL ?_ | refine aB 0 ?_ | refine aB 1 ?_ | refine aB 2 ?_ | refine aB 3 ?_ | refine aB 4 ?_ | refine aB 5 ?_ | refine aB 6 ?_ | refine aB 7 ?_ | refine aB 8 ?_ | refine aI ?_ | refine aE ?_ | refine aQ 0 ?_ | refine aQ 1 ?_ | refine aQ 2 ?_ | refine aQ 3 ?_ | refine aQ 4 ?_ | refine aE0 ?_ | refine aG ?_ | refine aW 0 ?_ | refine aW 1 ?_ | refine aW 2 ?_ | refine aW 3 ?_ | refine aW 4 ?_ | refine aW 5 ?_ | refine aW 6 ?_ | refine aW 7 ?_ | refine aW 8 ?_ | refine aE2 ?_ | refine agm0 ?_ | refine agm ?_ | refine ag ?_ | refine ao ?_ | refine aa ?_ | refine agc ?_ | refine aS ?_ | refine aN ?_)
  exact hp.out):Q:=hq ⟨hp⟩
theorem rz {α:Type} {a r:α} {Q:Prop} {X:List Nat} {h0 h:Hp} {F0 F:Frz} {Ls:List Ob} (H:some a=some r) (hS:St X h0 F0 F Ls h) (hq:some a=some r→St X h0 F0 F Ls h→Q:=by
  intro H hS;obtain rfl:=oi H
  try refine qs ?_
  repeat (first | refine ac ?_ | refine qn ?_ | refine aA ?_ | refine af ?_ | refine ab ?_ | refine aF ?_ | refine aL ?_ | refine aB 0 ?_ | refine aB 1 ?_ | refine aB 2 ?_ | refine aB 3 ?_ | refine aB 4 ?_ | refine aI ?_ | refine aE ?_ | refine aQ 0 ?_ | refine aQ 1 ?_ | refine aQ 2 ?_ | refine aE0 ?_ | refine aG ?_ | refine aW 0 ?_ | refine aW 1 ?_ | refine aW 2 ?_ | refine aW 3 ?_ | refine aE2 ?_ | refine aS ?_ | refine aN ?_)
  refine qt ?_
  first | exact ⟨_,rfl,hS⟩ | exact ⟨_,rfl,hS.pick [] (by decide)⟩):Q:=hq H hS
end Go.V
end
section
namespace Go.Wk.Lf.Ty
open Go.V Go.Proofs
theorem agg134:aggT Tryz.prog 134=some true:=by kernel_rfl
theorem agg138:aggT Tryz.prog 138=some true:=by kernel_rfl
theorem agg170:aggT Tryz.prog 170=some true:=by kernel_rfl
theorem agg172:aggT Tryz.prog 172=some true:=by kernel_rfl
theorem agg32:aggT Tryz.prog 32=some true:=by kernel_rfl
theorem zjo:aggT Tryz.prog 38=some true:=by kernel_rfl
theorem zoy:aggT Tryz.prog 43=some true:=by kernel_rfl
theorem agg46:aggT Tryz.prog 46=some true:=by kernel_rfl
theorem ztb:aggT Tryz.prog 51=some true:=by kernel_rfl
theorem agg53:aggT Tryz.prog 53=some true:=by kernel_rfl
theorem agg55:aggT Tryz.prog 55=some true:=by kernel_rfl
theorem ziu:aggT Tryz.prog 58=some true:=by kernel_rfl
theorem agg60:aggT Tryz.prog 60=some true:=by kernel_rfl
theorem zvj:aggT Tryz.prog 79=some true:=by kernel_rfl
theorem agg84:aggT Tryz.prog 84=some true:=by kernel_rfl
theorem bld101:zpd Tryz.prog 101=some ([(0,1),(1,1)],[.s [],.sl none 0 (.k 0)]):=by kernel_rfl
theorem bld38:zpd Tryz.prog 38=some ([(0,1),(1,1),(2,1),(3,1),(4,1)],[.i .i64 0,.sl none 0 (.k 0),.sl none 0 (.k 0),.sl none 0 (.k 0),.sl none 0 (.k 0)]):=by kernel_rfl
theorem bld46:zpd Tryz.prog 46=some ([(0,1),(1,2),(3,1)],[.i .i64 0,.s [],.sl none 0 (.k 0),.sl none 0 (.k 0)]):=by kernel_rfl
theorem bld49:zpd Tryz.prog 49=some ([(0,1),(1,1),(2,1)],[.i .i64 0,.i .i64 0,.sl none 0 (.k 0)]):=by kernel_rfl
theorem bld53:zpd Tryz.prog 53=some ([(0,3),(3,4)],[.i .i64 0,.i .i64 0,.sl none 0 (.k 0),.i .i64 0,.i .i64 0,.i .i64 0,.i .i64 0]):=by kernel_rfl
theorem bld55:zpd Tryz.prog 55=some ([(0,1),(1,1),(2,1)],[.i .i64 0,.i .i64 0,.sl none 0 (.k 0)]):=by kernel_rfl
theorem bld60:zpd Tryz.prog 60=some ([(0,32),(32,1),(33,1),(34,1)],[.i .u8 0,.i .u8 0,.i .u8 0,.i .u8 0,.i .u8 0,.i .u8 0,.i .u8 0,.i .u8 0,.i .u8 0,.i .u8 0,.i .u8 0,.i .u8 0,.i .u8 0,.i .u8 0,.i .u8 0,.i .u8 0,.i .u8 0,.i .u8 0,.i .u8 0,.i .u8 0,.i .u8 0,.i .u8 0,.i .u8 0,.i .u8 0,.i .u8 0,.i .u8 0,.i .u8 0,.i .u8 0,.i .u8 0,.i .u8 0,.i .u8 0,.i .u8 0,.b false,.sl none 0 (.k 0),.sl none 0 (.k 0)]):=by kernel_rfl
theorem bld79:zpd Tryz.prog 79=some ([(0,1),(1,4),(5,1),(6,1),(7,1),(8,1)],[.i .i64 0,.i .i64 0,.s [],.sl none 0 (.k 0),.sl none 0 (.k 0),.sl none 0 (.k 0),.i .i64 0,.i .i64 0,.sl none 0 (.k 0)]):=by kernel_rfl
theorem cell118:aggT Tryz.prog 118=some false:=by kernel_rfl
theorem zcr:aggT Tryz.prog 169=some false:=by kernel_rfl
theorem cell22:aggT Tryz.prog 22=some false:=by kernel_rfl
theorem zjg:aggT Tryz.prog 3=some false:=by kernel_rfl
theorem zqv:aggT Tryz.prog 33=some false:=by kernel_rfl
theorem zoe:aggT Tryz.prog 34=some false:=by kernel_rfl
theorem zft:aggT Tryz.prog 35=some false:=by kernel_rfl
theorem zkm:aggT Tryz.prog 36=some false:=by kernel_rfl
theorem zxy:aggT Tryz.prog 4=some false:=by kernel_rfl
theorem zwe:aggT Tryz.prog 41=some false:=by kernel_rfl
theorem zgj:aggT Tryz.prog 44=some false:=by kernel_rfl
theorem zsl:aggT Tryz.prog 47=some false:=by kernel_rfl
theorem zvi:aggT Tryz.prog 5=some false:=by kernel_rfl
theorem zwd:aggT Tryz.prog 77=some false:=by kernel_rfl
theorem cell82:aggT Tryz.prog 82=some false:=by kernel_rfl
theorem cell9:aggT Tryz.prog 9=some false:=by kernel_rfl
theorem zke:zdb Tryz.prog 101 0=some 0:=by kernel_rfl
theorem zrs:zdb Tryz.prog 101 1=some 1:=by kernel_rfl
theorem field134_0:zdb Tryz.prog 134 0=some 0:=by kernel_rfl
theorem field134_1:zdb Tryz.prog 134 1=some 1:=by kernel_rfl
theorem zrr:zdb Tryz.prog 134 2=some 33:=by kernel_rfl
theorem field134_3:zdb Tryz.prog 134 3=some 34:=by kernel_rfl
theorem field134_4:zdb Tryz.prog 134 4=some 35:=by kernel_rfl
theorem field134_5:zdb Tryz.prog 134 5=some 36:=by kernel_rfl
theorem zrq:zdb Tryz.prog 138 0=some 0:=by kernel_rfl
theorem field138_1:zdb Tryz.prog 138 1=some 1:=by kernel_rfl
theorem zvy:zdb Tryz.prog 138 2=some 2:=by kernel_rfl
theorem field32_0:zdb Tryz.prog 32 0=some 0:=by kernel_rfl
theorem field32_1:zdb Tryz.prog 32 1=some 1:=by kernel_rfl
theorem zqs:zdb Tryz.prog 32 2=some 2:=by kernel_rfl
theorem field32_3:zdb Tryz.prog 32 3=some 3:=by kernel_rfl
theorem field38_0:zdb Tryz.prog 38 0=some 0:=by kernel_rfl
theorem zki:zdb Tryz.prog 38 1=some 1:=by kernel_rfl
theorem zea:zdb Tryz.prog 38 2=some 2:=by kernel_rfl
theorem zin:zdb Tryz.prog 38 3=some 3:=by kernel_rfl
theorem zkh:zdb Tryz.prog 38 4=some 4:=by kernel_rfl
theorem field43_0:zdb Tryz.prog 43 0=some 0:=by kernel_rfl
theorem zqr:zdb Tryz.prog 43 1=some 1:=by kernel_rfl
theorem field46_0:zdb Tryz.prog 46 0=some 0:=by kernel_rfl
theorem zuq:zdb Tryz.prog 46 1=some 1:=by kernel_rfl
theorem zup:zdb Tryz.prog 46 2=some 3:=by kernel_rfl
theorem field49_0:zdb Tryz.prog 49 0=some 0:=by kernel_rfl
theorem field49_2:zdb Tryz.prog 49 2=some 2:=by kernel_rfl
theorem field51_0:zdb Tryz.prog 51 0=some 0:=by kernel_rfl
theorem field51_1:zdb Tryz.prog 51 1=some 1:=by kernel_rfl
theorem field51_2:zdb Tryz.prog 51 2=some 2:=by kernel_rfl
theorem field51_3:zdb Tryz.prog 51 3=some 3:=by kernel_rfl
theorem field53_0:zdb Tryz.prog 53 0=some 0:=by kernel_rfl
theorem field53_1:zdb Tryz.prog 53 1=some 3:=by kernel_rfl
theorem zuo:zdb Tryz.prog 55 0=some 0:=by kernel_rfl
theorem field55_1:zdb Tryz.prog 55 1=some 1:=by kernel_rfl
theorem field55_2:zdb Tryz.prog 55 2=some 2:=by kernel_rfl
theorem field60_0:zdb Tryz.prog 60 0=some 0:=by kernel_rfl
theorem zim:zdb Tryz.prog 60 1=some 32:=by kernel_rfl
theorem zqq:zdb Tryz.prog 60 2=some 33:=by kernel_rfl
theorem zhc:zdb Tryz.prog 60 3=some 34:=by kernel_rfl
theorem field79_0:zdb Tryz.prog 79 0=some 0:=by kernel_rfl
theorem field79_1:zdb Tryz.prog 79 1=some 1:=by kernel_rfl
theorem zqp:zdb Tryz.prog 79 2=some 5:=by kernel_rfl
theorem field79_3:zdb Tryz.prog 79 3=some 6:=by kernel_rfl
theorem field79_4:zdb Tryz.prog 79 4=some 7:=by kernel_rfl
theorem field79_5:zdb Tryz.prog 79 5=some 8:=by kernel_rfl
theorem field84_0:zdb Tryz.prog 84 0=some 0:=by kernel_rfl
theorem field84_1:zdb Tryz.prog 84 1=some 1:=by kernel_rfl
theorem field84_2:zdb Tryz.prog 84 2=some 2:=by kernel_rfl
theorem znt:zdb Tryz.prog 84 3=some 3:=by kernel_rfl
theorem zun:zdb Tryz.prog 84 4=some 4:=by kernel_rfl
theorem mixed:Tryz.prog.follows .mixedOrders=true:=by kernel_rfl
theorem row101:zkq Tryz.prog 101 2=true:=by kernel_rfl
theorem row134:zkq Tryz.prog 134 37=true:=by kernel_rfl
theorem zvo:zkq Tryz.prog 138 3=true:=by kernel_rfl
theorem row169:zkq Tryz.prog 169 1=true:=by kernel_rfl
theorem row3:zkq Tryz.prog 3 1=true:=by kernel_rfl
theorem row32:zkq Tryz.prog 32 4=true:=by kernel_rfl
theorem row46:zkq Tryz.prog 46 4=true:=by kernel_rfl
theorem row47:zkq Tryz.prog 47 1=true:=by kernel_rfl
theorem row5:zkq Tryz.prog 5 1=true:=by kernel_rfl
theorem zss:zkq Tryz.prog 51 4=true:=by kernel_rfl
theorem row53:zkq Tryz.prog 53 7=true:=by kernel_rfl
theorem zvg:zkq Tryz.prog 55 3=true:=by kernel_rfl
theorem zwx:zkq Tryz.prog 58 32=true:=by kernel_rfl
theorem znh:zkq Tryz.prog 60 35=true:=by kernel_rfl
theorem zli:sz Tryz.prog 101=some 2:=by kernel_rfl
theorem size118:sz Tryz.prog 118=some 1:=by kernel_rfl
theorem size134:sz Tryz.prog 134=some 37:=by kernel_rfl
theorem zpf:sz Tryz.prog 138=some 3:=by kernel_rfl
theorem zca:sz Tryz.prog 169=some 1:=by kernel_rfl
theorem size170:sz Tryz.prog 170=some 64:=by kernel_rfl
theorem size172:sz Tryz.prog 172=some 8:=by kernel_rfl
theorem zre:sz Tryz.prog 3=some 1:=by kernel_rfl
theorem size32:sz Tryz.prog 32=some 4:=by kernel_rfl
theorem size33:sz Tryz.prog 33=some 1:=by kernel_rfl
theorem size34:sz Tryz.prog 34=some 1:=by kernel_rfl
theorem size35:sz Tryz.prog 35=some 1:=by kernel_rfl
theorem size36:sz Tryz.prog 36=some 1:=by kernel_rfl
theorem zgk:sz Tryz.prog 38=some 5:=by kernel_rfl
theorem size4:sz Tryz.prog 4=some 1:=by kernel_rfl
theorem size41:sz Tryz.prog 41=some 1:=by kernel_rfl
theorem zjk:sz Tryz.prog 43=some 2:=by kernel_rfl
theorem zml:sz Tryz.prog 44=some 1:=by kernel_rfl
theorem zpw:sz Tryz.prog 46=some 4:=by kernel_rfl
theorem ztp:sz Tryz.prog 47=some 1:=by kernel_rfl
theorem zlh:sz Tryz.prog 5=some 1:=by kernel_rfl
theorem zhu:sz Tryz.prog 51=some 4:=by kernel_rfl
theorem size53:sz Tryz.prog 53=some 7:=by kernel_rfl
theorem zto:sz Tryz.prog 55=some 3:=by kernel_rfl
theorem zfq:sz Tryz.prog 58=some 32:=by kernel_rfl
theorem zdv:sz Tryz.prog 60=some 35:=by kernel_rfl
theorem size77:sz Tryz.prog 77=some 1:=by kernel_rfl
theorem zoz:sz Tryz.prog 79=some 9:=by kernel_rfl
theorem ztn:sz Tryz.prog 84=some 5:=by kernel_rfl
theorem zero134:(zge Tryz.prog 134).map Val.cells=some [.i .i64 0,.i .u8 0,.i .u8 0,.i .u8 0,.i .u8 0,.i .u8 0,.i .u8 0,.i .u8 0,.i .u8 0,.i .u8 0,.i .u8 0,.i .u8 0,.i .u8 0,.i .u8 0,.i .u8 0,.i .u8 0,.i .u8 0,.i .u8 0,.i .u8 0,.i .u8 0,.i .u8 0,.i .u8 0,.i .u8 0,.i .u8 0,.i .u8 0,.i .u8 0,.i .u8 0,.i .u8 0,.i .u8 0,.i .u8 0,.i .u8 0,.i .u8 0,.i .u8 0,.i .i64 0,.i .i64 0,.i .i64 0,.i .i64 0]:=by kernel_rfl
theorem zero138:(zge Tryz.prog 138).map Val.cells=some [.s [],.i .i64 0,.sl none 0 (.k 0)]:=by kernel_rfl
theorem zwk:(zge Tryz.prog 170).map Val.cells=some [.i .u32 0,.i .u32 0,.i .u32 0,.i .u32 0,.i .u32 0,.i .u32 0,.i .u32 0,.i .u32 0,.i .u32 0,.i .u32 0,.i .u32 0,.i .u32 0,.i .u32 0,.i .u32 0,.i .u32 0,.i .u32 0,.i .u32 0,.i .u32 0,.i .u32 0,.i .u32 0,.i .u32 0,.i .u32 0,.i .u32 0,.i .u32 0,.i .u32 0,.i .u32 0,.i .u32 0,.i .u32 0,.i .u32 0,.i .u32 0,.i .u32 0,.i .u32 0,.i .u32 0,.i .u32 0,.i .u32 0,.i .u32 0,.i .u32 0,.i .u32 0,.i .u32 0,.i .u32 0,.i .u32 0,.i .u32 0,.i .u32 0,.i .u32 0,.i .u32 0,.i .u32 0,.i .u32 0,.i .u32 0,.i .u32 0,.i .u32 0,.i .u32 0,.i .u32 0,.i .u32 0,.i .u32 0,.i .u32 0,.i .u32 0,.i .u32 0,.i .u32 0,.i .u32 0,.i .u32 0,.i .u32 0,.i .u32 0,.i .u32 0,.i .u32 0]:=by kernel_rfl
theorem zwj:(zge Tryz.prog 172).map Val.cells=some [.i .u32 0,.i .u32 0,.i .u32 0,.i .u32 0,.i .u32 0,.i .u32 0,.i .u32 0,.i .u32 0]:=by kernel_rfl
theorem zero32:(zge Tryz.prog 32).map Val.cells=some [.i .i64 0,.i .i64 0,.i .i64 0,.i .i64 0]:=by kernel_rfl
theorem zero38:(zge Tryz.prog 38).map Val.cells=some [.i .i64 0,.sl none 0 (.k 0),.sl none 0 (.k 0),.sl none 0 (.k 0),.sl none 0 (.k 0)]:=by kernel_rfl
theorem zero43:(zge Tryz.prog 43).map Val.cells=some [.s [],.sl none 0 (.k 0)]:=by kernel_rfl
theorem zero46:(zge Tryz.prog 46).map Val.cells=some [.i .i64 0,.s [],.sl none 0 (.k 0),.sl none 0 (.k 0)]:=by kernel_rfl
theorem zero5:(zge Tryz.prog 5).map Val.cells=some [.i .u8 0]:=by kernel_rfl
theorem zero51:(zge Tryz.prog 51).map Val.cells=some [.i .i64 0,.i .i64 0,.i .i64 0,.i .i64 0]:=by kernel_rfl
theorem zero53:(zge Tryz.prog 53).map Val.cells=some [.i .i64 0,.i .i64 0,.sl none 0 (.k 0),.i .i64 0,.i .i64 0,.i .i64 0,.i .i64 0]:=by kernel_rfl
theorem zero55:(zge Tryz.prog 55).map Val.cells=some [.i .i64 0,.i .i64 0,.sl none 0 (.k 0)]:=by kernel_rfl
theorem zsc:(zge Tryz.prog 58).map Val.cells=some [.i .u8 0,.i .u8 0,.i .u8 0,.i .u8 0,.i .u8 0,.i .u8 0,.i .u8 0,.i .u8 0,.i .u8 0,.i .u8 0,.i .u8 0,.i .u8 0,.i .u8 0,.i .u8 0,.i .u8 0,.i .u8 0,.i .u8 0,.i .u8 0,.i .u8 0,.i .u8 0,.i .u8 0,.i .u8 0,.i .u8 0,.i .u8 0,.i .u8 0,.i .u8 0,.i .u8 0,.i .u8 0,.i .u8 0,.i .u8 0,.i .u8 0,.i .u8 0]:=by kernel_rfl
theorem ztk:(zge Tryz.prog 60).map Val.cells=some [.i .u8 0,.i .u8 0,.i .u8 0,.i .u8 0,.i .u8 0,.i .u8 0,.i .u8 0,.i .u8 0,.i .u8 0,.i .u8 0,.i .u8 0,.i .u8 0,.i .u8 0,.i .u8 0,.i .u8 0,.i .u8 0,.i .u8 0,.i .u8 0,.i .u8 0,.i .u8 0,.i .u8 0,.i .u8 0,.i .u8 0,.i .u8 0,.i .u8 0,.i .u8 0,.i .u8 0,.i .u8 0,.i .u8 0,.i .u8 0,.i .u8 0,.i .u8 0,.b false,.sl none 0 (.k 0),.sl none 0 (.k 0)]:=by kernel_rfl
theorem zero79:(zge Tryz.prog 79).map Val.cells=some [.i .i64 0,.i .i64 0,.s [],.sl none 0 (.k 0),.sl none 0 (.k 0),.sl none 0 (.k 0),.i .i64 0,.i .i64 0,.sl none 0 (.k 0)]:=by kernel_rfl
theorem zk118:zhs Tryz.prog 118=some false:=by kernel_rfl
theorem zk22:zhs Tryz.prog 22=some false:=by kernel_rfl
theorem zk33:zhs Tryz.prog 33=some false:=by kernel_rfl
theorem zk34:zhs Tryz.prog 34=some false:=by kernel_rfl
theorem zk35:zhs Tryz.prog 35=some false:=by kernel_rfl
theorem zk36:zhs Tryz.prog 36=some false:=by kernel_rfl
theorem zk41:zhs Tryz.prog 41=some false:=by kernel_rfl
theorem zk44:zhs Tryz.prog 44=some false:=by kernel_rfl
theorem zk47:zhs Tryz.prog 47=some false:=by kernel_rfl
theorem zk72:zhs Tryz.prog 72=some false:=by kernel_rfl
theorem zk77:zhs Tryz.prog 77=some false:=by kernel_rfl
theorem zk95:zhs Tryz.prog 95=some false:=by kernel_rfl
theorem blda170:buildA Tryz.prog 170=some (1,[.i .u32 0,.i .u32 0,.i .u32 0,.i .u32 0,.i .u32 0,.i .u32 0,.i .u32 0,.i .u32 0,.i .u32 0,.i .u32 0,.i .u32 0,.i .u32 0,.i .u32 0,.i .u32 0,.i .u32 0,.i .u32 0,.i .u32 0,.i .u32 0,.i .u32 0,.i .u32 0,.i .u32 0,.i .u32 0,.i .u32 0,.i .u32 0,.i .u32 0,.i .u32 0,.i .u32 0,.i .u32 0,.i .u32 0,.i .u32 0,.i .u32 0,.i .u32 0,.i .u32 0,.i .u32 0,.i .u32 0,.i .u32 0,.i .u32 0,.i .u32 0,.i .u32 0,.i .u32 0,.i .u32 0,.i .u32 0,.i .u32 0,.i .u32 0,.i .u32 0,.i .u32 0,.i .u32 0,.i .u32 0,.i .u32 0,.i .u32 0,.i .u32 0,.i .u32 0,.i .u32 0,.i .u32 0,.i .u32 0,.i .u32 0,.i .u32 0,.i .u32 0,.i .u32 0,.i .u32 0,.i .u32 0,.i .u32 0,.i .u32 0,.i .u32 0]):=by kernel_rfl
theorem zyb:buildA Tryz.prog 172=some (1,[.i .u32 0,.i .u32 0,.i .u32 0,.i .u32 0,.i .u32 0,.i .u32 0,.i .u32 0,.i .u32 0]):=by kernel_rfl
theorem eqt51:eqT Tryz.prog 51=some [.int .i64,.int .i64,.int .i64,.int .i64]:=by kernel_rfl
theorem eqt58:eqT Tryz.prog 58=some [.int .u8,.int .u8,.int .u8,.int .u8,.int .u8,.int .u8,.int .u8,.int .u8,.int .u8,.int .u8,.int .u8,.int .u8,.int .u8,.int .u8,.int .u8,.int .u8,.int .u8,.int .u8,.int .u8,.int .u8,.int .u8,.int .u8,.int .u8,.int .u8,.int .u8,.int .u8,.int .u8,.int .u8,.int .u8,.int .u8,.int .u8,.int .u8]:=by kernel_rfl
theorem zkt3:zhs Tryz.prog 3=some true:=by kernel_rfl
theorem zv4:zge Tryz.prog 4=some (.b false):=by kernel_rfl
end Go.Wk.Lf.Ty
end
section
namespace Go.Wk.Lf
open Go.V
instance : Agg Go.Proofs.Tryz.prog 134 true := ⟨Ty.agg134⟩
instance : Agg Go.Proofs.Tryz.prog 138 true := ⟨Ty.agg138⟩
instance : Agg Go.Proofs.Tryz.prog 170 true := ⟨Ty.agg170⟩
instance : Agg Go.Proofs.Tryz.prog 172 true := ⟨Ty.agg172⟩
instance : Agg Go.Proofs.Tryz.prog 32 true := ⟨Ty.agg32⟩
instance : Agg Go.Proofs.Tryz.prog 38 true := ⟨Ty.zjo⟩
instance : Agg Go.Proofs.Tryz.prog 43 true := ⟨Ty.zoy⟩
instance : Agg Go.Proofs.Tryz.prog 46 true := ⟨Ty.agg46⟩
instance : Agg Go.Proofs.Tryz.prog 51 true := ⟨Ty.ztb⟩
instance : Agg Go.Proofs.Tryz.prog 53 true := ⟨Ty.agg53⟩
instance : Agg Go.Proofs.Tryz.prog 55 true := ⟨Ty.agg55⟩
instance : Agg Go.Proofs.Tryz.prog 58 true := ⟨Ty.ziu⟩
instance : Agg Go.Proofs.Tryz.prog 60 true := ⟨Ty.agg60⟩
instance : Agg Go.Proofs.Tryz.prog 79 true := ⟨Ty.zvj⟩
instance : Agg Go.Proofs.Tryz.prog 84 true := ⟨Ty.agg84⟩
instance : Agg Go.Proofs.Tryz.prog 118 false := ⟨Ty.cell118⟩
instance : Agg Go.Proofs.Tryz.prog 169 false := ⟨Ty.zcr⟩
instance : Agg Go.Proofs.Tryz.prog 22 false := ⟨Ty.cell22⟩
instance : Agg Go.Proofs.Tryz.prog 3 false := ⟨Ty.zjg⟩
instance : Agg Go.Proofs.Tryz.prog 33 false := ⟨Ty.zqv⟩
instance : Agg Go.Proofs.Tryz.prog 34 false := ⟨Ty.zoe⟩
instance : Agg Go.Proofs.Tryz.prog 35 false := ⟨Ty.zft⟩
instance : Agg Go.Proofs.Tryz.prog 36 false := ⟨Ty.zkm⟩
instance : Agg Go.Proofs.Tryz.prog 4 false := ⟨Ty.zxy⟩
instance : Agg Go.Proofs.Tryz.prog 41 false := ⟨Ty.zwe⟩
instance : Agg Go.Proofs.Tryz.prog 44 false := ⟨Ty.zgj⟩
instance : Agg Go.Proofs.Tryz.prog 47 false := ⟨Ty.zsl⟩
instance : Agg Go.Proofs.Tryz.prog 5 false := ⟨Ty.zvi⟩
instance : Agg Go.Proofs.Tryz.prog 77 false := ⟨Ty.zwd⟩
instance : Agg Go.Proofs.Tryz.prog 82 false := ⟨Ty.cell82⟩
instance : Agg Go.Proofs.Tryz.prog 9 false := ⟨Ty.cell9⟩
instance : Fld Go.Proofs.Tryz.prog 101 0 0 := ⟨Ty.zke⟩
instance : Fld Go.Proofs.Tryz.prog 101 1 1 := ⟨Ty.zrs⟩
instance : Fld Go.Proofs.Tryz.prog 134 0 0 := ⟨Ty.field134_0⟩
instance : Fld Go.Proofs.Tryz.prog 134 1 1 := ⟨Ty.field134_1⟩
instance : Fld Go.Proofs.Tryz.prog 134 2 33 := ⟨Ty.zrr⟩
instance : Fld Go.Proofs.Tryz.prog 134 3 34 := ⟨Ty.field134_3⟩
instance : Fld Go.Proofs.Tryz.prog 134 4 35 := ⟨Ty.field134_4⟩
instance : Fld Go.Proofs.Tryz.prog 134 5 36 := ⟨Ty.field134_5⟩
instance : Fld Go.Proofs.Tryz.prog 138 0 0 := ⟨Ty.zrq⟩
instance : Fld Go.Proofs.Tryz.prog 138 1 1 := ⟨Ty.field138_1⟩
instance : Fld Go.Proofs.Tryz.prog 138 2 2 := ⟨Ty.zvy⟩
instance : Fld Go.Proofs.Tryz.prog 32 0 0 := ⟨Ty.field32_0⟩
instance : Fld Go.Proofs.Tryz.prog 32 1 1 := ⟨Ty.field32_1⟩
instance : Fld Go.Proofs.Tryz.prog 32 2 2 := ⟨Ty.zqs⟩
instance : Fld Go.Proofs.Tryz.prog 32 3 3 := ⟨Ty.field32_3⟩
instance : Fld Go.Proofs.Tryz.prog 38 0 0 := ⟨Ty.field38_0⟩
instance : Fld Go.Proofs.Tryz.prog 38 1 1 := ⟨Ty.zki⟩
instance : Fld Go.Proofs.Tryz.prog 38 2 2 := ⟨Ty.zea⟩
instance : Fld Go.Proofs.Tryz.prog 38 3 3 := ⟨Ty.zin⟩
instance : Fld Go.Proofs.Tryz.prog 38 4 4 := ⟨Ty.zkh⟩
instance : Fld Go.Proofs.Tryz.prog 43 0 0 := ⟨Ty.field43_0⟩
instance : Fld Go.Proofs.Tryz.prog 43 1 1 := ⟨Ty.zqr⟩
instance : Fld Go.Proofs.Tryz.prog 46 0 0 := ⟨Ty.field46_0⟩
instance : Fld Go.Proofs.Tryz.prog 46 1 1 := ⟨Ty.zuq⟩
instance : Fld Go.Proofs.Tryz.prog 46 2 3 := ⟨Ty.zup⟩
instance : Fld Go.Proofs.Tryz.prog 49 0 0 := ⟨Ty.field49_0⟩
instance : Fld Go.Proofs.Tryz.prog 49 2 2 := ⟨Ty.field49_2⟩
instance : Fld Go.Proofs.Tryz.prog 51 0 0 := ⟨Ty.field51_0⟩
instance : Fld Go.Proofs.Tryz.prog 51 1 1 := ⟨Ty.field51_1⟩
instance : Fld Go.Proofs.Tryz.prog 51 2 2 := ⟨Ty.field51_2⟩
instance : Fld Go.Proofs.Tryz.prog 51 3 3 := ⟨Ty.field51_3⟩
instance : Fld Go.Proofs.Tryz.prog 53 0 0 := ⟨Ty.field53_0⟩
instance : Fld Go.Proofs.Tryz.prog 53 1 3 := ⟨Ty.field53_1⟩
instance : Fld Go.Proofs.Tryz.prog 55 0 0 := ⟨Ty.zuo⟩
instance : Fld Go.Proofs.Tryz.prog 55 1 1 := ⟨Ty.field55_1⟩
instance : Fld Go.Proofs.Tryz.prog 55 2 2 := ⟨Ty.field55_2⟩
instance : Fld Go.Proofs.Tryz.prog 60 0 0 := ⟨Ty.field60_0⟩
instance : Fld Go.Proofs.Tryz.prog 60 1 32 := ⟨Ty.zim⟩
instance : Fld Go.Proofs.Tryz.prog 60 2 33 := ⟨Ty.zqq⟩
instance : Fld Go.Proofs.Tryz.prog 60 3 34 := ⟨Ty.zhc⟩
instance : Fld Go.Proofs.Tryz.prog 79 0 0 := ⟨Ty.field79_0⟩
instance : Fld Go.Proofs.Tryz.prog 79 1 1 := ⟨Ty.field79_1⟩
instance : Fld Go.Proofs.Tryz.prog 79 2 5 := ⟨Ty.zqp⟩
instance : Fld Go.Proofs.Tryz.prog 79 3 6 := ⟨Ty.field79_3⟩
instance : Fld Go.Proofs.Tryz.prog 79 4 7 := ⟨Ty.field79_4⟩
instance : Fld Go.Proofs.Tryz.prog 79 5 8 := ⟨Ty.field79_5⟩
instance : Fld Go.Proofs.Tryz.prog 84 0 0 := ⟨Ty.field84_0⟩
instance : Fld Go.Proofs.Tryz.prog 84 1 1 := ⟨Ty.field84_1⟩
instance : Fld Go.Proofs.Tryz.prog 84 2 2 := ⟨Ty.field84_2⟩
instance : Fld Go.Proofs.Tryz.prog 84 3 3 := ⟨Ty.znt⟩
instance : Fld Go.Proofs.Tryz.prog 84 4 4 := ⟨Ty.zun⟩
instance : Szt Go.Proofs.Tryz.prog 101 2 := ⟨Ty.zli⟩
instance : Szt Go.Proofs.Tryz.prog 118 1 := ⟨Ty.size118⟩
instance : Szt Go.Proofs.Tryz.prog 134 37 := ⟨Ty.size134⟩
instance : Szt Go.Proofs.Tryz.prog 138 3 := ⟨Ty.zpf⟩
instance : Szt Go.Proofs.Tryz.prog 169 1 := ⟨Ty.zca⟩
instance : Szt Go.Proofs.Tryz.prog 170 64 := ⟨Ty.size170⟩
instance : Szt Go.Proofs.Tryz.prog 172 8 := ⟨Ty.size172⟩
instance : Szt Go.Proofs.Tryz.prog 3 1 := ⟨Ty.zre⟩
instance : Szt Go.Proofs.Tryz.prog 32 4 := ⟨Ty.size32⟩
instance : Szt Go.Proofs.Tryz.prog 33 1 := ⟨Ty.size33⟩
instance : Szt Go.Proofs.Tryz.prog 34 1 := ⟨Ty.size34⟩
instance : Szt Go.Proofs.Tryz.prog 35 1 := ⟨Ty.size35⟩
instance : Szt Go.Proofs.Tryz.prog 36 1 := ⟨Ty.size36⟩
instance : Szt Go.Proofs.Tryz.prog 38 5 := ⟨Ty.zgk⟩
instance : Szt Go.Proofs.Tryz.prog 4 1 := ⟨Ty.size4⟩
instance : Szt Go.Proofs.Tryz.prog 41 1 := ⟨Ty.size41⟩
instance : Szt Go.Proofs.Tryz.prog 43 2 := ⟨Ty.zjk⟩
instance : Szt Go.Proofs.Tryz.prog 44 1 := ⟨Ty.zml⟩
instance : Szt Go.Proofs.Tryz.prog 46 4 := ⟨Ty.zpw⟩
instance : Szt Go.Proofs.Tryz.prog 47 1 := ⟨Ty.ztp⟩
instance : Szt Go.Proofs.Tryz.prog 5 1 := ⟨Ty.zlh⟩
instance : Szt Go.Proofs.Tryz.prog 51 4 := ⟨Ty.zhu⟩
instance : Szt Go.Proofs.Tryz.prog 53 7 := ⟨Ty.size53⟩
instance : Szt Go.Proofs.Tryz.prog 55 3 := ⟨Ty.zto⟩
instance : Szt Go.Proofs.Tryz.prog 58 32 := ⟨Ty.zfq⟩
instance : Szt Go.Proofs.Tryz.prog 60 35 := ⟨Ty.zdv⟩
instance : Szt Go.Proofs.Tryz.prog 77 1 := ⟨Ty.size77⟩
instance : Szt Go.Proofs.Tryz.prog 79 9 := ⟨Ty.zoz⟩
instance : Szt Go.Proofs.Tryz.prog 84 5 := ⟨Ty.ztn⟩
instance : Zro Go.Proofs.Tryz.prog 138 [.s [], .i .i64 0, .sl none 0 (.k 0)] := ⟨Ty.zero138⟩
instance : Zro Go.Proofs.Tryz.prog 32 [.i .i64 0, .i .i64 0, .i .i64 0, .i .i64 0] := ⟨Ty.zero32⟩
instance : Zro Go.Proofs.Tryz.prog 38 [.i .i64 0, .sl none 0 (.k 0), .sl none 0 (.k 0), .sl none 0 (.k 0), .sl none 0 (.k 0)] := ⟨Ty.zero38⟩
instance : Zro Go.Proofs.Tryz.prog 43 [.s [], .sl none 0 (.k 0)] := ⟨Ty.zero43⟩
instance : Zro Go.Proofs.Tryz.prog 46 [.i .i64 0, .s [], .sl none 0 (.k 0), .sl none 0 (.k 0)] := ⟨Ty.zero46⟩
instance : Zro Go.Proofs.Tryz.prog 5 [.i .u8 0] := ⟨Ty.zero5⟩
instance : Zro Go.Proofs.Tryz.prog 51 [.i .i64 0, .i .i64 0, .i .i64 0, .i .i64 0] := ⟨Ty.zero51⟩
instance : Zro Go.Proofs.Tryz.prog 53 [.i .i64 0, .i .i64 0, .sl none 0 (.k 0), .i .i64 0, .i .i64 0, .i .i64 0, .i .i64 0] := ⟨Ty.zero53⟩
instance : Zro Go.Proofs.Tryz.prog 55 [.i .i64 0, .i .i64 0, .sl none 0 (.k 0)] := ⟨Ty.zero55⟩
instance : Zro Go.Proofs.Tryz.prog 79 [.i .i64 0, .i .i64 0, .s [], .sl none 0 (.k 0), .sl none 0 (.k 0), .sl none 0 (.k 0), .i .i64 0, .i .i64 0, .sl none 0 (.k 0)] := ⟨Ty.zero79⟩
instance : Stt Go.Proofs.Tryz.prog 9 := ⟨Go.Proofs.Tryz.underlying9⟩
instance : Slc Go.Proofs.Tryz.prog 22 101 := ⟨Go.Proofs.Tryz.underlying22⟩
instance : Slc Go.Proofs.Tryz.prog 27 53 := ⟨Go.Proofs.Tryz.underlying27⟩
instance : Slc Go.Proofs.Tryz.prog 33 32 := ⟨Go.Proofs.Tryz.underlying33⟩
instance : Slc Go.Proofs.Tryz.prog 34 46 := ⟨Go.Proofs.Tryz.underlying34⟩
instance : Slc Go.Proofs.Tryz.prog 35 60 := ⟨Go.Proofs.Tryz.underlying35⟩
instance : Slc Go.Proofs.Tryz.prog 36 55 := ⟨Go.Proofs.Tryz.underlying36⟩
instance : Slc Go.Proofs.Tryz.prog 41 138 := ⟨Go.Proofs.Tryz.underlying41⟩
instance : Slc Go.Proofs.Tryz.prog 44 51 := ⟨Go.Proofs.Tryz.underlying44⟩
instance : Slc Go.Proofs.Tryz.prog 47 5 := ⟨Go.Proofs.Tryz.underlying47⟩
instance : Slc Go.Proofs.Tryz.prog 72 3 := ⟨Go.Proofs.Tryz.underlying72⟩
instance : Slc Go.Proofs.Tryz.prog 73 84 := ⟨Go.Proofs.Tryz.underlying73⟩
instance : Slc Go.Proofs.Tryz.prog 77 134 := ⟨Go.Proofs.Tryz.underlying77⟩
instance : Slc Go.Proofs.Tryz.prog 82 4 := ⟨Go.Proofs.Tryz.underlying82⟩
instance : Slc Go.Proofs.Tryz.prog 95 47 := ⟨Go.Proofs.Tryz.underlying95⟩
instance : Slc Go.Proofs.Tryz.prog 118 58 := ⟨Go.Proofs.Tryz.underlying118⟩
instance : Slc Go.Proofs.Tryz.prog 192 169 := ⟨Go.Proofs.Tryz.underlying192⟩
end Go.Wk.Lf
end
section
namespace Go.Wk.Lf
open Go.V
structure Loc where
  vol:Int
  file:Int
  off:Int
  len:Int
  deriving DecidableEq,Inhabited
def Loc.cells (x:Loc):List Val:=[.i .i64 x.vol,.i .i64 x.file,.i .i64 x.off,.i .i64 x.len]
def Loc.t:Tr Loc where
  size:=4
  rel F cs x:=cs=Loc.cells x
  pos:=by decide
  len:=by rintro F cs x rfl;simp [Loc.cells]
  one:=by rintro F cs x rfl;rfl
  mono:=by rintro F G cs x l rfl;exact rfl
structure File where
  path:List UInt8
  data:List UInt8
  deriving DecidableEq,Inhabited
def File.cells (x:File) (u0:Val):List Val:=[.s x.path,u0]
def File.t:Tr File where
  size:=2
  rel F cs x:=∃ u0,cs=File.cells x u0∧SlF tB F u0 (x.data)
  pos:=by decide
  len:=by rintro F cs x ⟨u0,rfl,h0⟩;simp [File.cells]
  one:=by rintro F cs x ⟨u0,rfl,h0⟩;simp only [File.cells,List.all_cons,List.all_nil,List.all_append,h0.one];rfl
  mono:=by rintro F G cs x l ⟨u0,rfl,h0⟩;exact ⟨u0,rfl,h0.mono l⟩
structure Cellarerlaw19Act where
  do_:Int
  n:Int
  vol:Int
  tree:List File
  pick:List Bool
  deriving DecidableEq,Inhabited
def Cellarerlaw19Act.cells (x:Cellarerlaw19Act) (u0 u1:Val):List Val:=[.i .i64 x.do_,.i .i64 x.n,.i .i64 x.vol,u0,u1]
def Cellarerlaw19Act.t:Tr Cellarerlaw19Act where
  size:=5
  rel F cs x:=∃ u0 u1,cs=Cellarerlaw19Act.cells x u0 u1∧SlF File.t F u0 (x.tree)∧SlF tBool F u1 (x.pick)
  pos:=by decide
  len:=by rintro F cs x ⟨u0,u1,rfl,h0,h1⟩;simp [Cellarerlaw19Act.cells]
  one:=by rintro F cs x ⟨u0,u1,rfl,h0,h1⟩;simp only [Cellarerlaw19Act.cells,List.all_cons,List.all_nil,List.all_append,h0.one,h1.one];rfl
  mono:=by rintro F G cs x l ⟨u0,u1,rfl,h0,h1⟩;exact ⟨u0,u1,rfl,h0.mono l,h1.mono l⟩
structure Part where
  path:List UInt8
  size:Int
  ids:List (List UInt8)
  deriving DecidableEq,Inhabited
def Part.cells (x:Part) (u0:Val):List Val:=[.s x.path,.i .i64 x.size,u0]
def Part.t:Tr Part where
  size:=3
  rel F cs x:=∃ u0,cs=Part.cells x u0∧SlF tId F u0 (x.ids)
  pos:=by decide
  len:=by rintro F cs x ⟨u0,rfl,h0⟩;simp [Part.cells]
  one:=by rintro F cs x ⟨u0,rfl,h0⟩;simp only [Part.cells,List.all_cons,List.all_nil,List.all_append,h0.one];rfl
  mono:=by rintro F G cs x l ⟨u0,rfl,h0⟩;exact ⟨u0,rfl,h0.mono l⟩
structure Manifest where
  name:List UInt8
  parts:List Part
  deriving DecidableEq,Inhabited
def Manifest.cells (x:Manifest) (u0:Val):List Val:=[.s x.name,u0]
structure Snap where
  seq:Int
  man:Manifest
  locs:List Loc
  deriving DecidableEq,Inhabited
def Snap.cells (x:Snap) (u0 u1:Val):List Val:=[.i .i64 x.seq,.s x.man.name,u0,u1]
def Snap.t:Tr Snap where
  size:=4
  rel F cs x:=∃ u0 u1,cs=Snap.cells x u0 u1∧SlF Part.t F u0 (x.man.parts)∧SlF Loc.t F u1 (x.locs)
  pos:=by decide
  len:=by rintro F cs x ⟨u0,u1,rfl,h0,h1⟩;simp [Snap.cells]
  one:=by rintro F cs x ⟨u0,u1,rfl,h0,h1⟩;simp only [Snap.cells,List.all_cons,List.all_nil,List.all_append,h0.one,h1.one];rfl
  mono:=by rintro F G cs x l ⟨u0,u1,rfl,h0,h1⟩;exact ⟨u0,u1,rfl,h0.mono l,h1.mono l⟩
structure Chunk where
  id:List UInt8
  staged:Bool
  data:List UInt8
  locs:List Loc
  deriving DecidableEq,Inhabited
def Chunk.cells (x:Chunk) (u0 u1:Val):List Val:=zam x.id++[.b x.staged,u0,u1]
def Chunk.t:Tr Chunk where
  size:=35
  rel F cs x:=∃ u0 u1,cs=Chunk.cells x u0 u1∧(x.id).length=32∧SlF tB F u0 (x.data)∧SlF Loc.t F u1 (x.locs)
  pos:=by decide
  len:=by rintro F cs x ⟨u0,u1,rfl,h0,h1,h2⟩;simp [Chunk.cells,zhb]
  one:=by rintro F cs x ⟨u0,u1,rfl,h0,h1,h2⟩;simp only [Chunk.cells,List.all_cons,List.all_nil,List.all_append,zjd,h1.one,h2.one];rfl
  mono:=by rintro F G cs x l ⟨u0,u1,rfl,h0,h1,h2⟩;exact ⟨u0,u1,rfl,h0,h1.mono l,h2.mono l⟩
structure Exp where
  seq:Int
  of:Int
  locs:List Loc
  deriving DecidableEq,Inhabited
def Exp.cells (x:Exp) (u0:Val):List Val:=[.i .i64 x.seq,.i .i64 x.of,u0]
def Exp.t:Tr Exp where
  size:=3
  rel F cs x:=∃ u0,cs=Exp.cells x u0∧SlF Loc.t F u0 (x.locs)
  pos:=by decide
  len:=by rintro F cs x ⟨u0,rfl,h0⟩;simp [Exp.cells]
  one:=by rintro F cs x ⟨u0,rfl,h0⟩;simp only [Exp.cells,List.all_cons,List.all_nil,List.all_append,h0.one];rfl
  mono:=by rintro F G cs x l ⟨u0,rfl,h0⟩;exact ⟨u0,rfl,h0.mono l⟩
structure Vol where
  pool:Int
  epoch:Int
  state:Int
  files:Int
  deriving DecidableEq,Inhabited
def Vol.cells (x:Vol):List Val:=[.i .i64 x.pool,.i .i64 x.epoch,.i .i64 x.state,.i .i64 x.files]
def Vol.t:Tr Vol where
  size:=4
  rel F cs x:=cs=Vol.cells x
  pos:=by decide
  len:=by rintro F cs x rfl;simp [Vol.cells]
  one:=by rintro F cs x rfl;rfl
  mono:=by rintro F G cs x l rfl;exact rfl
structure Catalog where
  seq:Int
  snaps:List Snap
  chunks:List Chunk
  exps:List Exp
  vols:List Vol
  deriving DecidableEq,Inhabited
def Catalog.cells (x:Catalog) (u0 u1 u2 u3:Val):List Val:=[.i .i64 x.seq,u0,u1,u2,u3]
structure Item where
  kind:Int
  id:List UInt8
  seq:Int
  of:Int
  off:Int
  len:Int
  deriving DecidableEq,Inhabited
def Item.cells (x:Item):List Val:=[.i .i64 x.kind]++zam x.id++[.i .i64 x.seq,.i .i64 x.of,.i .i64 x.off,.i .i64 x.len]
def Item.t:Tr Item where
  size:=37
  rel F cs x:=cs=Item.cells x∧(x.id).length=32
  pos:=by decide
  len:=by rintro F cs x ⟨rfl,h0⟩;simp [Item.cells,zhb]
  one:=by rintro F cs x ⟨rfl,h0⟩;simp only [Item.cells,List.all_cons,List.all_nil,List.all_append,zjd];rfl
  mono:=by rintro F G cs x l ⟨rfl,h0⟩;exact ⟨rfl,h0⟩
structure Change where
  kind:Int
  snap:Snap
  chunks:List Chunk
  seq:Int
  vol:Int
  items:List Item
  deriving DecidableEq,Inhabited
def Change.cells (x:Change) (u0 u1 u2 u3:Val):List Val:=[.i .i64 x.kind,.i .i64 x.snap.seq,.s x.snap.man.name,u0,u1,u2,.i .i64 x.seq,.i .i64 x.vol,u3]
structure Record where
  kind:Int
  seq:Int
  data:List UInt8
  deriving DecidableEq,Inhabited
def Record.cells (x:Record) (u0:Val):List Val:=[.i .i64 x.kind,.i .i64 x.seq,u0]
structure Found where
  rec_:Record
  loc:Loc
  deriving DecidableEq,Inhabited
def Found.cells (x:Found) (u0:Val):List Val:=[.i .i64 x.rec_.kind,.i .i64 x.rec_.seq,u0,.i .i64 x.loc.vol,.i .i64 x.loc.file,.i .i64 x.loc.off,.i .i64 x.loc.len]
def Found.t:Tr Found where
  size:=7
  rel F cs x:=∃ u0,cs=Found.cells x u0∧SlF tB F u0 (x.rec_.data)
  pos:=by decide
  len:=by rintro F cs x ⟨u0,rfl,h0⟩;simp [Found.cells]
  one:=by rintro F cs x ⟨u0,rfl,h0⟩;simp only [Found.cells,List.all_cons,List.all_nil,List.all_append,h0.one];rfl
  mono:=by rintro F G cs x l ⟨u0,rfl,h0⟩;exact ⟨u0,rfl,h0.mono l⟩
theorem Loc.eqc (a b:Loc):eqL a.cells b.cells=decide (a=b):=by
  obtain ⟨a0,a1,a2,a3⟩:=a
  obtain ⟨b0,b1,b2,b3⟩:=b
  rw [Bool.eq_iff_iff]
  simp [Loc.cells,eqL,eq1]
def Snap.o:To Snap where
  size:=4
  rel F h bs cs x:=∃ u0 u1,cs=Snap.cells x u0 u1∧SlF Part.t F u0 (x.man.parts)∧(To.row (.ofTr Loc.t)).rel F h bs [u1] x.locs
  len:=by rintro F h bs cs x ⟨u0,u1,rfl,h0,k⟩;simp [Snap.cells,zhb]
  one:=by rintro F h bs cs x ⟨u0,u1,rfl,h0,k⟩;simp only [Snap.cells,List.all_cons,List.all_nil,List.all_append,zjd,h0.one,(To.row_ln k).one];rfl
  lt:=by rintro F h bs cs x ⟨u0,u1,rfl,h0,k⟩;exact (To.row (.ofTr Loc.t)).lt k
  nodup:=by rintro F h bs cs x ⟨u0,u1,rfl,h0,k⟩;exact (To.row (.ofTr Loc.t)).nodup k
  mono:=by rintro F G h bs cs x l ⟨u0,u1,rfl,h0,k⟩;exact ⟨u0,u1,rfl,h0.mono l,(To.row (.ofTr Loc.t)).mono l k⟩
  frame:=by rintro F h h2 bs cs x ⟨u0,u1,rfl,h0,k⟩ hn hk;exact ⟨u0,u1,rfl,h0,(To.row (.ofTr Loc.t)).frame k hn hk⟩
theorem Snap.sees:Sees Snap.o Snap.t:=⟨rfl,by rintro F G h bs cs x ⟨u0,u1,rfl,h0,k⟩ l hg;exact ⟨u0,u1,rfl,h0.mono l,zlt k l hg⟩⟩
def Exp.o:To Exp where
  size:=3
  rel F h bs cs x:=∃ u0,cs=Exp.cells x u0∧(To.row (.ofTr Loc.t)).rel F h bs [u0] x.locs
  len:=by rintro F h bs cs x ⟨u0,rfl,k⟩;simp [Exp.cells,zhb]
  one:=by rintro F h bs cs x ⟨u0,rfl,k⟩;simp only [Exp.cells,List.all_cons,List.all_nil,List.all_append,zjd,(To.row_ln k).one];rfl
  lt:=by rintro F h bs cs x ⟨u0,rfl,k⟩;exact (To.row (.ofTr Loc.t)).lt k
  nodup:=by rintro F h bs cs x ⟨u0,rfl,k⟩;exact (To.row (.ofTr Loc.t)).nodup k
  mono:=by rintro F G h bs cs x l ⟨u0,rfl,k⟩;exact ⟨u0,rfl,(To.row (.ofTr Loc.t)).mono l k⟩
  frame:=by rintro F h h2 bs cs x ⟨u0,rfl,k⟩ hn hk;exact ⟨u0,rfl,(To.row (.ofTr Loc.t)).frame k hn hk⟩
theorem Exp.sees:Sees Exp.o Exp.t:=⟨rfl,by rintro F G h bs cs x ⟨u0,rfl,k⟩ l hg;exact ⟨u0,rfl,zlt k l hg⟩⟩
def Chunk.o:To Chunk where
  size:=35
  rel F h bs cs x:=∃ u0 u1,cs=Chunk.cells x u0 u1∧(x.id).length=32∧SlF tB F u0 (x.data)∧(To.row (.ofTr Loc.t)).rel F h bs [u1] x.locs
  len:=by rintro F h bs cs x ⟨u0,u1,rfl,h0,h1,k⟩;simp [Chunk.cells,zhb]
  one:=by rintro F h bs cs x ⟨u0,u1,rfl,h0,h1,k⟩;simp only [Chunk.cells,List.all_cons,List.all_nil,List.all_append,zjd,h1.one,(To.row_ln k).one];rfl
  lt:=by rintro F h bs cs x ⟨u0,u1,rfl,h0,h1,k⟩;exact (To.row (.ofTr Loc.t)).lt k
  nodup:=by rintro F h bs cs x ⟨u0,u1,rfl,h0,h1,k⟩;exact (To.row (.ofTr Loc.t)).nodup k
  mono:=by rintro F G h bs cs x l ⟨u0,u1,rfl,h0,h1,k⟩;exact ⟨u0,u1,rfl,h0,h1.mono l,(To.row (.ofTr Loc.t)).mono l k⟩
  frame:=by rintro F h h2 bs cs x ⟨u0,u1,rfl,h0,h1,k⟩ hn hk;exact ⟨u0,u1,rfl,h0,h1,(To.row (.ofTr Loc.t)).frame k hn hk⟩
theorem Chunk.sees:Sees Chunk.o Chunk.t:=⟨rfl,by rintro F G h bs cs x ⟨u0,u1,rfl,h0,h1,k⟩ l hg;exact ⟨u0,u1,rfl,h0,h1.mono l,zlt k l hg⟩⟩
theorem Chunk.foc:Foc Chunk.o Loc.t 34 Chunk.locs (fun x l=>Chunk.mk x.id x.staged x.data l):=⟨by decide,by rintro F h e cs x ⟨u0,u1,rfl,h0,h1,k⟩;exact ⟨u1,rfl,k⟩,by rintro F h e cs x F2 h2 e2 u' l2 ⟨u0,u1,rfl,h0,h1,k⟩ l k2;exact ⟨u0,u',rfl,h0,h1.mono l,k2⟩⟩
end Go.Wk.Lf
end
