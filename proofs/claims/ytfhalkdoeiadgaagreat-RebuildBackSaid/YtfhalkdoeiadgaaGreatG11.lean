/- What tree.Name tells, plainly. What manifest.Check tells, plainly; bytes of manifests. Lists: each once of what stands side by side. What manifest.Ids tells, plainly. Numbers read out of bytes; readers, plainly. What manifest.Read tells, plainly. What catalog.Check tells, plainly. Where something stands, or should, in a row that rises: slices.BinarySearchFunc, plainly. catalog.Check, plainly, whole. Catalogs compared, made anew; rows sorted: plainly. Manifests' bytes: of unlike ones unlike, none a beginning of another's. What rebuild.From tells where nothing of use was found; what is Part of a -/
import Derived.Test.YtfhalkdoeiadgaaGreatG10
set_option linter.unusedVariables false
set_option linter.unusedSimpArgs false
set_option linter.unusedSectionVars false
open BitVec renaming ofInt→pv, ofInt_natCast→Mx, toNat_ofNat→My
open Bool renaming and_eq_true→jK, and_false→zI, and_true→zJ, decide_and→EF, eq_iff_iff→GQ, false_and→tD, false_eq_true→sY, false_or→nG, not_eq_true→zK, not_eq_true'→tE, not_false→pF, not_not→B5, not_true→nH, or_eq_false_iff→GR, or_eq_true→rW, or_false→Rc, or_self→Jr, true_and→oP, true_or→zL
open Go.IntKind renaming i64→yE, u64→Dg
open Int renaming eq_ofNat_of_zero_le→RJ, le_refl→GY, le_trans→RK, lt_trans→GZ, toNat_natCast→ly, toNat_zero→RO
open List renaming all_eq_true→j9, any_eq_false→Dp, any_eq_true→RQ, append_assoc→pG, append_inj→MN, append_nil→rY, cons_append→G1, drop_drop→Dq, drop_eq_getElem_cons→Dr, drop_length→EW, drop_zero→ur, eq_nil_of_length_eq_zero→nK, exists_mem_of_ne_nil→EX, ext_getElem→JJ, filter_append→MP, filter_eq_self→MQ, flatMap_append→Ds, flatMap_cons→EY, flatten_cons→o7, foldl_append→MS, foldl_cons→EZ, getD_eq_getElem?_getD→pR, getElem?_append_right→nq, getElem?_eq_getElem→jx, getElem?_eq_none→zN, getElem?_eq_some_iff→kI, getElem?_set_ne→wI, getElem?_set_self→uv, getElem_drop→MT, getElem_mem→jF, getElem_of_mem→my, getElem_range→yG, getElem_set_ne→RV, getElem_set_self→JK, getElem_take→Dt, length_append→kU, length_cons→tG, length_drop→od, length_filter_le→E3, length_map→sH, length_nil→AU, length_pos_iff→G2, length_range→wJ, length_take→kX, map_append→vM, map_cons→qI, map_id→MU, mem_append→mF, mem_append_left→wK, mem_append_right→JL, mem_cons→lM, mem_cons_of_mem→mV, mem_cons_self→E5, mem_filter→wL, mem_flatMap→AX, mem_iff_getElem→rA, mem_map→qJ, mem_map_of_mem→Dv, mem_of_getElem?→pH, mem_of_mem_drop→sI, mem_of_mem_take→sJ, mem_or_eq_of_mem_set→G3, mem_singleton→o8, nil_append→wM, pairwise_append→zO, pairwise_cons→zP, pairwise_iff_getElem→xA, pairwise_map→E6, range→mI, replicate→iV, set_set→G5, take_append_drop→u7, take_append_of_le_length→JN, take_length→ow, take_of_length_le→xB, take_set_of_le→RY, take_take→E8
open List.Pairwise renaming filter→G0, nil→B9
open List.cons renaming injEq→EU
open Nat renaming add_zero→sZ, eq_zero_or_pos→JO, le_of_lt→uw, le_refl→jg, le_trans→nY, lt_irrefl→jr, lt_of_lt_of_le→sa, lt_or_ge→G7, min_eq_left→xG, mod_eq_of_lt→zQ, mod_lt→zR, pow_le_pow_right→R8, shiftLeft_add_eq_or_of_lt→R9, shiftLeft_eq→G9, zero_add→jn, zero_le→ju
open Option renaming getD_some→sd
open Option.some renaming inj→iK
open UInt32 renaming add_assoc→Hc, ofNat→kQ, toNat_ofNat'→Hd, toNat_shiftLeft→Sd
open UInt32.toNat renaming inj→Sc
open UInt8.toNat renaming inj→Se
section

end
section
namespace Go.Wk.Lf
open Go.V Go.Sort Go.Proofs
theorem Eh{S A:Type}{F:(S→Option A)→S→Option A}(mk:Nat→S)(n:Nat)(ok:Nat→Bool)(K B:Option A){x0:S}(hx:x0=mk 0)(hn:n<4611686018427387904)
  (nU:∀rec i,i<n→F rec (mk i)=if ok i=true then rec (mk (i+1))else B) (oB:∀rec,F rec (mk n)=K):loop F x0=if(∀i,i<n→ok i=true)then K else B:=by
 refine nV (σ:=Unit) (λi _=>mk i) n (λi _=>∀j,j<i→ok j=true) _ (i0:=0) (s0:=()) hx (ju _) (by intro j h;omega) hn ?_ ?_
 ·intro rec i _ hi hI jh;rw[nU rec i hi]
  by_cases h:ok i=true
  ·rw[if_pos h];exact jh () λj hj=>by
    rcases(by omega:j<i∨j=i)with h1|rfl
    ·exact hI j h1
    ·exact h
  ·rw[if_neg h,if_neg λnS=>h (nS i hi)]
 ·intro rec _ hI;rw[oB,if_pos hI]
theorem DB{α:Type}(l:List α)(p:α→Bool)(q:Nat→Bool)(h:∀i(hi:i<l.length),q i=p l[i]):(∀i,i<l.length→q i=true)↔l.all p=true:=by
 rw[j9];constructor
 ·intro h1 x hx;obtain⟨i,hi,rfl⟩:=my hx;rw[←h i hi];exact h1 i hi
 ·intro h1 i hi;rw[h i hi];exact h1 _ (jF hi)
def seen(b:UInt8):Bool:=decide (33≤b.toNat)&&decide (b.toNat≤126)
def oX(s:List UInt8):Bool:=(decide (1≤s.length)&&decide (s.length≤20))&&s.all seen
theorem VH(s:List UInt8):xw s=some (oX s):=by
 unfold xw oX
 by_cases h1:s.length<1∨20<s.length
 ·rw[if_pos (by simp only[rW,decide_eq_true_eq];omega)];have:(decide (1≤s.length)&&decide (s.length≤20))=false:=by
   simp only[Bool.and_eq_false_iff,decide_eq_false_iff_not];omega
  rw[this];rfl
 ·rw[if_neg (by simp only[rW,decide_eq_true_eq];omega)];have h2:(decide (1≤s.length)&&decide (s.length≤20))=true:=by
   simp only[jK,decide_eq_true_eq];omega
  rw[h2,oP];rw[Eh (x0:=(0:Int)) (λi=>(i:Int)) s.length (λi=>seen (s.getD i 0)) (some true) (some false) rfl (by omega) ?_ ?_]
  ·by_cases h:s.all seen=true
   ·rw[h,if_pos ((DB s seen _ λi hi=>by simp[hi]).2 h)]
   ·rw[zK]at h;rw[h,if_neg λh3=>by rw[(DB s seen _ λi hi=>by simp[hi]).1 h3]at h;cases h]
  ·intro rec i hi;simp only[xw.l2];rw[iZ (jl hi),iX hi,ij];simp only[hi,pR,jx,sd,seen]
   by_cases Ow:(s[i].toNat:Int)<33
   ·rw[me (by simp;omega),ij,if_pos (by simp[Ow])];rw[if_neg (by simp only[jK,decide_eq_true_eq];omega)]
   ·rw[jX (by simp;omega),ij]
    by_cases Ot:(126:Int)<(s[i].toNat:Int)
    ·rw[if_pos (by simp[Ot]),if_neg (by simp only[jK,decide_eq_true_eq];omega)]
    ·rw[if_neg (by simp only[rW,decide_eq_true_eq];omega),if_pos (by simp only[jK,decide_eq_true_eq];omega),ja (by omega)]
  ·intro rec;simp only[xw.l2,xw.k1];rw[iR (jk (jr _))]
theorem aad(l:List UInt8)(hl:l.length≤1073741824):Mb l=some l:=by
 unfold Mb;rw[ki (by simpa using hl),ij];rfl
end Go.Wk.Lf
end
section
namespace Go.Wk.Lf
open Go.V Go.Sort Go.Proofs
def tu(p:Part):Bool:=(((oX p.path&&decide (0≤p.size))&&decide (p.size≤200))&&decide (p.ids.length≤25))&&(decide (p.ids.length=0)==decide (p.size=0))
theorem afg(p:Part):Lv p=some (tu p):=by
 unfold Lv tu;rw[VH,ij];have h1:decide ((p.ids.length:Int)≤25)=decide (p.ids.length≤25):=by rw[decide_eq_decide];omega
 have h2:decide ((p.ids.length:Int)=0)=decide (p.ids.length=0):=by rw[decide_eq_decide];omega
 rw[h1,h2]
theorem Nk{α:Type}(R:α→α→Prop)(ht:∀{a b c},R a b→R b c→R a c)(l:List α):l.Pairwise R ↔ ∀i(h:i<l.length),0<i→R (l[i-1]'(by omega)) l[i]:=by
 constructor
 ·intro h i hi h0;exact xA.1 h (i-1) i (by omega) hi (by omega)
 ·intro h;rw[xA];intro i j hi hj th
  induction j with
  |zero=>omega
  |succ j ih =>
   have h1:=h (j+1) hj (by omega);rcases(by omega:i=j∨i<j)with rfl|h2
   ·exact h1
   ·exact ht (ih (by omega) h2) h1
def CX(l:List Part):Prop:=l.Pairwise λa b=>jt a.path b.path=true
instance(l : List Part) : Decidable (CX l) := by unfold CX; infer_instance
def mO(m:iF):Prop:=oX m.name=true∧m.parts.length≤6∧(m.parts.all tu)=true∧CX m.parts
instance(m : iF) : Decidable (mO m) := by unfold mO; infer_instance
theorem SH(l:List Part)(q:Part→Bool):(∀i,i<l.length→(q (l.getD i default)&&(!decide (0<i)||jt (l.getD (i-1) default).path (l.getD i default).path))=true)↔(l.all q=true∧CX l):=by
 constructor
 ·intro h;refine⟨?_,(Nk (λa b:Part=>jt a.path b.path=true) (λh1 h2=>xt h1 h2) l).2 λi hi h0=>?_⟩
  ·rw[j9];intro x hx;obtain⟨j,hj,rfl⟩:=my hx;have h1:=h j hj;simp only[pR,jx hj,sd,jK]at h1;exact h1.1
  ·have h1:=h i hi;have lY:i-1<l.length:=by omega
   simp only[pR,jx hi,jx lY,sd,jK,h0,decide_true,nH,nG]at h1;exact h1.2
 ·rintro⟨h1,h2⟩ i hi;rw[j9]at h1;have h3:=h1 _ (jF hi);simp only[pR,jx hi,sd,h3,oP]
  by_cases h0:0<i
  ·have lY:i-1<l.length:=by omega
   simp only[jx lY,sd,h0,decide_true,nH,nG];exact(Nk (λa b:Part=>jt a.path b.path=true) (λh1 h2=>xt h1 h2) l).1 h2 i hi h0
  ·simp[h0]
theorem Xb(l:List Part)(i:Nat)(hi:i<l.length)(hl:l.length<1000000000)(N:Bool){β:Type}(K:Part→Option β) :
  (bd (only ((!(!N))&&decide (0<(i:Int))) (ix l (wr ((i:Int)-1))) (Part.mk [] 0 [])) K)=if N=true∧0<i then K (l.getD (i-1) default)else K (Part.mk [] 0 []):=by
 cases N with
 |false=>rw[me (by simp),ij];simp
 | true =>
  by_cases h0:0<i
  ·have lY:i-1<l.length:=by omega
   rw[jX (by simp;omega),wB h0 (by omega),iX lY,ij,if_pos ⟨rfl,h0⟩];simp[pR,jx lY]
  ·rw[me (by simp;omega),ij,if_neg (by omega)]
theorem VF(m:iF):xl m=some (if mO m then 0 else 1):=by
 unfold xl;rw[VH,ij]
 by_cases h0:oX m.name=true∧m.parts.length≤6
 ·obtain⟨hn,h6⟩:=h0;rw[if_neg (by simp only[hn];simp;omega)];rw[Eh (x0:=(0:Int)) (λi=>(i:Int)) m.parts.length (λi=>tu (m.parts.getD i default)&&(!decide (0<i)||jt (m.parts.getD (i-1) default).path (m.parts.getD i default).path)) (some 0) (some 1) rfl (by omega) ?_ ?_]
  ·have CF:=SH m.parts tu
   by_cases h:m.parts.all tu=true∧CX m.parts
   ·rw[if_pos (CF.2 h),if_pos (show mO m from⟨hn,h6,h.1,h.2⟩)]
   ·rw[if_neg λh2=>h (CF.1 h2),if_neg λh2:mO m=>h ⟨h2.2.2.1,h2.2.2.2⟩]
  ·intro rec i hi;simp only[xl.l2];rw[iZ (jl hi),iX hi,ij,afg,ij,Xb m.parts i hi (by omega)];simp only[pR,jx hi,sd];cases hN:tu m.parts[i]with
   |false=>simp
   | true =>
    by_cases h0:0<i
    ·have lY:i-1<m.parts.length:=by omega
     have kP:(0:Int)<(i:Int):=by omega
     simp only[h0,kP,and_self,if_true,jx lY,sd,decide_true,nH,nG,oP,ja (show i<4611686018427387904 by omega)];have hg:=On m.parts[i].path m.parts[i-1].path;cases hc:(jt m.parts[i].path m.parts[i-1].path||m.parts[i].path==m.parts[i-1].path)with
     |true=>rw[hc]at hg;rw[←hg];rfl
     |false=>rw[hc]at hg;rw[←hg];rfl
    ·have kP:¬(0:Int)<(i:Int):=by omega
     simp[h0,kP,ja (show i<4611686018427387904 by omega)]
  ·intro rec;simp only[xl.l2,xl.k1];rw[iR (jk (jr _))]
 ·rw[if_pos (by
   simp only[rW,decide_eq_true_eq,tE];cases hn:oX m.name with
   |false=>exact .inl rfl
   |true =>
    rcases G7 6 m.parts.length with h6|h6
    ·right;omega
    ·exact absurd ⟨hn,h6⟩ h0),if_neg λh:mO m=>h0 ⟨h.1,h.2.1⟩]
def rG(n:Int):List UInt8:=[jC (n/256),jC n]
def qY(p:Part):List UInt8:=([jC (p.path.length:Int)]++p.path++rG p.size++[jC (p.ids.length:Int)])++p.ids.flatten
def vE(m:iF):List UInt8:=([jC (m.name.length:Int)]++m.name++[jC (m.parts.length:Int)])++m.parts.flatMap qY
def xr(m:iF):Prop:=∀p∈m.parts,∀x∈p.ids,x.length=32
theorem Og:∀(l:List (List UInt8)),(∀x∈l,x.length=32)→l.flatten.length=32*l.length
 |[],_=>rfl
 |x::l,h=>by
  have h1:=h x (by simp);have h2:=Og l λy hy=>h y (by simp[hy]);simp only[o7,kU,tG,h1,h2];omega
theorem BP{s:List UInt8}(h:oX s=true):1≤s.length∧s.length≤20:=by
 simp only[oX,jK,decide_eq_true_eq]at h;exact h.1
theorem IN{p:Part}(h:tu p=true):oX p.path=true∧0≤p.size∧p.size≤200∧p.ids.length≤25∧(p.ids.length=0↔p.size=0):=by
 simp only[tu,jK,decide_eq_true_eq]at h;obtain⟨⟨⟨⟨h1,h2⟩,h3⟩,h4⟩,h5⟩:=h;refine⟨h1,h2,h3,h4,?_⟩;rw[beq_iff_eq,decide_eq_decide]at h5;exact h5
theorem VU{p:Part}(h:∀x∈p.ids,x.length=32):(qY p).length=4+p.path.length+32*p.ids.length:=by
 simp only[qY,rG,kU,tG,AU,Og p.ids h];omega
theorem VV:∀(l:List Part),(∀p∈l,∀x∈p.ids,x.length=32)→(∀p∈l,p.path.length≤20∧p.ids.length≤25)→(l.flatMap qY).length≤824*l.length
 |[],_,_=>by simp
 |p::l,h,h2=>by
  have h3:=VV l (λq hq=>h q (by simp[hq])) λq hq=>h2 q (by simp[hq]);have h4:=VU (h p (by simp));have h5:=h2 p (by simp);simp only[EY,kU,tG,h4];omega
theorem Ej{m:iF}(h:mO m):∀p∈m.parts,tu p=true:=by
 have:=h.2.2.1;rwa[j9]at this
theorem PF{m:iF}(h:mO m)(hk:xr m):(vE m).length≤5000:=by
 have h1:=VV m.parts hk λp hp=>by
  have h2:=IN (Ej h p hp);have h3:=BP h2.1;exact⟨h3.2,h2.2.2.2.1⟩
 have h2:=BP h.1;have h3:=h.2.1;simp only[vE,kU,tG,AU];omega
end Go.Wk.Lf
end
section
namespace Go.Wk
section
variable{α:Type}[DecidableEq α]
def Bj(acc:List α)(y:α):List α:=if acc.getLast?=some y then acc else acc++[y]
def py(l:List α):List α:=l.foldl Bj []
theorem FF(l:List α)(y:α):py (l++[y])=Bj (py l) y:=by simp[py]
theorem GG{β:Type}{p:List β→Prop}(h0:p [])(h1:∀l y,p l→p (l++[y])):∀l,p l:=by
 intro l;have:∀r:List β,p r.reverse:=by
  intro r
  induction r with
  |nil=>exact h0
  |cons x r ih=>rw[List.reverse_cons];exact h1 _ _ ih
 have:=this l.reverse
 rwa[List.reverse_reverse]at this
theorem aea(acc:List α)(y:α):(Bj acc y).getLast?=some y:=by
 unfold Bj
 split
 ·assumption
 ·simp
theorem Lm(l:List α):(py l).getLast?=l.getLast?:=by
 refine GG (p:=λl=>(py l).getLast?=l.getLast?) rfl (λl y _=>?_) l;rw[FF,aea];simp
theorem QV{β:Type}{l:List β}{j:Nat}{e:β}(h:l[j]? =some e):l.take (j+1)=l.take j++[e]:=by
 obtain⟨h1,h2⟩:=kI.1 h;rw[List.take_succ_eq_append_getElem h1,h2]
theorem aeb{β:Type}{l:List β}{j:Nat}{e:β}(h:l[j]? =some e):(l.take (j+1)).getLast?=some e:=by
 rw[QV h];simp
theorem Kv(l:List α)(h:l.length<2):py l=l:=by
 match l,h with
 |[],_=>rfl
 |[x],_=>rfl
theorem NS(l:List α):(py l).length≤l.length:=by
 refine GG (p:=λl=>(py l).length≤l.length) (jg _) (λl y ih=>?_) l;rw[FF];unfold Bj
 split
 ·simp;omega
 ·simp;omega
theorem Kw{l:List α}{j:Nat}{a b:α}(ha:l[j]? =some a)(hb:l[j+1]? =some b):py (l.take (j+2))=if a=b then py (l.take (j+1))else py (l.take (j+1))++[b]:=by
 rw[show j+2=(j+1)+1 from rfl,QV hb,FF];unfold Bj;rw[Lm,aeb ha]
 by_cases h:a=b
 ·rw[if_pos (by rw[h]),if_pos h]
 ·rw[if_neg (by simpa using h),if_neg h]
theorem Xa{β:Type}{l:List β}{i:Nat}(e:β)(h:i<l.length):(l.set i e).take (i+1)=l.take i++[e]:=by
 have h1:(l.set i e)[i]? =some e:=by simp[h]
 rw[QV h1]
 congr 1
 rw[RY (jg _)]
end
end Go.Wk
end
section
namespace Go.Wk.Lf
open Go.V Go.Sort Go.Proofs
theorem PZ{α:Type}{l:List α}(h:l≠[]):nz l=some ():=by
 cases l with
 |nil=>exact absurd rfl h
 |cons a r=>rfl
theorem W1{α:Type}{cf:α→α→Int}{l:List α}(h:l.length≤1073741824):C5 cf l=some (xk cf l):=if_pos h
theorem Li{α:Type}{l:List α}{a n k:Nat}(hk:k<n)(h:a+k<l.length):BI l a n (k:Int)=some l[a+k]:=by
 show(if k<n then l[a+k]? else none)=_;rw[if_pos hk];exact jx h
theorem aaj(xs:List (List UInt8))(hl:xs.length≤1073741824):oY xs=some (py xs):=by
 unfold oY
 by_cases h2:xs.length<2
 ·rw[iZ (decide_eq_true (by omega)),Kv _ h2]
 ·rw[iR (decide_eq_false (by omega))];refine nV (S:=Int) (σ:=Unit) (λi _=>(i:Int)) xs.length (λi _=>1≤i∧py (xs.take i)=xs.take i) _ (i0:=1) (s0:=()) rfl (by omega) ⟨by omega,Kv _ (by simp;omega)⟩ (by omega) ?_ ?_
  ·intro rec i _ hi hI jh;obtain⟨h1,hc⟩:=hI;simp only[oY.l2,oY.k3];rw[iZ (jl hi),iX hi,ij,wB (by omega) (by omega),iX (show i-1<xs.length by omega),ij];have jm:=Kw (l:=xs) (j:=i-1) (a:=xs[i-1]) (b:=xs[i]) (jx (by omega)) (by rw[show i-1+1=i by omega];exact jx hi);rw[show i-1+2=i+1 by omega,show i-1+1=i by omega,hc]at jm
   by_cases he:xs[i]=xs[i-1]
   ·rw[iZ (decide_eq_true he),pM (by omega) (by omega) (by omega),ij];rw[if_pos he.symm]at jm;refine nV (S:=Int×Int×List (List UInt8)) (σ:=Nat×List (List UInt8)) (λk s=>((s.1:Int),(k:Int),s.2)) (xs.length-i) (λk s=>s.2.length=xs.length∧1≤k∧1≤s.1∧s.1≤i+k-1∧s.2.take s.1=py (xs.take (i+k)) ∧ ∀q,i+k-1≤q→s.2[q]? =xs[q]?) _ (i0:=1) (s0:=(i,xs)) rfl (by omega) ⟨rfl,by omega,by omega,by simp,jm.symm,λq _=>rfl⟩ (by omega) ?_ ?_
    ·rintro n9 k ⟨w,cs⟩ hk ⟨e1,e2,e3,e4,e5,e6⟩ nC;simp only at e1 e3 e4 e5 e6;simp only[oY.l5,oY.k6,ly];have HY:i+k<cs.length:=by omega
     have xc:cs[i+k]=xs[i+k]:=by have:=e6 (i+k) (by omega);rw[jx HY,jx (by omega)]at this;exact iK this
     have pg:cs[i+(k-1)]=xs[i+(k-1)]:=by have:=e6 (i+(k-1)) (by omega);rw[jx (by omega),jx (by omega)]at this;exact iK this
     have qS:=Kw (l:=xs) (j:=i+(k-1)) (a:=xs[i+(k-1)]) (b:=xs[i+k]) (jx (by omega)) (by rw[show i+(k-1)+1=i+k by omega];exact jx (by omega));rw[show i+(k-1)+2=i+(k+1) by omega,show i+(k-1)+1=i+k by omega,←e5]at qS;rw[iZ (jl hk),Li hk HY,ij,wB (by omega) (by omega),Li (show k-1<xs.length-i by omega) (by omega),ij,xc,pg]
     by_cases jw:xs[i+k]=xs[i+(k-1)]
     ·rw[iR (by simp[jw]),ja (by omega)];rw[if_pos jw.symm]at qS;exact nC (w,cs) ⟨e1,by omega,e3,by simp only;omega,qS.symm,λq hq=>e6 q (by omega)⟩
     ·rw[iZ (by simp[jw]),ij,iX (show w<cs.length by omega),ij,ja (by omega),ja (by omega)];rw[if_neg (λh=>jw h.symm)]at qS;refine nC (w+1,cs.set w xs[i+k]) ⟨by simp[e1],by omega,by simp,by simp only;omega,?_,λq hq=>?_⟩
      ·simp only;rw[Xa _ (by omega),qS]
      ·simp only;rw[wI (by omega)];exact e6 q (by omega)
    ·rintro n9 ⟨w,cs⟩ ⟨e1,e2,e3,e4,e5,e6⟩;simp only at e1 e3 e4 e5 e6;simp only[oY.l5,oY.k4,ly];rw[iR (jk (jr _)),pM (by omega) (by omega) (by omega),ij];rw[show yc cs w (cs.length-w) (iV 32 0)=some (cs.take w++iV (cs.length-w) (iV 32 0))from if_pos (by omega),ij];rw[pM (by omega) (by omega) (by simp;omega),ij];simp only[ly,RO,ur];rw[PZ (by simp only[ne_eq,List.append_eq_nil_iff,not_and];intro q;have q2:=congrArg List.length q;rw[kX,AU]at q2;omega),ij,JN (by simp;omega),E8,Nat.min_self,e5,show i+(xs.length-i)=xs.length by omega,ow]
   ·rw[iR (decide_eq_false he),ja (by omega)];rw[if_neg (λh=>he h.symm)]at jm;exact jh () ⟨by omega,by rw[jm,ou hi]⟩
  ·intro rec _ hI;simp only[oY.l2,oY.k1];rw[iR (jk (jr _))];have:=hI.2;rw[ow]at this;rw[this]
theorem Gk{α:Type}[DecidableEq α](l:List α)(x:α):x∈py l↔x∈l:=by
 refine GG (p:=λl=>x∈py l↔x∈l) (by simp[py]) (λl y ih=>?_) l;rw[FF];unfold Bj
 split
 ·rename_i h;rw[Lm]at h;rw[ih];simp only[mF,o8];constructor
  ·exact .inl
  ·rintro(h'|rfl)
   ·exact h'
   ·exact List.mem_of_getLast? h
 ·simp only[mF,o8,ih]
def ve(l:List (List UInt8)):Prop:=l.Pairwise λa b=>jt a b=true
theorem Wj:∀(a b:List (List UInt8)),ve a→ve b→(∀x,x∈a↔x∈b)→a=b
 |[],[],_,_,_=>rfl
 |[],y::b,_,_,h=>by have:=(h y).2 (by simp);simp at this
 |x::a,[],_,_,h=>by have:=(h x).1 (by simp);simp at this
 | x::a,y::b,ha,hb,h=>by
  obtain⟨Uq,ha2⟩:=zP.1 ha;obtain⟨rk,rN⟩:=zP.1 hb;have Ea:x=y:=by
   rcases lM.1 ((h x).1 (by simp))with e|e
   ·exact e
   ·rcases lM.1 ((h y).2 (by simp))with e'|e'
    ·exact e'.symm
    ·have h1:=Uq y e';have h2:=rk x e;rw[Wv h1]at h2;cases h2
  subst Ea;rw[Wj a b ha2 rN λz=>?_];constructor
  ·intro hz;rcases lM.1 ((h z).1 (by simp[hz]))with e|e
   ·subst e;have:=Uq z hz;rw[AI]at this;cases this
   ·exact e
  ·intro hz;rcases lM.1 ((h z).2 (by simp[hz]))with e|e
   ·subst e;have:=rk z hz;rw[AI]at this;cases this
   ·exact e
theorem afY{l:List (List UInt8)}(h:xJ oR l):l.Pairwise λa b=>jt b a=false:=by
 refine h.imp λ{a b} h1=>?_;have:=FC b a;unfold ltOf at this;rw[←this];simpa using h1
theorem aam(l:List (List UInt8))(h:l.Pairwise λa b=>jt b a=false):ve (py l):=by
 revert h
 refine GG (p:=λl=>(l.Pairwise λa b=>jt b a=false)→ve (py l)) (λ_=>by simp[py,ve]) (λl y ih h=>?_) l;rw[zO]at h;have h1:=ih h.1;rw[FF];unfold Bj
 split
 ·exact h1
 ·rename_i hl;rw[Lm]at hl;refine zO.2 ⟨h1,by simp,λa ha b hb=>?_⟩;simp at hb;subst hb;have Cx:=(Gk l a).1 ha;have h2:=h.2.2 a Cx b (by simp);cases h3:jt a b with
  |true=>rfl
  | false =>
   exfalso
   have e:a=b:=C0 h3 h2;subst e;obtain⟨s,t,jm⟩:=List.append_of_mem Cx;cases t with
   |nil=>rw[jm]at hl;simp at hl
   | cons z t =>
    have hz:∃w,l.getLast?=some w∧w∈z::t:=by
     rw[jm];refine⟨(z::t).getLast (by simp),?_,List.getLast_mem _⟩;rw[List.getLast?_append,List.getLast?_cons_cons,List.getLast?_eq_some_getLast (by simp:z::t≠[])];rfl
    obtain⟨w,hw,pq⟩:=hz;have h4:jt w a=false:=by
     have h5:=h.1;rw[jm,zO]at h5;exact(zP.1 h5.2.1).1 w pq
    have h6:=h.2.2 w (by rw[jm];simp[pq]) a (by simp);have e2:w=a:=C0 h4 h6;rw[e2]at hw;exact hl hw
def lU(m:iF):List (List UInt8):=m.parts.flatMap Part.ids
def oo(l:List (List UInt8)):List (List UInt8):=py (xk oR l)
theorem Pm(l:List (List UInt8))(x:List UInt8):x∈oo l↔x∈l:=by
 unfold oo;rw[Gk];exact(Gg oR l).mem_iff
theorem adn(l:List (List UInt8)):ve (oo l):=aam _ (afY (Pr TH l))
theorem Pk(l:List (List UInt8)):(oo l).length≤l.length:=by
 unfold oo;have h1:=NS (xk oR l);rw[(Gg oR l).length_eq]at h1;exact h1
theorem TD(l:List (List UInt8))(hl:l.length≤1073741824):Jg l=some l:=by
 unfold Jg;rw[ki (by simpa using hl),ij,wM]
theorem T9(l:List Part)(i:Nat):((l.take i).flatMap Part.ids).length≤(l.flatMap Part.ids).length:=by
 conv=>rhs;rw[←u7 i l,Ds,kU]
 omega
theorem aez(m:iF)(hp:m.parts.length≤1073741824)(hl:(lU m).length≤1073741824):yl m=some (oo (lU m)):=by
 unfold yl;refine nV (S:=List (List UInt8)×Int) (σ:=List (List UInt8)) (λi l=>(l,(i:Int))) m.parts.length (λi l=>l=(m.parts.take i).flatMap Part.ids) _ (i0:=0) (s0:=[]) rfl (ju _) rfl (by omega) ?_ ?_
 ·intro rec i l hi hI jh;simp only[yl.l2];have h1:=T9 m.parts (i+1);rw[ou hi,Ds,←hI]at h1;simp only[EY,List.flatMap_nil,rY,kU]at h1;unfold lU at hl;rw[iZ (jl hi),iX hi,ij,ki (by omega),ij,ja (by omega)];refine jh _ ?_;rw[ou hi,Ds,hI];simp
 ·intro rec l hI;simp only[yl.l2,yl.k1];rw[iR (jk (jr _))];rw[ow]at hI;have HP:l=lU m:=hI;subst HP;have K2:=adF oR (lU m);have h2:=NS (xk oR (lU m));rw[W1 hl,ij,aaj _ (by omega),ij,TD _ (by omega),ij];rfl
end Go.Wk.Lf
end
section
namespace Go.Wk.Lf
open Go.V Go.Sort Go.Proofs
def mG(l:List UInt8):Nat:=l.foldl (λn c=>n*256+c.toNat) 0
theorem ae7(a b:Nat)(ha:a<4611686018427387904)(hb:b<4611686018427387904):bits .or .i64 (a:Int) (b:Int)=((a ||| b:Nat):Int):=by
 have hx:a ||| b<2^62:=Nat.or_lt_two_pow (by omega) (by omega);have h1:(pv 64 (a:Int)).toNat=a:=by
  rw[Mx,My];exact zQ (by omega)
 have h2:(pv 64 (b:Int)).toNat=b:=by
  rw[Mx,My];exact zQ (by omega)
 show yE.wrap ((pv 64 (a:Int) ||| pv 64 (b:Int)).toNat:Int)=_;rw[BitVec.toNat_or,h1,h2];exact ll (by omega) (by omega)
theorem ae9(n:Nat)(c:UInt8)(hn:n<18014398509481984):bits .or .i64 (wr ((n:Int)*2^(8:Int).toNat)) (c.toNat:Int)=((n*256+c.toNat:Nat):Int):=by
 have hc:=c.toNat_lt;have e:wr ((n:Int)*2^(8:Int).toNat)=((n*256:Nat):Int):=by
  rw[show(8:Int).toNat=8 from rfl];rw[ll (by omega) (by omega)];omega
 rw[e,ae7 _ _ (by omega) (by omega)];have:=R9 (i:=8) (b:=c.toNat) (by omega) n;rw[G9]at this;rw[show n*256=n*2^8 from rfl,this]
theorem J7:∀(l:List UInt8),mG l<256^l.length:=by
 intro l;refine GG (p:=λl=>mG l<256^l.length) (by simp[mG]) (λl c ih=>?_) l;have hc:=c.toNat_lt;simp only[mG,MS,EZ,List.foldl_nil,kU,tG,AU,Nat.pow_succ]at ih ⊢;omega
theorem Nw(l:List UInt8)(c:UInt8):mG (l++[c])=mG l*256+c.toNat:=by simp[mG]
theorem aeV{A:Type}{F:(Int×Int→Option A)→Int×Int→Option A}{l:List UInt8}{K:Int→Option A}(mk:Int→Int→Int×Int)(hl:l.length≤7)
  (hs:∀rec i(h:i<l.length)(n:Int),F rec (mk n i)=rec (mk (bits .or .i64 (wr (n*2^(8:Int).toNat)) (l[i].toNat:Int)) (wr ((i:Int)+1)))) (he:∀rec n,F rec (mk n l.length)=K n):loop F (mk 0 0)=K (mG l:Int):=by
 refine nV (S:=Int×Int) (σ:=Unit) (λi _=>mk ((mG (l.take i):Nat):Int) (i:Int)) l.length (λ_ _=>True) _ (i0:=0) (s0:=()) (by simp[mG]) (ju _) trivial (by omega) ?_ ?_
 ·intro rec i _ hi _ jh;have jB:mG (l.take i)<256^6:=sa (J7 _) (R8 (by decide) (by simp;omega));rw[hs rec i hi,ae9 _ _ (by omega),ja (by omega)];have:=jh () trivial;rw[ou hi,Nw]at this;exact this
 ·intro rec _ _;rw[he,ow]
theorem get_eq(b:List UInt8)(at_ k:Nat)(h1:1≤k)(h7:k≤7)(hb:b.length≤1073741824)(hk:at_+k≤b.length):vU b (at_:Int) (k:Int)=some ((mG ((b.take (at_+k)).drop at_):Int),((at_+k:Nat):Int),0):=by
 unfold vU;rw[if_neg (by simp only[rW,decide_eq_true_eq];omega),ll (x:=(b.length:Int)-at_) (by omega) (by omega),if_neg (by simp only[decide_eq_true_eq];omega),ll (x:=(at_:Int)+k) (by omega) (by omega),pM (by omega) (by omega) (by omega),ij];rw[show((at_:Int)+(k:Int)).toNat=at_+k by omega,ly];have hlen:((b.take (at_+k)).drop at_).length=k:=by simp;omega
 generalize(b.take (at_+k)).drop at_=l at hlen ⊢;refine aeV (l:=l) (K:=λn=>some (n,((at_+k:Nat):Int),0)) (λn i=>(n,i)) (by omega) (λrec i hi n=>?_) (λrec n=>?_)
 ·simp only[vU.l2];rw[iZ (jl hi),iX hi,ij]
 ·simp only[vU.l2,vU.k1];rw[iR (jk (jr _)),ll (by omega) (by omega)];rfl
theorem Jj{n:Nat}(h:n<256):(jC (n:Int)).toNat=n:=by
 unfold jC;simp;omega
theorem Xf(c:UInt8):jC (c.toNat:Int)=c:=by
 have:=c.toNat_lt;apply Se;rw[Jj (by omega)]
theorem Y0(c:UInt8):mG [c]=c.toNat:=by simp[mG]
theorem S3(a b:UInt8):mG [a,b]=a.toNat*256+b.toNat:=by simp[mG]
theorem YY(a b:UInt8):rG ((mG [a,b]:Nat):Int)=[a,b]:=by
 have ha:=a.toNat_lt;have hb:=b.toNat_lt;rw[S3];unfold rG;have e1:((a.toNat*256+b.toNat:Nat):Int)/256=((a.toNat:Nat):Int):=by omega
 rw[e1,Xf]
 congr 2
 apply Se;unfold jC;simp;omega
theorem Nv{n:Nat}(h:n<65536):mG (rG (n:Int))=n:=by
 unfold rG;rw[S3];have e1:(n:Int)/256=((n/256:Nat):Int):=by omega
 rw[e1,Jj (by omega)];unfold jC;simp;omega
structure Tk(σ:Type)where
 rest:σ→List UInt8
 bad:σ→Bool
 take:σ→Nat→List UInt8×σ
 len:∀s n,(take s n).1.length=n
 sound:∀s n,bad (take s n).2=false→bad s=false∧rest s=(take s n).1++rest (take s n).2
 full:∀s x t,bad s=false→rest s=x++t→(take s x.length).1=x∧rest (take s x.length).2=t∧bad (take s x.length).2=false
section
variable{σ:Type}(T:Tk σ)
def Tk.num(s:σ)(n:Nat):Nat×σ:=(mG (T.take s n).1,(T.take s n).2)
def Tk.text(s:σ):List UInt8×σ:=T.take (T.num s 1).2 (T.num s 1).1
theorem Tk.VL(s:σ):∃c,(T.take s 1).1=[c]∧(T.num s 1).1=c.toNat:=by
 have h:=T.len s 1
 match hq:(T.take s 1).1,h with
 |[c],_=>exact⟨c,rfl,by simp[Tk.num,hq,mG]⟩
theorem Tk.PY(s:σ)(h:T.bad (T.num s 1).2=false):T.bad s=false∧(T.num s 1).1<256∧T.rest s=jC ((T.num s 1).1:Int)::T.rest (T.num s 1).2:=by
 obtain⟨c,h1,h2⟩:=T.VL s;obtain⟨h3,h4⟩:=T.sound s 1 h;have:=c.toNat_lt;refine⟨h3,by omega,?_⟩;rw[h4,h1,h2,Xf];rfl
theorem Tk.PX(s:σ)(n:Nat)(t:List UInt8)(hn:n<256)(hb:T.bad s=false)(hr:T.rest s=jC (n:Int)::t):(T.num s 1).1=n∧T.rest (T.num s 1).2=t∧T.bad (T.num s 1).2=false:=by
 obtain⟨h1,h2,h3⟩:=T.full s [jC (n:Int)] t hb hr;refine⟨?_,h2,h3⟩;show mG (T.take s 1).1=n;rw[show(1:Nat)=[jC (n:Int)].length from rfl,h1,Y0,Jj hn]
theorem Tk.aeU(s:σ)(h:T.bad (T.num s 2).2=false):T.bad s=false∧(T.num s 2).1<65536∧T.rest s=rG ((T.num s 2).1:Int)++T.rest (T.num s 2).2:=by
 have hl:=T.len s 2;obtain⟨h3,h4⟩:=T.sound s 2 h;refine⟨h3,?_,?_⟩
 ·have:=J7 (T.take s 2).1;rw[hl]at this;exact this
 ·rw[h4]
  match hq:(T.take s 2).1,hl with
  |[a,b],_ =>
   show _=rG ((mG (T.take s 2).1:Nat):Int)++_;rw[hq,YY];rfl
theorem Tk.aeT(s:σ)(n:Nat)(t:List UInt8)(hn:n<65536)(hb:T.bad s=false)(hr:T.rest s=rG (n:Int)++t):(T.num s 2).1=n∧T.rest (T.num s 2).2=t∧T.bad (T.num s 2).2=false:=by
 obtain⟨h1,h2,h3⟩:=T.full s (rG (n:Int)) t hb hr;refine⟨?_,h2,h3⟩;show mG (T.take s 2).1=n;rw[show(2:Nat)=(rG (n:Int)).length from rfl,h1,Nv hn]
theorem Tk.Xd(s:σ)(h:T.bad (T.text s).2=false):T.bad s=false∧(T.text s).1.length<256∧T.rest s=jC ((T.text s).1.length:Int)::((T.text s).1++T.rest (T.text s).2):=by
 obtain⟨h1,h2⟩:=T.sound _ _ h;obtain⟨h3,h4,h5⟩:=T.PY s h1;have hl:(T.text s).1.length=(T.num s 1).1:=T.len _ _;refine⟨h3,by omega,?_⟩;rw[h5,hl,h2];rfl
theorem Tk.Xc(s:σ)(x t:List UInt8)(hn:x.length<256)(hb:T.bad s=false)(hr:T.rest s=jC (x.length:Int)::(x++t)):(T.text s).1=x∧T.rest (T.text s).2=t∧T.bad (T.text s).2=false:=by
 obtain⟨h1,h2,h3⟩:=T.PX s x.length (x++t) hn hb hr;obtain⟨h4,h5,h6⟩:=T.full (T.num s 1).2 x t h3 h2;unfold Tk.text;rw[h1];exact⟨h4,h5,h6⟩
def Tk.head(s:σ):List UInt8×Nat×Nat×σ :=
 let a:=T.text s
 let b:=T.num a.2 2
 let c:=T.num b.2 1
 (a.1,b.1,c.1,c.2)
def Bp(p:List UInt8)(n k:Nat):List UInt8:=[jC (p.length:Int)]++p++rG (n:Int)++[jC (k:Int)]
theorem Tk.abN(s:σ)(h:T.bad (T.head s).2.2.2=false):T.bad s=false∧(T.head s).1.length<256∧(T.head s).2.1<65536∧(T.head s).2.2.1<256∧T.rest s=Bp (T.head s).1 (T.head s).2.1 (T.head s).2.2.1++T.rest (T.head s).2.2.2:=by
 obtain⟨h1,h2,h3⟩:=T.PY _ h;obtain⟨h4,h5,h6⟩:=T.aeU _ h1;obtain⟨h7,h8,h9⟩:=T.Xd _ h4;refine⟨h7,h8,h5,h2,?_⟩;rw[h9,h6,h3];simp[Bp,Tk.head]
theorem Tk.abL(s:σ)(p t:List UInt8)(n k:Nat)(hp:p.length<256)(hn:n<65536)(hk:k<256)(hb:T.bad s=false)(hr:T.rest s=Bp p n k++t):(T.head s).1=p∧(T.head s).2.1=n∧(T.head s).2.2.1=k∧T.rest (T.head s).2.2.2=t∧T.bad (T.head s).2.2.2=false:=by
 obtain⟨h1,h2,h3⟩:=T.Xc s p (rG (n:Int)++jC (k:Int)::t) hp hb (by rw[hr];simp[Bp]);obtain⟨h4,h5,h6⟩:=T.aeT _ n (jC (k:Int)::t) hn h3 h2;obtain⟨h7,h8,h9⟩:=T.PX _ k t hk h6 h5;exact⟨h1,h4,h7,h8,h9⟩
end
def C8(p:Part):Prop:=p.path.length<256∧0≤p.size∧p.size<65536∧p.ids.length<256 ∧ ∀x∈p.ids,x.length=32
theorem LI(p:Part)(n:Nat)(h:p.size=(n:Int)):qY p=Bp p.path n p.ids.length++p.ids.flatten:=by simp[qY,Bp,h]
theorem QZ{p:Part}(h:tu p=true)(hk:∀x∈p.ids,x.length=32):C8 p:=by
 have h2:=IN h;have h3:=BP h2.1;exact⟨by omega,h2.2.1,by omega,by omega,hk⟩
end Go.Wk.Lf
end
section
namespace Go.Wk.Lf
open Go.V Go.Sort Go.Proofs
def qG(s:mb)(n:Nat):List UInt8×mb:=if(s.bad||decide (s.b.length<n))=true then(iV n 0,⟨s.b,true⟩)else(s.b.take n,⟨s.b.drop n,s.bad⟩)
def jY:Tk mb where
 rest s:=s.b
 bad s:=s.bad
 take:=qG
 len s n:=by
  unfold qG;split
  ·simp
  ·rename_i h;simp only[rW,decide_eq_true_eq,not_or]at h;simp;omega
 sound s n h:=by
  unfold qG at h ⊢;split at h
  ·cases h
  ·rename_i hc;rw[if_neg hc];exact⟨h,(u7 n s.b).symm⟩
 full s x t hb hr:=by
  have O6:s.b=x++t:=hr;have jM:s.bad=false:=hb;unfold qG;rw[if_neg (by rw[jM,O6];simp)];exact⟨by rw[O6];simp,by show s.b.drop x.length=t;rw[O6];simp,jM⟩
theorem Mh(s:mb)(n:Nat)(hn:n≤65536)(hb:s.b.length≤1073741824):CO s (n:Int)=some (qG s n):=by
 unfold CO qG;have e:decide ((s.b.length:Int)<(n:Int))=decide (s.b.length<n):=by rw[decide_eq_decide];omega
 rw[e]
 split
 ·rw[afV (by omega) (by omega),ij,ly]
 ·rename_i h;simp only[rW,decide_eq_true_eq,not_or]at h;rw[pM (by omega) (by omega) (by omega),ij,pM (by omega) (by omega) (by omega),ij];simp
theorem QU(s:mb)(n:Nat):(qG s n).2.b.length≤s.b.length:=by
 unfold qG;split
 ·exact jg _
 ·simp
theorem IJ(s:mb)(n:Nat)(h1:1≤n)(h7:n≤7)(hb:s.b.length≤1073741824):xn s (n:Int)=some (((jY.num s n).1:Int),(jY.num s n).2):=by
 unfold xn;have hl:=jY.len s n;rw[Mh s n (by omega) hb,ij];have hg:=get_eq (qG s n).1 0 n h1 h7 (by have:(qG s n).1.length=n:=hl;omega) (by have:(qG s n).1.length=n:=hl;omega);rw[show((0:Nat):Int)=0 from rfl]at hg;rw[hg,ij];have:((qG s n).1.take (0+n)).drop 0=(qG s n).1:=by
  rw[jn,ur,xB];have:(qG s n).1.length=n:=hl;omega
 rw[this];rfl
theorem Ee(s:mb)(n:Nat):(jY.num s n).2.b.length≤s.b.length:=QU s n
theorem Py(s:mb):(jY.text s).2.b.length≤s.b.length:=nY (QU _ _) (Ee s 1)
theorem LB(s:mb):(jY.num s 1).1<256:=by
 obtain⟨c,_,h⟩:=jY.VL s;have:=c.toNat_lt;omega
theorem abK(s:mb)(hb:s.b.length≤1073741824){A:Type}(K:List UInt8×mb→Int×mb→Int×mb→Option A) :
  (bd (xn s 1) λa=>bd (CO a.2 a.1) λb=>bd (xn b.2 2) λc=>bd (xn c.2 1) λd=>K b c d)=K (jY.text s) (((jY.num (jY.text s).2 2).1:Int),(jY.num (jY.text s).2 2).2) (((jY.num (jY.num (jY.text s).2 2).2 1).1:Int),(jY.num (jY.num (jY.text s).2 2).2 1).2):=by
 have h0:=LB s;have h1:=Ee s 1;have h2:=Py s;have h3:=Ee (jY.text s).2 2;rw[show(1:Int)=((1:Nat):Int)from rfl,show(2:Int)=((2:Nat):Int)from rfl,IJ s 1 (by omega) (by omega) hb,ij];simp only;rw[Mh _ _ (by omega) (by omega),ij];show(bd (xn (jY.text s).2 _) _)=_;rw[IJ _ 2 (by omega) (by omega) (by omega),ij];simp only;rw[IJ _ 1 (by omega) (by omega) (by omega),ij];rfl
def zh(b:List UInt8)(m:iF):Prop:=mO m∧xr m∧b=vE m
open Classical in
noncomputable def rS(b:List UInt8):iF×Int:=if h:∃m,zh b m then(h.choose,0)else(⟨[],[]⟩,3)
structure Ch(b:List UInt8)(nm:List UInt8)(Ad:Nat)(i:Nat)(q:List UInt8)(bad:Bool)(ps:List Part):Prop where
 len:q.length≤b.length
 snd:bad=false→b=[jC (nm.length:Int)]++nm++[jC (Ad:Int)]++ps.flatMap qY++q∧ps.length=i ∧ ∀p∈ps,C8 p
 TL:∀m,zh b m→bad=false∧nm=m.name∧Ad=m.parts.length∧ps=m.parts.take i∧q=(m.parts.drop i).flatMap qY
theorem PG{m:iF}(h:mO m):m.name.length<256∧m.parts.length<256:=by
 have h1:=BP h.1;have h2:=h.2.1;exact⟨by omega,by omega⟩
theorem afI{b nm:List UInt8}{Ad:Nat}{q:List UInt8}{bad:Bool}{ps:List Part}{i:Nat}(hcn:Ad<256)(hI:Ch b nm Ad i q bad ps)(hi:bad=false→i=Ad) :
  (if((bad||decide (0<q.length)) || !decide (mO ⟨nm,ps⟩))=true then((⟨[],[]⟩:iF),(3:Int))else(⟨nm,ps⟩,0))=rS b:=by
 by_cases hex:∃m,zh b m
 ·have hr:rS b=(hex.choose,0):=by unfold rS;rw[dif_pos hex]
  obtain⟨h1,h2,h3,h4,h5⟩:=hI.TL _ hex.choose_spec;have UG:=hi h1;rw[UG,h3,ow]at h4;rw[UG,h3,EW]at h5;have hm:(⟨nm,ps⟩:iF)=hex.choose:=by rw[h2,h4]
  rw[hr,hm];rw[if_neg];rw[h1,h5];have:=hex.choose_spec.1;simp[this]
 ·have hr:rS b=(⟨[],[]⟩,3):=by unfold rS;rw[dif_neg hex]
  rw[hr]
  split
  ·rfl
  ·rename_i hc;simp only[rW,decide_eq_true_eq,not_or,tE,decide_eq_false_iff_not,zK,Classical.not_not]at hc;obtain⟨⟨hb,hq⟩,hm⟩:=hc
   exfalso
   obtain⟨h1,h2,h3⟩:=hI.snd hb;refine hex ⟨⟨nm,ps⟩,hm,λp hp=>(h3 p hp).2.2.2.2,?_⟩;have O2:q=[]:=nK (by omega);rw[h1,O2,rY,←hi hb,←h2];rfl
theorem Ch.step{b nm:List UInt8}{Ad i:Nat}{q:List UInt8}{bad:Bool}{ps:List Part}(hI:Ch b nm Ad i q bad ps){p:Part}{q':List UInt8}{Nu:Bool}(hl:q'.length≤q.length)
  (hs:Nu=false→bad=false∧q=qY p++q'∧C8 p) (hc:∀p0 t,bad=false→C8 p0→q=qY p0++t→p=p0∧q'=t∧Nu=false) (hi:i<Ad):Ch b nm Ad (i+1) q' Nu (ps++[p]):=by
 refine⟨nY hl hI.len,λhb=>?_,λm hm=>?_⟩
 ·obtain⟨h1,h2,h3⟩:=hs hb;obtain⟨h4,h5,h6⟩:=hI.snd h1;refine⟨?_,by simp[h5],λp' ti=>?_⟩
  ·rw[h4,h2];simp
  ·rcases mF.1 ti with h|h
   ·exact h6 p' h
   ·simp at h;subst h;exact h3
 ·obtain⟨h1,h2,h3,h4,h5⟩:=hI.TL m hm;have jU:i<m.parts.length:=by omega
  rw[Dr jU,EY]at h5;have uL:=jF jU;obtain⟨h6,h7,h8⟩:=hc _ _ h1 (QZ (Ej hm.1 _ uL) (hm.2.1 _ uL)) h5;refine⟨h8,h2,h3,?_,h7⟩;rw[h4,h6,ou jU]
theorem afJ(b:List UInt8)(hb:b.length≤1000000000):pr b=some (rS b):=by
 unfold pr
 let s0:mb:=⟨b,false⟩
 have h0:=LB s0;have h1:=Ee s0 1;have h2:=Py s0;have h3:=Ee (jY.text s0).2 1;have h4:=LB (jY.text s0).2;rw[show(1:Int)=((1:Nat):Int)from rfl,IJ s0 1 (by omega) (by omega) (by show b.length≤_;omega),ij];simp only;rw[Mh _ _ (by omega) (by have:(jY.num s0 1).2.b.length≤b.length:=h1;omega),ij];show(bd (xn (jY.text s0).2 _) _)=_;have jB:(jY.text s0).2.b.length≤b.length:=h2;rw[IJ _ 1 (by omega) (by omega) (by omega),ij];simp only;show loop (pr.l2 (jY.text s0) (((jY.num (jY.text s0).2 1).1:Int),(jY.num (jY.text s0).2 1).2)) _=_;generalize hR:jY.num (jY.text s0).2 1=R at h3 h4 ⊢;generalize hT:jY.text s0=Tx at h3 jB hR ⊢;have acf:Ch b Tx.1 R.1 0 R.2.b R.2.bad []:=by
  refine⟨by omega,λOE=>?_,λm hm=>?_⟩
  ·have abq:jY.bad (jY.num Tx.2 1).2=false:=by rw[hR];exact OE
   obtain⟨a1,a2,a3⟩:=jY.PY _ abq;rw[←hT]at a1 a3;obtain⟨a4,a5,a6⟩:=jY.Xd s0 a1;rw[hT,hR]at a3;rw[hT]at a6;have e1:jY.rest s0=b:=rfl;have e2:jY.rest R.2=R.2.b:=rfl;rw[e1,a3,e2]at a6;exact⟨by rw[a6];simp,rfl,λp hp=>by simp at hp⟩
  ·obtain⟨m1,m2⟩:=PG hm.1;obtain⟨a1,a2,a3⟩:=jY.Xc s0 m.name (jC (m.parts.length:Int)::m.parts.flatMap qY) m1 rfl (by show b=_;rw[hm.2.2];simp[vE]);rw[hT]at a1 a2 a3;obtain⟨a4,a5,a6⟩:=jY.PX Tx.2 m.parts.length (m.parts.flatMap qY) m2 a3 a2;rw[hR]at a4 a5 a6;exact⟨a6,a1,a4,rfl,a5⟩
 have CC:∀(i:Nat)(q:List UInt8)(bad:Bool)(ps:List Part),Ch b Tx.1 R.1 i q bad ps→(bad=false→i=R.1)→pr.k1 Tx ps q bad=some (rS b):=by
  intro i q bad ps hI hi;rw[←afI h4 hI hi];simp only[pr.k1];have e:decide (0<(q.length:Int))=decide (0<q.length):=by rw[decide_eq_decide];omega
  rw[e];cases hc:(bad||decide (0<q.length))with
  |true=>rw[me (by simp),ij];rfl
  |false =>
   rw[jX (by simp),VF,ij]
   by_cases hm:mO ⟨Tx.1,ps⟩
   ·rw[if_pos hm];simp[hm]
   ·rw[if_neg hm];simp[hm]
 refine nV (S:=Int×List UInt8×Bool×List Part) (σ:=List UInt8×Bool×List Part) (λi s=>((i:Int),s.1,s.2.1,s.2.2)) R.1 (λi s=>Ch b Tx.1 R.1 i s.1 s.2.1 s.2.2∧s.2.2.length=i) _ (i0:=0) (s0:=(R.2.b,R.2.bad,[])) rfl (ju _) ⟨acf,rfl⟩ (by omega) ?_ ?_
 ·rintro rec i ⟨q,bad,ps⟩ hi ⟨hI,FX⟩ jh;simp only at hI FX jh;simp only[pr.l2];rw[iZ (jl hi)];have hql:=hI.len;rw[abK ⟨q,bad⟩ (by show q.length≤_;omega)]
  let s:mb:=⟨q,bad⟩
  have g2:=Py s;have g3:=Ee (jY.text s).2 2;have g4:=Ee (jY.num (jY.text s).2 2).2 1;have g5:=LB (jY.num (jY.text s).2 2).2;have FY:=jY.abN s;have pB:=jY.abL s;have eh:jY.head s=((jY.text s).1,(jY.num (jY.text s).2 2).1,(jY.num (jY.num (jY.text s).2 2).2 1).1,(jY.num (jY.num (jY.text s).2 2).2 1).2):=rfl;rw[eh]at FY pB;simp only at FY pB;show loop (pr.l5 Tx (i:Int) ps rec (jY.text s) (((jY.num (jY.text s).2 2).1:Int),(jY.num (jY.text s).2 2).2) (((jY.num (jY.num (jY.text s).2 2).2 1).1:Int),(jY.num (jY.num (jY.text s).2 2).2 1).2)) _=_;generalize hE:jY.num (jY.num (jY.text s).2 2).2 1=E at FY pB g4 g5 ⊢;generalize jY.num (jY.text s).2 2=D at FY pB g3 g4 ⊢;generalize jY.text s=P at FY pB g2 g3 ⊢;have hEl:E.2.b.length≤q.length:=by have:P.2.b.length≤q.length:=g2;omega
  refine nV (S:=Int×List UInt8×Bool×List (List UInt8)) (σ:=List UInt8×Bool×List (List UInt8)) (λj s=>((j:Int),s.1,s.2.1,s.2.2)) E.1 (λj z=>z.1.length≤q.length∧z.2.2.length=j∧(∀x∈z.2.2,x.length=32)∧(z.2.1=false→E.2.bad=false∧E.2.b=z.2.2.flatten++z.1)∧(∀(ids:List (List UInt8))(t:List UInt8),E.2.bad=false→E.2.b=ids.flatten++t→(∀x∈ids,x.length=32)→ids.length=E.1→z.2.1=false∧z.2.2=ids.take j∧z.1=(ids.drop j).flatten++t)) _ (i0:=0) (s0:=(E.2.b,E.2.bad,[])) rfl (ju _) ⟨hEl,rfl,λx hx=>by simp at hx,λh=>⟨h,rfl⟩,λids t h1 h2 h3 h4=>⟨h1,rfl,h2⟩⟩ (by omega) ?_ ?_
  ·rintro n9 j ⟨z,zb,zi⟩ hj ⟨j1,j2,j3,j4,j5⟩ nC;simp only at j1 j2 j3 j4 j5 nC;simp only[pr.l5];rw[iZ (jl hj),show(32:Int)=((32:Nat):Int)from rfl,Mh ⟨z,zb⟩ 32 (by omega) (by show z.length≤_;omega),ij];have k1:=jY.len ⟨z,zb⟩ 32;have k2:=QU ⟨z,zb⟩ 32;have k3:=jY.sound ⟨z,zb⟩ 32;have k4:=jY.full ⟨z,zb⟩;have e3:jY.take=qG:=rfl;rw[e3]at k1 k3 k4;have ha:DE (qG ⟨z,zb⟩ 32).1=some (qG ⟨z,zb⟩ 32).1:=by
    unfold DE;rw[if_pos (by omega),xB (by omega)]
   rw[ha,ij,ki (by simp;omega),ij,ja (by omega)];refine nC ((qG ⟨z,zb⟩ 32).2.b,(qG ⟨z,zb⟩ 32).2.bad,zi++[(qG ⟨z,zb⟩ 32).1]) ⟨?_,by simp[j2],λx hx=>?_,λhb=>?_,λids t h1 h2 h3 h4=>?_⟩
   ·have:(qG ⟨z,zb⟩ 32).2.b.length≤z.length:=k2;show(qG ⟨z,zb⟩ 32).2.b.length≤q.length;omega
   ·rcases mF.1 hx with h|h
    ·exact j3 x h
    ·simp at h;subst h;exact k1
   ·obtain⟨l1,l2⟩:=k3 hb;obtain⟨l3,l4⟩:=j4 l1;refine⟨l3,?_⟩;have l5:z=(qG ⟨z,zb⟩ 32).1++(qG ⟨z,zb⟩ 32).2.b:=l2;rw[l4]
    conv=>lhs;rw[l5]
    simp
   ·obtain⟨l1,l2,l3⟩:=j5 ids t h1 h2 h3 h4;have nT:j<ids.length:=by omega
    rw[Dr nT,o7,pG]at l3;have hx:=h3 _ (jF nT);obtain⟨l4,l5,l6⟩:=k4 ids[j] ((ids.drop (j+1)).flatten++t) l1 l3;rw[hx]at l4 l5 l6;exact⟨l6,by show zi++[_]=_;rw[l2,l4,ou nT],l5⟩
  ·rintro n9 ⟨z,zb,zi⟩ ⟨j1,j2,j3,j4,j5⟩;simp only at j1 j2 j3 j4 j5;simp only[pr.l5,pr.k4,pr.k3];rw[iR (jk (jr _)),ki (by simp;omega),ij,ja (by omega)];have nU:Ch b Tx.1 R.1 (i+1) z zb (ps++[Part.mk P.1 (D.1:Int) zi]):=by
    refine hI.step j1 (λLg=>?_) (λp0 t OE hw hq=>?_) hi
    ·obtain⟨l1,l2⟩:=j4 Lg;obtain⟨l3,l4,l5,l6,l7⟩:=FY l1;have e4:jY.rest s=q:=rfl;have e5:jY.rest E.2=E.2.b:=rfl;rw[e4,e5]at l7;refine⟨l3,?_,l4,by show(0:Int)≤(D.1:Int);omega,by show(D.1:Int)<65536;omega,by show zi.length<256;omega,j3⟩;rw[LI _ D.1 rfl,l7,l2];simp only[j2,pG]
    ·obtain⟨w1,w2,w3,w4,w5⟩:=hw;obtain⟨n0,Al⟩:=RJ w2;have xf:n0<65536:=by omega
     rw[LI p0 n0 Al,pG]at hq;obtain⟨l1,l2,l3,l4,l5⟩:=pB p0.path (p0.ids.flatten++t) n0 p0.ids.length w1 xf w4 OE hq;obtain⟨l6,l7,l8⟩:=j5 p0.ids t l5 l4 w5 l3.symm;rw[l3,ow]at l7;rw[l3,EW]at l8;refine⟨?_,l8,l6⟩;obtain⟨pp,ps0,pi⟩:=p0;simp only at l1 l7 Al;rw[l1,l2,l7,Al]
   cases Lg:zb with
   |true =>
    rw[if_pos rfl];rw[Lg]at nU;exact CC _ _ _ _ nU (λh=>by cases h)
   |false =>
    rw[if_neg (by simp)];rw[Lg]at nU;exact jh (z,false,ps++[Part.mk P.1 (D.1:Int) zi]) ⟨nU,by simp[FX]⟩
 ·rintro rec ⟨q,bad,ps⟩ ⟨hI,FX⟩;simp only at hI FX;simp only[pr.l2];rw[iR (jk (jr _))];exact CC _ _ _ _ hI λ_=>rfl
end Go.Wk.Lf
end
section
namespace Go.Wk.Lf
open Go.V Go.Sort Go.Proofs
theorem ng{α:Type}(b:Bool)(x z:α):only b (some x) z=some (if b=true then x else z):=by
 cases b<;>rfl
def kO(n:Nat)(ok:Nat→Bool):Bool:=(mI n).all ok
theorem oI{n:Nat}{ok:Nat→Bool}:kO n ok=true ↔ ∀i,i<n→ok i=true:=by simp[kO]
theorem Vy{S A:Type}{F:(S→Option A)→S→Option A}(mk:Nat→S)(n:Nat)(ok:Nat→Bool)(K B:Option A){x0:S}(hx:x0=mk 0)(hn:n<4611686018427387904)
  (nU:∀rec i,i<n→F rec (mk i)=if ok i=true then rec (mk (i+1))else B) (oB:∀rec,F rec (mk n)=K):loop F x0=if kO n ok=true then K else B:=by
 rw[Eh mk n ok K B hx hn nU oB]
 by_cases h:kO n ok=true
 ·rw[if_pos h,if_pos (oI.1 h)]
 ·rw[if_neg h,if_neg λq=>h (oI.2 q)]
theorem vD{A:Type}{F:(Int→Option A)→Int→Option A}(n:Nat)(ok:Nat→Bool)(K B:Option A)(hn:n<4611686018427387904)
  (nU:∀rec(i:Nat),i<n→F rec (i:Int)=if ok i=true then rec ((i+1:Nat):Int)else B) (oB:∀rec,F rec (n:Int)=K):loop F 0=if kO n ok=true then K else B :=
 Vy (x0:=(0:Int)) (λi=>(i:Int)) n ok K B rfl hn nU oB
theorem SM{α:Type}[Inhabited α](l:List α)(p:α→Bool):kO l.length (λi=>p (l.getD i default))=l.all p:=by
 rw[GQ,oI];exact DB l p (λi=>p (l.getD i default)) λi hi=>by simp[hi]
theorem jo{α:Type}[Inhabited α]{l:List α}{i:Nat}(h:i<l.length):l.getD i default=l[i]:=by simp[h]
def j6(n a b:Int):Bool:=decide (a≤n)&&decide (n≤b)
theorem Gf(n a b:Int):vi n a b=some (j6 n a b):=rfl
def BZ(v:iz):Bool:=j6 v.rq 0 1&&j6 v.rM 0 1048576&&((decide (v.state=2)&&j6 v.files 1 65535)||((decide (v.state=1)||decide (v.state=3))&&decide (v.files=0)))
def zD(l:List iz):Bool:=l.all BZ&&j6 (l.length:Int) 1 8
theorem ite_not{α:Type}{b c:Bool}{x y:α}(h:b = !c):(if b=true then x else y)=if c=true then y else x:=by
 subst h;cases c<;>rfl
theorem aiQ(l:List iz)(hl:l.length≤1073741824):xR l=some (zD l):=by
 unfold xR;rw[vD l.length (λi=>BZ (l.getD i default)) (some (j6 (l.length:Int) 1 8)) (some false) (by omega) ?_ ?_,SM]
 ·unfold zD;cases l.all BZ<;>rfl
 ·intro rec i hi;simp only[xR.l2];rw[iZ (jl hi),iX hi,ij];simp only[Gf,ng,ij,ja (show i<4611686018427387904 by omega),jo hi];refine ite_not ?_;unfold BZ;cases j6 l[i].rq 0 1<;>cases j6 l[i].rM 0 1048576<;>cases decide (l[i].state=2)<;>cases j6 l[i].files 1 65535<;>simp
 ·intro rec;simp only[xR.l2,xR.k1];rw[iR (jk (jr _))];rfl
def PB(vs:List iz)(x:Loc):Bool:=j6 x.iQ 0 ((vs.length:Int)-1)&&decide ((vs.getD x.iQ.toNat default).state=2)&&j6 x.file 1 (vs.getD x.iQ.toNat default).files&&j6 x.off 0 16777215&&j6 x.len 13 8013
def A8(a b:Loc):Bool:=if a.iQ≠b.iQ then decide (b.iQ<a.iQ)else if a.file≠b.file then decide (b.file<a.file)else decide (b.off<a.off)
theorem Yf(a b:Loc):Kf a b=some (A8 a b):=by
 unfold Kf A8;simp only[decide_eq_true_eq]
 split
 ·rfl
 ·split<;>rfl
def CL(vs:List iz)(l:List Loc)(i:Nat):Bool:=PB vs (l.getD i default)&&(!decide (0<i)||A8 (l.getD i default) (l.getD (i-1) default))
def mN(vs:List iz)(l:List Loc):Bool:=decide (l.length≤200)&&kO l.length (CL vs l)
theorem tZ{n a b:Int}:j6 n a b=true↔a≤n∧n≤b:=by simp[j6]
theorem Vn{α:Type}[Inhabited α]{l:List α}{i:Int}(h0:0≤i)(h1:i≤(l.length:Int)-1):ix l i=some (l.getD i.toNat default):=by
 obtain⟨n,rfl⟩:∃n:Nat,i=n:=⟨i.toNat,by omega⟩
 rw[iX (by omega),ly,jo (by omega)]
theorem PC(c:ig)(l:List Loc)(hv:c.iv.length≤1073741824):vV c l=some (mN c.iv l):=by
 unfold vV mN
 by_cases hl:l.length≤200
 ·rw[iR (decide_eq_false (by omega))];rw[vD l.length (CL c.iv l) (some true) (some false) (by omega) ?_ ?_,decide_eq_true hl]
  ·cases kO l.length (CL c.iv l)<;>rfl
  ·intro rec i hi;simp only[vV.l2];rw[iZ (jl hi),iX hi,ij];simp only[Gf,ng,ij,ll (show(-9223372036854775808:Int)≤(c.iv.length:Int)-1 by omega) (by omega),ja (show i<4611686018427387904 by omega)];have e1:l.getD i default=l[i]:=jo hi;unfold CL PB;rw[e1]
   by_cases h1:j6 l[i].iQ 0 ((c.iv.length:Int)-1)=true
   ·obtain⟨a0,a1⟩:=tZ.1 h1;rw[h1,Vn a0 a1];simp only[ng,ij,nH,pF,if_true]
    by_cases h0:0<i
    ·have e2:ix l (wr ((i:Int)-1))=some (l.getD (i-1) default):=by
      rw[wB h0 (by omega),iX (show i-1<l.length by omega),jo (by omega)]
     rw[e2];have kP:decide ((0:Int)<(i:Int))=true:=decide_eq_true (by omega);rw[kP,decide_eq_true h0];simp only[ng,ij,Yf];refine ite_not ?_;generalize j6 l[i].off 0 16777215=p;generalize j6 l[i].len 13 8013=q
     by_cases hs:(c.iv.getD l[i].iQ.toNat default).state=2
     ·simp only[hs,ne_eq,not_true_eq_false,decide_false,decide_true,Jr,nG,pF,if_true,oP,zJ];generalize j6 l[i].file 1 (c.iv.getD l[i].iQ.toNat default).files=s;cases s<;>cases p<;>cases q<;>simp
     ·simp only[hs,ne_eq,not_false_eq_true,decide_true,decide_false,zL,Bool.or_true,zI,tD,pF,nG]
    ·have kP:decide ((0:Int)<(i:Int))=false:=decide_eq_false (by omega);rw[kP,decide_eq_false h0];simp only[zI,me,ng,ij,tD,Rc,pF,zL,zJ];refine ite_not ?_;generalize j6 l[i].off 0 16777215=p;generalize j6 l[i].len 13 8013=q
     by_cases hs:(c.iv.getD l[i].iQ.toNat default).state=2
     ·simp only[hs,ne_eq,not_true_eq_false,decide_false,decide_true,Jr,nG,pF,if_true,oP,zJ];generalize j6 l[i].file 1 (c.iv.getD l[i].iQ.toNat default).files=s;cases s<;>cases p<;>cases q<;>simp
     ·simp only[hs,ne_eq,not_false_eq_true,decide_true,decide_false,zL,Bool.or_true,zI,tD,pF,nG]
   ·rw[zK]at h1;rw[h1];simp only[pF,nH,me,ij,zL,tD,zI,if_false,if_true];rfl
  ·intro rec;simp only[vV.l2,vV.k1];rw[iR (jk (jr _))]
 ·rw[iZ (decide_eq_true (by omega)),decide_eq_false hl];rfl
end Go.Wk.Lf
end
section
namespace Go.Wk.Lf
open Go.V Go.Sort Go.Proofs
def yY(f:Nat→Bool):Nat→Nat→Nat
 |_,0=>0
 |i,n+1=>if f i=true then yY f (i+1) n+1 else 0
def ue(n:Nat)(f:Nat→Bool):Nat:=yY f 0 n
theorem T4(f:Nat→Bool):∀n i,yY f i n≤n
 |0,i=>jg _
 |n+1,i=>by unfold yY;split;exact Nat.succ_le_succ (T4 f n _);exact ju _
theorem T6(f:Nat→Bool):∀n i q,q<yY f i n→f (i+q)=true
 |0,i,q,h=>by cases h
 | n+1,i,q,h=>by
  unfold yY at h
  split at h
  ·cases q with
   |zero=>assumption
   |succ q=>have:=T6 f n (i+1) q (by omega);rwa[show i+1+q=i+(q+1) by omega]at this
  ·cases h
theorem T5(f:Nat→Bool):∀n i,yY f i n<n→f (i+yY f i n)=false
 |0,i,h=>by cases h
 |n+1,i,h=>by
  unfold yY at h ⊢
  split at h
  ·rename_i hf;rw[if_pos hf];have:=T5 f n (i+1) (by omega);rwa[show i+1+yY f (i+1) n=i+(yY f (i+1) n+1) by omega]at this
  ·rename_i hf;rw[if_neg hf,sZ];simpa using hf
theorem IS(n:Nat)(f:Nat→Bool):ue n f≤n:=T4 f n 0
theorem LL{n:Nat}{f:Nat→Bool}{q:Nat}(h:q<ue n f):f q=true:=by have:=T6 f n 0 q h;rwa[jn]at this
theorem LK{n:Nat}{f:Nat→Bool}(h:ue n f<n):f (ue n f)=false:=by have:=T5 f n 0 h;rwa[jn]at this
theorem Em{n:Nat}{f:Nat→Bool}{k:Nat}(hk:k≤n)(h1:∀q,q<k→f q=true)(h2:k<n→f k=false):ue n f=k:=by
 rcases Nat.lt_trichotomy (ue n f) k with h|h|h
 ·have:=LK (n:=n) (f:=f) (by omega);rw[h1 _ h]at this;cases this
 ·exact h
 ·have:=LL h;rw[h2 (by have:=IS n f;omega)]at this;cases this
theorem NC{A:Type}{F:(Int×Int→Option A)→Int×Int→Option A}(n:Nat)(f:Nat→Bool)(K:Nat→Option A)(hn:n≤1073741824)(UQ:∀i j,i<j→j<n→f j=true→f i=true)
  (nU:∀rec(i j:Nat),i<j→j≤n→F rec ((i:Int),(j:Int))=if f ((i+j)/2)=true then rec ((((i+j)/2+1:Nat):Int),(j:Int))else rec ((i:Int),(((i+j)/2:Nat):Int)))
  (oB:∀rec(i:Nat),i≤n→F rec ((i:Int),(i:Int))=K i):loop F (0,(n:Int))=K (ue n f):=by
 refine Vz (S:=Int×Int) (λs=>∃i j:Nat,s=((i:Int),(j:Int))∧i≤j∧j≤n∧(∀q,q<i→f q=true) ∧ ∀q,j≤q→q<n→f q=false) (λs=>(s.2-s.1).toNat) ⟨0,n,rfl,ju _,jg _,λq h=>by omega,λq h1 h2=>by omega⟩ (by simp only;omega) ?_;rintro rec s ⟨i,j,rfl,th,KY,h1,h2⟩ jh
 by_cases h:i=j
 ·subst h;rw[oB rec i KY,Em KY h1 λh=>h2 i (jg _) h]
 ·have jB:i<j:=by omega
  rw[nU rec i j jB KY]
  by_cases hf:f ((i+j)/2)=true
  ·rw[if_pos hf];refine jh _ ⟨_,j,rfl,by omega,KY,λq hq=>?_,h2⟩ (by simp only;omega)
   by_cases By:q=(i+j)/2
   ·rw[By];exact hf
   ·exact UQ q ((i+j)/2) (by omega) (by omega) hf
  ·rw[if_neg hf];refine jh _ ⟨i,_,rfl,by omega,by omega,h1,λq hq hqn=>?_⟩ (by simp only;omega)
   by_cases By:q=(i+j)/2
   ·rw[By];simpa using hf
   ·cases hfq:f q with
    |false=>rfl
    |true=>exact absurd (UQ ((i+j)/2) q (by omega) hqn hfq) hf
theorem PK{i j:Nat}(hi:i≤1073741824)(hj:j≤1073741824):wr ((wu (wr ((i:Int)+(j:Int))))/2^(1:Int).toNat)=(((i+j)/2:Nat):Int):=by
 have h1:wr ((i:Int)+(j:Int))=((i+j:Nat):Int):=by rw[ll (by omega) (by omega)];omega
 have h2:wu (((i+j:Nat):Int))=((i+j:Nat):Int):=by
  show Dg.wrap _=_;have:(((i+j:Nat):Int)%(2^64:Int))=((i+j:Nat):Int):=Int.emod_eq_of_lt (by omega) (by omega);exact this
 rw[h1,h2];have h3:(((i+j:Nat):Int))/2^(1:Int).toNat=(((i+j)/2:Nat):Int):=by
  show((i+j:Nat):Int)/2^1=_;omega
 rw[h3,ll (by omega) (by omega)]
def sX{α:Type}[Inhabited α](l:List α)(lt:α→Bool):Nat:=ue l.length λi=>lt (l.getD i default)
theorem TG(a b:List UInt8):decide (oR a b<0)=jt a b:=by rw[←FC];rfl
theorem aah(a b:List UInt8):decide (oR a b=0)=decide (a=b):=by
 have h1:=FC a b;have h2:=FC b a
 by_cases h:a=b
 ·subst h;have:oR a a=0:=by unfold oR;rw[AI];rfl
  simp[this]
 ·have:oR a b≠0:=by
   unfold oR
   by_cases h3:jt a b=true
   ·simp[h3]
   ·by_cases h4:jt b a=true
    ·simp[h3,h4]
    ·exact absurd (C0 (by simpa using h3) (by simpa using h4)) h
  simp[this,h]
theorem NT(a b:List UInt8):Kg a b=some (oR a b):=rfl
def uy(l:List Chunk):Prop:=l.Pairwise λa b=>jt a.id b.id=true
theorem BR{α:Type}{R:α→α→Prop}{l:List α}(h:l.Pairwise R){i j:Nat}(th:i<j)(hj:j<l.length):R (l[i]'(by omega)) l[j]:=xA.1 h i j (by omega) hj th
def tM(l:List Chunk)(id:List UInt8):Nat:=sX l λx=>jt x.id id
def uI(l:List Chunk)(id:List UInt8):Bool:=decide (tM l id<l.length)&&decide ((l.getD (tM l id) default).id=id)
theorem P7(l:List Chunk)(id:List UInt8)(hl:l.length≤1073741824)(hr:uy l) :
  FA l id=some (((tM l id:Nat):Int),uI l id):=by
 unfold FA;rw[show yw l id=some (((tM l id:Nat):Int),uI l id)from ?_]
 ·rfl
 unfold uI tM sX yw;refine NC l.length (λi=>jt (l.getD i default).id id) (λk=>some ((k:Int),decide (k<l.length)&&decide ((l.getD k default).id=id))) hl ?_ ?_ ?_
 ·intro i j th hj h;rw[jo hj]at h;rw[jo (by omega)];exact xt (BR hr th hj) h
 ·intro rec i j th hj;simp only[yw.l2];have hm:(i+j)/2<l.length:=by omega
  rw[iZ (jl th),PK (by omega) (by omega),iX hm,ij];simp only[Hy,NT,ij,TG,jo hm,ja (show(i+j)/2<4611686018427387904 by omega)]
 ·intro rec i hi;simp only[yw.l2,yw.k1];rw[iR (jk (jr _))]
  by_cases h:i<l.length
  ·simp only[jl h,iX h,ng,ij,if_true,Hy,NT,oP,jo h,decide_eq_true h,aah]
  ·simp only[jk h,me,ij,tD,decide_eq_false h]
theorem Z6(l:List Chunk)(id:List UInt8):tM l id≤l.length:=IS _ _
theorem HT{l:List Chunk}(hr:uy l)(id:List UInt8):uI l id=true ↔ ∃x∈l,x.id=id:=by
 unfold uI;simp only[jK,decide_eq_true_eq];constructor
 ·rintro⟨h1,h2⟩;rw[jo h1]at h2;exact⟨_,jF h1,h2⟩
 ·rintro⟨x,hx,rfl⟩;obtain⟨i,hi,rfl⟩:=my hx;have:tM l l[i].id=i:=Em (uw hi) (λq hq=>by
   rw[jo (by omega)];exact BR hr hq hi) (λ_=>by rw[jo hi];exact AI _)
  rw[this];exact⟨hi,by rw[jo hi]⟩
end Go.Wk.Lf
end
section
namespace Go.Wk.Lf
open Go.V Go.Sort Go.Proofs
def oT(n:Nat)(p:Nat→Bool):Int:=if ue n (λi=>!p i)<n then(ue n (λi=>!p i):Int)else -1
theorem CK{F:(Int→Option Int)→Int→Option Int}(n:Nat)(p:Nat→Bool)(hn:n<4611686018427387904)(nU:∀rec(i:Nat),i<n→F rec (i:Int)=if p i=true then some (i:Int)else rec ((i+1:Nat):Int))(oB:∀rec,F rec (n:Int)=some (-1)):loop F 0=some (oT n p):=by
 refine nV (σ:=Unit) (λi _=>(i:Int)) n (λi _=>∀q,q<i→p q=false) _ (i0:=0) (s0:=()) rfl (ju _) (λq h=>by omega) hn ?_ ?_
 ·intro rec i _ hi hI jh;rw[nU rec i hi]
  by_cases h:p i=true
  ·rw[if_pos h];have hk:ue n (λi=>!p i)=i:=Em (uw hi) (λq hq=>by rw[hI q hq];rfl) (λ_=>by rw[h];rfl);unfold oT;rw[hk,if_pos hi]
  ·rw[if_neg h];refine jh () λq hq=>?_
   by_cases By:q=i
   ·subst By;simpa using h
   ·exact hI q (by omega)
 ·intro rec _ hI;rw[oB];unfold oT;rw[show ue n (λi=>!p i)=n from Em (jg _) (λq hq=>by rw[hI q hq];rfl) (λh=>by omega),if_neg (jr _)]
theorem KG{n:Nat}{p:Nat→Bool}:decide (0≤oT n p) = !kO n (λi=>!p i):=by
 unfold oT
 by_cases h:ue n (λi=>!p i)<n
 ·rw[if_pos h];have:kO n (λi=>!p i)=false:=by
   cases hq:kO n (λi=>!p i)with
   |false=>rfl
   |true=>have:=oI.1 hq _ h;rw[LK h]at this;cases this
  rw[this];simp
 ·rw[if_neg h];have h2:=IS n (λi=>!p i);have:kO n (λi=>!p i)=true:=oI.2 λi hi=>LL (n:=n) (f:=λi=>!p i) (by omega);rw[this];rfl
theorem aaf(a b:List UInt8):decide (0≤oR a b) = !jt a b:=by
 rw[←TG]
 by_cases h:oR a b<0
 ·simp[h]
 ·simp[h];omega
def Bg(x:Chunk):Bool:=if x.jD=true then j6 (x.data.length:Int) 1 64 else decide (x.data.length=0)&&decide (0<x.locs.length)
def tN(c:ig)(i:Nat):Bool:=(!decide (0<i)||jt (c.chunks.getD (i-1) default).id (c.chunks.getD i default).id)&&mN c.iv (c.chunks.getD i default).locs&&Bg (c.chunks.getD i default)
def wZ(c:ig):Bool:=kO c.chunks.length (tN c)&&decide (c.chunks.length≤200)
theorem aac(c:ig)(hv:c.iv.length≤1073741824)(hl:c.chunks.length≤1073741824):xP c=some (wZ c):=by
 unfold xP;rw[vD c.chunks.length (tN c) (some (decide (c.chunks.length≤200))) (some false) (by omega) ?_ ?_]
 ·unfold wZ;cases kO c.chunks.length (tN c)<;>rfl
 ·intro rec i hi;simp only[xP.l2];rw[iZ (jl hi),iX hi,ij];have e1:c.chunks.getD i default=c.chunks[i]:=jo hi;simp only[Gf,ng,ij,PC _ _ hv,ja (show i<4611686018427387904 by omega),NT];have key:∀(o:Bool)(x:Chunk),(if((((o || !(if(!o)=true then mN c.iv x.locs else false))||((!x.jD)&&(decide (0<(x.data.length:Int))||decide ((x.locs.length:Int)=0))))||(x.jD && !(if((!((o || !(if(!o)=true then mN c.iv x.locs else false))||((!x.jD)&&(decide (0<(x.data.length:Int))||decide ((x.locs.length:Int)=0)))))&&x.jD)=true then j6 (x.data.length:Int) 1 64 else false))))=true then some false else rec ((i+1:Nat):Int))=if(!o&&mN c.iv x.locs&&Bg x)=true then rec ((i+1:Nat):Int)else some false:=by
   intro o x;refine ite_not ?_;unfold Bg;have d1:decide ((0:Int)<(x.data.length:Int)) = !decide (x.data.length=0):=by
    by_cases h:x.data.length=0
    ·simp[h]
    ·rw[decide_eq_false h,decide_eq_true (by omega)];rfl
   have d2:decide ((x.locs.length:Int)=0) = !decide (0<x.locs.length):=by
    by_cases h:0<x.locs.length
    ·rw[decide_eq_true h,decide_eq_false (by omega)];rfl
    ·rw[decide_eq_false h,decide_eq_true (by omega)];rfl
   rw[d1,d2];generalize decide (x.data.length=0)=p;generalize decide (0<x.locs.length)=q;generalize j6 (x.data.length:Int) 1 64=s;generalize mN c.iv x.locs=u;generalize x.jD=v;cases o<;>cases p<;>cases q<;>cases s<;>cases u<;>cases v<;>rfl
  by_cases h0:0<i
  ·have e2:ix c.chunks (wr ((i:Int)-1))=some (c.chunks.getD (i-1) default):=by
    rw[wB h0 (by omega),iX (show i-1<c.chunks.length by omega),jo (by omega)]
   have kP:decide ((0:Int)<(i:Int))=true:=decide_eq_true (by omega);rw[e2,kP];simp only[ng,ij,if_true,oP,aaf];refine(key _ _).trans ?_;unfold tN;rw[e1,decide_eq_true h0];simp only[B5,nH,nG]
  ·have kP:decide ((0:Int)<(i:Int))=false:=decide_eq_false (by omega);rw[kP];simp only[me,ij,tD];refine(key _ _).trans ?_;unfold tN;rw[e1,decide_eq_false h0];rfl
 ·intro rec;simp only[xP.l2,xP.k1];rw[iR (jk (jr _))]
  congr 1
  by_cases h:c.chunks.length≤200
  ·rw[decide_eq_true h,decide_eq_true (by omega)]
  ·rw[decide_eq_false h,decide_eq_false (by omega)]
theorem TC{c:ig}(h:wZ c=true):uy c.chunks:=by
 unfold wZ at h;rw[jK,oI]at h;refine(Nk (λa b:Chunk=>jt a.id b.id=true) (λh1 h2=>xt h1 h2) c.chunks).2 λi hi h0=>?_;have:=h.1 i hi;unfold tN at this;rw[jo hi,jo (show i-1<c.chunks.length by omega),decide_eq_true h0]at this;simp only[nH,nG,jK]at this;exact this.1.1
instance(m : iF) : Decidable (mO m) := by unfold mO CX; infer_instance
def Ao(c:ig)(m:iF):Bool:=kO m.parts.length λi=>kO (m.parts.getD i default).ids.length λk=>uI c.chunks ((m.parts.getD i default).ids.getD k default)
def yC(c:ig)(i:Nat):Bool:=j6 (c.ik.getD i default).seq 0 (c.seq-1)&&(!decide (0<i)||decide ((c.ik.getD (i-1) default).seq<(c.ik.getD i default).seq)) && !decide ((c.ik.getD i default).iw.name∈(c.ik.take i).map λs=>s.iw.name)&&decide (mO (c.ik.getD i default).iw)&&mN c.iv (c.ik.getD i default).locs&&Ao c (c.ik.getD i default).iw
def zB(c:ig):Bool:=kO c.ik.length (yC c)&&decide (c.ik.length≤8)
def ym(l:List ie):List UInt8→Option Bool:=λk=>if k∈l.map (λs=>s.iw.name)then some true else none
theorem aeE(l:List ie)(s:ie):Av (ym l) s.iw.name true=ym (l++[s]):=by
 funext k
 simp only[Av,ym,vM,qI,List.map_nil,mF,o8]
 by_cases h:k=s.iw.name
 ·simp[h]
 ·simp[h]
theorem ahS(c:ig)(hv:c.iv.length≤1073741824)(hc:c.chunks.length≤1073741824)(hr:uy c.chunks)(hl:c.ik.length≤1073741824)(h0:0≤c.seq)(h1:c.seq≤1073741824):oK c=some (zB c):=by
 unfold oK;rw[show((0:Int),(PO:List UInt8→Option Bool))=((λi:Nat=>((i:Int),ym (c.ik.take i))) 0)from by simp[ym];rfl];rw[Vy (λi:Nat=>((i:Int),ym (c.ik.take i))) c.ik.length (yC c) (some (decide (c.ik.length≤8))) (some false) rfl (by omega) ?_ ?_]
 ·unfold zB;cases kO c.ik.length (yC c)<;>rfl
 ·intro rec i hi;simp only[oK.l2];rw[iZ (jl hi),iX hi,ij];have e1:c.ik.getD i default=c.ik[i]:=jo hi;simp only[Gf,ng,ij,PC _ _ hv,VF,ll (show(-9223372036854775808:Int)≤c.seq-1 by omega) (by omega)];have hm:(ym (c.ik.take i) c.ik[i].iw.name).getD false=decide (c.ik[i].iw.name∈(c.ik.take i).map λs=>s.iw.name):=by
   unfold ym
   by_cases h:c.ik[i].iw.name∈(c.ik.take i).map λs=>s.iw.name
   ·rw[if_pos h,decide_eq_true h];rfl
   ·rw[if_neg h,decide_eq_false h];rfl
  rw[hm];have sV:mO c.ik[i].iw→loop (oK.l4 c (i:Int) (ym (c.ik.take i)) rec c.ik[i]) 0=if Ao c c.ik[i].iw=true then rec (((i+1:Nat):Int),ym (c.ik.take (i+1)))else some false:=by
   intro D3;refine vD c.ik[i].iw.parts.length _ _ _ (by have:=D3.2.1;omega) ?_ ?_
   ·intro n9 j hj;simp only[oK.l4];rw[iZ (jl hj),iX hj,ij,jo hj];have H5:c.ik[i].iw.parts[j].ids.length≤25:=(IN (Ej D3 _ (jF hj))).2.2.2.1;refine vD c.ik[i].iw.parts[j].ids.length _ _ _ (by omega) ?_ ?_
    ·intro IZ k hk;simp only[oK.l6];rw[iZ (jl hk),iX hk,ij,P7 _ _ hc hr,ij,jo hk,ja (by omega)];exact ite_not rfl
    ·intro IZ;simp only[oK.l6,oK.k5];rw[iR (jk (jr _)),ja (by have:=D3.2.1;omega)]
   ·intro n9;simp only[oK.l4,oK.k3];rw[iR (jk (jr _)),ja (by omega),aeE,ou hi]
  have key:∀(o:Bool),(if((((!j6 c.ik[i].seq 0 (c.seq-1)||o)||decide (c.ik[i].iw.name∈(c.ik.take i).map λs=>s.iw.name))||decide ((if(!((!j6 c.ik[i].seq 0 (c.seq-1)||o)||decide (c.ik[i].iw.name∈(c.ik.take i).map λs=>s.iw.name)))=true then(if mO c.ik[i].iw then(0:Int)else 1)else 0)≠0)) || !(if(!(((!j6 c.ik[i].seq 0 (c.seq-1)||o)||decide (c.ik[i].iw.name∈(c.ik.take i).map λs=>s.iw.name))||decide ((if(!((!j6 c.ik[i].seq 0 (c.seq-1)||o)||decide (c.ik[i].iw.name∈(c.ik.take i).map λs=>s.iw.name)))=true then(if mO c.ik[i].iw then(0:Int)else 1)else 0)≠0)))=true then mN c.iv c.ik[i].locs else false))=true then some false else loop (oK.l4 c (i:Int) (ym (c.ik.take i)) rec c.ik[i]) 0) =
    if(j6 c.ik[i].seq 0 (c.seq-1) && !o && !decide (c.ik[i].iw.name∈(c.ik.take i).map λs=>s.iw.name)&&decide (mO c.ik[i].iw)&&mN c.iv c.ik[i].locs&&Ao c c.ik[i].iw)=true then rec (((i+1:Nat):Int),ym (c.ik.take (i+1)))else some false:=by
   intro o
   by_cases D3:mO c.ik[i].iw
   ·rw[sV D3];simp only[D3,if_true,decide_true];generalize Ao c c.ik[i].iw=p;generalize mN c.iv c.ik[i].locs=q;generalize decide (c.ik[i].iw.name∈(c.ik.take i).map λs=>s.iw.name)=s;generalize j6 c.ik[i].seq 0 (c.seq-1)=u;cases o<;>cases p<;>cases q<;>cases s<;>cases u<;>rfl
   ·simp only[D3,if_false,decide_false];generalize Ao c c.ik[i].iw=p;generalize mN c.iv c.ik[i].locs=q;generalize decide (c.ik[i].iw.name∈(c.ik.take i).map λs=>s.iw.name)=s;generalize j6 c.ik[i].seq 0 (c.seq-1)=u;cases o<;>cases p<;>cases q<;>cases s<;>cases u<;>rfl
  by_cases oM:0<i
  ·have e2:ix c.ik (wr ((i:Int)-1))=some (c.ik.getD (i-1) default):=by
    rw[wB oM (by omega),iX (show i-1<c.ik.length by omega),jo (by omega)]
   have kP:decide ((0:Int)<(i:Int))=true:=decide_eq_true (by omega);rw[e2,kP];simp only[ng,ij,oP,zJ];have tR:∀z:ie,(!j6 c.ik[i].seq 0 (c.seq-1)||decide (c.ik[i].seq≤(if(!!j6 c.ik[i].seq 0 (c.seq-1))=true then c.ik.getD (i-1) default else z).seq))=(!j6 c.ik[i].seq 0 (c.seq-1) || !decide ((c.ik.getD (i-1) default).seq<c.ik[i].seq)):=by
    intro z;cases j6 c.ik[i].seq 0 (c.seq-1)with
    |false=>rfl
    |true =>
     simp only[nH,pF,if_true,nG]
     by_cases h:(c.ik.getD (i-1) default).seq<c.ik[i].seq
     ·rw[decide_eq_true h,decide_eq_false (by omega)];rfl
     ·rw[decide_eq_false h,decide_eq_true (by omega)];rfl
   rw[tR];refine(key _).trans ?_;unfold yC;rw[e1,decide_eq_true oM];simp only[B5,nH,nG]
  ·have kP:decide ((0:Int)<(i:Int))=false:=decide_eq_false (by omega);rw[kP];simp only[zI,tD,me,ij];refine(key _).trans ?_;unfold yC;rw[e1,decide_eq_false oM];rfl
 ·intro rec;simp only[oK.l2,oK.k1];rw[iR (jk (jr _))]
  congr 1
  by_cases h:c.ik.length≤8
  ·rw[decide_eq_true h,decide_eq_true (by omega)]
  ·rw[decide_eq_false h,decide_eq_false (by omega)]
def ye(c:ig)(i:Nat):Bool:=j6 (c.im.getD i default).seq 0 (c.seq-1)&&(!decide (0<i)||decide ((c.im.getD (i-1) default).seq<(c.im.getD i default).seq))&&j6 (c.im.getD i default).of 0 ((c.im.getD i default).seq-1)&&decide (0<(c.im.getD i default).locs.length)&&mN c.iv (c.im.getD i default).locs&&kO c.ik.length λk=>!decide ((c.ik.getD k default).seq=(c.im.getD i default).of)
def yW(c:ig):Bool:=kO c.im.length (ye c)&&decide (c.im.length≤200)
theorem aar(l:List ie)(x:iu)(hl:l.length≤1073741824):Mc l x=some (!kO l.length λk=>!decide ((l.getD k default).seq=x.of)):=by
 unfold Mc zA;rw[CK l.length (λk=>decide ((l.getD k default).seq=x.of)) (by omega) ?_ ?_,ij,KG]
 ·intro rec i hi;simp only[zA.l2];rw[iZ (jl hi),iX hi,ij,jo hi,ja (by omega)];rfl
 ·intro rec;simp only[zA.l2,zA.k1];rw[iR (jk (jr _))]
theorem aaJ(c:ig)(hv:c.iv.length≤1073741824)(hs:c.ik.length≤1073741824)(hl:c.im.length≤1073741824)(h0:0≤c.seq)(h1:c.seq≤1073741824):xQ c=some (yW c):=by
 unfold xQ;rw[vD c.im.length (ye c) (some (decide (c.im.length≤200))) (some false) (by omega) ?_ ?_]
 ·unfold yW;cases kO c.im.length (ye c)<;>rfl
 ·intro rec i hi;simp only[xQ.l2];rw[iZ (jl hi),iX hi,ij];have e1:c.im.getD i default=c.im[i]:=jo hi;simp only[Gf,ng,ij,PC _ _ hv,aar _ _ hs,ll (show(-9223372036854775808:Int)≤c.seq-1 by omega) (by omega),ja (show i<4611686018427387904 by omega)];have d2:decide ((c.im[i].locs.length:Int)=0) = !decide (0<c.im[i].locs.length):=by
   by_cases h:0<c.im[i].locs.length
   ·rw[decide_eq_true h,decide_eq_false (by omega)];rfl
   ·rw[decide_eq_false h,decide_eq_true (by omega)];rfl
  rw[d2];have hw:j6 c.im[i].seq 0 (c.seq-1)=true→wr (c.im[i].seq-1)=c.im[i].seq-1:=λh=>by
   obtain⟨q1,q2⟩:=tZ.1 h;exact ll (by omega) (by omega)
  have key:∀(o:Bool),(if((((!j6 c.im[i].seq 0 (c.seq-1)||o) || !(if(!(!j6 c.im[i].seq 0 (c.seq-1)||o))=true then j6 c.im[i].of 0 (wr (c.im[i].seq-1))else false)) || !decide (0<c.im[i].locs.length)) || !(if(!(((!j6 c.im[i].seq 0 (c.seq-1)||o) || !(if(!(!j6 c.im[i].seq 0 (c.seq-1)||o))=true then j6 c.im[i].of 0 (wr (c.im[i].seq-1))else false)) || !decide (0<c.im[i].locs.length)))=true then mN c.iv c.im[i].locs else false))=true then some false else if(!kO c.ik.length λk=>!decide ((c.ik.getD k default).seq=c.im[i].of))=true then some false else rec ((i+1:Nat):Int)) =
    if(j6 c.im[i].seq 0 (c.seq-1) && !o&&j6 c.im[i].of 0 (c.im[i].seq-1)&&decide (0<c.im[i].locs.length)&&mN c.iv c.im[i].locs&&kO c.ik.length λk=>!decide ((c.ik.getD k default).seq=c.im[i].of))=true then rec ((i+1:Nat):Int)else some false:=by
   intro o;cases sV:j6 c.im[i].seq 0 (c.seq-1)with
   |false=>rfl
   |true =>
    rw[hw sV];generalize(kO c.ik.length λk=>!decide ((c.ik.getD k default).seq=c.im[i].of))=p;generalize mN c.iv c.im[i].locs=q;generalize decide (0<c.im[i].locs.length)=s;generalize j6 c.im[i].of 0 (c.im[i].seq-1)=u;cases o<;>cases p<;>cases q<;>cases s<;>cases u<;>rfl
  by_cases oM:0<i
  ·have e2:ix c.im (wr ((i:Int)-1))=some (c.im.getD (i-1) default):=by
    rw[wB oM (by omega),iX (show i-1<c.im.length by omega),jo (by omega)]
   have kP:decide ((0:Int)<(i:Int))=true:=decide_eq_true (by omega);rw[e2,kP];simp only[ng,ij,oP,zJ];have tR:∀z:iu,(!j6 c.im[i].seq 0 (c.seq-1)||decide (c.im[i].seq≤(if(!!j6 c.im[i].seq 0 (c.seq-1))=true then c.im.getD (i-1) default else z).seq))=(!j6 c.im[i].seq 0 (c.seq-1) || !decide ((c.im.getD (i-1) default).seq<c.im[i].seq)):=by
    intro z;cases j6 c.im[i].seq 0 (c.seq-1)with
    |false=>rfl
    |true =>
     simp only[nH,pF,if_true,nG]
     by_cases h:(c.im.getD (i-1) default).seq<c.im[i].seq
     ·rw[decide_eq_true h,decide_eq_false (by omega)];rfl
     ·rw[decide_eq_false h,decide_eq_true (by omega)];rfl
   rw[tR];refine(key _).trans ?_;unfold ye;rw[e1,decide_eq_true oM];simp only[B5,nH,nG]
  ·have kP:decide ((0:Int)<(i:Int))=false:=decide_eq_false (by omega);rw[kP];simp only[zI,tD,me,ij];refine(key _).trans ?_;unfold ye;rw[e1,decide_eq_false oM];rfl
 ·intro rec;simp only[xQ.l2,xQ.k1];rw[iR (jk (jr _))]
  congr 1
  by_cases h:c.im.length≤200
  ·rw[decide_eq_true h,decide_eq_true (by omega)]
  ·rw[decide_eq_false h,decide_eq_false (by omega)]
def pK(c:ig):Bool:=j6 c.seq 0 1073741824&&zD c.iv&&wZ c&&zB c&&yW c
theorem NQ(c:ig)(hv:c.iv.length≤1073741824)(hc:c.chunks.length≤1073741824)(hs:c.ik.length≤1073741824)(he:c.im.length≤1073741824):Fy c=some (if pK c=true then 0 else 1):=by
 unfold Fy pK;rw[Gf,ij,aiQ _ hv,ng,ij,aac _ hv hc,ng,ij];cases h1:j6 c.seq 0 1073741824 with
 |false=>rfl
 | true =>
  obtain⟨s0,s1⟩:=tZ.1 h1;rw[aaJ c hv hs he s0 s1];cases h2:zD c.iv with
  |false=>rfl
  | true =>
   cases h3:wZ c with
   |false=>rfl
   |true =>
    rw[ahS c hv hc (TC h3) hs s0 s1];cases h4:zB c with
    |false=>rfl
    |true=>cases h5:yW c<;>rfl
end Go.Wk.Lf
end
section
namespace Go.Wk.Lf
open Go.V Go.Sort Go.Proofs
theorem GA{α:Type}[DecidableEq α][Inhabited α]{F:(Int→Option Bool)→Int→Option Bool}{a b:List α}(hn:a.length<4611686018427387904)
  (nU:∀rec(i:Nat)(h1:i<a.length)(h2:i<b.length),F rec (i:Int)=if decide (a[i]=b[i])=true then rec ((i+1:Nat):Int)else some false) (oB:∀rec,F rec (a.length:Int)=some true) :
  (if decide ((a.length:Int)≠(b.length:Int))=true then some false else loop F 0)=some (decide (a=b)):=by
 by_cases hl:a.length=b.length
 ·rw[iR (decide_eq_false (by omega)),vD a.length (λi=>decide (a.getD i default=b.getD i default)) (some true) (some false) hn ?_ oB]
  ·by_cases h:a=b
   ·subst h;rw[if_pos (oI.2 λi hi=>by simp),decide_eq_true rfl]
   ·rw[if_neg ?_,decide_eq_false h];intro q;refine h (JJ hl λi h1 h2=>?_);have:=oI.1 q i h1;rw[jo h1,jo h2]at this;exact of_decide_eq_true this
  ·intro rec i hi;rw[nU rec i hi (by omega),jo hi,jo (show i<b.length by omega)]
 ·rw[iZ (decide_eq_true (by omega)),decide_eq_false λh=>hl (by rw[h])]
theorem adL(a b:List UInt8)(h:a.length≤1073741824):xS a b=some (decide (a=b)):=by
 unfold xS;refine GA (by omega) (λrec i h1 h2=>?_) (λrec=>?_)
 ·simp only[xS.l2];rw[iZ (jl h1),iX h1,ij,iX h2,ij,ja (by omega)];refine ite_not ?_
  by_cases h:a[i]=b[i]
  ·simp[h]
  ·have:(a[i].toNat:Int)≠(b[i].toNat:Int):=λq=>h (UInt8.toNat_inj.1 (by omega));simp[h,this]
 ·simp only[xS.l2,xS.k1];rw[iR (jk (jr _))]
theorem adQ(a b:List (List UInt8))(h:a.length≤1073741824):xU a b=some (decide (a=b)):=by
 unfold xU;refine GA (by omega) (λrec i h1 h2=>?_) (λrec=>?_)
 ·simp only[xU.l2];rw[iZ (jl h1),iX h1,ij,iX h2,ij,ja (by omega)];exact ite_not rfl
 ·simp only[xU.l2,xU.k1];rw[iR (jk (jr _))]
theorem adV(a b:Loc):Ki a b=some (decide (a=b)):=by
 unfold Ki
 congr 1
 obtain⟨a1,a2,a3,a4⟩:=a;obtain⟨b1,b2,b3,b4⟩:=b;simp only[Loc.mk.injEq,EF];cases decide (a1=b1)<;>cases decide (a2=b2)<;>cases decide (a3=b3)<;>rfl
theorem Pv(a b:List Loc)(h:a.length≤1073741824):vW a b=some (decide (a=b)):=by
 unfold vW;refine GA (by omega) (λrec i h1 h2=>?_) (λrec=>?_)
 ·simp only[vW.l2];rw[iZ (jl h1),iX h1,ij,iX h2,ij,adV,ij,ja (by omega)];exact ite_not rfl
 ·simp only[vW.l2,vW.k1];rw[iR (jk (jr _))]
theorem adY(a b:List iz)(h:a.length≤1073741824):xX a b=some (decide (a=b)):=by
 unfold xX;refine GA (by omega) (λrec i h1 h2=>?_) (λrec=>?_)
 ·simp only[xX.l2];rw[iZ (jl h1),iX h1,ij,iX h2,ij,ja (by omega)];refine ite_not ?_;generalize a[i]=x;generalize b[i]=y;obtain⟨a1,a2,a3,a4⟩:=x;obtain⟨b1,b2,b3,b4⟩:=y;simp only[iz.mk.injEq,EF,ne_eq,decide_not];cases decide (a1=b1)<;>cases decide (a2=b2)<;>cases decide (a3=b3)<;>rfl
 ·simp only[xX.l2,xX.k1];rw[iR (jk (jr _))]
def QJ(x:Chunk):Prop:=x.data.length≤1073741824∧x.locs.length≤1073741824
def QK(m:iF):Prop:=m.parts.length≤1073741824 ∧ ∀p∈m.parts,p.ids.length≤1073741824
def W0(s:ie):Prop:=QK s.iw∧s.locs.length≤1073741824
def QI(c:ig):Prop:=c.iv.length≤1073741824∧(c.chunks.length≤1073741824 ∧ ∀x∈c.chunks,QJ x)∧(c.ik.length≤1073741824 ∧ ∀s∈c.ik,W0 s)∧c.im.length≤1073741824 ∧ ∀x∈c.im,x.locs.length≤1073741824
theorem Cn{p:Bool}{o:Option Bool}{q:Bool}(h:o=some q):only p o false=some (p&&q):=by
 subst h;cases p<;>rfl
theorem adW(a b:iF)(h:QK a):xV a b=some (decide (a=b)):=by
 unfold xV;obtain⟨an,ap⟩:=a;obtain⟨bn,bp⟩:=b
 by_cases hn:an=bn
 ·subst hn;simp only[beq_self_eq_true,nH,nG,iF.mk.injEq,true_and];refine GA (by have:=h.1;simp only at this;omega) (λrec i h1 h2=>?_) (λrec=>?_)
  ·simp only[xV.l2];have hi:=h.2 ap[i] (jF h1);rw[iZ (jl h1),iX h1,ij,iX h2,ij,Cn (adQ _ _ hi),ij,ja (by have:=h.1;simp only at this;omega)];refine ite_not ?_;generalize ap[i]=x;generalize bp[i]=y;obtain⟨a1,a2,a3⟩:=x;obtain⟨b1,b2,b3⟩:=y;simp only[Part.mk.injEq,EF,ne_eq,decide_not];have:(a1==b1)=decide (a1=b1):=by rw[GQ];simp
   rw[this];cases decide (a1=b1)<;>cases decide (a2=b2)<;>cases decide (a3=b3)<;>rfl
  ·simp only[xV.l2,xV.k1];rw[iR (jk (jr _))]
 ·rw[iZ (by simp[hn]),decide_eq_false λq=>hn (iF.mk.inj q).1]
theorem adX(a b:ie)(h:W0 a):Kj a b=some (decide (a=b)):=by
 unfold Kj;rw[Cn (adW _ _ h.1),ij,Cn (Pv _ _ h.2),ij]
 congr 1
 obtain⟨a1,a2,a3⟩:=a;obtain⟨b1,b2,b3⟩:=b;simp only[ie.mk.injEq,EF];cases decide (a1=b1)<;>cases decide (a2=b2)<;>cases decide (a3=b3)<;>rfl
theorem adN(a b:Chunk)(h:QJ a):Kh a b=some (decide (a=b)):=by
 unfold Kh;rw[Cn (adL _ _ h.1),ij,Cn (Pv _ _ h.2),ij]
 congr 1
 obtain⟨a1,a2,a3,a4⟩:=a;obtain⟨b1,b2,b3,b4⟩:=b;simp only[Chunk.mk.injEq,EF];have:(a2==b2)=decide (a2=b2):=by cases a2<;>cases b2<;>rfl
 rw[this];cases decide (a1=b1)<;>cases decide (a2=b2)<;>cases decide (a3=b3)<;>cases decide (a4=b4)<;>rfl
theorem adO(a b:List Chunk)(h:a.length≤1073741824)(hs:∀x∈a,QJ x):xT a b=some (decide (a=b)):=by
 unfold xT;refine GA (by omega) (λrec i h1 h2=>?_) (λrec=>?_)
 ·simp only[xT.l2];rw[iZ (jl h1),iX h1,ij,iX h2,ij,adN _ _ (hs _ (jF h1)),ij,ja (by omega)];exact ite_not rfl
 ·simp only[xT.l2,xT.k1];rw[iR (jk (jr _))]
def Er(a b:ig):Prop:=a.ik=b.ik∧a.chunks=b.chunks∧a.im=b.im∧a.iv=b.iv
instance(a b : ig) : Decidable (Er a b) := by unfold Er; infer_instance
theorem VA{α:Type}[DecidableEq α][Inhabited α]{F:(Int→Option Bool)→Int→Option Bool}{a b:List α}{K:Option Bool}(hl:a.length=b.length)(hn:a.length<4611686018427387904)
  (nU:∀rec(i:Nat)(h1:i<a.length)(h2:i<b.length),F rec (i:Int)=if decide (a[i]=b[i])=true then rec ((i+1:Nat):Int)else some false) (oB:∀rec,F rec (a.length:Int)=K) :
  loop F 0=if decide (a=b)=true then K else some false:=by
 rw[vD a.length (λi=>decide (a.getD i default=b.getD i default)) K (some false) hn ?_ oB]
 ·by_cases h:a=b
  ·subst h;rw[if_pos (oI.2 λi hi=>by simp),iZ (decide_eq_true rfl)]
  ·rw[if_neg ?_,iR (decide_eq_false h)];intro q;refine h (JJ hl λi h1 h2=>?_);have:=oI.1 q i h1;rw[jo h1,jo h2]at this;exact of_decide_eq_true this
 ·intro rec i hi;rw[nU rec i hi (by omega),jo hi,jo (show i<b.length by omega)]
theorem adM(a b:ig)(h:QI a):si a b=some (decide (Er a b)):=by
 obtain⟨hv,⟨hc,DT⟩,⟨hs,Ip⟩,he,H0⟩:=h;unfold si;rw[Cn (adO _ _ hc DT),ij,Cn (adY _ _ hv),ij]
 by_cases l1:a.ik.length=b.ik.length
 ·by_cases l2:a.im.length=b.im.length
  ·have d1:(decide ((a.ik.length:Int)≠(b.ik.length:Int))||decide ((a.im.length:Int)≠(b.im.length:Int)))=false:=by
    rw[decide_eq_false (by omega),decide_eq_false (by omega)];rfl
   rw[d1]
   by_cases e1:a.chunks=b.chunks
   ·by_cases e2:a.iv=b.iv
    ·rw[decide_eq_true e1,decide_eq_true e2];simp only[nG,pF,oP,nH,sY,if_false];rw[VA (a:=a.ik) (b:=b.ik) (K:=if decide (a.im=b.im)=true then some true else some false) l1 (by omega) (λrec i h1 h2=>?_) (λrec=>?_)]
     ·by_cases e3:a.ik=b.ik
      ·by_cases e4:a.im=b.im
       ·rw[iZ (decide_eq_true e3),iZ (decide_eq_true e4),decide_eq_true (show Er a b from⟨e3,e1,e4,e2⟩)]
       ·rw[iZ (decide_eq_true e3),iR (decide_eq_false e4),decide_eq_false λq=>e4 q.2.2.1]
      ·rw[iR (decide_eq_false e3),decide_eq_false λq=>e3 q.1]
     ·simp only[si.l4];rw[iZ (jl h1),iX h1,ij,iX h2,ij,adX _ _ (Ip _ (jF h1)),ij,ja (by omega)];exact ite_not rfl
     ·simp only[si.l4,si.k1];rw[iR (jk (jr _))];refine VA (a:=a.im) (b:=b.im) l2 (by omega) (λrec i h1 h2=>?_) (λrec=>?_)
      ·simp only[si.l3];rw[iZ (jl h1),iX h1,ij,iX h2,ij,Cn (Pv _ _ (H0 _ (jF h1))),ij,ja (by omega)];refine ite_not ?_;generalize a.im[i]=x;generalize b.im[i]=y;obtain⟨a1,a2,a3⟩:=x;obtain⟨b1,b2,b3⟩:=y;simp only[iu.mk.injEq,EF,ne_eq,decide_not];cases decide (a1=b1)<;>cases decide (a2=b2)<;>cases decide (a3=b3)<;>rfl
      ·simp only[si.l3,si.k2];rw[iR (jk (jr _))]
    ·rw[decide_eq_false e2,decide_eq_false (show¬Er a b from λq=>e2 q.2.2.2)];simp
   ·rw[decide_eq_false e1,decide_eq_false (show¬Er a b from λq=>e1 q.2.1)];simp
  ·rw[iZ (by rw[decide_eq_true (show(a.im.length:Int)≠(b.im.length:Int) by omega)];simp),decide_eq_false λq=>l2 (by rw[q.2.2.1])]
 ·rw[iZ (by rw[decide_eq_true (show(a.ik.length:Int)≠(b.ik.length:Int) by omega)];simp),decide_eq_false λq=>l1 (by rw[q.1])]
theorem CN{α A:Type}{F:(Int×List α→Option A)→Int×List α→Option A}(l:List α)(g:α→α)(K:List α→Option A)(hn:l.length<4611686018427387904)
  (nU:∀rec(i:Nat)(m:List α)(hi:i<l.length)(hm:m.length=l.length),m[i]? =some l[i]→F rec ((i:Int),m)=rec (((i+1:Nat):Int),m.set i (g l[i]))) (oB:∀rec m,m.length=l.length→F rec ((l.length:Int),m)=K m):loop F (0,l)=K (l.map g):=by
 refine nV (σ:=List α) (λi m=>((i:Int),m)) l.length (λi m=>m=(l.take i).map g++l.drop i) _ (i0:=0) (s0:=l) rfl (ju _) (by simp) hn ?_ ?_
 ·intro rec i m hi hI jh;have uM:m.length=l.length:=by rw[hI];simp;omega
  have K5:m[i]? =some l[i]:=by
   rw[hI,nq (by simp;omega)];simp[xG (uw hi),hi]
  rw[nU rec i m hi uM K5];refine jh _ ?_;rw[hI,List.set_append_right _ _ (by simp;omega),ou hi,vM,pG]
  congr 1
  rw[sH,kX,xG (uw hi),Nat.sub_self,Dr hi];rfl
 ·intro rec m hI;have uM:m.length=l.length:=by rw[hI];simp
  rw[oB rec m uM,hI,ow,EW,rY]
theorem yS{α:Type}(l:List α)(hl:l.length≤1073741824):(bd (app (α:=α) ([]:List α) l) λl6=>some l6)=some l:=by
 rw[ki (by simpa using hl),ij,wM]
theorem wk{α:Type}{m:List α}{i:Nat}{x:α}(h:m[i]? =some x):ix m (i:Int)=some x:=h
theorem ail(m:iF)(h:QK m):xO m=some m:=by
 unfold xO QE;rw[yS _ h.1,ij,CN m.parts id (λl=>some (iF.mk m.name l)) (by have:=h.1;omega) ?_ ?_,MU]
 ·intro rec i l hi hm hx;simp only[xO.l2];rw[iZ (jl hi),wk hx,ij,TD _ (h.2 _ (jF hi)),ij,ja (by have:=h.1;omega)];rfl
 ·intro rec l hl;simp only[xO.l2,xO.k1];rw[iR (jk (jr _))]
theorem Xl(c:ig)(h:QI c):ox c=some c:=by
 obtain⟨hv,⟨hc,DT⟩,⟨hs,Ip⟩,he,H0⟩:=h;unfold ox QF QC QD Ji;rw[yS _ hs,ij,yS _ hc,ij,yS _ he,ij,yS _ hv,ij];have k3:∀(sn:List ie)(ch:List Chunk),ox.k2 c c.im c.iv sn ch=some (ig.mk c.seq sn ch c.im c.iv):=by
  intro sn ch;unfold ox.k2;rw[CN c.im id (λl=>some (ig.mk c.seq sn ch l c.iv)) (by omega) ?_ ?_,MU]
  ·intro rec i l hi hm hx;simp only[ox.l4,AM];rw[iZ (jl hi),wk hx,ij,yS _ (H0 _ (jF hi)),ij,ja (by omega)];rfl
  ·intro rec l hl;simp only[ox.l4,ox.k3];rw[iR (jk (jr _))]
 have k2:∀(sn:List ie),ox.k1 c c.chunks c.im c.iv sn=some (ig.mk c.seq sn c.chunks c.im c.iv):=by
  intro sn;unfold ox.k1;rw[CN c.chunks id (λl=>some (ig.mk c.seq sn l c.im c.iv)) (by omega) ?_ ?_,MU]
  ·intro rec i l hi hm hx;simp only[ox.l5,AM];have hk:=DT _ (jF hi);rw[iZ (jl hi),wk hx,ij,aad _ hk.1,ij,yS _ hk.2,ij,ja (by omega),G5];rfl
  ·intro rec l hl;simp only[ox.l5];rw[iR (jk (jr _))];exact k3 sn l
 rw[CN c.ik id (λl=>some (ig.mk c.seq l c.chunks c.im c.iv)) (by omega) ?_ ?_,MU]
 ·intro rec i l hi hm hx;simp only[ox.l6,AM];have hk:=Ip _ (jF hi);rw[iZ (jl hi),wk hx,ij,ail _ hk.1,ij,yS _ hk.2,ij,ja (by omega),G5];rfl
 ·intro rec l hl;simp only[ox.l6];rw[iR (jk (jr _))];exact k2 l
theorem Kc{c:ig}(h:pK c=true):QI c:=by
 unfold pK zD wZ zB yW at h;simp only[jK,decide_eq_true_eq,oI,tZ]at h;obtain⟨⟨⟨⟨_,_,_,hv⟩,hc,lT⟩,hs,U0⟩,he,hel⟩:=h;have D1:∀l,mN c.iv l=true→l.length≤1073741824:=λl h=>by
  unfold mN at h;rw[jK,decide_eq_true_eq]at h;omega
 refine⟨by omega,⟨by omega,λx hx=>?_⟩,⟨by omega,λx hx=>?_⟩,by omega,λx hx=>?_⟩
 ·obtain⟨i,hi,rfl⟩:=my hx;have:=hc i hi;unfold tN Bg at this;rw[jo hi]at this;simp only[jK]at this;refine⟨?_,D1 _ this.1.2⟩;have h2:=this.2
  split at h2
  ·have:=tZ.1 h2;omega
  ·simp only[jK,decide_eq_true_eq]at h2;omega
 ·obtain⟨i,hi,rfl⟩:=my hx;have:=hs i hi;unfold yC at this;rw[jo hi]at this;simp only[jK,decide_eq_true_eq]at this;have hm:=this.1.1.2;exact⟨⟨by have:=hm.2.1;omega,λp hp=>by have:=(IN (Ej hm p hp)).2.2.2.1;omega⟩,D1 _ this.1.2⟩
 ·obtain⟨i,hi,rfl⟩:=my hx;have:=he i hi;unfold ye at this;rw[jo hi]at this;simp only[jK,decide_eq_true_eq]at this;exact D1 _ this.1.2
end Go.Wk.Lf
end
section
namespace Go.Wk.Lf
open Go.V Go.Sort Go.Proofs
theorem Mj{n m:Nat}(hn:n<256)(hm:m<256)(h:jC (n:Int)=jC (m:Int)):n=m:=by
 rw[←Jj hn,h,Jj hm]
theorem T8:∀(a b:List (List UInt8))(r s:List UInt8),a.length=b.length→(∀x∈a,x.length=32)→(∀x∈b,x.length=32)→a.flatten++r=b.flatten++s→a=b∧r=s
 |[],[],r,s,_,_,_,h=>⟨rfl,h⟩
 |x::a,y::b,r,s,hl,ha,hb,h=>by
  simp only[o7,pG]at h;obtain⟨h1,h2⟩:=MN h (by rw[ha x (by simp),hb y (by simp)]);obtain⟨h3,h4⟩:=T8 a b r s (by simpa using hl) (λz hz=>ha z (by simp[hz])) (λz hz=>hb z (by simp[hz])) h2;exact⟨by rw[h1,h3],h4⟩
 |[],_::_,_,_,hl,_,_,_=>by simp at hl
 |_::_,[],_,_,hl,_,_,_=>by simp at hl
theorem abM{p q:List UInt8}{n n' k k':Nat}{r s:List UInt8}(hp:p.length<256)(hq:q.length<256)(hn:n<65536)(tU:n'<65536)(hk:k<256)(om:k'<256)(h:Bp p n k++r=Bp q n' k'++s):p=q∧n=n'∧k=k'∧r=s:=by
 simp only[Bp,pG,List.singleton_append,G1,wM,EU]at h;obtain⟨h1,h2⟩:=h;have h3:=Mj hp hq h1;obtain⟨h4,h5⟩:=MN h2 h3;obtain⟨h6,h7⟩:=MN h5 rfl;simp only[EU]at h7;refine⟨h4,?_,Mj hk om h7.1,h7.2⟩;rw[←Nv hn,h6,Nv tU]
theorem afh{p q:Part}{r s:List UInt8}(hp:C8 p)(hq:C8 q)(h:qY p++r=qY q++s):p=q∧r=s:=by
 obtain⟨p1,p2,p3,p4,p5⟩:=hp;obtain⟨q1,q2,q3,q4,q5⟩:=hq;obtain⟨n,hn⟩:=RJ p2;obtain⟨m,hm⟩:=RJ q2;rw[LI p n hn,LI q m hm,pG,pG]at h;obtain⟨h1,h2,h3,h4⟩:=abM p1 q1 (by omega) (by omega) p4 q4 h;obtain⟨h5,h6⟩:=T8 _ _ _ _ h3 p5 q5 h4;obtain⟨a1,a2,a3⟩:=p;obtain⟨b1,b2,b3⟩:=q;simp only at h1 h5 hn hm;exact⟨by rw[h1,h5,hn,hm,h2],h6⟩
theorem VW:∀(a b:List Part)(r s:List UInt8),a.length=b.length→(∀p∈a,C8 p)→(∀p∈b,C8 p)→a.flatMap qY++r=b.flatMap qY++s→a=b∧r=s
 |[],[],r,s,_,_,_,h=>⟨rfl,h⟩
 |x::a,y::b,r,s,hl,ha,hb,h=>by
  simp only[EY,pG]at h;obtain⟨h1,h2⟩:=afh (ha x (by simp)) (hb y (by simp)) h;obtain⟨h3,h4⟩:=VW a b r s (by simpa using hl) (λz hz=>ha z (by simp[hz])) (λz hz=>hb z (by simp[hz])) h2;exact⟨by rw[h1,h3],h4⟩
 |[],_::_,_,_,hl,_,_,_=>by simp at hl
 |_::_,[],_,_,hl,_,_,_=>by simp at hl
theorem aeq{a b:iF}{r s:List UInt8}(ha:mO a)(hb:mO b)(ka:xr a)(kb:xr b)(h:vE a++r=vE b++s):a=b∧r=s:=by
 obtain⟨a1,a2⟩:=PG ha;obtain⟨b1,b2⟩:=PG hb;simp only[vE,pG,List.singleton_append,G1,wM,EU]at h;obtain⟨h1,h2⟩:=h;obtain⟨h4,h5⟩:=MN h2 (Mj a1 b1 h1);simp only[EU]at h5;obtain⟨h6,h7⟩:=VW _ _ _ _ (Mj a2 b2 h5.1) (λp hp=>QZ (Ej ha p hp) (ka p hp)) (λp hp=>QZ (Ej hb p hp) (kb p hp)) h5.2;obtain⟨an,ap⟩:=a;obtain⟨bn,bp⟩:=b;simp only at h4 h6;exact⟨by rw[h4,h6],h7⟩
theorem adE{b:List UInt8}{m m':iF}(h:zh b m)(h':zh b m'):m=m' :=
 (aeq (r:=[]) (s:=[]) h.1 h'.1 h.2.1 h'.2.1 (by rw[rY,rY,←h.2.2,h'.2.2])).1
theorem V6{b:List UInt8}{m:iF}(h:zh b m):rS b=(m,0):=by
 unfold rS;have hex:∃m,zh b m:=⟨m,h⟩
 rw[dif_pos hex,adE hex.choose_spec h]
theorem afH{b:List UInt8}(h:¬∃m,zh b m):rS b=(⟨[],[]⟩,3):=by
 unfold rS;rw[dif_neg h]
theorem afG(b:List UInt8):(∃m,zh b m∧rS b=(m,0))∨(¬∃m,zh b m)∧rS b=(⟨[],[]⟩,3):=by
 by_cases h:∃m,zh b m
 ·obtain⟨m,hm⟩:=h;exact .inl ⟨m,hm,V6 hm⟩
 ·exact .inr ⟨h,afH h⟩
end Go.Wk.Lf
end
section
namespace Go.Wk.Lf
open Go.V Go.Sort Go.Proofs
def rF(vs:List iz):ig:=⟨0,[],[],[],vs⟩
end Go.Wk.Lf
end
section
namespace Go.Wk.Lf
open Go.V Go.Sort Go.Proofs
theorem Xu:Kq=some true:=by decide+kernel
end Go.Wk.Lf
end
section
namespace Go.Wk.Lf
open Go.V Go.Sort Go.Proofs
theorem Ys(x:Int):bits .and .i64 x 1=0∨bits .and .i64 x 1=1:=by
 have h2:(pv 64 (1:Int)).toNat=1:=by decide
 have h:bits .and .i64 x 1=(((pv 64 x).toNat%2:Nat):Int):=by
  show yE.wrap ((pv 64 x &&& pv 64 (1:Int)).toNat:Int)=_;rw[BitVec.toNat_and,h2,Nat.and_one_is_mod];exact ll (by omega) (by omega)
 rw[h];omega
theorem afq(l:List Int)(hl:l.length≤1073741824):∃p:List Int,tL l=some p∧1≤p.length∧p.length≤8 ∧ ∀x∈p,x=0∨x=1:=by
 unfold tL;refine IB (σ:=List Int) (λi m=>(m,(i:Int))) (min l.length 8) (λi m=>m.length=i ∧ ∀x∈m,x=0∨x=1) (λo=>∃p:List Int,o=some p∧1≤p.length∧p.length≤8 ∧ ∀x∈p,x=0∨x=1) (i0:=0) (s0:=[]) rfl (ju _) ⟨rfl,λx hx=>by cases hx⟩ (by omega) ?_ ?_
 ·intro rec i m hi hI jh;simp only[tL.l3];have jU:i<l.length:=by omega
  rw[iZ (by rw[jl jU,decide_eq_true (show(i:Int)<8 by omega)];rfl),iX jU,ij,ki (by simp;omega),ij,ja (by omega)];refine jh _ ⟨by simp[hI.1],λx hx=>?_⟩;rcases mF.1 hx with hx|hx
  ·exact hI.2 x hx
  ·obtain rfl:=o8.1 hx;exact Ys _
 ·intro rec m hI;simp only[tL.l3];have hc:(decide (((min l.length 8:Nat):Int)<(l.length:Int))&&decide (((min l.length 8:Nat):Int)<8))=false:=by
   by_cases h:l.length≤8
   ·rw[decide_eq_false (by omega)];rfl
   ·rw[decide_eq_false (show¬((min l.length 8:Nat):Int)<8 by omega),zI]
  rw[iR hc];unfold tL.k1 tL.k2
  by_cases h0:m.length=0
  ·rw[iZ (decide_eq_true (by omega))];exact⟨[0],rfl,by simp,by simp,λx hx=>by simp at hx;exact .inl hx⟩
  ·rw[iR (decide_eq_false (by omega))];exact⟨m,rfl,by omega,by omega,hI.2⟩
def tA(p:List Int):List iz:=p.map λx=>iz.mk x 0 1 0
theorem aeI(p:List Int)(h1:1≤p.length)(h8:p.length≤8)(hp:∀x∈p,x=0∨x=1):pK (rF (tA p))=true:=by
 have hv:zD (tA p)=true:=by
  unfold zD;rw[jK,j9];refine⟨λv hv=>?_,tZ.2 (by simp[tA];omega)⟩;obtain⟨x,hx,rfl⟩:=qJ.1 hv;rcases hp x hx with rfl|rfl<;>decide
 unfold pK;rw[show(rF (tA p)).iv=tA p from rfl,hv];rfl
end Go.Wk.Lf
end
section
namespace Go.Wk.Lf
open Go.V Go.Sort Go.Proofs
def zn(l:List jd):Bool:=decide (6<l.length)||l.any λf=>decide (200<f.data.length)
theorem PE{l:List jd}(h:zn l=false):l.length≤6 ∧ ∀f∈l,f.data.length≤200:=by
 simp only[zn,GR,decide_eq_false_iff_not,Dp]at h;exact⟨by omega,λf hf=>by have:=h.2 f hf;simp at this;omega⟩
def wP(l:List jd):Bool:=l.any λf=>!oX f.path
def wz(l:List jd):Prop:=l.Pairwise λa b=>jt a.path b.path=true
theorem Wl(l:List jd):wz l ↔ ∀i(h:i<l.length),0<i→jt (l[i-1]'(by omega)).path l[i].path=true:=by
 unfold wz;constructor
 ·intro h i hi h0;exact xA.1 h (i-1) i (by omega) hi (by omega)
 ·intro h;rw[xA];intro i j hi hj th
  induction j with
  |zero=>omega
  |succ j ih =>
   have h1:=h (j+1) hj (by omega);rcases(by omega:i=j∨i<j)with rfl|h2
   ·exact h1
   ·exact xt (ih (by omega) h2) h1
instance(l : List jd) : Decidable (wz l) := by unfold wz; infer_instance
def HD(l:List jd):Int:=if zn l=true then 2 else if wP l=false∧wz l then 0 else 1
theorem aek{S A:Type}{F:(S→Option A)→S→Option A}(mk:Nat→S)(n:Nat)(ok:Nat→Bool)(K B:Option A){x0:S}(hx:x0=mk 0)(hn:n<9223372036854775808)
  (nU:∀rec i,i<n→F rec (mk i)=if ok i=true then rec (mk (i+1))else B) (oB:∀rec,F rec (mk n)=K):loop F x0=if(∀i,i<n→ok i=true)then K else B:=by
 subst hx;refine Vm (σ:=Unit) (λi _=>mk i) n (λi _=>∀j,j<i→ok j=true) (λo=>o=if(∀i,i<n→ok i=true)then K else B) ?_ ?_ _ 0 () (ju _) (by omega) (by intro j h;omega)
 ·intro rec i _ hi hI jh;rw[nU rec i hi]
  by_cases h:ok i=true
  ·rw[if_pos h];exact jh () λj hj=>by
    rcases(by omega:j<i∨j=i)with h1|rfl
    ·exact hI j h1
    ·exact h
  ·rw[if_neg h,if_neg λnS=>h (nS i hi)]
 ·intro rec _ hI;rw[oB,if_pos hI]
theorem I0(s:List UInt8)(hl:s.length<9223372036854775808):uD s=some (oX s):=by
 unfold uD oX;rw[aek (x0:=(0:Int)) (λi=>(i:Int)) s.length (λi=>seen (s.getD i 0)) (some (decide (1≤s.length)&&decide (s.length≤20))) (some false) rfl hl ?_ ?_]
 ·by_cases h:s.all seen=true
  ·rw[h,if_pos ((DB s seen _ λi hi=>by simp[hi]).2 h),zJ]
  ·rw[zK]at h;rw[h,if_neg λh3=>by rw[(DB s seen _ λi hi=>by simp[hi]).1 h3]at h;cases h];rw[zI]
 ·intro rec i hi;simp only[uD.l2];rw[iZ (jl hi),iX hi,ij];simp only[hi,pR,jx,sd,seen]
  by_cases Ow:(s[i].toNat:Int)<33
  ·rw[me (by simp;omega),ij,if_pos (by simp[Ow])];rw[if_neg (by simp only[jK,decide_eq_true_eq];omega)]
  ·rw[jX (by simp;omega),ij]
   by_cases Ot:(126:Int)<(s[i].toNat:Int)
   ·rw[if_pos (by simp[Ot]),if_neg (by simp only[jK,decide_eq_true_eq];omega)]
   ·rw[if_neg (by simp only[rW,decide_eq_true_eq];omega),if_pos (by simp only[jK,decide_eq_true_eq];omega),show wr ((i:Int)+1)=((i+1:Nat):Int)from by rw[ll (by omega) (by omega)];rfl]
 ·intro rec;simp only[uD.l2,uD.k1];rw[iR (jk (jr _))]
  congr 2
  ·simp;omega
  ·simp;omega
theorem We(l:List jd)(hl:l.length<9223372036854775808):wW l=some (zn l):=by
 unfold wW zn
 by_cases h:6<l.length
 ·rw[if_pos (by simp;omega)];simp[h]
 ·rw[if_neg (by simp;omega)];rw[Eh (x0:=(0:Int)) (λi=>(i:Int)) l.length (λi=>!decide (200<(l.getD i default).data.length)) (some false) (some true) rfl (by omega) ?_ ?_]
  ·simp only[h,decide_false,nG];have nS:=DB l (λf=>!decide (200<f.data.length)) (λi=>!decide (200<(l.getD i default).data.length)) (λi hi=>by simp[hi])
   by_cases ha:l.all (λf=>!decide (200<f.data.length))=true
   ·rw[if_pos (nS.2 ha)]
    congr 1
    rw[eq_comm,Dp];intro x hx;have:=j9.1 ha x hx;simpa using this
   ·rw[if_neg λq=>ha (nS.1 q)]
    congr 1
    rw[zK,List.all_eq_false]at ha;obtain⟨x,hx,q⟩:=ha;rw[eq_comm,RQ];exact⟨x,hx,by simpa using q⟩
  ·intro rec i hi;simp only[wW.l2];rw[iZ (jl hi),iX hi,ij];simp only[pR,jx hi,sd]
   by_cases h2:200<l[i].data.length
   ·rw[if_pos (by simp;omega),if_neg (by simp;omega)]
   ·rw[if_neg (by simp;omega),if_pos (by simp;omega),ja (by omega)]
  ·intro rec;simp only[wW.l2,wW.k1];rw[iR (jk (jr _))]
theorem afU(l:List jd)(K2:l.length<9223372036854775808)(hp:∀f∈l,f.path.length<9223372036854775808):xZ l=some (HD l):=by
 unfold xZ;rw[We l K2,ij];unfold HD;cases hL:zn l with
 |true=>rfl
 | false =>
  obtain⟨hl,hd⟩:=PE hL;simp only[sY,if_false];rw[Eh (x0:=(0:Int)) (λi=>(i:Int)) l.length (λi=>oX (l.getD i default).path&&(!decide (0<i)||jt (l.getD (i-1) default).path (l.getD i default).path)) (some 0) (some 1) rfl (by omega) ?_ ?_]
  ·have CF:(∀i,i<l.length→(oX (l.getD i default).path&&(!decide (0<i)||jt (l.getD (i-1) default).path (l.getD i default).path))=true)↔(wP l=false∧wz l):=by
    constructor
    ·intro h;refine⟨?_,(Wl l).2 λi hi h0=>?_⟩
     ·unfold wP;rw[Dp];intro x hx;obtain⟨j,hj,rfl⟩:=my hx;have h1:=h j hj;simp only[pR,jx hj,sd,jK]at h1;simp[h1.1]
     ·have h1:=h i hi;have lY:i-1<l.length:=by omega
      simp only[pR,jx hi,jx lY,sd,jK,h0,decide_true,nH,nG]at h1;exact h1.2
    ·rintro⟨h1,h2⟩ i hi;unfold wP at h1;rw[Dp]at h1;have h3:=h1 _ (jF hi);simp only[tE,Bool.not_eq_false]at h3;simp only[pR,jx hi,sd,h3,oP]
     by_cases h0:0<i
     ·have lY:i-1<l.length:=by omega
      simp only[jx lY,sd,h0,decide_true,nH,nG];exact(Wl l).1 h2 i hi h0
     ·simp[h0]
   by_cases h:wP l=false∧wz l
   ·rw[if_pos h,if_pos (CF.2 h)]
   ·rw[if_neg h,if_neg λh2=>h (CF.1 h2)]
  ·intro rec i hi;simp only[xZ.l2];rw[iZ (jl hi),iX hi,ij,I0 _ (hp _ (jF hi)),ij];simp only[pR,jx hi,sd];cases hN:oX l[i].path with
   |false=>rw[me (by simp),ij,me (by simp),ij];rfl
   | true =>
    by_cases h0:0<i
    ·have lY:i-1<l.length:=by omega
     have kP:(0:Int)<(i:Int):=by omega
     rw[jX (by simp;omega),ij,jX (by simp;omega),wB h0 (by omega),iX lY,ij];simp only[jx lY,sd,h0,kP,decide_true,nH,nG,oP];have hg:=On l[i].path l[i-1].path;cases hc:(jt l[i].path l[i-1].path||l[i].path==l[i-1].path)with
     |true=>rw[hc]at hg;rw[←hg];rfl
     |false=>rw[hc]at hg;rw[←hg,if_neg (by simp),ja (by omega)];rfl
    ·have kP:¬(0:Int)<(i:Int):=by omega
     rw[me (by simp;omega),ij,me (by simp;omega),ij];simp only[h0,kP,decide_false,tD,nH,Rc,sY,if_false,pF,zL,zJ,if_true];rw[ja (by omega)]
  ·intro rec;simp only[xZ.l2,xZ.k1];rw[iR (jk (jr _))]
theorem Ml(l:List UInt8)(hl:l.length≤1073741824):Cr l=some l:=by
 unfold Cr;rw[ki (by simpa using hl),ij];rfl
theorem adK(l out:List jd)(i k:Nat)(rec:List jd×Int→Option (List jd×Int))(hi:i<l.length)(hl:l.length≤1000000)(ho:out.length≤1000000)(hk:k≤out.length)(hd:l[i].data.length≤1073741824) :
  nu.k5 l out (i:Int) rec (k:Int)=if(∃h:k<out.length,out[k].path=l[i].path)then some ([],9)else rec (out.take k++l[i]::out.drop k,((i+1:Nat):Int)):=by
 unfold nu.k5 nu.k4;have fin:(bd (cut (α:=jd) out 0 (k:Int)) λl37=>bd (ix l (i:Int)) λXz=>bd (app (α:=jd) [] l37) λl41=>bd (Cr Xz.data) λr43=>bd (app (α:=jd) l41 [(jd.mk Xz.path r43)]) λl45=>bd (cut (α:=jd) out (k:Int) (out.length:Int)) λl52=>bd (app (α:=jd) l45 l52) λl54=>rec (l54,wr ((i:Int)+1)))=rec (out.take k++l[i]::out.drop k,((i+1:Nat):Int)):=by
  rw[pM (GY _) (by omega) (by omega),ij,iX hi,ij,ki (by simp;omega),ij,Ml _ hd,ij,ki (by simp;omega),ij,pM (by omega) (by omega) (GY _),ij,ki (by simp;omega),ij,ja (by omega)]
  congr 2
  simp
 by_cases jB:k<out.length
 ·rw[jX (jl jB),iX jB,ij,jX (jl jB),iX hi,ij]
  by_cases he:out[k].path=l[i].path
  ·rw[if_pos (by simp[jB,he]),if_pos ⟨jB,he⟩]
  ·rw[if_neg (by simp[he]),if_neg (λq=>he q.2)];rw[iX hi]at fin;exact fin
 ·rw[me (jk jB),ij,me (jk jB),ij,if_neg (by simp;omega),if_neg (λq=>jB q.1)];exact fin
theorem afZ{out:List jd}{x:jd}{k:Nat}(hr:wz out)(hk:k≤out.length)(h1:∀j(h:j<out.length),j<k→jt out[j].path x.path=true)(h2:∀h:k<out.length,jt out[k].path x.path=false∧out[k].path≠x.path):wz (out.take k++x::out.drop k):=by
 unfold wz at *;have U2:=hr;rw[←u7 k out,zO]at U2;obtain⟨p1,p2,p3⟩:=U2;have hb:∀a∈out.take k,jt a.path x.path=true:=λa ha=>by
  obtain⟨j,hj,rfl⟩:=my ha;rw[kX]at hj;rw[Dt];exact h1 j (by omega) (by omega)
 have ha:∀b∈out.drop k,jt x.path b.path=true:=λb hb=>by
  obtain⟨j,hj,rfl⟩:=my hb;rw[od]at hj;rw[MT];have om:k<out.length:=by omega
  obtain⟨q1,q2⟩:=h2 om;have q3:jt x.path out[k].path=true:=by
   cases h:jt x.path out[k].path with
   |true=>rfl
   |false=>exact absurd (C0 q1 h) q2
  rcases JO j with rfl|hp
  ·exact q3
  ·exact xt q3 (xA.1 hr k (k+j) om (by omega) (by omega))
 refine zO.2 ⟨p1,zP.2 ⟨ha,p2⟩,λa h b jM=>?_⟩;rcases lM.1 jM with rfl|jM
 ·exact hb a h
 ·exact p3 a h b jM
def sorted(l:List jd)(o:Option (List jd×Int)):Prop:=∃r,o=some r∧(r.2=0→r.1.Perm l∧wz r.1∧zn l=false∧wP l=false)
theorem afT(l:List jd)(K2:l.length<9223372036854775808)(hp:∀f∈l,f.path.length<9223372036854775808):sorted l (nu l):=by
 have no:∀e:Int,e≠0→sorted l (some ([],e)):=λe he=>⟨_,rfl,λh=>absurd h he⟩
 unfold nu;rw[We l K2,ij];cases hL:zn l with
 |true=>exact no _ (by decide)
 | false =>
  obtain⟨hl,hd⟩:=PE hL;simp only[sY,if_false];rw[Eh (x0:=(0:Int)) (λi=>(i:Int)) l.length (λi=>oX (l.getD i default).path) (nu.k1 l) (some ([],1)) rfl (by omega) ?_ ?_]
  ·have nS:=DB l (λf=>oX f.path) (λi=>oX (l.getD i default).path) (λi hi=>by simp[hi]);cases hB:wP l with
   |true =>
    rw[if_neg]
    ·exact no _ (by decide)
    ·intro q;have:=nS.1 q;unfold wP at hB;obtain⟨x,hx,h2⟩:=RQ.1 hB;have:=j9.1 this x hx;simp[this]at h2
   | false =>
    rw[if_pos]
    ·unfold nu.k1;refine IB (S:=List jd×Int) (σ:=List jd) (λi out=>(out,(i:Int))) l.length (λi out=>out.Perm (l.take i)∧wz out) (sorted l) (i0:=0) (s0:=[]) rfl (ju _) ⟨by simp,B9⟩ (by omega) ?_ ?_
     ·intro rec i out hi ⟨D8,O8⟩ jh;have hol:out.length=i:=by rw[D8.length_eq,kX];omega
      simp only[nu.l3];rw[iZ (jl hi)];have OO:∃k,k≤out.length∧(∀j(h:j<out.length),j<k→jt out[j].path l[i].path=true)∧(∀h:k<out.length,jt out[k].path l[i].path=false)∧loop (nu.l6 l out (i:Int) rec) 0=nu.k5 l out (i:Int) rec (k:Int):=by
       refine IB (S:=Int) (σ:=Unit) (λk _=>(k:Int)) out.length (λk _=>∀j(h:j<out.length),j<k→jt out[j].path l[i].path=true) (λo=>∃k,k≤out.length∧(∀j(h:j<out.length),j<k→jt out[j].path l[i].path=true)∧(∀h:k<out.length,jt out[k].path l[i].path=false)∧o=nu.k5 l out (i:Int) rec (k:Int)) (i0:=0) (s0:=()) rfl (ju _) (λj _ h=>by omega) (by omega) ?_ ?_
       ·intro n9 k _ hk hI nC;simp only[nu.l6];rw[jX (jl hk),iX hk,ij,jX (jl hk),iX hi,ij];cases hs:jt out[k].path l[i].path with
        |true =>
         rw[if_pos (by simp[hk]),ja (by omega)];refine nC () λj hj xd=>?_;rcases(by omega:j<k∨j=k)with q|rfl
         ·exact hI j hj q
         ·exact hs
        |false =>
         rw[if_neg (by simp)];exact⟨k,by omega,hI,λ_=>hs,rfl⟩
       ·intro n9 _ hI;simp only[nu.l6];rw[me (jk (jr _)),ij,me (jk (jr _)),ij,if_neg (by simp)];exact⟨out.length,jg _,hI,λh=>absurd h (jr _),rfl⟩
      obtain⟨k,hk,f1,f2,f3⟩:=OO;have hdi:=hd _ (jF hi);rw[f3,adK l out i k rec hi (by omega) (by omega) hk (by omega)]
      by_cases Pc:∃h:k<out.length,out[k].path=l[i].path
      ·rw[if_pos Pc];exact no _ (by decide)
      ·rw[if_neg Pc];refine jh _ ⟨?_,afZ O8 hk f1 λh=>⟨f2 h,λe=>Pc ⟨h,e⟩⟩⟩;rw[ou hi];refine List.perm_middle.trans ?_;rw[u7];exact(List.Perm.cons _ D8).trans (List.perm_append_singleton _ _).symm
     ·intro rec out ⟨D8,O8⟩;simp only[nu.l3,nu.k2];rw[iR (jk (jr _))];rw[ow]at D8;exact⟨_,rfl,λ_=>⟨D8,O8,hL,hB⟩⟩
    ·refine nS.2 (j9.2 λx hx=>?_);unfold wP at hB;have:=Dp.1 hB x hx;simpa using this
  ·intro rec i hi;simp only[nu.l7];rw[iZ (jl hi),iX hi,ij,I0 _ (hp _ (jF hi)),ij];simp only[pR,jx hi,sd];cases oX l[i].path with
   |false=>rfl
   |true=>simp only[nH,sY,if_false,if_true];rw[ja (by omega)]
  ·intro rec;simp only[nu.l7];rw[iR (jk (jr _))]
end Go.Wk.Lf
end
section
namespace Go.Wk.Lf
open Go.V Go.Sort Go.Proofs
theorem af0(m:iF)(hn:m.name.length<4611686018427387904)(hp:∀p∈m.parts,p.path.length<4611686018427387904):x5 m=some (decide (mO m)):=by
 unfold x5;rw[I0 _ (by omega),ij]
 by_cases h0:oX m.name=true∧m.parts.length≤6
 ·obtain⟨hn,h6⟩:=h0;rw[if_neg (by simp only[hn];simp;omega)];rw[Eh (x0:=(0:Int)) (λi=>(i:Int)) m.parts.length (λi=>tu (m.parts.getD i default)&&(!decide (0<i)||jt (m.parts.getD (i-1) default).path (m.parts.getD i default).path)) (some true) (some false) rfl (by omega) ?_ ?_]
  ·have CF:=SH m.parts tu
   by_cases h:m.parts.all tu=true∧CX m.parts
   ·rw[if_pos (CF.2 h),decide_eq_true (show mO m from⟨hn,h6,h.1,h.2⟩)]
   ·rw[if_neg λh2=>h (CF.1 h2),decide_eq_false λh2:mO m=>h ⟨h2.2.2.1,h2.2.2.2⟩]
  ·intro rec i hi;simp only[x5.l2];rw[iZ (jl hi),iX hi,ij,I0 _ (by have:=hp _ (jF hi);omega),ij,Xb m.parts i hi (by omega)];simp only[pR,jx hi,sd];generalize hQ:m.parts[i]=p;have e1:decide (25<(p.ids.length:Int)) = !decide (p.ids.length≤25):=by
    rw[←decide_not,decide_eq_decide];omega
   have e2:decide ((p.ids.length:Int)=0)=decide (p.ids.length=0):=by rw[decide_eq_decide];omega
   have e3:decide (p.size<0) = !decide (0≤p.size):=by rw[←decide_not,decide_eq_decide];omega
   have e4:decide (200<p.size) = !decide (p.size≤200):=by rw[←decide_not,decide_eq_decide];omega
   rw[e1,e2,e3,e4];unfold tu;cases hN:oX p.path with
   |false=>simp
   | true =>
    by_cases h0:0<i
    ·have lY:i-1<m.parts.length:=by omega
     have kP:(0:Int)<(i:Int):=by omega
     simp only[h0,kP,and_self,if_true,jx lY,sd,decide_true,nH,nG,oP,ja (show i<4611686018427387904 by omega)];have hg:=On p.path m.parts[i-1].path;rw[←hg];generalize(jt p.path m.parts[i-1].path||p.path==m.parts[i-1].path)=c;generalize decide (0≤p.size)=c1;generalize decide (p.size≤200)=c2;generalize decide (p.ids.length≤25)=c3;generalize decide (p.ids.length=0)=c4;generalize decide (p.size=0)=c5;cases c<;>cases c1<;>cases c2<;>cases c3<;>cases c4<;>cases c5<;>rfl
    ·have kP:¬(0:Int)<(i:Int):=by omega
     simp only[h0,kP,and_false,if_false,decide_false,tD,nH,Rc,nG,pF,zL,zJ,oP,ja (show i<4611686018427387904 by omega)];generalize decide (0≤p.size)=c1;generalize decide (p.size≤200)=c2;generalize decide (p.ids.length≤25)=c3;generalize decide (p.ids.length=0)=c4;generalize decide (p.size=0)=c5;cases c1<;>cases c2<;>cases c3<;>cases c4<;>cases c5<;>rfl
  ·intro rec;simp only[x5.l2,x5.k1];rw[iR (jk (jr _))]
 ·rw[if_pos (by
   simp only[rW,decide_eq_true_eq,tE];cases hn:oX m.name with
   |false=>exact .inl rfl
   |true =>
    rcases G7 6 m.parts.length with h6|h6
    ·right;omega
    ·exact absurd ⟨hn,h6⟩ h0),decide_eq_false λh:mO m=>h0 ⟨h.1,h.2.1⟩]
end Go.Wk.Lf
end
section
namespace Go.Wk.Lf
open Go.V Go.Sort Go.Proofs
theorem agP(n:Int):Ev n 0=some n:=by simp[Ev]
theorem YZ(n:Int):sq n 2=some (rG n):=by
 unfold sq;show loop (sq.l2 n) ([],1)=_;have e:∀rec,sq.l2 n rec ([],1)=rec ([jC (n/256)],0):=λrec=>by
  simp only[sq.l2];rw[if_pos (by decide),show wu (wr (8*1))=8 from by decide,show Ev n 8=some (n/256)from by simp[Ev],ij,ki (by simp),ij,show wr ((1:Int)-1)=0 from by decide];rfl
 have e2:∀rec,sq.l2 n rec ([jC (n/256)],0)=rec (rG n,-1):=λrec=>by
  simp only[sq.l2];rw[if_pos (by decide),show wu (wr (8*0))=0 from by decide,agP,ij,ki (by simp),ij,show wr ((0:Int)-1) = -1 from by decide];rfl
 have e3:∀rec,sq.l2 n rec (rG n,-1)=some (rG n):=λrec=>by
  simp only[sq.l2,sq.k1];rw[if_neg (by decide)]
 show iter _ 18446744073709551616 _=_;show sq.l2 n (iter _ 18446744073709551615) _=_;rw[e];show sq.l2 n (iter _ 18446744073709551614) _=_;rw[e2];show sq.l2 n (iter _ 18446744073709551613) _=_;rw[e3]
theorem V3(m:iF)(h:mO m)(hk:xr m):rK m=some (vE m):=by
 unfold rK;have hn:=BP h.1;have h6:=h.2.1;rw[ki (by simp;omega),ij,ki (by simp;omega),ij];have hlen:=PF h hk;refine nV (S:=Int×List UInt8) (σ:=List UInt8) (λi l=>((i:Int),l)) m.parts.length (λi l=>l=([jC (m.name.length:Int)]++m.name++[jC (m.parts.length:Int)])++(m.parts.take i).flatMap qY) _ (i0:=0) rfl (ju _) (by simp) (by omega) ?_ ?_
 ·intro rec i l hi hI jh;simp only[rK.l2];have hp:=IN (Ej h _ (jF hi));have hpn:=BP hp.1;have H5:=hk _ (jF hi);have hl:l.length+(qY m.parts[i]).length≤5000:=by
   have:(([jC (m.name.length:Int)]++m.name++[jC (m.parts.length:Int)])++(m.parts.take (i+1)).flatMap qY).length≤5000:=by
    refine nY ?_ hlen;simp only[vE,kU];have:(m.parts.flatMap qY).length=((m.parts.take (i+1)).flatMap qY).length+((m.parts.drop (i+1)).flatMap qY).length:=by
     rw[←kU,←Ds,u7]
    omega
   rw[ou hi,Ds,←pG,←hI]at this;simpa using this
  rw[VU H5]at hl;rw[iZ (jl hi),iX hi,ij,ki (by simp;omega),ij,ki (by simp;omega),ij,YZ,ij,ki (by simp[rG];omega),ij,ki (by simp[rG];omega),ij];generalize hQ:m.parts[i]=p at *;refine nV (S:=Int×List UInt8) (σ:=List UInt8) (λj q=>((j:Int),q)) p.ids.length (λj q=>q=(l++([jC (p.path.length:Int)]++p.path++rG p.size++[jC (p.ids.length:Int)]))++(p.ids.take j).flatten) _ (i0:=0) rfl (ju _) (by simp) (by omega) ?_ ?_
  ·intro n9 j q hj hJ nC;simp only[rK.l4];have hx:=H5 _ (jF hj);have hft:((p.ids.take j).flatten).length≤32*25:=by
    rw[Og _ λx hx=>H5 x (sJ hx)];simp;omega
   rw[iZ (jl hj),iX hj,ij,ki (by rw[hJ];simp only[kU,tG,AU,rG,hx];omega),ij,ja (by omega)];refine nC _ ?_;rw[hJ,ou hj];simp only[List.flatten_append,o7,List.flatten_nil,rY,pG]
  ·intro n9 q hJ;simp only[rK.l4,rK.k3];rw[iR (jk (jr _)),ja (by omega)];refine jh _ ?_;rw[hJ,hI,ou hi,hQ,ow,Ds];simp[qY]
 ·intro rec l hI;simp only[rK.l2,rK.k1];rw[iR (jk (jr _)),hI,ow];rfl
theorem Ww:∀(p:List UInt8)(x y:UInt8)(s t:List UInt8),x≠y→jt (p++x::s) (p++y::t)=decide (x<y)
 |[],x,y,s,t,h=>by
  rw[wM,wM,jt,Op.bytesLess];simp[h]
 |c::p,x,y,s,t,h=>by
  rw[G1,G1,jt,Op.bytesLess];have:=Ww p x y s t h;rw[jt]at this;rw[this];simp[UInt8.lt_irrefl]
theorem W3{l:List UInt8}{i:Nat}(h:i<l.length):l=l.take i++l[i]::l.drop (i+1):=by
 rw[←Dr h,u7]
theorem Nx(a b:List UInt8)(ha:a.length=32)(hb:b.length=32):ya a b=some (jt a b):=by
 unfold ya;refine nV (S:=Int) (σ:=Unit) (λi _=>(i:Int)) 32 (λi _=>a.take i=b.take i) _ (i0:=0) (s0:=()) rfl (ju _) rfl (by decide) ?_ ?_
 ·intro rec i _ hi hI jh;simp only[ya.l2];have OR:i<a.length:=by omega
  have OS:i<b.length:=by omega
  rw[iZ (decide_eq_true (by omega)),iX OR,ij,iX OS,ij]
  by_cases h:a[i]=b[i]
  ·rw[if_neg (by simp[h]),ja (by omega)];exact jh () (by rw[ou OR,ou OS,hI,h])
  ·rw[if_pos (by simp only[ne_eq,decide_eq_true_eq];intro e;exact h (Se (by omega))),ij,ij]
   congr 1
   conv=>rhs;rw[W3 OR,W3 OS,hI]
   rw[Ww _ _ _ _ _ h,decide_eq_decide,UInt8.lt_iff_toNat_lt];omega
 ·intro rec _ hI;simp only[ya.l2,ya.k1];rw[if_neg (by decide)];rw[xB (by omega),xB (by omega)]at hI;rw[hI,AI]
def nh(l:List (List UInt8))(x:List UInt8):Nat:=(l.takeWhile λy=>jt y x).length
theorem IP(l:List (List UInt8))(x:List UInt8):nh l x≤l.length:=by
 unfold nh;exact(List.takeWhile_sublist _).length_le
theorem P6{l:List (List UInt8)}{x:List UInt8}{i:Nat}(h:i<nh l x):jt (l[i]'(sa h (IP l x))) x=true:=by
 unfold nh at h;have hm:=jF h;have h1:(l.takeWhile λy=>jt y x)[i]=l[i]'(sa h (IP l x)):=by
  have:=(List.takeWhile_prefix (λy=>jt y x) (l:=l))
  exact this.getElem h
 rw[←h1];have h2:=List.all_takeWhile (p:=λy=>jt y x) (l:=l);rw[j9]at h2;exact h2 _ hm
theorem P5{l:List (List UInt8)}{x:List UInt8}(h:nh l x<l.length):jt l[nh l x] x=false:=by
 induction l with
 |nil=>simp at h
 | cons y l ih =>
  by_cases hy:jt y x=true
  ·have e:nh (y::l) x=nh l x+1:=by simp[nh,List.takeWhile_cons,hy]
   simp only[e]at h ⊢;simp only[List.getElem_cons_succ];exact ih (by simpa using h)
  ·have e:nh (y::l) x=0:=by simp[nh,List.takeWhile_cons,hy]
   simp only[e,List.getElem_cons_zero];simpa using hy
def tn(l:List (List UInt8))(x:List UInt8):List (List UInt8):=if l[nh l x]? =some x then l else l.take (nh l x)++[x]++l.drop (nh l x)
theorem add_eq(l:List (List UInt8))(x:List UInt8)(hl:l.length≤100000)(Ov:∀y∈l,y.length=32)(hx:x.length=32) :
  wX l x=some (tn l x,(nh l x:Int),!decide (l[nh l x]? =some x)):=by
 unfold wX;have hk:=IP l x;refine nV (S:=Int) (σ:=Unit) (λi _=>(i:Int)) (nh l x) (λ_ _=>True) _ (i0:=0) (s0:=()) rfl (ju _) trivial (by omega) ?_ ?_
 ·intro rec i _ hi _ jh;simp only[wX.l2];have jU:i<l.length:=by omega
  have jB:=P6 hi;rw[jl jU,jX rfl,iX jU,ij,jX rfl,Nx _ _ (Ov _ (jF jU)) hx,ij,jB,ja (by omega)];exact jh () trivial
 ·intro rec _ _;simp only[wX.l2,wX.k1]
  by_cases jU:nh l x<l.length
  ·have jB:=P5 jU;rw[jl jU,jX rfl,iX jU,ij,jX rfl,Nx _ _ (Ov _ (jF jU)) hx,ij,jB];rw[if_neg (by simp),ij];unfold tn;rw[jx jU]
   by_cases he:l[nh l x]=x
   ·rw[if_pos (by simp[he]),if_pos (by rw[he])];simp[he]
   ·rw[if_neg (by simp[he]),if_neg (by simpa using he),pM (by omega) (by omega) (by omega),ij,ki (by simp;omega),ij,ki (by simp;omega),ij,pM (by omega) (by omega) (by omega),ij,ki (by simp;omega),ij];simp[he]
  ·have aji:nh l x=l.length:=by omega
   rw[jk jU,me rfl,ij,me rfl,ij,if_neg (by simp),ij,if_neg (by simp)];unfold tn;rw[zN (by omega),if_neg (by simp),pM (by omega) (by omega) (by omega),ij,ki (by simp;omega),ij,ki (by simp;omega),ij,pM (by omega) (by omega) (by omega),ij,ki (by simp;omega),ij];simp
theorem afn{l:List (List UInt8)}{x:List UInt8}(hr:ve l):(l[nh l x]? =some x)↔x∈l:=by
 constructor
 ·intro h;exact pH h
 ·intro h;obtain⟨j,hj,rfl⟩:=my h;have hk:=IP l l[j];have h1:¬j<nh l l[j]:=λh2=>by have:=P6 h2;rw[AI]at this;cases this
  have h3:¬nh l l[j]<j:=λh4=>by
   have h5:=P5 (l:=l) (x:=l[j]) (by omega);have h6:=xA.1 hr (nh l l[j]) j (by omega) hj h4;rw[h6]at h5;cases h5
  have e:nh l l[j]=j:=by omega
  rw[e];exact jx hj
theorem adz{l:List (List UInt8)}{x:List UInt8}(hr:ve l)(y:List UInt8):y∈tn l x↔y∈l∨y=x:=by
 unfold tn
 split
 ·rename_i h;exact⟨.inl,λh2=>h2.elim id λe=>e▸pH h⟩
 ·constructor
  ·intro h;simp only[mF,o8]at h;rcases h with(h|h)|h
   ·exact .inl (sJ h)
   ·exact .inr h
   ·exact .inl (sI h)
  ·intro h;simp only[mF,o8];rcases h with h|h
   ·rw[←u7 (nh l x) l]at h;rcases mF.1 h with h|h
    ·exact .inl (.inl h)
    ·exact .inr h
   ·exact .inl (.inr h)
theorem adA{l:List (List UInt8)}{x:List UInt8}(hr:ve l):ve (tn l x):=by
 unfold tn
 split
 ·exact hr
 ·rename_i h;have hn:x∉l:=λh2=>h ((afn hr).2 h2);have h1:∀a∈l.take (nh l x),jt a x=true:=λa ha=>by
   obtain⟨i,hi,rfl⟩:=my ha;simp only[kX]at hi;rw[Dt];exact P6 (by omega)
  have h2:∀b∈l.drop (nh l x),jt x b=true:=λb hb=>by
   obtain⟨i,hi,rfl⟩:=my hb;simp only[od]at hi;rw[MT];have hk:nh l x<l.length:=by omega
   have h3:=P5 hk;have h4:jt x l[nh l x]=true:=by
    cases h5:jt x l[nh l x]with
    |true=>rfl
    |false=>exact absurd (jF hk) (by rw[←C0 h5 h3];exact hn)
   cases i with
   |zero=>exact h4
   |succ i=>exact xt h4 (xA.1 hr _ _ hk (by omega) (by omega))
  have ht:ve (l.take (nh l x)):=hr.sublist (List.take_sublist _ _);have hd:ve (l.drop (nh l x)):=hr.sublist (List.drop_sublist _ _);unfold ve at *;rw[pG,zO];refine⟨ht,zP.2 ⟨h2,hd⟩,λa ha b hb=>?_⟩;rcases lM.1 hb with rfl|hb
  ·exact h1 a ha
  ·exact xt (h1 a ha) (h2 b hb)
theorem Vg(l:List (List UInt8))(x:List UInt8):(tn l x).length≤l.length+1:=by
 unfold tn;split
 ·omega
 ·simp;omega
theorem foldI(ids:List (List UInt8)):∀acc,ve acc→ve (ids.foldl tn acc)∧(∀y,y∈ids.foldl tn acc↔y∈acc∨y∈ids)∧(ids.foldl tn acc).length≤acc.length+ids.length:=by
 induction ids with
 |nil=>intro acc h;simp[h]
 |cons x ids ih =>
  intro acc h;obtain⟨h1,h2,h3⟩:=ih _ (adA (x:=x) h);refine⟨h1,λy=>?_,?_⟩
  ·rw[EZ,h2,adz h];simp[or_assoc]
  ·have:=Vg acc x;simp only[EZ,tG];omega
theorem aaR(ids:List (List UInt8)):ids.foldl tn []=oo ids:=by
 obtain⟨h1,h2,_⟩:=foldI ids [] B9;exact Wj _ _ h1 (adn _) λx=>by rw[h2,Pm];simp
end Go.Wk.Lf
end
section
namespace Go.Wk.Lf
open Go.V Go.Sort Go.Proofs
theorem Wh(m:iF)(hp:m.parts.length≤100000)(hl:(lU m).length≤10000)(hk:xr m):qP m=some (oo (lU m)):=by
 unfold qP;refine nV (S:=List (List UInt8)×Int) (σ:=List (List UInt8)) (λi l=>(l,(i:Int))) m.parts.length (λi l=>l=((m.parts.take i).flatMap Part.ids).foldl tn []) _ (i0:=0) (s0:=[]) rfl (ju _) rfl (by omega) ?_ ?_
 ·intro rec i l hi hI jh;simp only[qP.l2];rw[iZ (jl hi)];have h1:=T9 m.parts (i+1);rw[ou hi,Ds]at h1;simp only[EY,List.flatMap_nil,rY,kU]at h1;unfold lU at hl;have D0:∀x∈(m.parts.take i).flatMap Part.ids,x.length=32:=λx hx=>by
   obtain⟨p,hp,h⟩:=AX.1 hx;exact hk p (sJ hp) x h
  have vy:=hk _ (jF hi);refine nV (S:=List (List UInt8)×Int) (σ:=List (List UInt8)) (λj l=>(l,(j:Int))) m.parts[i].ids.length (λj a=>a=((m.parts[i].ids.take j)).foldl tn l) _ (i0:=0) (s0:=l) rfl (ju _) rfl (by omega) ?_ ?_
  ·intro n9 j a hj hJ nC;simp only[qP.l4];have abk:a=((m.parts.take i).flatMap Part.ids++m.parts[i].ids.take j).foldl tn []:=by rw[MS,←hI,hJ]
   obtain⟨f1,f2,f3⟩:=foldI ((m.parts.take i).flatMap Part.ids++m.parts[i].ids.take j) [] B9;rw[←abk]at f1 f2 f3;have ha:a.length≤20000:=by simp only[kU,AU,kX]at f3;omega
   have abj:∀y∈a,y.length=32:=λy hy=>by
    rcases(f2 y).1 hy with h|h
    ·simp at h
    ·rcases mF.1 h with h|h
     ·exact D0 y h
     ·exact vy y (sJ h)
   rw[iX hi,ij,iZ (jl hj),ij,iX hj,ij,add_eq _ _ (by omega) abj (vy _ (jF hj)),ij,ja (by omega)];refine nC _ ?_;rw[ou hj,MS,←hJ];rfl
  ·intro n9 a hJ;simp only[qP.l4,qP.k3];rw[iX hi,ij,iR (jk (jr _)),ja (by omega)];refine jh _ ?_;rw[ou hi,Ds,MS,←hI,hJ,ow];simp
 ·intro rec l hI;simp only[qP.l2,qP.k1];rw[iR (jk (jr _)),hI,ow,aaR];rfl
theorem I3(n a b:Int):yR n a b=some (j6 n a b):=rfl
theorem Yg(a b:Loc):(decide (b.iQ<a.iQ)||(decide (b.iQ=a.iQ)&&(decide (b.file<a.file)||(decide (b.file=a.file)&&decide (b.off<a.off)))))=A8 a b:=by
 unfold A8
 by_cases h1:a.iQ=b.iQ
 ·rw[if_neg (by simpa using h1),decide_eq_false (by omega),decide_eq_true h1.symm]
  by_cases h2:a.file=b.file
  ·rw[if_neg (by simpa using h2),decide_eq_false (by omega),decide_eq_true h2.symm];rfl
  ·have h3:¬b.file=a.file:=λq=>h2 q.symm;rw[if_pos h2];simp[h3]
 ·have h3:¬b.iQ=a.iQ:=λq=>h1 q.symm;rw[if_pos h1];simp[h3]
theorem Qq(c:ig)(l:List Loc):sR c l=some (mN c.iv l):=by
 unfold sR mN
 by_cases hl:l.length≤200
 ·rw[iR (decide_eq_false (by omega))];rw[vD l.length (CL c.iv l) (some true) (some false) (by omega) ?_ ?_,decide_eq_true hl]
  ·cases kO l.length (CL c.iv l)<;>rfl
  ·intro rec i hi;simp only[sR.l2,sR.k3];rw[iZ (jl hi),iX hi,ij];have e1:l.getD i default=l[i]:=jo hi;have tail:(if decide ((0:Int)<(i:Int))=true then bd (ix l (wr ((i:Int)-1))) λJp=>if(!(decide (Jp.iQ<l[i].iQ)||(decide (Jp.iQ=l[i].iQ)&&(decide (Jp.file<l[i].file)||(decide (Jp.file=l[i].file)&&decide (Jp.off<l[i].off))))))=true then some false else rec (wr ((i:Int)+1))else rec (wr ((i:Int)+1)))=if(!decide (0<i)||A8 l[i] (l.getD (i-1) default))=true then rec ((i+1:Nat):Int)else some false:=by
    rw[ja (by omega)]
    by_cases h0:0<i
    ·rw[iZ (decide_eq_true (by omega)),wB h0 (by omega),iX (show i-1<l.length by omega),ij,decide_eq_true h0,jo (show i-1<l.length by omega),Yg];cases A8 l[i] (l[i-1]'(by omega))<;>rfl
    ·rw[iR (decide_eq_false (by omega)),decide_eq_false h0];rfl
   simp only[I3];rw[tail];unfold CL PB;rw[e1]
   by_cases h1:j6 l[i].iQ 0 ((c.iv.length:Int)-1)=true
   ·obtain⟨a0,a1⟩:=tZ.1 h1;rw[h1,Vn a0 a1,decide_eq_false (show¬l[i].iQ<0 by omega),decide_eq_false (show¬(c.iv.length:Int)≤l[i].iQ by omega)];simp only[ng,ij,Jr,pF,if_true,nG,oP];rw[show decide ((c.iv.getD l[i].iQ.toNat default).state≠2) = !decide ((c.iv.getD l[i].iQ.toNat default).state=2)from decide_not];generalize j6 l[i].off 0 16777215=p;generalize j6 l[i].len 13 8013=q;generalize(!decide (0<i)||A8 l[i] (l.getD (i-1) default))=u;cases decide ((c.iv.getD l[i].iQ.toNat default).state=2)with
    |false=>rfl
    |true =>
     simp only[nH,pF,if_true,nG,oP];generalize j6 l[i].file 1 (c.iv.getD l[i].iQ.toNat default).files=s;cases s<;>cases p<;>cases q<;>cases u<;>rfl
   ·rw[zK]at h1;have h2:(decide (l[i].iQ<0)||decide ((c.iv.length:Int)≤l[i].iQ))=true:=by
     rw[rW,decide_eq_true_eq,decide_eq_true_eq]
     by_cases h:l[i].iQ<0
     ·exact .inl h
     ·exact .inr (by
       by_cases h3:(c.iv.length:Int)≤l[i].iQ
       ·exact h3
       ·rw[tZ.2 ⟨by omega,by omega⟩]at h1;cases h1)
    rw[h1,h2];simp only[nH,me,ij,zL,tD,if_true];rfl
  ·intro rec;simp only[sR.l2,sR.k1];rw[iR (jk (jr _))]
 ·rw[iZ (decide_eq_true (by omega)),decide_eq_false hl];rfl
theorem Qt(c:ig)(n:List UInt8)(hl:c.ik.length≤1073741824):wa c n=some (oT c.ik.length λi=>(c.ik.getD i default).iw.name==n):=by
 unfold wa;rw[CK c.ik.length (λi=>(c.ik.getD i default).iw.name==n) (by omega) ?_ ?_]
 ·intro rec i hi;simp only[wa.l2];rw[iZ (jl hi),iX hi,ij,jo hi,ja (by omega)]
 ·intro rec;simp only[wa.l2,wa.k1];rw[iR (jk (jr _))]
theorem Qk(c:ig)(n:List UInt8)(hl:c.chunks.length≤1073741824):ta c n=some (oT c.chunks.length λi=>decide ((c.chunks.getD i default).id=n)):=by
 unfold ta;rw[CK c.chunks.length (λi=>decide ((c.chunks.getD i default).id=n)) (by omega) ?_ ?_]
 ·intro rec i hi;simp only[ta.l2];rw[iZ (jl hi),iX hi,ij,jo hi,ja (by omega)]
 ·intro rec;simp only[ta.l2,ta.k1];rw[iR (jk (jr _))]
theorem T0{n:Nat}{p:Nat→Bool}:decide (oT n p<0)=kO n λi=>!p i:=by
 have h:=KG (n:=n) (p:=p)
 by_cases q:oT n p<0
 ·rw[decide_eq_false (by omega)]at h;rw[decide_eq_true q];generalize(kO n λi=>!p i)=a at *;cases a<;>simp at h ⊢
 ·rw[decide_eq_true (by omega)]at h;rw[decide_eq_false q];generalize(kO n λi=>!p i)=a at *;cases a<;>simp at h ⊢
theorem TZ{n:Nat}{p:Nat→Bool}{i:Nat}(hi:i<n):oT n p=(i:Int)↔p i=true ∧ ∀j,j<i→p j=false:=by
 unfold oT;constructor
 ·intro h
  split at h
  ·rename_i hk;have e:ue n (λi=>!p i)=i:=by omega
   refine⟨?_,λj hj=>?_⟩
   ·have:=LK hk;rw[e]at this;simpa using this
   ·have:=LL (n:=n) (f:=λi=>!p i) (q:=j) (by omega);simpa using this
  ·omega
 ·rintro⟨h1,h2⟩;have e:ue n (λi=>!p i)=i:=Em (uw hi) (λq hq=>by rw[h2 q hq];rfl) (λ_=>by rw[h1];rfl);rw[e,if_pos hi]
theorem V2(a b:List UInt8)(ha:a.length=32)(hb:b.length=32):Ac a b=some (jt a b):=by
 rw[←Nx a b ha hb];rfl
structure JR(c:ig):Prop where
 id:∀x∈c.chunks,x.id.length=32
 iw:∀s∈c.ik,xr s.iw∧s.iw.name.length<1000000 ∧ ∀p∈s.iw.parts,p.path.length<4611686018427387904
end Go.Wk.Lf
end
section
namespace Go.Wk.Lf
open Go.V Go.Sort Go.Proofs
theorem ado{c:ig}{m:iF}(hr:uy c.chunks):Ao c m=true ↔ ∀y∈lU m,∃x∈c.chunks,x.id=y:=by
 unfold Ao;rw[oI];constructor
 ·intro h y hy;obtain⟨p,hp,hy⟩:=AX.1 hy;obtain⟨i,hi,rfl⟩:=rA.1 hp;obtain⟨k,hk,rfl⟩:=rA.1 hy;have:=h i hi;rw[jo hi,oI]at this;have:=this k hk;rw[jo hk]at this;exact(HT hr _).1 this
 ·intro h i hi;rw[jo hi,oI];intro k hk;rw[jo hk];exact(HT hr _).2 (h _ (AX.2 ⟨_,jF hi,jF hk⟩))
def C4(c:ig)(i:Nat):Bool:=j6 (c.ik.getD i default).seq 0 (c.seq-1)&&(!decide (0<i)||decide ((c.ik.getD (i-1) default).seq<(c.ik.getD i default).seq))&&decide (mO (c.ik.getD i default).iw)&&mN c.iv (c.ik.getD i default).locs&&decide (oT c.ik.length (λk=>(c.ik.getD k default).iw.name==(c.ik.getD i default).iw.name)=(i:Int))&&(kO (oo (lU (c.ik.getD i default).iw)).length λk=>!(kO c.chunks.length λj=>!decide ((c.chunks.getD j default).id=(oo (lU (c.ik.getD i default).iw)).getD k default)))&&(kO c.im.length λk=>!decide ((c.im.getD k default).of=(c.ik.getD i default).seq))
def Cu(c:ig)(i:Nat):Bool:=j6 (c.im.getD i default).seq 0 (c.seq-1)&&(!decide (0<i)||decide ((c.im.getD (i-1) default).seq<(c.im.getD i default).seq))&&j6 (c.im.getD i default).of 0 ((c.im.getD i default).seq-1)&&decide (0<(c.im.getD i default).locs.length)&&mN c.iv (c.im.getD i default).locs
theorem Qy(x q:Int):(decide (x<0)||decide (q≤x)) = !j6 x 0 (q-1):=by
 rw[GQ,rW,decide_eq_true_eq,decide_eq_true_eq,tE,←zK,tZ];omega
theorem ae8(o:Bool)(x q:Int):((o||decide (x<0))||decide (q≤x))=(o || !j6 x 0 (q-1)):=by
 rw[←Qy,Bool.or_assoc]
theorem Vw(x q:Int):decide (x≤q) = !decide (q<x):=by
 rw[←decide_not,decide_eq_decide];omega
theorem FJ(n:Nat):decide ((n:Int)=0) = !decide (0<n):=by
 rw[←decide_not,decide_eq_decide];omega
theorem afX(c:ig)(hl:c.im.length≤1073741824):kf.k3 c=if kO c.im.length (Cu c)=true then some true else some false:=by
 unfold kf.k3;rw[vD c.im.length (Cu c) (some true) (some false) (by omega) ?_ ?_]
 ·intro rec i hi;simp only[kf.l5];rw[iZ (jl hi),iX hi,ij];have e1:c.im.getD i default=c.im[i]:=jo hi;simp only[Qq,ja (show i<4611686018427387904 by omega),Qy,ae8];simp only[Vw,FJ];unfold Cu;rw[e1];cases sV:j6 c.im[i].seq 0 (c.seq-1)with
  |false=>simp only[pF,nH,tD,me,ij,zL,if_true];rfl
  | true =>
   by_cases oM:0<i
   ·have e2:ix c.im (wr ((i:Int)-1))=some (c.im.getD (i-1) default):=by
     rw[wB oM (by omega),iX (show i-1<c.im.length by omega),jo (by omega)]
    have kP:decide ((0:Int)<(i:Int))=true:=decide_eq_true (by omega);rw[e2,kP,decide_eq_true oM];simp only[ng,ij,nH,pF,oP,zJ,if_true,nG];generalize decide ((c.im.getD (i-1) default).seq<c.im[i].seq)=a;generalize j6 c.im[i].of 0 (c.im[i].seq-1)=b;generalize mN c.iv c.im[i].locs=d;generalize decide (0<c.im[i].locs.length)=e;cases a<;>cases b<;>cases d<;>cases e<;>rfl
   ·have kP:decide ((0:Int)<(i:Int))=false:=decide_eq_false (by omega);rw[kP,decide_eq_false oM];simp only[zI,tD,me,ng,ij,nH,pF,nG,zL];generalize j6 c.im[i].of 0 (c.im[i].seq-1)=b;generalize mN c.iv c.im[i].locs=d;generalize decide (0<c.im[i].locs.length)=e;cases b<;>cases d<;>cases e<;>rfl
 ·intro rec;simp only[kf.l5,kf.k4];rw[iR (jk (jr _))]
theorem Lu{m:iF}(h:mO m):m.parts.length≤6∧(lU m).length≤150 ∧ ∀p∈m.parts,p.ids.length≤25:=by
 obtain⟨_,h6,hp,_⟩:=h;have Uk:∀p∈m.parts,p.ids.length≤25:=λp hq=>by
  have:=j9.1 hp p hq;unfold tu at this;simp only[jK,decide_eq_true_eq]at this;omega
 refine⟨h6,?_,Uk⟩;have key:∀l:List Part,(∀p∈l,p.ids.length≤25)→(l.flatMap Part.ids).length≤25*l.length:=by
  intro l
  induction l with
  |nil=>intro _;simp
  |cons a l ih =>
   intro h;have h1:=ih λp hp=>h p (mV _ hp);have h2:=h a (E5 ..);simp only[EY,kU,tG];omega
 have:=key _ Uk;unfold lU;omega
theorem agx(c:ig)(hf:JR c)(hl:c.ik.length≤1073741824)(hc:c.chunks.length≤1073741824)(he:c.im.length≤1073741824):kf.k2 c=if kO c.ik.length (C4 c)=true then kf.k3 c else some false:=by
 unfold kf.k2;rw[vD c.ik.length (C4 c) (kf.k3 c) (some false) (by omega) ?_ ?_]
 ·intro rec i hi;simp only[kf.l6];rw[iZ (jl hi),iX hi,ij];have e1:c.ik.getD i default=c.ik[i]:=jo hi;obtain⟨hk,hn,hpp⟩:=hf.iw _ (jF hi);simp only[Qq,af0 c.ik[i].iw (by omega) hpp,Qt _ _ hl,Qy];simp only[Vw];unfold C4;rw[e1];generalize hA:j6 c.ik[i].seq 0 (c.seq-1)=A;generalize hL:mN c.iv c.ik[i].locs=Lo;generalize oT c.ik.length (λk=>(c.ik.getD k default).iw.name==c.ik[i].iw.name)=fi;have last:mO c.ik[i].iw→(bd (qP c.ik[i].iw) λQj=>loop (kf.mc c (i:Int) rec c.ik[i] Qj) 0)=if((kO (oo (lU c.ik[i].iw)).length λk=>!(kO c.chunks.length λj=>!decide ((c.chunks.getD j default).id=(oo (lU c.ik[i].iw)).getD k default)))&&(kO c.im.length λk=>!decide ((c.im.getD k default).of=c.ik[i].seq)))=true then rec ((i+1:Nat):Int)else some false:=by
   intro hm;obtain⟨m1,m2,_⟩:=Lu hm;have hu:=Pk (lU c.ik[i].iw);rw[Wh _ (by omega) (by omega) hk,ij];rw[vD (oo (lU c.ik[i].iw)).length (λk=>!(kO c.chunks.length λj=>!decide ((c.chunks.getD j default).id=(oo (lU c.ik[i].iw)).getD k default))) (kf.k8 c (i:Int) rec c.ik[i]) (some false) (by omega) ?_ ?_]
   ·unfold kf.k8;rw[vD c.im.length (λk=>!decide ((c.im.getD k default).of=c.ik[i].seq)) (rec ((i+1:Nat):Int)) (some false) (by omega) ?_ ?_]
    ·generalize(kO (oo (lU c.ik[i].iw)).length λk=>!(kO c.chunks.length λj=>!decide ((c.chunks.getD j default).id=(oo (lU c.ik[i].iw)).getD k default)))=a;cases a<;>simp
    ·intro n9 j hj;simp only[kf.l9];rw[iZ (jl hj),iX hj,ij,ja (by omega),jo hj]
     by_cases h:c.im[j].of=c.ik[i].seq
     ·rw[iZ (decide_eq_true h),decide_eq_true h];rfl
     ·rw[iR (decide_eq_false h),decide_eq_false h];rfl
    ·intro n9;simp only[kf.l9,kf.k7];rw[iR (jk (jr _)),ja (by omega)]
   ·intro n9 j hj;simp only[kf.mc];rw[iZ (jl hj),iX hj,ij,Qk _ _ hc,ij,ja (by omega),T0,jo hj];cases(kO c.chunks.length λk=>!decide ((c.chunks.getD k default).id=(oo (lU c.ik[i].iw))[j]))<;>rfl
   ·intro n9;simp only[kf.mc];rw[iR (jk (jr _))]
  generalize(bd (qP c.ik[i].iw) λQj=>loop (kf.mc c (i:Int) rec c.ik[i] Qj) 0)=tl at last;generalize((kO (oo (lU c.ik[i].iw)).length λk=>!(kO c.chunks.length λj=>!decide ((c.chunks.getD j default).id=(oo (lU c.ik[i].iw)).getD k default))))=u at last;generalize(kO c.im.length λk=>!decide ((c.im.getD k default).of=c.ik[i].seq))=v at last;have key:∀o:Bool,(bd (only (!(!A||o)) (some (decide (mO c.ik[i].iw))) false) λQi=>bd (only (!((!A||o) || !Qi)) (some Lo) false) λVZ=>bd (only (!(((!A||o) || !Qi) || !VZ)) (some fi) 0) λafu=>if((((!A||o) || !Qi) || !VZ)||decide (afu≠(i:Int)))=true then some false else tl)=if(A && !o&&decide (mO c.ik[i].iw)&&Lo&&decide (fi=(i:Int))&&u&&v)=true then rec ((i+1:Nat):Int)else some false:=by
   intro o;simp only[ng,ij];rw[show decide (fi=(i:Int))=decide (fi=(i:Int))from rfl]
   by_cases hm:mO c.ik[i].iw
   ·rw[last hm,decide_eq_true hm]
    by_cases ON:fi=(i:Int)
    ·rw[ON];cases A<;>cases o<;>cases Lo<;>simp
    ·rw[decide_eq_false ON];cases A<;>cases o<;>cases Lo<;>simp[ON]
   ·rw[decide_eq_false hm];cases A<;>cases o<;>simp
  by_cases oM:0<i
  ·have e2:ix c.ik (wr ((i:Int)-1))=some (c.ik.getD (i-1) default):=by
    rw[wB oM (by omega),iX (show i-1<c.ik.length by omega),jo (by omega)]
   have kP:decide ((0:Int)<(i:Int))=true:=decide_eq_true (by omega);rw[e2,kP,decide_eq_true oM,ng,ij];cases A with
   |false=>simp only[pF,zL,nH,me,ij,if_true];rfl
   |true =>
    simp only[nH,pF,nG,oP,if_true]at key ⊢;refine(key _).trans ?_;rw[B5]
  ·have kP:decide ((0:Int)<(i:Int))=false:=decide_eq_false (by omega);rw[kP,decide_eq_false oM];simp only[zI,tD,me,ij];refine(key false).trans ?_;simp only[pF,zL]
 ·intro rec;simp only[kf.l6];rw[iR (jk (jr _))]
end Go.Wk.Lf
end
section
namespace Go.Wk.Lf
open Go.V Go.Sort Go.Proofs
theorem afC(c:ig)(hf:JR c)(hl:c.chunks.length≤1073741824):kf.k1 c=if kO c.chunks.length (tN c)=true then kf.k2 c else some false:=by
 unfold kf.k1;rw[vD c.chunks.length (tN c) (kf.k2 c) (some false) (by omega) ?_ ?_]
 ·intro rec i hi;simp only[kf.lx];rw[iZ (jl hi),iX hi,ij];have e1:c.chunks.getD i default=c.chunks[i]:=jo hi;simp only[Qq,I3,ja (show i<4611686018427387904 by omega)];have key:∀(o:Bool)(x:Chunk),(bd (only (!o) (some (mN c.iv x.locs)) false) λV0=>bd (only ((!(o||(!V0)))&&x.jD) (some (j6 (x.data.length:Int) 1 64)) false) λafv=>if(((o||(!V0))||(x.jD&&(!afv)))||((!x.jD)&&(decide (0<(x.data.length:Int))||decide ((x.locs.length:Int)=0))))=true then some false else rec ((i+1:Nat):Int))=if(!o&&mN c.iv x.locs&&Bg x)=true then rec ((i+1:Nat):Int)else some false:=by
   intro o x;simp only[ng,ij];refine ite_not ?_;unfold Bg;have d1:decide ((0:Int)<(x.data.length:Int)) = !decide (x.data.length=0):=by
    by_cases h:x.data.length=0
    ·simp[h]
    ·rw[decide_eq_false h,decide_eq_true (by omega)];rfl
   rw[d1,FJ];generalize decide (x.data.length=0)=p;generalize decide (0<x.locs.length)=q;generalize j6 (x.data.length:Int) 1 64=s;generalize mN c.iv x.locs=u;generalize x.jD=v;cases o<;>cases p<;>cases q<;>cases s<;>cases u<;>cases v<;>rfl
  by_cases h0:0<i
  ·have lY:i-1<c.chunks.length:=by omega
   have e2:ix c.chunks (wr ((i:Int)-1))=some (c.chunks.getD (i-1) default):=by
    rw[wB h0 (by omega),iX lY,jo lY]
   have kP:decide ((0:Int)<(i:Int))=true:=decide_eq_true (by omega);have hb:Ac (c.chunks.getD (i-1) default).id c.chunks[i].id=some (jt (c.chunks.getD (i-1) default).id c.chunks[i].id):=by
    rw[jo lY];exact V2 _ _ (hf.id _ (jF lY)) (hf.id _ (jF hi))
   rw[e2,kP,ng,ij,if_pos rfl,hb,ng,ij,if_pos rfl];simp only[oP];refine(key _ _).trans ?_;unfold tN;rw[e1,decide_eq_true h0];simp only[B5,nH,nG]
  ·have kP:decide ((0:Int)<(i:Int))=false:=decide_eq_false (by omega);rw[kP];simp only[me,ij,tD];refine(key false _).trans ?_;unfold tN;rw[e1,decide_eq_false h0];rfl
 ·intro rec;simp only[kf.lx];rw[iR (jk (jr _))]
theorem agG(c:ig)(hl:c.iv.length≤1073741824):loop (kf.kW c) 0=if c.iv.all BZ=true then kf.k1 c else some false:=by
 rw[vD c.iv.length (λi=>BZ (c.iv.getD i default)) (kf.k1 c) (some false) (by omega) ?_ ?_,SM]
 ·intro rec i hi;simp only[kf.kW,kf.Lj,kf.BM];rw[iZ (jl hi),iX hi,ij];simp only[I3,ng,ij,ja (show i<4611686018427387904 by omega),jo hi];unfold BZ;generalize c.iv[i]=v;generalize j6 v.rq 0 1=a;generalize j6 v.rM 0 1048576=b;generalize j6 v.files 1 65535=d;have e:decide (v.files≠0) = !decide (v.files=0):=decide_not;rw[e]
  by_cases h2:v.state=2
  ·rw[h2];generalize decide (v.files=0)=f;cases a<;>cases b<;>cases d<;>cases f<;>simp
  ·rw[decide_eq_false h2];generalize decide (v.files=0)=f;generalize decide (v.state=1)=p;generalize decide (v.state=3)=q;cases a<;>cases b<;>cases f<;>cases p<;>cases q<;>simp
 ·intro rec;simp only[kf.kW];rw[iR (jk (jr _))]
theorem aeD{c:ig}{i:Nat}(hi:i<c.ik.length):oT c.ik.length (λk=>(c.ik.getD k default).iw.name==(c.ik.getD i default).iw.name)=(i:Int) ↔ ¬(c.ik.getD i default).iw.name∈(c.ik.take i).map λs=>s.iw.name:=by
 rw[TZ hi];constructor
 ·rintro⟨_,h2⟩ hm;obtain⟨s,hs,he⟩:=qJ.1 hm;obtain⟨j,hj,rfl⟩:=rA.1 hs;simp only[kX]at hj;have:=h2 j (by omega);rw[jo (by omega)]at this;rw[Dt]at he;simp[he]at this
 ·intro h;refine⟨by simp,λj hj=>?_⟩;rw[jo (show j<c.ik.length by omega)];simp only[beq_eq_false_iff_ne,ne_eq];exact λq=>h (qJ.2 ⟨c.ik[j],rA.2 ⟨j,by simp;omega,by simp⟩,q⟩)
theorem aiL{c:ig}{m:iF}(hr:uy c.chunks):(kO (oo (lU m)).length λk=>!(kO c.chunks.length λj=>!decide ((c.chunks.getD j default).id=(oo (lU m)).getD k default)))=true↔Ao c m=true:=by
 rw[ado hr,oI];constructor
 ·intro h y hy;rw[←Pm]at hy;obtain⟨k,hk,rfl⟩:=rA.1 hy;have:=h k hk;rw[jo hk,tE,←zK,oI]at this
  by_cases q:∃x∈c.chunks,x.id=(oo (lU m))[k]
  ·exact q
  ·refine absurd (λj hj=>?_) this;rw[jo hj,tE,decide_eq_false_iff_not];exact λe=>q ⟨_,jF hj,e⟩
 ·intro h k hk;obtain⟨x,hx,he⟩:=h _ ((Pm _ _).1 (jF hk));obtain⟨j,hj,rfl⟩:=rA.1 hx;rw[jo hk,tE,←zK,oI];intro q;have:=q j hj;rw[jo hj]at this;simp[he]at this
theorem agJ{c:ig}(hr:uy c.chunks):((∀i,i<c.ik.length→C4 c i=true) ∧ ∀i,i<c.im.length→Cu c i=true)↔((∀i,i<c.ik.length→yC c i=true) ∧ ∀i,i<c.im.length→ye c i=true):=by
 have hs:∀i,i<c.ik.length→(C4 c i=true↔yC c i=true ∧ ∀k,k<c.im.length → ¬(c.im.getD k default).of=(c.ik.getD i default).seq):=by
  intro i hi;unfold C4 yC;simp only[jK,tE,decide_eq_true_eq,decide_eq_false_iff_not,aiL hr,aeD hi,oI];constructor
  ·rintro⟨⟨⟨⟨⟨⟨h1,h2⟩,h3⟩,h4⟩,h5⟩,h6⟩,h7⟩;exact⟨⟨⟨⟨⟨⟨h1,h2⟩,h5⟩,h3⟩,h4⟩,h6⟩,h7⟩
  ·rintro⟨⟨⟨⟨⟨⟨h1,h2⟩,h5⟩,h3⟩,h4⟩,h6⟩,h7⟩;exact⟨⟨⟨⟨⟨⟨h1,h2⟩,h3⟩,h4⟩,h5⟩,h6⟩,h7⟩
 have he:∀i,i<c.im.length→(ye c i=true↔Cu c i=true ∧ ∀k,k<c.ik.length → ¬(c.ik.getD k default).seq=(c.im.getD i default).of):=by
  intro i hi;unfold Cu ye;simp only[jK,tE,decide_eq_false_iff_not,oI]
 constructor
 ·rintro⟨h1,h2⟩;exact⟨λi hi=>((hs i hi).1 (h1 i hi)).1,λi hi=>(he i hi).2 ⟨h2 i hi,λk hk q=>((hs k hk).1 (h1 k hk)).2 i hi q.symm⟩⟩
 ·rintro⟨h1,h2⟩;exact⟨λi hi=>(hs i hi).2 ⟨h1 i hi,λk hk q=>((he k hk).1 (h2 k hk)).2 i hi q.symm⟩,λi hi=>((he i hi).1 (h2 i hi)).1⟩
theorem V4(c:ig)(hf:JR c):kf c=some (pK c):=by
 unfold kf;rw[I3,ij,I3,ng,ij]
 by_cases hlen:j6 c.seq 0 1073741824=true∧c.ik.length≤8∧c.chunks.length≤200∧c.im.length≤200∧j6 (c.iv.length:Int) 1 8=true
 ·obtain⟨h1,h2,h3,h4,h5⟩:=hlen;have hv:=(tZ.1 h5).2;rw[h1,h5,decide_eq_false (show¬(8:Int)<(c.ik.length:Int) by omega),decide_eq_false (show¬(200:Int)<(c.chunks.length:Int) by omega),decide_eq_false (show¬(200:Int)<(c.im.length:Int) by omega)];simp only[nH,Jr,pF,if_true,sY,if_false];rw[agG c (by omega),afC c hf (by omega),agx c hf (by omega) (by omega) (by omega),afX c (by omega)];have e:pK c=(c.iv.all BZ&&(kO c.chunks.length (tN c)&&(kO c.ik.length (C4 c)&&kO c.im.length (Cu c)))):=by
   unfold pK zD zB yW;rw[h1,h5,decide_eq_true h2,decide_eq_true h4];have hc:wZ c=kO c.chunks.length (tN c):=by unfold wZ;rw[decide_eq_true h3,zJ]
   by_cases KU:kO c.chunks.length (tN c)=true
   ·have hr:=TC (c:=c) (hc.trans KU);have:=agJ hr;simp only[←oI]at this;rw[hc,KU];simp only[oP,zJ,Bool.and_assoc]
    congr 1
    rw[GQ,jK,jK];exact this.symm
   ·rw[zK]at KU;rw[hc,KU];simp
  rw[e];generalize c.iv.all BZ=a;generalize kO c.chunks.length (tN c)=b;generalize kO c.ik.length (C4 c)=d;generalize kO c.im.length (Cu c)=g;cases a<;>cases b<;>cases d<;>cases g<;>rfl
 ·have e:pK c=false:=by
   cases h:pK c with
   |false=>rfl
   |true =>
    refine absurd ?_ hlen;unfold pK zD wZ zB yW at h;simp only[jK,decide_eq_true_eq]at h;exact⟨h.1.1.1.1,h.1.2.2,h.1.1.2.2,h.2.2,h.1.1.1.2.2⟩
  rw[e,iZ]
  by_cases h1:j6 c.seq 0 1073741824=true
  ·rw[h1]
   by_cases h2:c.ik.length≤8
   ·rw[decide_eq_false (show¬(8:Int)<(c.ik.length:Int) by omega)]
    by_cases h3:c.chunks.length≤200
    ·rw[decide_eq_false (show¬(200:Int)<(c.chunks.length:Int) by omega)]
     by_cases h4:c.im.length≤200
     ·rw[decide_eq_false (show¬(200:Int)<(c.im.length:Int) by omega)];cases h5:j6 (c.iv.length:Int) 1 8 with
      |false=>rfl
      |true=>exact absurd ⟨h1,h2,h3,h4,h5⟩ hlen
     ·rw[decide_eq_true (show(200:Int)<(c.im.length:Int) by omega)];simp
    ·rw[decide_eq_true (show(200:Int)<(c.chunks.length:Int) by omega)];simp
   ·rw[decide_eq_true (show(8:Int)<(c.ik.length:Int) by omega)];simp
  ·rw[zK]at h1;rw[h1];simp
end Go.Wk.Lf
end
section
namespace Go.Wk.Lf
open Go.V Go.Sort Go.Proofs
theorem mof{α:Type}{p:α→Bool}{l:List α}{x:α}(h:x∈l.filter p):x∈l:=(wL.1 h).1
theorem NX{α:Type}{F:(Int×Int×List α→Option (List α))→Int×Int×List α→Option (List α)}(l:List α)(p:α→Bool)(k:Nat)(hk:k<l.length)(h0:∀j(h:j<l.length),j<k→p l[j]=false)(hpk:p l[k]=true)(hn:l.length≤1073741824)
  (nU:∀rec(a b:Nat)(m:List α)(hb:b<l.length),m.length=l.length→a<b→m[b]? =some l[b]→F rec ((a:Int),(b:Int),m)=if p l[b]=true then rec ((a:Int),((b+1:Nat):Int),m)else rec (((a+1:Nat):Int),((b+1:Nat):Int),m.set a l[b]))
  (oB:∀rec(a:Nat)m,m.length=l.length→a<l.length→F rec ((a:Int),(l.length:Int),m)=some (m.take a)):loop F ((k:Int),((k+1:Nat):Int),l)=some (l.filter λx=>!p x):=by
 refine nV (S:=Int×Int×List α) (σ:=Nat×List α) (λb s=>((s.1:Int),(b:Int),s.2)) l.length (λb s=>s.2.length=l.length∧s.1<b∧s.2.take s.1=(l.take b).filter (λx=>!p x)∧s.2.drop b=l.drop b) _ (i0:=k+1) (s0:=(k,l)) rfl (by omega) ⟨rfl,by simp,?_,rfl⟩ (by omega) ?_ ?_
 ·rw[ou hk,MP,MQ.2 (λx hx=>?_)]
  ·simp[hpk]
  ·obtain⟨j,hj,rfl⟩:=rA.1 hx;simp only[kX]at hj;rw[Dt,h0 j (by omega) (by omega)];rfl
 ·rintro rec b ⟨a,m⟩ hb ⟨hm,y3,ht,hd⟩ jh;have D5:m[b]? =some l[b]:=by
   have:=congrArg (λq=>q[0]?) hd;simp only[List.getElem?_drop,sZ]at this;rw[this];simp[hb]
  simp only at hm y3 ht hd ⊢;rw[nU rec a b m hb hm y3 D5]
  by_cases hp:p l[b]=true
  ·rw[if_pos hp];refine jh (a,m) ⟨hm,by simp;omega,?_,?_⟩
   ·simp only[ht];rw[ou hb,MP];simp[hp]
   ·simp only;rw[←Dq,←Dq,hd]
  ·rw[if_neg hp];refine jh (a+1,m.set a l[b]) ⟨by simpa using hm,by simp;omega,?_,?_⟩
   ·simp only;have e:(m.set a l[b]).take (a+1)=m.take a++[l[b]]:=by
     rw[List.take_add_one,RY (jg _)];simp[show a<m.length by omega]
    rw[e,ou hb,MP,ht];simp[hp]
   ·simp only;rw[List.drop_set_of_lt (by omega),←Dq,←Dq,hd]
 ·rintro rec ⟨a,m⟩ ⟨hm,y3,ht,hd⟩;simp only at hm y3 ht hd ⊢;rw[oB rec a m hm y3,ht,ow]
theorem KF{n:Nat}{p:Nat→Bool}:oT n p = -1 ↔ ∀i,i<n→p i=false:=by
 have h:=T0 (n:=n) (p:=p);constructor
 ·intro e i hi;rw[e]at h;have:=oI.1 h.symm i hi;simpa using this
 ·intro e;have:kO n (λi=>!p i)=true:=oI.2 λi hi=>by rw[e i hi];rfl
  rw[this,decide_eq_true_eq]at h;unfold oT at h ⊢
  split
  ·rename_i q;rw[if_pos q]at h;omega
  ·rfl
theorem HM{n:Nat}{p:Nat→Bool}(h:¬oT n p = -1):∃k,k<n∧oT n p=(k:Int)∧p k=true ∧ ∀j,j<k→p j=false:=by
 have hk:ue n (λi=>!p i)<n:=by
  unfold oT at h
  split at h
  ·assumption
  ·exact absurd rfl h
 have e:oT n p=(ue n (λi=>!p i):Int):=if_pos hk;obtain⟨h1,h2⟩:=(TZ hk).1 e;exact⟨_,hk,e,h1,h2⟩
theorem NW{α:Type}{l m:List α}{a:Nat}{z:α}(hm:m.length=l.length)(ha:a<l.length):(bd (cut (α:=α) m (a:Int) (m.length:Int)) λl7=>bd (yc m (a:Int).toNat ((m.length:Int).toNat-(a:Int).toNat) z) λl9=>bd (cut (α:=α) l9 0 (a:Int)) λlx=>bd (nz l9) λ_=>some lx)=some (m.take a):=by
 have e:(m.take a++iV (m.length-a) z).length=m.length:=by simp;omega
 rw[pM (by omega) (by omega) (by omega),ij,ly,ly,show yc m a (m.length-a) z=some (m.take a++iV (m.length-a) z)from if_pos (by omega),ij,pM (GY _) (by omega) (by rw[e];omega),ij,PZ (λq=>by rw[q]at e;simp at e;omega),ij];show some (((m.take a++iV (m.length-a) z).take (a:Int).toNat).drop 0)=_;rw[ly,ur,List.take_left' (by rw[kX];omega)]
def rR(s:ie):Bool:=decide (0<s.locs.length)
def ub(x:Chunk):Bool:=decide (0<x.locs.length)
theorem aaz(l:List ie)(hl:l.length≤1073741824):ui l=some (l.filter rR):=by
 have hi:yA l=some (oT l.length λi=>!rR (l.getD i default)):=by
  unfold yA;rw[CK l.length (λi=>!rR (l.getD i default)) (by omega) ?_ ?_]
  ·intro rec i hi;simp only[yA.l2,IU,FJ];rw[iZ (jl hi),iX hi,ij,jo hi,ja (by omega)];rfl
  ·intro rec;simp only[yA.l2,yA.k1];rw[iR (jk (jr _))]
 have ef:(λx=>!(!rR x))=rR:=funext λx=>B5 _;unfold ui;rw[hi,ij]
 by_cases h:(oT l.length λi=>!rR (l.getD i default)) = -1
 ·rw[iZ (decide_eq_true h),MQ.2 λx hx=>?_];obtain⟨i,hi,rfl⟩:=rA.1 hx;have:=KF.1 h i hi;rw[jo hi]at this;simpa using this
 ·obtain⟨k,hk,e,h1,h2⟩:=HM h;rw[iR (decide_eq_false h),e,ja (by omega)];rw[jo hk]at h1;rw[NX l (λx=>!rR x) k hk (λj hj xd=>by have:=h2 j xd;rwa[jo hj]at this) h1 hl ?_ ?_,ef]
  ·intro rec a b m hb hm y3 D5;simp only[ui.l2,ui.k3,IU,FJ];rw[iZ (jl (by omega)),wk D5,ij,ij,iX (show a<m.length by omega),ij,ja (by omega),ja (by omega),ly];simp only[rR]
   by_cases hq:0<l[b].locs.length<;>simp[hq]
  ·intro rec a m hm ha;simp only[ui.l2,ui.k1];rw[iR (jk (by omega))];exact NW hm ha
theorem aax(l:List Chunk)(hl:l.length≤1073741824):uh l=some (l.filter ub):=by
 have hi:yz l=some (oT l.length λi=>!ub (l.getD i default)):=by
  unfold yz;rw[CK l.length (λi=>!ub (l.getD i default)) (by omega) ?_ ?_]
  ·intro rec i hi;simp only[yz.l2,IV,FJ];rw[iZ (jl hi),iX hi,ij,jo hi,ja (by omega)];rfl
  ·intro rec;simp only[yz.l2,yz.k1];rw[iR (jk (jr _))]
 have ef:(λx=>!(!ub x))=ub:=funext λx=>B5 _;unfold uh;rw[hi,ij]
 by_cases h:(oT l.length λi=>!ub (l.getD i default)) = -1
 ·rw[iZ (decide_eq_true h),MQ.2 λx hx=>?_];obtain⟨i,hi,rfl⟩:=rA.1 hx;have:=KF.1 h i hi;rw[jo hi]at this;simpa using this
 ·obtain⟨k,hk,e,h1,h2⟩:=HM h;rw[iR (decide_eq_false h),e,ja (by omega)];rw[jo hk]at h1;rw[NX l (λx=>!ub x) k hk (λj hj xd=>by have:=h2 j xd;rwa[jo hj]at this) h1 hl ?_ ?_,ef]
  ·intro rec a b m hb hm y3 D5;simp only[uh.l2,uh.k3,IV,FJ];rw[iZ (jl (by omega)),wk D5,ij,ij,iX (show a<m.length by omega),ij,ja (by omega),ja (by omega),ly];simp only[ub]
   by_cases hq:0<l[b].locs.length<;>simp[hq]
  ·intro rec a m hm ha;simp only[uh.l2,uh.k1];rw[iR (jk (by omega))];exact NW hm ha
def Es(a s:Int):Int:=if a<s+1 then s+1 else a
def vT(x:Chunk):Chunk:=Chunk.mk x.id false [] x.locs
def P3(c:ig):ig:=ig.mk ((c.im.map (·.seq)).foldl Es (((c.ik.filter rR).map (·.seq)).foldl Es 0)) (c.ik.filter rR) ((c.chunks.filter ub).map vT) c.im c.iv
theorem Zm{c:ig}(h:pK c=true):0≤c.seq∧c.seq≤1073741824∧(∀s∈c.ik,0≤s.seq∧s.seq+1≤c.seq) ∧ ∀x∈c.im,0≤x.seq∧x.seq+1≤c.seq:=by
 unfold pK zB yW at h;simp only[jK,oI,tZ]at h;obtain⟨⟨⟨⟨⟨h0,h1⟩,_⟩,_⟩,hs,_⟩,he,_⟩:=h;refine⟨h0,h1,λs yh=>?_,λx hx=>?_⟩
 ·obtain⟨i,hi,rfl⟩:=rA.1 yh;have:=hs i hi;unfold yC at this;simp only[jK,tZ,jo hi]at this;have:=this.1.1.1.1.1;omega
 ·obtain⟨i,hi,rfl⟩:=rA.1 hx;have:=he i hi;unfold ye at this;simp only[jK,tZ,jo hi]at this;have:=this.1.1.1.1.1;omega
theorem agw{c:ig}(h:pK c=true):oC c=some (P3 c):=by
 have hs:=Kc h;obtain⟨hv,⟨hc,_⟩,⟨U1,_⟩,he,_⟩:=hs;obtain⟨q0,q1,qs,qe⟩:=Zm h;have hfs:(c.ik.filter rR).length≤c.ik.length:=E3 ..;have hfc:(c.chunks.filter ub).length≤c.chunks.length:=E3 ..;unfold oC;rw[NQ _ hv hc U1 he,ij,if_pos h];rw[iR (by decide),Xl _ (Kc h),ij,aaz _ U1,ij,aax _ hc,ij];rw[CN (c.chunks.filter ub) vT (λl=>oC.k1 c (c.ik.filter rR) l) (by omega) ?_ ?_]
 ·unfold oC.k1;rw[uR (S:=Int×Int) (σ:=Int) (λi a=>((i:Int),a)) (c.ik.filter rR) (λa s=>Es a s.seq) (λa=>oC.k2 c (c.ik.filter rR) ((c.chunks.filter ub).map vT) a) (λ_ _=>True) (i0:=0) (s0:=0) (x0:=((0:Int),(0:Int))) rfl (ju _) trivial (by omega) ?_ ?_]
  ·unfold oC.k2;rw[uR (S:=Int×Int) (σ:=Int) (λi a=>((i:Int),a)) c.im (λa s=>Es a s.seq) (λa=>oC.k3 c (c.ik.filter rR) ((c.chunks.filter ub).map vT) a) (λ_ _=>True) (i0:=0) (x0:=((0:Int),List.foldl (λa s=>Es a s.seq) 0 (List.drop 0 (c.ik.filter rR)))) rfl (ju _) trivial (by omega) ?_ ?_]
   ·unfold oC.k3 P3;rw[ur,ur,List.foldl_map,List.foldl_map]
   ·intro rec i a hi _;refine⟨trivial,?_⟩;simp only[oC.l4];have:=qe _ (jF hi);rw[iZ (jl hi),iX hi,ij,ja (by omega),ll (by omega) (by omega)];unfold Es
    by_cases hh:a<c.im[i].seq+1<;>simp[hh]
   ·intro rec a _;simp only[oC.l4];rw[iR (jk (jr _))]
  ·intro rec i a hi _;refine⟨trivial,?_⟩;simp only[oC.l5];have:=qs _ (mof (jF hi));rw[iZ (jl hi),iX hi,ij,ja (by omega),ll (by omega) (by omega)];unfold Es
   by_cases hh:a<(c.ik.filter rR)[i].seq+1<;>simp[hh]
  ·intro rec a _;simp only[oC.l5];rw[iR (jk (jr _))]
 ·intro rec i m hi hm hx;simp only[oC.l6];rw[iZ (jl hi),wk hx,ij,ly,iX (show i<(m.set i _).length by simp;omega),ij,ja (by omega),G5];simp[vT]
 ·intro rec m hm;simp only[oC.l6];rw[iR (jk (by omega))]
end Go.Wk.Lf
end
section
namespace Go.Wk.Lf
open Go.V Go.Sort Go.Proofs
def oD(x:UInt32)(k:Nat):UInt32:=kQ (x.toNat/2^k) ||| kQ (x.toNat*2^(32-k))
theorem agk(x:UInt32):rJ x 2=some (oD x 2):=rfl
theorem ago(x:UInt32):rJ x 6=some (oD x 6):=rfl
theorem agp(x:UInt32):rJ x 7=some (oD x 7):=rfl
theorem age(x:UInt32):rJ x 11=some (oD x 11):=rfl
theorem agf(x:UInt32):rJ x 13=some (oD x 13):=rfl
theorem agh(x:UInt32):rJ x 17=some (oD x 17):=rfl
theorem agi(x:UInt32):rJ x 18=some (oD x 18):=rfl
theorem agj(x:UInt32):rJ x 19=some (oD x 19):=rfl
theorem agl(x:UInt32):rJ x 22=some (oD x 22):=rfl
theorem agn(x:UInt32):rJ x 25=some (oD x 25):=rfl
theorem AF(x:UInt32)(i:Int)(k:Nat)(h:qX x i=some (kQ (x.toNat*2^(32-k)) ||| kQ (x.toNat/2^k))):qX x i=some (oD x k):=by
 rw[h,UInt32.or_comm];rfl
theorem af8(x:UInt32):qX x (-2)=some (oD x 2):=AF x _ 2 rfl
theorem agb(x:UInt32):qX x (-6)=some (oD x 6):=AF x _ 6 rfl
theorem agd(x:UInt32):qX x (-7)=some (oD x 7):=AF x _ 7 rfl
theorem af3(x:UInt32):qX x (-11)=some (oD x 11):=AF x _ 11 rfl
theorem af4(x:UInt32):qX x (-13)=some (oD x 13):=AF x _ 13 rfl
theorem af5(x:UInt32):qX x (-17)=some (oD x 17):=AF x _ 17 rfl
theorem af6(x:UInt32):qX x (-18)=some (oD x 18):=AF x _ 18 rfl
theorem af7(x:UInt32):qX x (-19)=some (oD x 19):=AF x _ 19 rfl
theorem af9(x:UInt32):qX x (-22)=some (oD x 22):=AF x _ 22 rfl
theorem aga(x:UInt32):qX x (-25)=some (oD x 25):=AF x _ 25 rfl
theorem adI{α:Type}[Inhabited α]{l:List α}{n:Nat}(h:n<l.length):ix l (n:Int)=some (l.getD n default):=by
 rw[iX h];simp[h]
def LW(k w s:List UInt32)(i:Nat):List UInt32 :=
 let a:=s.getD 0 default;let e:=s.getD 4 default
 let t:=((((s.getD 7 default+((oD e 6 ^^^oD e 11) ^^^oD e 25))+((e &&& s.getD 5 default) ^^^((~~~e) &&& s.getD 6 default)))+k.getD i default)+w.getD i default)
 [t+(((oD a 2 ^^^oD a 13) ^^^oD a 22)+(((a &&& s.getD 1 default) ^^^(a &&& s.getD 2 default)) ^^^(s.getD 1 default &&& s.getD 2 default))),a,s.getD 1 default,s.getD 2 default,s.getD 3 default+t,e,s.getD 5 default,s.getD 6 default]
def I4(k w s:List UInt32):List UInt32:=(mI 64).foldl (LW k w) s
def J3(s0 s:List UInt32):List UInt32:=(mI 8).foldl (λt i=>t.set i (t.getD i default+s.getD i default)) s0
def Xw(b:List UInt8)(i:Nat):UInt32:=kQ (mG ((b.take (4*i+4)).drop (4*i)))
def AJ(b:List UInt8)(w:List UInt32)(i:Nat):List UInt32 :=
 if i<16 then w.set i (Xw b i)
 else w.set i (((w.getD (i-16) default+((oD (w.getD (i-15) default) 7 ^^^oD (w.getD (i-15) default) 18) ^^^(w.getD (i-15) default >>> kQ 3)))+w.getD (i-7) default)+((oD (w.getD (i-2) default) 17 ^^^oD (w.getD (i-2) default) 19) ^^^(w.getD (i-2) default >>> kQ 10)))
def Jc(b:List UInt8):List UInt32:=(mI 64).foldl (AJ b) (iV 64 0)
def Fv(k:List UInt32)(b:List UInt8)(s:List UInt32):List UInt32:=J3 s (I4 k (Jc b) s)
theorem lit(l:List UInt32)(n:Nat)(h:n<l.length)(i:Int)(hi:i=(n:Int)):ix l i=some (l.getD n default):=by subst hi;exact adI h
theorem X9(k:List UInt32)(hk:k.length=64)(tq:List UInt8)(BW:List UInt32)(wx)(w:List UInt32)(hw:w.length=64)(s:List UInt32)(hs:s.length=8) :
  loop (kv.l9 k tq BW wx w) (0,s)=kv.k7 tq BW wx (I4 k w s):=by
 have:=uR (F:=kv.l9 k tq BW wx w) (x0:=(0,s)) (λi s=>((i:Int),s)) (mI 64) (LW k w) (kv.k7 tq BW wx) (λ_ s=>s.length=8) (i0:=0) (s0:=s) rfl (ju _) hs (by decide) ?_ ?_
 ·rw[this];rfl
 ·intro rec i s hi hs;rw[wJ]at hi;refine⟨rfl,?_⟩;simp only[kv.l9];rw[iZ (decide_eq_true (by omega))];simp only[lit s 4 (by omega) 4 rfl,lit s 0 (by omega) 0 rfl,lit s 1 (by omega) 1 rfl,lit s 2 (by omega) 2 rfl,lit s 3 (by omega) 3 rfl,lit s 5 (by omega) 5 rfl,lit s 6 (by omega) 6 rfl,lit s 7 (by omega) 7 rfl,ij,af8,agb,af3,af4,af9,aga,lit k i (by omega) i rfl,lit w i (by omega) i rfl,ja (show i<4611686018427387904 by omega),yG];rfl
 ·intro rec s hs;simp only[kv.l9];rw[iR (by decide)]
theorem YN(k:List UInt32)(hk:k.length=64)(i32:Int)(BV:List UInt32)(wv)(w:List UInt32)(hw:w.length=64)(s:List UInt32)(hs:s.length=8) :
  loop (jW.l9 k i32 BV wv w) (0,s)=jW.k7 i32 BV wv (I4 k w s):=by
 have:=uR (F:=jW.l9 k i32 BV wv w) (x0:=(0,s)) (λi s=>((i:Int),s)) (mI 64) (LW k w) (jW.k7 i32 BV wv) (λ_ s=>s.length=8) (i0:=0) (s0:=s) rfl (ju _) hs (by decide) ?_ ?_
 ·rw[this];rfl
 ·intro rec i s hi hs;rw[wJ]at hi;refine⟨rfl,?_⟩;simp only[jW.l9];rw[iZ (decide_eq_true (by omega))];simp only[lit s 4 (by omega) 4 rfl,lit s 0 (by omega) 0 rfl,lit s 1 (by omega) 1 rfl,lit s 2 (by omega) 2 rfl,lit s 3 (by omega) 3 rfl,lit s 5 (by omega) 5 rfl,lit s 6 (by omega) 6 rfl,lit s 7 (by omega) 7 rfl,ij,agk,ago,age,agf,agl,agn,lit k i (by omega) i rfl,lit w i (by omega) i rfl,ja (show i<4611686018427387904 by omega),yG];rfl
 ·intro rec s hs;simp only[jW.l9];rw[iR (by decide)]
theorem Wm(k w s:List UInt32)(hs:s.length=8):(I4 k w s).length=8:=by
 have h:∀(l:List Nat)s,s.length=8→(l.foldl (LW k w) s).length=8:=λl=>by
  induction l with
  |nil=>intro s h;exact h
  |cons i l ih=>intro s _;exact ih _ rfl
 unfold I4;exact h _ s hs
theorem KJ{α:Type}{f:List α→Nat→List α}(hf:∀s i,(f s i).length=s.length):∀(l:List Nat)(s:List α),(l.foldl f s).length=s.length
 |[],s=>rfl
 |i::l,s=>by rw[EZ,KJ hf l,hf]
theorem Yd(s0 s:List UInt32):(J3 s0 s).length=s0.length:=KJ (λt i=>by simp) _ _
theorem Qx(b:List UInt8)(w:List UInt32)(i:Nat):(AJ b w i).length=w.length:=by unfold AJ;split<;>simp
theorem Wx(b:List UInt8):(Jc b).length=64:=by unfold Jc;rw[KJ (Qx b)];simp
theorem X8(tq:List UInt8)(wx)(s t:List UInt32)(hs:s.length=8)(ht:t.length=8) :
  loop (kv.l8 tq wx s) (0,t)=kv.k5 tq wx (J3 t s):=by
 have:=uR (F:=kv.l8 tq wx s) (x0:=(0,t)) (λi s=>((i:Int),s)) (mI 8) (λt i=>t.set i (t.getD i default+s.getD i default)) (kv.k5 tq wx) (λ_ s=>s.length=8) (i0:=0) (s0:=t) rfl (ju _) ht (by decide) ?_ ?_
 ·rw[this];rfl
 ·intro rec i t hi ht;rw[wJ]at hi;refine⟨by simp[ht],?_⟩;simp only[kv.l8];rw[iZ (decide_eq_true (by omega))];simp only[lit s i (by omega) i rfl,lit t i (by omega) i rfl,ij,ja (show i<4611686018427387904 by omega),yG,ly]
 ·intro rec s hs;simp only[kv.l8];rw[iR (by decide)]
theorem YM(i32:Int)(wv)(s t:List UInt32)(hs:s.length=8)(ht:t.length=8) :
  loop (jW.l8 i32 wv s) (0,t)=jW.k5 i32 wv (J3 t s):=by
 have:=uR (F:=jW.l8 i32 wv s) (x0:=(0,t)) (λi s=>((i:Int),s)) (mI 8) (λt i=>t.set i (t.getD i default+s.getD i default)) (jW.k5 i32 wv) (λ_ s=>s.length=8) (i0:=0) (s0:=t) rfl (ju _) ht (by decide) ?_ ?_
 ·rw[this];rfl
 ·intro rec i t hi ht;rw[wJ]at hi;refine⟨by simp[ht],?_⟩;simp only[jW.l8];rw[iZ (decide_eq_true (by omega))];simp only[lit s i (by omega) i rfl,lit t i (by omega) i rfl,ij,ja (show i<4611686018427387904 by omega),yG,ly]
 ·intro rec s hs;simp only[jW.l8];rw[iR (by decide)]
theorem afb(a b:Nat)(ha:a<4611686018427387904)(hb:b<4611686018427387904):bits .or .u64 (a:Int) (b:Int)=((a ||| b:Nat):Int):=by
 have hx:a ||| b<2^62:=Nat.or_lt_two_pow (by omega) (by omega);have h1:(pv 64 (a:Int)).toNat=a:=by
  rw[Mx,My];exact zQ (by omega)
 have h2:(pv 64 (b:Int)).toNat=b:=by
  rw[Mx,My];exact zQ (by omega)
 show Dg.wrap ((pv 64 (a:Int) ||| pv 64 (b:Int)).toNat:Int)=_;rw[BitVec.toNat_or,h1,h2,Mm];omega
theorem zF{x:Int}(h0:0≤x)(h1:x<18446744073709551616):wu x=x:=by
 show Dg.wrap x=x;rw[Mm];omega
theorem afa(n:Nat)(c:UInt8)(hn:n<18014398509481984):bits .or .u64 (wu ((n:Int)*2^(8:Int).toNat)) (c.toNat:Int)=((n*256+c.toNat:Nat):Int):=by
 have hc:=c.toNat_lt;have e:wu ((n:Int)*2^(8:Int).toNat)=((n*256:Nat):Int):=by
  rw[show(8:Int).toNat=8 from rfl];rw[zF (by omega) (by omega)];omega
 rw[e,afb _ _ (by omega) (by omega)];have:=R9 (i:=8) (b:=c.toNat) (by omega) n;rw[G9]at this;rw[show n*256=n*2^8 from rfl,this]
theorem ace(l:List UInt8)(hl:l.length≤7):yv l=some (mG l:Int):=by
 unfold yv;refine nV (S:=Int×Int) (σ:=Unit) (λi _=>(((mG (l.take i):Nat):Int),(i:Int))) l.length (λ_ _=>True) _ (i0:=0) (s0:=()) (by simp[mG]) (ju _) trivial (by omega) ?_ ?_
 ·intro rec i _ hi _ jh;have jB:mG (l.take i)<256^6:=sa (J7 _) (R8 (by decide) (by simp;omega));simp only[yv.l2];rw[iZ (jl hi),iX hi,ij,afa _ _ (by omega),ja (by omega)];have:=jh () trivial;rw[ou hi,Nw]at this;exact this
 ·intro rec _ _;simp only[yv.l2,yv.k1];rw[iR (jk (jr _)),ow]
theorem aid(n:Nat):EA (n:Int)=kQ n:=by
 unfold EA;apply Sc;simp only[Hd];omega
theorem X6(k:List UInt32)(tq:List UInt8)(Ov:64≤tq.length)(BW:List UInt32)(wx) :
  loop (kv.mc k tq BW wx) (0,iV 64 0)=kv.k6 k tq BW wx (Jc tq):=by
 have:=uR (F:=kv.mc k tq BW wx) (x0:=(0,iV 64 0)) (λi s=>((i:Int),s)) (mI 64) (AJ tq) (kv.k6 k tq BW wx) (λ_ s=>s.length=64) (i0:=0) (s0:=iV 64 0) rfl (ju _) (by simp) (by decide) ?_ ?_
 ·rw[this];rfl
 ·intro rec i w hi hw;rw[wJ]at hi;refine⟨by rw[Qx,hw],?_⟩;simp only[kv.mc,kv.sy,yG];rw[iZ (decide_eq_true (by omega))]
  by_cases h:i<16
  ·rw[iZ (decide_eq_true (by omega))];rw[ll (x:=4*(i:Int)) (by omega) (by omega),ll (x:=4*(i:Int)+4) (by omega) (by omega)]
   by_cases hc:4*i+4≤tq.length
   ·rw[pM (by omega) (by omega) (by omega),ij,show(4*(i:Int)+4).toNat=4*i+4 by omega,show(4*(i:Int)).toNat=4*i by omega,ace _ (by simp;omega),ij,lit w i (by omega) i rfl,ij,aid,ja (by omega),ly];unfold AJ;rw[if_pos h];rfl
   ·omega
  ·rw[iR (decide_eq_false (by omega))];simp only[lit w (i-15) (by omega) (wr ((i:Int)-15)) (by rw[ll (by omega) (by omega)];omega),lit w (i-2) (by omega) (wr ((i:Int)-2)) (by rw[ll (by omega) (by omega)];omega),lit w (i-16) (by omega) (wr ((i:Int)-16)) (by rw[ll (by omega) (by omega)];omega),lit w (i-7) (by omega) (wr ((i:Int)-7)) (by rw[ll (by omega) (by omega)];omega),lit w i (by omega) i rfl,ij,agd,af6,af5,af7,ja (show i<4611686018427387904 by omega),ly];unfold AJ;rw[if_neg h]
 ·intro rec s hs;simp only[kv.mc];rw[iR (by decide)]
end Go.Wk.Lf
end
section
namespace Go.Wk.Lf
open Go.V Go.Sort Go.Proofs
theorem aiT(n:Nat)(c:UInt8)(hn:n<16777216):(kQ n <<< kQ 8) ||| c.toUInt32=kQ (n*256+c.toNat):=by
 have hc:=c.toNat_lt;apply Sc;have h1:(kQ n <<< kQ 8).toNat=n*256:=by
  rw[Sd];simp only[Hd];rw[show 8%2^32%32=8 from rfl,G9];omega
 rw[UInt32.toNat_or,h1,UInt8.toNat_toUInt32];simp only[Hd];have:=R9 (i:=8) (b:=c.toNat) (by omega) n;rw[G9]at this;rw[show n*256=n*2^8 from rfl,←this];omega
theorem YK(p:List UInt8)(kG:Nat)(hb:64*kG+64≤p.length)(hp:p.length≤1073741824)(i:Nat)(hi:i<16)(Wd)(w:List UInt32)(hw:w.length=64)(h0:w.getD i default=0) :
  loop (jW.nw p ((64*kG:Nat):Int) (i:Int) Wd) (0,w)=jW.BM (i:Int) Wd (w.set i (Xw (p.drop (64*kG)) i)):=by
 have hl:(((p.drop (64*kG)).take (4*i+4)).drop (4*i)).length=4:=by simp;omega
 refine nV (S:=Int×List UInt32) (σ:=Unit) (λj _=>((j:Int),w.set i (kQ (mG ((((p.drop (64*kG)).take (4*i+4)).drop (4*i)).take j))))) 4 (λ_ _=>True) _ (i0:=0) (s0:=()) ?_ (ju _) trivial (by omega) ?_ ?_
 ·refine congrArg (Prod.mk (0:Int)) ?_;rw[List.take_zero];apply JJ (by simp);intro n h1 h2;rw[List.getElem_set]
  split
  ·rename_i e;subst e;have:=h0;rw[pR,jx h1]at this;simpa[mG]using this
  ·rfl
 ·intro rec j _ hj _ jh;have jB:mG ((((p.drop (64*kG)).take (4*i+4)).drop (4*i)).take j)<256^3:=sa (J7 _) (R8 (by decide) (by simp;omega));simp only[jW.nw];rw[iZ (decide_eq_true (by omega)),lit _ i (by simp;omega) i rfl,ij];rw[ll (x:=4*(i:Int)) (by omega) (by omega),ll (x:=((64*kG:Nat):Int)+4*(i:Int)) (by omega) (by omega),ll (x:=((64*kG:Nat):Int)+4*(i:Int)+(j:Int)) (by omega) (by omega)];rw[adH (n:=64*kG+4*i+j) (by omega) (by omega),ij,ij,ja (by omega),ly];have e1:(w.set i (kQ (mG ((((p.drop (64*kG)).take (4*i+4)).drop (4*i)).take j)))).getD i default=kQ (mG ((((p.drop (64*kG)).take (4*i+4)).drop (4*i)).take j)):=by
   rw[pR,uv (by omega)];rfl
  rw[e1,aiT _ _ (by omega),G5];have:=jh () trivial;rw[ou (by omega),Nw]at this;have e2:(((p.drop (64*kG)).take (4*i+4)).drop (4*i))[j]'(by omega)=p[64*kG+4*i+j]'(by omega):=by
   simp only[MT,Dt];congr 1;omega
  rw[e2]at this;exact this
 ·intro rec _ _;simp only[jW.nw];rw[iR (by decide),xB (by omega)];rfl
theorem YJ(k:List UInt32)(p:List UInt8)(kG:Nat)(hb:64*kG+64≤p.length)(hp:p.length≤1073741824)(BV:List UInt32)(wv) :
  loop (jW.mc k p ((64*kG:Nat):Int) BV wv) (0,iV 64 0)=jW.k6 k ((64*kG:Nat):Int) BV wv (Jc (p.drop (64*kG))):=by
 have:=uR (F:=jW.mc k p ((64*kG:Nat):Int) BV wv) (x0:=(0,iV 64 0)) (λi s=>((i:Int),s)) (mI 64) (AJ (p.drop (64*kG))) (jW.k6 k ((64*kG:Nat):Int) BV wv) (λi s=>s.length=64 ∧ ∀j,i≤j→s.getD j default=0) (i0:=0) (s0:=iV 64 0) rfl (ju _) ⟨by simp,λj _=>?_⟩ (by decide) ?_ ?_
 ·rw[this];rfl
 ·rw[pR,List.getElem?_replicate];split<;>rfl
 ·intro rec i w hi hw;rw[wJ]at hi;obtain⟨hw,hz⟩:=hw;simp only[yG];refine⟨⟨by rw[Qx,hw],λj hj=>?_⟩,?_⟩
  ·rw[←hz j (by omega),pR,pR];unfold AJ
   split<;>rw[wI (by omega)]
  simp only[jW.mc];rw[iZ (decide_eq_true (by omega))]
  by_cases h:i<16
  ·rw[iZ (decide_eq_true (by omega)),YK p kG hb hp i h _ w hw (hz i (jg _))];simp only[jW.BM,jW.sy];rw[ja (by omega)];unfold AJ;rw[if_pos h]
  ·rw[iR (decide_eq_false (by omega))];simp only[jW.BK,jW.sy];simp only[lit w (i-15) (by omega) (wr ((i:Int)-15)) (by rw[ll (by omega) (by omega)];omega),lit w (i-2) (by omega) (wr ((i:Int)-2)) (by rw[ll (by omega) (by omega)];omega),lit w (i-16) (by omega) (wr ((i:Int)-16)) (by rw[ll (by omega) (by omega)];omega),lit w (i-7) (by omega) (wr ((i:Int)-7)) (by rw[ll (by omega) (by omega)];omega),lit w i (by omega) i rfl,ij,agp,agi,agh,agj,ja (show i<4611686018427387904 by omega),ly];unfold AJ;rw[if_neg h]
   congr 3
   rw[Hc,Hc,Hc,Hc]
   congr 1
   rw[←Hc,←Hc]
   congr 1
   exact UInt32.add_comm _ _
 ·intro rec s hs;simp only[jW.mc];rw[iR (by decide)]
def CV(s:List UInt32):List UInt8:=(mI 32).foldl (λo i=>o.set i (kQ ((s.getD (i/4) default).toNat/2^(24-8*(i%4)))).toUInt8) (iV 32 0)
theorem TR(i:Nat):(i:Int).tdiv 4=((i/4:Nat):Int):=rfl
theorem VG(i:Nat):(i:Int).tmod 4=((i%4:Nat):Int):=rfl
theorem WC(x:UInt32)(i:Nat)(n:Int)(h:n=24-8*((i%4:Nat):Int)):C3 x n=some (kQ (x.toNat/2^(24-8*(i%4)))):=by
 subst h;unfold C3;rw[if_pos (by omega),show(24-8*((i%4:Nat):Int)).toNat=24-8*(i%4) by omega]
theorem Ya(s:List UInt32)(hs:s.length=8):kv.k1 s=some (CV s):=by
 unfold kv.k1;have:=uR (F:=kv.l3 s) (x0:=(0,iV 32 0)) (λi s=>((i:Int),s)) (mI 32) (λo i=>o.set i (kQ ((s.getD (i/4) default).toNat/2^(24-8*(i%4)))).toUInt8) some (λ_ o=>o.length=32) (i0:=0) (s0:=iV 32 0) rfl (ju _) (by simp) (by decide) ?_ ?_
 ·rw[this];rfl
 ·intro rec i o hi ho;rw[wJ]at hi;refine⟨by simp[ho],?_⟩;simp only[kv.l3,TR,VG];rw[iZ (decide_eq_true (by omega)),ll (x:=((i/4:Nat):Int)) (by omega) (by omega),lit s (i/4) (by omega) _ rfl,ij,ll (x:=8*((i%4:Nat):Int)) (by omega) (by omega),ll (x:=24-8*((i%4:Nat):Int)) (by omega) (by omega),WC _ i _ rfl,ij,iX (l:=o) (n:=i) (by omega),ij,ja (by omega),ly,yG]
 ·intro rec s hs;simp only[kv.l3,kv.k2];rw[iR (by decide)]
theorem YO(s:List UInt32)(hs:s.length=8):jW.k1 s=some (CV s):=by
 unfold jW.k1;have:=uR (F:=jW.l3 s) (x0:=(0,iV 32 0)) (λi s=>((i:Int),s)) (mI 32) (λo i=>o.set i (kQ ((s.getD (i/4) default).toNat/2^(24-8*(i%4)))).toUInt8) some (λ_ o=>o.length=32) (i0:=0) (s0:=iV 32 0) rfl (ju _) (by simp) (by decide) ?_ ?_
 ·rw[this];rfl
 ·intro rec i o hi ho;rw[wJ]at hi;refine⟨by simp[ho],?_⟩;simp only[jW.l3,TR,VG];rw[iZ (decide_eq_true (by omega)),ll (x:=((i/4:Nat):Int)) (by omega) (by omega),lit s (i/4) (by omega) _ rfl,ij,ll (x:=8*((i%4:Nat):Int)) (by omega) (by omega),ll (x:=24-8*((i%4:Nat):Int)) (by omega) (by omega),zF (by omega) (by omega),WC _ i _ rfl,ij,iX (l:=o) (n:=i) (by omega),ij,ja (by omega),ly,yG]
 ·intro rec s hs;simp only[jW.l3,jW.k2];rw[iR (by decide)]
theorem S8(k:List UInt32)(b:List UInt8)(s:List UInt32):(Fv k b s).length=s.length:=Yd _ _
theorem X7(k:List UInt32)(hk:k.length=64)(p:List UInt8)(n:Nat)(hn:p.length=64*n)(hp:p.length≤1073741824)(s0:List UInt32)(h0:s0.length=8) :
  loop (kv.l4 k) (p,s0)=some (CV ((mI n).foldl (λs i=>Fv k (p.drop (64*i)) s) s0)):=by
 have:=uR (F:=kv.l4 k) (x0:=(p,s0)) (λi s=>(p.drop (64*i),s)) (mI n) (λs i=>Fv k (p.drop (64*i)) s) (λs=>some (CV s)) (λ_ s=>s.length=8) (i0:=0) (s0:=s0) rfl (ju _) h0 (by simp;omega) ?_ ?_
 ·rw[this];rfl
 ·intro rec i s hi hs;rw[wJ]at hi;refine⟨by rw[S8,hs],?_⟩;simp only[kv.l4,yG];have hl:(p.drop (64*i)).length=p.length-64*i:=od;rw[iZ (decide_eq_true (by omega)),X6 k _ (by omega)];simp only[kv.k6,kv.k7,kv.k5];rw[X9 k hk _ _ _ _ (Wx _) s hs];simp only[kv.k7];rw[X8 _ _ _ _ (Wm _ _ _ hs) hs];simp only[kv.k5];rw[pM (by omega) (by omega) (by omega),ij,ly,ow,show(64:Int).toNat=64 from rfl,Dq,show 64*i+64=64*(i+1) by omega];rfl
 ·intro rec s hs;simp only[kv.l4,wJ];have hl:(p.drop (64*n)).length=p.length-64*n:=od;rw[iR (decide_eq_false (by omega)),Ya s hs]
theorem YL(k:List UInt32)(hk:k.length=64)(p:List UInt8)(n:Nat)(hn:p.length=64*n)(hp:p.length≤1073741824)(s0:List UInt32)(h0:s0.length=8) :
  loop (jW.l4 k p) (0,s0)=some (CV ((mI n).foldl (λs i=>Fv k (p.drop (64*i)) s) s0)):=by
 have:=uR (F:=jW.l4 k p) (x0:=(0,s0)) (λi s=>(((64*i:Nat):Int),s)) (mI n) (λs i=>Fv k (p.drop (64*i)) s) (λs=>some (CV s)) (λ_ s=>s.length=8) (i0:=0) (s0:=s0) rfl (ju _) h0 (by simp;omega) ?_ ?_
 ·rw[this];rfl
 ·intro rec i s hi hs;rw[wJ]at hi;refine⟨by rw[S8,hs],?_⟩;simp only[jW.l4,yG];rw[iZ (decide_eq_true (by omega)),YJ k p i (by omega) hp];simp only[jW.k6];rw[YN k hk _ _ _ _ (Wx _) s hs];simp only[jW.k7];rw[YM _ _ _ _ (Wm _ _ _ hs) hs];simp only[jW.k5];rw[ll (by omega) (by omega),show((64*i:Nat):Int)+64=((64*(i+1):Nat):Int) by omega];rfl
 ·intro rec s hs;simp only[jW.l4,wJ];rw[iR (decide_eq_false (by omega)),YO s hs]
def pt(n:Nat):Nat:=(119-n%64)%64
def Ka(n j:Nat):UInt8:=jC (((n:Int)*8)/2^(8*(7-(j:Int))).toNat)
def AA(d:List UInt8):List UInt8:=(mI 8).foldl (λl j=>l++[Ka d.length j]) (d++[128]++iV (pt d.length) 0)
theorem P2(d:List UInt8):(AA d).length=d.length+9+pt d.length:=by
 unfold AA;have h:∀(l:List Nat)(s:List UInt8),(l.foldl (λl j=>l++[Ka d.length j]) s).length=s.length+l.length:=λl=>by
  induction l with
  |nil=>intro s;rfl
  |cons i l ih=>intro s;rw[EZ,ih];simp;omega
 rw[h];simp;omega
theorem Yb(d:List UInt8)(hd:d.length≤1000000):rT d=some (AA d):=by
 have hz:pt d.length<64:=zR _ (by decide);unfold rT;rw[ki (by simp;omega),ij,wM,ki (by simp;omega),ij];refine nV (S:=List UInt8) (σ:=Unit) (λj _=>d++[128]++iV j 0) (pt d.length) (λ_ _=>True) _ (i0:=0) (s0:=()) (by simp) (ju _) trivial (by omega) ?_ ?_
 ·intro rec j _ hj _ jh;simp only[rT.l4];have hl:(d++[128]++iV j (0:UInt8)).length=d.length+1+j:=by simp;omega
  have hm:((d.length+1+j:Nat):Int).tmod 64=(((d.length+1+j)%64:Nat):Int):=rfl;rw[hl,hm,iZ (decide_eq_true (by unfold pt at hj;omega)),ki (by rw[hl];simp;omega),ij];have:=jh () trivial;rw[List.replicate_succ',←pG]at this;exact this
 ·intro rec _ _;simp only[rT.l4];have hl:(d++[128]++iV (pt d.length) (0:UInt8)).length=d.length+1+pt d.length:=by simp;omega
  have hm:((d.length+1+pt d.length:Nat):Int).tmod 64=(((d.length+1+pt d.length)%64:Nat):Int):=rfl;rw[hl,hm,iR (decide_eq_false (by unfold pt;omega))];unfold rT.k1;have:=uR (F:=rT.l3 d) (x0:=(7,d++[128]++iV (pt d.length) (0:UInt8))) (λj l=>(7-(j:Int),l)) (mI 8) (λl j=>l++[Ka d.length j]) some (λj l=>l.length=d.length+1+pt d.length+j) (i0:=0) (s0:=d++[128]++iV (pt d.length) (0:UInt8)) rfl (ju _) hl (by decide) ?_ ?_
  ·rw[this];rfl
  ·intro rec j l hj hl;rw[wJ]at hj;refine⟨by simp[hl];omega,?_⟩;simp only[rT.l3];rw[iZ (decide_eq_true (by omega)),zF (x:=(d.length:Int)) (by omega) (by omega),show(2:Int)^(3:Int).toNat=8 from rfl,zF (x:=(d.length:Int)*8) (by omega) (by omega),ll (x:=8*(7-(j:Int))) (by omega) (by omega)];unfold GF;rw[if_pos (by omega),ij,ki (by simp;omega),ij,ll (by omega) (by omega),yG,show 7-(j:Int)-1=7-((j+1:Nat):Int) by omega];rfl
  ·intro rec l hl;simp only[rT.l3,rT.k2];rw[iR (by decide)]
theorem YP(d:List UInt8)(hd:d.length≤1000000):rI d=some (AA d):=by
 have hz:pt d.length<64:=zR _ (by decide);unfold rI;rw[ki (by simp;omega),ij,wM,ki (by simp;omega),ij];refine nV (S:=List UInt8) (σ:=Unit) (λj _=>d++[128]++iV j 0) (pt d.length) (λ_ _=>True) _ (i0:=0) (s0:=()) (by simp) (ju _) trivial (by omega) ?_ ?_
 ·intro rec j _ hj _ jh;simp only[rI.l4];have hl:(d++[128]++iV j (0:UInt8)).length=d.length+1+j:=by simp;omega
  rw[hl,ll (x:=((d.length+1+j:Nat):Int)+8) (by omega) (by omega)];have hm:(((d.length+1+j:Nat):Int)+8).tmod 64=(((d.length+1+j+8)%64:Nat):Int):=rfl;rw[hm,iZ (decide_eq_true (by unfold pt at hj;omega)),ki (by rw[hl];simp;omega),ij];have:=jh () trivial;rw[List.replicate_succ',←pG]at this;exact this
 ·intro rec _ _;simp only[rI.l4];have hl:(d++[128]++iV (pt d.length) (0:UInt8)).length=d.length+1+pt d.length:=by simp;omega
  rw[hl,ll (x:=((d.length+1+pt d.length:Nat):Int)+8) (by omega) (by omega)];have hm:(((d.length+1+pt d.length:Nat):Int)+8).tmod 64=(((d.length+1+pt d.length+8)%64:Nat):Int):=rfl;rw[hm,iR (decide_eq_false (by unfold pt;omega))];unfold rI.k1;have:=uR (F:=rI.l3 d) (x0:=(7,d++[128]++iV (pt d.length) (0:UInt8))) (λj l=>(7-(j:Int),l)) (mI 8) (λl j=>l++[Ka d.length j]) some (λj l=>l.length=d.length+1+pt d.length+j) (i0:=0) (s0:=d++[128]++iV (pt d.length) (0:UInt8)) rfl (ju _) hl (by decide) ?_ ?_
  ·rw[this];rfl
  ·intro rec j l hj hl;rw[wJ]at hj;refine⟨by simp[hl];omega,?_⟩;simp only[rI.l3];rw[iZ (decide_eq_true (by omega)),zF (x:=(d.length:Int)) (by omega) (by omega),zF (x:=(d.length:Int)*8) (by omega) (by omega),zF (x:=7-(j:Int)) (by omega) (by omega),zF (x:=8*(7-(j:Int))) (by omega) (by omega)];unfold GF;rw[if_pos (by omega),ij,ki (by simp;omega),ij,ll (by omega) (by omega),yG,show 7-(j:Int)-1=7-((j+1:Nat):Int) by omega];rfl
  ·intro rec l hl;simp only[rI.l3,rI.k2];rw[iR (by decide)]
def Iw:List UInt32:=(L6).getD []
def QO:List UInt32:=[1779033703,3144134277,1013904242,2773480762,1359893119,2600822924,528734635,1541459225]
def QR(d:List UInt8):List UInt8:=CV ((mI ((AA d).length/64)).foldl (λs i=>Fv Iw ((AA d).drop (64*i)) s) QO)
theorem W7:∃f,f=QR:=⟨_,rfl⟩
noncomputable def lh:List UInt8→List UInt8:=W7.choose
theorem QQ:lh=QR:=W7.choose_spec
theorem Mf(d:List UInt8):(lh d).length=32:=by
 rw[QQ];unfold QR CV;rw[KJ (λo i=>by simp)];simp
theorem VS(d:List UInt8):(AA d).length=64*((AA d).length/64):=by
 rw[P2];unfold pt;omega
theorem SY(d:List UInt8)(hd:d.length≤1000000):jW d=some (lh d):=by
 rw[QQ];have hz:pt d.length<64:=zR _ (by decide);unfold jW;rw[show NN=some Iw from rfl,ij,YP d hd,ij];exact YL Iw rfl (AA d) _ (VS d) (by rw[P2];omega) QO rfl
theorem aao(d:List UInt8)(hd:d.length≤1000000):qF [d]=some d:=by
 unfold qF;refine nV (S:=Int×Int) (σ:=Unit) (λj _=>(if j=0 then 0 else(d.length:Int),(j:Int))) 1 (λ_ _=>True) _ (i0:=0) (s0:=()) rfl (ju _) trivial (by omega) ?_ ?_
 ·intro rec j _ hj _ jh;obtain rfl:j=0:=by omega
  simp only[qF.l4,qF.k5];rw[iZ (show decide (((0:Nat):Int)<(([d]:List (List UInt8)).length:Int))=true from rfl),show ix [d] ((0:Nat):Int)=some d from rfl,ij,if_pos trivial,ll (x:=0+(d.length:Int)) (by omega) (by omega),iR (decide_eq_false (by omega))];have:=jh () trivial;rw[if_neg (by decide)]at this;rw[Int.zero_add];exact this
 ·intro rec _ _;simp only[qF.l4,qF.k1];rw[iR (show decide (((1:Nat):Int)<(([d]:List (List UInt8)).length:Int))=false from rfl),if_neg (by decide)];have hg:xv (d.length:Int)=some []:=by
   unfold xv;rw[iR (decide_eq_false (by omega))];unfold xv.k1 xv.k2;rw[show wr (0-0)=0 from rfl,ll (by omega) (by omega)]
   by_cases h:0<d.length
   ·rw[iZ (decide_eq_true (by omega))];obtain⟨n,hn⟩:∃n:Nat,d.length=n+1:=⟨d.length-1,by omega⟩
    unfold Hq;rw[if_pos ⟨by omega,by simp;omega⟩,ij,pM (by omega) (by omega) (by omega),ij,hn,show((n+1:Nat):Int)-0=((n+1:Nat):Int) by omega,ly,wM,List.replicate_succ];rfl
   ·rw[iR (decide_eq_false (by omega))]
  rw[hg,ij];refine nV (S:=Int×List UInt8) (σ:=Unit) (λj _=>((j:Int),if j=0 then[]else d)) 1 (λ_ _=>True) _ (i0:=0) (s0:=()) rfl (ju _) trivial (by omega) ?_ ?_
  ·intro rec j _ hj _ jh;obtain rfl:j=0:=by omega
   simp only[qF.l3];rw[iZ (show decide (((0:Nat):Int)<(([d]:List (List UInt8)).length:Int))=true from rfl),show ix [d] ((0:Nat):Int)=some d from rfl,ij,if_pos trivial,ki (by simp;omega),ij,wM];have:=jh () trivial;rw[if_neg (by decide)]at this;exact this
  ·intro rec _ _;simp only[qF.l3,qF.k2];rw[iR (show decide (((1:Nat):Int)<(([d]:List (List UInt8)).length:Int))=false from rfl),if_neg (by decide)]
theorem Yc(d:List UInt8)(hd:d.length≤1000000):kv [d]=some (lh d):=by
 rw[QQ];have hz:pt d.length<64:=zR _ (by decide);unfold kv;rw[aao d hd,ij,show L6=some Iw from rfl,ij,Yb d hd,ij];exact X7 Iw rfl (AA d) _ (VS d) (by rw[P2];omega) QO rfl
end Go.Wk.Lf
end
section
namespace Go.Wk.Lf
open Go.V Go.Sort Go.Proofs
def I1(r:UInt32)(c:UInt8):UInt32:=(r <<< kQ 1)+((c.toUInt32+(1:UInt32))*(2654435761:UInt32))
def Wg(r:UInt32):Bool:=decide (((r >>> kQ 28).toNat:Int)=0)
def xq:UInt32→Nat→List UInt8→Nat
 |_,n,[]=>n
 |r,n,c::t=>if(decide (64≤n+1)||(decide (8≤n+1)&&Wg (I1 r c)))=true then n+1 else xq (I1 r c) (n+1) t
def wo(b:List UInt8):Nat:=xq 0 0 b
theorem IG:∀(t:List UInt8)(r:UInt32)(n:Nat),n≤xq r n t∧xq r n t≤n+t.length∧(t≠[]→n+1≤xq r n t)∧(n≤64→n<64∨t=[]→xq r n t≤64)∧(xq r n t<n+t.length→8≤xq r n t)
 |[],r,n=>by simp[xq]
 | c::t,r,n=>by
  obtain⟨h1,h2,h3,h4,h5⟩:=IG t (I1 r c) (n+1);simp only[xq]
  split
  ·rename_i hc;refine⟨by omega,by simp only[tG];omega,λ_=>jg _,λ_ h=>?_,λ_=>?_⟩
   ·rcases h with h|h
    ·omega
    ·cases h
   ·simp only[rW,jK,decide_eq_true_eq]at hc;omega
  ·rename_i hc;refine⟨by omega,by simp;omega,λ_=>by omega,λhn h=>?_,λh=>h5 (by simp at h;omega)⟩;have h6:n+1<64:=by
    simp only[rW,decide_eq_true_eq,not_or]at hc;omega
   exact h4 (by omega) (.inl h6)
theorem IH{b:List UInt8}(h:b≠[]):1≤wo b:=(IG b 0 0).2.2.1 h
theorem PU(b:List UInt8):wo b≤b.length:=by have:=(IG b 0 0).2.1;rwa[jn]at this
theorem aeJ(b:List UInt8):wo b≤64:=(IG b 0 0).2.2.2.1 (by decide) (.inl (by decide))
theorem aeK{b:List UInt8}(h:wo b<b.length):8≤wo b:=(IG b 0 0).2.2.2.2 (by rw[jn];exact h)
def rj(b:List UInt8):List (List UInt8):=if h:b=[]then[]else b.take (wo b)::rj (b.drop (wo b))
termination_by b.length
decreasing_by
 have h1:=IH h;have:0<b.length:=G2.2 h;simp only[od];omega
theorem FG:rj []=[]:=by unfold rj;simp
theorem Kx{b:List UInt8}(h:b≠[]):rj b=b.take (wo b)::rj (b.drop (wo b)):=by rw[rj,dif_neg h]
theorem aee{p:List UInt8→Prop}(h:∀b,(∀c,c.length<b.length→p c)→p b)(b:List UInt8):p b:=by
 suffices∀n,∀b:List UInt8,b.length<n→p b from this _ b (Nat.lt_succ_self _)
 intro n
 induction n with
 |zero=>intro b hb;omega
 |succ n ih=>intro b hb;exact h b λc hc=>ih c (by omega)
theorem NU{p:List UInt8→Prop}(h0:p [])(h1:∀b,b≠[]→p (b.drop (wo b))→p b)(b:List UInt8):p b:=by
 refine aee (λb ih=>?_) b
 by_cases h:b=[]
 ·subst h;exact h0
 ·refine h1 b h (ih _ ?_);have h2:=IH h;have:0<b.length:=G2.2 h;simp only[od];omega
theorem aau(b:List UInt8):(rj b).flatten=b:=by
 refine NU (p:=λb=>(rj b).flatten=b) (by rw[FG];rfl) (λb h ih=>?_) b;rw[Kx h,o7,ih,u7]
theorem TN(b:List UInt8):∀x∈rj b,1≤x.length∧x.length≤64:=by
 refine NU (p:=λb=>∀x∈rj b,1≤x.length∧x.length≤64) (by rw[FG];intro x hx;simp at hx) (λb h ih=>?_) b;rw[Kx h];intro x hx;rcases lM.1 hx with rfl|hx
 ·have h1:=IH h;have h2:=aeJ b;have h3:=PU b;simp only[kX];omega
 ·exact ih x hx
theorem NV(b:List UInt8):8*(rj b).length≤b.length+7:=by
 refine NU (p:=λb=>8*(rj b).length≤b.length+7) (by rw[FG];simp) (λb h ih=>?_) b;rw[Kx h];have h1:=IH h;have h3:=PU b;simp only[tG,od]at ih ⊢;rcases G7 (wo b) b.length with h4|h4
 ·have:=aeK h4;omega
 ·have:b.drop (wo b)=[]:=List.drop_eq_nil_of_le h4;rw[this,FG];have:0<b.length:=G2.2 h;simp only[AU];omega
theorem aat(b:List UInt8):rj b=[]↔b=[]:=by
 constructor
 ·intro h;have:=aau b;rw[h]at this;exact this.symm
 ·rintro rfl;exact FG
theorem aeB(x:UInt32):x*(2:UInt32)=x <<< kQ 1:=by
 apply Sc;rw[UInt32.toNat_mul,Sd];rw[show(2:UInt32).toNat=2 from rfl,show(kQ 1).toNat%32=1 from rfl,G9]
theorem af2(b:List UInt8)(hb:b.length<4611686018427387904):xY b=some (wo b:Int):=by
 unfold xY;refine nV (S:=UInt32×Int) (σ:=UInt32) (λi r=>(r,(i:Int))) b.length (λi r=>i<64∧xq r i (b.drop i)=wo b) _ (i0:=0) rfl (ju _) ⟨by decide,rfl⟩ hb ?_ ?_
 ·intro rec i r hi hI jh;obtain⟨h64,hI⟩:=hI;simp only[xY.l2];rw[Dr hi]at hI;simp only[xq]at hI;rw[iZ (jl hi),iX hi,ij,ja (by omega)];have e1:decide (((i+1:Nat):Int)=64)=decide (64≤i+1):=by rw[decide_eq_decide];omega
  have e2:decide (8≤((i+1:Nat):Int))=decide (8≤i+1):=by rw[decide_eq_decide];omega
  rw[e1,e2,aeB];show(if((decide (8≤i+1)&&Wg (I1 r b[i]))||decide (64≤i+1))=true then _ else rec (I1 r b[i],((i+1:Nat):Int)))=_;rw[Bool.or_comm]
  split
  ·rename_i hc;rw[if_pos hc]at hI;rw[←hI]
  ·rename_i hc;rw[if_neg hc]at hI;refine jh _ ⟨?_,hI⟩;simp only[rW,decide_eq_true_eq,not_or]at hc;omega
 ·intro rec r hI;simp only[xY.l2,xY.k1];rw[iR (jk (jr _))];have HR:=hI.2;rw[EW]at HR;simp only[xq]at HR;rw[←HR]
theorem afD(b:List UInt8)(hb:b.length≤1000000):yQ b=some (rj b):=by
 unfold yQ;refine Vz (S:=List UInt8×List (List UInt8)) (λs=>s.1.length≤1000000∧s.2.length+s.1.length≤1000000∧s.2++rj s.1=rj b) (λs=>s.1.length) ⟨hb,by simpa using hb,rfl⟩ (by show b.length<_;omega) ?_;rintro rec ⟨q,acc⟩ ⟨h1,h2,h3⟩ jh;simp only at h1 h2 h3;simp only[yQ.l2,yQ.k1]
 by_cases hq:q=[]
 ·subst hq;rw[if_neg (by simp)];rw[FG,rY]at h3;rw[h3]
 ·have h4:=IH hq;have h5:=PU q;have h6:0<q.length:=G2.2 hq;rw[if_pos (by simp;omega),af2 q (by omega),ij,pM (by omega) (by omega) (by omega),ij,ly,RO,ur,Ml _ (by simp;omega),ij,ki (by simp;omega),ij,pM (by omega) (by omega) (by omega),ij,ly,ly,ow];refine jh _ ⟨by simp;omega,by simp;omega,?_⟩ (by simp;omega);rw[←h3,Kx hq];simp
end Go.Wk.Lf
end
section
namespace Go.Wk.Lf
open Go.V Go.Sort Go.Proofs
noncomputable def vC(cs:List (List UInt8))(c:List UInt8):List (List UInt8) :=
 if(cs.map lh)[nh (cs.map lh) (lh c)]? =some (lh c)then cs else cs.take (nh (cs.map lh) (lh c))++[c]++cs.drop (nh (cs.map lh) (lh c))
theorem Vf(cs:List (List UInt8))(c:List UInt8):(vC cs c).map lh=tn (cs.map lh) (lh c):=by
 unfold vC tn
 split<;>simp[List.map_take,List.map_drop]
theorem Ve(cs:List (List UInt8))(c:List UInt8):(vC cs c).length≤cs.length+1:=by
 have:=Vg (cs.map lh) (lh c);rw[←Vf]at this;simpa using this
theorem ads{cs:List (List UInt8)}{c x:List UInt8}(h:x∈vC cs c):x∈cs∨x=c:=by
 unfold vC at h
 split at h
 ·exact .inl h
 ·simp only[mF,o8]at h;rcases h with(h|h)|h
  ·exact .inl (sJ h)
  ·exact .inr h
  ·exact .inl (sI h)
theorem Uc(l:List (List UInt8)):∀cs,(l.foldl vC cs).length≤cs.length+l.length:=by
 induction l with
 |nil=>intro cs;exact jg _
 |cons c l ih=>intro cs;have h1:=ih (vC cs c);have h2:=Ve cs c;simp only[EZ,tG];omega
theorem aaQ(l:List (List UInt8)):∀cs x,x∈l.foldl vC cs→x∈cs∨x∈l:=by
 induction l with
 |nil=>intro cs x h;exact .inl h
 | cons c l ih =>
  intro cs x h;rcases ih _ x h with h|h
  ·rcases ads h with h|h
   ·exact .inl h
   ·exact .inr (by rw[h];simp)
  ·exact .inr (by simp[h])
noncomputable def P4(f:jd):Part:=Part.mk f.path (f.data.length:Int) ((rj f.data).map lh)
def Gx(l:List jd):List (List UInt8):=l.flatMap λf=>rj f.data
noncomputable def FB(l:List jd):List (List UInt8):=(Gx l).foldl vC []
noncomputable def Gj(name:List UInt8)(l:List jd):iF:=⟨name,l.map P4⟩
theorem SL(cs:List (List UInt8)):∀y∈cs.map lh,y.length=32:=λy hy=>by
 obtain⟨x,_,rfl⟩:=qJ.1 hy;exact Mf x
theorem Zi(i32:Int)(Ll:List Part)(LQ)(f:jd)(ps:List (List UInt8))(hps:ps.length≤25)(hp:∀x∈ps,x.length≤64)(cs:List (List UInt8))(mX:cs.length≤1000) :
  loop (nR.l5 i32 Ll LQ f) (cs.map lh,cs,ps,0,[])=nR.k4 i32 Ll LQ f ((ps.foldl vC cs).map lh) (ps.foldl vC cs) (ps.map lh):=by
 have:=uR (F:=nR.l5 i32 Ll LQ f) (x0:=(cs.map lh,cs,ps,0,[])) (λi (s:List (List UInt8))=>(s.map lh,s,ps,(i:Int),(ps.take i).map lh)) ps vC (λs=>nR.k4 i32 Ll LQ f (s.map lh) s (ps.map lh)) (λi s=>s.length≤1000+i) (i0:=0) (s0:=cs) rfl (ju _) mX (by omega) ?_ ?_
 ·rw[this];rfl
 ·intro rec i s hi hs;have hl:=hp _ (jF hi);refine⟨by have:=Ve s ps[i];omega,?_⟩;simp only[nR.l5];rw[iZ (jl hi),iX hi,ij,SY _ (by omega),ij,ki (by simp;omega),ij,add_eq _ _ (by simp;omega) (SL s) (Mf _),ij];have hk:=IP (s.map lh) (lh ps[i]);rw[sH]at hk;rw[Vf,ou hi,vM];simp only[nR.k6,ja (show i<4611686018427387904 by omega)]
  by_cases h:(s.map lh)[nh (s.map lh) (lh ps[i])]? =some (lh ps[i])
  ·rw[iR (by simp[h])];unfold vC;rw[if_pos h];rfl
  ·rw[iZ (show(!decide ((s.map lh)[nh (s.map lh) (lh ps[i])]? =some (lh ps[i])))=true by rw[decide_eq_false h];rfl),pM (by omega) (by omega) (by omega),ij,ij,ki (by simp;omega),ij,ki (by simp;omega),ij,pM (by omega) (by omega) (by omega),ij,ki (by simp;omega),ij];unfold vC;rw[if_neg h];simp
 ·intro rec s hs;simp only[nR.l5];rw[iR (jk (jr _)),ow]
theorem afB(name:List UInt8)(l:List jd)(hn:oX name=true)(hl:l.length≤6)(hd:∀f∈l,f.data.length≤200)(hp:∀f∈l,f.path.length<9223372036854775808)(hc:HD l=0) :
  nR name l=some (Gj name l,FB l,0):=by
 have hnl:name.length≤20:=by
  unfold oX at hn;simp only[jK,decide_eq_true_eq]at hn;omega
 unfold nR;rw[I0 name (by omega),ij,hn,iR (show(!true)=false from rfl),afU l (by omega) hp,ij,hc,iR (by decide)];have abE:∀(i:Nat)(hi:i<l.length),(rj l[i].data).length≤25:=λi hi=>by
  have h1:=NV l[i].data;have h2:=hd _ (jF hi);omega
 have:=uR (F:=nR.l2 name l) (x0:=([],[],0,[])) (λi (s:List (List UInt8))=>(s.map lh,s,(i:Int),(l.take i).map P4)) l (λs f=>(rj f.data).foldl vC s) (λs=>some (Gj name l,s,0)) (λi s=>s.length≤25*i) (i0:=0) (s0:=[]) rfl (ju _) (jg _) (by omega) ?_ ?_
 ·rw[this];unfold FB Gx;rw[List.foldl_flatMap];rfl
 ·intro rec i s hi hs;have h1:=abE i hi;have h2:=hd _ (jF hi);refine⟨by have:=Uc (rj l[i].data) s;omega,?_⟩;simp only[nR.l2];rw[iZ (jl hi),iX hi,ij,ij,afD _ (by omega),ij,Zi _ _ _ _ _ h1 (λx hx=>(TN _ x hx).2) s (by omega)];simp only[nR.k4,nR.k3];rw[ki (by simp;omega),ij,ja (by omega),ou hi,vM];rfl
 ·intro rec s hs;simp only[nR.l2,nR.k1];rw[iR (jk (jr _)),ow];rfl
theorem aab{l:List jd}{x:List UInt8}(h:x∈FB l):1≤x.length∧x.length≤64:=by
 rcases aaQ _ _ _ h with h|h
 ·cases h
 ·obtain⟨f,_,h⟩:=AX.1 h;exact TN _ _ h
theorem afl{l:List jd}(hl:l.length≤6)(hd:∀f∈l,f.data.length≤200):(Gx l).length≤150:=by
 have h:∀l:List jd,(∀f∈l,f.data.length≤200)→(Gx l).length≤25*l.length:=λl=>by
  induction l with
  |nil=>intro _;exact jg _
  |cons f l ih =>
   intro hd;have h1:=ih λg hg=>hd g (by simp[hg]);have h2:=NV f.data;have h3:=hd f (by simp);unfold Gx at *;simp only[EY,kU,tG];omega
 have:=h l hd;omega
theorem aaa{l:List jd}(hl:l.length≤6)(hd:∀f∈l,f.data.length≤200):(FB l).length≤150:=by
 have h1:=Uc (Gx l) [];have h2:=afl hl hd;unfold FB;simp only[AU]at h1;omega
end Go.Wk.Lf
end
section
namespace Go.Wk.Lf
open Go.V Go.Sort Go.Proofs
theorem aij{t l:List jd}(hp:t.Perm l)(hr:wz t)(hl:zn l=false)(hb:wP l=false):t.length≤6∧(∀f∈t,f.data.length≤200)∧(∀f∈t,oX f.path=true)∧HD t=0:=by
 obtain⟨h1,h2⟩:=PE hl;have hd:∀f∈t,f.data.length≤200:=λf hf=>h2 f (hp.mem_iff.1 hf);have hn:∀f∈t,oX f.path=true:=λf hf=>by
  unfold wP at hb;have:=Dp.1 hb f (hp.mem_iff.1 hf);simpa using this
 refine⟨by rw[hp.length_eq];exact h1,hd,hn,?_⟩;have e1:zn t=false:=by
  unfold zn;rw[GR];refine⟨decide_eq_false (by rw[hp.length_eq];omega),Dp.2 λf hf=>?_⟩;have:=hd f hf;simp;omega
 have e2:wP t=false:=by
  unfold wP;exact Dp.2 λf hf=>by rw[hn f hf];simp
 unfold HD;rw[e1,if_neg (by decide),if_pos ⟨e2,hr⟩]
theorem aep{name:List UInt8}{t:List jd}(hn:oX name=true)(hl:t.length≤6)(hd:∀f∈t,f.data.length≤200)(hp:∀f∈t,oX f.path=true)(hr:wz t):mO (Gj name t):=by
 refine⟨hn,by simpa[Gj]using hl,?_,?_⟩
 ·rw[j9];intro p ti;obtain⟨f,hf,rfl⟩:=qJ.1 ti;have h1:=NV f.data;have h2:=hd f hf;have h3:(rj f.data).length=0↔f.data.length=0:=by
   rw[List.length_eq_zero_iff,List.length_eq_zero_iff];exact aat _
  unfold tu P4;simp only[hp f hf,sH,oP,jK,decide_eq_true_eq,beq_iff_eq,decide_eq_decide];refine⟨⟨⟨by omega,by omega⟩,by omega⟩,?_⟩;rw[h3];omega
 ·unfold CX Gj;simp only;rw[E6];exact hr
theorem aeo(name:List UInt8)(t:List jd):xr (Gj name t):=by
 intro p hp x hx;obtain⟨f,hf,rfl⟩:=qJ.1 hp;exact SL _ x hx
theorem aic(m:iF)(hp:m.parts.length≤100000)(hl:∀p∈m.parts,p.ids.length≤100000):vY m=some m:=by
 unfold vY;refine nV (S:=List Part×Int) (σ:=List Part) (λi l=>(l,(i:Int))) m.parts.length (λi l=>l=m.parts.take i) _ (i0:=0) (s0:=[]) rfl (ju _) rfl (by omega) ?_ ?_
 ·intro rec i l hi hI jh;simp only[vY.l2];have h1:=hl _ (jF hi);rw[iZ (jl hi),iX hi,ij,ki (by simp;omega),ij,ki (by rw[hI];simp;omega),ij,ja (by omega)];refine jh _ ?_;rw[hI,ou hi];rfl
 ·intro rec l hI;simp only[vY.l2,vY.k1];rw[iR (jk (jr _)),hI,ow]
def Told{α:Type}(o:Option α)(p:α→Prop):Prop:=∃r,o=some r∧p r
section
variable{α β:Type}{o:Option α}{p q:α→Prop}{f:α→Option β}{g:β→Prop}
theorem Told.mk{x:α}(h:p x):Told (some x) p:=⟨x,rfl,h⟩
theorem Told.bd(h:Told o p)(hf:∀x,p x→Told (f x) g):Told (bd o f) g:=by
 obtain⟨x,rfl,hx⟩:=h;exact hf x hx
theorem Told.kL{c:Bool}{a b:Option α}(h1:c=true→Told a p)(h2:c=false→Told b p):Told (if c=true then a else b) p:=by
 cases c with
 |true=>exact h1 rfl
 |false=>exact h2 rfl
theorem Told.only{c:Bool}{z:α}(h1:c=true→Told o p)(h2:c=false→p z):Told (only c o z) p:=by
 cases c with
 |true=>exact h1 rfl
 |false=>exact⟨z,rfl,h2 rfl⟩
theorem Told.ix{l:List α}{i:Int}(h0:0≤i)(h1:i<(l.length:Int)):Told (ix l i) λx=>x∈l:=by
 obtain⟨n,rfl⟩:∃n:Nat,i=n:=⟨i.toNat,by omega⟩
 exact⟨_,iX (by omega),jF _⟩
end
theorem Told.loop{S σ A:Type}{F:(S→Option A)→S→Option A}{p:A→Prop}(mk:Nat→σ→S)(n:Nat)(Inv:Nat→σ→Prop){i0:Nat}{s0:σ}{x0:S}(hx:x0=mk i0 s0)(oM:i0≤n)(h0:Inv i0 s0)(hn:n<4611686018427387904)
  (nU:∀rec i s,i<n→Inv i s→(∀s',Inv (i+1) s'→Told (rec (mk (i+1) s')) p)→Told (F rec (mk i s)) p) (oB:∀rec s,Inv n s→Told (F rec (mk n s)) p):Told (loop F x0) p :=
 IB mk n Inv (λo=>Told o p) hx oM h0 hn nU oB
theorem Qh{α:Type}{l:List α}{x:α}{i:Nat}(hi:i≤l.length)(hl:l.length≤1000000){β:Type}{K:List α→Option β}{p:β→Prop}(h:Told (K (l.take i++[x]++l.drop i)) p):Told (bd (cut (α:=α) l 0 (i:Int)) λl4=>bd (app (α:=α) [] l4) λl7=>bd (app (α:=α) l7 [x]) λl9=>bd (cut (α:=α) l (i:Int) (l.length:Int)) λnF=>bd (app (α:=α) l9 nF) K) p:=by
 rw[pM (GY _) (by omega) (by omega),ij,ki (by simp;omega),ij,ki (by simp;omega),ij,pM (by omega) (by omega) (GY _),ij,ki (by simp;omega),ij];simpa using h
theorem afy(a b:Loc):∃r,Kr a b=some r:=by
 unfold Kr
 split
 ·exact⟨_,rfl⟩
 ·split
  ·exact⟨_,rfl⟩
  ·split<;>exact⟨_,rfl⟩
theorem Nj(l:List Loc)(x:Loc)(hl:l.length≤1000000):Told (vZ l x) λr=>r.length=l.length+1:=by
 unfold vZ;have hk:∀i,i≤l.length→Told (vZ.k1 l x (i:Int)) λr=>r.length=l.length+1:=λi hi=>Qh hi hl (K:=λl15=>some l15) (Told.mk (by simp;omega));refine Told.loop (S:=Int) (σ:=Unit) (λi _=>(i:Int)) l.length (λ_ _=>True) (i0:=0) (s0:=()) rfl (ju _) trivial (by omega) ?_ ?_
 ·intro rec i _ hi _ jh;simp only[vZ.l2];obtain⟨r,hr⟩:=afy l[i] x;rw[jX (jl hi),iX hi,ij,jX (jl hi),hr,ij,ja (by omega)];exact Told.kL (λ_=>jh () trivial) λ_=>hk i (by omega)
 ·intro rec _ _;simp only[vZ.l2];rw[me (jk (jr _)),ij,me (jk (jr _)),ij,jk (jr _)];exact hk _ (jg _)
structure Dy(m:iF):Prop where
 ids:xr m
 name:m.name.length<1000000
 path:∀p∈m.parts,p.path.length<4611686018427387904
 parts:m.parts.length≤1000
 tc:∀p∈m.parts,p.ids.length≤1000
def ux(m:Nat)(x:Chunk):Prop:=x.locs.length≤m∧x.data.length≤1000000∧x.id.length=32
structure Cap(m:Nat)(c:ig):Prop where
 le:m≤1000000
 chunks:c.chunks.length≤m
 ik:c.ik.length≤m
 im:c.im.length≤m
 iv:c.iv.length≤m
 chunk:∀x∈c.chunks,ux m x
 snap:∀s∈c.ik,s.locs.length≤m∧Dy s.iw
 exp:∀x∈c.im,x.locs.length≤m
theorem ux.mono{m n:Nat}(h:m≤n){x:Chunk}(k:ux m x):ux n x:=⟨nY k.1 h,k.2⟩
theorem Cap.mono{m n:Nat}(h:m≤n)(hn:n≤1000000){c:ig}(k:Cap m c):Cap n c :=
 ⟨hn,nY k.chunks h,nY k.ik h,nY k.im h,nY k.iv h,λx hx=>(k.chunk x hx).mono h,λs hs=>⟨nY (k.snap s hs).1 h,(k.snap s hs).2⟩,λx hx=>nY (k.exp x hx) h⟩
theorem Cap.T3{m:Nat}{c:ig}(k:Cap m c):JR c:=⟨λx hx=>(k.chunk x hx).2.2,λs hs=>⟨(k.snap s hs).2.ids,(k.snap s hs).2.name,(k.snap s hs).2.path⟩⟩
theorem Eu{α:Type}{l:List α}{i:Nat}{x y:α}(h:y∈l.set i x):y∈l∨y=x:=G3 h
theorem aiM{m:Nat}{c:ig}(k:Cap m c)(id:List UInt8):Told (pa c id) λ_=>True:=by
 have hle:=k.le;have hs:=k.ik;unfold pa;refine Told.loop (S:=Int) (σ:=Unit) (λi _=>(i:Int)) c.ik.length (λ_ _=>True) (i0:=0) (s0:=()) rfl (ju _) trivial (by omega) ?_ ?_
 ·intro rec i _ hi _ jh;simp only[pa.l2];rw[iZ (jl hi)];have hm:=(k.snap _ (jF hi)).2;have hp:=hm.parts;refine Told.loop (S:=Int) (σ:=Unit) (λj _=>(j:Int)) c.ik[i].iw.parts.length (λ_ _=>True) (i0:=0) (s0:=()) rfl (ju _) trivial (by omega) ?_ ?_
  ·intro n9 j _ hj _ nC;simp only[pa.l4];rw[iX hi,ij,iZ (jl hj)];have H5:=hm.tc _ (jF hj);refine Told.loop (S:=Int) (σ:=Unit) (λq _=>(q:Int)) c.ik[i].iw.parts[j].ids.length (λ_ _=>True) (i0:=0) (s0:=()) rfl (ju _) trivial (by omega) ?_ ?_
   ·intro IZ q _ hq _ O7;simp only[pa.l6];rw[iX hi,ij,iX hj,ij,iZ (jl hq),ij,iX hj,ij,iX hq,ij,ja (by omega)];exact Told.kL (λ_=>Told.mk trivial) λ_=>O7 () trivial
   ·intro IZ _ _;simp only[pa.l6,pa.k5];rw[iX hi,ij,iX hj,ij,iR (jk (jr _)),ja (by omega)];exact nC () trivial
  ·intro n9 _ _;simp only[pa.l4,pa.k3];rw[iX hi,ij,iR (jk (jr _)),ja (by omega)];exact jh () trivial
 ·intro rec _ _;simp only[pa.l2,pa.k1];rw[iR (jk (jr _))];exact Told.mk trivial
theorem aiO(c:ig)(n a b:Int):Told (Ku c n a b) λr=>r.2=c∧(r.1=true→0≤n∧n<(c.iv.length:Int)):=by
 unfold Ku
 by_cases h:0≤n∧n<(c.iv.length:Int)
 ·obtain⟨x,hx,_⟩:=Told.ix (l:=c.iv) h.1 h.2;rw[hx,decide_eq_true h.1,decide_eq_true h.2];simp only[ng,ij];exact Told.mk ⟨rfl,λ_=>h⟩
 ·have e:(decide (0≤n)&&decide (n<(c.iv.length:Int)))=false:=by
   rw[Bool.and_eq_false_iff,decide_eq_false_iff_not,decide_eq_false_iff_not];omega
  rw[e];exact Told.mk ⟨rfl,λq=>by simp at q⟩
theorem Mi(l:List Loc)(hl:l.length≤1000000):DO l=some l:=by
 unfold DO;rw[ki (by simp;omega)];rfl
theorem QW{m:Nat}(hm:m≤1000000)(l:List Chunk)(hl:l.length≤1000000)(h:∀x∈l,ux m x):vX l=some l:=by
 unfold vX;refine nV (S:=List Chunk×Int) (σ:=List Chunk) (λi l=>(l,(i:Int))) l.length (λi s=>s=l.take i) _ (i0:=0) (s0:=[]) rfl (ju _) rfl (by omega) ?_ ?_
 ·intro rec i s hi hI jh;simp only[vX.l2];obtain⟨h1,h2,_⟩:=h _ (jF hi);rw[iZ (jl hi),iX hi,ij,Ml _ (by omega),ij,Mi _ (by omega),ij,ki (by rw[hI];simp;omega),ij,ja (by omega)];refine jh _ ?_;rw[hI,ou hi]
 ·intro rec s hI;simp only[vX.l2,vX.k1];rw[iR (jk (jr _)),hI,ow]
theorem Dy.Xk{m:iF}(h:Dy m):vY m=some m:=aic m (by have:=h.parts;omega) λp hp=>by have:=h.tc p hp;omega
theorem ah9{m:Nat}{c:ig}(k:Cap m c):sj c=some c:=by
 have hle:=k.le;have hs:=k.ik;have he:=k.im;have hc:=k.chunks;have hv:=k.iv;unfold sj;refine nV (S:=List ie×Int) (σ:=List ie) (λi l=>(l,(i:Int))) c.ik.length (λi s=>s=c.ik.take i) _ (i0:=0) (s0:=[]) rfl (ju _) rfl (by omega) ?_ ?_
 ·intro rec i s hi hI jh;simp only[sj.l4];obtain⟨h1,h2⟩:=k.snap _ (jF hi);rw[iZ (jl hi),iX hi,ij,h2.Xk,ij,Mi _ (by omega),ij,ki (by rw[hI];simp;omega),ij,ja (by omega)];refine jh _ ?_;rw[hI,ou hi]
 ·intro rec s hI;simp only[sj.l4,sj.k1];rw[iR (jk (jr _)),hI,ow];refine nV (S:=List iu×Int) (σ:=List iu) (λi l=>(l,(i:Int))) c.im.length (λi s=>s=c.im.take i) _ (i0:=0) (s0:=[]) rfl (ju _) rfl (by omega) ?_ ?_
  ·intro rec i s hi hI jh;simp only[sj.l3];have h1:=k.exp _ (jF hi);rw[iZ (jl hi),iX hi,ij,Mi _ (by omega),ij,ki (by rw[hI];simp;omega),ij,ja (by omega)];refine jh _ ?_;rw[hI,ou hi]
  ·intro rec s hI;simp only[sj.l3,sj.k2];rw[iR (jk (jr _)),hI,ow,QW hle _ (by omega) k.chunk,ij,ki (by simp;omega)];rfl
structure vP(x:Change):Prop where
 iw:Dy x.snap.iw
 locs:x.snap.locs.length≤1000
 tc:x.chunks.length≤10000
 chunk:∀y∈x.chunks,ux 1000 y
 items:x.items.length≤64
theorem aia{x:Change}(h:vP x):Kl x=some x:=by
 have h1:=h.locs;have h2:=h.tc;have h3:=h.items;unfold Kl;rw[h.iw.Xk,ij,Mi _ (by omega),ij,QW (by omega) _ (by omega) h.chunk,ij,ki (by simp;omega)];rfl
end Go.Wk.Lf
end
section
namespace Go.Wk.Lf
open Go.V Go.Sort Go.Proofs
theorem Z8{m:Nat}{c:ig}(k:Cap m c)(id:List UInt8):Told (ta c id) λr=>0≤r→r<(c.chunks.length:Int):=by
 rw[Qk c id (by have:=k.le;have:=k.chunks;omega)];refine Told.mk λh=>?_;unfold oT at h ⊢
 split
 ·rename_i q;rw[if_pos q]at h;omega
 ·rename_i q;rw[if_neg q]at h;omega
theorem Cap.Z9{m n:Nat}{c:ig}(k:Cap m c)(Ic:m≤n)(hn:n≤1000000){q:Int}{l:List Chunk}(hl:l.length≤n)(h:∀x∈l,ux n x):Cap n (ig.mk q c.ik l c.im c.iv) :=
 have k':=k.mono Ic hn
 ⟨hn,hl,k'.ik,k'.im,k'.iv,h,k'.snap,k'.exp⟩
theorem Cap.TY{m n:Nat}{c:ig}(k:Cap m c)(Ic:m≤n)(hn:n≤1000000){q:Int}{l:List iu}(hl:l.length≤n)(h:∀x∈l,x.locs.length≤n):Cap n (ig.mk q c.ik c.chunks l c.iv) :=
 have k':=k.mono Ic hn
 ⟨hn,k'.chunks,k'.ik,hl,k'.iv,k'.chunk,k'.snap,h⟩
theorem Cap.ahQ{m n:Nat}{c:ig}(k:Cap m c)(Ic:m≤n)(hn:n≤1000000){q:Int}{l:List ie}(hl:l.length≤n)(h:∀x∈l,x.locs.length≤n∧Dy x.iw):Cap n (ig.mk q l c.chunks c.im c.iv) :=
 have k':=k.mono Ic hn
 ⟨hn,k'.chunks,hl,k'.im,k'.iv,k'.chunk,h,k'.exp⟩
theorem Cap.aiP{m:Nat}{c:ig}(k:Cap m c){q:Int}{l:List iz}(hl:l.length≤m):Cap m (ig.mk q c.ik c.chunks c.im l) :=
 ⟨k.le,k.chunks,k.ik,k.im,hl,k.chunk,k.snap,k.exp⟩
theorem Cap.seq'{m:Nat}{c:ig}(k:Cap m c)(q:Int):Cap m (ig.mk q c.ik c.chunks c.im c.iv) :=
 ⟨k.le,k.chunks,k.ik,k.im,k.iv,k.chunk,k.snap,k.exp⟩
theorem LF{α:Type}{l:List α}{i:Nat}(hi:i<l.length)(b:Bool)(z:α):∃r,only b (ix l (i:Int)) z=some r:=by
 rw[iX hi,ng];exact⟨_,rfl⟩
abbrev Sz:=Int×Int×List ie×List Chunk×List iu×List iz
end Go.Wk.Lf
end
section
namespace Go.Wk.Lf
open Go.V Go.Sort Go.Proofs
theorem Jd{α:Type}{P:α→α→Prop}(rf:∀z,P z z){l:List α}{i:Nat}{y:α}(hi:i<l.length)(h:P l[i] y):∀z∈l,∃z'∈l.set i y,P z z':=λz hz=>by
 obtain⟨j,hj,rfl⟩:=my hz
 by_cases e:j=i
 ·subst e;exact⟨y,rA.2 ⟨j,by simpa using hj,JK _⟩,h⟩
 ·exact⟨l[j],rA.2 ⟨j,by simpa using hj,RV (λq=>e q.symm) _⟩,rf _⟩
theorem WA{α:Type}{l:List α}{i:Nat}{y:α}(hi:i<l.length):y∈l.set i y:=rA.2 ⟨i,by simpa using hi,JK _⟩
theorem W4{α:Type}{l:List α}{i:Nat}{y x:α}(h:x∈l):x∈l.take i++[y]++l.drop i:=by
 rw[←u7 i l]at h;rcases mF.1 h with h|h
 ·exact wK _ (wK _ h)
 ·exact JL _ h
theorem QN{α:Type}{l:List α}{i:Nat}{y x:α}(h:x∈l.take i++[y]++l.drop i):x∈l∨x=y:=by
 rcases mF.1 h with h|h
 ·rcases mF.1 h with h|h
  ·exact .inl (sJ h)
  ·exact .inr (o8.1 h)
 ·exact .inl (sI h)
def yk(l l':List Chunk):Prop:=∀x∈l,x.locs≠[] → ∃x'∈l',x'.id=x.id∧x'.locs≠[]
def zj(l l':List ie):Prop:=∀s∈l,∃s'∈l',s'.seq=s.seq∧s'.iw=s.iw
def Lk(l l':List iu):Prop:=∀e∈l,∃e'∈l',e'.seq=e.seq∧e'.of=e.of
def Oi(W:Item→Prop)(l l':List ie):Prop:=∀s∈l',∃s0∈l,s0.seq=s.seq∧s0.iw=s.iw∧(s.locs≠[]→s0.locs≠[] ∨ ∃y,W y∧y.kind=2∧y.seq=s.seq)
def KL(W:Item→Prop)(l l':List iu):Prop:=∀e∈l',(∃e0∈l,e0.seq=e.seq∧e0.of=e.of) ∨ ∃y,W y∧y.kind≠1∧y.kind≠2∧y.seq=e.seq∧y.of=e.of
theorem yk.refl(l):yk l l:=λx hx h=>⟨x,hx,rfl,h⟩
theorem zj.refl(l):zj l l:=λx hx=>⟨x,hx,rfl,rfl⟩
theorem Lk.refl(l):Lk l l:=λx hx=>⟨x,hx,rfl,rfl⟩
theorem Oi.refl{W}(l):Oi W l l:=λx hx=>⟨x,hx,rfl,rfl,.inl⟩
theorem KL.refl{W}(l):KL W l l:=λx hx=>.inl ⟨x,hx,rfl,rfl⟩
theorem yk.trans{a b c}(h:yk a b)(h2:yk b c):yk a c:=λx hx hn=>by
 obtain⟨y,hy,e,n⟩:=h x hx hn;obtain⟨z,hz,e2,n2⟩:=h2 y hy n;exact⟨z,hz,e2.trans e,n2⟩
theorem zj.trans{a b c}(h:zj a b)(h2:zj b c):zj a c:=λx hx=>by
 obtain⟨y,hy,e,n⟩:=h x hx;obtain⟨z,hz,e2,n2⟩:=h2 y hy;exact⟨z,hz,e2.trans e,n2.trans n⟩
structure vf(W:Item→Prop)(c d:ig):Prop where
 sn:Oi W c.ik d.ik
 ch:yk c.chunks d.chunks
 ex:Lk c.im d.im
 ey:KL W c.im d.im
theorem vf.refl{W}(c):vf W c c:=⟨.refl _,.refl _,.refl _,.refl _⟩
theorem vf.trans{W V:Item→Prop}{c d e}(h:vf W c d)(hv:∀y,V y→W y)(h2:vf V d e):vf W c e:=by
 refine⟨λs hs=>?_,h.ch.trans h2.ch,λx hx=>?_,λx hx=>?_⟩
 ·obtain⟨t,ht,e1,e2,e3⟩:=h2.sn s hs;obtain⟨u,hu,f1,f2,f3⟩:=h.sn t ht;refine⟨u,hu,f1.trans e1,f2.trans e2,λhn=>?_⟩;rcases e3 hn with q|⟨y,hy,q1,q2⟩
  ·rcases f3 q with q|⟨y,hy,q1,q2⟩
   ·exact .inl q
   ·exact .inr ⟨y,hy,q1,q2.trans e1⟩
  ·exact .inr ⟨y,hv y hy,q1,q2⟩
 ·obtain⟨y,hy,e1,e2⟩:=h.ex x hx;obtain⟨z,hz,f1,f2⟩:=h2.ex y hy;exact⟨z,hz,f1.trans e1,f2.trans e2⟩
 ·rcases h2.ey x hx with⟨y,hy,e1,e2⟩|⟨y,hy,q⟩
  ·rcases h.ey y hy with⟨z,hz,f1,f2⟩|⟨z,hz,q1,q2,q3,q4⟩
   ·exact .inl ⟨z,hz,f1.trans e1,f2.trans e2⟩
   ·exact .inr ⟨z,hz,q1,q2,q3.trans e1,q4.trans e2⟩
  ·exact .inr ⟨y,hv y hy,q⟩
def done(y:Item)(d:ig):Prop:=(y.kind=1 → ∃x∈d.chunks,x.id=y.id∧x.locs≠[])∧(y.kind≠1→y.kind≠2 → ∃e∈d.im,e.seq=y.seq)
theorem done.on{W:Item→Prop}{y:Item}{c d:ig}(h:done y c)(w:vf W c d):done y d:=by
 refine⟨λk=>?_,λk1 k2=>?_⟩
 ·obtain⟨x,hx,e,n⟩:=h.1 k;obtain⟨z,hz,e2,n2⟩:=w.ch x hx n;exact⟨z,hz,e2.trans e,n2⟩
 ·obtain⟨x,hx,e⟩:=h.2 k1 k2;obtain⟨z,hz,e2,_⟩:=w.ex x hx;exact⟨z,hz,e2.trans e⟩
theorem NR{m:Nat}{c:ig}(k:Cap m c)(id:List UInt8):Told (ta c id) λr=>0≤r → ∃n:Nat,∃h:n<c.chunks.length,r=(n:Int)∧c.chunks[n].id=id:=by
 rw[Qk c id (by have:=k.le;have:=k.chunks;omega)];refine Told.mk λh=>?_;obtain⟨n,hn,e,hp,_⟩:=HM (n:=c.chunks.length) (p:=λi=>decide ((c.chunks.getD i default).id=id)) (λq=>by rw[q]at h;omega);rw[jo hn,decide_eq_true_eq]at hp;exact⟨n,hn,e,hp⟩
theorem ne_nil{α β:Type}{l:List α}{m:List β}(h:l.length=m.length+1):l≠[]:=λq=>by rw[q]at h;simp at h
theorem aiU{m:Nat}{c:ig}(k:Cap m c)(hm:m<1000000)(x:Item)(y:Loc):Told (pb c x y) λr=>(Cap (m+1) r.2∧r.2.iv=c.iv)∧vf (λz=>z=x) c r.2∧zj c.ik r.2.ik∧(r.1=true→done x r.2):=by
 have hc:=k.chunks;have hs:=k.ik;have he:=k.im;have kK:Told (some (false,c)) λr=>(Cap (m+1) r.2∧r.2.iv=c.iv)∧vf (λz=>z=x) c r.2∧zj c.ik r.2.ik∧(r.1=true→done x r.2):=Told.mk ⟨⟨k.mono (by omega) (by omega),rfl⟩,.refl _,.refl _,λh=>by cases h⟩;unfold pb;refine Told.kL (λk1=>?_) λk1=>Told.kL (λk2=>?_) λk2=>?_
 ·have k1:=of_decide_eq_true k1;refine(NR k _).bd λr hr=>Told.kL (λ_=>kK) λh=>?_;obtain⟨n,hn,rfl,sU⟩:=hr (by simpa using h);have hk:=k.chunk _ (jF hn);rw[iX hn,ij];refine(Nj _ y (by have:=hk.1;omega)).bd λl hl=>?_;unfold pb.k1;rw[ly];refine Told.mk ⟨⟨k.Z9 (by omega) (by omega) (by simp;omega) λz hz=>?_,rfl⟩,⟨.refl _,λz hz jw=>?_,.refl _,.refl _⟩,.refl _,λ_=>⟨λ_=>⟨_,WA hn,sU,ne_nil hl⟩,λq=>absurd k1 q⟩⟩
  ·rcases Eu hz with q|q
   ·exact(k.chunk z q).mono (by omega)
   ·rw[q];exact⟨by show l.length≤m+1;have:=hk.1;omega,hk.2⟩
  ·obtain⟨z',wj,p⟩:=Jd (P:=λz z':Chunk=>z.locs≠[]→z'.id=z.id∧z'.locs≠[]) (λz h=>⟨rfl,h⟩) hn (y:=Chunk.mk c.chunks[n].id c.chunks[n].jD c.chunks[n].data l) (λ_=>⟨rfl,ne_nil hl⟩) z hz;exact⟨z',wj,p jw⟩
 ·have k2:=of_decide_eq_true k2;refine Told.loop (S:=Int) (σ:=Unit) (λi _=>(i:Int)) c.ik.length (λ_ _=>True) (i0:=0) (s0:=()) rfl (ju _) trivial (by omega) ?_ ?_
  ·intro rec i _ hi _ jh;simp only[pb.l3];have hk:=k.snap _ (jF hi);rw[iZ (jl hi),iX hi,ij,ij,ja (by omega)];refine Told.kL (λhq=>(Nj _ y (by have:=hk.1;omega)).bd λl hl=>?_) λ_=>jh () trivial;have hq:=of_decide_eq_true hq;rw[ly];refine Told.mk ⟨⟨k.ahQ (by omega) (by omega) (by simp;omega) λz hz=>?_,rfl⟩,⟨λz hz=>?_,.refl _,.refl _,.refl _⟩,λz hz=>Jd (P:=λz z':ie=>z'.seq=z.seq∧z'.iw=z.iw) (λz=>⟨rfl,rfl⟩) hi (y:=ie.mk c.ik[i].seq c.ik[i].iw l) ⟨rfl,rfl⟩ z hz,λ_=>⟨λq=>by omega,λ_ q=>absurd k2 q⟩⟩
   ·rcases Eu hz with q|q
    ·exact⟨by have:=(k.snap z q).1;omega,(k.snap z q).2⟩
    ·rw[q];exact⟨by show l.length≤m+1;have:=hk.1;omega,hk.2⟩
   ·rcases Eu hz with q|q
    ·exact⟨z,q,rfl,rfl,.inl⟩
    ·exact⟨_,jF hi,by rw[q],by rw[q],λ_=>.inr ⟨x,rfl,k2,by rw[q];exact hq.symm⟩⟩
  ·intro rec _ _;simp only[pb.l3,pb.k2];rw[iR (jk (jr _))];exact kK
 ·have k1:=of_decide_eq_false k1;have k2:=of_decide_eq_false k2;have UJ:∀i,i≤c.im.length→Told (pb.k4 c x y (i:Int)) λr=>(Cap (m+1) r.2∧r.2.iv=c.iv)∧vf (λz=>z=x) c r.2∧zj c.ik r.2.ik∧(r.1=true→done x r.2):=by
   intro i hi;unfold pb.k4;refine Told.bd (p:=λz=>∀h:i<c.im.length,z=c.im[i]) ?_ λz hz=>?_
   ·refine Told.only (λh=>?_) λh q=>absurd q (by simpa using h);have jU:i<c.im.length:=by simpa using h
    exact⟨_,iX jU,λ_=>rfl⟩
   ·refine Told.kL (λhq=>?_) λ_=>Qh hi (by omega) ?_
    ·rw[jK]at hq;have jU:i<c.im.length:=by have:=hq.1;simp at this;exact this
     have U3:=of_decide_eq_true hq.2;rw[hz jU]at U3;have hk:=k.exp _ (jF jU);rw[iX jU,ij];refine(Nj _ y (by omega)).bd λl hl=>?_;rw[ly];refine Told.mk ⟨⟨k.TY (by omega) (by omega) (by simp;omega) λz hz=>?_,rfl⟩,⟨.refl _,.refl _,λz hz=>Jd (P:=λz z':iu=>z'.seq=z.seq∧z'.of=z.of) (λz=>⟨rfl,rfl⟩) jU (y:=iu.mk c.im[i].seq c.im[i].of l) ⟨rfl,rfl⟩ z hz,λz hz=>.inl ?_⟩,.refl _,λ_=>⟨λq=>absurd q k1,λ_ _=>⟨_,WA jU,U3⟩⟩⟩
     ·rcases Eu hz with q|q
      ·have:=k.exp z q;omega
      ·rw[q];show l.length≤m+1;omega
     ·rcases Eu hz with q|q
      ·exact⟨z,q,rfl,rfl⟩
      ·exact⟨_,jF jU,by rw[q],by rw[q]⟩
    ·have te:∀q,Cap (m+1) (ig.mk q c.ik c.chunks (c.im.take i++[iu.mk x.seq x.of [y]]++c.im.drop i) c.iv):=λq=>k.TY (by omega) (by omega) (by simp;omega) λz hz=>by
      rcases QN hz with h|h
      ·have:=k.exp z h;omega
      ·rw[h];simp
     have hw:∀q,Told (some (true,ig.mk q c.ik c.chunks (c.im.take i++[iu.mk x.seq x.of [y]]++c.im.drop i) c.iv)) λr=>(Cap (m+1) r.2∧r.2.iv=c.iv)∧vf (λz=>z=x) c r.2∧zj c.ik r.2.ik∧(r.1=true→done x r.2):=λq=>Told.mk ⟨⟨te q,rfl⟩,⟨.refl _,.refl _,λz hz=>⟨z,W4 hz,rfl,rfl⟩,λz hz=>by
      rcases QN hz with h|h
      ·exact .inl ⟨z,h,rfl,rfl⟩
      ·exact .inr ⟨x,rfl,k1,k2,by rw[h],by rw[h]⟩⟩,.refl _,λ_=>⟨λq=>absurd q k1,λ_ _=>⟨iu.mk x.seq x.of [y],by simp,rfl⟩⟩⟩
     unfold pb.k1;exact Told.kL (λ_=>hw _) λ_=>hw _
  refine Told.loop (S:=Int) (σ:=Unit) (λi _=>(i:Int)) c.im.length (λ_ _=>True) (i0:=0) (s0:=()) rfl (ju _) trivial (by omega) ?_ ?_
  ·intro rec i _ hi _ jh;simp only[pb.l5];rw[jX (jl hi),iX hi,ij,ja (by omega)];exact Told.kL (λ_=>jh () trivial) λ_=>UJ i (by omega)
  ·intro rec _ _;simp only[pb.l5];rw[me (jk (jr _)),ij,jk (jr _)];exact UJ _ (jg _)
theorem aaZ{m:Nat}{c:ig}(k:Cap m c)(q:Int):Told (nB c q) λr=>(Cap m r.2∧r.2.iv=c.iv)∧vf (λ_=>False) c r.2 ∧ ∀s∈c.ik,s.seq≠q→s∈r.2.ik:=by
 have hle:=k.le;have hs:=k.ik;have hc:=k.chunks;unfold nB;refine Told.loop (S:=List ie×Int) (σ:=List ie) (λi s=>(s,(i:Int))) c.ik.length (λi s=>s.length≤i∧(∀x∈s,x∈c.ik) ∧ ∀j(h:j<c.ik.length),j<i→c.ik[j].seq≠q→c.ik[j]∈s) (i0:=0) (s0:=[]) rfl (ju _) ⟨jg _,λx hx=>(by cases hx),λj h hj=>by omega⟩ (by omega) ?_ ?_
 ·intro rec i s hi hI jh;simp only[nB.l6,nB.k7];have HQ:=hI.1;rw[iZ (jl hi),iX hi,ij,ij,ja (by omega),ki (by simp;omega),ij];refine Told.kL (λ_=>jh _ ⟨by simp;omega,λx hx=>?_,λj h hj hn=>?_⟩) λhq=>jh _ ⟨by omega,hI.2.1,λj h hj hn=>?_⟩
  ·rcases mF.1 hx with h|h
   ·exact hI.2.1 x h
   ·rw[o8.1 h];exact jF hi
  ·by_cases e:j=i
   ·subst e;simp
   ·exact wK _ (hI.2.2 j h (by omega) hn)
  ·by_cases e:j=i
   ·subst e;have:=of_decide_eq_false hq;exact absurd hn this
   ·exact hI.2.2 j h (by omega) hn
 ·intro rec s hI;simp only[nB.l6,nB.k1];rw[iR (jk (jr _))];have HQ:=hI.1;have Bt:∀t∈c.ik,t.seq≠q→t∈s:=λt ht hn=>by
   obtain⟨j,hj,rfl⟩:=my ht;exact hI.2.2 j hj hj hn
  refine Told.kL (λ_=>Told.mk ⟨⟨k,rfl⟩,.refl _,λt ht _=>ht⟩) λ_=>?_;have k2:Cap m (ig.mk c.seq s c.chunks c.im c.iv):=⟨hle,hc,by show s.length≤m;omega,k.im,k.iv,k.chunk,λx hx=>k.snap x (hI.2.1 x hx),k.exp⟩
  refine Told.loop (S:=List Chunk×Int) (σ:=List Chunk) (λi s=>(s,(i:Int))) c.chunks.length (λi s=>s.length≤i∧(∀x∈s,ux m x) ∧ ∀j(h:j<c.chunks.length),j<i→c.chunks[j].locs≠[] → ∃x∈s,x.id=c.chunks[j].id∧x.locs≠[]) (i0:=0) (s0:=[]) rfl (ju _) ⟨jg _,λx hx=>(by cases hx),λj h hj=>by omega⟩ (by omega) ?_ ?_
  ·intro n9 i l hi hJ nC;simp only[nB.l3,nB.k4,nB.k5];have Um:=hJ.1;rw[iZ (jl hi),iX hi,ij,ja (by omega)];have hk:=k.chunk _ (jF hi);refine(aiM k2 _).bd λu _=>?_;rw[ki (by simp;omega),ij,ki (by simp;omega),ij];have mE:∀y,ux m y→y.id=c.chunks[i].id→y.locs=c.chunks[i].locs→(l++[y]).length≤i+1∧(∀x∈l++[y],ux m x) ∧ ∀j(h:j<c.chunks.length),j<i+1→c.chunks[j].locs≠[] → ∃x∈l++[y],x.id=c.chunks[j].id∧x.locs≠[]:=λy hy e1 e2=>⟨by simp;omega,λx hx=>by
    rcases mF.1 hx with h|h
    ·exact hJ.2.1 x h
    ·rw[o8.1 h];exact hy,λj h hj hn=>by
    by_cases e:j=i
    ·subst e;exact⟨y,by simp,e1,by rw[e2];exact hn⟩
    ·obtain⟨x,hx,q1,q2⟩:=hJ.2.2 j h (by omega) hn;exact⟨x,wK _ hx,q1,q2⟩⟩
   refine Told.kL (λ_=>Told.kL (λh0=>nC _ ⟨by omega,hJ.2.1,λj h hj hn=>?_⟩) λ_=>nC _ (mE _ ⟨hk.1,ju _,hk.2.2⟩ rfl rfl)) λ_=>nC _ (mE _ ⟨hk.1,hk.2.1,hk.2.2⟩ rfl rfl)
   by_cases e:j=i
   ·subst e;have:=of_decide_eq_true h0;exact absurd (nK (by omega)) hn
   ·exact hJ.2.2 j h (by omega) hn
  ·intro n9 l hJ;simp only[nB.l3,nB.k2];rw[iR (jk (jr _))];refine Told.mk ⟨⟨⟨hle,by have:=hJ.1;show l.length≤m;omega,k2.ik,k.im,k.iv,hJ.2.1,k2.snap,k.exp⟩,rfl⟩,⟨λt ht=>⟨t,hI.2.1 t ht,rfl,rfl,.inl⟩,λx hx hn=>?_,.refl _,.refl _⟩,Bt⟩;obtain⟨j,hj,rfl⟩:=my hx;exact hJ.2.2 j hj hj hn
theorem Ye{m:Nat}(hm:m≤1000000)(l:List Chunk)(x:Chunk)(hl:l.length≤1000000)(h:∀y∈l,ux m y)(hx:ux m x):Told (wY l x) λr=>(r.length≤l.length+1 ∧ ∀y∈r,ux m y)∧yk l r:=by
 unfold wY;have hk:∀i,i≤l.length→Told (wY.k1 l x (i:Int)) λr=>(r.length≤l.length+1 ∧ ∀y∈r,ux m y)∧yk l r:=by
  intro i hi;unfold wY.k1;refine Told.bd (p:=λ_=>True) ?_ λz _=>?_
  ·refine Told.only (λh=>?_) λ_=>trivial;obtain⟨z,hz,_⟩:=Told.ix (l:=l) (i:=(i:Int)) (by omega) (by simpa using h);exact⟨z,hz,trivial⟩
  ·refine Told.kL (λhc=>?_) λ_=>Qh hi hl (K:=λl48=>some l48) (Told.mk ⟨⟨by simp;omega,λy hy=>?_⟩,λy hy hn=>⟨y,W4 hy,rfl,hn⟩⟩)
   ·rw[jK]at hc;have jU:i<l.length:=by have:=hc.1;simp at this;exact this
    have vy:=h _ (jF jU);rw[QW hm l hl h,ij,Ml _ (by have:=hx.2.1;omega),ij,iX jU,ij,ly,iX (show i<(l.set i _).length by simp;omega),ij,G5];simp only[JK];refine Told.mk ⟨⟨by simp,λy hy=>?_⟩,λy hy hn=>?_⟩
    ·rcases Eu hy with q|q
     ·exact h y q
     ·rw[q];exact⟨vy.1,hx.2.1,vy.2.2⟩
    ·obtain⟨z',wj,p⟩:=Jd (P:=λz z':Chunk=>z.locs≠[]→z'.id=z.id∧z'.locs≠[]) (λz h=>⟨rfl,h⟩) jU (y:=Chunk.mk l[i].id true x.data l[i].locs) (λh=>⟨rfl,h⟩) y hy;exact⟨z',wj,p hn⟩
   ·rcases QN hy with q|q
    ·exact h y q
    ·rw[q];exact hx
 refine Told.loop (S:=Int) (σ:=Unit) (λi _=>(i:Int)) l.length (λ_ _=>True) (i0:=0) (s0:=()) rfl (ju _) trivial (by omega) ?_ ?_
 ·intro rec i _ hi _ jh;simp only[wY.l2];have sU:=(h _ (jF hi)).2.2;rw[jX (jl hi),iX hi,ij,jX (jl hi),V2 _ _ sU hx.2.2,ij,ja (by omega)];exact Told.kL (λ_=>jh () trivial) λ_=>hk i (by omega)
 ·intro rec _ _;simp only[wY.l2];rw[me (jk (jr _)),ij,me (jk (jr _)),ij,jk (jr _)];exact hk _ (jg _)
structure A1(c d:ig)(x:Change):Prop where
 sn:∀s∈d.ik,s.locs≠[] → ∃s0∈c.ik,s0.seq=s.seq∧s0.iw=s.iw∧(s0.locs≠[] ∨ ∃y∈x.items,y.kind=2∧y.seq=s.seq)
 kp:∀s∈c.ik,(∃s'∈d.ik,s'.seq=s.seq∧s'.iw=s.iw) ∨ ∃y∈x.items,y.kind=3∧y.of=s.seq
 ch:yk c.chunks d.chunks
 ex:Lk c.im d.im
 ey:KL (λy=>y∈x.items) c.im d.im
 dn:x.kind=3 → ∀y∈x.items,done y d
structure Cf(c d:ig)(x:Change):Prop where
 w:vf (λy=>y∈x.items) c d
 dn:∀y∈x.items,done y d
 kp:∀s∈c.ik,(∃s'∈d.ik,s'.seq=s.seq∧s'.iw=s.iw) ∨ ∃y∈x.items,y.kind=3∧y.of=s.seq
theorem Cf.S4{c d x}(h:Cf c d x):A1 c d x:=⟨λs hs hn=>by
 obtain⟨s0,h0,e1,e2,e3⟩:=h.w.sn s hs;exact⟨s0,h0,e1,e2,e3 hn⟩,h.kp,h.w.ch,h.w.ex,h.w.ey,λ_=>h.dn⟩
theorem Cf.on{c d e x}(h:Cf c d x)(g:vf (λ_=>False) d e)(hs:∀s∈d.ik,s∈e.ik ∨ ∃y∈x.items,y.kind=3∧y.of=s.seq):Cf c e x :=
 ⟨h.w.trans (λy q=>q.elim) g,λy hy=>(h.dn y hy).on g,λs yh=>by
  rcases h.kp s yh with⟨t,ht,e1,e2⟩|q
  ·rcases hs t ht with q|⟨y,hy,q1,q2⟩
   ·exact .inl ⟨t,q,e1,e2⟩
   ·exact .inr ⟨y,hy,q1,q2.trans e1⟩
  ·exact .inr q⟩
theorem Yu{m:Nat}{c:ig}{x:Change}(k:Cap m c)(hm:m≤900000)(hx:vP x)(xe:1000≤m)(hk:x.kind≠2∧x.kind≠4∧x.kind≠5):Told (ko c x) λr=>Cap (m+10000) r.2∧(r.1=0→(x.kind=1∨x.kind=3 ∨ ¬(1≤x.kind∧x.kind≤5))∧A1 c r.2 x):=by
 have hc:=k.chunks;have hs:=k.ik;have he:=k.im;have hv:=k.iv;have sr:=hx.tc;have UH:=hx.items;have kk:Cap (m+10000) c:=k.mono (by omega) (by omega);have kK:∀(n:Int)(d:ig),n≠0→Cap (m+10000) d→Told (some (n,d)) λr=>Cap (m+10000) r.2∧(r.1=0→(x.kind=1∨x.kind=3 ∨ ¬(1≤x.kind∧x.kind≤5))∧A1 c r.2 x):=λn d hn kd=>Told.mk ⟨kd,λh=>absurd h hn⟩;unfold ko;refine Told.kL (λk1=>?_) λk1=>Told.kL (λq=>absurd (of_decide_eq_true q) hk.1) λ_=>Told.kL (λk3=>?_) λk3=>Told.kL (λq=>absurd (of_decide_eq_true q) hk.2.1) λ_=>Told.kL (λq=>absurd (of_decide_eq_true q) hk.2.2) λ_=>?_
 ·
  have k1:=of_decide_eq_true k1;have Aj:∀b,(b=true→x.snap.locs=[])→Told (ko.k2 c x b) λr=>Cap (m+10000) r.2∧(r.1=0→(x.kind=1∨x.kind=3 ∨ ¬(1≤x.kind∧x.kind≤5))∧A1 c r.2 x):=by
   intro b hb;unfold ko.k2;refine Told.kL (λ_=>kK _ _ (by decide) kk) λhbt=>?_;have xg:=hb (by simpa using hbt);rw[Qt _ _ (by omega),ij];refine Told.kL (λ_=>kK _ _ (by decide) kk) λ_=>?_;rw[ki (by simp;omega),ij];refine Told.loop (S:=Int×List Chunk) (σ:=List Chunk) (λi s=>((i:Int),s)) x.chunks.length (λi s=>(s.length≤m+i ∧ ∀y∈s,ux m y)∧yk c.chunks s) (i0:=0) (s0:=c.chunks) rfl (ju _) ⟨⟨hc,k.chunk⟩,.refl _⟩ (by omega) ?_ ?_
   ·intro rec i s hi hI jh;simp only[ko.l3];have HQ:=hI.1.1;rw[iZ (jl hi),iX hi,ij,ja (by omega)];refine(Ye k.le s _ (by omega) hI.1.2 ((hx.chunk _ (jF hi)).mono xe)).bd λr hr=>jh r ⟨⟨by have:=hr.1.1;omega,hr.1.2⟩,hI.2.trans hr.2⟩
   ·intro rec s hI;simp only[ko.l3,ko.k1];have HQ:=hI.1.1;rw[iR (jk (jr _))];refine Told.mk ⟨⟨by omega,by show s.length≤_;omega,by simp;omega,kk.im,kk.iv,λy hy=>(hI.1.2 y hy).mono (by omega),λy hy=>?_,kk.exp⟩,λ_=>⟨.inl k1,⟨λt ht hn=>?_,λt ht=>.inl ⟨t,wK _ ht,rfl,rfl⟩,hI.2,.refl _,.refl _,λq=>by omega⟩⟩⟩
    ·rcases mF.1 hy with h|h
     ·exact kk.snap y h
     ·rw[o8.1 h];exact⟨by have:=hx.locs;omega,hx.iw⟩
    ·rcases mF.1 ht with h|h
     ·exact⟨t,h,rfl,rfl,.inl hn⟩
     ·rw[o8.1 h]at hn;exact absurd xg hn
  refine Told.loop (S:=Bool×Int) (σ:=Bool) (λi b=>(b,(i:Int))) x.chunks.length (λ_ b=>b=true→x.snap.locs=[]) (i0:=0) rfl (ju _) (λh=>by
   rw[jK,decide_eq_true_eq,decide_eq_true_eq]at h;exact nK (by omega)) (by omega) ?_ ?_
  ·intro rec i b hi hI jh;simp only[ko.l4];obtain⟨y,hy⟩:=LF hi b (Chunk.mk (iV 32 (0:UInt8)) false [] []);rw[iZ (jl hi),hy,ij];obtain⟨z,hz⟩:=LF hi (b&&y.jD) (Chunk.mk (iV 32 (0:UInt8)) false [] []);rw[hz,ij,ja (by omega)];exact jh _ λh=>by simp only[jK]at h;exact hI h.1.1
  ·intro rec b hI;simp only[ko.l4];rw[iR (jk (jr _))];exact Aj b hI
 ·
  have k3:=of_decide_eq_true k3;refine(aiO c _ _ _).bd λr67 hr=>?_;obtain⟨ok,c'⟩:=r67;obtain⟨tf,Is⟩:=hr;simp only at tf;subst tf;have K1:∀(d:ig),Cap (m+100) d→d.iv.length=c'.iv.length→Cf c' d x→(0≤x.iQ∧x.iQ<(c'.iv.length:Int))→Told (ko.k7 x d.seq d.ik d.chunks d.im d.iv) λr=>Cap (m+10000) r.2∧(r.1=0→(x.kind=1∨x.kind=3 ∨ ¬(1≤x.kind∧x.kind≤5))∧A1 c' r.2 x):=by
   intro d kd hlen hF Is;unfold ko.k7;refine(Told.ix (l:=d.iv) Is.1 (by omega)).bd λv _=>Told.kL (λ_=>?_) λ_=>by
    unfold ko.k1;exact Told.mk ⟨(kd.mono (by omega) (by omega):Cap (m+10000) d).seq' _,λ_=>⟨.inr (.inl k3),hF.S4⟩⟩
   refine Told.loop (S:=Int×List Chunk) (σ:=List Chunk) (λi s=>((i:Int),s)) x.items.length (λi s=>Cap (m+100) (ig.mk d.seq d.ik s d.im d.iv)∧yk d.chunks s) (i0:=0) (s0:=d.chunks) rfl (ju _) ⟨kd.seq' _,.refl _⟩ (by omega) ?_ ?_
   ·intro rec i s hi HR jh;obtain⟨hI,hK⟩:=HR;simp only[ko.l8,ko.k9];rw[iZ (jl hi),iX hi,ij,ij,ja (by omega)];refine Told.kL (λ_=>?_) λ_=>jh s ⟨hI,hK⟩;refine(NR hI _).bd λr hr=>Told.kL (λh=>?_) λ_=>jh s ⟨hI,hK⟩;obtain⟨n,hn,rfl,_⟩:=hr (by simpa using h);have hn:n<s.length:=hn;have hk:=hI.chunk _ (jF hn);rw[iX hn,ij,ly,iX (show n<(s.set n _).length by simp;omega),ij,G5];simp only[JK];refine jh _ ⟨⟨hI.le,by have:=hI.chunks;simp at this ⊢;omega,hI.ik,hI.im,hI.iv,λy hy=>?_,hI.snap,hI.exp⟩,hK.trans λy hy jw=>?_⟩
    ·rcases Eu hy with q|q
     ·exact hI.chunk y q
     ·rw[q];exact⟨hk.1,ju _,hk.2.2⟩
    ·obtain⟨z',wj,p⟩:=Jd (P:=λz z':Chunk=>z.locs≠[]→z'.id=z.id∧z'.locs≠[]) (λz h=>⟨rfl,h⟩) hn (y:=Chunk.mk s[n].id false [] s[n].locs) (λh=>⟨rfl,h⟩) y hy;exact⟨z',wj,p jw⟩
   ·intro rec s hI;simp only[ko.l8,ko.k1];rw[iR (jk (jr _))];exact Told.mk ⟨hI.1.mono (by omega) (by omega),λ_=>⟨.inr (.inl k3),(hF.on (e:=ig.mk d.seq d.ik s d.im d.iv) ⟨.refl _,hI.2,.refl _,.refl _⟩ λt ht=>.inl ht).S4⟩⟩
  have hk6:∀(d:ig),Cap (m+100) d→d.iv.length=c'.iv.length→Cf c' d x→(0≤x.iQ∧x.iQ<(c'.iv.length:Int))→Told (ko.k6 x d.seq d.ik d.chunks d.im d.iv) λr=>Cap (m+10000) r.2∧(r.1=0→(x.kind=1∨x.kind=3 ∨ ¬(1≤x.kind∧x.kind≤5))∧A1 c' r.2 x):=by
   intro d kd hlen hF Is;unfold ko.k6;refine Told.loop (S:=Sz) (σ:=ig) (λi d=>((i:Int),d.seq,d.ik,d.chunks,d.im,d.iv)) x.items.length (λi d=>Cap (m+100) d∧d.iv.length=c'.iv.length∧Cf c' d x) (i0:=0) (s0:=d) rfl (ju _) ⟨kd,hlen,hF⟩ (by omega) ?_ ?_
   ·intro rec i e hi hI jh;simp only[ko.mc,ko.sy];rw[iZ (jl hi),iX hi,ij,ij,ja (by omega)];refine Told.kL (λh3=>?_) λ_=>jh e hI;refine(aaZ hI.1 _).bd λr hr=>jh r.2 ⟨hr.1.1,by rw[hr.1.2];exact hI.2.1,hI.2.2.on hr.2.1 λt ht=>?_⟩
    by_cases q:t.seq=x.items[i].of
    ·exact .inr ⟨_,jF hi,of_decide_eq_true h3,q.symm⟩
    ·exact .inl (hr.2.2 t ht q)
   ·intro rec e hI;simp only[ko.mc];rw[iR (jk (jr _))];exact K1 e hI.1 hI.2.1 hI.2.2 Is
  have hk5:∀b,(b=true→ok=true)→Told (ko.k5 x (ok,c') b) λr=>Cap (m+10000) r.2∧(r.1=0→(x.kind=1∨x.kind=3 ∨ ¬(1≤x.kind∧x.kind≤5))∧A1 c' r.2 x):=by
   intro b hb;unfold ko.k5;refine Told.kL (λ_=>kK _ _ (by decide) kk) λhnb=>?_;have BB:=Is (hb (by simpa using hnb));refine(Told.ix (l:=c'.iv) BB.1 BB.2).bd λv _=>?_;have kd:Cap m (ig.mk c'.seq c'.ik c'.chunks c'.im ((c'.iv.set x.iQ.toNat (iz.mk v.rq v.rM 2 v.files)).set x.iQ.toNat (iz.mk v.rq v.rM 2 (wr (v.files+1))))):=k.aiP (by simp;omega);refine Told.loop (S:=Sz) (σ:=ig) (λi d=>((i:Int),d.seq,d.ik,d.chunks,d.im,d.iv)) x.items.length (λi d=>Cap (m+i) d∧d.iv.length=c'.iv.length∧vf (λy=>y∈x.items) c' d∧zj c'.ik d.ik ∧ ∀j(h:j<x.items.length),j<i→done x.items[j] d) (i0:=0) (s0:=ig.mk c'.seq c'.ik c'.chunks c'.im ((c'.iv.set x.iQ.toNat (iz.mk v.rq v.rM 2 v.files)).set x.iQ.toNat (iz.mk v.rq v.rM 2 (wr (v.files+1))))) rfl (ju _) ⟨kd,by simp,⟨.refl _,.refl _,.refl _,.refl _⟩,.refl _,λj h hj=>by omega⟩ (by omega) ?_ ?_
   ·intro rec i e hi hI jh;simp only[ko.kW];rw[iZ (jl hi),iX hi,ij,ja (by omega)];refine(Told.ix (l:=e.iv) BB.1 (by rw[hI.2.1];exact BB.2)).bd λv2 _=>?_;refine(aiU (c:=e) hI.1 (by omega) _ _).bd λr hr=>Told.kL (λ_=>kK _ _ (by decide) (hr.1.1.mono (by omega) (by omega))) λBw=>jh r.2 ⟨hr.1.1,by rw[hr.1.2];exact hI.2.1,hI.2.2.1.trans (λy q=>by rw[q];exact jF hi) hr.2.1,hI.2.2.2.1.trans hr.2.2.1,λj h hj=>?_⟩
    by_cases q:j=i
    ·subst q;exact hr.2.2.2 (by simpa using Bw)
    ·exact(hI.2.2.2.2 j h (by omega)).on hr.2.1
   ·intro rec e hI;simp only[ko.kW];rw[iR (jk (jr _))];exact hk6 e (hI.1.mono (by omega) (by omega)) hI.2.1 ⟨hI.2.2.1,λy hy=>by
     obtain⟨j,hj,rfl⟩:=my hy;exact hI.2.2.2.2 j hj hj,λt ht=>.inl (hI.2.2.2.1 t ht)⟩ BB
  refine Told.loop (S:=Bool×Int) (σ:=Bool) (λi b=>(b,(i:Int))) x.items.length (λ_ b=>b=true→ok=true) (i0:=0) rfl (ju _) (λh=>by simp only[jK]at h;exact h.1.1) (by omega) ?_ ?_
  ·intro rec i b hi hI jh;simp only[ko.nF];obtain⟨y,hy⟩:=LF hi b (Item.mk 0 (iV 32 (0:UInt8)) 0 0 0 0);rw[iZ (jl hi),hy,ij];obtain⟨z,hz⟩:=LF hi (b&&decide (1≤y.kind)) (Item.mk 0 (iV 32 (0:UInt8)) 0 0 0 0);rw[hz,ij,ja (by omega)];exact jh _ λh=>by simp only[jK]at h;exact hI h.1.1
  ·intro rec b hI;simp only[ko.nF];rw[iR (jk (jr _))];exact hk5 b hI
 ·unfold ko.k1;have k1:=of_decide_eq_false k1;have k3:=of_decide_eq_false k3;exact Told.mk ⟨kk.seq' _,λ_=>⟨.inr (.inr λq=>by omega),⟨λs hs hn=>⟨s,hs,rfl,rfl,.inl hn⟩,λs hs=>.inl ⟨s,hs,rfl,rfl⟩,.refl _,.refl _,.refl _,λq=>absurd q k3⟩⟩⟩
theorem afA{m:Nat}{c:ig}{x:Change}(k:Cap m c)(hm:m≤900000)(xe:1000≤m)(hx:vP x)(hk:x.kind≠2∧x.kind≠4∧x.kind≠5):Told (Ks c x) λr=>r.2=0→(pK r.1=true∧Cap (m+10000) r.1)∧(x.kind=1∨x.kind=3)∧A1 c r.1 x:=by
 unfold Ks;rw[V4 _ k.T3,ij];refine Told.kL (λ_=>Told.mk λh=>by simp at h) λh1=>?_;rw[GR,GR]at h1;have q1:=of_decide_eq_false h1.1.2;have q2:=of_decide_eq_false h1.2;rw[ah9 k,ij,aia hx,ij];refine(Yu k hm hx xe hk).bd λr hr=>Told.kL (λh=>Told.mk λh2=>?_) λh0=>?_
 ·simp only at h2;rw[h2]at h;simp at h
 ·have h0:r.1=0:=by simpa using h0
  obtain⟨kd,hb⟩:=hr.2 h0;rw[V4 _ hr.1.T3,ij];refine Told.kL (λ_=>Told.mk λh=>by simp at h) λh=>Told.mk λ_=>⟨⟨by simpa using h,hr.1⟩,?_,hb⟩
  rcases kd with q|q|q
  ·exact .inl q
  ·exact .inr q
  ·exact absurd ⟨by omega,by omega⟩ q
end Go.Wk.Lf
end
section
namespace Go.Wk.Lf
open Go.V Go.Sort Go.Proofs
def zp(c:ig)(f:Found):Option ig:=if f.iM.kind=1 then zt c f else if f.iM.kind=2 then AE c f else if f.iM.kind=3 then AD c f else some c
def II:List Found→ig→Option ig
 |[],c=>some c
 |f::l,c=>bd (zp c f) (II l)
def HL(c:ig):Option (ig×Int):=lF.k1 c.im c.chunks c.ik c.seq c.iv
theorem aaU(vs:List iz)(fs:List Found)(C:ig)(hv:vs.length≤1073741824)(hf:fs.length≤1073741824)(h:II fs (rF vs)=some C):lF vs fs=HL C:=by
 unfold lF Ji;rw[yS _ hv,ij];refine nV (σ:=ig) (λi c=>((i:Int),c.im,c.chunks,c.ik,c.seq,c.iv)) fs.length (λi c=>II (fs.drop i) c=some C) _ (i0:=0) (s0:=rF vs) rfl (ju _) h (by omega) ?_ ?_
 ·intro rec i c hi hI jh;simp only[lF.l8];rw[iZ (jl hi),iX hi,ij];rw[Dr hi]at hI;obtain⟨d,hd,hI⟩:=iy hI;have hr:=jh d hI;have k9:lF.k9 (i:Int) rec d.im d.chunks d.ik d.seq d.iv=HL C:=by
   unfold lF.k9;rw[ja (by omega)];exact hr
  unfold zp at hd
  by_cases h1:fs[i].iM.kind=1
  ·rw[iZ (decide_eq_true h1)];rw[if_pos h1]at hd;rw[show ig.mk c.seq c.ik c.chunks c.im c.iv=c from rfl,hd,ij];exact k9
  ·rw[iR (decide_eq_false h1)];rw[if_neg h1]at hd
   by_cases h2:fs[i].iM.kind=2
   ·rw[iZ (decide_eq_true h2)];rw[if_pos h2]at hd;rw[show ig.mk c.seq c.ik c.chunks c.im c.iv=c from rfl,hd,ij];exact k9
   ·rw[iR (decide_eq_false h2)];rw[if_neg h2]at hd
    by_cases h3:fs[i].iM.kind=3
    ·rw[iZ (decide_eq_true h3)];rw[if_pos h3]at hd;rw[show ig.mk c.seq c.ik c.chunks c.im c.iv=c from rfl,hd,ij];exact k9
    ·rw[iR (decide_eq_false h3)];rw[if_neg h3]at hd;obtain rfl:=iK hd;exact k9
 ·intro rec c hI;simp only[lF.l8];rw[iR (jk (jr _))];rw[EW]at hI;obtain rfl:=iK hI;rfl
def LM(l:List Chunk)(id:List UInt8)(loc:Loc):List Chunk :=
 if uI l id=true then l.set (tM l id) (Chunk.mk (l.getD (tM l id) default).id (l.getD (tM l id) default).jD (l.getD (tM l id) default).data ((l.getD (tM l id) default).locs++[loc]))
 else l.take (tM l id)++[Chunk.mk id false [] [loc]]++l.drop (tM l id)
theorem Pq{α:Type}{l:List α}{k:Nat}{x:α}(hk:k≤l.length)(hl:l.length≤1000000):zg l (k:Int) [x]=some (l.take k++[x]++l.drop k):=by
 unfold zg;rw[if_pos ⟨by omega,by omega,by simp,by simp;omega⟩,ly]
theorem PL{α:Type}{l:List α}{k:Nat}{x:α}(hk:k≤l.length):(l.take k++[x]++l.drop k)[k]? =some x:=by
 rw[pG,nq (by simp[hk])];simp[xG hk]
theorem PM{α:Type}{l:List α}{k:Nat}{x y:α}(hk:k≤l.length):(l.take k++[x]++l.drop k).set k y=l.take k++[y]++l.drop k:=by
 rw[pG,List.set_append_right _ _ (by simp[hk])];simp[xG hk]
theorem Z7(c:ig)(f:Found)(hk:f.iM.kind=1)(hr:uy c.chunks)(hl:c.chunks.length≤1000000)(hs:∀x∈c.chunks,x.locs.length≤1000000)(h1:1≤f.iM.data.length)(h64:f.iM.data.length≤64) :
  zp c f=some ⟨c.seq,c.ik,LM c.chunks (lh f.iM.data) f.loc,c.im,c.iv⟩:=by
 unfold zp;rw[if_pos hk];unfold zt;rw[iR (by rw[decide_eq_false (by omega),decide_eq_false (by omega)];rfl),Yc _ (by omega),ij,P7 _ _ (by omega) hr,ij];have hle:=Z6 c.chunks (lh f.iM.data);unfold LM;cases h:uI c.chunks (lh f.iM.data)with
 | true =>
  rw[iR (by rfl),if_pos rfl];have jB:tM c.chunks (lh f.iM.data)<c.chunks.length:=by
   unfold uI at h;simp only[jK,decide_eq_true_eq]at h;exact h.1
  unfold zt.k1;rw[iX jB,ij,ki (by have:=hs _ (jF jB);simp;omega),ij,ij,jo jB,ly]
 |false =>
  rw[iZ (by rfl),Pq hle hl,ij,if_neg (by decide)];unfold zt.k1;rw[wk (PL hle),ij,ki (by simp),ij,ij,ly,PM hle];simp only[wM]
def Aq(so:List Loc→List Loc)(S:List ie)(c:ig):ig :=
 ⟨c.seq,S.map λs=>ie.mk s.seq s.iw (so s.locs),c.chunks.map λx=>Chunk.mk x.id x.jD x.data (so x.locs),c.im.map λx=>iu.mk x.seq x.of (so x.locs),c.iv⟩
theorem aaM(c:ig)(S:List ie)(so:List Loc→List Loc)(hS:tw c=some S)(hv:c.iv.length≤1000000)(hs:S.length≤1000000)(hc:c.chunks.length≤1000000)(he:c.im.length≤1000000)
  (p1:∀x∈S,BS x.locs=some (so x.locs)) (p2:∀x∈c.chunks,BS x.locs=some (so x.locs)) (p3:∀x∈c.im,BS x.locs=some (so x.locs)) :
  HL c=some (if pK (Aq so S c)=true then(Aq so S c,0)else(ig.mk 0 [] [] [] [],1)):=by
 have e4:lF.k4 c.seq c.iv (S.map λs=>ie.mk s.seq s.iw (so s.locs)) (c.chunks.map λx=>Chunk.mk x.id x.jD x.data (so x.locs)) (c.im.map λx=>iu.mk x.seq x.of (so x.locs))=some (if pK (Aq so S c)=true then(Aq so S c,0)else(ig.mk 0 [] [] [] [],1)):=by
  unfold lF.k4;rw[show ig.mk c.seq (S.map λs=>ie.mk s.seq s.iw (so s.locs)) (c.chunks.map λx=>Chunk.mk x.id x.jD x.data (so x.locs)) (c.im.map λx=>iu.mk x.seq x.of (so x.locs)) c.iv=Aq so S c from rfl];rw[NQ _ (by unfold Aq;simp only;omega) (by unfold Aq;simp only[sH];omega) (by unfold Aq;simp only[sH];omega) (by unfold Aq;simp only[sH];omega),ij]
  by_cases h:pK (Aq so S c)=true
  ·rw[if_pos h,if_pos h,Xl _ (Kc h)];rfl
  ·rw[if_neg h,if_neg h];rfl
 unfold HL lF.k1;rw[show ig.mk c.seq c.ik c.chunks c.im c.iv=c from rfl,hS,ij];rw[CN S (λs=>ie.mk s.seq s.iw (so s.locs)) (λl=>lF.k2 c.im c.chunks c.seq c.iv l) (by omega) ?_ ?_]
 ·unfold lF.k2;rw[CN c.chunks (λx=>Chunk.mk x.id x.jD x.data (so x.locs)) (λl=>lF.k3 c.im c.seq c.iv (S.map λs=>ie.mk s.seq s.iw (so s.locs)) l) (by omega) ?_ ?_]
  ·unfold lF.k3;rw[CN c.im (λx=>iu.mk x.seq x.of (so x.locs)) (λl=>lF.k4 c.seq c.iv (S.map λs=>ie.mk s.seq s.iw (so s.locs)) (c.chunks.map λx=>Chunk.mk x.id x.jD x.data (so x.locs)) l) (by omega) ?_ ?_]
   ·exact e4
   ·intro rec i l hi hm hx;simp only[lF.l5];rw[iZ (jl hi),wk hx,ij,p3 _ (jF hi),ij,ja (by omega),ly]
   ·intro rec l hl;simp only[lF.l5];rw[iR (jk (jr _))]
  ·intro rec i l hi hm hx;simp only[lF.l6];rw[iZ (jl hi),wk hx,ij,p2 _ (jF hi),ij,ja (by omega),ly]
  ·intro rec l hl;simp only[lF.l6];rw[iR (jk (jr _))]
 ·intro rec i l hi hm hx;simp only[lF.l7];rw[iZ (jl hi),wk hx,ij,p1 _ (jF hi),ij,ja (by omega),ly]
 ·intro rec l hl;simp only[lF.l7];rw[iR (jk (jr _))]
def uV(c:ig)(s:ie):Bool:=kO c.im.length (λk=>!decide ((c.im.getD k default).of=s.seq))&&kO (oo (lU s.iw)).length λk=>uI c.chunks ((oo (lU s.iw)).getD k default)
theorem ah5(c:ig)(s:ie)(he:c.im.length≤1000000)(hc:c.chunks.length≤1000000)(hr:uy c.chunks)(hp:s.iw.parts.length≤1000000)(hi:(lU s.iw).length≤1000000):LP c s=some (uV c s):=by
 have hu:=Pk (lU s.iw);unfold LP QH zy;rw[CK c.im.length (λk=>decide ((c.im.getD k default).of=s.seq)) (by omega) ?_ ?_,ij,ij,KG]
 ·unfold uV;cases kO c.im.length (λk=>!decide ((c.im.getD k default).of=s.seq))with
  |false=>rfl
  |true =>
   rw[iR (by rfl),aez _ (by omega) (by omega),ij];unfold QG zx;rw[CK (oo (lU s.iw)).length (λk=>!uI c.chunks ((oo (lU s.iw)).getD k default)) (by omega) ?_ ?_,ij,ij,KG]
   ·simp
   ·intro rec i hi;simp only[zx.l2,Qp];rw[iZ (jl hi),iX hi,ij,P7 _ _ (by omega) hr,ij,ij,jo hi,ja (by omega)]
   ·intro rec;simp only[zx.l2,zx.k1];rw[iR (jk (jr _))]
 ·intro rec i hi;simp only[zy.l2,Qo];rw[iZ (jl hi),iX hi,ij,ij,jo hi,ja (by omega)]
 ·intro rec;simp only[zy.l2,zy.k1];rw[iR (jk (jr _))]
end Go.Wk.Lf
end
section
namespace Go.Wk.Lf
open Go.V Go.Sort Go.Proofs
theorem aak(xs:List Loc)(hl:xs.length≤1073741824):oZ xs=some (py xs):=by
 unfold oZ
 by_cases h2:xs.length<2
 ·rw[iZ (decide_eq_true (by omega)),Kv _ h2]
 ·rw[iR (decide_eq_false (by omega))];refine nV (S:=Int) (σ:=Unit) (λi _=>(i:Int)) xs.length (λi _=>1≤i∧py (xs.take i)=xs.take i) _ (i0:=1) (s0:=()) rfl (by omega) ⟨by omega,Kv _ (by simp;omega)⟩ (by omega) ?_ ?_
  ·intro rec i _ hi hI jh;obtain⟨h1,hc⟩:=hI;simp only[oZ.l2,oZ.k3];rw[iZ (jl hi),iX hi,ij,wB (by omega) (by omega),iX (show i-1<xs.length by omega),ij];have jm:=Kw (l:=xs) (j:=i-1) (a:=xs[i-1]) (b:=xs[i]) (jx (by omega)) (by rw[show i-1+1=i by omega];exact jx hi);rw[show i-1+2=i+1 by omega,show i-1+1=i by omega,hc]at jm
   by_cases he:xs[i]=xs[i-1]
   ·rw[iZ (decide_eq_true he),pM (by omega) (by omega) (by omega),ij];rw[if_pos he.symm]at jm;refine nV (S:=Int×Int×List Loc) (σ:=Nat×List Loc) (λk s=>((s.1:Int),(k:Int),s.2)) (xs.length-i) (λk s=>s.2.length=xs.length∧1≤k∧1≤s.1∧s.1≤i+k-1∧s.2.take s.1=py (xs.take (i+k)) ∧ ∀q,i+k-1≤q→s.2[q]? =xs[q]?) _ (i0:=1) (s0:=(i,xs)) rfl (by omega) ⟨rfl,by omega,by omega,by simp,jm.symm,λq _=>rfl⟩ (by omega) ?_ ?_
    ·rintro n9 k ⟨w,cs⟩ hk ⟨e1,e2,e3,e4,e5,e6⟩ nC;simp only at e1 e3 e4 e5 e6;simp only[oZ.l5,oZ.k6,ly];have HY:i+k<cs.length:=by omega
     have xc:cs[i+k]=xs[i+k]:=by have:=e6 (i+k) (by omega);rw[jx HY,jx (by omega)]at this;exact iK this
     have pg:cs[i+(k-1)]=xs[i+(k-1)]:=by have:=e6 (i+(k-1)) (by omega);rw[jx (by omega),jx (by omega)]at this;exact iK this
     have qS:=Kw (l:=xs) (j:=i+(k-1)) (a:=xs[i+(k-1)]) (b:=xs[i+k]) (jx (by omega)) (by rw[show i+(k-1)+1=i+k by omega];exact jx (by omega));rw[show i+(k-1)+2=i+(k+1) by omega,show i+(k-1)+1=i+k by omega,←e5]at qS;rw[iZ (jl hk),Li hk HY,ij,wB (by omega) (by omega),Li (show k-1<xs.length-i by omega) (by omega),ij,xc,pg]
     by_cases jw:xs[i+k]=xs[i+(k-1)]
     ·rw[iR (by simp[jw]),ja (by omega)];rw[if_pos jw.symm]at qS;exact nC (w,cs) ⟨e1,by omega,e3,by simp only;omega,qS.symm,λq hq=>e6 q (by omega)⟩
     ·rw[iZ (by simp[jw]),ij,iX (show w<cs.length by omega),ij,ja (by omega),ja (by omega)];rw[if_neg (λh=>jw h.symm)]at qS;refine nC (w+1,cs.set w xs[i+k]) ⟨by simp[e1],by omega,by simp,by simp only;omega,?_,λq hq=>?_⟩
      ·simp only;rw[Xa _ (by omega),qS]
      ·simp only;rw[wI (by omega)];exact e6 q (by omega)
    ·rintro n9 ⟨w,cs⟩ ⟨e1,e2,e3,e4,e5,e6⟩;simp only at e1 e3 e4 e5 e6;simp only[oZ.l5,oZ.k4,ly];rw[iR (jk (jr _)),pM (by omega) (by omega) (by omega),ij];rw[show yc cs w (cs.length-w) (Loc.mk 0 0 0 0)=some (cs.take w++iV (cs.length-w) (Loc.mk 0 0 0 0))from if_pos (by omega),ij];rw[pM (by omega) (by omega) (by simp;omega),ij];simp only[ly,RO,ur];rw[PZ (by simp only[ne_eq,List.append_eq_nil_iff,not_and];intro q;have q2:=congrArg List.length q;rw[kX,AU]at q2;omega),ij,JN (by simp;omega),E8,Nat.min_self,e5,show i+(xs.length-i)=xs.length by omega,ow]
   ·rw[iR (decide_eq_false he),ja (by omega)];rw[if_neg (λh=>he h.symm)]at jm;exact jh () ⟨by omega,by rw[jm,ou hi]⟩
  ·intro rec _ hI;simp only[oZ.l2,oZ.k1];rw[iR (jk (jr _))];have:=hI.2;rw[ow]at this;rw[this]
def zC(l:List Loc):List Loc:=py (xk oq l)
theorem Qa(l:List Loc)(hl:l.length≤1000000):BS l=some (zC l):=by
 have h1:=(Gg oq l).length_eq;have h2:=NS (xk oq l);unfold BS AM;rw[yS _ (by omega),ij,W1 (by omega),ij,aak _ (by omega),ij,yS _ (by omega),ij];rfl
end Go.Wk.Lf
end
section
namespace Go.Wk.Lf
open Go.V Go.Sort Go.Proofs
def z6(l:List ie)(q:Int):Nat:=sX l λs=>decide (s.seq<q)
def Bs(l:List ie)(q:Int):Bool:=decide (z6 l q<l.length)&&decide ((l.getD (z6 l q) default).seq=q)
def zZ(l:List iu)(q:Int):Nat:=sX l λs=>decide (s.seq<q)
def Br(l:List iu)(q:Int):Bool:=decide (zZ l q<l.length)&&decide ((l.getD (zZ l q) default).seq=q)
theorem TE(a b:Int):decide (yT a b<0)=decide (a<b):=by
 unfold yT
 by_cases h:a<b
 ·simp[h]
 ·by_cases h2:b<a<;>simp[h,h2]
theorem TF(a b:Int):decide (yT a b=0)=decide (a=b):=by
 unfold yT
 by_cases h:a<b
 ·have:a≠b:=by omega
  simp[h,this]
 ·by_cases h2:b<a
  ·have:a≠b:=by omega
   simp[h,h2,this]
  ·have:a=b:=by omega
   simp[h,h2,this]
theorem ahN(l:List ie)(q:Int)(hl:l.length≤1073741824)(hr:l.Pairwise λa b=>a.seq<b.seq) :
  yy l q=some (((z6 l q:Nat):Int),Bs l q):=by
 unfold Bs z6 sX yy;refine NC l.length (λi=>decide ((l.getD i default).seq<q)) (λk=>some ((k:Int),decide (k<l.length)&&decide ((l.getD k default).seq=q))) hl ?_ ?_ ?_
 ·intro i j th hj h;rw[jo hj,decide_eq_true_eq]at h;rw[jo (by omega),decide_eq_true_eq];exact GZ (BR hr th hj) h
 ·intro rec i j th hj;simp only[yy.l2];have hm:(i+j)/2<l.length:=by omega
  rw[iZ (jl th),PK (by omega) (by omega),iX hm,ij];simp only[IX,HF,ij,TE,jo hm,ja (show(i+j)/2<4611686018427387904 by omega)]
 ·intro rec i hi;simp only[yy.l2,yy.k1];rw[iR (jk (jr _))]
  by_cases h:i<l.length
  ·simp only[jl h,iX h,ng,ij,if_true,IX,HF,oP,jo h,decide_eq_true h,TF]
  ·simp only[jk h,me,ij,tD,decide_eq_false h]
theorem aaH(l:List iu)(q:Int)(hl:l.length≤1073741824)(hr:l.Pairwise λa b=>a.seq<b.seq) :
  yx l q=some (((zZ l q:Nat):Int),Br l q):=by
 unfold Br zZ sX yx;refine NC l.length (λi=>decide ((l.getD i default).seq<q)) (λk=>some ((k:Int),decide (k<l.length)&&decide ((l.getD k default).seq=q))) hl ?_ ?_ ?_
 ·intro i j th hj h;rw[jo hj,decide_eq_true_eq]at h;rw[jo (by omega),decide_eq_true_eq];exact GZ (BR hr th hj) h
 ·intro rec i j th hj;simp only[yx.l2];have hm:(i+j)/2<l.length:=by omega
  rw[iZ (jl th),PK (by omega) (by omega),iX hm,ij];simp only[IW,HF,ij,TE,jo hm,ja (show(i+j)/2<4611686018427387904 by omega)]
 ·intro rec i hi;simp only[yx.l2,yx.k1];rw[iR (jk (jr _))]
  by_cases h:i<l.length
  ·simp only[jl h,iX h,ng,ij,if_true,IW,HF,oP,jo h,decide_eq_true h,TF]
  ·simp only[jk h,me,ij,tD,decide_eq_false h]
def Ho(loc:Loc)(s:ie):ie:=ie.mk s.seq s.iw (s.locs++[loc])
def Hn(loc:Loc)(s:iu):iu:=iu.mk s.seq s.of (s.locs++[loc])
def vG{α:Type}[Inhabited α](l:List α)(k:Nat)(UH:Bool)(f:α→α)(x:α):List α:=if UH=true then l.set k (f (l.getD k default))else l.take k++[x]++l.drop k
def Qg(l:List ie)(q:Int)(m:iF)(loc:Loc):List ie:=vG l (z6 l q) (Bs l q) (Ho loc) (ie.mk q m [loc])
def Qb(l:List iu)(q of:Int)(loc:Loc):List iu:=vG l (zZ l q) (Br l q) (Hn loc) (iu.mk q of [loc])
def yn(q s:Int):Int:=if q<(if 1073741824<s then 1073741824 else s)+1 then(if 1073741824<s then 1073741824 else s)+1 else q
theorem LA(q s:Int)(h:-9223372036854775808≤s):(if q<wr ((if 1073741824<s then 1073741824 else s)+1)then wr ((if 1073741824<s then 1073741824 else s)+1)else q)=yn q s:=by
 have:wr ((if 1073741824<s then 1073741824 else s)+1)=(if 1073741824<s then 1073741824 else s)+1:=by
  split<;>exact ll (by omega) (by omega)
 unfold yn;rw[this]
noncomputable def ud(c:ig)(f:Found):ig :=
 if f.iM.kind=1 then(if 1≤f.iM.data.length∧f.iM.data.length≤64 then⟨c.seq,c.ik,LM c.chunks (lh f.iM.data) f.loc,c.im,c.iv⟩else c)
 else if f.iM.kind=2 then(if(rS f.iM.data).2=0 then⟨yn c.seq f.iM.seq,Qg c.ik f.iM.seq (rS f.iM.data).1 f.loc,c.chunks,c.im,c.iv⟩else c)
 else if f.iM.kind=3 then(if f.iM.data.length=4 then⟨yn c.seq f.iM.seq,c.ik,c.chunks,Qb c.im f.iM.seq (mG f.iM.data:Int) f.loc,c.iv⟩else c)
 else c
structure Good(n:Nat)(c:ig):Prop where
 rc:uy c.chunks
 rs:c.ik.Pairwise λa b=>a.seq<b.seq
 re:c.im.Pairwise λa b=>a.seq<b.seq
 lc:c.chunks.length≤n
 ls:c.ik.length≤n
 le:c.im.length≤n
 kc:∀x∈c.chunks,x.id.length=32∧x.data=[]∧x.jD=false∧x.locs.length≤n
 ks:∀s∈c.ik,mO s.iw∧xr s.iw∧s.locs.length≤n
 ke:∀x∈c.im,x.locs.length≤n
def fit(f:Found):Prop:=f.iM.data.length≤100000 ∧ -9223372036854775808≤f.iM.seq
theorem ahP{n:Nat}(c:ig)(f:Found)(hg:Good n c)(hn:n≤500000)(hf:fit f)(hk:f.iM.kind=2):zp c f=some (ud c f):=by
 have h1:=hg.ls;unfold zp ud;rw[if_neg (by omega),if_pos hk,if_neg (by omega),if_pos hk];unfold AE;rw[afJ _ (by have:=hf.1;omega),ij]
 by_cases h0:(rS f.iM.data).2=0
 ·have hle:z6 c.ik f.iM.seq≤c.ik.length:=IS _ _;rw[if_pos h0,iR (decide_eq_false λh=>h h0),ahN _ _ (by omega) hg.rs,ij];unfold Qg vG;cases h:Bs c.ik f.iM.seq with
  |true =>
   have jB:z6 c.ik f.iM.seq<c.ik.length:=by unfold Bs at h;simp only[jK,decide_eq_true_eq]at h;exact h.1
   rw[iR (by rfl),if_pos rfl];unfold AE.k1;rw[iX jB,ij,ki (by have:=(hg.ks _ (jF jB)).2.2;simp;omega),ij,ij,jo jB,ly,LA _ _ hf.2];rfl
  |false =>
   rw[iZ (by rfl),Pq hle (by omega),ij,if_neg (by decide)];unfold AE.k1;rw[wk (PL hle),ij,ki (by simp),ij,ij,ly,PM hle,LA _ _ hf.2];rfl
 ·rw[if_neg h0,iZ (decide_eq_true h0)]
theorem aaI{n:Nat}(c:ig)(f:Found)(hg:Good n c)(hn:n≤500000)(hf:fit f)(hk:f.iM.kind=3):zp c f=some (ud c f):=by
 have h1:=hg.le;unfold zp ud;rw[if_neg (by omega),if_neg (by omega),if_pos hk,if_neg (by omega),if_neg (by omega),if_pos hk];unfold AD
 by_cases h0:f.iM.data.length=4
 ·have hle:zZ c.im f.iM.seq≤c.im.length:=IS _ _;have UE:=get_eq f.iM.data 0 4 (by decide) (by decide) (by omega) (by omega);rw[show f.iM.data.take (0+4)=f.iM.data from xB (by omega),ur]at UE;rw[if_pos h0,iR (decide_eq_false (by omega)),show vU f.iM.data 0 4=_ from UE,ij,aaH _ _ (by omega) hg.re,ij];unfold Qb vG;cases h:Br c.im f.iM.seq with
  |true =>
   have jB:zZ c.im f.iM.seq<c.im.length:=by unfold Br at h;simp only[jK,decide_eq_true_eq]at h;exact h.1
   rw[iR (by rfl),if_pos rfl];unfold AD.k1;rw[iX jB,ij,ki (by have:=hg.ke _ (jF jB);simp;omega),ij,ij,jo jB,ly,LA _ _ hf.2];rfl
  |false =>
   rw[iZ (by rfl),Pq hle (by omega),ij,if_neg (by decide)];unfold AD.k1;rw[wk (PL hle),ij,ki (by simp),ij,ij,ly,PM hle,LA _ _ hf.2];rfl
 ·rw[if_neg h0,iZ (decide_eq_true (by omega))]
theorem aeN{n:Nat}(c:ig)(f:Found)(hg:Good n c)(hn:n≤500000)(hf:fit f):zp c f=some (ud c f):=by
 by_cases h1:f.iM.kind=1
 ·by_cases hd:1≤f.iM.data.length∧f.iM.data.length≤64
  ·rw[Z7 c f h1 hg.rc (by have:=hg.lc;omega) (λx hx=>by have:=(hg.kc x hx).2.2.2;omega) hd.1 hd.2];unfold ud;rw[if_pos h1,if_pos hd]
  ·unfold zp ud zt;rw[if_pos h1,if_pos h1,if_neg hd,iZ];rw[rW,decide_eq_true_eq,decide_eq_true_eq];omega
 ·by_cases h2:f.iM.kind=2
  ·exact ahP c f hg hn hf h2
  ·by_cases h3:f.iM.kind=3
   ·exact aaI c f hg hn hf h3
   ·unfold zp ud;rw[if_neg h1,if_neg h2,if_neg h3,if_neg h1,if_neg h2,if_neg h3]
theorem afs{κ:Type}{R:κ→κ→Prop}(tr:∀a b c,R a b→R b c→R a c){l:List κ}(h:l.Pairwise R){k:Nat}{y:κ}(h1:∀x∈l.take k,R x y)(h2:∀x∈l.drop k,R y x):(l.take k++[y]++l.drop k).Pairwise R:=by
 rw[←u7 k l]at h;obtain⟨a,b,c⟩:=zO.1 h;refine zO.2 ⟨zO.2 ⟨a,List.pairwise_singleton _ _,λx hx z hz=>by rw[o8.1 hz];exact h1 x hx⟩,b,λx hx z hz=>?_⟩;rcases mF.1 hx with hx|hx
 ·exact c x hx z hz
 ·rw[o8.1 hx];exact h2 z hz
theorem afo{α:Type}[Inhabited α]{l:List α}{lt:α→Bool}:∀x∈l.take (sX l lt),lt x=true:=λx hx=>by
 obtain⟨i,hi,rfl⟩:=my hx;rw[kX]at hi;have:=LL (n:=l.length) (f:=λi=>lt (l.getD i default)) (q:=i) (by unfold sX at hi;omega);rw[jo (by omega)]at this;rw[Dt];exact this
theorem afm{α:Type}[Inhabited α]{l:List α}{R:α→α→Prop}{lt:α→Bool}(hr:l.Pairwise R)(hm:∀a b,R a b→lt b=true→lt a=true):∀x∈l.drop (sX l lt),lt x=false:=λx hx=>by
 obtain⟨i,hi,rfl⟩:=my hx;rw[od]at hi;have h0:=LK (n:=l.length) (f:=λi=>lt (l.getD i default)) (by unfold sX at hi;omega);rw[jo (by unfold sX at hi;omega)]at h0;rw[MT];cases wi:lt (l[sX l lt+i]'(by omega))with
 |false=>rfl
 |true =>
  rcases JO i with rfl|hp
  ·exact wi.symm.trans h0
  ·have:=hm _ _ (xA.1 hr (sX l lt) (sX l lt+i) (by omega) (by omega) (by omega)) wi;exact this.symm.trans h0
theorem Qc{α:Type}[Inhabited α](l:List α)(k:Nat)(b:Bool)(f:α→α)(x:α):(vG l k b f x).length≤l.length+1:=by
 unfold vG
 split
 ·simp
 ·simp;omega
theorem Qd{α:Type}[Inhabited α]{l:List α}{k:Nat}{b:Bool}{f:α→α}{x y:α}(hb:b=true→k<l.length)(h:y∈vG l k b f x):y∈l∨(∃z∈l,y=f z)∨y=x:=by
 unfold vG at h
 split at h
 ·rename_i rN;rcases G3 h with h|h
  ·exact .inl h
  ·exact .inr (.inl ⟨_,by rw[jo (hb rN)];exact jF _,h⟩)
 ·rcases mF.1 h with h|h
  ·rcases mF.1 h with h|h
   ·exact .inl (sJ h)
   ·exact .inr (.inr (o8.1 h))
  ·exact .inl (sI h)
theorem Qe{α κ:Type}[Inhabited α]{key:α→κ}{R:κ→κ→Prop}(tr:∀a b c,R a b→R b c→R a c){l:List α}(hr:l.Pairwise λa b=>R (key a) (key b)){lt:α→Bool}{f:α→α}(hf:∀a,key (f a)=key a){x:α}(hx:∀a,lt a=true↔R (key a) (key x)){b:Bool}
  (jw:b=false → ∀a∈l,lt a=false→R (key x) (key a)):(vG l (sX l lt) b f x).Pairwise λa b=>R (key a) (key b):=by
 have hm:∀a b,R (key a) (key b)→lt b=true→lt a=true:=λa b h1 h2=>(hx a).2 (tr _ _ _ h1 ((hx b).1 h2));unfold vG
 split
 ·have e:(l.set (sX l lt) (f (l.getD (sX l lt) default))).map key=l.map key:=by
   rw[List.map_set,hf];apply List.ext_getElem?;intro j
   by_cases hj:j=sX l lt
   ·subst hj
    by_cases hl:sX l lt<l.length
    ·rw[uv (by simpa using hl),jo hl,List.getElem?_map,jx hl];rfl
    ·rw[zN (by simpa using hl),zN (by simpa using hl)]
   ·rw[wI λq=>hj q.symm]
  rw[←E6 (f:=key) (R:=R)]at hr ⊢;rw[e];exact hr
 ·rename_i hb;have hb:b=false:=by simpa using hb
  refine afs (R:=λa b=>R (key a) (key b)) (λa b c=>tr _ _ _) hr (λa ha=>(hx a).1 (afo a ha)) λa ha=>?_;exact jw hb a (sI ha) (afm hr hm a ha)
theorem LN(l:List Chunk)(id:List UInt8)(loc:Loc):LM l id loc=vG l (tM l id) (uI l id) (λx=>Chunk.mk x.id x.jD x.data (x.locs++[loc])) (Chunk.mk id false [] [loc]):=rfl
theorem VK{n:Nat}{c:ig}{f:Found}(hg:Good n c):Good (n+1) (ud c f):=by
 have up:Good (n+1) c:=⟨hg.rc,hg.rs,hg.re,by have:=hg.lc;omega,by have:=hg.ls;omega,by have:=hg.le;omega,λx hx=>by obtain⟨a,b,c,d⟩:=hg.kc x hx;exact⟨a,b,c,by omega⟩,λs hs=>by obtain⟨a,b,c⟩:=hg.ks s hs;exact⟨a,b,by omega⟩,λx hx=>by have:=hg.ke x hx;omega⟩
 unfold ud
 split
 ·split
  ·refine{ up with rc:=?_,lc:=?_,kc:=λx hx=>?_ }
   ·simp only[LN];refine Qe (key:=Chunk.id) (R:=λa b=>jt a b=true) (λa b c=>xt) hg.rc (f:=λx=>Chunk.mk x.id x.jD x.data (x.locs++[f.loc])) (x:=Chunk.mk (lh f.iM.data) false [] [f.loc]) (λ_=>rfl) (λa=>Iff.rfl) λhb a ha jB=>?_;cases h:jt (lh f.iM.data) a.id with
    |true=>rfl
    |false =>
     have:uI c.chunks (lh f.iM.data)=true:=(HT hg.rc _).2 ⟨a,ha,C0 jB h⟩;rw[hb]at this;cases this
   ·simp only[LN];exact nY (Qc _ _ _ _ _) (by have:=hg.lc;omega)
   ·simp only[LN]at hx;rcases Qd (λhb=>by unfold uI at hb;simp only[jK,decide_eq_true_eq]at hb;exact hb.1) hx with h|⟨z,hz,rfl⟩|rfl
    ·exact up.kc x h
    ·obtain⟨a,b,c,d⟩:=hg.kc z hz;exact⟨a,b,c,by simp;omega⟩
    ·exact⟨Mf _,rfl,rfl,by simp⟩
  ·exact up
 ·split
  ·split
   ·rename_i h0;refine{ up with rs:=?_,ls:=?_,ks:=λx hx=>?_ }
    ·simp only[Qg,z6];refine Qe (key:=ie.seq) (R:=λa b=>a<b) (λa b c=>GZ) hg.rs (f:=Ho f.loc) (x:=ie.mk f.iM.seq (rS f.iM.data).1 [f.loc]) (λ_=>rfl) (λa=>decide_eq_true_iff) λhb a ha jB=>?_;have K3:¬a.seq<f.iM.seq:=by simpa using jB
     refine Int.lt_iff_le_and_ne.2 ⟨by simp only;omega,λe=>?_⟩;have e:f.iM.seq=a.seq:=e;obtain⟨i,hi,rfl⟩:=my ha;have y4:z6 c.ik f.iM.seq=i:=Em (by omega) (λq hq=>by rw[jo (by omega),decide_eq_true_eq,e];exact BR hg.rs hq hi) λh=>by rw[jo hi,decide_eq_false_iff_not];exact K3
     unfold Bs at hb;rw[y4,jo hi,decide_eq_true hi,decide_eq_true e.symm]at hb;cases hb
    ·exact nY (Qc _ _ _ _ _) (by have:=hg.ls;omega)
    ·rcases Qd (λhb=>by unfold Bs at hb;simp only[jK,decide_eq_true_eq]at hb;exact hb.1) hx with h|⟨z,hz,rfl⟩|rfl
     ·exact up.ks x h
     ·obtain⟨a,b,c⟩:=hg.ks z hz;exact⟨a,b,by simp[Ho];omega⟩
     ·rcases afG f.iM.data with⟨m,hm,e⟩|⟨_,e⟩
      ·rw[e];exact⟨hm.1,hm.2.1,by simp⟩
      ·rw[e]at h0;cases h0
   ·exact up
  ·split
   ·split
    ·refine{ up with re:=?_,le:=?_,ke:=λx hx=>?_ }
     ·simp only[Qb,zZ];refine Qe (key:=iu.seq) (R:=λa b=>a<b) (λa b c=>GZ) hg.re (f:=Hn f.loc) (x:=iu.mk f.iM.seq (mG f.iM.data:Int) [f.loc]) (λ_=>rfl) (λa=>decide_eq_true_iff) λhb a ha jB=>?_;have K3:¬a.seq<f.iM.seq:=by simpa using jB
      refine Int.lt_iff_le_and_ne.2 ⟨by simp only;omega,λe=>?_⟩;have e:f.iM.seq=a.seq:=e;obtain⟨i,hi,rfl⟩:=my ha;have y4:zZ c.im f.iM.seq=i:=Em (by omega) (λq hq=>by rw[jo (by omega),decide_eq_true_eq,e];exact BR hg.re hq hi) λh=>by rw[jo hi,decide_eq_false_iff_not];exact K3
      unfold Br at hb;rw[y4,jo hi,decide_eq_true hi,decide_eq_true e.symm]at hb;cases hb
     ·exact nY (Qc _ _ _ _ _) (by have:=hg.le;omega)
     ·rcases Qd (λhb=>by unfold Br at hb;simp only[jK,decide_eq_true_eq]at hb;exact hb.1) hx with h|⟨z,hz,rfl⟩|rfl
      ·exact up.ke x h
      ·have:=hg.ke z hz;simp[Hn];omega
      ·simp
    ·exact up
   ·exact up
theorem S1(vs:List iz):Good 0 (rF vs):=⟨B9,B9,B9,jg _,jg _,jg _,λx hx=>(by cases hx),λx hx=>(by cases hx),λx hx=>by cases hx⟩
noncomputable def CQ(fs:List Found)(c:ig):ig:=fs.foldl ud c
theorem aeP(fs:List Found):∀n c,Good n c→Good (n+fs.length) (CQ fs c):=by
 induction fs with
 |nil=>intro n c h;exact h
 |cons f fs ih =>
  intro n c h;have:=ih (n+1) (ud c f) (VK h);rw[tG,show n+(fs.length+1)=n+1+fs.length by omega];exact this
theorem aeO(fs:List Found):∀n c,Good n c→n+fs.length≤500000→(∀f∈fs,fit f)→II fs c=some (CQ fs c):=by
 induction fs with
 |nil=>intro n c h hn hf;rfl
 |cons f fs ih =>
  intro n c h hn hf;rw[tG]at hn;simp only[II];rw[aeN c f h (by omega) (hf f (E5 ..)),ij];exact ih (n+1) (ud c f) (VK h) (by omega) λg hg=>hf g (mV _ hg)
end Go.Wk.Lf
end
section
namespace Go.Wk.Lf
open Go.V Go.Sort Go.Proofs
section
variable{b:List UInt8}(hb:b.length≤1000000000)
include hb
omit hb in
end
end Go.Wk.Lf
end
section
namespace Go.Wk.Lf
open Go.V Go.Sort Go.Proofs
abbrev PS:=Int×List iz×List ie×List Chunk×List ie×Int×List iu
section
variable{n:Nat}{fs:List Found}{i:Nat}{c:ig}{rec:PS→Option (ig×Int)}{a:Option (ig×Int)}(hi:i<fs.length)(hl:fs.length≤1000)(hg:Good n c)(hn:n≤1000)(hf:fit fs[i])
include hi hl hg hn hf
end
end Go.Wk.Lf
end
section
namespace Go.Wk.Lf
open Go.V Go.Sort Go.Proofs
theorem PJ(l:List Loc)(x:Loc):x∈zC l↔x∈l:=by rw[zC,Gk,PI]
theorem aal(l:List Loc)(h:xJ oq l):(py l).Pairwise (λa b=>oq a b<0):=by
 refine(GG (p:=λl=>xJ oq l→(py l).Pairwise (λa b=>oq a b<0)) (λ_=>B9) (λl y ih=>?_) l) h;intro hl;obtain⟨h1,h2,h3⟩:=zO.1 hl;rw[FF];unfold Bj
 split
 ·exact ih h1
 ·rename_i jw;refine zO.2 ⟨ih h1,List.pairwise_singleton _ _,λa ha b hb=>?_⟩;rw[o8]at hb;subst hb;have OC:=(Gk l a).1 ha;have K6:¬oq b a<0:=h3 a OC b (by simp)
  by_cases y3:oq a b<0
  ·exact y3
  ·exfalso
   have he:a=b:=LG a b (by simpa[wm]using y3) (by simpa[wm]using K6);subst he;have acs:l.getLast?=some a:=by
    obtain⟨i,hi⟩:=List.mem_iff_getElem?.1 OC;cases hg:l.getLast? with
    |none=>rw[List.getLast?_eq_none_iff]at hg;subst hg;simp at OC
    | some c =>
     have lT:c∈l:=List.mem_of_getLast? hg;have n1:¬oq a c<0:=h3 c lT a (by simp);have n2:¬oq c a<0:=by
      intro hca;rw[List.getLast?_eq_getElem?]at hg;have jU:=(kI.1 hi).1
      by_cases e:i=l.length-1
      ·subst e;have:=iK (hi.symm.trans hg);subst this;have:=Gv.irrefl a;rw[wm]at this;simp at this;omega
      ·obtain⟨abA,hce⟩:=kI.1 hg;have hie:=(kI.1 hi).2;have:=(xA.1 h1) i (l.length-1) jU abA (by omega);rw[hie,hce]at this;exact this hca
     have:a=c:=LG a c (by simpa[wm]using n1) (by simpa[wm]using n2);rw[this]
   rw[Lm]at jw;exact jw acs
theorem QM(l:List Loc):(zC l).Pairwise (λa b=>oq a b<0):=aal _ (Pr Gv l)
theorem lt_asymm{a b:Loc}(h:oq a b<0):¬oq b a<0:=by
 intro h2;have:=Gv.trans a b a (by simpa[wm]using h) (by simpa[wm]using h2);rw[Gv.irrefl]at this;cases this
theorem aem{a b c:Loc}(h1:oq a b<0)(h2:oq b c<0):oq a c<0:=by
 have:=Gv.trans a b c (by simpa[wm]using h1) (by simpa[wm]using h2);simpa[wm]using this
theorem QP{a b:List Loc}(ha:a.Pairwise (λx y=>oq x y<0))(hb:b.Pairwise (λx y=>oq x y<0))(h:∀x,x∈a↔x∈b):a=b:=by
 have nd:∀{l:List Loc},l.Pairwise (λx y=>oq x y<0)→l.Nodup:=λhl=>List.nodup_iff_pairwise_ne.2 (hl.imp λ{x y} h e=>by subst e;exact lt_asymm h h);exact Wi LG (ha.imp λh=>lt_asymm h) (hb.imp λh=>lt_asymm h) ((List.perm_ext_iff_of_nodup (nd ha) (nd hb)).2 h)
end Go.Wk.Lf
end
section
namespace Go.Wk.Lf
open Go.V Go.Sort Go.Proofs
def vJ(s x:ie):Bool:=!(x.iw.name==s.iw.name)
theorem aay(l:List ie)(s:ie)(hl:l.length≤1073741824):uj l s=some (l.filter (vJ s)):=by
 have hi:yB l s=some (oT l.length λi=>!vJ s (l.getD i default)):=by
  unfold yB;rw[CK l.length (λi=>!vJ s (l.getD i default)) (by omega) ?_ ?_]
  ·intro rec i hi;simp only[yB.l2,IY,vJ,B5];rw[iZ (jl hi),iX hi,ij,jo hi,ja (by omega)];rfl
  ·intro rec;simp only[yB.l2,yB.k1];rw[iR (jk (jr _))]
 have ef:(λx=>!(!vJ s x))=vJ s:=funext λx=>B5 _;unfold uj;rw[hi,ij]
 by_cases h:(oT l.length λi=>!vJ s (l.getD i default)) = -1
 ·rw[iZ (decide_eq_true h),MQ.2 λx hx=>?_];obtain⟨i,hi,rfl⟩:=rA.1 hx;have:=KF.1 h i hi;rw[jo hi]at this;simpa using this
 ·obtain⟨k,hk,e,h1,h2⟩:=HM h;rw[iR (decide_eq_false h),e,ja (by omega)];rw[jo hk]at h1;rw[NX l (λx=>!vJ s x) k hk (λj hj xd=>by have:=h2 j xd;rwa[jo hj]at this) h1 hl ?_ ?_,ef]
  ·intro rec a b m hb hm y3 D5;simp only[uj.l2,uj.k3,IY];rw[iZ (jl (by omega)),wk D5,ij,ij,iX (show a<m.length by omega),ij,ja (by omega),ja (by omega),ly];simp only[vJ]
   by_cases hq:(l[b].iw.name==s.iw.name)=true<;>simp[hq]
  ·intro rec a m hm ha;simp only[uj.l2,uj.k1];rw[iR (jk (by omega))];exact NW hm ha
def sA:List ie→List ie
 |[]=>[]
 |s::l=>if l.any (λx=>x.iw.name==s.iw.name)then sA l else s::sA l
theorem ad7(s:ie)(l:List ie):sA (s::l)=if l.any (λx=>x.iw.name==s.iw.name)then sA l else s::sA l:=rfl
theorem ad9(l:List ie)(s:ie):sA (l++[s])=(sA l).filter (vJ s)++[s]:=by
 induction l with
 |nil=>rfl
 | cons a l ih =>
  rw[G1];unfold sA;rw[ih,List.any_append];cases h:l.any (λx=>x.iw.name==a.iw.name)with
  |true=>simp
  | false =>
   by_cases hs:s.iw.name=a.iw.name
   ·have hu:vJ s a=false:=by simp[vJ,hs]
    simp[hs,hu]
   ·have hu:vJ s a=true:=by simp[vJ];exact λq=>hs q.symm
    simp[hs,hu]
theorem Pw(l:List ie):(sA l).Sublist l:=by
 induction l with
 |nil=>exact List.Sublist.slnil
 |cons a l ih =>
  unfold sA
  split
  ·exact ih.cons _
  ·exact ih.cons_cons _
theorem ad8(f:ie→ie)(hf:∀s,(f s).iw=s.iw)(l:List ie):sA (l.map f)=(sA l).map f:=by
 induction l with
 |nil=>rfl
 |cons a l ih =>
  rw[qI];unfold sA;rw[ih,List.any_map];have:(λx:ie=>x.iw.name==(f a).iw.name) ∘ f=λx=>x.iw.name==a.iw.name:=funext λx=>by simp[hf]
  rw[this]
  split<;>rfl
theorem ahR{n:Nat}(c:ig)(hg:Good n c)(hn:n≤500000):tw c=some (sA (c.ik.filter (uV c))):=by
 have hls:=hg.ls;unfold tw;refine nV (S:=List ie×Int) (σ:=Unit) (λi _=>(sA ((c.ik.take i).filter (uV c)),(i:Int))) c.ik.length (λ_ _=>True) _ (i0:=0) (s0:=()) rfl (ju _) trivial (by omega) ?_ ?_
 ·intro rec i _ hi _ jh;have h:=jh () trivial;rw[ou hi,MP]at h;have hm:=(hg.ks _ (jF hi)).1;have hb:=Lu hm;have hlen:(sA ((c.ik.take i).filter (uV c))).length≤i:=by
   have h1:=(Pw ((c.ik.take i).filter (uV c))).length_le;have h2:=E3 (uV c) (c.ik.take i);rw[kX]at h2;omega
  simp only[tw.l2,tw.k3];rw[iZ (jl hi),iX hi,ij,ah5 c _ (by have:=hg.le;omega) (by have:=hg.lc;omega) hg.rc (by omega) (by omega),ij,ja (by omega)]
  by_cases hs:uV c c.ik[i]=true
  ·have pB:=E3 (vJ c.ik[i]) (sA ((c.ik.take i).filter (uV c)));rw[List.filter_cons_of_pos hs,List.filter_nil,ad9]at h;rw[if_pos hs,aay _ _ (by omega),ij,ki (by simp;omega),ij];exact h
  ·rw[List.filter_cons_of_neg hs,List.filter_nil,rY]at h;rw[if_neg hs];exact h
 ·intro rec _ _;simp only[tw.l2,tw.k1];rw[iR (jk (jr _)),ow]
def Ez(s:ie):ie:=ie.mk s.seq s.iw (zC s.locs)
def GH(x:Chunk):Chunk:=Chunk.mk x.id x.jD x.data (zC x.locs)
def GI(x:iu):iu:=iu.mk x.seq x.of (zC x.locs)
def Ae(c:ig):ig:=⟨c.seq,(sA (c.ik.filter (uV c))).map Ez,c.chunks.map GH,c.im.map GI,c.iv⟩
theorem aaL{n:Nat}(c:ig)(hg:Good n c)(hn:n≤500000)(hv:c.iv.length≤1000):HL c=some (if pK (Ae c)=true then(Ae c,0)else(ig.mk 0 [] [] [] [],1)):=by
 have h1:=(Pw (c.ik.filter (uV c))).length_le;have h2:=E3 (uV c) c.ik;have h3:=hg.ls;have h4:=hg.lc;have h5:=hg.le;exact aaM c _ zC (ahR c hg hn) (by omega) (by omega) (by omega) (by omega) (λx hx=>Qa _ (by
  have:=(hg.ks x (wL.1 ((Pw _).subset hx)).1).2.2;omega)) (λx hx=>Qa _ (by have:=(hg.kc x hx).2.2.2;omega)) λx hx=>Qa _ (by have:=hg.ke x hx;omega)
section
variable{n:Nat}{c:ig}(hg:Good n c)(hn:n≤1000)(hv:c.iv.length≤1000)
include hg hn hv
end
theorem aeR(fs:List Found):∀c,(CQ fs c).iv=c.iv:=by
 induction fs with
 |nil=>intro c;rfl
 | cons f fs ih =>
  intro c;rw[show CQ (f::fs) c=CQ fs (ud c f)from rfl,ih];unfold ud
  split
  ·split<;>rfl
  ·split
   ·split<;>rfl
   ·split
    ·split<;>rfl
    ·rfl
end Go.Wk.Lf
end
section
namespace Go.Wk.Lf
open Go.V Go.Sort Go.Proofs
theorem Qf{α κ:Type}[Inhabited α]{key:α→κ}{locs:α→List Loc}{l:List α}{k:Nat}{b:Bool}{f:α→α}{x:α}{loc:Loc}{q:κ}
  (hk:b=true → ∃h:k<l.length,key l[k]=q) (hf:∀a,key (f a)=key a∧locs (f a)=locs a++[loc]) (hx:key x=q∧locs x=[loc]) :
  (∃a∈vG l k b f x,key a=q∧loc∈locs a)∧(∀a∈l,∃a'∈vG l k b f x,key a'=key a ∧ ∀y∈locs a,y∈locs a') ∧ ∀a∈vG l k b f x,a∈l∨(∃z∈l,a=f z∧key z=q)∨a=x:=by
 unfold vG;cases b with
 | true =>
  obtain⟨h,e⟩:=hk rfl;rw[if_pos rfl,jo h];have sV:f l[k]∈l.set k (f l[k]):=rA.2 ⟨k,by simpa using h,JK _⟩;refine⟨⟨f l[k],sV,by rw[(hf _).1,e],by rw[(hf _).2];simp⟩,λa ha=>?_,λa ha=>?_⟩
  ·obtain⟨i,hi,rfl⟩:=my ha
   by_cases H7:i=k
   ·subst H7;exact⟨f l[i],sV,(hf _).1,λy hy=>by rw[(hf _).2];exact wK _ hy⟩
   ·exact⟨l[i],rA.2 ⟨i,by simpa using hi,RV (λq=>H7 q.symm) _⟩,rfl,λy hy=>hy⟩
  ·rcases G3 ha with h2|h2
   ·exact .inl h2
   ·exact .inr (.inl ⟨l[k],jF h,h2,e⟩)
 | false =>
  rw[if_neg (by decide)];refine⟨⟨x,by simp,hx.1,by rw[hx.2];simp⟩,λa ha=>⟨a,?_,rfl,λy hy=>hy⟩,λa ha=>?_⟩
  ·rw[←u7 k l]at ha;rcases mF.1 ha with h|h
   ·exact wK _ (wK _ h)
   ·exact JL _ h
  ·rcases mF.1 ha with h|h
   ·rcases mF.1 h with h|h
    ·exact .inl (sJ h)
    ·exact .inr (.inr (o8.1 h))
   ·exact .inl (sI h)
def Ap(id:List UInt8)(f:Found):Prop:=f.iM.kind=1∧(1≤f.iM.data.length∧f.iM.data.length≤64)∧lh f.iM.data=id
def qV(m:iF)(q:Int)(f:Found):Prop:=f.iM.kind=2∧rS f.iM.data=(m,0)∧f.iM.seq=q
def sw(o q:Int)(f:Found):Prop:=f.iM.kind=3∧f.iM.data.length=4∧(mG f.iM.data:Int)=o∧f.iM.seq=q
structure Fe(P:Found→Prop)(W:ig):Prop where
 c1:∀x∈W.chunks,x.locs≠[] ∧ ∀y∈x.locs,∃f,P f∧Ap x.id f∧f.loc=y
 c2:∀f,P f → ∀id,Ap id f → ∃x∈W.chunks,x.id=id∧f.loc∈x.locs
 s1:∀x∈W.ik,x.locs≠[]∧(∃f,P f∧qV x.iw x.seq f) ∧ ∀y∈x.locs,∃f m,P f∧qV m x.seq f∧f.loc=y
 s2:∀f,P f → ∀m q,qV m q f → ∃x∈W.ik,x.seq=q∧f.loc∈x.locs
 e1:∀x∈W.im,x.locs≠[]∧(∃f,P f∧sw x.of x.seq f) ∧ ∀y∈x.locs,∃f o,P f∧sw o x.seq f∧f.loc=y
 e2:∀f,P f → ∀o q,sw o q f → ∃x∈W.im,x.seq=q∧f.loc∈x.locs
 q1:∀f,P f→((∃m q,qV m q f) ∨ ∃o q,sw o q f)→f.iM.seq≤1073741824→f.iM.seq+1≤W.seq
 q2:∀B,0≤B→(∀f,P f→f.iM.kind=2∨f.iM.kind=3→f.iM.seq+1≤B)→W.seq≤B
 q0:0≤W.seq
theorem PV(q s:Int):q≤yn q s∧(s≤1073741824→s+1≤yn q s):=by
 unfold yn;constructor
 ·split<;>omega
 ·intro h;rw[if_neg (show¬ 1073741824<s by omega)]
  split<;>omega
theorem aeL{q s B:Int}(h1:q≤B)(h2:s+1≤B):yn q s≤B:=by
 unfold yn
 repeat' split
 all_goals omega
theorem aeM{P:Found→Prop}{c:ig}(h:Fe P c)(f:Found):Fe (λg=>P g∨g=f) (ud c f):=by
 have c1:∀x∈c.chunks,x.locs≠[] ∧ ∀y∈x.locs,∃g,(P g∨g=f)∧Ap x.id g∧g.loc=y:=λx hx=>⟨(h.c1 x hx).1,λy hy=>by
  obtain⟨g,a,b⟩:=(h.c1 x hx).2 y hy;exact⟨g,.inl a,b⟩⟩
 have s1:∀x∈c.ik,x.locs≠[]∧(∃g,(P g∨g=f)∧qV x.iw x.seq g) ∧ ∀y∈x.locs,∃g m,(P g∨g=f)∧qV m x.seq g∧g.loc=y:=λx hx=>⟨(h.s1 x hx).1,by
  obtain⟨g,a,b⟩:=(h.s1 x hx).2.1;exact⟨g,.inl a,b⟩,λy hy=>by
  obtain⟨g,m,a,b⟩:=(h.s1 x hx).2.2 y hy;exact⟨g,m,.inl a,b⟩⟩
 have e1:∀x∈c.im,x.locs≠[]∧(∃g,(P g∨g=f)∧sw x.of x.seq g) ∧ ∀y∈x.locs,∃g o,(P g∨g=f)∧sw o x.seq g∧g.loc=y:=λx hx=>⟨(h.e1 x hx).1,by
  obtain⟨g,a,b⟩:=(h.e1 x hx).2.1;exact⟨g,.inl a,b⟩,λy hy=>by
  obtain⟨g,m,a,b⟩:=(h.e1 x hx).2.2 y hy;exact⟨g,m,.inl a,b⟩⟩
 have c2:(∀id,¬Ap id f) → ∀g,(P g∨g=f) → ∀id,Ap id g → ∃x∈c.chunks,x.id=id∧g.loc∈x.locs:=λhf g hg id hi=>by
  rcases hg with hg|rfl
  ·exact h.c2 g hg id hi
  ·exact absurd hi (hf id)
 have s2:(∀m q,¬qV m q f) → ∀g,(P g∨g=f) → ∀m q,qV m q g → ∃x∈c.ik,x.seq=q∧g.loc∈x.locs:=λhf g hg m q hi=>by
  rcases hg with hg|rfl
  ·exact h.s2 g hg m q hi
  ·exact absurd hi (hf m q)
 have e2:(∀o q,¬sw o q f) → ∀g,(P g∨g=f) → ∀o q,sw o q g → ∃x∈c.im,x.seq=q∧g.loc∈x.locs:=λhf g hg m q hi=>by
  rcases hg with hg|rfl
  ·exact h.e2 g hg m q hi
  ·exact absurd hi (hf m q)
 have q1:(∀m q,¬qV m q f)→(∀o q,¬sw o q f) → ∀g,(P g∨g=f)→((∃m q,qV m q g) ∨ ∃o q,sw o q g)→g.iM.seq≤1073741824→g.iM.seq+1≤c.seq:=λh1 h2 g hg hi hq=>by
  rcases hg with hg|rfl
  ·exact h.q1 g hg hi hq
  ·rcases hi with⟨m,q,hi⟩|⟨m,q,hi⟩
   ·exact absurd hi (h1 m q)
   ·exact absurd hi (h2 m q)
 have En:∀g,(P g∨g=f)→((∃m q,qV m q g) ∨ ∃o q,sw o q g)→g.iM.seq≤1073741824→g.iM.seq+1≤yn c.seq f.iM.seq:=λg hg hi hq=>by
  rcases hg with hg|rfl
  ·exact RK (h.q1 g hg hi hq) (PV _ _).1
  ·exact(PV _ _).2 hq
 have q2:∀B,0≤B→(∀g,(P g∨g=f)→g.iM.kind=2∨g.iM.kind=3→g.iM.seq+1≤B)→c.seq≤B:=λB h0 hb=>h.q2 B h0 λg hg=>hb g (.inl hg);have IT:f.iM.kind=2∨f.iM.kind=3 → ∀B,0≤B→(∀g,(P g∨g=f)→g.iM.kind=2∨g.iM.kind=3→g.iM.seq+1≤B)→yn c.seq f.iM.seq≤B:=λhk B h0 hb=>aeL (q2 B h0 hb) (hb f (.inr rfl) hk);have q0:=h.q0;have VY:0≤yn c.seq f.iM.seq:=RK q0 (PV _ _).1;unfold ud
 by_cases k1:f.iM.kind=1
 ·have ns:∀m q,¬qV m q f:=λm q hs=>by have:=hs.1;omega
  have ne:∀m q,¬sw m q f:=λm q hs=>by have:=hs.1;omega
  rw[if_pos k1]
  by_cases hd:1≤f.iM.data.length∧f.iM.data.length≤64
  ·rw[if_pos hd];obtain⟨p1,p2,p3⟩:=Qf (key:=Chunk.id) (locs:=Chunk.locs) (l:=c.chunks) (k:=tM c.chunks (lh f.iM.data)) (b:=uI c.chunks (lh f.iM.data)) (f:=λx=>Chunk.mk x.id x.jD x.data (x.locs++[f.loc])) (x:=Chunk.mk (lh f.iM.data) false [] [f.loc]) (loc:=f.loc) (q:=lh f.iM.data) (λhb=>by
    unfold uI at hb;simp only[jK,decide_eq_true_eq]at hb;exact⟨hb.1,by rw[←jo hb.1];exact hb.2⟩) (λa=>⟨rfl,rfl⟩) ⟨rfl,rfl⟩
   rw[←LN]at p1 p2 p3;refine⟨λx hx=>?_,λg hg id hi=>?_,s1,s2 ns,e1,e2 ne,q1 ns ne,q2,q0⟩
   ·rcases p3 x hx with hx|⟨z,hz,rfl,e⟩|rfl
    ·exact c1 x hx
    ·refine⟨by simp,λy hy=>?_⟩;rcases mF.1 hy with hy|hy
     ·exact(c1 z hz).2 y hy
     ·exact⟨f,.inr rfl,⟨k1,hd,e.symm⟩,(o8.1 hy).symm⟩
    ·exact⟨by simp,λy hy=>⟨f,.inr rfl,⟨k1,hd,rfl⟩,(o8.1 hy).symm⟩⟩
   ·rcases hg with hg|rfl
    ·obtain⟨x,hx,e,hl⟩:=h.c2 g hg id hi;obtain⟨x',tm,e',Ak⟩:=p2 x hx;exact⟨x',tm,e'.trans e,Ak _ hl⟩
    ·obtain⟨a,ha,e,hl⟩:=p1;exact⟨a,ha,e.trans hi.2.2,hl⟩
  ·rw[if_neg hd];exact⟨c1,c2 λid hi=>hd hi.2.1,s1,s2 ns,e1,e2 ne,q1 ns ne,q2,q0⟩
 ·have nc:∀id,¬Ap id f:=λid hs=>k1 hs.1;rw[if_neg k1]
  by_cases k2:f.iM.kind=2
  ·have ne:∀m q,¬sw m q f:=λm q hs=>by have:=hs.1;omega
   rw[if_pos k2]
   by_cases h0:(rS f.iM.data).2=0
   ·rw[if_pos h0];have hf:qV (rS f.iM.data).1 f.iM.seq f:=⟨k2,by rw[←h0],rfl⟩
    obtain⟨p1,p2,p3⟩:=Qf (key:=ie.seq) (locs:=ie.locs) (l:=c.ik) (k:=z6 c.ik f.iM.seq) (b:=Bs c.ik f.iM.seq) (f:=Ho f.loc) (x:=ie.mk f.iM.seq (rS f.iM.data).1 [f.loc]) (loc:=f.loc) (q:=f.iM.seq) (λhb=>by
     unfold Bs at hb;simp only[jK,decide_eq_true_eq]at hb;exact⟨hb.1,by rw[←jo hb.1];exact hb.2⟩) (λa=>⟨rfl,rfl⟩) ⟨rfl,rfl⟩
    refine⟨c1,c2 nc,λx hx=>?_,λg hg m q hi=>?_,e1,e2 ne,En,IT (.inl k2),VY⟩
    ·rcases p3 x hx with hx|⟨z,hz,rfl,e⟩|rfl
     ·exact s1 x hx
     ·refine⟨by simp[Ho],(s1 z hz).2.1,λy hy=>?_⟩;rcases mF.1 hy with hy|hy
      ·exact(s1 z hz).2.2 y hy
      ·exact⟨f,_,.inr rfl,⟨hf.1,hf.2.1,e.symm⟩,(o8.1 hy).symm⟩
     ·exact⟨by simp,⟨f,.inr rfl,hf⟩,λy hy=>⟨f,_,.inr rfl,hf,(o8.1 hy).symm⟩⟩
    ·rcases hg with hg|rfl
     ·obtain⟨x,hx,e,hl⟩:=h.s2 g hg m q hi;obtain⟨x',tm,e',Ak⟩:=p2 x hx;exact⟨x',tm,e'.trans e,Ak _ hl⟩
     ·obtain⟨a,ha,e,hl⟩:=p1;exact⟨a,ha,e.trans hi.2.2,hl⟩
   ·rw[if_neg h0];have ns:∀m q,¬qV m q f:=λm q hs=>h0 (by rw[hs.2.1]);exact⟨c1,c2 nc,s1,s2 ns,e1,e2 ne,q1 ns ne,q2,q0⟩
  ·have ns:∀m q,¬qV m q f:=λm q hs=>k2 hs.1;rw[if_neg k2]
   by_cases k3:f.iM.kind=3
   ·rw[if_pos k3]
    by_cases h0:f.iM.data.length=4
    ·rw[if_pos h0];have hf:sw (mG f.iM.data:Int) f.iM.seq f:=⟨k3,h0,rfl,rfl⟩
     obtain⟨p1,p2,p3⟩:=Qf (key:=iu.seq) (locs:=iu.locs) (l:=c.im) (k:=zZ c.im f.iM.seq) (b:=Br c.im f.iM.seq) (f:=Hn f.loc) (x:=iu.mk f.iM.seq (mG f.iM.data:Int) [f.loc]) (loc:=f.loc) (q:=f.iM.seq) (λhb=>by
      unfold Br at hb;simp only[jK,decide_eq_true_eq]at hb;exact⟨hb.1,by rw[←jo hb.1];exact hb.2⟩) (λa=>⟨rfl,rfl⟩) ⟨rfl,rfl⟩
     refine⟨c1,c2 nc,s1,s2 ns,λx hx=>?_,λg hg m q hi=>?_,En,IT (.inr k3),VY⟩
     ·rcases p3 x hx with hx|⟨z,hz,rfl,e⟩|rfl
      ·exact e1 x hx
      ·refine⟨by simp[Hn],(e1 z hz).2.1,λy hy=>?_⟩;rcases mF.1 hy with hy|hy
       ·exact(e1 z hz).2.2 y hy
       ·exact⟨f,_,.inr rfl,⟨hf.1,hf.2.1,hf.2.2.1,e.symm⟩,(o8.1 hy).symm⟩
      ·exact⟨by simp,⟨f,.inr rfl,hf⟩,λy hy=>⟨f,_,.inr rfl,hf,(o8.1 hy).symm⟩⟩
     ·rcases hg with hg|rfl
      ·obtain⟨x,hx,e,hl⟩:=h.e2 g hg m q hi;obtain⟨x',tm,e',Ak⟩:=p2 x hx;exact⟨x',tm,e'.trans e,Ak _ hl⟩
      ·obtain⟨a,ha,e,hl⟩:=p1;exact⟨a,ha,e.trans hi.2.2.2,hl⟩
    ·rw[if_neg h0];have ne:∀m q,¬sw m q f:=λm q hs=>h0 hs.2.1;exact⟨c1,c2 nc,s1,s2 ns,e1,e2 ne,q1 ns ne,q2,q0⟩
   ·rw[if_neg k3];have ne:∀m q,¬sw m q f:=λm q hs=>k3 hs.1;exact⟨c1,c2 nc,s1,s2 ns,e1,e2 ne,q1 ns ne,q2,q0⟩
theorem aeQ(fs:List Found):∀(P:Found→Prop)c,Fe P c→Fe (λg=>P g∨g∈fs) (CQ fs c):=by
 induction fs with
 |nil =>
  intro P c h;have e:(λg=>P g∨g∈([]:List Found))=P:=funext λg=>by simp
  rw[e];exact h
 |cons f fs ih =>
  intro P c h;have:=ih _ _ (aeM h f);have e:(λg=>P g∨g∈f::fs)=λg=>(P g∨g=f)∨g∈fs:=funext λg=>by rw[lM,←or_assoc]
  rw[e];exact this
theorem aaV(vs:List iz)(fs:List Found)(hv:vs.length≤1000)(hl:fs.length≤500000)(hf:∀f∈fs,fit f) :
  ∃W,lF vs fs=some (if pK (Ae W)=true then(Ae W,0)else(ig.mk 0 [] [] [] [],1))∧Fe (λf=>f∈fs) W∧Good fs.length W∧W.iv=vs:=by
 have hg:=aeP fs 0 (rF vs) (S1 vs);rw[jn]at hg;have Gc:(CQ fs (rF vs)).iv=vs:=aeR fs _;have hh:=aeQ fs (λ_=>False) (rF vs) ⟨λx hx=>(by cases hx),λf hf=>hf.elim,λx hx=>(by cases hx),λf hf=>hf.elim,λx hx=>(by cases hx),λf hf=>hf.elim,λf hf=>hf.elim,λB h0 _=>h0,GY _⟩;have e:(λg=>False∨g∈fs)=λg=>g∈fs:=funext λg=>by simp
 rw[e]at hh;refine⟨CQ fs (rF vs),?_,hh,hg,Gc⟩;rw[aaU vs fs _ (by omega) (by omega) (aeO fs 0 _ (S1 vs) (by omega) hf)];exact aaL _ hg hl (by rw[Gc];exact hv)
end Go.Wk.Lf
end
section
namespace Go.Wk.Lf
open Go.V Go.Sort Go.Proofs
theorem LV{α:Type}[Inhabited α]{l:List α}{R:α→α→Prop}(tr:∀a b c,R a b→R b c→R a c):(∀i,i<l.length→0<i→R (l.getD (i-1) default) (l.getD i default))↔l.Pairwise R:=by
 constructor
 ·intro h;refine xA.2 λi j hi hj th=>?_
  induction j with
  |zero=>omega
  |succ j ih =>
   have h1:=h (j+1) hj (by omega);rw[jo hj,jo (show j+1-1<l.length by omega)]at h1
   by_cases hq:i=j
   ·subst hq;exact h1
   ·exact tr _ _ _ (ih (by omega) (by omega)) h1
 ·intro h i hi h0;rw[jo hi,jo (show i-1<l.length by omega)];exact BR h (by omega) hi
theorem A9{α:Type}[Inhabited α]{l:List α}{p:α→Prop}:(∀i,i<l.length→p (l.getD i default)) ↔ ∀x∈l,p x:=by
 constructor
 ·intro h x hx;obtain⟨i,hi,rfl⟩:=my hx;have:=h i hi
  rwa[jo hi]at this
 ·intro h i hi;rw[jo hi];exact h _ (jF hi)
theorem or_imp{p:Prop}{b:Bool}[Decidable p]:(!decide p||b)=true↔(p→b=true):=by
 by_cases h:p<;>simp[h]
structure Fm(c:ig):Prop where
 q:0≤c.seq∧c.seq≤1073741824
 vs:zD c.iv=true
 rc:uy c.chunks
 nc:c.chunks.length≤200
 kc:∀x∈c.chunks,mN c.iv x.locs=true∧Bg x=true
 rs:c.ik.Pairwise λa b=>a.seq<b.seq
 ns:c.ik.length≤8
 nm:c.ik.Pairwise λa b=>a.iw.name≠b.iw.name
 ks:∀s∈c.ik,(0≤s.seq∧s.seq+1≤c.seq)∧mO s.iw∧mN c.iv s.locs=true ∧ ∀id∈lU s.iw,∃x∈c.chunks,x.id=id
 re:c.im.Pairwise λa b=>a.seq<b.seq
 ne:c.im.length≤200
 ke:∀e∈c.im,(0≤e.seq∧e.seq+1≤c.seq)∧(0≤e.of∧e.of+1≤e.seq)∧e.locs≠[]∧mN c.iv e.locs=true ∧ ∀s∈c.ik,s.seq≠e.of
theorem aeF(l:List ie):(∀i,i<l.length→(l.getD i default).iw.name∉(l.take i).map λs=>s.iw.name)↔l.Pairwise λa b=>a.iw.name≠b.iw.name:=by
 rw[xA];constructor
 ·intro h i j hi hj th e;refine h j hj (qJ.2 ⟨l[i],?_,by rw[jo hj];exact e⟩);exact rA.2 ⟨i,by rw[kX];omega,Dt⟩
 ·intro h i hi hm;obtain⟨s,hs,e⟩:=qJ.1 hm;obtain⟨j,hj,rfl⟩:=my hs;rw[kX]at hj;rw[Dt,jo hi]at e;exact h j i (by omega) hi (by omega) e
theorem adm{c:ig}(hr:uy c.chunks)(m:iF):Ao c m=true ↔ ∀id∈lU m,∃x∈c.chunks,x.id=id:=by
 unfold Ao lU;simp only[oI,HT hr];rw[A9 (l:=m.parts) (p:=λp=>∀k,k<p.ids.length → ∃x∈c.chunks,x.id=p.ids.getD k default)];simp only[AX];constructor
 ·rintro h id ⟨p,hp,sU⟩;exact(A9 (l:=p.ids) (p:=λid=>∃x∈c.chunks,x.id=id)).1 (h p hp) id sU
 ·intro h p hp;exact(A9 (l:=p.ids) (p:=λid=>∃x∈c.chunks,x.id=id)).2 λid sU=>h id ⟨p,hp,sU⟩
theorem Kd(c:ig):pK c=true↔Fm c:=by
 have trC:∀a b d:Chunk,jt a.id b.id=true→jt b.id d.id=true→jt a.id d.id=true:=λ_ _ _=>xt;have hC:wZ c=true↔uy c.chunks∧c.chunks.length≤200 ∧ ∀x∈c.chunks,mN c.iv x.locs=true∧Bg x=true:=by
  unfold wZ tN uy;rw[←LV trC,←A9 (l:=c.chunks)];simp only[jK,oI,or_imp,decide_eq_true_eq];exact⟨λ⟨h,n⟩=>⟨λi hi=>(h i hi).1.1,n,λi hi=>⟨(h i hi).1.2,(h i hi).2⟩⟩,λ⟨a,n,b⟩=>⟨λi hi=>⟨⟨a i hi,(b i hi).1⟩,(b i hi).2⟩,n⟩⟩
 have trS:∀a b d:ie,a.seq<b.seq→b.seq<d.seq→a.seq<d.seq:=λ_ _ _=>GZ;have trE:∀a b d:iu,a.seq<b.seq→b.seq<d.seq→a.seq<d.seq:=λ_ _ _=>GZ;have hS:uy c.chunks→(zB c=true↔(c.ik.Pairwise λa b=>a.seq<b.seq)∧c.ik.length≤8∧(c.ik.Pairwise λa b=>a.iw.name≠b.iw.name) ∧ ∀s∈c.ik,(0≤s.seq∧s.seq+1≤c.seq)∧mO s.iw∧mN c.iv s.locs=true ∧ ∀id∈lU s.iw,∃x∈c.chunks,x.id=id):=λhr=>by
  unfold zB yC;rw[←LV trS,←A9 (l:=c.ik),←aeF];simp only[jK,oI,or_imp,decide_eq_true_eq,tZ,tE,decide_eq_false_iff_not,adm hr];exact⟨λ⟨h,n⟩=>⟨λi hi=>(h i hi).1.1.1.1.2,n,λi hi=>(h i hi).1.1.1.2,λi hi=>⟨by have:=(h i hi).1.1.1.1.1;omega,(h i hi).1.1.2,(h i hi).1.2,(h i hi).2⟩⟩,
   λ⟨a,n,b,d⟩=>⟨λi hi=>⟨⟨⟨⟨⟨by have:=(d i hi).1;omega,a i hi⟩,b i hi⟩,(d i hi).2.1⟩,(d i hi).2.2.1⟩,(d i hi).2.2.2⟩,n⟩⟩
 have hE:yW c=true↔(c.im.Pairwise λa b=>a.seq<b.seq)∧c.im.length≤200 ∧ ∀e∈c.im,(0≤e.seq∧e.seq+1≤c.seq)∧(0≤e.of∧e.of+1≤e.seq)∧e.locs≠[]∧mN c.iv e.locs=true ∧ ∀s∈c.ik,s.seq≠e.of:=by
  unfold yW ye;rw[←LV trE,←A9 (l:=c.im)];simp only[jK,oI,or_imp,decide_eq_true_eq,tZ,tE,decide_eq_false_iff_not];have nz:∀l:List Loc,0<l.length↔l≠[]:=λl=>G2;have al:∀q:Int,(∀k,k<c.ik.length → ¬(c.ik.getD k default).seq=q) ↔ ∀s∈c.ik,s.seq≠q:=λq=>A9 (l:=c.ik) (p:=λs=>¬s.seq=q);simp only[nz,al];exact⟨λ⟨h,n⟩=>⟨λi hi=>(h i hi).1.1.1.1.2,n,λi hi=>⟨by have:=(h i hi).1.1.1.1.1;omega,by have:=(h i hi).1.1.1.2;omega,(h i hi).1.1.2,(h i hi).1.2,(h i hi).2⟩⟩,
   λ⟨a,n,d⟩=>⟨λi hi=>⟨⟨⟨⟨⟨by have:=(d i hi).1;omega,a i hi⟩,by have:=(d i hi).2.1;omega⟩,(d i hi).2.2.1⟩,(d i hi).2.2.2.1⟩,(d i hi).2.2.2.2⟩,n⟩⟩
 unfold pK;rw[jK,jK,jK,jK,tZ,hC,hE];constructor
 ·rintro⟨⟨⟨⟨q,v⟩,rc,nc,kc⟩,s⟩,re,ne,ke⟩;obtain⟨rs,ns,nm,ks⟩:=(hS rc).1 s;exact⟨q,v,rc,nc,kc,rs,ns,nm,ks,re,ne,ke⟩
 ·intro r;exact⟨⟨⟨⟨r.q,r.vs⟩,r.rc,r.nc,r.kc⟩,(hS r.rc).2 ⟨r.rs,r.ns,r.nm,r.ks⟩⟩,r.re,r.ne,r.ke⟩
theorem PD{vs:List iz}{l:List Loc}(h:mN vs l=true):l.Pairwise λa b=>oq a b<0:=by
 unfold mN CL at h;simp only[jK,oI,or_imp]at h;refine(LV (l:=l) (R:=λa b=>oq a b<0) (λa b c=>aem)).1 λi hi h0=>?_;have:=(h.2 i hi).2 h0
 revert this
 generalize l.getD i default=a;generalize l.getD (i-1) default=b;unfold A8;rw[IM]
 split
 ·intro h;have:=of_decide_eq_true h;omega
 ·split
  ·intro h;have:=of_decide_eq_true h;omega
  ·intro h;have:=of_decide_eq_true h;omega
theorem Xr{α κ:Type}{key:α→κ}{R:κ→κ→Prop}(BH:∀a,¬R a a)(J4:∀a b,R a b → ¬R b a):∀{a b:List α},(a.Pairwise λx y=>R (key x) (key y))→(b.Pairwise λx y=>R (key x) (key y))→(∀x,x∈a↔x∈b)→a=b
 |[],[],_,_,_=>rfl
 |[],y::b,_,_,h=>by have:=(h y).2 (E5 ..);cases this
 |x::a,[],_,_,h=>by have:=(h x).1 (E5 ..);cases this
 | x::a,y::b,ha,hb,h=>by
  obtain⟨a1,a2⟩:=zP.1 ha;obtain⟨b1,b2⟩:=zP.1 hb;have e:x=y:=by
   rcases lM.1 ((h x).1 (E5 ..))with e|hx
   ·exact e
   ·rcases lM.1 ((h y).2 (E5 ..))with e|hy
    ·exact e.symm
    ·exact absurd (a1 y hy) (J4 _ _ (b1 x hx))
  subst e;rw[Xr BH J4 a2 b2 λz=>?_];constructor
  ·intro hz;rcases lM.1 ((h z).1 (mV _ hz))with e|Ph
   ·subst e;exact absurd (a1 _ hz) (BH _)
   ·exact Ph
  ·intro hz;rcases lM.1 ((h z).2 (mV _ hz))with e|Ph
   ·subst e;exact absurd (b1 _ hz) (BH _)
   ·exact Ph
theorem C6{α κ:Type}{key:α→κ}{R:κ→κ→Prop}(BH:∀a,¬R a a){l:List α}(h:l.Pairwise λx y=>R (key x) (key y)){x y:α}(hx:x∈l)(hy:y∈l)(e:key x=key y):x=y:=by
 obtain⟨i,hi,rfl⟩:=my hx;obtain⟨j,hj,rfl⟩:=my hy;rcases(by omega:i<j∨j<i∨i=j)with q|q|q
 ·have:=BR h q hj;rw[e]at this;exact absurd this (BH _)
 ·have:=BR h q hi;rw[e]at this;exact absurd this (BH _)
 ·subst q;rfl
theorem Qw{α κ:Type}{key:α→κ}{R:κ→κ→Prop}(BH:∀a,¬R a a)(J4:∀a b,R a b → ¬R b a){srt:α→α}(hk:∀w,key (srt w)=key w){W C:List α}(hW:W.Pairwise λx y=>R (key x) (key y))(hC:C.Pairwise λx y=>R (key x) (key y))
  (h1:∀w∈W,srt w∈C) (h2:∀x∈C,∃w∈W,key w=key x):W.map srt=C:=by
 refine Xr BH J4 ?_ hC λx=>?_
 ·rw[E6];exact hW.imp λh=>by rw[hk,hk];exact h
 ·constructor
  ·intro hx;obtain⟨w,hw,rfl⟩:=qJ.1 hx;exact h1 w hw
  ·intro hx;obtain⟨w,hw,e⟩:=h2 x hx;exact qJ.2 ⟨w,hw,C6 BH hC (h1 w hw) hx (by rw[hk,e])⟩
theorem Vu:∀{l:List ie},(l.Pairwise λa b=>a.iw.name≠b.iw.name)→sA l=l
 |[],_=>rfl
 |s::l,h=>by
  obtain⟨h1,h2⟩:=zP.1 h;rw[ad7,if_neg,Vu h2];intro hq;obtain⟨x,hx,e⟩:=RQ.1 hq;exact h1 x hx (by simpa using e:x.iw.name=s.iw.name).symm
structure Ng(c:ig)(D:List ie)(P:Found→Prop):Prop where
 all:∀f,P f→(∃x∈c.chunks,Ap x.id f∧f.loc∈x.locs)∨(∃s,(s∈c.ik∨s∈D)∧qV s.iw s.seq f∧f.loc∈s.locs) ∨ ∃e∈c.im,sw e.of e.seq f∧f.loc∈e.locs
 ch:∀x∈c.chunks,∀y∈x.locs,∃f,P f∧Ap x.id f∧f.loc=y
 sn:∀s∈c.ik,∀y∈s.locs,∃f,P f∧qV s.iw s.seq f∧f.loc=y
 ex:∀e∈c.im,∀y∈e.locs,∃f,P f∧sw e.of e.seq f∧f.loc=y
theorem W5{W:ig}(hr:uy W.chunks)(s:ie):uV W s=true↔(∀e∈W.im,e.of≠s.seq) ∧ ∀id∈lU s.iw,∃x∈W.chunks,x.id=id:=by
 unfold uV;simp only[jK,oI,tE,decide_eq_false_iff_not,HT hr];rw[A9 (l:=W.im) (p:=λe=>¬e.of=s.seq),A9 (l:=oo (lU s.iw)) (p:=λid=>∃x∈W.chunks,x.id=id)];simp only[oo,Gk,PI,ne_eq]
theorem Eg{α:Type}(l:List α):decide (0<l.length)=true↔l≠[]:=by rw[decide_eq_true_eq];exact G2
theorem YS{c W:ig}{D:List ie}{P:Found→Prop}{n:Nat}(r:Fm c)(hd:∀s∈D,∃e∈c.im,e.of=s.seq)(hw:∀s∈c.ik,s.locs≠[] → ∀id∈lU s.iw,∃x∈c.chunks,x.id=id∧x.locs≠[])
  (st:Ng c D P) (h:Fe P W) (g:Good n W) (hv:W.iv=c.iv):Er (Ae W) (P3 c)∧pK (Ae W)=true∧(Ae W).seq≤c.seq:=by
 have Lh:∀a:List UInt8,¬jt a a=true:=λa q=>by rw[AI]at q;cases q
 have Yy:∀a b:List UInt8,jt a b=true → ¬jt b a=true:=λa b q1 q2=>Lh a (xt q1 q2);have Ec:∀a:Int,¬a<a:=λa=>Int.lt_irrefl a;have SR:∀a b:Int,a<b → ¬b<a:=λa b q1 q2=>by omega
 have uC:∀f id,P f→Ap id f → ∃x∈c.chunks,x.id=id∧f.loc∈x.locs:=λf id hp hi=>by
  rcases st.all f hp with⟨x,hx,hf,hl⟩|⟨s,_,hf,_⟩|⟨e,_,hf,_⟩
  ·exact⟨x,hx,hf.2.2.symm.trans hi.2.2,hl⟩
  ·have:=hf.1;have:=hi.1;omega
  ·have:=hf.1;have:=hi.1;omega
 have uS:∀f m q,P f→qV m q f → ∃s,(s∈c.ik∨s∈D)∧s.iw=m∧s.seq=q∧f.loc∈s.locs:=λf m q hp hi=>by
  rcases st.all f hp with⟨x,_,hf,_⟩|⟨s,hs,hf,hl⟩|⟨e,_,hf,_⟩
  ·have:=hf.1;have:=hi.1;omega
  ·exact⟨s,hs,(Prod.mk.inj (hf.2.1.symm.trans hi.2.1)).1,hf.2.2.symm.trans hi.2.2,hl⟩
  ·have:=hf.1;have:=hi.1;omega
 have uE:∀f o q,P f→sw o q f → ∃e∈c.im,e.of=o∧e.seq=q∧f.loc∈e.locs:=λf o q hp hi=>by
  rcases st.all f hp with⟨x,_,hf,_⟩|⟨s,_,hf,_⟩|⟨e,he,hf,hl⟩
  ·have:=hf.1;have:=hi.1;omega
  ·have:=hf.1;have:=hi.1;omega
  ·exact⟨e,he,hf.2.2.1.symm.trans hi.2.2.1,hf.2.2.2.symm.trans hi.2.2.2,hl⟩
 have eC:W.chunks.map GH=(c.chunks.filter ub).map vT:=by
  have hC:((c.chunks.filter ub).map vT).Pairwise λx y=>jt x.id y.id=true:=by
   rw[E6];exact(G0 _ r.rc).imp λq=>q
  refine Qw (key:=Chunk.id) (srt:=GH) Lh Yy (λw=>rfl) g.rc hC (λw pq=>?_) λx hx=>?_
  ·obtain⟨n1,n2⟩:=h.c1 w pq;obtain⟨y,hy⟩:=EX _ n1;obtain⟨f,hp,hi,e⟩:=n2 y hy;obtain⟨x,hx,e1,e2⟩:=uC f _ hp hi;have hl:zC w.locs=x.locs:=QP (QM _) (PD (r.kc x hx).1) λz=>by
    rw[PJ];constructor
    ·intro hz;obtain⟨f2,uO,sT,q⟩:=n2 z hz;obtain⟨x2,wi,q1,q2⟩:=uC f2 _ uO sT;have:x2=x:=C6 (key:=Chunk.id) (R:=λa b=>jt a b=true) Lh r.rc wi hx (q1.trans e1.symm);rw[←q,←this];exact q2
    ·intro hz;obtain⟨f2,uO,sT,q⟩:=st.ch x hx z hz;obtain⟨w2,BD,q1,q2⟩:=h.c2 f2 uO _ sT;have:w2=w:=C6 (key:=Chunk.id) (R:=λa b=>jt a b=true) Lh g.rc BD pq (q1.trans e1);rw[←q,←this];exact q2
   obtain⟨_,k2,k3,_⟩:=g.kc w pq;refine qJ.2 ⟨x,wL.2 ⟨hx,(Eg _).2 λq=>by rw[q]at e2;cases e2⟩,?_⟩;unfold vT GH;rw[hl,e1,k2,k3]
  ·obtain⟨x0,BE,rfl⟩:=qJ.1 hx;obtain⟨BE,D2⟩:=wL.1 BE;obtain⟨y,hy⟩:=EX _ ((Eg _).1 D2);obtain⟨f,hp,hi,_⟩:=st.ch x0 BE y hy;obtain⟨w,pq,e,_⟩:=h.c2 f hp _ hi;exact⟨w,pq,e⟩
 have eE:W.im.map GI=c.im:=by
  refine Qw (key:=iu.seq) (srt:=GI) Ec SR (λw=>rfl) g.re r.re (λw pq=>?_) λx hx=>?_
  ·obtain⟨n1,⟨f,hp,hi⟩,n2⟩:=h.e1 w pq;obtain⟨x,hx,e1,e2,_⟩:=uE f _ _ hp hi;have hl:zC w.locs=x.locs:=QP (QM _) (PD (r.ke x hx).2.2.2.1) λz=>by
    rw[PJ];constructor
    ·intro hz;obtain⟨f2,o,uO,sT,q⟩:=n2 z hz;obtain⟨x2,wi,_,q1,q2⟩:=uE f2 _ _ uO sT;have:x2=x:=C6 (key:=iu.seq) Ec r.re wi hx (q1.trans e2.symm);rw[←q,←this];exact q2
    ·intro hz;obtain⟨f2,uO,sT,q⟩:=st.ex x hx z hz;obtain⟨w2,BD,q1,q2⟩:=h.e2 f2 uO _ _ sT;have:w2=w:=C6 (key:=iu.seq) Ec g.re BD pq (q1.trans e2);rw[←q,←this];exact q2
   have:GI w=x:=by
    unfold GI;rw[hl,←e1,←e2]
   rw[this];exact hx
  ·obtain⟨y,hy⟩:=EX _ (r.ke x hx).2.2.1;obtain⟨f,hp,hi,_⟩:=st.ex x hx y hy;obtain⟨w,pq,e,_⟩:=h.e2 f hp _ _ hi;exact⟨w,pq,e⟩
 have xE:∀e∈c.im,∃w∈W.im,w.of=e.of:=λe he=>by
  rw[←eE]at he;obtain⟨w,pq,rfl⟩:=qJ.1 he;exact⟨w,pq,rfl⟩
 have xW:∀w∈W.im,∃e∈c.im,e.of=w.of:=λw pq=>⟨GI w,by rw[←eE];exact Dv pq,rfl⟩
 have eS:(W.ik.filter (uV W)).map Ez=c.ik.filter rR:=by
  refine Qw (key:=ie.seq) (srt:=Ez) Ec SR (λw=>rfl) (G0 _ g.rs) (G0 _ r.rs) (λw pq=>?_) λx hx=>?_
  ·obtain⟨pq,jm⟩:=wL.1 pq;obtain⟨s1,_⟩:=(W5 g.rc w).1 jm;have nD:∀s,s∈D→s.seq≠w.seq:=λs hs q=>by
    obtain⟨e,he,q2⟩:=hd s hs;obtain⟨v,D9,q3⟩:=xE e he;exact s1 v D9 (q3.trans (q2.trans q))
   obtain⟨n1,⟨f,hp,hi⟩,n2⟩:=h.s1 w pq;obtain⟨x,hx,e1,e2,_⟩:=uS f _ _ hp hi;have hx:x∈c.ik:=hx.resolve_right λq=>nD x q e2;have hm:∀z,z∈w.locs↔z∈x.locs:=λz=>by
    constructor
    ·intro hz;obtain⟨f2,o,uO,sT,q⟩:=n2 z hz;obtain⟨x2,wi,_,q1,q2⟩:=uS f2 _ _ uO sT;have wi:=wi.resolve_right λq=>nD x2 q q1;have:x2=x:=C6 (key:=ie.seq) Ec r.rs wi hx (q1.trans e2.symm);rw[←q,←this];exact q2
    ·intro hz;obtain⟨f2,uO,sT,q⟩:=st.sn x hx z hz;obtain⟨w2,BD,q1,q2⟩:=h.s2 f2 uO _ _ sT;have:w2=w:=C6 (key:=ie.seq) Ec g.rs BD pq (q1.trans e2);rw[←q,←this];exact q2
   have hl:zC w.locs=x.locs:=QP (QM _) (PD (r.ks x hx).2.2.1) λz=>by rw[PJ];exact hm z
   have:Ez w=x:=by
    unfold Ez;rw[hl,←e1,←e2]
   rw[this];obtain⟨y,hy⟩:=EX _ n1;exact wL.2 ⟨hx,(Eg _).2 λq=>by have:=(hm y).1 hy;rw[q]at this;cases this⟩
  ·obtain⟨hx,D2⟩:=wL.1 hx;have jw:=(Eg _).1 D2;obtain⟨y,hy⟩:=EX _ jw;obtain⟨f,hp,hi,_⟩:=st.sn x hx y hy;obtain⟨w,pq,e,_⟩:=h.s2 f hp _ _ hi;obtain⟨_,⟨f2,uO,sT⟩,_⟩:=h.s1 w pq;obtain⟨x2,wi,e1,e2,_⟩:=uS f2 _ _ uO sT;have wi:x2∈c.ik:=wi.resolve_right λq=>by
    obtain⟨v,D9,q2⟩:=hd x2 q;exact(r.ke v D9).2.2.2.2 x hx (by rw[q2,e2,e])
   have:x2=x:=C6 (key:=ie.seq) Ec r.rs wi hx (e2.trans e);subst this;refine⟨w,wL.2 ⟨pq,(W5 g.rc w).2 ⟨λv D9 q=>?_,λid sU=>?_⟩⟩,e⟩
   ·obtain⟨u,hu,q2⟩:=xW v D9;exact(r.ke u hu).2.2.2.2 x2 hx (by rw[q2,q,e])
   ·rw[←e1]at sU;obtain⟨k,hk,q1,q2⟩:=hw x2 hx jw id sU;have:vT k∈W.chunks.map GH:=by rw[eC];exact Dv (wL.2 ⟨hk,(Eg _).2 q2⟩)
    obtain⟨v,D9,q3⟩:=qJ.1 this;exact⟨v,D9,by rw[←q1];exact(congrArg Chunk.id q3:(GH v).id=(vT k).id)⟩
 have qA:(c.ik.filter rR).Pairwise λa b=>a.iw.name≠b.iw.name:=G0 _ r.nm;have eL:(sA (W.ik.filter (uV W))).map Ez=c.ik.filter rR:=by
  rw[←ad8 Ez (λ_=>rfl),eS,Vu qA]
 have hE:Ae W=ig.mk W.seq (c.ik.filter rR) ((c.chunks.filter ub).map vT) c.im c.iv:=by
  unfold Ae;rw[eL,eC,eE,hv]
 have hq:W.seq≤c.seq:=h.q2 _ r.q.1 λf hp hk=>by
  rcases st.all f hp with⟨x,hx,hf,hl⟩|⟨s,hs,hf,_⟩|⟨e,he,hf,_⟩
  ·have:=hf.1;omega
  ·rw[hf.2.2];rcases hs with hs|hs
   ·exact(r.ks s hs).1.2
   ·obtain⟨e,he,q⟩:=hd s hs;have:=(r.ke e he).1;have:=(r.ke e he).2.1;omega
  ·rw[hf.2.2.2];exact(r.ke e he).1.2
 have hqc:=r.q.2;rw[hE];refine⟨⟨rfl,rfl,rfl,rfl⟩,(Kd _).2 ⟨⟨h.q0,RK hq hqc⟩,r.vs,?_,?_,λx hx=>?_,G0 _ r.rs,nY (E3 ..) r.ns,qA,λs hs=>?_,r.re,r.ne,λe he=>?_⟩,hq⟩
 ·show List.Pairwise _ _;rw[E6];exact(G0 _ r.rc).imp λq=>q
 ·show((c.chunks.filter ub).map vT).length≤200;rw[sH];exact nY (E3 ..) r.nc
 ·obtain⟨k,hk,rfl⟩:=qJ.1 hx;obtain⟨hk,D2⟩:=wL.1 hk;refine⟨(r.kc k hk).1,?_⟩;unfold Bg;rw[if_neg (show¬(vT k).jD=true from λq=>by cases q)];exact Bool.and_eq_true_iff.2 ⟨rfl,D2⟩
 ·obtain⟨hs,D2⟩:=wL.1 hs;obtain⟨k1,k2,k3,_⟩:=r.ks s hs;have jw:=(Eg _).1 D2;obtain⟨y,hy⟩:=EX _ jw;obtain⟨f,hp,hi,_⟩:=st.sn s hs y hy;have:=h.q1 f hp (.inl ⟨_,_,hi⟩) (by rw[hi.2.2];omega);rw[hi.2.2]at this;refine⟨⟨k1.1,this⟩,k2,k3,λid sU=>?_⟩;obtain⟨k,hk,q1,q2⟩:=hw s hs jw id sU;exact⟨vT k,Dv (wL.2 ⟨hk,(Eg _).2 q2⟩),q1⟩
 ·obtain⟨k1,k2,k3,k4,k5⟩:=r.ke e he;obtain⟨y,hy⟩:=EX _ k3;obtain⟨f,hp,hi,_⟩:=st.ex e he y hy;have:=h.q1 f hp (.inr ⟨_,_,hi⟩) (by rw[hi.2.2.2];omega);rw[hi.2.2.2]at this;exact⟨⟨k1.1,this⟩,k2,k3,k4,λs hs=>k5 s (wL.1 hs).1⟩
end Go.Wk.Lf
end
section
namespace Go.Wk.Lf
open Go.V Go.Sort Go.Proofs
theorem PQ(x n:Int)(h0:0<n)(h1:n≤1000000):∃k:Nat,wr ((wu x).tmod n)=(k:Int)∧(wu x).tmod n=(k:Int)∧(k:Int)<n:=by
 have hw:0≤wu x:=by show 0≤Dg.wrap x;rw[Mm];omega
 have a:=Int.tmod_nonneg n hw;have b:=Int.tmod_lt_of_pos (wu x) h0;refine⟨((wu x).tmod n).toNat,?_,by omega,by omega⟩;rw[ll (by omega) (by omega)];omega
theorem aer{m:iF}(h:mO m)(hk:xr m):Dy m:=by
 obtain⟨h1,_,h2⟩:=Lu h;refine⟨hk,by have:=(BP h.1).2;omega,λp hp=>?_,by omega,λp hp=>by have:=h2 p hp;omega⟩;have:=j9.1 h.2.2.1 p hp;unfold tu at this;simp only[jK]at this;have:=(BP this.1.1.1.1).2;omega
theorem YW:Dy ⟨[],[]⟩:=⟨λp hp=>(by cases hp),by simp,λp hp=>(by cases hp),by simp,λp hp=>(by cases hp)⟩
theorem YX(k:Int)(q v:Int)(l:List Item)(h:l.length≤64):vP (Change.mk k (ie.mk 0 (iF.mk [] []) []) [] q v l):=⟨YW,by simp,by simp,λy hy=>(by cases hy),h⟩
theorem Zl{m:Nat}{c:ig}(k:Cap m c)(h:pK c=true):Cap 1000 c:=by
 unfold pK zD wZ zB yW at h;simp only[jK,decide_eq_true_eq,oI,tZ]at h;obtain⟨⟨⟨⟨_,_,_,hv⟩,hc,lT⟩,hs,U0⟩,he,hel⟩:=h;have D1:∀l:List Loc,mN c.iv l=true→l.length≤200:=λl hl=>by
  unfold mN at hl;simp only[jK,decide_eq_true_eq]at hl;exact hl.1
 refine⟨by omega,by omega,by omega,by omega,by omega,λx hx=>?_,λs yh=>?_,λx hx=>?_⟩
 ·obtain⟨i,hi,rfl⟩:=rA.1 hx;have:=hc i hi;unfold tN at this;simp only[jK,jo hi]at this;have:=D1 _ this.1.2;exact⟨by omega,(k.chunk _ hx).2⟩
 ·obtain⟨i,hi,rfl⟩:=rA.1 yh;have:=hs i hi;unfold yC at this;simp only[jK,jo hi]at this;have:=D1 _ this.1.2;exact⟨by omega,(k.snap _ yh).2⟩
 ·obtain⟨i,hi,rfl⟩:=rA.1 hx;have:=he i hi;unfold ye at this;simp only[jK,jo hi]at this;have:=D1 _ this.1.2;omega
theorem af1(p:List Int)(h8:p.length≤8):yb p=some (rF (tA p)):=by
 unfold yb;refine nV (σ:=List iz) (λi m=>((i:Int),m)) p.length (λi m=>m=tA (p.take i)) _ (i0:=0) (s0:=[]) rfl (ju _) rfl (by omega) ?_ ?_
 ·intro rec i m hi hI jh;simp only[yb.l2];have uM:m.length≤8:=by rw[hI];simp[tA];omega
  rw[iZ (jl hi),iX hi,ij,ki (by simp;omega),ij,ja (by omega)];refine jh _ ?_;rw[hI,ou hi,tA,tA,vM];rfl
 ·intro rec m hI;simp only[yb.l2,yb.k1];rw[iR (jk (jr _)),hI,ow];rfl
theorem aeH(p:List Int)(h8:p.length≤8):Cap 1000 (rF (tA p)):=⟨by omega,by simp[rF],by simp[rF],by simp[rF],by simp[rF,tA];omega,λx hx=>(by cases hx),λx hx=>(by cases hx),λx hx=>(by cases hx)⟩
def M8(a:mJ):Prop:=a.pick.length≤300∧a.tree.length≤10 ∧ ∀f∈a.tree,f.path.length≤50
theorem abO(l:List mJ):Told (sm l) λr=>r=false → ∀i(h:i<l.length),i<30→M8 l[i]:=by
 unfold sm;refine Told.kL (λ_=>Told.mk λh=>by cases h) λhl=>?_;have hl:l.length≤120:=by have:=of_decide_eq_false hl;omega
 refine Told.loop (S:=Int) (σ:=Unit) (λi _=>(i:Int)) (min l.length 30) (λi _=>∀j(h:j<l.length),j<i→M8 l[j]) (i0:=0) (s0:=()) rfl (ju _) (λj h q=>by omega) (by omega) ?_ ?_
 ·intro rec i _ hi hI jh;have yf:i<l.length:=by omega
  simp only[sm.l2];rw[iZ (by simp;omega),iX yf,ij,ng,ij];refine Told.kL (λ_=>Told.mk λh=>by cases h) λhp=>?_;have hp:l[i].pick.length≤300∧l[i].tree.length≤10:=by
   rw[GR,decide_eq_false_iff_not,decide_eq_false_iff_not]at hp;have h1:l[i].pick.length≤300:=by omega
   have h2:=hp.2;rw[decide_eq_false (by omega)]at h2;simp only[pF,if_true]at h2;exact⟨h1,by omega⟩
  refine Told.loop (S:=Int) (σ:=Unit) (λq _=>(q:Int)) l[i].tree.length (λq _=>∀j(h:j<l[i].tree.length),j<q→l[i].tree[j].path.length≤50) (i0:=0) (s0:=()) rfl (ju _) (λj h q=>by omega) (by omega) ?_ ?_
  ·intro n9 q _ hq hJ nC;simp only[sm.l4];rw[iX yf,ij,iZ (jl hq),ij,iX hq,ij,ng,ij]
   by_cases hd:(300:Int)<(l[i].tree[q].data.length:Int)
   ·rw[decide_eq_true hd];exact Told.mk λh=>by cases h
   ·rw[decide_eq_false hd];simp only[pF,if_true];rw[jX rfl,iX hq,ij,ja (by omega)];refine Told.kL (λ_=>Told.mk λh=>by cases h) λh=>nC () λj hj hjq=>?_
    by_cases e:j=q
    ·subst e;have:=of_decide_eq_false (by simpa using h:decide ((50:Int)<(l[i].tree[j].path.length:Int))=false);omega
    ·exact hJ j hj (by omega)
  ·intro n9 _ hJ;simp only[sm.l4,sm.k3];rw[iX yf,ij,iR (jk (jr _)),ja (by omega)];refine jh () λj hj FV=>?_
   by_cases e:j=i
   ·subst e;exact⟨hp.1,hp.2,λf hf=>by
     obtain⟨q,hq,rfl⟩:=rA.1 hf;exact hJ q hq hq⟩
   ·exact hI j hj (by omega)
 ·intro rec _ hI;simp only[sm.l2,sm.k1];rw[iR (by simp;omega)];exact Told.mk λ_ i hi Ou=>hI i hi (by omega)
theorem aeC(n:Int):∃s,cat ([110]:List UInt8) [jC (wu (97+(wu n).tmod 5))]=some s∧oX s=true:=by
 refine⟨_,if_pos (by simp),?_⟩;obtain⟨k,_,h2,h3⟩:=PQ n 5 (by decide) (by decide);rw[h2];rcases(by omega:k=0∨k=1∨k=2∨k=3∨k=4)with rfl|rfl|rfl|rfl|rfl<;>decide
end Go.Wk.Lf
end
section
namespace Go.Wk.Lf
open Go.V Go.Sort Go.Proofs
structure yK(c:ig)(x:Change):Prop where
 it:x.kind=1→x.items=[]
 ch:∀k∈x.chunks,lh k.data=k.id∧1≤k.data.length∧k.data.length≤64
 tc:x.chunks.length≤1000
 ex:∀y∈x.items,y.kind=3→(∃e∈c.im,e.seq=y.seq∧e.of=y.of)∨(x.items=[y]∧y.seq=c.seq)
theorem aen{c:ig}(k:Cap 1000 c){a:mJ}(ha:M8 a):Told (kF c a) λr=>r.2=true→vP r.1∧yK c r.1:=by
 have hc:=k.chunks;have hs:=k.ik;have he:=k.im;obtain⟨nm,qA,US⟩:=aeC a.n;have none:∀z,Told (some (z,false):Option (Change×Bool)) λr=>r.2=true→vP r.1∧yK c r.1:=λz=>Told.mk λh=>by cases h
 have OF:∀(kd q v:Int)(l:List Item)(b:Bool),l.length≤64→(kd=1→l=[])→(∀y∈l,y.kind=3→(∃e∈c.im,e.seq=y.seq∧e.of=y.of)∨(l=[y]∧y.seq=c.seq))→Told (some (Change.mk kd (ie.mk 0 (iF.mk [] []) []) [] q v l,b)) λr=>r.2=true→vP r.1∧yK c r.1:=λkd q v l b h h1 h2=>Told.mk λ_=>⟨YX kd q v l h,⟨h1,λy hy=>(by cases hy),ju _,h2⟩⟩
 have xg:∀(kd q v:Int)(b:Bool),Told (some (Change.mk kd (ie.mk 0 (iF.mk [] []) []) [] q v [],b)) λr=>r.2=true→vP r.1∧yK c r.1:=λkd q v b=>OF kd q v [] b (by simp) (λ_=>rfl) λy hy=>by cases hy
 have H8:∀v b,Told (kF.k8 c a v b) λr=>r.2=true→vP r.1∧yK c r.1:=by
  intro v b;unfold kF.k8;refine Told.kL (λ_=>?_) λ_=>Told.kL (λ_=>xg _ _ _ _) λ_=>by
   unfold kF.k2;exact xg _ _ _ _
  have hN:wr (wr ((c.chunks.length:Int)+(c.ik.length:Int))+(c.im.length:Int))=((c.chunks.length+c.ik.length+c.im.length:Nat):Int):=by
   rw[ll (x:=(c.chunks.length:Int)+(c.ik.length:Int)) (by omega) (by omega),ll (by omega) (by omega)];omega
  have hN2:wr ((c.chunks.length:Int)+(c.ik.length:Int))=((c.chunks.length+c.ik.length:Nat):Int):=by
   rw[ll (by omega) (by omega)];omega
  have UK:∀l:List Item,l.length≤64∧(∀y∈l,y.kind=3 → ∃e∈c.im,e.seq=y.seq∧e.of=y.of)→Told (kF.k9 v l) λr=>r.2=true→vP r.1∧yK c r.1:=λl h=>OF _ _ _ _ _ h.1 (λq=>by omega) λy hy hk=>.inl (h.2 y hy hk);refine Told.loop (S:=List Item×Int×Int) (σ:=List Item×Int) (λi s=>(s.1,s.2,(i:Int))) (c.chunks.length+c.ik.length+c.im.length) (λi s=>s.1.length≤64 ∧ ∀y∈s.1,y.kind=3 → ∃e∈c.im,e.seq=y.seq∧e.of=y.of) (i0:=0) (s0:=([],13)) rfl (ju _) ⟨by simp,λy hy=>by cases hy⟩ (by omega) ?_ ?_
  ·rintro rec i ⟨l,off⟩ hi hI jh;simp only at hI ⊢;simp only[kF.mc,kF.sy,kF.BK];rw[hN,hN2,ja (by omega)];refine Told.kL (λabB=>?_) λ_=>UK l hI;rw[jK,decide_eq_true_eq,decide_eq_true_eq]at abB;refine Told.bd (p:=λ_=>True) (Told.only (λh=>?_) λ_=>trivial) λz _=>?_
   ·obtain⟨z,hz,_⟩:=Told.ix (l:=a.pick) (i:=(i:Int)) (by omega) (by simpa using h);exact⟨z,hz,trivial⟩
   ·have mE:∀(kd:Int)(id:List UInt8)(q o:Int),(kd=3 → ∃e∈c.im,e.seq=q∧e.of=o)→Told (bd (app (α:=Item) l [Item.mk kd id q o off 20]) λadZ=>rec (adZ,wr (off+20),((i+1:Nat):Int))) λr=>r.2=true→vP r.1∧yK c r.1:=by
     intro kd id q o h3;rw[ki (by simp;omega),ij];refine jh (_,_) ⟨by simp;omega,λy hy hk=>?_⟩;rcases mF.1 hy with h|h
     ·exact hI.2 y h hk
     ·have e:=o8.1 h;subst e;exact h3 hk
    refine Told.kL (λ_=>jh (l,off) hI) λ_=>Told.kL (λh1=>?_) λh1=>Told.kL (λh2=>?_) λh2=>?_
    ·have h1:=of_decide_eq_true h1;exact(Told.ix (l:=c.chunks) (by omega) h1).bd λy _=>mE _ _ _ _ λq=>by omega
    ·have h1:=of_decide_eq_false h1;have h2:=of_decide_eq_true h2;have e:wr ((i:Int)-(c.chunks.length:Int))=(i:Int)-(c.chunks.length:Int):=ll (by omega) (by omega);rw[e];exact(Told.ix (l:=c.ik) (by omega) (by omega)).bd λy _=>mE _ _ _ _ λq=>by omega
    ·have h1:=of_decide_eq_false h1;have h2:=of_decide_eq_false h2;have e:wr (wr ((i:Int)-(c.chunks.length:Int))-(c.ik.length:Int))=(i:Int)-(c.chunks.length:Int)-(c.ik.length:Int):=by
      rw[ll (x:=(i:Int)-(c.chunks.length:Int)) (by omega) (by omega),ll (by omega) (by omega)]
     rw[e];exact(Told.ix (l:=c.im) (by omega) (by omega)).bd λy hy=>mE _ _ _ _ λ_=>⟨y,hy,rfl,rfl⟩
  ·rintro rec ⟨l,off⟩ hI;simp only at hI ⊢;simp only[kF.mc];rw[hN,iR (by simp)];exact UK l hI
 have K1:∀v b,Told (kF.k7 c a v b) λr=>r.2=true→vP r.1∧yK c r.1:=by
  intro v b;unfold kF.k7;refine Told.kL (λ_=>Told.kL (λ_=>none _) λh0=>?_) λ_=>Told.kL (λ_=>H8 _ _) λ_=>H8 _ _;have h0:0<c.ik.length:=by have:=of_decide_eq_false h0;omega
  rw[zF (show(0:Int)≤(c.ik.length:Int) by omega) (by omega)];obtain⟨q,h1,h2,h3⟩:=PQ a.n (c.ik.length:Int) (by omega) (by omega);have hr:rem (wu a.n) (c.ik.length:Int)=some ((wu a.n).tmod (c.ik.length:Int)):=if_neg (by omega);rw[hr,ij,h1,iX (show q<c.ik.length by omega),ij];exact Told.kL (λ_=>xg _ _ _ _) λ_=>OF _ _ _ _ _ (by simp) (λq=>by omega) λy hy _=>by
   have e:=o8.1 hy;subst e;exact .inr ⟨rfl,rfl⟩
 have KZ:∀v b,Told (kF.k3 c a nm v b) λr=>r.2=true→vP r.1∧yK c r.1:=by
  intro v b;unfold kF.k3;refine Told.kL (λ_=>?_) λ_=>Told.kL (λ_=>K1 _ _) λ_=>K1 _ _;obtain⟨r,hr,ac4⟩:=afT a.tree (by have:=ha.2.1;omega) λf hf=>by have:=ha.2.2 f hf;omega
  rw[hr,ij];refine Told.kL (λ_=>none _) λh0=>?_;have h0:r.2=0:=by simpa using h0
  obtain⟨p1,p2,p3,p4⟩:=ac4 h0;obtain⟨t1,t2,t3,t4⟩:=aij p1 p2 p3 p4;rw[afB nm r.1 US t1 t2 (λf hf=>by have:=(BP (t3 f hf)).2;omega) t4,ij];have lT:=aaa t1 t2;refine Told.loop (S:=Int×List Chunk) (σ:=List Chunk) (λi s=>((i:Int),s)) (FB r.1).length (λi s=>s.length≤i ∧ ∀y∈s,ux 1000 y∧lh y.data=y.id∧1≤y.data.length∧y.data.length≤64) (i0:=0) (s0:=[]) rfl (ju _) ⟨jg _,λy hy=>(by cases hy)⟩ (by omega) ?_ ?_
  ·intro rec i s hi hI jh;simp only[kF.l5,kF.k6];have hd:=aab (jF hi);have HQ:=hI.1;rw[iZ (jl hi),iX hi,ij,SY _ (by omega),ij,ja (by omega)];refine(Z8 k _).bd λq _=>Told.kL (λ_=>?_) λ_=>jh _ ⟨by omega,hI.2⟩;rw[ij,ki (by simp;omega),ij];refine jh _ ⟨by simp;omega,λy hy=>?_⟩;rcases mF.1 hy with h|h
   ·exact hI.2 y h
   ·rw[o8.1 h];exact⟨⟨by simp,nY hd.2 (by decide),Mf _⟩,rfl,hd.1,hd.2⟩
  ·intro rec s hI;simp only[kF.l5,kF.k4];have HQ:=hI.1;rw[iR (jk (jr _))];exact Told.mk λ_=>⟨⟨aer (aep US t1 t2 t3 p2) (aeo _ _),by simp,by show s.length≤_;omega,λy hy=>(hI.2 y hy).1,by simp⟩,⟨λ_=>rfl,λy hy=>(hI.2 y hy).2,by show s.length≤_;omega,λy hy=>by cases hy⟩⟩
 have vw:∀v,Told (kF.k1 c a nm v) λr=>r.2=true→vP r.1∧yK c r.1:=λv=>by
  unfold kF.k1;exact Told.kL (λ_=>KZ _ _) λ_=>KZ _ _
 unfold kF;rw[qA,ij];refine Told.kL (λh=>?_) λ_=>vw _;have h:=of_decide_eq_true h;have hv:=k.iv;have hr:rem (wu a.iQ) (wu (c.iv.length:Int))=some ((wu a.iQ).tmod (wu (c.iv.length:Int))):=by
  rw[zF (x:=(c.iv.length:Int)) (by omega) (by omega)];exact if_neg (by omega)
 rw[hr,ij];exact vw _
def Mp(c:ig)(x:Change)(i:Nat)(id:List UInt8):Prop:=(∃k∈c.chunks,k.id=id∧k.locs≠[]) ∨ ∃y∈x.items,y.kind=1∧y.id=id
def Jo(c:ig)(x:Change)(i:Nat):Prop:=∀h:i<x.items.length,x.items[i].kind=2 → ∀s∈c.ik,s.seq=x.items[i].seq → ∀id∈lU s.iw,Mp c x i id
theorem aiS{c:ig}(k:Cap 1000 c)(r:Fm c){x:Change}(hx:x.items.length≤64):Told (lH c x) λb=>b=true → ∀i,Jo c x i:=by
 have hs:=k.ik;unfold lH;refine Told.loop (S:=Int) (σ:=Unit) (λi _=>(i:Int)) x.items.length (λi _=>∀j,j<i→Jo c x j) (i0:=0) (s0:=()) rfl (ju _) (λj hj=>by omega) (by omega) ?_ ?_
 ·intro rec i _ hi hI jh;simp only[lH.l2];have kK:∀b,(x.items[i].kind=2→False)→b=rec ((i+1:Nat):Int)→Told b λb=>b=true → ∀i,Jo c x i:=λb h2 e=>by
   rw[e];refine jh () λj hj=>?_
   by_cases q:j=i
   ·subst q;exact λ_ k2=>(h2 k2).elim
   ·exact hI j (by omega)
  have UC:Told (some false) λb=>b=true → ∀i,Jo c x i:=Told.mk λh=>by cases h
  rw[iZ (jl hi),iX hi,ij];refine Told.kL (λk2=>?_) λk2=>Told.kL (λ_=>?_) λ_=>?_
  ·refine Told.loop (S:=Int) (σ:=Unit) (λq _=>(q:Int)) c.ik.length (λq _=>∀j(h:j<c.ik.length),j<q→c.ik[j].seq=x.items[i].seq → ∀id∈lU c.ik[j].iw,Mp c x i id) (i0:=0) (s0:=()) rfl (ju _) (λj h hj=>by omega) (by omega) ?_ ?_
   ·intro n9 q _ hq hJ nC;simp only[lH.l4];have hm:=(r.ks _ (jF hq)).2.1;have hb:=Lu hm;have Bw:=(k.snap _ (jF hq)).2.ids;rw[iZ (jl hq),iX hq,ij,iX hi,ij];refine Told.kL (λjw=>?_) λheq=>?_
    ·simp only[lH.k5];rw[ja (by omega)];refine nC () λj h hj e=>?_
     by_cases z:j=q
     ·subst z;exact absurd e (of_decide_eq_true jw)
     ·exact hJ j h (by omega) e
    ·rw[ij,Wh _ (by omega) (by omega) Bw,ij];have uL:∀id,id∈oo (lU c.ik[q].iw)↔id∈lU c.ik[q].iw:=λid=>by simp only[oo,Gk,PI]
     have BA:(oo (lU c.ik[q].iw)).length≤1000:=by
      have:=Pk (lU c.ik[q].iw);omega
     generalize hU:oo (lU c.ik[q].iw)=U at uL BA;refine Told.loop (S:=Int) (σ:=Unit) (λp _=>(p:Int)) U.length (λp _=>∀j(h:j<U.length),j<p→Mp c x i U[j]) (i0:=0) (s0:=()) rfl (ju _) (λj h hj=>by omega) (by omega) ?_ ?_
     ·intro IZ p _ hp hK O7;simp only[lH.l6];rw[iZ (jl hp),iX hp,ij];refine(NR k _).bd λw hw=>?_;refine Told.bd (p:=λz:Chunk=>(decide (0≤w)&&decide ((0:Int)<(z.locs.length:Int)))=true → ∃k∈c.chunks,k.id=U[p]∧k.locs≠[]) ?_ λz hz=>?_
      ·refine Told.only (λh=>?_) λh=>λq=>?_
       ·obtain⟨n,hn,rfl,e⟩:=hw (of_decide_eq_true h);exact⟨_,iX hn,λq=>by
         rw[jK,decide_eq_true_eq,decide_eq_true_eq]at q;exact⟨_,jF hn,e,λz=>by rw[z]at q;simp at q⟩⟩
       ·rw[h]at q;cases q
      ·refine Told.loop (S:=Bool×Int) (σ:=Bool) (λi b=>(b,(i:Int))) i (λ_ b=>b=true→Mp c x i U[p]) (i0:=0) rfl (ju _) (λh=>.inl (hz h)) (by omega) ?_ ?_
       ·intro afS m b xe hL acY;simp only[lH.l9];have K5:m<x.items.length:=by omega
        rw[iZ (jl xe),ja (by omega),iX K5,iX hp,ng,ij,ng,ij,ng,ij];refine acY _ λh=>?_;cases b with
        |true=>exact hL rfl
        | false =>
         simp only[pF,oP,nG,if_true]at h;cases hd:decide (x.items[m].kind=1)with
         |false=>rw[hd]at h;simp at h
         |true =>
          rw[hd]at h;simp only[oP,if_true,decide_eq_true_eq]at h;exact .inr ⟨_,jF K5,of_decide_eq_true hd,h⟩
       ·intro afS b hL;simp only[lH.l9,lH.k8,lH.k7];rw[iR (jk (jr _))];refine Told.kL (λ_=>UC) λrN=>?_;rw[ja (by omega)];refine O7 () λj h hj=>?_
        by_cases z2:j=p
        ·subst z2;exact hL (by simpa using rN)
        ·exact hK j h (by omega)
     ·intro IZ _ hK;simp only[lH.l6,lH.k5];rw[iR (jk (jr _)),ja (by omega)];refine nC () λj h hj e id sU=>?_
      by_cases z:j=q
      ·subst z;obtain⟨p,hp,e2⟩:=my ((uL id).2 sU);rw[←e2];exact hK p hp hp
      ·exact hJ j h (by omega) e id sU
   ·intro n9 _ hJ;simp only[lH.l4,lH.k3];rw[iR (jk (jr _)),ja (by omega)];refine jh () λj hj=>?_
    by_cases q:j=i
    ·subst q;intro _ _ s Ip e;obtain⟨n,hn,rfl⟩:=my Ip;exact hJ n hn hn e
    ·exact hI j (by omega)
  ·have k2:=of_decide_eq_false k2;refine Told.loop (S:=Int) (σ:=Unit) (λq _=>(q:Int)) c.ik.length (λ_ _=>True) (i0:=0) (s0:=()) rfl (ju _) trivial (by omega) ?_ ?_
   ·intro n9 q _ hq _ nC;simp only[lH.mc];rw[iZ (jl hq),iX hq,ij,iX hi,ij,ng,ij,ja (by omega)];exact Told.kL (λ_=>UC) λ_=>nC () trivial
   ·intro n9 _ _;simp only[lH.mc,lH.k3];rw[iR (jk (jr _)),ja (by omega)];exact kK _ (λh=>k2 h) rfl
  ·simp only[lH.k3];rw[ja (by omega)];exact kK _ (λh=>(of_decide_eq_false k2) h) rfl
 ·intro rec _ hI;simp only[lH.l2,lH.k1];rw[iR (jk (jr _))];exact Told.mk λ_ i=>by
   by_cases h:i<x.items.length
   ·exact hI i h
   ·exact λq=>absurd q h
end Go.Wk.Lf
end
