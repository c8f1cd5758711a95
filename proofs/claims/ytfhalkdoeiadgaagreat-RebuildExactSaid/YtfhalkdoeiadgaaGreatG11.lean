/- What tree.Name tells, plainly. What manifest.Check tells, plainly; bytes of manifests. Lists: each once of what stands side by side. What manifest.Ids tells, plainly. Numbers read out of bytes; readers, plainly. What manifest.Read tells, plainly. What catalog.Check tells, plainly. Where something stands, or should, in a row that rises: slices.BinarySearchFunc, plainly. catalog.Check, plainly, whole. Catalogs compared, made anew; rows sorted: plainly. Manifests' bytes: of unlike ones unlike, none a beginning of another's. What rebuild.From tells where nothing of use was found; what is Part of a -/
import Derived.Test.YtfhalkdoeiadgaaGreatG10
set_option linter.unusedVariables false
set_option linter.unusedSimpArgs false
set_option linter.unusedSectionVars false
open BitVec renaming ofInt→wy, ofInt_natCast→PC, toNat_ofNat→PD
open Bool renaming and_eq_true→rk, and_false→Fs, and_true→DF, decide_and→Im, eq_iff_iff→J7, false_and→xg, false_eq_true→zZ, false_or→uB, not_eq_true→DG, not_eq_true'→AK, not_false→x5, not_not→Ft, not_true→uP, or_eq_false_iff→Io, or_eq_true→xK, or_self→PE, true_and→uQ, true_or→CP
open Go renaming Field→CQ, MemPlace→Fw, Program→oZ, TypeId→oI, Value→oT, World→pf
open Go.Proofs.Tryz renaming prog→aac, underlying109→acv, underlying163→adG, underlying194→adD, underlying22→adB, underlying24→aam, underlying25→aaE, underlying26→aaF, underlying3→abD, underlying31→aba, underlying4→adE, underlying5→acP, underlying56→adz, underlying59→aaT, underlying78→adA, underlying82→acY, underlying9→acZ
open Int renaming eq_ofNat_of_zero_le→Kc, lt_trans→PT, toNat_natCast→ry, toNat_zero→UF
open List renaming all_eq_true→qB, append_assoc→tF, append_inj→PV, append_nil→vM, cons_append→Kd, drop_drop→Bj, drop_eq_getElem_cons→BV, drop_eq_nil_of_le→Fy, drop_length→FA, drop_set_of_lt→UG, drop_zero→yu, ext_getElem→Ke, filter_append→GY, filter_cons_of_neg→PW, filter_cons_of_pos→PX, filter_eq_self→PY, filter_nil→GZ, flatMap_append→MU, flatMap_cons→Iw, flatten_cons→vh, foldl_append→MV, foldl_cons→Kf, foldl_map→P0, getD_eq_getElem?_getD→ya, getElem?_append_right→s7, getElem?_drop→vi, getElem?_eq_getElem→pF, getElem?_eq_none→zr, getElem?_eq_some_iff→qO, getElem?_map→xh, getElem?_set_ne→yb, getElem?_set_self→vN, getElem_drop→UN, getElem_map→P1, getElem_mem→qW, getElem_of_mem→vX, getElem_range→CS, getElem_take→MW, length→P2, length_append→rH, length_cons→Ew, length_drop→ue, length_filter_le→DJ, length_map→wz, length_nil→MX, length_range→Bk, length_take→rb, map_append→z6, map_cons→xi, map_id→P3, map_nil→Kg, mem_append→vj, mem_cons→sg, mem_cons_of_mem→ti, mem_cons_self→UP, mem_filter→P5, mem_flatMap→G1, mem_iff_getElem→CU, mem_map→z7, mem_of_getElem?→vC, mem_of_mem_drop→yS, mem_of_mem_take→zt, mem_singleton→yT, nil_append→zw, pairwise_append→CV, pairwise_cons→G2, pairwise_iff_getElem→G3, pairwise_singleton→US, range→sN, replicate→ph, set_set→M0, singleton_append→UT, take_append_drop→z8, take_append_of_le_length→M1, take_length→uf, take_of_length_le→Bl, take_set_of_le→UX, take_take→Ix
open List.Pairwise renaming nil→Fx
open List.cons renaming injEq→Iv
open Nat renaming add_zero→xM, le_of_lt→zx, le_refl→px, le_trans→wT, lt_irrefl→pS, lt_of_lt_of_le→xO, lt_or_ge→M3, min_eq_left→Bm, mod_eq_of_lt→FD, mod_lt→Iz, pow_le_pow_right→Qb, shiftLeft_add_eq_or_of_lt→Qc, shiftLeft_eq→Kl, sub_self→Qd, zero_add→pA, zero_le→pY
open Option renaming getD_some→BZ, map_eq_some_iff→pU
open Option.some renaming inj→oQ
open UInt32 renaming add_assoc→Kp, ofNat→rD, toNat_ofNat'→Kq
open UInt8.toNat renaming inj→U4
section

end
section
namespace Go.Wk.Lf
open Go.V Go.Sort Go.Proofs
theorem Ow {S A:Type} {F:(S→Option A)→S→Option A} (mk:Nat→S) (n:Nat) (ok:Nat→Bool) (K B:Option A) {x0:S} (hx:x0=mk 0) (hn:n < 4611686018427387904)
  (sw:∀ rec i,i < n→F rec (mk i)=if ok i=true then rec (mk (i+1)) else B) (tv:∀ rec,F rec (mk n)=K):loop F x0=if (∀ i,i < n→ok i=true) then K else B:=by
 refine sy (σ:=Unit) (fun i _=>mk i) n (fun i _=>∀ j,j < i→ok j=true) _ (i0:=0) (s0:=()) hx (pY _) (by intro j h;omega) hn ?_ ?_
 ·intro rec i _ hi hI pq;rw [sw rec i hi]
  by_cases h:ok i=true
  ·rw [if_pos h];exact pq () fun j hj=>by
    rcases (by omega:j < i∨j=i) with h1 | rfl
    ·exact hI j h1
    ·exact h
  ·rw [if_neg h,if_neg fun uH=>h (uH i hi)]
 ·intro rec _ hI;rw [tv,if_pos hI]
theorem KE {α:Type} (l:List α) (p:α→Bool) (q:Nat→Bool) (h:∀ i (hi:i < l.length),q i=p l[i]):(∀ i,i < l.length→q i=true) ↔ l.all p=true:=by
 rw [qB];constructor
 ·intro h1 x hx;obtain ⟨i,hi,rfl⟩:=vX hx;rw [← h i hi];exact h1 i hi
 ·intro h1 i hi;rw [h i hi];exact h1 _ (qW hi)
def seen (b:UInt8):Bool:=decide (33≤b.toNat)&&decide (b.toNat≤126)
def A6 (s:List UInt8):Bool:=(decide (1≤s.length)&&decide (s.length≤20))&&s.all seen
theorem Yv (s:List UInt8):BP s=some (A6 s):=by
 unfold BP A6
 by_cases h1:s.length < 1∨20 < s.length
 ·rw [if_pos (by simp only [xK,decide_eq_true_eq];omega)];have:(decide (1≤s.length)&&decide (s.length≤20))=false:=by
   simp only [Bool.and_eq_false_iff,decide_eq_false_iff_not];omega
  rw [this];rfl
 ·rw [if_neg (by simp only [xK,decide_eq_true_eq];omega)];have h2:(decide (1≤s.length)&&decide (s.length≤20))=true:=by
   simp only [rk,decide_eq_true_eq];omega
  rw [h2,uQ];rw [Ow (x0:=(0:Int)) (fun i=>(i:Int)) s.length (fun i=>seen (s.getD i 0)) (some true) (some false) rfl (by omega) ?_ ?_]
  ·by_cases h:s.all seen=true
   ·rw [h,if_pos ((KE s seen _ fun i hi=>by simp [hi]).2 h)]
   ·rw [DG] at h;rw [h,if_neg fun h3=>by rw [(KE s seen _ fun i hi=>by simp [hi]).1 h3] at h;cases h]
  ·intro rec i hi;simp only [BP.l2];rw [oW (pH hi),pr hi,oA];simp only [hi,ya,pF,BZ,seen]
   by_cases Ru:(s[i].toNat:Int) < 33
   ·rw [te (by simp;omega),oA,if_pos (by simp [Ru])];rw [if_neg (by simp only [rk,decide_eq_true_eq];omega)]
   ·rw [qA (by simp;omega),oA]
    by_cases Rt:(126:Int) < (s[i].toNat:Int)
    ·rw [if_pos (by simp [Rt]),if_neg (by simp only [rk,decide_eq_true_eq];omega)]
    ·rw [if_neg (by simp only [xK,decide_eq_true_eq];omega),if_pos (by simp only [rk,decide_eq_true_eq];omega),pt (by omega)]
  ·intro rec;simp only [BP.l2,BP.k1];rw [oX (pL (pS _))]
theorem acz (l:List UInt8) (hl:l.length≤1073741824):Pe l=some l:=by
 unfold Pe;rw [rl (by simpa using hl),oA];rfl
end Go.Wk.Lf
end
section
namespace Go.Wk.Lf
open Go.V Go.Sort Go.Proofs
def zT (p:Part):Bool:=(((A6 p.path&&decide (0≤p.size))&&decide (p.size≤200))&&decide (p.ids.length≤25))&&(decide (p.ids.length=0) == decide (p.size=0))
theorem ahN (p:Part):Oy p=some (zT p):=by
 unfold Oy zT;rw [Yv,oA];have h1:decide ((p.ids.length:Int)≤25)=decide (p.ids.length≤25):=by rw [decide_eq_decide];omega
 have h2:decide ((p.ids.length:Int)=0)=decide (p.ids.length=0):=by rw [decide_eq_decide];omega
 rw [h1,h2]
theorem Qv {α:Type} (R:α→α→Prop) (ht:∀ {a b c},R a b→R b c→R a c) (l:List α):l.Pairwise R ↔ ∀ i (h:i < l.length),0 < i→R (l[i - 1]'(by omega)) l[i]:=by
 constructor
 ·intro h i hi h0;exact G3.1 h (i - 1) i (by omega) hi (by omega)
 ·intro h;rw [G3];intro i j hi hj An
  induction j with
  | zero=>omega
  | succ j ih =>
   have h1:=h (j+1) hj (by omega);rcases (by omega:i=j∨i < j) with rfl | h2
   ·exact h1
   ·exact ht (ih (by omega) h2) h1
def H6 (l:List Part):Prop:=l.Pairwise fun a b=>qI a.path b.path=true
instance (l : List Part) : Decidable (H6 l) := by unfold H6; infer_instance
def tX (m:oP):Prop:=A6 m.name=true∧m.parts.length≤6∧(m.parts.all zT)=true∧H6 m.parts
instance (m : oP) : Decidable (tX m) := by unfold tX; infer_instance
theorem Vy (l:List Part) (q:Part→Bool):(∀ i,i < l.length→(q (l.getD i default)&&(!decide (0 < i)||qI (l.getD (i - 1) default).path (l.getD i default).path))=true) ↔ (l.all q=true∧H6 l):=by
 constructor
 ·intro h;refine ⟨?_,(Qv (fun a b:Part=>qI a.path b.path=true) (fun h1 h2=>Fk h1 h2) l).2 fun i hi h0=>?_⟩
  ·rw [qB];intro x hx;obtain ⟨j,hj,rfl⟩:=vX hx;have h1:=h j hj;simp only [ya,pF hj,BZ,rk] at h1;exact h1.1
  ·have h1:=h i hi;have sK:i - 1 < l.length:=by omega
   simp only [ya,pF hi,pF sK,BZ,rk,h0,decide_true,uP,uB] at h1;exact h1.2
 ·rintro ⟨h1,h2⟩ i hi;rw [qB] at h1;have h3:=h1 _ (qW hi);simp only [ya,pF hi,BZ,h3,uQ]
  by_cases h0:0 < i
  ·have sK:i - 1 < l.length:=by omega
   simp only [pF sK,BZ,h0,decide_true,uP,uB];exact (Qv (fun a b:Part=>qI a.path b.path=true) (fun h1 h2=>Fk h1 h2) l).1 h2 i hi h0
  ·simp [h0]
theorem ZZ (l:List Part) (i:Nat) (hi:i < l.length) (hl:l.length < 1000000000) (N:Bool) {β:Type} (K:Part→Option β) :
  (bd (only ((!(!N))&&decide (0 < (i:Int))) (ix l (wr ((i:Int) - 1))) (Part.mk [] 0 [])) K)=if N=true∧0 < i then K (l.getD (i - 1) default) else K (Part.mk [] 0 []):=by
 cases N with
 | false=>rw [te (by simp),oA];simp
 | true =>
  by_cases h0:0 < i
  ·have sK:i - 1 < l.length:=by omega
   rw [qA (by simp;omega),BR h0 (by omega),pr sK,oA,if_pos ⟨rfl,h0⟩];simp [ya,pF sK]
  ·rw [te (by simp;omega),oA,if_neg (by omega)]
theorem Yt (m:oP):BI m=some (if tX m then 0 else 1):=by
 unfold BI;rw [Yv,oA]
 by_cases h0:A6 m.name=true∧m.parts.length≤6
 ·obtain ⟨hn,h6⟩:=h0;rw [if_neg (by simp only [hn];simp;omega)];rw [Ow (x0:=(0:Int)) (fun i=>(i:Int)) m.parts.length (fun i=>zT (m.parts.getD i default)&&(!decide (0 < i)||qI (m.parts.getD (i - 1) default).path (m.parts.getD i default).path)) (some 0) (some 1) rfl (by omega) ?_ ?_]
  ·have Hx:=Vy m.parts zT
   by_cases h:m.parts.all zT=true∧H6 m.parts
   ·rw [if_pos (Hx.2 h),if_pos (show tX m from ⟨hn,h6,h.1,h.2⟩)]
   ·rw [if_neg fun h2=>h (Hx.1 h2),if_neg fun h2:tX m=>h ⟨h2.2.2.1,h2.2.2.2⟩]
  ·intro rec i hi;simp only [BI.l2];rw [oW (pH hi),pr hi,oA,ahN,oA,ZZ m.parts i hi (by omega)];simp only [ya,pF hi,BZ];cases hN:zT m.parts[i] with
   | false=>simp
   | true =>
    by_cases h0:0 < i
    ·have sK:i - 1 < m.parts.length:=by omega
     have rp:(0:Int) < (i:Int):=by omega
     simp only [h0,rp,and_self,if_true,pF sK,BZ,decide_true,uP,uB,uQ,pt (show i < 4611686018427387904 by omega)];have hg:=Xb m.parts[i].path m.parts[i - 1].path;cases hc:(qI m.parts[i].path m.parts[i - 1].path||m.parts[i].path == m.parts[i - 1].path) with
     | true=>rw [hc] at hg;rw [← hg];rfl
     | false=>rw [hc] at hg;rw [← hg];rfl
    ·have rp:¬ (0:Int) < (i:Int):=by omega
     simp [h0,rp,pt (show i < 4611686018427387904 by omega)]
  ·intro rec;simp only [BI.l2,BI.k1];rw [oX (pL (pS _))]
 ·rw [if_pos (by
   simp only [xK,decide_eq_true_eq,AK];cases hn:A6 m.name with
   | false=>exact .inl rfl
   | true =>
    rcases M3 6 m.parts.length with h6 | h6
    ·right;omega
    ·exact absurd ⟨hn,h6⟩ h0),if_neg fun h:tX m=>h0 ⟨h.1,h.2.1⟩]
def B9 (n:Int):List UInt8:=[tA (n / 256),tA n]
def AA (p:Part):List UInt8:=([tA (p.path.length:Int)]++p.path++B9 p.size++[tA (p.ids.length:Int)])++p.ids.flatten
def Jz (m:oP):List UInt8:=([tA (m.name.length:Int)]++m.name++[tA (m.parts.length:Int)])++m.parts.flatMap AA
def E9 (m:oP):Prop:=∀ p∈m.parts,∀ x∈p.ids,x.length=32
theorem OD {s:List UInt8} (h:A6 s=true):1≤s.length∧s.length≤20:=by
 simp only [A6,rk,decide_eq_true_eq] at h;exact h.1
theorem ON {p:Part} (h:zT p=true):A6 p.path=true∧0≤p.size∧p.size≤200∧p.ids.length≤25∧(p.ids.length=0 ↔ p.size=0):=by
 simp only [zT,rk,decide_eq_true_eq] at h;obtain ⟨⟨⟨⟨h1,h2⟩,h3⟩,h4⟩,h5⟩:=h;refine ⟨h1,h2,h3,h4,?_⟩;rw [beq_iff_eq,decide_eq_decide] at h5;exact h5
theorem Gs {m:oP} (h:tX m):∀ p∈m.parts,zT p=true:=by
 have:=h.2.2.1;rwa [qB] at this
end Go.Wk.Lf
end
section
namespace Go.Wk
section
variable {α:Type} [DecidableEq α]
def ER (acc:List α) (y:α):List α:=if acc.getLast? = some y then acc else acc++[y]
def vm (l:List α):List α:=l.foldl ER []
theorem I7 (l:List α) (y:α):vm (l++[y])=ER (vm l) y:=by simp [vm]
theorem JY {β:Type} {p:List β→Prop} (h0:p []) (h1:∀ l y,p l→p (l++[y])):∀ l,p l:=by
 intro l;have:∀ r:List β,p r.reverse:=by
  intro r
  induction r with
  | nil=>exact h0
  | cons x r ih=>rw [List.reverse_cons];exact h1 _ _ ih
 have:=this l.reverse
 rwa [List.reverse_reverse] at this
theorem agS (acc:List α) (y:α):(ER acc y).getLast? = some y:=by
 unfold ER
 split
 ·assumption
 ·simp
theorem Ot (l:List α):(vm l).getLast? = l.getLast?:=by
 refine JY (p:=fun l=>(vm l).getLast? = l.getLast?) rfl (fun l y _=>?_) l;rw [I7,agS];simp
theorem TQ {β:Type} {l:List β} {j:Nat} {e:β} (h:l[j]? = some e):l.take (j+1)=l.take j++[e]:=by
 obtain ⟨h1,h2⟩:=qO.1 h;rw [List.take_succ_eq_append_getElem h1,h2]
theorem agT {β:Type} {l:List β} {j:Nat} {e:β} (h:l[j]? = some e):(l.take (j+1)).getLast? = some e:=by
 rw [TQ h];simp
theorem NH (l:List α) (h:l.length < 2):vm l=l:=by
 match l,h with
 | [],_=>rfl
 | [x],_=>rfl
theorem NG (l:List α):(vm l).length≤l.length:=by
 refine JY (p:=fun l=>(vm l).length≤l.length) (px _) (fun l y ih=>?_) l;rw [I7];unfold ER
 split
 ·simp;omega
 ·simp;omega
theorem NI {l:List α} {j:Nat} {a b:α} (ha:l[j]? = some a) (hb:l[j+1]? = some b):vm (l.take (j+2))=if a=b then vm (l.take (j+1)) else vm (l.take (j+1))++[b]:=by
 rw [show j+2=(j+1)+1 from rfl,TQ hb,I7];unfold ER;rw [Ot,agT ha]
 by_cases h:a=b
 ·rw [if_pos (by rw [h]),if_pos h]
 ·rw [if_neg (by simpa using h),if_neg h]
theorem ZX {β:Type} {l:List β} {i:Nat} (e:β) (h:i < l.length):(l.set i e).take (i+1)=l.take i++[e]:=by
 have h1:(l.set i e)[i]? = some e:=by simp [h]
 rw [TQ h1]
 congr 1
 rw [UX (px _)]
end
end Go.Wk
end
section
namespace Go.Wk.Lf
open Go.V Go.Sort Go.Proofs
theorem SZ {α:Type} {l:List α} (h:l≠[]):nz l=some ():=by
 cases l with
 | nil=>exact absurd rfl h
 | cons a r=>rfl
theorem ZN {α:Type} {cf:α→α→Int} {l:List α} (h:l.length≤1073741824):GI cf l=some (A3 cf l):=if_pos h
theorem On {α:Type} {l:List α} {a n k:Nat} (hk:k < n) (h:a+k < l.length):E7 l a n (k:Int)=some l[a+k]:=by
 show (if k < n then l[a+k]? else none)=_;rw [if_pos hk];exact pF h
theorem acF (xs:List (List UInt8)) (hl:xs.length≤1073741824):uM xs=some (vm xs):=by
 unfold uM
 by_cases h2:xs.length < 2
 ·rw [oW (decide_eq_true (by omega)),NH _ h2]
 ·rw [oX (decide_eq_false (by omega))];refine sy (S:=Int) (σ:=Unit) (fun i _=>(i:Int)) xs.length (fun i _=>1≤i∧vm (xs.take i)=xs.take i) _ (i0:=1) (s0:=()) rfl (by omega) ⟨by omega,NH _ (by simp;omega)⟩ (by omega) ?_ ?_
  ·intro rec i _ hi hI pq;obtain ⟨h1,hc⟩:=hI;simp only [uM.l2,uM.k3];rw [oW (pH hi),pr hi,oA,BR (by omega) (by omega),pr (show i - 1 < xs.length by omega),oA];have pz:=NI (l:=xs) (j:=i - 1) (a:=xs[i - 1]) (b:=xs[i]) (pF (by omega)) (by rw [show i - 1+1=i by omega];exact pF hi);rw [show i - 1+2=i+1 by omega,show i - 1+1=i by omega,hc] at pz
   by_cases he:xs[i]=xs[i - 1]
   ·rw [oW (decide_eq_true he),xC (by omega) (by omega) (by omega),oA];rw [if_pos he.symm] at pz;refine sy (S:=Int × Int × List (List UInt8)) (σ:=Nat × List (List UInt8)) (fun k s=>((s.1:Int),(k:Int),s.2)) (xs.length - i) (fun k s=>s.2.length=xs.length∧1≤k∧1≤s.1∧s.1≤i+k - 1∧s.2.take s.1=vm (xs.take (i+k)) ∧ ∀ q,i+k - 1≤q→s.2[q]? = xs[q]?) _ (i0:=1) (s0:=(i,xs)) rfl (by omega) ⟨rfl,by omega,by omega,by simp,pz.symm,fun q _=>rfl⟩ (by omega) ?_ ?_
    ·rintro vU k ⟨w,cs⟩ hk ⟨e1,e2,e3,e4,e5,e6⟩ Au;simp only at e1 e3 e4 e5 e6;simp only [uM.l5,uM.k6,ry];have Ld:i+k < cs.length:=by omega
     have BD:cs[i+k]=xs[i+k]:=by have:=e6 (i+k) (by omega);rw [pF Ld,pF (by omega)] at this;exact oQ this
     have tE:cs[i+(k - 1)]=xs[i+(k - 1)]:=by have:=e6 (i+(k - 1)) (by omega);rw [pF (by omega),pF (by omega)] at this;exact oQ this
     have vS:=NI (l:=xs) (j:=i+(k - 1)) (a:=xs[i+(k - 1)]) (b:=xs[i+k]) (pF (by omega)) (by rw [show i+(k - 1)+1=i+k by omega];exact pF (by omega));rw [show i+(k - 1)+2=i+(k+1) by omega,show i+(k - 1)+1=i+k by omega,← e5] at vS;rw [oW (pH hk),On hk Ld,oA,BR (by omega) (by omega),On (show k - 1 < xs.length - i by omega) (by omega),oA,BD,tE]
     by_cases pM:xs[i+k]=xs[i+(k - 1)]
     ·rw [oX (by simp [pM]),pt (by omega)];rw [if_pos pM.symm] at vS;exact Au (w,cs) ⟨e1,by omega,e3,by simp only;omega,vS.symm,fun q hq=>e6 q (by omega)⟩
     ·rw [oW (by simp [pM]),oA,pr (show w < cs.length by omega),oA,pt (by omega),pt (by omega)];rw [if_neg (fun h=>pM h.symm)] at vS;refine Au (w+1,cs.set w xs[i+k]) ⟨by simp [e1],by omega,by simp,by simp only;omega,?_,fun q hq=>?_⟩
      ·simp only;rw [ZX _ (by omega),vS]
      ·simp only;rw [yb (by omega)];exact e6 q (by omega)
    ·rintro vU ⟨w,cs⟩ ⟨e1,e2,e3,e4,e5,e6⟩;simp only at e1 e3 e4 e5 e6;simp only [uM.l5,uM.k4,ry];rw [oX (pL (pS _)),xC (by omega) (by omega) (by omega),oA];rw [show Co cs w (cs.length - w) (ph 32 0)=some (cs.take w++ph (cs.length - w) (ph 32 0)) from if_pos (by omega),oA];rw [xC (by omega) (by omega) (by simp;omega),oA];simp only [ry,UF,yu];rw [SZ (by simp only [ne_eq,List.append_eq_nil_iff,not_and];intro q;have q2:=congrArg P2 q;rw [rb,MX] at q2;omega),oA,M1 (by simp;omega),Ix,Nat.min_self,e5,show i+(xs.length - i)=xs.length by omega,uf]
   ·rw [oX (decide_eq_false he),pt (by omega)];rw [if_neg (fun h=>he h.symm)] at pz;exact pq () ⟨by omega,by rw [pz,tN hi]⟩
  ·intro rec _ hI;simp only [uM.l2,uM.k1];rw [oX (pL (pS _))];have:=hI.2;rw [uf] at this;rw [this]
theorem OA {α:Type} [DecidableEq α] (l:List α) (x:α):x∈vm l ↔ x∈l:=by
 refine JY (p:=fun l=>x∈vm l ↔ x∈l) (by simp [vm]) (fun l y ih=>?_) l;rw [I7];unfold ER
 split
 ·rename_i h;rw [Ot] at h;rw [ih];simp only [vj,yT];constructor
  ·exact .inl
  ·rintro (h' | rfl)
   ·exact h'
   ·exact List.mem_of_getLast? h
 ·simp only [vj,yT,ih]
def Aa (l:List (List UInt8)):Prop:=l.Pairwise fun a b=>qI a b=true
theorem Y3:∀ (a b:List (List UInt8)),Aa a→Aa b→(∀ x,x∈a ↔ x∈b)→a=b
 | [],[],_,_,_=>rfl
 | [],y::b,_,_,h=>by have:=(h y).2 (by simp);simp at this
 | x::a,[],_,_,h=>by have:=(h x).1 (by simp);simp at this
 | x::a,y::b,ha,hb,h=>by
  obtain ⟨Xj,ha2⟩:=G2.1 ha;obtain ⟨wh,wJ⟩:=G2.1 hb;have HO:x=y:=by
   rcases sg.1 ((h x).1 (by simp)) with e | e
   ·exact e
   ·rcases sg.1 ((h y).2 (by simp)) with e' | e'
    ·exact e'.symm
    ·have h1:=Xj y e';have h2:=wh x e;rw [Zf h1] at h2;cases h2
  subst HO;rw [Y3 a b ha2 wJ fun z=>?_];constructor
  ·intro hz;rcases sg.1 ((h z).1 (by simp [hz])) with e | e
   ·subst e;have:=Xj z hz;rw [Fj] at this;cases this
   ·exact e
  ·intro hz;rcases sg.1 ((h z).2 (by simp [hz])) with e | e
   ·subst e;have:=wh z hz;rw [Fj] at this;cases this
   ·exact e
theorem ait {l:List (List UInt8)} (h:B6 uE l):l.Pairwise fun a b=>qI b a=false:=by
 refine h.imp fun {a b} h1=>?_;have:=I4 b a;unfold ltOf at this;rw [← this];simpa using h1
theorem acI (l:List (List UInt8)) (h:l.Pairwise fun a b=>qI b a=false):Aa (vm l):=by
 revert h
 refine JY (p:=fun l=>(l.Pairwise fun a b=>qI b a=false)→Aa (vm l)) (fun _=>by simp [vm,Aa]) (fun l y ih h=>?_) l;rw [CV] at h;have h1:=ih h.1;rw [I7];unfold ER
 split
 ·exact h1
 ·rename_i hl;rw [Ot] at hl;refine CV.2 ⟨h1,by simp,fun a ha b hb=>?_⟩;simp at hb;subst hb;have F6:=(OA l a).1 ha;have h2:=h.2.2 a F6 b (by simp);cases h3:qI a b with
  | true=>rfl
  | false =>
   exfalso
   have e:a=b:=H9 h3 h2;subst e;obtain ⟨s,t,pz⟩:=List.append_of_mem F6;cases t with
   | nil=>rw [pz] at hl;simp at hl
   | cons z t =>
    have hz:∃ w,l.getLast? = some w∧w∈z::t:=by
     rw [pz];refine ⟨(z::t).getLast (by simp),?_,List.getLast_mem _⟩;rw [List.getLast?_append,List.getLast?_cons_cons,List.getLast?_eq_some_getLast (by simp:z::t≠[])];rfl
    obtain ⟨w,hw,LL⟩:=hz;have h4:qI w a=false:=by
     have h5:=h.1;rw [pz,CV] at h5;exact (G2.1 h5.2.1).1 w LL
    have h6:=h.2.2 w (by rw [pz];simp [LL]) a (by simp);have e2:w=a:=H9 h4 h6;rw [e2] at hw;exact hl hw
def sT (m:oP):List (List UInt8):=m.parts.flatMap Part.ids
def uc (l:List (List UInt8)):List (List UInt8):=vm (A3 uE l)
theorem Sl (l:List (List UInt8)) (x:List UInt8):x∈uc l ↔ x∈l:=by
 unfold uc;rw [OA];exact (HR uE l).mem_iff
theorem af3 (l:List (List UInt8)):Aa (uc l):=acI _ (ait (Sw Wu l))
theorem Sk (l:List (List UInt8)):(uc l).length≤l.length:=by
 unfold uc;have h1:=NG (A3 uE l);rw [(HR uE l).length_eq] at h1;exact h1
theorem Wq (l:List (List UInt8)) (hl:l.length≤1073741824):Mv l=some l:=by
 unfold Mv;rw [rl (by simpa using hl),oA,zw]
theorem W2 (l:List Part) (i:Nat):((l.take i).flatMap Part.ids).length≤(l.flatMap Part.ids).length:=by
 conv=>rhs;rw [← z8 i l,MU,rH]
 omega
theorem ahe (m:oP) (hp:m.parts.length≤1073741824) (hl:(sT m).length≤1073741824):CA m=some (uc (sT m)):=by
 unfold CA;refine sy (S:=List (List UInt8) × Int) (σ:=List (List UInt8)) (fun i l=>(l,(i:Int))) m.parts.length (fun i l=>l=(m.parts.take i).flatMap Part.ids) _ (i0:=0) (s0:=[]) rfl (pY _) rfl (by omega) ?_ ?_
 ·intro rec i l hi hI pq;simp only [CA.l2];have h1:=W2 m.parts (i+1);rw [tN hi,MU,← hI] at h1;simp only [Iw,List.flatMap_nil,vM,rH] at h1;unfold sT at hl;rw [oW (pH hi),pr hi,oA,rl (by omega),oA,pt (by omega)];refine pq _ ?_;rw [tN hi,MU,hI];simp
 ·intro rec l hI;simp only [CA.l2,CA.k1];rw [oX (pL (pS _))];rw [uf] at hI;have K6:l=sT m:=hI;subst K6;have y7:=agq uE (sT m);have h2:=NG (A3 uE (sT m));rw [ZN hl,oA,acF _ (by omega),oA,Wq _ (by omega),oA];rfl
end Go.Wk.Lf
end
section
namespace Go.Wk.Lf
open Go.V Go.Sort Go.Proofs
def sU (l:List UInt8):Nat:=l.foldl (fun n c=>n*256+c.toNat) 0
theorem OL (a b:Nat) (ha:a < 4611686018427387904) (hb:b < 4611686018427387904):bits .or .i64 (a:Int) (b:Int)=((a ||| b:Nat):Int):=by
 have hx:a ||| b < 2 ^ 62:=Nat.or_lt_two_pow (by omega) (by omega);have h1:(wy 64 (a:Int)).toNat=a:=by
  rw [PC,PD];exact FD (by omega)
 have h2:(wy 64 (b:Int)).toNat=b:=by
  rw [PC,PD];exact FD (by omega)
 show IntKind.i64.wrap ((wy 64 (a:Int) ||| wy 64 (b:Int)).toNat:Int)=_;rw [BitVec.toNat_or,h1,h2];exact rU (by omega) (by omega)
theorem ahF (n:Nat) (c:UInt8) (hn:n < 18014398509481984):bits .or .i64 (wr ((n:Int)*2 ^ (8:Int).toNat)) (c.toNat:Int)=((n*256+c.toNat:Nat):Int):=by
 have hc:=c.toNat_lt;have e:wr ((n:Int)*2 ^ (8:Int).toNat)=((n*256:Nat):Int):=by
  rw [show (8:Int).toNat=8 from rfl];rw [rU (by omega) (by omega)];omega
 rw [e,OL _ _ (by omega) (by omega)];have:=Qc (i:=8) (b:=c.toNat) (by omega) n;rw [Kl] at this;rw [show n*256=n*2 ^ 8 from rfl,this]
theorem Np:∀ (l:List UInt8),sU l < 256 ^ l.length:=by
 intro l;refine JY (p:=fun l=>sU l < 256 ^ l.length) (by simp [sU]) (fun l c ih=>?_) l;have hc:=c.toNat_lt;simp only [sU,MV,Kf,List.foldl_nil,rH,Ew,MX,Nat.pow_succ] at ih ⊢;omega
theorem QH (l:List UInt8) (c:UInt8):sU (l++[c])=sU l*256+c.toNat:=by simp [sU]
theorem Yy {A:Type} {F:(Int × Int→Option A)→Int × Int→Option A} {l:List UInt8} {K:Int→Option A} (mk:Int→Int→Int × Int) (hl:l.length≤7)
  (hs:∀ rec i (h:i < l.length) (n:Int),F rec (mk n i)=rec (mk (bits .or .i64 (wr (n*2 ^ (8:Int).toNat)) (l[i].toNat:Int)) (wr ((i:Int)+1)))) (he:∀ rec n,F rec (mk n l.length)=K n):loop F (mk 0 0)=K (sU l:Int):=by
 refine sy (S:=Int × Int) (σ:=Unit) (fun i _=>mk ((sU (l.take i):Nat):Int) (i:Int)) l.length (fun _ _=>True) _ (i0:=0) (s0:=()) (by simp [sU]) (pY _) trivial (by omega) ?_ ?_
 ·intro rec i _ hi _ pq;have pv:sU (l.take i) < 256 ^ 6:=xO (Np _) (Qb (by decide) (by simp;omega));rw [hs rec i hi,ahF _ _ (by omega),pt (by omega)];have:=pq () trivial;rw [tN hi,QH] at this;exact this
 ·intro rec _ _;rw [he,uf]
theorem get_eq (b:List UInt8) (at_ k:Nat) (h1:1≤k) (h7:k≤7) (hb:b.length≤1073741824) (hk:at_+k≤b.length):AT b (at_:Int) (k:Int)=some ((sU ((b.take (at_+k)).drop at_):Int),((at_+k:Nat):Int),0):=by
 unfold AT;rw [if_neg (by simp only [xK,decide_eq_true_eq];omega),rU (x:=(b.length:Int) - at_) (by omega) (by omega),if_neg (by simp only [decide_eq_true_eq];omega),rU (x:=(at_:Int)+k) (by omega) (by omega),xC (by omega) (by omega) (by omega),oA];rw [show ((at_:Int)+(k:Int)).toNat=at_+k by omega,ry];have hlen:((b.take (at_+k)).drop at_).length=k:=by simp;omega
 generalize (b.take (at_+k)).drop at_=l at hlen ⊢;refine Yy (l:=l) (K:=fun n=>some (n,((at_+k:Nat):Int),0)) (fun n i=>(n,i)) (by omega) (fun rec i hi n=>?_) (fun rec n=>?_)
 ·simp only [AT.l2];rw [oW (pH hi),pr hi,oA]
 ·simp only [AT.l2,AT.k1];rw [oX (pL (pS _)),rU (by omega) (by omega)];rfl
theorem Mz {n:Nat} (h:n < 256):(tA (n:Int)).toNat=n:=by
 unfold tA;simp;omega
theorem Z1 (c:UInt8):tA (c.toNat:Int)=c:=by
 have:=c.toNat_lt;apply U4;rw [Mz (by omega)]
theorem abv (c:UInt8):sU [c]=c.toNat:=by simp [sU]
theorem VN (a b:UInt8):sU [a,b]=a.toNat*256+b.toNat:=by simp [sU]
theorem abu (a b:UInt8):B9 ((sU [a,b]:Nat):Int)=[a,b]:=by
 have ha:=a.toNat_lt;have hb:=b.toNat_lt;rw [VN];unfold B9;have e1:((a.toNat*256+b.toNat:Nat):Int) / 256=((a.toNat:Nat):Int):=by omega
 rw [e1,Z1]
 congr 2
 apply U4;unfold tA;simp;omega
theorem QG {n:Nat} (h:n < 65536):sU (B9 (n:Int))=n:=by
 unfold B9;rw [VN];have e1:(n:Int) / 256=((n / 256:Nat):Int):=by omega
 rw [e1,Mz (by omega)];unfold tA;simp;omega
structure Tk (σ:Type) where
 rest:σ→List UInt8
 bad:σ→Bool
 take:σ→Nat→List UInt8 × σ
 len:∀ s n,(take s n).1.length=n
 sound:∀ s n,bad (take s n).2=false→bad s=false∧rest s=(take s n).1++rest (take s n).2
 full:∀ s x t,bad s=false→rest s=x++t→(take s x.length).1=x∧rest (take s x.length).2=t∧bad (take s x.length).2=false
section
variable {σ:Type} (T:Tk σ)
def Tk.num (s:σ) (n:Nat):Nat × σ:=(sU (T.take s n).1,(T.take s n).2)
def Tk.text (s:σ):List UInt8 × σ:=T.take (T.num s 1).2 (T.num s 1).1
theorem Tk.SY (s:σ):∃ c,(T.take s 1).1=[c]∧(T.num s 1).1=c.toNat:=by
 have h:=T.len s 1
 match hq:(T.take s 1).1,h with
 | [c],_=>exact ⟨c,rfl,by simp [Tk.num,hq,sU]⟩
theorem Tk.OI (s:σ) (h:T.bad (T.num s 1).2=false):T.bad s=false∧(T.num s 1).1 < 256∧T.rest s=tA ((T.num s 1).1:Int)::T.rest (T.num s 1).2:=by
 obtain ⟨c,h1,h2⟩:=T.SY s;obtain ⟨h3,h4⟩:=T.sound s 1 h;have:=c.toNat_lt;refine ⟨h3,by omega,?_⟩;rw [h4,h1,h2,Z1];rfl
theorem Tk.OG (s:σ) (n:Nat) (t:List UInt8) (hn:n < 256) (hb:T.bad s=false) (hr:T.rest s=tA (n:Int)::t):(T.num s 1).1=n∧T.rest (T.num s 1).2=t∧T.bad (T.num s 1).2=false:=by
 obtain ⟨h1,h2,h3⟩:=T.full s [tA (n:Int)] t hb hr;refine ⟨?_,h2,h3⟩;show sU (T.take s 1).1=n;rw [show (1:Nat)=[tA (n:Int)].length from rfl,h1,abv,Mz hn]
theorem Tk.ahp (s:σ) (h:T.bad (T.num s 2).2=false):T.bad s=false∧(T.num s 2).1 < 65536∧T.rest s=B9 ((T.num s 2).1:Int)++T.rest (T.num s 2).2:=by
 have hl:=T.len s 2;obtain ⟨h3,h4⟩:=T.sound s 2 h;refine ⟨h3,?_,?_⟩
 ·have:=Np (T.take s 2).1;rw [hl] at this;exact this
 ·rw [h4]
  match hq:(T.take s 2).1,hl with
  | [a,b],_ =>
   show _=B9 ((sU (T.take s 2).1:Nat):Int)++_;rw [hq,abu];rfl
theorem Tk.aho (s:σ) (n:Nat) (t:List UInt8) (hn:n < 65536) (hb:T.bad s=false) (hr:T.rest s=B9 (n:Int)++t):(T.num s 2).1=n∧T.rest (T.num s 2).2=t∧T.bad (T.num s 2).2=false:=by
 obtain ⟨h1,h2,h3⟩:=T.full s (B9 (n:Int)) t hb hr;refine ⟨?_,h2,h3⟩;show sU (T.take s 2).1=n;rw [show (2:Nat)=(B9 (n:Int)).length from rfl,h1,QG hn]
theorem Tk.TS (s:σ) (h:T.bad (T.text s).2=false):T.bad s=false∧(T.text s).1.length < 256∧T.rest s=tA ((T.text s).1.length:Int)::((T.text s).1++T.rest (T.text s).2):=by
 obtain ⟨h1,h2⟩:=T.sound _ _ h;obtain ⟨h3,h4,h5⟩:=T.OI s h1;have hl:(T.text s).1.length=(T.num s 1).1:=T.len _ _;refine ⟨h3,by omega,?_⟩;rw [h5,hl,h2];rfl
theorem Tk.TR (s:σ) (x t:List UInt8) (hn:x.length < 256) (hb:T.bad s=false) (hr:T.rest s=tA (x.length:Int)::(x++t)):(T.text s).1=x∧T.rest (T.text s).2=t∧T.bad (T.text s).2=false:=by
 obtain ⟨h1,h2,h3⟩:=T.OG s x.length (x++t) hn hb hr;obtain ⟨h4,h5,h6⟩:=T.full (T.num s 1).2 x t h3 h2;unfold Tk.text;rw [h1];exact ⟨h4,h5,h6⟩
def Tk.head (s:σ):List UInt8 × Nat × Nat × σ :=
 let a:=T.text s
 let b:=T.num a.2 2
 let c:=T.num b.2 1
 (a.1,b.1,c.1,c.2)
def DZ (p:List UInt8) (n k:Nat):List UInt8:=[tA (p.length:Int)]++p++B9 (n:Int)++[tA (k:Int)]
theorem Tk.Xx (s:σ) (h:T.bad (T.head s).2.2.2=false):T.bad s=false∧(T.head s).1.length < 256∧(T.head s).2.1 < 65536∧(T.head s).2.2.1 < 256∧T.rest s=DZ (T.head s).1 (T.head s).2.1 (T.head s).2.2.1++T.rest (T.head s).2.2.2:=by
 obtain ⟨h1,h2,h3⟩:=T.OI _ h;obtain ⟨h4,h5,h6⟩:=T.ahp _ h1;obtain ⟨h7,h8,h9⟩:=T.TS _ h4;refine ⟨h7,h8,h5,h2,?_⟩;rw [h9,h6,h3];simp [DZ,Tk.head]
theorem Tk.Xw (s:σ) (p t:List UInt8) (n k:Nat) (hp:p.length < 256) (hn:n < 65536) (hk:k < 256) (hb:T.bad s=false) (hr:T.rest s=DZ p n k++t):(T.head s).1=p∧(T.head s).2.1=n∧(T.head s).2.2.1=k∧T.rest (T.head s).2.2.2=t∧T.bad (T.head s).2.2.2=false:=by
 obtain ⟨h1,h2,h3⟩:=T.TR s p (B9 (n:Int)++tA (k:Int)::t) hp hb (by rw [hr];simp [DZ]);obtain ⟨h4,h5,h6⟩:=T.aho _ n (tA (k:Int)::t) hn h3 h2;obtain ⟨h7,h8,h9⟩:=T.OG _ k t hk h6 h5;exact ⟨h1,h4,h7,h8,h9⟩
end
def BQ (p:Part):Prop:=p.path.length < 256∧0≤p.size∧p.size < 65536∧p.ids.length < 256 ∧ ∀ x∈p.ids,x.length=32
theorem GA (p:Part) (n:Nat) (h:p.size=(n:Int)):AA p=DZ p.path n p.ids.length++p.ids.flatten:=by simp [AA,DZ,h]
theorem MB {p:Part} (h:zT p=true) (hk:∀ x∈p.ids,x.length=32):BQ p:=by
 have h2:=ON h;have h3:=OD h2.1;exact ⟨by omega,h2.2.1,by omega,by omega,hk⟩
end Go.Wk.Lf
end
section
namespace Go.Wk.Lf
open Go.V Go.Sort Go.Proofs
def wx (s:si) (n:Nat):List UInt8 × si:=if (s.bad||decide (s.b.length < n))=true then (ph n 0,⟨s.b,true⟩) else (s.b.take n,⟨s.b.drop n,s.bad⟩)
def p7:Tk si where
 rest s:=s.b
 bad s:=s.bad
 take:=wx
 len s n:=by
  unfold wx;split
  ·simp
  ·rename_i h;simp only [xK,decide_eq_true_eq,not_or] at h;simp;omega
 sound s n h:=by
  unfold wx at h ⊢;split at h
  ·cases h
  ·rename_i hc;rw [if_neg hc];exact ⟨h,(z8 n s.b).symm⟩
 full s x t hb hr:=by
  have HK:s.b=x++t:=hr;have pP:s.bad=false:=hb;unfold wx;rw [if_neg (by rw [pP,HK];simp)];exact ⟨by rw [HK];simp,by show s.b.drop x.length=t;rw [HK];simp,pP⟩
theorem Pm (s:si) (n:Nat) (hn:n≤65536) (hb:s.b.length≤1073741824):Gt s (n:Int)=some (wx s n):=by
 unfold Gt wx;have e:decide ((s.b.length:Int) < (n:Int))=decide (s.b.length < n):=by rw [decide_eq_decide];omega
 rw [e]
 split
 ·rw [Y0 (by omega) (by omega),oA,ry]
 ·rename_i h;simp only [xK,decide_eq_true_eq,not_or] at h;rw [xC (by omega) (by omega) (by omega),oA,xC (by omega) (by omega) (by omega),oA];simp
theorem TP (s:si) (n:Nat):(wx s n).2.b.length≤s.b.length:=by
 unfold wx;split
 ·exact px _
 ·simp
theorem L5 (s:si) (n:Nat) (h1:1≤n) (h7:n≤7) (hb:s.b.length≤1073741824):BJ s (n:Int)=some (((p7.num s n).1:Int),(p7.num s n).2):=by
 unfold BJ;have hl:=p7.len s n;rw [Pm s n (by omega) hb,oA];have hg:=get_eq (wx s n).1 0 n h1 h7 (by have:(wx s n).1.length=n:=hl;omega) (by have:(wx s n).1.length=n:=hl;omega);rw [show ((0:Nat):Int)=0 from rfl] at hg;rw [hg,oA];have:((wx s n).1.take (0+n)).drop 0=(wx s n).1:=by
  rw [pA,yu,Bl];have:(wx s n).1.length=n:=hl;omega
 rw [this];rfl
theorem HU (s:si) (n:Nat):(p7.num s n).2.b.length≤s.b.length:=TP s n
theorem SD (s:si):(p7.text s).2.b.length≤s.b.length:=wT (TP _ _) (HU s 1)
theorem OH (s:si):(p7.num s 1).1 < 256:=by
 obtain ⟨c,_,h⟩:=p7.SY s;have:=c.toNat_lt;omega
theorem aef (s:si) (hb:s.b.length≤1073741824) {A:Type} (K:List UInt8 × si→Int × si→Int × si→Option A) :
  (bd (BJ s 1) fun a=>bd (Gt a.2 a.1) fun b=>bd (BJ b.2 2) fun c=>bd (BJ c.2 1) fun d=>K b c d)=K (p7.text s) (((p7.num (p7.text s).2 2).1:Int),(p7.num (p7.text s).2 2).2) (((p7.num (p7.num (p7.text s).2 2).2 1).1:Int),(p7.num (p7.num (p7.text s).2 2).2 1).2):=by
 have h0:=OH s;have h1:=HU s 1;have h2:=SD s;have h3:=HU (p7.text s).2 2;rw [show (1:Int)=((1:Nat):Int) from rfl,show (2:Int)=((2:Nat):Int) from rfl,L5 s 1 (by omega) (by omega) hb,oA];simp only;rw [Pm _ _ (by omega) (by omega),oA];show (bd (BJ (p7.text s).2 _) _)=_;rw [L5 _ 2 (by omega) (by omega) (by omega),oA];simp only;rw [L5 _ 1 (by omega) (by omega) (by omega),oA];rfl
def BH (b:List UInt8) (m:oP):Prop:=tX m∧E9 m∧b=Jz m
open Classical in
noncomputable def uz (b:List UInt8):oP × Int:=if h:∃ m,BH b m then (h.choose,0) else (⟨[],[]⟩,3)
structure B5 (b:List UInt8) (nm:List UInt8) (DT:Nat) (i:Nat) (q:List UInt8) (bad:Bool) (ps:List Part):Prop where
 len:q.length≤b.length
 snd:bad=false→b=[tA (nm.length:Int)]++nm++[tA (DT:Int)]++ps.flatMap AA++q∧ps.length=i ∧ ∀ p∈ps,BQ p
 NJ:∀ m,BH b m→bad=false∧nm=m.name∧DT=m.parts.length∧ps=m.parts.take i∧q=(m.parts.drop i).flatMap AA
theorem Ox {m:oP} (h:tX m):m.name.length < 256∧m.parts.length < 256:=by
 have h1:=OD h.1;have h2:=h.2.1;exact ⟨by omega,by omega⟩
theorem YR {b nm:List UInt8} {DT:Nat} {q:List UInt8} {bad:Bool} {ps:List Part} {i:Nat} (hcn:DT < 256) (hI:B5 b nm DT i q bad ps) (hi:bad=false→i=DT) :
  (if ((bad||decide (0 < q.length)) || !decide (tX ⟨nm,ps⟩))=true then ((⟨[],[]⟩:oP),(3:Int)) else (⟨nm,ps⟩,0))=uz b:=by
 by_cases hex:∃ m,BH b m
 ·have hr:uz b=(hex.choose,0):=by unfold uz;rw [dif_pos hex]
  obtain ⟨h1,h2,h3,h4,h5⟩:=hI.NJ _ hex.choose_spec;have XA:=hi h1;rw [XA,h3,uf] at h4;rw [XA,h3,FA] at h5;have hm:(⟨nm,ps⟩:oP)=hex.choose:=by rw [h2,h4]
  rw [hr,hm];rw [if_neg];rw [h1,h5];have:=hex.choose_spec.1;simp [this]
 ·have hr:uz b=(⟨[],[]⟩,3):=by unfold uz;rw [dif_neg hex]
  rw [hr]
  split
  ·rfl
  ·rename_i hc;simp only [xK,decide_eq_true_eq,not_or,AK,decide_eq_false_iff_not,DG,Classical.not_not] at hc;obtain ⟨⟨hb,hq⟩,hm⟩:=hc
   exfalso
   obtain ⟨h1,h2,h3⟩:=hI.snd hb;refine hex ⟨⟨nm,ps⟩,hm,fun p hp=>(h3 p hp).2.2.2.2,?_⟩;have hq0:q=[]:=List.eq_nil_of_length_eq_zero (by omega);rw [h1,hq0,vM,← hi hb,← h2];rfl
theorem B5.step {b nm:List UInt8} {DT i:Nat} {q:List UInt8} {bad:Bool} {ps:List Part} (hI:B5 b nm DT i q bad ps) {p:Part} {q':List UInt8} {QE:Bool} (hl:q'.length≤q.length)
  (hs:QE=false→bad=false∧q=AA p++q' ∧ BQ p) (hc:∀ p0 t,bad=false→BQ p0→q=AA p0++t→p=p0∧q' = t∧QE=false) (hi:i < DT):B5 b nm DT (i+1) q' QE (ps++[p]):=by
 refine ⟨wT hl hI.len,fun hb=>?_,fun m hm=>?_⟩
 ·obtain ⟨h1,h2,h3⟩:=hs hb;obtain ⟨h4,h5,h6⟩:=hI.snd h1;refine ⟨?_,by simp [h5],fun p' zN=>?_⟩
  ·rw [h4,h2];simp
  ·rcases vj.1 zN with h | h
   ·exact h6 p' h
   ·simp at h;subst h;exact h3
 ·obtain ⟨h1,h2,h3,h4,h5⟩:=hI.NJ m hm;have qJ:i < m.parts.length:=by omega
  rw [BV qJ,Iw] at h5;have yp:=qW qJ;obtain ⟨h6,h7,h8⟩:=hc _ _ h1 (MB (Gs hm.1 _ yp) (hm.2.1 _ yp)) h5;refine ⟨h8,h2,h3,?_,h7⟩;rw [h4,h6,tN qJ]
theorem aie (b:List UInt8) (hb:b.length≤1000000000):ve b=some (uz b):=by
 unfold ve
 let s0:si:=⟨b,false⟩
 have h0:=OH s0;have h1:=HU s0 1;have h2:=SD s0;have h3:=HU (p7.text s0).2 1;have h4:=OH (p7.text s0).2;rw [show (1:Int)=((1:Nat):Int) from rfl,L5 s0 1 (by omega) (by omega) (by show b.length≤_;omega),oA];simp only;rw [Pm _ _ (by omega) (by have:(p7.num s0 1).2.b.length≤b.length:=h1;omega),oA];show (bd (BJ (p7.text s0).2 _) _)=_;have pv:(p7.text s0).2.b.length≤b.length:=h2;rw [L5 _ 1 (by omega) (by omega) (by omega),oA];simp only;show loop (ve.l2 (p7.text s0) (((p7.num (p7.text s0).2 1).1:Int),(p7.num (p7.text s0).2 1).2)) _=_;generalize hR:p7.num (p7.text s0).2 1=R at h3 h4 ⊢;generalize hT:p7.text s0=Tx at h3 pv hR ⊢;have RQ:B5 b Tx.1 R.1 0 R.2.b R.2.bad []:=by
  refine ⟨by omega,fun Hr=>?_,fun m hm=>?_⟩
  ·have RC:p7.bad (p7.num Tx.2 1).2=false:=by rw [hR];exact Hr
   obtain ⟨a1,a2,a3⟩:=p7.OI _ RC;rw [← hT] at a1 a3;obtain ⟨a4,a5,a6⟩:=p7.TS s0 a1;rw [hT,hR] at a3;rw [hT] at a6;have e1:p7.rest s0=b:=rfl;have e2:p7.rest R.2=R.2.b:=rfl;rw [e1,a3,e2] at a6;exact ⟨by rw [a6];simp,rfl,fun p hp=>by simp at hp⟩
  ·obtain ⟨m1,m2⟩:=Ox hm.1;obtain ⟨a1,a2,a3⟩:=p7.TR s0 m.name (tA (m.parts.length:Int)::m.parts.flatMap AA) m1 rfl (by show b=_;rw [hm.2.2];simp [Jz]);rw [hT] at a1 a2 a3;obtain ⟨a4,a5,a6⟩:=p7.OG Tx.2 m.parts.length (m.parts.flatMap AA) m2 a3 a2;rw [hR] at a4 a5 a6;exact ⟨a6,a1,a4,rfl,a5⟩
 have Dh:∀ (i:Nat) (q:List UInt8) (bad:Bool) (ps:List Part),B5 b Tx.1 R.1 i q bad ps→(bad=false→i=R.1)→ve.k1 Tx ps q bad=some (uz b):=by
  intro i q bad ps hI hi;rw [← YR h4 hI hi];simp only [ve.k1];have e:decide (0 < (q.length:Int))=decide (0 < q.length):=by rw [decide_eq_decide];omega
  rw [e];cases hc:(bad||decide (0 < q.length)) with
  | true=>rw [te (by simp),oA];rfl
  | false =>
   rw [qA (by simp),Yt,oA]
   by_cases hm:tX ⟨Tx.1,ps⟩
   ·rw [if_pos hm];simp [hm]
   ·rw [if_neg hm];simp [hm]
 refine sy (S:=Int × List UInt8 × Bool × List Part) (σ:=List UInt8 × Bool × List Part) (fun i s=>((i:Int),s.1,s.2.1,s.2.2)) R.1 (fun i s=>B5 b Tx.1 R.1 i s.1 s.2.1 s.2.2∧s.2.2.length=i) _ (i0:=0) (s0:=(R.2.b,R.2.bad,[])) rfl (pY _) ⟨RQ,rfl⟩ (by omega) ?_ ?_
 ·rintro rec i ⟨q,bad,ps⟩ hi ⟨hI,Ar⟩ pq;simp only at hI Ar pq;simp only [ve.l2];rw [oW (pH hi)];have hql:=hI.len;rw [aef ⟨q,bad⟩ (by show q.length≤_;omega)]
  let s:si:=⟨q,bad⟩
  have g2:=SD s;have g3:=HU (p7.text s).2 2;have g4:=HU (p7.num (p7.text s).2 2).2 1;have g5:=OH (p7.num (p7.text s).2 2).2;have Dp:=p7.Xx s;have sG:=p7.Xw s;have eh:p7.head s=((p7.text s).1,(p7.num (p7.text s).2 2).1,(p7.num (p7.num (p7.text s).2 2).2 1).1,(p7.num (p7.num (p7.text s).2 2).2 1).2):=rfl;rw [eh] at Dp sG;simp only at Dp sG;show loop (ve.l5 Tx (i:Int) ps rec (p7.text s) (((p7.num (p7.text s).2 2).1:Int),(p7.num (p7.text s).2 2).2) (((p7.num (p7.num (p7.text s).2 2).2 1).1:Int),(p7.num (p7.num (p7.text s).2 2).2 1).2)) _=_;generalize hE:p7.num (p7.num (p7.text s).2 2).2 1=E at Dp sG g4 g5 ⊢;generalize p7.num (p7.text s).2 2=D at Dp sG g3 g4 ⊢;generalize p7.text s=P at Dp sG g2 g3 ⊢;have hEl:E.2.b.length≤q.length:=by have:P.2.b.length≤q.length:=g2;omega
  refine sy (S:=Int × List UInt8 × Bool × List (List UInt8)) (σ:=List UInt8 × Bool × List (List UInt8)) (fun j s=>((j:Int),s.1,s.2.1,s.2.2)) E.1 (fun j z=>z.1.length≤q.length∧z.2.2.length=j∧(∀ x∈z.2.2,x.length=32)∧(z.2.1=false→E.2.bad=false∧E.2.b=z.2.2.flatten++z.1)∧(∀ (ids:List (List UInt8)) (t:List UInt8),E.2.bad=false→E.2.b=ids.flatten++t→(∀ x∈ids,x.length=32)→ids.length=E.1→z.2.1=false∧z.2.2=ids.take j∧z.1=(ids.drop j).flatten++t)) _ (i0:=0) (s0:=(E.2.b,E.2.bad,[])) rfl (pY _) ⟨hEl,rfl,fun x hx=>by simp at hx,fun h=>⟨h,rfl⟩,fun ids t h1 h2 h3 h4=>⟨h1,rfl,h2⟩⟩ (by omega) ?_ ?_
  ·rintro vU j ⟨z,zb,zi⟩ hj ⟨j1,j2,j3,j4,j5⟩ Au;simp only at j1 j2 j3 j4 j5 Au;simp only [ve.l5];rw [oW (pH hj),show (32:Int)=((32:Nat):Int) from rfl,Pm ⟨z,zb⟩ 32 (by omega) (by show z.length≤_;omega),oA];have k1:=p7.len ⟨z,zb⟩ 32;have k2:=TP ⟨z,zb⟩ 32;have k3:=p7.sound ⟨z,zb⟩ 32;have k4:=p7.full ⟨z,zb⟩;have e3:p7.take=wx:=rfl;rw [e3] at k1 k3 k4;have ha:Hc (wx ⟨z,zb⟩ 32).1=some (wx ⟨z,zb⟩ 32).1:=by
    unfold Hc;rw [if_pos (by omega),Bl (by omega)]
   rw [ha,oA,rl (by simp;omega),oA,pt (by omega)];refine Au ((wx ⟨z,zb⟩ 32).2.b,(wx ⟨z,zb⟩ 32).2.bad,zi++[(wx ⟨z,zb⟩ 32).1]) ⟨?_,by simp [j2],fun x hx=>?_,fun hb=>?_,fun ids t h1 h2 h3 h4=>?_⟩
   ·have:(wx ⟨z,zb⟩ 32).2.b.length≤z.length:=k2;show (wx ⟨z,zb⟩ 32).2.b.length≤q.length;omega
   ·rcases vj.1 hx with h | h
    ·exact j3 x h
    ·simp at h;subst h;exact k1
   ·obtain ⟨l1,l2⟩:=k3 hb;obtain ⟨l3,l4⟩:=j4 l1;refine ⟨l3,?_⟩;have l5:z=(wx ⟨z,zb⟩ 32).1++(wx ⟨z,zb⟩ 32).2.b:=l2;rw [l4]
    conv=>lhs;rw [l5]
    simp
   ·obtain ⟨l1,l2,l3⟩:=j5 ids t h1 h2 h3 h4;have ta:j < ids.length:=by omega
    rw [BV ta,vh,tF] at l3;have hx:=h3 _ (qW ta);obtain ⟨l4,l5,l6⟩:=k4 ids[j] ((ids.drop (j+1)).flatten++t) l1 l3;rw [hx] at l4 l5 l6;exact ⟨l6,by show zi++[_]=_;rw [l2,l4,tN ta],l5⟩
  ·rintro vU ⟨z,zb,zi⟩ ⟨j1,j2,j3,j4,j5⟩;simp only at j1 j2 j3 j4 j5;simp only [ve.l5,ve.k4,ve.k3];rw [oX (pL (pS _)),rl (by simp;omega),oA,pt (by omega)];have sw:B5 b Tx.1 R.1 (i+1) z zb (ps++[Part.mk P.1 (D.1:Int) zi]):=by
    refine hI.step j1 (fun xG=>?_) (fun p0 t Hr hw hq=>?_) hi
    ·obtain ⟨l1,l2⟩:=j4 xG;obtain ⟨l3,l4,l5,l6,l7⟩:=Dp l1;have e4:p7.rest s=q:=rfl;have e5:p7.rest E.2=E.2.b:=rfl;rw [e4,e5] at l7;refine ⟨l3,?_,l4,by show (0:Int)≤(D.1:Int);omega,by show (D.1:Int) < 65536;omega,by show zi.length < 256;omega,j3⟩;rw [GA _ D.1 rfl,l7,l2];simp only [j2,tF]
    ·obtain ⟨w1,w2,w3,w4,w5⟩:=hw;obtain ⟨n0,yH⟩:=Kc w2;have Ap:n0 < 65536:=by omega
     rw [GA p0 n0 yH,tF] at hq;obtain ⟨l1,l2,l3,l4,l5⟩:=sG p0.path (p0.ids.flatten++t) n0 p0.ids.length w1 Ap w4 Hr hq;obtain ⟨l6,l7,l8⟩:=j5 p0.ids t l5 l4 w5 l3.symm;rw [l3,uf] at l7;rw [l3,FA] at l8;refine ⟨?_,l8,l6⟩;obtain ⟨pp,ps0,pi⟩:=p0;simp only at l1 l7 yH;rw [l1,l2,l7,yH]
   cases xG:zb with
   | true =>
    rw [if_pos rfl];rw [xG] at sw;exact Dh _ _ _ _ sw (fun h=>by cases h)
   | false =>
    rw [if_neg (by simp)];rw [xG] at sw;exact pq (z,false,ps++[Part.mk P.1 (D.1:Int) zi]) ⟨sw,by simp [Ar]⟩
 ·rintro rec ⟨q,bad,ps⟩ ⟨hI,Ar⟩;simp only at hI Ar;simp only [ve.l2];rw [oX (pL (pS _))];exact Dh _ _ _ _ hI fun _=>rfl
end Go.Wk.Lf
end
section
namespace Go.Wk.Lf
open Go.V Go.Sort Go.Proofs
theorem uJ {α:Type} (b:Bool) (x z:α):only b (some x) z=some (if b=true then x else z):=by
 cases b <;> rfl
def qE (n:Nat) (ok:Nat→Bool):Bool:=(sN n).all ok
theorem wb {n:Nat} {ok:Nat→Bool}:qE n ok=true ↔ ∀ i,i < n→ok i=true:=by simp [qE]
theorem Ym {S A:Type} {F:(S→Option A)→S→Option A} (mk:Nat→S) (n:Nat) (ok:Nat→Bool) (K B:Option A) {x0:S} (hx:x0=mk 0) (hn:n < 4611686018427387904)
  (sw:∀ rec i,i < n→F rec (mk i)=if ok i=true then rec (mk (i+1)) else B) (tv:∀ rec,F rec (mk n)=K):loop F x0=if qE n ok=true then K else B:=by
 rw [Ow mk n ok K B hx hn sw tv]
 by_cases h:qE n ok=true
 ·rw [if_pos h,if_pos (wb.1 h)]
 ·rw [if_neg h,if_neg fun q=>h (wb.2 q)]
theorem Ax {A:Type} {F:(Int→Option A)→Int→Option A} (n:Nat) (ok:Nat→Bool) (K B:Option A) (hn:n < 4611686018427387904)
  (sw:∀ rec (i:Nat),i < n→F rec (i:Int)=if ok i=true then rec ((i+1:Nat):Int) else B) (tv:∀ rec,F rec (n:Int)=K):loop F 0=if qE n ok=true then K else B :=
 Ym (x0:=(0:Int)) (fun i=>(i:Int)) n ok K B rfl hn sw tv
theorem VC {α:Type} [Inhabited α] (l:List α) (p:α→Bool):qE l.length (fun i=>p (l.getD i default))=l.all p:=by
 rw [J7,wb];exact KE l p (fun i=>p (l.getD i default)) fun i hi=>by simp [hi]
theorem pC {α:Type} [Inhabited α] {l:List α} {i:Nat} (h:i < l.length):l.getD i default=l[i]:=by simp [h]
def qg (n a b:Int):Bool:=decide (a≤n)&&decide (n≤b)
theorem Js (n a b:Int):Ac n a b=some (qg n a b):=rfl
def Fl (v:oH):Bool:=qg v.AD 0 1&&qg v.Af 0 1048576&&((decide (v.state=2)&&qg v.files 1 65535)||((decide (v.state=1)||decide (v.state=3))&&decide (v.files=0)))
def Ih (l:List oH):Bool:=l.all Fl&&qg (l.length:Int) 1 8
theorem ite_not {α:Type} {b c:Bool} {x y:α} (h:b = !c):(if b=true then x else y)=if c=true then y else x:=by
 subst h;cases c <;> rfl
theorem alA (l:List oH) (hl:l.length≤1073741824):Ce l=some (Ih l):=by
 unfold Ce;rw [Ax l.length (fun i=>Fl (l.getD i default)) (some (qg (l.length:Int) 1 8)) (some false) (by omega) ?_ ?_,VC]
 ·unfold Ih;cases l.all Fl <;> rfl
 ·intro rec i hi;simp only [Ce.l2];rw [oW (pH hi),pr hi,oA];simp only [Js,uJ,oA,pt (show i < 4611686018427387904 by omega),pC hi];refine ite_not ?_;unfold Fl;cases qg l[i].AD 0 1 <;> cases qg l[i].Af 0 1048576 <;> cases decide (l[i].state=2) <;> cases qg l[i].files 1 65535 <;> simp
 ·intro rec;simp only [Ce.l2,Ce.k1];rw [oX (pL (pS _))];rfl
def SG (vs:List oH) (x:Loc):Bool:=qg x.pE 0 ((vs.length:Int) - 1)&&decide ((vs.getD x.pE.toNat default).state=2)&&qg x.file 1 (vs.getD x.pE.toNat default).files&&qg x.off 0 16777215&&qg x.len 13 8013
def FM (a b:Loc):Bool:=if a.pE≠b.pE then decide (b.pE < a.pE) else if a.file≠b.file then decide (b.file < a.file) else decide (b.off < a.off)
theorem aaR (a b:Loc):Nw a b=some (FM a b):=by
 unfold Nw FM;simp only [decide_eq_true_eq]
 split
 ·rfl
 ·split <;> rfl
def HV (vs:List oH) (l:List Loc) (i:Nat):Bool:=SG vs (l.getD i default)&&(!decide (0 < i)||FM (l.getD i default) (l.getD (i - 1) default))
def va (vs:List oH) (l:List Loc):Bool:=decide (l.length≤200)&&qE l.length (HV vs l)
theorem Cz {n a b:Int}:qg n a b=true ↔ a≤n∧n≤b:=by simp [qg]
theorem X9 {α:Type} [Inhabited α] {l:List α} {i:Int} (h0:0≤i) (h1:i≤(l.length:Int) - 1):ix l i=some (l.getD i.toNat default):=by
 obtain ⟨n,rfl⟩:∃ n:Nat,i=n:=⟨i.toNat,by omega⟩
 rw [pr (by omega),ry,pC (by omega)]
theorem SH (c:mZ) (l:List Loc) (hv:c.oK.length≤1073741824):AU c l=some (va c.oK l):=by
 unfold AU va
 by_cases hl:l.length≤200
 ·rw [oX (decide_eq_false (by omega))];rw [Ax l.length (HV c.oK l) (some true) (some false) (by omega) ?_ ?_,decide_eq_true hl]
  ·cases qE l.length (HV c.oK l) <;> rfl
  ·intro rec i hi;simp only [AU.l2];rw [oW (pH hi),pr hi,oA];simp only [Js,uJ,oA,rU (show (-9223372036854775808:Int)≤(c.oK.length:Int) - 1 by omega) (by omega),pt (show i < 4611686018427387904 by omega)];have e1:l.getD i default=l[i]:=pC hi;unfold HV SG;rw [e1]
   by_cases h1:qg l[i].pE 0 ((c.oK.length:Int) - 1)=true
   ·obtain ⟨a0,a1⟩:=Cz.1 h1;rw [h1,X9 a0 a1];simp only [uJ,oA,uP,x5,if_true]
    by_cases h0:0 < i
    ·have e2:ix l (wr ((i:Int) - 1))=some (l.getD (i - 1) default):=by
      rw [BR h0 (by omega),pr (show i - 1 < l.length by omega),pC (by omega)]
     rw [e2];have rp:decide ((0:Int) < (i:Int))=true:=decide_eq_true (by omega);rw [rp,decide_eq_true h0];simp only [uJ,oA,aaR];refine ite_not ?_;generalize qg l[i].off 0 16777215=p;generalize qg l[i].len 13 8013=q
     by_cases hs:(c.oK.getD l[i].pE.toNat default).state=2
     ·simp only [hs,ne_eq,not_true_eq_false,decide_false,decide_true,PE,uB,x5,if_true,uQ,DF];generalize qg l[i].file 1 (c.oK.getD l[i].pE.toNat default).files=s;cases s <;> cases p <;> cases q <;> simp
     ·simp only [hs,ne_eq,not_false_eq_true,decide_true,decide_false,CP,Bool.or_true,Fs,xg,x5,uB]
    ·have rp:decide ((0:Int) < (i:Int))=false:=decide_eq_false (by omega);rw [rp,decide_eq_false h0];simp only [Fs,te,uJ,oA,xg,Bool.or_false,x5,CP,DF];refine ite_not ?_;generalize qg l[i].off 0 16777215=p;generalize qg l[i].len 13 8013=q
     by_cases hs:(c.oK.getD l[i].pE.toNat default).state=2
     ·simp only [hs,ne_eq,not_true_eq_false,decide_false,decide_true,PE,uB,x5,if_true,uQ,DF];generalize qg l[i].file 1 (c.oK.getD l[i].pE.toNat default).files=s;cases s <;> cases p <;> cases q <;> simp
     ·simp only [hs,ne_eq,not_false_eq_true,decide_true,decide_false,CP,Bool.or_true,Fs,xg,x5,uB]
   ·rw [DG] at h1;rw [h1];simp only [x5,uP,te,oA,CP,xg,Fs,if_false,if_true];rfl
  ·intro rec;simp only [AU.l2,AU.k1];rw [oX (pL (pS _))]
 ·rw [oW (decide_eq_true (by omega)),decide_eq_false hl];rfl
end Go.Wk.Lf
end
section
namespace Go.Wk.Lf
open Go.V Go.Sort Go.Proofs
def Dc (f:Nat→Bool):Nat→Nat→Nat
 | _,0=>0
 | i,n+1=>if f i=true then Dc f (i+1) n+1 else 0
def yN (n:Nat) (f:Nat→Bool):Nat:=Dc f 0 n
theorem WX (f:Nat→Bool):∀ n i,Dc f i n≤n
 | 0,i=>px _
 | n+1,i=>by unfold Dc;split;exact Nat.succ_le_succ (WX f n _);exact pY _
theorem WZ (f:Nat→Bool):∀ n i q,q < Dc f i n→f (i+q)=true
 | 0,i,q,h=>by cases h
 | n+1,i,q,h=>by
  unfold Dc at h
  split at h
  ·cases q with
   | zero=>assumption
   | succ q=>have:=WZ f n (i+1) q (by omega);rwa [show i+1+q=i+(q+1) by omega] at this
  ·cases h
theorem WY (f:Nat→Bool):∀ n i,Dc f i n < n→f (i+Dc f i n)=false
 | 0,i,h=>by cases h
 | n+1,i,h=>by
  unfold Dc at h ⊢
  split at h
  ·rename_i hf;rw [if_pos hf];have:=WY f n (i+1) (by omega);rwa [show i+1+Dc f (i+1) n=i+(Dc f (i+1) n+1) by omega] at this
  ·rename_i hf;rw [if_neg hf,xM];simpa using hf
theorem H2 (n:Nat) (f:Nat→Bool):yN n f≤n:=WX f n 0
theorem OS {n:Nat} {f:Nat→Bool} {q:Nat} (h:q < yN n f):f q=true:=by have:=WZ f n 0 q h;rwa [pA] at this
theorem OR {n:Nat} {f:Nat→Bool} (h:yN n f < n):f (yN n f)=false:=by have:=WY f n 0 h;rwa [pA] at this
theorem Ec {n:Nat} {f:Nat→Bool} {k:Nat} (hk:k≤n) (h1:∀ q,q < k→f q=true) (h2:k < n→f k=false):yN n f=k:=by
 rcases Nat.lt_trichotomy (yN n f) k with h | h | h
 ·have:=OR (n:=n) (f:=f) (by omega);rw [h1 _ h] at this;cases this
 ·exact h
 ·have:=OS h;rw [h2 (by have:=H2 n f;omega)] at this;cases this
theorem QL {A:Type} {F:(Int × Int→Option A)→Int × Int→Option A} (n:Nat) (f:Nat→Bool) (K:Nat→Option A) (hn:n≤1073741824) (XH:∀ i j,i < j→j < n→f j=true→f i=true)
  (sw:∀ rec (i j:Nat),i < j→j≤n→F rec ((i:Int),(j:Int))=if f ((i+j) / 2)=true then rec ((((i+j) / 2+1:Nat):Int),(j:Int)) else rec ((i:Int),(((i+j) / 2:Nat):Int)))
  (tv:∀ rec (i:Nat),i≤n→F rec ((i:Int),(i:Int))=K i):loop F (0,(n:Int))=K (yN n f):=by
 refine Yn (S:=Int × Int) (fun s=>∃ i j:Nat,s=((i:Int),(j:Int))∧i≤j∧j≤n∧(∀ q,q < i→f q=true) ∧ ∀ q,j≤q→q < n→f q=false) (fun s=>(s.2 - s.1).toNat) ⟨0,n,rfl,pY _,px _,fun q h=>by omega,fun q h1 h2=>by omega⟩ (by simp only;omega) ?_;rintro rec s ⟨i,j,rfl,An,N9,h1,h2⟩ pq
 by_cases h:i=j
 ·subst h;rw [tv rec i N9,Ec N9 h1 fun h=>h2 i (px _) h]
 ·have pv:i < j:=by omega
  rw [sw rec i j pv N9]
  by_cases hf:f ((i+j) / 2)=true
  ·rw [if_pos hf];refine pq _ ⟨_,j,rfl,by omega,N9,fun q hq=>?_,h2⟩ (by simp only;omega)
   by_cases E3:q=(i+j) / 2
   ·rw [E3];exact hf
   ·exact XH q ((i+j) / 2) (by omega) (by omega) hf
  ·rw [if_neg hf];refine pq _ ⟨i,_,rfl,by omega,by omega,h1,fun q hq hqn=>?_⟩ (by simp only;omega)
   by_cases E3:q=(i+j) / 2
   ·rw [E3];simpa using hf
   ·cases hfq:f q with
    | false=>rfl
    | true=>exact absurd (XH ((i+j) / 2) q (by omega) hqn hfq) hf
theorem SL {i j:Nat} (hi:i≤1073741824) (hj:j≤1073741824):wr ((wu (wr ((i:Int)+(j:Int)))) / 2 ^ (1:Int).toNat)=(((i+j) / 2:Nat):Int):=by
 have h1:wr ((i:Int)+(j:Int))=((i+j:Nat):Int):=by rw [rU (by omega) (by omega)];omega
 have h2:wu (((i+j:Nat):Int))=((i+j:Nat):Int):=by
  show IntKind.u64.wrap _=_;have:(((i+j:Nat):Int) % (2 ^ 64:Int))=((i+j:Nat):Int):=Int.emod_eq_of_lt (by omega) (by omega);exact this
 rw [h1,h2];have h3:(((i+j:Nat):Int)) / 2 ^ (1:Int).toNat=(((i+j) / 2:Nat):Int):=by
  show ((i+j:Nat):Int) / 2 ^ 1=_;omega
 rw [h3,rU (by omega) (by omega)]
def yr {α:Type} [Inhabited α] (l:List α) (lt:α→Bool):Nat:=yN l.length fun i=>lt (l.getD i default)
theorem Wt (a b:List UInt8):decide (uE a b < 0)=qI a b:=by rw [← I4];rfl
theorem acD (a b:List UInt8):decide (uE a b=0)=decide (a=b):=by
 have h1:=I4 a b;have h2:=I4 b a
 by_cases h:a=b
 ·subst h;have:uE a a=0:=by unfold uE;rw [Fj];rfl
  simp [this]
 ·have:uE a b≠0:=by
   unfold uE
   by_cases h3:qI a b=true
   ·simp [h3]
   ·by_cases h4:qI b a=true
    ·simp [h3,h4]
    ·exact absurd (H9 (by simpa using h3) (by simpa using h4)) h
  simp [this,h]
theorem Q2 (a b:List UInt8):Nx a b=some (uE a b):=rfl
def C0 (l:List Chunk):Prop:=l.Pairwise fun a b=>qI a.id b.id=true
theorem JK {α:Type} {R:α→α→Prop} {l:List α} (h:l.Pairwise R) {i j:Nat} (An:i < j) (hj:j < l.length):R (l[i]'(by omega)) l[j]:=G3.1 h i j (by omega) hj An
def wG (l:List Chunk) (id:List UInt8):Nat:=yr l fun x=>qI x.id id
def vr (l:List Chunk) (id:List UInt8):Bool:=decide (wG l id < l.length)&&decide ((l.getD (wG l id) default).id=id)
theorem S3 (l:List Chunk) (id:List UInt8) (hl:l.length≤1073741824) (hr:C0 l) :
  IX l id=some (((wG l id:Nat):Int),vr l id):=by
 unfold IX;rw [show CH l id=some (((wG l id:Nat):Int),vr l id) from ?_]
 ·rfl
 unfold vr wG yr CH;refine QL l.length (fun i=>qI (l.getD i default).id id) (fun k=>some ((k:Int),decide (k < l.length)&&decide ((l.getD k default).id=id))) hl ?_ ?_ ?_
 ·intro i j An hj h;rw [pC hj] at h;rw [pC (by omega)];exact Fk (JK hr An hj) h
 ·intro rec i j An hj;simp only [CH.l2];have hm:(i+j) / 2 < l.length:=by omega
  rw [oW (pH An),SL (by omega) (by omega),pr hm,oA];simp only [KL,Q2,oA,Wt,pC hm,pt (show (i+j) / 2 < 4611686018427387904 by omega)]
 ·intro rec i hi;simp only [CH.l2,CH.k1];rw [oX (pL (pS _))]
  by_cases h:i < l.length
  ·simp only [pH h,pr h,uJ,oA,if_true,KL,Q2,uQ,pC h,decide_eq_true h,acD]
  ·simp only [pL h,te,oA,xg,decide_eq_false h]
theorem Q1 (l:List Chunk) (id:List UInt8):wG l id≤l.length:=H2 _ _
theorem N0 {l:List Chunk} (hr:C0 l) (id:List UInt8):vr l id=true ↔ ∃ x∈l,x.id=id:=by
 unfold vr;simp only [rk,decide_eq_true_eq];constructor
 ·rintro ⟨h1,h2⟩;rw [pC h1] at h2;exact ⟨_,qW h1,h2⟩
 ·rintro ⟨x,hx,rfl⟩;obtain ⟨i,hi,rfl⟩:=vX hx;have:wG l l[i].id=i:=Ec (zx hi) (fun q hq=>by
   rw [pC (by omega)];exact JK hr hq hi) (fun _=>by rw [pC hi];exact Fj _)
  rw [this];exact ⟨hi,by rw [pC hi]⟩
end Go.Wk.Lf
end
section
namespace Go.Wk.Lf
open Go.V Go.Sort Go.Proofs
def vI (n:Nat) (p:Nat→Bool):Int:=if yN n (fun i=>!p i) < n then (yN n (fun i=>!p i):Int) else -1
theorem Gp {F:(Int→Option Int)→Int→Option Int} (n:Nat) (p:Nat→Bool) (hn:n < 4611686018427387904) (sw:∀ rec (i:Nat),i < n→F rec (i:Int)=if p i=true then some (i:Int) else rec ((i+1:Nat):Int)) (tv:∀ rec,F rec (n:Int)=some (-1)):loop F 0=some (vI n p):=by
 refine sy (σ:=Unit) (fun i _=>(i:Int)) n (fun i _=>∀ q,q < i→p q=false) _ (i0:=0) (s0:=()) rfl (pY _) (fun q h=>by omega) hn ?_ ?_
 ·intro rec i _ hi hI pq;rw [sw rec i hi]
  by_cases h:p i=true
  ·rw [if_pos h];have hk:yN n (fun i=>!p i)=i:=Ec (zx hi) (fun q hq=>by rw [hI q hq];rfl) (fun _=>by rw [h];rfl);unfold vI;rw [hk,if_pos hi]
  ·rw [if_neg h];refine pq () fun q hq=>?_
   by_cases E3:q=i
   ·subst E3;simpa using h
   ·exact hI q (by omega)
 ·intro rec _ hI;rw [tv];unfold vI;rw [show yN n (fun i=>!p i)=n from Ec (px _) (fun q hq=>by rw [hI q hq];rfl) (fun h=>by omega),if_neg (pS _)]
theorem K2 {n:Nat} {p:Nat→Bool}:decide (0≤vI n p) = !qE n (fun i=>!p i):=by
 unfold vI
 by_cases h:yN n (fun i=>!p i) < n
 ·rw [if_pos h];have:qE n (fun i=>!p i)=false:=by
   cases hq:qE n (fun i=>!p i) with
   | false=>rfl
   | true=>have:=wb.1 hq _ h;rw [OR h] at this;cases this
  rw [this];simp
 ·rw [if_neg h];have h2:=H2 n (fun i=>!p i);have:qE n (fun i=>!p i)=true:=wb.2 fun i hi=>OS (n:=n) (f:=fun i=>!p i) (by omega);rw [this];rfl
theorem acB (a b:List UInt8):decide (0≤uE a b) = !qI a b:=by
 rw [← Wt]
 by_cases h:uE a b < 0
 ·simp [h]
 ·simp [h];omega
def I3 (x:Chunk):Bool:=if x.pX=true then qg (x.data.length:Int) 1 64 else decide (x.data.length=0)&&decide (0 < x.oN.length)
def Ad (c:mZ) (i:Nat):Bool:=(!decide (0 < i)||qI (c.chunks.getD (i - 1) default).id (c.chunks.getD i default).id)&&va c.oK (c.chunks.getD i default).oN&&I3 (c.chunks.getD i default)
def DS (c:mZ):Bool:=qE c.chunks.length (Ad c)&&decide (c.chunks.length≤200)
theorem acy (c:mZ) (hv:c.oK.length≤1073741824) (hl:c.chunks.length≤1073741824):Cc c=some (DS c):=by
 unfold Cc;rw [Ax c.chunks.length (Ad c) (some (decide (c.chunks.length≤200))) (some false) (by omega) ?_ ?_]
 ·unfold DS;cases qE c.chunks.length (Ad c) <;> rfl
 ·intro rec i hi;simp only [Cc.l2];rw [oW (pH hi),pr hi,oA];have e1:c.chunks.getD i default=c.chunks[i]:=pC hi;simp only [Js,uJ,oA,SH _ _ hv,pt (show i < 4611686018427387904 by omega),Q2];have key:∀ (o:Bool) (x:Chunk),(if ((((o || !(if (!o)=true then va c.oK x.oN else false))||((!x.pX)&&(decide (0 < (x.data.length:Int))||decide ((x.oN.length:Int)=0))))||(x.pX && !(if ((!((o || !(if (!o)=true then va c.oK x.oN else false))||((!x.pX)&&(decide (0 < (x.data.length:Int))||decide ((x.oN.length:Int)=0)))))&&x.pX)=true then qg (x.data.length:Int) 1 64 else false))))=true then some false else rec ((i+1:Nat):Int))=if (!o&&va c.oK x.oN&&I3 x)=true then rec ((i+1:Nat):Int) else some false:=by
   intro o x;refine ite_not ?_;unfold I3;have d1:decide ((0:Int) < (x.data.length:Int)) = !decide (x.data.length=0):=by
    by_cases h:x.data.length=0
    ·simp [h]
    ·rw [decide_eq_false h,decide_eq_true (by omega)];rfl
   have d2:decide ((x.oN.length:Int)=0) = !decide (0 < x.oN.length):=by
    by_cases h:0 < x.oN.length
    ·rw [decide_eq_true h,decide_eq_false (by omega)];rfl
    ·rw [decide_eq_false h,decide_eq_true (by omega)];rfl
   rw [d1,d2];generalize decide (x.data.length=0)=p;generalize decide (0 < x.oN.length)=q;generalize qg (x.data.length:Int) 1 64=s;generalize va c.oK x.oN=u;generalize x.pX=v;cases o <;> cases p <;> cases q <;> cases s <;> cases u <;> cases v <;> rfl
  by_cases h0:0 < i
  ·have e2:ix c.chunks (wr ((i:Int) - 1))=some (c.chunks.getD (i - 1) default):=by
    rw [BR h0 (by omega),pr (show i - 1 < c.chunks.length by omega),pC (by omega)]
   have rp:decide ((0:Int) < (i:Int))=true:=decide_eq_true (by omega);rw [e2,rp];simp only [uJ,oA,if_true,uQ,acB];refine (key _ _).trans ?_;unfold Ad;rw [e1,decide_eq_true h0];simp only [Ft,uP,uB]
  ·have rp:decide ((0:Int) < (i:Int))=false:=decide_eq_false (by omega);rw [rp];simp only [te,oA,xg];refine (key _ _).trans ?_;unfold Ad;rw [e1,decide_eq_false h0];rfl
 ·intro rec;simp only [Cc.l2,Cc.k1];rw [oX (pL (pS _))]
  congr 1
  by_cases h:c.chunks.length≤200
  ·rw [decide_eq_true h,decide_eq_true (by omega)]
  ·rw [decide_eq_false h,decide_eq_false (by omega)]
theorem Wp {c:mZ} (h:DS c=true):C0 c.chunks:=by
 unfold DS at h;rw [rk,wb] at h;refine (Qv (fun a b:Chunk=>qI a.id b.id=true) (fun h1 h2=>Fk h1 h2) c.chunks).2 fun i hi h0=>?_;have:=h.1 i hi;unfold Ad at this;rw [pC hi,pC (show i - 1 < c.chunks.length by omega),decide_eq_true h0] at this;simp only [uP,uB,rk] at this;exact this.1.1
instance (m : oP) : Decidable (tX m) := by unfold tX H6; infer_instance
def Gm (c:mZ) (m:oP):Bool:=qE m.parts.length fun i=>qE (m.parts.getD i default).ids.length fun k=>vr c.chunks ((m.parts.getD i default).ids.getD k default)
def Em (c:mZ) (i:Nat):Bool:=qg (c.oB.getD i default).seq 0 (c.seq - 1)&&(!decide (0 < i)||decide ((c.oB.getD (i - 1) default).seq < (c.oB.getD i default).seq)) && !decide ((c.oB.getD i default).oJ.name∈(c.oB.take i).map fun s=>s.oJ.name)&&decide (tX (c.oB.getD i default).oJ)&&va c.oK (c.oB.getD i default).oN&&Gm c (c.oB.getD i default).oJ
def GH (c:mZ):Bool:=qE c.oB.length (Em c)&&decide (c.oB.length≤8)
def CB (l:List lU):List UInt8→Option Bool:=fun k=>if k∈l.map (fun s=>s.oJ.name) then some true else none
theorem ahg (l:List lU) (s:lU):D8 (CB l) s.oJ.name true=CB (l++[s]):=by
 funext k
 simp only [D8,CB,z6,xi,Kg,vj,yT]
 by_cases h:k=s.oJ.name
 ·simp [h]
 ·simp [h]
theorem akq (c:mZ) (hv:c.oK.length≤1073741824) (hc:c.chunks.length≤1073741824) (hr:C0 c.chunks) (hl:c.oB.length≤1073741824) (h0:0≤c.seq) (h1:c.seq≤1073741824):uw c=some (GH c):=by
 unfold uw;rw [show ((0:Int),(SQ:List UInt8→Option Bool))=((fun i:Nat=>((i:Int),CB (c.oB.take i))) 0) from by simp [CB];rfl];rw [Ym (fun i:Nat=>((i:Int),CB (c.oB.take i))) c.oB.length (Em c) (some (decide (c.oB.length≤8))) (some false) rfl (by omega) ?_ ?_]
 ·unfold GH;cases qE c.oB.length (Em c) <;> rfl
 ·intro rec i hi;simp only [uw.l2];rw [oW (pH hi),pr hi,oA];have e1:c.oB.getD i default=c.oB[i]:=pC hi;simp only [Js,uJ,oA,SH _ _ hv,Yt,rU (show (-9223372036854775808:Int)≤c.seq - 1 by omega) (by omega)];have hm:(CB (c.oB.take i) c.oB[i].oJ.name).getD false=decide (c.oB[i].oJ.name∈(c.oB.take i).map fun s=>s.oJ.name):=by
   unfold CB
   by_cases h:c.oB[i].oJ.name∈(c.oB.take i).map fun s=>s.oJ.name
   ·rw [if_pos h,decide_eq_true h];rfl
   ·rw [if_neg h,decide_eq_false h];rfl
  rw [hm];have zK:tX c.oB[i].oJ→loop (uw.l4 c (i:Int) (CB (c.oB.take i)) rec c.oB[i]) 0=if Gm c c.oB[i].oJ=true then rec (((i+1:Nat):Int),CB (c.oB.take (i+1))) else some false:=by
   intro HF;refine Ax c.oB[i].oJ.parts.length _ _ _ (by have:=HF.2.1;omega) ?_ ?_
   ·intro vU j hj;simp only [uw.l4];rw [oW (pH hj),pr hj,oA,pC hj];have amk:c.oB[i].oJ.parts[j].ids.length≤25:=(ON (Gs HF _ (qW hj))).2.2.2.1;refine Ax c.oB[i].oJ.parts[j].ids.length _ _ _ (by omega) ?_ ?_
    ·intro Tm k hk;simp only [uw.l6];rw [oW (pH hk),pr hk,oA,S3 _ _ hc hr,oA,pC hk,pt (by omega)];exact ite_not rfl
    ·intro Tm;simp only [uw.l6,uw.k5];rw [oX (pL (pS _)),pt (by have:=HF.2.1;omega)]
   ·intro vU;simp only [uw.l4,uw.k3];rw [oX (pL (pS _)),pt (by omega),ahg,tN hi]
  have key:∀ (o:Bool),(if ((((!qg c.oB[i].seq 0 (c.seq - 1)||o)||decide (c.oB[i].oJ.name∈(c.oB.take i).map fun s=>s.oJ.name))||decide ((if (!((!qg c.oB[i].seq 0 (c.seq - 1)||o)||decide (c.oB[i].oJ.name∈(c.oB.take i).map fun s=>s.oJ.name)))=true then (if tX c.oB[i].oJ then (0:Int) else 1) else 0)≠0)) || !(if (!(((!qg c.oB[i].seq 0 (c.seq - 1)||o)||decide (c.oB[i].oJ.name∈(c.oB.take i).map fun s=>s.oJ.name))||decide ((if (!((!qg c.oB[i].seq 0 (c.seq - 1)||o)||decide (c.oB[i].oJ.name∈(c.oB.take i).map fun s=>s.oJ.name)))=true then (if tX c.oB[i].oJ then (0:Int) else 1) else 0)≠0)))=true then va c.oK c.oB[i].oN else false))=true then some false else loop (uw.l4 c (i:Int) (CB (c.oB.take i)) rec c.oB[i]) 0) =
    if (qg c.oB[i].seq 0 (c.seq - 1) && !o && !decide (c.oB[i].oJ.name∈(c.oB.take i).map fun s=>s.oJ.name)&&decide (tX c.oB[i].oJ)&&va c.oK c.oB[i].oN&&Gm c c.oB[i].oJ)=true then rec (((i+1:Nat):Int),CB (c.oB.take (i+1))) else some false:=by
   intro o
   by_cases HF:tX c.oB[i].oJ
   ·rw [zK HF];simp only [HF,if_true,decide_true];generalize Gm c c.oB[i].oJ=p;generalize va c.oK c.oB[i].oN=q;generalize decide (c.oB[i].oJ.name∈(c.oB.take i).map fun s=>s.oJ.name)=s;generalize qg c.oB[i].seq 0 (c.seq - 1)=u;cases o <;> cases p <;> cases q <;> cases s <;> cases u <;> rfl
   ·simp only [HF,if_false,decide_false];generalize Gm c c.oB[i].oJ=p;generalize va c.oK c.oB[i].oN=q;generalize decide (c.oB[i].oJ.name∈(c.oB.take i).map fun s=>s.oJ.name)=s;generalize qg c.oB[i].seq 0 (c.seq - 1)=u;cases o <;> cases p <;> cases q <;> cases s <;> cases u <;> rfl
  by_cases uy:0 < i
  ·have e2:ix c.oB (wr ((i:Int) - 1))=some (c.oB.getD (i - 1) default):=by
    rw [BR uy (by omega),pr (show i - 1 < c.oB.length by omega),pC (by omega)]
   have rp:decide ((0:Int) < (i:Int))=true:=decide_eq_true (by omega);rw [e2,rp];simp only [uJ,oA,uQ,DF];have y3:∀ z:lU,(!qg c.oB[i].seq 0 (c.seq - 1)||decide (c.oB[i].seq≤(if (!!qg c.oB[i].seq 0 (c.seq - 1))=true then c.oB.getD (i - 1) default else z).seq))=(!qg c.oB[i].seq 0 (c.seq - 1) || !decide ((c.oB.getD (i - 1) default).seq < c.oB[i].seq)):=by
    intro z;cases qg c.oB[i].seq 0 (c.seq - 1) with
    | false=>rfl
    | true =>
     simp only [uP,x5,if_true,uB]
     by_cases h:(c.oB.getD (i - 1) default).seq < c.oB[i].seq
     ·rw [decide_eq_true h,decide_eq_false (by omega)];rfl
     ·rw [decide_eq_false h,decide_eq_true (by omega)];rfl
   rw [y3];refine (key _).trans ?_;unfold Em;rw [e1,decide_eq_true uy];simp only [Ft,uP,uB]
  ·have rp:decide ((0:Int) < (i:Int))=false:=decide_eq_false (by omega);rw [rp];simp only [Fs,xg,te,oA];refine (key _).trans ?_;unfold Em;rw [e1,decide_eq_false uy];rfl
 ·intro rec;simp only [uw.l2,uw.k1];rw [oX (pL (pS _))]
  congr 1
  by_cases h:c.oB.length≤8
  ·rw [decide_eq_true h,decide_eq_true (by omega)]
  ·rw [decide_eq_false h,decide_eq_false (by omega)]
def DU (c:mZ) (i:Nat):Bool:=qg (c.oD.getD i default).seq 0 (c.seq - 1)&&(!decide (0 < i)||decide ((c.oD.getD (i - 1) default).seq < (c.oD.getD i default).seq))&&qg (c.oD.getD i default).of 0 ((c.oD.getD i default).seq - 1)&&decide (0 < (c.oD.getD i default).oN.length)&&va c.oK (c.oD.getD i default).oN&&qE c.oB.length fun k=>!decide ((c.oB.getD k default).seq=(c.oD.getD i default).of)
def FY (c:mZ):Bool:=qE c.oD.length (DU c)&&decide (c.oD.length≤200)
theorem acM (l:List lU) (x:oC) (hl:l.length≤1073741824):Pf l x=some (!qE l.length fun k=>!decide ((l.getD k default).seq=x.of)):=by
 unfold Pf DC;rw [Gp l.length (fun k=>decide ((l.getD k default).seq=x.of)) (by omega) ?_ ?_,oA,K2]
 ·intro rec i hi;simp only [DC.l2];rw [oW (pH hi),pr hi,oA,pC hi,pt (by omega)];rfl
 ·intro rec;simp only [DC.l2,DC.k1];rw [oX (pL (pS _))]
theorem adb (c:mZ) (hv:c.oK.length≤1073741824) (hs:c.oB.length≤1073741824) (hl:c.oD.length≤1073741824) (h0:0≤c.seq) (h1:c.seq≤1073741824):Cd c=some (FY c):=by
 unfold Cd;rw [Ax c.oD.length (DU c) (some (decide (c.oD.length≤200))) (some false) (by omega) ?_ ?_]
 ·unfold FY;cases qE c.oD.length (DU c) <;> rfl
 ·intro rec i hi;simp only [Cd.l2];rw [oW (pH hi),pr hi,oA];have e1:c.oD.getD i default=c.oD[i]:=pC hi;simp only [Js,uJ,oA,SH _ _ hv,acM _ _ hs,rU (show (-9223372036854775808:Int)≤c.seq - 1 by omega) (by omega),pt (show i < 4611686018427387904 by omega)];have d2:decide ((c.oD[i].oN.length:Int)=0) = !decide (0 < c.oD[i].oN.length):=by
   by_cases h:0 < c.oD[i].oN.length
   ·rw [decide_eq_true h,decide_eq_false (by omega)];rfl
   ·rw [decide_eq_false h,decide_eq_true (by omega)];rfl
  rw [d2];have hw:qg c.oD[i].seq 0 (c.seq - 1)=true→wr (c.oD[i].seq - 1)=c.oD[i].seq - 1:=fun h=>by
   obtain ⟨q1,q2⟩:=Cz.1 h;exact rU (by omega) (by omega)
  have key:∀ (o:Bool),(if ((((!qg c.oD[i].seq 0 (c.seq - 1)||o) || !(if (!(!qg c.oD[i].seq 0 (c.seq - 1)||o))=true then qg c.oD[i].of 0 (wr (c.oD[i].seq - 1)) else false)) || !decide (0 < c.oD[i].oN.length)) || !(if (!(((!qg c.oD[i].seq 0 (c.seq - 1)||o) || !(if (!(!qg c.oD[i].seq 0 (c.seq - 1)||o))=true then qg c.oD[i].of 0 (wr (c.oD[i].seq - 1)) else false)) || !decide (0 < c.oD[i].oN.length)))=true then va c.oK c.oD[i].oN else false))=true then some false else if (!qE c.oB.length fun k=>!decide ((c.oB.getD k default).seq=c.oD[i].of))=true then some false else rec ((i+1:Nat):Int)) =
    if (qg c.oD[i].seq 0 (c.seq - 1) && !o&&qg c.oD[i].of 0 (c.oD[i].seq - 1)&&decide (0 < c.oD[i].oN.length)&&va c.oK c.oD[i].oN&&qE c.oB.length fun k=>!decide ((c.oB.getD k default).seq=c.oD[i].of))=true then rec ((i+1:Nat):Int) else some false:=by
   intro o;cases zK:qg c.oD[i].seq 0 (c.seq - 1) with
   | false=>rfl
   | true =>
    rw [hw zK];generalize (qE c.oB.length fun k=>!decide ((c.oB.getD k default).seq=c.oD[i].of))=p;generalize va c.oK c.oD[i].oN=q;generalize decide (0 < c.oD[i].oN.length)=s;generalize qg c.oD[i].of 0 (c.oD[i].seq - 1)=u;cases o <;> cases p <;> cases q <;> cases s <;> cases u <;> rfl
  by_cases uy:0 < i
  ·have e2:ix c.oD (wr ((i:Int) - 1))=some (c.oD.getD (i - 1) default):=by
    rw [BR uy (by omega),pr (show i - 1 < c.oD.length by omega),pC (by omega)]
   have rp:decide ((0:Int) < (i:Int))=true:=decide_eq_true (by omega);rw [e2,rp];simp only [uJ,oA,uQ,DF];have y3:∀ z:oC,(!qg c.oD[i].seq 0 (c.seq - 1)||decide (c.oD[i].seq≤(if (!!qg c.oD[i].seq 0 (c.seq - 1))=true then c.oD.getD (i - 1) default else z).seq))=(!qg c.oD[i].seq 0 (c.seq - 1) || !decide ((c.oD.getD (i - 1) default).seq < c.oD[i].seq)):=by
    intro z;cases qg c.oD[i].seq 0 (c.seq - 1) with
    | false=>rfl
    | true =>
     simp only [uP,x5,if_true,uB]
     by_cases h:(c.oD.getD (i - 1) default).seq < c.oD[i].seq
     ·rw [decide_eq_true h,decide_eq_false (by omega)];rfl
     ·rw [decide_eq_false h,decide_eq_true (by omega)];rfl
   rw [y3];refine (key _).trans ?_;unfold DU;rw [e1,decide_eq_true uy];simp only [Ft,uP,uB]
  ·have rp:decide ((0:Int) < (i:Int))=false:=decide_eq_false (by omega);rw [rp];simp only [Fs,xg,te,oA];refine (key _).trans ?_;unfold DU;rw [e1,decide_eq_false uy];rfl
 ·intro rec;simp only [Cd.l2,Cd.k1];rw [oX (pL (pS _))]
  congr 1
  by_cases h:c.oD.length≤200
  ·rw [decide_eq_true h,decide_eq_true (by omega)]
  ·rw [decide_eq_false h,decide_eq_false (by omega)]
def wE (c:mZ):Bool:=qg c.seq 0 1073741824&&Ih c.oK&&DS c&&GH c&&FY c
theorem QZ (c:mZ) (hv:c.oK.length≤1073741824) (hc:c.chunks.length≤1073741824) (hs:c.oB.length≤1073741824) (he:c.oD.length≤1073741824):KJ c=some (if wE c=true then 0 else 1):=by
 unfold KJ wE;rw [Js,oA,alA _ hv,uJ,oA,acy _ hv hc,uJ,oA];cases h1:qg c.seq 0 1073741824 with
 | false=>rfl
 | true =>
  obtain ⟨s0,s1⟩:=Cz.1 h1;rw [adb c hv hs he s0 s1];cases h2:Ih c.oK with
  | false=>rfl
  | true =>
   cases h3:DS c with
   | false=>rfl
   | true =>
    rw [akq c hv hc (Wp h3) hs s0 s1];cases h4:GH c with
    | false=>rfl
    | true=>cases h5:FY c <;> rfl
end Go.Wk.Lf
end
section
namespace Go.Wk.Lf
open Go.V Go.Sort Go.Proofs
theorem JS {α:Type} [DecidableEq α] [Inhabited α] {F:(Int→Option Bool)→Int→Option Bool} {a b:List α} (hn:a.length < 4611686018427387904)
  (sw:∀ rec (i:Nat) (h1:i < a.length) (h2:i < b.length),F rec (i:Int)=if decide (a[i]=b[i])=true then rec ((i+1:Nat):Int) else some false) (tv:∀ rec,F rec (a.length:Int)=some true) :
  (if decide ((a.length:Int)≠(b.length:Int))=true then some false else loop F 0)=some (decide (a=b)):=by
 by_cases hl:a.length=b.length
 ·rw [oX (decide_eq_false (by omega)),Ax a.length (fun i=>decide (a.getD i default=b.getD i default)) (some true) (some false) hn ?_ tv]
  ·by_cases h:a=b
   ·subst h;rw [if_pos (wb.2 fun i hi=>by simp),decide_eq_true rfl]
   ·rw [if_neg ?_,decide_eq_false h];intro q;refine h (Ke hl fun i h1 h2=>?_);have:=wb.1 q i h1;rw [pC h1,pC h2] at this;exact of_decide_eq_true this
  ·intro rec i hi;rw [sw rec i hi (by omega),pC hi,pC (show i < b.length by omega)]
 ·rw [oW (decide_eq_true (by omega)),decide_eq_false fun h=>hl (by rw [h])]
theorem Ya (a b:List UInt8) (h:a.length≤1073741824):Bv a b=some (decide (a=b)):=by
 unfold Bv;refine JS (by omega) (fun rec i h1 h2=>?_) (fun rec=>?_)
 ·simp only [Bv.l2];rw [oW (pH h1),pr h1,oA,pr h2,oA,pt (by omega)];refine ite_not ?_
  by_cases h:a[i]=b[i]
  ·simp [h]
  ·have:(a[i].toNat:Int)≠(b[i].toNat:Int):=fun q=>h (UInt8.toNat_inj.1 (by omega));simp [h,this]
 ·simp only [Bv.l2,Bv.k1];rw [oX (pL (pS _))]
theorem agz (a b:List (List UInt8)) (h:a.length≤1073741824):Cg a b=some (decide (a=b)):=by
 unfold Cg;refine JS (by omega) (fun rec i h1 h2=>?_) (fun rec=>?_)
 ·simp only [Cg.l2];rw [oW (pH h1),pr h1,oA,pr h2,oA,pt (by omega)];exact ite_not rfl
 ·simp only [Cg.l2,Cg.k1];rw [oX (pL (pS _))]
theorem SA (a b:Loc):I1 a b=some (decide (a=b)):=by
 unfold I1
 congr 1
 obtain ⟨a1,a2,a3,a4⟩:=a;obtain ⟨b1,b2,b3,b4⟩:=b;simp only [Loc.mk.injEq,Im];cases decide (a1=b1) <;> cases decide (a2=b2) <;> cases decide (a3=b3) <;> rfl
theorem SB (a b:List Loc) (h:a.length≤1073741824):AW a b=some (decide (a=b)):=by
 unfold AW;refine JS (by omega) (fun rec i h1 h2=>?_) (fun rec=>?_)
 ·simp only [AW.l2];rw [oW (pH h1),pr h1,oA,pr h2,oA,SA,oA,pt (by omega)];exact ite_not rfl
 ·simp only [AW.l2,AW.k1];rw [oX (pL (pS _))]
theorem Yh (a b:List oH) (h:a.length≤1073741824):Bx a b=some (decide (a=b)):=by
 unfold Bx;refine JS (by omega) (fun rec i h1 h2=>?_) (fun rec=>?_)
 ·simp only [Bx.l2];rw [oW (pH h1),pr h1,oA,pr h2,oA,pt (by omega)];refine ite_not ?_;generalize a[i]=x;generalize b[i]=y;obtain ⟨a1,a2,a3,a4⟩:=x;obtain ⟨b1,b2,b3,b4⟩:=y;simp only [oH.mk.injEq,Im,ne_eq,decide_not];cases decide (a1=b1) <;> cases decide (a2=b2) <;> cases decide (a3=b3) <;> rfl
 ·simp only [Bx.l2,Bx.k1];rw [oX (pL (pS _))]
def TF (x:Chunk):Prop:=x.data.length≤1073741824∧x.oN.length≤1073741824
def TG (m:oP):Prop:=m.parts.length≤1073741824 ∧ ∀ p∈m.parts,p.ids.length≤1073741824
def ZL (s:lU):Prop:=TG s.oJ∧s.oN.length≤1073741824
def GF (c:mZ):Prop:=c.oK.length≤1073741824∧(c.chunks.length≤1073741824 ∧ ∀ x∈c.chunks,TF x)∧(c.oB.length≤1073741824 ∧ ∀ s∈c.oB,ZL s)∧c.oD.length≤1073741824 ∧ ∀ x∈c.oD,x.oN.length≤1073741824
theorem FN {p:Bool} {o:Option Bool} {q:Bool} (h:o=some q):only p o false=some (p&&q):=by
 subst h;cases p <;> rfl
theorem agE (a b:oP) (h:TG a):Ch a b=some (decide (a=b)):=by
 unfold Ch;obtain ⟨an,ap⟩:=a;obtain ⟨bn,bp⟩:=b
 by_cases hn:an=bn
 ·subst hn;simp only [beq_self_eq_true,uP,uB,oP.mk.injEq,true_and];refine JS (by have:=h.1;simp only at this;omega) (fun rec i h1 h2=>?_) (fun rec=>?_)
  ·simp only [Ch.l2];have hi:=h.2 ap[i] (qW h1);rw [oW (pH h1),pr h1,oA,pr h2,oA,FN (agz _ _ hi),oA,pt (by have:=h.1;simp only at this;omega)];refine ite_not ?_;generalize ap[i]=x;generalize bp[i]=y;obtain ⟨a1,a2,a3⟩:=x;obtain ⟨b1,b2,b3⟩:=y;simp only [Part.mk.injEq,Im,ne_eq,decide_not];have:(a1 == b1)=decide (a1=b1):=by rw [J7];simp
   rw [this];cases decide (a1=b1) <;> cases decide (a2=b2) <;> cases decide (a3=b3) <;> rfl
  ·simp only [Ch.l2,Ch.k1];rw [oX (pL (pS _))]
 ·rw [oW (by simp [hn]),decide_eq_false fun q=>hn (oP.mk.inj q).1]
theorem agG (a b:lU) (h:ZL a):NB a b=some (decide (a=b)):=by
 unfold NB;rw [FN (agE _ _ h.1),oA,FN (SB _ _ h.2),oA]
 congr 1
 obtain ⟨a1,a2,a3⟩:=a;obtain ⟨b1,b2,b3⟩:=b;simp only [lU.mk.injEq,Im];cases decide (a1=b1) <;> cases decide (a2=b2) <;> cases decide (a3=b3) <;> rfl
theorem agw (a b:Chunk) (h:TF a):Nz a b=some (decide (a=b)):=by
 unfold Nz;rw [FN (Ya _ _ h.1),oA,FN (SB _ _ h.2),oA]
 congr 1
 obtain ⟨a1,a2,a3,a4⟩:=a;obtain ⟨b1,b2,b3,b4⟩:=b;simp only [Chunk.mk.injEq,Im];have:(a2 == b2)=decide (a2=b2):=by cases a2 <;> cases b2 <;> rfl
 rw [this];cases decide (a1=b1) <;> cases decide (a2=b2) <;> cases decide (a3=b3) <;> cases decide (a4=b4) <;> rfl
theorem agx (a b:List Chunk) (h:a.length≤1073741824) (hs:∀ x∈a,TF x):Cf a b=some (decide (a=b)):=by
 unfold Cf;refine JS (by omega) (fun rec i h1 h2=>?_) (fun rec=>?_)
 ·simp only [Cf.l2];rw [oW (pH h1),pr h1,oA,pr h2,oA,agw _ _ (hs _ (qW h1)),oA,pt (by omega)];exact ite_not rfl
 ·simp only [Cf.l2,Cf.k1];rw [oX (pL (pS _))]
def Ia (a b:mZ):Prop:=a.oB=b.oB∧a.chunks=b.chunks∧a.oD=b.oD∧a.oK=b.oK
instance (a b : mZ) : Decidable (Ia a b) := by unfold Ia; infer_instance
theorem ajf (a:mZ):Ia a a:=⟨rfl,rfl,rfl,rfl⟩
theorem Yo {α:Type} [DecidableEq α] [Inhabited α] {F:(Int→Option Bool)→Int→Option Bool} {a b:List α} {K:Option Bool} (hl:a.length=b.length) (hn:a.length < 4611686018427387904)
  (sw:∀ rec (i:Nat) (h1:i < a.length) (h2:i < b.length),F rec (i:Int)=if decide (a[i]=b[i])=true then rec ((i+1:Nat):Int) else some false) (tv:∀ rec,F rec (a.length:Int)=K) :
  loop F 0=if decide (a=b)=true then K else some false:=by
 rw [Ax a.length (fun i=>decide (a.getD i default=b.getD i default)) K (some false) hn ?_ tv]
 ·by_cases h:a=b
  ·subst h;rw [if_pos (wb.2 fun i hi=>by simp),oW (decide_eq_true rfl)]
  ·rw [if_neg ?_,oX (decide_eq_false h)];intro q;refine h (Ke hl fun i h1 h2=>?_);have:=wb.1 q i h1;rw [pC h1,pC h2] at this;exact of_decide_eq_true this
 ·intro rec i hi;rw [sw rec i hi (by omega),pC hi,pC (show i < b.length by omega)]
theorem agv (a b:mZ) (h:GF a):we a b=some (decide (Ia a b)):=by
 obtain ⟨hv,⟨hc,EW⟩,⟨hs,HL⟩,he,Ht⟩:=h;unfold we;rw [FN (agx _ _ hc EW),oA,FN (Yh _ _ hv),oA]
 by_cases l1:a.oB.length=b.oB.length
 ·by_cases l2:a.oD.length=b.oD.length
  ·have d1:(decide ((a.oB.length:Int)≠(b.oB.length:Int))||decide ((a.oD.length:Int)≠(b.oD.length:Int)))=false:=by
    rw [decide_eq_false (by omega),decide_eq_false (by omega)];rfl
   rw [d1]
   by_cases e1:a.chunks=b.chunks
   ·by_cases e2:a.oK=b.oK
    ·rw [decide_eq_true e1,decide_eq_true e2];simp only [uB,x5,uQ,uP,zZ,if_false];rw [Yo (a:=a.oB) (b:=b.oB) (K:=if decide (a.oD=b.oD)=true then some true else some false) l1 (by omega) (fun rec i h1 h2=>?_) (fun rec=>?_)]
     ·by_cases e3:a.oB=b.oB
      ·by_cases e4:a.oD=b.oD
       ·rw [oW (decide_eq_true e3),oW (decide_eq_true e4),decide_eq_true (show Ia a b from ⟨e3,e1,e4,e2⟩)]
       ·rw [oW (decide_eq_true e3),oX (decide_eq_false e4),decide_eq_false fun q=>e4 q.2.2.1]
      ·rw [oX (decide_eq_false e3),decide_eq_false fun q=>e3 q.1]
     ·simp only [we.l4];rw [oW (pH h1),pr h1,oA,pr h2,oA,agG _ _ (HL _ (qW h1)),oA,pt (by omega)];exact ite_not rfl
     ·simp only [we.l4,we.k1];rw [oX (pL (pS _))];refine Yo (a:=a.oD) (b:=b.oD) l2 (by omega) (fun rec i h1 h2=>?_) (fun rec=>?_)
      ·simp only [we.l3];rw [oW (pH h1),pr h1,oA,pr h2,oA,FN (SB _ _ (Ht _ (qW h1))),oA,pt (by omega)];refine ite_not ?_;generalize a.oD[i]=x;generalize b.oD[i]=y;obtain ⟨a1,a2,a3⟩:=x;obtain ⟨b1,b2,b3⟩:=y;simp only [oC.mk.injEq,Im,ne_eq,decide_not];cases decide (a1=b1) <;> cases decide (a2=b2) <;> cases decide (a3=b3) <;> rfl
      ·simp only [we.l3,we.k2];rw [oX (pL (pS _))]
    ·rw [decide_eq_false e2,decide_eq_false (show ¬Ia a b from fun q=>e2 q.2.2.2)];simp
   ·rw [decide_eq_false e1,decide_eq_false (show ¬Ia a b from fun q=>e1 q.2.1)];simp
  ·rw [oW (by rw [decide_eq_true (show (a.oD.length:Int)≠(b.oD.length:Int) by omega)];simp),decide_eq_false fun q=>l2 (by rw [q.2.2.1])]
 ·rw [oW (by rw [decide_eq_true (show (a.oB.length:Int)≠(b.oB.length:Int) by omega)];simp),decide_eq_false fun q=>l1 (by rw [q.1])]
theorem D6 {α A:Type} {F:(Int × List α→Option A)→Int × List α→Option A} (l:List α) (g:α→α) (K:List α→Option A) (hn:l.length < 4611686018427387904)
  (sw:∀ rec (i:Nat) (m:List α) (hi:i < l.length) (hm:m.length=l.length),m[i]? = some l[i]→F rec ((i:Int),m)=rec (((i+1:Nat):Int),m.set i (g l[i]))) (tv:∀ rec m,m.length=l.length→F rec ((l.length:Int),m)=K m):loop F (0,l)=K (l.map g):=by
 refine sy (σ:=List α) (fun i m=>((i:Int),m)) l.length (fun i m=>m=(l.take i).map g++l.drop i) _ (i0:=0) (s0:=l) rfl (pY _) (by simp) hn ?_ ?_
 ·intro rec i m hi hI pq;have Ao:m.length=l.length:=by rw [hI];simp;omega
  have hmi:m[i]? = some l[i]:=by
   rw [hI,s7 (by simp;omega)];simp [Bm (zx hi),hi]
  rw [sw rec i m hi Ao hmi];refine pq _ ?_;rw [hI,List.set_append_right _ _ (by simp;omega),tN hi,z6,tF]
  congr 1
  rw [wz,rb,Bm (zx hi),Qd,BV hi];rfl
 ·intro rec m hI;have Ao:m.length=l.length:=by rw [hI];simp
  rw [tv rec m Ao,hI,uf,FA,vM]
theorem C8 {α:Type} (l:List α) (hl:l.length≤1073741824):(bd (app (α:=α) ([]:List α) l) fun l6=>some l6)=some l:=by
 rw [rl (by simpa using hl),oA,zw]
theorem xV {α:Type} {m:List α} {i:Nat} {x:α} (h:m[i]? = some x):ix m (i:Int)=some x:=h
theorem akV (m:oP) (h:TG m):Cb m=some m:=by
 unfold Cb TC;rw [C8 _ h.1,oA,D6 m.parts id (fun l=>some (oP.mk m.name l)) (by have:=h.1;omega) ?_ ?_,P3]
 ·intro rec i l hi hm hx;simp only [Cb.l2];rw [oW (pH hi),xV hx,oA,Wq _ (h.2 _ (qW hi)),oA,pt (by have:=h.1;omega)];rfl
 ·intro rec l hl;simp only [Cb.l2,Cb.k1];rw [oX (pL (pS _))]
theorem Z7 (c:mZ) (h:GF c):uh c=some c:=by
 obtain ⟨hv,⟨hc,EW⟩,⟨hs,HL⟩,he,Ht⟩:=h;unfold uh Pd Pa Pb Mx;rw [C8 _ hs,oA,C8 _ hc,oA,C8 _ he,oA,C8 _ hv,oA];have k3:∀ (sn:List lU) (ch:List Chunk),uh.k2 c c.oD c.oK sn ch=some (mZ.mk c.seq sn ch c.oD c.oK):=by
  intro sn ch;unfold uh.k2;rw [D6 c.oD id (fun l=>some (mZ.mk c.seq sn ch l c.oK)) (by omega) ?_ ?_,P3]
  ·intro rec i l hi hm hx;simp only [uh.l4,El];rw [oW (pH hi),xV hx,oA,C8 _ (Ht _ (qW hi)),oA,pt (by omega)];rfl
  ·intro rec l hl;simp only [uh.l4,uh.k3];rw [oX (pL (pS _))]
 have k2:∀ (sn:List lU),uh.k1 c c.chunks c.oD c.oK sn=some (mZ.mk c.seq sn c.chunks c.oD c.oK):=by
  intro sn;unfold uh.k1;rw [D6 c.chunks id (fun l=>some (mZ.mk c.seq sn l c.oD c.oK)) (by omega) ?_ ?_,P3]
  ·intro rec i l hi hm hx;simp only [uh.l5,El];have hk:=EW _ (qW hi);rw [oW (pH hi),xV hx,oA,acz _ hk.1,oA,C8 _ hk.2,oA,pt (by omega),M0];rfl
  ·intro rec l hl;simp only [uh.l5];rw [oX (pL (pS _))];exact k3 sn l
 rw [D6 c.oB id (fun l=>some (mZ.mk c.seq l c.chunks c.oD c.oK)) (by omega) ?_ ?_,P3]
 ·intro rec i l hi hm hx;simp only [uh.l6,El];have hk:=HL _ (qW hi);rw [oW (pH hi),xV hx,oA,akV _ hk.1,oA,C8 _ hk.2,oA,pt (by omega),M0];rfl
 ·intro rec l hl;simp only [uh.l6];rw [oX (pL (pS _))];exact k2 l
theorem KI {c:mZ} (h:wE c=true):GF c:=by
 unfold wE Ih DS GH FY at h;simp only [rk,decide_eq_true_eq,wb,Cz] at h;obtain ⟨⟨⟨⟨_,_,_,hv⟩,hc,rT⟩,hs,LI⟩,he,hel⟩:=h;have RS:∀ l,va c.oK l=true→l.length≤1073741824:=fun l h=>by
  unfold va at h;rw [rk,decide_eq_true_eq] at h;omega
 refine ⟨by omega,⟨by omega,fun x hx=>?_⟩,⟨by omega,fun x hx=>?_⟩,by omega,fun x hx=>?_⟩
 ·obtain ⟨i,hi,rfl⟩:=vX hx;have:=hc i hi;unfold Ad I3 at this;rw [pC hi] at this;simp only [rk] at this;refine ⟨?_,RS _ this.1.2⟩;have h2:=this.2
  split at h2
  ·have:=Cz.1 h2;omega
  ·simp only [rk,decide_eq_true_eq] at h2;omega
 ·obtain ⟨i,hi,rfl⟩:=vX hx;have:=hs i hi;unfold Em at this;rw [pC hi] at this;simp only [rk,decide_eq_true_eq] at this;have hm:=this.1.1.2;exact ⟨⟨by have:=hm.2.1;omega,fun p hp=>by have:=(ON (Gs hm p hp)).2.2.2.1;omega⟩,RS _ this.1.2⟩
 ·obtain ⟨i,hi,rfl⟩:=vX hx;have:=he i hi;unfold DU at this;rw [pC hi] at this;simp only [rk,decide_eq_true_eq] at this;exact RS _ this.1.2
end Go.Wk.Lf
end
section
namespace Go.Wk.Lf
open Go.V Go.Sort Go.Proofs
theorem Pn {n m:Nat} (hn:n < 256) (hm:m < 256) (h:tA (n:Int)=tA (m:Int)):n=m:=by
 rw [← Mz hn,h,Mz hm]
theorem W1:∀ (a b:List (List UInt8)) (r s:List UInt8),a.length=b.length→(∀ x∈a,x.length=32)→(∀ x∈b,x.length=32)→a.flatten++r=b.flatten++s→a=b∧r=s
 | [],[],r,s,_,_,_,h=>⟨rfl,h⟩
 | x::a,y::b,r,s,hl,ha,hb,h=>by
  simp only [vh,tF] at h;obtain ⟨h1,h2⟩:=PV h (by rw [ha x (by simp),hb y (by simp)]);obtain ⟨h3,h4⟩:=W1 a b r s (by simpa using hl) (fun z hz=>ha z (by simp [hz])) (fun z hz=>hb z (by simp [hz])) h2;exact ⟨by rw [h1,h3],h4⟩
 | [],_::_,_,_,hl,_,_,_=>by simp at hl
 | _::_,[],_,_,hl,_,_,_=>by simp at hl
theorem aeg {p q:List UInt8} {n n' k k':Nat} {r s:List UInt8} (hp:p.length < 256) (hq:q.length < 256) (hn:n < 65536) (y8:n' < 65536) (hk:k < 256) (uI:k' < 256) (h:DZ p n k++r=DZ q n' k' ++ s):p=q∧n=n' ∧ k=k' ∧ r=s:=by
 simp only [DZ,tF,UT,Kd,zw,Iv] at h;obtain ⟨h1,h2⟩:=h;have h3:=Pn hp hq h1;obtain ⟨h4,h5⟩:=PV h2 h3;obtain ⟨h6,h7⟩:=PV h5 rfl;simp only [Iv] at h7;refine ⟨h4,?_,Pn hk uI h7.1,h7.2⟩;rw [← QG hn,h6,QG y8]
theorem ahO {p q:Part} {r s:List UInt8} (hp:BQ p) (hq:BQ q) (h:AA p++r=AA q++s):p=q∧r=s:=by
 obtain ⟨p1,p2,p3,p4,p5⟩:=hp;obtain ⟨q1,q2,q3,q4,q5⟩:=hq;obtain ⟨n,hn⟩:=Kc p2;obtain ⟨m,hm⟩:=Kc q2;rw [GA p n hn,GA q m hm,tF,tF] at h;obtain ⟨h1,h2,h3,h4⟩:=aeg p1 q1 (by omega) (by omega) p4 q4 h;obtain ⟨h5,h6⟩:=W1 _ _ _ _ h3 p5 q5 h4;obtain ⟨a1,a2,a3⟩:=p;obtain ⟨b1,b2,b3⟩:=q;simp only at h1 h5 hn hm;exact ⟨by rw [h1,h5,hn,hm,h2],h6⟩
theorem YJ:∀ (a b:List Part) (r s:List UInt8),a.length=b.length→(∀ p∈a,BQ p)→(∀ p∈b,BQ p)→a.flatMap AA++r=b.flatMap AA++s→a=b∧r=s
 | [],[],r,s,_,_,_,h=>⟨rfl,h⟩
 | x::a,y::b,r,s,hl,ha,hb,h=>by
  simp only [Iw,tF] at h;obtain ⟨h1,h2⟩:=ahO (ha x (by simp)) (hb y (by simp)) h;obtain ⟨h3,h4⟩:=YJ a b r s (by simpa using hl) (fun z hz=>ha z (by simp [hz])) (fun z hz=>hb z (by simp [hz])) h2;exact ⟨by rw [h1,h3],h4⟩
 | [],_::_,_,_,hl,_,_,_=>by simp at hl
 | _::_,[],_,_,hl,_,_,_=>by simp at hl
theorem ag5 {a b:oP} {r s:List UInt8} (ha:tX a) (hb:tX b) (ka:E9 a) (kb:E9 b) (h:Jz a++r=Jz b++s):a=b∧r=s:=by
 obtain ⟨a1,a2⟩:=Ox ha;obtain ⟨b1,b2⟩:=Ox hb;simp only [Jz,tF,UT,Kd,zw,Iv] at h;obtain ⟨h1,h2⟩:=h;obtain ⟨h4,h5⟩:=PV h2 (Pn a1 b1 h1);simp only [Iv] at h5;obtain ⟨h6,h7⟩:=YJ _ _ _ _ (Pn a2 b2 h5.1) (fun p hp=>MB (Gs ha p hp) (ka p hp)) (fun p hp=>MB (Gs hb p hp) (kb p hp)) h5.2;obtain ⟨an,ap⟩:=a;obtain ⟨bn,bp⟩:=b;simp only at h4 h6;exact ⟨by rw [h4,h6],h7⟩
theorem agp {b:List UInt8} {m m':oP} (h:BH b m) (h':BH b m'):m=m' :=
 (ag5 (r:=[]) (s:=[]) h.1 h'.1 h.2.1 h'.2.1 (by rw [vM,vM,← h.2.2,h'.2.2])).1
theorem aic {b:List UInt8} {m:oP} (h:BH b m):uz b=(m,0):=by
 unfold uz;have hex:∃ m,BH b m:=⟨m,h⟩
 rw [dif_pos hex,agp hex.choose_spec h]
theorem aid {b:List UInt8} (h:¬ ∃ m,BH b m):uz b=(⟨[],[]⟩,3):=by
 unfold uz;rw [dif_neg h]
theorem aib (b:List UInt8):(∃ m,BH b m∧uz b=(m,0))∨(¬ ∃ m,BH b m)∧uz b=(⟨[],[]⟩,3):=by
 by_cases h:∃ m,BH b m
 ·obtain ⟨m,hm⟩:=h;exact .inl ⟨m,hm,aic hm⟩
 ·exact .inr ⟨h,aid h⟩
end Go.Wk.Lf
end
section
namespace Go.Wk.Lf
open Go.V Go.Sort Go.Proofs
def Ab (vs:List oH):mZ:=⟨0,[],[],[],vs⟩
end Go.Wk.Lf
end
section
namespace Go.Wk.Lf
open Go.V Go.Sort Go.Proofs
def uq (x:UInt32) (k:Nat):UInt32:=rD (x.toNat / 2 ^ k) ||| rD (x.toNat*2 ^ (32 - k))
theorem aiK (x:UInt32):xA x 2=some (uq x 2):=rfl
theorem aiN (x:UInt32):xA x 6=some (uq x 6):=rfl
theorem aiO (x:UInt32):xA x 7=some (uq x 7):=rfl
theorem aiF (x:UInt32):xA x 11=some (uq x 11):=rfl
theorem aiG (x:UInt32):xA x 13=some (uq x 13):=rfl
theorem aiH (x:UInt32):xA x 17=some (uq x 17):=rfl
theorem aiI (x:UInt32):xA x 18=some (uq x 18):=rfl
theorem aiJ (x:UInt32):xA x 19=some (uq x 19):=rfl
theorem aiL (x:UInt32):xA x 22=some (uq x 22):=rfl
theorem aiM (x:UInt32):xA x 25=some (uq x 25):=rfl
theorem Eh (x:UInt32) (i:Int) (k:Nat) (h:wQ x i=some (rD (x.toNat*2 ^ (32 - k)) ||| rD (x.toNat / 2 ^ k))):wQ x i=some (uq x k):=by
 rw [h,UInt32.or_comm];rfl
theorem aiA (x:UInt32):wQ x (-2)=some (uq x 2):=Eh x _ 2 rfl
theorem aiD (x:UInt32):wQ x (-6)=some (uq x 6):=Eh x _ 6 rfl
theorem aiE (x:UInt32):wQ x (-7)=some (uq x 7):=Eh x _ 7 rfl
theorem aiv (x:UInt32):wQ x (-11)=some (uq x 11):=Eh x _ 11 rfl
theorem aiw (x:UInt32):wQ x (-13)=some (uq x 13):=Eh x _ 13 rfl
theorem aix (x:UInt32):wQ x (-17)=some (uq x 17):=Eh x _ 17 rfl
theorem aiy (x:UInt32):wQ x (-18)=some (uq x 18):=Eh x _ 18 rfl
theorem aiz (x:UInt32):wQ x (-19)=some (uq x 19):=Eh x _ 19 rfl
theorem aiB (x:UInt32):wQ x (-22)=some (uq x 22):=Eh x _ 22 rfl
theorem aiC (x:UInt32):wQ x (-25)=some (uq x 25):=Eh x _ 25 rfl
theorem agt {α:Type} [Inhabited α] {l:List α} {n:Nat} (h:n < l.length):ix l (n:Int)=some (l.getD n default):=by
 rw [pr h];simp [h]
def OX (k w s:List UInt32) (i:Nat):List UInt32 :=
 let a:=s.getD 0 default;let e:=s.getD 4 default
 let t:=((((s.getD 7 default+((uq e 6 ^^^ uq e 11) ^^^ uq e 25))+((e &&& s.getD 5 default) ^^^ ((~~~e) &&& s.getD 6 default)))+k.getD i default)+w.getD i default)
 [t+(((uq a 2 ^^^ uq a 13) ^^^ uq a 22)+(((a &&& s.getD 1 default) ^^^ (a &&& s.getD 2 default)) ^^^ (s.getD 1 default &&& s.getD 2 default))),a,s.getD 1 default,s.getD 2 default,s.getD 3 default+t,e,s.getD 5 default,s.getD 6 default]
def Mk (k w s:List UInt32):List UInt32:=(sN 64).foldl (OX k w) s
def Nk (s0 s:List UInt32):List UInt32:=(sN 8).foldl (fun t i=>t.set i (t.getD i default+s.getD i default)) s0
def aaf (b:List UInt8) (i:Nat):UInt32:=rD (sU ((b.take (4*i+4)).drop (4*i)))
def Ek (b:List UInt8) (w:List UInt32) (i:Nat):List UInt32 :=
 if i < 16 then w.set i (aaf b i)
 else w.set i (((w.getD (i - 16) default+((uq (w.getD (i - 15) default) 7 ^^^ uq (w.getD (i - 15) default) 18) ^^^ (w.getD (i - 15) default >>> rD 3)))+w.getD (i - 7) default)+((uq (w.getD (i - 2) default) 17 ^^^ uq (w.getD (i - 2) default) 19) ^^^ (w.getD (i - 2) default >>> rD 10)))
def Mr (b:List UInt8):List UInt32:=(sN 64).foldl (Ek b) (ph 64 0)
def IU (k:List UInt32) (b:List UInt8) (s:List UInt32):List UInt32:=Nk s (Mk k (Mr b) s)
theorem lit (l:List UInt32) (n:Nat) (h:n < l.length) (i:Int) (hi:i=(n:Int)):ix l i=some (l.getD n default):=by subst hi;exact agt h
theorem aaM (k:List UInt32) (hk:k.length=64) (yK:List UInt8) (Fi:List UInt32) (A9) (w:List UInt32) (hw:w.length=64) (s:List UInt32) (hs:s.length=8) :
  loop (qP.l9 k yK Fi A9 w) (0,s)=qP.k7 yK Fi A9 (Mk k w s):=by
 have:=Ay (F:=qP.l9 k yK Fi A9 w) (x0:=(0,s)) (fun i s=>((i:Int),s)) (sN 64) (OX k w) (qP.k7 yK Fi A9) (fun _ s=>s.length=8) (i0:=0) (s0:=s) rfl (pY _) hs (by decide) ?_ ?_
 ·rw [this];rfl
 ·intro rec i s hi hs;rw [Bk] at hi;refine ⟨rfl,?_⟩;simp only [qP.l9];rw [oW (decide_eq_true (by omega))];simp only [lit s 4 (by omega) 4 rfl,lit s 0 (by omega) 0 rfl,lit s 1 (by omega) 1 rfl,lit s 2 (by omega) 2 rfl,lit s 3 (by omega) 3 rfl,lit s 5 (by omega) 5 rfl,lit s 6 (by omega) 6 rfl,lit s 7 (by omega) 7 rfl,oA,aiA,aiD,aiv,aiw,aiB,aiC,lit k i (by omega) i rfl,lit w i (by omega) i rfl,pt (show i < 4611686018427387904 by omega),CS];rfl
 ·intro rec s hs;simp only [qP.l9];rw [oX (by decide)]
theorem abn (k:List UInt32) (hk:k.length=64) (i32:Int) (Fh:List UInt32) (A8) (w:List UInt32) (hw:w.length=64) (s:List UInt32) (hs:s.length=8) :
  loop (p9.l9 k i32 Fh A8 w) (0,s)=p9.k7 i32 Fh A8 (Mk k w s):=by
 have:=Ay (F:=p9.l9 k i32 Fh A8 w) (x0:=(0,s)) (fun i s=>((i:Int),s)) (sN 64) (OX k w) (p9.k7 i32 Fh A8) (fun _ s=>s.length=8) (i0:=0) (s0:=s) rfl (pY _) hs (by decide) ?_ ?_
 ·rw [this];rfl
 ·intro rec i s hi hs;rw [Bk] at hi;refine ⟨rfl,?_⟩;simp only [p9.l9];rw [oW (decide_eq_true (by omega))];simp only [lit s 4 (by omega) 4 rfl,lit s 0 (by omega) 0 rfl,lit s 1 (by omega) 1 rfl,lit s 2 (by omega) 2 rfl,lit s 3 (by omega) 3 rfl,lit s 5 (by omega) 5 rfl,lit s 6 (by omega) 6 rfl,lit s 7 (by omega) 7 rfl,oA,aiK,aiN,aiF,aiG,aiL,aiM,lit k i (by omega) i rfl,lit w i (by omega) i rfl,pt (show i < 4611686018427387904 by omega),CS];rfl
 ·intro rec s hs;simp only [p9.l9];rw [oX (by decide)]
theorem Y5 (k w s:List UInt32) (hs:s.length=8):(Mk k w s).length=8:=by
 have h:∀ (l:List Nat) s,s.length=8→(l.foldl (OX k w) s).length=8:=fun l=>by
  induction l with
  | nil=>intro s h;exact h
  | cons i l ih=>intro s _;exact ih _ rfl
 unfold Mk;exact h _ s hs
theorem NT {α:Type} {f:List α→Nat→List α} (hf:∀ s i,(f s i).length=s.length):∀ (l:List Nat) (s:List α),(l.foldl f s).length=s.length
 | [],s=>rfl
 | i::l,s=>by rw [Kf,NT hf l,hf]
theorem aaQ (s0 s:List UInt32):(Nk s0 s).length=s0.length:=NT (fun t i=>by simp) _ _
theorem Tz (b:List UInt8) (w:List UInt32) (i:Nat):(Ek b w i).length=w.length:=by unfold Ek;split <;> simp
theorem Zh (b:List UInt8):(Mr b).length=64:=by unfold Mr;rw [NT (Tz b)];simp
theorem aaL (yK:List UInt8) (A9) (s t:List UInt32) (hs:s.length=8) (ht:t.length=8) :
  loop (qP.l8 yK A9 s) (0,t)=qP.k5 yK A9 (Nk t s):=by
 have:=Ay (F:=qP.l8 yK A9 s) (x0:=(0,t)) (fun i s=>((i:Int),s)) (sN 8) (fun t i=>t.set i (t.getD i default+s.getD i default)) (qP.k5 yK A9) (fun _ s=>s.length=8) (i0:=0) (s0:=t) rfl (pY _) ht (by decide) ?_ ?_
 ·rw [this];rfl
 ·intro rec i t hi ht;rw [Bk] at hi;refine ⟨by simp [ht],?_⟩;simp only [qP.l8];rw [oW (decide_eq_true (by omega))];simp only [lit s i (by omega) i rfl,lit t i (by omega) i rfl,oA,pt (show i < 4611686018427387904 by omega),CS,ry]
 ·intro rec s hs;simp only [qP.l8];rw [oX (by decide)]
theorem abm (i32:Int) (A8) (s t:List UInt32) (hs:s.length=8) (ht:t.length=8) :
  loop (p9.l8 i32 A8 s) (0,t)=p9.k5 i32 A8 (Nk t s):=by
 have:=Ay (F:=p9.l8 i32 A8 s) (x0:=(0,t)) (fun i s=>((i:Int),s)) (sN 8) (fun t i=>t.set i (t.getD i default+s.getD i default)) (p9.k5 i32 A8) (fun _ s=>s.length=8) (i0:=0) (s0:=t) rfl (pY _) ht (by decide) ?_ ?_
 ·rw [this];rfl
 ·intro rec i t hi ht;rw [Bk] at hi;refine ⟨by simp [ht],?_⟩;simp only [p9.l8];rw [oW (decide_eq_true (by omega))];simp only [lit s i (by omega) i rfl,lit t i (by omega) i rfl,oA,pt (show i < 4611686018427387904 by omega),CS,ry]
 ·intro rec s hs;simp only [p9.l8];rw [oX (by decide)]
theorem ahH (a b:Nat) (ha:a < 4611686018427387904) (hb:b < 4611686018427387904):bits .or .u64 (a:Int) (b:Int)=((a ||| b:Nat):Int):=by
 have hx:a ||| b < 2 ^ 62:=Nat.or_lt_two_pow (by omega) (by omega);have h1:(wy 64 (a:Int)).toNat=a:=by
  rw [PC,PD];exact FD (by omega)
 have h2:(wy 64 (b:Int)).toNat=b:=by
  rw [PC,PD];exact FD (by omega)
 show IntKind.u64.wrap ((wy 64 (a:Int) ||| wy 64 (b:Int)).toNat:Int)=_;rw [BitVec.toNat_or,h1,h2,TV];omega
theorem GM {x:Int} (h0:0≤x) (h1:x < 18446744073709551616):wu x=x:=by
 show IntKind.u64.wrap x=x;rw [TV];omega
theorem ahG (n:Nat) (c:UInt8) (hn:n < 18014398509481984):bits .or .u64 (wu ((n:Int)*2 ^ (8:Int).toNat)) (c.toNat:Int)=((n*256+c.toNat:Nat):Int):=by
 have hc:=c.toNat_lt;have e:wu ((n:Int)*2 ^ (8:Int).toNat)=((n*256:Nat):Int):=by
  rw [show (8:Int).toNat=8 from rfl];rw [GM (by omega) (by omega)];omega
 rw [e,ahH _ _ (by omega) (by omega)];have:=Qc (i:=8) (b:=c.toNat) (by omega) n;rw [Kl] at this;rw [show n*256=n*2 ^ 8 from rfl,this]
theorem aeT (l:List UInt8) (hl:l.length≤7):CG l=some (sU l:Int):=by
 unfold CG;refine sy (S:=Int × Int) (σ:=Unit) (fun i _=>(((sU (l.take i):Nat):Int),(i:Int))) l.length (fun _ _=>True) _ (i0:=0) (s0:=()) (by simp [sU]) (pY _) trivial (by omega) ?_ ?_
 ·intro rec i _ hi _ pq;have pv:sU (l.take i) < 256 ^ 6:=xO (Np _) (Qb (by decide) (by simp;omega));simp only [CG.l2];rw [oW (pH hi),pr hi,oA,ahG _ _ (by omega),pt (by omega)];have:=pq () trivial;rw [tN hi,QH] at this;exact this
 ·intro rec _ _;simp only [CG.l2,CG.k1];rw [oX (pL (pS _)),uf]
theorem akS (n:Nat):Ie (n:Int)=rD n:=by
 unfold Ie;apply UInt32.toNat.inj;simp only [Kq];omega
theorem aaJ (k:List UInt32) (yK:List UInt8) (K5:64≤yK.length) (Fi:List UInt32) (A9) :
  loop (qP.sm k yK Fi A9) (0,ph 64 0)=qP.k6 k yK Fi A9 (Mr yK):=by
 have:=Ay (F:=qP.sm k yK Fi A9) (x0:=(0,ph 64 0)) (fun i s=>((i:Int),s)) (sN 64) (Ek yK) (qP.k6 k yK Fi A9) (fun _ s=>s.length=64) (i0:=0) (s0:=ph 64 0) rfl (pY _) (by simp) (by decide) ?_ ?_
 ·rw [this];rfl
 ·intro rec i w hi hw;rw [Bk] at hi;refine ⟨by rw [Tz,hw],?_⟩;simp only [qP.sm,qP.Aw,CS];rw [oW (decide_eq_true (by omega))]
  by_cases h:i < 16
  ·rw [oW (decide_eq_true (by omega))];rw [rU (x:=4*(i:Int)) (by omega) (by omega),rU (x:=4*(i:Int)+4) (by omega) (by omega)]
   by_cases hc:4*i+4≤yK.length
   ·rw [xC (by omega) (by omega) (by omega),oA,show (4*(i:Int)+4).toNat=4*i+4 by omega,show (4*(i:Int)).toNat=4*i by omega,aeT _ (by simp;omega),oA,lit w i (by omega) i rfl,oA,akS,pt (by omega),ry];unfold Ek;rw [if_pos h];rfl
   ·omega
  ·rw [oX (decide_eq_false (by omega))];simp only [lit w (i - 15) (by omega) (wr ((i:Int) - 15)) (by rw [rU (by omega) (by omega)];omega),lit w (i - 2) (by omega) (wr ((i:Int) - 2)) (by rw [rU (by omega) (by omega)];omega),lit w (i - 16) (by omega) (wr ((i:Int) - 16)) (by rw [rU (by omega) (by omega)];omega),lit w (i - 7) (by omega) (wr ((i:Int) - 7)) (by rw [rU (by omega) (by omega)];omega),lit w i (by omega) i rfl,oA,aiE,aiy,aix,aiz,pt (show i < 4611686018427387904 by omega),ry];unfold Ek;rw [if_neg h]
 ·intro rec s hs;simp only [qP.sm];rw [oX (by decide)]
end Go.Wk.Lf
end
section
namespace Go.Wk.Lf
open Go.V Go.Sort Go.Proofs
theorem alE (n:Nat) (c:UInt8) (hn:n < 16777216):(rD n <<< rD 8) ||| c.toUInt32=rD (n*256+c.toNat):=by
 have hc:=c.toNat_lt;apply UInt32.toNat.inj;have h1:(rD n <<< rD 8).toNat=n*256:=by
  rw [UInt32.toNat_shiftLeft];simp only [Kq];rw [show 8 % 2 ^ 32 % 32=8 from rfl,Kl];omega
 rw [UInt32.toNat_or,h1,UInt8.toNat_toUInt32];simp only [Kq];have:=Qc (i:=8) (b:=c.toNat) (by omega) n;rw [Kl] at this;rw [show n*256=n*2 ^ 8 from rfl,← this];omega
theorem abk (p:List UInt8) (qS:Nat) (hb:64*qS+64≤p.length) (hp:p.length≤1073741824) (i:Nat) (hi:i < 16) (YY) (w:List UInt32) (hw:w.length=64) (h0:w.getD i default=0) :
  loop (p9.tL p ((64*qS:Nat):Int) (i:Int) YY) (0,w)=p9.A4 (i:Int) YY (w.set i (aaf (p.drop (64*qS)) i)):=by
 have hl:(((p.drop (64*qS)).take (4*i+4)).drop (4*i)).length=4:=by simp;omega
 refine sy (S:=Int × List UInt32) (σ:=Unit) (fun j _=>((j:Int),w.set i (rD (sU ((((p.drop (64*qS)).take (4*i+4)).drop (4*i)).take j))))) 4 (fun _ _=>True) _ (i0:=0) (s0:=()) ?_ (pY _) trivial (by omega) ?_ ?_
 ·refine congrArg (Prod.mk (0:Int)) ?_;rw [List.take_zero];apply Ke (by simp);intro n h1 h2;rw [List.getElem_set]
  split
  ·rename_i e;subst e;have:=h0;rw [ya,pF h1] at this;simpa [sU] using this
  ·rfl
 ·intro rec j _ hj _ pq;have pv:sU ((((p.drop (64*qS)).take (4*i+4)).drop (4*i)).take j) < 256 ^ 3:=xO (Np _) (Qb (by decide) (by simp;omega));simp only [p9.tL];rw [oW (decide_eq_true (by omega)),lit _ i (by simp;omega) i rfl,oA];rw [rU (x:=4*(i:Int)) (by omega) (by omega),rU (x:=((64*qS:Nat):Int)+4*(i:Int)) (by omega) (by omega),rU (x:=((64*qS:Nat):Int)+4*(i:Int)+(j:Int)) (by omega) (by omega)];rw [ags (n:=64*qS+4*i+j) (by omega) (by omega),oA,oA,pt (by omega),ry];have e1:(w.set i (rD (sU ((((p.drop (64*qS)).take (4*i+4)).drop (4*i)).take j)))).getD i default=rD (sU ((((p.drop (64*qS)).take (4*i+4)).drop (4*i)).take j)):=by
   rw [ya,vN (by omega)];rfl
  rw [e1,alE _ _ (by omega),M0];have:=pq () trivial;rw [tN (by omega),QH] at this;have e2:(((p.drop (64*qS)).take (4*i+4)).drop (4*i))[j]'(by omega)=p[64*qS+4*i+j]'(by omega):=by
   simp only [UN,MW];congr 1;omega
  rw [e2] at this;exact this
 ·intro rec _ _;simp only [p9.tL];rw [oX (by decide),Bl (by omega)];rfl
theorem abj (k:List UInt32) (p:List UInt8) (qS:Nat) (hb:64*qS+64≤p.length) (hp:p.length≤1073741824) (Fh:List UInt32) (A8) :
  loop (p9.sm k p ((64*qS:Nat):Int) Fh A8) (0,ph 64 0)=p9.k6 k ((64*qS:Nat):Int) Fh A8 (Mr (p.drop (64*qS))):=by
 have:=Ay (F:=p9.sm k p ((64*qS:Nat):Int) Fh A8) (x0:=(0,ph 64 0)) (fun i s=>((i:Int),s)) (sN 64) (Ek (p.drop (64*qS))) (p9.k6 k ((64*qS:Nat):Int) Fh A8) (fun i s=>s.length=64 ∧ ∀ j,i≤j→s.getD j default=0) (i0:=0) (s0:=ph 64 0) rfl (pY _) ⟨by simp,fun j _=>?_⟩ (by decide) ?_ ?_
 ·rw [this];rfl
 ·rw [ya,List.getElem?_replicate];split <;> rfl
 ·intro rec i w hi hw;rw [Bk] at hi;obtain ⟨hw,hz⟩:=hw;simp only [CS];refine ⟨⟨by rw [Tz,hw],fun j hj=>?_⟩,?_⟩
  ·rw [← hz j (by omega),ya,ya];unfold Ek
   split <;> rw [yb (by omega)]
  simp only [p9.sm];rw [oW (decide_eq_true (by omega))]
  by_cases h:i < 16
  ·rw [oW (decide_eq_true (by omega)),abk p qS hb hp i h _ w hw (hz i (px _))];simp only [p9.A4,p9.Aw];rw [pt (by omega)];unfold Ek;rw [if_pos h]
  ·rw [oX (decide_eq_false (by omega))];simp only [p9.HS,p9.Aw];simp only [lit w (i - 15) (by omega) (wr ((i:Int) - 15)) (by rw [rU (by omega) (by omega)];omega),lit w (i - 2) (by omega) (wr ((i:Int) - 2)) (by rw [rU (by omega) (by omega)];omega),lit w (i - 16) (by omega) (wr ((i:Int) - 16)) (by rw [rU (by omega) (by omega)];omega),lit w (i - 7) (by omega) (wr ((i:Int) - 7)) (by rw [rU (by omega) (by omega)];omega),lit w i (by omega) i rfl,oA,aiO,aiI,aiH,aiJ,pt (show i < 4611686018427387904 by omega),ry];unfold Ek;rw [if_neg h]
   congr 3
   rw [Kp,Kp,Kp,Kp]
   congr 1
   rw [← Kp,← Kp]
   congr 1
   exact UInt32.add_comm _ _
 ·intro rec s hs;simp only [p9.sm];rw [oX (by decide)]
def Gz (s:List UInt32):List UInt8:=(sN 32).foldl (fun o i=>o.set i (rD ((s.getD (i / 4) default).toNat / 2 ^ (24 - 8*(i % 4)))).toUInt8) (ph 32 0)
theorem WE (i:Nat):(i:Int).tdiv 4=((i / 4:Nat):Int):=rfl
theorem Yu (i:Nat):(i:Int).tmod 4=((i % 4:Nat):Int):=rfl
theorem Zm (x:UInt32) (i:Nat) (n:Int) (h:n=24 - 8*((i % 4:Nat):Int)):GD x n=some (rD (x.toNat / 2 ^ (24 - 8*(i % 4)))):=by
 subst h;unfold GD;rw [if_pos (by omega),show (24 - 8*((i % 4:Nat):Int)).toNat=24 - 8*(i % 4) by omega]
theorem aaN (s:List UInt32) (hs:s.length=8):qP.k1 s=some (Gz s):=by
 unfold qP.k1;have:=Ay (F:=qP.l3 s) (x0:=(0,ph 32 0)) (fun i s=>((i:Int),s)) (sN 32) (fun o i=>o.set i (rD ((s.getD (i / 4) default).toNat / 2 ^ (24 - 8*(i % 4)))).toUInt8) some (fun _ o=>o.length=32) (i0:=0) (s0:=ph 32 0) rfl (pY _) (by simp) (by decide) ?_ ?_
 ·rw [this];rfl
 ·intro rec i o hi ho;rw [Bk] at hi;refine ⟨by simp [ho],?_⟩;simp only [qP.l3,WE,Yu];rw [oW (decide_eq_true (by omega)),rU (x:=((i / 4:Nat):Int)) (by omega) (by omega),lit s (i / 4) (by omega) _ rfl,oA,rU (x:=8*((i % 4:Nat):Int)) (by omega) (by omega),rU (x:=24 - 8*((i % 4:Nat):Int)) (by omega) (by omega),Zm _ i _ rfl,oA,pr (l:=o) (n:=i) (by omega),oA,pt (by omega),ry,CS]
 ·intro rec s hs;simp only [qP.l3,qP.k2];rw [oX (by decide)]
theorem abo (s:List UInt32) (hs:s.length=8):p9.k1 s=some (Gz s):=by
 unfold p9.k1;have:=Ay (F:=p9.l3 s) (x0:=(0,ph 32 0)) (fun i s=>((i:Int),s)) (sN 32) (fun o i=>o.set i (rD ((s.getD (i / 4) default).toNat / 2 ^ (24 - 8*(i % 4)))).toUInt8) some (fun _ o=>o.length=32) (i0:=0) (s0:=ph 32 0) rfl (pY _) (by simp) (by decide) ?_ ?_
 ·rw [this];rfl
 ·intro rec i o hi ho;rw [Bk] at hi;refine ⟨by simp [ho],?_⟩;simp only [p9.l3,WE,Yu];rw [oW (decide_eq_true (by omega)),rU (x:=((i / 4:Nat):Int)) (by omega) (by omega),lit s (i / 4) (by omega) _ rfl,oA,rU (x:=8*((i % 4:Nat):Int)) (by omega) (by omega),rU (x:=24 - 8*((i % 4:Nat):Int)) (by omega) (by omega),GM (by omega) (by omega),Zm _ i _ rfl,oA,pr (l:=o) (n:=i) (by omega),oA,pt (by omega),ry,CS]
 ·intro rec s hs;simp only [p9.l3,p9.k2];rw [oX (by decide)]
theorem VS (k:List UInt32) (b:List UInt8) (s:List UInt32):(IU k b s).length=s.length:=aaQ _ _
theorem aaK (k:List UInt32) (hk:k.length=64) (p:List UInt8) (n:Nat) (hn:p.length=64*n) (hp:p.length≤1073741824) (s0:List UInt32) (h0:s0.length=8) :
  loop (qP.l4 k) (p,s0)=some (Gz ((sN n).foldl (fun s i=>IU k (p.drop (64*i)) s) s0)):=by
 have:=Ay (F:=qP.l4 k) (x0:=(p,s0)) (fun i s=>(p.drop (64*i),s)) (sN n) (fun s i=>IU k (p.drop (64*i)) s) (fun s=>some (Gz s)) (fun _ s=>s.length=8) (i0:=0) (s0:=s0) rfl (pY _) h0 (by simp;omega) ?_ ?_
 ·rw [this];rfl
 ·intro rec i s hi hs;rw [Bk] at hi;refine ⟨by rw [VS,hs],?_⟩;simp only [qP.l4,CS];have hl:(p.drop (64*i)).length=p.length - 64*i:=ue;rw [oW (decide_eq_true (by omega)),aaJ k _ (by omega)];simp only [qP.k6,qP.k7,qP.k5];rw [aaM k hk _ _ _ _ (Zh _) s hs];simp only [qP.k7];rw [aaL _ _ _ _ (Y5 _ _ _ hs) hs];simp only [qP.k5];rw [xC (by omega) (by omega) (by omega),oA,ry,uf,show (64:Int).toNat=64 from rfl,Bj,show 64*i+64=64*(i+1) by omega];rfl
 ·intro rec s hs;simp only [qP.l4,Bk];have hl:(p.drop (64*n)).length=p.length - 64*n:=ue;rw [oX (decide_eq_false (by omega)),aaN s hs]
theorem abl (k:List UInt32) (hk:k.length=64) (p:List UInt8) (n:Nat) (hn:p.length=64*n) (hp:p.length≤1073741824) (s0:List UInt32) (h0:s0.length=8) :
  loop (p9.l4 k p) (0,s0)=some (Gz ((sN n).foldl (fun s i=>IU k (p.drop (64*i)) s) s0)):=by
 have:=Ay (F:=p9.l4 k p) (x0:=(0,s0)) (fun i s=>(((64*i:Nat):Int),s)) (sN n) (fun s i=>IU k (p.drop (64*i)) s) (fun s=>some (Gz s)) (fun _ s=>s.length=8) (i0:=0) (s0:=s0) rfl (pY _) h0 (by simp;omega) ?_ ?_
 ·rw [this];rfl
 ·intro rec i s hi hs;rw [Bk] at hi;refine ⟨by rw [VS,hs],?_⟩;simp only [p9.l4,CS];rw [oW (decide_eq_true (by omega)),abj k p i (by omega) hp];simp only [p9.k6];rw [abn k hk _ _ _ _ (Zh _) s hs];simp only [p9.k7];rw [abm _ _ _ _ (Y5 _ _ _ hs) hs];simp only [p9.k5];rw [rU (by omega) (by omega),show ((64*i:Nat):Int)+64=((64*(i+1):Nat):Int) by omega];rfl
 ·intro rec s hs;simp only [p9.l4,Bk];rw [oX (decide_eq_false (by omega)),abo s hs]
def vg (n:Nat):Nat:=(119 - n % 64) % 64
def Nu (n j:Nat):UInt8:=tA (((n:Int)*8) / 2 ^ (8*(7 - (j:Int))).toNat)
def Eb (d:List UInt8):List UInt8:=(sN 8).foldl (fun l j=>l++[Nu d.length j]) (d++[128]++ph (vg d.length) 0)
theorem S2 (d:List UInt8):(Eb d).length=d.length+9+vg d.length:=by
 unfold Eb;have h:∀ (l:List Nat) (s:List UInt8),(l.foldl (fun l j=>l++[Nu d.length j]) s).length=s.length+l.length:=fun l=>by
  induction l with
  | nil=>intro s;rfl
  | cons i l ih=>intro s;rw [Kf,ih];simp;omega
 rw [h];simp;omega
theorem aaO (d:List UInt8) (hd:d.length≤1000000):xI d=some (Eb d):=by
 have hz:vg d.length < 64:=Iz _ (by decide);unfold xI;rw [rl (by simp;omega),oA,zw,rl (by simp;omega),oA];refine sy (S:=List UInt8) (σ:=Unit) (fun j _=>d++[128]++ph j 0) (vg d.length) (fun _ _=>True) _ (i0:=0) (s0:=()) (by simp) (pY _) trivial (by omega) ?_ ?_
 ·intro rec j _ hj _ pq;simp only [xI.l4];have hl:(d++[128]++ph j (0:UInt8)).length=d.length+1+j:=by simp;omega
  have hm:((d.length+1+j:Nat):Int).tmod 64=(((d.length+1+j) % 64:Nat):Int):=rfl;rw [hl,hm,oW (decide_eq_true (by unfold vg at hj;omega)),rl (by rw [hl];simp;omega),oA];have:=pq () trivial;rw [List.replicate_succ',← tF] at this;exact this
 ·intro rec _ _;simp only [xI.l4];have hl:(d++[128]++ph (vg d.length) (0:UInt8)).length=d.length+1+vg d.length:=by simp;omega
  have hm:((d.length+1+vg d.length:Nat):Int).tmod 64=(((d.length+1+vg d.length) % 64:Nat):Int):=rfl;rw [hl,hm,oX (decide_eq_false (by unfold vg;omega))];unfold xI.k1;have:=Ay (F:=xI.l3 d) (x0:=(7,d++[128]++ph (vg d.length) (0:UInt8))) (fun j l=>(7 - (j:Int),l)) (sN 8) (fun l j=>l++[Nu d.length j]) some (fun j l=>l.length=d.length+1+vg d.length+j) (i0:=0) (s0:=d++[128]++ph (vg d.length) (0:UInt8)) rfl (pY _) hl (by decide) ?_ ?_
  ·rw [this];rfl
  ·intro rec j l hj hl;rw [Bk] at hj;refine ⟨by simp [hl];omega,?_⟩;simp only [xI.l3];rw [oW (decide_eq_true (by omega)),GM (x:=(d.length:Int)) (by omega) (by omega),show (2:Int) ^ (3:Int).toNat=8 from rfl,GM (x:=(d.length:Int)*8) (by omega) (by omega),rU (x:=8*(7 - (j:Int))) (by omega) (by omega)];unfold JW;rw [if_pos (by omega),oA,rl (by simp;omega),oA,rU (by omega) (by omega),CS,show 7 - (j:Int) - 1=7 - ((j+1:Nat):Int) by omega];rfl
  ·intro rec l hl;simp only [xI.l3,xI.k2];rw [oX (by decide)]
theorem abp (d:List UInt8) (hd:d.length≤1000000):xz d=some (Eb d):=by
 have hz:vg d.length < 64:=Iz _ (by decide);unfold xz;rw [rl (by simp;omega),oA,zw,rl (by simp;omega),oA];refine sy (S:=List UInt8) (σ:=Unit) (fun j _=>d++[128]++ph j 0) (vg d.length) (fun _ _=>True) _ (i0:=0) (s0:=()) (by simp) (pY _) trivial (by omega) ?_ ?_
 ·intro rec j _ hj _ pq;simp only [xz.l4];have hl:(d++[128]++ph j (0:UInt8)).length=d.length+1+j:=by simp;omega
  rw [hl,rU (x:=((d.length+1+j:Nat):Int)+8) (by omega) (by omega)];have hm:(((d.length+1+j:Nat):Int)+8).tmod 64=(((d.length+1+j+8) % 64:Nat):Int):=rfl;rw [hm,oW (decide_eq_true (by unfold vg at hj;omega)),rl (by rw [hl];simp;omega),oA];have:=pq () trivial;rw [List.replicate_succ',← tF] at this;exact this
 ·intro rec _ _;simp only [xz.l4];have hl:(d++[128]++ph (vg d.length) (0:UInt8)).length=d.length+1+vg d.length:=by simp;omega
  rw [hl,rU (x:=((d.length+1+vg d.length:Nat):Int)+8) (by omega) (by omega)];have hm:(((d.length+1+vg d.length:Nat):Int)+8).tmod 64=(((d.length+1+vg d.length+8) % 64:Nat):Int):=rfl;rw [hm,oX (decide_eq_false (by unfold vg;omega))];unfold xz.k1;have:=Ay (F:=xz.l3 d) (x0:=(7,d++[128]++ph (vg d.length) (0:UInt8))) (fun j l=>(7 - (j:Int),l)) (sN 8) (fun l j=>l++[Nu d.length j]) some (fun j l=>l.length=d.length+1+vg d.length+j) (i0:=0) (s0:=d++[128]++ph (vg d.length) (0:UInt8)) rfl (pY _) hl (by decide) ?_ ?_
  ·rw [this];rfl
  ·intro rec j l hj hl;rw [Bk] at hj;refine ⟨by simp [hl];omega,?_⟩;simp only [xz.l3];rw [oW (decide_eq_true (by omega)),GM (x:=(d.length:Int)) (by omega) (by omega),GM (x:=(d.length:Int)*8) (by omega) (by omega),GM (x:=7 - (j:Int)) (by omega) (by omega),GM (x:=8*(7 - (j:Int))) (by omega) (by omega)];unfold JW;rw [if_pos (by omega),oA,rl (by simp;omega),oA,rU (by omega) (by omega),CS,show 7 - (j:Int) - 1=7 - ((j+1:Nat):Int) by omega];rfl
  ·intro rec l hl;simp only [xz.l3,xz.k2];rw [oX (by decide)]
def LU:List UInt32:=(O4).getD []
def TK:List UInt32:=[1779033703,3144134277,1013904242,2773480762,1359893119,2600822924,528734635,1541459225]
def TN (d:List UInt8):List UInt8:=Gz ((sN ((Eb d).length / 64)).foldl (fun s i=>IU LU ((Eb d).drop (64*i)) s) TK)
theorem ZU:∃ f,f=TN:=⟨_,rfl⟩
noncomputable def AH:List UInt8→List UInt8:=ZU.choose
theorem TM:AH=TN:=ZU.choose_spec
theorem ZT (d:List UInt8):(AH d).length=32:=by
 rw [TM];unfold TN Gz;rw [NT (fun o i=>by simp)];simp
theorem YH (d:List UInt8):(Eb d).length=64*((Eb d).length / 64):=by
 rw [S2];unfold vg;omega
theorem abq (d:List UInt8) (hd:d.length≤1000000):p9 d=some (AH d):=by
 rw [TM];have hz:vg d.length < 64:=Iz _ (by decide);unfold p9;rw [show QW=some LU from rfl,oA,abp d hd,oA];exact abl LU rfl (Eb d) _ (YH d) (by rw [S2];omega) TK rfl
theorem acK (d:List UInt8) (hd:d.length≤1000000):wv [d]=some d:=by
 unfold wv;refine sy (S:=Int × Int) (σ:=Unit) (fun j _=>(if j=0 then 0 else (d.length:Int),(j:Int))) 1 (fun _ _=>True) _ (i0:=0) (s0:=()) rfl (pY _) trivial (by omega) ?_ ?_
 ·intro rec j _ hj _ pq;obtain rfl:j=0:=by omega
  simp only [wv.l4,wv.k5];rw [oW (show decide (((0:Nat):Int) < (([d]:List (List UInt8)).length:Int))=true from rfl),show ix [d] ((0:Nat):Int)=some d from rfl,oA,if_pos trivial,rU (x:=0+(d.length:Int)) (by omega) (by omega),oX (decide_eq_false (by omega))];have:=pq () trivial;rw [if_neg (by decide)] at this;rw [Int.zero_add];exact this
 ·intro rec _ _;simp only [wv.l4,wv.k1];rw [oX (show decide (((1:Nat):Int) < (([d]:List (List UInt8)).length:Int))=false from rfl),if_neg (by decide)];have hg:BO (d.length:Int)=some []:=by
   unfold BO;rw [oX (decide_eq_false (by omega))];unfold BO.k1 BO.k2;rw [show wr (0 - 0)=0 from rfl,rU (by omega) (by omega)]
   by_cases h:0 < d.length
   ·rw [oW (decide_eq_true (by omega))];obtain ⟨n,hn⟩:∃ n:Nat,d.length=n+1:=⟨d.length - 1,by omega⟩
    unfold KF;rw [if_pos ⟨by omega,by simp;omega⟩,oA,xC (by omega) (by omega) (by omega),oA,hn,show ((n+1:Nat):Int) - 0=((n+1:Nat):Int) by omega,ry,zw,List.replicate_succ];rfl
   ·rw [oX (decide_eq_false (by omega))]
  rw [hg,oA];refine sy (S:=Int × List UInt8) (σ:=Unit) (fun j _=>((j:Int),if j=0 then [] else d)) 1 (fun _ _=>True) _ (i0:=0) (s0:=()) rfl (pY _) trivial (by omega) ?_ ?_
  ·intro rec j _ hj _ pq;obtain rfl:j=0:=by omega
   simp only [wv.l3];rw [oW (show decide (((0:Nat):Int) < (([d]:List (List UInt8)).length:Int))=true from rfl),show ix [d] ((0:Nat):Int)=some d from rfl,oA,if_pos trivial,rl (by simp;omega),oA,zw];have:=pq () trivial;rw [if_neg (by decide)] at this;exact this
  ·intro rec _ _;simp only [wv.l3,wv.k2];rw [oX (show decide (((1:Nat):Int) < (([d]:List (List UInt8)).length:Int))=false from rfl),if_neg (by decide)]
theorem aaP (d:List UInt8) (hd:d.length≤1000000):qP [d]=some (AH d):=by
 rw [TM];have hz:vg d.length < 64:=Iz _ (by decide);unfold qP;rw [acK d hd,oA,show O4=some LU from rfl,oA,aaO d hd,oA];exact aaK LU rfl (Eb d) _ (YH d) (by rw [S2];omega) TK rfl
end Go.Wk.Lf
end
section
namespace Go.Wk.Lf
open Go.V Go.Sort Go.Proofs
theorem Zg:∀ (p:List UInt8) (x y:UInt8) (s t:List UInt8),x≠y→qI (p++x::s) (p++y::t)=decide (x < y)
 | [],x,y,s,t,h=>by
  rw [zw,zw,qI,Op.bytesLess];simp [h]
 | c::p,x,y,s,t,h=>by
  rw [Kd,Kd,qI,Op.bytesLess];have:=Zg p x y s t h;rw [qI] at this;rw [this];simp [UInt8.lt_irrefl]
theorem ZQ {l:List UInt8} {i:Nat} (h:i < l.length):l=l.take i++l[i]::l.drop (i+1):=by
 rw [← BV h,z8]
theorem QI (a b:List UInt8) (ha:a.length=32) (hb:b.length=32):Cm a b=some (qI a b):=by
 unfold Cm;refine sy (S:=Int) (σ:=Unit) (fun i _=>(i:Int)) 32 (fun i _=>a.take i=b.take i) _ (i0:=0) (s0:=()) rfl (pY _) rfl (by decide) ?_ ?_
 ·intro rec i _ hi hI pq;simp only [Cm.l2];have RO:i < a.length:=by omega
  have RP:i < b.length:=by omega
  rw [oW (decide_eq_true (by omega)),pr RO,oA,pr RP,oA]
  by_cases h:a[i]=b[i]
  ·rw [if_neg (by simp [h]),pt (by omega)];exact pq () (by rw [tN RO,tN RP,hI,h])
  ·rw [if_pos (by simp only [ne_eq,decide_eq_true_eq];intro e;exact h (U4 (by omega))),oA,oA]
   congr 1
   conv=>rhs;rw [ZQ RO,ZQ RP,hI]
   rw [Zg _ _ _ _ _ h,decide_eq_decide,UInt8.lt_iff_toNat_lt];omega
 ·intro rec _ hI;simp only [Cm.l2,Cm.k1];rw [if_neg (by decide)];rw [Bl (by omega),Bl (by omega)] at hI;rw [hI,Fj]
def tM (l:List (List UInt8)) (x:List UInt8):Nat:=(l.takeWhile fun y=>qI y x).length
theorem JM (l:List (List UInt8)) (x:List UInt8):tM l x≤l.length:=by
 unfold tM;exact (List.takeWhile_sublist _).length_le
theorem OP {l:List (List UInt8)} {x:List UInt8} {i:Nat} (h:i < tM l x):qI (l[i]'(xO h (JM l x))) x=true:=by
 unfold tM at h;have hm:=qW h;have h1:(l.takeWhile fun y=>qI y x)[i]=l[i]'(xO h (JM l x)):=by
  have:=(List.takeWhile_prefix (fun y=>qI y x) (l:=l))
  exact this.getElem h
 rw [← h1];have h2:=List.all_takeWhile (p:=fun y=>qI y x) (l:=l);rw [qB] at h2;exact h2 _ hm
theorem OO {l:List (List UInt8)} {x:List UInt8} (h:tM l x < l.length):qI l[tM l x] x=false:=by
 induction l with
 | nil=>simp at h
 | cons y l ih =>
  by_cases hy:qI y x=true
  ·have e:tM (y::l) x=tM l x+1:=by simp [tM,List.takeWhile_cons,hy]
   simp only [e] at h ⊢;simp only [List.getElem_cons_succ];exact ih (by simpa using h)
  ·have e:tM (y::l) x=0:=by simp [tM,List.takeWhile_cons,hy]
   simp only [e,List.getElem_cons_zero];simpa using hy
def zP (l:List (List UInt8)) (x:List UInt8):List (List UInt8):=if l[tM l x]? = some x then l else l.take (tM l x)++[x]++l.drop (tM l x)
theorem add_eq (l:List (List UInt8)) (x:List UInt8) (hl:l.length≤100000) (K5:∀ y∈l,y.length=32) (hx:x.length=32) :
  Bz l x=some (zP l x,(tM l x:Int),!decide (l[tM l x]? = some x)):=by
 unfold Bz;have hk:=JM l x;refine sy (S:=Int) (σ:=Unit) (fun i _=>(i:Int)) (tM l x) (fun _ _=>True) _ (i0:=0) (s0:=()) rfl (pY _) trivial (by omega) ?_ ?_
 ·intro rec i _ hi _ pq;simp only [Bz.l2];have qJ:i < l.length:=by omega
  have pv:=OP hi;rw [pH qJ,qA rfl,pr qJ,oA,qA rfl,QI _ _ (K5 _ (qW qJ)) hx,oA,pv,pt (by omega)];exact pq () trivial
 ·intro rec _ _;simp only [Bz.l2,Bz.k1]
  by_cases qJ:tM l x < l.length
  ·have pv:=OO qJ;rw [pH qJ,qA rfl,pr qJ,oA,qA rfl,QI _ _ (K5 _ (qW qJ)) hx,oA,pv];rw [if_neg (by simp),oA];unfold zP;rw [pF qJ]
   by_cases he:l[tM l x]=x
   ·rw [if_pos (by simp [he]),if_pos (by rw [he])];simp [he]
   ·rw [if_neg (by simp [he]),if_neg (by simpa using he),xC (by omega) (by omega) (by omega),oA,rl (by simp;omega),oA,rl (by simp;omega),oA,xC (by omega) (by omega) (by omega),oA,rl (by simp;omega),oA];simp [he]
  ·have aml:tM l x=l.length:=by omega
   rw [pL qJ,te rfl,oA,te rfl,oA,if_neg (by simp),oA,if_neg (by simp)];unfold zP;rw [zr (by omega),if_neg (by simp),xC (by omega) (by omega) (by omega),oA,rl (by simp;omega),oA,rl (by simp;omega),oA,xC (by omega) (by omega) (by omega),oA,rl (by simp;omega),oA];simp
theorem ahW {l:List (List UInt8)} {x:List UInt8} (hr:Aa l):(l[tM l x]? = some x) ↔ x∈l:=by
 constructor
 ·intro h;exact vC h
 ·intro h;obtain ⟨j,hj,rfl⟩:=vX h;have hk:=JM l l[j];have h1:¬ j < tM l l[j]:=fun h2=>by have:=OP h2;rw [Fj] at this;cases this
  have h3:¬ tM l l[j] < j:=fun h4=>by
   have h5:=OO (l:=l) (x:=l[j]) (by omega);have h6:=G3.1 hr (tM l l[j]) j (by omega) hj h4;rw [h6] at h5;cases h5
  have e:tM l l[j]=j:=by omega
  rw [e];exact pF hj
theorem agh {l:List (List UInt8)} {x:List UInt8} (hr:Aa l) (y:List UInt8):y∈zP l x ↔ y∈l∨y=x:=by
 unfold zP
 split
 ·rename_i h;exact ⟨.inl,fun h2=>h2.elim id fun e=>e ▸ vC h⟩
 ·constructor
  ·intro h;simp only [vj,yT] at h;rcases h with (h | h) | h
   ·exact .inl (zt h)
   ·exact .inr h
   ·exact .inl (yS h)
  ·intro h;simp only [vj,yT];rcases h with h | h
   ·rw [← z8 (tM l x) l] at h;rcases vj.1 h with h | h
    ·exact .inl (.inl h)
    ·exact .inr h
   ·exact .inl (.inr h)
theorem agi {l:List (List UInt8)} {x:List UInt8} (hr:Aa l):Aa (zP l x):=by
 unfold zP
 split
 ·exact hr
 ·rename_i h;have hn:x ∉ l:=fun h2=>h ((ahW hr).2 h2);have h1:∀ a∈l.take (tM l x),qI a x=true:=fun a ha=>by
   obtain ⟨i,hi,rfl⟩:=vX ha;simp only [rb] at hi;rw [MW];exact OP (by omega)
  have h2:∀ b∈l.drop (tM l x),qI x b=true:=fun b hb=>by
   obtain ⟨i,hi,rfl⟩:=vX hb;simp only [ue] at hi;rw [UN];have hk:tM l x < l.length:=by omega
   have h3:=OO hk;have h4:qI x l[tM l x]=true:=by
    cases h5:qI x l[tM l x] with
    | true=>rfl
    | false=>exact absurd (qW hk) (by rw [← H9 h5 h3];exact hn)
   cases i with
   | zero=>exact h4
   | succ i=>exact Fk h4 (G3.1 hr _ _ hk (by omega) (by omega))
  have ht:Aa (l.take (tM l x)):=hr.sublist (List.take_sublist _ _);have hd:Aa (l.drop (tM l x)):=hr.sublist (List.drop_sublist _ _);unfold Aa at *;rw [tF,CV];refine ⟨ht,G2.2 ⟨h2,hd⟩,fun a ha b hb=>?_⟩;rcases sg.1 hb with rfl | hb
  ·exact h1 a ha
  ·exact Fk (h1 a ha) (h2 b hb)
theorem agf (l:List (List UInt8)) (x:List UInt8):(zP l x).length≤l.length+1:=by
 unfold zP;split
 ·omega
 ·simp;omega
theorem foldI (ids:List (List UInt8)):∀ acc,Aa acc→Aa (ids.foldl zP acc)∧(∀ y,y∈ids.foldl zP acc ↔ y∈acc∨y∈ids)∧(ids.foldl zP acc).length≤acc.length+ids.length:=by
 induction ids with
 | nil=>intro acc h;simp [h]
 | cons x ids ih =>
  intro acc h;obtain ⟨h1,h2,h3⟩:=ih _ (agi (x:=x) h);refine ⟨h1,fun y=>?_,?_⟩
  ·rw [Kf,h2,agh h];simp [or_assoc]
  ·have:=agf acc x;simp only [Kf,Ew];omega
theorem adn (ids:List (List UInt8)):ids.foldl zP []=uc ids:=by
 obtain ⟨h1,h2,_⟩:=foldI ids [] Fx;exact Y3 _ _ h1 (af3 _) fun x=>by rw [h2,Sl];simp
end Go.Wk.Lf
end
section
namespace Go.Wk.Lf
open Go.V Go.Sort Go.Proofs
theorem ag2 {S A:Type} {F:(S→Option A)→S→Option A} (mk:Nat→S) (n:Nat) (ok:Nat→Bool) (K B:Option A) {x0:S} (hx:x0=mk 0) (hn:n < 9223372036854775808)
  (sw:∀ rec i,i < n→F rec (mk i)=if ok i=true then rec (mk (i+1)) else B) (tv:∀ rec,F rec (mk n)=K):loop F x0=if (∀ i,i < n→ok i=true) then K else B:=by
 subst hx;refine X8 (σ:=Unit) (fun i _=>mk i) n (fun i _=>∀ j,j < i→ok j=true) (fun o=>o=if (∀ i,i < n→ok i=true) then K else B) ?_ ?_ _ 0 () (pY _) (by omega) (by intro j h;omega)
 ·intro rec i _ hi hI pq;rw [sw rec i hi]
  by_cases h:ok i=true
  ·rw [if_pos h];exact pq () fun j hj=>by
    rcases (by omega:j < i∨j=i) with h1 | rfl
    ·exact hI j h1
    ·exact h
  ·rw [if_neg h,if_neg fun uH=>h (uH i hi)]
 ·intro rec _ hI;rw [tv,if_pos hI]
theorem YZ (s:List UInt8) (hl:s.length < 9223372036854775808):By s=some (A6 s):=by
 unfold By A6;rw [ag2 (x0:=(0:Int)) (fun i=>(i:Int)) s.length (fun i=>seen (s.getD i 0)) (some (decide (1≤s.length)&&decide (s.length≤20))) (some false) rfl hl ?_ ?_]
 ·by_cases h:s.all seen=true
  ·rw [h,if_pos ((KE s seen _ fun i hi=>by simp [hi]).2 h),DF]
  ·rw [DG] at h;rw [h,if_neg fun h3=>by rw [(KE s seen _ fun i hi=>by simp [hi]).1 h3] at h;cases h];rw [Fs]
 ·intro rec i hi;simp only [By.l2];rw [oW (pH hi),pr hi,oA];simp only [hi,ya,pF,BZ,seen]
  by_cases Ru:(s[i].toNat:Int) < 33
  ·rw [te (by simp;omega),oA,if_pos (by simp [Ru])];rw [if_neg (by simp only [rk,decide_eq_true_eq];omega)]
  ·rw [qA (by simp;omega),oA]
   by_cases Rt:(126:Int) < (s[i].toNat:Int)
   ·rw [if_pos (by simp [Rt]),if_neg (by simp only [rk,decide_eq_true_eq];omega)]
   ·rw [if_neg (by simp only [xK,decide_eq_true_eq];omega),if_pos (by simp only [rk,decide_eq_true_eq];omega),show wr ((i:Int)+1)=((i+1:Nat):Int) from by rw [rU (by omega) (by omega)];rfl]
 ·intro rec;simp only [By.l2,By.k1];rw [oX (pL (pS _))]
  congr 2
  ·simp;omega
  ·simp;omega
theorem Z6 (l:List UInt8) (hl:l.length≤1073741824):KM l=some l:=by
 unfold KM;rw [rl (by simpa using hl),oA];rfl
end Go.Wk.Lf
end
section
namespace Go.Wk.Lf
open Go.V Go.Sort Go.Proofs
end Go.Wk.Lf
end
section
namespace Go.Wk.Lf
open Go.V Go.Sort Go.Proofs
end Go.Wk.Lf
end
section
namespace Go.Wk.Lf
open Go.V Go.Sort Go.Proofs
def Dt (c:mZ) (f:Found):Option mZ:=if f.oG.kind=1 then Dx c f else if f.oG.kind=2 then Eg c f else if f.oG.kind=3 then Ee c f else some c
def L3:List Found→mZ→Option mZ
 | [],c=>some c
 | f::l,c=>bd (Dt c f) (L3 l)
def K1 (c:mZ):Option (mZ × Int):=rL.k1 c.oD c.chunks c.oB c.seq c.oK
theorem adq (vs:List oH) (fs:List Found) (C:mZ) (hv:vs.length≤1073741824) (hf:fs.length≤1073741824) (h:L3 fs (Ab vs)=some C):rL vs fs=K1 C:=by
 unfold rL Mx;rw [C8 _ hv,oA];refine sy (σ:=mZ) (fun i c=>((i:Int),c.oD,c.chunks,c.oB,c.seq,c.oK)) fs.length (fun i c=>L3 (fs.drop i) c=some C) _ (i0:=0) (s0:=Ab vs) rfl (pY _) h (by omega) ?_ ?_
 ·intro rec i c hi hI pq;simp only [rL.l8];rw [oW (pH hi),pr hi,oA];rw [BV hi] at hI;obtain ⟨d,hd,hI⟩:=oL hI;have hr:=pq d hI;have k9:rL.k9 (i:Int) rec d.oD d.chunks d.oB d.seq d.oK=K1 C:=by
   unfold rL.k9;rw [pt (by omega)];exact hr
  unfold Dt at hd
  by_cases h1:fs[i].oG.kind=1
  ·rw [oW (decide_eq_true h1)];rw [if_pos h1] at hd;rw [show mZ.mk c.seq c.oB c.chunks c.oD c.oK=c from rfl,hd,oA];exact k9
  ·rw [oX (decide_eq_false h1)];rw [if_neg h1] at hd
   by_cases h2:fs[i].oG.kind=2
   ·rw [oW (decide_eq_true h2)];rw [if_pos h2] at hd;rw [show mZ.mk c.seq c.oB c.chunks c.oD c.oK=c from rfl,hd,oA];exact k9
   ·rw [oX (decide_eq_false h2)];rw [if_neg h2] at hd
    by_cases h3:fs[i].oG.kind=3
    ·rw [oW (decide_eq_true h3)];rw [if_pos h3] at hd;rw [show mZ.mk c.seq c.oB c.chunks c.oD c.oK=c from rfl,hd,oA];exact k9
    ·rw [oX (decide_eq_false h3)];rw [if_neg h3] at hd;obtain rfl:=oQ hd;exact k9
 ·intro rec c hI;simp only [rL.l8];rw [oX (pL (pS _))];rw [FA] at hI;obtain rfl:=oQ hI;rfl
def Mc (l:List Chunk) (id:List UInt8) (loc:Loc):List Chunk :=
 if vr l id=true then l.set (wG l id) (Chunk.mk (l.getD (wG l id) default).id (l.getD (wG l id) default).pX (l.getD (wG l id) default).data ((l.getD (wG l id) default).oN++[loc]))
 else l.take (wG l id)++[Chunk.mk id false [] [loc]]++l.drop (wG l id)
theorem Ju {α:Type} {l:List α} {k:Nat} {x:α} (hk:k≤l.length) (hl:l.length≤1000000):wZ l (k:Int) [x]=some (l.take k++[x]++l.drop k):=by
 unfold wZ;rw [if_pos ⟨by omega,by omega,by simp,by simp;omega⟩,ry]
theorem JA {α:Type} {l:List α} {k:Nat} {x:α} (hk:k≤l.length):(l.take k++[x]++l.drop k)[k]? = some x:=by
 rw [tF,s7 (by simp [hk])];simp [Bm hk]
theorem JB {α:Type} {l:List α} {k:Nat} {x y:α} (hk:k≤l.length):(l.take k++[x]++l.drop k).set k y=l.take k++[y]++l.drop k:=by
 rw [tF,List.set_append_right _ _ (by simp [hk])];simp [Bm hk]
theorem acx (c:mZ) (f:Found) (hk:f.oG.kind=1) (hr:C0 c.chunks) (hl:c.chunks.length≤1000000) (hs:∀ x∈c.chunks,x.oN.length≤1000000) (h1:1≤f.oG.data.length) (h64:f.oG.data.length≤64) :
  Dt c f=some ⟨c.seq,c.oB,Mc c.chunks (AH f.oG.data) f.loc,c.oD,c.oK⟩:=by
 unfold Dt;rw [if_pos hk];unfold Dx;rw [oX (by rw [decide_eq_false (by omega),decide_eq_false (by omega)];rfl),aaP _ (by omega),oA,S3 _ _ (by omega) hr,oA];have hle:=Q1 c.chunks (AH f.oG.data);unfold Mc;cases h:vr c.chunks (AH f.oG.data) with
 | true =>
  rw [oX (by rfl),if_pos rfl];have pv:wG c.chunks (AH f.oG.data) < c.chunks.length:=by
   unfold vr at h;simp only [rk,decide_eq_true_eq] at h;exact h.1
  unfold Dx.k1;rw [pr pv,oA,rl (by have:=hs _ (qW pv);simp;omega),oA,oA,pC pv,ry]
 | false =>
  rw [oW (by rfl),Ju hle hl,oA,if_neg (by decide)];unfold Dx.k1;rw [xV (JA hle),oA,rl (by simp),oA,oA,ry,JB hle];simp only [zw]
def D3 (so:List Loc→List Loc) (S:List lU) (c:mZ):mZ :=
 ⟨c.seq,S.map fun s=>lU.mk s.seq s.oJ (so s.oN),c.chunks.map fun x=>Chunk.mk x.id x.pX x.data (so x.oN),c.oD.map fun x=>oC.mk x.seq x.of (so x.oN),c.oK⟩
theorem adj (c:mZ) (S:List lU) (so:List Loc→List Loc) (hS:yO c=some S) (hv:c.oK.length≤1000000) (hs:S.length≤1000000) (hc:c.chunks.length≤1000000) (he:c.oD.length≤1000000)
  (p1:∀ x∈S,Fb x.oN=some (so x.oN)) (p2:∀ x∈c.chunks,Fb x.oN=some (so x.oN)) (p3:∀ x∈c.oD,Fb x.oN=some (so x.oN)) :
  K1 c=some (if wE (D3 so S c)=true then (D3 so S c,0) else (mZ.mk 0 [] [] [] [],1)):=by
 have e4:rL.k4 c.seq c.oK (S.map fun s=>lU.mk s.seq s.oJ (so s.oN)) (c.chunks.map fun x=>Chunk.mk x.id x.pX x.data (so x.oN)) (c.oD.map fun x=>oC.mk x.seq x.of (so x.oN))=some (if wE (D3 so S c)=true then (D3 so S c,0) else (mZ.mk 0 [] [] [] [],1)):=by
  unfold rL.k4;rw [show mZ.mk c.seq (S.map fun s=>lU.mk s.seq s.oJ (so s.oN)) (c.chunks.map fun x=>Chunk.mk x.id x.pX x.data (so x.oN)) (c.oD.map fun x=>oC.mk x.seq x.of (so x.oN)) c.oK=D3 so S c from rfl];rw [QZ _ (by unfold D3;simp only;omega) (by unfold D3;simp only [wz];omega) (by unfold D3;simp only [wz];omega) (by unfold D3;simp only [wz];omega),oA]
  by_cases h:wE (D3 so S c)=true
  ·rw [if_pos h,if_pos h,Z7 _ (KI h)];rfl
  ·rw [if_neg h,if_neg h];rfl
 unfold K1 rL.k1;rw [show mZ.mk c.seq c.oB c.chunks c.oD c.oK=c from rfl,hS,oA];rw [D6 S (fun s=>lU.mk s.seq s.oJ (so s.oN)) (fun l=>rL.k2 c.oD c.chunks c.seq c.oK l) (by omega) ?_ ?_]
 ·unfold rL.k2;rw [D6 c.chunks (fun x=>Chunk.mk x.id x.pX x.data (so x.oN)) (fun l=>rL.k3 c.oD c.seq c.oK (S.map fun s=>lU.mk s.seq s.oJ (so s.oN)) l) (by omega) ?_ ?_]
  ·unfold rL.k3;rw [D6 c.oD (fun x=>oC.mk x.seq x.of (so x.oN)) (fun l=>rL.k4 c.seq c.oK (S.map fun s=>lU.mk s.seq s.oJ (so s.oN)) (c.chunks.map fun x=>Chunk.mk x.id x.pX x.data (so x.oN)) l) (by omega) ?_ ?_]
   ·exact e4
   ·intro rec i l hi hm hx;simp only [rL.l5];rw [oW (pH hi),xV hx,oA,p3 _ (qW hi),oA,pt (by omega),ry]
   ·intro rec l hl;simp only [rL.l5];rw [oX (pL (pS _))]
  ·intro rec i l hi hm hx;simp only [rL.l6];rw [oW (pH hi),xV hx,oA,p2 _ (qW hi),oA,pt (by omega),ry]
  ·intro rec l hl;simp only [rL.l6];rw [oX (pL (pS _))]
 ·intro rec i l hi hm hx;simp only [rL.l7];rw [oW (pH hi),xV hx,oA,p1 _ (qW hi),oA,pt (by omega),ry]
 ·intro rec l hl;simp only [rL.l7];rw [oX (pL (pS _))]
def xY (c:mZ) (s:lU):Bool:=qE c.oD.length (fun k=>!decide ((c.oD.getD k default).of=s.seq))&&qE (uc (sT s.oJ)).length fun k=>vr c.chunks ((uc (sT s.oJ)).getD k default)
theorem akE (c:mZ) (s:lU) (he:c.oD.length≤1000000) (hc:c.chunks.length≤1000000) (hr:C0 c.chunks) (hp:s.oJ.parts.length≤1000000) (hi:(sT s.oJ).length≤1000000):OU c s=some (xY c s):=by
 have hu:=Sk (sT s.oJ);unfold OU TE DB;rw [Gp c.oD.length (fun k=>decide ((c.oD.getD k default).of=s.seq)) (by omega) ?_ ?_,oA,oA,K2]
 ·unfold xY;cases qE c.oD.length (fun k=>!decide ((c.oD.getD k default).of=s.seq)) with
  | false=>rfl
  | true =>
   rw [oX (by rfl),ahe _ (by omega) (by omega),oA];unfold TD DA;rw [Gp (uc (sT s.oJ)).length (fun k=>!vr c.chunks ((uc (sT s.oJ)).getD k default)) (by omega) ?_ ?_,oA,oA,K2]
   ·simp
   ·intro rec i hi;simp only [DA.l2,Tl];rw [oW (pH hi),pr hi,oA,S3 _ _ (by omega) hr,oA,oA,pC hi,pt (by omega)]
   ·intro rec;simp only [DA.l2,DA.k1];rw [oX (pL (pS _))]
 ·intro rec i hi;simp only [DB.l2,Tj];rw [oW (pH hi),pr hi,oA,oA,pC hi,pt (by omega)]
 ·intro rec;simp only [DB.l2,DB.k1];rw [oX (pL (pS _))]
end Go.Wk.Lf
end
section
namespace Go.Wk.Lf
open Go.V Go.Sort Go.Proofs
theorem acG (xs:List Loc) (hl:xs.length≤1073741824):uN xs=some (vm xs):=by
 unfold uN
 by_cases h2:xs.length < 2
 ·rw [oW (decide_eq_true (by omega)),NH _ h2]
 ·rw [oX (decide_eq_false (by omega))];refine sy (S:=Int) (σ:=Unit) (fun i _=>(i:Int)) xs.length (fun i _=>1≤i∧vm (xs.take i)=xs.take i) _ (i0:=1) (s0:=()) rfl (by omega) ⟨by omega,NH _ (by simp;omega)⟩ (by omega) ?_ ?_
  ·intro rec i _ hi hI pq;obtain ⟨h1,hc⟩:=hI;simp only [uN.l2,uN.k3];rw [oW (pH hi),pr hi,oA,BR (by omega) (by omega),pr (show i - 1 < xs.length by omega),oA];have pz:=NI (l:=xs) (j:=i - 1) (a:=xs[i - 1]) (b:=xs[i]) (pF (by omega)) (by rw [show i - 1+1=i by omega];exact pF hi);rw [show i - 1+2=i+1 by omega,show i - 1+1=i by omega,hc] at pz
   by_cases he:xs[i]=xs[i - 1]
   ·rw [oW (decide_eq_true he),xC (by omega) (by omega) (by omega),oA];rw [if_pos he.symm] at pz;refine sy (S:=Int × Int × List Loc) (σ:=Nat × List Loc) (fun k s=>((s.1:Int),(k:Int),s.2)) (xs.length - i) (fun k s=>s.2.length=xs.length∧1≤k∧1≤s.1∧s.1≤i+k - 1∧s.2.take s.1=vm (xs.take (i+k)) ∧ ∀ q,i+k - 1≤q→s.2[q]? = xs[q]?) _ (i0:=1) (s0:=(i,xs)) rfl (by omega) ⟨rfl,by omega,by omega,by simp,pz.symm,fun q _=>rfl⟩ (by omega) ?_ ?_
    ·rintro vU k ⟨w,cs⟩ hk ⟨e1,e2,e3,e4,e5,e6⟩ Au;simp only at e1 e3 e4 e5 e6;simp only [uN.l5,uN.k6,ry];have Ld:i+k < cs.length:=by omega
     have BD:cs[i+k]=xs[i+k]:=by have:=e6 (i+k) (by omega);rw [pF Ld,pF (by omega)] at this;exact oQ this
     have tE:cs[i+(k - 1)]=xs[i+(k - 1)]:=by have:=e6 (i+(k - 1)) (by omega);rw [pF (by omega),pF (by omega)] at this;exact oQ this
     have vS:=NI (l:=xs) (j:=i+(k - 1)) (a:=xs[i+(k - 1)]) (b:=xs[i+k]) (pF (by omega)) (by rw [show i+(k - 1)+1=i+k by omega];exact pF (by omega));rw [show i+(k - 1)+2=i+(k+1) by omega,show i+(k - 1)+1=i+k by omega,← e5] at vS;rw [oW (pH hk),On hk Ld,oA,BR (by omega) (by omega),On (show k - 1 < xs.length - i by omega) (by omega),oA,BD,tE]
     by_cases pM:xs[i+k]=xs[i+(k - 1)]
     ·rw [oX (by simp [pM]),pt (by omega)];rw [if_pos pM.symm] at vS;exact Au (w,cs) ⟨e1,by omega,e3,by simp only;omega,vS.symm,fun q hq=>e6 q (by omega)⟩
     ·rw [oW (by simp [pM]),oA,pr (show w < cs.length by omega),oA,pt (by omega),pt (by omega)];rw [if_neg (fun h=>pM h.symm)] at vS;refine Au (w+1,cs.set w xs[i+k]) ⟨by simp [e1],by omega,by simp,by simp only;omega,?_,fun q hq=>?_⟩
      ·simp only;rw [ZX _ (by omega),vS]
      ·simp only;rw [yb (by omega)];exact e6 q (by omega)
    ·rintro vU ⟨w,cs⟩ ⟨e1,e2,e3,e4,e5,e6⟩;simp only at e1 e3 e4 e5 e6;simp only [uN.l5,uN.k4,ry];rw [oX (pL (pS _)),xC (by omega) (by omega) (by omega),oA];rw [show Co cs w (cs.length - w) (Loc.mk 0 0 0 0)=some (cs.take w++ph (cs.length - w) (Loc.mk 0 0 0 0)) from if_pos (by omega),oA];rw [xC (by omega) (by omega) (by simp;omega),oA];simp only [ry,UF,yu];rw [SZ (by simp only [ne_eq,List.append_eq_nil_iff,not_and];intro q;have q2:=congrArg P2 q;rw [rb,MX] at q2;omega),oA,M1 (by simp;omega),Ix,Nat.min_self,e5,show i+(xs.length - i)=xs.length by omega,uf]
   ·rw [oX (decide_eq_false he),pt (by omega)];rw [if_neg (fun h=>he h.symm)] at pz;exact pq () ⟨by omega,by rw [pz,tN hi]⟩
  ·intro rec _ hI;simp only [uN.l2,uN.k1];rw [oX (pL (pS _))];have:=hI.2;rw [uf] at this;rw [this]
def sa (l:List Loc):List Loc:=vm (A3 sA l)
theorem S6 (l:List Loc) (hl:l.length≤1000000):Fb l=some (sa l):=by
 have h1:=(HR sA l).length_eq;have h2:=NG (A3 sA l);unfold Fb El;rw [C8 _ (by omega),oA,ZN (by omega),oA,acG _ (by omega),oA,C8 _ (by omega),oA];rfl
end Go.Wk.Lf
end
section
namespace Go.Wk.Lf
open Go.V Go.Sort Go.Proofs
def xu (l:List lU) (q:Int):Nat:=yr l fun s=>decide (s.seq < q)
def Dj (l:List lU) (q:Int):Bool:=decide (xu l q < l.length)&&decide ((l.getD (xu l q) default).seq=q)
def xt (l:List oC) (q:Int):Nat:=yr l fun s=>decide (s.seq < q)
def Di (l:List oC) (q:Int):Bool:=decide (xt l q < l.length)&&decide ((l.getD (xt l q) default).seq=q)
theorem Wr (a b:Int):decide (C9 a b < 0)=decide (a < b):=by
 unfold C9
 by_cases h:a < b
 ·simp [h]
 ·by_cases h2:b < a <;> simp [h,h2]
theorem Ws (a b:Int):decide (C9 a b=0)=decide (a=b):=by
 unfold C9
 by_cases h:a < b
 ·have:a≠b:=by omega
  simp [h,this]
 ·by_cases h2:b < a
  ·have:a≠b:=by omega
   simp [h,h2,this]
  ·have:a=b:=by omega
   simp [h,h2,this]
theorem akm (l:List lU) (q:Int) (hl:l.length≤1073741824) (hr:l.Pairwise fun a b=>a.seq < b.seq) :
  CJ l q=some (((xu l q:Nat):Int),Dj l q):=by
 unfold Dj xu yr CJ;refine QL l.length (fun i=>decide ((l.getD i default).seq < q)) (fun k=>some ((k:Int),decide (k < l.length)&&decide ((l.getD k default).seq=q))) hl ?_ ?_ ?_
 ·intro i j An hj h;rw [pC hj,decide_eq_true_eq] at h;rw [pC (by omega),decide_eq_true_eq];exact PT (JK hr An hj) h
 ·intro rec i j An hj;simp only [CJ.l2];have hm:(i+j) / 2 < l.length:=by omega
  rw [oW (pH An),SL (by omega) (by omega),pr hm,oA];simp only [Mg,KQ,oA,Wr,pC hm,pt (show (i+j) / 2 < 4611686018427387904 by omega)]
 ·intro rec i hi;simp only [CJ.l2,CJ.k1];rw [oX (pL (pS _))]
  by_cases h:i < l.length
  ·simp only [pH h,pr h,uJ,oA,if_true,Mg,KQ,uQ,pC h,decide_eq_true h,Ws]
  ·simp only [pL h,te,oA,xg,decide_eq_false h]
theorem ac9 (l:List oC) (q:Int) (hl:l.length≤1073741824) (hr:l.Pairwise fun a b=>a.seq < b.seq) :
  CI l q=some (((xt l q:Nat):Int),Di l q):=by
 unfold Di xt yr CI;refine QL l.length (fun i=>decide ((l.getD i default).seq < q)) (fun k=>some ((k:Int),decide (k < l.length)&&decide ((l.getD k default).seq=q))) hl ?_ ?_ ?_
 ·intro i j An hj h;rw [pC hj,decide_eq_true_eq] at h;rw [pC (by omega),decide_eq_true_eq];exact PT (JK hr An hj) h
 ·intro rec i j An hj;simp only [CI.l2];have hm:(i+j) / 2 < l.length:=by omega
  rw [oW (pH An),SL (by omega) (by omega),pr hm,oA];simp only [Mf,KQ,oA,Wr,pC hm,pt (show (i+j) / 2 < 4611686018427387904 by omega)]
 ·intro rec i hi;simp only [CI.l2,CI.k1];rw [oX (pL (pS _))]
  by_cases h:i < l.length
  ·simp only [pH h,pr h,uJ,oA,if_true,Mf,KQ,uQ,pC h,decide_eq_true h,Ws]
  ·simp only [pL h,te,oA,xg,decide_eq_false h]
def Nl (loc:Loc) (s:lU):lU:=lU.mk s.seq s.oJ (s.oN++[loc])
def Nj (loc:Loc) (s:oC):oC:=oC.mk s.seq s.of (s.oN++[loc])
def AE {α:Type} [Inhabited α] (l:List α) (k:Nat) (hit:Bool) (f:α→α) (x:α):List α:=if hit=true then l.set k (f (l.getD k default)) else l.take k++[x]++l.drop k
def JO (l:List lU) (q:Int) (m:oP) (loc:Loc):List lU:=AE l (xu l q) (Dj l q) (Nl loc) (lU.mk q m [loc])
def JN (l:List oC) (q of:Int) (loc:Loc):List oC:=AE l (xt l q) (Di l q) (Nj loc) (oC.mk q of [loc])
def OE (q s:Int):Int:=if q < (if 1073741824 < s then 1073741824 else s)+1 then (if 1073741824 < s then 1073741824 else s)+1 else q
theorem JC (q s:Int) (h:-9223372036854775808≤s):(if q < wr ((if 1073741824 < s then 1073741824 else s)+1) then wr ((if 1073741824 < s then 1073741824 else s)+1) else q)=OE q s:=by
 have:wr ((if 1073741824 < s then 1073741824 else s)+1)=(if 1073741824 < s then 1073741824 else s)+1:=by
  split <;> exact rU (by omega) (by omega)
 unfold OE;rw [this]
noncomputable def wR (c:mZ) (f:Found):mZ :=
 if f.oG.kind=1 then (if 1≤f.oG.data.length∧f.oG.data.length≤64 then ⟨c.seq,c.oB,Mc c.chunks (AH f.oG.data) f.loc,c.oD,c.oK⟩ else c)
 else if f.oG.kind=2 then (if (uz f.oG.data).2=0 then ⟨OE c.seq f.oG.seq,JO c.oB f.oG.seq (uz f.oG.data).1 f.loc,c.chunks,c.oD,c.oK⟩ else c)
 else if f.oG.kind=3 then (if f.oG.data.length=4 then ⟨OE c.seq f.oG.seq,c.oB,c.chunks,JN c.oD f.oG.seq (sU f.oG.data:Int) f.loc,c.oK⟩ else c)
 else c
structure Good (n:Nat) (c:mZ):Prop where
 rc:C0 c.chunks
 rs:c.oB.Pairwise fun a b=>a.seq < b.seq
 re:c.oD.Pairwise fun a b=>a.seq < b.seq
 lc:c.chunks.length≤n
 ls:c.oB.length≤n
 le:c.oD.length≤n
 kc:∀ x∈c.chunks,x.id.length=32∧x.data=[]∧x.pX=false∧x.oN.length≤n
 ks:∀ s∈c.oB,tX s.oJ∧E9 s.oJ∧s.oN.length≤n
 ke:∀ x∈c.oD,x.oN.length≤n
def fit (f:Found):Prop:=f.oG.data.length≤100000 ∧ -9223372036854775808≤f.oG.seq
theorem ako {n:Nat} (c:mZ) (f:Found) (hg:Good n c) (hn:n≤1000) (hf:fit f) (hk:f.oG.kind=2):Dt c f=some (wR c f):=by
 have h1:=hg.ls;unfold Dt wR;rw [if_neg (by omega),if_pos hk,if_neg (by omega),if_pos hk];unfold Eg;rw [aie _ (by have:=hf.1;omega),oA]
 by_cases h0:(uz f.oG.data).2=0
 ·have hle:xu c.oB f.oG.seq≤c.oB.length:=H2 _ _;rw [if_pos h0,oX (decide_eq_false fun h=>h h0),akm _ _ (by omega) hg.rs,oA];unfold JO AE;cases h:Dj c.oB f.oG.seq with
  | true =>
   have pv:xu c.oB f.oG.seq < c.oB.length:=by unfold Dj at h;simp only [rk,decide_eq_true_eq] at h;exact h.1
   rw [oX (by rfl),if_pos rfl];unfold Eg.k1;rw [pr pv,oA,rl (by have:=(hg.ks _ (qW pv)).2.2;simp;omega),oA,oA,pC pv,ry,JC _ _ hf.2];rfl
  | false =>
   rw [oW (by rfl),Ju hle (by omega),oA,if_neg (by decide)];unfold Eg.k1;rw [xV (JA hle),oA,rl (by simp),oA,oA,ry,JB hle,JC _ _ hf.2];rfl
 ·rw [if_neg h0,oW (decide_eq_true h0)]
theorem ada {n:Nat} (c:mZ) (f:Found) (hg:Good n c) (hn:n≤1000) (hf:fit f) (hk:f.oG.kind=3):Dt c f=some (wR c f):=by
 have h1:=hg.le;unfold Dt wR;rw [if_neg (by omega),if_neg (by omega),if_pos hk,if_neg (by omega),if_neg (by omega),if_pos hk];unfold Ee
 by_cases h0:f.oG.data.length=4
 ·have hle:xt c.oD f.oG.seq≤c.oD.length:=H2 _ _;have Xy:=get_eq f.oG.data 0 4 (by decide) (by decide) (by omega) (by omega);rw [show f.oG.data.take (0+4)=f.oG.data from Bl (by omega),yu] at Xy;rw [if_pos h0,oX (decide_eq_false (by omega)),show AT f.oG.data 0 4=_ from Xy,oA,ac9 _ _ (by omega) hg.re,oA];unfold JN AE;cases h:Di c.oD f.oG.seq with
  | true =>
   have pv:xt c.oD f.oG.seq < c.oD.length:=by unfold Di at h;simp only [rk,decide_eq_true_eq] at h;exact h.1
   rw [oX (by rfl),if_pos rfl];unfold Ee.k1;rw [pr pv,oA,rl (by have:=hg.ke _ (qW pv);simp;omega),oA,oA,pC pv,ry,JC _ _ hf.2];rfl
  | false =>
   rw [oW (by rfl),Ju hle (by omega),oA,if_neg (by decide)];unfold Ee.k1;rw [xV (JA hle),oA,rl (by simp),oA,oA,ry,JB hle,JC _ _ hf.2];rfl
 ·rw [if_neg h0,oW (decide_eq_true (by omega))]
theorem ahj {n:Nat} (c:mZ) (f:Found) (hg:Good n c) (hn:n≤1000) (hf:fit f):Dt c f=some (wR c f):=by
 by_cases h1:f.oG.kind=1
 ·by_cases hd:1≤f.oG.data.length∧f.oG.data.length≤64
  ·rw [acx c f h1 hg.rc (by have:=hg.lc;omega) (fun x hx=>by have:=(hg.kc x hx).2.2.2;omega) hd.1 hd.2];unfold wR;rw [if_pos h1,if_pos hd]
  ·unfold Dt wR Dx;rw [if_pos h1,if_pos h1,if_neg hd,oW];rw [xK,decide_eq_true_eq,decide_eq_true_eq];omega
 ·by_cases h2:f.oG.kind=2
  ·exact ako c f hg hn hf h2
  ·by_cases h3:f.oG.kind=3
   ·exact ada c f hg hn hf h3
   ·unfold Dt wR;rw [if_neg h1,if_neg h2,if_neg h3,if_neg h1,if_neg h2,if_neg h3]
theorem ah1 {κ:Type} {R:κ→κ→Prop} (tr:∀ a b c,R a b→R b c→R a c) {l:List κ} (h:l.Pairwise R) {k:Nat} {y:κ} (h1:∀ x∈l.take k,R x y) (h2:∀ x∈l.drop k,R y x):(l.take k++[y]++l.drop k).Pairwise R:=by
 rw [← z8 k l] at h;obtain ⟨a,b,c⟩:=CV.1 h;refine CV.2 ⟨CV.2 ⟨a,US _ _,fun x hx z hz=>by rw [yT.1 hz];exact h1 x hx⟩,b,fun x hx z hz=>?_⟩;rcases vj.1 hx with hx | hx
 ·exact c x hx z hz
 ·rw [yT.1 hx];exact h2 z hz
theorem ahX {α:Type} [Inhabited α] {l:List α} {lt:α→Bool}:∀ x∈l.take (yr l lt),lt x=true:=fun x hx=>by
 obtain ⟨i,hi,rfl⟩:=vX hx;rw [rb] at hi;have:=OS (n:=l.length) (f:=fun i=>lt (l.getD i default)) (q:=i) (by unfold yr at hi;omega);rw [pC (by omega)] at this;rw [MW];exact this
theorem ahV {α:Type} [Inhabited α] {l:List α} {R:α→α→Prop} {lt:α→Bool} (hr:l.Pairwise R) (hm:∀ a b,R a b→lt b=true→lt a=true):∀ x∈l.drop (yr l lt),lt x=false:=fun x hx=>by
 obtain ⟨i,hi,rfl⟩:=vX hx;rw [ue] at hi;have h0:=OR (n:=l.length) (f:=fun i=>lt (l.getD i default)) (by unfold yr at hi;omega);rw [pC (by unfold yr at hi;omega)] at h0;rw [UN];cases XU:lt (l[yr l lt+i]'(by omega)) with
 | false=>rfl
 | true =>
  rcases Nat.eq_zero_or_pos i with rfl | hp
  ·exact XU.symm.trans h0
  ·have:=hm _ _ (G3.1 hr (yr l lt) (yr l lt+i) (by omega) (by omega) (by omega)) XU;exact this.symm.trans h0
theorem S8 {α:Type} [Inhabited α] (l:List α) (k:Nat) (b:Bool) (f:α→α) (x:α):(AE l k b f x).length≤l.length+1:=by
 unfold AE
 split
 ·simp
 ·simp;omega
theorem S9 {α:Type} [Inhabited α] {l:List α} {k:Nat} {b:Bool} {f:α→α} {x y:α} (hb:b=true→k < l.length) (h:y∈AE l k b f x):y∈l∨(∃ z∈l,y=f z)∨y=x:=by
 unfold AE at h
 split at h
 ·rename_i wJ;rcases List.mem_or_eq_of_mem_set h with h | h
  ·exact .inl h
  ·exact .inr (.inl ⟨_,by rw [pC (hb wJ)];exact qW _,h⟩)
 ·rcases vj.1 h with h | h
  ·rcases vj.1 h with h | h
   ·exact .inl (zt h)
   ·exact .inr (.inr (yT.1 h))
  ·exact .inl (yS h)
theorem Ta {α κ:Type} [Inhabited α] {key:α→κ} {R:κ→κ→Prop} (tr:∀ a b c,R a b→R b c→R a c) {l:List α} (hr:l.Pairwise fun a b=>R (key a) (key b)) {lt:α→Bool} {f:α→α} (hf:∀ a,key (f a)=key a) {x:α} (hx:∀ a,lt a=true ↔ R (key a) (key x)) {b:Bool}
  (pM:b=false → ∀ a∈l,lt a=false→R (key x) (key a)):(AE l (yr l lt) b f x).Pairwise fun a b=>R (key a) (key b):=by
 have hm:∀ a b,R (key a) (key b)→lt b=true→lt a=true:=fun a b h1 h2=>(hx a).2 (tr _ _ _ h1 ((hx b).1 h2));unfold AE
 split
 ·have e:(l.set (yr l lt) (f (l.getD (yr l lt) default))).map key=l.map key:=by
   rw [List.map_set,hf];apply List.ext_getElem?;intro j
   by_cases hj:j=yr l lt
   ·subst hj
    by_cases hl:yr l lt < l.length
    ·rw [vN (by simpa using hl),pC hl,xh,pF hl];rfl
    ·rw [zr (by simpa using hl),zr (by simpa using hl)]
   ·rw [yb fun q=>hj q.symm]
  rw [← List.pairwise_map (f:=key) (R:=R)] at hr ⊢;rw [e];exact hr
 ·rename_i hb;have hb:b=false:=by simpa using hb
  refine ah1 (R:=fun a b=>R (key a) (key b)) (fun a b c=>tr _ _ _) hr (fun a ha=>(hx a).1 (ahX a ha)) fun a ha=>?_;exact pM hb a (yS ha) (ahV hr hm a ha)
theorem S7 (l:List Chunk) (id:List UInt8) (loc:Loc):Mc l id loc=AE l (wG l id) (vr l id) (fun x=>Chunk.mk x.id x.pX x.data (x.oN++[loc])) (Chunk.mk id false [] [loc]):=rfl
theorem SX {n:Nat} {c:mZ} {f:Found} (hg:Good n c):Good (n+1) (wR c f):=by
 have up:Good (n+1) c:=⟨hg.rc,hg.rs,hg.re,by have:=hg.lc;omega,by have:=hg.ls;omega,by have:=hg.le;omega,fun x hx=>by obtain ⟨a,b,c,d⟩:=hg.kc x hx;exact ⟨a,b,c,by omega⟩,fun s hs=>by obtain ⟨a,b,c⟩:=hg.ks s hs;exact ⟨a,b,by omega⟩,fun x hx=>by have:=hg.ke x hx;omega⟩
 unfold wR
 split
 ·split
  ·refine { up with rc:=?_,lc:=?_,kc:=fun x hx=>?_ }
   ·simp only [S7];refine Ta (key:=Chunk.id) (R:=fun a b=>qI a b=true) (fun a b c=>Fk) hg.rc (f:=fun x=>Chunk.mk x.id x.pX x.data (x.oN++[f.loc])) (x:=Chunk.mk (AH f.oG.data) false [] [f.loc]) (fun _=>rfl) (fun a=>Iff.rfl) fun hb a ha pv=>?_;cases h:qI (AH f.oG.data) a.id with
    | true=>rfl
    | false =>
     have:vr c.chunks (AH f.oG.data)=true:=(N0 hg.rc _).2 ⟨a,ha,H9 pv h⟩;rw [hb] at this;cases this
   ·simp only [S7];exact wT (S8 _ _ _ _ _) (by have:=hg.lc;omega)
   ·simp only [S7] at hx;rcases S9 (fun hb=>by unfold vr at hb;simp only [rk,decide_eq_true_eq] at hb;exact hb.1) hx with h | ⟨z,hz,rfl⟩ | rfl
    ·exact up.kc x h
    ·obtain ⟨a,b,c,d⟩:=hg.kc z hz;exact ⟨a,b,c,by simp;omega⟩
    ·exact ⟨ZT _,rfl,rfl,by simp⟩
  ·exact up
 ·split
  ·split
   ·rename_i h0;refine { up with rs:=?_,ls:=?_,ks:=fun x hx=>?_ }
    ·simp only [JO,xu];refine Ta (key:=lU.seq) (R:=fun a b=>a < b) (fun a b c=>PT) hg.rs (f:=Nl f.loc) (x:=lU.mk f.oG.seq (uz f.oG.data).1 [f.loc]) (fun _=>rfl) (fun a=>decide_eq_true_iff) fun hb a ha pv=>?_;have Od:¬ a.seq < f.oG.seq:=by simpa using pv
     refine Int.lt_iff_le_and_ne.2 ⟨by simp only;omega,fun e=>?_⟩;have e:f.oG.seq=a.seq:=e;obtain ⟨i,hi,rfl⟩:=vX ha;have EU:xu c.oB f.oG.seq=i:=Ec (by omega) (fun q hq=>by rw [pC (by omega),decide_eq_true_eq,e];exact JK hg.rs hq hi) fun h=>by rw [pC hi,decide_eq_false_iff_not];exact Od
     unfold Dj at hb;rw [EU,pC hi,decide_eq_true hi,decide_eq_true e.symm] at hb;cases hb
    ·exact wT (S8 _ _ _ _ _) (by have:=hg.ls;omega)
    ·rcases S9 (fun hb=>by unfold Dj at hb;simp only [rk,decide_eq_true_eq] at hb;exact hb.1) hx with h | ⟨z,hz,rfl⟩ | rfl
     ·exact up.ks x h
     ·obtain ⟨a,b,c⟩:=hg.ks z hz;exact ⟨a,b,by simp [Nl];omega⟩
     ·rcases aib f.oG.data with ⟨m,hm,e⟩ | ⟨_,e⟩
      ·rw [e];exact ⟨hm.1,hm.2.1,by simp⟩
      ·rw [e] at h0;cases h0
   ·exact up
  ·split
   ·split
    ·refine { up with re:=?_,le:=?_,ke:=fun x hx=>?_ }
     ·simp only [JN,xt];refine Ta (key:=oC.seq) (R:=fun a b=>a < b) (fun a b c=>PT) hg.re (f:=Nj f.loc) (x:=oC.mk f.oG.seq (sU f.oG.data:Int) [f.loc]) (fun _=>rfl) (fun a=>decide_eq_true_iff) fun hb a ha pv=>?_;have Od:¬ a.seq < f.oG.seq:=by simpa using pv
      refine Int.lt_iff_le_and_ne.2 ⟨by simp only;omega,fun e=>?_⟩;have e:f.oG.seq=a.seq:=e;obtain ⟨i,hi,rfl⟩:=vX ha;have EU:xt c.oD f.oG.seq=i:=Ec (by omega) (fun q hq=>by rw [pC (by omega),decide_eq_true_eq,e];exact JK hg.re hq hi) fun h=>by rw [pC hi,decide_eq_false_iff_not];exact Od
      unfold Di at hb;rw [EU,pC hi,decide_eq_true hi,decide_eq_true e.symm] at hb;cases hb
     ·exact wT (S8 _ _ _ _ _) (by have:=hg.le;omega)
     ·rcases S9 (fun hb=>by unfold Di at hb;simp only [rk,decide_eq_true_eq] at hb;exact hb.1) hx with h | ⟨z,hz,rfl⟩ | rfl
      ·exact up.ke x h
      ·have:=hg.ke z hz;simp [Nj];omega
      ·simp
    ·exact up
   ·exact up
theorem QF (vs:List oH):Good 0 (Ab vs):=⟨Fx,Fx,Fx,px _,px _,px _,fun x hx=>(by cases hx),fun x hx=>(by cases hx),fun x hx=>by cases hx⟩
noncomputable def zS (fs:List Found) (c:mZ):mZ:=fs.foldl wR c
theorem ahl (fs:List Found):∀ n c,Good n c→Good (n+fs.length) (zS fs c):=by
 induction fs with
 | nil=>intro n c h;exact h
 | cons f fs ih =>
  intro n c h;have:=ih (n+1) (wR c f) (SX h);rw [Ew,show n+(fs.length+1)=n+1+fs.length by omega];exact this
theorem ahk (fs:List Found):∀ n c,Good n c→n+fs.length≤1000→(∀ f∈fs,fit f)→L3 fs c=some (zS fs c):=by
 induction fs with
 | nil=>intro n c h hn hf;rfl
 | cons f fs ih =>
  intro n c h hn hf;rw [Ew] at hn;simp only [L3];rw [ahj c f h (by omega) (hf f (UP ..)),oA];exact ih (n+1) (wR c f) (SX h) (by omega) fun g hg=>hf g (ti _ hg)
end Go.Wk.Lf
end
section
namespace Go.Wk.Lf
open Go.V Go.Sort Go.Proofs
theorem Y4 (m:oP) (hn:m.name.length < 4611686018427387904) (hp:∀ p∈m.parts,p.path.length < 4611686018427387904):BA m=some (decide (tX m)):=by
 unfold BA;rw [YZ _ (by omega),oA]
 by_cases h0:A6 m.name=true∧m.parts.length≤6
 ·obtain ⟨hn,h6⟩:=h0;rw [if_neg (by simp only [hn];simp;omega)];rw [Ow (x0:=(0:Int)) (fun i=>(i:Int)) m.parts.length (fun i=>zT (m.parts.getD i default)&&(!decide (0 < i)||qI (m.parts.getD (i - 1) default).path (m.parts.getD i default).path)) (some true) (some false) rfl (by omega) ?_ ?_]
  ·have Hx:=Vy m.parts zT
   by_cases h:m.parts.all zT=true∧H6 m.parts
   ·rw [if_pos (Hx.2 h),decide_eq_true (show tX m from ⟨hn,h6,h.1,h.2⟩)]
   ·rw [if_neg fun h2=>h (Hx.1 h2),decide_eq_false fun h2:tX m=>h ⟨h2.2.2.1,h2.2.2.2⟩]
  ·intro rec i hi;simp only [BA.l2];rw [oW (pH hi),pr hi,oA,YZ _ (by have:=hp _ (qW hi);omega),oA,ZZ m.parts i hi (by omega)];simp only [ya,pF hi,BZ];generalize hQ:m.parts[i]=p;have e1:decide (25 < (p.ids.length:Int)) = !decide (p.ids.length≤25):=by
    rw [← decide_not,decide_eq_decide];omega
   have e2:decide ((p.ids.length:Int)=0)=decide (p.ids.length=0):=by rw [decide_eq_decide];omega
   have e3:decide (p.size < 0) = !decide (0≤p.size):=by rw [← decide_not,decide_eq_decide];omega
   have e4:decide (200 < p.size) = !decide (p.size≤200):=by rw [← decide_not,decide_eq_decide];omega
   rw [e1,e2,e3,e4];unfold zT;cases hN:A6 p.path with
   | false=>simp
   | true =>
    by_cases h0:0 < i
    ·have sK:i - 1 < m.parts.length:=by omega
     have rp:(0:Int) < (i:Int):=by omega
     simp only [h0,rp,and_self,if_true,pF sK,BZ,decide_true,uP,uB,uQ,pt (show i < 4611686018427387904 by omega)];have hg:=Xb p.path m.parts[i - 1].path;rw [← hg];generalize (qI p.path m.parts[i - 1].path||p.path == m.parts[i - 1].path)=c;generalize decide (0≤p.size)=c1;generalize decide (p.size≤200)=c2;generalize decide (p.ids.length≤25)=c3;generalize decide (p.ids.length=0)=c4;generalize decide (p.size=0)=c5;cases c <;> cases c1 <;> cases c2 <;> cases c3 <;> cases c4 <;> cases c5 <;> rfl
    ·have rp:¬ (0:Int) < (i:Int):=by omega
     simp only [h0,rp,and_false,if_false,decide_false,xg,uP,Bool.or_false,uB,x5,CP,DF,uQ,pt (show i < 4611686018427387904 by omega)];generalize decide (0≤p.size)=c1;generalize decide (p.size≤200)=c2;generalize decide (p.ids.length≤25)=c3;generalize decide (p.ids.length=0)=c4;generalize decide (p.size=0)=c5;cases c1 <;> cases c2 <;> cases c3 <;> cases c4 <;> cases c5 <;> rfl
  ·intro rec;simp only [BA.l2,BA.k1];rw [oX (pL (pS _))]
 ·rw [if_pos (by
   simp only [xK,decide_eq_true_eq,AK];cases hn:A6 m.name with
   | false=>exact .inl rfl
   | true =>
    rcases M3 6 m.parts.length with h6 | h6
    ·right;omega
    ·exact absurd ⟨hn,h6⟩ h0),decide_eq_false fun h:tX m=>h0 ⟨h.1,h.2.1⟩]
end Go.Wk.Lf
end
section
namespace Go.Wk.Lf
open Go.V Go.Sort Go.Proofs
abbrev Cu (b:List UInt8):={s:Nat × Bool // s.1≤b.length}
def zW (b:List UInt8) (s:Cu b) (n:Nat):List UInt8 × Cu b :=
 if h:(s.val.2||decide (b.length < s.val.1+n))=true then (ph n 0,⟨(s.val.1,true),s.property⟩) else ((b.drop s.val.1).take n,⟨(s.val.1+n,s.val.2),by simp only [xK,decide_eq_true_eq,not_or] at h;simp only;omega⟩)
def rG (b:List UInt8):Tk (Cu b) where
 rest s:=b.drop s.val.1
 bad s:=s.val.2
 take:=zW b
 len s n:=by
  unfold zW;split
  ·simp
  ·rename_i h;simp only [xK,decide_eq_true_eq,not_or] at h;simp;omega
 sound s n h:=by
  unfold zW at h ⊢;split at h
  ·cases h
  ·rename_i hc;rw [dif_neg hc];refine ⟨h,?_⟩;show b.drop s.val.1=(b.drop s.val.1).take n++b.drop (s.val.1+n);rw [← Bj,z8]
 full s x t hb hr:=by
  have HK:b.drop s.val.1=x++t:=hr;have pP:s.val.2=false:=hb;have hl:x.length+t.length=b.length - s.val.1:=by rw [← rH,← HK,ue]
  have hs:=s.property;unfold zW;rw [dif_neg (by rw [pP];simp;omega)];exact ⟨by rw [HK];simp,by show b.drop (s.val.1+x.length)=t;rw [← Bj,HK];simp,pP⟩
def xc {b:List UInt8} (s:Cu b):vE:=⟨b,(s.val.1:Int),s.val.2⟩
theorem Pk {b:List UInt8} (s:Cu b) (n:Nat) (hn:n≤65536) (hb:b.length≤1000000000):vG (xc s) (n:Int)=some ((zW b s n).1,xc (zW b s n).2):=by
 unfold vG zW xc;have hs:=s.property;simp only;rw [rU (x:=(b.length:Int) - (s.val.1:Int)) (by omega) (by omega)];have e:decide ((b.length:Int) - (s.val.1:Int) < (n:Int))=decide (b.length < s.val.1+n):=by rw [decide_eq_decide];omega
 rw [e]
 split
 ·rw [Y0 (by omega) (by omega),oA,ry]
 ·rename_i h;simp only [xK,decide_eq_true_eq,not_or] at h;rw [rU (x:=(s.val.1:Int)+(n:Int)) (by omega) (by omega),xC (by omega) (by omega) (by omega),oA];rw [show ((s.val.1:Int)+(n:Int)).toNat=s.val.1+n by omega,ry]
  congr 2
  rw [List.drop_take,show s.val.1+n - s.val.1=n by omega]
theorem aiu (l:List UInt8) (hl:l.length≤7):vl l=some (sU l:Int):=by
 unfold vl;refine Yy (l:=l) (K:=fun n=>some n) (fun n i=>(n,i)) hl (fun rec i hi n=>?_) (fun rec n=>?_)
 ·simp only [vl.l2];rw [oW (pH hi),pr hi,oA]
 ·simp only [vl.l2,vl.k1];rw [oX (pL (pS _))]
section
variable {b:List UInt8} (hb:b.length≤1000000000)
include hb
theorem L4 (s:Cu b) (n:Nat) (h7:n≤7) {A:Type} (K:Int→vE→Option A) :
  (bd (vG (xc s) (n:Int)) fun a=>bd (vl a.1) fun v=>K v a.2)=K (((rG b).num s n).1:Int) (xc ((rG b).num s n).2):=by
 rw [Pk s n (by omega) hb,oA];have hl:(zW b s n).1.length=n:=(rG b).len s n;simp only;rw [aiu _ (by omega),oA];rfl
omit hb in
theorem OF (s:Cu b):((rG b).num s 1).1 < 256:=by
 obtain ⟨c,_,h⟩:=(rG b).SY s;have:=c.toNat_lt;omega
theorem aee (s:Cu b) {A:Type} (K:List UInt8 × vE→Int→Int→vE→Option A) :
  (bd (vG (xc s) 1) fun YO=>bd (vl YO.1) fun r59=>bd (vG YO.2 r59) fun H3=>bd (vG H3.2 2) fun GC=>bd (vl GC.1) fun H4=>bd (vG GC.2 1) fun Dw=>bd (vl Dw.1) fun Ff=>K H3 H4 Ff Dw.2) =
  K (((rG b).text s).1,xc ((rG b).text s).2) (((rG b).head s).2.1:Int) (((rG b).head s).2.2.1:Int) (xc ((rG b).head s).2.2.2):=by
 have h0:=OF s;rw [show (1:Int)=((1:Nat):Int) from rfl,show (2:Int)=((2:Nat):Int) from rfl,L4 hb s 1 (by omega) (fun v c=>bd (vG c v) fun H3=>bd (vG H3.2 _) fun GC=>bd (vl GC.1) fun H4=>bd (vG GC.2 _) fun Dw=>bd (vl Dw.1) fun Ff=>K H3 H4 Ff Dw.2)];rw [Pk _ _ (by omega) hb,oA];show (bd (vG (xc ((rG b).text s).2) ((2:Nat):Int)) fun GC=>bd (vl GC.1) fun H4=>bd (vG GC.2 ((1:Nat):Int)) fun Dw=>bd (vl Dw.1) fun Ff=>K (((rG b).text s).1,xc ((rG b).text s).2) H4 Ff Dw.2)=_;rw [L4 hb ((rG b).text s).2 2 (by omega) (fun v c=>bd (vG c ((1:Nat):Int)) fun Dw=>bd (vl Dw.1) fun Ff=>K (((rG b).text s).1,xc ((rG b).text s).2) v Ff Dw.2)];rw [L4 hb _ 1 (by omega) (fun v c=>K (((rG b).text s).1,xc ((rG b).text s).2) _ v c)];rfl
end
theorem acO (x:List UInt8) (h:x.length=32):Cp (ph 32 (0:UInt8)) x=x:=by
 unfold Cp;rw [List.length_replicate,Bl (by omega),Fy (by simp;omega),vM]
theorem alC {ps:List Part} (h:∀ p∈ps,BQ p):∀ p∈ps,p.path.length < 4611686018427387904:=fun p hp=>by have:=(h p hp).1;omega
theorem aiW (b:List UInt8) (hb:b.length≤1000000000):tz b=some ((uz b).1,decide ((uz b).2=0)):=by
 unfold tz
 let s0:Cu b:=⟨(0,false),pY _⟩
 have h0:=OF s0;show (bd (vG (xc s0) 1) _)=_;rw [show (1:Int)=((1:Nat):Int) from rfl,L4 hb s0 1 (by omega) (fun v c=>bd (vG c v) fun r6=>bd (vG r6.2 _) fun Fe=>bd (vl Fe.1) fun Td=>loop (tz.l2 b r6 Td) (0,Fe.2.b,Fe.2.at_,Fe.2.bad,[]))];rw [Pk _ _ (by omega) hb,oA];show (bd (vG (xc ((rG b).text s0).2) _) fun Fe=>bd (vl Fe.1) fun Td=>loop (tz.l2 b (((rG b).text s0).1,xc ((rG b).text s0).2) Td) (0,Fe.2.b,Fe.2.at_,Fe.2.bad,[]))=_;rw [L4 hb _ 1 (by omega) (fun v c=>loop (tz.l2 b (((rG b).text s0).1,xc ((rG b).text s0).2) v) (0,c.b,c.at_,c.bad,[]))];have h4:=OF ((rG b).text s0).2;generalize hR:(rG b).num ((rG b).text s0).2 1=R at h4 ⊢;generalize hT:(rG b).text s0=Tx at hR ⊢;have RQ:B5 b Tx.1 R.1 0 (b.drop R.2.val.1) R.2.val.2 []:=by
  refine ⟨by simp,fun Hr=>?_,fun m hm=>?_⟩
  ·have RC:(rG b).bad ((rG b).num Tx.2 1).2=false:=by rw [hR];exact Hr
   obtain ⟨a1,a2,a3⟩:=(rG b).OI _ RC;rw [← hT] at a1 a3;obtain ⟨a4,a5,a6⟩:=(rG b).TS s0 a1;rw [hT,hR] at a3;rw [hT] at a6;have e1:(rG b).rest s0=b:=rfl;have e2:(rG b).rest R.2=b.drop R.2.val.1:=rfl;rw [e1,a3,e2] at a6;exact ⟨by (conv=>lhs;rw [a6]);simp,rfl,fun p hp=>by simp at hp⟩
  ·obtain ⟨m1,m2⟩:=Ox hm.1;obtain ⟨a1,a2,a3⟩:=(rG b).TR s0 m.name (tA (m.parts.length:Int)::m.parts.flatMap AA) m1 rfl (by show b=_;rw [hm.2.2];simp [Jz]);rw [hT] at a1 a2 a3;obtain ⟨a4,a5,a6⟩:=(rG b).OG Tx.2 m.parts.length (m.parts.flatMap AA) m2 a3 a2;rw [hR] at a4 a5 a6;exact ⟨a6,a1,a4,rfl,a5⟩
 have Lv:Tx.1.length < 4611686018427387904:=by
  have h1:((rG b).text s0).1.length=((rG b).num s0 1).1:=(rG b).len _ _;rw [hT] at h1;omega
 have Dh:∀ (i:Nat) (s:Cu b) (ps:List Part),B5 b Tx.1 R.1 i (b.drop s.val.1) s.val.2 ps→(s.val.2=false→i=R.1)→(∀ p∈ps,BQ p∨s.val.2=true)→tz.k1 b (Tx.1,xc Tx.2) b (s.val.1:Int) s.val.2 ps=some ((uz b).1,decide ((uz b).2=0)):=by
  intro i s ps hI hi hw;rw [← YR h4 hI hi];simp only [tz.k1];have hs:=s.property;have e:decide ((s.val.1:Int)≠(b.length:Int))=decide (0 < (b.drop s.val.1).length):=by rw [decide_eq_decide];simp;omega
  rw [e];cases hc:(s.val.2||decide (0 < (b.drop s.val.1).length)) with
  | true=>rw [te (by simp),oA];rfl
  | false =>
   have LH:s.val.2=false:=by simp only [Io] at hc;exact hc.1
   have hwp:∀ p∈ps,BQ p:=fun p hp=>(hw p hp).resolve_right (by rw [LH];simp);rw [qA (by simp),Y4 ⟨Tx.1,ps⟩ Lv (alC hwp),oA]
   by_cases hm:tX ⟨Tx.1,ps⟩ <;> simp [hm]
 refine sy (S:=Int × List UInt8 × Int × Bool × List Part) (σ:=Cu b × List Part) (fun i s=>((i:Int),b,(s.1.val.1:Int),s.1.val.2,s.2)) R.1 (fun i s=>B5 b Tx.1 R.1 i (b.drop s.1.val.1) s.1.val.2 s.2∧s.2.length=i ∧ ∀ p∈s.2,BQ p∨s.1.val.2=true) _ (i0:=0) (s0:=(R.2,[])) rfl (pY _) ⟨RQ,rfl,fun p hp=>by simp at hp⟩ (by omega) ?_ ?_
 ·rintro rec i ⟨s,ps⟩ hi ⟨hI,Ar,hw⟩ pq;simp only at hI Ar hw pq;simp only [tz.l2];cases LH:s.val.2 with
  | true =>
   rw [if_neg (by simp)];have:=Dh i s ps hI (fun h=>by rw [LH] at h;cases h) hw;rw [LH] at this;exact this
  | false =>
   rw [if_pos (by simp;omega)];have pz:(vE.mk b (s.val.1:Int) false)=xc s:=by unfold xc;rw [LH]
   rw [pz,aee hb s (fun H3 H4 Ff c=>loop (tz.l5 (i:Int) ps rec H3 H4 Ff) (0,c.b,c.at_,c.bad,[]))];have Dp:=(rG b).Xx s;have sG:=(rG b).Xw s;have g5:((rG b).head s).2.2.1 < 256:=OF _;have NX:((rG b).head s).1=((rG b).text s).1:=rfl;generalize hPC:xc ((rG b).text s).2=Pc;generalize ((rG b).text s).1=Pt at NX ⊢;generalize (rG b).head s=H at Dp sG g5 NX ⊢;obtain ⟨P,D,E,s2⟩:=H;simp only at Dp sG g5 NX;subst NX;show loop (tz.l5 (i:Int) ps rec (P,Pc) (D:Int) (E:Int)) (0,b,(s2.val.1:Int),s2.val.2,[])=_;have Aq:∀ (z:Cu b) (zi:List (List UInt8)),zi.length≤E→(∀ x∈zi,x.length=32)→(z.val.2=false→zi.length=E∧s2.val.2=false∧b.drop s2.val.1=zi.flatten++b.drop z.val.1)→(∀ (ids:List (List UInt8)) (t:List UInt8),s2.val.2=false→b.drop s2.val.1=ids.flatten++t→(∀ x∈ids,x.length=32)→ids.length=E→z.val.2=false∧zi=ids∧b.drop z.val.1=t)→s.val.1≤z.val.1 →
     tz.k4 (i:Int) ps rec (P,Pc) (D:Int) b (z.val.1:Int) z.val.2 zi=some ((uz b).1,decide ((uz b).2=0)):=by
    intro z zi Cx afY sS hz2 hz3;simp only [tz.k4,tz.k3];rw [rl (by simp;omega),oA,pt (by omega)];have sw:B5 b Tx.1 R.1 (i+1) (b.drop z.val.1) z.val.2 (ps++[Part.mk P (D:Int) zi]):=by
     refine hI.step (by simp;omega) (fun xG=>?_) (fun p0 t Hr HN hq=>?_) hi
     ·obtain ⟨l0,l1,l2⟩:=sS xG;obtain ⟨l3,l4,l5,l6,l7⟩:=Dp l1;have e4:(rG b).rest s=b.drop s.val.1:=rfl;have e5:(rG b).rest s2=b.drop s2.val.1:=rfl;rw [e4,e5] at l7;refine ⟨l3,?_,l4,by show (0:Int)≤(D:Int);omega,by show (D:Int) < 65536;omega,by show zi.length < 256;omega,afY⟩;rw [GA _ D rfl,l7,l2];simp only [l0,tF]
     ·obtain ⟨w1,w2,w3,w4,w5⟩:=HN;obtain ⟨n0,yH⟩:=Kc w2;have Ap:n0 < 65536:=by omega
      rw [GA p0 n0 yH,tF] at hq;obtain ⟨l1,l2,l3,l4,l5⟩:=sG p0.path (p0.ids.flatten++t) n0 p0.ids.length w1 Ap w4 Hr hq;obtain ⟨l6,l7,l8⟩:=hz2 p0.ids t l5 l4 w5 l3.symm;refine ⟨?_,l8,l6⟩;obtain ⟨pp,ps0,pi⟩:=p0;simp only at l1 l7 yH;rw [l1,l2,l7,yH]
    refine pq (z,ps++[Part.mk P (D:Int) zi]) ⟨sw,by simp [Ar],fun p hp=>?_⟩;show BQ p∨z.val.2=true;cases xG:z.val.2 with
    | true=>exact .inr rfl
    | false=>exact .inl ((sw.snd xG).2.2 p hp)
   have HL:s.val.1≤s2.val.1∨s2.val.2=true:=by
    cases wJ:s2.val.2 with
    | true=>exact .inr rfl
    | false =>
     left
     obtain ⟨l3,l4,l5,l6,l7⟩:=Dp wJ;have l7':b.drop s.val.1=DZ P D E++b.drop s2.val.1:=l7;have:=congrArg P2 l7';simp only [ue,rH] at this;have:=s.property;have:=s2.property;omega
   refine sy (S:=Int × List UInt8 × Int × Bool × List (List UInt8)) (σ:=Cu b × List (List UInt8)) (fun j s=>((j:Int),b,(s.1.val.1:Int),s.1.val.2,s.2)) E (fun j z=>z.2.length=j∧(s.val.1≤z.1.val.1∨z.1.val.2=true)∧(∀ x∈z.2,x.length=32)∧(z.1.val.2=false→s2.val.2=false∧b.drop s2.val.1=z.2.flatten++b.drop z.1.val.1)∧(∀ (ids:List (List UInt8)) (t:List UInt8),s2.val.2=false→b.drop s2.val.1=ids.flatten++t→(∀ x∈ids,x.length=32)→ids.length=E→z.1.val.2=false∧z.2=ids.take j∧b.drop z.1.val.1=(ids.drop j).flatten++t)) _ (i0:=0) (s0:=(s2,[])) rfl (pY _) ⟨rfl,HL,fun x hx=>by simp at hx,fun h=>⟨h,rfl⟩,fun ids t h1 h2 h3 h4=>⟨h1,rfl,h2⟩⟩ (by omega) ?_ ?_
   ·rintro vU j ⟨z,zi⟩ hj ⟨j1,j2,j3,j4,j5⟩ Au;simp only at j1 j2 j3 j4 j5 Au;simp only [tz.l5];cases xG:z.val.2 with
    | true =>
     rw [if_neg (by simp)];have aeJ:∀ q:Cu b,q.val.2=true→tz.k4 (i:Int) ps rec (P,Pc) (D:Int) b (q.val.1:Int) q.val.2 zi=some ((uz b).1,decide ((uz b).2=0)):=by
      intro q hq;simp only [tz.k4,tz.k3];rw [rl (by simp;omega),oA,pt (by omega)];have rK:∀ m,¬ BH b m:=fun m hm=>by
       obtain ⟨m1,m2,m3,m4,m5⟩:=hI.NJ m hm;have qJ:i < m.parts.length:=by omega
       rw [BV qJ,Iw] at m5;have yp:=qW qJ;obtain ⟨w1,w2,w3,w4,w5⟩:=MB (Gs hm.1 _ yp) (hm.2.1 _ yp);obtain ⟨n0,yH⟩:=Kc w2;rw [GA _ n0 yH,tF] at m5;obtain ⟨l1,l2,l3,l4,l5⟩:=sG _ _ n0 _ w1 (by omega) w4 m1 m5;have:=(j5 _ _ l5 l4 w5 l3.symm).1;rw [xG] at this;cases this
      refine pq (q,ps++[Part.mk P (D:Int) zi]) ⟨⟨by simp,fun h=>(by rw [hq] at h;cases h),fun m hm=>absurd hm (rK m)⟩,by simp [Ar],fun p hp=>.inr hq⟩
     have:=aeJ z xG;rw [xG] at this;exact this
    | false =>
     rw [if_pos (by simp;omega)];have vS:(vE.mk b (z.val.1:Int) false)=xc z:=by unfold xc;rw [xG]
     rw [vS,show (32:Int)=((32:Nat):Int) from rfl,Pk z 32 (by omega) hb,oA];have k1:=(rG b).len z 32;have k3:=(rG b).sound z 32;have k4:=(rG b).full z;have e3:(rG b).take=zW b:=rfl;rw [e3] at k1 k3 k4;simp only;rw [acO _ k1,rl (by simp;omega),oA,pt (by omega)];refine Au ((zW b z 32).2,zi++[(zW b z 32).1]) ⟨by simp [j1],?_,fun x hx=>?_,fun pP=>?_,fun ids t h1 h2 h3 h4=>?_⟩
     ·show s.val.1≤(zW b z 32).2.val.1∨(zW b z 32).2.val.2=true;unfold zW
      split
      ·exact .inr rfl
      ·left;have:=j2.resolve_right (by rw [xG];simp);simp only;omega
     ·rcases vj.1 hx with h | h
      ·exact j3 x h
      ·simp at h;subst h;exact k1
     ·obtain ⟨l1,l2⟩:=k3 pP;obtain ⟨l3,l4⟩:=j4 l1;refine ⟨l3,?_⟩;have l5:b.drop z.val.1=(zW b z 32).1++b.drop (zW b z 32).2.val.1:=l2;rw [l4,l5];simp
     ·obtain ⟨l1,l2,l3⟩:=j5 ids t h1 h2 h3 h4;have ta:j < ids.length:=by omega
      rw [BV ta,vh,tF] at l3;have hx:=h3 _ (qW ta);obtain ⟨l4,l5,l6⟩:=k4 ids[j] ((ids.drop (j+1)).flatten++t) l1 l3;rw [hx] at l4 l5 l6;exact ⟨l6,by show zi++[_]=_;rw [l2,l4,tN ta],l5⟩
   ·rintro vU ⟨z,zi⟩ ⟨j1,j2,j3,j4,j5⟩;simp only at j1 j2 j3 j4 j5;simp only [tz.l5];rw [if_neg (by simp)];cases xG:z.val.2 with
    | false =>
     have:=Aq z zi (by omega) j3 (fun h=>⟨j1,j4 h⟩) (fun ids t h1 h2 h3 h4=>by
      obtain ⟨l1,l2,l3⟩:=j5 ids t h1 h2 h3 h4;rw [← h4,uf] at l2;rw [← h4,FA] at l3;exact ⟨l1,l2,l3⟩) (j2.resolve_right (by rw [xG];simp))
     rw [xG] at this;exact this
    | true =>
     simp only [tz.k4,tz.k3];rw [rl (by simp;omega),oA,pt (by omega)];have rK:∀ m,¬ BH b m:=fun m hm=>by
      obtain ⟨m1,m2,m3,m4,m5⟩:=hI.NJ m hm;have qJ:i < m.parts.length:=by omega
      rw [BV qJ,Iw] at m5;have yp:=qW qJ;obtain ⟨w1,w2,w3,w4,w5⟩:=MB (Gs hm.1 _ yp) (hm.2.1 _ yp);obtain ⟨n0,yH⟩:=Kc w2;rw [GA _ n0 yH,tF] at m5;obtain ⟨l1,l2,l3,l4,l5⟩:=sG _ _ n0 _ w1 (by omega) w4 m1 m5;have:=(j5 _ _ l5 l4 w5 l3.symm).1;rw [xG] at this;cases this
     have:=pq (z,ps++[Part.mk P (D:Int) zi]) ⟨⟨by simp,fun h=>(by rw [xG] at h;cases h),fun m hm=>absurd hm (rK m)⟩,by simp [Ar],fun p hp=>.inr xG⟩;rw [xG] at this;exact this
 ·rintro rec ⟨s,ps⟩ ⟨hI,Ar,hw⟩;simp only at hI Ar hw;simp only [tz.l2];rw [if_neg (by simp)];exact Dh _ s ps hI (fun _=>rfl) hw
end Go.Wk.Lf
end
section
namespace Go.Wk.Lf
open Go.V Go.Sort Go.Proofs
theorem Yl {A:Type} {F:(Int→Option A)→Int→Option A} (n:Nat) (f:Nat→Bool) (K:Nat→Option A) (hn:n < 4611686018427387904) (sw:∀ rec (i:Nat),i < n→F rec (i:Int)=if f i=true then rec ((i+1:Nat):Int) else K i) (tv:∀ rec,F rec (n:Int)=K n):loop F 0=K (yN n f):=by
 refine sy (S:=Int) (σ:=Unit) (fun i _=>(i:Int)) n (fun i _=>∀ j,j < i→f j=true) _ (i0:=0) (s0:=()) rfl (pY _) (fun j h=>by omega) hn ?_ ?_
 ·intro rec i _ hi hI pq;rw [sw rec i hi]
  by_cases h:f i=true
  ·rw [if_pos h];exact pq () fun j hj=>by
    rcases (by omega:j < i∨j=i) with h1 | rfl
    ·exact hI j h1
    ·exact h
  ·rw [if_neg h,Ec (by omega) hI fun _=>by simpa using h]
 ·intro rec _ hI;rw [tv,Ec (px _) hI fun h=>absurd h (pS _)]
theorem ahU (l:List Chunk) (id:List UInt8):tM (l.map Chunk.id) id=wG l id:=by
 refine (Ec (n:=l.length) (by have:=JM (l.map Chunk.id) id;simpa using this) (fun q hq=>?_) fun h=>?_).symm
 ·have hl:q < l.length:=by have:=JM (l.map Chunk.id) id;rw [wz] at this;omega
  rw [pC hl];have:=OP hq;simpa using this
 ·rw [pC h];have:=OO (l:=l.map Chunk.id) (x:=id) (by simpa using h);simpa using this
theorem af4 (l:List Chunk) (id:List UInt8):decide ((l.map Chunk.id)[wG l id]? = some id)=vr l id:=by
 unfold vr
 by_cases h:wG l id < l.length
 ·rw [xh,pF h,decide_eq_true h,pC h];simp
 ·rw [zr (by simpa using h),decide_eq_false h];simp
theorem acw {n:Nat} (c:mZ) (id:List UInt8) (hg:Good n c) (hn:n≤1000) (K5:id.length=32) :
  yW c id=some ((wG c.chunks id:Int),⟨c.seq,c.oB,if vr c.chunks id=true then c.chunks else c.chunks.take (wG c.chunks id)++[Chunk.mk id false [] []]++c.chunks.drop (wG c.chunks id),c.oD,c.oK⟩):=by
 have hl:=hg.lc;unfold yW;refine sy (S:=List (List UInt8) × Int) (σ:=Unit) (fun i _=>((c.chunks.take i).map Chunk.id,(i:Int))) c.chunks.length (fun _ _=>True) _ (i0:=0) (s0:=()) rfl (pY _) trivial (by omega) ?_ ?_
 ·intro rec i _ hi _ pq;have h:=pq () trivial;simp only [yW.l3];rw [oW (pH hi),pr hi,oA,rl (by simp;omega),oA,pt (by omega)];rw [tN hi,z6] at h;exact h
 ·intro rec _ _;simp only [yW.l3,yW.k1,yW.k2];rw [oX (pL (pS _)),uf,add_eq _ _ (by simp;omega) (fun y hy=>by
   obtain ⟨x,hx,rfl⟩:=z7.1 hy;exact (hg.kc x hx).1) K5,oA,ahU,af4]
  cases h:vr c.chunks id with
  | true=>rw [if_neg (by simp),if_pos rfl]
  | false=>rw [if_pos (by rfl),if_neg (by decide),Ju (Q1 _ _) (by omega),oA]
theorem of_eq {d:List UInt8} (h:d.length=4):∃ a b c e,ix d 0=some a∧ix d 1=some b∧ix d 2=some c∧ix d 3=some e∧bits .or .i64 (bits .or .i64 (bits .or .i64 (wr ((a.toNat:Int)*2 ^ (24:Int).toNat)) (wr ((b.toNat:Int)*2 ^ (16:Int).toNat))) (wr ((c.toNat:Int)*2 ^ (8:Int).toNat))) (e.toNat:Int)=(sU d:Int):=by
 obtain ⟨a,b,c,e,rfl⟩:∃ a b c e,d=[a,b,c,e]:=by
  match d,h with
  | [a,b,c,e],_=>exact ⟨a,b,c,e,rfl⟩
 refine ⟨a,b,c,e,rfl,rfl,rfl,rfl,?_⟩;have ha:=a.toNat_lt;have hb:=b.toNat_lt;have hc:=c.toNat_lt;have he:=e.toNat_lt;have w:∀ (x:Nat) (k:Nat),k≤24→x < 256→wr ((x:Int)*2 ^ k)=((x*2 ^ k:Nat):Int):=fun x k hk hx=>by
  have h1:x*2 ^ k≤255*2 ^ 24:=Nat.mul_le_mul (by omega) (Qb (by decide) hk);have h2:(x:Int)*2 ^ k=((x*2 ^ k:Nat):Int):=by simp
  rw [h2,rU (by omega) (by omega)]
 rw [show (24:Int).toNat=24 from rfl,show (16:Int).toNat=16 from rfl,show (8:Int).toNat=8 from rfl,w _ 24 (by omega) (by omega),w _ 16 (by omega) (by omega),w _ 8 (by omega) (by omega)];have o:∀ (x y k:Nat),y < 2 ^ k→x*2 ^ k ||| y=x*2 ^ k+y:=fun x y k h=>by
  have:=Qc h x;rw [Kl] at this;exact this.symm
 rw [OL _ _ (by omega) (by omega),o _ _ 24 (by omega),show a.toNat*2 ^ 24+b.toNat*2 ^ 16=(a.toNat*2 ^ 8+b.toNat)*2 ^ 16 by omega];rw [OL _ _ (by omega) (by omega),o _ _ 16 (by omega),show (a.toNat*2 ^ 8+b.toNat)*2 ^ 16+c.toNat*2 ^ 8=((a.toNat*2 ^ 8+b.toNat)*2 ^ 8+c.toNat)*2 ^ 8 by omega];rw [OL _ _ (by omega) (by omega),o _ _ 8 (by omega)];simp [sU]
abbrev PS:=Int × List oH × List lU × List Chunk × List lU × Int × List oC
def Bc (i:Nat) (c:mZ):PS:=((i:Int),c.oK,c.oB,c.chunks,[],c.seq,c.oD)
section
variable {n:Nat} {fs:List Found} {i:Nat} {c:mZ} {rec:PS→Option (mZ × Int)} {a:Option (mZ × Int)} (hi:i < fs.length) (hl:fs.length≤1000) (hg:Good n c) (hn:n≤1000) (hf:fit fs[i])
include hi hl hg hn hf
theorem akF (hk:fs[i].oG.kind=1) (pq:rec (Bc (i+1) (wR c fs[i]))=a):pg.qG fs rec (Bc i c)=a:=by
 unfold wR at pq;rw [if_pos hk] at pq;unfold Bc at pq ⊢;simp only [pg.qG,pg.A5];rw [oW (pH hi),pr hi,oA,oW (decide_eq_true hk),pt (by omega)]
 by_cases hd:1≤fs[i].oG.data.length∧fs[i].oG.data.length≤64
 ·rw [if_pos hd] at pq;rw [oW (by rw [rk,decide_eq_true_eq,decide_eq_true_eq];omega),abq _ (by omega),oA,acw (n:=n) ⟨c.seq,[],c.chunks,c.oD,c.oK⟩ _ ⟨hg.rc,Fx,hg.re,hg.lc,pY _,hg.le,hg.kc,fun x hx=>(by cases hx),hg.ke⟩ hn (ZT _),oA];have hle:=Q1 c.chunks (AH fs[i].oG.data);unfold Mc at pq;have hlc:=hg.lc;cases h:vr c.chunks (AH fs[i].oG.data) with
  | true =>
   have pv:wG c.chunks (AH fs[i].oG.data) < c.chunks.length:=by unfold vr at h;simp only [rk,decide_eq_true_eq] at h;exact h.1
   rw [h,if_pos rfl,pC pv] at pq;simp only [if_true];rw [pr pv,oA,oA,rl (by have:=(hg.kc _ (qW pv)).2.2.2;simp;omega),oA,oA,ry];exact pq
  | false =>
   rw [h,if_neg (by decide)] at pq;simp only [zZ,if_false];rw [xV (JA hle),oA,oA,rl (by simp),oA,oA,ry,JB hle];exact pq
 ·rw [if_neg hd] at pq;rw [oX]
  ·exact pq
  ·rw [Bool.and_eq_false_iff,decide_eq_false_iff_not,decide_eq_false_iff_not];omega
theorem akI (hk:fs[i].oG.kind=2) (pq:rec (Bc (i+1) (wR c fs[i]))=a):pg.qG fs rec (Bc i c)=a:=by
 have Oc:=hg.ls;unfold wR at pq;rw [if_neg (by omega),if_pos hk] at pq;unfold Bc at pq ⊢;simp only [pg.qG];rw [oW (pH hi),pr hi,oA,oX (decide_eq_false (by omega)),oW (decide_eq_true hk),aiW _ (by have:=hf.1;omega),oA]
 by_cases h0:(uz fs[i].oG.data).2=0
 ·rw [if_pos h0] at pq;rw [oX (by simp [h0])];rw [Yl c.oB.length (fun k=>decide ((c.oB.getD k default).seq < fs[i].oG.seq)) (fun k=>pg.LQ fs i c.oK c.oB c.chunks [] c.seq c.oD rec fs[i] ((uz fs[i].oG.data).1,decide ((uz fs[i].oG.data).2=0)) (k:Int)) (by omega) ?_ ?_]
  ·have hle:xu c.oB fs[i].oG.seq≤c.oB.length:=H2 _ _;show pg.LQ fs i c.oK c.oB c.chunks [] c.seq c.oD rec fs[i] _ ((xu c.oB fs[i].oG.seq:Nat):Int)=a;have end_:∀ (l:List lU) (x:lU),l[xu c.oB fs[i].oG.seq]? = some x→x.oN.length≤1000→l.set (xu c.oB fs[i].oG.seq) (Nl fs[i].loc x)=JO c.oB fs[i].oG.seq (uz fs[i].oG.data).1 fs[i].loc→pg.Jw fs i c.oK c.chunks [] c.seq c.oD rec fs[i] ((xu c.oB fs[i].oG.seq:Nat):Int) l=a:=fun l x hx Jq he=>by
    unfold pg.Jw pg.A5;rw [xV hx,oA,pr hi,oA,rl (by simp;omega),oA,oA,ry,show l.set (xu c.oB fs[i].oG.seq) (lU.mk x.seq x.oJ (x.oN++[fs[i].loc]))=_ from he,JC _ _ hf.2,pt (by omega)];exact pq
   have new:Dj c.oB fs[i].oG.seq=false→(bd (wZ c.oB ((xu c.oB fs[i].oG.seq:Nat):Int) [lU.mk fs[i].oG.seq (uz fs[i].oG.data).1 []]) fun agH=>pg.Jw fs i c.oK c.chunks [] c.seq c.oD rec fs[i] ((xu c.oB fs[i].oG.seq:Nat):Int) agH)=a:=fun hb=>by
    rw [Ju hle (by omega),oA];refine end_ _ _ (JA hle) (by simp) ?_;rw [JB hle];unfold JO AE;rw [hb,if_neg (by decide)];rfl
   unfold pg.LQ
   by_cases pv:xu c.oB fs[i].oG.seq < c.oB.length
   ·rw [decide_eq_false (show ¬ ((xu c.oB fs[i].oG.seq:Nat):Int)=(c.oB.length:Int) by omega),qA (show (!false)=true from rfl),pr pv,oA,uB]
    by_cases hq:c.oB[xu c.oB fs[i].oG.seq].seq=fs[i].oG.seq
    ·rw [oX (decide_eq_false fun h=>h hq)];refine end_ _ _ (pF pv) (by have:=(hg.ks _ (qW pv)).2.2;omega) ?_;unfold JO AE Dj;rw [decide_eq_true pv,pC pv,decide_eq_true hq];rfl
    ·rw [oW (decide_eq_true hq)];exact new (by unfold Dj;rw [decide_eq_true pv,pC pv,decide_eq_false hq];rfl)
   ·rw [decide_eq_true (show ((xu c.oB fs[i].oG.seq:Nat):Int)=(c.oB.length:Int) by omega),te (show (!true)=false from rfl),oA,oW (by rfl)];exact new (by unfold Dj;rw [decide_eq_false pv];rfl)
  ·intro vU k y5;simp only [pg.qQ];rw [pH y5,qA rfl,pr y5,oA,uQ,pt (by omega),pC y5]
  ·intro vU;simp only [pg.qQ];rw [pL (pS _),te rfl,oA,oX (by rfl)]
 ·rw [if_neg h0] at pq;rw [oW (by simp [h0])];unfold pg.A5;rw [pt (by omega)];exact pq
theorem akG (hk:fs[i].oG.kind=3) (pq:rec (Bc (i+1) (wR c fs[i]))=a):pg.qG fs rec (Bc i c)=a:=by
 have Oc:=hg.le;unfold wR at pq;rw [if_neg (by omega),if_neg (by omega),if_pos hk] at pq;unfold Bc at pq ⊢;simp only [pg.qG];rw [oW (pH hi),pr hi,oA,oX (decide_eq_false (by omega)),oX (decide_eq_false (by omega)),oW (decide_eq_true hk)]
 by_cases h0:fs[i].oG.data.length=4
 ·rw [if_pos h0] at pq;rw [oX (decide_eq_false (by omega))];rw [Yl c.oD.length (fun k=>decide ((c.oD.getD k default).seq < fs[i].oG.seq)) (fun k=>pg.LR fs i c.oK c.oB c.chunks [] c.seq c.oD rec fs[i] (k:Int)) (by omega) ?_ ?_]
  ·have hle:xt c.oD fs[i].oG.seq≤c.oD.length:=H2 _ _;show pg.LR fs i c.oK c.oB c.chunks [] c.seq c.oD rec fs[i] ((xt c.oD fs[i].oG.seq:Nat):Int)=a;have end_:∀ (l:List oC) (x:oC),l[xt c.oD fs[i].oG.seq]? = some x→x.oN.length≤1000→l.set (xt c.oD fs[i].oG.seq) (Nj fs[i].loc x)=JN c.oD fs[i].oG.seq (sU fs[i].oG.data:Int) fs[i].loc→pg.Jx fs i c.oK c.oB c.chunks [] c.seq rec fs[i] ((xt c.oD fs[i].oG.seq:Nat):Int) l=a:=fun l x hx Jq he=>by
    unfold pg.Jx pg.A5;rw [xV hx,oA,pr hi,oA,rl (by simp;omega),oA,oA,ry,show l.set (xt c.oD fs[i].oG.seq) (oC.mk x.seq x.of (x.oN++[fs[i].loc]))=_ from he,JC _ _ hf.2,pt (by omega)];exact pq
   obtain ⟨b0,b1,b2,b3,q0,q1,q2,q3,qo⟩:=of_eq h0;have new:Di c.oD fs[i].oG.seq=false→(bd (ix fs[i].oG.data 0) fun alG=>bd (ix fs[i].oG.data 1) fun alH=>bd (ix fs[i].oG.data 2) fun alI=>bd (ix fs[i].oG.data 3) fun alJ=>bd (wZ c.oD ((xt c.oD fs[i].oG.seq:Nat):Int) [oC.mk fs[i].oG.seq (bits .or .i64 (bits .or .i64 (bits .or .i64 (wr ((alG.toNat:Int)*2 ^ (24:Int).toNat)) (wr ((alH.toNat:Int)*2 ^ (16:Int).toNat))) (wr ((alI.toNat:Int)*2 ^ (8:Int).toNat))) (alJ.toNat:Int)) []]) fun agI=>pg.Jx fs i c.oK c.oB c.chunks [] c.seq rec fs[i] ((xt c.oD fs[i].oG.seq:Nat):Int) agI)=a:=fun hb=>by
    rw [q0,oA,q1,oA,q2,oA,q3,oA,qo,Ju hle (by omega),oA];refine end_ _ _ (JA hle) (by simp) ?_;rw [JB hle];unfold JN AE;rw [hb,if_neg (by decide)];rfl
   unfold pg.LR
   by_cases pv:xt c.oD fs[i].oG.seq < c.oD.length
   ·rw [decide_eq_false (show ¬ ((xt c.oD fs[i].oG.seq:Nat):Int)=(c.oD.length:Int) by omega),qA (show (!false)=true from rfl),pr pv,oA,uB]
    by_cases hq:c.oD[xt c.oD fs[i].oG.seq].seq=fs[i].oG.seq
    ·rw [oX (decide_eq_false fun h=>h hq)];refine end_ _ _ (pF pv) (by have:=hg.ke _ (qW pv);omega) ?_;unfold JN AE Di;rw [decide_eq_true pv,pC pv,decide_eq_true hq];rfl
    ·rw [oW (decide_eq_true hq)];exact new (by unfold Di;rw [decide_eq_true pv,pC pv,decide_eq_false hq];rfl)
   ·rw [decide_eq_true (show ((xt c.oD fs[i].oG.seq:Nat):Int)=(c.oD.length:Int) by omega),te (show (!true)=false from rfl),oA,oW (by rfl)];exact new (by unfold Di;rw [decide_eq_false pv];rfl)
  ·intro vU k y5;simp only [pg.uo];rw [pH y5,qA rfl,pr y5,oA,uQ,pt (by omega),pC y5]
  ·intro vU;simp only [pg.uo];rw [pL (pS _),te rfl,oA,oX (by rfl)]
 ·rw [if_neg h0] at pq;rw [oW (decide_eq_true (by omega))];unfold pg.A5;rw [pt (by omega)];exact pq
theorem akH (pq:rec (Bc (i+1) (wR c fs[i]))=a):pg.qG fs rec (Bc i c)=a:=by
 by_cases h1:fs[i].oG.kind=1
 ·exact akF hi hl hg hn hf h1 pq
 by_cases h2:fs[i].oG.kind=2
 ·exact akI hi hl hg hn hf h2 pq
 by_cases h3:fs[i].oG.kind=3
 ·exact akG hi hl hg hn hf h3 pq
 unfold wR at pq;rw [if_neg h1,if_neg h2,if_neg h3] at pq;unfold Bc at pq ⊢;simp only [pg.qG,pg.A5];rw [oW (pH hi),pr hi,oA,oX (decide_eq_false h1),oX (decide_eq_false h2),oX (decide_eq_false h3),pt (by omega)];exact pq
end
theorem ais (vs:List oH) (fs:List Found) (hv:vs.length≤1000) (hl:fs.length≤1000) (hf:∀ f∈fs,fit f) :
  pg vs fs=pg.k1 (zS fs (Ab vs)).oK (zS fs (Ab vs)).oB (zS fs (Ab vs)).chunks [] (zS fs (Ab vs)).seq (zS fs (Ab vs)).oD:=by
 unfold pg;rw [rl (by simp;omega),oA,zw];refine sy (S:=PS) (σ:=mZ) Bc fs.length (fun i c=>Good i c∧zS (fs.drop i) c=zS fs (Ab vs)) _ (i0:=0) (s0:=Ab vs) rfl (pY _) ⟨QF vs,rfl⟩ (by omega) ?_ ?_
 ·rintro rec i c hi ⟨hg,he⟩ pq;refine akH hi hl hg (by omega) (hf _ (qW hi)) (pq _ ⟨SX hg,?_⟩);rw [BV hi] at he;exact he
 ·rintro rec c ⟨hg,he⟩;unfold Bc;simp only [pg.qG];rw [oX (pL (pS _))];rw [FA] at he;have he:c=zS fs (Ab vs):=he;rw [← he]
end Go.Wk.Lf
end
section
namespace Go.Wk.Lf
open Go.V Go.Sort Go.Proofs
theorem L0 (l:List Loc) (x:Loc):x∈sa l ↔ x∈l:=by rw [sa,OA,ahd]
theorem ZO (l:List Loc):(sa l).length≤l.length:=by
 have h1:=(HR sA l).length_eq;have h2:=NG (A3 sA l);unfold sa;omega
theorem acH (l:List Loc) (h:B6 sA l):(vm l).Pairwise (fun a b=>sA a b < 0):=by
 refine (JY (p:=fun l=>B6 sA l→(vm l).Pairwise (fun a b=>sA a b < 0)) (fun _=>Fx) (fun l y ih=>?_) l) h;intro hl;obtain ⟨h1,h2,h3⟩:=CV.1 hl;rw [I7];unfold ER
 split
 ·exact ih h1
 ·rename_i pM;refine CV.2 ⟨ih h1,US _ _,fun a ha b hb=>?_⟩;rw [yT] at hb;subst hb;have RA:=(OA l a).1 ha;have Of:¬ sA b a < 0:=h3 a RA b (by simp)
  by_cases De:sA a b < 0
  ·exact De
  ·exfalso
   have he:a=b:=Ma a b (by simpa [zR] using De) (by simpa [zR] using Of);subst he;have ae5:l.getLast? = some a:=by
    obtain ⟨i,hi⟩:=List.mem_iff_getElem?.1 RA;cases hg:l.getLast? with
    | none=>rw [List.getLast?_eq_none_iff] at hg;subst hg;simp at RA
    | some c =>
     have rT:c∈l:=List.mem_of_getLast? hg;have n1:¬ sA a c < 0:=h3 c rT a (by simp);have n2:¬ sA c a < 0:=by
      intro hca;rw [List.getLast?_eq_getElem?] at hg;have qJ:=(qO.1 hi).1
      by_cases e:i=l.length - 1
      ·subst e;have:=oQ (hi.symm.trans hg);subst this;have:=JJ.irrefl a;rw [zR] at this;simp at this;omega
      ·obtain ⟨ad2,hce⟩:=qO.1 hg;have hie:=(qO.1 hi).2;have:=(G3.1 h1) i (l.length - 1) qJ ad2 (by omega);rw [hie,hce] at this;exact this hca
     have:a=c:=Ma a c (by simpa [zR] using n1) (by simpa [zR] using n2);rw [this]
   rw [Ot] at pM;exact pM ae5
theorem Pg (l:List Loc):(sa l).Pairwise (fun a b=>sA a b < 0):=acH _ (Sw JJ l)
theorem lt_asymm {a b:Loc} (h:sA a b < 0):¬ sA b a < 0:=by
 intro h2;have:=JJ.trans a b a (by simpa [zR] using h) (by simpa [zR] using h2);rw [JJ.irrefl] at this;cases this
theorem ag4 {a b c:Loc} (h1:sA a b < 0) (h2:sA b c < 0):sA a c < 0:=by
 have:=JJ.trans a b c (by simpa [zR] using h1) (by simpa [zR] using h2);simpa [zR] using this
theorem agZ {a b:Loc} (h1:¬ sA a b < 0) (h2:¬ sA b a < 0):a=b:=Ma a b (by simpa [zR] using h1) (by simpa [zR] using h2)
theorem ZS {a b:List Loc} (ha:a.Pairwise (fun x y=>sA x y < 0)) (hb:b.Pairwise (fun x y=>sA x y < 0)) (h:∀ x,x∈a ↔ x∈b):a=b:=by
 have nd:∀ {l:List Loc},l.Pairwise (fun x y=>sA x y < 0)→l.Nodup:=fun hl=>List.nodup_iff_pairwise_ne.2 (hl.imp fun {x y} h e=>by subst e;exact lt_asymm h h);exact Y2 Ma (ha.imp fun h=>lt_asymm h) (hb.imp fun h=>lt_asymm h) ((List.perm_ext_iff_of_nodup (nd ha) (nd hb)).2 h)
theorem aaW (a b:Loc):NF a b=some (decide (sA a b < 0)):=by
 have pv:=L9 a b;unfold NF
 by_cases h1:a.pE=b.pE
 ·rw [oX (decide_eq_false (by simpa using h1))]
  by_cases h2:a.file=b.file
  ·rw [oX (decide_eq_false (by simpa using h2))]
   by_cases h3:a.off=b.off
   ·rw [oX (decide_eq_false (by simpa using h3))]
    congr 1;rw [decide_eq_decide];omega
   ·rw [oW (decide_eq_true h3)]
    congr 1;rw [decide_eq_decide];omega
  ·rw [oW (decide_eq_true h2)]
   congr 1;rw [decide_eq_decide];omega
 ·rw [oW (decide_eq_true h1)]
  congr 1;rw [decide_eq_decide];omega
theorem aky (l:List Loc) (y:Loc) (p:Nat) (hp:p≤(sa l).length) (h1:∀ e∈(sa l).take p,sA e y < 0) (h2:∀ h:p < (sa l).length,¬ sA (sa l)[p] y < 0∧(sa l)[p]≠y):(sa l).take p++[y]++(sa l).drop p=sa (l++[y]):=by
 have hs:=Pg l;rw [← z8 p (sa l)] at hs;obtain ⟨s1,s2,s3⟩:=CV.1 hs;have hd:∀ e∈(sa l).drop p,sA y e < 0:=by
  intro e he
  by_cases pv:p < (sa l).length
  ·obtain ⟨n1,n2⟩:=h2 pv;have hy:sA y (sa l)[p] < 0:=by
    apply Classical.byContradiction;intro hn;exact n2 (agZ n1 hn)
   rw [BV pv] at he s2;rcases sg.1 he with rfl | he
   ·exact hy
   ·exact ag4 hy ((G2.1 s2).1 e he)
  ·rw [Fy (by omega)] at he;simp at he
 refine ZS ?_ (Pg _) ?_
 ·refine CV.2 ⟨CV.2 ⟨s1,US _ _,fun a ha b hb=>?_⟩,s2,fun a ha b hb=>?_⟩
  ·rw [yT] at hb;subst hb;exact h1 a ha
  ·rcases vj.1 ha with ha | ha
   ·exact s3 a ha b hb
   ·rw [yT] at ha;subst ha;exact hd b hb
 ·intro x;have hx:x∈sa l ↔ x∈(sa l).take p∨x∈(sa l).drop p:=by rw [← vj,z8]
  rw [L0] at hx;simp only [L0,vj,yT,hx];constructor
  ·rintro ((h | h) | h)
   ·exact .inl (.inl h)
   ·exact .inr h
   ·exact .inl (.inr h)
  ·rintro ((h | h) | h)
   ·exact .inl (.inl h)
   ·exact .inr h
   ·exact .inl (.inr h)
theorem akz (l:List Loc) (y:Loc) (h:y∈sa l):sa (l++[y])=sa l:=by
 refine ZS (Pg _) (Pg _) fun x=>?_;rw [L0,L0,vj,yT];constructor
 ·rintro (h' | rfl)
  ·exact h'
  ·exact (L0 _ _).1 h
 ·exact .inl
theorem ZM (xs:List Loc) (hl:xs.length≤1073741824) (i:Nat) (hi:i < xs.length) (rec:List Loc × Int→Option (List Loc)) (a:Option (List Loc)) (pq:rec (sa (xs.take (i+1)),((i+1:Nat):Int))=a) (p:Nat) (hp:p≤(sa (xs.take i)).length)
  (h1:∀ e∈(sa (xs.take i)).take p,sA e xs[i] < 0) (h2:∀ h:p < (sa (xs.take i)).length,¬ sA (sa (xs.take i))[p] xs[i] < 0):uY.k4 xs (sa (xs.take i)) (i:Int) rec (p:Int)=a:=by
 have LI:=ZO (xs.take i);rw [rb] at LI;rw [tN hi] at pq;have fin:(pM:∀ h:p < (sa (xs.take i)).length,(sa (xs.take i))[p]≠xs[i])→(bd (cut (α:=Loc) (sa (xs.take i)) 0 (p:Int)) fun l62=>bd (ix xs (i:Int)) fun x66=>bd (app (α:=Loc) [] l62) fun l64=>bd (app (α:=Loc) l64 [x66]) fun l69=>bd (cut (α:=Loc) (sa (xs.take i)) (p:Int) ((sa (xs.take i)).length:Int)) fun l83=>bd (app (α:=Loc) l69 l83) fun l85=>rec (l85,wr ((i:Int)+1)))=a:=by
  intro pM;rw [xC (by omega) (by omega) (by omega),oA,pr hi,oA,rl (by simp;omega),oA,rl (by simp;omega),oA,xC (by omega) (by omega) (by omega),oA,rl (by simp;omega),oA,pt (by omega)];simp only [ry,UF,yu,zw,uf];rw [aky _ _ p hp h1 fun h=>⟨h2 h,pM h⟩];exact pq
 simp only [uY.k4,uY.k3]
 by_cases pv:p < (sa (xs.take i)).length
 ·rw [pH pv,qA rfl,pr pv,oA,qA rfl,pr hi,oA,qA rfl,SA,oA,uQ]
  by_cases he:(sa (xs.take i))[p]=xs[i]
  ·rw [oW (decide_eq_true he),pt (by omega)];rw [akz _ _ (he ▸ qW pv)] at pq;exact pq
  ·rw [oX (decide_eq_false he)];rw [pr hi] at fin;exact fin fun _=>he
 ·rw [pL pv];simp only [te,oA,xg];rw [oX (by rfl)];exact fin fun h=>absurd h pv
theorem TI (xs:List Loc) (hl:xs.length≤1073741824):uY xs=some (sa xs):=by
 unfold uY;refine sy (S:=List Loc × Int) (σ:=Unit) (fun i _=>(sa (xs.take i),(i:Int))) xs.length (fun _ _=>True) _ (i0:=0) (s0:=()) rfl (pY _) trivial (by omega) ?_ ?_
 ·intro rec i _ hi _ pq;simp only [uY.l2];have LI:=ZO (xs.take i);rw [rb] at LI;rw [oW (pH hi)];refine sy (S:=Int) (σ:=Unit) (fun k _=>(k:Int)) (sa (xs.take i)).length (fun k _=>∀ e∈(sa (xs.take i)).take k,sA e xs[i] < 0) _ (i0:=0) (s0:=()) rfl (pY _) (by simp) (by omega) ?_ ?_
  ·intro vU k _ hk hI Au;simp only [uY.l5];rw [pH hk,qA rfl,pr hk,oA,qA rfl,pr hi,oA,qA rfl,aaW,oA,uQ]
   by_cases h:sA (sa (xs.take i))[k] xs[i] < 0
   ·rw [oW (decide_eq_true h),pt (by omega)];refine Au () fun e he=>?_;rw [tN hk] at he;rcases vj.1 he with he | he
    ·exact hI e he
    ·rw [yT] at he;subst he;exact h
   ·rw [oX (decide_eq_false h)];exact ZM xs hl i hi rec _ (pq () trivial) k (by omega) hI fun _=>h
  ·intro vU _ hI;simp only [uY.l5];rw [pL (pS _)];simp only [te,oA,xg];rw [oX (by rfl)];exact ZM xs hl i hi rec _ (pq () trivial) _ (px _) hI fun h=>absurd h (pS _)
 ·intro rec _ _;simp only [uY.l2,uY.k1];rw [oX (pL (pS _)),uf]
end Go.Wk.Lf
end
section
namespace Go.Wk.Lf
open Go.V Go.Sort Go.Proofs
theorem aad:ND=some true:=by decide +kernel
end Go.Wk.Lf
end
section
namespace Go.Wk.Lf
open Go.V Go.Sort Go.Proofs
end Go.Wk.Lf
end
section
namespace Go.Wk.Lf
open Go.V Go.Sort Go.Proofs
theorem Y1 (m:oP) (hp:m.parts.length≤100000) (hl:(sT m).length≤10000) (hk:E9 m):wF m=some (uc (sT m)):=by
 unfold wF;refine sy (S:=List (List UInt8) × Int) (σ:=List (List UInt8)) (fun i l=>(l,(i:Int))) m.parts.length (fun i l=>l=((m.parts.take i).flatMap Part.ids).foldl zP []) _ (i0:=0) (s0:=[]) rfl (pY _) rfl (by omega) ?_ ?_
 ·intro rec i l hi hI pq;simp only [wF.l2];rw [oW (pH hi)];have h1:=W2 m.parts (i+1);rw [tN hi,MU] at h1;simp only [Iw,List.flatMap_nil,vM,rH] at h1;unfold sT at hl;have HD:∀ x∈(m.parts.take i).flatMap Part.ids,x.length=32:=fun x hx=>by
   obtain ⟨p,hp,h⟩:=G1.1 hx;exact hk p (zt hp) x h
  have Ct:=hk _ (qW hi);refine sy (S:=List (List UInt8) × Int) (σ:=List (List UInt8)) (fun j l=>(l,(j:Int))) m.parts[i].ids.length (fun j a=>a=((m.parts[i].ids.take j)).foldl zP l) _ (i0:=0) (s0:=l) rfl (pY _) rfl (by omega) ?_ ?_
  ·intro vU j a hj hJ Au;simp only [wF.l4];have adN:a=((m.parts.take i).flatMap Part.ids++m.parts[i].ids.take j).foldl zP []:=by rw [MV,← hI,hJ]
   obtain ⟨f1,f2,f3⟩:=foldI ((m.parts.take i).flatMap Part.ids++m.parts[i].ids.take j) [] Fx;rw [← adN] at f1 f2 f3;have ha:a.length≤20000:=by simp only [rH,MX,rb] at f3;omega
   have adM:∀ y∈a,y.length=32:=fun y hy=>by
    rcases (f2 y).1 hy with h | h
    ·simp at h
    ·rcases vj.1 h with h | h
     ·exact HD y h
     ·exact Ct y (zt h)
   rw [pr hi,oA,oW (pH hj),oA,pr hj,oA,add_eq _ _ (by omega) adM (Ct _ (qW hj)),oA,pt (by omega)];refine Au _ ?_;rw [tN hj,MV,← hJ];rfl
  ·intro vU a hJ;simp only [wF.l4,wF.k3];rw [pr hi,oA,oX (pL (pS _)),pt (by omega)];refine pq _ ?_;rw [tN hi,MU,MV,← hI,hJ,uf];simp
 ·intro rec l hI;simp only [wF.l2,wF.k1];rw [oX (pL (pS _)),hI,uf,adn];rfl
theorem Mj (n a b:Int):C7 n a b=some (qg n a b):=rfl
theorem aaS (a b:Loc):(decide (b.pE < a.pE)||(decide (b.pE=a.pE)&&(decide (b.file < a.file)||(decide (b.file=a.file)&&decide (b.off < a.off)))))=FM a b:=by
 unfold FM
 by_cases h1:a.pE=b.pE
 ·rw [if_neg (by simpa using h1),decide_eq_false (by omega),decide_eq_true h1.symm]
  by_cases h2:a.file=b.file
  ·rw [if_neg (by simpa using h2),decide_eq_false (by omega),decide_eq_true h2.symm];rfl
  ·have h3:¬ b.file=a.file:=fun q=>h2 q.symm;rw [if_pos h2];simp [h3]
 ·have h3:¬ b.pE=a.pE:=fun q=>h1 q.symm;rw [if_pos h1];simp [h3]
theorem Tn (c:mZ) (l:List Loc):yl c l=some (va c.oK l):=by
 unfold yl va
 by_cases hl:l.length≤200
 ·rw [oX (decide_eq_false (by omega))];rw [Ax l.length (HV c.oK l) (some true) (some false) (by omega) ?_ ?_,decide_eq_true hl]
  ·cases qE l.length (HV c.oK l) <;> rfl
  ·intro rec i hi;simp only [yl.l2,yl.k3];rw [oW (pH hi),pr hi,oA];have e1:l.getD i default=l[i]:=pC hi;have tail:(if decide ((0:Int) < (i:Int))=true then bd (ix l (wr ((i:Int) - 1))) fun MC=>if (!(decide (MC.pE < l[i].pE)||(decide (MC.pE=l[i].pE)&&(decide (MC.file < l[i].file)||(decide (MC.file=l[i].file)&&decide (MC.off < l[i].off))))))=true then some false else rec (wr ((i:Int)+1)) else rec (wr ((i:Int)+1)))=if (!decide (0 < i)||FM l[i] (l.getD (i - 1) default))=true then rec ((i+1:Nat):Int) else some false:=by
    rw [pt (by omega)]
    by_cases h0:0 < i
    ·rw [oW (decide_eq_true (by omega)),BR h0 (by omega),pr (show i - 1 < l.length by omega),oA,decide_eq_true h0,pC (show i - 1 < l.length by omega),aaS];cases FM l[i] (l[i - 1]'(by omega)) <;> rfl
    ·rw [oX (decide_eq_false (by omega)),decide_eq_false h0];rfl
   simp only [Mj];rw [tail];unfold HV SG;rw [e1]
   by_cases h1:qg l[i].pE 0 ((c.oK.length:Int) - 1)=true
   ·obtain ⟨a0,a1⟩:=Cz.1 h1;rw [h1,X9 a0 a1,decide_eq_false (show ¬ l[i].pE < 0 by omega),decide_eq_false (show ¬ (c.oK.length:Int)≤l[i].pE by omega)];simp only [uJ,oA,PE,x5,if_true,uB,uQ];rw [show decide ((c.oK.getD l[i].pE.toNat default).state≠2) = !decide ((c.oK.getD l[i].pE.toNat default).state=2) from decide_not];generalize qg l[i].off 0 16777215=p;generalize qg l[i].len 13 8013=q;generalize (!decide (0 < i)||FM l[i] (l.getD (i - 1) default))=u;cases decide ((c.oK.getD l[i].pE.toNat default).state=2) with
    | false=>rfl
    | true =>
     simp only [uP,x5,if_true,uB,uQ];generalize qg l[i].file 1 (c.oK.getD l[i].pE.toNat default).files=s;cases s <;> cases p <;> cases q <;> cases u <;> rfl
   ·rw [DG] at h1;have h2:(decide (l[i].pE < 0)||decide ((c.oK.length:Int)≤l[i].pE))=true:=by
     rw [xK,decide_eq_true_eq,decide_eq_true_eq]
     by_cases h:l[i].pE < 0
     ·exact .inl h
     ·exact .inr (by
       by_cases h3:(c.oK.length:Int)≤l[i].pE
       ·exact h3
       ·rw [Cz.2 ⟨by omega,by omega⟩] at h1;cases h1)
    rw [h1,h2];simp only [uP,te,oA,CP,xg,if_true];rfl
  ·intro rec;simp only [yl.l2,yl.k1];rw [oX (pL (pS _))]
 ·rw [oW (decide_eq_true (by omega)),decide_eq_false hl];rfl
theorem aiX (c:mZ) (n:List UInt8) (hl:c.oB.length≤1073741824):Cn c n=some (vI c.oB.length fun i=>(c.oB.getD i default).oJ.name == n):=by
 unfold Cn;rw [Gp c.oB.length (fun i=>(c.oB.getD i default).oJ.name == n) (by omega) ?_ ?_]
 ·intro rec i hi;simp only [Cn.l2];rw [oW (pH hi),pr hi,oA,pC hi,pt (by omega)]
 ·intro rec;simp only [Cn.l2,Cn.k1];rw [oX (pL (pS _))]
theorem YQ (c:mZ) (n:List UInt8) (hl:c.chunks.length≤1073741824):AX c n=some (vI c.chunks.length fun i=>decide ((c.chunks.getD i default).id=n)):=by
 unfold AX;rw [Gp c.chunks.length (fun i=>decide ((c.chunks.getD i default).id=n)) (by omega) ?_ ?_]
 ·intro rec i hi;simp only [AX.l2];rw [oW (pH hi),pr hi,oA,pC hi,pt (by omega)]
 ·intro rec;simp only [AX.l2,AX.k1];rw [oX (pL (pS _))]
theorem WT {n:Nat} {p:Nat→Bool}:decide (vI n p < 0)=qE n fun i=>!p i:=by
 have h:=K2 (n:=n) (p:=p)
 by_cases q:vI n p < 0
 ·rw [decide_eq_false (by omega)] at h;rw [decide_eq_true q];generalize (qE n fun i=>!p i)=a at *;cases a <;> simp at h ⊢
 ·rw [decide_eq_true (by omega)] at h;rw [decide_eq_false q];generalize (qE n fun i=>!p i)=a at *;cases a <;> simp at h ⊢
theorem WS {n:Nat} {p:Nat→Bool} {i:Nat} (hi:i < n):vI n p=(i:Int) ↔ p i=true ∧ ∀ j,j < i→p j=false:=by
 unfold vI;constructor
 ·intro h
  split at h
  ·rename_i hk;have e:yN n (fun i=>!p i)=i:=by omega
   refine ⟨?_,fun j hj=>?_⟩
   ·have:=OR hk;rw [e] at this;simpa using this
   ·have:=OS (n:=n) (f:=fun i=>!p i) (q:=j) (by omega);simpa using this
  ·omega
 ·rintro ⟨h1,h2⟩;have e:yN n (fun i=>!p i)=i:=Ec (zx hi) (fun q hq=>by rw [h2 q hq];rfl) (fun _=>by rw [h1];rfl);rw [e,if_pos hi]
theorem ah7 (a b:List UInt8) (ha:a.length=32) (hb:b.length=32):EM a b=some (qI a b):=by
 rw [← QI a b ha hb];rfl
structure Kt (c:mZ):Prop where
 id:∀ x∈c.chunks,x.id.length=32
 oJ:∀ s∈c.oB,E9 s.oJ∧s.oJ.name.length < 1000000 ∧ ∀ p∈s.oJ.parts,p.path.length < 4611686018427387904
end Go.Wk.Lf
end
section
namespace Go.Wk.Lf
open Go.V Go.Sort Go.Proofs
theorem af5 {c:mZ} {m:oP} (hr:C0 c.chunks):Gm c m=true ↔ ∀ y∈sT m,∃ x∈c.chunks,x.id=y:=by
 unfold Gm;rw [wb];constructor
 ·intro h y hy;obtain ⟨p,hp,hy⟩:=G1.1 hy;obtain ⟨i,hi,rfl⟩:=CU.1 hp;obtain ⟨k,hk,rfl⟩:=CU.1 hy;have:=h i hi;rw [pC hi,wb] at this;have:=this k hk;rw [pC hk] at this;exact (N0 hr _).1 this
 ·intro h i hi;rw [pC hi,wb];intro k hk;rw [pC hk];exact (N0 hr _).2 (h _ (G1.2 ⟨_,qW hi,qW hk⟩))
def GG (c:mZ) (i:Nat):Bool:=qg (c.oB.getD i default).seq 0 (c.seq - 1)&&(!decide (0 < i)||decide ((c.oB.getD (i - 1) default).seq < (c.oB.getD i default).seq))&&decide (tX (c.oB.getD i default).oJ)&&va c.oK (c.oB.getD i default).oN&&decide (vI c.oB.length (fun k=>(c.oB.getD k default).oJ.name == (c.oB.getD i default).oJ.name)=(i:Int))&&(qE (uc (sT (c.oB.getD i default).oJ)).length fun k=>!(qE c.chunks.length fun j=>!decide ((c.chunks.getD j default).id=(uc (sT (c.oB.getD i default).oJ)).getD k default)))&&(qE c.oD.length fun k=>!decide ((c.oD.getD k default).of=(c.oB.getD i default).seq))
def FX (c:mZ) (i:Nat):Bool:=qg (c.oD.getD i default).seq 0 (c.seq - 1)&&(!decide (0 < i)||decide ((c.oD.getD (i - 1) default).seq < (c.oD.getD i default).seq))&&qg (c.oD.getD i default).of 0 ((c.oD.getD i default).seq - 1)&&decide (0 < (c.oD.getD i default).oN.length)&&va c.oK (c.oD.getD i default).oN
theorem TA (x q:Int):(decide (x < 0)||decide (q≤x)) = !qg x 0 (q - 1):=by
 rw [J7,xK,decide_eq_true_eq,decide_eq_true_eq,AK,← DG,Cz];omega
theorem ahE (o:Bool) (x q:Int):((o||decide (x < 0))||decide (q≤x))=(o || !qg x 0 (q - 1)):=by
 rw [← TA,Bool.or_assoc]
theorem Yj (x q:Int):decide (x≤q) = !decide (q < x):=by
 rw [← decide_not,decide_eq_decide];omega
theorem Ja (n:Nat):decide ((n:Int)=0) = !decide (0 < n):=by
 rw [← decide_not,decide_eq_decide];omega
theorem aiq (c:mZ) (hl:c.oD.length≤1073741824):qF.k3 c=if qE c.oD.length (FX c)=true then some true else some false:=by
 unfold qF.k3;rw [Ax c.oD.length (FX c) (some true) (some false) (by omega) ?_ ?_]
 ·intro rec i hi;simp only [qF.l5];rw [oW (pH hi),pr hi,oA];have e1:c.oD.getD i default=c.oD[i]:=pC hi;simp only [Tn,pt (show i < 4611686018427387904 by omega),TA,ahE];simp only [Yj,Ja];unfold FX;rw [e1];cases zK:qg c.oD[i].seq 0 (c.seq - 1) with
  | false=>simp only [x5,uP,xg,te,oA,CP,if_true];rfl
  | true =>
   by_cases uy:0 < i
   ·have e2:ix c.oD (wr ((i:Int) - 1))=some (c.oD.getD (i - 1) default):=by
     rw [BR uy (by omega),pr (show i - 1 < c.oD.length by omega),pC (by omega)]
    have rp:decide ((0:Int) < (i:Int))=true:=decide_eq_true (by omega);rw [e2,rp,decide_eq_true uy];simp only [uJ,oA,uP,x5,uQ,DF,if_true,uB];generalize decide ((c.oD.getD (i - 1) default).seq < c.oD[i].seq)=a;generalize qg c.oD[i].of 0 (c.oD[i].seq - 1)=b;generalize va c.oK c.oD[i].oN=d;generalize decide (0 < c.oD[i].oN.length)=e;cases a <;> cases b <;> cases d <;> cases e <;> rfl
   ·have rp:decide ((0:Int) < (i:Int))=false:=decide_eq_false (by omega);rw [rp,decide_eq_false uy];simp only [Fs,xg,te,uJ,oA,uP,x5,uB,CP];generalize qg c.oD[i].of 0 (c.oD[i].seq - 1)=b;generalize va c.oK c.oD[i].oN=d;generalize decide (0 < c.oD[i].oN.length)=e;cases b <;> cases d <;> cases e <;> rfl
 ·intro rec;simp only [qF.l5,qF.k4];rw [oX (pL (pS _))]
theorem SJ {m:oP} (h:tX m):m.parts.length≤6∧(sT m).length≤150 ∧ ∀ p∈m.parts,p.ids.length≤25:=by
 obtain ⟨_,h6,hp,_⟩:=h;have Xe:∀ p∈m.parts,p.ids.length≤25:=fun p hq=>by
  have:=qB.1 hp p hq;unfold zT at this;simp only [rk,decide_eq_true_eq] at this;omega
 refine ⟨h6,?_,Xe⟩;have key:∀ l:List Part,(∀ p∈l,p.ids.length≤25)→(l.flatMap Part.ids).length≤25*l.length:=by
  intro l
  induction l with
  | nil=>intro _;simp
  | cons a l ih =>
   intro h;have h1:=ih fun p hp=>h p (ti _ hp);have h2:=h a (UP ..);simp only [Iw,rH,Ew];omega
 have:=key _ Xe;unfold sT;omega
theorem aiY (c:mZ) (hf:Kt c) (hl:c.oB.length≤1073741824) (hc:c.chunks.length≤1073741824) (he:c.oD.length≤1073741824):qF.k2 c=if qE c.oB.length (GG c)=true then qF.k3 c else some false:=by
 unfold qF.k2;rw [Ax c.oB.length (GG c) (qF.k3 c) (some false) (by omega) ?_ ?_]
 ·intro rec i hi;simp only [qF.l6];rw [oW (pH hi),pr hi,oA];have e1:c.oB.getD i default=c.oB[i]:=pC hi;obtain ⟨hk,hn,hpp⟩:=hf.oJ _ (qW hi);simp only [Tn,Y4 c.oB[i].oJ (by omega) hpp,aiX _ _ hl,TA];simp only [Yj];unfold GG;rw [e1];generalize hA:qg c.oB[i].seq 0 (c.seq - 1)=A;generalize hL:va c.oK c.oB[i].oN=Lo;generalize vI c.oB.length (fun k=>(c.oB.getD k default).oJ.name == c.oB[i].oJ.name)=fi;have last:tX c.oB[i].oJ→(bd (wF c.oB[i].oJ) fun Te=>loop (qF.sm c (i:Int) rec c.oB[i] Te) 0)=if ((qE (uc (sT c.oB[i].oJ)).length fun k=>!(qE c.chunks.length fun j=>!decide ((c.chunks.getD j default).id=(uc (sT c.oB[i].oJ)).getD k default)))&&(qE c.oD.length fun k=>!decide ((c.oD.getD k default).of=c.oB[i].seq)))=true then rec ((i+1:Nat):Int) else some false:=by
   intro hm;obtain ⟨m1,m2,_⟩:=SJ hm;have hu:=Sk (sT c.oB[i].oJ);rw [Y1 _ (by omega) (by omega) hk,oA];rw [Ax (uc (sT c.oB[i].oJ)).length (fun k=>!(qE c.chunks.length fun j=>!decide ((c.chunks.getD j default).id=(uc (sT c.oB[i].oJ)).getD k default))) (qF.k8 c (i:Int) rec c.oB[i]) (some false) (by omega) ?_ ?_]
   ·unfold qF.k8;rw [Ax c.oD.length (fun k=>!decide ((c.oD.getD k default).of=c.oB[i].seq)) (rec ((i+1:Nat):Int)) (some false) (by omega) ?_ ?_]
    ·generalize (qE (uc (sT c.oB[i].oJ)).length fun k=>!(qE c.chunks.length fun j=>!decide ((c.chunks.getD j default).id=(uc (sT c.oB[i].oJ)).getD k default)))=a;cases a <;> simp
    ·intro vU j hj;simp only [qF.l9];rw [oW (pH hj),pr hj,oA,pt (by omega),pC hj]
     by_cases h:c.oD[j].of=c.oB[i].seq
     ·rw [oW (decide_eq_true h),decide_eq_true h];rfl
     ·rw [oX (decide_eq_false h),decide_eq_false h];rfl
    ·intro vU;simp only [qF.l9,qF.k7];rw [oX (pL (pS _)),pt (by omega)]
   ·intro vU j hj;simp only [qF.sm];rw [oW (pH hj),pr hj,oA,YQ _ _ hc,oA,pt (by omega),WT,pC hj];cases (qE c.chunks.length fun k=>!decide ((c.chunks.getD k default).id=(uc (sT c.oB[i].oJ))[j])) <;> rfl
   ·intro vU;simp only [qF.sm];rw [oX (pL (pS _))]
  generalize (bd (wF c.oB[i].oJ) fun Te=>loop (qF.sm c (i:Int) rec c.oB[i] Te) 0)=tl at last;generalize ((qE (uc (sT c.oB[i].oJ)).length fun k=>!(qE c.chunks.length fun j=>!decide ((c.chunks.getD j default).id=(uc (sT c.oB[i].oJ)).getD k default))))=u at last;generalize (qE c.oD.length fun k=>!decide ((c.oD.getD k default).of=c.oB[i].seq))=v at last;have key:∀ o:Bool,(bd (only (!(!A||o)) (some (decide (tX c.oB[i].oJ))) false) fun Tc=>bd (only (!((!A||o) || !Tc)) (some Lo) false) fun YM=>bd (only (!(((!A||o) || !Tc) || !YM)) (some fi) 0) fun ah3=>if ((((!A||o) || !Tc) || !YM)||decide (ah3≠(i:Int)))=true then some false else tl)=if (A && !o&&decide (tX c.oB[i].oJ)&&Lo&&decide (fi=(i:Int))&&u&&v)=true then rec ((i+1:Nat):Int) else some false:=by
   intro o;simp only [uJ,oA];rw [show decide (fi=(i:Int))=decide (fi=(i:Int)) from rfl]
   by_cases hm:tX c.oB[i].oJ
   ·rw [last hm,decide_eq_true hm]
    by_cases RJ:fi=(i:Int)
    ·rw [RJ];cases A <;> cases o <;> cases Lo <;> simp
    ·rw [decide_eq_false RJ];cases A <;> cases o <;> cases Lo <;> simp [RJ]
   ·rw [decide_eq_false hm];cases A <;> cases o <;> simp
  by_cases uy:0 < i
  ·have e2:ix c.oB (wr ((i:Int) - 1))=some (c.oB.getD (i - 1) default):=by
    rw [BR uy (by omega),pr (show i - 1 < c.oB.length by omega),pC (by omega)]
   have rp:decide ((0:Int) < (i:Int))=true:=decide_eq_true (by omega);rw [e2,rp,decide_eq_true uy,uJ,oA];cases A with
   | false=>simp only [x5,CP,uP,te,oA,if_true];rfl
   | true =>
    simp only [uP,x5,uB,uQ,if_true] at key ⊢;refine (key _).trans ?_;rw [Ft]
  ·have rp:decide ((0:Int) < (i:Int))=false:=decide_eq_false (by omega);rw [rp,decide_eq_false uy];simp only [Fs,xg,te,oA];refine (key false).trans ?_;simp only [x5,CP]
 ·intro rec;simp only [qF.l6];rw [oX (pL (pS _))]
end Go.Wk.Lf
end
section
namespace Go.Wk.Lf
open Go.V Go.Sort Go.Proofs
theorem ah8 (c:mZ) (hf:Kt c) (hl:c.chunks.length≤1073741824):qF.k1 c=if qE c.chunks.length (Ad c)=true then qF.k2 c else some false:=by
 unfold qF.k1;rw [Ax c.chunks.length (Ad c) (qF.k2 c) (some false) (by omega) ?_ ?_]
 ·intro rec i hi;simp only [qF.sI];rw [oW (pH hi),pr hi,oA];have e1:c.chunks.getD i default=c.chunks[i]:=pC hi;simp only [Tn,Mj,pt (show i < 4611686018427387904 by omega)];have key:∀ (o:Bool) (x:Chunk),(bd (only (!o) (some (va c.oK x.oN)) false) fun YN=>bd (only ((!(o||(!YN)))&&x.pX) (some (qg (x.data.length:Int) 1 64)) false) fun ah4=>if (((o||(!YN))||(x.pX&&(!ah4)))||((!x.pX)&&(decide (0 < (x.data.length:Int))||decide ((x.oN.length:Int)=0))))=true then some false else rec ((i+1:Nat):Int))=if (!o&&va c.oK x.oN&&I3 x)=true then rec ((i+1:Nat):Int) else some false:=by
   intro o x;simp only [uJ,oA];refine ite_not ?_;unfold I3;have d1:decide ((0:Int) < (x.data.length:Int)) = !decide (x.data.length=0):=by
    by_cases h:x.data.length=0
    ·simp [h]
    ·rw [decide_eq_false h,decide_eq_true (by omega)];rfl
   rw [d1,Ja];generalize decide (x.data.length=0)=p;generalize decide (0 < x.oN.length)=q;generalize qg (x.data.length:Int) 1 64=s;generalize va c.oK x.oN=u;generalize x.pX=v;cases o <;> cases p <;> cases q <;> cases s <;> cases u <;> cases v <;> rfl
  by_cases h0:0 < i
  ·have sK:i - 1 < c.chunks.length:=by omega
   have e2:ix c.chunks (wr ((i:Int) - 1))=some (c.chunks.getD (i - 1) default):=by
    rw [BR h0 (by omega),pr sK,pC sK]
   have rp:decide ((0:Int) < (i:Int))=true:=decide_eq_true (by omega);have hb:EM (c.chunks.getD (i - 1) default).id c.chunks[i].id=some (qI (c.chunks.getD (i - 1) default).id c.chunks[i].id):=by
    rw [pC sK];exact ah7 _ _ (hf.id _ (qW sK)) (hf.id _ (qW hi))
   rw [e2,rp,uJ,oA,if_pos rfl,hb,uJ,oA,if_pos rfl];simp only [uQ];refine (key _ _).trans ?_;unfold Ad;rw [e1,decide_eq_true h0];simp only [Ft,uP,uB]
  ·have rp:decide ((0:Int) < (i:Int))=false:=decide_eq_false (by omega);rw [rp];simp only [te,oA,xg];refine (key false _).trans ?_;unfold Ad;rw [e1,decide_eq_false h0];rfl
 ·intro rec;simp only [qF.sI];rw [oX (pL (pS _))]
theorem ai7 (c:mZ) (hl:c.oK.length≤1073741824):loop (qF.rZ c) 0=if c.oK.all Fl=true then qF.k1 c else some false:=by
 rw [Ax c.oK.length (fun i=>Fl (c.oK.getD i default)) (qF.k1 c) (some false) (by omega) ?_ ?_,VC]
 ·intro rec i hi;simp only [qF.rZ,qF.Oo,qF.A4];rw [oW (pH hi),pr hi,oA];simp only [Mj,uJ,oA,pt (show i < 4611686018427387904 by omega),pC hi];unfold Fl;generalize c.oK[i]=v;generalize qg v.AD 0 1=a;generalize qg v.Af 0 1048576=b;generalize qg v.files 1 65535=d;have e:decide (v.files≠0) = !decide (v.files=0):=decide_not;rw [e]
  by_cases h2:v.state=2
  ·rw [h2];generalize decide (v.files=0)=f;cases a <;> cases b <;> cases d <;> cases f <;> simp
  ·rw [decide_eq_false h2];generalize decide (v.files=0)=f;generalize decide (v.state=1)=p;generalize decide (v.state=3)=q;cases a <;> cases b <;> cases f <;> cases p <;> cases q <;> simp
 ·intro rec;simp only [qF.rZ];rw [oX (pL (pS _))]
theorem ahf {c:mZ} {i:Nat} (hi:i < c.oB.length):vI c.oB.length (fun k=>(c.oB.getD k default).oJ.name == (c.oB.getD i default).oJ.name)=(i:Int) ↔ ¬ (c.oB.getD i default).oJ.name∈(c.oB.take i).map fun s=>s.oJ.name:=by
 rw [WS hi];constructor
 ·rintro ⟨_,h2⟩ hm;obtain ⟨s,hs,he⟩:=z7.1 hm;obtain ⟨j,hj,rfl⟩:=CU.1 hs;simp only [rb] at hj;have:=h2 j (by omega);rw [pC (by omega)] at this;rw [MW] at he;simp [he] at this
 ·intro h;refine ⟨by simp,fun j hj=>?_⟩;rw [pC (show j < c.oB.length by omega)];simp only [beq_eq_false_iff_ne,ne_eq];exact fun q=>h (z7.2 ⟨c.oB[j],CU.2 ⟨j,by simp;omega,by simp⟩,q⟩)
theorem aly {c:mZ} {m:oP} (hr:C0 c.chunks):(qE (uc (sT m)).length fun k=>!(qE c.chunks.length fun j=>!decide ((c.chunks.getD j default).id=(uc (sT m)).getD k default)))=true ↔ Gm c m=true:=by
 rw [af5 hr,wb];constructor
 ·intro h y hy;rw [← Sl] at hy;obtain ⟨k,hk,rfl⟩:=CU.1 hy;have:=h k hk;rw [pC hk,AK,← DG,wb] at this
  by_cases q:∃ x∈c.chunks,x.id=(uc (sT m))[k]
  ·exact q
  ·refine absurd (fun j hj=>?_) this;rw [pC hj,AK,decide_eq_false_iff_not];exact fun e=>q ⟨_,qW hj,e⟩
 ·intro h k hk;obtain ⟨x,hx,he⟩:=h _ ((Sl _ _).1 (qW hk));obtain ⟨j,hj,rfl⟩:=CU.1 hx;rw [pC hk,AK,← DG,wb];intro q;have:=q j hj;rw [pC hj] at this;simp [he] at this
theorem ajh {c:mZ} (hr:C0 c.chunks):((∀ i,i < c.oB.length→GG c i=true) ∧ ∀ i,i < c.oD.length→FX c i=true) ↔ ((∀ i,i < c.oB.length→Em c i=true) ∧ ∀ i,i < c.oD.length→DU c i=true):=by
 have hs:∀ i,i < c.oB.length→(GG c i=true ↔ Em c i=true ∧ ∀ k,k < c.oD.length → ¬ (c.oD.getD k default).of=(c.oB.getD i default).seq):=by
  intro i hi;unfold GG Em;simp only [rk,AK,decide_eq_true_eq,decide_eq_false_iff_not,aly hr,ahf hi,wb];constructor
  ·rintro ⟨⟨⟨⟨⟨⟨h1,h2⟩,h3⟩,h4⟩,h5⟩,h6⟩,h7⟩;exact ⟨⟨⟨⟨⟨⟨h1,h2⟩,h5⟩,h3⟩,h4⟩,h6⟩,h7⟩
  ·rintro ⟨⟨⟨⟨⟨⟨h1,h2⟩,h5⟩,h3⟩,h4⟩,h6⟩,h7⟩;exact ⟨⟨⟨⟨⟨⟨h1,h2⟩,h3⟩,h4⟩,h5⟩,h6⟩,h7⟩
 have he:∀ i,i < c.oD.length→(DU c i=true ↔ FX c i=true ∧ ∀ k,k < c.oB.length → ¬ (c.oB.getD k default).seq=(c.oD.getD i default).of):=by
  intro i hi;unfold FX DU;simp only [rk,AK,decide_eq_false_iff_not,wb]
 constructor
 ·rintro ⟨h1,h2⟩;exact ⟨fun i hi=>((hs i hi).1 (h1 i hi)).1,fun i hi=>(he i hi).2 ⟨h2 i hi,fun k hk q=>((hs k hk).1 (h1 k hk)).2 i hi q.symm⟩⟩
 ·rintro ⟨h1,h2⟩;exact ⟨fun i hi=>(hs i hi).2 ⟨h1 i hi,fun k hk q=>((he k hk).1 (h2 k hk)).2 i hi q.symm⟩,fun i hi=>((he i hi).1 (h2 i hi)).1⟩
theorem Tf (c:mZ) (hf:Kt c):qF c=some (wE c):=by
 unfold qF;rw [Mj,oA,Mj,uJ,oA]
 by_cases hlen:qg c.seq 0 1073741824=true∧c.oB.length≤8∧c.chunks.length≤200∧c.oD.length≤200∧qg (c.oK.length:Int) 1 8=true
 ·obtain ⟨h1,h2,h3,h4,h5⟩:=hlen;have hv:=(Cz.1 h5).2;rw [h1,h5,decide_eq_false (show ¬ (8:Int) < (c.oB.length:Int) by omega),decide_eq_false (show ¬ (200:Int) < (c.chunks.length:Int) by omega),decide_eq_false (show ¬ (200:Int) < (c.oD.length:Int) by omega)];simp only [uP,PE,x5,if_true,zZ,if_false];rw [ai7 c (by omega),ah8 c hf (by omega),aiY c hf (by omega) (by omega) (by omega),aiq c (by omega)];have e:wE c=(c.oK.all Fl&&(qE c.chunks.length (Ad c)&&(qE c.oB.length (GG c)&&qE c.oD.length (FX c)))):=by
   unfold wE Ih GH FY;rw [h1,h5,decide_eq_true h2,decide_eq_true h4];have hc:DS c=qE c.chunks.length (Ad c):=by unfold DS;rw [decide_eq_true h3,DF]
   by_cases N3:qE c.chunks.length (Ad c)=true
   ·have hr:=Wp (c:=c) (hc.trans N3);have:=ajh hr;simp only [← wb] at this;rw [hc,N3];simp only [uQ,DF,Bool.and_assoc]
    congr 1
    rw [J7,rk,rk];exact this.symm
   ·rw [DG] at N3;rw [hc,N3];simp
  rw [e];generalize c.oK.all Fl=a;generalize qE c.chunks.length (Ad c)=b;generalize qE c.oB.length (GG c)=d;generalize qE c.oD.length (FX c)=g;cases a <;> cases b <;> cases d <;> cases g <;> rfl
 ·have e:wE c=false:=by
   cases h:wE c with
   | false=>rfl
   | true =>
    refine absurd ?_ hlen;unfold wE Ih DS GH FY at h;simp only [rk,decide_eq_true_eq] at h;exact ⟨h.1.1.1.1,h.1.2.2,h.1.1.2.2,h.2.2,h.1.1.1.2.2⟩
  rw [e,oW]
  by_cases h1:qg c.seq 0 1073741824=true
  ·rw [h1]
   by_cases h2:c.oB.length≤8
   ·rw [decide_eq_false (show ¬ (8:Int) < (c.oB.length:Int) by omega)]
    by_cases h3:c.chunks.length≤200
    ·rw [decide_eq_false (show ¬ (200:Int) < (c.chunks.length:Int) by omega)]
     by_cases h4:c.oD.length≤200
     ·rw [decide_eq_false (show ¬ (200:Int) < (c.oD.length:Int) by omega)];cases h5:qg (c.oK.length:Int) 1 8 with
      | false=>rfl
      | true=>exact absurd ⟨h1,h2,h3,h4,h5⟩ hlen
     ·rw [decide_eq_true (show (200:Int) < (c.oD.length:Int) by omega)];simp
    ·rw [decide_eq_true (show (200:Int) < (c.chunks.length:Int) by omega)];simp
   ·rw [decide_eq_true (show (8:Int) < (c.oB.length:Int) by omega)];simp
  ·rw [DG] at h1;rw [h1];simp
end Go.Wk.Lf
end
section
namespace Go.Wk.Lf
open Go.V Go.Sort Go.Proofs
theorem SR {α:Type} {p:α→Bool} {l:List α} {x:α} (h:x∈l.filter p):x∈l:=(P5.1 h).1
theorem Q5 {α:Type} {F:(Int × Int × List α→Option (List α))→Int × Int × List α→Option (List α)} (l:List α) (p:α→Bool) (k:Nat) (hk:k < l.length) (h0:∀ j (h:j < l.length),j < k→p l[j]=false) (hpk:p l[k]=true) (hn:l.length≤1073741824)
  (sw:∀ rec (a b:Nat) (m:List α) (hb:b < l.length),m.length=l.length→a < b→m[b]? = some l[b]→F rec ((a:Int),(b:Int),m)=if p l[b]=true then rec ((a:Int),((b+1:Nat):Int),m) else rec (((a+1:Nat):Int),((b+1:Nat):Int),m.set a l[b]))
  (tv:∀ rec (a:Nat) m,m.length=l.length→a < l.length→F rec ((a:Int),(l.length:Int),m)=some (m.take a)):loop F ((k:Int),((k+1:Nat):Int),l)=some (l.filter fun x=>!p x):=by
 refine sy (S:=Int × Int × List α) (σ:=Nat × List α) (fun b s=>((s.1:Int),(b:Int),s.2)) l.length (fun b s=>s.2.length=l.length∧s.1 < b∧s.2.take s.1=(l.take b).filter (fun x=>!p x)∧s.2.drop b=l.drop b) _ (i0:=k+1) (s0:=(k,l)) rfl (by omega) ⟨rfl,by simp,?_,rfl⟩ (by omega) ?_ ?_
 ·rw [tN hk,GY,PY.2 (fun x hx=>?_)]
  ·simp [hpk]
  ·obtain ⟨j,hj,rfl⟩:=CU.1 hx;simp only [rb] at hj;rw [MW,h0 j (by omega) (by omega)];rfl
 ·rintro rec b ⟨a,m⟩ hb ⟨hm,De,ht,hd⟩ pq;have HH:m[b]? = some l[b]:=by
   have:=congrArg (fun q=>q[0]?) hd;simp only [vi,xM] at this;rw [this];simp [hb]
  simp only at hm De ht hd ⊢;rw [sw rec a b m hb hm De HH]
  by_cases hp:p l[b]=true
  ·rw [if_pos hp];refine pq (a,m) ⟨hm,by simp;omega,?_,?_⟩
   ·simp only [ht];rw [tN hb,GY];simp [hp]
   ·simp only;rw [← Bj,← Bj,hd]
  ·rw [if_neg hp];refine pq (a+1,m.set a l[b]) ⟨by simpa using hm,by simp;omega,?_,?_⟩
   ·simp only;have e:(m.set a l[b]).take (a+1)=m.take a++[l[b]]:=by
     rw [List.take_add_one,UX (px _)];simp [show a < m.length by omega]
    rw [e,tN hb,GY,ht];simp [hp]
   ·simp only;rw [UG (by omega),← Bj,← Bj,hd]
 ·rintro rec ⟨a,m⟩ ⟨hm,De,ht,hd⟩;simp only at hm De ht hd ⊢;rw [tv rec a m hm De,ht,uf]
theorem Ri {n:Nat} {p:Nat→Bool}:vI n p = -1 ↔ ∀ i,i < n→p i=false:=by
 have h:=WT (n:=n) (p:=p);constructor
 ·intro e i hi;rw [e] at h;have:=wb.1 h.symm i hi;simpa using this
 ·intro e;have:qE n (fun i=>!p i)=true:=wb.2 fun i hi=>by rw [e i hi];rfl
  rw [this,decide_eq_true_eq] at h;unfold vI at h ⊢
  split
  ·rename_i q;rw [if_pos q] at h;omega
  ·rfl
theorem Rj {n:Nat} {p:Nat→Bool} (h:¬ vI n p = -1):∃ k,k < n∧vI n p=(k:Int)∧p k=true ∧ ∀ j,j < k→p j=false:=by
 have hk:yN n (fun i=>!p i) < n:=by
  unfold vI at h
  split at h
  ·assumption
  ·exact absurd rfl h
 have e:vI n p=(yN n (fun i=>!p i):Int):=if_pos hk;obtain ⟨h1,h2⟩:=(WS hk).1 e;exact ⟨_,hk,e,h1,h2⟩
theorem Q4 {α:Type} {l m:List α} {a:Nat} {z:α} (hm:m.length=l.length) (ha:a < l.length):(bd (cut (α:=α) m (a:Int) (m.length:Int)) fun l7=>bd (Co m (a:Int).toNat ((m.length:Int).toNat - (a:Int).toNat) z) fun l9=>bd (cut (α:=α) l9 0 (a:Int)) fun sI=>bd (nz l9) fun _=>some sI)=some (m.take a):=by
 have e:(m.take a++ph (m.length - a) z).length=m.length:=by simp;omega
 rw [xC (by omega) (by omega) (by omega),oA,ry,ry,show Co m a (m.length - a) z=some (m.take a++ph (m.length - a) z) from if_pos (by omega),oA,xC (Int.le_refl _) (by omega) (by rw [e];omega),oA,SZ (fun q=>by rw [q] at e;simp at e;omega),oA];show some (((m.take a++ph (m.length - a) z).take (a:Int).toNat).drop 0)=_;rw [ry,yu,List.take_left' (by rw [rb];omega)]
def vL (s:lU):Bool:=decide (0 < s.oN.length)
def xW (x:Chunk):Bool:=decide (0 < x.oN.length)
theorem acX (l:List lU) (hl:l.length≤1073741824):zm l=some (l.filter vL):=by
 have hi:CL l=some (vI l.length fun i=>!vL (l.getD i default)):=by
  unfold CL;rw [Gp l.length (fun i=>!vL (l.getD i default)) (by omega) ?_ ?_]
  ·intro rec i hi;simp only [CL.l2,Md,Ja];rw [oW (pH hi),pr hi,oA,pC hi,pt (by omega)];rfl
  ·intro rec;simp only [CL.l2,CL.k1];rw [oX (pL (pS _))]
 have ef:(fun x=>!(!vL x))=vL:=funext fun x=>Ft _;unfold zm;rw [hi,oA]
 by_cases h:(vI l.length fun i=>!vL (l.getD i default)) = -1
 ·rw [oW (decide_eq_true h),PY.2 fun x hx=>?_];obtain ⟨i,hi,rfl⟩:=CU.1 hx;have:=Ri.1 h i hi;rw [pC hi] at this;simpa using this
 ·obtain ⟨k,hk,e,h1,h2⟩:=Rj h;rw [oX (decide_eq_false h),e,pt (by omega)];rw [pC hk] at h1;rw [Q5 l (fun x=>!vL x) k hk (fun j hj Cr=>by have:=h2 j Cr;rwa [pC hj] at this) h1 hl ?_ ?_,ef]
  ·intro rec a b m hb hm De HH;simp only [zm.l2,zm.k3,Md,Ja];rw [oW (pH (by omega)),xV HH,oA,oA,pr (show a < m.length by omega),oA,pt (by omega),pt (by omega),ry];simp only [vL]
   by_cases hq:0 < l[b].oN.length <;> simp [hq]
  ·intro rec a m hm ha;simp only [zm.l2,zm.k1];rw [oX (pL (by omega))];exact Q4 hm ha
theorem acV (l:List Chunk) (hl:l.length≤1073741824):zl l=some (l.filter xW):=by
 have hi:CK l=some (vI l.length fun i=>!xW (l.getD i default)):=by
  unfold CK;rw [Gp l.length (fun i=>!xW (l.getD i default)) (by omega) ?_ ?_]
  ·intro rec i hi;simp only [CK.l2,Me,Ja];rw [oW (pH hi),pr hi,oA,pC hi,pt (by omega)];rfl
  ·intro rec;simp only [CK.l2,CK.k1];rw [oX (pL (pS _))]
 have ef:(fun x=>!(!xW x))=xW:=funext fun x=>Ft _;unfold zl;rw [hi,oA]
 by_cases h:(vI l.length fun i=>!xW (l.getD i default)) = -1
 ·rw [oW (decide_eq_true h),PY.2 fun x hx=>?_];obtain ⟨i,hi,rfl⟩:=CU.1 hx;have:=Ri.1 h i hi;rw [pC hi] at this;simpa using this
 ·obtain ⟨k,hk,e,h1,h2⟩:=Rj h;rw [oX (decide_eq_false h),e,pt (by omega)];rw [pC hk] at h1;rw [Q5 l (fun x=>!xW x) k hk (fun j hj Cr=>by have:=h2 j Cr;rwa [pC hj] at this) h1 hl ?_ ?_,ef]
  ·intro rec a b m hb hm De HH;simp only [zl.l2,zl.k3,Me,Ja];rw [oW (pH (by omega)),xV HH,oA,oA,pr (show a < m.length by omega),oA,pt (by omega),pt (by omega),ry];simp only [xW]
   by_cases hq:0 < l[b].oN.length <;> simp [hq]
  ·intro rec a m hm ha;simp only [zl.l2,zl.k1];rw [oX (pL (by omega))];exact Q4 hm ha
def Dz (a s:Int):Int:=if a < s+1 then s+1 else a
def Hg (x:Chunk):Chunk:=Chunk.mk x.id false [] x.oN
def H0 (c:mZ):mZ:=mZ.mk ((c.oD.map (·.seq)).foldl Dz (((c.oB.filter vL).map (·.seq)).foldl Dz 0)) (c.oB.filter vL) ((c.chunks.filter xW).map Hg) c.oD c.oK
theorem V0 {c:mZ} (h:wE c=true):0≤c.seq∧c.seq≤1073741824∧(∀ s∈c.oB,0≤s.seq∧s.seq+1≤c.seq) ∧ ∀ x∈c.oD,0≤x.seq∧x.seq+1≤c.seq:=by
 unfold wE GH FY at h;simp only [rk,wb,Cz] at h;obtain ⟨⟨⟨⟨⟨h0,h1⟩,_⟩,_⟩,hs,_⟩,he,_⟩:=h;refine ⟨h0,h1,fun s E4=>?_,fun x hx=>?_⟩
 ·obtain ⟨i,hi,rfl⟩:=CU.1 E4;have:=hs i hi;unfold Em at this;simp only [rk,Cz,pC hi] at this;have:=this.1.1.1.1.1;omega
 ·obtain ⟨i,hi,rfl⟩:=CU.1 hx;have:=he i hi;unfold DU at this;simp only [rk,Cz,pC hi] at this;have:=this.1.1.1.1.1;omega
theorem aiV {c:mZ} (h:wE c=true):tY c=some (H0 c):=by
 have hs:=KI h;obtain ⟨hv,⟨hc,_⟩,⟨LJ,_⟩,he,_⟩:=hs;obtain ⟨q0,q1,qs,qe⟩:=V0 h;have hfs:(c.oB.filter vL).length≤c.oB.length:=DJ ..;have hfc:(c.chunks.filter xW).length≤c.chunks.length:=DJ ..;unfold tY;rw [QZ _ hv hc LJ he,oA,if_pos h];rw [oX (by decide),Z7 _ (KI h),oA,acX _ LJ,oA,acV _ hc,oA];rw [D6 (c.chunks.filter xW) Hg (fun l=>tY.k1 c (c.oB.filter vL) l) (by omega) ?_ ?_]
 ·unfold tY.k1;rw [Ay (S:=Int × Int) (σ:=Int) (fun i a=>((i:Int),a)) (c.oB.filter vL) (fun a s=>Dz a s.seq) (fun a=>tY.k2 c (c.oB.filter vL) ((c.chunks.filter xW).map Hg) a) (fun _ _=>True) (i0:=0) (s0:=0) (x0:=((0:Int),(0:Int))) rfl (pY _) trivial (by omega) ?_ ?_]
  ·unfold tY.k2;rw [Ay (S:=Int × Int) (σ:=Int) (fun i a=>((i:Int),a)) c.oD (fun a s=>Dz a s.seq) (fun a=>tY.k3 c (c.oB.filter vL) ((c.chunks.filter xW).map Hg) a) (fun _ _=>True) (i0:=0) (x0:=((0:Int),List.foldl (fun a s=>Dz a s.seq) 0 (List.drop 0 (c.oB.filter vL)))) rfl (pY _) trivial (by omega) ?_ ?_]
   ·unfold tY.k3 H0;rw [yu,yu,P0,P0]
   ·intro rec i a hi _;refine ⟨trivial,?_⟩;simp only [tY.l4];have:=qe _ (qW hi);rw [oW (pH hi),pr hi,oA,pt (by omega),rU (by omega) (by omega)];unfold Dz
    by_cases hh:a < c.oD[i].seq+1 <;> simp [hh]
   ·intro rec a _;simp only [tY.l4];rw [oX (pL (pS _))]
  ·intro rec i a hi _;refine ⟨trivial,?_⟩;simp only [tY.l5];have:=qs _ (SR (qW hi));rw [oW (pH hi),pr hi,oA,pt (by omega),rU (by omega) (by omega)];unfold Dz
   by_cases hh:a < (c.oB.filter vL)[i].seq+1 <;> simp [hh]
  ·intro rec a _;simp only [tY.l5];rw [oX (pL (pS _))]
 ·intro rec i m hi hm hx;simp only [tY.l6];rw [oW (pH hi),xV hx,oA,ry,pr (show i < (m.set i _).length by simp;omega),oA,pt (by omega),M0];simp [Hg]
 ·intro rec m hm;simp only [tY.l6];rw [oX (pL (by omega))]
theorem ahP {c:mZ} (h:GF c):GF (H0 c):=by
 obtain ⟨hv,⟨hc,EW⟩,⟨hs,HL⟩,he,Ht⟩:=h;have hfs:(c.oB.filter vL).length≤c.oB.length:=DJ ..;have hfc:(c.chunks.filter xW).length≤c.chunks.length:=DJ ..;refine ⟨hv,⟨by simp only [H0,wz];omega,fun x hx=>?_⟩,⟨by simp only [H0];omega,fun s hs=>HL s (SR hs)⟩,he,Ht⟩;obtain ⟨y,hy,rfl⟩:=z7.1 hx;exact ⟨pY _,(EW y (SR hy)).2⟩
end Go.Wk.Lf
end
section
namespace Go.Wk.Lf
open Go.V Go.Sort Go.Proofs
def AJ (s x:lU):Bool:=!(x.oJ.name == s.oJ.name)
theorem acW (l:List lU) (s:lU) (hl:l.length≤1073741824):zn l s=some (l.filter (AJ s)):=by
 have hi:CM l s=some (vI l.length fun i=>!AJ s (l.getD i default)):=by
  unfold CM;rw [Gp l.length (fun i=>!AJ s (l.getD i default)) (by omega) ?_ ?_]
  ·intro rec i hi;simp only [CM.l2,Mh,AJ,Ft];rw [oW (pH hi),pr hi,oA,pC hi,pt (by omega)];rfl
  ·intro rec;simp only [CM.l2,CM.k1];rw [oX (pL (pS _))]
 have ef:(fun x=>!(!AJ s x))=AJ s:=funext fun x=>Ft _;unfold zn;rw [hi,oA]
 by_cases h:(vI l.length fun i=>!AJ s (l.getD i default)) = -1
 ·rw [oW (decide_eq_true h),PY.2 fun x hx=>?_];obtain ⟨i,hi,rfl⟩:=CU.1 hx;have:=Ri.1 h i hi;rw [pC hi] at this;simpa using this
 ·obtain ⟨k,hk,e,h1,h2⟩:=Rj h;rw [oX (decide_eq_false h),e,pt (by omega)];rw [pC hk] at h1;rw [Q5 l (fun x=>!AJ s x) k hk (fun j hj Cr=>by have:=h2 j Cr;rwa [pC hj] at this) h1 hl ?_ ?_,ef]
  ·intro rec a b m hb hm De HH;simp only [zn.l2,zn.k3,Mh];rw [oW (pH (by omega)),xV HH,oA,oA,pr (show a < m.length by omega),oA,pt (by omega),pt (by omega),ry];simp only [AJ]
   by_cases hq:(l[b].oJ.name == s.oJ.name)=true <;> simp [hq]
  ·intro rec a m hm ha;simp only [zn.l2,zn.k1];rw [oX (pL (by omega))];exact Q4 hm ha
def wO:List lU→List lU
 | []=>[]
 | s::l=>if l.any (fun x=>x.oJ.name == s.oJ.name) then wO l else s::wO l
theorem agP (s:lU) (l:List lU):wO (s::l)=if l.any (fun x=>x.oJ.name == s.oJ.name) then wO l else s::wO l:=rfl
theorem agR (l:List lU) (s:lU):wO (l++[s])=(wO l).filter (AJ s)++[s]:=by
 induction l with
 | nil=>rfl
 | cons a l ih =>
  rw [Kd];unfold wO;rw [ih,List.any_append];cases h:l.any (fun x=>x.oJ.name == a.oJ.name) with
  | true=>simp
  | false =>
   by_cases hs:s.oJ.name=a.oJ.name
   ·have hu:AJ s a=false:=by simp [AJ,hs]
    simp [hs,hu]
   ·have hu:AJ s a=true:=by simp [AJ];exact fun q=>hs q.symm
    simp [hs,hu]
theorem Oq (l:List lU):(wO l).Sublist l:=by
 induction l with
 | nil=>exact List.Sublist.slnil
 | cons a l ih =>
  unfold wO
  split
  ·exact ih.cons _
  ·exact ih.cons_cons _
theorem agQ (f:lU→lU) (hf:∀ s,(f s).oJ=s.oJ) (l:List lU):wO (l.map f)=(wO l).map f:=by
 induction l with
 | nil=>rfl
 | cons a l ih =>
  rw [xi];unfold wO;rw [ih,List.any_map];have:(fun x:lU=>x.oJ.name == (f a).oJ.name) ∘ f=fun x=>x.oJ.name == a.oJ.name:=funext fun x=>by simp [hf]
  rw [this]
  split <;> rfl
theorem akp {n:Nat} (c:mZ) (hg:Good n c) (hn:n≤1000):yO c=some (wO (c.oB.filter (xY c))):=by
 have Oc:=hg.ls;unfold yO;refine sy (S:=List lU × Int) (σ:=Unit) (fun i _=>(wO ((c.oB.take i).filter (xY c)),(i:Int))) c.oB.length (fun _ _=>True) _ (i0:=0) (s0:=()) rfl (pY _) trivial (by omega) ?_ ?_
 ·intro rec i _ hi _ pq;have h:=pq () trivial;rw [tN hi,GY] at h;have hm:=(hg.ks _ (qW hi)).1;have hb:=SJ hm;have hlen:(wO ((c.oB.take i).filter (xY c))).length≤i:=by
   have h1:=(Oq ((c.oB.take i).filter (xY c))).length_le;have h2:=DJ (xY c) (c.oB.take i);rw [rb] at h2;omega
  simp only [yO.l2,yO.k3];rw [oW (pH hi),pr hi,oA,akE c _ (by have:=hg.le;omega) (by have:=hg.lc;omega) hg.rc (by omega) (by omega),oA,pt (by omega)]
  by_cases hs:xY c c.oB[i]=true
  ·have sG:=DJ (AJ c.oB[i]) (wO ((c.oB.take i).filter (xY c)));rw [PX hs,GZ,agR] at h;rw [if_pos hs,acW _ _ (by omega),oA,rl (by simp;omega),oA];exact h
  ·rw [PW hs,GZ,vM] at h;rw [if_neg hs];exact h
 ·intro rec _ _;simp only [yO.l2,yO.k1];rw [oX (pL (pS _)),uf]
def JZ (s:lU):lU:=lU.mk s.seq s.oJ (sa s.oN)
def CN (x:Chunk):Chunk:=Chunk.mk x.id x.pX x.data (sa x.oN)
def Ic (x:oC):oC:=oC.mk x.seq x.of (sa x.oN)
def ES (c:mZ):mZ:=⟨c.seq,(wO (c.oB.filter (xY c))).map JZ,c.chunks.map CN,c.oD.map Ic,c.oK⟩
theorem adi {n:Nat} (c:mZ) (hg:Good n c) (hn:n≤1000) (hv:c.oK.length≤1000):K1 c=some (if wE (ES c)=true then (ES c,0) else (mZ.mk 0 [] [] [] [],1)):=by
 have h1:=(Oq (c.oB.filter (xY c))).length_le;have h2:=DJ (xY c) c.oB;have h3:=hg.ls;have h4:=hg.lc;have h5:=hg.le;exact adj c _ sa (akp c hg hn) (by omega) (by omega) (by omega) (by omega) (fun x hx=>S6 _ (by
  have:=(hg.ks x (P5.1 ((Oq _).subset hx)).1).2.2;omega)) (fun x hx=>S6 _ (by have:=(hg.kc x hx).2.2.2;omega)) fun x hx=>S6 _ (by have:=hg.ke x hx;omega)
theorem Qu {A:Type} {F:(Bool × Int→Option A)→Bool × Int→Option A} (r:Nat→Bool) (n i0:Nat) (K:Option A) (h0:i0≤n) (hn:n < 4611686018427387904) (sw:∀ rec (i:Nat),i0≤i→i < n→F rec (r i,(i:Int))=rec (r (i+1),((i+1:Nat):Int))) (tv:∀ rec,F rec (r n,(n:Int))=K):loop F (r i0,(i0:Int))=K:=by
 refine sy (S:=Bool × Int) (σ:=Unit) (fun i _=>(r i,(i:Int))) n (fun i _=>i0≤i) _ (i0:=i0) (s0:=()) rfl h0 (px _) hn ?_ ?_
 ·intro rec i _ hi hI pq;rw [sw rec i hI hi];exact pq () (by omega)
 ·intro rec _ _;exact tv rec
theorem VD (p:Nat→Bool) (i:Nat):qE (i+1) p=(qE i p&&p i):=by
 unfold qE;rw [List.range_succ,List.all_append];simp
theorem agU (W:List lU) (i:Nat) (hi:i < W.length) (hl:W.length≤1000) (out:List lU) (rec:Int × List lU→Option (mZ × Int)) :
  loop (pg.l9 W (i:Int) out rec) (false,wr ((i:Int)+1))=pg.k8 W (i:Int) out rec ((W.drop (i+1)).any fun x=>x.oJ.name == W[i].oJ.name):=by
 rw [pt (by omega)];have e0:false=((W.take (i+1)).drop (i+1)).any (fun x=>x.oJ.name == W[i].oJ.name):=by
  rw [Fy (by rw [rb];omega)];rfl
 rw [e0];refine Qu (fun k=>((W.take k).drop (i+1)).any fun x=>x.oJ.name == W[i].oJ.name) W.length (i+1) _ (by omega) (by omega) ?_ ?_
 ·intro vU k hk Jk;have h:((W.take (k+1)).drop (i+1)).any (fun x=>x.oJ.name == W[i].oJ.name)=(((W.take k).drop (i+1)).any (fun x=>x.oJ.name == W[i].oJ.name)||(W[k].oJ.name == W[i].oJ.name)):=by
   rw [tN Jk,List.drop_append_of_le_length (by rw [rb];omega),List.any_append];simp
  simp only [pg.l9];rw [oW (pH Jk),pr Jk,pr hi,h,pt (by omega)];cases ((W.take k).drop (i+1)).any (fun x=>x.oJ.name == W[i].oJ.name) with
  | true=>rw [te (show (!true)=false from rfl),oA,te (show (!true)=false from rfl),oA,CP,CP]
  | false=>rw [qA (show (!false)=true from rfl),oA,qA (show (!false)=true from rfl),oA]
 ·intro vU;simp only [pg.l9];rw [oX (pL (pS _)),uf]
theorem ahh (W:List lU) (hl:W.length≤1000) (v:List oH) (q:Int) (ch:List Chunk) (ex:List oC) :
  loop (pg.l6 v q ch ex W) (0,[])=pg.k5 v q ch ex (wO W):=by
 refine sy (S:=Int × List lU) (σ:=List lU) (fun i out=>((i:Int),out)) W.length (fun i out=>out++wO (W.drop i)=wO W∧out.length≤i) _ (i0:=0) (s0:=[]) rfl (pY _) ⟨rfl,px _⟩ (by omega) ?_ ?_
 ·rintro rec i out hi ⟨hI,hol⟩ pq;simp only [pg.l6];rw [oW (pH hi),agU W i hi hl out rec];rw [BV hi,agP] at hI;unfold pg.k8 pg.k7;cases h:(W.drop (i+1)).any (fun x=>x.oJ.name == W[i].oJ.name) with
  | true =>
   rw [h] at hI;simp only [if_true] at hI;rw [oX (by rfl),pt (by omega)];exact pq out ⟨hI,by omega⟩
  | false =>
   rw [h] at hI;simp only [zZ,if_false] at hI;rw [oW (by rfl),pr hi,oA,rl (by simp;omega),oA,pt (by omega)];exact pq _ ⟨by rw [tF];exact hI,by simp;omega⟩
 ·rintro rec out ⟨hI,_⟩;simp only [pg.l6];rw [oX (pL (pS _))];rw [FA,show wO []=[] from rfl,vM] at hI;rw [hI]
theorem alx {l:List Chunk} (hr:C0 l) (id:List UInt8) (hl:l.length≤1000) (q:Int) (S:List lU) (E:List oC) (v:List oH):∃ k,AX (mZ.mk q S (l.map CN) E v) id=some k∧decide (0≤k)=vr l id:=by
 refine ⟨_,YQ _ _ (by simp;omega),?_⟩;rw [K2];have Hx:=N0 hr id;have:vr l id=true ↔ (!qE (l.map CN).length fun i=>!decide (((l.map CN).getD i default).id=id))=true:=by
  rw [Hx,AK,← DG,wb];constructor
  ·rintro ⟨x,hx,e⟩ h;obtain ⟨i,hi,rfl⟩:=vX hx;have:=h i (by simpa using hi);rw [pC (by simpa using hi),P1] at this;simp [CN,e] at this
  ·intro h;apply Classical.byContradiction;intro rK;refine h fun i hi=>?_;have sK:i < l.length:=by simpa using hi
   rw [pC hi,P1];have:¬ l[i].id=id:=fun e=>rK ⟨_,qW sK,e⟩;simp [CN,this]
 cases h1:vr l id <;> cases h2:(!qE (l.map CN).length fun i=>!decide (((l.map CN).getD i default).id=id)) <;> simp_all
section
variable {n:Nat} {c:mZ} (hg:Good n c) (hn:n≤1000) (hv:c.oK.length≤1000)
include hg hn hv
theorem alD (i:Nat) (hi:i < c.oB.length) (out:List lU) (ho:out.length≤1000) (rec:List lU × Int→Option (mZ × Int)) :
  pg.sm c.oK c.oB [] c.seq (c.chunks.map CN) (c.oD.map Ic) rec (out,(i:Int))=rec (if xY c c.oB[i]=true then out++[JZ c.oB[i]] else out,((i+1:Nat):Int)):=by
 have Oc:=hg.ls;have hle:=hg.le;obtain ⟨hm,hk,y7⟩:=hg.ks _ (qW hi);have hb:=SJ hm;have hu:=Sk (sT c.oB[i].oJ);simp only [pg.sm];rw [oW (pH hi),pr hi,oA,TI _ (by omega),oA];have oD:∀ k,k < c.oD.length→((c.oD.map Ic).getD k default).of=(c.oD.getD k default).of:=fun k hk=>by
  rw [pC (by simpa using hk),pC hk,P1];rfl
 have e0:true=qE 0 fun k=>!decide ((c.oD.getD k default).of=c.oB[i].seq):=rfl;rw [show ((true,(0:Int)):Bool × Int)=(qE 0 (fun k=>!decide ((c.oD.getD k default).of=c.oB[i].seq)),((0:Nat):Int)) from rfl];refine Qu (fun j=>qE j fun k=>!decide ((c.oD.getD k default).of=c.oB[i].seq)) c.oD.length 0 _ (pY _) (by omega) ?_ ?_
 ·intro vU j _ hj;simp only [pg.wN];rw [oW (by rw [wz];exact pH hj),pr (by simpa using hj),VD,pt (by omega),P1];cases qE j fun k=>!decide ((c.oD.getD k default).of=c.oB[i].seq) with
  | true=>rw [qA rfl,oA,pC hj];by_cases q:c.oD[j].of=c.oB[i].seq <;> simp [Ic,q]
  | false=>rw [te rfl,oA,xg,xg]
 ·intro vU;simp only [pg.wN];rw [oX (by rw [wz];exact pL (pS _))];unfold pg.HS;rw [Y1 _ (by omega) (by omega) hk,oA];have r0:(qE c.oD.length fun k=>!decide ((c.oD.getD k default).of=c.oB[i].seq))=((qE c.oD.length fun k=>!decide ((c.oD.getD k default).of=c.oB[i].seq))&&qE 0 fun k=>vr c.chunks ((uc (sT c.oB[i].oJ)).getD k default)):=by
   rw [show (qE 0 fun k=>vr c.chunks ((uc (sT c.oB[i].oJ)).getD k default))=true from rfl,DF]
  rw [r0,show (0:Int)=((0:Nat):Int) from rfl];refine Qu (fun j=>(qE c.oD.length fun k=>!decide ((c.oD.getD k default).of=c.oB[i].seq))&&qE j fun k=>vr c.chunks ((uc (sT c.oB[i].oJ)).getD k default)) (uc (sT c.oB[i].oJ)).length 0 _ (pY _) (by omega) ?_ ?_
  ·intro Tm j _ hj;simp only [pg.tL];rw [oW (pH hj),pr hj,VD,pt (by omega),pC hj,← Bool.and_assoc];obtain ⟨k,Cs,y5⟩:=alx hg.rc (uc (sT c.oB[i].oJ))[j] (by have:=hg.lc;omega) c.seq [] (c.oD.map Ic) c.oK;cases ((qE c.oD.length fun k=>!decide ((c.oD.getD k default).of=c.oB[i].seq))&&qE j fun k=>vr c.chunks ((uc (sT c.oB[i].oJ)).getD k default)) with
   | true=>rw [qA rfl,oA,qA rfl,Cs,oA,y5]
   | false=>rw [te rfl,oA,te rfl,oA,xg,xg]
  ·intro Tm;simp only [pg.tL];rw [oX (pL (pS _))];show pg.A4 out (i:Int) rec c.oB[i] (sa c.oB[i].oN) (xY c c.oB[i])=_;unfold pg.A4 pg.Aw;rw [pt (by omega)]
   by_cases h:xY c c.oB[i]=true
   ·rw [if_pos h,if_pos h,rl (by simp;omega),oA];rfl
   ·rw [if_neg h,if_neg h]
theorem ac2:Kt (ES c):=⟨fun x hx=>by
 obtain ⟨y,hy,rfl⟩:=z7.1 hx;exact (hg.kc y hy).1,fun s hs=>by
 obtain ⟨y,hy,rfl⟩:=z7.1 hs;obtain ⟨hm,hk,_⟩:=hg.ks y (P5.1 ((Oq _).subset hy)).1;refine ⟨hk,by have:=(OD hm.1).2;simp only [JZ];omega,fun p hp=>?_⟩;have:=(OD (ON (Gs hm p hp)).1).2;omega⟩
theorem air:pg.k1 c.oK c.oB c.chunks [] c.seq c.oD=some (if wE (ES c)=true then (ES c,0) else (mZ.mk 0 [] [] [] [],1)):=by
 have Oc:=hg.ls;have hle:=hg.le;have hlc:=hg.lc;unfold pg.k1;rw [D6 c.chunks CN (fun l=>pg.k2 c.oK c.oB [] c.seq c.oD l) (by omega) ?_ ?_]
 ·unfold pg.k2;rw [D6 c.oD Ic (fun l=>pg.k3 c.oK c.oB [] c.seq (c.chunks.map CN) l) (by omega) ?_ ?_]
  ·unfold pg.k3;refine sy (S:=List lU × Int) (σ:=Unit) (fun i _=>(((c.oB.take i).filter (xY c)).map JZ,(i:Int))) c.oB.length (fun _ _=>True) _ (i0:=0) (s0:=()) rfl (pY _) trivial (by omega) ?_ ?_
   ·intro rec i _ hi _ pq;have h:=pq () trivial;have sG:=DJ (xY c) (c.oB.take i);rw [rb] at sG;rw [alD hg hn hv i hi _ (by rw [wz];omega) rec];rw [tN hi,GY,z6] at h
    by_cases hs:xY c c.oB[i]=true
    ·rw [PX hs,GZ] at h;rw [if_pos hs];exact h
    ·rw [PW hs,GZ,Kg,vM] at h;rw [if_neg hs];exact h
   ·intro rec _ _;have sG:=DJ (xY c) c.oB;simp only [pg.sm];rw [oX (pL (pS _)),uf];unfold pg.k4;rw [ahh _ (by rw [wz];omega),agQ JZ (fun _=>rfl)];unfold pg.k5;rw [show mZ.mk c.seq ((wO (c.oB.filter (xY c))).map JZ) (c.chunks.map CN) (c.oD.map Ic) c.oK=ES c from rfl,Tf _ (ac2 hg hn hv),oA]
    by_cases h:wE (ES c)=true
    ·rw [if_pos h,h];rfl
    ·rw [if_neg h,oW (by simpa using h)]
  ·intro rec i l hi hm hx;simp only [pg.tc];rw [oW (pH (show i < l.length by omega)),xV hx,oA,TI _ (by have:=hg.ke _ (qW (show i < c.oD.length by omega));omega),oA,pt (by omega),ry];rfl
  ·intro rec l hl;simp only [pg.tc];rw [oX (pL (by omega))]
 ·intro rec i l hi hm hx;simp only [pg.pN];rw [oW (pH (show i < l.length by omega)),xV hx,oA,TI _ (by have:=(hg.kc _ (qW (show i < c.chunks.length by omega))).2.2.2;omega),oA,pt (by omega),ry];rfl
 ·intro rec l hl;simp only [pg.pN];rw [oX (pL (by omega))]
end
theorem ahm (fs:List Found):∀ c,(zS fs c).oK=c.oK:=by
 induction fs with
 | nil=>intro c;rfl
 | cons f fs ih =>
  intro c;rw [show zS (f::fs) c=zS fs (wR c f) from rfl,ih];unfold wR
  split
  ·split <;> rfl
  ·split
   ·split <;> rfl
   ·split
    ·split <;> rfl
    ·rfl
theorem adr (vs:List oH) (fs:List Found) (hv:vs.length≤1000) (hl:fs.length≤1000) (hf:∀ f∈fs,fit f) :
  ∃ r:mZ × Int,rL vs fs=some r∧pg vs fs=some r∧GF r.1 ∧ ∀ x∈r.1.chunks,x.data=[]:=by
 have hg:=ahl fs 0 (Ab vs) (QF vs);rw [pA] at hg;have Oj:(zS fs (Ab vs)).oK.length≤1000:=by rw [ahm];exact hv
 refine ⟨if wE (ES (zS fs (Ab vs)))=true then (ES (zS fs (Ab vs)),0) else (mZ.mk 0 [] [] [] [],1),?_,?_,?_⟩
 ·rw [adq vs fs _ (by omega) (by omega) (ahk fs 0 _ (QF vs) (by omega) hf)];exact adi _ hg hl Oj
 ·rw [ais vs fs hv hl hf];exact air hg hl Oj
 ·split
  ·rename_i h;refine ⟨KI h,fun x hx=>?_⟩;obtain ⟨y,hy,rfl⟩:=z7.1 hx;exact (hg.kc y hy).2.1
  ·exact ⟨⟨pY _,⟨pY _,fun x hx=>by cases hx⟩,⟨pY _,fun x hx=>by cases hx⟩,pY _,fun x hx=>by cases hx⟩,fun x hx=>by cases hx⟩
end Go.Wk.Lf
end
section
namespace Go.Wk.Lf
open Go.V Go.Sort Go.Proofs
theorem akR (m:oP) (hp:m.parts.length≤100000) (hl:∀ p∈m.parts,p.ids.length≤100000):Bw m=some m:=by
 unfold Bw;refine sy (S:=List Part × Int) (σ:=List Part) (fun i l=>(l,(i:Int))) m.parts.length (fun i l=>l=m.parts.take i) _ (i0:=0) (s0:=[]) rfl (pY _) rfl (by omega) ?_ ?_
 ·intro rec i l hi hI pq;simp only [Bw.l2];have h1:=hl _ (qW hi);rw [oW (pH hi),pr hi,oA,rl (by simp;omega),oA,rl (by rw [hI];simp;omega),oA,pt (by omega)];refine pq _ ?_;rw [hI,tN hi];rfl
 ·intro rec l hI;simp only [Bw.l2,Bw.k1];rw [oX (pL (pS _)),hI,uf]
def Told {α:Type} (o:Option α) (p:α→Prop):Prop:=∃ r,o=some r∧p r
section
variable {α β:Type} {o:Option α} {p q:α→Prop} {f:α→Option β} {g:β→Prop}
theorem Told.mk {x:α} (h:p x):Told (some x) p:=⟨x,rfl,h⟩
theorem Told.bd (h:Told o p) (hf:∀ x,p x→Told (f x) g):Told (bd o f) g:=by
 obtain ⟨x,rfl,hx⟩:=h;exact hf x hx
theorem Told.Gn {c:Bool} {a b:Option α} (h1:c=true→Told a p) (h2:c=false→Told b p):Told (if c=true then a else b) p:=by
 cases c with
 | true=>exact h1 rfl
 | false=>exact h2 rfl
end
theorem Told.loop {S σ A:Type} {F:(S→Option A)→S→Option A} {p:A→Prop} (mk:Nat→σ→S) (n:Nat) (Inv:Nat→σ→Prop) {i0:Nat} {s0:σ} {x0:S} (hx:x0=mk i0 s0) (uy:i0≤n) (h0:Inv i0 s0) (hn:n < 4611686018427387904)
  (sw:∀ rec i s,i < n→Inv i s→(∀ s',Inv (i+1) s' → Told (rec (mk (i+1) s')) p)→Told (F rec (mk i s)) p) (tv:∀ rec s,Inv n s→Told (F rec (mk n s)) p):Told (loop F x0) p :=
 SI mk n Inv (fun o=>Told o p) hx uy h0 hn sw tv
structure Kz (m:oP):Prop where
 ids:E9 m
 name:m.name.length < 1000000
 path:∀ p∈m.parts,p.path.length < 4611686018427387904
 parts:m.parts.length≤1000
 zG:∀ p∈m.parts,p.ids.length≤1000
def Vp (m:Nat) (x:Chunk):Prop:=x.oN.length≤m∧x.data.length≤1000000∧x.id.length=32
structure Cap (m:Nat) (c:mZ):Prop where
 le:m≤1000000
 chunks:c.chunks.length≤m
 oB:c.oB.length≤m
 oD:c.oD.length≤m
 oK:c.oK.length≤m
 chunk:∀ x∈c.chunks,Vp m x
 snap:∀ s∈c.oB,s.oN.length≤m∧Kz s.oJ
 exp:∀ x∈c.oD,x.oN.length≤m
theorem Cap.WW {m:Nat} {c:mZ} (k:Cap m c):Kt c:=⟨fun x hx=>(k.chunk x hx).2.2,fun s hs=>⟨(k.snap s hs).2.ids,(k.snap s hs).2.name,(k.snap s hs).2.path⟩⟩
theorem TU (l:List Loc) (hl:l.length≤1000000):I2 l=some l:=by
 unfold I2;rw [rl (by simp;omega)];rfl
theorem akP {m:Nat} (hm:m≤1000000) (l:List Chunk) (hl:l.length≤1000000) (h:∀ x∈l,Vp m x):Ci l=some l:=by
 unfold Ci;refine sy (S:=List Chunk × Int) (σ:=List Chunk) (fun i l=>(l,(i:Int))) l.length (fun i s=>s=l.take i) _ (i0:=0) (s0:=[]) rfl (pY _) rfl (by omega) ?_ ?_
 ·intro rec i s hi hI pq;simp only [Ci.l2];obtain ⟨h1,h2,_⟩:=h _ (qW hi);rw [oW (pH hi),pr hi,oA,Z6 _ (by omega),oA,TU _ (by omega),oA,rl (by rw [hI];simp;omega),oA,pt (by omega)];refine pq _ ?_;rw [hI,tN hi]
 ·intro rec s hI;simp only [Ci.l2,Ci.k1];rw [oX (pL (pS _)),hI,uf]
theorem Kz.akU {m:oP} (h:Kz m):Bw m=some m:=akR m (by have:=h.parts;omega) fun p hp=>by have:=h.zG p hp;omega
theorem ZY {m:Nat} {c:mZ} (k:Cap m c):xw c=some c:=by
 have hle:=k.le;have hs:=k.oB;have he:=k.oD;have hc:=k.chunks;have hv:=k.oK;unfold xw;refine sy (S:=List lU × Int) (σ:=List lU) (fun i l=>(l,(i:Int))) c.oB.length (fun i s=>s=c.oB.take i) _ (i0:=0) (s0:=[]) rfl (pY _) rfl (by omega) ?_ ?_
 ·intro rec i s hi hI pq;simp only [xw.l4];obtain ⟨h1,h2⟩:=k.snap _ (qW hi);rw [oW (pH hi),pr hi,oA,h2.akU,oA,TU _ (by omega),oA,rl (by rw [hI];simp;omega),oA,pt (by omega)];refine pq _ ?_;rw [hI,tN hi]
 ·intro rec s hI;simp only [xw.l4,xw.k1];rw [oX (pL (pS _)),hI,uf];refine sy (S:=List oC × Int) (σ:=List oC) (fun i l=>(l,(i:Int))) c.oD.length (fun i s=>s=c.oD.take i) _ (i0:=0) (s0:=[]) rfl (pY _) rfl (by omega) ?_ ?_
  ·intro rec i s hi hI pq;simp only [xw.l3];have h1:=k.exp _ (qW hi);rw [oW (pH hi),pr hi,oA,TU _ (by omega),oA,rl (by rw [hI];simp;omega),oA,pt (by omega)];refine pq _ ?_;rw [hI,tN hi]
  ·intro rec s hI;simp only [xw.l3,xw.k2];rw [oX (pL (pS _)),hI,uf,akP hle _ (by omega) k.chunk,oA,rl (by simp;omega)];rfl
end Go.Wk.Lf
end
section
namespace Go.Wk.Lf
open Go.V Go.Sort Go.Proofs
theorem ahL {m:Nat} {c:mZ} (h:wE c=true) (k:Cap m c):sV c=some (H0 c):=by
 obtain ⟨hv,⟨hc,_⟩,⟨LJ,_⟩,he,_⟩:=KI h;obtain ⟨q0,q1,qs,qe⟩:=V0 h;have tu:=k.chunks;have hle:=k.le;unfold sV;rw [ZY k,oA];refine sy (S:=Int × Int × List lU) (σ:=Unit) (fun i _=>((i:Int),((c.oB.take i).filter vL |>.map (·.seq)).foldl Dz 0,(c.oB.take i).filter vL)) c.oB.length (fun _ _=>True) _ (i0:=0) (s0:=()) rfl (pY _) trivial (by omega) ?_ ?_
 ·intro rec i _ hi _ pq;have h:=pq () trivial;have sG:=DJ vL (c.oB.take i);rw [rb] at sG;have hq:=qs _ (qW hi);rw [tN hi,GY] at h;simp only [sV.l7,sV.k8];rw [oW (pH hi),pr hi,oA,pt (by omega)]
  by_cases hs:vL c.oB[i]=true
  ·rw [PX hs,GZ,z6,MV] at h;rw [oW (by unfold vL at hs;simpa using hs),oA,rl (by simp;omega),oA,oA,rU (by omega) (by omega)];exact h
  ·rw [PW hs,GZ,vM] at h;rw [oX (by unfold vL at hs;simpa using hs)];exact h
 ·intro rec _ _;simp only [sV.l7];rw [oX (pL (pS _)),uf];unfold sV.k1;refine sy (S:=Int × List Chunk × List Chunk) (σ:=List Chunk) (fun i l=>((i:Int),((c.chunks.take i).filter xW).map Hg,l)) c.chunks.length (fun i l=>l.length=c.chunks.length∧l.drop i=c.chunks.drop i) _ (i0:=0) (s0:=c.chunks) rfl (pY _) ⟨rfl,rfl⟩ (by omega) ?_ ?_
  ·rintro rec i l hi ⟨hl,hd⟩ pq;have hx:l[i]? = some c.chunks[i]:=by
    have:=congrArg (fun q=>q[0]?) hd;simp only [vi,xM] at this;rw [this];exact pF hi
   have sG:=DJ xW (c.chunks.take i);rw [rb] at sG;have dr:∀ l2:List Chunk,l2.drop i=c.chunks.drop i→l2.drop (i+1)=c.chunks.drop (i+1):=fun l2 q=>by rw [← Bj,← Bj,q]
   simp only [sV.l5,sV.k6];rw [oW (pH (show i < l.length by omega)),xV hx,oA,pt (by omega)]
   by_cases hs:xW c.chunks[i]=true
   ·rw [oW (by unfold xW at hs;simpa using hs),oA,ry];rw [show ix (l.set i (Chunk.mk c.chunks[i].id false c.chunks[i].data c.chunks[i].oN)) (i:Int)=some (Chunk.mk c.chunks[i].id false c.chunks[i].data c.chunks[i].oN) from vN (by omega),oA,M0];rw [show ix (l.set i (Chunk.mk c.chunks[i].id false [] c.chunks[i].oN)) (i:Int)=some (Chunk.mk c.chunks[i].id false [] c.chunks[i].oN) from vN (by omega),oA,rl (by simp;omega),oA];have h:=pq (l.set i (Chunk.mk c.chunks[i].id false [] c.chunks[i].oN)) ⟨by simpa using hl,by rw [UG (by omega)];exact dr l hd⟩;rw [tN hi,GY,PX hs,GZ,z6] at h;exact h
   ·rw [oX (by unfold xW at hs;simpa using hs)];have h:=pq l ⟨hl,dr l hd⟩;rw [tN hi,GY,PW hs,GZ,vM] at h;exact h
  ·rintro rec l ⟨hl,_⟩;simp only [sV.l5];rw [oX (pL (by omega)),uf];unfold sV.k2;rw [Ay (S:=Int × Int) (σ:=Int) (fun i a=>((i:Int),a)) c.oD (fun a s=>Dz a s.seq) (fun a=>sV.k3 c (c.oB.filter vL) ((c.chunks.filter xW).map Hg) a) (fun _ _=>True) (i0:=0) (x0:=((0:Int),List.foldl Dz 0 (List.map (fun x=>x.seq) (List.filter vL c.oB)))) rfl (pY _) trivial (by omega) ?_ ?_]
   ·unfold sV.k3 H0;rw [yu,P0,P0]
   ·intro rec i a hi _;refine ⟨trivial,?_⟩;simp only [sV.l4];have:=qe _ (qW hi);rw [oW (pH hi),pr hi,oA,pt (by omega),rU (by omega) (by omega)];unfold Dz
    by_cases hh:a < c.oD[i].seq+1 <;> simp [hh]
   ·intro rec a _;simp only [sV.l4];rw [oX (pL (pS _))]
theorem aej (v:List oH) (l:List Found):Told (Ck v l) fun b=>b=false→v.length≤20∧l.length≤150 ∧ ∀ f∈l,f.oG.data.length≤3000:=by
 unfold Ck;refine Told.Gn (fun _=>Told.mk fun h=>by cases h) fun h=>?_;simp only [Io,decide_eq_false_iff_not] at h;have h1:v.length≤20:=by omega
 have h2:l.length≤150:=by omega
 refine Told.loop (S:=Int) (σ:=Unit) (fun i _=>(i:Int)) l.length (fun i _=>∀ j (h:j < l.length),j < i→l[j].oG.data.length≤3000) (i0:=0) (s0:=()) rfl (pY _) (fun j h q=>by omega) (by omega) ?_ ?_
 ·intro rec i _ hi hI pq;simp only [Ck.l2];rw [oW (pH hi),pr hi,oA,pt (by omega)];refine Told.Gn (fun _=>Told.mk fun h=>by cases h) fun hb=>pq () fun j hj Hy=>?_;rcases (by omega:j < i∨j=i) with q | rfl
  ·exact hI j hj q
  ·simp only [decide_eq_false_iff_not] at hb;omega
 ·intro rec _ hI;simp only [Ck.l2,Ck.k1];rw [oX (pL (pS _))];exact Told.mk fun _=>⟨h1,h2,fun f hf=>by obtain ⟨j,hj,rfl⟩:=vX hf;exact hI j hj hj⟩
theorem N6 {α:Type} {F:(Int→Option Bool)→Int→Option Bool} {p:Bool→Prop} (l:List α) (ok:α→Prop) (h1:p true) (hn:l.length≤1000) (sw:∀ rec (i:Nat) (hi:i < l.length),(ok l[i]→Told (rec ((i+1:Nat):Int)) p)→Told (F rec (i:Int)) p) (tv:(∀ x∈l,ok x) → ∀ rec,Told (F rec (l.length:Int)) p):Told (loop F 0) p:=by
 refine Told.loop (S:=Int) (σ:=Unit) (fun i _=>(i:Int)) l.length (fun i _=>∀ j (h:j < l.length),j < i→ok l[j]) (i0:=0) (s0:=()) rfl (pY _) (fun j h q=>by omega) (by omega) ?_ ?_
 ·intro rec i _ hi hI pq;refine sw rec i hi fun hk=>pq () fun j hj Hy=>?_;rcases (by omega:j < i∨j=i) with q | rfl
  ·exact hI j hj q
  ·exact hk
 ·intro rec _ hI;exact tv (fun x hx=>by obtain ⟨j,hj,rfl⟩:=vX hx;exact hI j hj hj) rec
structure U9 (c:mZ):Prop where
 id:∀ x∈c.chunks,x.id.length=32
 ids:∀ s∈c.oB,E9 s.oJ
theorem aeh (m:oP) (hk:E9 m):Told (Cj m) fun b=>b=false→Kz m:=by
 unfold Cj;refine Told.Gn (fun _=>Told.mk fun h=>by cases h) fun h=>?_;simp only [Io,decide_eq_false_iff_not] at h;refine N6 m.parts (fun p=>p.path.length≤100∧p.ids.length≤40) (fun h=>by cases h) (by omega) (fun rec i hi hr=>?_) fun ha rec=>?_
 ·simp only [Cj.l2];rw [oW (pH hi),pr hi,oA,uJ,oA,pt (by omega)];refine Told.Gn (fun _=>Told.mk fun h=>by cases h) fun hb=>hr ?_;simp only [Io,decide_eq_false_iff_not] at hb;rw [if_pos (by rw [decide_eq_false hb.1];rfl)] at hb;exact ⟨by omega,by omega⟩
 ·simp only [Cj.l2,Cj.k1];rw [oX (pL (pS _))];exact Told.mk fun _=>⟨hk,by omega,fun p hp=>by have:=(ha p hp).1;omega,by omega,fun p hp=>by have:=(ha p hp).2;omega⟩
theorem aei (c:mZ) (hT:U9 c):Told (uX c) fun b=>b=false→Cap 1000 c:=by
 unfold uX;refine Told.Gn (fun _=>Told.mk fun h=>by cases h) fun h=>?_;simp only [Io,decide_eq_false_iff_not] at h;obtain ⟨⟨⟨n1,n2⟩,n3⟩,n4⟩:=h;refine N6 c.oB (fun s=>Kz s.oJ∧s.oN.length≤220) (fun h=>by cases h) (by omega) (fun rec i hi hr=>?_) fun h1 rec=>?_
 ·simp only [uX.l6];rw [oW (pH hi),pr hi,oA,pt (by omega)];refine (aeh _ (hT.ids _ (qW hi))).bd fun b hb=>?_;rw [uJ,oA];refine Told.Gn (fun _=>Told.mk fun h=>by cases h) fun hc=>hr ?_;simp only [Io,decide_eq_false_iff_not] at hc;obtain ⟨rfl,hc⟩:=hc;rw [if_pos (show (!false)=true from rfl)] at hc;exact ⟨hb rfl,by omega⟩
 ·simp only [uX.l6];rw [oX (pL (pS _))];unfold uX.k1;refine N6 c.chunks (fun x=>x.data.length≤300∧x.oN.length≤220) (fun h=>by cases h) (by omega) (fun rec i hi hr=>?_) fun h2 rec=>?_
  ·simp only [uX.l5];rw [oW (pH hi),pr hi,oA,uJ,oA,pt (by omega)];refine Told.Gn (fun _=>Told.mk fun h=>by cases h) fun hb=>hr ?_;simp only [Io,decide_eq_false_iff_not] at hb;rw [if_pos (by rw [decide_eq_false hb.1];rfl)] at hb;exact ⟨by omega,by omega⟩
  ·simp only [uX.l5];rw [oX (pL (pS _))];unfold uX.k2;refine N6 c.oD (fun x=>x.oN.length≤220) (fun h=>by cases h) (by omega) (fun rec i hi hr=>?_) fun h3 rec=>?_
   ·simp only [uX.l4];rw [oW (pH hi),pr hi,oA,pt (by omega)];refine Told.Gn (fun _=>Told.mk fun h=>by cases h) fun hb=>hr ?_;simp only [decide_eq_false_iff_not] at hb;omega
   ·simp only [uX.l4,uX.k3];rw [oX (pL (pS _))];exact Told.mk fun _=>⟨by omega,by omega,by omega,by omega,by omega,fun x hx=>⟨by have:=(h2 x hx).2;omega,by have:=(h2 x hx).1;omega,hT.id x hx⟩,fun s hs=>⟨by have:=(h1 s hs).2;omega,(h1 s hs).1⟩,fun x hx=>by have:=h3 x hx;omega⟩
theorem abW {c:mZ} (k:Cap 1000 c):GF c:=by
 have hc:=k.chunks;have hs:=k.oB;have he:=k.oD;have hv:=k.oK;refine ⟨by omega,⟨by omega,fun x hx=>?_⟩,⟨by omega,fun s E4=>?_⟩,by omega,fun x hx=>?_⟩
 ·obtain ⟨h1,h2,_⟩:=k.chunk x hx;exact ⟨by omega,by omega⟩
 ·obtain ⟨h1,h2⟩:=k.snap s E4;have:=h2.parts;exact ⟨⟨by omega,fun p hp=>by have:=h2.zG p hp;omega⟩,by omega⟩
 ·have:=k.exp x hx;omega
theorem LS {c:mZ} (h:GF c):we c c=some true:=by rw [agv c c h,decide_eq_true (ajf c)]
theorem agF (r:tk) (h:r.data.length≤1073741824):NA r r=some true:=by
 unfold NA;rw [Ya _ _ h];simp [only,bd]
theorem ahM {c:mZ} (k:Cap 1000 c):xy.k2 c=some true:=by
 have hs:=abW k;unfold xy.k2;rw [ZY k,oA]
 by_cases h:wE c=true
 ·rw [aiV h,oA,LS hs,oA,oX (by simp),Tf _ k.WW,h,oA,oX (by rfl),ahL h k,oA,LS (ahP hs),oA,qA (by simp),aad,oA];simp
 ·have e:tY c=some (mZ.mk 0 [] [] [] []):=by
   obtain ⟨hv,⟨hc,_⟩,⟨LJ,_⟩,he,_⟩:=hs;unfold tY;rw [QZ _ hv hc LJ he,oA,if_neg h,oW (by decide)]
  have hb:wE c=false:=by simpa using h
  rw [e,oA,LS hs,oA,oX (by simp),Tf _ k.WW,hb,oA,oW (by rfl),LS ⟨pY _,⟨pY _,fun x hx=>by cases hx⟩,⟨pY _,fun x hx=>by cases hx⟩,pY _,fun x hx=>by cases hx⟩,oA,qA (by rfl),aad,oA];rfl
theorem ac7 (x0:List oH) (x1:List Found) (x2:mZ) (hq:∀ f∈x1,-9223372036854775808≤f.oG.seq) (hT:U9 x2):xy x0 x1 x2=some true:=by
 unfold xy;obtain ⟨b,e,hb⟩:=aej x0 x1;rw [e,oA];cases b with
 | true=>rw [te (by rfl),oA,oW (by rfl)]
 | false =>
  obtain ⟨h1,h2,h3⟩:=hb rfl;obtain ⟨b2,e2,wJ⟩:=aei x2 hT;rw [qA (by rfl),e2,oA];cases b2 with
  | true=>rw [oW (by rfl)]
  | false =>
   have hk:=wJ rfl;rw [oX (by rfl),rl (by simp;omega),oA,zw];refine sy (S:=List Found × Int) (σ:=Unit) (fun i _=>(x1.take i,(i:Int))) x1.length (fun _ _=>True) _ (i0:=0) (s0:=()) rfl (pY _) trivial (by omega) ?_ ?_
   ·intro rec i _ hi _ pq;have h:=pq () trivial;rw [tN hi] at h;simp only [xy.l4];rw [oW (pH hi),pr hi,oA,Z6 _ (by have:=h3 _ (qW hi);omega),oA,rl (by simp;omega),oA,pt (by omega)];exact h
   ·intro rec _ _;simp only [xy.l4];rw [oX (pL (pS _)),uf];obtain ⟨r,r1,r2,r3,r4⟩:=adr x0 x1 (by omega) (by omega) fun f hf=>⟨by have:=h3 f hf;omega,hq f hf⟩
    unfold xy.k1;rw [r1,oA,r2,oA,qA (by simp),LS r3,oA,qA (by simp),Yh _ _ (by omega),decide_eq_true rfl,oA,oX (by simp)];rw [show NC r.1=some () from if_pos (qB.2 fun x hx=>by rw [r4 x hx];rfl),oA];refine sy (S:=Int) (σ:=Unit) (fun i _=>(i:Int)) x1.length (fun _ _=>True) _ (i0:=0) (s0:=()) rfl (pY _) trivial (by omega) ?_ ?_
    ·intro rec i _ hi _ pq;simp only [xy.l3];rw [oW (pH hi),pr hi,oA,oA,agF _ (by have:=h3 _ (qW hi);omega),oA,qA (by rfl),oA,oA,qA (by rfl),SA,decide_eq_true rfl,oA,oX (by rfl),pt (by omega)];exact pq () trivial
    ·intro rec _ _;simp only [xy.l3];rw [oX (pL (pS _))];exact ahM hk
end Go.Wk.Lf
end
section
namespace Go.V
open Go.RowKit Go.ChangeShapes Go.WideShapes Go.Deep
section
variable {H:Type} {enc:oI × oT→H} {P:oZ} {w:pf}
theorem akZ {e:oI} (he:P.underlying e=some (.int .u8)) {fuel:Nat} {cs:List oT} {x:DataW H × List Fw} (h:DataW.trod enc P w 0 (fun _=>true) true fuel e cs=some x):∃ b:UInt8,cs=[.int .u8 (b.toNat:Int)]:=by
 have:∃ n,cs=[.int .u8 n]∧(Lit.int .u8 n).wf=true:=by
  cases fuel with
  | zero=>simp [DataW.trod] at h
  | succ m =>
   unfold DataW.trod at h;rw [he] at h
   split at h <;> simp_all
 obtain ⟨n,rfl,hw⟩:=this;have hx:0≤n∧n≤255:=by simpa [Lit.wf,IntKind.min,IntKind.max,IntKind.signed,IntKind.bits] using hw
 refine ⟨UInt8.ofNat n.toNat,?_⟩;simp only [UInt8.toNat_ofNat']
 congr 2
 omega
theorem Wo (cs:List oT):∀ n:Nat,(∀ i,i < n → ∃ b:UInt8,cs[i]? = some (.int .u8 (b.toNat:Int))) → ∃ x:List UInt8,x.length=n ∧ ∀ (i:Nat) (b:UInt8),x[i]? = some b→cs[i]? = some (.int .u8 (b.toNat:Int))
 | 0,_=>⟨[],rfl,fun i b h=>by simp at h⟩
 | n+1,h=>by
  obtain ⟨x,h1,h2⟩:=Wo cs n fun i hi=>h i (by omega);obtain ⟨b,hb⟩:=h n (Nat.lt_succ_self n);refine ⟨x++[b],by simp [h1],fun i c hc=>?_⟩;rcases Nat.lt_trichotomy i n with hi | hi | hi
  ·rw [List.getElem?_append_left (by omega)] at hc;exact h2 i c hc
  ·subst hi;rw [s7 (by omega),h1,Qd] at hc;obtain rfl:=oQ hc;exact hb
  ·rw [zr (by simp;omega)] at hc;cases hc
theorem YD {T e:oI} (ht:P.underlying T=some (.array 32 e)) (he:P.underlying e=some (.int .u8)) (hc:P.cellsOf e=1) (hT:P.cellsOf T=32):vO enc P w T rX (fun x=>x.length=32):=by
 intro fuel cs x h ρ hp r hb;obtain ⟨xs,m,_,rfl,hl,hlen,hx⟩:=DataW.trod_array ht h;rw [hT] at hl;obtain ⟨y,hy,hyc⟩:=Wo cs 32 fun i hi=>by
  have h1:=hx i hi;rw [hc,Nat.mul_one] at h1;have Si:i < xs.length:=by omega
  rw [pF Si] at h1;obtain ⟨b,pP⟩:=akZ he h1;refine ⟨b,?_⟩;have:((cs.drop i).take 1)[0]? = cs[i]?:=by simp
  rw [← this,pP];rfl
 refine ⟨ρ,hp,pb y,y,r,hb,Ren.le.refl _,jL.le.refl _,⟨by rw [Cy,hl],fun j u u' h1 h2=>?_⟩,⟨rfl,hy⟩,hy⟩;rw [Gk hy,xh] at h1;obtain ⟨b,wh,rfl⟩:=pU.1 h1;rw [hyc j b wh] at h2;obtain rfl:=oQ h2;exact .i _ _
theorem aa7 {base:Nat} {T:oI} {fs:Array CQ} {α:Type} {t:Tr α} {ok:α→Prop} {v:oT} {d:DataW H} {ps:List Fw} (ht:P.underlying T=some (.struct fs)) (D2:Value.okWide P w .any base T v) (ho:vO enc P w T t ok) (h:DataW.Trod enc P w 0 (fun _=>true) true T v d ps) {ρ:Ren} {hp:Hp} (r:Rel ρ hp w) (hb:xj hp) :
  ∃ ρ' h' vs a,Rel ρ' h' w∧xj h' ∧ ρ.le ρ' ∧ jL.le (qH hp) (qH h')∧VR ρ' (.agg vs) v∧t.rel (qH h') vs a∧ok a:=by
 obtain ⟨cs,rfl,_⟩:=okWide_struct ht D2;obtain ⟨ρ',h',vs,x,h1,h2,h3,h4,h5,h6,h7⟩:=VF (base:=base) ho h r hb;have h5:pj ρ' vs cs.toList:=h5;exact ⟨ρ',h',vs,x,h1,h2,h3,h4,by have:=VR.agg (ρ:=ρ') h5.1 h5.2;simpa using this,h6,h7⟩
end
structure RM (α:Type) where
 rel:jL→List jD→α→Prop
 mono:∀ {F G vs a},jL.le F G→rel F vs a→rel G vs a
def RM.nil:RM Unit:=⟨fun _ vs _=>vs=[],fun _ h=>h⟩
def RM.cons {α β:Type} (t:Tr α) (r:RM β):RM (α × β):=⟨fun F vs p=>∃ v1 v2,vs=v1++v2∧t.rel F v1 p.1∧r.rel F v2 p.2,fun l ⟨v1,v2,e,h1,h2⟩=>⟨v1,v2,e,t.mono l h1,r.mono l h2⟩⟩
section
variable {H:Type} {enc:oI × oT→H} {P:oZ} {w:pf}
def IJ {α:Type} (enc:oI × oT→H) (P:oZ) (w:pf) (fs:Array CQ) (n i off:Nat) (r:RM α) (ok:α→Prop):Prop :=
 ∀ fuel (cs:List oT) (xs:List (DataW H × List Fw)),cs.length=n→xs.length=fs.size→(∀ (i:Nat) (f:CQ),fs[i]? = some f→DataW.trod enc P w 0 (fun _=>true) true fuel f.type ((cs.drop f.offset).take (P.cellsOf f.type))=xs[i]?) →
  ∀ ρ h,Rel ρ h w→xj h → ∃ ρ' h' vs a,Rel ρ' h' w∧xj h' ∧ ρ.le ρ' ∧ jL.le (qH h) (qH h')∧pj ρ' vs (cs.drop off)∧r.rel (qH h') vs a∧ok a
theorem IJ.nil {fs:Array CQ} {n i off:Nat} (h:n≤off):IJ enc P w fs n i off RM.nil fun _=>True:=fun fuel cs xs h1 h2 h3 ρ hp r hb =>
 ⟨ρ,hp,[],(),r,hb,Ren.le.refl _,jL.le.refl _,by rw [Fy (by omega)];exact pj.nil,rfl,trivial⟩
theorem IJ.cons {α β:Type} {fs:Array CQ} {n i off t:Nat} {tr:Tr α} {ok:α→Prop} {r:RM β} {Yz:β→Prop} (hf:(fs[i]?.map fun f=>(f.type,f.offset))=some (t,off)) (hs:P.cellsOf t=tr.size) (ho:vO enc P w t tr ok) (k:IJ enc P w fs n (i+1) (off+tr.size) r Yz):IJ enc P w fs n i off (RM.cons tr r) fun p=>ok p.1∧Yz p.2:=fun fuel cs xs h1 h2 h3 ρ hp hr hb=>by
 obtain ⟨fd,ea,eb⟩:=pU.1 hf;injection eb with eb ec;have g:=h3 i fd ea;rw [eb,ec,hs,pF (by rw [h2];exact (Array.getElem?_eq_some_iff.1 ea).1)] at g;obtain ⟨Fo,m1,v1,a1,r1,b1,l1,f1,y1,t1,k1⟩:=ho _ _ _ g _ _ hr hb;obtain ⟨Fp,m2,v2,a2,r2,b2,l2,f2,y2,t2,k2⟩:=k fuel cs xs h1 h2 h3 _ _ r1 b1;refine ⟨Fp,m2,v1++v2,(a1,a2),r2,b2,l1.trans l2,f1.trans f2,?_,⟨v1,v2,rfl,tr.mono f2 t1,t2⟩,k1,k2⟩;have:=(y1.mono l2).append y2;rw [← Bj,z8] at this;exact this
theorem Ea {α β:Type} {T:oI} {fs:Array CQ} {n:Nat} {tr:Tr β} {YA:β→Prop} {r:RM α} {ok:α→Prop} (hu:P.underlying T=some (.struct fs)) (hz:P.cellsOf T=n) (k:IJ enc P w fs n 0 0 r ok) (g:α→β) (hg:∀ F vs a,r.rel F vs a→tr.rel F vs (g a)) (hk:∀ a,ok a→YA (g a)):vO enc P w T tr YA:=by
 intro fuel cs x h ρ hp hr hb;obtain ⟨xs,m,_,rfl,hl,hlen,hf⟩:=DataW.trod_struct hu h;obtain ⟨Fp,m2,v2,a2,r2,b2,l2,f2,y2,t2,k2⟩:=k m cs xs (by rw [hl,hz]) hlen hf _ _ hr hb;exact ⟨Fp,m2,v2,g a2,r2,b2,l2,f2,y2,hg _ _ _ t2,hk _ k2⟩
end
end Go.V
end
section
namespace Go.Wk.Lf
open Go.V Go.Proofs
end Go.Wk.Lf
namespace Go.Wk.Lf
open Go.V Go.RowKit Go.ChangeShapes Go.WideShapes Go.Deep
def oH.ok (x:oH):Prop:=zf x.AD∧zf x.Af∧zf x.state∧zf x.files
theorem YC {H:Type} {enc:oI × oT→H} {w:pf}:vO enc aac w 90 oH.t oH.ok:=Ea (n:=4) (by kernel_rfl:aac.underlying 90=some (.struct (aac.fieldsOf 90))) (by kernel_rfl) (.cons (t:=3) (by kernel_rfl) (by kernel_rfl) (Az abD) (.cons (t:=3) (by kernel_rfl) (by kernel_rfl) (Az abD) (.cons (t:=3) (by kernel_rfl) (by kernel_rfl) (Az abD) (.cons (t:=3) (by kernel_rfl) (by kernel_rfl) (Az abD) (.nil (by decide)))))) (fun p=>oH.mk p.1 p.2.1 p.2.2.1 p.2.2.2.1) (by rintro F vs ⟨a0,a1,a2,a3,_⟩ ⟨_,_,rfl,rfl,⟨_,_,rfl,rfl,⟨_,_,rfl,rfl,⟨_,_,rfl,rfl,rfl⟩⟩⟩⟩;exact rfl) (fun p h=>⟨h.1,h.2.1,h.2.2.1,h.2.2.2.1⟩)
def tk.ok (x:tk):Prop:=zf x.kind∧zf x.seq∧(yM L6) x.data
theorem ahB {H:Type} {enc:oI × oT→H} {w:pf}:vO enc aac w 33 tk.t tk.ok:=Ea (n:=3) (by kernel_rfl:aac.underlying 33=some (.struct (aac.fieldsOf 33))) (by kernel_rfl) (.cons (t:=3) (by kernel_rfl) (by kernel_rfl) (Az abD) (.cons (t:=3) (by kernel_rfl) (by kernel_rfl) (Az abD) (.cons (t:=31) (by kernel_rfl) (by kernel_rfl) (A7 aba (by kernel_rfl) (YF acP)) (.nil (by decide))))) (fun p=>tk.mk p.1 p.2.1 p.2.2.1) (by rintro F vs ⟨a0,a1,a2,_⟩ ⟨_,_,rfl,rfl,⟨_,_,rfl,rfl,⟨_,_,rfl,⟨u2,rfl,s2⟩,rfl⟩⟩⟩;exact ⟨u2,rfl,s2⟩) (fun p h=>⟨h.1,h.2.1,h.2.2.1⟩)
def Loc.ok (x:Loc):Prop:=zf x.pE∧zf x.file∧zf x.off∧zf x.len
theorem OK {H:Type} {enc:oI × oT→H} {w:pf}:vO enc aac w 35 Loc.t Loc.ok:=Ea (n:=4) (by kernel_rfl:aac.underlying 35=some (.struct (aac.fieldsOf 35))) (by kernel_rfl) (.cons (t:=3) (by kernel_rfl) (by kernel_rfl) (Az abD) (.cons (t:=3) (by kernel_rfl) (by kernel_rfl) (Az abD) (.cons (t:=3) (by kernel_rfl) (by kernel_rfl) (Az abD) (.cons (t:=3) (by kernel_rfl) (by kernel_rfl) (Az abD) (.nil (by decide)))))) (fun p=>Loc.mk p.1 p.2.1 p.2.2.1 p.2.2.2.1) (by rintro F vs ⟨a0,a1,a2,a3,_⟩ ⟨_,_,rfl,rfl,⟨_,_,rfl,rfl,⟨_,_,rfl,rfl,⟨_,_,rfl,rfl,rfl⟩⟩⟩⟩;exact rfl) (fun p h=>⟨h.1,h.2.1,h.2.2.1,h.2.2.2.1⟩)
def Found.ok (x:Found):Prop:=tk.ok x.oG∧Loc.ok x.loc
theorem ahy {H:Type} {enc:oI × oT→H} {w:pf}:vO enc aac w 37 Found.t Found.ok:=Ea (n:=7) (by kernel_rfl:aac.underlying 37=some (.struct (aac.fieldsOf 37))) (by kernel_rfl) (.cons (t:=33) (by kernel_rfl) (by kernel_rfl) ahB (.cons (t:=35) (by kernel_rfl) (by kernel_rfl) OK (.nil (by decide)))) (fun p=>Found.mk p.1 p.2.1) (by rintro F vs ⟨a0,a1,_⟩ ⟨_,_,rfl,⟨akW,rfl,ai8⟩,⟨_,_,rfl,rfl,rfl⟩⟩;exact ⟨akW,rfl,ai8⟩) (fun p h=>⟨h.1,h.2.1⟩)
def Part.ok (x:Part):Prop:=(fun s:List UInt8=>s.length≤maxLen) x.path∧zf x.size∧(yM (fun x:List UInt8=>x.length=32)) x.ids
theorem ahA {H:Type} {enc:oI × oT→H} {w:pf}:vO enc aac w 136 Part.t Part.ok:=Ea (n:=3) (by kernel_rfl:aac.underlying 136=some (.struct (aac.fieldsOf 136))) (by kernel_rfl) (.cons (t:=9) (by kernel_rfl) (by kernel_rfl) (YE acZ) (.cons (t:=3) (by kernel_rfl) (by kernel_rfl) (Az abD) (.cons (t:=109) (by kernel_rfl) (by kernel_rfl) (A7 acv (by kernel_rfl) (YD acY acP (by kernel_rfl) (by kernel_rfl))) (.nil (by decide))))) (fun p=>Part.mk p.1 p.2.1 p.2.2.1) (by rintro F vs ⟨a0,a1,a2,_⟩ ⟨_,_,rfl,rfl,⟨_,_,rfl,rfl,⟨_,_,rfl,⟨u2,rfl,s2⟩,rfl⟩⟩⟩;exact ⟨u2,rfl,s2⟩) (fun p h=>⟨h.1,h.2.1,h.2.2.1⟩)
def oP.ok (x:oP):Prop:=(fun s:List UInt8=>s.length≤maxLen) x.name∧(yM Part.ok) x.parts
theorem ahz {H:Type} {enc:oI × oT→H} {w:pf}:vO enc aac w 58 oP.t oP.ok:=Ea (n:=2) (by kernel_rfl:aac.underlying 58=some (.struct (aac.fieldsOf 58))) (by kernel_rfl) (.cons (t:=9) (by kernel_rfl) (by kernel_rfl) (YE acZ) (.cons (t:=56) (by kernel_rfl) (by kernel_rfl) (A7 adz (by kernel_rfl) ahA) (.nil (by decide)))) (fun p=>oP.mk p.1 p.2.1) (by rintro F vs ⟨a0,a1,_⟩ ⟨_,_,rfl,rfl,⟨_,_,rfl,⟨u1,rfl,s1⟩,rfl⟩⟩;exact ⟨u1,rfl,s1⟩) (fun p h=>⟨h.1,h.2.1⟩)
def lU.ok (x:lU):Prop:=zf x.seq∧oP.ok x.oJ∧(yM Loc.ok) x.oN
theorem ahC {H:Type} {enc:oI × oT→H} {w:pf}:vO enc aac w 61 lU.t lU.ok:=Ea (n:=4) (by kernel_rfl:aac.underlying 61=some (.struct (aac.fieldsOf 61))) (by kernel_rfl) (.cons (t:=3) (by kernel_rfl) (by kernel_rfl) (Az abD) (.cons (t:=58) (by kernel_rfl) (by kernel_rfl) ahz (.cons (t:=59) (by kernel_rfl) (by kernel_rfl) (A7 aaT (by kernel_rfl) OK) (.nil (by decide))))) (fun p=>lU.mk p.1 p.2.1 p.2.2.1) (by rintro F vs ⟨a0,a1,a2,_⟩ ⟨_,_,rfl,rfl,⟨_,_,rfl,⟨akX,rfl,ai9⟩,⟨_,_,rfl,⟨u2,rfl,s2⟩,rfl⟩⟩⟩;exact ⟨akX,u2,rfl,ai9,s2⟩) (fun p h=>⟨h.1,h.2.1,h.2.2.1⟩)
def Chunk.ok (x:Chunk):Prop:=(fun x:List UInt8=>x.length=32) x.id∧L6 x.pX∧(yM L6) x.data∧(yM Loc.ok) x.oN
theorem ahw {H:Type} {enc:oI × oT→H} {w:pf}:vO enc aac w 84 Chunk.t Chunk.ok:=Ea (n:=35) (by kernel_rfl:aac.underlying 84=some (.struct (aac.fieldsOf 84))) (by kernel_rfl) (.cons (t:=82) (by kernel_rfl) (by kernel_rfl) (YD acY acP (by kernel_rfl) (by kernel_rfl)) (.cons (t:=4) (by kernel_rfl) (by kernel_rfl) (ahD adE) (.cons (t:=31) (by kernel_rfl) (by kernel_rfl) (A7 aba (by kernel_rfl) (YF acP)) (.cons (t:=59) (by kernel_rfl) (by kernel_rfl) (A7 aaT (by kernel_rfl) OK) (.nil (by decide)))))) (fun p=>Chunk.mk p.1 p.2.1 p.2.2.1 p.2.2.2.1) (by rintro F vs ⟨a0,a1,a2,a3,_⟩ ⟨_,_,rfl,⟨rfl,l0⟩,⟨_,_,rfl,rfl,⟨_,_,rfl,⟨u2,rfl,s2⟩,⟨_,_,rfl,⟨u3,rfl,s3⟩,rfl⟩⟩⟩⟩;exact ⟨u2,u3,rfl,l0,s2,s3⟩) (fun p h=>⟨h.1,h.2.1,h.2.2.1,h.2.2.2.1⟩)
def oC.ok (x:oC):Prop:=zf x.seq∧zf x.of∧(yM Loc.ok) x.oN
theorem ahx {H:Type} {enc:oI × oT→H} {w:pf}:vO enc aac w 92 oC.t oC.ok:=Ea (n:=3) (by kernel_rfl:aac.underlying 92=some (.struct (aac.fieldsOf 92))) (by kernel_rfl) (.cons (t:=3) (by kernel_rfl) (by kernel_rfl) (Az abD) (.cons (t:=3) (by kernel_rfl) (by kernel_rfl) (Az abD) (.cons (t:=59) (by kernel_rfl) (by kernel_rfl) (A7 aaT (by kernel_rfl) OK) (.nil (by decide))))) (fun p=>oC.mk p.1 p.2.1 p.2.2.1) (by rintro F vs ⟨a0,a1,a2,_⟩ ⟨_,_,rfl,rfl,⟨_,_,rfl,rfl,⟨_,_,rfl,⟨u2,rfl,s2⟩,rfl⟩⟩⟩;exact ⟨u2,rfl,s2⟩) (fun p h=>⟨h.1,h.2.1,h.2.2.1⟩)
def mZ.ok (x:mZ):Prop:=zf x.seq∧(yM lU.ok) x.oB∧(yM Chunk.ok) x.chunks∧(yM oC.ok) x.oD∧(yM oH.ok) x.oK
theorem ahv {H:Type} {enc:oI × oT→H} {w:pf}:vO enc aac w 28 mZ.t mZ.ok:=Ea (n:=5) (by kernel_rfl:aac.underlying 28=some (.struct (aac.fieldsOf 28))) (by kernel_rfl) (.cons (t:=3) (by kernel_rfl) (by kernel_rfl) (Az abD) (.cons (t:=24) (by kernel_rfl) (by kernel_rfl) (A7 aam (by kernel_rfl) ahC) (.cons (t:=25) (by kernel_rfl) (by kernel_rfl) (A7 aaE (by kernel_rfl) ahw) (.cons (t:=26) (by kernel_rfl) (by kernel_rfl) (A7 aaF (by kernel_rfl) ahx) (.cons (t:=22) (by kernel_rfl) (by kernel_rfl) (A7 adB (by kernel_rfl) YC) (.nil (by decide))))))) (fun p=>mZ.mk p.1 p.2.1 p.2.2.1 p.2.2.2.1 p.2.2.2.2.1) (by rintro F vs ⟨a0,a1,a2,a3,a4,_⟩ ⟨_,_,rfl,rfl,⟨_,_,rfl,⟨u1,rfl,s1⟩,⟨_,_,rfl,⟨u2,rfl,s2⟩,⟨_,_,rfl,⟨u3,rfl,s3⟩,⟨_,_,rfl,⟨u4,rfl,s4⟩,rfl⟩⟩⟩⟩⟩;exact ⟨u1,u2,u3,u4,rfl,s1,s2,s3,s4⟩) (fun p h=>⟨h.1,h.2.1,h.2.2.1,h.2.2.2.1,h.2.2.2.2.1⟩)
end Go.Wk.Lf
end
section
namespace Go.Wk.Lf
open Go.V
theorem ac6 (x0:List oH) (x1:List Found) (x2:mZ) (k0:yM oH.ok x0) (k1:yM Found.ok x1) (k2:mZ.ok x2):xy x0 x1 x2=some true :=
 ac7 x0 x1 x2 (fun f hf=>(k1.2 f hf).1.2.1.1) ⟨fun x hx=>(k2.2.2.1.2 x hx).1,fun s hs p hp=>(((k2.2.1.2 s hs).2.1.2).2 p hp).2.2.2⟩
end Go.Wk.Lf
end
section
namespace Go.Wk.Lf
open Go.V Go.Proofs
end Go.Wk.Lf
namespace Go.Proofs
open Go.Shelf
def Tryz.akw:Go.Shelf.Ren:=⟨fun | 6=>96 | 15=>149 | 14=>148 | 28=>179 | 29=>180 | 20=>171 | 21=>172 | 22=>173 | 23=>174 | 24=>175 | 25=>176 | 26=>177 | 27=>178 | 46=>186 | 47=>187 | 48=>188 | 49=>189 | 50=>190 | 57=>199 | n=>n,fun | 22=>59 | 24=>35 | 25=>158 | 3=>3 | 39=>78 | 0=>0 | 53=>163 | 55=>194 | 4=>4 | 46=>229 | 45=>228 | 50=>142 | 5=>5 | 9=>9 | 66=>240 | 70=>244 | 76=>251 | 77=>252 | n=>n,fun | n=>n⟩
theorem Tryz.aku:Go.Proofs.SlLaysF0.n6 aac Tryz.akw:={
  mixed:=by kernel_rfl
  f6:=⟨Tryz.f96.name,by decide,Tryz.func96.trans (congrArg some (by kernel_rfl))⟩
  f14:=⟨Tryz.f148.name,by decide,Tryz.func148.trans (congrArg some (by kernel_rfl))⟩
  f15:=Tryz.func149.trans (congrArg some (by kernel_rfl))
  f20:=⟨Tryz.f171.name,by decide,Tryz.func171.trans (congrArg some (by kernel_rfl))⟩
  f21:=⟨Tryz.f172.name,by decide,Tryz.func172.trans (congrArg some (by kernel_rfl))⟩
  f22:=⟨Tryz.f173.name,by decide,Tryz.func173.trans (congrArg some (by kernel_rfl))⟩
  f23:=⟨Tryz.f174.name,by decide,Tryz.func174.trans (congrArg some (by kernel_rfl))⟩
  f24:=⟨Tryz.f175.name,by decide,Tryz.func175.trans (congrArg some (by kernel_rfl))⟩
  f25:=⟨Tryz.f176.name,by decide,Tryz.func176.trans (congrArg some (by kernel_rfl))⟩
  f26:=⟨Tryz.f177.name,by decide,Tryz.func177.trans (congrArg some (by kernel_rfl))⟩
  f27:=⟨Tryz.f178.name,by decide,Tryz.func178.trans (congrArg some (by kernel_rfl))⟩
  f28:=Tryz.func179.trans (congrArg some (by kernel_rfl))
  f29:=Tryz.func180.trans (congrArg some (by kernel_rfl))
  f46:=⟨Tryz.f186.name,by decide,Tryz.func186.trans (congrArg some (by kernel_rfl))⟩
  f47:=Tryz.func187.trans (congrArg some (by kernel_rfl))
  f48:=Tryz.func188.trans (congrArg some (by kernel_rfl))
  f49:=⟨Tryz.f189.name,by decide,Tryz.func189.trans (congrArg some (by kernel_rfl))⟩
  f50:=⟨Tryz.f190.name,by decide,Tryz.func190.trans (congrArg some (by kernel_rfl))⟩
  f57:=⟨Tryz.f199.name,by decide,Tryz.func199.trans (congrArg some (by kernel_rfl))⟩
  t0:=Tryz.underlying0
  a0:=Tryz.isAgg0
  z0:=Tryz.sizeOf0
  v0:=Tryz.zeroValue0
  t3:=abD
  a3:=Tryz.isAgg3
  z3:=Tryz.sizeOf3
  v3:=Tryz.zeroValue3
  t4:=adE
  a4:=Tryz.isAgg4
  z4:=Tryz.sizeOf4
  v4:=Tryz.zeroValue4
  t5:=acP
  a5:=Tryz.isAgg5
  z5:=Tryz.sizeOf5
  v5:=Tryz.zeroValue5
  t9:=acZ
  a9:=Tryz.isAgg9
  z9:=Tryz.sizeOf9
  v9:=Tryz.zeroValue9
  t22:=aaT
  a22:=Tryz.isAgg59
  z22:=Tryz.sizeOf59
  v22:=Tryz.zeroValue59
  t25:=Tryz.underlying158
  a25:=Tryz.isAgg158
  z25:=Tryz.sizeOf158
  v25:=Tryz.zeroValue158
  t39:=adA
  a39:=Tryz.isAgg78
  z39:=Tryz.sizeOf78
  v39:=Tryz.zeroValue78
  t45:=Tryz.underlying228
  a45:=Tryz.isAgg228
  z45:=Tryz.sizeOf228
  v45:=Tryz.zeroValue228
  t46:=Tryz.underlying229
  a46:=Tryz.isAgg229
  z46:=Tryz.sizeOf229
  v46:=Tryz.zeroValue229
  t50:=Tryz.underlying142
  a50:=Tryz.isAgg142
  z50:=Tryz.sizeOf142
  v50:=Tryz.zeroValue142
  t53:=adG
  a53:=Tryz.isAgg163
  z53:=Tryz.sizeOf163
  v53:=Tryz.zeroValue163
  t55:=adD
  a55:=Tryz.isAgg194
  z55:=Tryz.sizeOf194
  v55:=Tryz.zeroValue194
  t66:=Tryz.underlying240
  a66:=Tryz.isAgg240
  z66:=Tryz.sizeOf240
  v66:=Tryz.zeroValue240
  t70:=Tryz.underlying244
  a70:=Tryz.isAgg244
  z70:=Tryz.sizeOf244
  v70:=Tryz.zeroValue244
  t76:=Tryz.underlying251
  a76:=Tryz.isAgg251
  z76:=Tryz.sizeOf251
  v76:=Tryz.zeroValue251
  t77:=Tryz.underlying252
  a77:=Tryz.isAgg252
  z77:=Tryz.sizeOf252
  v77:=Tryz.zeroValue252 }
def Tryz.akt:Go.Shelf.Ren:=⟨fun | 6=>168 | 15=>149 | 14=>185 | 28=>179 | 29=>180 | 20=>191 | 21=>192 | 22=>193 | 23=>194 | 24=>195 | 25=>196 | 26=>197 | 27=>198 | 46=>200 | 47=>187 | 48=>188 | 49=>201 | 50=>202 | 57=>203 | n=>n,fun | 22=>109 | 24=>82 | 25=>187 | 3=>3 | 39=>78 | 0=>0 | 53=>163 | 55=>194 | 4=>4 | 46=>229 | 45=>228 | 50=>142 | 5=>5 | 9=>9 | 66=>240 | 70=>244 | 76=>251 | 77=>252 | n=>n,fun | n=>n⟩
theorem Tryz.akr:Go.Proofs.SlLaysF0.n6 aac Tryz.akt:={
  mixed:=by kernel_rfl
  f6:=⟨Tryz.f168.name,by decide,Tryz.func168.trans (congrArg some (by kernel_rfl))⟩
  f14:=⟨Tryz.f185.name,by decide,Tryz.func185.trans (congrArg some (by kernel_rfl))⟩
  f15:=Tryz.func149.trans (congrArg some (by kernel_rfl))
  f20:=⟨Tryz.f191.name,by decide,Tryz.func191.trans (congrArg some (by kernel_rfl))⟩
  f21:=⟨Tryz.f192.name,by decide,Tryz.func192.trans (congrArg some (by kernel_rfl))⟩
  f22:=⟨Tryz.f193.name,by decide,Tryz.func193.trans (congrArg some (by kernel_rfl))⟩
  f23:=⟨Tryz.f194.name,by decide,Tryz.func194.trans (congrArg some (by kernel_rfl))⟩
  f24:=⟨Tryz.f195.name,by decide,Tryz.func195.trans (congrArg some (by kernel_rfl))⟩
  f25:=⟨Tryz.f196.name,by decide,Tryz.func196.trans (congrArg some (by kernel_rfl))⟩
  f26:=⟨Tryz.f197.name,by decide,Tryz.func197.trans (congrArg some (by kernel_rfl))⟩
  f27:=⟨Tryz.f198.name,by decide,Tryz.func198.trans (congrArg some (by kernel_rfl))⟩
  f28:=Tryz.func179.trans (congrArg some (by kernel_rfl))
  f29:=Tryz.func180.trans (congrArg some (by kernel_rfl))
  f46:=⟨Tryz.f200.name,by decide,Tryz.func200.trans (congrArg some (by kernel_rfl))⟩
  f47:=Tryz.func187.trans (congrArg some (by kernel_rfl))
  f48:=Tryz.func188.trans (congrArg some (by kernel_rfl))
  f49:=⟨Tryz.f201.name,by decide,Tryz.func201.trans (congrArg some (by kernel_rfl))⟩
  f50:=⟨Tryz.f202.name,by decide,Tryz.func202.trans (congrArg some (by kernel_rfl))⟩
  f57:=⟨Tryz.f203.name,by decide,Tryz.func203.trans (congrArg some (by kernel_rfl))⟩
  t0:=Tryz.underlying0
  a0:=Tryz.isAgg0
  z0:=Tryz.sizeOf0
  v0:=Tryz.zeroValue0
  t3:=abD
  a3:=Tryz.isAgg3
  z3:=Tryz.sizeOf3
  v3:=Tryz.zeroValue3
  t4:=adE
  a4:=Tryz.isAgg4
  z4:=Tryz.sizeOf4
  v4:=Tryz.zeroValue4
  t5:=acP
  a5:=Tryz.isAgg5
  z5:=Tryz.sizeOf5
  v5:=Tryz.zeroValue5
  t9:=acZ
  a9:=Tryz.isAgg9
  z9:=Tryz.sizeOf9
  v9:=Tryz.zeroValue9
  t22:=acv
  a22:=Tryz.isAgg109
  z22:=Tryz.sizeOf109
  v22:=Tryz.zeroValue109
  t25:=Tryz.underlying187
  a25:=Tryz.isAgg187
  z25:=Tryz.sizeOf187
  v25:=Tryz.zeroValue187
  t39:=adA
  a39:=Tryz.isAgg78
  z39:=Tryz.sizeOf78
  v39:=Tryz.zeroValue78
  t45:=Tryz.underlying228
  a45:=Tryz.isAgg228
  z45:=Tryz.sizeOf228
  v45:=Tryz.zeroValue228
  t46:=Tryz.underlying229
  a46:=Tryz.isAgg229
  z46:=Tryz.sizeOf229
  v46:=Tryz.zeroValue229
  t50:=Tryz.underlying142
  a50:=Tryz.isAgg142
  z50:=Tryz.sizeOf142
  v50:=Tryz.zeroValue142
  t53:=adG
  a53:=Tryz.isAgg163
  z53:=Tryz.sizeOf163
  v53:=Tryz.zeroValue163
  t55:=adD
  a55:=Tryz.isAgg194
  z55:=Tryz.sizeOf194
  v55:=Tryz.zeroValue194
  t66:=Tryz.underlying240
  a66:=Tryz.isAgg240
  z66:=Tryz.sizeOf240
  v66:=Tryz.zeroValue240
  t70:=Tryz.underlying244
  a70:=Tryz.isAgg244
  z70:=Tryz.sizeOf244
  v70:=Tryz.zeroValue244
  t76:=Tryz.underlying251
  a76:=Tryz.isAgg251
  z76:=Tryz.sizeOf251
  v76:=Tryz.zeroValue251
  t77:=Tryz.underlying252
  a77:=Tryz.isAgg252
  z77:=Tryz.sizeOf252
  v77:=Tryz.zeroValue252 }
end Go.Proofs
namespace Go.Wk.Lf
open Go.V Go.Proofs
theorem agD:AO aac KK :=
  Tb.or (Vf (ff:=Tryz.f96) aau Tryz.aku rfl Tryz.isAgg35 Tryz.sizeOf35 Tryz.func96 rfl (by decide)) (Tb.or (Vf (ff:=Tryz.f168) Ve Tryz.akr rfl Tryz.isAgg82 Tryz.sizeOf82 Tryz.func168 rfl (by decide)) (Tb.or Ve (Tb.or M9 (Tb.or (Qn M9) (Tb.or (Qn M9) (Qn M9))))))
end Go.Wk.Lf
end
