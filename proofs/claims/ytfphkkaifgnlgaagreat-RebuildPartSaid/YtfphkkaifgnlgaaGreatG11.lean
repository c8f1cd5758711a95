/- Plain lemmas on the words of lifted functions. What tree.Name tells, plainly. What manifest.Check tells, plainly; bytes of manifests. Lists: each once of what stands side by side. What manifest.Ids tells, plainly. Numbers read out of bytes; readers, plainly. What manifest.Read tells, plainly. What catalog.Check tells, plainly. Where something stands, or should, in a row that rises: slices.BinarySearchFunc, plainly. catalog.Check, plainly, whole. Catalogs compared, made anew; rows sorted: plainly. Manifests' bytes: of unlike ones unlike, none a beginning of another's. What rebuild.From tells where nothing of use was found; what is Part of a new catalog. A chunk that was found: by evaluation. RebuildEmpty, plainly. Trees of files: names, order; the page's Sort and Tree, plainly. What the page's Manifest tells, plainly. What the page's bytes and ids of manifests are, plainly. The page's Check of a catalog, plainly: it is the program's. The page's Check of a catalog is the program's. The page's Check is the program's: whole. What rebuild.Part tells, plainly. The sums of a chunk: both of the program's are one plain function. The sums of a chunk: the reference's words; blocks; what lies behind the bytes. The page's chunks, plainly. The page's Build, plainly: what a tree's manifest and chunks are. What the page's changes do has an end, and stays small. A change of the page's has an end, and leaves a right catalog, or none. Lives: what acts make is right. RebuildPart, plainly. Rebuil -/
import Derived.Test.YtfphkkaifgnlgaaGreatG10
set_option linter.unusedVariables false
set_option linter.unusedSimpArgs false
section
namespace Go.Wk
theorem iter_rule {S A:Type} {F:(S→Option A)→S→Option A} (Inv:S→Prop) (m:S→Nat) (g:S→Option A) (h:∀ rec s,Inv s→(∀ s',Inv s' → m s' < m s→rec s' = g s')→F rec s=g s):∀ n s,Inv s→m s < n→iter F n s=g s:=by
 intro n
 induction n with
 | zero=>intro s _ hm;omega
 | succ n ih=>intro s hs hm;exact h (iter F n) s hs fun s' hs' hlt=>ih s' hs' (by omega)
theorem loop_rule {S A:Type} {F:(S→Option A)→S→Option A} {s0:S} (Inv:S→Prop) (m:S→Nat) (g:S→Option A) (h0:Inv s0) (hm:m s0 < 4611686018427387904) (h:∀ rec s,Inv s→(∀ s',Inv s' → m s' < m s→rec s' = g s')→F rec s=g s):loop F s0=g s0 :=
 iter_rule Inv m g h _ s0 h0 (Nat.lt_trans hm (by decide))
theorem zvs {S A:Type} {F:(S→Option A)→S→Option A} {s0:S} {a:Option A} (Inv:S→Prop) (m:S→Nat) (h0:Inv s0) (hm:m s0 < 4611686018427387904) (h:∀ rec s,Inv s→(∀ s',Inv s' → m s' < m s→rec s' = a)→F rec s=a):loop F s0=a :=
 loop_rule Inv m (fun _=>a) h0 hm h
@[simp] theorem zal {α β:Type} (x:α) (f:α→Option β):bd (some x) f=f x:=rfl
theorem bd_eq {α β:Type} {o:Option α} {x:α} (h:o=some x) (f:α→Option β):bd o f=f x:=by rw [h];rfl
theorem ix_nat {α:Type} (l:List α) (n:Nat):ix l (n:Int)=l[n]?:=rfl
theorem ix_at {α:Type} {l:List α} {i:Int} {n:Nat} (hi:i=(n:Int)) (h:n < l.length):ix l i=some l[n]:=by subst hi;rw [ix_nat];exact List.getElem?_eq_getElem h
theorem zho {x:Int} (h0:-9223372036854775808≤x) (h1:x≤9223372036854775807):wr x=x:=i64_id h0 h1
theorem zdu {α:Type} {xs ys:List α} (h:xs.length+ys.length≤1073741824):app xs ys=some (xs++ys):=if_pos h
theorem zkw {α:Type} {l:List α} {a b:Int} (h0:0≤a) (h1:a≤b) (h2:b≤(l.length:Int)):cut l a b=some ((l.take b.toNat).drop a.toNat):=if_pos ⟨h0,h1,h2⟩
theorem lt_t {n m:Nat} (h:n < m):decide ((n:Int) < (m:Int))=true:=decide_eq_true (by omega)
theorem lt_f {n m:Nat} (h:¬ n < m):decide ((n:Int) < (m:Int))=false:=decide_eq_false (by omega)
theorem zbv {α:Type} {l:List α} {n:Nat} (h:n < l.length):ix l (n:Int)=some l[n]:=List.getElem?_eq_getElem h
theorem zaz {n:Nat} (h:n < 4611686018427387904):wr ((n:Int)+1)=((n+1:Nat):Int):=by rw [zho (by omega) (by omega)];rfl
theorem zle {n:Nat} (h0:0 < n) (h:n < 4611686018427387904):wr ((n:Int) - 1)=((n - 1:Nat):Int):=by rw [zho (by omega) (by omega)];omega
theorem iter_for {S σ A:Type} {F:(S→Option A)→S→Option A} (mk:Nat→σ→S) (n:Nat) (Inv:Nat→σ→Prop) (Post:Option A→Prop)
  (hstep:∀ rec i s,i < n→Inv i s→(∀ s',Inv (i+1) s' → Post (rec (mk (i+1) s')))→Post (F rec (mk i s))) (hend:∀ rec s,Inv n s→Post (F rec (mk n s))):∀ k i s,i≤n→n - i < k→Inv i s→Post (iter F k (mk i s)):=by
 intro k
 induction k with
 | zero=>intro i s _ h _;omega
 | succ k ih =>
  intro i s hi hk hI
  by_cases h:i=n
  ·subst h;exact hend (iter F k) s hI
  ·exact hstep (iter F k) i s (by omega) hI fun s' hs'=>ih (i+1) s' (by omega) (by omega) hs'
theorem zqk {S σ A:Type} {F:(S→Option A)→S→Option A} (mk:Nat→σ→S) (n:Nat) (Inv:Nat→σ→Prop) (Post:Option A→Prop) {i0:Nat} {s0:σ} {x0:S} (hx:x0=mk i0 s0) (hi0:i0≤n) (h0:Inv i0 s0) (hn:n < 4611686018427387904)
  (hstep:∀ rec i s,i < n→Inv i s→(∀ s',Inv (i+1) s' → Post (rec (mk (i+1) s')))→Post (F rec (mk i s))) (hend:∀ rec s,Inv n s→Post (F rec (mk n s))):Post (loop F x0) :=
 hx ▸ iter_for mk n Inv Post hstep hend _ i0 s0 hi0 (by omega) h0
theorem zgc {S σ A:Type} {F:(S→Option A)→S→Option A} (mk:Nat→σ→S) (n:Nat) (Inv:Nat→σ→Prop) (a:Option A) {i0:Nat} {s0:σ} {x0:S} (hx:x0=mk i0 s0) (hi0:i0≤n) (h0:Inv i0 s0) (hn:n < 4611686018427387904)
  (hstep:∀ rec i s,i < n→Inv i s→(∀ s',Inv (i+1) s' → rec (mk (i+1) s')=a)→F rec (mk i s)=a) (hend:∀ rec s,Inv n s→F rec (mk n s)=a):loop F x0=a:=by
 exact zqk mk n Inv (fun o=>o=a) hx hi0 h0 hn hstep hend
theorem zhy {S σ α A:Type} {F:(S→Option A)→S→Option A} (mk:Nat→σ→S) (l:List α) (f:σ→α→σ) (K:σ→Option A) (Inv:Nat→σ→Prop) {i0:Nat} {s0:σ} {x0:S} (hx:x0=mk i0 s0) (hi0:i0≤l.length) (h0:Inv i0 s0) (hn:l.length < 4611686018427387904)
  (hstep:∀ rec i s (h:i < l.length),Inv i s→Inv (i+1) (f s l[i])∧F rec (mk i s)=rec (mk (i+1) (f s l[i]))) (hend:∀ rec s,Inv l.length s→F rec (mk l.length s)=K s):loop F x0=K ((l.drop i0).foldl f s0):=by
 refine zgc mk l.length (fun i s=>i≤l.length∧Inv i s∧K ((l.drop i).foldl f s)=K ((l.drop i0).foldl f s0)) _ hx hi0 ⟨hi0,h0,rfl⟩ hn ?_ ?_
 ·intro rec i s hi hI hrec;obtain ⟨h1,h2⟩:=hstep rec i s hi hI.2.1;rw [h2];refine hrec _ ⟨by omega,h1,?_⟩;rw [← hI.2.2,List.drop_eq_getElem_cons hi];rfl
 ·intro rec s hI;rw [hend rec s hI.2.1,← hI.2.2,List.drop_length];rfl
theorem zdl {α:Type} {l:List α} {i:Nat} (h:i < l.length):l.take (i+1)=l.take i++[l[i]]:=List.take_succ_eq_append_getElem h
end Go.Wk
end
section

end
section
namespace Go.Wk.Lf
open Go.V Go.Sort Go.Proofs
theorem zmh {S A:Type} {F:(S→Option A)→S→Option A} (mk:Nat→S) (n:Nat) (ok:Nat→Bool) (K B:Option A) {x0:S} (hx:x0=mk 0) (hn:n < 4611686018427387904)
  (hstep:∀ rec i,i < n→F rec (mk i)=if ok i=true then rec (mk (i+1)) else B) (hend:∀ rec,F rec (mk n)=K):loop F x0=if (∀ i,i < n→ok i=true) then K else B:=by
 refine zgc (σ:=Unit) (fun i _=>mk i) n (fun i _=>∀ j,j < i→ok j=true) _ (i0:=0) (s0:=()) hx (Nat.zero_le _) (by intro j h;omega) hn ?_ ?_
 ·intro rec i _ hi hI hrec;rw [hstep rec i hi]
  by_cases h:ok i=true
  ·rw [if_pos h];exact hrec () fun j hj=>by
    rcases (by omega:j < i∨j=i) with h1 | rfl
    ·exact hI j h1
    ·exact h
  ·rw [if_neg h,if_neg fun hall=>h (hall i hi)]
 ·intro rec _ hI;rw [hend,if_pos hI]
theorem zpp {α:Type} (l:List α) (p:α→Bool) (q:Nat→Bool) (h:∀ i (hi:i < l.length),q i=p l[i]):(∀ i,i < l.length→q i=true) ↔ l.all p=true:=by
 rw [List.all_eq_true];constructor
 ·intro h1 x hx;obtain ⟨i,hi,rfl⟩:=List.getElem_of_mem hx;rw [← h i hi];exact h1 i hi
 ·intro h1 i hi;rw [h i hi];exact h1 _ (List.getElem_mem hi)
def seen (b:UInt8):Bool:=decide (33≤b.toNat)&&decide (b.toNat≤126)
def zij (s:List UInt8):Bool:=(decide (1≤s.length)&&decide (s.length≤20))&&s.all seen
theorem name_eq (s:List UInt8):zgg s=some (zij s):=by
 unfold zgg zij
 by_cases h1:s.length < 1∨20 < s.length
 ·rw [if_pos (by simp only [Bool.or_eq_true,decide_eq_true_eq];omega)];have:(decide (1≤s.length)&&decide (s.length≤20))=false:=by
   simp only [Bool.and_eq_false_iff,decide_eq_false_iff_not];omega
  rw [this];rfl
 ·rw [if_neg (by simp only [Bool.or_eq_true,decide_eq_true_eq];omega)];have h2:(decide (1≤s.length)&&decide (s.length≤20))=true:=by
   simp only [Bool.and_eq_true,decide_eq_true_eq];omega
  rw [h2,Bool.true_and];rw [zmh (x0:=(0:Int)) (fun i=>(i:Int)) s.length (fun i=>seen (s.getD i 0)) (some true) (some false) rfl (by omega) ?_ ?_]
  ·by_cases h:s.all seen=true
   ·rw [h,if_pos ((zpp s seen _ fun i hi=>by simp [hi]).2 h)]
   ·rw [Bool.not_eq_true] at h;rw [h,if_neg fun h3=>by rw [(zpp s seen _ fun i hi=>by simp [hi]).1 h3] at h;cases h]
  ·intro rec i hi;simp only [zgg.l2];rw [if_t (lt_t hi),zbv hi,zal];simp only [hi,List.getD_eq_getElem?_getD,List.getElem?_eq_getElem,Option.getD_some,seen]
   by_cases h33:(s[i].toNat:Int) < 33
   ·rw [zel (by simp;omega),zal,if_pos (by simp [h33])];rw [if_neg (by simp only [Bool.and_eq_true,decide_eq_true_eq];omega)]
   ·rw [zck (by simp;omega),zal]
    by_cases h126:(126:Int) < (s[i].toNat:Int)
    ·rw [if_pos (by simp [h126]),if_neg (by simp only [Bool.and_eq_true,decide_eq_true_eq];omega)]
    ·rw [if_neg (by simp only [Bool.or_eq_true,decide_eq_true_eq];omega),if_pos (by simp only [Bool.and_eq_true,decide_eq_true_eq];omega),zaz (by omega)]
  ·intro rec;simp only [zgg.l2,zgg.k1];rw [if_f (lt_f (Nat.lt_irrefl _))]
theorem cloneB_eq (l:List UInt8) (hl:l.length≤1073741824):zfu l=some l:=by
 unfold zfu;rw [zdu (by simpa using hl),zal];rfl
end Go.Wk.Lf
end
section
namespace Go.Wk.Lf
open Go.V Go.Sort Go.Proofs
def znm (p:Part):Bool:=(((zij p.path&&decide (0≤p.size))&&decide (p.size≤200))&&decide (p.ids.length≤25))&&(decide (p.ids.length=0) == decide (p.size=0))
theorem part_eq (p:Part):zjv p=some (znm p):=by
 unfold zjv znm;rw [name_eq,zal];have h1:decide ((p.ids.length:Int)≤25)=decide (p.ids.length≤25):=by rw [decide_eq_decide];omega
 have h2:decide ((p.ids.length:Int)=0)=decide (p.ids.length=0):=by rw [decide_eq_decide];omega
 rw [h1,h2]
theorem zoh {α:Type} (R:α→α→Prop) (ht:∀ {a b c},R a b→R b c→R a c) (l:List α):l.Pairwise R ↔ ∀ i (h:i < l.length),0 < i→R (l[i - 1]'(by omega)) l[i]:=by
 constructor
 ·intro h i hi h0;exact List.pairwise_iff_getElem.1 h (i - 1) i (by omega) hi (by omega)
 ·intro h;rw [List.pairwise_iff_getElem];intro i j hi hj hij
  induction j with
  | zero=>omega
  | succ j ih =>
   have h1:=h (j+1) hj (by omega);rcases (by omega:i=j∨i < j) with rfl | h2
   ·exact h1
   ·exact ht (ih (by omega) h2) h1
def zsf (l:List Part):Prop:=l.Pairwise fun a b=>sLt a.path b.path=true
instance (l : List Part) : Decidable (zsf l) := by unfold zsf; infer_instance
def manB (m:Manifest):Prop:=zij m.name=true∧m.parts.length≤6∧(m.parts.all znm)=true∧zsf m.parts
instance (m : Manifest) : Decidable (manB m) := by unfold manB; infer_instance
theorem adj_iff (l:List Part) (q:Part→Bool):(∀ i,i < l.length→(q (l.getD i default)&&(!decide (0 < i)||sLt (l.getD (i - 1) default).path (l.getD i default).path))=true) ↔ (l.all q=true∧zsf l):=by
 constructor
 ·intro h;refine ⟨?_,(zoh (fun a b:Part=>sLt a.path b.path=true) (fun h1 h2=>zhv h1 h2) l).2 fun i hi h0=>?_⟩
  ·rw [List.all_eq_true];intro x hx;obtain ⟨j,hj,rfl⟩:=List.getElem_of_mem hx;have h1:=h j hj;simp only [List.getD_eq_getElem?_getD,List.getElem?_eq_getElem hj,Option.getD_some,Bool.and_eq_true] at h1;exact h1.1
  ·have h1:=h i hi;have hi':i - 1 < l.length:=by omega
   simp only [List.getD_eq_getElem?_getD,List.getElem?_eq_getElem hi,List.getElem?_eq_getElem hi',Option.getD_some,Bool.and_eq_true,h0,decide_true,Bool.not_true,Bool.false_or] at h1;exact h1.2
 ·rintro ⟨h1,h2⟩ i hi;rw [List.all_eq_true] at h1;have h3:=h1 _ (List.getElem_mem hi);simp only [List.getD_eq_getElem?_getD,List.getElem?_eq_getElem hi,Option.getD_some,h3,Bool.true_and]
  by_cases h0:0 < i
  ·have hi':i - 1 < l.length:=by omega
   simp only [List.getElem?_eq_getElem hi',Option.getD_some,h0,decide_true,Bool.not_true,Bool.false_or];exact (zoh (fun a b:Part=>sLt a.path b.path=true) (fun h1 h2=>zhv h1 h2) l).1 h2 i hi h0
  ·simp [h0]
theorem test_eq (l:List Part) (i:Nat) (hi:i < l.length) (hl:l.length < 1000000000) (N:Bool) {β:Type} (K:Part→Option β) :
  (bd (only ((!(!N))&&decide (0 < (i:Int))) (ix l (wr ((i:Int) - 1))) (Part.mk [] 0 [])) K)=if N=true∧0 < i then K (l.getD (i - 1) default) else K (Part.mk [] 0 []):=by
 cases N with
 | false=>rw [zel (by simp),zal];simp
 | true =>
  by_cases h0:0 < i
  ·have hi':i - 1 < l.length:=by omega
   rw [zck (by simp;omega),zle h0 (by omega),zbv hi',zal,if_pos ⟨rfl,h0⟩];simp [List.getD_eq_getElem?_getD,List.getElem?_eq_getElem hi']
  ·rw [zel (by simp;omega),zal,if_neg (by omega)]
theorem mcheck_eq (m:Manifest):zdr m=some (if manB m then 0 else 1):=by
 unfold zdr;rw [name_eq,zal]
 by_cases h0:zij m.name=true∧m.parts.length≤6
 ·obtain ⟨hn,h6⟩:=h0;rw [if_neg (by simp only [hn];simp;omega)];rw [zmh (x0:=(0:Int)) (fun i=>(i:Int)) m.parts.length (fun i=>znm (m.parts.getD i default)&&(!decide (0 < i)||sLt (m.parts.getD (i - 1) default).path (m.parts.getD i default).path)) (some 0) (some 1) rfl (by omega) ?_ ?_]
  ·have hiff:=adj_iff m.parts znm
   by_cases h:m.parts.all znm=true∧zsf m.parts
   ·rw [if_pos (hiff.2 h),if_pos (show manB m from ⟨hn,h6,h.1,h.2⟩)]
   ·rw [if_neg fun h2=>h (hiff.1 h2),if_neg fun h2:manB m=>h ⟨h2.2.2.1,h2.2.2.2⟩]
  ·intro rec i hi;simp only [zdr.l2];rw [if_t (lt_t hi),zbv hi,zal,part_eq,zal,test_eq m.parts i hi (by omega)];simp only [List.getD_eq_getElem?_getD,List.getElem?_eq_getElem hi,Option.getD_some];cases hN:znm m.parts[i] with
   | false=>simp
   | true =>
    by_cases h0:0 < i
    ·have hi':i - 1 < m.parts.length:=by omega
     have h0':(0:Int) < (i:Int):=by omega
     simp only [h0,h0',and_self,if_true,List.getElem?_eq_getElem hi',Option.getD_some,decide_true,Bool.not_true,Bool.false_or,Bool.true_and,zaz (show i < 4611686018427387904 by omega)];have hg:=gtr_eq m.parts[i].path m.parts[i - 1].path;cases hc:(sLt m.parts[i].path m.parts[i - 1].path||m.parts[i].path == m.parts[i - 1].path) with
     | true=>rw [hc] at hg;rw [← hg];rfl
     | false=>rw [hc] at hg;rw [← hg];rfl
    ·have h0':¬ (0:Int) < (i:Int):=by omega
     simp [h0,h0',zaz (show i < 4611686018427387904 by omega)]
  ·intro rec;simp only [zdr.l2,zdr.k1];rw [if_f (lt_f (Nat.lt_irrefl _))]
 ·rw [if_pos (by
   simp only [Bool.or_eq_true,decide_eq_true_eq,Bool.not_eq_true'];cases hn:zij m.name with
   | false=>exact .inl rfl
   | true =>
    rcases Nat.lt_or_ge 6 m.parts.length with h6 | h6
    ·right;omega
    ·exact absurd ⟨hn,h6⟩ h0),if_neg fun h:manB m=>h0 ⟨h.1,h.2.1⟩]
def okId (m:Manifest):Prop:=∀ p∈m.parts,∀ x∈p.ids,x.length=32
theorem zud {s:List UInt8} (h:zij s=true):1≤s.length∧s.length≤20:=by
 simp only [zij,Bool.and_eq_true,decide_eq_true_eq] at h;exact h.1
theorem partB_num {p:Part} (h:znm p=true):zij p.path=true∧0≤p.size∧p.size≤200∧p.ids.length≤25∧(p.ids.length=0 ↔ p.size=0):=by
 simp only [znm,Bool.and_eq_true,decide_eq_true_eq] at h;obtain ⟨⟨⟨⟨h1,h2⟩,h3⟩,h4⟩,h5⟩:=h;refine ⟨h1,h2,h3,h4,?_⟩;rw [beq_iff_eq,decide_eq_decide] at h5;exact h5
theorem zvr {m:Manifest} (h:manB m):∀ p∈m.parts,znm p=true:=by
 have:=h.2.2.1;rwa [List.all_eq_true] at this
end Go.Wk.Lf
end
section
namespace Go.Wk
section
variable {α:Type} [DecidableEq α]
def cstep (acc:List α) (y:α):List α:=if acc.getLast? = some y then acc else acc++[y]
def zgx (l:List α):List α:=l.foldl cstep []
theorem zjw (l:List α) (y:α):zgx (l++[y])=cstep (zgx l) y:=by simp [zgx]
theorem zpt {β:Type} {p:List β→Prop} (h0:p []) (h1:∀ l y,p l→p (l++[y])):∀ l,p l:=by
 intro l;have:∀ r:List β,p r.reverse:=by
  intro r
  induction r with
  | nil=>exact h0
  | cons x r ih=>rw [List.reverse_cons];exact h1 _ _ ih
 have:=this l.reverse
 rwa [List.reverse_reverse] at this
theorem last_cstep (acc:List α) (y:α):(cstep acc y).getLast? = some y:=by
 unfold cstep
 split
 ·assumption
 ·simp
theorem zqn (l:List α):(zgx l).getLast? = l.getLast?:=by
 refine zpt (p:=fun l=>(zgx l).getLast? = l.getLast?) rfl (fun l y _=>?_) l;rw [zjw,last_cstep];simp
theorem compactL_len (l:List α):(zgx l).length≤l.length:=by
 refine zpt (p:=fun l=>(zgx l).length≤l.length) (Nat.le_refl _) (fun l y ih=>?_) l;rw [zjw];unfold cstep
 split
 ·simp;omega
 ·simp;omega
end
end Go.Wk
end
section
namespace Go.Wk.Lf
open Go.V Go.Sort Go.Proofs
theorem nz_ok {α:Type} {l:List α} (h:l≠[]):nz l=some ():=by
 cases l with
 | nil=>exact absurd rfl h
 | cons a r=>rfl
theorem zsh {α:Type} [DecidableEq α] (l:List α) (x:α):x∈zgx l ↔ x∈l:=by
 refine zpt (p:=fun l=>x∈zgx l ↔ x∈l) (by simp [zgx]) (fun l y ih=>?_) l;rw [zjw];unfold cstep
 split
 ·rename_i h;rw [zqn] at h;rw [ih];simp only [List.mem_append,List.mem_singleton];constructor
  ·exact .inl
  ·rintro (h' | rfl)
   ·exact h'
   ·exact List.mem_of_getLast? h
 ·simp only [List.mem_append,List.mem_singleton,ih]
def zko (l:List (List UInt8)):Prop:=l.Pairwise fun a b=>sLt a b=true
theorem zts:∀ (a b:List (List UInt8)),zko a→zko b→(∀ x,x∈a ↔ x∈b)→a=b
 | [],[],_,_,_=>rfl
 | [],y::b,_,_,h=>by have:=(h y).2 (by simp);simp at this
 | x::a,[],_,_,h=>by have:=(h x).1 (by simp);simp at this
 | x::a,y::b,ha,hb,h=>by
  obtain ⟨ha1,ha2⟩:=List.pairwise_cons.1 ha;obtain ⟨hb1,hb2⟩:=List.pairwise_cons.1 hb;have hxy:x=y:=by
   rcases List.mem_cons.1 ((h x).1 (by simp)) with e | e
   ·exact e
   ·rcases List.mem_cons.1 ((h y).2 (by simp)) with e' | e'
    ·exact e'.symm
    ·have h1:=ha1 y e';have h2:=hb1 x e;rw [sLt_asymm h1] at h2;cases h2
  subst hxy;rw [zts a b ha2 hb2 fun z=>?_];constructor
  ·intro hz;rcases List.mem_cons.1 ((h z).1 (by simp [hz])) with e | e
   ·subst e;have:=ha1 z hz;rw [zhj] at this;cases this
   ·exact e
  ·intro hz;rcases List.mem_cons.1 ((h z).2 (by simp [hz])) with e | e
   ·subst e;have:=hb1 z hz;rw [zhj] at this;cases this
   ·exact e
theorem rise_le {l:List (List UInt8)} (h:Rise cmpT l):l.Pairwise fun a b=>sLt b a=false:=by
 refine h.imp fun {a b} h1=>?_;have:=zut b a;unfold ltOf at this;rw [← this];simpa using h1
theorem zvh (l:List (List UInt8)) (h:l.Pairwise fun a b=>sLt b a=false):zko (zgx l):=by
 revert h
 refine zpt (p:=fun l=>(l.Pairwise fun a b=>sLt b a=false)→zko (zgx l)) (fun _=>by simp [zgx,zko]) (fun l y ih h=>?_) l;rw [List.pairwise_append] at h;have h1:=ih h.1;rw [zjw];unfold cstep
 split
 ·exact h1
 ·rename_i hl;rw [zqn] at hl;refine List.pairwise_append.2 ⟨h1,by simp,fun a ha b hb=>?_⟩;simp at hb;subst hb;have ha':=(zsh l a).1 ha;have h2:=h.2.2 a ha' b (by simp);cases h3:sLt a b with
  | true=>rfl
  | false =>
   exfalso
   have e:a=b:=zrh h3 h2;subst e;obtain ⟨s,t,hst⟩:=List.append_of_mem ha';cases t with
   | nil=>rw [hst] at hl;simp at hl
   | cons z t =>
    have hz:∃ w,l.getLast? = some w∧w∈z::t:=by
     rw [hst];refine ⟨(z::t).getLast (by simp),?_,List.getLast_mem _⟩;rw [List.getLast?_append,List.getLast?_cons_cons,List.getLast?_eq_some_getLast (by simp:z::t≠[])];rfl
    obtain ⟨w,hw,hwm⟩:=hz;have h4:sLt w a=false:=by
     have h5:=h.1;rw [hst,List.pairwise_append] at h5;exact (List.pairwise_cons.1 h5.2.1).1 w hwm
    have h6:=h.2.2 w (by rw [hst];simp [hwm]) a (by simp);have e2:w=a:=zrh h4 h6;rw [e2] at hw;exact hl hw
def zlj (m:Manifest):List (List UInt8):=m.parts.flatMap Part.ids
def idsU (l:List (List UInt8)):List (List UInt8):=zgx (isort cmpT l)
theorem zxl (l:List (List UInt8)) (x:List UInt8):x∈idsU l ↔ x∈l:=by
 unfold idsU;rw [zsh];exact (zro cmpT l).mem_iff
theorem idsU_rises (l:List (List UInt8)):zko (idsU l):=zvh _ (rise_le (zvu cmpT_swo l))
theorem idsU_len (l:List (List UInt8)):(idsU l).length≤l.length:=by
 unfold idsU;have h1:=compactL_len (isort cmpT l);rw [(zro cmpT l).length_eq] at h1;exact h1
theorem cloneI_eq (l:List (List UInt8)) (hl:l.length≤1073741824):zei l=some l:=by
 unfold zei;rw [zdu (by simpa using hl),zal,List.nil_append]
theorem zum (l:List Part) (i:Nat):((l.take i).flatMap Part.ids).length≤(l.flatMap Part.ids).length:=by
 conv=>rhs;rw [← List.take_append_drop i l,List.flatMap_append,List.length_append]
 omega
end Go.Wk.Lf
end
section
namespace Go.Wk.Lf
open Go.V Go.Sort Go.Proofs
def beN (l:List UInt8):Nat:=l.foldl (fun n c=>n*256+c.toNat) 0
theorem beN_lt:∀ (l:List UInt8),beN l < 256 ^ l.length:=by
 intro l;refine zpt (p:=fun l=>beN l < 256 ^ l.length) (by simp [beN]) (fun l c ih=>?_) l;have hc:=c.toNat_lt;simp only [beN,List.foldl_append,List.foldl_cons,List.foldl_nil,List.length_append,List.length_cons,List.length_nil,Nat.pow_succ] at ih ⊢;omega
theorem beN_snoc (l:List UInt8) (c:UInt8):beN (l++[c])=beN l*256+c.toNat:=by simp [beN]
end Go.Wk.Lf
end
section
namespace Go.Wk.Lf
open Go.V Go.Sort Go.Proofs
end Go.Wk.Lf
end
section
namespace Go.Wk.Lf
open Go.V Go.Sort Go.Proofs
theorem zci {α:Type} (b:Bool) (x z:α):only b (some x) z=some (if b=true then x else z):=by
 cases b <;> rfl
def allN (n:Nat) (ok:Nat→Bool):Bool:=(List.range n).all ok
theorem zec {n:Nat} {ok:Nat→Bool}:allN n ok=true ↔ ∀ i,i < n→ok i=true:=by simp [allN]
theorem loop_allN {S A:Type} {F:(S→Option A)→S→Option A} (mk:Nat→S) (n:Nat) (ok:Nat→Bool) (K B:Option A) {x0:S} (hx:x0=mk 0) (hn:n < 4611686018427387904)
  (hstep:∀ rec i,i < n→F rec (mk i)=if ok i=true then rec (mk (i+1)) else B) (hend:∀ rec,F rec (mk n)=K):loop F x0=if allN n ok=true then K else B:=by
 rw [zmh mk n ok K B hx hn hstep hend]
 by_cases h:allN n ok=true
 ·rw [if_pos h,if_pos (zec.1 h)]
 ·rw [if_neg h,if_neg fun q=>h (zec.2 q)]
theorem zfr {A:Type} {F:(Int→Option A)→Int→Option A} (n:Nat) (ok:Nat→Bool) (K B:Option A) (hn:n < 4611686018427387904)
  (hstep:∀ rec (i:Nat),i < n→F rec (i:Int)=if ok i=true then rec ((i+1:Nat):Int) else B) (hend:∀ rec,F rec (n:Int)=K):loop F 0=if allN n ok=true then K else B :=
 loop_allN (x0:=(0:Int)) (fun i=>(i:Int)) n ok K B rfl hn hstep hend
theorem allN_all {α:Type} [Inhabited α] (l:List α) (p:α→Bool):allN l.length (fun i=>p (l.getD i default))=l.all p:=by
 rw [Bool.eq_iff_iff,zec];exact zpp l p (fun i=>p (l.getD i default)) fun i hi=>by simp [hi]
theorem zbn {α:Type} [Inhabited α] {l:List α} {i:Nat} (h:i < l.length):l.getD i default=l[i]:=by simp [h]
def inB (n a b:Int):Bool:=decide (a≤n)&&decide (n≤b)
theorem in_eq (n a b:Int):zev n a b=some (inB n a b):=rfl
def volB (v:Vol):Bool:=inB v.pool 0 1&&inB v.epoch 0 1048576&&((decide (v.state=2)&&inB v.files 1 65535)||((decide (v.state=1)||decide (v.state=3))&&decide (v.files=0)))
def zve (l:List Vol):Bool:=l.all volB&&inB (l.length:Int) 1 8
theorem zik {α:Type} {b c:Bool} {x y:α} (h:b = !c):(if b=true then x else y)=if c=true then y else x:=by
 subst h;cases c <;> rfl
theorem vols_eq (l:List Vol) (hl:l.length≤1073741824):zer l=some (zve l):=by
 unfold zer;rw [zfr l.length (fun i=>volB (l.getD i default)) (some (inB (l.length:Int) 1 8)) (some false) (by omega) ?_ ?_,allN_all]
 ·unfold zve;cases l.all volB <;> rfl
 ·intro rec i hi;simp only [zer.l2];rw [if_t (lt_t hi),zbv hi,zal];simp only [in_eq,zci,zal,zaz (show i < 4611686018427387904 by omega),zbn hi];refine zik ?_;unfold volB;cases inB l[i].pool 0 1 <;> cases inB l[i].epoch 0 1048576 <;> cases decide (l[i].state=2) <;> cases inB l[i].files 1 65535 <;> simp
 ·intro rec;simp only [zer.l2,zer.k1];rw [if_f (lt_f (Nat.lt_irrefl _))];rfl
def locB (vs:List Vol) (x:Loc):Bool:=inB x.vol 0 ((vs.length:Int) - 1)&&decide ((vs.getD x.vol.toNat default).state=2)&&inB x.file 1 (vs.getD x.vol.toNat default).files&&inB x.off 0 16777215&&inB x.len 13 8013
def zsn (a b:Loc):Bool:=if a.vol≠b.vol then decide (b.vol < a.vol) else if a.file≠b.file then decide (b.file < a.file) else decide (b.off < a.off)
theorem after_eq (a b:Loc):zka a b=some (zsn a b):=by
 unfold zka zsn;simp only [decide_eq_true_eq]
 split
 ·rfl
 ·split <;> rfl
def locOk (vs:List Vol) (l:List Loc) (i:Nat):Bool:=locB vs (l.getD i default)&&(!decide (0 < i)||zsn (l.getD i default) (l.getD (i - 1) default))
def zie (vs:List Vol) (l:List Loc):Bool:=decide (l.length≤200)&&allN l.length (locOk vs l)
theorem zil {n a b:Int}:inB n a b=true ↔ a≤n∧n≤b:=by simp [inB]
theorem ix_int {α:Type} [Inhabited α] {l:List α} {i:Int} (h0:0≤i) (h1:i≤(l.length:Int) - 1):ix l i=some (l.getD i.toNat default):=by
 obtain ⟨n,rfl⟩:∃ n:Nat,i=n:=⟨i.toNat,by omega⟩
 rw [zbv (by omega),Int.toNat_natCast,zbn (by omega)]
theorem locs_eq (c:Catalog) (l:List Loc) (hv:c.vols.length≤1073741824):zdw c l=some (zie c.vols l):=by
 unfold zdw zie
 by_cases hl:l.length≤200
 ·rw [if_f (decide_eq_false (by omega))];rw [zfr l.length (locOk c.vols l) (some true) (some false) (by omega) ?_ ?_,decide_eq_true hl]
  ·cases allN l.length (locOk c.vols l) <;> rfl
  ·intro rec i hi;simp only [zdw.l2];rw [if_t (lt_t hi),zbv hi,zal];simp only [in_eq,zci,zal,zho (show (-9223372036854775808:Int)≤(c.vols.length:Int) - 1 by omega) (by omega),zaz (show i < 4611686018427387904 by omega)];have e1:l.getD i default=l[i]:=zbn hi;unfold locOk locB;rw [e1]
   by_cases h1:inB l[i].vol 0 ((c.vols.length:Int) - 1)=true
   ·obtain ⟨a0,a1⟩:=zil.1 h1;rw [h1,ix_int a0 a1];simp only [zci,zal,Bool.not_true,Bool.not_false,if_true]
    by_cases h0:0 < i
    ·have e2:ix l (wr ((i:Int) - 1))=some (l.getD (i - 1) default):=by
      rw [zle h0 (by omega),zbv (show i - 1 < l.length by omega),zbn (by omega)]
     rw [e2];have h0':decide ((0:Int) < (i:Int))=true:=decide_eq_true (by omega);rw [h0',decide_eq_true h0];simp only [zci,zal,after_eq];refine zik ?_;generalize inB l[i].off 0 16777215=p;generalize inB l[i].len 13 8013=q
     by_cases hs:(c.vols.getD l[i].vol.toNat default).state=2
     ·simp only [hs,ne_eq,not_true_eq_false,decide_false,decide_true,Bool.or_self,Bool.false_or,Bool.not_false,if_true,Bool.true_and,Bool.and_true];generalize inB l[i].file 1 (c.vols.getD l[i].vol.toNat default).files=s;cases s <;> cases p <;> cases q <;> simp
     ·simp only [hs,ne_eq,not_false_eq_true,decide_true,decide_false,Bool.true_or,Bool.or_true,Bool.and_false,Bool.false_and,Bool.not_false,Bool.false_or]
    ·have h0':decide ((0:Int) < (i:Int))=false:=decide_eq_false (by omega);rw [h0',decide_eq_false h0];simp only [Bool.and_false,zel,zci,zal,Bool.false_and,Bool.or_false,Bool.not_false,Bool.true_or,Bool.and_true];refine zik ?_;generalize inB l[i].off 0 16777215=p;generalize inB l[i].len 13 8013=q
     by_cases hs:(c.vols.getD l[i].vol.toNat default).state=2
     ·simp only [hs,ne_eq,not_true_eq_false,decide_false,decide_true,Bool.or_self,Bool.false_or,Bool.not_false,if_true,Bool.true_and,Bool.and_true];generalize inB l[i].file 1 (c.vols.getD l[i].vol.toNat default).files=s;cases s <;> cases p <;> cases q <;> simp
     ·simp only [hs,ne_eq,not_false_eq_true,decide_true,decide_false,Bool.true_or,Bool.or_true,Bool.and_false,Bool.false_and,Bool.not_false,Bool.false_or]
   ·rw [Bool.not_eq_true] at h1;rw [h1];simp only [Bool.not_false,Bool.not_true,zel,zal,Bool.true_or,Bool.false_and,Bool.and_false,if_false,if_true];rfl
  ·intro rec;simp only [zdw.l2,zdw.k1];rw [if_f (lt_f (Nat.lt_irrefl _))]
 ·rw [if_t (decide_eq_true (by omega)),decide_eq_false hl];rfl
end Go.Wk.Lf
end
section
namespace Go.Wk.Lf
open Go.V Go.Sort Go.Proofs
def zns (f:Nat→Bool):Nat→Nat→Nat
 | _,0=>0
 | i,n+1=>if f i=true then zns f (i+1) n+1 else 0
def preN (n:Nat) (f:Nat→Bool):Nat:=zns f 0 n
theorem firstN_le (f:Nat→Bool):∀ n i,zns f i n≤n
 | 0,i=>Nat.le_refl _
 | n+1,i=>by unfold zns;split;exact Nat.succ_le_succ (firstN_le f n _);exact Nat.zero_le _
theorem zvv (f:Nat→Bool):∀ n i q,q < zns f i n→f (i+q)=true
 | 0,i,q,h=>by cases h
 | n+1,i,q,h=>by
  unfold zns at h
  split at h
  ·cases q with
   | zero=>assumption
   | succ q=>have:=zvv f n (i+1) q (by omega);rwa [show i+1+q=i+(q+1) by omega] at this
  ·cases h
theorem firstN_no (f:Nat→Bool):∀ n i,zns f i n < n→f (i+zns f i n)=false
 | 0,i,h=>by cases h
 | n+1,i,h=>by
  unfold zns at h ⊢
  split at h
  ·rename_i hf;rw [if_pos hf];have:=firstN_no f n (i+1) (by omega);rwa [show i+1+zns f (i+1) n=i+(zns f (i+1) n+1) by omega] at this
  ·rename_i hf;rw [if_neg hf,Nat.add_zero];simpa using hf
theorem preN_le (n:Nat) (f:Nat→Bool):preN n f≤n:=firstN_le f n 0
theorem zxa {n:Nat} {f:Nat→Bool} {q:Nat} (h:q < preN n f):f q=true:=by have:=zvv f n 0 q h;rwa [Nat.zero_add] at this
theorem preN_no {n:Nat} {f:Nat→Bool} (h:preN n f < n):f (preN n f)=false:=by have:=firstN_no f n 0 h;rwa [Nat.zero_add] at this
theorem znj {n:Nat} {f:Nat→Bool} {k:Nat} (hk:k≤n) (h1:∀ q,q < k→f q=true) (h2:k < n→f k=false):preN n f=k:=by
 rcases Nat.lt_trichotomy (preN n f) k with h | h | h
 ·have:=preN_no (n:=n) (f:=f) (by omega);rw [h1 _ h] at this;cases this
 ·exact h
 ·have:=zxa h;rw [h2 (by have:=preN_le n f;omega)] at this;cases this
theorem bs_loop {A:Type} {F:(Int × Int→Option A)→Int × Int→Option A} (n:Nat) (f:Nat→Bool) (K:Nat→Option A) (hn:n≤1073741824) (hmono:∀ i j,i < j→j < n→f j=true→f i=true)
  (hstep:∀ rec (i j:Nat),i < j→j≤n→F rec ((i:Int),(j:Int))=if f ((i+j) / 2)=true then rec ((((i+j) / 2+1:Nat):Int),(j:Int)) else rec ((i:Int),(((i+j) / 2:Nat):Int)))
  (hend:∀ rec (i:Nat),i≤n→F rec ((i:Int),(i:Int))=K i):loop F (0,(n:Int))=K (preN n f):=by
 refine zvs (S:=Int × Int) (fun s=>∃ i j:Nat,s=((i:Int),(j:Int))∧i≤j∧j≤n∧(∀ q,q < i→f q=true) ∧ ∀ q,j≤q→q < n→f q=false) (fun s=>(s.2 - s.1).toNat) ⟨0,n,rfl,Nat.zero_le _,Nat.le_refl _,fun q h=>by omega,fun q h1 h2=>by omega⟩ (by simp only;omega) ?_;rintro rec s ⟨i,j,rfl,hij,hjn,h1,h2⟩ hrec
 by_cases h:i=j
 ·subst h;rw [hend rec i hjn,znj hjn h1 fun h=>h2 i (Nat.le_refl _) h]
 ·have hlt:i < j:=by omega
  rw [hstep rec i j hlt hjn]
  by_cases hf:f ((i+j) / 2)=true
  ·rw [if_pos hf];refine hrec _ ⟨_,j,rfl,by omega,hjn,fun q hq=>?_,h2⟩ (by simp only;omega)
   by_cases hq2:q=(i+j) / 2
   ·rw [hq2];exact hf
   ·exact hmono q ((i+j) / 2) (by omega) (by omega) hf
  ·rw [if_neg hf];refine hrec _ ⟨i,_,rfl,by omega,by omega,h1,fun q hq hqn=>?_⟩ (by simp only;omega)
   by_cases hq2:q=(i+j) / 2
   ·rw [hq2];simpa using hf
   ·cases hfq:f q with
    | false=>rfl
    | true=>exact absurd (hmono ((i+j) / 2) q (by omega) hqn hfq) hf
theorem mid_eq {i j:Nat} (hi:i≤1073741824) (hj:j≤1073741824):wr ((wu (wr ((i:Int)+(j:Int)))) / 2 ^ (1:Int).toNat)=(((i+j) / 2:Nat):Int):=by
 have h1:wr ((i:Int)+(j:Int))=((i+j:Nat):Int):=by rw [zho (by omega) (by omega)];omega
 have h2:wu (((i+j:Nat):Int))=((i+j:Nat):Int):=by
  show IntKind.u64.wrap _=_;have:(((i+j:Nat):Int) % (2 ^ 64:Int))=((i+j:Nat):Int):=Int.emod_eq_of_lt (by omega) (by omega);exact this
 rw [h1,h2];have h3:(((i+j:Nat):Int)) / 2 ^ (1:Int).toNat=(((i+j) / 2:Nat):Int):=by
  show ((i+j:Nat):Int) / 2 ^ 1=_;omega
 rw [h3,zho (by omega) (by omega)]
def placeN {α:Type} [Inhabited α] (l:List α) (lt:α→Bool):Nat:=preN l.length fun i=>lt (l.getD i default)
theorem cmpT_neg (a b:List UInt8):decide (cmpT a b < 0)=sLt a b:=by rw [← zut];rfl
theorem cmpT_zero (a b:List UInt8):decide (cmpT a b=0)=decide (a=b):=by
 have h1:=zut a b;have h2:=zut b a
 by_cases h:a=b
 ·subst h;have:cmpT a a=0:=by unfold cmpT;rw [zhj];rfl
  simp [this]
 ·have:cmpT a b≠0:=by
   unfold cmpT
   by_cases h3:sLt a b=true
   ·simp [h3]
   ·by_cases h4:sLt b a=true
    ·simp [h3,h4]
    ·exact absurd (zrh (by simpa using h3) (by simpa using h4)) h
  simp [this,h]
theorem zus (a b:List UInt8):zjz a b=some (cmpT a b):=rfl
def zvc (l:List Chunk):Prop:=l.Pairwise fun a b=>sLt a.id b.id=true
theorem pair_lt {α:Type} {R:α→α→Prop} {l:List α} (h:l.Pairwise R) {i j:Nat} (hij:i < j) (hj:j < l.length):R (l[i]'(by omega)) l[j]:=List.pairwise_iff_getElem.1 h i j (by omega) hj hij
def zrw (l:List Chunk) (id:List UInt8):Nat:=placeN l fun x=>sLt x.id id
def hasId (l:List Chunk) (id:List UInt8):Bool:=decide (zrw l id < l.length)&&decide ((l.getD (zrw l id) default).id=id)
theorem place_eq (l:List Chunk) (id:List UInt8) (hl:l.length≤1073741824) (hr:zvc l) :
  zir l id=some (((zrw l id:Nat):Int),hasId l id):=by
 unfold zir;rw [show zak l id=some (((zrw l id:Nat):Int),hasId l id) from ?_]
 ·rfl
 unfold hasId zrw placeN zak;refine bs_loop l.length (fun i=>sLt (l.getD i default).id id) (fun k=>some ((k:Int),decide (k < l.length)&&decide ((l.getD k default).id=id))) hl ?_ ?_ ?_
 ·intro i j hij hj h;rw [zbn hj] at h;rw [zbn (by omega)];exact zhv (pair_lt hr hij hj) h
 ·intro rec i j hij hj;simp only [zak.l2];have hm:(i+j) / 2 < l.length:=by omega
  rw [if_t (lt_t hij),mid_eq (by omega) (by omega),zbv hm,zal];simp only [zhf,zus,zal,cmpT_neg,zbn hm,zaz (show (i+j) / 2 < 4611686018427387904 by omega)]
 ·intro rec i hi;simp only [zak.l2,zak.k1];rw [if_f (lt_f (Nat.lt_irrefl _))]
  by_cases h:i < l.length
  ·simp only [lt_t h,zbv h,zci,zal,if_true,zhf,zus,Bool.true_and,zbn h,decide_eq_true h,cmpT_zero]
  ·simp only [lt_f h,zel,zal,Bool.false_and,decide_eq_false h]
theorem hasId_iff {l:List Chunk} (hr:zvc l) (id:List UInt8):hasId l id=true ↔ ∃ x∈l,x.id=id:=by
 unfold hasId;simp only [Bool.and_eq_true,decide_eq_true_eq];constructor
 ·rintro ⟨h1,h2⟩;rw [zbn h1] at h2;exact ⟨_,List.getElem_mem h1,h2⟩
 ·rintro ⟨x,hx,rfl⟩;obtain ⟨i,hi,rfl⟩:=List.getElem_of_mem hx;have:zrw l l[i].id=i:=znj (Nat.le_of_lt hi) (fun q hq=>by
   rw [zbn (by omega)];exact pair_lt hr hq hi) (fun _=>by rw [zbn hi];exact zhj _)
  rw [this];exact ⟨hi,by rw [zbn hi]⟩
end Go.Wk.Lf
end
section
namespace Go.Wk.Lf
open Go.V Go.Sort Go.Proofs
def zjq (n:Nat) (p:Nat→Bool):Int:=if preN n (fun i=>!p i) < n then (preN n (fun i=>!p i):Int) else -1
theorem zma {F:(Int→Option Int)→Int→Option Int} (n:Nat) (p:Nat→Bool) (hn:n < 4611686018427387904) (hstep:∀ rec (i:Nat),i < n→F rec (i:Int)=if p i=true then some (i:Int) else rec ((i+1:Nat):Int)) (hend:∀ rec,F rec (n:Int)=some (-1)):loop F 0=some (zjq n p):=by
 refine zgc (σ:=Unit) (fun i _=>(i:Int)) n (fun i _=>∀ q,q < i→p q=false) _ (i0:=0) (s0:=()) rfl (Nat.zero_le _) (fun q h=>by omega) hn ?_ ?_
 ·intro rec i _ hi hI hrec;rw [hstep rec i hi]
  by_cases h:p i=true
  ·rw [if_pos h];have hk:preN n (fun i=>!p i)=i:=znj (Nat.le_of_lt hi) (fun q hq=>by rw [hI q hq];rfl) (fun _=>by rw [h];rfl);unfold zjq;rw [hk,if_pos hi]
  ·rw [if_neg h];refine hrec () fun q hq=>?_
   by_cases hq2:q=i
   ·subst hq2;simpa using h
   ·exact hI q (by omega)
 ·intro rec _ hI;rw [hend];unfold zjq;rw [show preN n (fun i=>!p i)=n from znj (Nat.le_refl _) (fun q hq=>by rw [hI q hq];rfl) (fun h=>by omega),if_neg (Nat.lt_irrefl _)]
theorem zsj {n:Nat} {p:Nat→Bool}:decide (0≤zjq n p) = !allN n (fun i=>!p i):=by
 unfold zjq
 by_cases h:preN n (fun i=>!p i) < n
 ·rw [if_pos h];have:allN n (fun i=>!p i)=false:=by
   cases hq:allN n (fun i=>!p i) with
   | false=>rfl
   | true=>have:=zec.1 hq _ h;rw [preN_no h] at this;cases this
  rw [this];simp
 ·rw [if_neg h];have h2:=preN_le n (fun i=>!p i);have:allN n (fun i=>!p i)=true:=zec.2 fun i hi=>zxa (n:=n) (f:=fun i=>!p i) (by omega);rw [this];rfl
theorem cmpT_nn (a b:List UInt8):decide (0≤cmpT a b) = !sLt a b:=by
 rw [← cmpT_neg]
 by_cases h:cmpT a b < 0
 ·simp [h]
 ·simp [h];omega
def zuu (x:Chunk):Bool:=if x.staged=true then inB (x.data.length:Int) 1 64 else decide (x.data.length=0)&&decide (0 < x.locs.length)
def zhd (c:Catalog) (i:Nat):Bool:=(!decide (0 < i)||sLt (c.chunks.getD (i - 1) default).id (c.chunks.getD i default).id)&&zie c.vols (c.chunks.getD i default).locs&&zuu (c.chunks.getD i default)
def zje (c:Catalog):Bool:=allN c.chunks.length (zhd c)&&decide (c.chunks.length≤200)
theorem chunks_eq (c:Catalog) (hv:c.vols.length≤1073741824) (hl:c.chunks.length≤1073741824):zds c=some (zje c):=by
 unfold zds;rw [zfr c.chunks.length (zhd c) (some (decide (c.chunks.length≤200))) (some false) (by omega) ?_ ?_]
 ·unfold zje;cases allN c.chunks.length (zhd c) <;> rfl
 ·intro rec i hi;simp only [zds.l2];rw [if_t (lt_t hi),zbv hi,zal];have e1:c.chunks.getD i default=c.chunks[i]:=zbn hi;simp only [in_eq,zci,zal,locs_eq _ _ hv,zaz (show i < 4611686018427387904 by omega),zus];have key:∀ (o:Bool) (x:Chunk),(if ((((o || !(if (!o)=true then zie c.vols x.locs else false))||((!x.staged)&&(decide (0 < (x.data.length:Int))||decide ((x.locs.length:Int)=0))))||(x.staged && !(if ((!((o || !(if (!o)=true then zie c.vols x.locs else false))||((!x.staged)&&(decide (0 < (x.data.length:Int))||decide ((x.locs.length:Int)=0)))))&&x.staged)=true then inB (x.data.length:Int) 1 64 else false))))=true then some false else rec ((i+1:Nat):Int))=if (!o&&zie c.vols x.locs&&zuu x)=true then rec ((i+1:Nat):Int) else some false:=by
   intro o x;refine zik ?_;unfold zuu;have d1:decide ((0:Int) < (x.data.length:Int)) = !decide (x.data.length=0):=by
    by_cases h:x.data.length=0
    ·simp [h]
    ·rw [decide_eq_false h,decide_eq_true (by omega)];rfl
   have d2:decide ((x.locs.length:Int)=0) = !decide (0 < x.locs.length):=by
    by_cases h:0 < x.locs.length
    ·rw [decide_eq_true h,decide_eq_false (by omega)];rfl
    ·rw [decide_eq_false h,decide_eq_true (by omega)];rfl
   rw [d1,d2];generalize decide (x.data.length=0)=p;generalize decide (0 < x.locs.length)=q;generalize inB (x.data.length:Int) 1 64=s;generalize zie c.vols x.locs=u;generalize x.staged=v;cases o <;> cases p <;> cases q <;> cases s <;> cases u <;> cases v <;> rfl
  by_cases h0:0 < i
  ·have e2:ix c.chunks (wr ((i:Int) - 1))=some (c.chunks.getD (i - 1) default):=by
    rw [zle h0 (by omega),zbv (show i - 1 < c.chunks.length by omega),zbn (by omega)]
   have h0':decide ((0:Int) < (i:Int))=true:=decide_eq_true (by omega);rw [e2,h0'];simp only [zci,zal,if_true,Bool.true_and,cmpT_nn];refine (key _ _).trans ?_;unfold zhd;rw [e1,decide_eq_true h0];simp only [Bool.not_not,Bool.not_true,Bool.false_or]
  ·have h0':decide ((0:Int) < (i:Int))=false:=decide_eq_false (by omega);rw [h0'];simp only [zel,zal,Bool.false_and];refine (key _ _).trans ?_;unfold zhd;rw [e1,decide_eq_false h0];rfl
 ·intro rec;simp only [zds.l2,zds.k1];rw [if_f (lt_f (Nat.lt_irrefl _))]
  congr 1
  by_cases h:c.chunks.length≤200
  ·rw [decide_eq_true h,decide_eq_true (by omega)]
  ·rw [decide_eq_false h,decide_eq_false (by omega)]
theorem zqu {c:Catalog} (h:zje c=true):zvc c.chunks:=by
 unfold zje at h;rw [Bool.and_eq_true,zec] at h;refine (zoh (fun a b:Chunk=>sLt a.id b.id=true) (fun h1 h2=>zhv h1 h2) c.chunks).2 fun i hi h0=>?_;have:=h.1 i hi;unfold zhd at this;rw [zbn hi,zbn (show i - 1 < c.chunks.length by omega),decide_eq_true h0] at this;simp only [Bool.not_true,Bool.false_or,Bool.and_eq_true] at this;exact this.1.1
instance (m : Manifest) : Decidable (manB m) := by unfold manB zsf; infer_instance
def idsIn (c:Catalog) (m:Manifest):Bool:=allN m.parts.length fun i=>allN (m.parts.getD i default).ids.length fun k=>hasId c.chunks ((m.parts.getD i default).ids.getD k default)
def znf (c:Catalog) (i:Nat):Bool:=inB (c.snaps.getD i default).seq 0 (c.seq - 1)&&(!decide (0 < i)||decide ((c.snaps.getD (i - 1) default).seq < (c.snaps.getD i default).seq)) && !decide ((c.snaps.getD i default).man.name∈(c.snaps.take i).map fun s=>s.man.name)&&decide (manB (c.snaps.getD i default).man)&&zie c.vols (c.snaps.getD i default).locs&&idsIn c (c.snaps.getD i default).man
def zpu (c:Catalog):Bool:=allN c.snaps.length (znf c)&&decide (c.snaps.length≤8)
def zmo (l:List Snap):List UInt8→Option Bool:=fun k=>if k∈l.map (fun s=>s.man.name) then some true else none
theorem namesM_put (l:List Snap) (s:Snap):mput (zmo l) s.man.name true=zmo (l++[s]):=by
 funext k
 simp only [mput,zmo,List.map_append,List.map_cons,List.map_nil,List.mem_append,List.mem_singleton]
 by_cases h:k=s.man.name
 ·simp [h]
 ·simp [h]
theorem snaps_eq (c:Catalog) (hv:c.vols.length≤1073741824) (hc:c.chunks.length≤1073741824) (hr:zvc c.chunks) (hl:c.snaps.length≤1073741824) (h0:0≤c.seq) (h1:c.seq≤1073741824):zbi c=some (zpu c):=by
 unfold zbi;rw [show ((0:Int),(mnil:List UInt8→Option Bool))=((fun i:Nat=>((i:Int),zmo (c.snaps.take i))) 0) from by simp [zmo];rfl];rw [loop_allN (fun i:Nat=>((i:Int),zmo (c.snaps.take i))) c.snaps.length (znf c) (some (decide (c.snaps.length≤8))) (some false) rfl (by omega) ?_ ?_]
 ·unfold zpu;cases allN c.snaps.length (znf c) <;> rfl
 ·intro rec i hi;simp only [zbi.l2];rw [if_t (lt_t hi),zbv hi,zal];have e1:c.snaps.getD i default=c.snaps[i]:=zbn hi;simp only [in_eq,zci,zal,locs_eq _ _ hv,mcheck_eq,zho (show (-9223372036854775808:Int)≤c.seq - 1 by omega) (by omega)];have hm:(zmo (c.snaps.take i) c.snaps[i].man.name).getD false=decide (c.snaps[i].man.name∈(c.snaps.take i).map fun s=>s.man.name):=by
   unfold zmo
   by_cases h:c.snaps[i].man.name∈(c.snaps.take i).map fun s=>s.man.name
   ·rw [if_pos h,decide_eq_true h];rfl
   ·rw [if_neg h,decide_eq_false h];rfl
  rw [hm];have hin:manB c.snaps[i].man→loop (zbi.l4 c (i:Int) (zmo (c.snaps.take i)) rec c.snaps[i]) 0=if idsIn c c.snaps[i].man=true then rec (((i+1:Nat):Int),zmo (c.snaps.take (i+1))) else some false:=by
   intro hman;refine zfr c.snaps[i].man.parts.length _ _ _ (by have:=hman.2.1;omega) ?_ ?_
   ·intro rec2 j hj;simp only [zbi.l4];rw [if_t (lt_t hj),zbv hj,zal,zbn hj];have hids:c.snaps[i].man.parts[j].ids.length≤25:=(partB_num (zvr hman _ (List.getElem_mem hj))).2.2.2.1;refine zfr c.snaps[i].man.parts[j].ids.length _ _ _ (by omega) ?_ ?_
    ·intro rec3 k hk;simp only [zbi.l6];rw [if_t (lt_t hk),zbv hk,zal,place_eq _ _ hc hr,zal,zbn hk,zaz (by omega)];exact zik rfl
    ·intro rec3;simp only [zbi.l6,zbi.k5];rw [if_f (lt_f (Nat.lt_irrefl _)),zaz (by have:=hman.2.1;omega)]
   ·intro rec2;simp only [zbi.l4,zbi.k3];rw [if_f (lt_f (Nat.lt_irrefl _)),zaz (by omega),namesM_put,zdl hi]
  have key:∀ (o:Bool),(if ((((!inB c.snaps[i].seq 0 (c.seq - 1)||o)||decide (c.snaps[i].man.name∈(c.snaps.take i).map fun s=>s.man.name))||decide ((if (!((!inB c.snaps[i].seq 0 (c.seq - 1)||o)||decide (c.snaps[i].man.name∈(c.snaps.take i).map fun s=>s.man.name)))=true then (if manB c.snaps[i].man then (0:Int) else 1) else 0)≠0)) || !(if (!(((!inB c.snaps[i].seq 0 (c.seq - 1)||o)||decide (c.snaps[i].man.name∈(c.snaps.take i).map fun s=>s.man.name))||decide ((if (!((!inB c.snaps[i].seq 0 (c.seq - 1)||o)||decide (c.snaps[i].man.name∈(c.snaps.take i).map fun s=>s.man.name)))=true then (if manB c.snaps[i].man then (0:Int) else 1) else 0)≠0)))=true then zie c.vols c.snaps[i].locs else false))=true then some false else loop (zbi.l4 c (i:Int) (zmo (c.snaps.take i)) rec c.snaps[i]) 0) =
    if (inB c.snaps[i].seq 0 (c.seq - 1) && !o && !decide (c.snaps[i].man.name∈(c.snaps.take i).map fun s=>s.man.name)&&decide (manB c.snaps[i].man)&&zie c.vols c.snaps[i].locs&&idsIn c c.snaps[i].man)=true then rec (((i+1:Nat):Int),zmo (c.snaps.take (i+1))) else some false:=by
   intro o
   by_cases hman:manB c.snaps[i].man
   ·rw [hin hman];simp only [hman,if_true,decide_true];generalize idsIn c c.snaps[i].man=p;generalize zie c.vols c.snaps[i].locs=q;generalize decide (c.snaps[i].man.name∈(c.snaps.take i).map fun s=>s.man.name)=s;generalize inB c.snaps[i].seq 0 (c.seq - 1)=u;cases o <;> cases p <;> cases q <;> cases s <;> cases u <;> rfl
   ·simp only [hman,if_false,decide_false];generalize idsIn c c.snaps[i].man=p;generalize zie c.vols c.snaps[i].locs=q;generalize decide (c.snaps[i].man.name∈(c.snaps.take i).map fun s=>s.man.name)=s;generalize inB c.snaps[i].seq 0 (c.seq - 1)=u;cases o <;> cases p <;> cases q <;> cases s <;> cases u <;> rfl
  by_cases hi0:0 < i
  ·have e2:ix c.snaps (wr ((i:Int) - 1))=some (c.snaps.getD (i - 1) default):=by
    rw [zle hi0 (by omega),zbv (show i - 1 < c.snaps.length by omega),zbn (by omega)]
   have h0':decide ((0:Int) < (i:Int))=true:=decide_eq_true (by omega);rw [e2,h0'];simp only [zci,zal,Bool.true_and,Bool.and_true];have hdd:∀ z:Snap,(!inB c.snaps[i].seq 0 (c.seq - 1)||decide (c.snaps[i].seq≤(if (!!inB c.snaps[i].seq 0 (c.seq - 1))=true then c.snaps.getD (i - 1) default else z).seq))=(!inB c.snaps[i].seq 0 (c.seq - 1) || !decide ((c.snaps.getD (i - 1) default).seq < c.snaps[i].seq)):=by
    intro z;cases inB c.snaps[i].seq 0 (c.seq - 1) with
    | false=>rfl
    | true =>
     simp only [Bool.not_true,Bool.not_false,if_true,Bool.false_or]
     by_cases h:(c.snaps.getD (i - 1) default).seq < c.snaps[i].seq
     ·rw [decide_eq_true h,decide_eq_false (by omega)];rfl
     ·rw [decide_eq_false h,decide_eq_true (by omega)];rfl
   rw [hdd];refine (key _).trans ?_;unfold znf;rw [e1,decide_eq_true hi0];simp only [Bool.not_not,Bool.not_true,Bool.false_or]
  ·have h0':decide ((0:Int) < (i:Int))=false:=decide_eq_false (by omega);rw [h0'];simp only [Bool.and_false,Bool.false_and,zel,zal];refine (key _).trans ?_;unfold znf;rw [e1,decide_eq_false hi0];rfl
 ·intro rec;simp only [zbi.l2,zbi.k1];rw [if_f (lt_f (Nat.lt_irrefl _))]
  congr 1
  by_cases h:c.snaps.length≤8
  ·rw [decide_eq_true h,decide_eq_true (by omega)]
  ·rw [decide_eq_false h,decide_eq_false (by omega)]
def zur (c:Catalog) (i:Nat):Bool:=inB (c.exps.getD i default).seq 0 (c.seq - 1)&&(!decide (0 < i)||decide ((c.exps.getD (i - 1) default).seq < (c.exps.getD i default).seq))&&inB (c.exps.getD i default).of 0 ((c.exps.getD i default).seq - 1)&&decide (0 < (c.exps.getD i default).locs.length)&&zie c.vols (c.exps.getD i default).locs&&allN c.snaps.length fun k=>!decide ((c.snaps.getD k default).seq=(c.exps.getD i default).of)
def zxq (c:Catalog):Bool:=allN c.exps.length (zur c)&&decide (c.exps.length≤200)
theorem contains_exp (l:List Snap) (x:Exp) (hl:l.length≤1073741824):zcc l x=some (!allN l.length fun k=>!decide ((l.getD k default).seq=x.of)):=by
 unfold zcc zas;rw [zma l.length (fun k=>decide ((l.getD k default).seq=x.of)) (by omega) ?_ ?_,zal,zsj]
 ·intro rec i hi;simp only [zas.l2];rw [if_t (lt_t hi),zbv hi,zal,zbn hi,zaz (by omega)];rfl
 ·intro rec;simp only [zas.l2,zas.k1];rw [if_f (lt_f (Nat.lt_irrefl _))]
theorem exps_eq (c:Catalog) (hv:c.vols.length≤1073741824) (hs:c.snaps.length≤1073741824) (hl:c.exps.length≤1073741824) (h0:0≤c.seq) (h1:c.seq≤1073741824):zes c=some (zxq c):=by
 unfold zes;rw [zfr c.exps.length (zur c) (some (decide (c.exps.length≤200))) (some false) (by omega) ?_ ?_]
 ·unfold zxq;cases allN c.exps.length (zur c) <;> rfl
 ·intro rec i hi;simp only [zes.l2];rw [if_t (lt_t hi),zbv hi,zal];have e1:c.exps.getD i default=c.exps[i]:=zbn hi;simp only [in_eq,zci,zal,locs_eq _ _ hv,contains_exp _ _ hs,zho (show (-9223372036854775808:Int)≤c.seq - 1 by omega) (by omega),zaz (show i < 4611686018427387904 by omega)];have d2:decide ((c.exps[i].locs.length:Int)=0) = !decide (0 < c.exps[i].locs.length):=by
   by_cases h:0 < c.exps[i].locs.length
   ·rw [decide_eq_true h,decide_eq_false (by omega)];rfl
   ·rw [decide_eq_false h,decide_eq_true (by omega)];rfl
  rw [d2];have hw:inB c.exps[i].seq 0 (c.seq - 1)=true→wr (c.exps[i].seq - 1)=c.exps[i].seq - 1:=fun h=>by
   obtain ⟨q1,q2⟩:=zil.1 h;exact zho (by omega) (by omega)
  have key:∀ (o:Bool),(if ((((!inB c.exps[i].seq 0 (c.seq - 1)||o) || !(if (!(!inB c.exps[i].seq 0 (c.seq - 1)||o))=true then inB c.exps[i].of 0 (wr (c.exps[i].seq - 1)) else false)) || !decide (0 < c.exps[i].locs.length)) || !(if (!(((!inB c.exps[i].seq 0 (c.seq - 1)||o) || !(if (!(!inB c.exps[i].seq 0 (c.seq - 1)||o))=true then inB c.exps[i].of 0 (wr (c.exps[i].seq - 1)) else false)) || !decide (0 < c.exps[i].locs.length)))=true then zie c.vols c.exps[i].locs else false))=true then some false else if (!allN c.snaps.length fun k=>!decide ((c.snaps.getD k default).seq=c.exps[i].of))=true then some false else rec ((i+1:Nat):Int)) =
    if (inB c.exps[i].seq 0 (c.seq - 1) && !o&&inB c.exps[i].of 0 (c.exps[i].seq - 1)&&decide (0 < c.exps[i].locs.length)&&zie c.vols c.exps[i].locs&&allN c.snaps.length fun k=>!decide ((c.snaps.getD k default).seq=c.exps[i].of))=true then rec ((i+1:Nat):Int) else some false:=by
   intro o;cases hin:inB c.exps[i].seq 0 (c.seq - 1) with
   | false=>rfl
   | true =>
    rw [hw hin];generalize (allN c.snaps.length fun k=>!decide ((c.snaps.getD k default).seq=c.exps[i].of))=p;generalize zie c.vols c.exps[i].locs=q;generalize decide (0 < c.exps[i].locs.length)=s;generalize inB c.exps[i].of 0 (c.exps[i].seq - 1)=u;cases o <;> cases p <;> cases q <;> cases s <;> cases u <;> rfl
  by_cases hi0:0 < i
  ·have e2:ix c.exps (wr ((i:Int) - 1))=some (c.exps.getD (i - 1) default):=by
    rw [zle hi0 (by omega),zbv (show i - 1 < c.exps.length by omega),zbn (by omega)]
   have h0':decide ((0:Int) < (i:Int))=true:=decide_eq_true (by omega);rw [e2,h0'];simp only [zci,zal,Bool.true_and,Bool.and_true];have hdd:∀ z:Exp,(!inB c.exps[i].seq 0 (c.seq - 1)||decide (c.exps[i].seq≤(if (!!inB c.exps[i].seq 0 (c.seq - 1))=true then c.exps.getD (i - 1) default else z).seq))=(!inB c.exps[i].seq 0 (c.seq - 1) || !decide ((c.exps.getD (i - 1) default).seq < c.exps[i].seq)):=by
    intro z;cases inB c.exps[i].seq 0 (c.seq - 1) with
    | false=>rfl
    | true =>
     simp only [Bool.not_true,Bool.not_false,if_true,Bool.false_or]
     by_cases h:(c.exps.getD (i - 1) default).seq < c.exps[i].seq
     ·rw [decide_eq_true h,decide_eq_false (by omega)];rfl
     ·rw [decide_eq_false h,decide_eq_true (by omega)];rfl
   rw [hdd];refine (key _).trans ?_;unfold zur;rw [e1,decide_eq_true hi0];simp only [Bool.not_not,Bool.not_true,Bool.false_or]
  ·have h0':decide ((0:Int) < (i:Int))=false:=decide_eq_false (by omega);rw [h0'];simp only [Bool.and_false,Bool.false_and,zel,zal];refine (key _).trans ?_;unfold zur;rw [e1,decide_eq_false hi0];rfl
 ·intro rec;simp only [zes.l2,zes.k1];rw [if_f (lt_f (Nat.lt_irrefl _))]
  congr 1
  by_cases h:c.exps.length≤200
  ·rw [decide_eq_true h,decide_eq_true (by omega)]
  ·rw [decide_eq_false h,decide_eq_false (by omega)]
def catB (c:Catalog):Bool:=inB c.seq 0 1073741824&&zve c.vols&&zje c&&zpu c&&zxq c
theorem zxx (c:Catalog) (hv:c.vols.length≤1073741824) (hc:c.chunks.length≤1073741824) (hs:c.snaps.length≤1073741824) (he:c.exps.length≤1073741824):zgs c=some (if catB c=true then 0 else 1):=by
 unfold zgs catB;rw [in_eq,zal,vols_eq _ hv,zci,zal,chunks_eq _ hv hc,zci,zal];cases h1:inB c.seq 0 1073741824 with
 | false=>rfl
 | true =>
  obtain ⟨s0,s1⟩:=zil.1 h1;rw [exps_eq c hv hs he s0 s1];cases h2:zve c.vols with
  | false=>rfl
  | true =>
   cases h3:zje c with
   | false=>rfl
   | true =>
    rw [snaps_eq c hv hc (zqu h3) hs s0 s1];cases h4:zpu c with
    | false=>rfl
    | true=>cases h5:zxq c <;> rfl
end Go.Wk.Lf
end
section
namespace Go.Wk.Lf
open Go.V Go.Sort Go.Proofs
theorem zls {α:Type} [DecidableEq α] [Inhabited α] {F:(Int→Option Bool)→Int→Option Bool} {a b:List α} (hn:a.length < 4611686018427387904)
  (hstep:∀ rec (i:Nat) (h1:i < a.length) (h2:i < b.length),F rec (i:Int)=if decide (a[i]=b[i])=true then rec ((i+1:Nat):Int) else some false) (hend:∀ rec,F rec (a.length:Int)=some true) :
  (if decide ((a.length:Int)≠(b.length:Int))=true then some false else loop F 0)=some (decide (a=b)):=by
 by_cases hl:a.length=b.length
 ·rw [if_f (decide_eq_false (by omega)),zfr a.length (fun i=>decide (a.getD i default=b.getD i default)) (some true) (some false) hn ?_ hend]
  ·by_cases h:a=b
   ·subst h;rw [if_pos (zec.2 fun i hi=>by simp),decide_eq_true rfl]
   ·rw [if_neg ?_,decide_eq_false h];intro q;refine h (List.ext_getElem hl fun i h1 h2=>?_);have:=zec.1 q i h1;rw [zbn h1,zbn h2] at this;exact of_decide_eq_true this
  ·intro rec i hi;rw [hstep rec i hi (by omega),zbn hi,zbn (show i < b.length by omega)]
 ·rw [if_t (decide_eq_true (by omega)),decide_eq_false fun h=>hl (by rw [h])]
theorem kbytes_eq (a b:List UInt8) (h:a.length≤1073741824):zcw a b=some (decide (a=b)):=by
 unfold zcw;refine zls (by omega) (fun rec i h1 h2=>?_) (fun rec=>?_)
 ·simp only [zcw.l2];rw [if_t (lt_t h1),zbv h1,zal,zbv h2,zal,zaz (by omega)];refine zik ?_
  by_cases h:a[i]=b[i]
  ·simp [h]
  ·have:(a[i].toNat:Int)≠(b[i].toNat:Int):=fun q=>h (UInt8.toNat_inj.1 (by omega));simp [h,this]
 ·simp only [zcw.l2,zcw.k1];rw [if_f (lt_f (Nat.lt_irrefl _))]
theorem kids_eq (a b:List (List UInt8)) (h:a.length≤1073741824):zdd a b=some (decide (a=b)):=by
 unfold zdd;refine zls (by omega) (fun rec i h1 h2=>?_) (fun rec=>?_)
 ·simp only [zdd.l2];rw [if_t (lt_t h1),zbv h1,zal,zbv h2,zal,zaz (by omega)];exact zik rfl
 ·simp only [zdd.l2,zdd.k1];rw [if_f (lt_f (Nat.lt_irrefl _))]
theorem kloc_eq (a b:Loc):zhz a b=some (decide (a=b)):=by
 unfold zhz
 congr 1
 obtain ⟨a1,a2,a3,a4⟩:=a;obtain ⟨b1,b2,b3,b4⟩:=b;simp only [Loc.mk.injEq,Bool.decide_and];cases decide (a1=b1) <;> cases decide (a2=b2) <;> cases decide (a3=b3) <;> rfl
theorem zxi (a b:List Loc) (h:a.length≤1073741824):zcn a b=some (decide (a=b)):=by
 unfold zcn;refine zls (by omega) (fun rec i h1 h2=>?_) (fun rec=>?_)
 ·simp only [zcn.l2];rw [if_t (lt_t h1),zbv h1,zal,zbv h2,zal,kloc_eq,zal,zaz (by omega)];exact zik rfl
 ·simp only [zcn.l2,zcn.k1];rw [if_f (lt_f (Nat.lt_irrefl _))]
theorem kvols_eq (a b:List Vol) (h:a.length≤1073741824):zcz a b=some (decide (a=b)):=by
 unfold zcz;refine zls (by omega) (fun rec i h1 h2=>?_) (fun rec=>?_)
 ·simp only [zcz.l2];rw [if_t (lt_t h1),zbv h1,zal,zbv h2,zal,zaz (by omega)];refine zik ?_;generalize a[i]=x;generalize b[i]=y;obtain ⟨a1,a2,a3,a4⟩:=x;obtain ⟨b1,b2,b3,b4⟩:=y;simp only [Vol.mk.injEq,Bool.decide_and,ne_eq,decide_not];cases decide (a1=b1) <;> cases decide (a2=b2) <;> cases decide (a3=b3) <;> rfl
 ·simp only [zcz.l2,zcz.k1];rw [if_f (lt_f (Nat.lt_irrefl _))]
def smallK (x:Chunk):Prop:=x.data.length≤1073741824∧x.locs.length≤1073741824
def smallM (m:Manifest):Prop:=m.parts.length≤1073741824 ∧ ∀ p∈m.parts,p.ids.length≤1073741824
def smallS (s:Snap):Prop:=smallM s.man∧s.locs.length≤1073741824
def zvm (c:Catalog):Prop:=c.vols.length≤1073741824∧(c.chunks.length≤1073741824 ∧ ∀ x∈c.chunks,smallK x)∧(c.snaps.length≤1073741824 ∧ ∀ s∈c.snaps,smallS s)∧c.exps.length≤1073741824 ∧ ∀ x∈c.exps,x.locs.length≤1073741824
theorem zkz {p:Bool} {o:Option Bool} {q:Bool} (h:o=some q):only p o false=some (p&&q):=by
 subst h;cases p <;> rfl
theorem kman_eq (a b:Manifest) (h:smallM a):zcg a b=some (decide (a=b)):=by
 unfold zcg;obtain ⟨an,ap⟩:=a;obtain ⟨bn,bp⟩:=b
 by_cases hn:an=bn
 ·subst hn;simp only [beq_self_eq_true,Bool.not_true,Bool.false_or,Manifest.mk.injEq,true_and];refine zls (by have:=h.1;simp only at this;omega) (fun rec i h1 h2=>?_) (fun rec=>?_)
  ·simp only [zcg.l2];have hi:=h.2 ap[i] (List.getElem_mem h1);rw [if_t (lt_t h1),zbv h1,zal,zbv h2,zal,zkz (kids_eq _ _ hi),zal,zaz (by have:=h.1;simp only at this;omega)];refine zik ?_;generalize ap[i]=x;generalize bp[i]=y;obtain ⟨a1,a2,a3⟩:=x;obtain ⟨b1,b2,b3⟩:=y;simp only [Part.mk.injEq,Bool.decide_and,ne_eq,decide_not];have:(a1 == b1)=decide (a1=b1):=by rw [Bool.eq_iff_iff];simp
   rw [this];cases decide (a1=b1) <;> cases decide (a2=b2) <;> cases decide (a3=b3) <;> rfl
  ·simp only [zcg.l2,zcg.k1];rw [if_f (lt_f (Nat.lt_irrefl _))]
 ·rw [if_t (by simp [hn]),decide_eq_false fun q=>hn (Manifest.mk.inj q).1]
theorem ksnap_eq (a b:Snap) (h:smallS a):zhl a b=some (decide (a=b)):=by
 unfold zhl;rw [zkz (kman_eq _ _ h.1),zal,zkz (zxi _ _ h.2),zal]
 congr 1
 obtain ⟨a1,a2,a3⟩:=a;obtain ⟨b1,b2,b3⟩:=b;simp only [Snap.mk.injEq,Bool.decide_and];cases decide (a1=b1) <;> cases decide (a2=b2) <;> cases decide (a3=b3) <;> rfl
theorem kchunk_eq (a b:Chunk) (h:smallK a):zha a b=some (decide (a=b)):=by
 unfold zha;rw [zkz (kbytes_eq _ _ h.1),zal,zkz (zxi _ _ h.2),zal]
 congr 1
 obtain ⟨a1,a2,a3,a4⟩:=a;obtain ⟨b1,b2,b3,b4⟩:=b;simp only [Chunk.mk.injEq,Bool.decide_and];have:(a2 == b2)=decide (a2=b2):=by cases a2 <;> cases b2 <;> rfl
 rw [this];cases decide (a1=b1) <;> cases decide (a2=b2) <;> cases decide (a3=b3) <;> cases decide (a4=b4) <;> rfl
theorem kchunks_eq (a b:List Chunk) (h:a.length≤1073741824) (hs:∀ x∈a,smallK x):zcq a b=some (decide (a=b)):=by
 unfold zcq;refine zls (by omega) (fun rec i h1 h2=>?_) (fun rec=>?_)
 ·simp only [zcq.l2];rw [if_t (lt_t h1),zbv h1,zal,zbv h2,zal,kchunk_eq _ _ (hs _ (List.getElem_mem h1)),zal,zaz (by omega)];exact zik rfl
 ·simp only [zcq.l2,zcq.k1];rw [if_f (lt_f (Nat.lt_irrefl _))]
def zwu (a b:Catalog):Prop:=a.snaps=b.snaps∧a.chunks=b.chunks∧a.exps=b.exps∧a.vols=b.vols
instance (a b : Catalog) : Decidable (zwu a b) := by unfold zwu; infer_instance
theorem sameC_refl (a:Catalog):zwu a a:=⟨rfl,rfl,rfl,rfl⟩
theorem loop_same {α:Type} [DecidableEq α] [Inhabited α] {F:(Int→Option Bool)→Int→Option Bool} {a b:List α} {K:Option Bool} (hl:a.length=b.length) (hn:a.length < 4611686018427387904)
  (hstep:∀ rec (i:Nat) (h1:i < a.length) (h2:i < b.length),F rec (i:Int)=if decide (a[i]=b[i])=true then rec ((i+1:Nat):Int) else some false) (hend:∀ rec,F rec (a.length:Int)=K) :
  loop F 0=if decide (a=b)=true then K else some false:=by
 rw [zfr a.length (fun i=>decide (a.getD i default=b.getD i default)) K (some false) hn ?_ hend]
 ·by_cases h:a=b
  ·subst h;rw [if_pos (zec.2 fun i hi=>by simp),if_t (decide_eq_true rfl)]
  ·rw [if_neg ?_,if_f (decide_eq_false h)];intro q;refine h (List.ext_getElem hl fun i h1 h2=>?_);have:=zec.1 q i h1;rw [zbn h1,zbn h2] at this;exact of_decide_eq_true this
 ·intro rec i hi;rw [hstep rec i hi (by omega),zbn hi,zbn (show i < b.length by omega)]
theorem kcat_eq (a b:Catalog) (h:zvm a):zbb a b=some (decide (zwu a b)):=by
 obtain ⟨hv,⟨hc,hc2⟩,⟨hs,hs2⟩,he,he2⟩:=h;unfold zbb;rw [zkz (kchunks_eq _ _ hc hc2),zal,zkz (kvols_eq _ _ hv),zal]
 by_cases l1:a.snaps.length=b.snaps.length
 ·by_cases l2:a.exps.length=b.exps.length
  ·have d1:(decide ((a.snaps.length:Int)≠(b.snaps.length:Int))||decide ((a.exps.length:Int)≠(b.exps.length:Int)))=false:=by
    rw [decide_eq_false (by omega),decide_eq_false (by omega)];rfl
   rw [d1]
   by_cases e1:a.chunks=b.chunks
   ·by_cases e2:a.vols=b.vols
    ·rw [decide_eq_true e1,decide_eq_true e2];simp only [Bool.false_or,Bool.not_false,Bool.true_and,Bool.not_true,Bool.false_eq_true,if_false];rw [loop_same (a:=a.snaps) (b:=b.snaps) (K:=if decide (a.exps=b.exps)=true then some true else some false) l1 (by omega) (fun rec i h1 h2=>?_) (fun rec=>?_)]
     ·by_cases e3:a.snaps=b.snaps
      ·by_cases e4:a.exps=b.exps
       ·rw [if_t (decide_eq_true e3),if_t (decide_eq_true e4),decide_eq_true (show zwu a b from ⟨e3,e1,e4,e2⟩)]
       ·rw [if_t (decide_eq_true e3),if_f (decide_eq_false e4),decide_eq_false fun q=>e4 q.2.2.1]
      ·rw [if_f (decide_eq_false e3),decide_eq_false fun q=>e3 q.1]
     ·simp only [zbb.l4];rw [if_t (lt_t h1),zbv h1,zal,zbv h2,zal,ksnap_eq _ _ (hs2 _ (List.getElem_mem h1)),zal,zaz (by omega)];exact zik rfl
     ·simp only [zbb.l4,zbb.k1];rw [if_f (lt_f (Nat.lt_irrefl _))];refine loop_same (a:=a.exps) (b:=b.exps) l2 (by omega) (fun rec i h1 h2=>?_) (fun rec=>?_)
      ·simp only [zbb.l3];rw [if_t (lt_t h1),zbv h1,zal,zbv h2,zal,zkz (zxi _ _ (he2 _ (List.getElem_mem h1))),zal,zaz (by omega)];refine zik ?_;generalize a.exps[i]=x;generalize b.exps[i]=y;obtain ⟨a1,a2,a3⟩:=x;obtain ⟨b1,b2,b3⟩:=y;simp only [Exp.mk.injEq,Bool.decide_and,ne_eq,decide_not];cases decide (a1=b1) <;> cases decide (a2=b2) <;> cases decide (a3=b3) <;> rfl
      ·simp only [zbb.l3,zbb.k2];rw [if_f (lt_f (Nat.lt_irrefl _))]
    ·rw [decide_eq_false e2,decide_eq_false (show ¬zwu a b from fun q=>e2 q.2.2.2)];simp
   ·rw [decide_eq_false e1,decide_eq_false (show ¬zwu a b from fun q=>e1 q.2.1)];simp
  ·rw [if_t (by rw [decide_eq_true (show (a.exps.length:Int)≠(b.exps.length:Int) by omega)];simp),decide_eq_false fun q=>l2 (by rw [q.2.2.1])]
 ·rw [if_t (by rw [decide_eq_true (show (a.snaps.length:Int)≠(b.snaps.length:Int) by omega)];simp),decide_eq_false fun q=>l1 (by rw [q.1])]
theorem znq {α A:Type} {F:(Int × List α→Option A)→Int × List α→Option A} (l:List α) (g:α→α) (K:List α→Option A) (hn:l.length < 4611686018427387904)
  (hstep:∀ rec (i:Nat) (m:List α) (hi:i < l.length) (hm:m.length=l.length),m[i]? = some l[i]→F rec ((i:Int),m)=rec (((i+1:Nat):Int),m.set i (g l[i]))) (hend:∀ rec m,m.length=l.length→F rec ((l.length:Int),m)=K m):loop F (0,l)=K (l.map g):=by
 refine zgc (σ:=List α) (fun i m=>((i:Int),m)) l.length (fun i m=>m=(l.take i).map g++l.drop i) _ (i0:=0) (s0:=l) rfl (Nat.zero_le _) (by simp) hn ?_ ?_
 ·intro rec i m hi hI hrec;have hml:m.length=l.length:=by rw [hI];simp;omega
  have hmi:m[i]? = some l[i]:=by
   rw [hI,List.getElem?_append_right (by simp;omega)];simp [Nat.min_eq_left (Nat.le_of_lt hi),hi]
  rw [hstep rec i m hi hml hmi];refine hrec _ ?_;rw [hI,List.set_append_right _ _ (by simp;omega),zdl hi,List.map_append,List.append_assoc]
  congr 1
  rw [List.length_map,List.length_take,Nat.min_eq_left (Nat.le_of_lt hi),Nat.sub_self,List.drop_eq_getElem_cons hi];rfl
 ·intro rec m hI;have hml:m.length=l.length:=by rw [hI];simp
  rw [hend rec m hml,hI,List.take_length,List.drop_length,List.append_nil]
theorem zkx {α:Type} (l:List α) (hl:l.length≤1073741824):(bd (app (α:=α) ([]:List α) l) fun l6=>some l6)=some l:=by
 rw [zdu (by simpa using hl),zal,List.nil_append]
theorem ix_of {α:Type} {m:List α} {i:Nat} {x:α} (h:m[i]? = some x):ix m (i:Int)=some x:=h
theorem twinMan_eq (m:Manifest) (h:smallM m):zdj m=some m:=by
 unfold zdj zey;rw [zkx _ h.1,zal,znq m.parts id (fun l=>some (Manifest.mk m.name l)) (by have:=h.1;omega) ?_ ?_,List.map_id]
 ·intro rec i l hi hm hx;simp only [zdj.l2];rw [if_t (lt_t hi),ix_of hx,zal,cloneI_eq _ (h.2 _ (List.getElem_mem hi)),zal,zaz (by have:=h.1;omega)];rfl
 ·intro rec l hl;simp only [zdj.l2,zdj.k1];rw [if_f (lt_f (Nat.lt_irrefl _))]
theorem twinCat_eq (c:Catalog) (h:zvm c):zbq c=some c:=by
 obtain ⟨hv,⟨hc,hc2⟩,⟨hs,hs2⟩,he,he2⟩:=h;unfold zbq zex zet zfh zeh;rw [zkx _ hs,zal,zkx _ hc,zal,zkx _ he,zal,zkx _ hv,zal];have k3:∀ (sn:List Snap) (ch:List Chunk),zbq.k2 c c.exps c.vols sn ch=some (Catalog.mk c.seq sn ch c.exps c.vols):=by
  intro sn ch;unfold zbq.k2;rw [znq c.exps id (fun l=>some (Catalog.mk c.seq sn ch l c.vols)) (by omega) ?_ ?_,List.map_id]
  ·intro rec i l hi hm hx;simp only [zbq.l4,zbz];rw [if_t (lt_t hi),ix_of hx,zal,zkx _ (he2 _ (List.getElem_mem hi)),zal,zaz (by omega)];rfl
  ·intro rec l hl;simp only [zbq.l4,zbq.k3];rw [if_f (lt_f (Nat.lt_irrefl _))]
 have k2:∀ (sn:List Snap),zbq.k1 c c.chunks c.exps c.vols sn=some (Catalog.mk c.seq sn c.chunks c.exps c.vols):=by
  intro sn;unfold zbq.k1;rw [znq c.chunks id (fun l=>some (Catalog.mk c.seq sn l c.exps c.vols)) (by omega) ?_ ?_,List.map_id]
  ·intro rec i l hi hm hx;simp only [zbq.l5,zbz];have hk:=hc2 _ (List.getElem_mem hi);rw [if_t (lt_t hi),ix_of hx,zal,cloneB_eq _ hk.1,zal,zkx _ hk.2,zal,zaz (by omega),List.set_set];rfl
  ·intro rec l hl;simp only [zbq.l5];rw [if_f (lt_f (Nat.lt_irrefl _))];exact k3 sn l
 rw [znq c.snaps id (fun l=>some (Catalog.mk c.seq l c.chunks c.exps c.vols)) (by omega) ?_ ?_,List.map_id]
 ·intro rec i l hi hm hx;simp only [zbq.l6,zbz];have hk:=hs2 _ (List.getElem_mem hi);rw [if_t (lt_t hi),ix_of hx,zal,twinMan_eq _ hk.1,zal,zkx _ hk.2,zal,zaz (by omega),List.set_set];rfl
 ·intro rec l hl;simp only [zbq.l6];rw [if_f (lt_f (Nat.lt_irrefl _))];exact k2 l
theorem zwf {c:Catalog} (h:catB c=true):zvm c:=by
 unfold catB zve zje zpu zxq at h;simp only [Bool.and_eq_true,decide_eq_true_eq,zec,zil] at h;obtain ⟨⟨⟨⟨_,_,_,hv⟩,hc,hcl⟩,hs,hsl⟩,he,hel⟩:=h;have hloc:∀ l,zie c.vols l=true→l.length≤1073741824:=fun l h=>by
  unfold zie at h;rw [Bool.and_eq_true,decide_eq_true_eq] at h;omega
 refine ⟨by omega,⟨by omega,fun x hx=>?_⟩,⟨by omega,fun x hx=>?_⟩,by omega,fun x hx=>?_⟩
 ·obtain ⟨i,hi,rfl⟩:=List.getElem_of_mem hx;have:=hc i hi;unfold zhd zuu at this;rw [zbn hi] at this;simp only [Bool.and_eq_true] at this;refine ⟨?_,hloc _ this.1.2⟩;have h2:=this.2
  split at h2
  ·have:=zil.1 h2;omega
  ·simp only [Bool.and_eq_true,decide_eq_true_eq] at h2;omega
 ·obtain ⟨i,hi,rfl⟩:=List.getElem_of_mem hx;have:=hs i hi;unfold znf at this;rw [zbn hi] at this;simp only [Bool.and_eq_true,decide_eq_true_eq] at this;have hm:=this.1.1.2;exact ⟨⟨by have:=hm.2.1;omega,fun p hp=>by have:=(partB_num (zvr hm p hp)).2.2.2.1;omega⟩,hloc _ this.1.2⟩
 ·obtain ⟨i,hi,rfl⟩:=List.getElem_of_mem hx;have:=he i hi;unfold zur at this;rw [zbn hi] at this;simp only [Bool.and_eq_true,decide_eq_true_eq] at this;exact hloc _ this.1.2
end Go.Wk.Lf
end
section
namespace Go.Wk.Lf
open Go.V Go.Sort Go.Proofs
end Go.Wk.Lf
end
section
namespace Go.Wk.Lf
open Go.V Go.Sort Go.Proofs
def zyc (vs:List Vol):Catalog:=⟨0,[],[],[],vs⟩
end Go.Wk.Lf
end
section
namespace Go.Wk.Lf
open Go.V Go.Sort Go.Proofs
theorem wakes24:zgr=some true:=by decide +kernel
end Go.Wk.Lf
end
section
namespace Go.Wk.Lf
open Go.V Go.Sort Go.Proofs
theorem and_one (x:Int):bits .and .i64 x 1=0∨bits .and .i64 x 1=1:=by
 have h2:(BitVec.ofInt 64 (1:Int)).toNat=1:=by decide
 have h:bits .and .i64 x 1=(((BitVec.ofInt 64 x).toNat % 2:Nat):Int):=by
  show IntKind.i64.wrap ((BitVec.ofInt 64 x &&& BitVec.ofInt 64 (1:Int)).toNat:Int)=_;rw [BitVec.toNat_and,h2,Nat.and_one_is_mod];exact zho (by omega) (by omega)
 rw [h];omega
theorem pools_eq (l:List Int) (hl:l.length≤1073741824):∃ p:List Int,zbp l=some p∧1≤p.length∧p.length≤8 ∧ ∀ x∈p,x=0∨x=1:=by
 unfold zbp;refine zqk (σ:=List Int) (fun i m=>(m,(i:Int))) (min l.length 8) (fun i m=>m.length=i ∧ ∀ x∈m,x=0∨x=1) (fun o=>∃ p:List Int,o=some p∧1≤p.length∧p.length≤8 ∧ ∀ x∈p,x=0∨x=1) (i0:=0) (s0:=[]) rfl (Nat.zero_le _) ⟨rfl,fun x hx=>by cases hx⟩ (by omega) ?_ ?_
 ·intro rec i m hi hI hrec;simp only [zbp.l3];have hil:i < l.length:=by omega
  rw [if_t (by rw [lt_t hil,decide_eq_true (show (i:Int) < 8 by omega)];rfl),zbv hil,zal,zdu (by simp;omega),zal,zaz (by omega)];refine hrec _ ⟨by simp [hI.1],fun x hx=>?_⟩;rcases List.mem_append.1 hx with hx | hx
  ·exact hI.2 x hx
  ·obtain rfl:=List.mem_singleton.1 hx;exact and_one _
 ·intro rec m hI;simp only [zbp.l3];have hc:(decide (((min l.length 8:Nat):Int) < (l.length:Int))&&decide (((min l.length 8:Nat):Int) < 8))=false:=by
   by_cases h:l.length≤8
   ·rw [decide_eq_false (by omega)];rfl
   ·rw [decide_eq_false (show ¬((min l.length 8:Nat):Int) < 8 by omega),Bool.and_false]
  rw [if_f hc];unfold zbp.k1 zbp.k2
  by_cases h0:m.length=0
  ·rw [if_t (decide_eq_true (by omega))];exact ⟨[0],rfl,by simp,by simp,fun x hx=>by simp at hx;exact .inl hx⟩
  ·rw [if_f (decide_eq_false (by omega))];exact ⟨m,rfl,by omega,by omega,hI.2⟩
def zlp (p:List Int):List Vol:=p.map fun x=>Vol.mk x 0 1 0
theorem new_right (p:List Int) (h1:1≤p.length) (h8:p.length≤8) (hp:∀ x∈p,x=0∨x=1):catB (zyc (zlp p))=true:=by
 have hv:zve (zlp p)=true:=by
  unfold zve;rw [Bool.and_eq_true,List.all_eq_true];refine ⟨fun v hv=>?_,zil.2 (by simp [zlp];omega)⟩;obtain ⟨x,hx,rfl⟩:=List.mem_map.1 hv;rcases hp x hx with rfl | rfl <;> decide
 unfold catB;rw [show (zyc (zlp p)).vols=zlp p from rfl,hv];rfl
end Go.Wk.Lf
end
section
namespace Go.Wk.Lf
open Go.V Go.Sort Go.Proofs
def zuf (l:List File):Bool:=decide (6 < l.length)||l.any fun f=>decide (200 < f.data.length)
theorem long_f {l:List File} (h:zuf l=false):l.length≤6 ∧ ∀ f∈l,f.data.length≤200:=by
 simp only [zuf,Bool.or_eq_false_iff,decide_eq_false_iff_not,List.any_eq_false] at h;exact ⟨by omega,fun f hf=>by have:=h.2 f hf;simp at this;omega⟩
def badB (l:List File):Bool:=l.any fun f=>!zij f.path
def zku (l:List File):Prop:=l.Pairwise fun a b=>sLt a.path b.path=true
theorem rises_adj (l:List File):zku l ↔ ∀ i (h:i < l.length),0 < i→sLt (l[i - 1]'(by omega)).path l[i].path=true:=by
 unfold zku;constructor
 ·intro h i hi h0;exact List.pairwise_iff_getElem.1 h (i - 1) i (by omega) hi (by omega)
 ·intro h;rw [List.pairwise_iff_getElem];intro i j hi hj hij
  induction j with
  | zero=>omega
  | succ j ih =>
   have h1:=h (j+1) hj (by omega);rcases (by omega:i=j∨i < j) with rfl | h2
   ·exact h1
   ·exact zhv (ih (by omega) h2) h1
instance (l : List File) : Decidable (zku l) := by unfold zku; infer_instance
def chkL (l:List File):Int:=if zuf l=true then 2 else if badB l=false∧zku l then 0 else 1
theorem loop_allB {S A:Type} {F:(S→Option A)→S→Option A} (mk:Nat→S) (n:Nat) (ok:Nat→Bool) (K B:Option A) {x0:S} (hx:x0=mk 0) (hn:n < 9223372036854775808)
  (hstep:∀ rec i,i < n→F rec (mk i)=if ok i=true then rec (mk (i+1)) else B) (hend:∀ rec,F rec (mk n)=K):loop F x0=if (∀ i,i < n→ok i=true) then K else B:=by
 subst hx;refine iter_for (σ:=Unit) (fun i _=>mk i) n (fun i _=>∀ j,j < i→ok j=true) (fun o=>o=if (∀ i,i < n→ok i=true) then K else B) ?_ ?_ _ 0 () (Nat.zero_le _) (by omega) (by intro j h;omega)
 ·intro rec i _ hi hI hrec;rw [hstep rec i hi]
  by_cases h:ok i=true
  ·rw [if_pos h];exact hrec () fun j hj=>by
    rcases (by omega:j < i∨j=i) with h1 | rfl
    ·exact hI j h1
    ·exact h
  ·rw [if_neg h,if_neg fun hall=>h (hall i hi)]
 ·intro rec _ hI;rw [hend,if_pos hI]
theorem zlu (s:List UInt8) (hl:s.length < 9223372036854775808):zby s=some (zij s):=by
 unfold zby zij;rw [loop_allB (x0:=(0:Int)) (fun i=>(i:Int)) s.length (fun i=>seen (s.getD i 0)) (some (decide (1≤s.length)&&decide (s.length≤20))) (some false) rfl hl ?_ ?_]
 ·by_cases h:s.all seen=true
  ·rw [h,if_pos ((zpp s seen _ fun i hi=>by simp [hi]).2 h),Bool.and_true]
  ·rw [Bool.not_eq_true] at h;rw [h,if_neg fun h3=>by rw [(zpp s seen _ fun i hi=>by simp [hi]).1 h3] at h;cases h];rw [Bool.and_false]
 ·intro rec i hi;simp only [zby.l2];rw [if_t (lt_t hi),zbv hi,zal];simp only [hi,List.getD_eq_getElem?_getD,List.getElem?_eq_getElem,Option.getD_some,seen]
  by_cases h33:(s[i].toNat:Int) < 33
  ·rw [zel (by simp;omega),zal,if_pos (by simp [h33])];rw [if_neg (by simp only [Bool.and_eq_true,decide_eq_true_eq];omega)]
  ·rw [zck (by simp;omega),zal]
   by_cases h126:(126:Int) < (s[i].toNat:Int)
   ·rw [if_pos (by simp [h126]),if_neg (by simp only [Bool.and_eq_true,decide_eq_true_eq];omega)]
   ·rw [if_neg (by simp only [Bool.or_eq_true,decide_eq_true_eq];omega),if_pos (by simp only [Bool.and_eq_true,decide_eq_true_eq];omega),show wr ((i:Int)+1)=((i+1:Nat):Int) from by rw [zho (by omega) (by omega)];rfl]
 ·intro rec;simp only [zby.l2,zby.k1];rw [if_f (lt_f (Nat.lt_irrefl _))]
  congr 2
  ·simp;omega
  ·simp;omega
theorem zvp (l:List File) (hl:l.length < 9223372036854775808):zcm l=some (zuf l):=by
 unfold zcm zuf
 by_cases h:6 < l.length
 ·rw [if_pos (by simp;omega)];simp [h]
 ·rw [if_neg (by simp;omega)];rw [zmh (x0:=(0:Int)) (fun i=>(i:Int)) l.length (fun i=>!decide (200 < (l.getD i default).data.length)) (some false) (some true) rfl (by omega) ?_ ?_]
  ·simp only [h,decide_false,Bool.false_or];have hall:=zpp l (fun f=>!decide (200 < f.data.length)) (fun i=>!decide (200 < (l.getD i default).data.length)) (fun i hi=>by simp [hi])
   by_cases ha:l.all (fun f=>!decide (200 < f.data.length))=true
   ·rw [if_pos (hall.2 ha)]
    congr 1
    rw [eq_comm,List.any_eq_false];intro x hx;have:=List.all_eq_true.1 ha x hx;simpa using this
   ·rw [if_neg fun q=>ha (hall.1 q)]
    congr 1
    rw [Bool.not_eq_true,List.all_eq_false] at ha;obtain ⟨x,hx,q⟩:=ha;rw [eq_comm,List.any_eq_true];exact ⟨x,hx,by simpa using q⟩
  ·intro rec i hi;simp only [zcm.l2];rw [if_t (lt_t hi),zbv hi,zal];simp only [List.getD_eq_getElem?_getD,List.getElem?_eq_getElem hi,Option.getD_some]
   by_cases h2:200 < l[i].data.length
   ·rw [if_pos (by simp;omega),if_neg (by simp;omega)]
   ·rw [if_neg (by simp;omega),if_pos (by simp;omega),zaz (by omega)]
  ·intro rec;simp only [zcm.l2,zcm.k1];rw [if_f (lt_f (Nat.lt_irrefl _))]
theorem reftree_eq (l:List File) (hll:l.length < 9223372036854775808) (hp:∀ f∈l,f.path.length < 9223372036854775808):zcu l=some (chkL l):=by
 unfold zcu;rw [zvp l hll,zal];unfold chkL;cases hL:zuf l with
 | true=>rfl
 | false =>
  obtain ⟨hl,hd⟩:=long_f hL;simp only [Bool.false_eq_true,if_false];rw [zmh (x0:=(0:Int)) (fun i=>(i:Int)) l.length (fun i=>zij (l.getD i default).path&&(!decide (0 < i)||sLt (l.getD (i - 1) default).path (l.getD i default).path)) (some 0) (some 1) rfl (by omega) ?_ ?_]
  ·have hiff:(∀ i,i < l.length→(zij (l.getD i default).path&&(!decide (0 < i)||sLt (l.getD (i - 1) default).path (l.getD i default).path))=true) ↔ (badB l=false∧zku l):=by
    constructor
    ·intro h;refine ⟨?_,(rises_adj l).2 fun i hi h0=>?_⟩
     ·unfold badB;rw [List.any_eq_false];intro x hx;obtain ⟨j,hj,rfl⟩:=List.getElem_of_mem hx;have h1:=h j hj;simp only [List.getD_eq_getElem?_getD,List.getElem?_eq_getElem hj,Option.getD_some,Bool.and_eq_true] at h1;simp [h1.1]
     ·have h1:=h i hi;have hi':i - 1 < l.length:=by omega
      simp only [List.getD_eq_getElem?_getD,List.getElem?_eq_getElem hi,List.getElem?_eq_getElem hi',Option.getD_some,Bool.and_eq_true,h0,decide_true,Bool.not_true,Bool.false_or] at h1;exact h1.2
    ·rintro ⟨h1,h2⟩ i hi;unfold badB at h1;rw [List.any_eq_false] at h1;have h3:=h1 _ (List.getElem_mem hi);simp only [Bool.not_eq_true',Bool.not_eq_false] at h3;simp only [List.getD_eq_getElem?_getD,List.getElem?_eq_getElem hi,Option.getD_some,h3,Bool.true_and]
     by_cases h0:0 < i
     ·have hi':i - 1 < l.length:=by omega
      simp only [List.getElem?_eq_getElem hi',Option.getD_some,h0,decide_true,Bool.not_true,Bool.false_or];exact (rises_adj l).1 h2 i hi h0
     ·simp [h0]
   by_cases h:badB l=false∧zku l
   ·rw [if_pos h,if_pos (hiff.2 h)]
   ·rw [if_neg h,if_neg fun h2=>h (hiff.1 h2)]
  ·intro rec i hi;simp only [zcu.l2];rw [if_t (lt_t hi),zbv hi,zal,zlu _ (hp _ (List.getElem_mem hi)),zal];simp only [List.getD_eq_getElem?_getD,List.getElem?_eq_getElem hi,Option.getD_some];cases hN:zij l[i].path with
   | false=>rw [zel (by simp),zal,zel (by simp),zal];rfl
   | true =>
    by_cases h0:0 < i
    ·have hi':i - 1 < l.length:=by omega
     have h0':(0:Int) < (i:Int):=by omega
     rw [zck (by simp;omega),zal,zck (by simp;omega),zle h0 (by omega),zbv hi',zal];simp only [List.getElem?_eq_getElem hi',Option.getD_some,h0,h0',decide_true,Bool.not_true,Bool.false_or,Bool.true_and];have hg:=gtr_eq l[i].path l[i - 1].path;cases hc:(sLt l[i].path l[i - 1].path||l[i].path == l[i - 1].path) with
     | true=>rw [hc] at hg;rw [← hg];rfl
     | false=>rw [hc] at hg;rw [← hg,if_neg (by simp),zaz (by omega)];rfl
    ·have h0':¬ (0:Int) < (i:Int):=by omega
     rw [zel (by simp;omega),zal,zel (by simp;omega),zal];simp only [h0,h0',decide_false,Bool.false_and,Bool.not_true,Bool.or_false,Bool.false_eq_true,if_false,Bool.not_false,Bool.true_or,Bool.and_true,if_true];rw [zaz (by omega)]
  ·intro rec;simp only [zcu.l2,zcu.k1];rw [if_f (lt_f (Nat.lt_irrefl _))]
theorem ztc (l:List UInt8) (hl:l.length≤1073741824):zeg l=some l:=by
 unfold zeg;rw [zdu (by simpa using hl),zal];rfl
theorem k5_eq (l out:List File) (i k:Nat) (rec:List File × Int→Option (List File × Int)) (hi:i < l.length) (hl:l.length≤1000000) (ho:out.length≤1000000) (hk:k≤out.length) (hd:l[i].data.length≤1073741824) :
  zaq.k5 l out (i:Int) rec (k:Int)=if (∃ h:k < out.length,out[k].path=l[i].path) then some ([],9) else rec (out.take k++l[i]::out.drop k,((i+1:Nat):Int)):=by
 unfold zaq.k5 zaq.k4;have fin:(bd (cut (α:=File) out 0 (k:Int)) fun l37=>bd (ix l (i:Int)) fun x39=>bd (app (α:=File) [] l37) fun l41=>bd (zeg x39.data) fun r43=>bd (app (α:=File) l41 [(File.mk x39.path r43)]) fun l45=>bd (cut (α:=File) out (k:Int) (out.length:Int)) fun l52=>bd (app (α:=File) l45 l52) fun l54=>rec (l54,wr ((i:Int)+1)))=rec (out.take k++l[i]::out.drop k,((i+1:Nat):Int)):=by
  rw [zkw (Int.le_refl _) (by omega) (by omega),zal,zbv hi,zal,zdu (by simp;omega),zal,ztc _ hd,zal,zdu (by simp;omega),zal,zkw (by omega) (by omega) (Int.le_refl _),zal,zdu (by simp;omega),zal,zaz (by omega)]
  congr 2
  simp
 by_cases hlt:k < out.length
 ·rw [zck (lt_t hlt),zbv hlt,zal,zck (lt_t hlt),zbv hi,zal]
  by_cases he:out[k].path=l[i].path
  ·rw [if_pos (by simp [hlt,he]),if_pos ⟨hlt,he⟩]
  ·rw [if_neg (by simp [he]),if_neg (fun q=>he q.2)];rw [zbv hi] at fin;exact fin
 ·rw [zel (lt_f hlt),zal,zel (lt_f hlt),zal,if_neg (by simp;omega),if_neg (fun q=>hlt q.1)];exact fin
theorem rises_put {out:List File} {x:File} {k:Nat} (hr:zku out) (hk:k≤out.length) (h1:∀ j (h:j < out.length),j < k→sLt out[j].path x.path=true) (h2:∀ h:k < out.length,sLt out[k].path x.path=false∧out[k].path≠x.path):zku (out.take k++x::out.drop k):=by
 unfold zku at *;have hsplit:=hr;rw [← List.take_append_drop k out,List.pairwise_append] at hsplit;obtain ⟨p1,p2,p3⟩:=hsplit;have hb:∀ a∈out.take k,sLt a.path x.path=true:=fun a ha=>by
  obtain ⟨j,hj,rfl⟩:=List.getElem_of_mem ha;rw [List.length_take] at hj;rw [List.getElem_take];exact h1 j (by omega) (by omega)
 have ha:∀ b∈out.drop k,sLt x.path b.path=true:=fun b hb=>by
  obtain ⟨j,hj,rfl⟩:=List.getElem_of_mem hb;rw [List.length_drop] at hj;rw [List.getElem_drop];have hk':k < out.length:=by omega
  obtain ⟨q1,q2⟩:=h2 hk';have q3:sLt x.path out[k].path=true:=by
   cases h:sLt x.path out[k].path with
   | true=>rfl
   | false=>exact absurd (zrh q1 h) q2
  rcases Nat.eq_zero_or_pos j with rfl | hp
  ·exact q3
  ·exact zhv q3 (List.pairwise_iff_getElem.1 hr k (k+j) hk' (by omega) (by omega))
 refine List.pairwise_append.2 ⟨p1,List.pairwise_cons.2 ⟨ha,p2⟩,fun a h b hb'=>?_⟩;rcases List.mem_cons.1 hb' with rfl | hb'
 ·exact hb a h
 ·exact p3 a h b hb'
def sorted (l:List File) (o:Option (List File × Int)):Prop:=∃ r,o=some r∧(r.2=0→r.1.Perm l∧zku r.1∧zuf l=false∧badB l=false)
theorem refsort_ok (l:List File) (hll:l.length < 9223372036854775808) (hp:∀ f∈l,f.path.length < 9223372036854775808):sorted l (zaq l):=by
 have no:∀ e:Int,e≠0→sorted l (some ([],e)):=fun e he=>⟨_,rfl,fun h=>absurd h he⟩
 unfold zaq;rw [zvp l hll,zal];cases hL:zuf l with
 | true=>exact no _ (by decide)
 | false =>
  obtain ⟨hl,hd⟩:=long_f hL;simp only [Bool.false_eq_true,if_false];rw [zmh (x0:=(0:Int)) (fun i=>(i:Int)) l.length (fun i=>zij (l.getD i default).path) (zaq.k1 l) (some ([],1)) rfl (by omega) ?_ ?_]
  ·have hall:=zpp l (fun f=>zij f.path) (fun i=>zij (l.getD i default).path) (fun i hi=>by simp [hi]);cases hB:badB l with
   | true =>
    rw [if_neg]
    ·exact no _ (by decide)
    ·intro q;have:=hall.1 q;unfold badB at hB;obtain ⟨x,hx,h2⟩:=List.any_eq_true.1 hB;have:=List.all_eq_true.1 this x hx;simp [this] at h2
   | false =>
    rw [if_pos]
    ·unfold zaq.k1;refine zqk (S:=List File × Int) (σ:=List File) (fun i out=>(out,(i:Int))) l.length (fun i out=>out.Perm (l.take i)∧zku out) (sorted l) (i0:=0) (s0:=[]) rfl (Nat.zero_le _) ⟨by simp,List.Pairwise.nil⟩ (by omega) ?_ ?_
     ·intro rec i out hi ⟨hperm,hris⟩ hrec;have hol:out.length=i:=by rw [hperm.length_eq,List.length_take];omega
      simp only [zaq.l3];rw [if_t (lt_t hi)];have hfind:∃ k,k≤out.length∧(∀ j (h:j < out.length),j < k→sLt out[j].path l[i].path=true)∧(∀ h:k < out.length,sLt out[k].path l[i].path=false)∧loop (zaq.l6 l out (i:Int) rec) 0=zaq.k5 l out (i:Int) rec (k:Int):=by
       refine zqk (S:=Int) (σ:=Unit) (fun k _=>(k:Int)) out.length (fun k _=>∀ j (h:j < out.length),j < k→sLt out[j].path l[i].path=true) (fun o=>∃ k,k≤out.length∧(∀ j (h:j < out.length),j < k→sLt out[j].path l[i].path=true)∧(∀ h:k < out.length,sLt out[k].path l[i].path=false)∧o=zaq.k5 l out (i:Int) rec (k:Int)) (i0:=0) (s0:=()) rfl (Nat.zero_le _) (fun j _ h=>by omega) (by omega) ?_ ?_
       ·intro rec2 k _ hk hI hrec2;simp only [zaq.l6];rw [zck (lt_t hk),zbv hk,zal,zck (lt_t hk),zbv hi,zal];cases hs:sLt out[k].path l[i].path with
        | true =>
         rw [if_pos (by simp [hk]),zaz (by omega)];refine hrec2 () fun j hj hjk=>?_;rcases (by omega:j < k∨j=k) with q | rfl
         ·exact hI j hj q
         ·exact hs
        | false =>
         rw [if_neg (by simp)];exact ⟨k,by omega,hI,fun _=>hs,rfl⟩
       ·intro rec2 _ hI;simp only [zaq.l6];rw [zel (lt_f (Nat.lt_irrefl _)),zal,zel (lt_f (Nat.lt_irrefl _)),zal,if_neg (by simp)];exact ⟨out.length,Nat.le_refl _,hI,fun h=>absurd h (Nat.lt_irrefl _),rfl⟩
      obtain ⟨k,hk,f1,f2,f3⟩:=hfind;have hdi:=hd _ (List.getElem_mem hi);rw [f3,k5_eq l out i k rec hi (by omega) (by omega) hk (by omega)]
      by_cases htw:∃ h:k < out.length,out[k].path=l[i].path
      ·rw [if_pos htw];exact no _ (by decide)
      ·rw [if_neg htw];refine hrec _ ⟨?_,rises_put hris hk f1 fun h=>⟨f2 h,fun e=>htw ⟨h,e⟩⟩⟩;rw [zdl hi];refine List.perm_middle.trans ?_;rw [List.take_append_drop];exact (List.Perm.cons _ hperm).trans (List.perm_append_singleton _ _).symm
     ·intro rec out ⟨hperm,hris⟩;simp only [zaq.l3,zaq.k2];rw [if_f (lt_f (Nat.lt_irrefl _))];rw [List.take_length] at hperm;exact ⟨_,rfl,fun _=>⟨hperm,hris,hL,hB⟩⟩
    ·refine hall.2 (List.all_eq_true.2 fun x hx=>?_);unfold badB at hB;have:=List.any_eq_false.1 hB x hx;simpa using this
  ·intro rec i hi;simp only [zaq.l7];rw [if_t (lt_t hi),zbv hi,zal,zlu _ (hp _ (List.getElem_mem hi)),zal];simp only [List.getD_eq_getElem?_getD,List.getElem?_eq_getElem hi,Option.getD_some];cases zij l[i].path with
   | false=>rfl
   | true=>simp only [Bool.not_true,Bool.false_eq_true,if_false,if_true];rw [zaz (by omega)]
  ·intro rec;simp only [zaq.l7];rw [if_f (lt_f (Nat.lt_irrefl _))]
end Go.Wk.Lf
end
section
namespace Go.Wk.Lf
open Go.V Go.Sort Go.Proofs
theorem rman_eq (m:Manifest) (hn:m.name.length < 4611686018427387904) (hp:∀ p∈m.parts,p.path.length < 4611686018427387904):zcb m=some (decide (manB m)):=by
 unfold zcb;rw [zlu _ (by omega),zal]
 by_cases h0:zij m.name=true∧m.parts.length≤6
 ·obtain ⟨hn,h6⟩:=h0;rw [if_neg (by simp only [hn];simp;omega)];rw [zmh (x0:=(0:Int)) (fun i=>(i:Int)) m.parts.length (fun i=>znm (m.parts.getD i default)&&(!decide (0 < i)||sLt (m.parts.getD (i - 1) default).path (m.parts.getD i default).path)) (some true) (some false) rfl (by omega) ?_ ?_]
  ·have hiff:=adj_iff m.parts znm
   by_cases h:m.parts.all znm=true∧zsf m.parts
   ·rw [if_pos (hiff.2 h),decide_eq_true (show manB m from ⟨hn,h6,h.1,h.2⟩)]
   ·rw [if_neg fun h2=>h (hiff.1 h2),decide_eq_false fun h2:manB m=>h ⟨h2.2.2.1,h2.2.2.2⟩]
  ·intro rec i hi;simp only [zcb.l2];rw [if_t (lt_t hi),zbv hi,zal,zlu _ (by have:=hp _ (List.getElem_mem hi);omega),zal,test_eq m.parts i hi (by omega)];simp only [List.getD_eq_getElem?_getD,List.getElem?_eq_getElem hi,Option.getD_some];generalize hQ:m.parts[i]=p;have e1:decide (25 < (p.ids.length:Int)) = !decide (p.ids.length≤25):=by
    rw [← decide_not,decide_eq_decide];omega
   have e2:decide ((p.ids.length:Int)=0)=decide (p.ids.length=0):=by rw [decide_eq_decide];omega
   have e3:decide (p.size < 0) = !decide (0≤p.size):=by rw [← decide_not,decide_eq_decide];omega
   have e4:decide (200 < p.size) = !decide (p.size≤200):=by rw [← decide_not,decide_eq_decide];omega
   rw [e1,e2,e3,e4];unfold znm;cases hN:zij p.path with
   | false=>simp
   | true =>
    by_cases h0:0 < i
    ·have hi':i - 1 < m.parts.length:=by omega
     have h0':(0:Int) < (i:Int):=by omega
     simp only [h0,h0',and_self,if_true,List.getElem?_eq_getElem hi',Option.getD_some,decide_true,Bool.not_true,Bool.false_or,Bool.true_and,zaz (show i < 4611686018427387904 by omega)];have hg:=gtr_eq p.path m.parts[i - 1].path;rw [← hg];generalize (sLt p.path m.parts[i - 1].path||p.path == m.parts[i - 1].path)=c;generalize decide (0≤p.size)=c1;generalize decide (p.size≤200)=c2;generalize decide (p.ids.length≤25)=c3;generalize decide (p.ids.length=0)=c4;generalize decide (p.size=0)=c5;cases c <;> cases c1 <;> cases c2 <;> cases c3 <;> cases c4 <;> cases c5 <;> rfl
    ·have h0':¬ (0:Int) < (i:Int):=by omega
     simp only [h0,h0',and_false,if_false,decide_false,Bool.false_and,Bool.not_true,Bool.or_false,Bool.false_or,Bool.not_false,Bool.true_or,Bool.and_true,Bool.true_and,zaz (show i < 4611686018427387904 by omega)];generalize decide (0≤p.size)=c1;generalize decide (p.size≤200)=c2;generalize decide (p.ids.length≤25)=c3;generalize decide (p.ids.length=0)=c4;generalize decide (p.size=0)=c5;cases c1 <;> cases c2 <;> cases c3 <;> cases c4 <;> cases c5 <;> rfl
  ·intro rec;simp only [zcb.l2,zcb.k1];rw [if_f (lt_f (Nat.lt_irrefl _))]
 ·rw [if_pos (by
   simp only [Bool.or_eq_true,decide_eq_true_eq,Bool.not_eq_true'];cases hn:zij m.name with
   | false=>exact .inl rfl
   | true =>
    rcases Nat.lt_or_ge 6 m.parts.length with h6 | h6
    ·right;omega
    ·exact absurd ⟨hn,h6⟩ h0),decide_eq_false fun h:manB m=>h0 ⟨h.1,h.2.1⟩]
end Go.Wk.Lf
end
section
namespace Go.Wk.Lf
open Go.V Go.Sort Go.Proofs
theorem sLt_diff:∀ (p:List UInt8) (x y:UInt8) (s t:List UInt8),x≠y→sLt (p++x::s) (p++y::t)=decide (x < y)
 | [],x,y,s,t,h=>by
  rw [List.nil_append,List.nil_append,sLt,Op.bytesLess];simp [h]
 | c::p,x,y,s,t,h=>by
  rw [List.cons_append,List.cons_append,sLt,Op.bytesLess];have:=sLt_diff p x y s t h;rw [sLt] at this;rw [this];simp [UInt8.lt_irrefl]
theorem split_at {l:List UInt8} {i:Nat} (h:i < l.length):l=l.take i++l[i]::l.drop (i+1):=by
 rw [← List.drop_eq_getElem_cons h,List.take_append_drop]
theorem zuy (a b:List UInt8) (ha:a.length=32) (hb:b.length=32):zcj a b=some (sLt a b):=by
 unfold zcj;refine zgc (S:=Int) (σ:=Unit) (fun i _=>(i:Int)) 32 (fun i _=>a.take i=b.take i) _ (i0:=0) (s0:=()) rfl (Nat.zero_le _) rfl (by decide) ?_ ?_
 ·intro rec i _ hi hI hrec;simp only [zcj.l2];have hia:i < a.length:=by omega
  have hib:i < b.length:=by omega
  rw [if_t (decide_eq_true (by omega)),zbv hia,zal,zbv hib,zal]
  by_cases h:a[i]=b[i]
  ·rw [if_neg (by simp [h]),zaz (by omega)];exact hrec () (by rw [zdl hia,zdl hib,hI,h])
  ·rw [if_pos (by simp only [ne_eq,decide_eq_true_eq];intro e;exact h (UInt8.toNat.inj (by omega))),zal,zal]
   congr 1
   conv=>rhs;rw [split_at hia,split_at hib,hI]
   rw [sLt_diff _ _ _ _ _ h,decide_eq_decide,UInt8.lt_iff_toNat_lt];omega
 ·intro rec _ hI;simp only [zcj.l2,zcj.k1];rw [if_neg (by decide)];rw [List.take_of_length_le (by omega),List.take_of_length_le (by omega)] at hI;rw [hI,zhj]
def zeq (l:List (List UInt8)) (x:List UInt8):Nat:=(l.takeWhile fun y=>sLt y x).length
theorem znl (l:List (List UInt8)) (x:List UInt8):zeq l x≤l.length:=by
 unfold zeq;exact (List.takeWhile_sublist _).length_le
theorem zty {l:List (List UInt8)} {x:List UInt8} {i:Nat} (h:i < zeq l x):sLt (l[i]'(Nat.lt_of_lt_of_le h (znl l x))) x=true:=by
 unfold zeq at h;have hm:=List.getElem_mem h;have h1:(l.takeWhile fun y=>sLt y x)[i]=l[i]'(Nat.lt_of_lt_of_le h (znl l x)):=by
  have:=(List.takeWhile_prefix (fun y=>sLt y x) (l:=l))
  exact this.getElem h
 rw [← h1];have h2:=List.all_takeWhile (p:=fun y=>sLt y x) (l:=l);rw [List.all_eq_true] at h2;exact h2 _ hm
theorem ztz {l:List (List UInt8)} {x:List UInt8} (h:zeq l x < l.length):sLt l[zeq l x] x=false:=by
 induction l with
 | nil=>simp at h
 | cons y l ih =>
  by_cases hy:sLt y x=true
  ·have e:zeq (y::l) x=zeq l x+1:=by simp [zeq,List.takeWhile_cons,hy]
   simp only [e] at h ⊢;simp only [List.getElem_cons_succ];exact ih (by simpa using h)
  ·have e:zeq (y::l) x=0:=by simp [zeq,List.takeWhile_cons,hy]
   simp only [e,List.getElem_cons_zero];simpa using hy
def insI (l:List (List UInt8)) (x:List UInt8):List (List UInt8):=if l[zeq l x]? = some x then l else l.take (zeq l x)++[x]++l.drop (zeq l x)
theorem add_eq (l:List (List UInt8)) (x:List UInt8) (hl:l.length≤100000) (h32:∀ y∈l,y.length=32) (hx:x.length=32) :
  zct l x=some (insI l x,(zeq l x:Int),!decide (l[zeq l x]? = some x)):=by
 unfold zct;have hk:=znl l x;refine zgc (S:=Int) (σ:=Unit) (fun i _=>(i:Int)) (zeq l x) (fun _ _=>True) _ (i0:=0) (s0:=()) rfl (Nat.zero_le _) trivial (by omega) ?_ ?_
 ·intro rec i _ hi _ hrec;simp only [zct.l2];have hil:i < l.length:=by omega
  have hlt:=zty hi;rw [lt_t hil,zck rfl,zbv hil,zal,zck rfl,zuy _ _ (h32 _ (List.getElem_mem hil)) hx,zal,hlt,zaz (by omega)];exact hrec () trivial
 ·intro rec _ _;simp only [zct.l2,zct.k1]
  by_cases hil:zeq l x < l.length
  ·have hlt:=ztz hil;rw [lt_t hil,zck rfl,zbv hil,zal,zck rfl,zuy _ _ (h32 _ (List.getElem_mem hil)) hx,zal,hlt];rw [if_neg (by simp),zal];unfold insI;rw [List.getElem?_eq_getElem hil]
   by_cases he:l[zeq l x]=x
   ·rw [if_pos (by simp [he]),if_pos (by rw [he])];simp [he]
   ·rw [if_neg (by simp [he]),if_neg (by simpa using he),zkw (by omega) (by omega) (by omega),zal,zdu (by simp;omega),zal,zdu (by simp;omega),zal,zkw (by omega) (by omega) (by omega),zal,zdu (by simp;omega),zal];simp [he]
  ·have hil':zeq l x=l.length:=by omega
   rw [lt_f hil,zel rfl,zal,zel rfl,zal,if_neg (by simp),zal,if_neg (by simp)];unfold insI;rw [List.getElem?_eq_none (by omega),if_neg (by simp),zkw (by omega) (by omega) (by omega),zal,zdu (by simp;omega),zal,zdu (by simp;omega),zal,zkw (by omega) (by omega) (by omega),zal,zdu (by simp;omega),zal];simp
theorem place_in {l:List (List UInt8)} {x:List UInt8} (hr:zko l):(l[zeq l x]? = some x) ↔ x∈l:=by
 constructor
 ·intro h;exact List.mem_of_getElem? h
 ·intro h;obtain ⟨j,hj,rfl⟩:=List.getElem_of_mem h;have hk:=znl l l[j];have h1:¬ j < zeq l l[j]:=fun h2=>by have:=zty h2;rw [zhj] at this;cases this
  have h3:¬ zeq l l[j] < j:=fun h4=>by
   have h5:=ztz (l:=l) (x:=l[j]) (by omega);have h6:=List.pairwise_iff_getElem.1 hr (zeq l l[j]) j (by omega) hj h4;rw [h6] at h5;cases h5
  have e:zeq l l[j]=j:=by omega
  rw [e];exact List.getElem?_eq_getElem hj
theorem insI_mem {l:List (List UInt8)} {x:List UInt8} (hr:zko l) (y:List UInt8):y∈insI l x ↔ y∈l∨y=x:=by
 unfold insI
 split
 ·rename_i h;exact ⟨.inl,fun h2=>h2.elim id fun e=>e ▸ List.mem_of_getElem? h⟩
 ·constructor
  ·intro h;simp only [List.mem_append,List.mem_singleton] at h;rcases h with (h | h) | h
   ·exact .inl (List.mem_of_mem_take h)
   ·exact .inr h
   ·exact .inl (List.mem_of_mem_drop h)
  ·intro h;simp only [List.mem_append,List.mem_singleton];rcases h with h | h
   ·rw [← List.take_append_drop (zeq l x) l] at h;rcases List.mem_append.1 h with h | h
    ·exact .inl (.inl h)
    ·exact .inr h
   ·exact .inl (.inr h)
theorem insI_rises {l:List (List UInt8)} {x:List UInt8} (hr:zko l):zko (insI l x):=by
 unfold insI
 split
 ·exact hr
 ·rename_i h;have hn:x ∉ l:=fun h2=>h ((place_in hr).2 h2);have h1:∀ a∈l.take (zeq l x),sLt a x=true:=fun a ha=>by
   obtain ⟨i,hi,rfl⟩:=List.getElem_of_mem ha;simp only [List.length_take] at hi;rw [List.getElem_take];exact zty (by omega)
  have h2:∀ b∈l.drop (zeq l x),sLt x b=true:=fun b hb=>by
   obtain ⟨i,hi,rfl⟩:=List.getElem_of_mem hb;simp only [List.length_drop] at hi;rw [List.getElem_drop];have hk:zeq l x < l.length:=by omega
   have h3:=ztz hk;have h4:sLt x l[zeq l x]=true:=by
    cases h5:sLt x l[zeq l x] with
    | true=>rfl
    | false=>exact absurd (List.getElem_mem hk) (by rw [← zrh h5 h3];exact hn)
   cases i with
   | zero=>exact h4
   | succ i=>exact zhv h4 (List.pairwise_iff_getElem.1 hr _ _ hk (by omega) (by omega))
  have ht:zko (l.take (zeq l x)):=hr.sublist (List.take_sublist _ _);have hd:zko (l.drop (zeq l x)):=hr.sublist (List.drop_sublist _ _);unfold zko at *;rw [List.append_assoc,List.pairwise_append];refine ⟨ht,List.pairwise_cons.2 ⟨h2,hd⟩,fun a ha b hb=>?_⟩;rcases List.mem_cons.1 hb with rfl | hb
  ·exact h1 a ha
  ·exact zhv (h1 a ha) (h2 b hb)
theorem insI_len (l:List (List UInt8)) (x:List UInt8):(insI l x).length≤l.length+1:=by
 unfold insI;split
 ·omega
 ·simp;omega
theorem foldI (ids:List (List UInt8)):∀ acc,zko acc→zko (ids.foldl insI acc)∧(∀ y,y∈ids.foldl insI acc ↔ y∈acc∨y∈ids)∧(ids.foldl insI acc).length≤acc.length+ids.length:=by
 induction ids with
 | nil=>intro acc h;simp [h]
 | cons x ids ih =>
  intro acc h;obtain ⟨h1,h2,h3⟩:=ih _ (insI_rises (x:=x) h);refine ⟨h1,fun y=>?_,?_⟩
  ·rw [List.foldl_cons,h2,insI_mem h];simp [or_assoc]
  ·have:=insI_len acc x;simp only [List.foldl_cons,List.length_cons];omega
theorem foldI_idsU (ids:List (List UInt8)):ids.foldl insI []=idsU ids:=by
 obtain ⟨h1,h2,_⟩:=foldI ids [] List.Pairwise.nil;exact zts _ _ h1 (idsU_rises _) fun x=>by rw [h2,zxl];simp
end Go.Wk.Lf
end
section
namespace Go.Wk.Lf
open Go.V Go.Sort Go.Proofs
theorem rids_eq (m:Manifest) (hp:m.parts.length≤100000) (hl:(zlj m).length≤10000) (hk:okId m):zbg m=some (idsU (zlj m)):=by
 unfold zbg;refine zgc (S:=List (List UInt8) × Int) (σ:=List (List UInt8)) (fun i l=>(l,(i:Int))) m.parts.length (fun i l=>l=((m.parts.take i).flatMap Part.ids).foldl insI []) _ (i0:=0) (s0:=[]) rfl (Nat.zero_le _) rfl (by omega) ?_ ?_
 ·intro rec i l hi hI hrec;simp only [zbg.l2];rw [if_t (lt_t hi)];have h1:=zum m.parts (i+1);rw [zdl hi,List.flatMap_append] at h1;simp only [List.flatMap_cons,List.flatMap_nil,List.append_nil,List.length_append] at h1;unfold zlj at hl;have hkt:∀ x∈(m.parts.take i).flatMap Part.ids,x.length=32:=fun x hx=>by
   obtain ⟨p,hp,h⟩:=List.mem_flatMap.1 hx;exact hk p (List.mem_of_mem_take hp) x h
  have hki:=hk _ (List.getElem_mem hi);refine zgc (S:=List (List UInt8) × Int) (σ:=List (List UInt8)) (fun j l=>(l,(j:Int))) m.parts[i].ids.length (fun j a=>a=((m.parts[i].ids.take j)).foldl insI l) _ (i0:=0) (s0:=l) rfl (Nat.zero_le _) rfl (by omega) ?_ ?_
  ·intro rec2 j a hj hJ hrec2;simp only [zbg.l4];have hacc:a=((m.parts.take i).flatMap Part.ids++m.parts[i].ids.take j).foldl insI []:=by rw [List.foldl_append,← hI,hJ]
   obtain ⟨f1,f2,f3⟩:=foldI ((m.parts.take i).flatMap Part.ids++m.parts[i].ids.take j) [] List.Pairwise.nil;rw [← hacc] at f1 f2 f3;have ha:a.length≤20000:=by simp only [List.length_append,List.length_nil,List.length_take] at f3;omega
   have ha32:∀ y∈a,y.length=32:=fun y hy=>by
    rcases (f2 y).1 hy with h | h
    ·simp at h
    ·rcases List.mem_append.1 h with h | h
     ·exact hkt y h
     ·exact hki y (List.mem_of_mem_take h)
   rw [zbv hi,zal,if_t (lt_t hj),zal,zbv hj,zal,add_eq _ _ (by omega) ha32 (hki _ (List.getElem_mem hj)),zal,zaz (by omega)];refine hrec2 _ ?_;rw [zdl hj,List.foldl_append,← hJ];rfl
  ·intro rec2 a hJ;simp only [zbg.l4,zbg.k3];rw [zbv hi,zal,if_f (lt_f (Nat.lt_irrefl _)),zaz (by omega)];refine hrec _ ?_;rw [zdl hi,List.flatMap_append,List.foldl_append,← hI,hJ,List.take_length];simp
 ·intro rec l hI;simp only [zbg.l2,zbg.k1];rw [if_f (lt_f (Nat.lt_irrefl _)),hI,List.take_length,foldI_idsU];rfl
theorem rin_eq (n a b:Int):zdi n a b=some (inB n a b):=rfl
theorem after_or (a b:Loc):(decide (b.vol < a.vol)||(decide (b.vol=a.vol)&&(decide (b.file < a.file)||(decide (b.file=a.file)&&decide (b.off < a.off)))))=zsn a b:=by
 unfold zsn
 by_cases h1:a.vol=b.vol
 ·rw [if_neg (by simpa using h1),decide_eq_false (by omega),decide_eq_true h1.symm]
  by_cases h2:a.file=b.file
  ·rw [if_neg (by simpa using h2),decide_eq_false (by omega),decide_eq_true h2.symm];rfl
  ·have h3:¬ b.file=a.file:=fun q=>h2 q.symm;rw [if_pos h2];simp [h3]
 ·have h3:¬ b.vol=a.vol:=fun q=>h1 q.symm;rw [if_pos h1];simp [h3]
theorem zwy (c:Catalog) (l:List Loc):zbk c l=some (zie c.vols l):=by
 unfold zbk zie
 by_cases hl:l.length≤200
 ·rw [if_f (decide_eq_false (by omega))];rw [zfr l.length (locOk c.vols l) (some true) (some false) (by omega) ?_ ?_,decide_eq_true hl]
  ·cases allN l.length (locOk c.vols l) <;> rfl
  ·intro rec i hi;simp only [zbk.l2,zbk.k3];rw [if_t (lt_t hi),zbv hi,zal];have e1:l.getD i default=l[i]:=zbn hi;have tail:(if decide ((0:Int) < (i:Int))=true then bd (ix l (wr ((i:Int) - 1))) fun x80=>if (!(decide (x80.vol < l[i].vol)||(decide (x80.vol=l[i].vol)&&(decide (x80.file < l[i].file)||(decide (x80.file=l[i].file)&&decide (x80.off < l[i].off))))))=true then some false else rec (wr ((i:Int)+1)) else rec (wr ((i:Int)+1)))=if (!decide (0 < i)||zsn l[i] (l.getD (i - 1) default))=true then rec ((i+1:Nat):Int) else some false:=by
    rw [zaz (by omega)]
    by_cases h0:0 < i
    ·rw [if_t (decide_eq_true (by omega)),zle h0 (by omega),zbv (show i - 1 < l.length by omega),zal,decide_eq_true h0,zbn (show i - 1 < l.length by omega),after_or];cases zsn l[i] (l[i - 1]'(by omega)) <;> rfl
    ·rw [if_f (decide_eq_false (by omega)),decide_eq_false h0];rfl
   simp only [rin_eq];rw [tail];unfold locOk locB;rw [e1]
   by_cases h1:inB l[i].vol 0 ((c.vols.length:Int) - 1)=true
   ·obtain ⟨a0,a1⟩:=zil.1 h1;rw [h1,ix_int a0 a1,decide_eq_false (show ¬ l[i].vol < 0 by omega),decide_eq_false (show ¬ (c.vols.length:Int)≤l[i].vol by omega)];simp only [zci,zal,Bool.or_self,Bool.not_false,if_true,Bool.false_or,Bool.true_and];rw [show decide ((c.vols.getD l[i].vol.toNat default).state≠2) = !decide ((c.vols.getD l[i].vol.toNat default).state=2) from decide_not];generalize inB l[i].off 0 16777215=p;generalize inB l[i].len 13 8013=q;generalize (!decide (0 < i)||zsn l[i] (l.getD (i - 1) default))=u;cases decide ((c.vols.getD l[i].vol.toNat default).state=2) with
    | false=>rfl
    | true =>
     simp only [Bool.not_true,Bool.not_false,if_true,Bool.false_or,Bool.true_and];generalize inB l[i].file 1 (c.vols.getD l[i].vol.toNat default).files=s;cases s <;> cases p <;> cases q <;> cases u <;> rfl
   ·rw [Bool.not_eq_true] at h1;have h2:(decide (l[i].vol < 0)||decide ((c.vols.length:Int)≤l[i].vol))=true:=by
     rw [Bool.or_eq_true,decide_eq_true_eq,decide_eq_true_eq]
     by_cases h:l[i].vol < 0
     ·exact .inl h
     ·exact .inr (by
       by_cases h3:(c.vols.length:Int)≤l[i].vol
       ·exact h3
       ·rw [zil.2 ⟨by omega,by omega⟩] at h1;cases h1)
    rw [h1,h2];simp only [Bool.not_true,zel,zal,Bool.true_or,Bool.false_and,if_true];rfl
  ·intro rec;simp only [zbk.l2,zbk.k1];rw [if_f (lt_f (Nat.lt_irrefl _))]
 ·rw [if_t (decide_eq_true (by omega)),decide_eq_false hl];rfl
theorem rsnap_eq (c:Catalog) (n:List UInt8) (hl:c.snaps.length≤1073741824):zcl c n=some (zjq c.snaps.length fun i=>(c.snaps.getD i default).man.name == n):=by
 unfold zcl;rw [zma c.snaps.length (fun i=>(c.snaps.getD i default).man.name == n) (by omega) ?_ ?_]
 ·intro rec i hi;simp only [zcl.l2];rw [if_t (lt_t hi),zbv hi,zal,zbn hi,zaz (by omega)]
 ·intro rec;simp only [zcl.l2,zcl.k1];rw [if_f (lt_f (Nat.lt_irrefl _))]
theorem rchunk_eq (c:Catalog) (n:List UInt8) (hl:c.chunks.length≤1073741824):zbs c n=some (zjq c.chunks.length fun i=>decide ((c.chunks.getD i default).id=n)):=by
 unfold zbs;rw [zma c.chunks.length (fun i=>decide ((c.chunks.getD i default).id=n)) (by omega) ?_ ?_]
 ·intro rec i hi;simp only [zbs.l2];rw [if_t (lt_t hi),zbv hi,zal,zbn hi,zaz (by omega)]
 ·intro rec;simp only [zbs.l2,zbs.k1];rw [if_f (lt_f (Nat.lt_irrefl _))]
theorem findI_neg {n:Nat} {p:Nat→Bool}:decide (zjq n p < 0)=allN n fun i=>!p i:=by
 have h:=zsj (n:=n) (p:=p)
 by_cases q:zjq n p < 0
 ·rw [decide_eq_false (by omega)] at h;rw [decide_eq_true q];generalize (allN n fun i=>!p i)=a at *;cases a <;> simp at h ⊢
 ·rw [decide_eq_true (by omega)] at h;rw [decide_eq_false q];generalize (allN n fun i=>!p i)=a at *;cases a <;> simp at h ⊢
theorem findI_at {n:Nat} {p:Nat→Bool} {i:Nat} (hi:i < n):zjq n p=(i:Int) ↔ p i=true ∧ ∀ j,j < i→p j=false:=by
 unfold zjq;constructor
 ·intro h
  split at h
  ·rename_i hk;have e:preN n (fun i=>!p i)=i:=by omega
   refine ⟨?_,fun j hj=>?_⟩
   ·have:=preN_no hk;rw [e] at this;simpa using this
   ·have:=zxa (n:=n) (f:=fun i=>!p i) (q:=j) (by omega);simpa using this
  ·omega
 ·rintro ⟨h1,h2⟩;have e:preN n (fun i=>!p i)=i:=znj (Nat.le_of_lt hi) (fun q hq=>by rw [h2 q hq];rfl) (fun _=>by rw [h1];rfl);rw [e,if_pos hi]
theorem zvq (a b:List UInt8) (ha:a.length=32) (hb:b.length=32):zcx a b=some (sLt a b):=by
 rw [← zuy a b ha hb];rfl
structure Fine (c:Catalog):Prop where
 id:∀ x∈c.chunks,x.id.length=32
 man:∀ s∈c.snaps,okId s.man∧s.man.name.length < 1000000 ∧ ∀ p∈s.man.parts,p.path.length < 4611686018427387904
end Go.Wk.Lf
end
section
namespace Go.Wk.Lf
open Go.V Go.Sort Go.Proofs
theorem ids_iff {c:Catalog} {m:Manifest} (hr:zvc c.chunks):idsIn c m=true ↔ ∀ y∈zlj m,∃ x∈c.chunks,x.id=y:=by
 unfold idsIn;rw [zec];constructor
 ·intro h y hy;obtain ⟨p,hp,hy⟩:=List.mem_flatMap.1 hy;obtain ⟨i,hi,rfl⟩:=List.mem_iff_getElem.1 hp;obtain ⟨k,hk,rfl⟩:=List.mem_iff_getElem.1 hy;have:=h i hi;rw [zbn hi,zec] at this;have:=this k hk;rw [zbn hk] at this;exact (hasId_iff hr _).1 this
 ·intro h i hi;rw [zbn hi,zec];intro k hk;rw [zbn hk];exact (hasId_iff hr _).2 (h _ (List.mem_flatMap.2 ⟨_,List.getElem_mem hi,List.getElem_mem hk⟩))
def snapR (c:Catalog) (i:Nat):Bool:=inB (c.snaps.getD i default).seq 0 (c.seq - 1)&&(!decide (0 < i)||decide ((c.snaps.getD (i - 1) default).seq < (c.snaps.getD i default).seq))&&decide (manB (c.snaps.getD i default).man)&&zie c.vols (c.snaps.getD i default).locs&&decide (zjq c.snaps.length (fun k=>(c.snaps.getD k default).man.name == (c.snaps.getD i default).man.name)=(i:Int))&&(allN (idsU (zlj (c.snaps.getD i default).man)).length fun k=>!(allN c.chunks.length fun j=>!decide ((c.chunks.getD j default).id=(idsU (zlj (c.snaps.getD i default).man)).getD k default)))&&(allN c.exps.length fun k=>!decide ((c.exps.getD k default).of=(c.snaps.getD i default).seq))
def expR (c:Catalog) (i:Nat):Bool:=inB (c.exps.getD i default).seq 0 (c.seq - 1)&&(!decide (0 < i)||decide ((c.exps.getD (i - 1) default).seq < (c.exps.getD i default).seq))&&inB (c.exps.getD i default).of 0 ((c.exps.getD i default).seq - 1)&&decide (0 < (c.exps.getD i default).locs.length)&&zie c.vols (c.exps.getD i default).locs
theorem seq_in (x q:Int):(decide (x < 0)||decide (q≤x)) = !inB x 0 (q - 1):=by
 rw [Bool.eq_iff_iff,Bool.or_eq_true,decide_eq_true_eq,decide_eq_true_eq,Bool.not_eq_true',← Bool.not_eq_true,zil];omega
theorem or_seq (o:Bool) (x q:Int):((o||decide (x < 0))||decide (q≤x))=(o || !inB x 0 (q - 1)):=by
 rw [← seq_in,Bool.or_assoc]
theorem le_not (x q:Int):decide (x≤q) = !decide (q < x):=by
 rw [← decide_not,decide_eq_decide];omega
theorem zrt (n:Nat):decide ((n:Int)=0) = !decide (0 < n):=by
 rw [← decide_not,decide_eq_decide];omega
theorem rexps_eq (c:Catalog) (hl:c.exps.length≤1073741824):zab.k3 c=if allN c.exps.length (expR c)=true then some true else some false:=by
 unfold zab.k3;rw [zfr c.exps.length (expR c) (some true) (some false) (by omega) ?_ ?_]
 ·intro rec i hi;simp only [zab.l5];rw [if_t (lt_t hi),zbv hi,zal];have e1:c.exps.getD i default=c.exps[i]:=zbn hi;simp only [zwy,zaz (show i < 4611686018427387904 by omega),seq_in,or_seq];simp only [le_not,zrt];unfold expR;rw [e1];cases hin:inB c.exps[i].seq 0 (c.seq - 1) with
  | false=>simp only [Bool.not_false,Bool.not_true,Bool.false_and,zel,zal,Bool.true_or,if_true];rfl
  | true =>
   by_cases hi0:0 < i
   ·have e2:ix c.exps (wr ((i:Int) - 1))=some (c.exps.getD (i - 1) default):=by
     rw [zle hi0 (by omega),zbv (show i - 1 < c.exps.length by omega),zbn (by omega)]
    have h0':decide ((0:Int) < (i:Int))=true:=decide_eq_true (by omega);rw [e2,h0',decide_eq_true hi0];simp only [zci,zal,Bool.not_true,Bool.not_false,Bool.true_and,Bool.and_true,if_true,Bool.false_or];generalize decide ((c.exps.getD (i - 1) default).seq < c.exps[i].seq)=a;generalize inB c.exps[i].of 0 (c.exps[i].seq - 1)=b;generalize zie c.vols c.exps[i].locs=d;generalize decide (0 < c.exps[i].locs.length)=e;cases a <;> cases b <;> cases d <;> cases e <;> rfl
   ·have h0':decide ((0:Int) < (i:Int))=false:=decide_eq_false (by omega);rw [h0',decide_eq_false hi0];simp only [Bool.and_false,Bool.false_and,zel,zci,zal,Bool.not_true,Bool.not_false,Bool.false_or,Bool.true_or];generalize inB c.exps[i].of 0 (c.exps[i].seq - 1)=b;generalize zie c.vols c.exps[i].locs=d;generalize decide (0 < c.exps[i].locs.length)=e;cases b <;> cases d <;> cases e <;> rfl
 ·intro rec;simp only [zab.l5,zab.k4];rw [if_f (lt_f (Nat.lt_irrefl _))]
theorem manB_ids {m:Manifest} (h:manB m):m.parts.length≤6∧(zlj m).length≤150 ∧ ∀ p∈m.parts,p.ids.length≤25:=by
 obtain ⟨_,h6,hp,_⟩:=h;have h25:∀ p∈m.parts,p.ids.length≤25:=fun p hq=>by
  have:=List.all_eq_true.1 hp p hq;unfold znm at this;simp only [Bool.and_eq_true,decide_eq_true_eq] at this;omega
 refine ⟨h6,?_,h25⟩;have key:∀ l:List Part,(∀ p∈l,p.ids.length≤25)→(l.flatMap Part.ids).length≤25*l.length:=by
  intro l
  induction l with
  | nil=>intro _;simp
  | cons a l ih =>
   intro h;have h1:=ih fun p hp=>h p (List.mem_cons_of_mem _ hp);have h2:=h a (List.mem_cons_self ..);simp only [List.flatMap_cons,List.length_append,List.length_cons];omega
 have:=key _ h25;unfold zlj;omega
theorem rsnaps_eq (c:Catalog) (hf:Fine c) (hl:c.snaps.length≤1073741824) (hc:c.chunks.length≤1073741824) (he:c.exps.length≤1073741824):zab.k2 c=if allN c.snaps.length (snapR c)=true then zab.k3 c else some false:=by
 unfold zab.k2;rw [zfr c.snaps.length (snapR c) (zab.k3 c) (some false) (by omega) ?_ ?_]
 ·intro rec i hi;simp only [zab.l6];rw [if_t (lt_t hi),zbv hi,zal];have e1:c.snaps.getD i default=c.snaps[i]:=zbn hi;obtain ⟨hk,hn,hpp⟩:=hf.man _ (List.getElem_mem hi);simp only [zwy,rman_eq c.snaps[i].man (by omega) hpp,rsnap_eq _ _ hl,seq_in];simp only [le_not];unfold snapR;rw [e1];generalize hA:inB c.snaps[i].seq 0 (c.seq - 1)=A;generalize hL:zie c.vols c.snaps[i].locs=Lo;generalize zjq c.snaps.length (fun k=>(c.snaps.getD k default).man.name == c.snaps[i].man.name)=fi;have last:manB c.snaps[i].man→(bd (zbg c.snaps[i].man) fun r179=>loop (zab.l10 c (i:Int) rec c.snaps[i] r179) 0)=if ((allN (idsU (zlj c.snaps[i].man)).length fun k=>!(allN c.chunks.length fun j=>!decide ((c.chunks.getD j default).id=(idsU (zlj c.snaps[i].man)).getD k default)))&&(allN c.exps.length fun k=>!decide ((c.exps.getD k default).of=c.snaps[i].seq)))=true then rec ((i+1:Nat):Int) else some false:=by
   intro hm;obtain ⟨m1,m2,_⟩:=manB_ids hm;have hu:=idsU_len (zlj c.snaps[i].man);rw [rids_eq _ (by omega) (by omega) hk,zal];rw [zfr (idsU (zlj c.snaps[i].man)).length (fun k=>!(allN c.chunks.length fun j=>!decide ((c.chunks.getD j default).id=(idsU (zlj c.snaps[i].man)).getD k default))) (zab.k8 c (i:Int) rec c.snaps[i]) (some false) (by omega) ?_ ?_]
   ·unfold zab.k8;rw [zfr c.exps.length (fun k=>!decide ((c.exps.getD k default).of=c.snaps[i].seq)) (rec ((i+1:Nat):Int)) (some false) (by omega) ?_ ?_]
    ·generalize (allN (idsU (zlj c.snaps[i].man)).length fun k=>!(allN c.chunks.length fun j=>!decide ((c.chunks.getD j default).id=(idsU (zlj c.snaps[i].man)).getD k default)))=a;cases a <;> simp
    ·intro rec2 j hj;simp only [zab.l9];rw [if_t (lt_t hj),zbv hj,zal,zaz (by omega),zbn hj]
     by_cases h:c.exps[j].of=c.snaps[i].seq
     ·rw [if_t (decide_eq_true h),decide_eq_true h];rfl
     ·rw [if_f (decide_eq_false h),decide_eq_false h];rfl
    ·intro rec2;simp only [zab.l9,zab.k7];rw [if_f (lt_f (Nat.lt_irrefl _)),zaz (by omega)]
   ·intro rec2 j hj;simp only [zab.l10];rw [if_t (lt_t hj),zbv hj,zal,rchunk_eq _ _ hc,zal,zaz (by omega),findI_neg,zbn hj];cases (allN c.chunks.length fun k=>!decide ((c.chunks.getD k default).id=(idsU (zlj c.snaps[i].man))[j])) <;> rfl
   ·intro rec2;simp only [zab.l10];rw [if_f (lt_f (Nat.lt_irrefl _))]
  generalize (bd (zbg c.snaps[i].man) fun r179=>loop (zab.l10 c (i:Int) rec c.snaps[i] r179) 0)=tl at last;generalize ((allN (idsU (zlj c.snaps[i].man)).length fun k=>!(allN c.chunks.length fun j=>!decide ((c.chunks.getD j default).id=(idsU (zlj c.snaps[i].man)).getD k default))))=u at last;generalize (allN c.exps.length fun k=>!decide ((c.exps.getD k default).of=c.snaps[i].seq))=v at last;have key:∀ o:Bool,(bd (only (!(!A||o)) (some (decide (manB c.snaps[i].man))) false) fun r112=>bd (only (!((!A||o) || !r112)) (some Lo) false) fun r113=>bd (only (!(((!A||o) || !r112) || !r113)) (some fi) 0) fun r114=>if ((((!A||o) || !r112) || !r113)||decide (r114≠(i:Int)))=true then some false else tl)=if (A && !o&&decide (manB c.snaps[i].man)&&Lo&&decide (fi=(i:Int))&&u&&v)=true then rec ((i+1:Nat):Int) else some false:=by
   intro o;simp only [zci,zal];rw [show decide (fi=(i:Int))=decide (fi=(i:Int)) from rfl]
   by_cases hm:manB c.snaps[i].man
   ·rw [last hm,decide_eq_true hm]
    by_cases hfi:fi=(i:Int)
    ·rw [hfi];cases A <;> cases o <;> cases Lo <;> simp
    ·rw [decide_eq_false hfi];cases A <;> cases o <;> cases Lo <;> simp [hfi]
   ·rw [decide_eq_false hm];cases A <;> cases o <;> simp
  by_cases hi0:0 < i
  ·have e2:ix c.snaps (wr ((i:Int) - 1))=some (c.snaps.getD (i - 1) default):=by
    rw [zle hi0 (by omega),zbv (show i - 1 < c.snaps.length by omega),zbn (by omega)]
   have h0':decide ((0:Int) < (i:Int))=true:=decide_eq_true (by omega);rw [e2,h0',decide_eq_true hi0,zci,zal];cases A with
   | false=>simp only [Bool.not_false,Bool.true_or,Bool.not_true,zel,zal,if_true];rfl
   | true =>
    simp only [Bool.not_true,Bool.not_false,Bool.false_or,Bool.true_and,if_true] at key ⊢;refine (key _).trans ?_;rw [Bool.not_not]
  ·have h0':decide ((0:Int) < (i:Int))=false:=decide_eq_false (by omega);rw [h0',decide_eq_false hi0];simp only [Bool.and_false,Bool.false_and,zel,zal];refine (key false).trans ?_;simp only [Bool.not_false,Bool.true_or]
 ·intro rec;simp only [zab.l6];rw [if_f (lt_f (Nat.lt_irrefl _))]
end Go.Wk.Lf
end
section
namespace Go.Wk.Lf
open Go.V Go.Sort Go.Proofs
theorem rchunks_eq (c:Catalog) (hf:Fine c) (hl:c.chunks.length≤1073741824):zab.k1 c=if allN c.chunks.length (zhd c)=true then zab.k2 c else some false:=by
 unfold zab.k1;rw [zfr c.chunks.length (zhd c) (zab.k2 c) (some false) (by omega) ?_ ?_]
 ·intro rec i hi;simp only [zab.l11];rw [if_t (lt_t hi),zbv hi,zal];have e1:c.chunks.getD i default=c.chunks[i]:=zbn hi;simp only [zwy,rin_eq,zaz (show i < 4611686018427387904 by omega)];have key:∀ (o:Bool) (x:Chunk),(bd (only (!o) (some (zie c.vols x.locs)) false) fun r212=>bd (only ((!(o||(!r212)))&&x.staged) (some (inB (x.data.length:Int) 1 64)) false) fun r213=>if (((o||(!r212))||(x.staged&&(!r213)))||((!x.staged)&&(decide (0 < (x.data.length:Int))||decide ((x.locs.length:Int)=0))))=true then some false else rec ((i+1:Nat):Int))=if (!o&&zie c.vols x.locs&&zuu x)=true then rec ((i+1:Nat):Int) else some false:=by
   intro o x;simp only [zci,zal];refine zik ?_;unfold zuu;have d1:decide ((0:Int) < (x.data.length:Int)) = !decide (x.data.length=0):=by
    by_cases h:x.data.length=0
    ·simp [h]
    ·rw [decide_eq_false h,decide_eq_true (by omega)];rfl
   rw [d1,zrt];generalize decide (x.data.length=0)=p;generalize decide (0 < x.locs.length)=q;generalize inB (x.data.length:Int) 1 64=s;generalize zie c.vols x.locs=u;generalize x.staged=v;cases o <;> cases p <;> cases q <;> cases s <;> cases u <;> cases v <;> rfl
  by_cases h0:0 < i
  ·have hi':i - 1 < c.chunks.length:=by omega
   have e2:ix c.chunks (wr ((i:Int) - 1))=some (c.chunks.getD (i - 1) default):=by
    rw [zle h0 (by omega),zbv hi',zbn hi']
   have h0':decide ((0:Int) < (i:Int))=true:=decide_eq_true (by omega);have hb:zcx (c.chunks.getD (i - 1) default).id c.chunks[i].id=some (sLt (c.chunks.getD (i - 1) default).id c.chunks[i].id):=by
    rw [zbn hi'];exact zvq _ _ (hf.id _ (List.getElem_mem hi')) (hf.id _ (List.getElem_mem hi))
   rw [e2,h0',zci,zal,if_pos rfl,hb,zci,zal,if_pos rfl];simp only [Bool.true_and];refine (key _ _).trans ?_;unfold zhd;rw [e1,decide_eq_true h0];simp only [Bool.not_not,Bool.not_true,Bool.false_or]
  ·have h0':decide ((0:Int) < (i:Int))=false:=decide_eq_false (by omega);rw [h0'];simp only [zel,zal,Bool.false_and];refine (key false _).trans ?_;unfold zhd;rw [e1,decide_eq_false h0];rfl
 ·intro rec;simp only [zab.l11];rw [if_f (lt_f (Nat.lt_irrefl _))]
theorem rvols_eq (c:Catalog) (hl:c.vols.length≤1073741824):loop (zab.l12 c) 0=if c.vols.all volB=true then zab.k1 c else some false:=by
 rw [zfr c.vols.length (fun i=>volB (c.vols.getD i default)) (zab.k1 c) (some false) (by omega) ?_ ?_,allN_all]
 ·intro rec i hi;simp only [zab.l12,zab.k14,zab.k13];rw [if_t (lt_t hi),zbv hi,zal];simp only [rin_eq,zci,zal,zaz (show i < 4611686018427387904 by omega),zbn hi];unfold volB;generalize c.vols[i]=v;generalize inB v.pool 0 1=a;generalize inB v.epoch 0 1048576=b;generalize inB v.files 1 65535=d;have e:decide (v.files≠0) = !decide (v.files=0):=decide_not;rw [e]
  by_cases h2:v.state=2
  ·rw [h2];generalize decide (v.files=0)=f;cases a <;> cases b <;> cases d <;> cases f <;> simp
  ·rw [decide_eq_false h2];generalize decide (v.files=0)=f;generalize decide (v.state=1)=p;generalize decide (v.state=3)=q;cases a <;> cases b <;> cases f <;> cases p <;> cases q <;> simp
 ·intro rec;simp only [zab.l12];rw [if_f (lt_f (Nat.lt_irrefl _))]
theorem name_first {c:Catalog} {i:Nat} (hi:i < c.snaps.length):zjq c.snaps.length (fun k=>(c.snaps.getD k default).man.name == (c.snaps.getD i default).man.name)=(i:Int) ↔ ¬ (c.snaps.getD i default).man.name∈(c.snaps.take i).map fun s=>s.man.name:=by
 rw [findI_at hi];constructor
 ·rintro ⟨_,h2⟩ hm;obtain ⟨s,hs,he⟩:=List.mem_map.1 hm;obtain ⟨j,hj,rfl⟩:=List.mem_iff_getElem.1 hs;simp only [List.length_take] at hj;have:=h2 j (by omega);rw [zbn (by omega)] at this;rw [List.getElem_take] at he;simp [he] at this
 ·intro h;refine ⟨by simp,fun j hj=>?_⟩;rw [zbn (show j < c.snaps.length by omega)];simp only [beq_eq_false_iff_ne,ne_eq];exact fun q=>h (List.mem_map.2 ⟨c.snaps[j],List.mem_iff_getElem.2 ⟨j,by simp;omega,by simp⟩,q⟩)
theorem used_iff {c:Catalog} {m:Manifest} (hr:zvc c.chunks):(allN (idsU (zlj m)).length fun k=>!(allN c.chunks.length fun j=>!decide ((c.chunks.getD j default).id=(idsU (zlj m)).getD k default)))=true ↔ idsIn c m=true:=by
 rw [ids_iff hr,zec];constructor
 ·intro h y hy;rw [← zxl] at hy;obtain ⟨k,hk,rfl⟩:=List.mem_iff_getElem.1 hy;have:=h k hk;rw [zbn hk,Bool.not_eq_true',← Bool.not_eq_true,zec] at this
  by_cases q:∃ x∈c.chunks,x.id=(idsU (zlj m))[k]
  ·exact q
  ·refine absurd (fun j hj=>?_) this;rw [zbn hj,Bool.not_eq_true',decide_eq_false_iff_not];exact fun e=>q ⟨_,List.getElem_mem hj,e⟩
 ·intro h k hk;obtain ⟨x,hx,he⟩:=h _ ((zxl _ _).1 (List.getElem_mem hk));obtain ⟨j,hj,rfl⟩:=List.mem_iff_getElem.1 hx;rw [zbn hk,Bool.not_eq_true',← Bool.not_eq_true,zec];intro q;have:=q j hj;rw [zbn hj] at this;simp [he] at this
theorem same_right {c:Catalog} (hr:zvc c.chunks):((∀ i,i < c.snaps.length→snapR c i=true) ∧ ∀ i,i < c.exps.length→expR c i=true) ↔ ((∀ i,i < c.snaps.length→znf c i=true) ∧ ∀ i,i < c.exps.length→zur c i=true):=by
 have hs:∀ i,i < c.snaps.length→(snapR c i=true ↔ znf c i=true ∧ ∀ k,k < c.exps.length → ¬ (c.exps.getD k default).of=(c.snaps.getD i default).seq):=by
  intro i hi;unfold snapR znf;simp only [Bool.and_eq_true,Bool.not_eq_true',decide_eq_true_eq,decide_eq_false_iff_not,used_iff hr,name_first hi,zec];constructor
  ·rintro ⟨⟨⟨⟨⟨⟨h1,h2⟩,h3⟩,h4⟩,h5⟩,h6⟩,h7⟩;exact ⟨⟨⟨⟨⟨⟨h1,h2⟩,h5⟩,h3⟩,h4⟩,h6⟩,h7⟩
  ·rintro ⟨⟨⟨⟨⟨⟨h1,h2⟩,h5⟩,h3⟩,h4⟩,h6⟩,h7⟩;exact ⟨⟨⟨⟨⟨⟨h1,h2⟩,h3⟩,h4⟩,h5⟩,h6⟩,h7⟩
 have he:∀ i,i < c.exps.length→(zur c i=true ↔ expR c i=true ∧ ∀ k,k < c.snaps.length → ¬ (c.snaps.getD k default).seq=(c.exps.getD i default).of):=by
  intro i hi;unfold expR zur;simp only [Bool.and_eq_true,Bool.not_eq_true',decide_eq_false_iff_not,zec]
 constructor
 ·rintro ⟨h1,h2⟩;exact ⟨fun i hi=>((hs i hi).1 (h1 i hi)).1,fun i hi=>(he i hi).2 ⟨h2 i hi,fun k hk q=>((hs k hk).1 (h1 k hk)).2 i hi q.symm⟩⟩
 ·rintro ⟨h1,h2⟩;exact ⟨fun i hi=>(hs i hi).2 ⟨h1 i hi,fun k hk q=>((he k hk).1 (h2 k hk)).2 i hi q.symm⟩,fun i hi=>((he i hi).1 (h2 i hi)).1⟩
theorem ztw (c:Catalog) (hf:Fine c):zab c=some (catB c):=by
 unfold zab;rw [rin_eq,zal,rin_eq,zci,zal]
 by_cases hlen:inB c.seq 0 1073741824=true∧c.snaps.length≤8∧c.chunks.length≤200∧c.exps.length≤200∧inB (c.vols.length:Int) 1 8=true
 ·obtain ⟨h1,h2,h3,h4,h5⟩:=hlen;have hv:=(zil.1 h5).2;rw [h1,h5,decide_eq_false (show ¬ (8:Int) < (c.snaps.length:Int) by omega),decide_eq_false (show ¬ (200:Int) < (c.chunks.length:Int) by omega),decide_eq_false (show ¬ (200:Int) < (c.exps.length:Int) by omega)];simp only [Bool.not_true,Bool.or_self,Bool.not_false,if_true,Bool.false_eq_true,if_false];rw [rvols_eq c (by omega),rchunks_eq c hf (by omega),rsnaps_eq c hf (by omega) (by omega) (by omega),rexps_eq c (by omega)];have e:catB c=(c.vols.all volB&&(allN c.chunks.length (zhd c)&&(allN c.snaps.length (snapR c)&&allN c.exps.length (expR c)))):=by
   unfold catB zve zpu zxq;rw [h1,h5,decide_eq_true h2,decide_eq_true h4];have hc:zje c=allN c.chunks.length (zhd c):=by unfold zje;rw [decide_eq_true h3,Bool.and_true]
   by_cases hcb:allN c.chunks.length (zhd c)=true
   ·have hr:=zqu (c:=c) (hc.trans hcb);have:=same_right hr;simp only [← zec] at this;rw [hc,hcb];simp only [Bool.true_and,Bool.and_true,Bool.and_assoc]
    congr 1
    rw [Bool.eq_iff_iff,Bool.and_eq_true,Bool.and_eq_true];exact this.symm
   ·rw [Bool.not_eq_true] at hcb;rw [hc,hcb];simp
  rw [e];generalize c.vols.all volB=a;generalize allN c.chunks.length (zhd c)=b;generalize allN c.snaps.length (snapR c)=d;generalize allN c.exps.length (expR c)=g;cases a <;> cases b <;> cases d <;> cases g <;> rfl
 ·have e:catB c=false:=by
   cases h:catB c with
   | false=>rfl
   | true =>
    refine absurd ?_ hlen;unfold catB zve zje zpu zxq at h;simp only [Bool.and_eq_true,decide_eq_true_eq] at h;exact ⟨h.1.1.1.1,h.1.2.2,h.1.1.2.2,h.2.2,h.1.1.1.2.2⟩
  rw [e,if_t]
  by_cases h1:inB c.seq 0 1073741824=true
  ·rw [h1]
   by_cases h2:c.snaps.length≤8
   ·rw [decide_eq_false (show ¬ (8:Int) < (c.snaps.length:Int) by omega)]
    by_cases h3:c.chunks.length≤200
    ·rw [decide_eq_false (show ¬ (200:Int) < (c.chunks.length:Int) by omega)]
     by_cases h4:c.exps.length≤200
     ·rw [decide_eq_false (show ¬ (200:Int) < (c.exps.length:Int) by omega)];cases h5:inB (c.vols.length:Int) 1 8 with
      | false=>rfl
      | true=>exact absurd ⟨h1,h2,h3,h4,h5⟩ hlen
     ·rw [decide_eq_true (show (200:Int) < (c.exps.length:Int) by omega)];simp
    ·rw [decide_eq_true (show (200:Int) < (c.chunks.length:Int) by omega)];simp
   ·rw [decide_eq_true (show (8:Int) < (c.snaps.length:Int) by omega)];simp
  ·rw [Bool.not_eq_true] at h1;rw [h1];simp
end Go.Wk.Lf
end
section
namespace Go.Wk.Lf
open Go.V Go.Sort Go.Proofs
theorem mof {α:Type} {p:α→Bool} {l:List α} {x:α} (h:x∈l.filter p):x∈l:=(List.mem_filter.1 h).1
theorem del_gen {α:Type} {F:(Int × Int × List α→Option (List α))→Int × Int × List α→Option (List α)} (l:List α) (p:α→Bool) (k:Nat) (hk:k < l.length) (h0:∀ j (h:j < l.length),j < k→p l[j]=false) (hpk:p l[k]=true) (hn:l.length≤1073741824)
  (hstep:∀ rec (a b:Nat) (m:List α) (hb:b < l.length),m.length=l.length→a < b→m[b]? = some l[b]→F rec ((a:Int),(b:Int),m)=if p l[b]=true then rec ((a:Int),((b+1:Nat):Int),m) else rec (((a+1:Nat):Int),((b+1:Nat):Int),m.set a l[b]))
  (hend:∀ rec (a:Nat) m,m.length=l.length→a < l.length→F rec ((a:Int),(l.length:Int),m)=some (m.take a)):loop F ((k:Int),((k+1:Nat):Int),l)=some (l.filter fun x=>!p x):=by
 refine zgc (S:=Int × Int × List α) (σ:=Nat × List α) (fun b s=>((s.1:Int),(b:Int),s.2)) l.length (fun b s=>s.2.length=l.length∧s.1 < b∧s.2.take s.1=(l.take b).filter (fun x=>!p x)∧s.2.drop b=l.drop b) _ (i0:=k+1) (s0:=(k,l)) rfl (by omega) ⟨rfl,by simp,?_,rfl⟩ (by omega) ?_ ?_
 ·rw [zdl hk,List.filter_append,List.filter_eq_self.2 (fun x hx=>?_)]
  ·simp [hpk]
  ·obtain ⟨j,hj,rfl⟩:=List.mem_iff_getElem.1 hx;simp only [List.length_take] at hj;rw [List.getElem_take,h0 j (by omega) (by omega)];rfl
 ·rintro rec b ⟨a,m⟩ hb ⟨hm,hab,ht,hd⟩ hrec;have hmb:m[b]? = some l[b]:=by
   have:=congrArg (fun q=>q[0]?) hd;simp only [List.getElem?_drop,Nat.add_zero] at this;rw [this];simp [hb]
  simp only at hm hab ht hd ⊢;rw [hstep rec a b m hb hm hab hmb]
  by_cases hp:p l[b]=true
  ·rw [if_pos hp];refine hrec (a,m) ⟨hm,by simp;omega,?_,?_⟩
   ·simp only [ht];rw [zdl hb,List.filter_append];simp [hp]
   ·simp only;rw [← List.drop_drop,← List.drop_drop,hd]
  ·rw [if_neg hp];refine hrec (a+1,m.set a l[b]) ⟨by simpa using hm,by simp;omega,?_,?_⟩
   ·simp only;have e:(m.set a l[b]).take (a+1)=m.take a++[l[b]]:=by
     rw [List.take_add_one,List.take_set_of_le (Nat.le_refl _)];simp [show a < m.length by omega]
    rw [e,zdl hb,List.filter_append,ht];simp [hp]
   ·simp only;rw [List.drop_set_of_lt (by omega),← List.drop_drop,← List.drop_drop,hd]
 ·rintro rec ⟨a,m⟩ ⟨hm,hab,ht,hd⟩;simp only at hm hab ht hd ⊢;rw [hend rec a m hm hab,ht,List.take_length]
theorem zvx {n:Nat} {p:Nat→Bool}:zjq n p = -1 ↔ ∀ i,i < n→p i=false:=by
 have h:=findI_neg (n:=n) (p:=p);constructor
 ·intro e i hi;rw [e] at h;have:=zec.1 h.symm i hi;simpa using this
 ·intro e;have:allN n (fun i=>!p i)=true:=zec.2 fun i hi=>by rw [e i hi];rfl
  rw [this,decide_eq_true_eq] at h;unfold zjq at h ⊢
  split
  ·rename_i q;rw [if_pos q] at h;omega
  ·rfl
theorem zvw {n:Nat} {p:Nat→Bool} (h:¬ zjq n p = -1):∃ k,k < n∧zjq n p=(k:Int)∧p k=true ∧ ∀ j,j < k→p j=false:=by
 have hk:preN n (fun i=>!p i) < n:=by
  unfold zjq at h
  split at h
  ·assumption
  ·exact absurd rfl h
 have e:zjq n p=(preN n (fun i=>!p i):Int):=if_pos hk;obtain ⟨h1,h2⟩:=(findI_at hk).1 e;exact ⟨_,hk,e,h1,h2⟩
theorem del_end {α:Type} {l m:List α} {a:Nat} {z:α} (hm:m.length=l.length) (ha:a < l.length):(bd (cut (α:=α) m (a:Int) (m.length:Int)) fun l7=>bd (clr m (a:Int).toNat ((m.length:Int).toNat - (a:Int).toNat) z) fun l9=>bd (cut (α:=α) l9 0 (a:Int)) fun l11=>bd (nz l9) fun _=>some l11)=some (m.take a):=by
 have e:(m.take a++List.replicate (m.length - a) z).length=m.length:=by simp;omega
 rw [zkw (by omega) (by omega) (by omega),zal,Int.toNat_natCast,Int.toNat_natCast,show clr m a (m.length - a) z=some (m.take a++List.replicate (m.length - a) z) from if_pos (by omega),zal,zkw (Int.le_refl _) (by omega) (by rw [e];omega),zal,nz_ok (fun q=>by rw [q] at e;simp at e;omega),zal];show some (((m.take a++List.replicate (m.length - a) z).take (a:Int).toNat).drop 0)=_;rw [Int.toNat_natCast,List.drop_zero,List.take_left' (by rw [List.length_take];omega)]
def liveS (s:Snap):Bool:=decide (0 < s.locs.length)
def liveC (x:Chunk):Bool:=decide (0 < x.locs.length)
theorem delS_eq (l:List Snap) (hl:l.length≤1073741824):zai l=some (l.filter liveS):=by
 have hi:zao l=some (zjq l.length fun i=>!liveS (l.getD i default)):=by
  unfold zao;rw [zma l.length (fun i=>!liveS (l.getD i default)) (by omega) ?_ ?_]
  ·intro rec i hi;simp only [zao.l2,zhx,zrt];rw [if_t (lt_t hi),zbv hi,zal,zbn hi,zaz (by omega)];rfl
  ·intro rec;simp only [zao.l2,zao.k1];rw [if_f (lt_f (Nat.lt_irrefl _))]
 have ef:(fun x=>!(!liveS x))=liveS:=funext fun x=>Bool.not_not _;unfold zai;rw [hi,zal]
 by_cases h:(zjq l.length fun i=>!liveS (l.getD i default)) = -1
 ·rw [if_t (decide_eq_true h),List.filter_eq_self.2 fun x hx=>?_];obtain ⟨i,hi,rfl⟩:=List.mem_iff_getElem.1 hx;have:=zvx.1 h i hi;rw [zbn hi] at this;simpa using this
 ·obtain ⟨k,hk,e,h1,h2⟩:=zvw h;rw [if_f (decide_eq_false h),e,zaz (by omega)];rw [zbn hk] at h1;rw [del_gen l (fun x=>!liveS x) k hk (fun j hj hjk=>by have:=h2 j hjk;rwa [zbn hj] at this) h1 hl ?_ ?_,ef]
  ·intro rec a b m hb hm hab hmb;simp only [zai.l2,zai.k3,zhx,zrt];rw [if_t (lt_t (by omega)),ix_of hmb,zal,zal,zbv (show a < m.length by omega),zal,zaz (by omega),zaz (by omega),Int.toNat_natCast];simp only [liveS]
   by_cases hq:0 < l[b].locs.length <;> simp [hq]
  ·intro rec a m hm ha;simp only [zai.l2,zai.k1];rw [if_f (lt_f (by omega))];exact del_end hm ha
theorem delC_eq (l:List Chunk) (hl:l.length≤1073741824):zag l=some (l.filter liveC):=by
 have hi:zan l=some (zjq l.length fun i=>!liveC (l.getD i default)):=by
  unfold zan;rw [zma l.length (fun i=>!liveC (l.getD i default)) (by omega) ?_ ?_]
  ·intro rec i hi;simp only [zan.l2,zhw,zrt];rw [if_t (lt_t hi),zbv hi,zal,zbn hi,zaz (by omega)];rfl
  ·intro rec;simp only [zan.l2,zan.k1];rw [if_f (lt_f (Nat.lt_irrefl _))]
 have ef:(fun x=>!(!liveC x))=liveC:=funext fun x=>Bool.not_not _;unfold zag;rw [hi,zal]
 by_cases h:(zjq l.length fun i=>!liveC (l.getD i default)) = -1
 ·rw [if_t (decide_eq_true h),List.filter_eq_self.2 fun x hx=>?_];obtain ⟨i,hi,rfl⟩:=List.mem_iff_getElem.1 hx;have:=zvx.1 h i hi;rw [zbn hi] at this;simpa using this
 ·obtain ⟨k,hk,e,h1,h2⟩:=zvw h;rw [if_f (decide_eq_false h),e,zaz (by omega)];rw [zbn hk] at h1;rw [del_gen l (fun x=>!liveC x) k hk (fun j hj hjk=>by have:=h2 j hjk;rwa [zbn hj] at this) h1 hl ?_ ?_,ef]
  ·intro rec a b m hb hm hab hmb;simp only [zag.l2,zag.k3,zhw,zrt];rw [if_t (lt_t (by omega)),ix_of hmb,zal,zal,zbv (show a < m.length by omega),zal,zaz (by omega),zaz (by omega),Int.toNat_natCast];simp only [liveC]
   by_cases hq:0 < l[b].locs.length <;> simp [hq]
  ·intro rec a m hm ha;simp only [zag.l2,zag.k1];rw [if_f (lt_f (by omega))];exact del_end hm ha
def seqM (a s:Int):Int:=if a < s+1 then s+1 else a
def bareK (x:Chunk):Chunk:=Chunk.mk x.id false [] x.locs
def zic (c:Catalog):Catalog:=Catalog.mk ((c.exps.map (·.seq)).foldl seqM (((c.snaps.filter liveS).map (·.seq)).foldl seqM 0)) (c.snaps.filter liveS) ((c.chunks.filter liveC).map bareK) c.exps c.vols
theorem foldM_le (l:List Int) (q:Int):∀ a,a≤q→(∀ s∈l,s+1≤q)→l.foldl seqM a≤q∧a≤l.foldl seqM a:=by
 induction l with
 | nil=>intro a h _;exact ⟨h,Int.le_refl _⟩
 | cons s l ih =>
  intro a h hs;have h1:=hs s (List.mem_cons_self ..);have hm:seqM a s≤q∧a≤seqM a s:=by unfold seqM;split <;> omega
  obtain ⟨i1,i2⟩:=ih (seqM a s) hm.1 fun t ht=>hs t (List.mem_cons_of_mem _ ht);exact ⟨i1,Int.le_trans hm.2 i2⟩
theorem cat_seqs {c:Catalog} (h:catB c=true):0≤c.seq∧c.seq≤1073741824∧(∀ s∈c.snaps,0≤s.seq∧s.seq+1≤c.seq) ∧ ∀ x∈c.exps,0≤x.seq∧x.seq+1≤c.seq:=by
 unfold catB zpu zxq at h;simp only [Bool.and_eq_true,zec,zil] at h;obtain ⟨⟨⟨⟨⟨h0,h1⟩,_⟩,_⟩,hs,_⟩,he,_⟩:=h;refine ⟨h0,h1,fun s hs'=>?_,fun x hx=>?_⟩
 ·obtain ⟨i,hi,rfl⟩:=List.mem_iff_getElem.1 hs';have:=hs i hi;unfold znf at this;simp only [Bool.and_eq_true,zil,zbn hi] at this;have:=this.1.1.1.1.1;omega
 ·obtain ⟨i,hi,rfl⟩:=List.mem_iff_getElem.1 hx;have:=he i hi;unfold zur at this;simp only [Bool.and_eq_true,zil,zbn hi] at this;have:=this.1.1.1.1.1;omega
theorem rpart_eq {c:Catalog} (h:catB c=true):zbm c=some (zic c):=by
 have hs:=zwf h;obtain ⟨hv,⟨hc,_⟩,⟨hsn,_⟩,he,_⟩:=hs;obtain ⟨q0,q1,qs,qe⟩:=cat_seqs h;have hfs:(c.snaps.filter liveS).length≤c.snaps.length:=List.length_filter_le ..;have hfc:(c.chunks.filter liveC).length≤c.chunks.length:=List.length_filter_le ..;unfold zbm;rw [zxx _ hv hc hsn he,zal,if_pos h];rw [if_f (by decide),twinCat_eq _ (zwf h),zal,delS_eq _ hsn,zal,delC_eq _ hc,zal];rw [znq (c.chunks.filter liveC) bareK (fun l=>zbm.k1 c (c.snaps.filter liveS) l) (by omega) ?_ ?_]
 ·unfold zbm.k1;rw [zhy (S:=Int × Int) (σ:=Int) (fun i a=>((i:Int),a)) (c.snaps.filter liveS) (fun a s=>seqM a s.seq) (fun a=>zbm.k2 c (c.snaps.filter liveS) ((c.chunks.filter liveC).map bareK) a) (fun _ _=>True) (i0:=0) (s0:=0) (x0:=((0:Int),(0:Int))) rfl (Nat.zero_le _) trivial (by omega) ?_ ?_]
  ·unfold zbm.k2;rw [zhy (S:=Int × Int) (σ:=Int) (fun i a=>((i:Int),a)) c.exps (fun a s=>seqM a s.seq) (fun a=>zbm.k3 c (c.snaps.filter liveS) ((c.chunks.filter liveC).map bareK) a) (fun _ _=>True) (i0:=0) (x0:=((0:Int),List.foldl (fun a s=>seqM a s.seq) 0 (List.drop 0 (c.snaps.filter liveS)))) rfl (Nat.zero_le _) trivial (by omega) ?_ ?_]
   ·unfold zbm.k3 zic;rw [List.drop_zero,List.drop_zero,List.foldl_map,List.foldl_map]
   ·intro rec i a hi _;refine ⟨trivial,?_⟩;simp only [zbm.l4];have:=qe _ (List.getElem_mem hi);rw [if_t (lt_t hi),zbv hi,zal,zaz (by omega),zho (by omega) (by omega)];unfold seqM
    by_cases hh:a < c.exps[i].seq+1 <;> simp [hh]
   ·intro rec a _;simp only [zbm.l4];rw [if_f (lt_f (Nat.lt_irrefl _))]
  ·intro rec i a hi _;refine ⟨trivial,?_⟩;simp only [zbm.l5];have:=qs _ (mof (List.getElem_mem hi));rw [if_t (lt_t hi),zbv hi,zal,zaz (by omega),zho (by omega) (by omega)];unfold seqM
   by_cases hh:a < (c.snaps.filter liveS)[i].seq+1 <;> simp [hh]
  ·intro rec a _;simp only [zbm.l5];rw [if_f (lt_f (Nat.lt_irrefl _))]
 ·intro rec i m hi hm hx;simp only [zbm.l6];rw [if_t (lt_t hi),ix_of hx,zal,Int.toNat_natCast,zbv (show i < (m.set i _).length by simp;omega),zal,zaz (by omega),List.set_set];simp [bareK]
 ·intro rec m hm;simp only [zbm.l6];rw [if_f (lt_f (by omega))]
theorem part_part (c:Catalog):zic (zic c)=zic c:=by
 have e1:(c.snaps.filter liveS).filter liveS=c.snaps.filter liveS:=List.filter_eq_self.2 fun x hx=>(List.mem_filter.1 hx).2;have e2:((c.chunks.filter liveC).map bareK).filter liveC=(c.chunks.filter liveC).map bareK:=List.filter_eq_self.2 fun x hx=>by
  obtain ⟨y,hy,rfl⟩:=List.mem_map.1 hx;exact (List.mem_filter.1 hy).2
 have e3:((c.chunks.filter liveC).map bareK).map bareK=(c.chunks.filter liveC).map bareK:=by
  rw [List.map_map];rfl
 unfold zic;simp only [e1,e2,e3]
theorem part_seq {c:Catalog} (h:catB c=true):(zic c).seq≤c.seq:=by
 obtain ⟨q0,q1,qs,qe⟩:=cat_seqs h;unfold zic;have h1:=foldM_le ((c.snaps.filter liveS).map (·.seq)) c.seq 0 q0 fun s hs=>by
  obtain ⟨x,hx,rfl⟩:=List.mem_map.1 hs;exact (qs _ (mof hx)).2
 exact (foldM_le (c.exps.map (·.seq)) c.seq _ h1.1 fun s hs=>by
  obtain ⟨x,hx,rfl⟩:=List.mem_map.1 hs;exact (qe _ hx).2).1
theorem part_fine {c:Catalog} (h:Fine c):Fine (zic c):=⟨fun x hx=>by
  obtain ⟨y,hy,rfl⟩:=List.mem_map.1 hx;exact h.id y (mof hy),fun s hs=>h.man s (mof hs)⟩
theorem part_small {c:Catalog} (h:zvm c):zvm (zic c):=by
 obtain ⟨hv,⟨hc,hc2⟩,⟨hs,hs2⟩,he,he2⟩:=h;have hfs:(c.snaps.filter liveS).length≤c.snaps.length:=List.length_filter_le ..;have hfc:(c.chunks.filter liveC).length≤c.chunks.length:=List.length_filter_le ..;refine ⟨hv,⟨by simp only [zic,List.length_map];omega,fun x hx=>?_⟩,⟨by simp only [zic];omega,fun s hs=>hs2 s (mof hs)⟩,he,he2⟩;obtain ⟨y,hy,rfl⟩:=List.mem_map.1 hx;exact ⟨Nat.zero_le _,(hc2 y (mof hy)).2⟩
theorem part_whole {c:Catalog} (h:catB c=true):zwu (zic c) c ↔ c.snaps.all liveS=true∧c.chunks.all (fun x=>liveC x && !x.staged)=true:=by
 constructor
 ·rintro ⟨h1,h2,_⟩;refine ⟨List.all_eq_true.2 fun s hs=>?_,List.all_eq_true.2 fun x hx=>?_⟩
  ·rw [← h1] at hs;exact (List.mem_filter.1 hs).2
  ·rw [← h2] at hx;obtain ⟨y,hy,rfl⟩:=List.mem_map.1 hx;rw [Bool.and_eq_true];exact ⟨(List.mem_filter.1 hy).2,rfl⟩
 ·rintro ⟨h1,h2⟩;have e1:c.snaps.filter liveS=c.snaps:=List.filter_eq_self.2 fun x hx=>List.all_eq_true.1 h1 x hx;have e2:c.chunks.filter liveC=c.chunks:=List.filter_eq_self.2 fun x hx=>by
   have:=List.all_eq_true.1 h2 x hx;rw [Bool.and_eq_true] at this;exact this.1
  refine ⟨e1,?_,rfl,rfl⟩;show (c.chunks.filter liveC).map bareK=c.chunks;rw [e2];refine (List.map_congr_left fun x hx=>?_).trans (List.map_id _);have hs:=List.all_eq_true.1 h2 x hx;rw [Bool.and_eq_true,Bool.not_eq_true'] at hs;have hk:zje c=true:=by
   unfold catB at h;simp only [Bool.and_eq_true] at h;exact h.1.1.2
  unfold zje at hk;rw [Bool.and_eq_true,zec] at hk;obtain ⟨i,hi,rfl⟩:=List.mem_iff_getElem.1 hx;have:=hk.1 i hi;unfold zhd zuu at this;rw [zbn hi,hs.2] at this;simp only [Bool.and_eq_true,Bool.false_eq_true,if_false,decide_eq_true_eq] at this;have hd:c.chunks[i].data=[]:=List.length_eq_zero_iff.1 this.2.1;generalize c.chunks[i]=y at *;obtain ⟨id,st,da,lo⟩:=y;simp only at hs hd;simp [bareK,hs.2,hd]
end Go.Wk.Lf
end
section
namespace Go.Wk.Lf
open Go.V Go.Sort Go.Proofs
def rotP (x:UInt32) (k:Nat):UInt32:=UInt32.ofNat (x.toNat / 2 ^ k) ||| UInt32.ofNat (x.toNat*2 ^ (32 - k))
theorem rot_b2 (x:UInt32):zbd x 2=some (rotP x 2):=rfl
theorem rot_b6 (x:UInt32):zbd x 6=some (rotP x 6):=rfl
theorem rot_b7 (x:UInt32):zbd x 7=some (rotP x 7):=rfl
theorem rot_b11 (x:UInt32):zbd x 11=some (rotP x 11):=rfl
theorem rot_b13 (x:UInt32):zbd x 13=some (rotP x 13):=rfl
theorem rot_b17 (x:UInt32):zbd x 17=some (rotP x 17):=rfl
theorem rot_b18 (x:UInt32):zbd x 18=some (rotP x 18):=rfl
theorem rot_b19 (x:UInt32):zbd x 19=some (rotP x 19):=rfl
theorem rot_b22 (x:UInt32):zbd x 22=some (rotP x 22):=rfl
theorem rot_b25 (x:UInt32):zbd x 25=some (rotP x 25):=rfl
theorem ix_gd {α:Type} [Inhabited α] {l:List α} {n:Nat} (h:n < l.length):ix l (n:Int)=some (l.getD n default):=by
 rw [zbv h];simp [h]
def rndP (k w s:List UInt32) (i:Nat):List UInt32 :=
 let a:=s.getD 0 default;let e:=s.getD 4 default
 let t:=((((s.getD 7 default+((rotP e 6 ^^^ rotP e 11) ^^^ rotP e 25))+((e &&& s.getD 5 default) ^^^ ((~~~e) &&& s.getD 6 default)))+k.getD i default)+w.getD i default)
 [t+(((rotP a 2 ^^^ rotP a 13) ^^^ rotP a 22)+(((a &&& s.getD 1 default) ^^^ (a &&& s.getD 2 default)) ^^^ (s.getD 1 default &&& s.getD 2 default))),a,s.getD 1 default,s.getD 2 default,s.getD 3 default+t,e,s.getD 5 default,s.getD 6 default]
def rndsP (k w s:List UInt32):List UInt32:=(List.range 64).foldl (rndP k w) s
def addP (s0 s:List UInt32):List UInt32:=(List.range 8).foldl (fun t i=>t.set i (t.getD i default+s.getD i default)) s0
def wordP (b:List UInt8) (i:Nat):UInt32:=UInt32.ofNat (beN ((b.take (4*i+4)).drop (4*i)))
def schP (b:List UInt8) (w:List UInt32) (i:Nat):List UInt32 :=
 if i < 16 then w.set i (wordP b i)
 else w.set i (((w.getD (i - 16) default+((rotP (w.getD (i - 15) default) 7 ^^^ rotP (w.getD (i - 15) default) 18) ^^^ (w.getD (i - 15) default >>> UInt32.ofNat 3)))+w.getD (i - 7) default)+((rotP (w.getD (i - 2) default) 17 ^^^ rotP (w.getD (i - 2) default) 19) ^^^ (w.getD (i - 2) default >>> UInt32.ofNat 10)))
def schedP (b:List UInt8):List UInt32:=(List.range 64).foldl (schP b) (List.replicate 64 0)
def blkP (k:List UInt32) (b:List UInt8) (s:List UInt32):List UInt32:=addP s (rndsP k (schedP b) s)
theorem lit (l:List UInt32) (n:Nat) (h:n < l.length) (i:Int) (hi:i=(n:Int)):ix l i=some (l.getD n default):=by subst hi;exact ix_gd h
theorem b_l9 (k:List UInt32) (hk:k.length=64) (i32:Int) (s33:List UInt32) (rec35) (w:List UInt32) (hw:w.length=64) (s:List UInt32) (hs:s.length=8) :
  loop (zad.l9 k i32 s33 rec35 w) (0,s)=zad.k7 i32 s33 rec35 (rndsP k w s):=by
 have:=zhy (F:=zad.l9 k i32 s33 rec35 w) (x0:=(0,s)) (fun i s=>((i:Int),s)) (List.range 64) (rndP k w) (zad.k7 i32 s33 rec35) (fun _ s=>s.length=8) (i0:=0) (s0:=s) rfl (Nat.zero_le _) hs (by decide) ?_ ?_
 ·rw [this];rfl
 ·intro rec i s hi hs;rw [List.length_range] at hi;refine ⟨rfl,?_⟩;simp only [zad.l9];rw [if_t (decide_eq_true (by omega))];simp only [lit s 4 (by omega) 4 rfl,lit s 0 (by omega) 0 rfl,lit s 1 (by omega) 1 rfl,lit s 2 (by omega) 2 rfl,lit s 3 (by omega) 3 rfl,lit s 5 (by omega) 5 rfl,lit s 6 (by omega) 6 rfl,lit s 7 (by omega) 7 rfl,zal,rot_b2,rot_b6,rot_b11,rot_b13,rot_b22,rot_b25,lit k i (by omega) i rfl,lit w i (by omega) i rfl,zaz (show i < 4611686018427387904 by omega),List.getElem_range];rfl
 ·intro rec s hs;simp only [zad.l9];rw [if_f (by decide)]
theorem rnds_len (k w s:List UInt32) (hs:s.length=8):(rndsP k w s).length=8:=by
 have h:∀ (l:List Nat) s,s.length=8→(l.foldl (rndP k w) s).length=8:=fun l=>by
  induction l with
  | nil=>intro s h;exact h
  | cons i l ih=>intro s _;exact ih _ rfl
 unfold rndsP;exact h _ s hs
theorem zti {α:Type} {f:List α→Nat→List α} (hf:∀ s i,(f s i).length=s.length):∀ (l:List Nat) (s:List α),(l.foldl f s).length=s.length
 | [],s=>rfl
 | i::l,s=>by rw [List.foldl_cons,zti hf l,hf]
theorem add_len (s0 s:List UInt32):(addP s0 s).length=s0.length:=zti (fun t i=>by simp) _ _
theorem sch_len (b:List UInt8) (w:List UInt32) (i:Nat):(schP b w i).length=w.length:=by unfold schP;split <;> simp
theorem sched_len (b:List UInt8):(schedP b).length=64:=by unfold schedP;rw [zti (sch_len b)];simp
theorem b_l8 (i32:Int) (rec35) (s t:List UInt32) (hs:s.length=8) (ht:t.length=8) :
  loop (zad.l8 i32 rec35 s) (0,t)=zad.k5 i32 rec35 (addP t s):=by
 have:=zhy (F:=zad.l8 i32 rec35 s) (x0:=(0,t)) (fun i s=>((i:Int),s)) (List.range 8) (fun t i=>t.set i (t.getD i default+s.getD i default)) (zad.k5 i32 rec35) (fun _ s=>s.length=8) (i0:=0) (s0:=t) rfl (Nat.zero_le _) ht (by decide) ?_ ?_
 ·rw [this];rfl
 ·intro rec i t hi ht;rw [List.length_range] at hi;refine ⟨by simp [ht],?_⟩;simp only [zad.l8];rw [if_t (decide_eq_true (by omega))];simp only [lit s i (by omega) i rfl,lit t i (by omega) i rfl,zal,zaz (show i < 4611686018427387904 by omega),List.getElem_range,Int.toNat_natCast]
 ·intro rec s hs;simp only [zad.l8];rw [if_f (by decide)]
theorem wu_id {x:Int} (h0:0≤x) (h1:x < 18446744073709551616):wu x=x:=by
 show IntKind.u64.wrap x=x;rw [zwn];omega
end Go.Wk.Lf
end
section
namespace Go.Wk.Lf
open Go.V Go.Sort Go.Proofs
theorem word_step (n:Nat) (c:UInt8) (hn:n < 16777216):(UInt32.ofNat n <<< UInt32.ofNat 8) ||| c.toUInt32=UInt32.ofNat (n*256+c.toNat):=by
 have hc:=c.toNat_lt;apply UInt32.toNat.inj;have h1:(UInt32.ofNat n <<< UInt32.ofNat 8).toNat=n*256:=by
  rw [UInt32.toNat_shiftLeft];simp only [UInt32.toNat_ofNat'];rw [show 8 % 2 ^ 32 % 32=8 from rfl,Nat.shiftLeft_eq];omega
 rw [UInt32.toNat_or,h1,UInt8.toNat_toUInt32];simp only [UInt32.toNat_ofNat'];have:=Nat.shiftLeft_add_eq_or_of_lt (i:=8) (b:=c.toNat) (by omega) n;rw [Nat.shiftLeft_eq] at this;rw [show n*256=n*2 ^ 8 from rfl,← this];omega
theorem b_l14 (p:List UInt8) (blk:Nat) (hb:64*blk+64≤p.length) (hp:p.length≤1073741824) (i:Nat) (hi:i < 16) (rec145) (w:List UInt32) (hw:w.length=64) (h0:w.getD i default=0) :
  loop (zad.l14 p ((64*blk:Nat):Int) (i:Int) rec145) (0,w)=zad.k13 (i:Int) rec145 (w.set i (wordP (p.drop (64*blk)) i)):=by
 have hl:(((p.drop (64*blk)).take (4*i+4)).drop (4*i)).length=4:=by simp;omega
 refine zgc (S:=Int × List UInt32) (σ:=Unit) (fun j _=>((j:Int),w.set i (UInt32.ofNat (beN ((((p.drop (64*blk)).take (4*i+4)).drop (4*i)).take j))))) 4 (fun _ _=>True) _ (i0:=0) (s0:=()) ?_ (Nat.zero_le _) trivial (by omega) ?_ ?_
 ·refine congrArg (Prod.mk (0:Int)) ?_;rw [List.take_zero];apply List.ext_getElem (by simp);intro n h1 h2;rw [List.getElem_set]
  split
  ·rename_i e;subst e;have:=h0;rw [List.getD_eq_getElem?_getD,List.getElem?_eq_getElem h1] at this;simpa [beN] using this
  ·rfl
 ·intro rec j _ hj _ hrec;have hlt:beN ((((p.drop (64*blk)).take (4*i+4)).drop (4*i)).take j) < 256 ^ 3:=Nat.lt_of_lt_of_le (beN_lt _) (Nat.pow_le_pow_right (by decide) (by simp;omega));simp only [zad.l14];rw [if_t (decide_eq_true (by omega)),lit _ i (by simp;omega) i rfl,zal];rw [zho (x:=4*(i:Int)) (by omega) (by omega),zho (x:=((64*blk:Nat):Int)+4*(i:Int)) (by omega) (by omega),zho (x:=((64*blk:Nat):Int)+4*(i:Int)+(j:Int)) (by omega) (by omega)];rw [ix_at (n:=64*blk+4*i+j) (by omega) (by omega),zal,zal,zaz (by omega),Int.toNat_natCast];have e1:(w.set i (UInt32.ofNat (beN ((((p.drop (64*blk)).take (4*i+4)).drop (4*i)).take j)))).getD i default=UInt32.ofNat (beN ((((p.drop (64*blk)).take (4*i+4)).drop (4*i)).take j)):=by
   rw [List.getD_eq_getElem?_getD,List.getElem?_set_self (by omega)];rfl
  rw [e1,word_step _ _ (by omega),List.set_set];have:=hrec () trivial;rw [zdl (by omega),beN_snoc] at this;have e2:(((p.drop (64*blk)).take (4*i+4)).drop (4*i))[j]'(by omega)=p[64*blk+4*i+j]'(by omega):=by
   simp only [List.getElem_drop,List.getElem_take];congr 1;omega
  rw [e2] at this;exact this
 ·intro rec _ _;simp only [zad.l14];rw [if_f (by decide),List.take_of_length_le (by omega)];rfl
theorem b_l10 (k:List UInt32) (p:List UInt8) (blk:Nat) (hb:64*blk+64≤p.length) (hp:p.length≤1073741824) (s33:List UInt32) (rec35) :
  loop (zad.l10 k p ((64*blk:Nat):Int) s33 rec35) (0,List.replicate 64 0)=zad.k6 k ((64*blk:Nat):Int) s33 rec35 (schedP (p.drop (64*blk))):=by
 have:=zhy (F:=zad.l10 k p ((64*blk:Nat):Int) s33 rec35) (x0:=(0,List.replicate 64 0)) (fun i s=>((i:Int),s)) (List.range 64) (schP (p.drop (64*blk))) (zad.k6 k ((64*blk:Nat):Int) s33 rec35) (fun i s=>s.length=64 ∧ ∀ j,i≤j→s.getD j default=0) (i0:=0) (s0:=List.replicate 64 0) rfl (Nat.zero_le _) ⟨by simp,fun j _=>?_⟩ (by decide) ?_ ?_
 ·rw [this];rfl
 ·rw [List.getD_eq_getElem?_getD,List.getElem?_replicate];split <;> rfl
 ·intro rec i w hi hw;rw [List.length_range] at hi;obtain ⟨hw,hz⟩:=hw;simp only [List.getElem_range];refine ⟨⟨by rw [sch_len,hw],fun j hj=>?_⟩,?_⟩
  ·rw [← hz j (by omega),List.getD_eq_getElem?_getD,List.getD_eq_getElem?_getD];unfold schP
   split <;> rw [List.getElem?_set_ne (by omega)]
  simp only [zad.l10];rw [if_t (decide_eq_true (by omega))]
  by_cases h:i < 16
  ·rw [if_t (decide_eq_true (by omega)),b_l14 p blk hb hp i h _ w hw (hz i (Nat.le_refl _))];simp only [zad.k13,zad.k11];rw [zaz (by omega)];unfold schP;rw [if_pos h]
  ·rw [if_f (decide_eq_false (by omega))];simp only [zad.k12,zad.k11];simp only [lit w (i - 15) (by omega) (wr ((i:Int) - 15)) (by rw [zho (by omega) (by omega)];omega),lit w (i - 2) (by omega) (wr ((i:Int) - 2)) (by rw [zho (by omega) (by omega)];omega),lit w (i - 16) (by omega) (wr ((i:Int) - 16)) (by rw [zho (by omega) (by omega)];omega),lit w (i - 7) (by omega) (wr ((i:Int) - 7)) (by rw [zho (by omega) (by omega)];omega),lit w i (by omega) i rfl,zal,rot_b7,rot_b18,rot_b17,rot_b19,zaz (show i < 4611686018427387904 by omega),Int.toNat_natCast];unfold schP;rw [if_neg h]
   congr 3
   rw [UInt32.add_assoc,UInt32.add_assoc,UInt32.add_assoc,UInt32.add_assoc]
   congr 1
   rw [← UInt32.add_assoc,← UInt32.add_assoc]
   congr 1
   exact UInt32.add_comm _ _
 ·intro rec s hs;simp only [zad.l10];rw [if_f (by decide)]
def outP (s:List UInt32):List UInt8:=(List.range 32).foldl (fun o i=>o.set i (UInt32.ofNat ((s.getD (i / 4) default).toNat / 2 ^ (24 - 8*(i % 4)))).toUInt8) (List.replicate 32 0)
theorem div4 (i:Nat):(i:Int).tdiv 4=((i / 4:Nat):Int):=rfl
theorem mod4 (i:Nat):(i:Int).tmod 4=((i % 4:Nat):Int):=rfl
theorem shr_at (x:UInt32) (i:Nat) (n:Int) (h:n=24 - 8*((i % 4:Nat):Int)):shrW x n=some (UInt32.ofNat (x.toNat / 2 ^ (24 - 8*(i % 4)))):=by
 subst h;unfold shrW;rw [if_pos (by omega),show (24 - 8*((i % 4:Nat):Int)).toNat=24 - 8*(i % 4) by omega]
theorem b_out (s:List UInt32) (hs:s.length=8):zad.k1 s=some (outP s):=by
 unfold zad.k1;have:=zhy (F:=zad.l3 s) (x0:=(0,List.replicate 32 0)) (fun i s=>((i:Int),s)) (List.range 32) (fun o i=>o.set i (UInt32.ofNat ((s.getD (i / 4) default).toNat / 2 ^ (24 - 8*(i % 4)))).toUInt8) some (fun _ o=>o.length=32) (i0:=0) (s0:=List.replicate 32 0) rfl (Nat.zero_le _) (by simp) (by decide) ?_ ?_
 ·rw [this];rfl
 ·intro rec i o hi ho;rw [List.length_range] at hi;refine ⟨by simp [ho],?_⟩;simp only [zad.l3,div4,mod4];rw [if_t (decide_eq_true (by omega)),zho (x:=((i / 4:Nat):Int)) (by omega) (by omega),lit s (i / 4) (by omega) _ rfl,zal,zho (x:=8*((i % 4:Nat):Int)) (by omega) (by omega),zho (x:=24 - 8*((i % 4:Nat):Int)) (by omega) (by omega),wu_id (by omega) (by omega),shr_at _ i _ rfl,zal,zbv (l:=o) (n:=i) (by omega),zal,zaz (by omega),Int.toNat_natCast,List.getElem_range]
 ·intro rec s hs;simp only [zad.l3,zad.k2];rw [if_f (by decide)]
theorem blk_len (k:List UInt32) (b:List UInt8) (s:List UInt32):(blkP k b s).length=s.length:=add_len _ _
theorem b_l4 (k:List UInt32) (hk:k.length=64) (p:List UInt8) (n:Nat) (hn:p.length=64*n) (hp:p.length≤1073741824) (s0:List UInt32) (h0:s0.length=8) :
  loop (zad.l4 k p) (0,s0)=some (outP ((List.range n).foldl (fun s i=>blkP k (p.drop (64*i)) s) s0)):=by
 have:=zhy (F:=zad.l4 k p) (x0:=(0,s0)) (fun i s=>(((64*i:Nat):Int),s)) (List.range n) (fun s i=>blkP k (p.drop (64*i)) s) (fun s=>some (outP s)) (fun _ s=>s.length=8) (i0:=0) (s0:=s0) rfl (Nat.zero_le _) h0 (by simp;omega) ?_ ?_
 ·rw [this];rfl
 ·intro rec i s hi hs;rw [List.length_range] at hi;refine ⟨by rw [blk_len,hs],?_⟩;simp only [zad.l4,List.getElem_range];rw [if_t (decide_eq_true (by omega)),b_l10 k p i (by omega) hp];simp only [zad.k6];rw [b_l9 k hk _ _ _ _ (sched_len _) s hs];simp only [zad.k7];rw [b_l8 _ _ _ _ (rnds_len _ _ _ hs) hs];simp only [zad.k5];rw [zho (by omega) (by omega),show ((64*i:Nat):Int)+64=((64*(i+1):Nat):Int) by omega];rfl
 ·intro rec s hs;simp only [zad.l4,List.length_range];rw [if_f (decide_eq_false (by omega)),b_out s hs]
def zjr (n:Nat):Nat:=(119 - n % 64) % 64
def byteP (n j:Nat):UInt8:=toB8 (((n:Int)*8) / 2 ^ (8*(7 - (j:Int))).toNat)
def padP (d:List UInt8):List UInt8:=(List.range 8).foldl (fun l j=>l++[byteP d.length j]) (d++[128]++List.replicate (zjr d.length) 0)
theorem padP_len (d:List UInt8):(padP d).length=d.length+9+zjr d.length:=by
 unfold padP;have h:∀ (l:List Nat) (s:List UInt8),(l.foldl (fun l j=>l++[byteP d.length j]) s).length=s.length+l.length:=fun l=>by
  induction l with
  | nil=>intro s;rfl
  | cons i l ih=>intro s;rw [List.foldl_cons,ih];simp;omega
 rw [h];simp;omega
theorem b_pad (d:List UInt8) (hd:d.length≤1000000):zba d=some (padP d):=by
 have hz:zjr d.length < 64:=Nat.mod_lt _ (by decide);unfold zba;rw [zdu (by simp;omega),zal,List.nil_append,zdu (by simp;omega),zal];refine zgc (S:=List UInt8) (σ:=Unit) (fun j _=>d++[128]++List.replicate j 0) (zjr d.length) (fun _ _=>True) _ (i0:=0) (s0:=()) (by simp) (Nat.zero_le _) trivial (by omega) ?_ ?_
 ·intro rec j _ hj _ hrec;simp only [zba.l4];have hl:(d++[128]++List.replicate j (0:UInt8)).length=d.length+1+j:=by simp;omega
  rw [hl,zho (x:=((d.length+1+j:Nat):Int)+8) (by omega) (by omega)];have hm:(((d.length+1+j:Nat):Int)+8).tmod 64=(((d.length+1+j+8) % 64:Nat):Int):=rfl;rw [hm,if_t (decide_eq_true (by unfold zjr at hj;omega)),zdu (by rw [hl];simp;omega),zal];have:=hrec () trivial;rw [List.replicate_succ',← List.append_assoc] at this;exact this
 ·intro rec _ _;simp only [zba.l4];have hl:(d++[128]++List.replicate (zjr d.length) (0:UInt8)).length=d.length+1+zjr d.length:=by simp;omega
  rw [hl,zho (x:=((d.length+1+zjr d.length:Nat):Int)+8) (by omega) (by omega)];have hm:(((d.length+1+zjr d.length:Nat):Int)+8).tmod 64=(((d.length+1+zjr d.length+8) % 64:Nat):Int):=rfl;rw [hm,if_f (decide_eq_false (by unfold zjr;omega))];unfold zba.k1;have:=zhy (F:=zba.l3 d) (x0:=(7,d++[128]++List.replicate (zjr d.length) (0:UInt8))) (fun j l=>(7 - (j:Int),l)) (List.range 8) (fun l j=>l++[byteP d.length j]) some (fun j l=>l.length=d.length+1+zjr d.length+j) (i0:=0) (s0:=d++[128]++List.replicate (zjr d.length) (0:UInt8)) rfl (Nat.zero_le _) hl (by decide) ?_ ?_
  ·rw [this];rfl
  ·intro rec j l hj hl;rw [List.length_range] at hj;refine ⟨by simp [hl];omega,?_⟩;simp only [zba.l3];rw [if_t (decide_eq_true (by omega)),wu_id (x:=(d.length:Int)) (by omega) (by omega),wu_id (x:=(d.length:Int)*8) (by omega) (by omega),wu_id (x:=7 - (j:Int)) (by omega) (by omega),wu_id (x:=8*(7 - (j:Int))) (by omega) (by omega)];unfold shrU;rw [if_pos (by omega),zal,zdu (by simp;omega),zal,zho (by omega) (by omega),List.getElem_range,show 7 - (j:Int) - 1=7 - ((j+1:Nat):Int) by omega];rfl
  ·intro rec l hl;simp only [zba.l3,zba.k2];rw [if_f (by decide)]
def keysP:List UInt32:=(zrf).getD []
def startP:List UInt32:=[1779033703,3144134277,1013904242,2773480762,1359893119,2600822924,528734635,1541459225]
def sumQ (d:List UInt8):List UInt8:=outP ((List.range ((padP d).length / 64)).foldl (fun s i=>blkP keysP ((padP d).drop (64*i)) s) startP)
theorem sumQ_ex:∃ f,f=sumQ:=⟨_,rfl⟩
noncomputable def sumP:List UInt8→List UInt8:=sumQ_ex.choose
theorem sumP_eq:sumP=sumQ:=sumQ_ex.choose_spec
theorem zwp (d:List UInt8):(sumP d).length=32:=by
 rw [sumP_eq];unfold sumQ outP;rw [zti (fun o i=>by simp)];simp
theorem padP_mod (d:List UInt8):(padP d).length=64*((padP d).length / 64):=by
 rw [padP_len];unfold zjr;omega
theorem b_sum (d:List UInt8) (hd:d.length≤1000000):zad d=some (sumP d):=by
 rw [sumP_eq];have hz:zjr d.length < 64:=Nat.mod_lt _ (by decide);unfold zad;rw [show zip=some keysP from rfl,zal,b_pad d hd,zal];exact b_l4 keysP rfl (padP d) _ (padP_mod d) (by rw [padP_len];omega) startP rfl
end Go.Wk.Lf
end
section
namespace Go.Wk.Lf
open Go.V Go.Sort Go.Proofs
def ztt (r:UInt32) (c:UInt8):UInt32:=(r <<< UInt32.ofNat 1)+((c.toUInt32+(1:UInt32))*(2654435761:UInt32))
def regHigh (r:UInt32):Bool:=decide (((r >>> UInt32.ofNat 28).toNat:Int)=0)
def zlz:UInt32→Nat→List UInt8→Nat
 | _,n,[]=>n
 | r,n,c::t=>if (decide (64≤n+1)||(decide (8≤n+1)&&regHigh (ztt r c)))=true then n+1 else zlz (ztt r c) (n+1) t
def zqi (b:List UInt8):Nat:=zlz 0 0 b
theorem zno:∀ (t:List UInt8) (r:UInt32) (n:Nat),n≤zlz r n t∧zlz r n t≤n+t.length∧(t≠[]→n+1≤zlz r n t)∧(n≤64→n < 64∨t=[]→zlz r n t≤64)∧(zlz r n t < n+t.length→8≤zlz r n t)
 | [],r,n=>by simp [zlz]
 | c::t,r,n=>by
  obtain ⟨h1,h2,h3,h4,h5⟩:=zno t (ztt r c) (n+1);simp only [zlz]
  split
  ·rename_i hc;refine ⟨by omega,by simp only [List.length_cons];omega,fun _=>Nat.le_refl _,fun _ h=>?_,fun _=>?_⟩
   ·rcases h with h | h
    ·omega
    ·cases h
   ·simp only [Bool.or_eq_true,Bool.and_eq_true,decide_eq_true_eq] at hc;omega
  ·rename_i hc;refine ⟨by omega,by simp;omega,fun _=>by omega,fun hn h=>?_,fun h=>h5 (by simp at h;omega)⟩;have h6:n+1 < 64:=by
    simp only [Bool.or_eq_true,decide_eq_true_eq,not_or] at hc;omega
   exact h4 (by omega) (.inl h6)
theorem znn {b:List UInt8} (h:b≠[]):1≤zqi b:=(zno b 0 0).2.2.1 h
theorem zxf (b:List UInt8):zqi b≤b.length:=by have:=(zno b 0 0).2.1;rwa [Nat.zero_add] at this
theorem nextL_64 (b:List UInt8):zqi b≤64:=(zno b 0 0).2.2.2.1 (by decide) (.inl (by decide))
theorem nextL_8 {b:List UInt8} (h:zqi b < b.length):8≤zqi b:=(zno b 0 0).2.2.2.2 (by rw [Nat.zero_add];exact h)
def cutL (b:List UInt8):List (List UInt8):=if h:b=[] then [] else b.take (zqi b)::cutL (b.drop (zqi b))
termination_by b.length
decreasing_by
 have h1:=znn h;have:0 < b.length:=List.length_pos_iff.2 h;simp only [List.length_drop];omega
theorem zoo:cutL []=[]:=by unfold cutL;simp
theorem zqt {b:List UInt8} (h:b≠[]):cutL b=b.take (zqi b)::cutL (b.drop (zqi b)):=by rw [cutL,dif_neg h]
theorem len_ind {p:List UInt8→Prop} (h:∀ b,(∀ c,c.length < b.length→p c)→p b) (b:List UInt8):p b:=by
 suffices ∀ n,∀ b:List UInt8,b.length < n→p b from this _ b (Nat.lt_succ_self _)
 intro n
 induction n with
 | zero=>intro b hb;omega
 | succ n ih=>intro b hb;exact h b fun c hc=>ih c (by omega)
theorem zxt {p:List UInt8→Prop} (h0:p []) (h1:∀ b,b≠[]→p (b.drop (zqi b))→p b) (b:List UInt8):p b:=by
 refine len_ind (fun b ih=>?_) b
 by_cases h:b=[]
 ·subst h;exact h0
 ·refine h1 b h (ih _ ?_);have h2:=znn h;have:0 < b.length:=List.length_pos_iff.2 h;simp only [List.length_drop];omega
theorem cutL_flat (b:List UInt8):(cutL b).flatten=b:=by
 refine zxt (p:=fun b=>(cutL b).flatten=b) (by rw [zoo];rfl) (fun b h ih=>?_) b;rw [zqt h,List.flatten_cons,ih,List.take_append_drop]
theorem cutL_mem (b:List UInt8):∀ x∈cutL b,1≤x.length∧x.length≤64:=by
 refine zxt (p:=fun b=>∀ x∈cutL b,1≤x.length∧x.length≤64) (by rw [zoo];intro x hx;simp at hx) (fun b h ih=>?_) b;rw [zqt h];intro x hx;rcases List.mem_cons.1 hx with rfl | hx
 ·have h1:=znn h;have h2:=nextL_64 b;have h3:=zxf b;simp only [List.length_take];omega
 ·exact ih x hx
theorem zxs (b:List UInt8):8*(cutL b).length≤b.length+7:=by
 refine zxt (p:=fun b=>8*(cutL b).length≤b.length+7) (by rw [zoo];simp) (fun b h ih=>?_) b;rw [zqt h];have h1:=znn h;have h3:=zxf b;simp only [List.length_cons,List.length_drop] at ih ⊢;rcases Nat.lt_or_ge (zqi b) b.length with h4 | h4
 ·have:=nextL_8 h4;omega
 ·have:b.drop (zqi b)=[]:=List.drop_eq_nil_of_le h4;rw [this,zoo];have:0 < b.length:=List.length_pos_iff.2 h;simp only [List.length_nil];omega
theorem cutL_empty (b:List UInt8):cutL b=[] ↔ b=[]:=by
 constructor
 ·intro h;have:=cutL_flat b;rw [h] at this;exact this.symm
 ·rintro rfl;exact zoo
theorem mul2 (x:UInt32):x*(2:UInt32)=x <<< UInt32.ofNat 1:=by
 apply UInt32.toNat.inj;rw [UInt32.toNat_mul,UInt32.toNat_shiftLeft];rw [show (2:UInt32).toNat=2 from rfl,show (UInt32.ofNat 1).toNat % 32=1 from rfl,Nat.shiftLeft_eq]
theorem rnext_eq (b:List UInt8) (hb:b.length < 4611686018427387904):zcv b=some (zqi b:Int):=by
 unfold zcv;refine zgc (S:=UInt32 × Int) (σ:=UInt32) (fun i r=>(r,(i:Int))) b.length (fun i r=>i < 64∧zlz r i (b.drop i)=zqi b) _ (i0:=0) rfl (Nat.zero_le _) ⟨by decide,rfl⟩ hb ?_ ?_
 ·intro rec i r hi hI hrec;obtain ⟨h64,hI⟩:=hI;simp only [zcv.l2];rw [List.drop_eq_getElem_cons hi] at hI;simp only [zlz] at hI;rw [if_t (lt_t hi),zbv hi,zal,zaz (by omega)];have e1:decide (((i+1:Nat):Int)=64)=decide (64≤i+1):=by rw [decide_eq_decide];omega
  have e2:decide (8≤((i+1:Nat):Int))=decide (8≤i+1):=by rw [decide_eq_decide];omega
  rw [e1,e2,mul2];show (if ((decide (8≤i+1)&&regHigh (ztt r b[i]))||decide (64≤i+1))=true then _ else rec (ztt r b[i],((i+1:Nat):Int)))=_;rw [Bool.or_comm]
  split
  ·rename_i hc;rw [if_pos hc] at hI;rw [← hI]
  ·rename_i hc;rw [if_neg hc] at hI;refine hrec _ ⟨?_,hI⟩;simp only [Bool.or_eq_true,decide_eq_true_eq,not_or] at hc;omega
 ·intro rec r hI;simp only [zcv.l2,zcv.k1];rw [if_f (lt_f (Nat.lt_irrefl _))];have hI2:=hI.2;rw [List.drop_length] at hI2;simp only [zlz] at hI2;rw [← hI2]
theorem rcut_eq (b:List UInt8) (hb:b.length≤1000000):zdf b=some (cutL b):=by
 unfold zdf;refine zvs (S:=List UInt8 × List (List UInt8)) (fun s=>s.1.length≤1000000∧s.2.length+s.1.length≤1000000∧s.2++cutL s.1=cutL b) (fun s=>s.1.length) ⟨hb,by simpa using hb,rfl⟩ (by show b.length < _;omega) ?_;rintro rec ⟨q,acc⟩ ⟨h1,h2,h3⟩ hrec;simp only at h1 h2 h3;simp only [zdf.l2,zdf.k1]
 by_cases hq:q=[]
 ·subst hq;rw [if_neg (by simp)];rw [zoo,List.append_nil] at h3;rw [h3]
 ·have h4:=znn hq;have h5:=zxf q;have h6:0 < q.length:=List.length_pos_iff.2 hq;rw [if_pos (by simp;omega),rnext_eq q (by omega),zal,zkw (by omega) (by omega) (by omega),zal,Int.toNat_natCast,Int.toNat_zero,List.drop_zero,ztc _ (by simp;omega),zal,zdu (by simp;omega),zal,zkw (by omega) (by omega) (by omega),zal,Int.toNat_natCast,Int.toNat_natCast,List.take_length];refine hrec _ ⟨by simp;omega,by simp;omega,?_⟩ (by simp;omega);rw [← h3,zqt hq];simp
end Go.Wk.Lf
end
section
namespace Go.Wk.Lf
open Go.V Go.Sort Go.Proofs
noncomputable def insC (cs:List (List UInt8)) (c:List UInt8):List (List UInt8) :=
 if (cs.map sumP)[zeq (cs.map sumP) (sumP c)]? = some (sumP c) then cs else cs.take (zeq (cs.map sumP) (sumP c))++[c]++cs.drop (zeq (cs.map sumP) (sumP c))
theorem insC_map (cs:List (List UInt8)) (c:List UInt8):(insC cs c).map sumP=insI (cs.map sumP) (sumP c):=by
 unfold insC insI
 split <;> simp [List.map_take,List.map_drop]
theorem insC_len (cs:List (List UInt8)) (c:List UInt8):(insC cs c).length≤cs.length+1:=by
 have:=insI_len (cs.map sumP) (sumP c);rw [← insC_map] at this;simpa using this
theorem insC_mem {cs:List (List UInt8)} {c x:List UInt8} (h:x∈insC cs c):x∈cs∨x=c:=by
 unfold insC at h
 split at h
 ·exact .inl h
 ·simp only [List.mem_append,List.mem_singleton] at h;rcases h with (h | h) | h
  ·exact .inl (List.mem_of_mem_take h)
  ·exact .inr h
  ·exact .inl (List.mem_of_mem_drop h)
theorem foldC_len (l:List (List UInt8)):∀ cs,(l.foldl insC cs).length≤cs.length+l.length:=by
 induction l with
 | nil=>intro cs;exact Nat.le_refl _
 | cons c l ih=>intro cs;have h1:=ih (insC cs c);have h2:=insC_len cs c;simp only [List.foldl_cons,List.length_cons];omega
theorem foldC_mem (l:List (List UInt8)):∀ cs x,x∈l.foldl insC cs→x∈cs∨x∈l:=by
 induction l with
 | nil=>intro cs x h;exact .inl h
 | cons c l ih =>
  intro cs x h;rcases ih _ x h with h | h
  ·rcases insC_mem h with h | h
   ·exact .inl h
   ·exact .inr (by rw [h];simp)
  ·exact .inr (by simp [h])
noncomputable def partR (f:File):Part:=Part.mk f.path (f.data.length:Int) ((cutL f.data).map sumP)
def zrm (l:List File):List (List UInt8):=l.flatMap fun f=>cutL f.data
noncomputable def zru (l:List File):List (List UInt8):=(zrm l).foldl insC []
noncomputable def manR (name:List UInt8) (l:List File):Manifest:=⟨name,l.map partR⟩
theorem all32 (cs:List (List UInt8)):∀ y∈cs.map sumP,y.length=32:=fun y hy=>by
 obtain ⟨x,_,rfl⟩:=List.mem_map.1 hy;exact zwp x
theorem build_l5 (i32:Int) (l33:List Part) (rec36) (f:File) (ps:List (List UInt8)) (hps:ps.length≤25) (hp:∀ x∈ps,x.length≤64) (cs:List (List UInt8)) (hcs:cs.length≤1000) :
  loop (zar.l5 i32 l33 rec36 f) (cs.map sumP,cs,ps,0,[])=zar.k4 i32 l33 rec36 f ((ps.foldl insC cs).map sumP) (ps.foldl insC cs) (ps.map sumP):=by
 have:=zhy (F:=zar.l5 i32 l33 rec36 f) (x0:=(cs.map sumP,cs,ps,0,[])) (fun i (s:List (List UInt8))=>(s.map sumP,s,ps,(i:Int),(ps.take i).map sumP)) ps insC (fun s=>zar.k4 i32 l33 rec36 f (s.map sumP) s (ps.map sumP)) (fun i s=>s.length≤1000+i) (i0:=0) (s0:=cs) rfl (Nat.zero_le _) hcs (by omega) ?_ ?_
 ·rw [this];rfl
 ·intro rec i s hi hs;have hl:=hp _ (List.getElem_mem hi);refine ⟨by have:=insC_len s ps[i];omega,?_⟩;simp only [zar.l5];rw [if_t (lt_t hi),zbv hi,zal,b_sum _ (by omega),zal,zdu (by simp;omega),zal,add_eq _ _ (by simp;omega) (all32 s) (zwp _),zal];have hk:=znl (s.map sumP) (sumP ps[i]);rw [List.length_map] at hk;rw [insC_map,zdl hi,List.map_append];simp only [zar.k6,zaz (show i < 4611686018427387904 by omega)]
  by_cases h:(s.map sumP)[zeq (s.map sumP) (sumP ps[i])]? = some (sumP ps[i])
  ·rw [if_f (by simp [h])];unfold insC;rw [if_pos h];rfl
  ·rw [if_t (show (!decide ((s.map sumP)[zeq (s.map sumP) (sumP ps[i])]? = some (sumP ps[i])))=true by rw [decide_eq_false h];rfl),zkw (by omega) (by omega) (by omega),zal,zal,zdu (by simp;omega),zal,zdu (by simp;omega),zal,zkw (by omega) (by omega) (by omega),zal,zdu (by simp;omega),zal];unfold insC;rw [if_neg h];simp
 ·intro rec s hs;simp only [zar.l5];rw [if_f (lt_f (Nat.lt_irrefl _)),List.take_length]
theorem rbuild_eq (name:List UInt8) (l:List File) (hn:zij name=true) (hl:l.length≤6) (hd:∀ f∈l,f.data.length≤200) (hp:∀ f∈l,f.path.length < 9223372036854775808) (hc:chkL l=0) :
  zar name l=some (manR name l,zru l,0):=by
 have hnl:name.length≤20:=by
  unfold zij at hn;simp only [Bool.and_eq_true,decide_eq_true_eq] at hn;omega
 unfold zar;rw [zlu name (by omega),zal,hn,if_f (show (!true)=false from rfl),reftree_eq l (by omega) hp,zal,hc,if_f (by decide)];have hcut:∀ (i:Nat) (hi:i < l.length),(cutL l[i].data).length≤25:=fun i hi=>by
  have h1:=zxs l[i].data;have h2:=hd _ (List.getElem_mem hi);omega
 have:=zhy (F:=zar.l2 name l) (x0:=([],[],0,[])) (fun i (s:List (List UInt8))=>(s.map sumP,s,(i:Int),(l.take i).map partR)) l (fun s f=>(cutL f.data).foldl insC s) (fun s=>some (manR name l,s,0)) (fun i s=>s.length≤25*i) (i0:=0) (s0:=[]) rfl (Nat.zero_le _) (Nat.le_refl _) (by omega) ?_ ?_
 ·rw [this];unfold zru zrm;rw [List.foldl_flatMap];rfl
 ·intro rec i s hi hs;have h1:=hcut i hi;have h2:=hd _ (List.getElem_mem hi);refine ⟨by have:=foldC_len (cutL l[i].data) s;omega,?_⟩;simp only [zar.l2];rw [if_t (lt_t hi),zbv hi,zal,zal,rcut_eq _ (by omega),zal,build_l5 _ _ _ _ _ h1 (fun x hx=>(cutL_mem _ x hx).2) s (by omega)];simp only [zar.k4,zar.k3];rw [zdu (by simp;omega),zal,zaz (by omega),zdl hi,List.map_append];rfl
 ·intro rec s hs;simp only [zar.l2,zar.k1];rw [if_f (lt_f (Nat.lt_irrefl _)),List.take_length];rfl
theorem chunksR_mem {l:List File} {x:List UInt8} (h:x∈zru l):1≤x.length∧x.length≤64:=by
 rcases foldC_mem _ _ _ h with h | h
 ·cases h
 ·obtain ⟨f,_,h⟩:=List.mem_flatMap.1 h;exact cutL_mem _ _ h
theorem piecesR_len {l:List File} (hl:l.length≤6) (hd:∀ f∈l,f.data.length≤200):(zrm l).length≤150:=by
 have h:∀ l:List File,(∀ f∈l,f.data.length≤200)→(zrm l).length≤25*l.length:=fun l=>by
  induction l with
  | nil=>intro _;exact Nat.le_refl _
  | cons f l ih =>
   intro hd;have h1:=ih fun g hg=>hd g (by simp [hg]);have h2:=zxs f.data;have h3:=hd f (by simp);unfold zrm at *;simp only [List.flatMap_cons,List.length_append,List.length_cons];omega
 have:=h l hd;omega
theorem chunksR_len {l:List File} (hl:l.length≤6) (hd:∀ f∈l,f.data.length≤200):(zru l).length≤150:=by
 have h1:=foldC_len (zrm l) [];have h2:=piecesR_len hl hd;unfold zru;simp only [List.length_nil] at h1;omega
end Go.Wk.Lf
end
section
namespace Go.Wk.Lf
open Go.V Go.Sort Go.Proofs
theorem tree_facts {t l:List File} (hp:t.Perm l) (hr:zku t) (hl:zuf l=false) (hb:badB l=false):t.length≤6∧(∀ f∈t,f.data.length≤200)∧(∀ f∈t,zij f.path=true)∧chkL t=0:=by
 obtain ⟨h1,h2⟩:=long_f hl;have hd:∀ f∈t,f.data.length≤200:=fun f hf=>h2 f (hp.mem_iff.1 hf);have hn:∀ f∈t,zij f.path=true:=fun f hf=>by
  unfold badB at hb;have:=List.any_eq_false.1 hb f (hp.mem_iff.1 hf);simpa using this
 refine ⟨by rw [hp.length_eq];exact h1,hd,hn,?_⟩;have e1:zuf t=false:=by
  unfold zuf;rw [Bool.or_eq_false_iff];refine ⟨decide_eq_false (by rw [hp.length_eq];omega),List.any_eq_false.2 fun f hf=>?_⟩;have:=hd f hf;simp;omega
 have e2:badB t=false:=by
  unfold badB;exact List.any_eq_false.2 fun f hf=>by rw [hn f hf];simp
 unfold chkL;rw [e1,if_neg (by decide),if_pos ⟨e2,hr⟩]
theorem manR_right {name:List UInt8} {t:List File} (hn:zij name=true) (hl:t.length≤6) (hd:∀ f∈t,f.data.length≤200) (hp:∀ f∈t,zij f.path=true) (hr:zku t):manB (manR name t):=by
 refine ⟨hn,by simpa [manR] using hl,?_,?_⟩
 ·rw [List.all_eq_true];intro p hp';obtain ⟨f,hf,rfl⟩:=List.mem_map.1 hp';have h1:=zxs f.data;have h2:=hd f hf;have h3:(cutL f.data).length=0 ↔ f.data.length=0:=by
   rw [List.length_eq_zero_iff,List.length_eq_zero_iff];exact cutL_empty _
  unfold znm partR;simp only [hp f hf,List.length_map,Bool.true_and,Bool.and_eq_true,decide_eq_true_eq,beq_iff_eq,decide_eq_decide];refine ⟨⟨⟨by omega,by omega⟩,by omega⟩,?_⟩;rw [h3];omega
 ·unfold zsf manR;simp only;rw [List.pairwise_map];exact hr
theorem manR_ids (name:List UInt8) (t:List File):okId (manR name t):=by
 intro p hp x hx;obtain ⟨f,hf,rfl⟩:=List.mem_map.1 hp;exact all32 _ x hx
theorem tman_eq (m:Manifest) (hp:m.parts.length≤100000) (hl:∀ p∈m.parts,p.ids.length≤100000):zbf m=some m:=by
 unfold zbf;refine zgc (S:=List Part × Int) (σ:=List Part) (fun i l=>(l,(i:Int))) m.parts.length (fun i l=>l=m.parts.take i) _ (i0:=0) (s0:=[]) rfl (Nat.zero_le _) rfl (by omega) ?_ ?_
 ·intro rec i l hi hI hrec;simp only [zbf.l2];have h1:=hl _ (List.getElem_mem hi);rw [if_t (lt_t hi),zbv hi,zal,zdu (by simp;omega),zal,zdu (by rw [hI];simp;omega),zal,zaz (by omega)];refine hrec _ ?_;rw [hI,zdl hi];rfl
 ·intro rec l hI;simp only [zbf.l2,zbf.k1];rw [if_f (lt_f (Nat.lt_irrefl _)),hI,List.take_length]
def Told {α:Type} (o:Option α) (p:α→Prop):Prop:=∃ r,o=some r∧p r
section
variable {α β:Type} {o:Option α} {p q:α→Prop} {f:α→Option β} {g:β→Prop}
theorem Told.mk {x:α} (h:p x):Told (some x) p:=⟨x,rfl,h⟩
theorem Told.mono (h:Told o p) (hq:∀ x,p x→q x):Told o q:=by
 obtain ⟨x,e,hx⟩:=h;exact ⟨x,e,hq x hx⟩
theorem Told.bd (h:Told o p) (hf:∀ x,p x→Told (f x) g):Told (bd o f) g:=by
 obtain ⟨x,rfl,hx⟩:=h;exact hf x hx
theorem Told.if_ {c:Bool} {a b:Option α} (h1:c=true→Told a p) (h2:c=false→Told b p):Told (if c=true then a else b) p:=by
 cases c with
 | true=>exact h1 rfl
 | false=>exact h2 rfl
theorem Told.only {c:Bool} {z:α} (h1:c=true→Told o p) (h2:c=false→p z):Told (only c o z) p:=by
 cases c with
 | true=>exact h1 rfl
 | false=>exact ⟨z,rfl,h2 rfl⟩
theorem Told.ix {l:List α} {i:Int} (h0:0≤i) (h1:i < (l.length:Int)):Told (ix l i) fun x=>x∈l:=by
 obtain ⟨n,rfl⟩:∃ n:Nat,i=n:=⟨i.toNat,by omega⟩
 exact ⟨_,zbv (by omega),List.getElem_mem _⟩
end
theorem Told.loop {S σ A:Type} {F:(S→Option A)→S→Option A} {p:A→Prop} (mk:Nat→σ→S) (n:Nat) (Inv:Nat→σ→Prop) {i0:Nat} {s0:σ} {x0:S} (hx:x0=mk i0 s0) (hi0:i0≤n) (h0:Inv i0 s0) (hn:n < 4611686018427387904)
  (hstep:∀ rec i s,i < n→Inv i s→(∀ s',Inv (i+1) s' → Told (rec (mk (i+1) s')) p)→Told (F rec (mk i s)) p) (hend:∀ rec s,Inv n s→Told (F rec (mk n s)) p):Told (loop F x0) p :=
 zqk mk n Inv (fun o=>Told o p) hx hi0 h0 hn hstep hend
theorem zwz {α:Type} {l:List α} {x:α} {i:Nat} (hi:i≤l.length) (hl:l.length≤1000000) {β:Type} {K:List α→Option β} {p:β→Prop} (h:Told (K (l.take i++[x]++l.drop i)) p):Told (bd (cut (α:=α) l 0 (i:Int)) fun l4=>bd (app (α:=α) [] l4) fun l7=>bd (app (α:=α) l7 [x]) fun l9=>bd (cut (α:=α) l (i:Int) (l.length:Int)) fun l13=>bd (app (α:=α) l9 l13) K) p:=by
 rw [zkw (Int.le_refl _) (by omega) (by omega),zal,zdu (by simp;omega),zal,zdu (by simp;omega),zal,zkw (by omega) (by omega) (Int.le_refl _),zal,zdu (by simp;omega),zal];simpa using h
theorem rahead_told (a b:Loc):∃ r,zgp a b=some r:=by
 unfold zgp
 split
 ·exact ⟨_,rfl⟩
 ·split
  ·exact ⟨_,rfl⟩
  ·split <;> exact ⟨_,rfl⟩
theorem zpq (l:List Loc) (x:Loc) (hl:l.length≤1000000):Told (zbx l x) fun r=>r.length=l.length+1:=by
 unfold zbx;have hk:∀ i,i≤l.length→Told (zbx.k1 l x (i:Int)) fun r=>r.length=l.length+1:=fun i hi=>zwz hi hl (K:=fun l15=>some l15) (Told.mk (by simp;omega));refine Told.loop (S:=Int) (σ:=Unit) (fun i _=>(i:Int)) l.length (fun _ _=>True) (i0:=0) (s0:=()) rfl (Nat.zero_le _) trivial (by omega) ?_ ?_
 ·intro rec i _ hi _ hrec;simp only [zbx.l2];obtain ⟨r,hr⟩:=rahead_told l[i] x;rw [zck (lt_t hi),zbv hi,zal,zck (lt_t hi),hr,zal,zaz (by omega)];exact Told.if_ (fun _=>hrec () trivial) fun _=>hk i (by omega)
 ·intro rec _ _;simp only [zbx.l2];rw [zel (lt_f (Nat.lt_irrefl _)),zal,zel (lt_f (Nat.lt_irrefl _)),zal,lt_f (Nat.lt_irrefl _)];exact hk _ (Nat.le_refl _)
theorem zxd (l:List Loc) (v:Int) (hl:l.length≤1000000):Told (zbr l v) fun r=>r.length≤l.length:=by
 unfold zbr;refine Told.loop (S:=List Loc × Int) (σ:=List Loc) (fun i s=>(s,(i:Int))) l.length (fun i s=>s.length≤i) (i0:=0) (s0:=[]) rfl (Nat.zero_le _) (Nat.le_refl _) (by omega) ?_ ?_
 ·intro rec i s hi hI hrec;simp only [zbr.l2,zbr.k3];rw [if_t (lt_t hi),zbv hi,zal,zal,zaz (by omega),zdu (by simp;omega),zal];exact Told.if_ (fun _=>hrec _ (by simp;omega)) fun _=>hrec _ (by omega)
 ·intro rec s hI;simp only [zbr.l2,zbr.k1];rw [if_f (lt_f (Nat.lt_irrefl _))];exact Told.mk hI
structure OkM (m:Manifest):Prop where
 ids:okId m
 name:m.name.length < 1000000
 path:∀ p∈m.parts,p.path.length < 4611686018427387904
 parts:m.parts.length≤1000
 few:∀ p∈m.parts,p.ids.length≤1000
def OkK (m:Nat) (x:Chunk):Prop:=x.locs.length≤m∧x.data.length≤1000000∧x.id.length=32
structure Cap (m:Nat) (c:Catalog):Prop where
 le:m≤1000000
 chunks:c.chunks.length≤m
 snaps:c.snaps.length≤m
 exps:c.exps.length≤m
 vols:c.vols.length≤m
 chunk:∀ x∈c.chunks,OkK m x
 snap:∀ s∈c.snaps,s.locs.length≤m∧OkM s.man
 exp:∀ x∈c.exps,x.locs.length≤m
theorem OkK.mono {m n:Nat} (h:m≤n) {x:Chunk} (k:OkK m x):OkK n x:=⟨Nat.le_trans k.1 h,k.2⟩
theorem Cap.mono {m n:Nat} (h:m≤n) (hn:n≤1000000) {c:Catalog} (k:Cap m c):Cap n c :=
 ⟨hn,Nat.le_trans k.chunks h,Nat.le_trans k.snaps h,Nat.le_trans k.exps h,Nat.le_trans k.vols h,fun x hx=>(k.chunk x hx).mono h,fun s hs=>⟨Nat.le_trans (k.snap s hs).1 h,(k.snap s hs).2⟩,fun x hx=>Nat.le_trans (k.exp x hx) h⟩
theorem Cap.fine {m:Nat} {c:Catalog} (k:Cap m c):Fine c:=⟨fun x hx=>(k.chunk x hx).2.2,fun s hs=>⟨(k.snap s hs).2.ids,(k.snap s hs).2.name,(k.snap s hs).2.path⟩⟩
theorem zrg {α:Type} {l:List α} {i:Nat} {x y:α} (h:y∈l.set i x):y∈l∨y=x:=List.mem_or_eq_of_mem_set h
theorem used_told {m:Nat} {c:Catalog} (k:Cap m c) (id:List UInt8):Told (zax c id) fun _=>True:=by
 have hle:=k.le;have hs:=k.snaps;unfold zax;refine Told.loop (S:=Int) (σ:=Unit) (fun i _=>(i:Int)) c.snaps.length (fun _ _=>True) (i0:=0) (s0:=()) rfl (Nat.zero_le _) trivial (by omega) ?_ ?_
 ·intro rec i _ hi _ hrec;simp only [zax.l2];rw [if_t (lt_t hi)];have hm:=(k.snap _ (List.getElem_mem hi)).2;have hp:=hm.parts;refine Told.loop (S:=Int) (σ:=Unit) (fun j _=>(j:Int)) c.snaps[i].man.parts.length (fun _ _=>True) (i0:=0) (s0:=()) rfl (Nat.zero_le _) trivial (by omega) ?_ ?_
  ·intro rec2 j _ hj _ hrec2;simp only [zax.l4];rw [zbv hi,zal,if_t (lt_t hj)];have hids:=hm.few _ (List.getElem_mem hj);refine Told.loop (S:=Int) (σ:=Unit) (fun q _=>(q:Int)) c.snaps[i].man.parts[j].ids.length (fun _ _=>True) (i0:=0) (s0:=()) rfl (Nat.zero_le _) trivial (by omega) ?_ ?_
   ·intro rec3 q _ hq _ hrec3;simp only [zax.l6];rw [zbv hi,zal,zbv hj,zal,if_t (lt_t hq),zal,zbv hj,zal,zbv hq,zal,zaz (by omega)];exact Told.if_ (fun _=>Told.mk trivial) fun _=>hrec3 () trivial
   ·intro rec3 _ _;simp only [zax.l6,zax.k5];rw [zbv hi,zal,zbv hj,zal,if_f (lt_f (Nat.lt_irrefl _)),zaz (by omega)];exact hrec2 () trivial
  ·intro rec2 _ _;simp only [zax.l4,zax.k3];rw [zbv hi,zal,if_f (lt_f (Nat.lt_irrefl _)),zaz (by omega)];exact hrec () trivial
 ·intro rec _ _;simp only [zax.l2,zax.k1];rw [if_f (lt_f (Nat.lt_irrefl _))];exact Told.mk trivial
theorem gone_vols {m:Nat} {c:Catalog} (k:Cap m c) (q:Int):Told (zap c q) fun r=>Cap m r.2∧r.2.vols=c.vols:=by
 have hle:=k.le;have hs:=k.snaps;have hc:=k.chunks;unfold zap;refine Told.loop (S:=List Snap × Int) (σ:=List Snap) (fun i s=>(s,(i:Int))) c.snaps.length (fun i s=>s.length≤i ∧ ∀ x∈s,x∈c.snaps) (i0:=0) (s0:=[]) rfl (Nat.zero_le _) ⟨Nat.le_refl _,fun x hx=>by cases hx⟩ (by omega) ?_ ?_
 ·intro rec i s hi hI hrec;simp only [zap.l6,zap.k7];rw [if_t (lt_t hi),zbv hi,zal,zal,zaz (by omega),zdu (by simp;omega),zal];refine Told.if_ (fun _=>hrec _ ⟨by simp;omega,fun x hx=>?_⟩) fun _=>hrec _ ⟨by omega,hI.2⟩;rcases List.mem_append.1 hx with h | h
  ·exact hI.2 x h
  ·rw [List.mem_singleton.1 h];exact List.getElem_mem hi
 ·intro rec s hI;simp only [zap.l6,zap.k1];rw [if_f (lt_f (Nat.lt_irrefl _))];refine Told.if_ (fun _=>Told.mk ⟨k,rfl⟩) fun _=>?_;have k2:Cap m (Catalog.mk c.seq s c.chunks c.exps c.vols):=⟨hle,hc,by have:=hI.1;show s.length≤m;omega,k.exps,k.vols,k.chunk,fun x hx=>k.snap x (hI.2 x hx),k.exp⟩
  refine Told.loop (S:=List Chunk × Int) (σ:=List Chunk) (fun i s=>(s,(i:Int))) c.chunks.length (fun i s=>s.length≤i ∧ ∀ x∈s,OkK m x) (i0:=0) (s0:=[]) rfl (Nat.zero_le _) ⟨Nat.le_refl _,fun x hx=>by cases hx⟩ (by omega) ?_ ?_
  ·intro rec2 i l hi hJ hrec2;simp only [zap.l3,zap.k4,zap.k5];rw [if_t (lt_t hi),zbv hi,zal,zaz (by omega)];have hk:=k.chunk _ (List.getElem_mem hi);refine (used_told k2 _).bd fun u _=>?_;rw [zdu (by simp;omega),zal,zdu (by simp;omega),zal];have hput:∀ y,OkK m y → ∀ x∈l++[y],OkK m x:=fun y hy x hx=>by
    rcases List.mem_append.1 hx with h | h
    ·exact hJ.2 x h
    ·rw [List.mem_singleton.1 h];exact hy
   refine Told.if_ (fun _=>Told.if_ (fun _=>hrec2 _ ⟨by omega,hJ.2⟩) fun _=>hrec2 _ ⟨by simp;omega,hput _ ⟨hk.1,Nat.zero_le _,hk.2.2⟩⟩) fun _=>hrec2 _ ⟨by simp;omega,hput _ ⟨hk.1,hk.2.1,hk.2.2⟩⟩
  ·intro rec2 l hJ;simp only [zap.l3,zap.k2];rw [if_f (lt_f (Nat.lt_irrefl _))];exact Told.mk ⟨⟨hle,by have:=hJ.1;show l.length≤m;omega,k2.snaps,k.exps,k.vols,hJ.2,k2.snap,k.exp⟩,rfl⟩
theorem gone_told {m:Nat} {c:Catalog} (k:Cap m c) (q:Int):Told (zap c q) fun r=>Cap m r.2:=(gone_vols k q).mono fun _ h=>h.1
theorem zwm (c:Catalog) (n a b:Int):Told (zfo c n a b) fun r=>r.2=c∧(r.1=true→0≤n∧n < (c.vols.length:Int)):=by
 unfold zfo
 by_cases h:0≤n∧n < (c.vols.length:Int)
 ·obtain ⟨x,hx,_⟩:=Told.ix (l:=c.vols) h.1 h.2;rw [hx,decide_eq_true h.1,decide_eq_true h.2];simp only [zci,zal];exact Told.mk ⟨rfl,fun _=>h⟩
 ·have e:(decide (0≤n)&&decide (n < (c.vols.length:Int)))=false:=by
   rw [Bool.and_eq_false_iff,decide_eq_false_iff_not,decide_eq_false_iff_not];omega
  rw [e];exact Told.mk ⟨rfl,fun q=>by simp at q⟩
theorem ztd (l:List Loc) (hl:l.length≤1000000):zdq l=some l:=by
 unfold zdq;rw [zdu (by simp;omega)];rfl
theorem zrd {m:Nat} (hm:m≤1000000) (l:List Chunk) (hl:l.length≤1000000) (h:∀ x∈l,OkK m x):zbl l=some l:=by
 unfold zbl;refine zgc (S:=List Chunk × Int) (σ:=List Chunk) (fun i l=>(l,(i:Int))) l.length (fun i s=>s=l.take i) _ (i0:=0) (s0:=[]) rfl (Nat.zero_le _) rfl (by omega) ?_ ?_
 ·intro rec i s hi hI hrec;simp only [zbl.l2];obtain ⟨h1,h2,_⟩:=h _ (List.getElem_mem hi);rw [if_t (lt_t hi),zbv hi,zal,ztc _ (by omega),zal,ztd _ (by omega),zal,zdu (by rw [hI];simp;omega),zal,zaz (by omega)];refine hrec _ ?_;rw [hI,zdl hi]
 ·intro rec s hI;simp only [zbl.l2,zbl.k1];rw [if_f (lt_f (Nat.lt_irrefl _)),hI,List.take_length]
theorem OkM.twin {m:Manifest} (h:OkM m):zbf m=some m:=tman_eq m (by have:=h.parts;omega) fun p hp=>by have:=h.few p hp;omega
theorem tcat_eq {m:Nat} {c:Catalog} (k:Cap m c):zaw c=some c:=by
 have hle:=k.le;have hs:=k.snaps;have he:=k.exps;have hc:=k.chunks;have hv:=k.vols;unfold zaw;refine zgc (S:=List Snap × Int) (σ:=List Snap) (fun i l=>(l,(i:Int))) c.snaps.length (fun i s=>s=c.snaps.take i) _ (i0:=0) (s0:=[]) rfl (Nat.zero_le _) rfl (by omega) ?_ ?_
 ·intro rec i s hi hI hrec;simp only [zaw.l4];obtain ⟨h1,h2⟩:=k.snap _ (List.getElem_mem hi);rw [if_t (lt_t hi),zbv hi,zal,h2.twin,zal,ztd _ (by omega),zal,zdu (by rw [hI];simp;omega),zal,zaz (by omega)];refine hrec _ ?_;rw [hI,zdl hi]
 ·intro rec s hI;simp only [zaw.l4,zaw.k1];rw [if_f (lt_f (Nat.lt_irrefl _)),hI,List.take_length];refine zgc (S:=List Exp × Int) (σ:=List Exp) (fun i l=>(l,(i:Int))) c.exps.length (fun i s=>s=c.exps.take i) _ (i0:=0) (s0:=[]) rfl (Nat.zero_le _) rfl (by omega) ?_ ?_
  ·intro rec i s hi hI hrec;simp only [zaw.l3];have h1:=k.exp _ (List.getElem_mem hi);rw [if_t (lt_t hi),zbv hi,zal,ztd _ (by omega),zal,zdu (by rw [hI];simp;omega),zal,zaz (by omega)];refine hrec _ ?_;rw [hI,zdl hi]
  ·intro rec s hI;simp only [zaw.l3,zaw.k2];rw [if_f (lt_f (Nat.lt_irrefl _)),hI,List.take_length,zrd hle _ (by omega) k.chunk,zal,zdu (by simp;omega)];rfl
structure OkX (x:Change):Prop where
 man:OkM x.snap.man
 locs:x.snap.locs.length≤1000
 few:x.chunks.length≤10000
 chunk:∀ y∈x.chunks,OkK 1000 y
 items:x.items.length≤64
theorem tchange_eq {x:Change} (h:OkX x):zfk x=some x:=by
 have h1:=h.locs;have h2:=h.few;have h3:=h.items;unfold zfk;rw [h.man.twin,zal,ztd _ (by omega),zal,zrd (by omega) _ (by omega) h.chunk,zal,zdu (by simp;omega)];rfl
end Go.Wk.Lf
end
section
namespace Go.Wk.Lf
open Go.V Go.Sort Go.Proofs
theorem add_told {m:Nat} (hm:m≤1000000) (l:List Chunk) (x:Chunk) (hl:l.length≤1000000) (h:∀ y∈l,OkK m y) (hx:OkK m x):Told (zbt l x) fun r=>r.length≤l.length+1 ∧ ∀ y∈r,OkK m y:=by
 unfold zbt;have hk:∀ i,i≤l.length→Told (zbt.k1 l x (i:Int)) fun r=>r.length≤l.length+1 ∧ ∀ y∈r,OkK m y:=by
  intro i hi;unfold zbt.k1;refine Told.bd (p:=fun _=>True) ?_ fun z _=>?_
  ·refine Told.only (fun h=>?_) fun _=>trivial;obtain ⟨z,hz,_⟩:=Told.ix (l:=l) (i:=(i:Int)) (by omega) (by simpa using h);exact ⟨z,hz,trivial⟩
  ·refine Told.if_ (fun hc=>?_) fun _=>zwz hi hl (K:=fun l48=>some l48) (Told.mk ⟨by simp;omega,fun y hy=>?_⟩)
   ·rw [Bool.and_eq_true] at hc;have hil:i < l.length:=by have:=hc.1;simp at this;exact this
    have hki:=h _ (List.getElem_mem hil);rw [zrd hm l hl h,zal,ztc _ (by have:=hx.2.1;omega),zal,zbv hil,zal,Int.toNat_natCast,zbv (show i < (l.set i _).length by simp;omega),zal,List.set_set];refine Told.mk ⟨by simp,fun y hy=>?_⟩;rcases zrg hy with q | q
    ·exact h y q
    ·rw [q];simp only [List.getElem_set_self];exact ⟨hki.1,hx.2.1,hki.2.2⟩
   ·rcases List.mem_append.1 hy with q | q
    ·rcases List.mem_append.1 q with q | q
     ·exact h y (List.mem_of_mem_take q)
     ·rw [List.mem_singleton.1 q];exact hx
    ·exact h y (List.mem_of_mem_drop q)
 refine Told.loop (S:=Int) (σ:=Unit) (fun i _=>(i:Int)) l.length (fun _ _=>True) (i0:=0) (s0:=()) rfl (Nat.zero_le _) trivial (by omega) ?_ ?_
 ·intro rec i _ hi _ hrec;simp only [zbt.l2];have hid:=(h _ (List.getElem_mem hi)).2.2;rw [zck (lt_t hi),zbv hi,zal,zck (lt_t hi),zvq _ _ hid hx.2.2,zal,zaz (by omega)];exact Told.if_ (fun _=>hrec () trivial) fun _=>hk i (by omega)
 ·intro rec _ _;simp only [zbt.l2];rw [zel (lt_f (Nat.lt_irrefl _)),zal,zel (lt_f (Nat.lt_irrefl _)),zal,lt_f (Nat.lt_irrefl _)];exact hk _ (Nat.le_refl _)
theorem zrv {m:Nat} {c:Catalog} (k:Cap m c) (id:List UInt8):Told (zbs c id) fun r=>0≤r→r < (c.chunks.length:Int):=by
 rw [rchunk_eq c id (by have:=k.le;have:=k.chunks;omega)];refine Told.mk fun h=>?_;unfold zjq at h ⊢
 split
 ·rename_i q;rw [if_pos q] at h;omega
 ·rename_i q;rw [if_neg q] at h;omega
theorem Cap.chunks' {m n:Nat} {c:Catalog} (k:Cap m c) (hmn:m≤n) (hn:n≤1000000) {q:Int} {l:List Chunk} (hl:l.length≤n) (h:∀ x∈l,OkK n x):Cap n (Catalog.mk q c.snaps l c.exps c.vols) :=
 have k':=k.mono hmn hn
 ⟨hn,hl,k'.snaps,k'.exps,k'.vols,h,k'.snap,k'.exp⟩
theorem Cap.exps' {m n:Nat} {c:Catalog} (k:Cap m c) (hmn:m≤n) (hn:n≤1000000) {q:Int} {l:List Exp} (hl:l.length≤n) (h:∀ x∈l,x.locs.length≤n):Cap n (Catalog.mk q c.snaps c.chunks l c.vols) :=
 have k':=k.mono hmn hn
 ⟨hn,k'.chunks,k'.snaps,hl,k'.vols,k'.chunk,k'.snap,h⟩
theorem Cap.snaps' {m n:Nat} {c:Catalog} (k:Cap m c) (hmn:m≤n) (hn:n≤1000000) {q:Int} {l:List Snap} (hl:l.length≤n) (h:∀ x∈l,x.locs.length≤n∧OkM x.man):Cap n (Catalog.mk q l c.chunks c.exps c.vols) :=
 have k':=k.mono hmn hn
 ⟨hn,k'.chunks,hl,k'.exps,k'.vols,k'.chunk,h,k'.exp⟩
theorem Cap.vols' {m:Nat} {c:Catalog} (k:Cap m c) {q:Int} {l:List Vol} (hl:l.length≤m):Cap m (Catalog.mk q c.snaps c.chunks c.exps l) :=
 ⟨k.le,k.chunks,k.snaps,k.exps,hl,k.chunk,k.snap,k.exp⟩
theorem Cap.seq' {m:Nat} {c:Catalog} (k:Cap m c) (q:Int):Cap m (Catalog.mk q c.snaps c.chunks c.exps c.vols) :=
 ⟨k.le,k.chunks,k.snaps,k.exps,k.vols,k.chunk,k.snap,k.exp⟩
theorem wrote_told {m:Nat} {c:Catalog} (k:Cap m c) (hm:m < 1000000) (x:Item) (y:Loc):Told (zau c x y) fun r=>Cap (m+1) r.2∧r.2.vols=c.vols:=by
 have hc:=k.chunks;have hs:=k.snaps;have he:=k.exps;unfold zau;refine Told.if_ (fun _=>?_) fun _=>Told.if_ (fun _=>?_) fun _=>?_
 ·refine (zrv k _).bd fun r hr=>Told.if_ (fun _=>Told.mk ⟨k.mono (by omega) (by omega),rfl⟩) fun h=>?_;have h0:0≤r:=by simpa using h
  obtain ⟨n,rfl⟩:∃ n:Nat,r=n:=⟨r.toNat,by omega⟩
  have hn:n < c.chunks.length:=by have:=hr h0;omega
  have hk:=k.chunk _ (List.getElem_mem hn);rw [zbv hn,zal];refine (zpq _ y (by have:=hk.1;omega)).bd fun l hl=>?_;unfold zau.k1;refine Told.mk ⟨k.chunks' (by omega) (by omega) (by simp;omega) fun z hz=>?_,rfl⟩;rcases zrg hz with q | q
  ·exact (k.chunk z q).mono (by omega)
  ·rw [q];exact ⟨by show l.length≤m+1;have:=hk.1;omega,hk.2⟩
 ·refine Told.loop (S:=Int) (σ:=Unit) (fun i _=>(i:Int)) c.snaps.length (fun _ _=>True) (i0:=0) (s0:=()) rfl (Nat.zero_le _) trivial (by omega) ?_ ?_
  ·intro rec i _ hi _ hrec;simp only [zau.l3];have hk:=k.snap _ (List.getElem_mem hi);rw [if_t (lt_t hi),zbv hi,zal,zal,zaz (by omega)];refine Told.if_ (fun _=>(zpq _ y (by have:=hk.1;omega)).bd fun l hl=>Told.mk ⟨k.snaps' (by omega) (by omega) (by simp;omega) fun z hz=>?_,rfl⟩) fun _=>hrec () trivial;rcases zrg hz with q | q
   ·exact ⟨by have:=(k.snap z q).1;omega,(k.snap z q).2⟩
   ·rw [q];exact ⟨by show l.length≤m+1;have:=hk.1;omega,hk.2⟩
  ·intro rec _ _;simp only [zau.l3,zau.k2];rw [if_f (lt_f (Nat.lt_irrefl _))];exact Told.mk ⟨k.mono (by omega) (by omega),rfl⟩
 ·have hk4:∀ i,i≤c.exps.length→Told (zau.k4 c x y (i:Int)) fun r=>Cap (m+1) r.2∧r.2.vols=c.vols:=by
   intro i hi;unfold zau.k4;refine Told.bd (p:=fun _=>True) ?_ fun z _=>?_
   ·refine Told.only (fun h=>?_) fun _=>trivial;obtain ⟨z,hz,_⟩:=Told.ix (l:=c.exps) (i:=(i:Int)) (by omega) (by simpa using h);exact ⟨z,hz,trivial⟩
   ·refine Told.if_ (fun hq=>?_) fun _=>zwz hi (by omega) ?_
    ·rw [Bool.and_eq_true] at hq;have hil:i < c.exps.length:=by have:=hq.1;simp at this;exact this
     have hk:=k.exp _ (List.getElem_mem hil);rw [zbv hil,zal];refine (zpq _ y (by omega)).bd fun l hl=>Told.mk ⟨k.exps' (by omega) (by omega) (by simp;omega) fun z hz=>?_,rfl⟩;rcases zrg hz with q | q
     ·have:=k.exp z q;omega
     ·rw [q];show l.length≤m+1;omega
    ·have hcap:∀ q,Cap (m+1) (Catalog.mk q c.snaps c.chunks (c.exps.take i++[Exp.mk x.seq x.of [y]]++c.exps.drop i) c.vols):=fun q=>k.exps' (by omega) (by omega) (by simp;omega) fun z hz=>by
      rcases List.mem_append.1 hz with h | h
      ·rcases List.mem_append.1 h with h | h
       ·have:=k.exp z (List.mem_of_mem_take h);omega
       ·rw [List.mem_singleton.1 h];simp
      ·have:=k.exp z (List.mem_of_mem_drop h);omega
     unfold zau.k1;exact Told.if_ (fun _=>Told.mk ⟨hcap _,rfl⟩) fun _=>Told.mk ⟨hcap _,rfl⟩
  refine Told.loop (S:=Int) (σ:=Unit) (fun i _=>(i:Int)) c.exps.length (fun _ _=>True) (i0:=0) (s0:=()) rfl (Nat.zero_le _) trivial (by omega) ?_ ?_
  ·intro rec i _ hi _ hrec;simp only [zau.l5];rw [zck (lt_t hi),zbv hi,zal,zaz (by omega)];exact Told.if_ (fun _=>hrec () trivial) fun _=>hk4 i (by omega)
  ·intro rec _ _;simp only [zau.l5];rw [zel (lt_f (Nat.lt_irrefl _)),zal,lt_f (Nat.lt_irrefl _)];exact hk4 _ (Nat.le_refl _)
theorem zxc {α:Type} {l:List α} {i:Nat} (hi:i < l.length) (b:Bool) (z:α):∃ r,only b (ix l (i:Int)) z=some r:=by
 rw [zbv hi,zci];exact ⟨_,rfl⟩
abbrev St5:=Int × Int × List Snap × List Chunk × List Exp × List Vol
theorem apply_told {m:Nat} {c:Catalog} {x:Change} (k:Cap m c) (hm:m≤900000) (hx:OkX x) (hm2:1000≤m):Told (zaa c x) fun r=>Cap (m+10000) r.2:=by
 have hc:=k.chunks;have hs:=k.snaps;have he:=k.exps;have hv:=k.vols;have hfew:=hx.few;have hit:=hx.items;have kk:Cap (m+10000) c:=k.mono (by omega) (by omega);unfold zaa;refine Told.if_ (fun _=>?_) fun _=>Told.if_ (fun _=>?_) fun _=>Told.if_ (fun _=>?_) fun _=>Told.if_ (fun _=>?_) fun _=>Told.if_ (fun _=>?_) fun _=>?_
 ·
  have hk2:∀ b,Told (zaa.k2 c x b) fun r=>Cap (m+10000) r.2:=by
   intro b;unfold zaa.k2;refine Told.if_ (fun _=>Told.mk kk) fun _=>?_;rw [rsnap_eq _ _ (by omega),zal];refine Told.if_ (fun _=>Told.mk kk) fun _=>?_;rw [zdu (by simp;omega),zal];refine Told.loop (S:=Int × List Chunk) (σ:=List Chunk) (fun i s=>((i:Int),s)) x.chunks.length (fun i s=>s.length≤m+i ∧ ∀ y∈s,OkK m y) (i0:=0) (s0:=c.chunks) rfl (Nat.zero_le _) ⟨hc,k.chunk⟩ (by omega) ?_ ?_
   ·intro rec i s hi hI hrec;simp only [zaa.l3];rw [if_t (lt_t hi),zbv hi,zal,zaz (by omega)];refine (add_told k.le s _ (by omega) hI.2 ((hx.chunk _ (List.getElem_mem hi)).mono hm2)).bd fun r hr=>hrec r ⟨by omega,hr.2⟩
   ·intro rec s hI;simp only [zaa.l3,zaa.k1];rw [if_f (lt_f (Nat.lt_irrefl _))];refine Told.mk ⟨by omega,by show s.length≤_;omega,by simp;omega,kk.exps,kk.vols,fun y hy=>(hI.2 y hy).mono (by omega),fun y hy=>?_,kk.exp⟩;rcases List.mem_append.1 hy with h | h
    ·exact kk.snap y h
    ·rw [List.mem_singleton.1 h];exact ⟨by have:=hx.locs;omega,hx.man⟩
  refine Told.loop (S:=Bool × Int) (σ:=Bool) (fun i b=>(b,(i:Int))) x.chunks.length (fun _ _=>True) (i0:=0) rfl (Nat.zero_le _) trivial (by omega) ?_ ?_
  ·intro rec i b hi _ hrec;simp only [zaa.l4];obtain ⟨y,hy⟩:=zxc hi b (Chunk.mk (List.replicate 32 (0:UInt8)) false [] []);rw [if_t (lt_t hi),hy,zal];obtain ⟨z,hz⟩:=zxc hi (b&&y.staged) (Chunk.mk (List.replicate 32 (0:UInt8)) false [] []);rw [hz,zal,zaz (by omega)];exact hrec _ trivial
  ·intro rec b _;simp only [zaa.l4];rw [if_f (lt_f (Nat.lt_irrefl _))];exact hk2 b
 ·
  refine (gone_told k _).bd fun r hr=>Told.if_ (fun _=>Told.mk (hr.mono (by omega) (by omega))) fun _=>?_;unfold zaa.k1;exact Told.mk ((hr.mono (by omega) (by omega):Cap (m+10000) r.2).seq' _)
 ·
  refine (zwm c _ _ _).bd fun r67 hr=>?_;obtain ⟨ok,c'⟩:=r67;obtain ⟨hcc,hvol⟩:=hr;simp only at hcc;subst hcc;have hk7:∀ (d:Catalog),Cap (m+100) d→d.vols.length=c'.vols.length→(0≤x.vol∧x.vol < (c'.vols.length:Int))→Told (zaa.k7 x d.seq d.snaps d.chunks d.exps d.vols) fun r=>Cap (m+10000) r.2:=by
   intro d kd hlen hvol;unfold zaa.k7;refine (Told.ix (l:=d.vols) hvol.1 (by omega)).bd fun v _=>Told.if_ (fun _=>?_) fun _=>by
    unfold zaa.k1;exact Told.mk ((kd.mono (by omega) (by omega):Cap (m+10000) d).seq' _)
   refine Told.loop (S:=Int × List Chunk) (σ:=List Chunk) (fun i s=>((i:Int),s)) x.items.length (fun i s=>Cap (m+100) (Catalog.mk d.seq d.snaps s d.exps d.vols)) (i0:=0) (s0:=d.chunks) rfl (Nat.zero_le _) (kd.seq' _) (by omega) ?_ ?_
   ·intro rec i s hi hI hrec;simp only [zaa.l8,zaa.k9];rw [if_t (lt_t hi),zbv hi,zal,zal,zaz (by omega)];refine Told.if_ (fun _=>?_) fun _=>hrec s hI;refine (zrv hI _).bd fun r hr=>Told.if_ (fun h=>?_) fun _=>hrec s hI;have h0:0≤r:=by simpa using h
    obtain ⟨n,rfl⟩:∃ n:Nat,r=n:=⟨r.toNat,by omega⟩
    have hn:n < s.length:=by have:=hr h0;simp only at this;omega
    have hk:=hI.chunk _ (List.getElem_mem hn);rw [zbv hn,zal,Int.toNat_natCast,zbv (show n < (s.set n _).length by simp;omega),zal,List.set_set];refine hrec _ ⟨hI.le,by have:=hI.chunks;simp at this ⊢;omega,hI.snaps,hI.exps,hI.vols,fun y hy=>?_,hI.snap,hI.exp⟩;rcases zrg hy with q | q
    ·exact hI.chunk y q
    ·rw [q];simp only [List.getElem_set_self];exact ⟨hk.1,Nat.zero_le _,hk.2.2⟩
   ·intro rec s hI;simp only [zaa.l8,zaa.k1];rw [if_f (lt_f (Nat.lt_irrefl _))];exact Told.mk (hI.mono (by omega) (by omega))
  have hk6:∀ (d:Catalog),Cap (m+100) d→d.vols.length=c'.vols.length→(0≤x.vol∧x.vol < (c'.vols.length:Int))→Told (zaa.k6 x d.seq d.snaps d.chunks d.exps d.vols) fun r=>Cap (m+10000) r.2:=by
   intro d kd hlen hvol;unfold zaa.k6;refine Told.loop (S:=St5) (σ:=Catalog) (fun i d=>((i:Int),d.seq,d.snaps,d.chunks,d.exps,d.vols)) x.items.length (fun i d=>Cap (m+100) d∧d.vols.length=c'.vols.length) (i0:=0) (s0:=d) rfl (Nat.zero_le _) ⟨kd,hlen⟩ (by omega) ?_ ?_
   ·intro rec i e hi hI hrec;simp only [zaa.l10,zaa.k11];rw [if_t (lt_t hi),zbv hi,zal,zal,zaz (by omega)];refine Told.if_ (fun _=>?_) fun _=>hrec e hI;refine (gone_vols hI.1 _).bd fun r hr=>hrec r.2 ⟨hr.1,by rw [hr.2];exact hI.2⟩
   ·intro rec e hI;simp only [zaa.l10];rw [if_f (lt_f (Nat.lt_irrefl _))];exact hk7 e hI.1 hI.2 hvol
  have hk5:∀ b,(b=true→ok=true)→Told (zaa.k5 x (ok,c') b) fun r=>Cap (m+10000) r.2:=by
   intro b hb;unfold zaa.k5;refine Told.if_ (fun _=>Told.mk kk) fun hnb=>?_;have hv2:=hvol (hb (by simpa using hnb));refine (Told.ix (l:=c'.vols) hv2.1 hv2.2).bd fun v _=>?_;have kd:Cap m (Catalog.mk c'.seq c'.snaps c'.chunks c'.exps ((c'.vols.set x.vol.toNat (Vol.mk v.pool v.epoch 2 v.files)).set x.vol.toNat (Vol.mk v.pool v.epoch 2 (wr (v.files+1))))):=k.vols' (by simp;omega);refine Told.loop (S:=St5) (σ:=Catalog) (fun i d=>((i:Int),d.seq,d.snaps,d.chunks,d.exps,d.vols)) x.items.length (fun i d=>Cap (m+i) d∧d.vols.length=c'.vols.length) (i0:=0) (s0:=Catalog.mk c'.seq c'.snaps c'.chunks c'.exps ((c'.vols.set x.vol.toNat (Vol.mk v.pool v.epoch 2 v.files)).set x.vol.toNat (Vol.mk v.pool v.epoch 2 (wr (v.files+1))))) rfl (Nat.zero_le _) ⟨kd,by simp⟩ (by omega) ?_ ?_
   ·intro rec i e hi hI hrec;simp only [zaa.l12];rw [if_t (lt_t hi),zbv hi,zal,zaz (by omega)];refine (Told.ix (l:=e.vols) hv2.1 (by rw [hI.2];exact hv2.2)).bd fun v2 _=>?_;refine (wrote_told (c:=e) hI.1 (by omega) _ _).bd fun r hr=>Told.if_ (fun _=>Told.mk (hr.1.mono (by omega) (by omega))) fun _=>hrec r.2 ⟨hr.1,by rw [hr.2];exact hI.2⟩
   ·intro rec e hI;simp only [zaa.l12];rw [if_f (lt_f (Nat.lt_irrefl _))];exact hk6 e (hI.1.mono (by omega) (by omega)) hI.2 hv2
  refine Told.loop (S:=Bool × Int) (σ:=Bool) (fun i b=>(b,(i:Int))) x.items.length (fun _ b=>b=true→ok=true) (i0:=0) rfl (Nat.zero_le _) (fun h=>by simp only [Bool.and_eq_true] at h;exact h.1.1) (by omega) ?_ ?_
  ·intro rec i b hi hI hrec;simp only [zaa.l13];obtain ⟨y,hy⟩:=zxc hi b (Item.mk 0 (List.replicate 32 (0:UInt8)) 0 0 0 0);rw [if_t (lt_t hi),hy,zal];obtain ⟨z,hz⟩:=zxc hi (b&&decide (1≤y.kind)) (Item.mk 0 (List.replicate 32 (0:UInt8)) 0 0 0 0);rw [hz,zal,zaz (by omega)];exact hrec _ fun h=>by simp only [Bool.and_eq_true] at h;exact hI h.1.1
  ·intro rec b hI;simp only [zaa.l13];rw [if_f (lt_f (Nat.lt_irrefl _))];exact hk5 b hI
 ·
  refine (zwm c _ _ _).bd fun r hr=>?_;obtain ⟨ok,c'⟩:=r;obtain ⟨hcc,hvol⟩:=hr;simp only at hcc;subst hcc;refine Told.if_ (fun _=>Told.mk kk) fun hnb=>?_;have hv2:=hvol (by simpa using hnb);refine (Told.ix (l:=c'.vols) hv2.1 hv2.2).bd fun v1 _=>?_;refine (Told.ix (l:=c'.vols.set x.vol.toNat (Vol.mk v1.pool v1.epoch 3 v1.files)) hv2.1 (by simpa using hv2.2)).bd fun v2 _=>?_;refine Told.loop (S:=List Chunk × Int) (σ:=List Chunk) (fun i s=>(s,(i:Int))) c'.chunks.length (fun i s=>s.length≤i ∧ ∀ y∈s,OkK m y) (i0:=0) (s0:=[]) rfl (Nat.zero_le _) ⟨Nat.le_refl _,fun y hy=>by cases hy⟩ (by omega) ?_ ?_
  ·intro rec i s hi hI hrec;simp only [zaa.l20,zaa.k21];have hk:=k.chunk _ (List.getElem_mem hi);rw [if_t (lt_t hi),zbv hi,zal,zaz (by omega)];refine (zxd _ _ (by have:=hk.1;have:=k.le;omega)).bd fun l hl=>?_;rw [zdu (by simp;omega),zal];refine Told.if_ (fun _=>hrec _ ⟨by simp;omega,fun y hy=>?_⟩) fun _=>hrec _ ⟨by omega,hI.2⟩;rcases List.mem_append.1 hy with h | h
   ·exact hI.2 y h
   ·rw [List.mem_singleton.1 h];exact ⟨Nat.le_trans hl hk.1,hk.2⟩
  ·intro rec l231 hI;simp only [zaa.l20];rw [if_f (lt_f (Nat.lt_irrefl _))];unfold zaa.k14;refine Told.loop (S:=Int × List Snap) (σ:=List Snap) (fun i s=>((i:Int),s)) c'.snaps.length (fun i s=>s.length=c'.snaps.length ∧ ∀ y∈s,y.locs.length≤m∧OkM y.man) (i0:=0) (s0:=c'.snaps) rfl (Nat.zero_le _) ⟨rfl,k.snap⟩ (by omega) ?_ ?_
   ·intro rec2 i s hi hJ hrec2;simp only [zaa.l19];have hi':i < s.length:=by rw [hJ.1];exact hi
    have hk:=hJ.2 _ (List.getElem_mem hi');rw [if_t (lt_t hi'),zbv hi',zal,zaz (by omega),Int.toNat_natCast];refine (zxd _ _ (by have:=hk.1;have:=k.le;omega)).bd fun l hl=>hrec2 _ ⟨by simp [hJ.1],fun y hy=>?_⟩;rcases zrg hy with q | q
    ·exact hJ.2 y q
    ·rw [q];exact ⟨Nat.le_trans hl hk.1,hk.2⟩
   ·intro rec2 l236 hJ;simp only [zaa.l19];rw [if_f (lt_f (by rw [hJ.1];exact Nat.lt_irrefl _))];unfold zaa.k15;refine Told.loop (S:=List Exp × Int) (σ:=List Exp) (fun i s=>(s,(i:Int))) c'.exps.length (fun i s=>s.length≤i ∧ ∀ y∈s,y.locs.length≤m) (i0:=0) (s0:=[]) rfl (Nat.zero_le _) ⟨Nat.le_refl _,fun y hy=>by cases hy⟩ (by omega) ?_ ?_
    ·intro rec3 i s hi hL hrec3;simp only [zaa.l17,zaa.k18];have hk:=k.exp _ (List.getElem_mem hi);rw [if_t (lt_t hi),zbv hi,zal,zaz (by omega)];refine (zxd _ _ (by have:=k.le;omega)).bd fun l hl=>?_;rw [zdu (by simp;omega),zal];refine Told.if_ (fun _=>hrec3 _ ⟨by simp;omega,fun y hy=>?_⟩) fun _=>hrec3 _ ⟨by omega,hL.2⟩;rcases List.mem_append.1 hy with h | h
     ·exact hL.2 y h
     ·rw [List.mem_singleton.1 h];exact Nat.le_trans hl hk
    ·intro rec3 l238 hL;simp only [zaa.l17,zaa.k16,zaa.k1];rw [if_f (lt_f (Nat.lt_irrefl _))];refine Told.mk (Cap.mono (m:=m) (by omega) (by omega) ⟨k.le,by show l231.length≤m;omega,by show l236.length≤m;omega,by show l238.length≤m;omega,by simp;omega,hI.2,hJ.2,hL.2⟩)
 ·
  refine (zwm c _ _ _).bd fun r hr=>?_;obtain ⟨ok,c'⟩:=r;obtain ⟨hcc,hvol⟩:=hr;simp only at hcc;subst hcc;refine Told.if_ (fun _=>Told.mk kk) fun hnb=>?_;have hv2:=hvol (by simpa using hnb);refine (Told.ix (l:=c'.vols) hv2.1 hv2.2).bd fun v1 _=>?_;refine (Told.ix (l:=c'.vols.set x.vol.toNat (Vol.mk v1.pool v1.epoch 1 v1.files)) hv2.1 (by simpa using hv2.2)).bd fun v2 _=>?_;unfold zaa.k1;exact Told.mk ((k.vols' (by simp;omega):Cap m _).mono (by omega) (by omega))
 ·unfold zaa.k1;exact Told.mk (kk.seq' _)
theorem rapply_told {m:Nat} {c:Catalog} {x:Change} (k:Cap m c) (hm:m≤900000) (hm2:1000≤m) (hx:OkX x):Told (zgo c x) fun r=>r.2=0→catB r.1=true∧Cap (m+10000) r.1:=by
 unfold zgo;rw [ztw _ k.fine,zal];refine Told.if_ (fun _=>Told.mk fun h=>by simp at h) fun _=>?_;rw [tcat_eq k,zal,tchange_eq hx,zal];refine (apply_told k hm hx hm2).bd fun r hr=>Told.if_ (fun h=>Told.mk fun h2=>?_) fun _=>?_
 ·simp only at h2;rw [h2] at h;simp at h
 ·rw [ztw _ hr.fine,zal];refine Told.if_ (fun _=>Told.mk fun h=>by simp at h) fun h=>Told.mk fun _=>⟨by simpa using h,hr⟩
end Go.Wk.Lf
end
section
namespace Go.Wk.Lf
open Go.V Go.Sort Go.Proofs
theorem mod_nat (x n:Int) (h0:0 < n) (h1:n≤1000000):∃ k:Nat,wr ((wu x).tmod n)=(k:Int)∧(wu x).tmod n=(k:Int)∧(k:Int) < n:=by
 have hw:0≤wu x:=by show 0≤IntKind.u64.wrap x;rw [zwn];omega
 have a:=Int.tmod_nonneg n hw;have b:=Int.tmod_lt_of_pos (wu x) h0;refine ⟨((wu x).tmod n).toNat,?_,by omega,by omega⟩;rw [zho (by omega) (by omega)];omega
theorem man_okM {m:Manifest} (h:manB m) (hk:okId m):OkM m:=by
 obtain ⟨h1,_,h2⟩:=manB_ids h;refine ⟨hk,by have:=(zud h.1).2;omega,fun p hp=>?_,by omega,fun p hp=>by have:=h2 p hp;omega⟩;have:=List.all_eq_true.1 h.2.2.1 p hp;unfold znm at this;simp only [Bool.and_eq_true] at this;have:=(zud this.1.1.1.1).2;omega
theorem bare_okM:OkM ⟨[],[]⟩:=⟨fun p hp=>(by cases hp),by simp,fun p hp=>(by cases hp),by simp,fun p hp=>(by cases hp)⟩
theorem bare_okX (k:Int) (q v:Int) (l:List Item) (h:l.length≤64):OkX (Change.mk k (Snap.mk 0 (Manifest.mk [] []) []) [] q v l):=⟨bare_okM,by simp,by simp,fun y hy=>(by cases hy),h⟩
theorem cap_right {m:Nat} {c:Catalog} (k:Cap m c) (h:catB c=true):Cap 1000 c:=by
 unfold catB zve zje zpu zxq at h;simp only [Bool.and_eq_true,decide_eq_true_eq,zec,zil] at h;obtain ⟨⟨⟨⟨_,_,_,hv⟩,hc,hcl⟩,hs,hsl⟩,he,hel⟩:=h;have hloc:∀ l:List Loc,zie c.vols l=true→l.length≤200:=fun l hl=>by
  unfold zie at hl;simp only [Bool.and_eq_true,decide_eq_true_eq] at hl;exact hl.1
 refine ⟨by omega,by omega,by omega,by omega,by omega,fun x hx=>?_,fun s hs'=>?_,fun x hx=>?_⟩
 ·obtain ⟨i,hi,rfl⟩:=List.mem_iff_getElem.1 hx;have:=hc i hi;unfold zhd at this;simp only [Bool.and_eq_true,zbn hi] at this;have:=hloc _ this.1.2;exact ⟨by omega,(k.chunk _ hx).2⟩
 ·obtain ⟨i,hi,rfl⟩:=List.mem_iff_getElem.1 hs';have:=hs i hi;unfold znf at this;simp only [Bool.and_eq_true,zbn hi] at this;have:=hloc _ this.1.2;exact ⟨by omega,(k.snap _ hs').2⟩
 ·obtain ⟨i,hi,rfl⟩:=List.mem_iff_getElem.1 hx;have:=he i hi;unfold zur at this;simp only [Bool.and_eq_true,zbn hi] at this;have:=hloc _ this.1.2;omega
theorem rnew_eq (p:List Int) (h8:p.length≤8):zcy p=some (zyc (zlp p)):=by
 unfold zcy;refine zgc (σ:=List Vol) (fun i m=>((i:Int),m)) p.length (fun i m=>m=zlp (p.take i)) _ (i0:=0) (s0:=[]) rfl (Nat.zero_le _) rfl (by omega) ?_ ?_
 ·intro rec i m hi hI hrec;simp only [zcy.l2];have hml:m.length≤8:=by rw [hI];simp [zlp];omega
  rw [if_t (lt_t hi),zbv hi,zal,zdu (by simp;omega),zal,zaz (by omega)];refine hrec _ ?_;rw [hI,zdl hi,zlp,zlp,List.map_append];rfl
 ·intro rec m hI;simp only [zcy.l2,zcy.k1];rw [if_f (lt_f (Nat.lt_irrefl _)),hI,List.take_length];rfl
theorem new_cap (p:List Int) (h8:p.length≤8):Cap 1000 (zyc (zlp p)):=⟨by omega,by simp [zyc],by simp [zyc],by simp [zyc],by simp [zyc,zlp];omega,fun x hx=>(by cases hx),fun x hx=>(by cases hx),fun x hx=>(by cases hx)⟩
def GoodA (a:Cellarerlaw19Act):Prop:=a.pick.length≤300∧a.tree.length≤10 ∧ ∀ f∈a.tree,f.path.length≤50
theorem heavy_told (l:List Cellarerlaw19Act):Told (zay l) fun r=>r=false → ∀ i (h:i < l.length),i < 30→GoodA l[i]:=by
 unfold zay;refine Told.if_ (fun _=>Told.mk fun h=>by cases h) fun hl=>?_;have hl:l.length≤120:=by have:=of_decide_eq_false hl;omega
 refine Told.loop (S:=Int) (σ:=Unit) (fun i _=>(i:Int)) (min l.length 30) (fun i _=>∀ j (h:j < l.length),j < i→GoodA l[j]) (i0:=0) (s0:=()) rfl (Nat.zero_le _) (fun j h q=>by omega) (by omega) ?_ ?_
 ·intro rec i _ hi hI hrec;have hi1:i < l.length:=by omega
  simp only [zay.l2];rw [if_t (by simp;omega),zbv hi1,zal,zci,zal];refine Told.if_ (fun _=>Told.mk fun h=>by cases h) fun hp=>?_;have hp:l[i].pick.length≤300∧l[i].tree.length≤10:=by
   rw [Bool.or_eq_false_iff,decide_eq_false_iff_not,decide_eq_false_iff_not] at hp;have h1:l[i].pick.length≤300:=by omega
   have h2:=hp.2;rw [decide_eq_false (by omega)] at h2;simp only [Bool.not_false,if_true] at h2;exact ⟨h1,by omega⟩
  refine Told.loop (S:=Int) (σ:=Unit) (fun q _=>(q:Int)) l[i].tree.length (fun q _=>∀ j (h:j < l[i].tree.length),j < q→l[i].tree[j].path.length≤50) (i0:=0) (s0:=()) rfl (Nat.zero_le _) (fun j h q=>by omega) (by omega) ?_ ?_
  ·intro rec2 q _ hq hJ hrec2;simp only [zay.l4];rw [zbv hi1,zal,if_t (lt_t hq),zal,zbv hq,zal,zci,zal]
   by_cases hd:(300:Int) < (l[i].tree[q].data.length:Int)
   ·rw [decide_eq_true hd];exact Told.mk fun h=>by cases h
   ·rw [decide_eq_false hd];simp only [Bool.not_false,if_true];rw [zck rfl,zbv hq,zal,zaz (by omega)];refine Told.if_ (fun _=>Told.mk fun h=>by cases h) fun h=>hrec2 () fun j hj hjq=>?_
    by_cases e:j=q
    ·subst e;have:=of_decide_eq_false (by simpa using h:decide ((50:Int) < (l[i].tree[j].path.length:Int))=false);omega
    ·exact hJ j hj (by omega)
  ·intro rec2 _ hJ;simp only [zay.l4,zay.k3];rw [zbv hi1,zal,if_f (lt_f (Nat.lt_irrefl _)),zaz (by omega)];refine hrec () fun j hj hji=>?_
   by_cases e:j=i
   ·subst e;exact ⟨hp.1,hp.2,fun f hf=>by
     obtain ⟨q,hq,rfl⟩:=List.mem_iff_getElem.1 hf;exact hJ q hq hq⟩
   ·exact hI j hj (by omega)
 ·intro rec _ hI;simp only [zay.l2,zay.k1];rw [if_f (by simp;omega)];exact Told.mk fun _ i hi h30=>hI i hi (by omega)
theorem name_act (n:Int):∃ s,cat ([110]:List UInt8) [toB8 (wu (97+(wu n).tmod 5))]=some s∧zij s=true:=by
 refine ⟨_,if_pos (by simp),?_⟩;obtain ⟨k,_,h2,h3⟩:=mod_nat n 5 (by decide) (by decide);rw [h2];rcases (by omega:k=0∨k=1∨k=2∨k=3∨k=4) with rfl | rfl | rfl | rfl | rfl <;> decide
theorem made_told {c:Catalog} (k:Cap 1000 c) {a:Cellarerlaw19Act} (ha:GoodA a):Told (zae c a) fun r=>r.2=true→OkX r.1:=by
 have hc:=k.chunks;have hs:=k.snaps;have he:=k.exps;obtain ⟨nm,hnm,hnB⟩:=name_act a.n;have none:∀ z,Told (some (z,false):Option (Change × Bool)) fun r=>r.2=true→OkX r.1:=fun z=>Told.mk fun h=>by cases h
 have hbare:∀ (kd q v:Int) (l:List Item) (b:Bool),l.length≤64→Told (some (Change.mk kd (Snap.mk 0 (Manifest.mk [] []) []) [] q v l,b)) fun r=>r.2=true→OkX r.1:=fun kd q v l b h=>Told.mk fun _=>bare_okX kd q v l h;have hk8:∀ v b,Told (zae.k8 c a v b) fun r=>r.2=true→OkX r.1:=by
  intro v b;unfold zae.k8;refine Told.if_ (fun _=>?_) fun _=>Told.if_ (fun _=>hbare _ _ _ _ _ (by simp)) fun _=>by
   unfold zae.k2;exact hbare _ _ _ _ _ (by simp)
  have hN:wr (wr ((c.chunks.length:Int)+(c.snaps.length:Int))+(c.exps.length:Int))=((c.chunks.length+c.snaps.length+c.exps.length:Nat):Int):=by
   rw [zho (x:=(c.chunks.length:Int)+(c.snaps.length:Int)) (by omega) (by omega),zho (by omega) (by omega)];omega
  have hN2:wr ((c.chunks.length:Int)+(c.snaps.length:Int))=((c.chunks.length+c.snaps.length:Nat):Int):=by
   rw [zho (by omega) (by omega)];omega
  have hk9:∀ l:List Item,l.length≤64→Told (zae.k9 v l) fun r=>r.2=true→OkX r.1:=fun l h=>hbare _ _ _ _ _ h;refine Told.loop (S:=List Item × Int × Int) (σ:=List Item × Int) (fun i s=>(s.1,s.2,(i:Int))) (c.chunks.length+c.snaps.length+c.exps.length) (fun i s=>s.1.length≤64) (i0:=0) (s0:=([],13)) rfl (Nat.zero_le _) (by simp) (by omega) ?_ ?_
  ·rintro rec i ⟨l,off⟩ hi hI hrec;simp only at hI ⊢;simp only [zae.l10,zae.k11,zae.k12];rw [hN,hN2,zaz (by omega)];refine Told.if_ (fun hcnd=>?_) fun _=>hk9 l hI;rw [Bool.and_eq_true,decide_eq_true_eq,decide_eq_true_eq] at hcnd;refine Told.bd (p:=fun _=>True) (Told.only (fun h=>?_) fun _=>trivial) fun z _=>?_
   ·obtain ⟨z,hz,_⟩:=Told.ix (l:=a.pick) (i:=(i:Int)) (by omega) (by simpa using h);exact ⟨z,hz,trivial⟩
   ·have hput:∀ (kd:Int) (id:List UInt8) (q o:Int),Told (bd (app (α:=Item) l [Item.mk kd id q o off 20]) fun l128=>rec (l128,wr (off+20),((i+1:Nat):Int))) fun r=>r.2=true→OkX r.1:=by
     intro kd id q o;rw [zdu (by simp;omega),zal];exact hrec (_,_) (by simp;omega)
    refine Told.if_ (fun _=>hrec (l,off) hI) fun _=>Told.if_ (fun h1=>?_) fun h1=>Told.if_ (fun h2=>?_) fun h2=>?_
    ·have h1:=of_decide_eq_true h1;exact (Told.ix (l:=c.chunks) (by omega) h1).bd fun y _=>hput _ _ _ _
    ·have h1:=of_decide_eq_false h1;have h2:=of_decide_eq_true h2;have e:wr ((i:Int) - (c.chunks.length:Int))=(i:Int) - (c.chunks.length:Int):=zho (by omega) (by omega);rw [e];exact (Told.ix (l:=c.snaps) (by omega) (by omega)).bd fun y _=>hput _ _ _ _
    ·have h1:=of_decide_eq_false h1;have h2:=of_decide_eq_false h2;have e:wr (wr ((i:Int) - (c.chunks.length:Int)) - (c.snaps.length:Int))=(i:Int) - (c.chunks.length:Int) - (c.snaps.length:Int):=by
      rw [zho (x:=(i:Int) - (c.chunks.length:Int)) (by omega) (by omega),zho (by omega) (by omega)]
     rw [e];exact (Told.ix (l:=c.exps) (by omega) (by omega)).bd fun y _=>hput _ _ _ _
  ·rintro rec ⟨l,off⟩ hI;simp only at hI ⊢;simp only [zae.l10];rw [hN,if_f (by simp)];exact hk9 l hI
 have hk7:∀ v b,Told (zae.k7 c a v b) fun r=>r.2=true→OkX r.1:=by
  intro v b;unfold zae.k7;refine Told.if_ (fun _=>Told.if_ (fun _=>none _) fun h0=>?_) fun _=>Told.if_ (fun _=>hk8 _ _) fun _=>hk8 _ _;have h0:0 < c.snaps.length:=by have:=of_decide_eq_false h0;omega
  rw [wu_id (show (0:Int)≤(c.snaps.length:Int) by omega) (by omega)];obtain ⟨q,h1,h2,h3⟩:=mod_nat a.n (c.snaps.length:Int) (by omega) (by omega);have hr:rem (wu a.n) (c.snaps.length:Int)=some ((wu a.n).tmod (c.snaps.length:Int)):=if_neg (by omega);rw [hr,zal,h1,zbv (show q < c.snaps.length by omega),zal];exact Told.if_ (fun _=>hbare _ _ _ _ _ (by simp)) fun _=>hbare _ _ _ _ _ (by simp)
 have hk3:∀ v b,Told (zae.k3 c a nm v b) fun r=>r.2=true→OkX r.1:=by
  intro v b;unfold zae.k3;refine Told.if_ (fun _=>?_) fun _=>Told.if_ (fun _=>hk7 _ _) fun _=>hk7 _ _;obtain ⟨r,hr,hsort⟩:=refsort_ok a.tree (by have:=ha.2.1;omega) fun f hf=>by have:=ha.2.2 f hf;omega
  rw [hr,zal];refine Told.if_ (fun _=>none _) fun h0=>?_;have h0:r.2=0:=by simpa using h0
  obtain ⟨p1,p2,p3,p4⟩:=hsort h0;obtain ⟨t1,t2,t3,t4⟩:=tree_facts p1 p2 p3 p4;rw [rbuild_eq nm r.1 hnB t1 t2 (fun f hf=>by have:=(zud (t3 f hf)).2;omega) t4,zal];have hcl:=chunksR_len t1 t2;refine Told.loop (S:=Int × List Chunk) (σ:=List Chunk) (fun i s=>((i:Int),s)) (zru r.1).length (fun i s=>s.length≤i ∧ ∀ y∈s,OkK 1000 y) (i0:=0) (s0:=[]) rfl (Nat.zero_le _) ⟨Nat.le_refl _,fun y hy=>(by cases hy)⟩ (by omega) ?_ ?_
  ·intro rec i s hi hI hrec;simp only [zae.l5,zae.k6];have hd:=chunksR_mem (List.getElem_mem hi);rw [if_t (lt_t hi),zbv hi,zal,b_sum _ (by omega),zal,zaz (by omega)];refine (zrv k _).bd fun q _=>Told.if_ (fun _=>?_) fun _=>hrec _ ⟨by omega,hI.2⟩;rw [zal,zdu (by simp;omega),zal];refine hrec _ ⟨by simp;omega,fun y hy=>?_⟩;rcases List.mem_append.1 hy with h | h
   ·exact hI.2 y h
   ·rw [List.mem_singleton.1 h];exact ⟨by simp,Nat.le_trans hd.2 (by decide),zwp _⟩
  ·intro rec s hI;simp only [zae.l5,zae.k4];rw [if_f (lt_f (Nat.lt_irrefl _))];exact Told.mk fun _=>⟨man_okM (manR_right hnB t1 t2 t3 p2) (manR_ids _ _),by simp,by show s.length≤_;omega,hI.2,by simp⟩
 have hk1:∀ v,Told (zae.k1 c a nm v) fun r=>r.2=true→OkX r.1:=fun v=>by
  unfold zae.k1;exact Told.if_ (fun _=>hk3 _ _) fun _=>hk3 _ _
 unfold zae;rw [hnm,zal];refine Told.if_ (fun h=>?_) fun _=>hk1 _;have h:=of_decide_eq_true h;have hv:=k.vols;have hr:rem (wu a.vol) (wu (c.vols.length:Int))=some ((wu a.vol).tmod (wu (c.vols.length:Int))):=by
  rw [wu_id (x:=(c.vols.length:Int)) (by omega) (by omega)];exact if_neg (by omega)
 rw [hr,zal];exact hk1 _
theorem lived_told (p:List Int) (h1:1≤p.length) (h8:p.length≤8) (hp:∀ x∈p,x=0∨x=1) (l:List Cellarerlaw19Act) (hl:∀ i (h:i < l.length),i < 30→GoodA l[i]):Told (zbj p l) fun c=>catB c=true∧Cap 1000 c:=by
 unfold zbj;rw [rnew_eq p h8,zal];refine Told.loop (S:=St5) (σ:=Catalog) (fun i d=>((i:Int),d.seq,d.snaps,d.chunks,d.exps,d.vols)) (min l.length 30) (fun i d=>catB d=true∧Cap 1000 d) (i0:=0) (s0:=zyc (zlp p)) rfl (Nat.zero_le _) ⟨new_right p h1 h8 hp,new_cap p h8⟩ (by omega) ?_ ?_
 ·intro rec i d hi hI hrec;have hi1:i < l.length:=by omega
  simp only [zbj.l2,zbj.k3];rw [if_t (by simp;omega),zbv hi1,zal,zaz (by omega)];refine (made_told hI.2 (hl i hi1 (by omega))).bd fun r hr=>Told.if_ (fun h=>?_) fun _=>hrec d hI;refine (rapply_told hI.2 (by omega) (by omega) (hr h)).bd fun q hq=>Told.if_ (fun h2=>?_) fun _=>hrec d hI;obtain ⟨q1,q2⟩:=hq (of_decide_eq_true h2);exact hrec q.1 ⟨q1,cap_right q2 q1⟩
 ·intro rec d hI;simp only [zbj.l2,zbj.k1];rw [if_f (by simp;omega)];exact Told.mk hI
end Go.Wk.Lf
end
section
namespace Go.Wk.Lf
open Go.V Go.Sort Go.Proofs
theorem man_heavy {m:Manifest} (h:OkM m):Told (zcp m) fun _=>True:=by
 unfold zcp;refine Told.if_ (fun _=>Told.mk trivial) fun _=>?_;have hp:=h.parts;refine Told.loop (S:=Int) (σ:=Unit) (fun i _=>(i:Int)) m.parts.length (fun _ _=>True) (i0:=0) (s0:=()) rfl (Nat.zero_le _) trivial (by omega) ?_ ?_
 ·intro rec i _ hi _ hrec;simp only [zcp.l2];rw [if_t (lt_t hi),zbv hi,zal,zci,zal,zaz (by omega)];exact Told.if_ (fun _=>Told.mk trivial) fun _=>hrec () trivial
 ·intro rec _ _;simp only [zcp.l2,zcp.k1];rw [if_f (lt_f (Nat.lt_irrefl _))];exact Told.mk trivial
theorem cat_heavy {c:Catalog} (k:Cap 1000 c):Told (zav c) fun _=>True:=by
 have hc:=k.chunks;have hs:=k.snaps;have he:=k.exps;unfold zav;refine Told.if_ (fun _=>Told.mk trivial) fun _=>?_;refine Told.loop (S:=Int) (σ:=Unit) (fun i _=>(i:Int)) c.snaps.length (fun _ _=>True) (i0:=0) (s0:=()) rfl (Nat.zero_le _) trivial (by omega) ?_ ?_
 ·intro rec i _ hi _ hrec;simp only [zav.l6];rw [if_t (lt_t hi),zbv hi,zal,zaz (by omega)];refine (man_heavy (k.snap _ (List.getElem_mem hi)).2).bd fun b _=>?_;rw [zci,zal];exact Told.if_ (fun _=>Told.mk trivial) fun _=>hrec () trivial
 ·intro rec _ _;simp only [zav.l6,zav.k1];rw [if_f (lt_f (Nat.lt_irrefl _))];refine Told.loop (S:=Int) (σ:=Unit) (fun i _=>(i:Int)) c.chunks.length (fun _ _=>True) (i0:=0) (s0:=()) rfl (Nat.zero_le _) trivial (by omega) ?_ ?_
  ·intro rec i _ hi _ hrec;simp only [zav.l5];rw [if_t (lt_t hi),zbv hi,zal,zci,zal,zaz (by omega)];exact Told.if_ (fun _=>Told.mk trivial) fun _=>hrec () trivial
  ·intro rec _ _;simp only [zav.l5,zav.k2];rw [if_f (lt_f (Nat.lt_irrefl _))];refine Told.loop (S:=Int) (σ:=Unit) (fun i _=>(i:Int)) c.exps.length (fun _ _=>True) (i0:=0) (s0:=()) rfl (Nat.zero_le _) trivial (by omega) ?_ ?_
   ·intro rec i _ hi _ hrec;simp only [zav.l4];rw [if_t (lt_t hi),zbv hi,zal,zaz (by omega)];exact Told.if_ (fun _=>Told.mk trivial) fun _=>hrec () trivial
   ·intro rec _ _;simp only [zav.l4,zav.k3];rw [if_f (lt_f (Nat.lt_irrefl _))];exact Told.mk trivial
theorem Cap.small {c:Catalog} (k:Cap 1000 c):zvm c:=by
 have hc:=k.chunks;have hs:=k.snaps;have he:=k.exps;have hv:=k.vols;refine ⟨by omega,⟨by omega,fun x hx=>?_⟩,⟨by omega,fun s hs'=>?_⟩,by omega,fun x hx=>?_⟩
 ·obtain ⟨h1,h2,_⟩:=k.chunk x hx;exact ⟨by omega,by omega⟩
 ·obtain ⟨h1,h2⟩:=k.snap s hs';have:=h2.parts;exact ⟨⟨by omega,fun p hp=>by have:=h2.few p hp;omega⟩,by omega⟩
 ·have:=k.exp x hx;omega
theorem if_rule {α:Type} {b:Bool} {x y z:α} (h1:b=true→x=z) (h2:b=false→y=z):(if b=true then x else y)=z:=by
 cases b with
 | true=>exact h1 rfl
 | false=>exact h2 rfl
theorem part_law {c:Catalog} (h:catB c=true) (k:Cap 1000 c):loop (zah.l8 c (zic c)) (true,0)=some true:=by
 have hsm:=k.small;have hps:=part_small hsm;have hc:=k.chunks;have hs:=k.snaps;have hfp:=part_fine k.fine;have hk2:zah.k2 c (zic c) (c.snaps.all liveS&&c.chunks.all fun x=>liveC x && !x.staged)=some true:=by
  unfold zah.k2;rw [kcat_eq _ _ hps,zal];have e:decide (zwu (zic c) c)=(c.snaps.all liveS&&c.chunks.all fun x=>liveC x && !x.staged):=by
   rw [Bool.eq_iff_iff,decide_eq_true_eq,part_whole h,Bool.and_eq_true]
  rw [e,decide_eq_false (by have:=part_seq h;omega),bne_self_eq_false,Bool.or_self,if_f rfl,ztw _ hfp,zal];refine if_rule ?_ ?_
  ·intro h2;have h2:catB (zic c)=false:=by simpa using h2
   rw [zxx _ hps.1 hps.2.1.1 hps.2.2.1.1 hps.2.2.2.1,zal,h2];simp only [Bool.false_eq_true,if_false];rw [zck (by decide),wakes24,zal];rfl
  ·intro h2;have h2:catB (zic c)=true:=by simpa using h2
   rw [rpart_eq h2,zal,part_part,kcat_eq _ _ hps,zal,decide_eq_true (sameC_refl _),decide_eq_false (show ¬ (zic c).seq≠(zic c).seq from fun q=>q rfl)];simp only [Bool.not_true,Bool.or_self,Bool.not_false];rw [zck rfl,zxx _ hps.1 hps.2.1.1 hps.2.2.1.1 hps.2.2.2.1,zal,if_pos h2,if_f (by decide)];have hsl:(zic c).snaps.length≤c.snaps.length:=List.length_filter_le ..;have hcl:(zic c).chunks.length≤c.chunks.length:=by
    show ((c.chunks.filter liveC).map bareK).length≤_;rw [List.length_map];exact List.length_filter_le ..
   refine zgc (S:=Int) (σ:=Unit) (fun i _=>(i:Int)) (zic c).snaps.length (fun _ _=>True) _ (i0:=0) (s0:=()) rfl (Nat.zero_le _) trivial (by omega) ?_ ?_
   ·intro rec i _ hi _ hrec;simp only [zah.l6];have hx:liveS (zic c).snaps[i]=true:=(List.mem_filter.1 (List.getElem_mem hi)).2;unfold liveS at hx;have hx:=of_decide_eq_true hx;rw [if_t (lt_t hi),zbv hi,zal,zaz (by omega),if_f (decide_eq_false (by omega))];exact hrec () trivial
   ·intro rec _ _;simp only [zah.l6,zah.k3];rw [if_f (lt_f (Nat.lt_irrefl _))];refine zgc (S:=Int) (σ:=Unit) (fun i _=>(i:Int)) (zic c).chunks.length (fun _ _=>True) _ (i0:=0) (s0:=()) rfl (Nat.zero_le _) trivial (by omega) ?_ ?_
    ·intro rec2 i _ hi _ hrec2;simp only [zah.l5];have hx:liveC (zic c).chunks[i]=true∧(zic c).chunks[i].staged=false∧(zic c).chunks[i].data=[]:=by
      obtain ⟨y,hy,e⟩:=List.mem_map.1 (List.getElem_mem hi:(zic c).chunks[i]∈(c.chunks.filter liveC).map bareK);rw [← e];exact ⟨(List.mem_filter.1 hy).2,rfl,rfl⟩
     obtain ⟨hx1,hx2,hx3⟩:=hx;unfold liveC at hx1;have hx1:=of_decide_eq_true hx1;rw [if_t (lt_t hi),zbv hi,zal,zci,zal,zci,zal,zaz (by omega),decide_eq_false (show ¬ ((zic c).chunks[i].locs.length:Int)=0 by omega)];simp only [Bool.not_false,if_true,Bool.false_or,hx2,hx3];exact hrec2 () trivial
    ·intro rec2 _ _;simp only [zah.l5,zah.k4];rw [if_f (lt_f (Nat.lt_irrefl _)),wakes24,zal]
 have hk1:∀ b,b=c.snaps.all liveS→zah.k1 c (zic c) b=some true:=by
  intro b hb;unfold zah.k1;refine zgc (S:=Bool × Int) (σ:=Bool) (fun i b=>(b,(i:Int))) c.chunks.length (fun i b=>b=(c.snaps.all liveS&&(c.chunks.take i).all fun x=>liveC x && !x.staged)) _ (i0:=0) (s0:=b) rfl (Nat.zero_le _) (by rw [hb];simp) (by omega) ?_ ?_
  ·intro rec i b hi hI hrec;simp only [zah.l7];rw [if_t (lt_t hi),zbv hi,zci,zal,zci,zal,zaz (by omega)];refine hrec _ ?_;rw [zdl hi,List.all_append,← Bool.and_assoc,← hI];cases b with
   | false=>simp
   | true =>
    have e:decide ((0:Int) < (c.chunks[i].locs.length:Int))=liveC c.chunks[i]:=by unfold liveC;rw [decide_eq_decide];omega
    simp only [if_true,Bool.true_and,e,List.all_cons,List.all_nil,Bool.and_true];cases liveC c.chunks[i] <;> simp
  ·intro rec b hI;simp only [zah.l7];rw [if_f (lt_f (Nat.lt_irrefl _)),hI,List.take_length];exact hk2
 refine zgc (S:=Bool × Int) (σ:=Bool) (fun i b=>(b,(i:Int))) c.snaps.length (fun i b=>b=(c.snaps.take i).all liveS) _ (i0:=0) (s0:=true) rfl (Nat.zero_le _) (by simp) (by omega) ?_ ?_
 ·intro rec i b hi hI hrec;simp only [zah.l8];rw [if_t (lt_t hi),zbv hi,zci,zal,zaz (by omega)];refine hrec _ ?_;rw [zdl hi,List.all_append,← hI];cases b with
  | false=>simp
  | true =>
   have e:decide ((0:Int) < (c.snaps[i].locs.length:Int))=liveS c.snaps[i]:=by unfold liveS;rw [decide_eq_decide];omega
   simp only [if_true,Bool.true_and,e,List.all_cons,List.all_nil,Bool.and_true]
 ·intro rec b hI;simp only [zah.l8];rw [if_f (lt_f (Nat.lt_irrefl _))];exact hk1 b (by rw [hI,List.take_length])
theorem part_true (x0:List Int) (x1:List Cellarerlaw19Act):zah x0 x1=some true:=by
 unfold zah
 by_cases h30:(30:Int) < (x0.length:Int)
 ·rw [decide_eq_true h30];rfl
 ·rw [decide_eq_false h30];simp only [Bool.not_false,Bool.false_or];rw [zck rfl];obtain ⟨b,hb,hg⟩:=heavy_told x1;rw [hb,zal];cases b with
  | true=>rfl
  | false =>
   rw [if_f rfl];obtain ⟨p,hp,p1,p8,p01⟩:=pools_eq x0 (by omega);rw [hp,zal];obtain ⟨c,hc,c1,c2⟩:=lived_told p p1 p8 p01 x1 (hg rfl);rw [hc,zal];obtain ⟨g,hg2,_⟩:=cat_heavy c2;rw [hg2,zal];cases g with
   | true=>rfl
   | false =>
    rw [if_f rfl,rpart_eq c1,zal];exact part_law c1 c2
end Go.Wk.Lf
end
section
namespace Go.Wk.Lf
open Go.V Go.Proofs
end Go.Wk.Lf
namespace Go.Wk.Lf
open Go.V Go.RowKit Go.ChangeShapes Go.WideShapes Go.Deep
theorem zkf {α:Type} {l:List α} {a b:Nat}:l.drop a=(l.drop a).take b++l.drop (a+b):=by rw [← List.drop_drop,List.take_append_drop]
def File.ok (x:File):Prop:=(fun s:List UInt8=>s.length≤maxLen) x.path∧(okS okT) x.data
theorem opn_File {H:Type} {enc:TypeId × Value→H} {w:World}:Opn enc Go.Proofs.Tryz.prog w 101 File.t File.ok:=by
  intro fuel cs x h ρ hp r hb
  have hu:Go.Proofs.Tryz.prog.underlying 101=some (.struct (Go.Proofs.Tryz.prog.fieldsOf 101)):=by kernel_rfl
  obtain ⟨xs,n,_,rfl,hl,hlen,hf⟩:=DataW.trod_struct hu h
  have hz:Go.Proofs.Tryz.prog.cellsOf 101=2:=by kernel_rfl
  rw [hz] at hl
  have hn:(Go.Proofs.Tryz.prog.fieldsOf 101).size=2:=by kernel_rfl
  rw [hn] at hlen
  have e0:∃ fd,(Go.Proofs.Tryz.prog.fieldsOf 101)[0]? = some fd∧fd.type=9∧fd.offset=0:=⟨(Go.Proofs.Tryz.prog.fieldsOf 101)[0]!,by kernel_rfl,by kernel_rfl,by kernel_rfl⟩
  obtain ⟨fd0,ea0,eb0,ec0⟩:=e0
  have g0:=hf 0 fd0 ea0
  rw [eb0,ec0,show Go.Proofs.Tryz.prog.cellsOf 9=1 from by kernel_rfl,List.getElem?_eq_getElem (show 0 < xs.length by omega)] at g0
  obtain ⟨ρ0,h0,vs0,a0,r0,b0,l0,f0,v0,t0,k0⟩:=(opn_str Go.Proofs.Tryz.underlying9) _ _ _ g0 _ _ r hb
  have e1:∃ fd,(Go.Proofs.Tryz.prog.fieldsOf 101)[1]? = some fd∧fd.type=47∧fd.offset=1:=⟨(Go.Proofs.Tryz.prog.fieldsOf 101)[1]!,by kernel_rfl,by kernel_rfl,by kernel_rfl⟩
  obtain ⟨fd1,ea1,eb1,ec1⟩:=e1
  have g1:=hf 1 fd1 ea1
  rw [eb1,ec1,show Go.Proofs.Tryz.prog.cellsOf 47=1 from by kernel_rfl,List.getElem?_eq_getElem (show 1 < xs.length by omega)] at g1
  obtain ⟨ρ1,h1,vs1,a1,r1,b1,l1,f1,v1,t1,k1⟩:=(zlx Go.Proofs.Tryz.underlying47 (by kernel_rfl) (opn_u8 Go.Proofs.Tryz.underlying5)) _ _ _ g1 _ _ r0 b0
  have hcs:cs=(cs.drop 0).take 1++(cs.drop 1).take 1:=by
    have h0:cs=cs.drop 0:=(List.drop_zero).symm
    have j0:cs.drop 0=(cs.drop 0).take 1++cs.drop 1:=zkf
    have j1:cs.drop 1=(cs.drop 1).take 1++cs.drop 2:=zkf
    have jn:cs.drop 2=[]:=List.drop_eq_nil_of_le (by omega)
    conv=>lhs;rw [h0,j0,j1,jn]
    simp only [List.append_nil]
  have q0:vs0=_:=(tS.mono f1 t0)
  subst q0
  obtain ⟨u1,q1,s1⟩:=t1
  subst q1
  rw [hcs]
  exact ⟨_,h1,_,File.mk a0 a1,r1,b1,(l0.trans l1),(f0.trans f1),((v0.mono l1).append v1),⟨u1,rfl,s1⟩,⟨k0,k1⟩⟩
def Cellarerlaw19Act.ok (x:Cellarerlaw19Act):Prop:=okI x.do_∧okI x.n∧okI x.vol∧(okS File.ok) x.tree∧(okS okT) x.pick
theorem zor {H:Type} {enc:TypeId × Value→H} {w:World}:Opn enc Go.Proofs.Tryz.prog w 84 Cellarerlaw19Act.t Cellarerlaw19Act.ok:=by
  intro fuel cs x h ρ hp r hb
  have hu:Go.Proofs.Tryz.prog.underlying 84=some (.struct (Go.Proofs.Tryz.prog.fieldsOf 84)):=by kernel_rfl
  obtain ⟨xs,n,_,rfl,hl,hlen,hf⟩:=DataW.trod_struct hu h
  have hz:Go.Proofs.Tryz.prog.cellsOf 84=5:=by kernel_rfl
  rw [hz] at hl
  have hn:(Go.Proofs.Tryz.prog.fieldsOf 84).size=5:=by kernel_rfl
  rw [hn] at hlen
  have e0:∃ fd,(Go.Proofs.Tryz.prog.fieldsOf 84)[0]? = some fd∧fd.type=3∧fd.offset=0:=⟨(Go.Proofs.Tryz.prog.fieldsOf 84)[0]!,by kernel_rfl,by kernel_rfl,by kernel_rfl⟩
  obtain ⟨fd0,ea0,eb0,ec0⟩:=e0
  have g0:=hf 0 fd0 ea0
  rw [eb0,ec0,show Go.Proofs.Tryz.prog.cellsOf 3=1 from by kernel_rfl,List.getElem?_eq_getElem (show 0 < xs.length by omega)] at g0
  obtain ⟨ρ0,h0,vs0,a0,r0,b0,l0,f0,v0,t0,k0⟩:=(zua Go.Proofs.Tryz.underlying3) _ _ _ g0 _ _ r hb
  have e1:∃ fd,(Go.Proofs.Tryz.prog.fieldsOf 84)[1]? = some fd∧fd.type=3∧fd.offset=1:=⟨(Go.Proofs.Tryz.prog.fieldsOf 84)[1]!,by kernel_rfl,by kernel_rfl,by kernel_rfl⟩
  obtain ⟨fd1,ea1,eb1,ec1⟩:=e1
  have g1:=hf 1 fd1 ea1
  rw [eb1,ec1,show Go.Proofs.Tryz.prog.cellsOf 3=1 from by kernel_rfl,List.getElem?_eq_getElem (show 1 < xs.length by omega)] at g1
  obtain ⟨ρ1,h1,vs1,a1,r1,b1,l1,f1,v1,t1,k1⟩:=(zua Go.Proofs.Tryz.underlying3) _ _ _ g1 _ _ r0 b0
  have e2:∃ fd,(Go.Proofs.Tryz.prog.fieldsOf 84)[2]? = some fd∧fd.type=3∧fd.offset=2:=⟨(Go.Proofs.Tryz.prog.fieldsOf 84)[2]!,by kernel_rfl,by kernel_rfl,by kernel_rfl⟩
  obtain ⟨fd2,ea2,eb2,ec2⟩:=e2
  have g2:=hf 2 fd2 ea2
  rw [eb2,ec2,show Go.Proofs.Tryz.prog.cellsOf 3=1 from by kernel_rfl,List.getElem?_eq_getElem (show 2 < xs.length by omega)] at g2
  obtain ⟨ρ2,h2,vs2,a2,r2,b2,l2,f2,v2,t2,k2⟩:=(zua Go.Proofs.Tryz.underlying3) _ _ _ g2 _ _ r1 b1
  have e3:∃ fd,(Go.Proofs.Tryz.prog.fieldsOf 84)[3]? = some fd∧fd.type=22∧fd.offset=3:=⟨(Go.Proofs.Tryz.prog.fieldsOf 84)[3]!,by kernel_rfl,by kernel_rfl,by kernel_rfl⟩
  obtain ⟨fd3,ea3,eb3,ec3⟩:=e3
  have g3:=hf 3 fd3 ea3
  rw [eb3,ec3,show Go.Proofs.Tryz.prog.cellsOf 22=1 from by kernel_rfl,List.getElem?_eq_getElem (show 3 < xs.length by omega)] at g3
  obtain ⟨ρ3,h3,vs3,a3,r3,b3,l3,f3,v3,t3,k3⟩:=(zlx Go.Proofs.Tryz.underlying22 (by kernel_rfl) opn_File) _ _ _ g3 _ _ r2 b2
  have e4:∃ fd,(Go.Proofs.Tryz.prog.fieldsOf 84)[4]? = some fd∧fd.type=82∧fd.offset=4:=⟨(Go.Proofs.Tryz.prog.fieldsOf 84)[4]!,by kernel_rfl,by kernel_rfl,by kernel_rfl⟩
  obtain ⟨fd4,ea4,eb4,ec4⟩:=e4
  have g4:=hf 4 fd4 ea4
  rw [eb4,ec4,show Go.Proofs.Tryz.prog.cellsOf 82=1 from by kernel_rfl,List.getElem?_eq_getElem (show 4 < xs.length by omega)] at g4
  obtain ⟨ρ4,h4,vs4,a4,r4,b4,l4,f4,v4,t4,k4⟩:=(zlx Go.Proofs.Tryz.underlying82 (by kernel_rfl) (opn_bool Go.Proofs.Tryz.underlying4)) _ _ _ g4 _ _ r3 b3
  have hcs:cs=(cs.drop 0).take 1++(cs.drop 1).take 1++(cs.drop 2).take 1++(cs.drop 3).take 1++(cs.drop 4).take 1:=by
    have h0:cs=cs.drop 0:=(List.drop_zero).symm
    have j0:cs.drop 0=(cs.drop 0).take 1++cs.drop 1:=zkf
    have j1:cs.drop 1=(cs.drop 1).take 1++cs.drop 2:=zkf
    have j2:cs.drop 2=(cs.drop 2).take 1++cs.drop 3:=zkf
    have j3:cs.drop 3=(cs.drop 3).take 1++cs.drop 4:=zkf
    have j4:cs.drop 4=(cs.drop 4).take 1++cs.drop 5:=zkf
    have jn:cs.drop 5=[]:=List.drop_eq_nil_of_le (by omega)
    conv=>lhs;rw [h0,j0,j1,j2,j3,j4,jn]
    simp only [List.append_nil,List.append_assoc]
  have q0:vs0=_:=(tI.mono (f1.trans (f2.trans (f3.trans f4))) t0)
  subst q0
  have q1:vs1=_:=(tI.mono (f2.trans (f3.trans f4)) t1)
  subst q1
  have q2:vs2=_:=(tI.mono (f3.trans f4) t2)
  subst q2
  obtain ⟨u3,q3,s3⟩:=((tSl File.t).mono f4 t3)
  subst q3
  obtain ⟨u4,q4,s4⟩:=t4
  subst q4
  rw [hcs]
  exact ⟨_,h4,_,Cellarerlaw19Act.mk a0 a1 a2 a3 a4,r4,b4,(l0.trans (l1.trans (l2.trans (l3.trans l4)))),(f0.trans (f1.trans (f2.trans (f3.trans f4)))),(((((v0.mono (l1.trans (l2.trans (l3.trans l4)))).append (v1.mono (l2.trans (l3.trans l4)))).append (v2.mono (l3.trans l4))).append (v3.mono l4)).append v4),⟨u3,u4,rfl,s3,s4⟩,⟨k0,k1,k2,k3,k4⟩⟩
end Go.Wk.Lf
end
section
namespace Go.Wk.Lf
open Go.V
theorem part_law24 (x0:List Int) (x1:List Cellarerlaw19Act) (k0:okS okI x0) (k1:okS Cellarerlaw19Act.ok x1):zah x0 x1=some true:=part_true x0 x1
end Go.Wk.Lf
end
section
namespace Go.Wk.Lf
open Go.V Go.Proofs
end Go.Wk.Lf
namespace Go.Proofs
open Go.Shelf
def Tryz.sortLoc_ren:Go.Shelf.Ren:=⟨fun | 6=>99 | 15=>151 | 14=>150 | 28=>179 | 29=>180 | 20=>171 | 21=>172 | 22=>173 | 23=>174 | 24=>175 | 25=>176 | 26=>177 | 27=>178 | 46=>186 | 47=>187 | 48=>188 | 49=>189 | 50=>190 | 57=>199 | n=>n,fun | 22=>44 | 24=>51 | 25=>162 | 3=>3 | 39=>26 | 0=>0 | 53=>169 | 55=>194 | 4=>4 | 46=>229 | 45=>228 | 50=>146 | 5=>5 | 9=>9 | 66=>240 | 70=>244 | 76=>251 | 77=>252 | n=>n,fun | n=>n⟩
theorem Tryz.sortLoc:Go.Proofs.SlLaysF0.n6 Tryz.prog Tryz.sortLoc_ren:={
  mixed:=by kernel_rfl
  f6:=⟨Tryz.f99.name,by decide,Tryz.func99.trans (congrArg some (by kernel_rfl))⟩
  f14:=⟨Tryz.f150.name,by decide,Tryz.func150.trans (congrArg some (by kernel_rfl))⟩
  f15:=Tryz.func151.trans (congrArg some (by kernel_rfl))
  f20:=⟨Tryz.f171.name,by decide,Tryz.func171.trans (congrArg some (by kernel_rfl))⟩
  f21:=⟨Tryz.f172.name,by decide,Tryz.func172.trans (congrArg some (by kernel_rfl))⟩
  f22:=⟨Tryz.f173.name,by decide,Tryz.func173.trans (congrArg some (by kernel_rfl))⟩
  f23:=⟨Tryz.f174.name,by decide,Tryz.func174.trans (congrArg some (by kernel_rfl))⟩
  f24:=⟨Tryz.f175.name,by decide,Tryz.func175.trans (congrArg some (by kernel_rfl))⟩
  f25:=⟨Tryz.f176.name,by decide,Tryz.func176.trans (congrArg some (by kernel_rfl))⟩
  f26:=⟨Tryz.f177.name,by decide,Tryz.func177.trans (congrArg some (by kernel_rfl))⟩
  f27:=⟨Tryz.f178.name,by decide,Tryz.func178.trans (congrArg some (by kernel_rfl))⟩
  f28:=Tryz.func179.trans (congrArg some (by kernel_rfl))
  f29:=Tryz.func180.trans (congrArg some (by kernel_rfl))
  f46:=⟨Tryz.f186.name,by decide,Tryz.func186.trans (congrArg some (by kernel_rfl))⟩
  f47:=Tryz.func187.trans (congrArg some (by kernel_rfl))
  f48:=Tryz.func188.trans (congrArg some (by kernel_rfl))
  f49:=⟨Tryz.f189.name,by decide,Tryz.func189.trans (congrArg some (by kernel_rfl))⟩
  f50:=⟨Tryz.f190.name,by decide,Tryz.func190.trans (congrArg some (by kernel_rfl))⟩
  f57:=⟨Tryz.f199.name,by decide,Tryz.func199.trans (congrArg some (by kernel_rfl))⟩
  t0:=Tryz.underlying0
  a0:=Tryz.isAgg0
  z0:=Tryz.sizeOf0
  v0:=Tryz.zeroValue0
  t3:=Tryz.underlying3
  a3:=Tryz.isAgg3
  z3:=Tryz.sizeOf3
  v3:=Tryz.zeroValue3
  t4:=Tryz.underlying4
  a4:=Tryz.isAgg4
  z4:=Tryz.sizeOf4
  v4:=Tryz.zeroValue4
  t5:=Tryz.underlying5
  a5:=Tryz.isAgg5
  z5:=Tryz.sizeOf5
  v5:=Tryz.zeroValue5
  t9:=Tryz.underlying9
  a9:=Tryz.isAgg9
  z9:=Tryz.sizeOf9
  v9:=Tryz.zeroValue9
  t22:=Tryz.underlying44
  a22:=Tryz.isAgg44
  z22:=Tryz.sizeOf44
  v22:=Tryz.zeroValue44
  t25:=Tryz.underlying162
  a25:=Tryz.isAgg162
  z25:=Tryz.sizeOf162
  v25:=Tryz.zeroValue162
  t39:=Tryz.underlying26
  a39:=Tryz.isAgg26
  z39:=Tryz.sizeOf26
  v39:=Tryz.zeroValue26
  t45:=Tryz.underlying228
  a45:=Tryz.isAgg228
  z45:=Tryz.sizeOf228
  v45:=Tryz.zeroValue228
  t46:=Tryz.underlying229
  a46:=Tryz.isAgg229
  z46:=Tryz.sizeOf229
  v46:=Tryz.zeroValue229
  t50:=Tryz.underlying146
  a50:=Tryz.isAgg146
  z50:=Tryz.sizeOf146
  v50:=Tryz.zeroValue146
  t53:=Tryz.underlying169
  a53:=Tryz.isAgg169
  z53:=Tryz.sizeOf169
  v53:=Tryz.zeroValue169
  t55:=Tryz.underlying194
  a55:=Tryz.isAgg194
  z55:=Tryz.sizeOf194
  v55:=Tryz.zeroValue194
  t66:=Tryz.underlying240
  a66:=Tryz.isAgg240
  z66:=Tryz.sizeOf240
  v66:=Tryz.zeroValue240
  t70:=Tryz.underlying244
  a70:=Tryz.isAgg244
  z70:=Tryz.sizeOf244
  v70:=Tryz.zeroValue244
  t76:=Tryz.underlying251
  a76:=Tryz.isAgg251
  z76:=Tryz.sizeOf251
  v76:=Tryz.zeroValue251
  t77:=Tryz.underlying252
  a77:=Tryz.isAgg252
  z77:=Tryz.sizeOf252
  v77:=Tryz.zeroValue252 }
def Tryz.sortIds_ren:Go.Shelf.Ren:=⟨fun | 6=>168 | 15=>151 | 14=>185 | 28=>179 | 29=>180 | 20=>191 | 21=>192 | 22=>193 | 23=>194 | 24=>195 | 25=>196 | 26=>197 | 27=>198 | 46=>200 | 47=>187 | 48=>188 | 49=>201 | 50=>202 | 57=>203 | n=>n,fun | 22=>118 | 24=>58 | 25=>187 | 3=>3 | 39=>26 | 0=>0 | 53=>169 | 55=>194 | 4=>4 | 46=>229 | 45=>228 | 50=>146 | 5=>5 | 9=>9 | 66=>240 | 70=>244 | 76=>251 | 77=>252 | n=>n,fun | n=>n⟩
theorem Tryz.sortIds:Go.Proofs.SlLaysF0.n6 Tryz.prog Tryz.sortIds_ren:={
  mixed:=by kernel_rfl
  f6:=⟨Tryz.f168.name,by decide,Tryz.func168.trans (congrArg some (by kernel_rfl))⟩
  f14:=⟨Tryz.f185.name,by decide,Tryz.func185.trans (congrArg some (by kernel_rfl))⟩
  f15:=Tryz.func151.trans (congrArg some (by kernel_rfl))
  f20:=⟨Tryz.f191.name,by decide,Tryz.func191.trans (congrArg some (by kernel_rfl))⟩
  f21:=⟨Tryz.f192.name,by decide,Tryz.func192.trans (congrArg some (by kernel_rfl))⟩
  f22:=⟨Tryz.f193.name,by decide,Tryz.func193.trans (congrArg some (by kernel_rfl))⟩
  f23:=⟨Tryz.f194.name,by decide,Tryz.func194.trans (congrArg some (by kernel_rfl))⟩
  f24:=⟨Tryz.f195.name,by decide,Tryz.func195.trans (congrArg some (by kernel_rfl))⟩
  f25:=⟨Tryz.f196.name,by decide,Tryz.func196.trans (congrArg some (by kernel_rfl))⟩
  f26:=⟨Tryz.f197.name,by decide,Tryz.func197.trans (congrArg some (by kernel_rfl))⟩
  f27:=⟨Tryz.f198.name,by decide,Tryz.func198.trans (congrArg some (by kernel_rfl))⟩
  f28:=Tryz.func179.trans (congrArg some (by kernel_rfl))
  f29:=Tryz.func180.trans (congrArg some (by kernel_rfl))
  f46:=⟨Tryz.f200.name,by decide,Tryz.func200.trans (congrArg some (by kernel_rfl))⟩
  f47:=Tryz.func187.trans (congrArg some (by kernel_rfl))
  f48:=Tryz.func188.trans (congrArg some (by kernel_rfl))
  f49:=⟨Tryz.f201.name,by decide,Tryz.func201.trans (congrArg some (by kernel_rfl))⟩
  f50:=⟨Tryz.f202.name,by decide,Tryz.func202.trans (congrArg some (by kernel_rfl))⟩
  f57:=⟨Tryz.f203.name,by decide,Tryz.func203.trans (congrArg some (by kernel_rfl))⟩
  t0:=Tryz.underlying0
  a0:=Tryz.isAgg0
  z0:=Tryz.sizeOf0
  v0:=Tryz.zeroValue0
  t3:=Tryz.underlying3
  a3:=Tryz.isAgg3
  z3:=Tryz.sizeOf3
  v3:=Tryz.zeroValue3
  t4:=Tryz.underlying4
  a4:=Tryz.isAgg4
  z4:=Tryz.sizeOf4
  v4:=Tryz.zeroValue4
  t5:=Tryz.underlying5
  a5:=Tryz.isAgg5
  z5:=Tryz.sizeOf5
  v5:=Tryz.zeroValue5
  t9:=Tryz.underlying9
  a9:=Tryz.isAgg9
  z9:=Tryz.sizeOf9
  v9:=Tryz.zeroValue9
  t22:=Tryz.underlying118
  a22:=Tryz.isAgg118
  z22:=Tryz.sizeOf118
  v22:=Tryz.zeroValue118
  t25:=Tryz.underlying187
  a25:=Tryz.isAgg187
  z25:=Tryz.sizeOf187
  v25:=Tryz.zeroValue187
  t39:=Tryz.underlying26
  a39:=Tryz.isAgg26
  z39:=Tryz.sizeOf26
  v39:=Tryz.zeroValue26
  t45:=Tryz.underlying228
  a45:=Tryz.isAgg228
  z45:=Tryz.sizeOf228
  v45:=Tryz.zeroValue228
  t46:=Tryz.underlying229
  a46:=Tryz.isAgg229
  z46:=Tryz.sizeOf229
  v46:=Tryz.zeroValue229
  t50:=Tryz.underlying146
  a50:=Tryz.isAgg146
  z50:=Tryz.sizeOf146
  v50:=Tryz.zeroValue146
  t53:=Tryz.underlying169
  a53:=Tryz.isAgg169
  z53:=Tryz.sizeOf169
  v53:=Tryz.zeroValue169
  t55:=Tryz.underlying194
  a55:=Tryz.isAgg194
  z55:=Tryz.sizeOf194
  v55:=Tryz.zeroValue194
  t66:=Tryz.underlying240
  a66:=Tryz.isAgg240
  z66:=Tryz.sizeOf240
  v66:=Tryz.zeroValue240
  t70:=Tryz.underlying244
  a70:=Tryz.isAgg244
  z70:=Tryz.sizeOf244
  v70:=Tryz.zeroValue244
  t76:=Tryz.underlying251
  a76:=Tryz.isAgg251
  z76:=Tryz.sizeOf251
  v76:=Tryz.zeroValue251
  t77:=Tryz.underlying252
  a77:=Tryz.isAgg252
  z77:=Tryz.sizeOf252
  v77:=Tryz.zeroValue252 }
end Go.Proofs
namespace Go.Wk.Lf
open Go.V Go.Proofs
theorem kk_ok:KOk Tryz.prog KK :=
  Tb.or (KSort_ok (ff:=Tryz.f99) KNone_ok Tryz.sortLoc rfl Tryz.isAgg51 Tryz.sizeOf51 Tryz.func99 rfl (by decide)) (Tb.or (KSort_ok (ff:=Tryz.f168) KExt_ok Tryz.sortIds rfl Tryz.isAgg58 Tryz.sizeOf58 Tryz.func168 rfl (by decide)) (Tb.or KExt_ok (Tb.or zyh (Tb.or (zvd zyh) (Tb.or (zvd zyh) (zvd zyh))))))
end Go.Wk.Lf
end
