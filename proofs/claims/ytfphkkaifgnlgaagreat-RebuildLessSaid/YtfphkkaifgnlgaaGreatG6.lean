/- What manifest.Check tells, plainly; bytes of manifests. Lists: each once of what stands side by side. What manifest.Ids tells, plainly. Numbers read out of bytes; readers, plainly. What manifest.Read tells, plainly. What catalog.Check tells, plainly. Where something stands, or should, in a row that rises: slices.BinarySearchFunc, plainly. catalog.Check, plainly, whole. Catalogs compared, made anew; rows sorted: plainly. Manifests' bytes: of unlike ones unlike, none a beginning of another's. What rebuild.From tells where nothing of use was found; what is Part of a new catalog. The sums of a chunk: both of the program's are one plain function. The sums of a chunk: the reference's words; blocks; what lies behind the bytes. What the page's bytes and ids of manifests are, plainly. Trees of files: names, order; the page's Sort and Tree, plainly. The page's chunks, plainly. The page's Build, plainly: what a tree's manifest and chunks are. What rebuild.From tells, plainly: records noted one by one; what is told at last. A chunk that was found: by evaluation. Chunks found in order of their sums; what of a tree stands on a tape; catalogs that are right. RebuildLess, plainly. RebuildLess, plainly: the law. RebuildLess: what is known of the arguments is enough. -/
import Derived.Test.YtfphkkaifgnlgaaGreatG5
set_option linter.unusedVariables false
set_option linter.unusedSimpArgs false
section
namespace Go.Wk.Lf
open Go.V Go.Sort Go.Proofs
def zse (p:Part):Bool:=(((zjf p.path && decide (0 ≤ p.size)) && decide (p.size ≤ 200)) && decide (p.ids.length ≤ 25)) && (decide (p.ids.length = 0) == decide (p.size = 0))
theorem part_eq (p:Part):ziv p = some (zse p):=by
 unfold ziv zse;rw [name_eq,zav];have h1:decide ((p.ids.length:Int) ≤ 25) = decide (p.ids.length ≤ 25):=by rw [decide_eq_decide]; omega
 have h2:decide ((p.ids.length:Int) = 0) = decide (p.ids.length = 0):=by rw [decide_eq_decide]; omega
 rw [h1,h2]
theorem zoh {α:Type} (R:α → α → Prop) (ht:∀ {a b c},R a b → R b c → R a c) (l:List α):l.Pairwise R ↔ ∀ i (h:i < l.length),0 < i → R (l[i - 1]'(by omega)) l[i]:=by
 constructor
 ·intro h i hi h0;exact List.pairwise_iff_getElem.1 h (i - 1) i (by omega) hi (by omega)
 ·intro h;rw [List.pairwise_iff_getElem];intro i j hi hj hij
  induction j with
  | zero=>omega
  | succ j ih =>
   have h1:=h (j + 1) hj (by omega);rcases (by omega:i = j ∨ i < j) with rfl | h2
   ·exact h1
   ·exact ht (ih (by omega) h2) h1
def ztn (l:List Part):Prop:=l.Pairwise fun a b=>sLt a.path b.path = true
instance (l : List Part) : Decidable (ztn l) := by unfold ztn; infer_instance
def manB (m:Manifest):Prop:=zjf m.name = true ∧ m.parts.length ≤ 6 ∧ (m.parts.all zse) = true ∧ ztn m.parts
instance (m : Manifest) : Decidable (manB m) := by unfold manB; infer_instance
theorem adj_iff (l:List Part) (q:Part → Bool):(∀ i,i < l.length → (q (l.getD i default) && (!decide (0 < i) || sLt (l.getD (i - 1) default).path (l.getD i default).path)) = true) ↔ (l.all q = true ∧ ztn l):=by
 constructor
 ·intro h;refine ⟨?_,(zoh (fun a b:Part=>sLt a.path b.path = true) (fun h1 h2=>zib h1 h2) l).2 fun i hi h0=>?_⟩
  ·rw [List.all_eq_true];intro x hx;obtain ⟨j,hj,rfl⟩:=List.getElem_of_mem hx;have h1:=h j hj;simp only [List.getD_eq_getElem?_getD,List.getElem?_eq_getElem hj,Option.getD_some,Bool.and_eq_true] at h1;exact h1.1
  ·have h1:=h i hi;have hi':i - 1 < l.length:=by omega
   simp only [List.getD_eq_getElem?_getD,List.getElem?_eq_getElem hi,List.getElem?_eq_getElem hi',Option.getD_some,Bool.and_eq_true,h0,decide_true,Bool.not_true,Bool.false_or] at h1;exact h1.2
 ·rintro ⟨h1,h2⟩ i hi;rw [List.all_eq_true] at h1;have h3:=h1 _ (List.getElem_mem hi);simp only [List.getD_eq_getElem?_getD,List.getElem?_eq_getElem hi,Option.getD_some,h3,Bool.true_and]
  by_cases h0:0 < i
  ·have hi':i - 1 < l.length:=by omega
   simp only [List.getElem?_eq_getElem hi',Option.getD_some,h0,decide_true,Bool.not_true,Bool.false_or];exact (zoh (fun a b:Part=>sLt a.path b.path = true) (fun h1 h2=>zib h1 h2) l).1 h2 i hi h0
  ·simp [h0]
theorem test_eq (l:List Part) (i:Nat) (hi:i < l.length) (hl:l.length < 1000000000) (N:Bool) {β:Type} (K:Part → Option β) :
  (bd (only ((!(!N)) && decide (0 < (i:Int))) (ix l (wr ((i:Int) - 1))) (Part.mk [] 0 [])) K) = if N = true ∧ 0 < i then K (l.getD (i - 1) default) else K (Part.mk [] 0 []):=by
 cases N with
 | false=>rw [zhf (by simp),zav]; simp
 | true =>
  by_cases h0:0 < i
  ·have hi':i - 1 < l.length:=by omega
   rw [zbo (by simp; omega),znh h0 (by omega),zfc hi',zav,if_pos ⟨rfl,h0⟩];simp [List.getD_eq_getElem?_getD,List.getElem?_eq_getElem hi']
  ·rw [zhf (by simp; omega),zav,if_neg (by omega)]
theorem mcheck_eq (m:Manifest):zcq m = some (if manB m then 0 else 1):=by
 unfold zcq;rw [name_eq,zav]
 by_cases h0:zjf m.name = true ∧ m.parts.length ≤ 6
 ·obtain ⟨hn,h6⟩:=h0;rw [if_neg (by simp only [hn]; simp; omega)];rw [zom (x0:=(0:Int)) (fun i=>(i:Int)) m.parts.length (fun i=>zse (m.parts.getD i default) && (!decide (0 < i) || sLt (m.parts.getD (i - 1) default).path (m.parts.getD i default).path)) (some 0) (some 1) rfl (by omega) ?_ ?_]
  ·have hiff:=adj_iff m.parts zse
   by_cases h:m.parts.all zse = true ∧ ztn m.parts
   ·rw [if_pos (hiff.2 h),if_pos (show manB m from ⟨hn,h6,h.1,h.2⟩)]
   ·rw [if_neg fun h2=>h (hiff.1 h2),if_neg fun h2:manB m=>h ⟨h2.2.2.1,h2.2.2.2⟩]
  ·intro rec i hi;simp only [zcq.l2];rw [if_t (lt_t hi),zfc hi,zav,part_eq,zav,test_eq m.parts i hi (by omega)];simp only [List.getD_eq_getElem?_getD,List.getElem?_eq_getElem hi,Option.getD_some];cases hN:zse m.parts[i] with
   | false=>simp
   | true =>
    by_cases h0:0 < i
    ·have hi':i - 1 < m.parts.length:=by omega
     have h0':(0:Int) < (i:Int):=by omega
     simp only [h0,h0',and_self,if_true,List.getElem?_eq_getElem hi',Option.getD_some,decide_true,Bool.not_true,Bool.false_or,Bool.true_and,zcf (show i < 4611686018427387904 by omega)];have hg:=gtr_eq m.parts[i].path m.parts[i - 1].path;cases hc:(sLt m.parts[i].path m.parts[i - 1].path || m.parts[i].path == m.parts[i - 1].path) with
     | true=>rw [hc] at hg; rw [← hg]; rfl
     | false=>rw [hc] at hg; rw [← hg]; rfl
    ·have h0':¬ (0:Int) < (i:Int):=by omega
     simp [h0,h0',zcf (show i < 4611686018427387904 by omega)]
  ·intro rec;simp only [zcq.l2,zcq.k1];rw [if_f (lt_f (Nat.lt_irrefl _))]
 ·rw [if_pos (by
   simp only [Bool.or_eq_true,decide_eq_true_eq,Bool.not_eq_true'];cases hn:zjf m.name with
   | false=>exact .inl rfl
   | true =>
    rcases Nat.lt_or_ge 6 m.parts.length with h6 | h6
    ·right; omega
    ·exact absurd ⟨hn,h6⟩ h0),if_neg fun h:manB m=>h0 ⟨h.1,h.2.1⟩]
def be2 (n:Int):List UInt8:=[toB8 (n / 256),toB8 n]
def zdl (p:Part):List UInt8:=([toB8 (p.path.length:Int)] ++ p.path ++ be2 p.size ++ [toB8 (p.ids.length:Int)]) ++ p.ids.flatten
def zhg (m:Manifest):List UInt8:=([toB8 (m.name.length:Int)] ++ m.name ++ [toB8 (m.parts.length:Int)]) ++ m.parts.flatMap zdl
def okId (m:Manifest):Prop:=∀ p ∈ m.parts,∀ x ∈ p.ids,x.length = 32
theorem zrc:∀ (l:List (List UInt8)),(∀ x ∈ l,x.length = 32) → l.flatten.length = 32 * l.length
 | [],_=>rfl
 | x :: l,h=>by
  have h1:=h x (by simp);have h2:=zrc l fun y hy=>h y (by simp [hy]);simp only [List.flatten_cons,List.length_append,List.length_cons,h1,h2]; omega
theorem zkq {s:List UInt8} (h:zjf s = true):1 ≤ s.length ∧ s.length ≤ 20:=by
 simp only [zjf,Bool.and_eq_true,decide_eq_true_eq] at h; exact h.1
theorem zlz {p:Part} (h:zse p = true):zjf p.path = true ∧ 0 ≤ p.size ∧ p.size ≤ 200 ∧ p.ids.length ≤ 25 ∧ (p.ids.length = 0 ↔ p.size = 0):=by
 simp only [zse,Bool.and_eq_true,decide_eq_true_eq] at h;obtain ⟨⟨⟨⟨h1,h2⟩,h3⟩,h4⟩,h5⟩:=h;refine ⟨h1,h2,h3,h4,?_⟩;rw [beq_iff_eq,decide_eq_decide] at h5; exact h5
theorem zqc {p:Part} (h:∀ x ∈ p.ids,x.length = 32):(zdl p).length = 4 + p.path.length + 32 * p.ids.length:=by
 simp only [zdl,be2,List.length_append,List.length_cons,List.length_nil,zrc p.ids h]; omega
theorem zpd:∀ (l:List Part),(∀ p ∈ l,∀ x ∈ p.ids,x.length = 32) → (∀ p ∈ l,p.path.length ≤ 20 ∧ p.ids.length ≤ 25) → (l.flatMap zdl).length ≤ 824 * l.length
 | [],_,_=>by simp
 | p :: l,h,h2=>by
  have h3:=zpd l (fun q hq=>h q (by simp [hq])) fun q hq=>h2 q (by simp [hq]);have h4:=zqc (h p (by simp));have h5:=h2 p (by simp);simp only [List.flatMap_cons,List.length_append,List.length_cons,h4]; omega
theorem zik {m:Manifest} (h:manB m):∀ p ∈ m.parts,zse p = true:=by
 have:=h.2.2.1; rwa [List.all_eq_true] at this
theorem zle {m:Manifest} (h:manB m) (hk:okId m):(zhg m).length ≤ 5000:=by
 have h1:=zpd m.parts hk fun p hp=>by
  have h2:=zlz (zik h p hp); have h3:=zkq h2.1; exact ⟨h3.2,h2.2.2.2.1⟩
 have h2:=zkq h.1;have h3:=h.2.1;simp only [zhg,List.length_append,List.length_cons,List.length_nil]; omega
end Go.Wk.Lf
end
section
namespace Go.Wk
section
variable {α:Type} [DecidableEq α]
def cstep (acc:List α) (y:α):List α:=if acc.getLast? = some y then acc else acc ++ [y]
def zgd (l:List α):List α:=l.foldl cstep []
theorem zkg (l:List α) (y:α):zgd (l ++ [y]) = cstep (zgd l) y:=by simp [zgd]
theorem zst {β:Type} {p:List β → Prop} (h0:p []) (h1:∀ l y,p l → p (l ++ [y])):∀ l,p l:=by
 intro l;have:∀ r:List β,p r.reverse:=by
  intro r
  induction r with
  | nil=>exact h0
  | cons x r ih=>rw [List.reverse_cons]; exact h1 _ _ ih
 have:=this l.reverse
 rwa [List.reverse_reverse] at this
theorem last_cstep (acc:List α) (y:α):(cstep acc y).getLast? = some y:=by
 unfold cstep
 split
 ·assumption
 ·simp
theorem zqi (l:List α):(zgd l).getLast? = l.getLast?:=by
 refine zst (p:=fun l=>(zgd l).getLast? = l.getLast?) rfl (fun l y _=>?_) l;rw [zkg,last_cstep]; simp
theorem ztf {β:Type} {l:List β} {j:Nat} {e:β} (h:l[j]? = some e):l.take (j + 1) = l.take j ++ [e]:=by
 obtain ⟨h1,h2⟩:=List.getElem?_eq_some_iff.1 h;rw [List.take_succ_eq_append_getElem h1,h2]
theorem last_take {β:Type} {l:List β} {j:Nat} {e:β} (h:l[j]? = some e):(l.take (j + 1)).getLast? = some e:=by
 rw [ztf h]; simp
theorem zro (l:List α) (h:l.length < 2):zgd l = l:=by
 match l,h with
 | [],_=>rfl
 | [x],_=>rfl
theorem zrp (l:List α):(zgd l).length ≤ l.length:=by
 refine zst (p:=fun l=>(zgd l).length ≤ l.length) (Nat.le_refl _) (fun l y ih=>?_) l;rw [zkg];unfold cstep
 split
 ·simp; omega
 ·simp; omega
theorem zqp {l:List α} {j:Nat} {a b:α} (ha:l[j]? = some a) (hb:l[j + 1]? = some b):zgd (l.take (j + 2)) = if a = b then zgd (l.take (j + 1)) else zgd (l.take (j + 1)) ++ [b]:=by
 rw [show j + 2 = (j + 1) + 1 from rfl,ztf hb,zkg];unfold cstep;rw [zqi,last_take ha]
 by_cases h:a = b
 ·rw [if_pos (by rw [h]),if_pos h]
 ·rw [if_neg (by simpa using h),if_neg h]
theorem zwd {β:Type} {l:List β} {i:Nat} (e:β) (h:i < l.length):(l.set i e).take (i + 1) = l.take i ++ [e]:=by
 have h1:(l.set i e)[i]? = some e:=by simp [h]
 rw [ztf h1]
 congr 1
 rw [List.take_set_of_le (Nat.le_refl _)]
end
end Go.Wk
end
section
namespace Go.Wk.Lf
open Go.V Go.Sort Go.Proofs
theorem nz_ok {α:Type} {l:List α} (h:l ≠ []):nz l = some ():=by
 cases l with
 | nil=>exact absurd rfl h
 | cons a r=>rfl
theorem sortM_ok {α:Type} {cf:α → α → Int} {l:List α} (h:l.length ≤ 1073741824):sortM cf l = some (zuf cf l):=if_pos h
theorem ixp_lt {α:Type} {l:List α} {a n k:Nat} (hk:k < n) (h:a + k < l.length):ixp l a n (k:Int) = some l[a + k]:=by
 show (if k < n then l[a + k]? else none) = _;rw [if_pos hk]; exact List.getElem?_eq_getElem h
theorem compactI_eq (xs:List (List UInt8)) (hl:xs.length ≤ 1073741824):zad xs = some (zgd xs):=by
 unfold zad
 by_cases h2:xs.length < 2
 ·rw [if_t (decide_eq_true (by omega)),zro _ h2]
 ·rw [if_f (decide_eq_false (by omega))];refine zfq (S:=Int) (σ:=Unit) (fun i _=>(i:Int)) xs.length (fun i _=>1 ≤ i ∧ zgd (xs.take i) = xs.take i) _ (i0:=1) (s0:=()) rfl (by omega) ⟨by omega,zro _ (by simp; omega)⟩ (by omega) ?_ ?_
  ·intro rec i _ hi hI hrec;obtain ⟨h1,hc⟩:=hI;simp only [zad.l2,zad.k3];rw [if_t (lt_t hi),zfc hi,zav,znh (by omega) (by omega),zfc (show i - 1 < xs.length by omega),zav];have hst:=zqp (l:=xs) (j:=i - 1) (a:=xs[i - 1]) (b:=xs[i]) (List.getElem?_eq_getElem (by omega)) (by rw [show i - 1 + 1 = i by omega]; exact List.getElem?_eq_getElem hi);rw [show i - 1 + 2 = i + 1 by omega,show i - 1 + 1 = i by omega,hc] at hst
   by_cases he:xs[i] = xs[i - 1]
   ·rw [if_t (decide_eq_true he),zig (by omega) (by omega) (by omega),zav];rw [if_pos he.symm] at hst;refine zfq (S:=Int × Int × List (List UInt8)) (σ:=Nat × List (List UInt8)) (fun k s=>((s.1:Int),(k:Int),s.2)) (xs.length - i) (fun k s=>s.2.length = xs.length ∧ 1 ≤ k ∧ 1 ≤ s.1 ∧ s.1 ≤ i + k - 1 ∧ s.2.take s.1 = zgd (xs.take (i + k)) ∧ ∀ q,i + k - 1 ≤ q → s.2[q]? = xs[q]?) _ (i0:=1) (s0:=(i,xs)) rfl (by omega) ⟨rfl,by omega,by omega,by simp,hst.symm,fun q _=>rfl⟩ (by omega) ?_ ?_
    ·rintro rec2 k ⟨w,cs⟩ hk ⟨e1,e2,e3,e4,e5,e6⟩ hrec2;simp only at e1 e3 e4 e5 e6;simp only [zad.l5,zad.k6,Int.toNat_natCast];have hck:i + k < cs.length:=by omega
     have hg1:cs[i + k] = xs[i + k]:=by have:=e6 (i + k) (by omega); rw [List.getElem?_eq_getElem hck,List.getElem?_eq_getElem (by omega)] at this; exact Option.some.inj this
     have hg2:cs[i + (k - 1)] = xs[i + (k - 1)]:=by have:=e6 (i + (k - 1)) (by omega); rw [List.getElem?_eq_getElem (by omega),List.getElem?_eq_getElem (by omega)] at this; exact Option.some.inj this
     have hst2:=zqp (l:=xs) (j:=i + (k - 1)) (a:=xs[i + (k - 1)]) (b:=xs[i + k]) (List.getElem?_eq_getElem (by omega)) (by rw [show i + (k - 1) + 1 = i + k by omega]; exact List.getElem?_eq_getElem (by omega));rw [show i + (k - 1) + 2 = i + (k + 1) by omega,show i + (k - 1) + 1 = i + k by omega,← e5] at hst2;rw [if_t (lt_t hk),ixp_lt hk hck,zav,znh (by omega) (by omega),ixp_lt (show k - 1 < xs.length - i by omega) (by omega),zav,hg1,hg2]
     by_cases hne:xs[i + k] = xs[i + (k - 1)]
     ·rw [if_f (by simp [hne]),zcf (by omega)];rw [if_pos hne.symm] at hst2;exact hrec2 (w,cs) ⟨e1,by omega,e3,by simp only; omega,hst2.symm,fun q hq=>e6 q (by omega)⟩
     ·rw [if_t (by simp [hne]),zav,zfc (show w < cs.length by omega),zav,zcf (by omega),zcf (by omega)];rw [if_neg (fun h=>hne h.symm)] at hst2;refine hrec2 (w + 1,cs.set w xs[i + k]) ⟨by simp [e1],by omega,by simp,by simp only; omega,?_,fun q hq=>?_⟩
      ·simp only; rw [zwd _ (by omega),hst2]
      ·simp only; rw [List.getElem?_set_ne (by omega)]; exact e6 q (by omega)
    ·rintro rec2 ⟨w,cs⟩ ⟨e1,e2,e3,e4,e5,e6⟩;simp only at e1 e3 e4 e5 e6;simp only [zad.l5,zad.k4,Int.toNat_natCast];rw [if_f (lt_f (Nat.lt_irrefl _)),zig (by omega) (by omega) (by omega),zav];rw [show clr cs w (cs.length - w) (List.replicate 32 0) = some (cs.take w ++ List.replicate (cs.length - w) (List.replicate 32 0)) from if_pos (by omega),zav];rw [zig (by omega) (by omega) (by simp; omega),zav];simp only [Int.toNat_natCast,Int.toNat_zero,List.drop_zero];rw [nz_ok (by simp only [ne_eq,List.append_eq_nil_iff,not_and]; intro q; have q2:=congrArg List.length q; rw [List.length_take,List.length_nil] at q2; omega),zav,List.take_append_of_le_length (by simp; omega),List.take_take,Nat.min_self,e5,show i + (xs.length - i) = xs.length by omega,List.take_length]
   ·rw [if_f (decide_eq_false he),zcf (by omega)];rw [if_neg (fun h=>he h.symm)] at hst;exact hrec () ⟨by omega,by rw [hst,zdp hi]⟩
  ·intro rec _ hI;simp only [zad.l2,zad.k1];rw [if_f (lt_f (Nat.lt_irrefl _))];have:=hI.2;rw [List.take_length] at this;rw [this]
theorem mem_compactL {α:Type} [DecidableEq α] (l:List α) (x:α):x ∈ zgd l ↔ x ∈ l:=by
 refine zst (p:=fun l=>x ∈ zgd l ↔ x ∈ l) (by simp [zgd]) (fun l y ih=>?_) l;rw [zkg];unfold cstep
 split
 ·rename_i h;rw [zqi] at h;rw [ih];simp only [List.mem_append,List.mem_singleton];constructor
  ·exact .inl
  ·rintro (h' | rfl)
   ·exact h'
   ·exact List.mem_of_getLast? h
 ·simp only [List.mem_append,List.mem_singleton,ih]
def zoj (l:List (List UInt8)):Prop:=l.Pairwise fun a b=>sLt a b = true
def zlm (m:Manifest):List (List UInt8):=m.parts.flatMap Part.ids
def idsU (l:List (List UInt8)):List (List UInt8):=zgd (zuf cmpT l)
theorem zwz (l:List (List UInt8)) (x:List UInt8):x ∈ idsU l ↔ x ∈ l:=by
 unfold idsU; rw [mem_compactL]; exact (zoo cmpT l).mem_iff
theorem idsU_len (l:List (List UInt8)):(idsU l).length ≤ l.length:=by
 unfold idsU;have h1:=zrp (zuf cmpT l);rw [(zoo cmpT l).length_eq] at h1; exact h1
theorem cloneI_eq (l:List (List UInt8)) (hl:l.length ≤ 1073741824):zcv l = some l:=by
 unfold zcv;rw [zdb (by simpa using hl),zav,List.nil_append]
theorem zuk (l:List Part) (i:Nat):((l.take i).flatMap Part.ids).length ≤ (l.flatMap Part.ids).length:=by
 conv=>rhs; rw [← List.take_append_drop i l,List.flatMap_append,List.length_append]
 omega
theorem mids_eq (m:Manifest) (hp:m.parts.length ≤ 1073741824) (hl:(zlm m).length ≤ 1073741824):zdm m = some (idsU (zlm m)):=by
 unfold zdm;refine zfq (S:=List (List UInt8) × Int) (σ:=List (List UInt8)) (fun i l=>(l,(i:Int))) m.parts.length (fun i l=>l = (m.parts.take i).flatMap Part.ids) _ (i0:=0) (s0:=[]) rfl (Nat.zero_le _) rfl (by omega) ?_ ?_
 ·intro rec i l hi hI hrec;simp only [zdm.l2];have h1:=zuk m.parts (i + 1);rw [zdp hi,List.flatMap_append,← hI] at h1;simp only [List.flatMap_cons,List.flatMap_nil,List.append_nil,List.length_append] at h1;unfold zlm at hl;rw [if_t (lt_t hi),zfc hi,zav,zdb (by omega),zav,zcf (by omega)];refine hrec _ ?_;rw [zdp hi,List.flatMap_append,hI]; simp
 ·intro rec l hI;simp only [zdm.l2,zdm.k1];rw [if_f (lt_f (Nat.lt_irrefl _))];rw [List.take_length] at hI;have hI':l = zlm m:=hI;subst hI';have hll:=isort_len cmpT (zlm m);have h2:=zrp (zuf cmpT (zlm m));rw [sortM_ok hl,zav,compactI_eq _ (by omega),zav,cloneI_eq _ (by omega),zav];rfl
end Go.Wk.Lf
end
section
namespace Go.Wk.Lf
open Go.V Go.Sort Go.Proofs
def beN (l:List UInt8):Nat:=l.foldl (fun n c=>n * 256 + c.toNat) 0
theorem or_i64_nat (a b:Nat) (ha:a < 4611686018427387904) (hb:b < 4611686018427387904):bits .or .i64 (a:Int) (b:Int) = ((a ||| b:Nat):Int):=by
 have hx:a ||| b < 2 ^ 62:=Nat.or_lt_two_pow (by omega) (by omega);have h1:(BitVec.ofInt 64 (a:Int)).toNat = a:=by
  rw [BitVec.ofInt_natCast,BitVec.toNat_ofNat]; exact Nat.mod_eq_of_lt (by omega)
 have h2:(BitVec.ofInt 64 (b:Int)).toNat = b:=by
  rw [BitVec.ofInt_natCast,BitVec.toNat_ofNat]; exact Nat.mod_eq_of_lt (by omega)
 show IntKind.i64.wrap ((BitVec.ofInt 64 (a:Int) ||| BitVec.ofInt 64 (b:Int)).toNat:Int) = _;rw [BitVec.toNat_or,h1,h2];exact zff (by omega) (by omega)
theorem or_step (n:Nat) (c:UInt8) (hn:n < 18014398509481984):bits .or .i64 (wr ((n:Int) * 2 ^ (8:Int).toNat)) (c.toNat:Int) = ((n * 256 + c.toNat:Nat):Int):=by
 have hc:=c.toNat_lt;have e:wr ((n:Int) * 2 ^ (8:Int).toNat) = ((n * 256:Nat):Int):=by
  rw [show (8:Int).toNat = 8 from rfl];rw [zff (by omega) (by omega)]; omega
 rw [e,or_i64_nat _ _ (by omega) (by omega)];have:=Nat.shiftLeft_add_eq_or_of_lt (i:=8) (b:=c.toNat) (by omega) n;rw [Nat.shiftLeft_eq] at this;rw [show n * 256 = n * 2 ^ 8 from rfl,this]
theorem beN_lt:∀ (l:List UInt8),beN l < 256 ^ l.length:=by
 intro l;refine zst (p:=fun l=>beN l < 256 ^ l.length) (by simp [beN]) (fun l c ih=>?_) l;have hc:=c.toNat_lt;simp only [beN,List.foldl_append,List.foldl_cons,List.foldl_nil,List.length_append,List.length_cons,List.length_nil,Nat.pow_succ] at ih ⊢;omega
theorem zxr (l:List UInt8) (c:UInt8):beN (l ++ [c]) = beN l * 256 + c.toNat:=by simp [beN]
theorem num_loop {A:Type} {F:(Int × Int → Option A) → Int × Int → Option A} {l:List UInt8} {K:Int → Option A} (mk:Int → Int → Int × Int) (hl:l.length ≤ 7)
  (hs:∀ rec i (h:i < l.length) (n:Int),F rec (mk n i) = rec (mk (bits .or .i64 (wr (n * 2 ^ (8:Int).toNat)) (l[i].toNat:Int)) (wr ((i:Int) + 1)))) (he:∀ rec n,F rec (mk n l.length) = K n):loop F (mk 0 0) = K (beN l:Int):=by
 refine zfq (S:=Int × Int) (σ:=Unit) (fun i _=>mk ((beN (l.take i):Nat):Int) (i:Int)) l.length (fun _ _=>True) _ (i0:=0) (s0:=()) (by simp [beN]) (Nat.zero_le _) trivial (by omega) ?_ ?_
 ·intro rec i _ hi _ hrec;have hlt:beN (l.take i) < 256 ^ 6:=Nat.lt_of_lt_of_le (beN_lt _) (Nat.pow_le_pow_right (by decide) (by simp; omega));rw [hs rec i hi,or_step _ _ (by omega),zcf (by omega)];have:=hrec () trivial;rw [zdp hi,zxr] at this;exact this
 ·intro rec _ _;rw [he,List.take_length]
theorem get_eq (b:List UInt8) (at_ k:Nat) (h1:1 ≤ k) (h7:k ≤ 7) (hb:b.length ≤ 1073741824) (hk:at_ + k ≤ b.length):zho b (at_:Int) (k:Int) = some ((beN ((b.take (at_ + k)).drop at_):Int),((at_ + k:Nat):Int),0):=by
 unfold zho;rw [if_neg (by simp only [Bool.or_eq_true,decide_eq_true_eq]; omega),zff (x:=(b.length:Int) - at_) (by omega) (by omega),if_neg (by simp only [decide_eq_true_eq]; omega),zff (x:=(at_:Int) + k) (by omega) (by omega),zig (by omega) (by omega) (by omega),zav];rw [show ((at_:Int) + (k:Int)).toNat = at_ + k by omega,Int.toNat_natCast];have hlen:((b.take (at_ + k)).drop at_).length = k:=by simp; omega
 generalize (b.take (at_ + k)).drop at_ = l at hlen ⊢;refine num_loop (l:=l) (K:=fun n=>some (n,((at_ + k:Nat):Int),0)) (fun n i=>(n,i)) (by omega) (fun rec i hi n=>?_) (fun rec n=>?_)
 ·simp only [zho.l2];rw [if_t (lt_t hi),zfc hi,zav]
 ·simp only [zho.l2,zho.k1];rw [if_f (lt_f (Nat.lt_irrefl _)),zff (by omega) (by omega)];rfl
theorem zlr {n:Nat} (h:n < 256):(toB8 (n:Int)).toNat = n:=by
 unfold toB8; simp; omega
theorem toB8_byte (c:UInt8):toB8 (c.toNat:Int) = c:=by
 have:=c.toNat_lt;apply UInt8.toNat.inj;rw [zlr (by omega)]
theorem beN_one (c:UInt8):beN [c] = c.toNat:=by simp [beN]
theorem beN_two (a b:UInt8):beN [a,b] = a.toNat * 256 + b.toNat:=by simp [beN]
theorem be2_beN (a b:UInt8):be2 ((beN [a,b]:Nat):Int) = [a,b]:=by
 have ha:=a.toNat_lt;have hb:=b.toNat_lt;rw [beN_two];unfold be2;have e1:((a.toNat * 256 + b.toNat:Nat):Int) / 256 = ((a.toNat:Nat):Int):=by omega
 rw [e1,toB8_byte]
 congr 2
 apply UInt8.toNat.inj;unfold toB8;simp;omega
theorem zxs {n:Nat} (h:n < 65536):beN (be2 (n:Int)) = n:=by
 unfold be2;rw [beN_two];have e1:(n:Int) / 256 = ((n / 256:Nat):Int):=by omega
 rw [e1,zlr (by omega)];unfold toB8;simp;omega
structure Tk (σ:Type) where
 rest:σ → List UInt8
 bad:σ → Bool
 take:σ → Nat → List UInt8 × σ
 len:∀ s n,(take s n).1.length = n
 sound:∀ s n,bad (take s n).2 = false → bad s = false ∧ rest s = (take s n).1 ++ rest (take s n).2
 full:∀ s x t,bad s = false → rest s = x ++ t → (take s x.length).1 = x ∧ rest (take s x.length).2 = t ∧ bad (take s x.length).2 = false
section
variable {σ:Type} (T:Tk σ)
def Tk.num (s:σ) (n:Nat):Nat × σ:=(beN (T.take s n).1,(T.take s n).2)
def Tk.text (s:σ):List UInt8 × σ:=T.take (T.num s 1).2 (T.num s 1).1
theorem Tk.num1 (s:σ):∃ c,(T.take s 1).1 = [c] ∧ (T.num s 1).1 = c.toNat:=by
 have h:=T.len s 1
 match hq:(T.take s 1).1,h with
 | [c],_=>exact ⟨c,rfl,by simp [Tk.num,hq,beN]⟩
theorem Tk.num1_sound (s:σ) (h:T.bad (T.num s 1).2 = false):T.bad s = false ∧ (T.num s 1).1 < 256 ∧ T.rest s = toB8 ((T.num s 1).1:Int) :: T.rest (T.num s 1).2:=by
 obtain ⟨c,h1,h2⟩:=T.num1 s;obtain ⟨h3,h4⟩:=T.sound s 1 h;have:=c.toNat_lt;refine ⟨h3,by omega,?_⟩;rw [h4,h1,h2,toB8_byte]; rfl
theorem Tk.num1_full (s:σ) (n:Nat) (t:List UInt8) (hn:n < 256) (hb:T.bad s = false) (hr:T.rest s = toB8 (n:Int) :: t):(T.num s 1).1 = n ∧ T.rest (T.num s 1).2 = t ∧ T.bad (T.num s 1).2 = false:=by
 obtain ⟨h1,h2,h3⟩:=T.full s [toB8 (n:Int)] t hb hr;refine ⟨?_,h2,h3⟩;show beN (T.take s 1).1 = n;rw [show (1:Nat) = [toB8 (n:Int)].length from rfl,h1,beN_one,zlr hn]
theorem Tk.num2_sound (s:σ) (h:T.bad (T.num s 2).2 = false):T.bad s = false ∧ (T.num s 2).1 < 65536 ∧ T.rest s = be2 ((T.num s 2).1:Int) ++ T.rest (T.num s 2).2:=by
 have hl:=T.len s 2;obtain ⟨h3,h4⟩:=T.sound s 2 h;refine ⟨h3,?_,?_⟩
 ·have:=beN_lt (T.take s 2).1;rw [hl] at this;exact this
 ·rw [h4]
  match hq:(T.take s 2).1,hl with
  | [a,b],_ =>
   show _ = be2 ((beN (T.take s 2).1:Nat):Int) ++ _;rw [hq,be2_beN]; rfl
theorem Tk.num2_full (s:σ) (n:Nat) (t:List UInt8) (hn:n < 65536) (hb:T.bad s = false) (hr:T.rest s = be2 (n:Int) ++ t):(T.num s 2).1 = n ∧ T.rest (T.num s 2).2 = t ∧ T.bad (T.num s 2).2 = false:=by
 obtain ⟨h1,h2,h3⟩:=T.full s (be2 (n:Int)) t hb hr;refine ⟨?_,h2,h3⟩;show beN (T.take s 2).1 = n;rw [show (2:Nat) = (be2 (n:Int)).length from rfl,h1,zxs hn]
theorem Tk.text_sound (s:σ) (h:T.bad (T.text s).2 = false):T.bad s = false ∧ (T.text s).1.length < 256 ∧ T.rest s = toB8 ((T.text s).1.length:Int) :: ((T.text s).1 ++ T.rest (T.text s).2):=by
 obtain ⟨h1,h2⟩:=T.sound _ _ h;obtain ⟨h3,h4,h5⟩:=T.num1_sound s h1;have hl:(T.text s).1.length = (T.num s 1).1:=T.len _ _;refine ⟨h3,by omega,?_⟩;rw [h5,hl,h2]; rfl
theorem Tk.text_full (s:σ) (x t:List UInt8) (hn:x.length < 256) (hb:T.bad s = false) (hr:T.rest s = toB8 (x.length:Int) :: (x ++ t)):(T.text s).1 = x ∧ T.rest (T.text s).2 = t ∧ T.bad (T.text s).2 = false:=by
 obtain ⟨h1,h2,h3⟩:=T.num1_full s x.length (x ++ t) hn hb hr;obtain ⟨h4,h5,h6⟩:=T.full (T.num s 1).2 x t h3 h2;unfold Tk.text;rw [h1]; exact ⟨h4,h5,h6⟩
def Tk.head (s:σ):List UInt8 × Nat × Nat × σ :=
 let a:=T.text s
 let b:=T.num a.2 2
 let c:=T.num b.2 1
 (a.1,b.1,c.1,c.2)
def ziw (p:List UInt8) (n k:Nat):List UInt8:=[toB8 (p.length:Int)] ++ p ++ be2 (n:Int) ++ [toB8 (k:Int)]
theorem Tk.head_sound (s:σ) (h:T.bad (T.head s).2.2.2 = false):T.bad s = false ∧ (T.head s).1.length < 256 ∧ (T.head s).2.1 < 65536 ∧ (T.head s).2.2.1 < 256 ∧ T.rest s = ziw (T.head s).1 (T.head s).2.1 (T.head s).2.2.1 ++ T.rest (T.head s).2.2.2:=by
 obtain ⟨h1,h2,h3⟩:=T.num1_sound _ h;obtain ⟨h4,h5,h6⟩:=T.num2_sound _ h1;obtain ⟨h7,h8,h9⟩:=T.text_sound _ h4;refine ⟨h7,h8,h5,h2,?_⟩;rw [h9,h6,h3];simp [ziw,Tk.head]
theorem Tk.head_full (s:σ) (p t:List UInt8) (n k:Nat) (hp:p.length < 256) (hn:n < 65536) (hk:k < 256) (hb:T.bad s = false) (hr:T.rest s = ziw p n k ++ t):(T.head s).1 = p ∧ (T.head s).2.1 = n ∧ (T.head s).2.2.1 = k ∧ T.rest (T.head s).2.2.2 = t ∧ T.bad (T.head s).2.2.2 = false:=by
 obtain ⟨h1,h2,h3⟩:=T.text_full s p (be2 (n:Int) ++ toB8 (k:Int) :: t) hp hb (by rw [hr]; simp [ziw]);obtain ⟨h4,h5,h6⟩:=T.num2_full _ n (toB8 (k:Int) :: t) hn h3 h2;obtain ⟨h7,h8,h9⟩:=T.num1_full _ k t hk h6 h5;exact ⟨h1,h4,h7,h8,h9⟩
end
def wfP (p:Part):Prop:=p.path.length < 256 ∧ 0 ≤ p.size ∧ p.size < 65536 ∧ p.ids.length < 256 ∧ ∀ x ∈ p.ids,x.length = 32
theorem zjq (p:Part) (n:Nat) (h:p.size = (n:Int)):zdl p = ziw p.path n p.ids.length ++ p.ids.flatten:=by simp [zdl,ziw,h]
theorem wf_of {p:Part} (h:zse p = true) (hk:∀ x ∈ p.ids,x.length = 32):wfP p:=by
 have h2:=zlz h;have h3:=zkq h2.1;exact ⟨by omega,h2.2.1,by omega,by omega,hk⟩
end Go.Wk.Lf
end
section
namespace Go.Wk.Lf
open Go.V Go.Sort Go.Proofs
def takeM (s:ManifestReader) (n:Nat):List UInt8 × ManifestReader:=if (s.bad || decide (s.b.length < n)) = true then (List.replicate n 0,⟨s.b,true⟩) else (s.b.take n,⟨s.b.drop n,s.bad⟩)
def tkM:Tk ManifestReader where
 rest s:=s.b
 bad s:=s.bad
 take:=takeM
 len s n:=by
  unfold takeM; split
  ·simp
  ·rename_i h; simp only [Bool.or_eq_true,decide_eq_true_eq,not_or] at h; simp; omega
 sound s n h:=by
  unfold takeM at h ⊢; split at h
  ·cases h
  ·rename_i hc; rw [if_neg hc]; exact ⟨h,(List.take_append_drop n s.b).symm⟩
 full s x t hb hr:=by
  have hr':s.b = x ++ t:=hr;have hb':s.bad = false:=hb;unfold takeM;rw [if_neg (by rw [hb',hr']; simp)];exact ⟨by rw [hr']; simp,by show s.b.drop x.length = t; rw [hr']; simp,hb'⟩
theorem zsr (s:ManifestReader) (n:Nat) (hn:n ≤ 65536) (hb:s.b.length ≤ 1073741824):zcm s (n:Int) = some (takeM s n):=by
 unfold zcm takeM;have e:decide ((s.b.length:Int) < (n:Int)) = decide (s.b.length < n):=by rw [decide_eq_decide]; omega
 rw [e]
 split
 ·rw [rep_ok (by omega) (by omega),zav,Int.toNat_natCast]
 ·rename_i h;simp only [Bool.or_eq_true,decide_eq_true_eq,not_or] at h;rw [zig (by omega) (by omega) (by omega),zav,zig (by omega) (by omega) (by omega),zav];simp
theorem ztg (s:ManifestReader) (n:Nat):(takeM s n).2.b.length ≤ s.b.length:=by
 unfold takeM; split
 ·exact Nat.le_refl _
 ·simp
theorem ztw (s:ManifestReader) (n:Nat) (h1:1 ≤ n) (h7:n ≤ 7) (hb:s.b.length ≤ 1073741824):zbp s (n:Int) = some (((tkM.num s n).1:Int),(tkM.num s n).2):=by
 unfold zbp;have hl:=tkM.len s n;rw [zsr s n (by omega) hb,zav];have hg:=get_eq (takeM s n).1 0 n h1 h7 (by have:(takeM s n).1.length = n:=hl; omega) (by have:(takeM s n).1.length = n:=hl; omega);rw [show ((0:Nat):Int) = 0 from rfl] at hg;rw [hg,zav];have:((takeM s n).1.take (0 + n)).drop 0 = (takeM s n).1:=by
  rw [Nat.zero_add,List.drop_zero,List.take_of_length_le];have:(takeM s n).1.length = n:=hl;omega
 rw [this]; rfl
theorem zph (s:ManifestReader) (n:Nat):(tkM.num s n).2.b.length ≤ s.b.length:=ztg s n
theorem zww (s:ManifestReader):(tkM.text s).2.b.length ≤ s.b.length:=Nat.le_trans (ztg _ _) (zph s 1)
theorem zwp (s:ManifestReader):(tkM.num s 1).1 < 256:=by
 obtain ⟨c,_,h⟩:=tkM.num1 s;have:=c.toNat_lt;omega
theorem headM_eq (s:ManifestReader) (hb:s.b.length ≤ 1073741824) {A:Type} (K:List UInt8 × ManifestReader → Int × ManifestReader → Int × ManifestReader → Option A) :
  (bd (zbp s 1) fun a=>bd (zcm a.2 a.1) fun b=>bd (zbp b.2 2) fun c=>bd (zbp c.2 1) fun d=>K b c d) = K (tkM.text s) (((tkM.num (tkM.text s).2 2).1:Int),(tkM.num (tkM.text s).2 2).2) (((tkM.num (tkM.num (tkM.text s).2 2).2 1).1:Int),(tkM.num (tkM.num (tkM.text s).2 2).2 1).2):=by
 have h0:=zwp s;have h1:=zph s 1;have h2:=zww s;have h3:=zph (tkM.text s).2 2;rw [show (1:Int) = ((1:Nat):Int) from rfl,show (2:Int) = ((2:Nat):Int) from rfl,ztw s 1 (by omega) (by omega) hb,zav];simp only;rw [zsr _ _ (by omega) (by omega),zav];show (bd (zbp (tkM.text s).2 _) _) = _;rw [ztw _ 2 (by omega) (by omega) (by omega),zav];simp only;rw [ztw _ 1 (by omega) (by omega) (by omega),zav];rfl
def isMan (b:List UInt8) (m:Manifest):Prop:=manB m ∧ okId m ∧ b = zhg m
open Classical in
noncomputable def zwk (b:List UInt8):Manifest × Int:=if h:∃ m,isMan b m then (h.choose,0) else (⟨[],[]⟩,3)
structure RInv (b:List UInt8) (nm:List UInt8) (cnt:Nat) (i:Nat) (q:List UInt8) (bad:Bool) (ps:List Part):Prop where
 len:q.length ≤ b.length
 snd:bad = false → b = [toB8 (nm.length:Int)] ++ nm ++ [toB8 (cnt:Int)] ++ ps.flatMap zdl ++ q ∧ ps.length = i ∧ ∀ p ∈ ps,wfP p
 cpl:∀ m,isMan b m → bad = false ∧ nm = m.name ∧ cnt = m.parts.length ∧ ps = m.parts.take i ∧ q = (m.parts.drop i).flatMap zdl
theorem zws {m:Manifest} (h:manB m):m.name.length < 256 ∧ m.parts.length < 256:=by
 have h1:=zkq h.1;have h2:=h.2.1;exact ⟨by omega,by omega⟩
theorem read_end {b nm:List UInt8} {cnt:Nat} {q:List UInt8} {bad:Bool} {ps:List Part} {i:Nat} (hcn:cnt < 256) (hI:RInv b nm cnt i q bad ps) (hi:bad = false → i = cnt) :
  (if ((bad || decide (0 < q.length)) || !decide (manB ⟨nm,ps⟩)) = true then ((⟨[],[]⟩:Manifest),(3:Int)) else (⟨nm,ps⟩,0)) = zwk b:=by
 by_cases hex:∃ m,isMan b m
 ·have hr:zwk b = (hex.choose,0):=by unfold zwk; rw [dif_pos hex]
  obtain ⟨h1,h2,h3,h4,h5⟩:=hI.cpl _ hex.choose_spec;have hic:=hi h1;rw [hic,h3,List.take_length] at h4;rw [hic,h3,List.drop_length] at h5;have hm:(⟨nm,ps⟩:Manifest) = hex.choose:=by rw [h2,h4]
  rw [hr,hm];rw [if_neg];rw [h1,h5];have:=hex.choose_spec.1;simp [this]
 ·have hr:zwk b = (⟨[],[]⟩,3):=by unfold zwk; rw [dif_neg hex]
  rw [hr]
  split
  ·rfl
  ·rename_i hc;simp only [Bool.or_eq_true,decide_eq_true_eq,not_or,Bool.not_eq_true',decide_eq_false_iff_not,Bool.not_eq_true,Classical.not_not] at hc;obtain ⟨⟨hb,hq⟩,hm⟩:=hc
   exfalso
   obtain ⟨h1,h2,h3⟩:=hI.snd hb;refine hex ⟨⟨nm,ps⟩,hm,fun p hp=>(h3 p hp).2.2.2.2,?_⟩;have hq0:q = []:=List.eq_nil_of_length_eq_zero (by omega);rw [h1,hq0,List.append_nil,← hi hb,← h2]; rfl
theorem RInv.step {b nm:List UInt8} {cnt i:Nat} {q:List UInt8} {bad:Bool} {ps:List Part} (hI:RInv b nm cnt i q bad ps) {p:Part} {q':List UInt8} {bad':Bool} (hl:q'.length ≤ q.length)
  (hs:bad' = false → bad = false ∧ q = zdl p ++ q' ∧ wfP p) (hc:∀ p0 t,bad = false → wfP p0 → q = zdl p0 ++ t → p = p0 ∧ q' = t ∧ bad' = false) (hi:i < cnt):RInv b nm cnt (i + 1) q' bad' (ps ++ [p]):=by
 refine ⟨Nat.le_trans hl hI.len,fun hb=>?_,fun m hm=>?_⟩
 ·obtain ⟨h1,h2,h3⟩:=hs hb;obtain ⟨h4,h5,h6⟩:=hI.snd h1;refine ⟨?_,by simp [h5],fun p' hp'=>?_⟩
  ·rw [h4,h2]; simp
  ·rcases List.mem_append.1 hp' with h | h
   ·exact h6 p' h
   ·simp at h; subst h; exact h3
 ·obtain ⟨h1,h2,h3,h4,h5⟩:=hI.cpl m hm;have hil:i < m.parts.length:=by omega
  rw [List.drop_eq_getElem_cons hil,List.flatMap_cons] at h5;have hmem:=List.getElem_mem hil;obtain ⟨h6,h7,h8⟩:=hc _ _ h1 (wf_of (zik hm.1 _ hmem) (hm.2.1 _ hmem)) h5;refine ⟨h8,h2,h3,?_,h7⟩;rw [h4,h6,zdp hil]
theorem read_eq (b:List UInt8) (hb:b.length ≤ 1000000000):zbf b = some (zwk b):=by
 unfold zbf
 let s0:ManifestReader:=⟨b,false⟩
 have h0:=zwp s0;have h1:=zph s0 1;have h2:=zww s0;have h3:=zph (tkM.text s0).2 1;have h4:=zwp (tkM.text s0).2;rw [show (1:Int) = ((1:Nat):Int) from rfl,ztw s0 1 (by omega) (by omega) (by show b.length ≤ _; omega),zav];simp only;rw [zsr _ _ (by omega) (by have:(tkM.num s0 1).2.b.length ≤ b.length:=h1; omega),zav];show (bd (zbp (tkM.text s0).2 _) _) = _;have hlt:(tkM.text s0).2.b.length ≤ b.length:=h2;rw [ztw _ 1 (by omega) (by omega) (by omega),zav];simp only;show loop (zbf.l2 (tkM.text s0) (((tkM.num (tkM.text s0).2 1).1:Int),(tkM.num (tkM.text s0).2 1).2)) _ = _;generalize hR:tkM.num (tkM.text s0).2 1 = R at h3 h4 ⊢;generalize hT:tkM.text s0 = Tx at h3 hlt hR ⊢;have hinit:RInv b Tx.1 R.1 0 R.2.b R.2.bad []:=by
  refine ⟨by omega,fun hbad=>?_,fun m hm=>?_⟩
  ·have hbad':tkM.bad (tkM.num Tx.2 1).2 = false:=by rw [hR]; exact hbad
   obtain ⟨a1,a2,a3⟩:=tkM.num1_sound _ hbad';rw [← hT] at a1 a3;obtain ⟨a4,a5,a6⟩:=tkM.text_sound s0 a1;rw [hT,hR] at a3;rw [hT] at a6;have e1:tkM.rest s0 = b:=rfl;have e2:tkM.rest R.2 = R.2.b:=rfl;rw [e1,a3,e2] at a6;exact ⟨by rw [a6]; simp,rfl,fun p hp=>by simp at hp⟩
  ·obtain ⟨m1,m2⟩:=zws hm.1;obtain ⟨a1,a2,a3⟩:=tkM.text_full s0 m.name (toB8 (m.parts.length:Int) :: m.parts.flatMap zdl) m1 rfl (by show b = _; rw [hm.2.2]; simp [zhg]);rw [hT] at a1 a2 a3;obtain ⟨a4,a5,a6⟩:=tkM.num1_full Tx.2 m.parts.length (m.parts.flatMap zdl) m2 a3 a2;rw [hR] at a4 a5 a6;exact ⟨a6,a1,a4,rfl,a5⟩
 have hfin:∀ (i:Nat) (q:List UInt8) (bad:Bool) (ps:List Part),RInv b Tx.1 R.1 i q bad ps → (bad = false → i = R.1) → zbf.k1 Tx ps q bad = some (zwk b):=by
  intro i q bad ps hI hi;rw [← read_end h4 hI hi];simp only [zbf.k1];have e:decide (0 < (q.length:Int)) = decide (0 < q.length):=by rw [decide_eq_decide]; omega
  rw [e];cases hc:(bad || decide (0 < q.length)) with
  | true=>rw [zhf (by simp),zav]; rfl
  | false =>
   rw [zbo (by simp),mcheck_eq,zav]
   by_cases hm:manB ⟨Tx.1,ps⟩
   ·rw [if_pos hm]; simp [hm]
   ·rw [if_neg hm]; simp [hm]
 refine zfq (S:=Int × List UInt8 × Bool × List Part) (σ:=List UInt8 × Bool × List Part) (fun i s=>((i:Int),s.1,s.2.1,s.2.2)) R.1 (fun i s=>RInv b Tx.1 R.1 i s.1 s.2.1 s.2.2 ∧ s.2.2.length = i) _ (i0:=0) (s0:=(R.2.b,R.2.bad,[])) rfl (Nat.zero_le _) ⟨hinit,rfl⟩ (by omega) ?_ ?_
 ·rintro rec i ⟨q,bad,ps⟩ hi ⟨hI,hpl⟩ hrec;simp only at hI hpl hrec;simp only [zbf.l2];rw [if_t (lt_t hi)];have hql:=hI.len;rw [headM_eq ⟨q,bad⟩ (by show q.length ≤ _; omega)]
  let s:ManifestReader:=⟨q,bad⟩
  have g2:=zww s;have g3:=zph (tkM.text s).2 2;have g4:=zph (tkM.num (tkM.text s).2 2).2 1;have g5:=zwp (tkM.num (tkM.text s).2 2).2;have hsd:=tkM.head_sound s;have hfl:=tkM.head_full s;have eh:tkM.head s = ((tkM.text s).1,(tkM.num (tkM.text s).2 2).1,(tkM.num (tkM.num (tkM.text s).2 2).2 1).1,(tkM.num (tkM.num (tkM.text s).2 2).2 1).2):=rfl;rw [eh] at hsd hfl;simp only at hsd hfl;show loop (zbf.l5 Tx (i:Int) ps rec (tkM.text s) (((tkM.num (tkM.text s).2 2).1:Int),(tkM.num (tkM.text s).2 2).2) (((tkM.num (tkM.num (tkM.text s).2 2).2 1).1:Int),(tkM.num (tkM.num (tkM.text s).2 2).2 1).2)) _ = _;generalize hE:tkM.num (tkM.num (tkM.text s).2 2).2 1 = E at hsd hfl g4 g5 ⊢;generalize tkM.num (tkM.text s).2 2 = D at hsd hfl g3 g4 ⊢;generalize tkM.text s = P at hsd hfl g2 g3 ⊢;have hEl:E.2.b.length ≤ q.length:=by have:P.2.b.length ≤ q.length:=g2; omega
  refine zfq (S:=Int × List UInt8 × Bool × List (List UInt8)) (σ:=List UInt8 × Bool × List (List UInt8)) (fun j s=>((j:Int),s.1,s.2.1,s.2.2)) E.1 (fun j z=>z.1.length ≤ q.length ∧ z.2.2.length = j ∧ (∀ x ∈ z.2.2,x.length = 32) ∧ (z.2.1 = false → E.2.bad = false ∧ E.2.b = z.2.2.flatten ++ z.1) ∧ (∀ (ids:List (List UInt8)) (t:List UInt8),E.2.bad = false → E.2.b = ids.flatten ++ t → (∀ x ∈ ids,x.length = 32) → ids.length = E.1 → z.2.1 = false ∧ z.2.2 = ids.take j ∧ z.1 = (ids.drop j).flatten ++ t)) _ (i0:=0) (s0:=(E.2.b,E.2.bad,[])) rfl (Nat.zero_le _) ⟨hEl,rfl,fun x hx=>by simp at hx,fun h=>⟨h,rfl⟩,fun ids t h1 h2 h3 h4=>⟨h1,rfl,h2⟩⟩ (by omega) ?_ ?_
  ·rintro rec2 j ⟨z,zb,zi⟩ hj ⟨j1,j2,j3,j4,j5⟩ hrec2;simp only at j1 j2 j3 j4 j5 hrec2;simp only [zbf.l5];rw [if_t (lt_t hj),show (32:Int) = ((32:Nat):Int) from rfl,zsr ⟨z,zb⟩ 32 (by omega) (by show z.length ≤ _; omega),zav];have k1:=tkM.len ⟨z,zb⟩ 32;have k2:=ztg ⟨z,zb⟩ 32;have k3:=tkM.sound ⟨z,zb⟩ 32;have k4:=tkM.full ⟨z,zb⟩;have e3:tkM.take = takeM:=rfl;rw [e3] at k1 k3 k4;have ha:arr32 (takeM ⟨z,zb⟩ 32).1 = some (takeM ⟨z,zb⟩ 32).1:=by
    unfold arr32;rw [if_pos (by omega),List.take_of_length_le (by omega)]
   rw [ha,zav,zdb (by simp; omega),zav,zcf (by omega)];refine hrec2 ((takeM ⟨z,zb⟩ 32).2.b,(takeM ⟨z,zb⟩ 32).2.bad,zi ++ [(takeM ⟨z,zb⟩ 32).1]) ⟨?_,by simp [j2],fun x hx=>?_,fun hb=>?_,fun ids t h1 h2 h3 h4=>?_⟩
   ·have:(takeM ⟨z,zb⟩ 32).2.b.length ≤ z.length:=k2;show (takeM ⟨z,zb⟩ 32).2.b.length ≤ q.length;omega
   ·rcases List.mem_append.1 hx with h | h
    ·exact j3 x h
    ·simp at h; subst h; exact k1
   ·obtain ⟨l1,l2⟩:=k3 hb;obtain ⟨l3,l4⟩:=j4 l1;refine ⟨l3,?_⟩;have l5:z = (takeM ⟨z,zb⟩ 32).1 ++ (takeM ⟨z,zb⟩ 32).2.b:=l2;rw [l4]
    conv=>lhs; rw [l5]
    simp
   ·obtain ⟨l1,l2,l3⟩:=j5 ids t h1 h2 h3 h4;have hjl:j < ids.length:=by omega
    rw [List.drop_eq_getElem_cons hjl,List.flatten_cons,List.append_assoc] at l3;have hx:=h3 _ (List.getElem_mem hjl);obtain ⟨l4,l5,l6⟩:=k4 ids[j] ((ids.drop (j + 1)).flatten ++ t) l1 l3;rw [hx] at l4 l5 l6;exact ⟨l6,by show zi ++ [_] = _; rw [l2,l4,zdp hjl],l5⟩
  ·rintro rec2 ⟨z,zb,zi⟩ ⟨j1,j2,j3,j4,j5⟩;simp only at j1 j2 j3 j4 j5;simp only [zbf.l5,zbf.k4,zbf.k3];rw [if_f (lt_f (Nat.lt_irrefl _)),zdb (by simp; omega),zav,zcf (by omega)];have hstep:RInv b Tx.1 R.1 (i + 1) z zb (ps ++ [Part.mk P.1 (D.1:Int) zi]):=by
    refine hI.step j1 (fun hzb=>?_) (fun p0 t hbad hw hq=>?_) hi
    ·obtain ⟨l1,l2⟩:=j4 hzb;obtain ⟨l3,l4,l5,l6,l7⟩:=hsd l1;have e4:tkM.rest s = q:=rfl;have e5:tkM.rest E.2 = E.2.b:=rfl;rw [e4,e5] at l7;refine ⟨l3,?_,l4,by show (0:Int) ≤ (D.1:Int); omega,by show (D.1:Int) < 65536; omega,by show zi.length < 256; omega,j3⟩;rw [zjq _ D.1 rfl,l7,l2];simp only [j2,List.append_assoc]
    ·obtain ⟨w1,w2,w3,w4,w5⟩:=hw;obtain ⟨n0,hn0⟩:=Int.eq_ofNat_of_zero_le w2;have hn1:n0 < 65536:=by omega
     rw [zjq p0 n0 hn0,List.append_assoc] at hq;obtain ⟨l1,l2,l3,l4,l5⟩:=hfl p0.path (p0.ids.flatten ++ t) n0 p0.ids.length w1 hn1 w4 hbad hq;obtain ⟨l6,l7,l8⟩:=j5 p0.ids t l5 l4 w5 l3.symm;rw [l3,List.take_length] at l7;rw [l3,List.drop_length] at l8;refine ⟨?_,l8,l6⟩;obtain ⟨pp,ps0,pi⟩:=p0;simp only at l1 l7 hn0;rw [l1,l2,l7,hn0]
   cases hzb:zb with
   | true =>
    rw [if_pos rfl];rw [hzb] at hstep;exact hfin _ _ _ _ hstep (fun h=>by cases h)
   | false =>
    rw [if_neg (by simp)];rw [hzb] at hstep;exact hrec (z,false,ps ++ [Part.mk P.1 (D.1:Int) zi]) ⟨hstep,by simp [hpl]⟩
 ·rintro rec ⟨q,bad,ps⟩ ⟨hI,hpl⟩;simp only at hI hpl;simp only [zbf.l2];rw [if_f (lt_f (Nat.lt_irrefl _))];exact hfin _ _ _ _ hI fun _=>rfl
end Go.Wk.Lf
end
section
namespace Go.Wk.Lf
open Go.V Go.Sort Go.Proofs
theorem zgh {α:Type} (b:Bool) (x z:α):only b (some x) z = some (if b = true then x else z):=by
 cases b <;> rfl
def allN (n:Nat) (ok:Nat → Bool):Bool:=(List.range n).all ok
theorem zgm {n:Nat} {ok:Nat → Bool}:allN n ok = true ↔ ∀ i,i < n → ok i = true:=by simp [allN]
theorem loop_allN {S A:Type} {F:(S → Option A) → S → Option A} (mk:Nat → S) (n:Nat) (ok:Nat → Bool) (K B:Option A) {x0:S} (hx:x0 = mk 0) (hn:n < 4611686018427387904)
  (hstep:∀ rec i,i < n → F rec (mk i) = if ok i = true then rec (mk (i + 1)) else B) (hend:∀ rec,F rec (mk n) = K):loop F x0 = if allN n ok = true then K else B:=by
 rw [zom mk n ok K B hx hn hstep hend]
 by_cases h:allN n ok = true
 ·rw [if_pos h,if_pos (zgm.1 h)]
 ·rw [if_neg h,if_neg fun q=>h (zgm.2 q)]
theorem zmd {A:Type} {F:(Int → Option A) → Int → Option A} (n:Nat) (ok:Nat → Bool) (K B:Option A) (hn:n < 4611686018427387904)
  (hstep:∀ rec (i:Nat),i < n → F rec (i:Int) = if ok i = true then rec ((i + 1:Nat):Int) else B) (hend:∀ rec,F rec (n:Int) = K):loop F 0 = if allN n ok = true then K else B :=
 loop_allN (x0:=(0:Int)) (fun i=>(i:Int)) n ok K B rfl hn hstep hend
theorem allN_all {α:Type} [Inhabited α] (l:List α) (p:α → Bool):allN l.length (fun i=>p (l.getD i default)) = l.all p:=by
 rw [Bool.eq_iff_iff,zgm];exact zpo l p (fun i=>p (l.getD i default)) fun i hi=>by simp [hi]
theorem zde {α:Type} [Inhabited α] {l:List α} {i:Nat} (h:i < l.length):l.getD i default = l[i]:=by simp [h]
def inB (n a b:Int):Bool:=decide (a ≤ n) && decide (n ≤ b)
theorem in_eq (n a b:Int):zeo n a b = some (inB n a b):=rfl
def volB (v:Vol):Bool:=inB v.pool 0 1 && inB v.epoch 0 1048576 && ((decide (v.state = 2) && inB v.files 1 65535) || ((decide (v.state = 1) || decide (v.state = 3)) && decide (v.files = 0)))
def volsB (l:List Vol):Bool:=l.all volB && inB (l.length:Int) 1 8
theorem zue {α:Type} {b c:Bool} {x y:α} (h:b = !c):(if b = true then x else y) = if c = true then y else x:=by
 subst h; cases c <;> rfl
theorem vols_eq (l:List Vol) (hl:l.length ≤ 1073741824):zdn l = some (volsB l):=by
 unfold zdn;rw [zmd l.length (fun i=>volB (l.getD i default)) (some (inB (l.length:Int) 1 8)) (some false) (by omega) ?_ ?_,allN_all]
 ·unfold volsB;cases l.all volB <;> rfl
 ·intro rec i hi;simp only [zdn.l2];rw [if_t (lt_t hi),zfc hi,zav];simp only [in_eq,zgh,zav,zcf (show i < 4611686018427387904 by omega),zde hi];refine zue ?_;unfold volB;cases inB l[i].pool 0 1 <;> cases inB l[i].epoch 0 1048576 <;> cases decide (l[i].state = 2) <;> cases inB l[i].files 1 65535 <;> simp
 ·intro rec;simp only [zdn.l2,zdn.k1];rw [if_f (lt_f (Nat.lt_irrefl _))];rfl
def locB (vs:List Vol) (x:Loc):Bool:=inB x.vol 0 ((vs.length:Int) - 1) && decide ((vs.getD x.vol.toNat default).state = 2) && inB x.file 1 (vs.getD x.vol.toNat default).files && inB x.off 0 16777215 && inB x.len 13 8013
def afterB (a b:Loc):Bool:=if a.vol ≠ b.vol then decide (b.vol < a.vol) else if a.file ≠ b.file then decide (b.file < a.file) else decide (b.off < a.off)
theorem after_eq (a b:Loc):zjc a b = some (afterB a b):=by
 unfold zjc afterB;simp only [decide_eq_true_eq]
 split
 ·rfl
 ·split <;> rfl
def locOk (vs:List Vol) (l:List Loc) (i:Nat):Bool:=locB vs (l.getD i default) && (!decide (0 < i) || afterB (l.getD i default) (l.getD (i - 1) default))
def zks (vs:List Vol) (l:List Loc):Bool:=decide (l.length ≤ 200) && allN l.length (locOk vs l)
theorem zmr {n a b:Int}:inB n a b = true ↔ a ≤ n ∧ n ≤ b:=by simp [inB]
theorem ix_int {α:Type} [Inhabited α] {l:List α} {i:Int} (h0:0 ≤ i) (h1:i ≤ (l.length:Int) - 1):ix l i = some (l.getD i.toNat default):=by
 obtain ⟨n,rfl⟩:∃ n:Nat,i = n:=⟨i.toNat,by omega⟩
 rw [zfc (by omega),Int.toNat_natCast,zde (by omega)]
theorem locs_eq (c:Catalog) (l:List Loc) (hv:c.vols.length ≤ 1073741824):zcx c l = some (zks c.vols l):=by
 unfold zcx zks
 by_cases hl:l.length ≤ 200
 ·rw [if_f (decide_eq_false (by omega))];rw [zmd l.length (locOk c.vols l) (some true) (some false) (by omega) ?_ ?_,decide_eq_true hl]
  ·cases allN l.length (locOk c.vols l) <;> rfl
  ·intro rec i hi;simp only [zcx.l2];rw [if_t (lt_t hi),zfc hi,zav];simp only [in_eq,zgh,zav,zff (show (-9223372036854775808:Int) ≤ (c.vols.length:Int) - 1 by omega) (by omega),zcf (show i < 4611686018427387904 by omega)];have e1:l.getD i default = l[i]:=zde hi;unfold locOk locB;rw [e1]
   by_cases h1:inB l[i].vol 0 ((c.vols.length:Int) - 1) = true
   ·obtain ⟨a0,a1⟩:=zmr.1 h1;rw [h1,ix_int a0 a1];simp only [zgh,zav,Bool.not_true,Bool.not_false,if_true]
    by_cases h0:0 < i
    ·have e2:ix l (wr ((i:Int) - 1)) = some (l.getD (i - 1) default):=by
      rw [znh h0 (by omega),zfc (show i - 1 < l.length by omega),zde (by omega)]
     rw [e2];have h0':decide ((0:Int) < (i:Int)) = true:=decide_eq_true (by omega);rw [h0',decide_eq_true h0];simp only [zgh,zav,after_eq];refine zue ?_;generalize inB l[i].off 0 16777215 = p;generalize inB l[i].len 13 8013 = q
     by_cases hs:(c.vols.getD l[i].vol.toNat default).state = 2
     ·simp only [hs,ne_eq,not_true_eq_false,decide_false,decide_true,Bool.or_self,Bool.false_or,Bool.not_false,if_true,Bool.true_and,Bool.and_true];generalize inB l[i].file 1 (c.vols.getD l[i].vol.toNat default).files = s;cases s <;> cases p <;> cases q <;> simp
     ·simp only [hs,ne_eq,not_false_eq_true,decide_true,decide_false,Bool.true_or,Bool.or_true,Bool.and_false,Bool.false_and,Bool.not_false,Bool.false_or]
    ·have h0':decide ((0:Int) < (i:Int)) = false:=decide_eq_false (by omega);rw [h0',decide_eq_false h0];simp only [Bool.and_false,zhf,zgh,zav,Bool.false_and,Bool.or_false,Bool.not_false,Bool.true_or,Bool.and_true];refine zue ?_;generalize inB l[i].off 0 16777215 = p;generalize inB l[i].len 13 8013 = q
     by_cases hs:(c.vols.getD l[i].vol.toNat default).state = 2
     ·simp only [hs,ne_eq,not_true_eq_false,decide_false,decide_true,Bool.or_self,Bool.false_or,Bool.not_false,if_true,Bool.true_and,Bool.and_true];generalize inB l[i].file 1 (c.vols.getD l[i].vol.toNat default).files = s;cases s <;> cases p <;> cases q <;> simp
     ·simp only [hs,ne_eq,not_false_eq_true,decide_true,decide_false,Bool.true_or,Bool.or_true,Bool.and_false,Bool.false_and,Bool.not_false,Bool.false_or]
   ·rw [Bool.not_eq_true] at h1;rw [h1];simp only [Bool.not_false,Bool.not_true,zhf,zav,Bool.true_or,Bool.false_and,Bool.and_false,if_false,if_true];rfl
  ·intro rec;simp only [zcx.l2,zcx.k1];rw [if_f (lt_f (Nat.lt_irrefl _))]
 ·rw [if_t (decide_eq_true (by omega)),decide_eq_false hl]; rfl
end Go.Wk.Lf
end
section
namespace Go.Wk.Lf
open Go.V Go.Sort Go.Proofs
def znt (f:Nat → Bool):Nat → Nat → Nat
 | _,0=>0
 | i,n + 1=>if f i = true then znt f (i + 1) n + 1 else 0
def preN (n:Nat) (f:Nat → Bool):Nat:=znt f 0 n
theorem firstN_le (f:Nat → Bool):∀ n i,znt f i n ≤ n
 | 0,i=>Nat.le_refl _
 | n + 1,i=>by unfold znt; split; exact Nat.succ_le_succ (firstN_le f n _); exact Nat.zero_le _
theorem zvr (f:Nat → Bool):∀ n i q,q < znt f i n → f (i + q) = true
 | 0,i,q,h=>by cases h
 | n + 1,i,q,h=>by
  unfold znt at h
  split at h
  ·cases q with
   | zero=>assumption
   | succ q=>have:=zvr f n (i + 1) q (by omega); rwa [show i + 1 + q = i + (q + 1) by omega] at this
  ·cases h
theorem firstN_no (f:Nat → Bool):∀ n i,znt f i n < n → f (i + znt f i n) = false
 | 0,i,h=>by cases h
 | n + 1,i,h=>by
  unfold znt at h ⊢
  split at h
  ·rename_i hf;rw [if_pos hf];have:=firstN_no f n (i + 1) (by omega); rwa [show i + 1 + znt f (i + 1) n = i + (znt f (i + 1) n + 1) by omega] at this
  ·rename_i hf;rw [if_neg hf,Nat.add_zero];simpa using hf
theorem preN_le (n:Nat) (f:Nat → Bool):preN n f ≤ n:=firstN_le f n 0
theorem preN_yes {n:Nat} {f:Nat → Bool} {q:Nat} (h:q < preN n f):f q = true:=by have:=zvr f n 0 q h; rwa [Nat.zero_add] at this
theorem preN_no {n:Nat} {f:Nat → Bool} (h:preN n f < n):f (preN n f) = false:=by have:=firstN_no f n 0 h; rwa [Nat.zero_add] at this
theorem znm {n:Nat} {f:Nat → Bool} {k:Nat} (hk:k ≤ n) (h1:∀ q,q < k → f q = true) (h2:k < n → f k = false):preN n f = k:=by
 rcases Nat.lt_trichotomy (preN n f) k with h | h | h
 ·have:=preN_no (n:=n) (f:=f) (by omega); rw [h1 _ h] at this; cases this
 ·exact h
 ·have:=preN_yes h; rw [h2 (by have:=preN_le n f; omega)] at this; cases this
theorem bs_loop {A:Type} {F:(Int × Int → Option A) → Int × Int → Option A} (n:Nat) (f:Nat → Bool) (K:Nat → Option A) (hn:n ≤ 1073741824) (hmono:∀ i j,i < j → j < n → f j = true → f i = true)
  (hstep:∀ rec (i j:Nat),i < j → j ≤ n → F rec ((i:Int),(j:Int)) = if f ((i + j) / 2) = true then rec ((((i + j) / 2 + 1:Nat):Int),(j:Int)) else rec ((i:Int),(((i + j) / 2:Nat):Int)))
  (hend:∀ rec (i:Nat),i ≤ n → F rec ((i:Int),(i:Int)) = K i):loop F (0,(n:Int)) = K (preN n f):=by
 refine zkk (S:=Int × Int) (fun s=>∃ i j:Nat,s = ((i:Int),(j:Int)) ∧ i ≤ j ∧ j ≤ n ∧ (∀ q,q < i → f q = true) ∧ ∀ q,j ≤ q → q < n → f q = false) (fun s=>(s.2 - s.1).toNat) ⟨0,n,rfl,Nat.zero_le _,Nat.le_refl _,fun q h=>by omega,fun q h1 h2=>by omega⟩ (by simp only; omega) ?_;rintro rec s ⟨i,j,rfl,hij,hjn,h1,h2⟩ hrec
 by_cases h:i = j
 ·subst h;rw [hend rec i hjn,znm hjn h1 fun h=>h2 i (Nat.le_refl _) h]
 ·have hlt:i < j:=by omega
  rw [hstep rec i j hlt hjn]
  by_cases hf:f ((i + j) / 2) = true
  ·rw [if_pos hf];refine hrec _ ⟨_,j,rfl,by omega,hjn,fun q hq=>?_,h2⟩ (by simp only; omega)
   by_cases hq2:q = (i + j) / 2
   ·rw [hq2]; exact hf
   ·exact hmono q ((i + j) / 2) (by omega) (by omega) hf
  ·rw [if_neg hf];refine hrec _ ⟨i,_,rfl,by omega,by omega,h1,fun q hq hqn=>?_⟩ (by simp only; omega)
   by_cases hq2:q = (i + j) / 2
   ·rw [hq2]; simpa using hf
   ·cases hfq:f q with
    | false=>rfl
    | true=>exact absurd (hmono ((i + j) / 2) q (by omega) hqn hfq) hf
theorem mid_eq {i j:Nat} (hi:i ≤ 1073741824) (hj:j ≤ 1073741824):wr ((wu (wr ((i:Int) + (j:Int)))) / 2 ^ (1:Int).toNat) = (((i + j) / 2:Nat):Int):=by
 have h1:wr ((i:Int) + (j:Int)) = ((i + j:Nat):Int):=by rw [zff (by omega) (by omega)]; omega
 have h2:wu (((i + j:Nat):Int)) = ((i + j:Nat):Int):=by
  show IntKind.u64.wrap _ = _;have:(((i + j:Nat):Int) % (2 ^ 64:Int)) = ((i + j:Nat):Int):=Int.emod_eq_of_lt (by omega) (by omega);exact this
 rw [h1,h2];have h3:(((i + j:Nat):Int)) / 2 ^ (1:Int).toNat = (((i + j) / 2:Nat):Int):=by
  show ((i + j:Nat):Int) / 2 ^ 1 = _;omega
 rw [h3,zff (by omega) (by omega)]
def placeN {α:Type} [Inhabited α] (l:List α) (lt:α → Bool):Nat:=preN l.length fun i=>lt (l.getD i default)
theorem cmpT_neg (a b:List UInt8):decide (cmpT a b < 0) = sLt a b:=by rw [← zut]; rfl
theorem cmpT_zero (a b:List UInt8):decide (cmpT a b = 0) = decide (a = b):=by
 have h1:=zut a b;have h2:=zut b a
 by_cases h:a = b
 ·subst h;have:cmpT a a = 0:=by unfold cmpT; rw [zhq]; rfl
  simp [this]
 ·have:cmpT a b ≠ 0:=by
   unfold cmpT
   by_cases h3:sLt a b = true
   ·simp [h3]
   ·by_cases h4:sLt b a = true
    ·simp [h3,h4]
    ·exact absurd (ztk (by simpa using h3) (by simpa using h4)) h
  simp [this,h]
theorem zus (a b:List UInt8):zjb a b = some (cmpT a b):=rfl
def zml (l:List Chunk):Prop:=l.Pairwise fun a b=>sLt a.id b.id = true
theorem pair_lt {α:Type} {R:α → α → Prop} {l:List α} (h:l.Pairwise R) {i j:Nat} (hij:i < j) (hj:j < l.length):R (l[i]'(by omega)) l[j]:=List.pairwise_iff_getElem.1 h i j (by omega) hj hij
def zhz (l:List Chunk) (id:List UInt8):Nat:=placeN l fun x=>sLt x.id id
def zsi (l:List Chunk) (id:List UInt8):Bool:=decide (zhz l id < l.length) && decide ((l.getD (zhz l id) default).id = id)
theorem zwm (l:List Chunk) (id:List UInt8) (hl:l.length ≤ 1073741824) (hr:zml l) :
  zgx l id = some (((zhz l id:Nat):Int),zsi l id):=by
 unfold zgx;rw [show zac l id = some (((zhz l id:Nat):Int),zsi l id) from ?_]
 ·rfl
 unfold zsi zhz placeN zac;refine bs_loop l.length (fun i=>sLt (l.getD i default).id id) (fun k=>some ((k:Int),decide (k < l.length) && decide ((l.getD k default).id = id))) hl ?_ ?_ ?_
 ·intro i j hij hj h;rw [zde hj] at h;rw [zde (by omega)];exact zib (pair_lt hr hij hj) h
 ·intro rec i j hij hj;simp only [zac.l2];have hm:(i + j) / 2 < l.length:=by omega
  rw [if_t (lt_t hij),mid_eq (by omega) (by omega),zfc hm,zav];simp only [zgs,zus,zav,cmpT_neg,zde hm,zcf (show (i + j) / 2 < 4611686018427387904 by omega)]
 ·intro rec i hi;simp only [zac.l2,zac.k1];rw [if_f (lt_f (Nat.lt_irrefl _))]
  by_cases h:i < l.length
  ·simp only [lt_t h,zfc h,zgh,zav,if_true,zgs,zus,Bool.true_and,zde h,decide_eq_true h,cmpT_zero]
  ·simp only [lt_f h,zhf,zav,Bool.false_and,decide_eq_false h]
theorem chunkAt_le (l:List Chunk) (id:List UInt8):zhz l id ≤ l.length:=preN_le _ _
theorem zqk {l:List Chunk} (hr:zml l) (id:List UInt8):zsi l id = true ↔ ∃ x ∈ l,x.id = id:=by
 unfold zsi;simp only [Bool.and_eq_true,decide_eq_true_eq];constructor
 ·rintro ⟨h1,h2⟩;rw [zde h1] at h2;exact ⟨_,List.getElem_mem h1,h2⟩
 ·rintro ⟨x,hx,rfl⟩;obtain ⟨i,hi,rfl⟩:=List.getElem_of_mem hx;have:zhz l l[i].id = i:=znm (Nat.le_of_lt hi) (fun q hq=>by
   rw [zde (by omega)]; exact pair_lt hr hq hi) (fun _=>by rw [zde hi]; exact zhq _)
  rw [this];exact ⟨hi,by rw [zde hi]⟩
end Go.Wk.Lf
end
section
namespace Go.Wk.Lf
open Go.V Go.Sort Go.Proofs
def findI (n:Nat) (p:Nat → Bool):Int:=if preN n (fun i=>!p i) < n then (preN n (fun i=>!p i):Int) else -1
theorem zra {F:(Int → Option Int) → Int → Option Int} (n:Nat) (p:Nat → Bool) (hn:n < 4611686018427387904) (hstep:∀ rec (i:Nat),i < n → F rec (i:Int) = if p i = true then some (i:Int) else rec ((i + 1:Nat):Int)) (hend:∀ rec,F rec (n:Int) = some (-1)):loop F 0 = some (findI n p):=by
 refine zfq (σ:=Unit) (fun i _=>(i:Int)) n (fun i _=>∀ q,q < i → p q = false) _ (i0:=0) (s0:=()) rfl (Nat.zero_le _) (fun q h=>by omega) hn ?_ ?_
 ·intro rec i _ hi hI hrec;rw [hstep rec i hi]
  by_cases h:p i = true
  ·rw [if_pos h];have hk:preN n (fun i=>!p i) = i:=znm (Nat.le_of_lt hi) (fun q hq=>by rw [hI q hq]; rfl) (fun _=>by rw [h]; rfl);unfold findI;rw [hk,if_pos hi]
  ·rw [if_neg h];refine hrec () fun q hq=>?_
   by_cases hq2:q = i
   ·subst hq2; simpa using h
   ·exact hI q (by omega)
 ·intro rec _ hI;rw [hend];unfold findI;rw [show preN n (fun i=>!p i) = n from znm (Nat.le_refl _) (fun q hq=>by rw [hI q hq]; rfl) (fun h=>by omega),if_neg (Nat.lt_irrefl _)]
theorem znu {n:Nat} {p:Nat → Bool}:decide (0 ≤ findI n p) = !allN n (fun i=>!p i):=by
 unfold findI
 by_cases h:preN n (fun i=>!p i) < n
 ·rw [if_pos h];have:allN n (fun i=>!p i) = false:=by
   cases hq:allN n (fun i=>!p i) with
   | false=>rfl
   | true=>have:=zgm.1 hq _ h; rw [preN_no h] at this; cases this
  rw [this];simp
 ·rw [if_neg h];have h2:=preN_le n (fun i=>!p i);have:allN n (fun i=>!p i) = true:=zgm.2 fun i hi=>preN_yes (n:=n) (f:=fun i=>!p i) (by omega);rw [this]; rfl
theorem cmpT_nn (a b:List UInt8):decide (0 ≤ cmpT a b) = !sLt a b:=by
 rw [← cmpT_neg]
 by_cases h:cmpT a b < 0
 ·simp [h]
 ·simp [h]; omega
def chunkB (x:Chunk):Bool:=if x.staged = true then inB (x.data.length:Int) 1 64 else decide (x.data.length = 0) && decide (0 < x.locs.length)
def znz (c:Catalog) (i:Nat):Bool:=(!decide (0 < i) || sLt (c.chunks.getD (i - 1) default).id (c.chunks.getD i default).id) && zks c.vols (c.chunks.getD i default).locs && chunkB (c.chunks.getD i default)
def zky (c:Catalog):Bool:=allN c.chunks.length (znz c) && decide (c.chunks.length ≤ 200)
theorem chunks_eq (c:Catalog) (hv:c.vols.length ≤ 1073741824) (hl:c.chunks.length ≤ 1073741824):zct c = some (zky c):=by
 unfold zct;rw [zmd c.chunks.length (znz c) (some (decide (c.chunks.length ≤ 200))) (some false) (by omega) ?_ ?_]
 ·unfold zky;cases allN c.chunks.length (znz c) <;> rfl
 ·intro rec i hi;simp only [zct.l2];rw [if_t (lt_t hi),zfc hi,zav];have e1:c.chunks.getD i default = c.chunks[i]:=zde hi;simp only [in_eq,zgh,zav,locs_eq _ _ hv,zcf (show i < 4611686018427387904 by omega),zus];have key:∀ (o:Bool) (x:Chunk),(if ((((o || !(if (!o) = true then zks c.vols x.locs else false)) || ((!x.staged) && (decide (0 < (x.data.length:Int)) || decide ((x.locs.length:Int) = 0)))) || (x.staged && !(if ((!((o || !(if (!o) = true then zks c.vols x.locs else false)) || ((!x.staged) && (decide (0 < (x.data.length:Int)) || decide ((x.locs.length:Int) = 0))))) && x.staged) = true then inB (x.data.length:Int) 1 64 else false)))) = true then some false else rec ((i + 1:Nat):Int)) = if (!o && zks c.vols x.locs && chunkB x) = true then rec ((i + 1:Nat):Int) else some false:=by
   intro o x;refine zue ?_;unfold chunkB;have d1:decide ((0:Int) < (x.data.length:Int)) = !decide (x.data.length = 0):=by
    by_cases h:x.data.length = 0
    ·simp [h]
    ·rw [decide_eq_false h,decide_eq_true (by omega)]; rfl
   have d2:decide ((x.locs.length:Int) = 0) = !decide (0 < x.locs.length):=by
    by_cases h:0 < x.locs.length
    ·rw [decide_eq_true h,decide_eq_false (by omega)]; rfl
    ·rw [decide_eq_false h,decide_eq_true (by omega)]; rfl
   rw [d1,d2];generalize decide (x.data.length = 0) = p;generalize decide (0 < x.locs.length) = q;generalize inB (x.data.length:Int) 1 64 = s;generalize zks c.vols x.locs = u;generalize x.staged = v;cases o <;> cases p <;> cases q <;> cases s <;> cases u <;> cases v <;> rfl
  by_cases h0:0 < i
  ·have e2:ix c.chunks (wr ((i:Int) - 1)) = some (c.chunks.getD (i - 1) default):=by
    rw [znh h0 (by omega),zfc (show i - 1 < c.chunks.length by omega),zde (by omega)]
   have h0':decide ((0:Int) < (i:Int)) = true:=decide_eq_true (by omega);rw [e2,h0'];simp only [zgh,zav,if_true,Bool.true_and,cmpT_nn];refine (key _ _).trans ?_;unfold znz;rw [e1,decide_eq_true h0];simp only [Bool.not_not,Bool.not_true,Bool.false_or]
  ·have h0':decide ((0:Int) < (i:Int)) = false:=decide_eq_false (by omega);rw [h0'];simp only [zhf,zav,Bool.false_and];refine (key _ _).trans ?_;unfold znz;rw [e1,decide_eq_false h0];rfl
 ·intro rec;simp only [zct.l2,zct.k1];rw [if_f (lt_f (Nat.lt_irrefl _))]
  congr 1
  by_cases h:c.chunks.length ≤ 200
  ·rw [decide_eq_true h,decide_eq_true (by omega)]
  ·rw [decide_eq_false h,decide_eq_false (by omega)]
theorem zxn {c:Catalog} (h:zky c = true):zml c.chunks:=by
 unfold zky at h;rw [Bool.and_eq_true,zgm] at h;refine (zoh (fun a b:Chunk=>sLt a.id b.id = true) (fun h1 h2=>zib h1 h2) c.chunks).2 fun i hi h0=>?_;have:=h.1 i hi;unfold znz at this;rw [zde hi,zde (show i - 1 < c.chunks.length by omega),decide_eq_true h0] at this;simp only [Bool.not_true,Bool.false_or,Bool.and_eq_true] at this;exact this.1.1
instance (m : Manifest) : Decidable (manB m) := by unfold manB ztn; infer_instance
def idsIn (c:Catalog) (m:Manifest):Bool:=allN m.parts.length fun i=>allN (m.parts.getD i default).ids.length fun k=>zsi c.chunks ((m.parts.getD i default).ids.getD k default)
def zti (c:Catalog) (i:Nat):Bool:=inB (c.snaps.getD i default).seq 0 (c.seq - 1) && (!decide (0 < i) || decide ((c.snaps.getD (i - 1) default).seq < (c.snaps.getD i default).seq)) && !decide ((c.snaps.getD i default).man.name ∈ (c.snaps.take i).map fun s=>s.man.name) && decide (manB (c.snaps.getD i default).man) && zks c.vols (c.snaps.getD i default).locs && idsIn c (c.snaps.getD i default).man
def zni (c:Catalog):Bool:=allN c.snaps.length (zti c) && decide (c.snaps.length ≤ 8)
def zmx (l:List Snap):List UInt8 → Option Bool:=fun k=>if k ∈ l.map (fun s=>s.man.name) then some true else none
theorem namesM_put (l:List Snap) (s:Snap):mput (zmx l) s.man.name true = zmx (l ++ [s]):=by
 funext k
 simp only [mput,zmx,List.map_append,List.map_cons,List.map_nil,List.mem_append,List.mem_singleton]
 by_cases h:k = s.man.name
 ·simp [h]
 ·simp [h]
theorem snaps_eq (c:Catalog) (hv:c.vols.length ≤ 1073741824) (hc:c.chunks.length ≤ 1073741824) (hr:zml c.chunks) (hl:c.snaps.length ≤ 1073741824) (h0:0 ≤ c.seq) (h1:c.seq ≤ 1073741824):zbc c = some (zni c):=by
 unfold zbc;rw [show ((0:Int),(mnil:List UInt8 → Option Bool)) = ((fun i:Nat=>((i:Int),zmx (c.snaps.take i))) 0) from by simp [zmx]; rfl];rw [loop_allN (fun i:Nat=>((i:Int),zmx (c.snaps.take i))) c.snaps.length (zti c) (some (decide (c.snaps.length ≤ 8))) (some false) rfl (by omega) ?_ ?_]
 ·unfold zni;cases allN c.snaps.length (zti c) <;> rfl
 ·intro rec i hi;simp only [zbc.l2];rw [if_t (lt_t hi),zfc hi,zav];have e1:c.snaps.getD i default = c.snaps[i]:=zde hi;simp only [in_eq,zgh,zav,locs_eq _ _ hv,mcheck_eq,zff (show (-9223372036854775808:Int) ≤ c.seq - 1 by omega) (by omega)];have hm:(zmx (c.snaps.take i) c.snaps[i].man.name).getD false = decide (c.snaps[i].man.name ∈ (c.snaps.take i).map fun s=>s.man.name):=by
   unfold zmx
   by_cases h:c.snaps[i].man.name ∈ (c.snaps.take i).map fun s=>s.man.name
   ·rw [if_pos h,decide_eq_true h]; rfl
   ·rw [if_neg h,decide_eq_false h]; rfl
  rw [hm];have hin:manB c.snaps[i].man → loop (zbc.l4 c (i:Int) (zmx (c.snaps.take i)) rec c.snaps[i]) 0 = if idsIn c c.snaps[i].man = true then rec (((i + 1:Nat):Int),zmx (c.snaps.take (i + 1))) else some false:=by
   intro hman;refine zmd c.snaps[i].man.parts.length _ _ _ (by have:=hman.2.1; omega) ?_ ?_
   ·intro rec2 j hj;simp only [zbc.l4];rw [if_t (lt_t hj),zfc hj,zav,zde hj];have hids:c.snaps[i].man.parts[j].ids.length ≤ 25:=(zlz (zik hman _ (List.getElem_mem hj))).2.2.2.1;refine zmd c.snaps[i].man.parts[j].ids.length _ _ _ (by omega) ?_ ?_
    ·intro rec3 k hk;simp only [zbc.l6];rw [if_t (lt_t hk),zfc hk,zav,zwm _ _ hc hr,zav,zde hk,zcf (by omega)];exact zue rfl
    ·intro rec3;simp only [zbc.l6,zbc.k5];rw [if_f (lt_f (Nat.lt_irrefl _)),zcf (by have:=hman.2.1; omega)]
   ·intro rec2;simp only [zbc.l4,zbc.k3];rw [if_f (lt_f (Nat.lt_irrefl _)),zcf (by omega),namesM_put,zdp hi]
  have key:∀ (o:Bool),(if ((((!inB c.snaps[i].seq 0 (c.seq - 1) || o) || decide (c.snaps[i].man.name ∈ (c.snaps.take i).map fun s=>s.man.name)) || decide ((if (!((!inB c.snaps[i].seq 0 (c.seq - 1) || o) || decide (c.snaps[i].man.name ∈ (c.snaps.take i).map fun s=>s.man.name))) = true then (if manB c.snaps[i].man then (0:Int) else 1) else 0) ≠ 0)) || !(if (!(((!inB c.snaps[i].seq 0 (c.seq - 1) || o) || decide (c.snaps[i].man.name ∈ (c.snaps.take i).map fun s=>s.man.name)) || decide ((if (!((!inB c.snaps[i].seq 0 (c.seq - 1) || o) || decide (c.snaps[i].man.name ∈ (c.snaps.take i).map fun s=>s.man.name))) = true then (if manB c.snaps[i].man then (0:Int) else 1) else 0) ≠ 0))) = true then zks c.vols c.snaps[i].locs else false)) = true then some false else loop (zbc.l4 c (i:Int) (zmx (c.snaps.take i)) rec c.snaps[i]) 0) =
    if (inB c.snaps[i].seq 0 (c.seq - 1) && !o && !decide (c.snaps[i].man.name ∈ (c.snaps.take i).map fun s=>s.man.name) && decide (manB c.snaps[i].man) && zks c.vols c.snaps[i].locs && idsIn c c.snaps[i].man) = true then rec (((i + 1:Nat):Int),zmx (c.snaps.take (i + 1))) else some false:=by
   intro o
   by_cases hman:manB c.snaps[i].man
   ·rw [hin hman];simp only [hman,if_true,decide_true];generalize idsIn c c.snaps[i].man = p;generalize zks c.vols c.snaps[i].locs = q;generalize decide (c.snaps[i].man.name ∈ (c.snaps.take i).map fun s=>s.man.name) = s;generalize inB c.snaps[i].seq 0 (c.seq - 1) = u;cases o <;> cases p <;> cases q <;> cases s <;> cases u <;> rfl
   ·simp only [hman,if_false,decide_false];generalize idsIn c c.snaps[i].man = p;generalize zks c.vols c.snaps[i].locs = q;generalize decide (c.snaps[i].man.name ∈ (c.snaps.take i).map fun s=>s.man.name) = s;generalize inB c.snaps[i].seq 0 (c.seq - 1) = u;cases o <;> cases p <;> cases q <;> cases s <;> cases u <;> rfl
  by_cases hi0:0 < i
  ·have e2:ix c.snaps (wr ((i:Int) - 1)) = some (c.snaps.getD (i - 1) default):=by
    rw [znh hi0 (by omega),zfc (show i - 1 < c.snaps.length by omega),zde (by omega)]
   have h0':decide ((0:Int) < (i:Int)) = true:=decide_eq_true (by omega);rw [e2,h0'];simp only [zgh,zav,Bool.true_and,Bool.and_true];have hdd:∀ z:Snap,(!inB c.snaps[i].seq 0 (c.seq - 1) || decide (c.snaps[i].seq ≤ (if (!!inB c.snaps[i].seq 0 (c.seq - 1)) = true then c.snaps.getD (i - 1) default else z).seq)) = (!inB c.snaps[i].seq 0 (c.seq - 1) || !decide ((c.snaps.getD (i - 1) default).seq < c.snaps[i].seq)):=by
    intro z;cases inB c.snaps[i].seq 0 (c.seq - 1) with
    | false=>rfl
    | true =>
     simp only [Bool.not_true,Bool.not_false,if_true,Bool.false_or]
     by_cases h:(c.snaps.getD (i - 1) default).seq < c.snaps[i].seq
     ·rw [decide_eq_true h,decide_eq_false (by omega)]; rfl
     ·rw [decide_eq_false h,decide_eq_true (by omega)]; rfl
   rw [hdd];refine (key _).trans ?_;unfold zti;rw [e1,decide_eq_true hi0];simp only [Bool.not_not,Bool.not_true,Bool.false_or]
  ·have h0':decide ((0:Int) < (i:Int)) = false:=decide_eq_false (by omega);rw [h0'];simp only [Bool.and_false,Bool.false_and,zhf,zav];refine (key _).trans ?_;unfold zti;rw [e1,decide_eq_false hi0];rfl
 ·intro rec;simp only [zbc.l2,zbc.k1];rw [if_f (lt_f (Nat.lt_irrefl _))]
  congr 1
  by_cases h:c.snaps.length ≤ 8
  ·rw [decide_eq_true h,decide_eq_true (by omega)]
  ·rw [decide_eq_false h,decide_eq_false (by omega)]
def expOk (c:Catalog) (i:Nat):Bool:=inB (c.exps.getD i default).seq 0 (c.seq - 1) && (!decide (0 < i) || decide ((c.exps.getD (i - 1) default).seq < (c.exps.getD i default).seq)) && inB (c.exps.getD i default).of 0 ((c.exps.getD i default).seq - 1) && decide (0 < (c.exps.getD i default).locs.length) && zks c.vols (c.exps.getD i default).locs && allN c.snaps.length fun k=>!decide ((c.snaps.getD k default).seq = (c.exps.getD i default).of)
def zuq (c:Catalog):Bool:=allN c.exps.length (expOk c) && decide (c.exps.length ≤ 200)
theorem contains_exp (l:List Snap) (x:Exp) (hl:l.length ≤ 1073741824):zbn l x = some (!allN l.length fun k=>!decide ((l.getD k default).seq = x.of)):=by
 unfold zbn zaj;rw [zra l.length (fun k=>decide ((l.getD k default).seq = x.of)) (by omega) ?_ ?_,zav,znu]
 ·intro rec i hi;simp only [zaj.l2];rw [if_t (lt_t hi),zfc hi,zav,zde hi,zcf (by omega)];rfl
 ·intro rec;simp only [zaj.l2,zaj.k1];rw [if_f (lt_f (Nat.lt_irrefl _))]
theorem exps_eq (c:Catalog) (hv:c.vols.length ≤ 1073741824) (hs:c.snaps.length ≤ 1073741824) (hl:c.exps.length ≤ 1073741824) (h0:0 ≤ c.seq) (h1:c.seq ≤ 1073741824):zdo c = some (zuq c):=by
 unfold zdo;rw [zmd c.exps.length (expOk c) (some (decide (c.exps.length ≤ 200))) (some false) (by omega) ?_ ?_]
 ·unfold zuq;cases allN c.exps.length (expOk c) <;> rfl
 ·intro rec i hi;simp only [zdo.l2];rw [if_t (lt_t hi),zfc hi,zav];have e1:c.exps.getD i default = c.exps[i]:=zde hi;simp only [in_eq,zgh,zav,locs_eq _ _ hv,contains_exp _ _ hs,zff (show (-9223372036854775808:Int) ≤ c.seq - 1 by omega) (by omega),zcf (show i < 4611686018427387904 by omega)];have d2:decide ((c.exps[i].locs.length:Int) = 0) = !decide (0 < c.exps[i].locs.length):=by
   by_cases h:0 < c.exps[i].locs.length
   ·rw [decide_eq_true h,decide_eq_false (by omega)]; rfl
   ·rw [decide_eq_false h,decide_eq_true (by omega)]; rfl
  rw [d2];have hw:inB c.exps[i].seq 0 (c.seq - 1) = true → wr (c.exps[i].seq - 1) = c.exps[i].seq - 1:=fun h=>by
   obtain ⟨q1,q2⟩:=zmr.1 h;exact zff (by omega) (by omega)
  have key:∀ (o:Bool),(if ((((!inB c.exps[i].seq 0 (c.seq - 1) || o) || !(if (!(!inB c.exps[i].seq 0 (c.seq - 1) || o)) = true then inB c.exps[i].of 0 (wr (c.exps[i].seq - 1)) else false)) || !decide (0 < c.exps[i].locs.length)) || !(if (!(((!inB c.exps[i].seq 0 (c.seq - 1) || o) || !(if (!(!inB c.exps[i].seq 0 (c.seq - 1) || o)) = true then inB c.exps[i].of 0 (wr (c.exps[i].seq - 1)) else false)) || !decide (0 < c.exps[i].locs.length))) = true then zks c.vols c.exps[i].locs else false)) = true then some false else if (!allN c.snaps.length fun k=>!decide ((c.snaps.getD k default).seq = c.exps[i].of)) = true then some false else rec ((i + 1:Nat):Int)) =
    if (inB c.exps[i].seq 0 (c.seq - 1) && !o && inB c.exps[i].of 0 (c.exps[i].seq - 1) && decide (0 < c.exps[i].locs.length) && zks c.vols c.exps[i].locs && allN c.snaps.length fun k=>!decide ((c.snaps.getD k default).seq = c.exps[i].of)) = true then rec ((i + 1:Nat):Int) else some false:=by
   intro o;cases hin:inB c.exps[i].seq 0 (c.seq - 1) with
   | false=>rfl
   | true =>
    rw [hw hin];generalize (allN c.snaps.length fun k=>!decide ((c.snaps.getD k default).seq = c.exps[i].of)) = p;generalize zks c.vols c.exps[i].locs = q;generalize decide (0 < c.exps[i].locs.length) = s;generalize inB c.exps[i].of 0 (c.exps[i].seq - 1) = u;cases o <;> cases p <;> cases q <;> cases s <;> cases u <;> rfl
  by_cases hi0:0 < i
  ·have e2:ix c.exps (wr ((i:Int) - 1)) = some (c.exps.getD (i - 1) default):=by
    rw [znh hi0 (by omega),zfc (show i - 1 < c.exps.length by omega),zde (by omega)]
   have h0':decide ((0:Int) < (i:Int)) = true:=decide_eq_true (by omega);rw [e2,h0'];simp only [zgh,zav,Bool.true_and,Bool.and_true];have hdd:∀ z:Exp,(!inB c.exps[i].seq 0 (c.seq - 1) || decide (c.exps[i].seq ≤ (if (!!inB c.exps[i].seq 0 (c.seq - 1)) = true then c.exps.getD (i - 1) default else z).seq)) = (!inB c.exps[i].seq 0 (c.seq - 1) || !decide ((c.exps.getD (i - 1) default).seq < c.exps[i].seq)):=by
    intro z;cases inB c.exps[i].seq 0 (c.seq - 1) with
    | false=>rfl
    | true =>
     simp only [Bool.not_true,Bool.not_false,if_true,Bool.false_or]
     by_cases h:(c.exps.getD (i - 1) default).seq < c.exps[i].seq
     ·rw [decide_eq_true h,decide_eq_false (by omega)]; rfl
     ·rw [decide_eq_false h,decide_eq_true (by omega)]; rfl
   rw [hdd];refine (key _).trans ?_;unfold expOk;rw [e1,decide_eq_true hi0];simp only [Bool.not_not,Bool.not_true,Bool.false_or]
  ·have h0':decide ((0:Int) < (i:Int)) = false:=decide_eq_false (by omega);rw [h0'];simp only [Bool.and_false,Bool.false_and,zhf,zav];refine (key _).trans ?_;unfold expOk;rw [e1,decide_eq_false hi0];rfl
 ·intro rec;simp only [zdo.l2,zdo.k1];rw [if_f (lt_f (Nat.lt_irrefl _))]
  congr 1
  by_cases h:c.exps.length ≤ 200
  ·rw [decide_eq_true h,decide_eq_true (by omega)]
  ·rw [decide_eq_false h,decide_eq_false (by omega)]
def catB (c:Catalog):Bool:=inB c.seq 0 1073741824 && volsB c.vols && zky c && zni c && zuq c
theorem check_eq (c:Catalog) (hv:c.vols.length ≤ 1073741824) (hc:c.chunks.length ≤ 1073741824) (hs:c.snaps.length ≤ 1073741824) (he:c.exps.length ≤ 1073741824):zjd c = some (if catB c = true then 0 else 1):=by
 unfold zjd catB;rw [in_eq,zav,vols_eq _ hv,zgh,zav,chunks_eq _ hv hc,zgh,zav];cases h1:inB c.seq 0 1073741824 with
 | false=>rfl
 | true =>
  obtain ⟨s0,s1⟩:=zmr.1 h1;rw [exps_eq c hv hs he s0 s1];cases h2:volsB c.vols with
  | false=>rfl
  | true =>
   cases h3:zky c with
   | false=>rfl
   | true =>
    rw [snaps_eq c hv hc (zxn h3) hs s0 s1];cases h4:zni c with
    | false=>rfl
    | true=>cases h5:zuq c <;> rfl
end Go.Wk.Lf
end
section
namespace Go.Wk.Lf
open Go.V Go.Sort Go.Proofs
def smallK (x:Chunk):Prop:=x.data.length ≤ 1073741824 ∧ x.locs.length ≤ 1073741824
def smallM (m:Manifest):Prop:=m.parts.length ≤ 1073741824 ∧ ∀ p ∈ m.parts,p.ids.length ≤ 1073741824
def smallS (s:Snap):Prop:=smallM s.man ∧ s.locs.length ≤ 1073741824
def smallC (c:Catalog):Prop:=c.vols.length ≤ 1073741824 ∧ (c.chunks.length ≤ 1073741824 ∧ ∀ x ∈ c.chunks,smallK x) ∧ (c.snaps.length ≤ 1073741824 ∧ ∀ s ∈ c.snaps,smallS s) ∧ c.exps.length ≤ 1073741824 ∧ ∀ x ∈ c.exps,x.locs.length ≤ 1073741824
theorem zkr {α A:Type} {F:(Int × List α → Option A) → Int × List α → Option A} (l:List α) (g:α → α) (K:List α → Option A) (hn:l.length < 4611686018427387904)
  (hstep:∀ rec (i:Nat) (m:List α) (hi:i < l.length) (hm:m.length = l.length),m[i]? = some l[i] → F rec ((i:Int),m) = rec (((i + 1:Nat):Int),m.set i (g l[i]))) (hend:∀ rec m,m.length = l.length → F rec ((l.length:Int),m) = K m):loop F (0,l) = K (l.map g):=by
 refine zfq (σ:=List α) (fun i m=>((i:Int),m)) l.length (fun i m=>m = (l.take i).map g ++ l.drop i) _ (i0:=0) (s0:=l) rfl (Nat.zero_le _) (by simp) hn ?_ ?_
 ·intro rec i m hi hI hrec;have hml:m.length = l.length:=by rw [hI]; simp; omega
  have hmi:m[i]? = some l[i]:=by
   rw [hI,List.getElem?_append_right (by simp; omega)];simp [Nat.min_eq_left (Nat.le_of_lt hi),hi]
  rw [hstep rec i m hi hml hmi];refine hrec _ ?_;rw [hI,List.set_append_right _ _ (by simp; omega),zdp hi,List.map_append,List.append_assoc]
  congr 1
  rw [List.length_map,List.length_take,Nat.min_eq_left (Nat.le_of_lt hi),Nat.sub_self,List.drop_eq_getElem_cons hi];rfl
 ·intro rec m hI;have hml:m.length = l.length:=by rw [hI]; simp
  rw [hend rec m hml,hI,List.take_length,List.drop_length,List.append_nil]
theorem ziz {α:Type} (l:List α) (hl:l.length ≤ 1073741824):(bd (app (α:=α) ([]:List α) l) fun l6=>some l6) = some l:=by
 rw [zdb (by simpa using hl),zav,List.nil_append]
theorem ix_of {α:Type} {m:List α} {i:Nat} {x:α} (h:m[i]? = some x):ix m (i:Int) = some x:=h
theorem twinMan_eq (m:Manifest) (h:smallM m):zco m = some m:=by
 unfold zco zdt;rw [ziz _ h.1,zav,zkr m.parts id (fun l=>some (Manifest.mk m.name l)) (by have:=h.1; omega) ?_ ?_,List.map_id]
 ·intro rec i l hi hm hx;simp only [zco.l2];rw [if_t (lt_t hi),ix_of hx,zav,cloneI_eq _ (h.2 _ (List.getElem_mem hi)),zav,zcf (by have:=h.1; omega)];rfl
 ·intro rec l hl;simp only [zco.l2,zco.k1];rw [if_f (lt_f (Nat.lt_irrefl _))]
theorem twinCat_eq (c:Catalog) (h:smallC c):zbh c = some c:=by
 obtain ⟨hv,⟨hc,hc2⟩,⟨hs,hs2⟩,he,he2⟩:=h;unfold zbh zds zdk zeg zcu;rw [ziz _ hs,zav,ziz _ hc,zav,ziz _ he,zav,ziz _ hv,zav];have k3:∀ (sn:List Snap) (ch:List Chunk),zbh.k2 c c.exps c.vols sn ch = some (Catalog.mk c.seq sn ch c.exps c.vols):=by
  intro sn ch;unfold zbh.k2;rw [zkr c.exps id (fun l=>some (Catalog.mk c.seq sn ch l c.vols)) (by omega) ?_ ?_,List.map_id]
  ·intro rec i l hi hm hx;simp only [zbh.l4,zbm];rw [if_t (lt_t hi),ix_of hx,zav,ziz _ (he2 _ (List.getElem_mem hi)),zav,zcf (by omega)];rfl
  ·intro rec l hl;simp only [zbh.l4,zbh.k3];rw [if_f (lt_f (Nat.lt_irrefl _))]
 have k2:∀ (sn:List Snap),zbh.k1 c c.chunks c.exps c.vols sn = some (Catalog.mk c.seq sn c.chunks c.exps c.vols):=by
  intro sn;unfold zbh.k1;rw [zkr c.chunks id (fun l=>some (Catalog.mk c.seq sn l c.exps c.vols)) (by omega) ?_ ?_,List.map_id]
  ·intro rec i l hi hm hx;simp only [zbh.l5,zbm];have hk:=hc2 _ (List.getElem_mem hi);rw [if_t (lt_t hi),ix_of hx,zav,cloneB_eq _ hk.1,zav,ziz _ hk.2,zav,zcf (by omega),List.set_set];rfl
  ·intro rec l hl;simp only [zbh.l5];rw [if_f (lt_f (Nat.lt_irrefl _))];exact k3 sn l
 rw [zkr c.snaps id (fun l=>some (Catalog.mk c.seq l c.chunks c.exps c.vols)) (by omega) ?_ ?_,List.map_id]
 ·intro rec i l hi hm hx;simp only [zbh.l6,zbm];have hk:=hs2 _ (List.getElem_mem hi);rw [if_t (lt_t hi),ix_of hx,zav,twinMan_eq _ hk.1,zav,ziz _ hk.2,zav,zcf (by omega),List.set_set];rfl
 ·intro rec l hl;simp only [zbh.l6];rw [if_f (lt_f (Nat.lt_irrefl _))];exact k2 l
theorem catB_small {c:Catalog} (h:catB c = true):smallC c:=by
 unfold catB volsB zky zni zuq at h;simp only [Bool.and_eq_true,decide_eq_true_eq,zgm,zmr] at h;obtain ⟨⟨⟨⟨_,_,_,hv⟩,hc,hcl⟩,hs,hsl⟩,he,hel⟩:=h;have hloc:∀ l,zks c.vols l = true → l.length ≤ 1073741824:=fun l h=>by
  unfold zks at h;rw [Bool.and_eq_true,decide_eq_true_eq] at h;omega
 refine ⟨by omega,⟨by omega,fun x hx=>?_⟩,⟨by omega,fun x hx=>?_⟩,by omega,fun x hx=>?_⟩
 ·obtain ⟨i,hi,rfl⟩:=List.getElem_of_mem hx;have:=hc i hi;unfold znz chunkB at this;rw [zde hi] at this;simp only [Bool.and_eq_true] at this;refine ⟨?_,hloc _ this.1.2⟩;have h2:=this.2
  split at h2
  ·have:=zmr.1 h2; omega
  ·simp only [Bool.and_eq_true,decide_eq_true_eq] at h2; omega
 ·obtain ⟨i,hi,rfl⟩:=List.getElem_of_mem hx;have:=hs i hi;unfold zti at this;rw [zde hi] at this;simp only [Bool.and_eq_true,decide_eq_true_eq] at this;have hm:=this.1.1.2;exact ⟨⟨by have:=hm.2.1; omega,fun p hp=>by have:=(zlz (zik hm p hp)).2.2.2.1; omega⟩,hloc _ this.1.2⟩
 ·obtain ⟨i,hi,rfl⟩:=List.getElem_of_mem hx;have:=he i hi;unfold expOk at this;rw [zde hi] at this;simp only [Bool.and_eq_true,decide_eq_true_eq] at this;exact hloc _ this.1.2
end Go.Wk.Lf
end
section
namespace Go.Wk.Lf
open Go.V Go.Sort Go.Proofs
theorem zsq {n m:Nat} (hn:n < 256) (hm:m < 256) (h:toB8 (n:Int) = toB8 (m:Int)):n = m:=by
 rw [← zlr hn,h,zlr hm]
theorem zvq:∀ (a b:List (List UInt8)) (r s:List UInt8),a.length = b.length → (∀ x ∈ a,x.length = 32) → (∀ x ∈ b,x.length = 32) → a.flatten ++ r = b.flatten ++ s → a = b ∧ r = s
 | [],[],r,s,_,_,_,h=>⟨rfl,h⟩
 | x :: a,y :: b,r,s,hl,ha,hb,h=>by
  simp only [List.flatten_cons,List.append_assoc] at h;obtain ⟨h1,h2⟩:=List.append_inj h (by rw [ha x (by simp),hb y (by simp)]);obtain ⟨h3,h4⟩:=zvq a b r s (by simpa using hl) (fun z hz=>ha z (by simp [hz])) (fun z hz=>hb z (by simp [hz])) h2;exact ⟨by rw [h1,h3],h4⟩
 | [],_ :: _,_,_,hl,_,_,_=>by simp at hl
 | _ :: _,[],_,_,hl,_,_,_=>by simp at hl
theorem head_inj {p q:List UInt8} {n n' k k':Nat} {r s:List UInt8} (hp:p.length < 256) (hq:q.length < 256) (hn:n < 65536) (hn':n' < 65536) (hk:k < 256) (hk':k' < 256) (h:ziw p n k ++ r = ziw q n' k' ++ s):p = q ∧ n = n' ∧ k = k' ∧ r = s:=by
 simp only [ziw,List.append_assoc,List.singleton_append,List.cons_append,List.nil_append,List.cons.injEq] at h;obtain ⟨h1,h2⟩:=h;have h3:=zsq hp hq h1;obtain ⟨h4,h5⟩:=List.append_inj h2 h3;obtain ⟨h6,h7⟩:=List.append_inj h5 rfl;simp only [List.cons.injEq] at h7;refine ⟨h4,?_,zsq hk hk' h7.1,h7.2⟩;rw [← zxs hn,h6,zxs hn']
theorem part_inj {p q:Part} {r s:List UInt8} (hp:wfP p) (hq:wfP q) (h:zdl p ++ r = zdl q ++ s):p = q ∧ r = s:=by
 obtain ⟨p1,p2,p3,p4,p5⟩:=hp;obtain ⟨q1,q2,q3,q4,q5⟩:=hq;obtain ⟨n,hn⟩:=Int.eq_ofNat_of_zero_le p2;obtain ⟨m,hm⟩:=Int.eq_ofNat_of_zero_le q2;rw [zjq p n hn,zjq q m hm,List.append_assoc,List.append_assoc] at h;obtain ⟨h1,h2,h3,h4⟩:=head_inj p1 q1 (by omega) (by omega) p4 q4 h;obtain ⟨h5,h6⟩:=zvq _ _ _ _ h3 p5 q5 h4;obtain ⟨a1,a2,a3⟩:=p;obtain ⟨b1,b2,b3⟩:=q;simp only at h1 h5 hn hm;exact ⟨by rw [h1,h5,hn,hm,h2],h6⟩
theorem parts_inj:∀ (a b:List Part) (r s:List UInt8),a.length = b.length → (∀ p ∈ a,wfP p) → (∀ p ∈ b,wfP p) → a.flatMap zdl ++ r = b.flatMap zdl ++ s → a = b ∧ r = s
 | [],[],r,s,_,_,_,h=>⟨rfl,h⟩
 | x :: a,y :: b,r,s,hl,ha,hb,h=>by
  simp only [List.flatMap_cons,List.append_assoc] at h;obtain ⟨h1,h2⟩:=part_inj (ha x (by simp)) (hb y (by simp)) h;obtain ⟨h3,h4⟩:=parts_inj a b r s (by simpa using hl) (fun z hz=>ha z (by simp [hz])) (fun z hz=>hb z (by simp [hz])) h2;exact ⟨by rw [h1,h3],h4⟩
 | [],_ :: _,_,_,hl,_,_,_=>by simp at hl
 | _ :: _,[],_,_,hl,_,_,_=>by simp at hl
theorem man_inj {a b:Manifest} {r s:List UInt8} (ha:manB a) (hb:manB b) (ka:okId a) (kb:okId b) (h:zhg a ++ r = zhg b ++ s):a = b ∧ r = s:=by
 obtain ⟨a1,a2⟩:=zws ha;obtain ⟨b1,b2⟩:=zws hb;simp only [zhg,List.append_assoc,List.singleton_append,List.cons_append,List.nil_append,List.cons.injEq] at h;obtain ⟨h1,h2⟩:=h;obtain ⟨h4,h5⟩:=List.append_inj h2 (zsq a1 b1 h1);simp only [List.cons.injEq] at h5;obtain ⟨h6,h7⟩:=parts_inj _ _ _ _ (zsq a2 b2 h5.1) (fun p hp=>wf_of (zik ha p hp) (ka p hp)) (fun p hp=>wf_of (zik hb p hp) (kb p hp)) h5.2;obtain ⟨an,ap⟩:=a;obtain ⟨bn,bp⟩:=b;simp only at h4 h6;exact ⟨by rw [h4,h6],h7⟩
theorem isMan_uniq {b:List UInt8} {m m':Manifest} (h:isMan b m) (h':isMan b m'):m = m' :=
 (man_inj (r:=[]) (s:=[]) h.1 h'.1 h.2.1 h'.2.1 (by rw [List.append_nil,List.append_nil,← h.2.2,h'.2.2])).1
theorem readL_man {b:List UInt8} {m:Manifest} (h:isMan b m):zwk b = (m,0):=by
 unfold zwk;have hex:∃ m,isMan b m:=⟨m,h⟩
 rw [dif_pos hex,isMan_uniq hex.choose_spec h]
end Go.Wk.Lf
end
section
namespace Go.Wk.Lf
open Go.V Go.Sort Go.Proofs
def bareC (vs:List Vol):Catalog:=⟨0,[],[],[],vs⟩
end Go.Wk.Lf
end
section
namespace Go.Wk.Lf
open Go.V Go.Proofs
noncomputable section
set_option maxRecDepth 100000
variable {K:Tb} {F:Frz} {w:Hp}
end
end Go.Wk.Lf
end
section
namespace Go.Wk.Lf
open Go.V Go.Sort Go.Proofs
def rotP (x:UInt32) (k:Nat):UInt32:=UInt32.ofNat (x.toNat / 2 ^ k) ||| UInt32.ofNat (x.toNat * 2 ^ (32 - k))
theorem rot_b2 (x:UInt32):zbd x 2 = some (rotP x 2):=rfl
theorem rot_b6 (x:UInt32):zbd x 6 = some (rotP x 6):=rfl
theorem rot_b7 (x:UInt32):zbd x 7 = some (rotP x 7):=rfl
theorem rot_b11 (x:UInt32):zbd x 11 = some (rotP x 11):=rfl
theorem rot_b13 (x:UInt32):zbd x 13 = some (rotP x 13):=rfl
theorem rot_b17 (x:UInt32):zbd x 17 = some (rotP x 17):=rfl
theorem rot_b18 (x:UInt32):zbd x 18 = some (rotP x 18):=rfl
theorem rot_b19 (x:UInt32):zbd x 19 = some (rotP x 19):=rfl
theorem rot_b22 (x:UInt32):zbd x 22 = some (rotP x 22):=rfl
theorem rot_b25 (x:UInt32):zbd x 25 = some (rotP x 25):=rfl
theorem zvg (x:UInt32) (i:Int) (k:Nat) (h:zax x i = some (UInt32.ofNat (x.toNat * 2 ^ (32 - k)) ||| UInt32.ofNat (x.toNat / 2 ^ k))):zax x i = some (rotP x k):=by
 rw [h,UInt32.or_comm]; rfl
theorem rot_a2 (x:UInt32):zax x (-2) = some (rotP x 2):=zvg x _ 2 rfl
theorem rot_a6 (x:UInt32):zax x (-6) = some (rotP x 6):=zvg x _ 6 rfl
theorem rot_a7 (x:UInt32):zax x (-7) = some (rotP x 7):=zvg x _ 7 rfl
theorem rot_a11 (x:UInt32):zax x (-11) = some (rotP x 11):=zvg x _ 11 rfl
theorem rot_a13 (x:UInt32):zax x (-13) = some (rotP x 13):=zvg x _ 13 rfl
theorem rot_a17 (x:UInt32):zax x (-17) = some (rotP x 17):=zvg x _ 17 rfl
theorem rot_a18 (x:UInt32):zax x (-18) = some (rotP x 18):=zvg x _ 18 rfl
theorem rot_a19 (x:UInt32):zax x (-19) = some (rotP x 19):=zvg x _ 19 rfl
theorem rot_a22 (x:UInt32):zax x (-22) = some (rotP x 22):=zvg x _ 22 rfl
theorem rot_a25 (x:UInt32):zax x (-25) = some (rotP x 25):=zvg x _ 25 rfl
theorem ix_gd {α:Type} [Inhabited α] {l:List α} {n:Nat} (h:n < l.length):ix l (n:Int) = some (l.getD n default):=by
 rw [zfc h]; simp [h]
def rndP (k w s:List UInt32) (i:Nat):List UInt32 :=
 let a:=s.getD 0 default; let e:=s.getD 4 default
 let t:=((((s.getD 7 default + ((rotP e 6 ^^^ rotP e 11) ^^^ rotP e 25)) + ((e &&& s.getD 5 default) ^^^ ((~~~e) &&& s.getD 6 default))) + k.getD i default) + w.getD i default)
 [t + (((rotP a 2 ^^^ rotP a 13) ^^^ rotP a 22) + (((a &&& s.getD 1 default) ^^^ (a &&& s.getD 2 default)) ^^^ (s.getD 1 default &&& s.getD 2 default))),a,s.getD 1 default,s.getD 2 default,s.getD 3 default + t,e,s.getD 5 default,s.getD 6 default]
def rndsP (k w s:List UInt32):List UInt32:=(List.range 64).foldl (rndP k w) s
def addP (s0 s:List UInt32):List UInt32:=(List.range 8).foldl (fun t i=>t.set i (t.getD i default + s.getD i default)) s0
def wordP (b:List UInt8) (i:Nat):UInt32:=UInt32.ofNat (beN ((b.take (4 * i + 4)).drop (4 * i)))
def schP (b:List UInt8) (w:List UInt32) (i:Nat):List UInt32 :=
 if i < 16 then w.set i (wordP b i)
 else w.set i (((w.getD (i - 16) default + ((rotP (w.getD (i - 15) default) 7 ^^^ rotP (w.getD (i - 15) default) 18) ^^^ (w.getD (i - 15) default >>> UInt32.ofNat 3))) + w.getD (i - 7) default) + ((rotP (w.getD (i - 2) default) 17 ^^^ rotP (w.getD (i - 2) default) 19) ^^^ (w.getD (i - 2) default >>> UInt32.ofNat 10)))
def schedP (b:List UInt8):List UInt32:=(List.range 64).foldl (schP b) (List.replicate 64 0)
def blkP (k:List UInt32) (b:List UInt8) (s:List UInt32):List UInt32:=addP s (rndsP k (schedP b) s)
theorem lit (l:List UInt32) (n:Nat) (h:n < l.length) (i:Int) (hi:i = (n:Int)):ix l i = some (l.getD n default):=by subst hi; exact ix_gd h
theorem a_l9 (k:List UInt32) (hk:k.length = 64) (l32:List UInt8) (s35:List UInt32) (rec37) (w:List UInt32) (hw:w.length = 64) (s:List UInt32) (hs:s.length = 8) :
  loop (zbi.l9 k l32 s35 rec37 w) (0,s) = zbi.k7 l32 s35 rec37 (rndsP k w s):=by
 have:=zgi (F:=zbi.l9 k l32 s35 rec37 w) (x0:=(0,s)) (fun i s=>((i:Int),s)) (List.range 64) (rndP k w) (zbi.k7 l32 s35 rec37) (fun _ s=>s.length = 8) (i0:=0) (s0:=s) rfl (Nat.zero_le _) hs (by decide) ?_ ?_
 ·rw [this]; rfl
 ·intro rec i s hi hs;rw [List.length_range] at hi;refine ⟨rfl,?_⟩;simp only [zbi.l9];rw [if_t (decide_eq_true (by omega))];simp only [lit s 4 (by omega) 4 rfl,lit s 0 (by omega) 0 rfl,lit s 1 (by omega) 1 rfl,lit s 2 (by omega) 2 rfl,lit s 3 (by omega) 3 rfl,lit s 5 (by omega) 5 rfl,lit s 6 (by omega) 6 rfl,lit s 7 (by omega) 7 rfl,zav,rot_a2,rot_a6,rot_a11,rot_a13,rot_a22,rot_a25,lit k i (by omega) i rfl,lit w i (by omega) i rfl,zcf (show i < 4611686018427387904 by omega),List.getElem_range];rfl
 ·intro rec s hs;simp only [zbi.l9];rw [if_f (by decide)]
theorem b_l9 (k:List UInt32) (hk:k.length = 64) (i32:Int) (s33:List UInt32) (rec35) (w:List UInt32) (hw:w.length = 64) (s:List UInt32) (hs:s.length = 8) :
  loop (zaa.l9 k i32 s33 rec35 w) (0,s) = zaa.k7 i32 s33 rec35 (rndsP k w s):=by
 have:=zgi (F:=zaa.l9 k i32 s33 rec35 w) (x0:=(0,s)) (fun i s=>((i:Int),s)) (List.range 64) (rndP k w) (zaa.k7 i32 s33 rec35) (fun _ s=>s.length = 8) (i0:=0) (s0:=s) rfl (Nat.zero_le _) hs (by decide) ?_ ?_
 ·rw [this]; rfl
 ·intro rec i s hi hs;rw [List.length_range] at hi;refine ⟨rfl,?_⟩;simp only [zaa.l9];rw [if_t (decide_eq_true (by omega))];simp only [lit s 4 (by omega) 4 rfl,lit s 0 (by omega) 0 rfl,lit s 1 (by omega) 1 rfl,lit s 2 (by omega) 2 rfl,lit s 3 (by omega) 3 rfl,lit s 5 (by omega) 5 rfl,lit s 6 (by omega) 6 rfl,lit s 7 (by omega) 7 rfl,zav,rot_b2,rot_b6,rot_b11,rot_b13,rot_b22,rot_b25,lit k i (by omega) i rfl,lit w i (by omega) i rfl,zcf (show i < 4611686018427387904 by omega),List.getElem_range];rfl
 ·intro rec s hs;simp only [zaa.l9];rw [if_f (by decide)]
theorem rnds_len (k w s:List UInt32) (hs:s.length = 8):(rndsP k w s).length = 8:=by
 have h:∀ (l:List Nat) s,s.length = 8 → (l.foldl (rndP k w) s).length = 8:=fun l=>by
  induction l with
  | nil=>intro s h; exact h
  | cons i l ih=>intro s _; exact ih _ rfl
 unfold rndsP;exact h _ s hs
theorem zsx {α:Type} {f:List α → Nat → List α} (hf:∀ s i,(f s i).length = s.length):∀ (l:List Nat) (s:List α),(l.foldl f s).length = s.length
 | [],s=>rfl
 | i :: l,s=>by rw [List.foldl_cons,zsx hf l,hf]
theorem add_len (s0 s:List UInt32):(addP s0 s).length = s0.length:=zsx (fun t i=>by simp) _ _
theorem sch_len (b:List UInt8) (w:List UInt32) (i:Nat):(schP b w i).length = w.length:=by unfold schP; split <;> simp
theorem sched_len (b:List UInt8):(schedP b).length = 64:=by unfold schedP; rw [zsx (sch_len b)]; simp
theorem a_l8 (l32:List UInt8) (rec37) (s t:List UInt32) (hs:s.length = 8) (ht:t.length = 8) :
  loop (zbi.l8 l32 rec37 s) (0,t) = zbi.k5 l32 rec37 (addP t s):=by
 have:=zgi (F:=zbi.l8 l32 rec37 s) (x0:=(0,t)) (fun i s=>((i:Int),s)) (List.range 8) (fun t i=>t.set i (t.getD i default + s.getD i default)) (zbi.k5 l32 rec37) (fun _ s=>s.length = 8) (i0:=0) (s0:=t) rfl (Nat.zero_le _) ht (by decide) ?_ ?_
 ·rw [this]; rfl
 ·intro rec i t hi ht;rw [List.length_range] at hi;refine ⟨by simp [ht],?_⟩;simp only [zbi.l8];rw [if_t (decide_eq_true (by omega))];simp only [lit s i (by omega) i rfl,lit t i (by omega) i rfl,zav,zcf (show i < 4611686018427387904 by omega),List.getElem_range,Int.toNat_natCast]
 ·intro rec s hs;simp only [zbi.l8];rw [if_f (by decide)]
theorem b_l8 (i32:Int) (rec35) (s t:List UInt32) (hs:s.length = 8) (ht:t.length = 8) :
  loop (zaa.l8 i32 rec35 s) (0,t) = zaa.k5 i32 rec35 (addP t s):=by
 have:=zgi (F:=zaa.l8 i32 rec35 s) (x0:=(0,t)) (fun i s=>((i:Int),s)) (List.range 8) (fun t i=>t.set i (t.getD i default + s.getD i default)) (zaa.k5 i32 rec35) (fun _ s=>s.length = 8) (i0:=0) (s0:=t) rfl (Nat.zero_le _) ht (by decide) ?_ ?_
 ·rw [this]; rfl
 ·intro rec i t hi ht;rw [List.length_range] at hi;refine ⟨by simp [ht],?_⟩;simp only [zaa.l8];rw [if_t (decide_eq_true (by omega))];simp only [lit s i (by omega) i rfl,lit t i (by omega) i rfl,zav,zcf (show i < 4611686018427387904 by omega),List.getElem_range,Int.toNat_natCast]
 ·intro rec s hs;simp only [zaa.l8];rw [if_f (by decide)]
theorem or_u64_nat (a b:Nat) (ha:a < 4611686018427387904) (hb:b < 4611686018427387904):bits .or .u64 (a:Int) (b:Int) = ((a ||| b:Nat):Int):=by
 have hx:a ||| b < 2 ^ 62:=Nat.or_lt_two_pow (by omega) (by omega);have h1:(BitVec.ofInt 64 (a:Int)).toNat = a:=by
  rw [BitVec.ofInt_natCast,BitVec.toNat_ofNat]; exact Nat.mod_eq_of_lt (by omega)
 have h2:(BitVec.ofInt 64 (b:Int)).toNat = b:=by
  rw [BitVec.ofInt_natCast,BitVec.toNat_ofNat]; exact Nat.mod_eq_of_lt (by omega)
 show IntKind.u64.wrap ((BitVec.ofInt 64 (a:Int) ||| BitVec.ofInt 64 (b:Int)).toNat:Int) = _;rw [BitVec.toNat_or,h1,h2,zsp];omega
theorem zwa {x:Int} (h0:0 ≤ x) (h1:x < 18446744073709551616):wu x = x:=by
 show IntKind.u64.wrap x = x;rw [zsp]; omega
theorem or_stepU (n:Nat) (c:UInt8) (hn:n < 18014398509481984):bits .or .u64 (wu ((n:Int) * 2 ^ (8:Int).toNat)) (c.toNat:Int) = ((n * 256 + c.toNat:Nat):Int):=by
 have hc:=c.toNat_lt;have e:wu ((n:Int) * 2 ^ (8:Int).toNat) = ((n * 256:Nat):Int):=by
  rw [show (8:Int).toNat = 8 from rfl];rw [zwa (by omega) (by omega)]; omega
 rw [e,or_u64_nat _ _ (by omega) (by omega)];have:=Nat.shiftLeft_add_eq_or_of_lt (i:=8) (b:=c.toNat) (by omega) n;rw [Nat.shiftLeft_eq] at this;rw [show n * 256 = n * 2 ^ 8 from rfl,this]
theorem high_eq (l:List UInt8) (hl:l.length ≤ 7):zgu l = some (beN l:Int):=by
 unfold zgu;refine zfq (S:=Int × Int) (σ:=Unit) (fun i _=>(((beN (l.take i):Nat):Int),(i:Int))) l.length (fun _ _=>True) _ (i0:=0) (s0:=()) (by simp [beN]) (Nat.zero_le _) trivial (by omega) ?_ ?_
 ·intro rec i _ hi _ hrec;have hlt:beN (l.take i) < 256 ^ 6:=Nat.lt_of_lt_of_le (beN_lt _) (Nat.pow_le_pow_right (by decide) (by simp; omega));simp only [zgu.l2];rw [if_t (lt_t hi),zfc hi,zav,or_stepU _ _ (by omega),zcf (by omega)];have:=hrec () trivial;rw [zdp hi,zxr] at this;exact this
 ·intro rec _ _;simp only [zgu.l2,zgu.k1];rw [if_f (lt_f (Nat.lt_irrefl _)),List.take_length]
theorem toW_nat (n:Nat):toW (n:Int) = UInt32.ofNat n:=by
 unfold toW;apply UInt32.toNat.inj;simp only [UInt32.toNat_ofNat'];omega
theorem a_l10 (k:List UInt32) (l32:List UInt8) (h32:64 ≤ l32.length) (s35:List UInt32) (rec37) :
  loop (zbi.l10 k l32 s35 rec37) (0,List.replicate 64 0) = zbi.k6 k l32 s35 rec37 (schedP l32):=by
 have:=zgi (F:=zbi.l10 k l32 s35 rec37) (x0:=(0,List.replicate 64 0)) (fun i s=>((i:Int),s)) (List.range 64) (schP l32) (zbi.k6 k l32 s35 rec37) (fun _ s=>s.length = 64) (i0:=0) (s0:=List.replicate 64 0) rfl (Nat.zero_le _) (by simp) (by decide) ?_ ?_
 ·rw [this]; rfl
 ·intro rec i w hi hw;rw [List.length_range] at hi;refine ⟨by rw [sch_len,hw],?_⟩;simp only [zbi.l10,zbi.k11,List.getElem_range];rw [if_t (decide_eq_true (by omega))]
  by_cases h:i < 16
  ·rw [if_t (decide_eq_true (by omega))];rw [zff (x:=4 * (i:Int)) (by omega) (by omega),zff (x:=4 * (i:Int) + 4) (by omega) (by omega)]
   by_cases hc:4 * i + 4 ≤ l32.length
   ·rw [zig (by omega) (by omega) (by omega),zav,show (4 * (i:Int) + 4).toNat = 4 * i + 4 by omega,show (4 * (i:Int)).toNat = 4 * i by omega,high_eq _ (by simp; omega),zav,lit w i (by omega) i rfl,zav,toW_nat,zcf (by omega),Int.toNat_natCast];unfold schP;rw [if_pos h]; rfl
   ·omega
  ·rw [if_f (decide_eq_false (by omega))];simp only [lit w (i - 15) (by omega) (wr ((i:Int) - 15)) (by rw [zff (by omega) (by omega)]; omega),lit w (i - 2) (by omega) (wr ((i:Int) - 2)) (by rw [zff (by omega) (by omega)]; omega),lit w (i - 16) (by omega) (wr ((i:Int) - 16)) (by rw [zff (by omega) (by omega)]; omega),lit w (i - 7) (by omega) (wr ((i:Int) - 7)) (by rw [zff (by omega) (by omega)]; omega),lit w i (by omega) i rfl,zav,rot_a7,rot_a18,rot_a17,rot_a19,zcf (show i < 4611686018427387904 by omega),Int.toNat_natCast];unfold schP;rw [if_neg h]
 ·intro rec s hs;simp only [zbi.l10];rw [if_f (by decide)]
end Go.Wk.Lf
end
section
namespace Go.Wk.Lf
open Go.V Go.Sort Go.Proofs
theorem word_step (n:Nat) (c:UInt8) (hn:n < 16777216):(UInt32.ofNat n <<< UInt32.ofNat 8) ||| c.toUInt32 = UInt32.ofNat (n * 256 + c.toNat):=by
 have hc:=c.toNat_lt;apply UInt32.toNat.inj;have h1:(UInt32.ofNat n <<< UInt32.ofNat 8).toNat = n * 256:=by
  rw [UInt32.toNat_shiftLeft];simp only [UInt32.toNat_ofNat'];rw [show 8 % 2 ^ 32 % 32 = 8 from rfl,Nat.shiftLeft_eq];omega
 rw [UInt32.toNat_or,h1,UInt8.toNat_toUInt32];simp only [UInt32.toNat_ofNat'];have:=Nat.shiftLeft_add_eq_or_of_lt (i:=8) (b:=c.toNat) (by omega) n;rw [Nat.shiftLeft_eq] at this;rw [show n * 256 = n * 2 ^ 8 from rfl,← this];omega
theorem b_l14 (p:List UInt8) (blk:Nat) (hb:64 * blk + 64 ≤ p.length) (hp:p.length ≤ 1073741824) (i:Nat) (hi:i < 16) (rec145) (w:List UInt32) (hw:w.length = 64) (h0:w.getD i default = 0) :
  loop (zaa.l14 p ((64 * blk:Nat):Int) (i:Int) rec145) (0,w) = zaa.k13 (i:Int) rec145 (w.set i (wordP (p.drop (64 * blk)) i)):=by
 have hl:(((p.drop (64 * blk)).take (4 * i + 4)).drop (4 * i)).length = 4:=by simp; omega
 refine zfq (S:=Int × List UInt32) (σ:=Unit) (fun j _=>((j:Int),w.set i (UInt32.ofNat (beN ((((p.drop (64 * blk)).take (4 * i + 4)).drop (4 * i)).take j))))) 4 (fun _ _=>True) _ (i0:=0) (s0:=()) ?_ (Nat.zero_le _) trivial (by omega) ?_ ?_
 ·refine congrArg (Prod.mk (0:Int)) ?_;rw [List.take_zero];apply List.ext_getElem (by simp);intro n h1 h2;rw [List.getElem_set]
  split
  ·rename_i e; subst e;have:=h0; rw [List.getD_eq_getElem?_getD,List.getElem?_eq_getElem h1] at this;simpa [beN] using this
  ·rfl
 ·intro rec j _ hj _ hrec;have hlt:beN ((((p.drop (64 * blk)).take (4 * i + 4)).drop (4 * i)).take j) < 256 ^ 3:=Nat.lt_of_lt_of_le (beN_lt _) (Nat.pow_le_pow_right (by decide) (by simp; omega));simp only [zaa.l14];rw [if_t (decide_eq_true (by omega)),lit _ i (by simp; omega) i rfl,zav];rw [zff (x:=4 * (i:Int)) (by omega) (by omega),zff (x:=((64 * blk:Nat):Int) + 4 * (i:Int)) (by omega) (by omega),zff (x:=((64 * blk:Nat):Int) + 4 * (i:Int) + (j:Int)) (by omega) (by omega)];rw [ix_at (n:=64 * blk + 4 * i + j) (by omega) (by omega),zav,zav,zcf (by omega),Int.toNat_natCast];have e1:(w.set i (UInt32.ofNat (beN ((((p.drop (64 * blk)).take (4 * i + 4)).drop (4 * i)).take j)))).getD i default = UInt32.ofNat (beN ((((p.drop (64 * blk)).take (4 * i + 4)).drop (4 * i)).take j)):=by
   rw [List.getD_eq_getElem?_getD,List.getElem?_set_self (by omega)]; rfl
  rw [e1,word_step _ _ (by omega),List.set_set];have:=hrec () trivial;rw [zdp (by omega),zxr] at this;have e2:(((p.drop (64 * blk)).take (4 * i + 4)).drop (4 * i))[j]'(by omega) = p[64 * blk + 4 * i + j]'(by omega):=by
   simp only [List.getElem_drop,List.getElem_take]; congr 1; omega
  rw [e2] at this;exact this
 ·intro rec _ _;simp only [zaa.l14];rw [if_f (by decide),List.take_of_length_le (by omega)];rfl
theorem b_l10 (k:List UInt32) (p:List UInt8) (blk:Nat) (hb:64 * blk + 64 ≤ p.length) (hp:p.length ≤ 1073741824) (s33:List UInt32) (rec35) :
  loop (zaa.l10 k p ((64 * blk:Nat):Int) s33 rec35) (0,List.replicate 64 0) = zaa.k6 k ((64 * blk:Nat):Int) s33 rec35 (schedP (p.drop (64 * blk))):=by
 have:=zgi (F:=zaa.l10 k p ((64 * blk:Nat):Int) s33 rec35) (x0:=(0,List.replicate 64 0)) (fun i s=>((i:Int),s)) (List.range 64) (schP (p.drop (64 * blk))) (zaa.k6 k ((64 * blk:Nat):Int) s33 rec35) (fun i s=>s.length = 64 ∧ ∀ j,i ≤ j → s.getD j default = 0) (i0:=0) (s0:=List.replicate 64 0) rfl (Nat.zero_le _) ⟨by simp,fun j _=>?_⟩ (by decide) ?_ ?_
 ·rw [this]; rfl
 ·rw [List.getD_eq_getElem?_getD,List.getElem?_replicate]; split <;> rfl
 ·intro rec i w hi hw;rw [List.length_range] at hi;obtain ⟨hw,hz⟩:=hw;simp only [List.getElem_range];refine ⟨⟨by rw [sch_len,hw],fun j hj=>?_⟩,?_⟩
  ·rw [← hz j (by omega),List.getD_eq_getElem?_getD,List.getD_eq_getElem?_getD];unfold schP
   split <;> rw [List.getElem?_set_ne (by omega)]
  simp only [zaa.l10];rw [if_t (decide_eq_true (by omega))]
  by_cases h:i < 16
  ·rw [if_t (decide_eq_true (by omega)),b_l14 p blk hb hp i h _ w hw (hz i (Nat.le_refl _))];simp only [zaa.k13,zaa.k11];rw [zcf (by omega)];unfold schP;rw [if_pos h]
  ·rw [if_f (decide_eq_false (by omega))];simp only [zaa.k12,zaa.k11];simp only [lit w (i - 15) (by omega) (wr ((i:Int) - 15)) (by rw [zff (by omega) (by omega)]; omega),lit w (i - 2) (by omega) (wr ((i:Int) - 2)) (by rw [zff (by omega) (by omega)]; omega),lit w (i - 16) (by omega) (wr ((i:Int) - 16)) (by rw [zff (by omega) (by omega)]; omega),lit w (i - 7) (by omega) (wr ((i:Int) - 7)) (by rw [zff (by omega) (by omega)]; omega),lit w i (by omega) i rfl,zav,rot_b7,rot_b18,rot_b17,rot_b19,zcf (show i < 4611686018427387904 by omega),Int.toNat_natCast];unfold schP;rw [if_neg h]
   congr 3
   rw [UInt32.add_assoc,UInt32.add_assoc,UInt32.add_assoc,UInt32.add_assoc]
   congr 1
   rw [← UInt32.add_assoc,← UInt32.add_assoc]
   congr 1
   exact UInt32.add_comm _ _
 ·intro rec s hs;simp only [zaa.l10];rw [if_f (by decide)]
def outP (s:List UInt32):List UInt8:=(List.range 32).foldl (fun o i=>o.set i (UInt32.ofNat ((s.getD (i / 4) default).toNat / 2 ^ (24 - 8 * (i % 4)))).toUInt8) (List.replicate 32 0)
theorem div4 (i:Nat):(i:Int).tdiv 4 = ((i / 4:Nat):Int):=rfl
theorem mod4 (i:Nat):(i:Int).tmod 4 = ((i % 4:Nat):Int):=rfl
theorem shr_at (x:UInt32) (i:Nat) (n:Int) (h:n = 24 - 8 * ((i % 4:Nat):Int)):shrW x n = some (UInt32.ofNat (x.toNat / 2 ^ (24 - 8 * (i % 4)))):=by
 subst h;unfold shrW;rw [if_pos (by omega),show (24 - 8 * ((i % 4:Nat):Int)).toNat = 24 - 8 * (i % 4) by omega]
theorem a_out (s:List UInt32) (hs:s.length = 8):zbi.k1 s = some (outP s):=by
 unfold zbi.k1;have:=zgi (F:=zbi.l3 s) (x0:=(0,List.replicate 32 0)) (fun i s=>((i:Int),s)) (List.range 32) (fun o i=>o.set i (UInt32.ofNat ((s.getD (i / 4) default).toNat / 2 ^ (24 - 8 * (i % 4)))).toUInt8) some (fun _ o=>o.length = 32) (i0:=0) (s0:=List.replicate 32 0) rfl (Nat.zero_le _) (by simp) (by decide) ?_ ?_
 ·rw [this]; rfl
 ·intro rec i o hi ho;rw [List.length_range] at hi;refine ⟨by simp [ho],?_⟩;simp only [zbi.l3,div4,mod4];rw [if_t (decide_eq_true (by omega)),zff (x:=((i / 4:Nat):Int)) (by omega) (by omega),lit s (i / 4) (by omega) _ rfl,zav,zff (x:=8 * ((i % 4:Nat):Int)) (by omega) (by omega),zff (x:=24 - 8 * ((i % 4:Nat):Int)) (by omega) (by omega),shr_at _ i _ rfl,zav,zfc (l:=o) (n:=i) (by omega),zav,zcf (by omega),Int.toNat_natCast,List.getElem_range]
 ·intro rec s hs;simp only [zbi.l3,zbi.k2];rw [if_f (by decide)]
theorem b_out (s:List UInt32) (hs:s.length = 8):zaa.k1 s = some (outP s):=by
 unfold zaa.k1;have:=zgi (F:=zaa.l3 s) (x0:=(0,List.replicate 32 0)) (fun i s=>((i:Int),s)) (List.range 32) (fun o i=>o.set i (UInt32.ofNat ((s.getD (i / 4) default).toNat / 2 ^ (24 - 8 * (i % 4)))).toUInt8) some (fun _ o=>o.length = 32) (i0:=0) (s0:=List.replicate 32 0) rfl (Nat.zero_le _) (by simp) (by decide) ?_ ?_
 ·rw [this]; rfl
 ·intro rec i o hi ho;rw [List.length_range] at hi;refine ⟨by simp [ho],?_⟩;simp only [zaa.l3,div4,mod4];rw [if_t (decide_eq_true (by omega)),zff (x:=((i / 4:Nat):Int)) (by omega) (by omega),lit s (i / 4) (by omega) _ rfl,zav,zff (x:=8 * ((i % 4:Nat):Int)) (by omega) (by omega),zff (x:=24 - 8 * ((i % 4:Nat):Int)) (by omega) (by omega),zwa (by omega) (by omega),shr_at _ i _ rfl,zav,zfc (l:=o) (n:=i) (by omega),zav,zcf (by omega),Int.toNat_natCast,List.getElem_range]
 ·intro rec s hs;simp only [zaa.l3,zaa.k2];rw [if_f (by decide)]
theorem blk_len (k:List UInt32) (b:List UInt8) (s:List UInt32):(blkP k b s).length = s.length:=add_len _ _
theorem a_l4 (k:List UInt32) (hk:k.length = 64) (p:List UInt8) (n:Nat) (hn:p.length = 64 * n) (hp:p.length ≤ 1073741824) (s0:List UInt32) (h0:s0.length = 8) :
  loop (zbi.l4 k) (p,s0) = some (outP ((List.range n).foldl (fun s i=>blkP k (p.drop (64 * i)) s) s0)):=by
 have:=zgi (F:=zbi.l4 k) (x0:=(p,s0)) (fun i s=>(p.drop (64 * i),s)) (List.range n) (fun s i=>blkP k (p.drop (64 * i)) s) (fun s=>some (outP s)) (fun _ s=>s.length = 8) (i0:=0) (s0:=s0) rfl (Nat.zero_le _) h0 (by simp; omega) ?_ ?_
 ·rw [this]; rfl
 ·intro rec i s hi hs;rw [List.length_range] at hi;refine ⟨by rw [blk_len,hs],?_⟩;simp only [zbi.l4,List.getElem_range];have hl:(p.drop (64 * i)).length = p.length - 64 * i:=List.length_drop;rw [if_t (decide_eq_true (by omega)),a_l10 k _ (by omega)];simp only [zbi.k6,zbi.k7,zbi.k5];rw [a_l9 k hk _ _ _ _ (sched_len _) s hs];simp only [zbi.k7];rw [a_l8 _ _ _ _ (rnds_len _ _ _ hs) hs];simp only [zbi.k5];rw [zig (by omega) (by omega) (by omega),zav,Int.toNat_natCast,List.take_length,show (64:Int).toNat = 64 from rfl,List.drop_drop,show 64 * i + 64 = 64 * (i + 1) by omega];rfl
 ·intro rec s hs;simp only [zbi.l4,List.length_range];have hl:(p.drop (64 * n)).length = p.length - 64 * n:=List.length_drop;rw [if_f (decide_eq_false (by omega)),a_out s hs]
theorem b_l4 (k:List UInt32) (hk:k.length = 64) (p:List UInt8) (n:Nat) (hn:p.length = 64 * n) (hp:p.length ≤ 1073741824) (s0:List UInt32) (h0:s0.length = 8) :
  loop (zaa.l4 k p) (0,s0) = some (outP ((List.range n).foldl (fun s i=>blkP k (p.drop (64 * i)) s) s0)):=by
 have:=zgi (F:=zaa.l4 k p) (x0:=(0,s0)) (fun i s=>(((64 * i:Nat):Int),s)) (List.range n) (fun s i=>blkP k (p.drop (64 * i)) s) (fun s=>some (outP s)) (fun _ s=>s.length = 8) (i0:=0) (s0:=s0) rfl (Nat.zero_le _) h0 (by simp; omega) ?_ ?_
 ·rw [this]; rfl
 ·intro rec i s hi hs;rw [List.length_range] at hi;refine ⟨by rw [blk_len,hs],?_⟩;simp only [zaa.l4,List.getElem_range];rw [if_t (decide_eq_true (by omega)),b_l10 k p i (by omega) hp];simp only [zaa.k6];rw [b_l9 k hk _ _ _ _ (sched_len _) s hs];simp only [zaa.k7];rw [b_l8 _ _ _ _ (rnds_len _ _ _ hs) hs];simp only [zaa.k5];rw [zff (by omega) (by omega),show ((64 * i:Nat):Int) + 64 = ((64 * (i + 1):Nat):Int) by omega];rfl
 ·intro rec s hs;simp only [zaa.l4,List.length_range];rw [if_f (decide_eq_false (by omega)),b_out s hs]
def zgl (n:Nat):Nat:=(119 - n % 64) % 64
def byteP (n j:Nat):UInt8:=toB8 (((n:Int) * 8) / 2 ^ (8 * (7 - (j:Int))).toNat)
def padP (d:List UInt8):List UInt8:=(List.range 8).foldl (fun l j=>l ++ [byteP d.length j]) (d ++ [128] ++ List.replicate (zgl d.length) 0)
theorem zwn (d:List UInt8):(padP d).length = d.length + 9 + zgl d.length:=by
 unfold padP;have h:∀ (l:List Nat) (s:List UInt8),(l.foldl (fun l j=>l ++ [byteP d.length j]) s).length = s.length + l.length:=fun l=>by
  induction l with
  | nil=>intro s; rfl
  | cons i l ih=>intro s; rw [List.foldl_cons,ih]; simp; omega
 rw [h]; simp; omega
theorem a_pad (d:List UInt8) (hd:d.length ≤ 1000000):zcp d = some (padP d):=by
 have hz:zgl d.length < 64:=Nat.mod_lt _ (by decide);unfold zcp;rw [zdb (by simp; omega),zav,List.nil_append,zdb (by simp; omega),zav];refine zfq (S:=List UInt8) (σ:=Unit) (fun j _=>d ++ [128] ++ List.replicate j 0) (zgl d.length) (fun _ _=>True) _ (i0:=0) (s0:=()) (by simp) (Nat.zero_le _) trivial (by omega) ?_ ?_
 ·intro rec j _ hj _ hrec;simp only [zcp.l4];have hl:(d ++ [128] ++ List.replicate j (0:UInt8)).length = d.length + 1 + j:=by simp; omega
  have hm:((d.length + 1 + j:Nat):Int).tmod 64 = (((d.length + 1 + j) % 64:Nat):Int):=rfl;rw [hl,hm,if_t (decide_eq_true (by unfold zgl at hj; omega)),zdb (by rw [hl]; simp; omega),zav];have:=hrec () trivial;rw [List.replicate_succ',← List.append_assoc] at this;exact this
 ·intro rec _ _;simp only [zcp.l4];have hl:(d ++ [128] ++ List.replicate (zgl d.length) (0:UInt8)).length = d.length + 1 + zgl d.length:=by simp; omega
  have hm:((d.length + 1 + zgl d.length:Nat):Int).tmod 64 = (((d.length + 1 + zgl d.length) % 64:Nat):Int):=rfl;rw [hl,hm,if_f (decide_eq_false (by unfold zgl; omega))];unfold zcp.k1;have:=zgi (F:=zcp.l3 d) (x0:=(7,d ++ [128] ++ List.replicate (zgl d.length) (0:UInt8))) (fun j l=>(7 - (j:Int),l)) (List.range 8) (fun l j=>l ++ [byteP d.length j]) some (fun j l=>l.length = d.length + 1 + zgl d.length + j) (i0:=0) (s0:=d ++ [128] ++ List.replicate (zgl d.length) (0:UInt8)) rfl (Nat.zero_le _) hl (by decide) ?_ ?_
  ·rw [this]; rfl
  ·intro rec j l hj hl;rw [List.length_range] at hj;refine ⟨by simp [hl]; omega,?_⟩;simp only [zcp.l3];rw [if_t (decide_eq_true (by omega)),zwa (x:=(d.length:Int)) (by omega) (by omega),show (2:Int) ^ (3:Int).toNat = 8 from rfl,zwa (x:=(d.length:Int) * 8) (by omega) (by omega),zff (x:=8 * (7 - (j:Int))) (by omega) (by omega)];unfold shrU;rw [if_pos (by omega),zav,zdb (by simp; omega),zav,zff (by omega) (by omega),List.getElem_range,show 7 - (j:Int) - 1 = 7 - ((j + 1:Nat):Int) by omega];rfl
  ·intro rec l hl;simp only [zcp.l3,zcp.k2];rw [if_f (by decide)]
theorem b_pad (d:List UInt8) (hd:d.length ≤ 1000000):zaz d = some (padP d):=by
 have hz:zgl d.length < 64:=Nat.mod_lt _ (by decide);unfold zaz;rw [zdb (by simp; omega),zav,List.nil_append,zdb (by simp; omega),zav];refine zfq (S:=List UInt8) (σ:=Unit) (fun j _=>d ++ [128] ++ List.replicate j 0) (zgl d.length) (fun _ _=>True) _ (i0:=0) (s0:=()) (by simp) (Nat.zero_le _) trivial (by omega) ?_ ?_
 ·intro rec j _ hj _ hrec;simp only [zaz.l4];have hl:(d ++ [128] ++ List.replicate j (0:UInt8)).length = d.length + 1 + j:=by simp; omega
  rw [hl,zff (x:=((d.length + 1 + j:Nat):Int) + 8) (by omega) (by omega)];have hm:(((d.length + 1 + j:Nat):Int) + 8).tmod 64 = (((d.length + 1 + j + 8) % 64:Nat):Int):=rfl;rw [hm,if_t (decide_eq_true (by unfold zgl at hj; omega)),zdb (by rw [hl]; simp; omega),zav];have:=hrec () trivial;rw [List.replicate_succ',← List.append_assoc] at this;exact this
 ·intro rec _ _;simp only [zaz.l4];have hl:(d ++ [128] ++ List.replicate (zgl d.length) (0:UInt8)).length = d.length + 1 + zgl d.length:=by simp; omega
  rw [hl,zff (x:=((d.length + 1 + zgl d.length:Nat):Int) + 8) (by omega) (by omega)];have hm:(((d.length + 1 + zgl d.length:Nat):Int) + 8).tmod 64 = (((d.length + 1 + zgl d.length + 8) % 64:Nat):Int):=rfl;rw [hm,if_f (decide_eq_false (by unfold zgl; omega))];unfold zaz.k1;have:=zgi (F:=zaz.l3 d) (x0:=(7,d ++ [128] ++ List.replicate (zgl d.length) (0:UInt8))) (fun j l=>(7 - (j:Int),l)) (List.range 8) (fun l j=>l ++ [byteP d.length j]) some (fun j l=>l.length = d.length + 1 + zgl d.length + j) (i0:=0) (s0:=d ++ [128] ++ List.replicate (zgl d.length) (0:UInt8)) rfl (Nat.zero_le _) hl (by decide) ?_ ?_
  ·rw [this]; rfl
  ·intro rec j l hj hl;rw [List.length_range] at hj;refine ⟨by simp [hl]; omega,?_⟩;simp only [zaz.l3];rw [if_t (decide_eq_true (by omega)),zwa (x:=(d.length:Int)) (by omega) (by omega),zwa (x:=(d.length:Int) * 8) (by omega) (by omega),zwa (x:=7 - (j:Int)) (by omega) (by omega),zwa (x:=8 * (7 - (j:Int))) (by omega) (by omega)];unfold shrU;rw [if_pos (by omega),zav,zdb (by simp; omega),zav,zff (by omega) (by omega),List.getElem_range,show 7 - (j:Int) - 1 = 7 - ((j + 1:Nat):Int) by omega];rfl
  ·intro rec l hl;simp only [zaz.l3,zaz.k2];rw [if_f (by decide)]
def keysP:List UInt32:=(zlu).getD []
def startP:List UInt32:=[1779033703,3144134277,1013904242,2773480762,1359893119,2600822924,528734635,1541459225]
def sumQ (d:List UInt8):List UInt8:=outP ((List.range ((padP d).length / 64)).foldl (fun s i=>blkP keysP ((padP d).drop (64 * i)) s) startP)
theorem sumQ_ex:∃ f,f = sumQ:=⟨_,rfl⟩
noncomputable def sumP:List UInt8 → List UInt8:=sumQ_ex.choose
theorem sumP_eq:sumP = sumQ:=sumQ_ex.choose_spec
theorem sumP_len (d:List UInt8):(sumP d).length = 32:=by
 rw [sumP_eq];unfold sumQ outP;rw [zsx (fun o i=>by simp)]; simp
theorem padP_mod (d:List UInt8):(padP d).length = 64 * ((padP d).length / 64):=by
 rw [zwn]; unfold zgl; omega
theorem b_sum (d:List UInt8) (hd:d.length ≤ 1000000):zaa d = some (sumP d):=by
 rw [sumP_eq];have hz:zgl d.length < 64:=Nat.mod_lt _ (by decide);unfold zaa;rw [show zhh = some keysP from rfl,zav,b_pad d hd,zav];exact b_l4 keysP rfl (padP d) _ (padP_mod d) (by rw [zwn]; omega) startP rfl
theorem concat_one (d:List UInt8) (hd:d.length ≤ 1000000):zar [d] = some d:=by
 unfold zar;refine zfq (S:=Int × Int) (σ:=Unit) (fun j _=>(if j = 0 then 0 else (d.length:Int),(j:Int))) 1 (fun _ _=>True) _ (i0:=0) (s0:=()) rfl (Nat.zero_le _) trivial (by omega) ?_ ?_
 ·intro rec j _ hj _ hrec;obtain rfl:j = 0:=by omega
  simp only [zar.l4,zar.k5];rw [if_t (show decide (((0:Nat):Int) < (([d]:List (List UInt8)).length:Int)) = true from rfl),show ix [d] ((0:Nat):Int) = some d from rfl,zav,if_pos trivial,zff (x:=0 + (d.length:Int)) (by omega) (by omega),if_f (decide_eq_false (by omega))];have:=hrec () trivial;rw [if_neg (by decide)] at this;rw [Int.zero_add];exact this
 ·intro rec _ _;simp only [zar.l4,zar.k1];rw [if_f (show decide (((1:Nat):Int) < (([d]:List (List UInt8)).length:Int)) = false from rfl),if_neg (by decide)];have hg:zbl (d.length:Int) = some []:=by
   unfold zbl;rw [if_f (decide_eq_false (by omega))];unfold zbl.k1 zbl.k2;rw [show wr (0 - 0) = 0 from rfl,zff (by omega) (by omega)]
   by_cases h:0 < d.length
   ·rw [if_t (decide_eq_true (by omega))];obtain ⟨n,hn⟩:∃ n:Nat,d.length = n + 1:=⟨d.length - 1,by omega⟩
    unfold appZ;rw [if_pos ⟨by omega,by simp; omega⟩,zav,zig (by omega) (by omega) (by omega),zav,hn,show ((n + 1:Nat):Int) - 0 = ((n + 1:Nat):Int) by omega,Int.toNat_natCast,List.nil_append,List.replicate_succ];rfl
   ·rw [if_f (decide_eq_false (by omega))]
  rw [hg,zav];refine zfq (S:=Int × List UInt8) (σ:=Unit) (fun j _=>((j:Int),if j = 0 then [] else d)) 1 (fun _ _=>True) _ (i0:=0) (s0:=()) rfl (Nat.zero_le _) trivial (by omega) ?_ ?_
  ·intro rec j _ hj _ hrec;obtain rfl:j = 0:=by omega
   simp only [zar.l3];rw [if_t (show decide (((0:Nat):Int) < (([d]:List (List UInt8)).length:Int)) = true from rfl),show ix [d] ((0:Nat):Int) = some d from rfl,zav,if_pos trivial,zdb (by simp; omega),zav,List.nil_append];have:=hrec () trivial;rw [if_neg (by decide)] at this;exact this
  ·intro rec _ _;simp only [zar.l3,zar.k2];rw [if_f (show decide (((1:Nat):Int) < (([d]:List (List UInt8)).length:Int)) = false from rfl),if_neg (by decide)]
theorem a_sum (d:List UInt8) (hd:d.length ≤ 1000000):zbi [d] = some (sumP d):=by
 rw [sumP_eq];have hz:zgl d.length < 64:=Nat.mod_lt _ (by decide);unfold zbi;rw [concat_one d hd,zav,show zlu = some keysP from rfl,zav,a_pad d hd,zav];exact a_l4 keysP rfl (padP d) _ (padP_mod d) (by rw [zwn]; omega) startP rfl
end Go.Wk.Lf
end
section
namespace Go.Wk.Lf
open Go.V Go.Sort Go.Proofs
theorem shr0 (n:Int):shrI n 0 = some n:=by simp [shrI]
theorem be2_eq (n:Int):zbj n 2 = some (be2 n):=by
 unfold zbj;show loop (zbj.l2 n) ([],1) = _;have e:∀ rec,zbj.l2 n rec ([],1) = rec ([toB8 (n / 256)],0):=fun rec=>by
  simp only [zbj.l2];rw [if_pos (by decide),show wu (wr (8 * 1)) = 8 from by decide,show shrI n 8 = some (n / 256) from by simp [shrI],zav,zdb (by simp),zav,show wr ((1:Int) - 1) = 0 from by decide]; rfl
 have e2:∀ rec,zbj.l2 n rec ([toB8 (n / 256)],0) = rec (be2 n,-1):=fun rec=>by
  simp only [zbj.l2];rw [if_pos (by decide),show wu (wr (8 * 0)) = 0 from by decide,shr0,zav,zdb (by simp),zav,show wr ((0:Int) - 1) = -1 from by decide]; rfl
 have e3:∀ rec,zbj.l2 n rec (be2 n,-1) = some (be2 n):=fun rec=>by
  simp only [zbj.l2,zbj.k1];rw [if_neg (by decide)]
 show iter _ 18446744073709551616 _ = _;show zbj.l2 n (iter _ 18446744073709551615) _ = _;rw [e];show zbj.l2 n (iter _ 18446744073709551614) _ = _;rw [e2];show zbj.l2 n (iter _ 18446744073709551613) _ = _;rw [e3]
theorem rbytes_eq (m:Manifest) (h:manB m) (hk:okId m):zap m = some (zhg m):=by
 unfold zap;have hn:=zkq h.1;have h6:=h.2.1;rw [zdb (by simp; omega),zav,zdb (by simp; omega),zav];have hlen:=zle h hk;refine zfq (S:=Int × List UInt8) (σ:=List UInt8) (fun i l=>((i:Int),l)) m.parts.length (fun i l=>l = ([toB8 (m.name.length:Int)] ++ m.name ++ [toB8 (m.parts.length:Int)]) ++ (m.parts.take i).flatMap zdl) _ (i0:=0) rfl (Nat.zero_le _) (by simp) (by omega) ?_ ?_
 ·intro rec i l hi hI hrec;simp only [zap.l2];have hp:=zlz (zik h _ (List.getElem_mem hi));have hpn:=zkq hp.1;have hids:=hk _ (List.getElem_mem hi);have hl:l.length + (zdl m.parts[i]).length ≤ 5000:=by
   have:(([toB8 (m.name.length:Int)] ++ m.name ++ [toB8 (m.parts.length:Int)]) ++ (m.parts.take (i + 1)).flatMap zdl).length ≤ 5000:=by
    refine Nat.le_trans ?_ hlen;simp only [zhg,List.length_append];have:(m.parts.flatMap zdl).length = ((m.parts.take (i + 1)).flatMap zdl).length + ((m.parts.drop (i + 1)).flatMap zdl).length:=by
     rw [← List.length_append,← List.flatMap_append,List.take_append_drop]
    omega
   rw [zdp hi,List.flatMap_append,← List.append_assoc,← hI] at this;simpa using this
  rw [zqc hids] at hl;rw [if_t (lt_t hi),zfc hi,zav,zdb (by simp; omega),zav,zdb (by simp; omega),zav,be2_eq,zav,zdb (by simp [be2]; omega),zav,zdb (by simp [be2]; omega),zav];generalize hQ:m.parts[i] = p at *;refine zfq (S:=Int × List UInt8) (σ:=List UInt8) (fun j q=>((j:Int),q)) p.ids.length (fun j q=>q = (l ++ ([toB8 (p.path.length:Int)] ++ p.path ++ be2 p.size ++ [toB8 (p.ids.length:Int)])) ++ (p.ids.take j).flatten) _ (i0:=0) rfl (Nat.zero_le _) (by simp) (by omega) ?_ ?_
  ·intro rec2 j q hj hJ hrec2;simp only [zap.l4];have hx:=hids _ (List.getElem_mem hj);have hft:((p.ids.take j).flatten).length ≤ 32 * 25:=by
    rw [zrc _ fun x hx=>hids x (List.mem_of_mem_take hx)]; simp; omega
   rw [if_t (lt_t hj),zfc hj,zav,zdb (by rw [hJ]; simp only [List.length_append,List.length_cons,List.length_nil,be2,hx]; omega),zav,zcf (by omega)];refine hrec2 _ ?_;rw [hJ,zdp hj]; simp only [List.flatten_append,List.flatten_cons,List.flatten_nil,List.append_nil,List.append_assoc]
  ·intro rec2 q hJ;simp only [zap.l4,zap.k3];rw [if_f (lt_f (Nat.lt_irrefl _)),zcf (by omega)];refine hrec _ ?_;rw [hJ,hI,zdp hi,hQ,List.take_length,List.flatMap_append];simp [zdl]
 ·intro rec l hI;simp only [zap.l2,zap.k1];rw [if_f (lt_f (Nat.lt_irrefl _)),hI,List.take_length]; rfl
theorem sLt_diff:∀ (p:List UInt8) (x y:UInt8) (s t:List UInt8),x ≠ y → sLt (p ++ x :: s) (p ++ y :: t) = decide (x < y)
 | [],x,y,s,t,h=>by
  rw [List.nil_append,List.nil_append,sLt,Op.bytesLess];simp [h]
 | c :: p,x,y,s,t,h=>by
  rw [List.cons_append,List.cons_append,sLt,Op.bytesLess];have:=sLt_diff p x y s t h;rw [sLt] at this;rw [this];simp [UInt8.lt_irrefl]
theorem split_at {l:List UInt8} {i:Nat} (h:i < l.length):l = l.take i ++ l[i] :: l.drop (i + 1):=by
 rw [← List.drop_eq_getElem_cons h,List.take_append_drop]
theorem before_eq (a b:List UInt8) (ha:a.length = 32) (hb:b.length = 32):zbs a b = some (sLt a b):=by
 unfold zbs;refine zfq (S:=Int) (σ:=Unit) (fun i _=>(i:Int)) 32 (fun i _=>a.take i = b.take i) _ (i0:=0) (s0:=()) rfl (Nat.zero_le _) rfl (by decide) ?_ ?_
 ·intro rec i _ hi hI hrec;simp only [zbs.l2];have hia:i < a.length:=by omega
  have hib:i < b.length:=by omega
  rw [if_t (decide_eq_true (by omega)),zfc hia,zav,zfc hib,zav]
  by_cases h:a[i] = b[i]
  ·rw [if_neg (by simp [h]),zcf (by omega)];exact hrec () (by rw [zdp hia,zdp hib,hI,h])
  ·rw [if_pos (by simp only [ne_eq,decide_eq_true_eq]; intro e; exact h (UInt8.toNat.inj (by omega))),zav,zav]
   congr 1
   conv=>rhs; rw [split_at hia,split_at hib,hI]
   rw [sLt_diff _ _ _ _ _ h,decide_eq_decide,UInt8.lt_iff_toNat_lt];omega
 ·intro rec _ hI;simp only [zbs.l2,zbs.k1];rw [if_neg (by decide)];rw [List.take_of_length_le (by omega),List.take_of_length_le (by omega)] at hI;rw [hI,zhq]
def zeq (l:List (List UInt8)) (x:List UInt8):Nat:=(l.takeWhile fun y=>sLt y x).length
theorem zno (l:List (List UInt8)) (x:List UInt8):zeq l x ≤ l.length:=by
 unfold zeq; exact (List.takeWhile_sublist _).length_le
theorem zts {l:List (List UInt8)} {x:List UInt8} {i:Nat} (h:i < zeq l x):sLt (l[i]'(Nat.lt_of_lt_of_le h (zno l x))) x = true:=by
 unfold zeq at h;have hm:=List.getElem_mem h;have h1:(l.takeWhile fun y=>sLt y x)[i] = l[i]'(Nat.lt_of_lt_of_le h (zno l x)):=by
  have:=(List.takeWhile_prefix (fun y=>sLt y x) (l:=l))
  exact this.getElem h
 rw [← h1];have h2:=List.all_takeWhile (p:=fun y=>sLt y x) (l:=l);rw [List.all_eq_true] at h2;exact h2 _ hm
theorem ztt {l:List (List UInt8)} {x:List UInt8} (h:zeq l x < l.length):sLt l[zeq l x] x = false:=by
 induction l with
 | nil=>simp at h
 | cons y l ih =>
  by_cases hy:sLt y x = true
  ·have e:zeq (y :: l) x = zeq l x + 1:=by simp [zeq,List.takeWhile_cons,hy]
   simp only [e] at h ⊢;simp only [List.getElem_cons_succ];exact ih (by simpa using h)
  ·have e:zeq (y :: l) x = 0:=by simp [zeq,List.takeWhile_cons,hy]
   simp only [e,List.getElem_cons_zero];simpa using hy
def insI (l:List (List UInt8)) (x:List UInt8):List (List UInt8):=if l[zeq l x]? = some x then l else l.take (zeq l x) ++ [x] ++ l.drop (zeq l x)
theorem add_eq (l:List (List UInt8)) (x:List UInt8) (hl:l.length ≤ 100000) (h32:∀ y ∈ l,y.length = 32) (hx:x.length = 32) :
  zch l x = some (insI l x,(zeq l x:Int),!decide (l[zeq l x]? = some x)):=by
 unfold zch;have hk:=zno l x;refine zfq (S:=Int) (σ:=Unit) (fun i _=>(i:Int)) (zeq l x) (fun _ _=>True) _ (i0:=0) (s0:=()) rfl (Nat.zero_le _) trivial (by omega) ?_ ?_
 ·intro rec i _ hi _ hrec;simp only [zch.l2];have hil:i < l.length:=by omega
  have hlt:=zts hi;rw [lt_t hil,zbo rfl,zfc hil,zav,zbo rfl,before_eq _ _ (h32 _ (List.getElem_mem hil)) hx,zav,hlt,zcf (by omega)];exact hrec () trivial
 ·intro rec _ _;simp only [zch.l2,zch.k1]
  by_cases hil:zeq l x < l.length
  ·have hlt:=ztt hil;rw [lt_t hil,zbo rfl,zfc hil,zav,zbo rfl,before_eq _ _ (h32 _ (List.getElem_mem hil)) hx,zav,hlt];rw [if_neg (by simp),zav];unfold insI;rw [List.getElem?_eq_getElem hil]
   by_cases he:l[zeq l x] = x
   ·rw [if_pos (by simp [he]),if_pos (by rw [he])]; simp [he]
   ·rw [if_neg (by simp [he]),if_neg (by simpa using he),zig (by omega) (by omega) (by omega),zav,zdb (by simp; omega),zav,zdb (by simp; omega),zav,zig (by omega) (by omega) (by omega),zav,zdb (by simp; omega),zav];simp [he]
  ·have hil':zeq l x = l.length:=by omega
   rw [lt_f hil,zhf rfl,zav,zhf rfl,zav,if_neg (by simp),zav,if_neg (by simp)];unfold insI;rw [List.getElem?_eq_none (by omega),if_neg (by simp),zig (by omega) (by omega) (by omega),zav,zdb (by simp; omega),zav,zdb (by simp; omega),zav,zig (by omega) (by omega) (by omega),zav,zdb (by simp; omega),zav];simp
theorem place_in {l:List (List UInt8)} {x:List UInt8} (hr:zoj l):(l[zeq l x]? = some x) ↔ x ∈ l:=by
 constructor
 ·intro h; exact List.mem_of_getElem? h
 ·intro h;obtain ⟨j,hj,rfl⟩:=List.getElem_of_mem h;have hk:=zno l l[j];have h1:¬ j < zeq l l[j]:=fun h2=>by have:=zts h2; rw [zhq] at this; cases this
  have h3:¬ zeq l l[j] < j:=fun h4=>by
   have h5:=ztt (l:=l) (x:=l[j]) (by omega);have h6:=List.pairwise_iff_getElem.1 hr (zeq l l[j]) j (by omega) hj h4;rw [h6] at h5; cases h5
  have e:zeq l l[j] = j:=by omega
  rw [e]; exact List.getElem?_eq_getElem hj
theorem insI_mem {l:List (List UInt8)} {x:List UInt8} (hr:zoj l) (y:List UInt8):y ∈ insI l x ↔ y ∈ l ∨ y = x:=by
 unfold insI
 split
 ·rename_i h;exact ⟨.inl,fun h2=>h2.elim id fun e=>e ▸ List.mem_of_getElem? h⟩
 ·constructor
  ·intro h;simp only [List.mem_append,List.mem_singleton] at h;rcases h with (h | h) | h
   ·exact .inl (List.mem_of_mem_take h)
   ·exact .inr h
   ·exact .inl (List.mem_of_mem_drop h)
  ·intro h;simp only [List.mem_append,List.mem_singleton];rcases h with h | h
   ·rw [← List.take_append_drop (zeq l x) l] at h;rcases List.mem_append.1 h with h | h
    ·exact .inl (.inl h)
    ·exact .inr h
   ·exact .inl (.inr h)
theorem insI_rises {l:List (List UInt8)} {x:List UInt8} (hr:zoj l):zoj (insI l x):=by
 unfold insI
 split
 ·exact hr
 ·rename_i h;have hn:x ∉ l:=fun h2=>h ((place_in hr).2 h2);have h1:∀ a ∈ l.take (zeq l x),sLt a x = true:=fun a ha=>by
   obtain ⟨i,hi,rfl⟩:=List.getElem_of_mem ha;simp only [List.length_take] at hi;rw [List.getElem_take];exact zts (by omega)
  have h2:∀ b ∈ l.drop (zeq l x),sLt x b = true:=fun b hb=>by
   obtain ⟨i,hi,rfl⟩:=List.getElem_of_mem hb;simp only [List.length_drop] at hi;rw [List.getElem_drop];have hk:zeq l x < l.length:=by omega
   have h3:=ztt hk;have h4:sLt x l[zeq l x] = true:=by
    cases h5:sLt x l[zeq l x] with
    | true=>rfl
    | false=>exact absurd (List.getElem_mem hk) (by rw [← ztk h5 h3]; exact hn)
   cases i with
   | zero=>exact h4
   | succ i=>exact zib h4 (List.pairwise_iff_getElem.1 hr _ _ hk (by omega) (by omega))
  have ht:zoj (l.take (zeq l x)):=hr.sublist (List.take_sublist _ _);have hd:zoj (l.drop (zeq l x)):=hr.sublist (List.drop_sublist _ _);unfold zoj at *;rw [List.append_assoc,List.pairwise_append];refine ⟨ht,List.pairwise_cons.2 ⟨h2,hd⟩,fun a ha b hb=>?_⟩;rcases List.mem_cons.1 hb with rfl | hb
  ·exact h1 a ha
  ·exact zib (h1 a ha) (h2 b hb)
theorem insI_len (l:List (List UInt8)) (x:List UInt8):(insI l x).length ≤ l.length + 1:=by
 unfold insI; split
 ·omega
 ·simp; omega
theorem foldI (ids:List (List UInt8)):∀ acc,zoj acc → zoj (ids.foldl insI acc) ∧ (∀ y,y ∈ ids.foldl insI acc ↔ y ∈ acc ∨ y ∈ ids) ∧ (ids.foldl insI acc).length ≤ acc.length + ids.length:=by
 induction ids with
 | nil=>intro acc h; simp [h]
 | cons x ids ih =>
  intro acc h;obtain ⟨h1,h2,h3⟩:=ih _ (insI_rises (x:=x) h);refine ⟨h1,fun y=>?_,?_⟩
  ·rw [List.foldl_cons,h2,insI_mem h]; simp [or_assoc]
  ·have:=insI_len acc x;simp only [List.foldl_cons,List.length_cons]; omega
end Go.Wk.Lf
end
section
namespace Go.Wk.Lf
open Go.V Go.Sort Go.Proofs
def zua (l:List File):Bool:=decide (6 < l.length) || l.any fun f=>decide (200 < f.data.length)
theorem long_f {l:List File} (h:zua l = false):l.length ≤ 6 ∧ ∀ f ∈ l,f.data.length ≤ 200:=by
 simp only [zua,Bool.or_eq_false_iff,decide_eq_false_iff_not,List.any_eq_false] at h;exact ⟨by omega,fun f hf=>by have:=h.2 f hf; simp at this; omega⟩
def badB (l:List File):Bool:=l.any fun f=>!zjf f.path
def zko (l:List File):Prop:=l.Pairwise fun a b=>sLt a.path b.path = true
theorem rises_adj (l:List File):zko l ↔ ∀ i (h:i < l.length),0 < i → sLt (l[i - 1]'(by omega)).path l[i].path = true:=by
 unfold zko;constructor
 ·intro h i hi h0;exact List.pairwise_iff_getElem.1 h (i - 1) i (by omega) hi (by omega)
 ·intro h;rw [List.pairwise_iff_getElem];intro i j hi hj hij
  induction j with
  | zero=>omega
  | succ j ih =>
   have h1:=h (j + 1) hj (by omega);rcases (by omega:i = j ∨ i < j) with rfl | h2
   ·exact h1
   ·exact zib (ih (by omega) h2) h1
instance (l : List File) : Decidable (zko l) := by unfold zko; infer_instance
def chkL (l:List File):Int:=if zua l = true then 2 else if badB l = false ∧ zko l then 0 else 1
theorem loop_allB {S A:Type} {F:(S → Option A) → S → Option A} (mk:Nat → S) (n:Nat) (ok:Nat → Bool) (K B:Option A) {x0:S} (hx:x0 = mk 0) (hn:n < 9223372036854775808)
  (hstep:∀ rec i,i < n → F rec (mk i) = if ok i = true then rec (mk (i + 1)) else B) (hend:∀ rec,F rec (mk n) = K):loop F x0 = if (∀ i,i < n → ok i = true) then K else B:=by
 subst hx;refine iter_for (σ:=Unit) (fun i _=>mk i) n (fun i _=>∀ j,j < i → ok j = true) (fun o=>o = if (∀ i,i < n → ok i = true) then K else B) ?_ ?_ _ 0 () (Nat.zero_le _) (by omega) (by intro j h; omega)
 ·intro rec i _ hi hI hrec;rw [hstep rec i hi]
  by_cases h:ok i = true
  ·rw [if_pos h];exact hrec () fun j hj=>by
    rcases (by omega:j < i ∨ j = i) with h1 | rfl
    ·exact hI j h1
    ·exact h
  ·rw [if_neg h,if_neg fun hall=>h (hall i hi)]
 ·intro rec _ hI;rw [hend,if_pos hI]
theorem zqy (s:List UInt8) (hl:s.length < 9223372036854775808):zbu s = some (zjf s):=by
 unfold zbu zjf;rw [loop_allB (x0:=(0:Int)) (fun i=>(i:Int)) s.length (fun i=>seen (s.getD i 0)) (some (decide (1 ≤ s.length) && decide (s.length ≤ 20))) (some false) rfl hl ?_ ?_]
 ·by_cases h:s.all seen = true
  ·rw [h,if_pos ((zpo s seen _ fun i hi=>by simp [hi]).2 h),Bool.and_true]
  ·rw [Bool.not_eq_true] at h;rw [h,if_neg fun h3=>by rw [(zpo s seen _ fun i hi=>by simp [hi]).1 h3] at h; cases h];rw [Bool.and_false]
 ·intro rec i hi;simp only [zbu.l2];rw [if_t (lt_t hi),zfc hi,zav];simp only [hi,List.getD_eq_getElem?_getD,List.getElem?_eq_getElem,Option.getD_some,seen]
  by_cases h33:(s[i].toNat:Int) < 33
  ·rw [zhf (by simp; omega),zav,if_pos (by simp [h33])];rw [if_neg (by simp only [Bool.and_eq_true,decide_eq_true_eq]; omega)]
  ·rw [zbo (by simp; omega),zav]
   by_cases h126:(126:Int) < (s[i].toNat:Int)
   ·rw [if_pos (by simp [h126]),if_neg (by simp only [Bool.and_eq_true,decide_eq_true_eq]; omega)]
   ·rw [if_neg (by simp only [Bool.or_eq_true,decide_eq_true_eq]; omega),if_pos (by simp only [Bool.and_eq_true,decide_eq_true_eq]; omega),show wr ((i:Int) + 1) = ((i + 1:Nat):Int) from by rw [zff (by omega) (by omega)]; rfl]
 ·intro rec;simp only [zbu.l2,zbu.k1];rw [if_f (lt_f (Nat.lt_irrefl _))]
  congr 2
  ·simp; omega
  ·simp; omega
theorem zvm (l:List File) (hl:l.length < 9223372036854775808):zbv l = some (zua l):=by
 unfold zbv zua
 by_cases h:6 < l.length
 ·rw [if_pos (by simp; omega)]; simp [h]
 ·rw [if_neg (by simp; omega)];rw [zom (x0:=(0:Int)) (fun i=>(i:Int)) l.length (fun i=>!decide (200 < (l.getD i default).data.length)) (some false) (some true) rfl (by omega) ?_ ?_]
  ·simp only [h,decide_false,Bool.false_or];have hall:=zpo l (fun f=>!decide (200 < f.data.length)) (fun i=>!decide (200 < (l.getD i default).data.length)) (fun i hi=>by simp [hi])
   by_cases ha:l.all (fun f=>!decide (200 < f.data.length)) = true
   ·rw [if_pos (hall.2 ha)]
    congr 1
    rw [eq_comm,List.any_eq_false];intro x hx;have:=List.all_eq_true.1 ha x hx;simpa using this
   ·rw [if_neg fun q=>ha (hall.1 q)]
    congr 1
    rw [Bool.not_eq_true,List.all_eq_false] at ha;obtain ⟨x,hx,q⟩:=ha;rw [eq_comm,List.any_eq_true];exact ⟨x,hx,by simpa using q⟩
  ·intro rec i hi;simp only [zbv.l2];rw [if_t (lt_t hi),zfc hi,zav];simp only [List.getD_eq_getElem?_getD,List.getElem?_eq_getElem hi,Option.getD_some]
   by_cases h2:200 < l[i].data.length
   ·rw [if_pos (by simp; omega),if_neg (by simp; omega)]
   ·rw [if_neg (by simp; omega),if_pos (by simp; omega),zcf (by omega)]
  ·intro rec;simp only [zbv.l2,zbv.k1];rw [if_f (lt_f (Nat.lt_irrefl _))]
theorem reftree_eq (l:List File) (hll:l.length < 9223372036854775808) (hp:∀ f ∈ l,f.path.length < 9223372036854775808):zcb l = some (chkL l):=by
 unfold zcb;rw [zvm l hll,zav];unfold chkL;cases hL:zua l with
 | true=>rfl
 | false =>
  obtain ⟨hl,hd⟩:=long_f hL;simp only [Bool.false_eq_true,if_false];rw [zom (x0:=(0:Int)) (fun i=>(i:Int)) l.length (fun i=>zjf (l.getD i default).path && (!decide (0 < i) || sLt (l.getD (i - 1) default).path (l.getD i default).path)) (some 0) (some 1) rfl (by omega) ?_ ?_]
  ·have hiff:(∀ i,i < l.length → (zjf (l.getD i default).path && (!decide (0 < i) || sLt (l.getD (i - 1) default).path (l.getD i default).path)) = true) ↔ (badB l = false ∧ zko l):=by
    constructor
    ·intro h;refine ⟨?_,(rises_adj l).2 fun i hi h0=>?_⟩
     ·unfold badB;rw [List.any_eq_false];intro x hx;obtain ⟨j,hj,rfl⟩:=List.getElem_of_mem hx;have h1:=h j hj;simp only [List.getD_eq_getElem?_getD,List.getElem?_eq_getElem hj,Option.getD_some,Bool.and_eq_true] at h1;simp [h1.1]
     ·have h1:=h i hi;have hi':i - 1 < l.length:=by omega
      simp only [List.getD_eq_getElem?_getD,List.getElem?_eq_getElem hi,List.getElem?_eq_getElem hi',Option.getD_some,Bool.and_eq_true,h0,decide_true,Bool.not_true,Bool.false_or] at h1;exact h1.2
    ·rintro ⟨h1,h2⟩ i hi;unfold badB at h1;rw [List.any_eq_false] at h1;have h3:=h1 _ (List.getElem_mem hi);simp only [Bool.not_eq_true',Bool.not_eq_false] at h3;simp only [List.getD_eq_getElem?_getD,List.getElem?_eq_getElem hi,Option.getD_some,h3,Bool.true_and]
     by_cases h0:0 < i
     ·have hi':i - 1 < l.length:=by omega
      simp only [List.getElem?_eq_getElem hi',Option.getD_some,h0,decide_true,Bool.not_true,Bool.false_or];exact (rises_adj l).1 h2 i hi h0
     ·simp [h0]
   by_cases h:badB l = false ∧ zko l
   ·rw [if_pos h,if_pos (hiff.2 h)]
   ·rw [if_neg h,if_neg fun h2=>h (hiff.1 h2)]
  ·intro rec i hi;simp only [zcb.l2];rw [if_t (lt_t hi),zfc hi,zav,zqy _ (hp _ (List.getElem_mem hi)),zav];simp only [List.getD_eq_getElem?_getD,List.getElem?_eq_getElem hi,Option.getD_some];cases hN:zjf l[i].path with
   | false=>rw [zhf (by simp),zav,zhf (by simp),zav]; rfl
   | true =>
    by_cases h0:0 < i
    ·have hi':i - 1 < l.length:=by omega
     have h0':(0:Int) < (i:Int):=by omega
     rw [zbo (by simp; omega),zav,zbo (by simp; omega),znh h0 (by omega),zfc hi',zav];simp only [List.getElem?_eq_getElem hi',Option.getD_some,h0,h0',decide_true,Bool.not_true,Bool.false_or,Bool.true_and];have hg:=gtr_eq l[i].path l[i - 1].path;cases hc:(sLt l[i].path l[i - 1].path || l[i].path == l[i - 1].path) with
     | true=>rw [hc] at hg; rw [← hg]; rfl
     | false=>rw [hc] at hg; rw [← hg,if_neg (by simp),zcf (by omega)]; rfl
    ·have h0':¬ (0:Int) < (i:Int):=by omega
     rw [zhf (by simp; omega),zav,zhf (by simp; omega),zav];simp only [h0,h0',decide_false,Bool.false_and,Bool.not_true,Bool.or_false,Bool.false_eq_true,if_false,Bool.not_false,Bool.true_or,Bool.and_true,if_true];rw [zcf (by omega)]
  ·intro rec;simp only [zcb.l2,zcb.k1];rw [if_f (lt_f (Nat.lt_irrefl _))]
theorem twinB_eq (l:List UInt8) (hl:l.length ≤ 1073741824):zev l = some l:=by
 unfold zev;rw [zdb (by simpa using hl),zav]; rfl
theorem k5_eq (l out:List File) (i k:Nat) (rec:List File × Int → Option (List File × Int)) (hi:i < l.length) (hl:l.length ≤ 1000000) (ho:out.length ≤ 1000000) (hk:k ≤ out.length) (hd:l[i].data.length ≤ 1073741824) :
  zak.k5 l out (i:Int) rec (k:Int) = if (∃ h:k < out.length,out[k].path = l[i].path) then some ([],9) else rec (out.take k ++ l[i] :: out.drop k,((i + 1:Nat):Int)):=by
 unfold zak.k5 zak.k4;have fin:(bd (cut (α:=File) out 0 (k:Int)) fun l37=>bd (ix l (i:Int)) fun x39=>bd (app (α:=File) [] l37) fun l41=>bd (zev x39.data) fun r43=>bd (app (α:=File) l41 [(File.mk x39.path r43)]) fun l45=>bd (cut (α:=File) out (k:Int) (out.length:Int)) fun l52=>bd (app (α:=File) l45 l52) fun l54=>rec (l54,wr ((i:Int) + 1))) = rec (out.take k ++ l[i] :: out.drop k,((i + 1:Nat):Int)):=by
  rw [zig (Int.le_refl _) (by omega) (by omega),zav,zfc hi,zav,zdb (by simp; omega),zav,twinB_eq _ hd,zav,zdb (by simp; omega),zav,zig (by omega) (by omega) (Int.le_refl _),zav,zdb (by simp; omega),zav,zcf (by omega)]
  congr 2
  simp
 by_cases hlt:k < out.length
 ·rw [zbo (lt_t hlt),zfc hlt,zav,zbo (lt_t hlt),zfc hi,zav]
  by_cases he:out[k].path = l[i].path
  ·rw [if_pos (by simp [hlt,he]),if_pos ⟨hlt,he⟩]
  ·rw [if_neg (by simp [he]),if_neg (fun q=>he q.2)];rw [zfc hi] at fin;exact fin
 ·rw [zhf (lt_f hlt),zav,zhf (lt_f hlt),zav,if_neg (by simp; omega),if_neg (fun q=>hlt q.1)];exact fin
theorem rises_put {out:List File} {x:File} {k:Nat} (hr:zko out) (hk:k ≤ out.length) (h1:∀ j (h:j < out.length),j < k → sLt out[j].path x.path = true) (h2:∀ h:k < out.length,sLt out[k].path x.path = false ∧ out[k].path ≠ x.path):zko (out.take k ++ x :: out.drop k):=by
 unfold zko at *;have hsplit:=hr;rw [← List.take_append_drop k out,List.pairwise_append] at hsplit;obtain ⟨p1,p2,p3⟩:=hsplit;have hb:∀ a ∈ out.take k,sLt a.path x.path = true:=fun a ha=>by
  obtain ⟨j,hj,rfl⟩:=List.getElem_of_mem ha;rw [List.length_take] at hj;rw [List.getElem_take];exact h1 j (by omega) (by omega)
 have ha:∀ b ∈ out.drop k,sLt x.path b.path = true:=fun b hb=>by
  obtain ⟨j,hj,rfl⟩:=List.getElem_of_mem hb;rw [List.length_drop] at hj;rw [List.getElem_drop];have hk':k < out.length:=by omega
  obtain ⟨q1,q2⟩:=h2 hk';have q3:sLt x.path out[k].path = true:=by
   cases h:sLt x.path out[k].path with
   | true=>rfl
   | false=>exact absurd (ztk q1 h) q2
  rcases Nat.eq_zero_or_pos j with rfl | hp
  ·exact q3
  ·exact zib q3 (List.pairwise_iff_getElem.1 hr k (k + j) hk' (by omega) (by omega))
 refine List.pairwise_append.2 ⟨p1,List.pairwise_cons.2 ⟨ha,p2⟩,fun a h b hb'=>?_⟩;rcases List.mem_cons.1 hb' with rfl | hb'
 ·exact hb a h
 ·exact p3 a h b hb'
def sorted (l:List File) (o:Option (List File × Int)):Prop:=∃ r,o = some r ∧ (r.2 = 0 → r.1.Perm l ∧ zko r.1 ∧ zua l = false ∧ badB l = false)
theorem refsort_ok (l:List File) (hll:l.length < 9223372036854775808) (hp:∀ f ∈ l,f.path.length < 9223372036854775808):sorted l (zak l):=by
 have no:∀ e:Int,e ≠ 0 → sorted l (some ([],e)):=fun e he=>⟨_,rfl,fun h=>absurd h he⟩
 unfold zak;rw [zvm l hll,zav];cases hL:zua l with
 | true=>exact no _ (by decide)
 | false =>
  obtain ⟨hl,hd⟩:=long_f hL;simp only [Bool.false_eq_true,if_false];rw [zom (x0:=(0:Int)) (fun i=>(i:Int)) l.length (fun i=>zjf (l.getD i default).path) (zak.k1 l) (some ([],1)) rfl (by omega) ?_ ?_]
  ·have hall:=zpo l (fun f=>zjf f.path) (fun i=>zjf (l.getD i default).path) (fun i hi=>by simp [hi]);cases hB:badB l with
   | true =>
    rw [if_neg]
    ·exact no _ (by decide)
    ·intro q;have:=hall.1 q;unfold badB at hB;obtain ⟨x,hx,h2⟩:=List.any_eq_true.1 hB;have:=List.all_eq_true.1 this x hx;simp [this] at h2
   | false =>
    rw [if_pos]
    ·unfold zak.k1;refine zwt (S:=List File × Int) (σ:=List File) (fun i out=>(out,(i:Int))) l.length (fun i out=>out.Perm (l.take i) ∧ zko out) (sorted l) (i0:=0) (s0:=[]) rfl (Nat.zero_le _) ⟨by simp,List.Pairwise.nil⟩ (by omega) ?_ ?_
     ·intro rec i out hi ⟨hperm,hris⟩ hrec;have hol:out.length = i:=by rw [hperm.length_eq,List.length_take]; omega
      simp only [zak.l3];rw [if_t (lt_t hi)];have hfind:∃ k,k ≤ out.length ∧ (∀ j (h:j < out.length),j < k → sLt out[j].path l[i].path = true) ∧ (∀ h:k < out.length,sLt out[k].path l[i].path = false) ∧ loop (zak.l6 l out (i:Int) rec) 0 = zak.k5 l out (i:Int) rec (k:Int):=by
       refine zwt (S:=Int) (σ:=Unit) (fun k _=>(k:Int)) out.length (fun k _=>∀ j (h:j < out.length),j < k → sLt out[j].path l[i].path = true) (fun o=>∃ k,k ≤ out.length ∧ (∀ j (h:j < out.length),j < k → sLt out[j].path l[i].path = true) ∧ (∀ h:k < out.length,sLt out[k].path l[i].path = false) ∧ o = zak.k5 l out (i:Int) rec (k:Int)) (i0:=0) (s0:=()) rfl (Nat.zero_le _) (fun j _ h=>by omega) (by omega) ?_ ?_
       ·intro rec2 k _ hk hI hrec2;simp only [zak.l6];rw [zbo (lt_t hk),zfc hk,zav,zbo (lt_t hk),zfc hi,zav];cases hs:sLt out[k].path l[i].path with
        | true =>
         rw [if_pos (by simp [hk]),zcf (by omega)];refine hrec2 () fun j hj hjk=>?_;rcases (by omega:j < k ∨ j = k) with q | rfl
         ·exact hI j hj q
         ·exact hs
        | false =>
         rw [if_neg (by simp)];exact ⟨k,by omega,hI,fun _=>hs,rfl⟩
       ·intro rec2 _ hI;simp only [zak.l6];rw [zhf (lt_f (Nat.lt_irrefl _)),zav,zhf (lt_f (Nat.lt_irrefl _)),zav,if_neg (by simp)];exact ⟨out.length,Nat.le_refl _,hI,fun h=>absurd h (Nat.lt_irrefl _),rfl⟩
      obtain ⟨k,hk,f1,f2,f3⟩:=hfind;have hdi:=hd _ (List.getElem_mem hi);rw [f3,k5_eq l out i k rec hi (by omega) (by omega) hk (by omega)]
      by_cases htw:∃ h:k < out.length,out[k].path = l[i].path
      ·rw [if_pos htw];exact no _ (by decide)
      ·rw [if_neg htw];refine hrec _ ⟨?_,rises_put hris hk f1 fun h=>⟨f2 h,fun e=>htw ⟨h,e⟩⟩⟩;rw [zdp hi];refine List.perm_middle.trans ?_;rw [List.take_append_drop];exact (List.Perm.cons _ hperm).trans (List.perm_append_singleton _ _).symm
     ·intro rec out ⟨hperm,hris⟩;simp only [zak.l3,zak.k2];rw [if_f (lt_f (Nat.lt_irrefl _))];rw [List.take_length] at hperm;exact ⟨_,rfl,fun _=>⟨hperm,hris,hL,hB⟩⟩
    ·refine hall.2 (List.all_eq_true.2 fun x hx=>?_);unfold badB at hB;have:=List.any_eq_false.1 hB x hx;simpa using this
  ·intro rec i hi;simp only [zak.l7];rw [if_t (lt_t hi),zfc hi,zav,zqy _ (hp _ (List.getElem_mem hi)),zav];simp only [List.getD_eq_getElem?_getD,List.getElem?_eq_getElem hi,Option.getD_some];cases zjf l[i].path with
   | false=>rfl
   | true=>simp only [Bool.not_true,Bool.false_eq_true,if_false,if_true]; rw [zcf (by omega)]
  ·intro rec;simp only [zak.l7];rw [if_f (lt_f (Nat.lt_irrefl _))]
end Go.Wk.Lf
end
section
namespace Go.Wk.Lf
open Go.V Go.Sort Go.Proofs
def zto (r:UInt32) (c:UInt8):UInt32:=(r <<< UInt32.ofNat 1) + ((c.toUInt32 + (1:UInt32)) * (2654435761:UInt32))
def regHigh (r:UInt32):Bool:=decide (((r >>> UInt32.ofNat 28).toNat:Int) = 0)
def zmb:UInt32 → Nat → List UInt8 → Nat
 | _,n,[]=>n
 | r,n,c :: t=>if (decide (64 ≤ n + 1) || (decide (8 ≤ n + 1) && regHigh (zto r c))) = true then n + 1 else zmb (zto r c) (n + 1) t
def zqe (b:List UInt8):Nat:=zmb 0 0 b
theorem znr:∀ (t:List UInt8) (r:UInt32) (n:Nat),n ≤ zmb r n t ∧ zmb r n t ≤ n + t.length ∧ (t ≠ [] → n + 1 ≤ zmb r n t) ∧ (n ≤ 64 → n < 64 ∨ t = [] → zmb r n t ≤ 64) ∧ (zmb r n t < n + t.length → 8 ≤ zmb r n t)
 | [],r,n=>by simp [zmb]
 | c :: t,r,n=>by
  obtain ⟨h1,h2,h3,h4,h5⟩:=znr t (zto r c) (n + 1);simp only [zmb]
  split
  ·rename_i hc;refine ⟨by omega,by simp only [List.length_cons]; omega,fun _=>Nat.le_refl _,fun _ h=>?_,fun _=>?_⟩
   ·rcases h with h | h
    ·omega
    ·cases h
   ·simp only [Bool.or_eq_true,Bool.and_eq_true,decide_eq_true_eq] at hc; omega
  ·rename_i hc;refine ⟨by omega,by simp; omega,fun _=>by omega,fun hn h=>?_,fun h=>h5 (by simp at h; omega)⟩;have h6:n + 1 < 64:=by
    simp only [Bool.or_eq_true,decide_eq_true_eq,not_or] at hc; omega
   exact h4 (by omega) (.inl h6)
theorem znq {b:List UInt8} (h:b ≠ []):1 ≤ zqe b:=(znr b 0 0).2.2.1 h
theorem zwr (b:List UInt8):zqe b ≤ b.length:=by have:=(znr b 0 0).2.1; rwa [Nat.zero_add] at this
theorem nextL_64 (b:List UInt8):zqe b ≤ 64:=(znr b 0 0).2.2.2.1 (by decide) (.inl (by decide))
theorem nextL_8 {b:List UInt8} (h:zqe b < b.length):8 ≤ zqe b:=(znr b 0 0).2.2.2.2 (by rw [Nat.zero_add]; exact h)
def cutL (b:List UInt8):List (List UInt8):=if h:b = [] then [] else b.take (zqe b) :: cutL (b.drop (zqe b))
termination_by b.length
decreasing_by
 have h1:=znq h;have:0 < b.length:=List.length_pos_iff.2 h;simp only [List.length_drop]; omega
theorem zot:cutL [] = []:=by unfold cutL; simp
theorem zqo {b:List UInt8} (h:b ≠ []):cutL b = b.take (zqe b) :: cutL (b.drop (zqe b)):=by rw [cutL,dif_neg h]
theorem len_ind {p:List UInt8 → Prop} (h:∀ b,(∀ c,c.length < b.length → p c) → p b) (b:List UInt8):p b:=by
 suffices ∀ n,∀ b:List UInt8,b.length < n → p b from this _ b (Nat.lt_succ_self _)
 intro n
 induction n with
 | zero=>intro b hb; omega
 | succ n ih=>intro b hb; exact h b fun c hc=>ih c (by omega)
theorem zxi {p:List UInt8 → Prop} (h0:p []) (h1:∀ b,b ≠ [] → p (b.drop (zqe b)) → p b) (b:List UInt8):p b:=by
 refine len_ind (fun b ih=>?_) b
 by_cases h:b = []
 ·subst h; exact h0
 ·refine h1 b h (ih _ ?_);have h2:=znq h;have:0 < b.length:=List.length_pos_iff.2 h;simp only [List.length_drop]; omega
theorem cutL_flat (b:List UInt8):(cutL b).flatten = b:=by
 refine zxi (p:=fun b=>(cutL b).flatten = b) (by rw [zot]; rfl) (fun b h ih=>?_) b;rw [zqo h,List.flatten_cons,ih,List.take_append_drop]
theorem cutL_mem (b:List UInt8):∀ x ∈ cutL b,1 ≤ x.length ∧ x.length ≤ 64:=by
 refine zxi (p:=fun b=>∀ x ∈ cutL b,1 ≤ x.length ∧ x.length ≤ 64) (by rw [zot]; intro x hx; simp at hx) (fun b h ih=>?_) b;rw [zqo h];intro x hx;rcases List.mem_cons.1 hx with rfl | hx
 ·have h1:=znq h;have h2:=nextL_64 b;have h3:=zwr b;simp only [List.length_take]; omega
 ·exact ih x hx
theorem zxh (b:List UInt8):8 * (cutL b).length ≤ b.length + 7:=by
 refine zxi (p:=fun b=>8 * (cutL b).length ≤ b.length + 7) (by rw [zot]; simp) (fun b h ih=>?_) b;rw [zqo h];have h1:=znq h;have h3:=zwr b;simp only [List.length_cons,List.length_drop] at ih ⊢;rcases Nat.lt_or_ge (zqe b) b.length with h4 | h4
 ·have:=nextL_8 h4; omega
 ·have:b.drop (zqe b) = []:=List.drop_eq_nil_of_le h4;rw [this,zot];have:0 < b.length:=List.length_pos_iff.2 h;simp only [List.length_nil]; omega
theorem cutL_empty (b:List UInt8):cutL b = [] ↔ b = []:=by
 constructor
 ·intro h;have:=cutL_flat b;rw [h] at this; exact this.symm
 ·rintro rfl; exact zot
theorem mul2 (x:UInt32):x * (2:UInt32) = x <<< UInt32.ofNat 1:=by
 apply UInt32.toNat.inj;rw [UInt32.toNat_mul,UInt32.toNat_shiftLeft];rw [show (2:UInt32).toNat = 2 from rfl,show (UInt32.ofNat 1).toNat % 32 = 1 from rfl,Nat.shiftLeft_eq]
theorem rnext_eq (b:List UInt8) (hb:b.length < 4611686018427387904):zcc b = some (zqe b:Int):=by
 unfold zcc;refine zfq (S:=UInt32 × Int) (σ:=UInt32) (fun i r=>(r,(i:Int))) b.length (fun i r=>i < 64 ∧ zmb r i (b.drop i) = zqe b) _ (i0:=0) rfl (Nat.zero_le _) ⟨by decide,rfl⟩ hb ?_ ?_
 ·intro rec i r hi hI hrec;obtain ⟨h64,hI⟩:=hI;simp only [zcc.l2];rw [List.drop_eq_getElem_cons hi] at hI;simp only [zmb] at hI;rw [if_t (lt_t hi),zfc hi,zav,zcf (by omega)];have e1:decide (((i + 1:Nat):Int) = 64) = decide (64 ≤ i + 1):=by rw [decide_eq_decide]; omega
  have e2:decide (8 ≤ ((i + 1:Nat):Int)) = decide (8 ≤ i + 1):=by rw [decide_eq_decide]; omega
  rw [e1,e2,mul2];show (if ((decide (8 ≤ i + 1) && regHigh (zto r b[i])) || decide (64 ≤ i + 1)) = true then _ else rec (zto r b[i],((i + 1:Nat):Int))) = _;rw [Bool.or_comm]
  split
  ·rename_i hc;rw [if_pos hc] at hI;rw [← hI]
  ·rename_i hc;rw [if_neg hc] at hI;refine hrec _ ⟨?_,hI⟩;simp only [Bool.or_eq_true,decide_eq_true_eq,not_or] at hc;omega
 ·intro rec r hI;simp only [zcc.l2,zcc.k1];rw [if_f (lt_f (Nat.lt_irrefl _))];have hI2:=hI.2;rw [List.drop_length] at hI2;simp only [zmb] at hI2;rw [← hI2]
theorem rcut_eq (b:List UInt8) (hb:b.length ≤ 1000000):zcj b = some (cutL b):=by
 unfold zcj;refine zkk (S:=List UInt8 × List (List UInt8)) (fun s=>s.1.length ≤ 1000000 ∧ s.2.length + s.1.length ≤ 1000000 ∧ s.2 ++ cutL s.1 = cutL b) (fun s=>s.1.length) ⟨hb,by simpa using hb,rfl⟩ (by show b.length < _; omega) ?_;rintro rec ⟨q,acc⟩ ⟨h1,h2,h3⟩ hrec;simp only at h1 h2 h3;simp only [zcj.l2,zcj.k1]
 by_cases hq:q = []
 ·subst hq;rw [if_neg (by simp)];rw [zot,List.append_nil] at h3;rw [h3]
 ·have h4:=znq hq;have h5:=zwr q;have h6:0 < q.length:=List.length_pos_iff.2 hq;rw [if_pos (by simp; omega),rnext_eq q (by omega),zav,zig (by omega) (by omega) (by omega),zav,Int.toNat_natCast,Int.toNat_zero,List.drop_zero,twinB_eq _ (by simp; omega),zav,zdb (by simp; omega),zav,zig (by omega) (by omega) (by omega),zav,Int.toNat_natCast,Int.toNat_natCast,List.take_length];refine hrec _ ⟨by simp; omega,by simp; omega,?_⟩ (by simp; omega);rw [← h3,zqo hq]; simp
end Go.Wk.Lf
end
section
namespace Go.Wk.Lf
open Go.V Go.Sort Go.Proofs
noncomputable def insC (cs:List (List UInt8)) (c:List UInt8):List (List UInt8) :=
 if (cs.map sumP)[zeq (cs.map sumP) (sumP c)]? = some (sumP c) then cs else cs.take (zeq (cs.map sumP) (sumP c)) ++ [c] ++ cs.drop (zeq (cs.map sumP) (sumP c))
theorem zwy (cs:List (List UInt8)) (c:List UInt8):(insC cs c).map sumP = insI (cs.map sumP) (sumP c):=by
 unfold insC insI
 split <;> simp [List.map_take,List.map_drop]
theorem insC_len (cs:List (List UInt8)) (c:List UInt8):(insC cs c).length ≤ cs.length + 1:=by
 have:=insI_len (cs.map sumP) (sumP c);rw [← zwy] at this;simpa using this
theorem insC_mem {cs:List (List UInt8)} {c x:List UInt8} (h:x ∈ insC cs c):x ∈ cs ∨ x = c:=by
 unfold insC at h
 split at h
 ·exact .inl h
 ·simp only [List.mem_append,List.mem_singleton] at h;rcases h with (h | h) | h
  ·exact .inl (List.mem_of_mem_take h)
  ·exact .inr h
  ·exact .inl (List.mem_of_mem_drop h)
theorem foldC_len (l:List (List UInt8)):∀ cs,(l.foldl insC cs).length ≤ cs.length + l.length:=by
 induction l with
 | nil=>intro cs; exact Nat.le_refl _
 | cons c l ih=>intro cs; have h1:=ih (insC cs c); have h2:=insC_len cs c; simp only [List.foldl_cons,List.length_cons]; omega
theorem foldC_mem (l:List (List UInt8)):∀ cs x,x ∈ l.foldl insC cs → x ∈ cs ∨ x ∈ l:=by
 induction l with
 | nil=>intro cs x h; exact .inl h
 | cons c l ih =>
  intro cs x h;rcases ih _ x h with h | h
  ·rcases insC_mem h with h | h
   ·exact .inl h
   ·exact .inr (by rw [h]; simp)
  ·exact .inr (by simp [h])
theorem foldC_map (l:List (List UInt8)):∀ cs,(l.foldl insC cs).map sumP = (l.map sumP).foldl insI (cs.map sumP):=by
 induction l with
 | nil=>intro cs; rfl
 | cons c l ih=>intro cs; rw [List.foldl_cons,ih,zwy]; rfl
noncomputable def partR (f:File):Part:=Part.mk f.path (f.data.length:Int) ((cutL f.data).map sumP)
def zkp (l:List File):List (List UInt8):=l.flatMap fun f=>cutL f.data
noncomputable def zgr (l:List File):List (List UInt8):=(zkp l).foldl insC []
noncomputable def manR (name:List UInt8) (l:List File):Manifest:=⟨name,l.map partR⟩
theorem all32 (cs:List (List UInt8)):∀ y ∈ cs.map sumP,y.length = 32:=fun y hy=>by
 obtain ⟨x,_,rfl⟩:=List.mem_map.1 hy; exact sumP_len x
theorem build_l5 (i32:Int) (l33:List Part) (rec36) (f:File) (ps:List (List UInt8)) (hps:ps.length ≤ 25) (hp:∀ x ∈ ps,x.length ≤ 64) (cs:List (List UInt8)) (hcs:cs.length ≤ 1000) :
  loop (zan.l5 i32 l33 rec36 f) (cs.map sumP,cs,ps,0,[]) = zan.k4 i32 l33 rec36 f ((ps.foldl insC cs).map sumP) (ps.foldl insC cs) (ps.map sumP):=by
 have:=zgi (F:=zan.l5 i32 l33 rec36 f) (x0:=(cs.map sumP,cs,ps,0,[])) (fun i (s:List (List UInt8))=>(s.map sumP,s,ps,(i:Int),(ps.take i).map sumP)) ps insC (fun s=>zan.k4 i32 l33 rec36 f (s.map sumP) s (ps.map sumP)) (fun i s=>s.length ≤ 1000 + i) (i0:=0) (s0:=cs) rfl (Nat.zero_le _) hcs (by omega) ?_ ?_
 ·rw [this]; rfl
 ·intro rec i s hi hs;have hl:=hp _ (List.getElem_mem hi);refine ⟨by have:=insC_len s ps[i]; omega,?_⟩;simp only [zan.l5];rw [if_t (lt_t hi),zfc hi,zav,b_sum _ (by omega),zav,zdb (by simp; omega),zav,add_eq _ _ (by simp; omega) (all32 s) (sumP_len _),zav];have hk:=zno (s.map sumP) (sumP ps[i]);rw [List.length_map] at hk;rw [zwy,zdp hi,List.map_append];simp only [zan.k6,zcf (show i < 4611686018427387904 by omega)]
  by_cases h:(s.map sumP)[zeq (s.map sumP) (sumP ps[i])]? = some (sumP ps[i])
  ·rw [if_f (by simp [h])];unfold insC;rw [if_pos h];rfl
  ·rw [if_t (show (!decide ((s.map sumP)[zeq (s.map sumP) (sumP ps[i])]? = some (sumP ps[i]))) = true by rw [decide_eq_false h]; rfl),zig (by omega) (by omega) (by omega),zav,zav,zdb (by simp; omega),zav,zdb (by simp; omega),zav,zig (by omega) (by omega) (by omega),zav,zdb (by simp; omega),zav];unfold insC;rw [if_neg h];simp
 ·intro rec s hs;simp only [zan.l5];rw [if_f (lt_f (Nat.lt_irrefl _)),List.take_length]
theorem rbuild_eq (name:List UInt8) (l:List File) (hn:zjf name = true) (hl:l.length ≤ 6) (hd:∀ f ∈ l,f.data.length ≤ 200) (hp:∀ f ∈ l,f.path.length < 9223372036854775808) (hc:chkL l = 0) :
  zan name l = some (manR name l,zgr l,0):=by
 have hnl:name.length ≤ 20:=by
  unfold zjf at hn; simp only [Bool.and_eq_true,decide_eq_true_eq] at hn; omega
 unfold zan;rw [zqy name (by omega),zav,hn,if_f (show (!true) = false from rfl),reftree_eq l (by omega) hp,zav,hc,if_f (by decide)];have hcut:∀ (i:Nat) (hi:i < l.length),(cutL l[i].data).length ≤ 25:=fun i hi=>by
  have h1:=zxh l[i].data;have h2:=hd _ (List.getElem_mem hi);omega
 have:=zgi (F:=zan.l2 name l) (x0:=([],[],0,[])) (fun i (s:List (List UInt8))=>(s.map sumP,s,(i:Int),(l.take i).map partR)) l (fun s f=>(cutL f.data).foldl insC s) (fun s=>some (manR name l,s,0)) (fun i s=>s.length ≤ 25 * i) (i0:=0) (s0:=[]) rfl (Nat.zero_le _) (Nat.le_refl _) (by omega) ?_ ?_
 ·rw [this];unfold zgr zkp;rw [List.foldl_flatMap]; rfl
 ·intro rec i s hi hs;have h1:=hcut i hi;have h2:=hd _ (List.getElem_mem hi);refine ⟨by have:=foldC_len (cutL l[i].data) s; omega,?_⟩;simp only [zan.l2];rw [if_t (lt_t hi),zfc hi,zav,zav,rcut_eq _ (by omega),zav,build_l5 _ _ _ _ _ h1 (fun x hx=>(cutL_mem _ x hx).2) s (by omega)];simp only [zan.k4,zan.k3];rw [zdb (by simp; omega),zav,zcf (by omega),zdp hi,List.map_append];rfl
 ·intro rec s hs;simp only [zan.l2,zan.k1];rw [if_f (lt_f (Nat.lt_irrefl _)),List.take_length];rfl
theorem zxm (l:List File):zoj ((zgr l).map sumP):=by
 unfold zgr;rw [foldC_map];exact (foldI _ [] List.Pairwise.nil).1
theorem chunksR_ids (l:List File) (y:List UInt8):y ∈ (zgr l).map sumP ↔ y ∈ (zkp l).map sumP:=by
 unfold zgr;rw [foldC_map];show y ∈ List.foldl insI [] ((zkp l).map sumP) ↔ _;rw [(foldI _ _ List.Pairwise.nil).2.1];simp
theorem zpj {l:List File} {x:List UInt8} (h:x ∈ zgr l):1 ≤ x.length ∧ x.length ≤ 64:=by
 rcases foldC_mem _ _ _ h with h | h
 ·cases h
 ·obtain ⟨f,_,h⟩:=List.mem_flatMap.1 h;exact cutL_mem _ _ h
theorem piecesR_len {l:List File} (hl:l.length ≤ 6) (hd:∀ f ∈ l,f.data.length ≤ 200):(zkp l).length ≤ 150:=by
 have h:∀ l:List File,(∀ f ∈ l,f.data.length ≤ 200) → (zkp l).length ≤ 25 * l.length:=fun l=>by
  induction l with
  | nil=>intro _; exact Nat.le_refl _
  | cons f l ih =>
   intro hd;have h1:=ih fun g hg=>hd g (by simp [hg]);have h2:=zxh f.data;have h3:=hd f (by simp);unfold zkp at *;simp only [List.flatMap_cons,List.length_append,List.length_cons];omega
 have:=h l hd; omega
theorem zpk {l:List File} (hl:l.length ≤ 6) (hd:∀ f ∈ l,f.data.length ≤ 200):(zgr l).length ≤ 150:=by
 have h1:=foldC_len (zkp l) [];have h2:=piecesR_len hl hd;unfold zgr;simp only [List.length_nil] at h1; omega
theorem ids_manR (name:List UInt8) (l:List File):zlm (manR name l) = (zkp l).map sumP:=by
 unfold zlm manR zkp;simp only [List.flatMap_map,List.map_flatMap];rfl
end Go.Wk.Lf
end
section
namespace Go.Wk.Lf
open Go.V Go.Sort Go.Proofs
def zwq (c:Catalog) (f:Found):Option Catalog:=if f.rec_.kind = 1 then zeb c f else if f.rec_.kind = 2 then zex c f else if f.rec_.kind = 3 then zga c f else some c
def zld:List Found → Catalog → Option Catalog
 | [],c=>some c
 | f :: l,c=>bd (zwq c f) (zld l)
theorem zrm (a b:List Found):∀ c,zld (a ++ b) c = bd (zld a c) (zld b):=by
 induction a with
 | nil=>intro c; rfl
 | cons f a ih =>
  intro c;simp only [List.cons_append,zld];cases zwq c f with
  | none=>rfl
  | some d=>exact ih d
def finO (c:Catalog):Option (Catalog × Int):=zau.k1 c.exps c.chunks c.snaps c.seq c.vols
theorem from_eq (vs:List Vol) (fs:List Found) (C:Catalog) (hv:vs.length ≤ 1073741824) (hf:fs.length ≤ 1073741824) (h:zld fs (bareC vs) = some C):zau vs fs = finO C:=by
 unfold zau zcu;rw [ziz _ hv,zav];refine zfq (σ:=Catalog) (fun i c=>((i:Int),c.exps,c.chunks,c.snaps,c.seq,c.vols)) fs.length (fun i c=>zld (fs.drop i) c = some C) _ (i0:=0) (s0:=bareC vs) rfl (Nat.zero_le _) h (by omega) ?_ ?_
 ·intro rec i c hi hI hrec;simp only [zau.l8];rw [if_t (lt_t hi),zfc hi,zav];rw [List.drop_eq_getElem_cons hi] at hI;obtain ⟨d,hd,hI⟩:=zaq hI;have hr:=hrec d hI;have k9:zau.k9 (i:Int) rec d.exps d.chunks d.snaps d.seq d.vols = finO C:=by
   unfold zau.k9;rw [zcf (by omega)]; exact hr
  unfold zwq at hd
  by_cases h1:fs[i].rec_.kind = 1
  ·rw [if_t (decide_eq_true h1)];rw [if_pos h1] at hd;rw [show Catalog.mk c.seq c.snaps c.chunks c.exps c.vols = c from rfl,hd,zav]; exact k9
  ·rw [if_f (decide_eq_false h1)];rw [if_neg h1] at hd
   by_cases h2:fs[i].rec_.kind = 2
   ·rw [if_t (decide_eq_true h2)];rw [if_pos h2] at hd;rw [show Catalog.mk c.seq c.snaps c.chunks c.exps c.vols = c from rfl,hd,zav]; exact k9
   ·rw [if_f (decide_eq_false h2)];rw [if_neg h2] at hd
    by_cases h3:fs[i].rec_.kind = 3
    ·rw [if_t (decide_eq_true h3)];rw [if_pos h3] at hd;rw [show Catalog.mk c.seq c.snaps c.chunks c.exps c.vols = c from rfl,hd,zav]; exact k9
    ·rw [if_f (decide_eq_false h3)];rw [if_neg h3] at hd;obtain rfl:=Option.some.inj hd;exact k9
 ·intro rec c hI;simp only [zau.l8];rw [if_f (lt_f (Nat.lt_irrefl _))];rw [List.drop_length] at hI;obtain rfl:=Option.some.inj hI;rfl
def putC (l:List Chunk) (id:List UInt8) (loc:Loc):List Chunk :=
 if zsi l id = true then l.set (zhz l id) (Chunk.mk (l.getD (zhz l id) default).id (l.getD (zhz l id) default).staged (l.getD (zhz l id) default).data ((l.getD (zhz l id) default).locs ++ [loc]))
 else l.take (zhz l id) ++ [Chunk.mk id false [] [loc]] ++ l.drop (zhz l id)
theorem ins_ok {α:Type} {l:List α} {k:Nat} {x:α} (hk:k ≤ l.length) (hl:l.length ≤ 1000000):insD l (k:Int) [x] = some (l.take k ++ [x] ++ l.drop k):=by
 unfold insD;rw [if_pos ⟨by omega,by omega,by simp,by simp; omega⟩,Int.toNat_natCast]
theorem mid_get {α:Type} {l:List α} {k:Nat} {x:α} (hk:k ≤ l.length):(l.take k ++ [x] ++ l.drop k)[k]? = some x:=by
 rw [List.append_assoc,List.getElem?_append_right (by simp [hk])];simp [Nat.min_eq_left hk]
theorem mid_set {α:Type} {l:List α} {k:Nat} {x y:α} (hk:k ≤ l.length):(l.take k ++ [x] ++ l.drop k).set k y = l.take k ++ [y] ++ l.drop k:=by
 rw [List.append_assoc,List.set_append_right _ _ (by simp [hk])];simp [Nat.min_eq_left hk]
theorem chunk_step (c:Catalog) (f:Found) (hk:f.rec_.kind = 1) (hr:zml c.chunks) (hl:c.chunks.length ≤ 1000000) (hs:∀ x ∈ c.chunks,x.locs.length ≤ 1000000) (h1:1 ≤ f.rec_.data.length) (h64:f.rec_.data.length ≤ 64) :
  zwq c f = some ⟨c.seq,c.snaps,putC c.chunks (sumP f.rec_.data) f.loc,c.exps,c.vols⟩:=by
 unfold zwq;rw [if_pos hk];unfold zeb;rw [if_f (by rw [decide_eq_false (by omega),decide_eq_false (by omega)]; rfl),a_sum _ (by omega),zav,zwm _ _ (by omega) hr,zav];have hle:=chunkAt_le c.chunks (sumP f.rec_.data);unfold putC;cases h:zsi c.chunks (sumP f.rec_.data) with
 | true =>
  rw [if_f (by rfl),if_pos rfl];have hlt:zhz c.chunks (sumP f.rec_.data) < c.chunks.length:=by
   unfold zsi at h; simp only [Bool.and_eq_true,decide_eq_true_eq] at h; exact h.1
  unfold zeb.k1;rw [zfc hlt,zav,zdb (by have:=hs _ (List.getElem_mem hlt); simp; omega),zav,zav,zde hlt,Int.toNat_natCast]
 | false =>
  rw [if_t (by rfl),ins_ok hle hl,zav,if_neg (by decide)];unfold zeb.k1;rw [ix_of (mid_get hle),zav,zdb (by simp),zav,zav,Int.toNat_natCast,mid_set hle];simp only [List.nil_append]
theorem putC_end {l:List Chunk} {id:List UInt8} (h:∀ x ∈ l,sLt x.id id = true) (loc:Loc):putC l id loc = l ++ [Chunk.mk id false [] [loc]]:=by
 have hk:zhz l id = l.length:=znm (Nat.le_refl _) (fun q hq=>by rw [zde hq]; exact h _ (List.getElem_mem hq)) (fun h=>absurd h (Nat.lt_irrefl _));unfold putC zsi;rw [hk,decide_eq_false (Nat.lt_irrefl _),Bool.false_and,if_neg (by decide),List.take_length,List.drop_length,List.append_nil]
theorem snapAt_nil (n:Int):zag [] n = some (0,false):=by
 unfold zag;refine zkk (S:=Int × Int) (fun s=>s = (0,0)) (fun _=>0) rfl (by decide) ?_;rintro rec s rfl _;rfl
theorem expAt_nil (n:Int):zai [] n = some (0,false):=by
 unfold zai;refine zkk (S:=Int × Int) (fun s=>s = (0,0)) (fun _=>0) rfl (by decide) ?_;rintro rec s rfl _;rfl
theorem next_seq {q s:Int} (h0:0 ≤ s) (h1:s ≤ 1000000) (hq:q ≤ s):(if q < wr ((if 1073741824 < s then 1073741824 else s) + 1) then wr ((if 1073741824 < s then 1073741824 else s) + 1) else q) = s + 1:=by
 rw [show (if 1073741824 < s then 1073741824 else s) = s from if_neg (by omega),zff (by omega) (by omega),if_pos (by omega)]
theorem snap_first (c:Catalog) (f:Found) (m:Manifest) (hk:f.rec_.kind = 2) (hn:c.snaps = []) (hm:isMan f.rec_.data m) (hl:f.rec_.data.length ≤ 1000000000) (h0:0 ≤ f.rec_.seq) (h1:f.rec_.seq ≤ 1000000) (hq:c.seq ≤ f.rec_.seq) :
  zwq c f = some ⟨f.rec_.seq + 1,[Snap.mk f.rec_.seq m [f.loc]],c.chunks,c.exps,c.vols⟩:=by
 unfold zwq;rw [if_neg (by omega),if_pos hk];unfold zex;rw [read_eq _ hl,readL_man hm,zav,if_f (decide_eq_false (fun h=>h rfl)),hn,snapAt_nil,zav,if_t (by rfl)];rw [show insD ([]:List Snap) 0 [Snap.mk f.rec_.seq m []] = some [Snap.mk f.rec_.seq m []] from rfl,zav];unfold zex.k1;rw [show ix [Snap.mk f.rec_.seq m []] (0:Int) = some (Snap.mk f.rec_.seq m []) from rfl,zav,zdb (by simp),zav,zav];rw [next_seq h0 h1 hq];rfl
theorem exp_first (c:Catalog) (f:Found) (of:Nat) (hk:f.rec_.kind = 3) (hn:c.exps = []) (hl:f.rec_.data.length = 4) (hm:beN f.rec_.data = of) (h0:0 ≤ f.rec_.seq) (h1:f.rec_.seq ≤ 1000000) (hq:c.seq ≤ f.rec_.seq) :
  zwq c f = some ⟨f.rec_.seq + 1,c.snaps,c.chunks,[Exp.mk f.rec_.seq (of:Int) [f.loc]],c.vols⟩:=by
 unfold zwq;rw [if_neg (by omega),if_neg (by omega),if_pos hk];unfold zga;have hg:=get_eq f.rec_.data 0 4 (by decide) (by decide) (by omega) (by omega);rw [show f.rec_.data.take (0 + 4) = f.rec_.data from List.take_of_length_le (by omega),List.drop_zero,hm] at hg;rw [if_f (decide_eq_false (by omega)),show zho f.rec_.data 0 4 = _ from hg,zav,hn,expAt_nil,zav,if_t (by rfl)];rw [show insD ([]:List Exp) 0 [Exp.mk f.rec_.seq (of:Int) []] = some [Exp.mk f.rec_.seq (of:Int) []] from rfl,zav];unfold zga.k1;rw [show ix [Exp.mk f.rec_.seq (of:Int) []] (0:Int) = some (Exp.mk f.rec_.seq (of:Int) []) from rfl,zav,zdb (by simp),zav,zav];rw [next_seq h0 h1 hq];rfl
def zsh (so:List Loc → List Loc) (S:List Snap) (c:Catalog):Catalog :=
 ⟨c.seq,S.map fun s=>Snap.mk s.seq s.man (so s.locs),c.chunks.map fun x=>Chunk.mk x.id x.staged x.data (so x.locs),c.exps.map fun x=>Exp.mk x.seq x.of (so x.locs),c.vols⟩
theorem fin_eq (c:Catalog) (S:List Snap) (so:List Loc → List Loc) (hS:zbt c = some S) (hv:c.vols.length ≤ 1000000) (hs:S.length ≤ 1000000) (hc:c.chunks.length ≤ 1000000) (he:c.exps.length ≤ 1000000)
  (p1:∀ x ∈ S,zhk x.locs = some (so x.locs)) (p2:∀ x ∈ c.chunks,zhk x.locs = some (so x.locs)) (p3:∀ x ∈ c.exps,zhk x.locs = some (so x.locs)) :
  finO c = some (if catB (zsh so S c) = true then (zsh so S c,0) else (Catalog.mk 0 [] [] [] [],1)):=by
 have e4:zau.k4 c.seq c.vols (S.map fun s=>Snap.mk s.seq s.man (so s.locs)) (c.chunks.map fun x=>Chunk.mk x.id x.staged x.data (so x.locs)) (c.exps.map fun x=>Exp.mk x.seq x.of (so x.locs)) = some (if catB (zsh so S c) = true then (zsh so S c,0) else (Catalog.mk 0 [] [] [] [],1)):=by
  unfold zau.k4;rw [show Catalog.mk c.seq (S.map fun s=>Snap.mk s.seq s.man (so s.locs)) (c.chunks.map fun x=>Chunk.mk x.id x.staged x.data (so x.locs)) (c.exps.map fun x=>Exp.mk x.seq x.of (so x.locs)) c.vols = zsh so S c from rfl];rw [check_eq _ (by unfold zsh; simp only; omega) (by unfold zsh; simp only [List.length_map]; omega) (by unfold zsh; simp only [List.length_map]; omega) (by unfold zsh; simp only [List.length_map]; omega),zav]
  by_cases h:catB (zsh so S c) = true
  ·rw [if_pos h,if_pos h,twinCat_eq _ (catB_small h)]; rfl
  ·rw [if_neg h,if_neg h]; rfl
 unfold finO zau.k1;rw [show Catalog.mk c.seq c.snaps c.chunks c.exps c.vols = c from rfl,hS,zav];rw [zkr S (fun s=>Snap.mk s.seq s.man (so s.locs)) (fun l=>zau.k2 c.exps c.chunks c.seq c.vols l) (by omega) ?_ ?_]
 ·unfold zau.k2;rw [zkr c.chunks (fun x=>Chunk.mk x.id x.staged x.data (so x.locs)) (fun l=>zau.k3 c.exps c.seq c.vols (S.map fun s=>Snap.mk s.seq s.man (so s.locs)) l) (by omega) ?_ ?_]
  ·unfold zau.k3;rw [zkr c.exps (fun x=>Exp.mk x.seq x.of (so x.locs)) (fun l=>zau.k4 c.seq c.vols (S.map fun s=>Snap.mk s.seq s.man (so s.locs)) (c.chunks.map fun x=>Chunk.mk x.id x.staged x.data (so x.locs)) l) (by omega) ?_ ?_]
   ·exact e4
   ·intro rec i l hi hm hx;simp only [zau.l5];rw [if_t (lt_t hi),ix_of hx,zav,p3 _ (List.getElem_mem hi),zav,zcf (by omega),Int.toNat_natCast]
   ·intro rec l hl;simp only [zau.l5];rw [if_f (lt_f (Nat.lt_irrefl _))]
  ·intro rec i l hi hm hx;simp only [zau.l6];rw [if_t (lt_t hi),ix_of hx,zav,p2 _ (List.getElem_mem hi),zav,zcf (by omega),Int.toNat_natCast]
  ·intro rec l hl;simp only [zau.l6];rw [if_f (lt_f (Nat.lt_irrefl _))]
 ·intro rec i l hi hm hx;simp only [zau.l7];rw [if_t (lt_t hi),ix_of hx,zav,p1 _ (List.getElem_mem hi),zav,zcf (by omega),Int.toNat_natCast]
 ·intro rec l hl;simp only [zau.l7];rw [if_f (lt_f (Nat.lt_irrefl _))]
theorem sort_one (x:Loc):zhk [x] = some [x]:=by
 unfold zhk zbm;rw [ziz _ (by simp),zav,sortM_ok (by simp),zav];rw [show zuf znp [x] = [x] from rfl,show zaf [x] = some [x] from rfl,zav,ziz _ (by simp),zav]
theorem sort_one' {l:List Loc} (h:l.length = 1):zhk l = some l:=by
 obtain ⟨x,rfl⟩:=List.length_eq_one_iff.1 h;exact sort_one x
def zth (c:Catalog) (s:Snap):Bool:=allN c.exps.length (fun k=>!decide ((c.exps.getD k default).of = s.seq)) && allN (idsU (zlm s.man)).length fun k=>zsi c.chunks ((idsU (zlm s.man)).getD k default)
theorem stays_eq (c:Catalog) (s:Snap) (he:c.exps.length ≤ 1000000) (hc:c.chunks.length ≤ 1000000) (hr:zml c.chunks) (hp:s.man.parts.length ≤ 1000000) (hi:(zlm s.man).length ≤ 1000000):zhr c s = some (zth c s):=by
 have hu:=idsU_len (zlm s.man);unfold zhr zbz zal;rw [zra c.exps.length (fun k=>decide ((c.exps.getD k default).of = s.seq)) (by omega) ?_ ?_,zav,zav,znu]
 ·unfold zth;cases allN c.exps.length (fun k=>!decide ((c.exps.getD k default).of = s.seq)) with
  | false=>rfl
  | true =>
   rw [if_f (by rfl),mids_eq _ (by omega) (by omega),zav];unfold zca zam;rw [zra (idsU (zlm s.man)).length (fun k=>!zsi c.chunks ((idsU (zlm s.man)).getD k default)) (by omega) ?_ ?_,zav,zav,znu]
   ·simp
   ·intro rec i hi;simp only [zam.l2,zir];rw [if_t (lt_t hi),zfc hi,zav,zwm _ _ (by omega) hr,zav,zav,zde hi,zcf (by omega)]
   ·intro rec;simp only [zam.l2,zam.k1];rw [if_f (lt_f (Nat.lt_irrefl _))]
 ·intro rec i hi;simp only [zal.l2,zis];rw [if_t (lt_t hi),zfc hi,zav,zav,zde hi,zcf (by omega)]
 ·intro rec;simp only [zal.l2,zal.k1];rw [if_f (lt_f (Nat.lt_irrefl _))]
theorem snaps_nil (c:Catalog) (h:c.snaps = []):zbt c = some []:=by
 unfold zbt;refine zkk (S:=List Snap × Int) (fun s=>s = ([],0)) (fun _=>0) rfl (by decide) ?_;rintro rec s rfl _;simp only [zbt.l2,h];rfl
theorem del_nil (s:Snap):zae [] s = some []:=by
 unfold zae;rw [show zas [] s = some (-1) from ?_]
 ·rfl
 ·unfold zas;refine zkk (S:=Int) (fun s=>s = 0) (fun _=>0) rfl (by decide) ?_;rintro rec s rfl _;rfl
theorem snaps_one (c:Catalog) (s:Snap) (b:Bool) (h:c.snaps = [s]) (hb:zhr c s = some b):zbt c = some (if b = true then [s] else []):=by
 unfold zbt;refine zfq (S:=List Snap × Int) (σ:=Unit) (fun i _=>(if i = 0 then [] else if b = true then [s] else [],(i:Int))) 1 (fun _ _=>True) _ (i0:=0) (s0:=()) rfl (Nat.zero_le _) trivial (by omega) ?_ ?_
 ·intro rec i _ hi _ hrec;obtain rfl:i = 0:=by omega
  have hr:=hrec () trivial;simp only [zbt.l2,zbt.k3];rw [if_t (by rw [h]; rfl),h,show ix [s] ((0:Nat):Int) = some s from rfl,zav,hb,zav];rw [if_neg (by decide)] at hr;cases b with
  | true=>rw [if_t rfl,if_pos trivial,del_nil,zav,zdb (by simp),zav]; exact hr
  | false=>rw [if_f rfl,if_pos trivial]; exact hr
 ·intro rec _ _;simp only [zbt.l2,zbt.k1];rw [if_f (by rw [h]; rfl),if_neg (by decide)]
end Go.Wk.Lf
end
section
namespace Go.Wk.Lf
open Go.V Go.Sort Go.Proofs
theorem wakes24:zgb = some true:=by decide +kernel
end Go.Wk.Lf
end
section
namespace Go.Wk.Lf
open Go.V Go.Sort Go.Proofs
noncomputable def mkC (f:Found):Chunk:=Chunk.mk (sumP f.rec_.data) false [] [f.loc]
structure Rows1 (G:List Found):Prop where
 kind:∀ f ∈ G,f.rec_.kind = 1 ∧ 1 ≤ f.rec_.data.length ∧ f.rec_.data.length ≤ 64
 rise:G.Pairwise fun a b=>sLt (sumP a.rec_.data) (sumP b.rec_.data) = true
theorem Rows1.sub {G H:List Found} (h:Rows1 G) (s:H.Sublist G):Rows1 H:=⟨fun f hf=>h.kind f (s.subset hf),h.rise.sublist s⟩
theorem Rows1.chunks {G:List Found} (h:Rows1 G):zml (G.map mkC):=by
 unfold zml;rw [List.pairwise_map];exact h.rise
theorem zvn (q:Int) (S:List Snap) (E:List Exp) (v:List Vol):∀ (G H:List Found),Rows1 (H ++ G) → (H ++ G).length ≤ 1000000 → zld G ⟨q,S,H.map mkC,E,v⟩ = some ⟨q,S,(H ++ G).map mkC,E,v⟩
 | [],H,_,_=>by rw [List.append_nil]; rfl
 | f :: G,H,h,hl=>by
  have hk:=h.kind f (by simp);have hH:Rows1 H:=h.sub (List.sublist_append_left _ _);simp only [zld];rw [chunk_step _ f hk.1 hH.chunks (by simp at hl ⊢; omega) (fun x hx=>by
   obtain ⟨g,_,rfl⟩:=List.mem_map.1 hx; simp [mkC]) hk.2.1 hk.2.2,zav]
  rw [putC_end (fun x hx=>by
   obtain ⟨g,hg,rfl⟩:=List.mem_map.1 hx;exact (List.pairwise_append.1 h.rise).2.2 g hg f (by simp))]
  have:=zvn q S E v G (H ++ [f]) (by rw [List.append_assoc]; exact h) (by rw [List.append_assoc]; exact hl);rw [List.map_append,List.append_assoc] at this;exact this
theorem notes_all (q:Int) (S:List Snap) (E:List Exp) (v:List Vol) (G:List Found) (h:Rows1 G) (hl:G.length ≤ 1000000):zld G ⟨q,S,[],E,v⟩ = some ⟨q,S,G.map mkC,E,v⟩:=zvn q S E v G [] h hl
theorem zwu {v:List Vol} {x:Loc} (h:locB v x = true):zks v [x] = true:=by
 unfold zks;simp only [Bool.and_eq_true,decide_eq_true_eq,zgm];refine ⟨by simp,fun i hi=>?_⟩;obtain rfl:i = 0:=by simp at hi; omega
 simp [locOk,h]
theorem chunks_right {c:Catalog} (hr:zml c.chunks) (hl:c.chunks.length ≤ 200) (hc:∀ x ∈ c.chunks,x.staged = false ∧ x.data = [] ∧ 0 < x.locs.length ∧ zks c.vols x.locs = true):zky c = true:=by
 unfold zky;simp only [Bool.and_eq_true,decide_eq_true_eq,zgm];refine ⟨fun i hi=>?_,hl⟩;obtain ⟨h1,h2,h3,h4⟩:=hc _ (List.getElem_mem hi);unfold znz chunkB;rw [zde hi,h1,h2,h4];have:(!decide (0 < i) || sLt (c.chunks.getD (i - 1) default).id c.chunks[i].id) = true:=by
  by_cases h0:0 < i
  ·rw [decide_eq_true h0,zde (by omega),pair_lt hr (by omega) hi]; rfl
  ·rw [decide_eq_false h0]; rfl
 rw [this];simp [h3]
theorem zqv {c:Catalog} (h:c.snaps = []):zni c = true:=by
 unfold zni allN; rw [h]; rfl
theorem exps_none {c:Catalog} (h:c.exps = []):zuq c = true:=by
 unfold zuq allN; rw [h]; rfl
theorem ids_in {c:Catalog} {m:Manifest} (hr:zml c.chunks) (h:∀ y ∈ zlm m,∃ x ∈ c.chunks,x.id = y):idsIn c m = true:=by
 unfold idsIn;simp only [zgm];intro i hi k hk;rw [zde hi] at hk ⊢;rw [zde hk];exact (zqk hr _).2 (h _ (List.mem_flatMap.2 ⟨_,List.getElem_mem hi,List.getElem_mem hk⟩))
theorem snaps_single {c:Catalog} {s:Snap} (hr:zml c.chunks) (h:c.snaps = [s]) (h0:0 ≤ s.seq) (h1:s.seq ≤ c.seq - 1) (hm:manB s.man) (hl:zks c.vols s.locs = true) (hi:∀ y ∈ zlm s.man,∃ x ∈ c.chunks,x.id = y):zni c = true:=by
 unfold zni;simp only [Bool.and_eq_true,decide_eq_true_eq,zgm];refine ⟨fun i hi'=>?_,by rw [h]; simp⟩;obtain rfl:i = 0:=by rw [h] at hi'; simp at hi'; omega
 have e:c.snaps.getD 0 default = s:=by rw [h]; rfl
 unfold zti;rw [e,hl,ids_in hr hi,decide_eq_true hm,zmr.2 ⟨h0,h1⟩];simp
theorem exps_single {c:Catalog} {x:Exp} (h:c.exps = [x]) (hs:c.snaps = []) (h0:0 ≤ x.seq) (h1:x.seq ≤ c.seq - 1) (h2:0 ≤ x.of) (h3:x.of ≤ x.seq - 1) (hl:0 < x.locs.length) (hl2:zks c.vols x.locs = true):zuq c = true:=by
 unfold zuq;simp only [Bool.and_eq_true,decide_eq_true_eq,zgm];refine ⟨fun i hi'=>?_,by rw [h]; simp⟩;obtain rfl:i = 0:=by rw [h] at hi'; simp at hi'; omega
 have e:c.exps.getD 0 default = x:=by rw [h]; rfl
 unfold expOk allN;rw [e,hl2,hs,zmr.2 ⟨h0,h1⟩,zmr.2 ⟨h2,h3⟩];simp [hl]
theorem cat_right {c:Catalog} (h0:0 ≤ c.seq) (h1:c.seq ≤ 1073741824) (hv:volsB c.vols = true) (hc:zky c = true) (hs:zni c = true) (he:zuq c = true):catB c = true:=by
 unfold catB;rw [zmr.2 ⟨h0,h1⟩,hv,hc,hs,he]; rfl
theorem tree_facts {t l:List File} (hp:t.Perm l) (hr:zko t) (hl:zua l = false) (hb:badB l = false):t.length ≤ 6 ∧ (∀ f ∈ t,f.data.length ≤ 200) ∧ (∀ f ∈ t,zjf f.path = true) ∧ chkL t = 0:=by
 obtain ⟨h1,h2⟩:=long_f hl;have hd:∀ f ∈ t,f.data.length ≤ 200:=fun f hf=>h2 f (hp.mem_iff.1 hf);have hn:∀ f ∈ t,zjf f.path = true:=fun f hf=>by
  unfold badB at hb;have:=List.any_eq_false.1 hb f (hp.mem_iff.1 hf);simpa using this
 refine ⟨by rw [hp.length_eq]; exact h1,hd,hn,?_⟩;have e1:zua t = false:=by
  unfold zua;rw [Bool.or_eq_false_iff];refine ⟨decide_eq_false (by rw [hp.length_eq]; omega),List.any_eq_false.2 fun f hf=>?_⟩;have:=hd f hf; simp; omega
 have e2:badB t = false:=by
  unfold badB;exact List.any_eq_false.2 fun f hf=>by rw [hn f hf]; simp
 unfold chkL;rw [e1,if_neg (by decide),if_pos ⟨e2,hr⟩]
theorem zvo {name:List UInt8} {t:List File} (hn:zjf name = true) (hl:t.length ≤ 6) (hd:∀ f ∈ t,f.data.length ≤ 200) (hp:∀ f ∈ t,zjf f.path = true) (hr:zko t):manB (manR name t):=by
 refine ⟨hn,by simpa [manR] using hl,?_,?_⟩
 ·rw [List.all_eq_true];intro p hp';obtain ⟨f,hf,rfl⟩:=List.mem_map.1 hp';have h1:=zxh f.data;have h2:=hd f hf;have h3:(cutL f.data).length = 0 ↔ f.data.length = 0:=by
   rw [List.length_eq_zero_iff,List.length_eq_zero_iff]; exact cutL_empty _
  unfold zse partR;simp only [hp f hf,List.length_map,Bool.true_and,Bool.and_eq_true,decide_eq_true_eq,beq_iff_eq,decide_eq_decide];refine ⟨⟨⟨by omega,by omega⟩,by omega⟩,?_⟩;rw [h3]; omega
 ·unfold ztn manR;simp only;rw [List.pairwise_map];exact hr
theorem manR_ids (name:List UInt8) (t:List File):okId (manR name t):=by
 intro p hp x hx;obtain ⟨f,hf,rfl⟩:=List.mem_map.1 hp;exact all32 _ x hx
def foundC (i:Nat) (d:List UInt8):Found:=Found.mk (Record.mk 1 0 d) (Loc.mk 0 1 (100 * (i:Int)) (13 + (d.length:Int)))
def foundM (seq:Int) (b:List UInt8):Found:=Found.mk (Record.mk 2 seq b) (Loc.mk 0 2 0 (13 + (b.length:Int)))
noncomputable def zlw (t:List File):List Found:=(zgr t).mapIdx foundC
theorem zlv (t:List File):(zlw t).length = (zgr t).length:=by simp [zlw]
theorem zvk (t:List File):(zlw t).map (fun f=>f.rec_.data) = zgr t:=by
 apply List.ext_getElem (by simp [zlw]);intro i h1 h2;simp [zlw,foundC]
theorem rowsT_rows (t:List File):Rows1 (zlw t):=by
 refine ⟨fun f hf=>?_,?_⟩
 ·obtain ⟨i,hi,rfl⟩:=List.getElem_of_mem hf;have hi':i < (zgr t).length:=by rw [← zlv]; exact hi
  have:(zlw t)[i] = foundC i (zgr t)[i]:=by simp [zlw]
  rw [this];exact ⟨rfl,zpj (List.getElem_mem hi')⟩
 ·have h:=zxm t;unfold zoj at h;rw [← zvk,List.map_map,List.pairwise_map] at h;exact h
theorem rowsT_locs {t:List File} (hl:(zgr t).length ≤ 150) {v:List Vol} (hv:∀ (a b:Int),0 ≤ a → a ≤ 16777215 → 13 ≤ b → b ≤ 8013 → locB v (Loc.mk 0 1 a b) = true):∀ f ∈ zlw t,locB v f.loc = true:=by
 intro f hf;obtain ⟨i,hi,rfl⟩:=List.getElem_of_mem hf;have hi':i < (zgr t).length:=by rw [← zlv]; exact hi
 have:(zlw t)[i] = foundC i (zgr t)[i]:=by simp [zlw]
 rw [this];have:=zpj (List.getElem_mem hi');exact hv _ _ (by omega) (by omega) (by omega) (by omega)
theorem tape_eq (name:List UInt8) (seq:Int) (t:List File) (hn:zjf name = true) (hl:t.length ≤ 6) (hd:∀ f ∈ t,f.data.length ≤ 200) (hp:∀ f ∈ t,zjf f.path = true) (hr:zko t) (hc:chkL t = 0) :
  zcd name seq t = some (zlw t ++ [foundM seq (zhg (manR name t))],true):=by
 have hb:=zvo hn hl hd hp hr;have hk:=manR_ids name t;have hbl:=zle hb hk;have hcl:=zpk hl hd;unfold zcd;rw [rbuild_eq name t hn hl hd (fun f hf=>by have:=zkq (hp f hf); omega) hc,zav,if_f (decide_eq_false (fun h=>h rfl))];refine zfq (S:=List Found × Int) (σ:=Unit) (fun i _=>((zlw t).take i,(i:Int))) (zgr t).length (fun _ _=>True) _ (i0:=0) (s0:=()) rfl (Nat.zero_le _) trivial (by omega) ?_ ?_
 ·intro rec i _ hi _ hrec;simp only [zcd.l2];have hi2:i < (zlw t).length:=by rw [zlv]; exact hi
  have he:(zlw t)[i] = foundC i (zgr t)[i]:=by simp [zlw]
  have hx:=zpj (List.getElem_mem hi);have hr:=hrec () trivial;rw [zdp hi2,he] at hr;rw [if_t (lt_t hi),zfc hi,zav,zdb (by simp; omega),zav,zcf (by omega),zff (x:=100 * (i:Int)) (by omega) (by omega),zff (x:=13 + ((zgr t)[i].length:Int)) (by omega) (by omega)];exact hr
 ·intro rec _ _;simp only [zcd.l2,zcd.k1];rw [if_f (lt_f (Nat.lt_irrefl _)),rbytes_eq _ hb hk,zav,List.take_of_length_le (by rw [zlv]; exact Nat.le_refl _),zdb (by rw [zlv]; simp; omega),zav,zff (x:=13 + ((zhg (manR name t)).length:Int)) (by omega) (by omega)];rfl
end Go.Wk.Lf
end
section
namespace Go.Wk.Lf
open Go.V Go.Sort Go.Proofs
theorem last_id (c:Catalog) (S:List Snap):zsh id S c = ⟨c.seq,S,c.chunks,c.exps,c.vols⟩:=by
 unfold zsh;rw [show (fun s:Snap=>Snap.mk s.seq s.man (id s.locs)) = id from rfl,show (fun x:Chunk=>Chunk.mk x.id x.staged x.data (id x.locs)) = id from rfl,show (fun x:Exp=>Exp.mk x.seq x.of (id x.locs)) = id from rfl,List.map_id,List.map_id,List.map_id]
structure Tape (v:List Vol) (G:List Found):Prop where
 rows:Rows1 G
 len:G.length ≤ 200
 locs:∀ f ∈ G,locB v f.loc = true
 vols:volsB v = true
 small:v.length ≤ 1000000
theorem Tape.sub {v:List Vol} {G H:List Found} (h:Tape v G) (s:H.Sublist G):Tape v H:=⟨h.rows.sub s,Nat.le_trans s.length_le h.len,fun f hf=>h.locs f (s.subset hf),h.vols,h.small⟩
theorem Tape.right {v:List Vol} {G:List Found} (h:Tape v G) {c:Catalog} (hc:c.chunks = G.map mkC) (hv:c.vols = v):zml c.chunks ∧ zky c = true:=by
 have hr:zml c.chunks:=by rw [hc]; exact h.rows.chunks
 refine ⟨hr,chunks_right hr (by rw [hc,List.length_map]; exact h.len) fun x hx=>?_⟩;rw [hc] at hx;obtain ⟨f,hf,rfl⟩:=List.mem_map.1 hx;refine ⟨rfl,rfl,Nat.succ_pos _,?_⟩;rw [hv];exact zwu (h.locs f hf)
theorem end_eq {v:List Vol} {G:List Found} (h:Tape v G) (c:Catalog) (S:List Snap) (hc:c.chunks = G.map mkC) (hv:c.vols = v) (hS:zbt c = some S) (h1:∀ x ∈ S,x.locs.length = 1) (h2:∀ x ∈ c.exps,x.locs.length = 1) (hs:S.length ≤ 1) (he:c.exps.length ≤ 1)
  (h0:0 ≤ c.seq) (hq:c.seq ≤ 1073741824) (k1:zni ⟨c.seq,S,c.chunks,c.exps,c.vols⟩ = true) (k2:zuq ⟨c.seq,S,c.chunks,c.exps,c.vols⟩ = true):finO c = some (⟨c.seq,S,c.chunks,c.exps,c.vols⟩,0):=by
 rw [fin_eq c S id hS (by rw [hv]; exact h.small) (by omega) (by rw [hc,List.length_map]; have:=h.len; omega) (by omega) (fun x hx=>sort_one' (h1 x hx)) (fun x hx=>?_) (fun x hx=>sort_one' (h2 x hx)),last_id,if_pos]
 ·exact cat_right h0 hq (by rw [hv]; exact h.vols) (h.right (c:=⟨c.seq,S,c.chunks,c.exps,c.vols⟩) hc hv).2 k1 k2
 ·rw [hc] at hx;obtain ⟨f,hf,rfl⟩:=List.mem_map.1 hx;exact sort_one _
theorem fromA {v:List Vol} {G:List Found} (h:Tape v G):zau v G = some (⟨0,[],G.map mkC,[],v⟩,0):=by
 have hl:=h.len;have hn:=notes_all 0 [] [] v G h.rows (by omega);rw [from_eq v G _ (by have:=h.small; omega) (by omega) hn];exact end_eq h ⟨0,[],G.map mkC,[],v⟩ [] rfl rfl (snaps_nil _ rfl) (fun x hx=>by cases hx) (fun x hx=>by cases hx) (Nat.zero_le _) (Nat.zero_le _) (Int.le_refl _) (by simp only; omega) (zqv rfl) (exps_none rfl)
structure Man (v:List Vol) (m:Manifest) (f:Found):Prop where
 kind:f.rec_.kind = 2
 man:manB m
 ids:okId m
 data:f.rec_.data = zhg m
 seq0:0 ≤ f.rec_.seq
 seq1:f.rec_.seq ≤ 100000
 loc:locB v f.loc = true
theorem Man.many {v:List Vol} {m:Manifest} {f:Found} (h:Man v m f):m.parts.length ≤ 6 ∧ (zlm m).length ≤ 1000000:=by
 refine ⟨h.man.2.1,?_⟩;have h1:=h.man.2.1;have h2:∀ l:List Part,(∀ p ∈ l,p.ids.length ≤ 25) → (l.flatMap Part.ids).length ≤ 25 * l.length:=fun l=>by
  induction l with
  | nil=>intro _; exact Nat.le_refl _
  | cons p l ih =>
   intro hp;have h1:=ih fun q hq=>hp q (by simp [hq]);have h2:=hp p (by simp);simp only [List.flatMap_cons,List.length_append,List.length_cons];omega
 have h3:=h2 m.parts fun p hp=>(zlz (zik h.man p hp)).2.2.2.1;unfold zlm;omega
theorem notesB {v:List Vol} {G:List Found} (h:Tape v G) {m:Manifest} {f:Found} (hm:Man v m f):zld (G ++ [f]) (bareC v) = some ⟨f.rec_.seq + 1,[Snap.mk f.rec_.seq m [f.loc]],G.map mkC,[],v⟩:=by
 have hl:=h.len;rw [zrm,show bareC v = ⟨0,[],[],[],v⟩ from rfl,notes_all 0 [] [] v G h.rows (by omega),zav];simp only [zld];rw [snap_first _ f m hm.kind rfl ⟨hm.man,hm.ids,hm.data⟩ (by rw [hm.data]; have:=zle hm.man hm.ids; omega) hm.seq0 (by have:=hm.seq1; omega) hm.seq0,zav]
theorem fromB {v:List Vol} {G:List Found} (h:Tape v G) {m:Manifest} {f:Found} (hm:Man v m f):zau v (G ++ [f]) = some (⟨f.rec_.seq + 1,if zth ⟨f.rec_.seq + 1,[Snap.mk f.rec_.seq m [f.loc]],G.map mkC,[],v⟩ (Snap.mk f.rec_.seq m [f.loc]) = true then [Snap.mk f.rec_.seq m [f.loc]] else [],G.map mkC,[],v⟩,0):=by
 have hl:=h.len;have h0:=hm.seq0;have h1:=hm.seq1;rw [from_eq v _ _ (by have:=h.small; omega) (by simp; omega) (notesB h hm)];have hr:=(h.right (c:=⟨f.rec_.seq + 1,[Snap.mk f.rec_.seq m [f.loc]],G.map mkC,[],v⟩) rfl rfl).1;have hst:=stays_eq ⟨f.rec_.seq + 1,[Snap.mk f.rec_.seq m [f.loc]],G.map mkC,[],v⟩ (Snap.mk f.rec_.seq m [f.loc]) (Nat.zero_le _) (by simp; omega) hr (by have:=hm.many.1; simp only; omega) hm.many.2;have hS:=snaps_one _ _ _ rfl hst;refine end_eq h _ _ rfl rfl hS (fun x hx=>?_) (fun x hx=>by cases hx) ?_ (Nat.zero_le _) (by simp only; omega) (by simp only; omega) ?_ (exps_none rfl)
 ·split at hx
  ·rw [List.mem_singleton.1 hx]; rfl
  ·cases hx
 ·split <;> simp
 ·split
  ·rename_i hb;refine snaps_single (s:=Snap.mk f.rec_.seq m [f.loc]) hr rfl h0 (by simp only; omega) hm.man (zwu hm.loc) fun y hy=>?_;unfold zth at hb;simp only [Bool.and_eq_true,zgm] at hb;obtain ⟨i,hi,hy2⟩:=List.getElem_of_mem ((zwz _ _).2 hy);have:=hb.2 i hi;rw [zde hi,hy2] at this;exact (zqk hr _).1 this
  ·exact zqv rfl
theorem stay_yes {v:List Vol} {G:List Found} (h:Tape v G) {q:Int} {s:Snap} {S:List Snap} (hi:∀ y ∈ zlm s.man,∃ f ∈ G,sumP f.rec_.data = y):zth ⟨q,S,G.map mkC,[],v⟩ s = true:=by
 have hr:=(h.right (c:=⟨q,S,G.map mkC,[],v⟩) rfl rfl).1;unfold zth;simp only [Bool.and_eq_true,zgm];refine ⟨fun i hi=>absurd hi (Nat.not_lt_zero _),fun i hi'=>?_⟩;rw [zde hi'];obtain ⟨f,hf,e⟩:=hi _ ((zwz _ _).1 (List.getElem_mem hi'));exact (zqk hr _).2 ⟨_,List.mem_map.2 ⟨f,hf,rfl⟩,e⟩
theorem stay_no {v:List Vol} {G:List Found} (h:Tape v G) {q:Int} {s:Snap} {S:List Snap} {E:List Exp} {y:List UInt8} (hy:y ∈ zlm s.man) (hn:∀ f ∈ G,sumP f.rec_.data ≠ y):zth ⟨q,S,G.map mkC,E,v⟩ s = false:=by
 have hr:=(h.right (c:=⟨q,S,G.map mkC,E,v⟩) rfl rfl).1;cases hb:zth ⟨q,S,G.map mkC,E,v⟩ s with
 | false=>rfl
 | true =>
  unfold zth at hb;simp only [Bool.and_eq_true,zgm] at hb;obtain ⟨i,hi,hy2⟩:=List.getElem_of_mem ((zwz _ _).2 hy);have:=hb.2 i hi;rw [zde hi,hy2] at this;obtain ⟨x,hx,e⟩:=(zqk hr _).1 this;obtain ⟨f,hf,rfl⟩:=List.mem_map.1 hx;exact absurd e (hn f hf)
theorem fromC {v:List Vol} {G:List Found} (h:Tape v G) {m:Manifest} {f e:Found} (hm:Man v m f) {n:Nat} (hf:f.rec_.seq = (n:Int)) (hk:e.rec_.kind = 3) (hd:e.rec_.data.length = 4) (hb:beN e.rec_.data = n) (hq:e.rec_.seq = (n:Int) + 5) (hl:locB v e.loc = true) :
  zau v (G ++ [f] ++ [e]) = some (⟨(n:Int) + 6,[],G.map mkC,[Exp.mk ((n:Int) + 5) (n:Int) [e.loc]],v⟩,0):=by
 have hgl:=h.len;have h1:=hm.seq1;rw [hf] at h1;have hn:zld (G ++ [f] ++ [e]) (bareC v) = some ⟨(n:Int) + 6,[Snap.mk (n:Int) m [f.loc]],G.map mkC,[Exp.mk ((n:Int) + 5) (n:Int) [e.loc]],v⟩:=by
  rw [zrm,notesB h hm,zav];simp only [zld];rw [exp_first _ e n hk rfl hd hb (by omega) (by omega) (by simp only; omega),zav,hf,hq];simp only [Int.add_assoc];rfl
 rw [from_eq v _ _ (by have:=h.small; omega) (by simp; omega) hn];have hr:=(h.right (c:=⟨(n:Int) + 6,[Snap.mk (n:Int) m [f.loc]],G.map mkC,[Exp.mk ((n:Int) + 5) (n:Int) [e.loc]],v⟩) rfl rfl).1;have hst:=stays_eq ⟨(n:Int) + 6,[Snap.mk (n:Int) m [f.loc]],G.map mkC,[Exp.mk ((n:Int) + 5) (n:Int) [e.loc]],v⟩ (Snap.mk (n:Int) m [f.loc]) (by simp) (by simp; omega) hr (by have:=hm.many.1; simp only; omega) hm.many.2;have hno:zth ⟨(n:Int) + 6,[Snap.mk (n:Int) m [f.loc]],G.map mkC,[Exp.mk ((n:Int) + 5) (n:Int) [e.loc]],v⟩ (Snap.mk (n:Int) m [f.loc]) = false:=by
  unfold zth;rw [Bool.and_eq_false_iff]
  left
  cases hb:allN _ _ with
  | false=>rfl
  | true=>have:=(zgm.1 hb) 0 (by simp); simp at this
 rw [hno] at hst;have hS:=snaps_one _ _ _ rfl hst;exact end_eq h _ _ rfl rfl hS (fun x hx=>by cases hx) (fun x hx=>by rw [List.mem_singleton.1 hx]; rfl) (Nat.zero_le _) (by simp) (by simp only; omega) (by simp only; omega) (zqv rfl) (exps_single (x:=Exp.mk ((n:Int) + 5) (n:Int) [e.loc]) rfl rfl (by simp only; omega) (by simp only; omega) (by simp only; omega) (by simp only; omega) (Nat.succ_pos _) (zwu hl))
end Go.Wk.Lf
end
section
namespace Go.Wk.Lf
open Go.V Go.Sort Go.Proofs
theorem zpa {α β:Type} {o:Option α} {x:α} {f:α → Option β} {r:Option β} (h:o = some x) (g:f x = r):bd o f = r:=by rw [h]; exact g
theorem if_go {α:Type} {b:Bool} {x y r:α} (h:b = false) (g:y = r):(if b = true then x else y) = r:=by rw [h]; exact g
theorem zwo {α:Type} {b:Bool} {o:Option α} {z:α} (h:b = true):only b o z = o:=if_pos h
def vol1:List Vol:=[Vol.mk 0 0 2 3]
theorem zwc (f:Int) (a b:Int) (hf:1 ≤ f) (hf2:f ≤ 3) (h0:0 ≤ a) (h1:a ≤ 16777215) (h2:13 ≤ b) (h3:b ≤ 8013):locB vol1 (Loc.mk 0 f a b) = true:=by
 unfold locB vol1;simp [inB];omega
theorem rows_tape {t:List File} (hl:t.length ≤ 6) (hd:∀ f ∈ t,f.data.length ≤ 200):Tape vol1 (zlw t) :=
 ⟨rowsT_rows t,by rw [zlv]; have:=zpk hl hd; omega,rowsT_locs (zpk hl hd) fun a b h0 h1 h2 h3=>zwc 1 a b (by decide) (by decide) h0 h1 h2 h3,by decide,by decide⟩
theorem rows_sum {t:List File} (y:List UInt8):(∃ f ∈ zlw t,sumP f.rec_.data = y) ↔ y ∈ (zkp t).map sumP:=by
 rw [← chunksR_ids,← zvk,List.map_map,List.mem_map];rfl
theorem mod_nat (x n:Int) (h0:0 < n) (h1:n ≤ 1000000):∃ k:Nat,wr ((wu x).tmod n) = (k:Int) ∧ (wu x).tmod n = (k:Int) ∧ (k:Int) < n:=by
 have hw:0 ≤ wu x:=by show 0 ≤ IntKind.u64.wrap x; rw [zsp]; omega
 have a:=Int.tmod_nonneg n hw;have b:=Int.tmod_lt_of_pos (wu x) h0;refine ⟨((wu x).tmod n).toNat,?_,by omega,by omega⟩;rw [zff (by omega) (by omega)]; omega
theorem less_true (x0:List File) (x1 x2:Int) (hl:x0.length < 9223372036854775808) (hp:∀ f ∈ x0,f.path.length < 9223372036854775808):zdy x0 x1 x2 = some true:=by
 obtain ⟨r,e1,h1⟩:=refsort_ok x0 hl hp;unfold zdy;rw [e1,zav]
 by_cases hr:r.2 = 0 ∧ x0.length ≤ 10
 ·refine if_go (by simp [hr.1]; omega) ?_;obtain ⟨hperm,hris,hlong,hbad⟩:=h1 hr.1;obtain ⟨t6,td,tn,tc⟩:=tree_facts hperm hris hlong hbad;obtain ⟨s,hs,_,hs1⟩:=mod_nat x1 1000 (by decide) (by decide);have hn:zjf [97] = true:=by decide
  have hmb:=zvo hn t6 td tn hris;have hmi:=manR_ids [97] r.1;have hml:=zle hmb hmi;have hT:=rows_tape t6 td;have hTl:=hT.len;rw [hs];refine zpa (tape_eq [97] (s:Int) r.1 hn t6 td tn hris tc) ?_;refine if_go rfl ?_;generalize hm:manR [97] r.1 = m at hmb hmi hml;have hids:∀ y,y ∈ zlm m ↔ ∃ f ∈ zlw r.1,sumP f.rec_.data = y:=fun y=>by rw [← hm,ids_manR,rows_sum]
  have hname:m.name = [97]:=by rw [← hm]; rfl
  have hM:Man vol1 m (foundM (s:Int) (zhg m)):=⟨rfl,hmb,hmi,rfl,by simp only [foundM]; omega,by simp only [foundM]; omega,zwc 2 _ _ (by decide) (by decide) (by decide) (by decide) (by omega) (by omega)⟩
  generalize hG:zlw r.1 = G at hT hTl hids;generalize hf:foundM (s:Int) (zhg m) = M at hM;have hMs:M.rec_.seq = (s:Int):=by rw [← hf]; rfl
  have hlen:(G ++ [M]).length = G.length + 1:=by simp
  have h2:=fromB hT hM;rw [stay_yes hT (fun y hy=>(hids y).1 hy),if_pos rfl,hMs] at h2;dsimp only;rw [show [Vol.mk 0 0 2 3] = vol1 from rfl];refine zpa h2 ?_;refine zpa (x:=Snap.mk (s:Int) m [M.loc]) rfl ?_;refine zpa (x:=Snap.mk (s:Int) m [M.loc]) (zwo (by simp [hname])) ?_;refine zpa (x:=Snap.mk (s:Int) m [M.loc]) (zwo (by simp [hname])) ?_;refine if_go ?_ ?_
  ·rw [hlen,zff (x:=(s:Int) + 1) (by omega) (by omega),zff (x:=((G.length + 1:Nat):Int) - 1) (by omega) (by omega)];simp [hname]
  rw [hlen,zwa (x:=((G.length + 1:Nat):Int)) (by omega) (by omega)];obtain ⟨k,hk,hk2,hk3⟩:=mod_nat x2 ((G.length + 1:Nat):Int) (by omega) (by omega);refine zpa (x:=(k:Int)) (by unfold rem; rw [if_neg (by omega),hk2]) ?_;rw [show wr (k:Int) = (k:Int) from zff (by omega) (by omega),zcf (by omega)];refine zpa (zig (by omega) (by omega) (by omega)) ?_;refine zpa (zig (by omega) (by omega) (by omega)) ?_;rw [← hlen,Int.toNat_natCast,Int.toNat_natCast,Int.toNat_natCast,Int.toNat_zero,List.drop_zero,List.take_length];refine zpa (zdb (by simp; omega)) ?_;refine zpa (zdb (by simp; omega)) ?_;rw [List.nil_append];have h3:∃ c,zau vol1 ((G ++ [M]).take k ++ (G ++ [M]).drop (k + 1)) = some (c,0) ∧ c.snaps = []:=by
   by_cases hkG:k = G.length
   ·subst hkG;rw [List.take_append_of_le_length (Nat.le_refl _),List.take_length,List.drop_eq_nil_of_le (by rw [hlen]; exact Nat.le_refl _),List.append_nil];exact ⟨_,fromA hT,rfl⟩
   ·have hkl:k < G.length:=by omega
    rw [List.take_append_of_le_length (by omega),List.drop_append_of_le_length (by omega),← List.append_assoc];have hsub:(G.take k ++ G.drop (k + 1)).Sublist G:=by
     conv=>rhs; rw [← List.take_append_drop k G]
     exact List.Sublist.append (List.Sublist.refl _) (by rw [List.drop_eq_getElem_cons hkl]; exact List.sublist_cons_self _ _)
    have hT2:=hT.sub hsub;have h4:=fromB hT2 hM;rw [stay_no hT2 (y:=sumP G[k].rec_.data) ((hids _).2 ⟨_,List.getElem_mem hkl,rfl⟩) ?_,if_neg (by decide)] at h4
    ·exact ⟨_,h4,rfl⟩
    ·intro f hf e;have hpw:=hT.rows.rise;rw [← List.take_append_drop k G,List.drop_eq_getElem_cons hkl] at hpw;obtain ⟨p1,p2,p3⟩:=List.pairwise_append.1 hpw;rcases List.mem_append.1 hf with hf | hf
     ·have:=p3 f hf _ (List.mem_cons_self ..);rw [e,zhq] at this; cases this
     ·have:=(List.pairwise_cons.1 p2).1 f hf;rw [e,zhq] at this; cases this
  obtain ⟨c,h3,hc⟩:=h3;refine zpa h3 ?_;refine if_go (by simp [hc]) ?_;refine zpa (zdb (by simp; omega)) ?_;refine zpa (zdb (by simp; omega)) ?_;rw [List.nil_append,zff (x:=(s:Int) + 5) (by omega) (by omega),zff (x:=(s:Int) + 6) (by omega) (by omega),show (2:Int) ^ (8:Int).toNat = 256 from rfl];have hbe:[(0:UInt8),(0:UInt8),toB8 ((s:Int) / 256),toB8 (s:Int)] = [0,0] ++ be2 (s:Int):=rfl;have hbn:beN ([0,0] ++ be2 (s:Int)) = s:=by
   have:=zxs (n:=s) (by omega);unfold beN at this ⊢;rw [List.foldl_append];exact this
  have h5:=fromC (e:=Found.mk (Record.mk 3 ((s:Int) + 5) [(0:UInt8),(0:UInt8),toB8 ((s:Int) / 256),toB8 (s:Int)]) (Loc.mk 0 3 13 17)) hT hM hMs rfl rfl (by rw [hbe]; exact hbn) rfl (zwc 3 _ _ (by decide) (by decide) (by decide) (by decide) (by decide) (by decide));refine zpa h5 ?_;refine zpa (x:=Exp.mk ((s:Int) + 5) (s:Int) [Loc.mk 0 3 13 17]) rfl ?_;refine zpa (x:=true) ((zwo (by simp)).trans wakes24) ?_;simp
 ·rw [if_t];simp only [Bool.or_eq_true,decide_eq_true_eq]
  by_cases h:r.2 = 0
  ·right; have:¬ x0.length ≤ 10:=fun h2=>hr ⟨h,h2⟩; omega
  ·left; exact h
end Go.Wk.Lf
end
section
namespace Go.Wk.Lf
open Go.V Go.Proofs
end Go.Wk.Lf
namespace Go.Wk.Lf
open Go.V Go.RowKit Go.ChangeShapes Go.WideShapes Go.Deep
theorem take_join {α:Type} {l:List α} {a b:Nat}:l.drop a = (l.drop a).take b ++ l.drop (a + b):=by rw [← List.drop_drop,List.take_append_drop]
def File.ok (x:File):Prop:=(fun s:List UInt8=>s.length ≤ maxLen) x.path ∧ (okS okT) x.data
theorem opn_File {H:Type} {enc:TypeId × Value → H} {w:World}:Opn enc Go.Proofs.Tryz.prog w 101 File.t File.ok:=by
  intro fuel cs x h ρ hp r hb
  have hu:Go.Proofs.Tryz.prog.underlying 101 = some (.struct (Go.Proofs.Tryz.prog.fieldsOf 101)):=by kernel_rfl
  obtain ⟨xs,n,_,rfl,hl,hlen,hf⟩:=DataW.trod_struct hu h
  have hz:Go.Proofs.Tryz.prog.cellsOf 101 = 2:=by kernel_rfl
  rw [hz] at hl
  have hn:(Go.Proofs.Tryz.prog.fieldsOf 101).size = 2:=by kernel_rfl
  rw [hn] at hlen
  have e0:∃ fd,(Go.Proofs.Tryz.prog.fieldsOf 101)[0]? = some fd ∧ fd.type = 9 ∧ fd.offset = 0:=⟨(Go.Proofs.Tryz.prog.fieldsOf 101)[0]!,by kernel_rfl,by kernel_rfl,by kernel_rfl⟩
  obtain ⟨fd0,ea0,eb0,ec0⟩:=e0
  have g0:=hf 0 fd0 ea0
  rw [eb0,ec0,show Go.Proofs.Tryz.prog.cellsOf 9 = 1 from by kernel_rfl,List.getElem?_eq_getElem (show 0 < xs.length by omega)] at g0
  obtain ⟨ρ0,h0,vs0,a0,r0,b0,l0,f0,v0,t0,k0⟩:=(opn_str Go.Proofs.Tryz.underlying9) _ _ _ g0 _ _ r hb
  have e1:∃ fd,(Go.Proofs.Tryz.prog.fieldsOf 101)[1]? = some fd ∧ fd.type = 47 ∧ fd.offset = 1:=⟨(Go.Proofs.Tryz.prog.fieldsOf 101)[1]!,by kernel_rfl,by kernel_rfl,by kernel_rfl⟩
  obtain ⟨fd1,ea1,eb1,ec1⟩:=e1
  have g1:=hf 1 fd1 ea1
  rw [eb1,ec1,show Go.Proofs.Tryz.prog.cellsOf 47 = 1 from by kernel_rfl,List.getElem?_eq_getElem (show 1 < xs.length by omega)] at g1
  obtain ⟨ρ1,h1,vs1,a1,r1,b1,l1,f1,v1,t1,k1⟩:=(ztu Go.Proofs.Tryz.underlying47 (by kernel_rfl) (opn_u8 Go.Proofs.Tryz.underlying5)) _ _ _ g1 _ _ r0 b0
  have hcs:cs = (cs.drop 0).take 1 ++ (cs.drop 1).take 1:=by
    have h0:cs = cs.drop 0:=(List.drop_zero).symm
    have j0:cs.drop 0 = (cs.drop 0).take 1 ++ cs.drop 1:=take_join
    have j1:cs.drop 1 = (cs.drop 1).take 1 ++ cs.drop 2:=take_join
    have jn:cs.drop 2 = []:=List.drop_eq_nil_of_le (by omega)
    conv=>lhs; rw [h0,j0,j1,jn]
    simp only [List.append_nil]
  have q0:vs0 = _:=(tS.mono f1 t0)
  subst q0
  obtain ⟨u1,q1,s1⟩:=t1
  subst q1
  rw [hcs]
  exact ⟨_,h1,_,File.mk a0 a1,r1,b1,(l0.trans l1),(f0.trans f1),((v0.mono l1).append v1),⟨u1,rfl,s1⟩,⟨k0,k1⟩⟩
end Go.Wk.Lf
end
section
namespace Go.Wk.Lf
open Go.V
theorem less_law (x0:List File) (x1 x2:Int) (k0:okS File.ok x0) (k1:okI x1) (k2:okI x2):zdy x0 x1 x2 = some true:=by
 have e:maxLen < 9223372036854775808:=by decide
 exact less_true x0 x1 x2 (by have:=k0.1; omega) fun f hf=>by have:=(k0.2 f hf).1; omega
end Go.Wk.Lf
end
section
namespace Go.Wk.Lf
open Go.V Go.Proofs
end Go.Wk.Lf
namespace Go.Proofs
open Go.Shelf
def Tryz.sortLoc_ren:Go.Shelf.Ren:=⟨fun | 6=>99 | 15=>151 | 14=>150 | 28=>179 | 29=>180 | 20=>171 | 21=>172 | 22=>173 | 23=>174 | 24=>175 | 25=>176 | 26=>177 | 27=>178 | 46=>186 | 47=>187 | 48=>188 | 49=>189 | 50=>190 | 57=>199 | n=>n,fun | 22=>44 | 24=>51 | 25=>162 | 3=>3 | 39=>26 | 0=>0 | 53=>169 | 55=>194 | 4=>4 | 46=>229 | 45=>228 | 50=>146 | 5=>5 | 9=>9 | 66=>240 | 70=>244 | 76=>251 | 77=>252 | n=>n,fun | n=>n⟩
theorem Tryz.sortLoc:Go.Proofs.SlLaysF0.n6 Tryz.prog Tryz.sortLoc_ren:={
  mixed:=by kernel_rfl
  f6:=⟨Tryz.f99.name,by decide,Tryz.func99.trans (congrArg some (by kernel_rfl))⟩
  f14:=⟨Tryz.f150.name,by decide,Tryz.func150.trans (congrArg some (by kernel_rfl))⟩
  f15:=Tryz.func151.trans (congrArg some (by kernel_rfl))
  f20:=⟨Tryz.f171.name,by decide,Tryz.func171.trans (congrArg some (by kernel_rfl))⟩
  f21:=⟨Tryz.f172.name,by decide,Tryz.func172.trans (congrArg some (by kernel_rfl))⟩
  f22:=⟨Tryz.f173.name,by decide,Tryz.func173.trans (congrArg some (by kernel_rfl))⟩
  f23:=⟨Tryz.f174.name,by decide,Tryz.func174.trans (congrArg some (by kernel_rfl))⟩
  f24:=⟨Tryz.f175.name,by decide,Tryz.func175.trans (congrArg some (by kernel_rfl))⟩
  f25:=⟨Tryz.f176.name,by decide,Tryz.func176.trans (congrArg some (by kernel_rfl))⟩
  f26:=⟨Tryz.f177.name,by decide,Tryz.func177.trans (congrArg some (by kernel_rfl))⟩
  f27:=⟨Tryz.f178.name,by decide,Tryz.func178.trans (congrArg some (by kernel_rfl))⟩
  f28:=Tryz.func179.trans (congrArg some (by kernel_rfl))
  f29:=Tryz.func180.trans (congrArg some (by kernel_rfl))
  f46:=⟨Tryz.f186.name,by decide,Tryz.func186.trans (congrArg some (by kernel_rfl))⟩
  f47:=Tryz.func187.trans (congrArg some (by kernel_rfl))
  f48:=Tryz.func188.trans (congrArg some (by kernel_rfl))
  f49:=⟨Tryz.f189.name,by decide,Tryz.func189.trans (congrArg some (by kernel_rfl))⟩
  f50:=⟨Tryz.f190.name,by decide,Tryz.func190.trans (congrArg some (by kernel_rfl))⟩
  f57:=⟨Tryz.f199.name,by decide,Tryz.func199.trans (congrArg some (by kernel_rfl))⟩
  t0:=Tryz.underlying0
  a0:=Tryz.isAgg0
  z0:=Tryz.sizeOf0
  v0:=Tryz.zeroValue0
  t3:=Tryz.underlying3
  a3:=Tryz.isAgg3
  z3:=Tryz.sizeOf3
  v3:=Tryz.zeroValue3
  t4:=Tryz.underlying4
  a4:=Tryz.isAgg4
  z4:=Tryz.sizeOf4
  v4:=Tryz.zeroValue4
  t5:=Tryz.underlying5
  a5:=Tryz.isAgg5
  z5:=Tryz.sizeOf5
  v5:=Tryz.zeroValue5
  t9:=Tryz.underlying9
  a9:=Tryz.isAgg9
  z9:=Tryz.sizeOf9
  v9:=Tryz.zeroValue9
  t22:=Tryz.underlying44
  a22:=Tryz.isAgg44
  z22:=Tryz.sizeOf44
  v22:=Tryz.zeroValue44
  t25:=Tryz.underlying162
  a25:=Tryz.isAgg162
  z25:=Tryz.sizeOf162
  v25:=Tryz.zeroValue162
  t39:=Tryz.underlying26
  a39:=Tryz.isAgg26
  z39:=Tryz.sizeOf26
  v39:=Tryz.zeroValue26
  t45:=Tryz.underlying228
  a45:=Tryz.isAgg228
  z45:=Tryz.sizeOf228
  v45:=Tryz.zeroValue228
  t46:=Tryz.underlying229
  a46:=Tryz.isAgg229
  z46:=Tryz.sizeOf229
  v46:=Tryz.zeroValue229
  t50:=Tryz.underlying146
  a50:=Tryz.isAgg146
  z50:=Tryz.sizeOf146
  v50:=Tryz.zeroValue146
  t53:=Tryz.underlying169
  a53:=Tryz.isAgg169
  z53:=Tryz.sizeOf169
  v53:=Tryz.zeroValue169
  t55:=Tryz.underlying194
  a55:=Tryz.isAgg194
  z55:=Tryz.sizeOf194
  v55:=Tryz.zeroValue194
  t66:=Tryz.underlying240
  a66:=Tryz.isAgg240
  z66:=Tryz.sizeOf240
  v66:=Tryz.zeroValue240
  t70:=Tryz.underlying244
  a70:=Tryz.isAgg244
  z70:=Tryz.sizeOf244
  v70:=Tryz.zeroValue244
  t76:=Tryz.underlying251
  a76:=Tryz.isAgg251
  z76:=Tryz.sizeOf251
  v76:=Tryz.zeroValue251
  t77:=Tryz.underlying252
  a77:=Tryz.isAgg252
  z77:=Tryz.sizeOf252
  v77:=Tryz.zeroValue252 }
def Tryz.sortIds_ren:Go.Shelf.Ren:=⟨fun | 6=>168 | 15=>151 | 14=>185 | 28=>179 | 29=>180 | 20=>191 | 21=>192 | 22=>193 | 23=>194 | 24=>195 | 25=>196 | 26=>197 | 27=>198 | 46=>200 | 47=>187 | 48=>188 | 49=>201 | 50=>202 | 57=>203 | n=>n,fun | 22=>118 | 24=>58 | 25=>187 | 3=>3 | 39=>26 | 0=>0 | 53=>169 | 55=>194 | 4=>4 | 46=>229 | 45=>228 | 50=>146 | 5=>5 | 9=>9 | 66=>240 | 70=>244 | 76=>251 | 77=>252 | n=>n,fun | n=>n⟩
theorem Tryz.sortIds:Go.Proofs.SlLaysF0.n6 Tryz.prog Tryz.sortIds_ren:={
  mixed:=by kernel_rfl
  f6:=⟨Tryz.f168.name,by decide,Tryz.func168.trans (congrArg some (by kernel_rfl))⟩
  f14:=⟨Tryz.f185.name,by decide,Tryz.func185.trans (congrArg some (by kernel_rfl))⟩
  f15:=Tryz.func151.trans (congrArg some (by kernel_rfl))
  f20:=⟨Tryz.f191.name,by decide,Tryz.func191.trans (congrArg some (by kernel_rfl))⟩
  f21:=⟨Tryz.f192.name,by decide,Tryz.func192.trans (congrArg some (by kernel_rfl))⟩
  f22:=⟨Tryz.f193.name,by decide,Tryz.func193.trans (congrArg some (by kernel_rfl))⟩
  f23:=⟨Tryz.f194.name,by decide,Tryz.func194.trans (congrArg some (by kernel_rfl))⟩
  f24:=⟨Tryz.f195.name,by decide,Tryz.func195.trans (congrArg some (by kernel_rfl))⟩
  f25:=⟨Tryz.f196.name,by decide,Tryz.func196.trans (congrArg some (by kernel_rfl))⟩
  f26:=⟨Tryz.f197.name,by decide,Tryz.func197.trans (congrArg some (by kernel_rfl))⟩
  f27:=⟨Tryz.f198.name,by decide,Tryz.func198.trans (congrArg some (by kernel_rfl))⟩
  f28:=Tryz.func179.trans (congrArg some (by kernel_rfl))
  f29:=Tryz.func180.trans (congrArg some (by kernel_rfl))
  f46:=⟨Tryz.f200.name,by decide,Tryz.func200.trans (congrArg some (by kernel_rfl))⟩
  f47:=Tryz.func187.trans (congrArg some (by kernel_rfl))
  f48:=Tryz.func188.trans (congrArg some (by kernel_rfl))
  f49:=⟨Tryz.f201.name,by decide,Tryz.func201.trans (congrArg some (by kernel_rfl))⟩
  f50:=⟨Tryz.f202.name,by decide,Tryz.func202.trans (congrArg some (by kernel_rfl))⟩
  f57:=⟨Tryz.f203.name,by decide,Tryz.func203.trans (congrArg some (by kernel_rfl))⟩
  t0:=Tryz.underlying0
  a0:=Tryz.isAgg0
  z0:=Tryz.sizeOf0
  v0:=Tryz.zeroValue0
  t3:=Tryz.underlying3
  a3:=Tryz.isAgg3
  z3:=Tryz.sizeOf3
  v3:=Tryz.zeroValue3
  t4:=Tryz.underlying4
  a4:=Tryz.isAgg4
  z4:=Tryz.sizeOf4
  v4:=Tryz.zeroValue4
  t5:=Tryz.underlying5
  a5:=Tryz.isAgg5
  z5:=Tryz.sizeOf5
  v5:=Tryz.zeroValue5
  t9:=Tryz.underlying9
  a9:=Tryz.isAgg9
  z9:=Tryz.sizeOf9
  v9:=Tryz.zeroValue9
  t22:=Tryz.underlying118
  a22:=Tryz.isAgg118
  z22:=Tryz.sizeOf118
  v22:=Tryz.zeroValue118
  t25:=Tryz.underlying187
  a25:=Tryz.isAgg187
  z25:=Tryz.sizeOf187
  v25:=Tryz.zeroValue187
  t39:=Tryz.underlying26
  a39:=Tryz.isAgg26
  z39:=Tryz.sizeOf26
  v39:=Tryz.zeroValue26
  t45:=Tryz.underlying228
  a45:=Tryz.isAgg228
  z45:=Tryz.sizeOf228
  v45:=Tryz.zeroValue228
  t46:=Tryz.underlying229
  a46:=Tryz.isAgg229
  z46:=Tryz.sizeOf229
  v46:=Tryz.zeroValue229
  t50:=Tryz.underlying146
  a50:=Tryz.isAgg146
  z50:=Tryz.sizeOf146
  v50:=Tryz.zeroValue146
  t53:=Tryz.underlying169
  a53:=Tryz.isAgg169
  z53:=Tryz.sizeOf169
  v53:=Tryz.zeroValue169
  t55:=Tryz.underlying194
  a55:=Tryz.isAgg194
  z55:=Tryz.sizeOf194
  v55:=Tryz.zeroValue194
  t66:=Tryz.underlying240
  a66:=Tryz.isAgg240
  z66:=Tryz.sizeOf240
  v66:=Tryz.zeroValue240
  t70:=Tryz.underlying244
  a70:=Tryz.isAgg244
  z70:=Tryz.sizeOf244
  v70:=Tryz.zeroValue244
  t76:=Tryz.underlying251
  a76:=Tryz.isAgg251
  z76:=Tryz.sizeOf251
  v76:=Tryz.zeroValue251
  t77:=Tryz.underlying252
  a77:=Tryz.isAgg252
  z77:=Tryz.sizeOf252
  v77:=Tryz.zeroValue252 }
end Go.Proofs
namespace Go.Wk.Lf
open Go.V Go.Proofs
theorem kk_ok:KOk Tryz.prog KK :=
  Tb.or (KSort_ok (ff:=Tryz.f99) KNone_ok Tryz.sortLoc rfl Tryz.isAgg51 Tryz.sizeOf51 Tryz.func99 rfl (by decide)) (Tb.or (KSort_ok (ff:=Tryz.f168) KExt_ok Tryz.sortIds rfl Tryz.isAgg58 Tryz.sizeOf58 Tryz.func168 rfl (by decide)) (Tb.or KExt_ok (Tb.or zxv (Tb.or (zve zxv) (Tb.or (zve zxv) (zve zxv))))))
end Go.Wk.Lf
end
