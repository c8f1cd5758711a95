/- catalog.Check, plainly, whole. Catalogs compared, made anew; rows sorted: plainly. Manifests' bytes: of unlike ones unlike, none a beginning of another's. What rebuild.From tells where nothing of use was found; what is Part of a new catalog. The sums of a chunk: both of the program's are one plain function. The sums of a chunk: the reference's words; blocks; what lies behind the bytes. What the page's bytes and ids of manifests are, plainly. Trees of files: names, order; the page's Sort and Tree, plainly. The page's chunks, plainly. The page's Build, plainly: what a tree's manifest and chunks are. What rebuild.From tells, plainly: records noted one by one; what is told at last. plan.Sort, plainly. A chunk that was found: by evaluation. Chunks found in order of their sums; what of a tree stands on a tape; catalogs that are right. RebuildLess, plainly. Notes of records whose chunks are known ahead: each chunk with its places. What rebuild.From tells of a tape's records, in whatever order and however often they are found. RebuildLess, plainly: the law. RebuildTwice, plainly: the places of records that are found once, twice, at two places. RebuildTwice, plainly: the law. RebuildTwice: what is known of the arguments is enough. -/
import Derived.Test.YtfphkkaifgnlgaaGreatG5
set_option linter.unusedVariables false
set_option linter.unusedSimpArgs false
section
namespace Go.Wk.Lf
open Go.V Go.Sort Go.Proofs
def findI (n:Nat) (p:Nat→Bool):Int:=if preN n (fun i=>!p i) < n then (preN n (fun i=>!p i):Int) else -1
theorem zso {F:(Int→Option Int)→Int→Option Int} (n:Nat) (p:Nat→Bool) (hn:n < 4611686018427387904) (hstep:∀ rec (i:Nat),i < n→F rec (i:Int)=if p i=true then some (i:Int) else rec ((i+1:Nat):Int)) (hend:∀ rec,F rec (n:Int)=some (-1)):loop F 0=some (findI n p):=by
 refine zfd (σ:=Unit) (fun i _=>(i:Int)) n (fun i _=>∀ q,q < i→p q=false) _ (i0:=0) (s0:=()) rfl (Nat.zero_le _) (fun q h=>by omega) hn ?_ ?_
 ·intro rec i _ hi hI hrec;rw [hstep rec i hi]
  by_cases h:p i=true
  ·rw [if_pos h];have hk:preN n (fun i=>!p i)=i:=zoq (Nat.le_of_lt hi) (fun q hq=>by rw [hI q hq];rfl) (fun _=>by rw [h];rfl);unfold findI;rw [hk,if_pos hi]
  ·rw [if_neg h];refine hrec () fun q hq=>?_
   by_cases hq2:q=i
   ·subst hq2;simpa using h
   ·exact hI q (by omega)
 ·intro rec _ hI;rw [hend];unfold findI;rw [show preN n (fun i=>!p i)=n from zoq (Nat.le_refl _) (fun q hq=>by rw [hI q hq];rfl) (fun h=>by omega),if_neg (Nat.lt_irrefl _)]
theorem zoy {n:Nat} {p:Nat→Bool}:decide (0≤findI n p) = !allN n (fun i=>!p i):=by
 unfold findI
 by_cases h:preN n (fun i=>!p i) < n
 ·rw [if_pos h];have:allN n (fun i=>!p i)=false:=by
   cases hq:allN n (fun i=>!p i) with
   | false=>rfl
   | true=>have:=zgu.1 hq _ h;rw [preN_no h] at this;cases this
  rw [this];simp
 ·rw [if_neg h];have h2:=preN_le n (fun i=>!p i);have:allN n (fun i=>!p i)=true:=zgu.2 fun i hi=>preN_yes (n:=n) (f:=fun i=>!p i) (by omega);rw [this];rfl
theorem cmpT_nn (a b:List UInt8):decide (0≤cmpT a b) = !sLt a b:=by
 rw [← cmpT_neg]
 by_cases h:cmpT a b < 0
 ·simp [h]
 ·simp [h];omega
def chunkB (x:Chunk):Bool:=if x.staged=true then inB (x.data.length:Int) 1 64 else decide (x.data.length=0)&&decide (0 < x.locs.length)
def zpg (c:Catalog) (i:Nat):Bool:=(!decide (0 < i)||sLt (c.chunks.getD (i - 1) default).id (c.chunks.getD i default).id)&&zjk c.vols (c.chunks.getD i default).locs&&chunkB (c.chunks.getD i default)
def zml (c:Catalog):Bool:=allN c.chunks.length (zpg c)&&decide (c.chunks.length≤200)
theorem chunks_eq (c:Catalog) (hv:c.vols.length≤1073741824) (hl:c.chunks.length≤1073741824):zdf c=some (zml c):=by
 unfold zdf;rw [zkk c.chunks.length (zpg c) (some (decide (c.chunks.length≤200))) (some false) (by omega) ?_ ?_]
 ·unfold zml;cases allN c.chunks.length (zpg c) <;> rfl
 ·intro rec i hi;simp only [zdf.l2];rw [if_t (lt_t hi),zds hi,zaq];have e1:c.chunks.getD i default=c.chunks[i]:=zdj hi;simp only [in_eq,zgq,zaq,locs_eq _ _ hv,zbw (show i < 4611686018427387904 by omega),zwd];have key:∀ (o:Bool) (x:Chunk),(if ((((o || !(if (!o)=true then zjk c.vols x.locs else false))||((!x.staged)&&(decide (0 < (x.data.length:Int))||decide ((x.locs.length:Int)=0))))||(x.staged && !(if ((!((o || !(if (!o)=true then zjk c.vols x.locs else false))||((!x.staged)&&(decide (0 < (x.data.length:Int))||decide ((x.locs.length:Int)=0)))))&&x.staged)=true then inB (x.data.length:Int) 1 64 else false))))=true then some false else rec ((i+1:Nat):Int))=if (!o&&zjk c.vols x.locs&&chunkB x)=true then rec ((i+1:Nat):Int) else some false:=by
   intro o x;refine zkc ?_;unfold chunkB;have d1:decide ((0:Int) < (x.data.length:Int)) = !decide (x.data.length=0):=by
    by_cases h:x.data.length=0
    ·simp [h]
    ·rw [decide_eq_false h,decide_eq_true (by omega)];rfl
   have d2:decide ((x.locs.length:Int)=0) = !decide (0 < x.locs.length):=by
    by_cases h:0 < x.locs.length
    ·rw [decide_eq_true h,decide_eq_false (by omega)];rfl
    ·rw [decide_eq_false h,decide_eq_true (by omega)];rfl
   rw [d1,d2];generalize decide (x.data.length=0)=p;generalize decide (0 < x.locs.length)=q;generalize inB (x.data.length:Int) 1 64=s;generalize zjk c.vols x.locs=u;generalize x.staged=v;cases o <;> cases p <;> cases q <;> cases s <;> cases u <;> cases v <;> rfl
  by_cases h0:0 < i
  ·have e2:ix c.chunks (wr ((i:Int) - 1))=some (c.chunks.getD (i - 1) default):=by
    rw [zmh h0 (by omega),zds (show i - 1 < c.chunks.length by omega),zdj (by omega)]
   have h0':decide ((0:Int) < (i:Int))=true:=decide_eq_true (by omega);rw [e2,h0'];simp only [zgq,zaq,if_true,Bool.true_and,cmpT_nn];refine (key _ _).trans ?_;unfold zpg;rw [e1,decide_eq_true h0];simp only [Bool.not_not,Bool.not_true,Bool.false_or]
  ·have h0':decide ((0:Int) < (i:Int))=false:=decide_eq_false (by omega);rw [h0'];simp only [zhz,zaq,Bool.false_and];refine (key _ _).trans ?_;unfold zpg;rw [e1,decide_eq_false h0];rfl
 ·intro rec;simp only [zdf.l2,zdf.k1];rw [if_f (lt_f (Nat.lt_irrefl _))]
  congr 1
  by_cases h:c.chunks.length≤200
  ·rw [decide_eq_true h,decide_eq_true (by omega)]
  ·rw [decide_eq_false h,decide_eq_false (by omega)]
theorem zzg {c:Catalog} (h:zml c=true):zlw c.chunks:=by
 unfold zml at h;rw [Bool.and_eq_true,zgu] at h;refine (zpr (fun a b:Chunk=>sLt a.id b.id=true) (fun h1 h2=>zir h1 h2) c.chunks).2 fun i hi h0=>?_;have:=h.1 i hi;unfold zpg at this;rw [zdj hi,zdj (show i - 1 < c.chunks.length by omega),decide_eq_true h0] at this;simp only [Bool.not_true,Bool.false_or,Bool.and_eq_true] at this;exact this.1.1
instance (m : Manifest) : Decidable (manB m) := by unfold manB zvc; infer_instance
def idsIn (c:Catalog) (m:Manifest):Bool:=allN m.parts.length fun i=>allN (m.parts.getD i default).ids.length fun k=>ztw c.chunks ((m.parts.getD i default).ids.getD k default)
def zux (c:Catalog) (i:Nat):Bool:=inB (c.snaps.getD i default).seq 0 (c.seq - 1)&&(!decide (0 < i)||decide ((c.snaps.getD (i - 1) default).seq < (c.snaps.getD i default).seq)) && !decide ((c.snaps.getD i default).man.name∈(c.snaps.take i).map fun s=>s.man.name)&&decide (manB (c.snaps.getD i default).man)&&zjk c.vols (c.snaps.getD i default).locs&&idsIn c (c.snaps.getD i default).man
def ztc (c:Catalog):Bool:=allN c.snaps.length (zux c)&&decide (c.snaps.length≤8)
def zny (l:List Snap):List UInt8→Option Bool:=fun k=>if k∈l.map (fun s=>s.man.name) then some true else none
theorem namesM_put (l:List Snap) (s:Snap):mput (zny l) s.man.name true=zny (l++[s]):=by
 funext k
 simp only [mput,zny,List.map_append,List.map_cons,List.map_nil,List.mem_append,List.mem_singleton]
 by_cases h:k=s.man.name
 ·simp [h]
 ·simp [h]
theorem snaps_eq (c:Catalog) (hv:c.vols.length≤1073741824) (hc:c.chunks.length≤1073741824) (hr:zlw c.chunks) (hl:c.snaps.length≤1073741824) (h0:0≤c.seq) (h1:c.seq≤1073741824):zbg c=some (ztc c):=by
 unfold zbg;rw [show ((0:Int),(mnil:List UInt8→Option Bool))=((fun i:Nat=>((i:Int),zny (c.snaps.take i))) 0) from by simp [zny];rfl];rw [loop_allN (fun i:Nat=>((i:Int),zny (c.snaps.take i))) c.snaps.length (zux c) (some (decide (c.snaps.length≤8))) (some false) rfl (by omega) ?_ ?_]
 ·unfold ztc;cases allN c.snaps.length (zux c) <;> rfl
 ·intro rec i hi;simp only [zbg.l2];rw [if_t (lt_t hi),zds hi,zaq];have e1:c.snaps.getD i default=c.snaps[i]:=zdj hi;simp only [in_eq,zgq,zaq,locs_eq _ _ hv,mcheck_eq,zfy (show (-9223372036854775808:Int)≤c.seq - 1 by omega) (by omega)];have hm:(zny (c.snaps.take i) c.snaps[i].man.name).getD false=decide (c.snaps[i].man.name∈(c.snaps.take i).map fun s=>s.man.name):=by
   unfold zny
   by_cases h:c.snaps[i].man.name∈(c.snaps.take i).map fun s=>s.man.name
   ·rw [if_pos h,decide_eq_true h];rfl
   ·rw [if_neg h,decide_eq_false h];rfl
  rw [hm];have hin:manB c.snaps[i].man→loop (zbg.l4 c (i:Int) (zny (c.snaps.take i)) rec c.snaps[i]) 0=if idsIn c c.snaps[i].man=true then rec (((i+1:Nat):Int),zny (c.snaps.take (i+1))) else some false:=by
   intro hman;refine zkk c.snaps[i].man.parts.length _ _ _ (by have:=hman.2.1;omega) ?_ ?_
   ·intro rec2 j hj;simp only [zbg.l4];rw [if_t (lt_t hj),zds hj,zaq,zdj hj];have hids:c.snaps[i].man.parts[j].ids.length≤25:=(zot (zka hman _ (List.getElem_mem hj))).2.2.2.1;refine zkk c.snaps[i].man.parts[j].ids.length _ _ _ (by omega) ?_ ?_
    ·intro rec3 k hk;simp only [zbg.l6];rw [if_t (lt_t hk),zds hk,zaq,zyd _ _ hc hr,zaq,zdj hk,zbw (by omega)];exact zkc rfl
    ·intro rec3;simp only [zbg.l6,zbg.k5];rw [if_f (lt_f (Nat.lt_irrefl _)),zbw (by have:=hman.2.1;omega)]
   ·intro rec2;simp only [zbg.l4,zbg.k3];rw [if_f (lt_f (Nat.lt_irrefl _)),zbw (by omega),namesM_put,zdo hi]
  have key:∀ (o:Bool),(if ((((!inB c.snaps[i].seq 0 (c.seq - 1)||o)||decide (c.snaps[i].man.name∈(c.snaps.take i).map fun s=>s.man.name))||decide ((if (!((!inB c.snaps[i].seq 0 (c.seq - 1)||o)||decide (c.snaps[i].man.name∈(c.snaps.take i).map fun s=>s.man.name)))=true then (if manB c.snaps[i].man then (0:Int) else 1) else 0)≠0)) || !(if (!(((!inB c.snaps[i].seq 0 (c.seq - 1)||o)||decide (c.snaps[i].man.name∈(c.snaps.take i).map fun s=>s.man.name))||decide ((if (!((!inB c.snaps[i].seq 0 (c.seq - 1)||o)||decide (c.snaps[i].man.name∈(c.snaps.take i).map fun s=>s.man.name)))=true then (if manB c.snaps[i].man then (0:Int) else 1) else 0)≠0)))=true then zjk c.vols c.snaps[i].locs else false))=true then some false else loop (zbg.l4 c (i:Int) (zny (c.snaps.take i)) rec c.snaps[i]) 0) =
    if (inB c.snaps[i].seq 0 (c.seq - 1) && !o && !decide (c.snaps[i].man.name∈(c.snaps.take i).map fun s=>s.man.name)&&decide (manB c.snaps[i].man)&&zjk c.vols c.snaps[i].locs&&idsIn c c.snaps[i].man)=true then rec (((i+1:Nat):Int),zny (c.snaps.take (i+1))) else some false:=by
   intro o
   by_cases hman:manB c.snaps[i].man
   ·rw [hin hman];simp only [hman,if_true,decide_true];generalize idsIn c c.snaps[i].man=p;generalize zjk c.vols c.snaps[i].locs=q;generalize decide (c.snaps[i].man.name∈(c.snaps.take i).map fun s=>s.man.name)=s;generalize inB c.snaps[i].seq 0 (c.seq - 1)=u;cases o <;> cases p <;> cases q <;> cases s <;> cases u <;> rfl
   ·simp only [hman,if_false,decide_false];generalize idsIn c c.snaps[i].man=p;generalize zjk c.vols c.snaps[i].locs=q;generalize decide (c.snaps[i].man.name∈(c.snaps.take i).map fun s=>s.man.name)=s;generalize inB c.snaps[i].seq 0 (c.seq - 1)=u;cases o <;> cases p <;> cases q <;> cases s <;> cases u <;> rfl
  by_cases hi0:0 < i
  ·have e2:ix c.snaps (wr ((i:Int) - 1))=some (c.snaps.getD (i - 1) default):=by
    rw [zmh hi0 (by omega),zds (show i - 1 < c.snaps.length by omega),zdj (by omega)]
   have h0':decide ((0:Int) < (i:Int))=true:=decide_eq_true (by omega);rw [e2,h0'];simp only [zgq,zaq,Bool.true_and,Bool.and_true];have hdd:∀ z:Snap,(!inB c.snaps[i].seq 0 (c.seq - 1)||decide (c.snaps[i].seq≤(if (!!inB c.snaps[i].seq 0 (c.seq - 1))=true then c.snaps.getD (i - 1) default else z).seq))=(!inB c.snaps[i].seq 0 (c.seq - 1) || !decide ((c.snaps.getD (i - 1) default).seq < c.snaps[i].seq)):=by
    intro z;cases inB c.snaps[i].seq 0 (c.seq - 1) with
    | false=>rfl
    | true =>
     simp only [Bool.not_true,Bool.not_false,if_true,Bool.false_or]
     by_cases h:(c.snaps.getD (i - 1) default).seq < c.snaps[i].seq
     ·rw [decide_eq_true h,decide_eq_false (by omega)];rfl
     ·rw [decide_eq_false h,decide_eq_true (by omega)];rfl
   rw [hdd];refine (key _).trans ?_;unfold zux;rw [e1,decide_eq_true hi0];simp only [Bool.not_not,Bool.not_true,Bool.false_or]
  ·have h0':decide ((0:Int) < (i:Int))=false:=decide_eq_false (by omega);rw [h0'];simp only [Bool.and_false,Bool.false_and,zhz,zaq];refine (key _).trans ?_;unfold zux;rw [e1,decide_eq_false hi0];rfl
 ·intro rec;simp only [zbg.l2,zbg.k1];rw [if_f (lt_f (Nat.lt_irrefl _))]
  congr 1
  by_cases h:c.snaps.length≤8
  ·rw [decide_eq_true h,decide_eq_true (by omega)]
  ·rw [decide_eq_false h,decide_eq_false (by omega)]
def expOk (c:Catalog) (i:Nat):Bool:=inB (c.exps.getD i default).seq 0 (c.seq - 1)&&(!decide (0 < i)||decide ((c.exps.getD (i - 1) default).seq < (c.exps.getD i default).seq))&&inB (c.exps.getD i default).of 0 ((c.exps.getD i default).seq - 1)&&decide (0 < (c.exps.getD i default).locs.length)&&zjk c.vols (c.exps.getD i default).locs&&allN c.snaps.length fun k=>!decide ((c.snaps.getD k default).seq=(c.exps.getD i default).of)
def expsB (c:Catalog):Bool:=allN c.exps.length (expOk c)&&decide (c.exps.length≤200)
theorem contains_exp (l:List Snap) (x:Exp) (hl:l.length≤1073741824):zbr l x=some (!allN l.length fun k=>!decide ((l.getD k default).seq=x.of)):=by
 unfold zbr zaj;rw [zso l.length (fun k=>decide ((l.getD k default).seq=x.of)) (by omega) ?_ ?_,zaq,zoy]
 ·intro rec i hi;simp only [zaj.l2];rw [if_t (lt_t hi),zds hi,zaq,zdj hi,zbw (by omega)];rfl
 ·intro rec;simp only [zaj.l2,zaj.k1];rw [if_f (lt_f (Nat.lt_irrefl _))]
theorem exps_eq (c:Catalog) (hv:c.vols.length≤1073741824) (hs:c.snaps.length≤1073741824) (hl:c.exps.length≤1073741824) (h0:0≤c.seq) (h1:c.seq≤1073741824):zdz c=some (expsB c):=by
 unfold zdz;rw [zkk c.exps.length (expOk c) (some (decide (c.exps.length≤200))) (some false) (by omega) ?_ ?_]
 ·unfold expsB;cases allN c.exps.length (expOk c) <;> rfl
 ·intro rec i hi;simp only [zdz.l2];rw [if_t (lt_t hi),zds hi,zaq];have e1:c.exps.getD i default=c.exps[i]:=zdj hi;simp only [in_eq,zgq,zaq,locs_eq _ _ hv,contains_exp _ _ hs,zfy (show (-9223372036854775808:Int)≤c.seq - 1 by omega) (by omega),zbw (show i < 4611686018427387904 by omega)];have d2:decide ((c.exps[i].locs.length:Int)=0) = !decide (0 < c.exps[i].locs.length):=by
   by_cases h:0 < c.exps[i].locs.length
   ·rw [decide_eq_true h,decide_eq_false (by omega)];rfl
   ·rw [decide_eq_false h,decide_eq_true (by omega)];rfl
  rw [d2];have hw:inB c.exps[i].seq 0 (c.seq - 1)=true→wr (c.exps[i].seq - 1)=c.exps[i].seq - 1:=fun h=>by
   obtain ⟨q1,q2⟩:=zqt.1 h;exact zfy (by omega) (by omega)
  have key:∀ (o:Bool),(if ((((!inB c.exps[i].seq 0 (c.seq - 1)||o) || !(if (!(!inB c.exps[i].seq 0 (c.seq - 1)||o))=true then inB c.exps[i].of 0 (wr (c.exps[i].seq - 1)) else false)) || !decide (0 < c.exps[i].locs.length)) || !(if (!(((!inB c.exps[i].seq 0 (c.seq - 1)||o) || !(if (!(!inB c.exps[i].seq 0 (c.seq - 1)||o))=true then inB c.exps[i].of 0 (wr (c.exps[i].seq - 1)) else false)) || !decide (0 < c.exps[i].locs.length)))=true then zjk c.vols c.exps[i].locs else false))=true then some false else if (!allN c.snaps.length fun k=>!decide ((c.snaps.getD k default).seq=c.exps[i].of))=true then some false else rec ((i+1:Nat):Int)) =
    if (inB c.exps[i].seq 0 (c.seq - 1) && !o&&inB c.exps[i].of 0 (c.exps[i].seq - 1)&&decide (0 < c.exps[i].locs.length)&&zjk c.vols c.exps[i].locs&&allN c.snaps.length fun k=>!decide ((c.snaps.getD k default).seq=c.exps[i].of))=true then rec ((i+1:Nat):Int) else some false:=by
   intro o;cases hin:inB c.exps[i].seq 0 (c.seq - 1) with
   | false=>rfl
   | true =>
    rw [hw hin];generalize (allN c.snaps.length fun k=>!decide ((c.snaps.getD k default).seq=c.exps[i].of))=p;generalize zjk c.vols c.exps[i].locs=q;generalize decide (0 < c.exps[i].locs.length)=s;generalize inB c.exps[i].of 0 (c.exps[i].seq - 1)=u;cases o <;> cases p <;> cases q <;> cases s <;> cases u <;> rfl
  by_cases hi0:0 < i
  ·have e2:ix c.exps (wr ((i:Int) - 1))=some (c.exps.getD (i - 1) default):=by
    rw [zmh hi0 (by omega),zds (show i - 1 < c.exps.length by omega),zdj (by omega)]
   have h0':decide ((0:Int) < (i:Int))=true:=decide_eq_true (by omega);rw [e2,h0'];simp only [zgq,zaq,Bool.true_and,Bool.and_true];have hdd:∀ z:Exp,(!inB c.exps[i].seq 0 (c.seq - 1)||decide (c.exps[i].seq≤(if (!!inB c.exps[i].seq 0 (c.seq - 1))=true then c.exps.getD (i - 1) default else z).seq))=(!inB c.exps[i].seq 0 (c.seq - 1) || !decide ((c.exps.getD (i - 1) default).seq < c.exps[i].seq)):=by
    intro z;cases inB c.exps[i].seq 0 (c.seq - 1) with
    | false=>rfl
    | true =>
     simp only [Bool.not_true,Bool.not_false,if_true,Bool.false_or]
     by_cases h:(c.exps.getD (i - 1) default).seq < c.exps[i].seq
     ·rw [decide_eq_true h,decide_eq_false (by omega)];rfl
     ·rw [decide_eq_false h,decide_eq_true (by omega)];rfl
   rw [hdd];refine (key _).trans ?_;unfold expOk;rw [e1,decide_eq_true hi0];simp only [Bool.not_not,Bool.not_true,Bool.false_or]
  ·have h0':decide ((0:Int) < (i:Int))=false:=decide_eq_false (by omega);rw [h0'];simp only [Bool.and_false,Bool.false_and,zhz,zaq];refine (key _).trans ?_;unfold expOk;rw [e1,decide_eq_false hi0];rfl
 ·intro rec;simp only [zdz.l2,zdz.k1];rw [if_f (lt_f (Nat.lt_irrefl _))]
  congr 1
  by_cases h:c.exps.length≤200
  ·rw [decide_eq_true h,decide_eq_true (by omega)]
  ·rw [decide_eq_false h,decide_eq_false (by omega)]
def catB (c:Catalog):Bool:=inB c.seq 0 1073741824&&volsB c.vols&&zml c&&ztc c&&expsB c
theorem check_eq (c:Catalog) (hv:c.vols.length≤1073741824) (hc:c.chunks.length≤1073741824) (hs:c.snaps.length≤1073741824) (he:c.exps.length≤1073741824):zjv c=some (if catB c=true then 0 else 1):=by
 unfold zjv catB;rw [in_eq,zaq,vols_eq _ hv,zgq,zaq,chunks_eq _ hv hc,zgq,zaq];cases h1:inB c.seq 0 1073741824 with
 | false=>rfl
 | true =>
  obtain ⟨s0,s1⟩:=zqt.1 h1;rw [exps_eq c hv hs he s0 s1];cases h2:volsB c.vols with
  | false=>rfl
  | true =>
   cases h3:zml c with
   | false=>rfl
   | true =>
    rw [snaps_eq c hv hc (zzg h3) hs s0 s1];cases h4:ztc c with
    | false=>rfl
    | true=>cases h5:expsB c <;> rfl
end Go.Wk.Lf
end
section
namespace Go.Wk.Lf
open Go.V Go.Sort Go.Proofs
theorem zmv {α:Type} [DecidableEq α] [Inhabited α] {F:(Int→Option Bool)→Int→Option Bool} {a b:List α} (hn:a.length < 4611686018427387904)
  (hstep:∀ rec (i:Nat) (h1:i < a.length) (h2:i < b.length),F rec (i:Int)=if decide (a[i]=b[i])=true then rec ((i+1:Nat):Int) else some false) (hend:∀ rec,F rec (a.length:Int)=some true) :
  (if decide ((a.length:Int)≠(b.length:Int))=true then some false else loop F 0)=some (decide (a=b)):=by
 by_cases hl:a.length=b.length
 ·rw [if_f (decide_eq_false (by omega)),zkk a.length (fun i=>decide (a.getD i default=b.getD i default)) (some true) (some false) hn ?_ hend]
  ·by_cases h:a=b
   ·subst h;rw [if_pos (zgu.2 fun i hi=>by simp),decide_eq_true rfl]
   ·rw [if_neg ?_,decide_eq_false h];intro q;refine h (List.ext_getElem hl fun i h1 h2=>?_);have:=zgu.1 q i h1;rw [zdj h1,zdj h2] at this;exact of_decide_eq_true this
  ·intro rec i hi;rw [hstep rec i hi (by omega),zdj hi,zdj (show i < b.length by omega)]
 ·rw [if_t (decide_eq_true (by omega)),decide_eq_false fun h=>hl (by rw [h])]
theorem kbytes_eq (a b:List UInt8) (h:a.length≤1073741824):zck a b=some (decide (a=b)):=by
 unfold zck;refine zmv (by omega) (fun rec i h1 h2=>?_) (fun rec=>?_)
 ·simp only [zck.l2];rw [if_t (lt_t h1),zds h1,zaq,zds h2,zaq,zbw (by omega)];refine zkc ?_
  by_cases h:a[i]=b[i]
  ·simp [h]
  ·have:(a[i].toNat:Int)≠(b[i].toNat:Int):=fun q=>h (UInt8.toNat_inj.1 (by omega));simp [h,this]
 ·simp only [zck.l2,zck.k1];rw [if_f (lt_f (Nat.lt_irrefl _))]
theorem kids_eq (a b:List (List UInt8)) (h:a.length≤1073741824):zct a b=some (decide (a=b)):=by
 unfold zct;refine zmv (by omega) (fun rec i h1 h2=>?_) (fun rec=>?_)
 ·simp only [zct.l2];rw [if_t (lt_t h1),zds h1,zaq,zds h2,zaq,zbw (by omega)];exact zkc rfl
 ·simp only [zct.l2,zct.k1];rw [if_f (lt_f (Nat.lt_irrefl _))]
theorem kloc_eq (a b:Loc):zhq a b=some (decide (a=b)):=by
 unfold zhq
 congr 1
 obtain ⟨a1,a2,a3,a4⟩:=a;obtain ⟨b1,b2,b3,b4⟩:=b;simp only [Loc.mk.injEq,Bool.decide_and];cases decide (a1=b1) <;> cases decide (a2=b2) <;> cases decide (a3=b3) <;> rfl
theorem zyp (a b:List Loc) (h:a.length≤1073741824):zcb a b=some (decide (a=b)):=by
 unfold zcb;refine zmv (by omega) (fun rec i h1 h2=>?_) (fun rec=>?_)
 ·simp only [zcb.l2];rw [if_t (lt_t h1),zds h1,zaq,zds h2,zaq,kloc_eq,zaq,zbw (by omega)];exact zkc rfl
 ·simp only [zcb.l2,zcb.k1];rw [if_f (lt_f (Nat.lt_irrefl _))]
theorem kvols_eq (a b:List Vol) (h:a.length≤1073741824):zcp a b=some (decide (a=b)):=by
 unfold zcp;refine zmv (by omega) (fun rec i h1 h2=>?_) (fun rec=>?_)
 ·simp only [zcp.l2];rw [if_t (lt_t h1),zds h1,zaq,zds h2,zaq,zbw (by omega)];refine zkc ?_;generalize a[i]=x;generalize b[i]=y;obtain ⟨a1,a2,a3,a4⟩:=x;obtain ⟨b1,b2,b3,b4⟩:=y;simp only [Vol.mk.injEq,Bool.decide_and,ne_eq,decide_not];cases decide (a1=b1) <;> cases decide (a2=b2) <;> cases decide (a3=b3) <;> rfl
 ·simp only [zcp.l2,zcp.k1];rw [if_f (lt_f (Nat.lt_irrefl _))]
def smallK (x:Chunk):Prop:=x.data.length≤1073741824∧x.locs.length≤1073741824
def smallM (m:Manifest):Prop:=m.parts.length≤1073741824 ∧ ∀ p∈m.parts,p.ids.length≤1073741824
def smallS (s:Snap):Prop:=smallM s.man∧s.locs.length≤1073741824
def smallC (c:Catalog):Prop:=c.vols.length≤1073741824∧(c.chunks.length≤1073741824 ∧ ∀ x∈c.chunks,smallK x)∧(c.snaps.length≤1073741824 ∧ ∀ s∈c.snaps,smallS s)∧c.exps.length≤1073741824 ∧ ∀ x∈c.exps,x.locs.length≤1073741824
theorem zme {p:Bool} {o:Option Bool} {q:Bool} (h:o=some q):only p o false=some (p&&q):=by
 subst h;cases p <;> rfl
theorem kman_eq (a b:Manifest) (h:smallM a):zbt a b=some (decide (a=b)):=by
 unfold zbt;obtain ⟨an,ap⟩:=a;obtain ⟨bn,bp⟩:=b
 by_cases hn:an=bn
 ·subst hn;simp only [beq_self_eq_true,Bool.not_true,Bool.false_or,Manifest.mk.injEq,true_and];refine zmv (by have:=h.1;simp only at this;omega) (fun rec i h1 h2=>?_) (fun rec=>?_)
  ·simp only [zbt.l2];have hi:=h.2 ap[i] (List.getElem_mem h1);rw [if_t (lt_t h1),zds h1,zaq,zds h2,zaq,zme (kids_eq _ _ hi),zaq,zbw (by have:=h.1;simp only at this;omega)];refine zkc ?_;generalize ap[i]=x;generalize bp[i]=y;obtain ⟨a1,a2,a3⟩:=x;obtain ⟨b1,b2,b3⟩:=y;simp only [Part.mk.injEq,Bool.decide_and,ne_eq,decide_not];have:(a1 == b1)=decide (a1=b1):=by rw [Bool.eq_iff_iff];simp
   rw [this];cases decide (a1=b1) <;> cases decide (a2=b2) <;> cases decide (a3=b3) <;> rfl
  ·simp only [zbt.l2,zbt.k1];rw [if_f (lt_f (Nat.lt_irrefl _))]
 ·rw [if_t (by simp [hn]),decide_eq_false fun q=>hn (Manifest.mk.inj q).1]
theorem ksnap_eq (a b:Snap) (h:smallS a):zhe a b=some (decide (a=b)):=by
 unfold zhe;rw [zme (kman_eq _ _ h.1),zaq,zme (zyp _ _ h.2),zaq]
 congr 1
 obtain ⟨a1,a2,a3⟩:=a;obtain ⟨b1,b2,b3⟩:=b;simp only [Snap.mk.injEq,Bool.decide_and];cases decide (a1=b1) <;> cases decide (a2=b2) <;> cases decide (a3=b3) <;> rfl
theorem kchunk_eq (a b:Chunk) (h:smallK a):zgt a b=some (decide (a=b)):=by
 unfold zgt;rw [zme (kbytes_eq _ _ h.1),zaq,zme (zyp _ _ h.2),zaq]
 congr 1
 obtain ⟨a1,a2,a3,a4⟩:=a;obtain ⟨b1,b2,b3,b4⟩:=b;simp only [Chunk.mk.injEq,Bool.decide_and];have:(a2 == b2)=decide (a2=b2):=by cases a2 <;> cases b2 <;> rfl
 rw [this];cases decide (a1=b1) <;> cases decide (a2=b2) <;> cases decide (a3=b3) <;> cases decide (a4=b4) <;> rfl
theorem kchunks_eq (a b:List Chunk) (h:a.length≤1073741824) (hs:∀ x∈a,smallK x):zbz a b=some (decide (a=b)):=by
 unfold zbz;refine zmv (by omega) (fun rec i h1 h2=>?_) (fun rec=>?_)
 ·simp only [zbz.l2];rw [if_t (lt_t h1),zds h1,zaq,zds h2,zaq,kchunk_eq _ _ (hs _ (List.getElem_mem h1)),zaq,zbw (by omega)];exact zkc rfl
 ·simp only [zbz.l2,zbz.k1];rw [if_f (lt_f (Nat.lt_irrefl _))]
def sameC (a b:Catalog):Prop:=a.snaps=b.snaps∧a.chunks=b.chunks∧a.exps=b.exps∧a.vols=b.vols
instance (a b : Catalog) : Decidable (sameC a b) := by unfold sameC; infer_instance
theorem sameC_refl (a:Catalog):sameC a a:=⟨rfl,rfl,rfl,rfl⟩
theorem loop_same {α:Type} [DecidableEq α] [Inhabited α] {F:(Int→Option Bool)→Int→Option Bool} {a b:List α} {K:Option Bool} (hl:a.length=b.length) (hn:a.length < 4611686018427387904)
  (hstep:∀ rec (i:Nat) (h1:i < a.length) (h2:i < b.length),F rec (i:Int)=if decide (a[i]=b[i])=true then rec ((i+1:Nat):Int) else some false) (hend:∀ rec,F rec (a.length:Int)=K) :
  loop F 0=if decide (a=b)=true then K else some false:=by
 rw [zkk a.length (fun i=>decide (a.getD i default=b.getD i default)) K (some false) hn ?_ hend]
 ·by_cases h:a=b
  ·subst h;rw [if_pos (zgu.2 fun i hi=>by simp),if_t (decide_eq_true rfl)]
  ·rw [if_neg ?_,if_f (decide_eq_false h)];intro q;refine h (List.ext_getElem hl fun i h1 h2=>?_);have:=zgu.1 q i h1;rw [zdj h1,zdj h2] at this;exact of_decide_eq_true this
 ·intro rec i hi;rw [hstep rec i hi (by omega),zdj hi,zdj (show i < b.length by omega)]
theorem kcat_eq (a b:Catalog) (h:smallC a):zbc a b=some (decide (sameC a b)):=by
 obtain ⟨hv,⟨hc,hc2⟩,⟨hs,hs2⟩,he,he2⟩:=h;unfold zbc;rw [zme (kchunks_eq _ _ hc hc2),zaq,zme (kvols_eq _ _ hv),zaq]
 by_cases l1:a.snaps.length=b.snaps.length
 ·by_cases l2:a.exps.length=b.exps.length
  ·have d1:(decide ((a.snaps.length:Int)≠(b.snaps.length:Int))||decide ((a.exps.length:Int)≠(b.exps.length:Int)))=false:=by
    rw [decide_eq_false (by omega),decide_eq_false (by omega)];rfl
   rw [d1]
   by_cases e1:a.chunks=b.chunks
   ·by_cases e2:a.vols=b.vols
    ·rw [decide_eq_true e1,decide_eq_true e2];simp only [Bool.false_or,Bool.not_false,Bool.true_and,Bool.not_true,Bool.false_eq_true,if_false];rw [loop_same (a:=a.snaps) (b:=b.snaps) (K:=if decide (a.exps=b.exps)=true then some true else some false) l1 (by omega) (fun rec i h1 h2=>?_) (fun rec=>?_)]
     ·by_cases e3:a.snaps=b.snaps
      ·by_cases e4:a.exps=b.exps
       ·rw [if_t (decide_eq_true e3),if_t (decide_eq_true e4),decide_eq_true (show sameC a b from ⟨e3,e1,e4,e2⟩)]
       ·rw [if_t (decide_eq_true e3),if_f (decide_eq_false e4),decide_eq_false fun q=>e4 q.2.2.1]
      ·rw [if_f (decide_eq_false e3),decide_eq_false fun q=>e3 q.1]
     ·simp only [zbc.l4];rw [if_t (lt_t h1),zds h1,zaq,zds h2,zaq,ksnap_eq _ _ (hs2 _ (List.getElem_mem h1)),zaq,zbw (by omega)];exact zkc rfl
     ·simp only [zbc.l4,zbc.k1];rw [if_f (lt_f (Nat.lt_irrefl _))];refine loop_same (a:=a.exps) (b:=b.exps) l2 (by omega) (fun rec i h1 h2=>?_) (fun rec=>?_)
      ·simp only [zbc.l3];rw [if_t (lt_t h1),zds h1,zaq,zds h2,zaq,zme (zyp _ _ (he2 _ (List.getElem_mem h1))),zaq,zbw (by omega)];refine zkc ?_;generalize a.exps[i]=x;generalize b.exps[i]=y;obtain ⟨a1,a2,a3⟩:=x;obtain ⟨b1,b2,b3⟩:=y;simp only [Exp.mk.injEq,Bool.decide_and,ne_eq,decide_not];cases decide (a1=b1) <;> cases decide (a2=b2) <;> cases decide (a3=b3) <;> rfl
      ·simp only [zbc.l3,zbc.k2];rw [if_f (lt_f (Nat.lt_irrefl _))]
    ·rw [decide_eq_false e2,decide_eq_false (show ¬sameC a b from fun q=>e2 q.2.2.2)];simp
   ·rw [decide_eq_false e1,decide_eq_false (show ¬sameC a b from fun q=>e1 q.2.1)];simp
  ·rw [if_t (by rw [decide_eq_true (show (a.exps.length:Int)≠(b.exps.length:Int) by omega)];simp),decide_eq_false fun q=>l2 (by rw [q.2.2.1])]
 ·rw [if_t (by rw [decide_eq_true (show (a.snaps.length:Int)≠(b.snaps.length:Int) by omega)];simp),decide_eq_false fun q=>l1 (by rw [q.1])]
theorem zlo {α A:Type} {F:(Int × List α→Option A)→Int × List α→Option A} (l:List α) (g:α→α) (K:List α→Option A) (hn:l.length < 4611686018427387904)
  (hstep:∀ rec (i:Nat) (m:List α) (hi:i < l.length) (hm:m.length=l.length),m[i]? = some l[i]→F rec ((i:Int),m)=rec (((i+1:Nat):Int),m.set i (g l[i]))) (hend:∀ rec m,m.length=l.length→F rec ((l.length:Int),m)=K m):loop F (0,l)=K (l.map g):=by
 refine zfd (σ:=List α) (fun i m=>((i:Int),m)) l.length (fun i m=>m=(l.take i).map g++l.drop i) _ (i0:=0) (s0:=l) rfl (Nat.zero_le _) (by simp) hn ?_ ?_
 ·intro rec i m hi hI hrec;have hml:m.length=l.length:=by rw [hI];simp;omega
  have hmi:m[i]? = some l[i]:=by
   rw [hI,List.getElem?_append_right (by simp;omega)];simp [Nat.min_eq_left (Nat.le_of_lt hi),hi]
  rw [hstep rec i m hi hml hmi];refine hrec _ ?_;rw [hI,List.set_append_right _ _ (by simp;omega),zdo hi,List.map_append,List.append_assoc]
  congr 1
  rw [List.length_map,List.length_take,Nat.min_eq_left (Nat.le_of_lt hi),Nat.sub_self,List.drop_eq_getElem_cons hi];rfl
 ·intro rec m hI;have hml:m.length=l.length:=by rw [hI];simp
  rw [hend rec m hml,hI,List.take_length,List.drop_length,List.append_nil]
theorem zjr {α:Type} (l:List α) (hl:l.length≤1073741824):(bd (app (α:=α) ([]:List α) l) fun l6=>some l6)=some l:=by
 rw [zdp (by simpa using hl),zaq,List.nil_append]
theorem ztv {α:Type} {m:List α} {i:Nat} {x:α} (h:m[i]? = some x):ix m (i:Int)=some x:=h
theorem twinMan_eq (m:Manifest) (h:smallM m):zcx m=some m:=by
 unfold zcx zei;rw [zjr _ h.1,zaq,zlo m.parts id (fun l=>some (Manifest.mk m.name l)) (by have:=h.1;omega) ?_ ?_,List.map_id]
 ·intro rec i l hi hm hx;simp only [zcx.l2];rw [if_t (lt_t hi),ztv hx,zaq,cloneI_eq _ (h.2 _ (List.getElem_mem hi)),zaq,zbw (by have:=h.1;omega)];rfl
 ·intro rec l hl;simp only [zcx.l2,zcx.k1];rw [if_f (lt_f (Nat.lt_irrefl _))]
theorem twinCat_eq (c:Catalog) (h:smallC c):zbj c=some c:=by
 obtain ⟨hv,⟨hc,hc2⟩,⟨hs,hs2⟩,he,he2⟩:=h;unfold zbj zeh zdt zet zdg;rw [zjr _ hs,zaq,zjr _ hc,zaq,zjr _ he,zaq,zjr _ hv,zaq];have k3:∀ (sn:List Snap) (ch:List Chunk),zbj.k2 c c.exps c.vols sn ch=some (Catalog.mk c.seq sn ch c.exps c.vols):=by
  intro sn ch;unfold zbj.k2;rw [zlo c.exps id (fun l=>some (Catalog.mk c.seq sn ch l c.vols)) (by omega) ?_ ?_,List.map_id]
  ·intro rec i l hi hm hx;simp only [zbj.l4,zbq];rw [if_t (lt_t hi),ztv hx,zaq,zjr _ (he2 _ (List.getElem_mem hi)),zaq,zbw (by omega)];rfl
  ·intro rec l hl;simp only [zbj.l4,zbj.k3];rw [if_f (lt_f (Nat.lt_irrefl _))]
 have k2:∀ (sn:List Snap),zbj.k1 c c.chunks c.exps c.vols sn=some (Catalog.mk c.seq sn c.chunks c.exps c.vols):=by
  intro sn;unfold zbj.k1;rw [zlo c.chunks id (fun l=>some (Catalog.mk c.seq sn l c.exps c.vols)) (by omega) ?_ ?_,List.map_id]
  ·intro rec i l hi hm hx;simp only [zbj.l5,zbq];have hk:=hc2 _ (List.getElem_mem hi);rw [if_t (lt_t hi),ztv hx,zaq,cloneB_eq _ hk.1,zaq,zjr _ hk.2,zaq,zbw (by omega),List.set_set];rfl
  ·intro rec l hl;simp only [zbj.l5];rw [if_f (lt_f (Nat.lt_irrefl _))];exact k3 sn l
 rw [zlo c.snaps id (fun l=>some (Catalog.mk c.seq l c.chunks c.exps c.vols)) (by omega) ?_ ?_,List.map_id]
 ·intro rec i l hi hm hx;simp only [zbj.l6,zbq];have hk:=hs2 _ (List.getElem_mem hi);rw [if_t (lt_t hi),ztv hx,zaq,twinMan_eq _ hk.1,zaq,zjr _ hk.2,zaq,zbw (by omega),List.set_set];rfl
 ·intro rec l hl;simp only [zbj.l6];rw [if_f (lt_f (Nat.lt_irrefl _))];exact k2 l
theorem zxk {c:Catalog} (h:catB c=true):smallC c:=by
 unfold catB volsB zml ztc expsB at h;simp only [Bool.and_eq_true,decide_eq_true_eq,zgu,zqt] at h;obtain ⟨⟨⟨⟨_,_,_,hv⟩,hc,hcl⟩,hs,hsl⟩,he,hel⟩:=h;have hloc:∀ l,zjk c.vols l=true→l.length≤1073741824:=fun l h=>by
  unfold zjk at h;rw [Bool.and_eq_true,decide_eq_true_eq] at h;omega
 refine ⟨by omega,⟨by omega,fun x hx=>?_⟩,⟨by omega,fun x hx=>?_⟩,by omega,fun x hx=>?_⟩
 ·obtain ⟨i,hi,rfl⟩:=List.getElem_of_mem hx;have:=hc i hi;unfold zpg chunkB at this;rw [zdj hi] at this;simp only [Bool.and_eq_true] at this;refine ⟨?_,hloc _ this.1.2⟩;have h2:=this.2
  split at h2
  ·have:=zqt.1 h2;omega
  ·simp only [Bool.and_eq_true,decide_eq_true_eq] at h2;omega
 ·obtain ⟨i,hi,rfl⟩:=List.getElem_of_mem hx;have:=hs i hi;unfold zux at this;rw [zdj hi] at this;simp only [Bool.and_eq_true,decide_eq_true_eq] at this;have hm:=this.1.1.2;exact ⟨⟨by have:=hm.2.1;omega,fun p hp=>by have:=(zot (zka hm p hp)).2.2.2.1;omega⟩,hloc _ this.1.2⟩
 ·obtain ⟨i,hi,rfl⟩:=List.getElem_of_mem hx;have:=he i hi;unfold expOk at this;rw [zdj hi] at this;simp only [Bool.and_eq_true,decide_eq_true_eq] at this;exact hloc _ this.1.2
end Go.Wk.Lf
end
section
namespace Go.Wk.Lf
open Go.V Go.Sort Go.Proofs
theorem zue {n m:Nat} (hn:n < 256) (hm:m < 256) (h:toB8 (n:Int)=toB8 (m:Int)):n=m:=by
 rw [← zmq hn,h,zmq hm]
theorem zxf:∀ (a b:List (List UInt8)) (r s:List UInt8),a.length=b.length→(∀ x∈a,x.length=32)→(∀ x∈b,x.length=32)→a.flatten++r=b.flatten++s→a=b∧r=s
 | [],[],r,s,_,_,_,h=>⟨rfl,h⟩
 | x::a,y::b,r,s,hl,ha,hb,h=>by
  simp only [List.flatten_cons,List.append_assoc] at h;obtain ⟨h1,h2⟩:=List.append_inj h (by rw [ha x (by simp),hb y (by simp)]);obtain ⟨h3,h4⟩:=zxf a b r s (by simpa using hl) (fun z hz=>ha z (by simp [hz])) (fun z hz=>hb z (by simp [hz])) h2;exact ⟨by rw [h1,h3],h4⟩
 | [],_::_,_,_,hl,_,_,_=>by simp at hl
 | _::_,[],_,_,hl,_,_,_=>by simp at hl
theorem head_inj {p q:List UInt8} {n n' k k':Nat} {r s:List UInt8} (hp:p.length < 256) (hq:q.length < 256) (hn:n < 65536) (hn':n' < 65536) (hk:k < 256) (hk':k' < 256) (h:zjl p n k++r=zjl q n' k' ++ s):p=q∧n=n' ∧ k=k' ∧ r=s:=by
 simp only [zjl,List.append_assoc,List.singleton_append,List.cons_append,List.nil_append,List.cons.injEq] at h;obtain ⟨h1,h2⟩:=h;have h3:=zue hp hq h1;obtain ⟨h4,h5⟩:=List.append_inj h2 h3;obtain ⟨h6,h7⟩:=List.append_inj h5 rfl;simp only [List.cons.injEq] at h7;refine ⟨h4,?_,zue hk hk' h7.1,h7.2⟩;rw [← beN_be2 hn,h6,beN_be2 hn']
theorem part_inj {p q:Part} {r s:List UInt8} (hp:wfP p) (hq:wfP q) (h:zdu p++r=zdu q++s):p=q∧r=s:=by
 obtain ⟨p1,p2,p3,p4,p5⟩:=hp;obtain ⟨q1,q2,q3,q4,q5⟩:=hq;obtain ⟨n,hn⟩:=Int.eq_ofNat_of_zero_le p2;obtain ⟨m,hm⟩:=Int.eq_ofNat_of_zero_le q2;rw [zkj p n hn,zkj q m hm,List.append_assoc,List.append_assoc] at h;obtain ⟨h1,h2,h3,h4⟩:=head_inj p1 q1 (by omega) (by omega) p4 q4 h;obtain ⟨h5,h6⟩:=zxf _ _ _ _ h3 p5 q5 h4;obtain ⟨a1,a2,a3⟩:=p;obtain ⟨b1,b2,b3⟩:=q;simp only at h1 h5 hn hm;exact ⟨by rw [h1,h5,hn,hm,h2],h6⟩
theorem parts_inj:∀ (a b:List Part) (r s:List UInt8),a.length=b.length→(∀ p∈a,wfP p)→(∀ p∈b,wfP p)→a.flatMap zdu++r=b.flatMap zdu++s→a=b∧r=s
 | [],[],r,s,_,_,_,h=>⟨rfl,h⟩
 | x::a,y::b,r,s,hl,ha,hb,h=>by
  simp only [List.flatMap_cons,List.append_assoc] at h;obtain ⟨h1,h2⟩:=part_inj (ha x (by simp)) (hb y (by simp)) h;obtain ⟨h3,h4⟩:=parts_inj a b r s (by simpa using hl) (fun z hz=>ha z (by simp [hz])) (fun z hz=>hb z (by simp [hz])) h2;exact ⟨by rw [h1,h3],h4⟩
 | [],_::_,_,_,hl,_,_,_=>by simp at hl
 | _::_,[],_,_,hl,_,_,_=>by simp at hl
theorem man_inj {a b:Manifest} {r s:List UInt8} (ha:manB a) (hb:manB b) (ka:okId a) (kb:okId b) (h:zgz a++r=zgz b++s):a=b∧r=s:=by
 obtain ⟨a1,a2⟩:=zyl ha;obtain ⟨b1,b2⟩:=zyl hb;simp only [zgz,List.append_assoc,List.singleton_append,List.cons_append,List.nil_append,List.cons.injEq] at h;obtain ⟨h1,h2⟩:=h;obtain ⟨h4,h5⟩:=List.append_inj h2 (zue a1 b1 h1);simp only [List.cons.injEq] at h5;obtain ⟨h6,h7⟩:=parts_inj _ _ _ _ (zue a2 b2 h5.1) (fun p hp=>wf_of (zka ha p hp) (ka p hp)) (fun p hp=>wf_of (zka hb p hp) (kb p hp)) h5.2;obtain ⟨an,ap⟩:=a;obtain ⟨bn,bp⟩:=b;simp only at h4 h6;exact ⟨by rw [h4,h6],h7⟩
theorem isMan_uniq {b:List UInt8} {m m':Manifest} (h:zyr b m) (h':zyr b m'):m=m' :=
 (man_inj (r:=[]) (s:=[]) h.1 h'.1 h.2.1 h'.2.1 (by rw [List.append_nil,List.append_nil,← h.2.2,h'.2.2])).1
theorem readL_man {b:List UInt8} {m:Manifest} (h:zyr b m):zyb b=(m,0):=by
 unfold zyb;have hex:∃ m,zyr b m:=⟨m,h⟩
 rw [dif_pos hex,isMan_uniq hex.choose_spec h]
end Go.Wk.Lf
end
section
namespace Go.Wk.Lf
open Go.V Go.Sort Go.Proofs
def bareC (vs:List Vol):Catalog:=⟨0,[],[],[],vs⟩
end Go.Wk.Lf
end
section
namespace Go.Wk.Lf
open Go.V Go.Proofs
noncomputable section
set_option maxRecDepth 100000
variable {K:Tb} {F:Frz} {w:Hp}
def zav.k2:Option Bool :=
  bd (zgk) fun r68 =>
  some r68
def zav.l3 (r14:Catalog × Int) (r51:Catalog × Int) (rec72:Int→Option Bool):Int→Option Bool
  | i71 =>
    if decide (i71 < (r51.1.chunks.length:Int)) then
      bd (ix r51.1.chunks i71) fun x74 =>
      bd (ix r14.1.chunks i71) fun x76 =>
      bd (only (!(!decide (x74.id=x76.id))) (ix r51.1.chunks i71) (Chunk.mk (List.replicate 32 (0:UInt8)) false [] [])) fun x78 =>
      bd (only (!(!decide (x74.id=x76.id))) (ix r14.1.chunks i71) (Chunk.mk (List.replicate 32 (0:UInt8)) false [] [])) fun x80 =>
      if ((!decide (x74.id=x76.id))||decide ((x78.locs.length:Int)≠wr (2*(x80.locs.length:Int)))) then
        some false
      else
        rec72 (wr (i71+1))
    else
      zav.k2
def zav.k1 (r14:Catalog × Int) (l48:List Found):Option Bool :=
  bd (zax [(Vol.mk 0 0 2 3),(Vol.mk 0 0 2 2)] l48) fun r51 =>
  bd (only (!(decide (r51.2≠0)||decide ((r51.1.snaps.length:Int)≠1))) (ix r51.1.snaps 0) (Snap.mk 0 (Manifest.mk [] []) [])) fun x56 =>
  if (((decide (r51.2≠0)||decide ((r51.1.snaps.length:Int)≠1))||decide ((x56.locs.length:Int)≠2))||decide ((r51.1.chunks.length:Int)≠(r14.1.chunks.length:Int))) then
    some false
  else
    loop (zav.l3 r14 r51) 0
def zav.l4 (x1:Int) (r7:(List Found) × Bool) (r14:Catalog × Int) (rec98:((List Found) × Int)→Option Bool):((List Found) × Int)→Option Bool
  | (l94,i97) =>
    if decide (i97 < (r7.1.length:Int)) then
      bd (rem (wu x1) (wu (r7.1.length:Int))) fun x100 =>
      bd (rem (wr (i97+wr x100)) (r7.1.length:Int)) fun x101 =>
      bd (ix r7.1 x101) fun x102 =>
      bd (app (α:=Found) l94 [(Found.mk x102.rec_ (Loc.mk 1 x102.loc.file x102.loc.off x102.loc.len)),x102]) fun l113 =>
      rec98 (l113,wr (i97+1))
    else
      zav.k1 r14 l94
def zav (x0:List File) (x1:Int):Option Bool :=
  bd (zak x0) fun r1 =>
  if (decide (r1.2≠0)||decide (10 < (x0.length:Int))) then
    some true
  else
    bd (zcj ([97]:List UInt8) 3 r1.1) fun r7 =>
    if (!r7.2) then
      bd (zgk) fun r11 =>
      some r11
    else
      bd (zax [(Vol.mk 0 0 2 3),(Vol.mk 0 0 2 2)] r7.1) fun r14 =>
      bd (app (α:=Found) ([]:List Found) r7.1) fun l21 =>
      bd (app (α:=Found) l21 r7.1) fun l23 =>
      bd (zax [(Vol.mk 0 0 2 3),(Vol.mk 0 0 2 2)] l23) fun r25 =>
      bd (only (!(decide (r14.2≠0)||decide (r25.2≠0))) (zbc r14.1 r25.1) false) fun r30 =>
      if (((decide (r14.2≠0)||decide (r25.2≠0))||(!r30))||decide (r14.1.seq≠r25.1.seq)) then
        some false
      else
        loop (zav.l4 x1 r7 r14) ([],0)
set_option maxHeartbeats 2000000 in
theorem zks {x0:List File} {x1:Int} {r:Bool} {v0:Val} (hA:Gd F w) (h0:SlF File.t F v0 x0) (H:zav x0 x1=some r):Ret Tryz.prog KK 4 [v0,.i .i64 x1] w fun v w'=>∃ (F':Frz),v = .b r∧St [] w F F' [] w':=by
 refine qa2 Tryz.func4 ?_;have hS:=St.start hA;dsimp only [zav] at H;refine qsm ?_;obtain ⟨r1,hr1,H⟩:=zap H;refine qsc ?_;refine lm (zpj hS.good h0 hr1) ?_;rintro v2 w2 ⟨Fr1,ur1_0,rfl,hT2⟩;have hS2:=hS.call hT2;have ler1:=hT2.ext;refine q4 ?_;refine qm ?_;refine zay ?_;refine qsc ?_;refine qr (zah rfl rfl zeb) ?_;refine qc ?_;refine W_gs (v:=v0) rfl rfl rfl rfl (fun ⟨hb3,_⟩=>?_) ?_
 ·rw [hb3];exact (qc ·)
 refine W_gs (v:=.i .i64 (x0.length:Int)) rfl rfl rfl rfl (fun ⟨hb4,_⟩=>?_) ?_
 ·rw [hb4];exact (qr (zbs Tryz.underlying22 rfl h0.ln) ·)
 refine W_gs (v:=.b (decide (10 < (x0.length:Int)))) rfl rfl rfl rfl (fun ⟨hb5,_⟩=>?_) ?_
 ·rw [hb5];exact (qr (zah rfl rfl zgn) ·)
 refine zgl rfl rfl rfl rfl rfl rfl (fun hc=>by rw [hc];rfl) ?_;refine qn ?_;refine qy H (fun hc6 H=>?_) (fun hc6 H=>?_)
 ·refine qsm ?_;obtain rfl:=oi H;refine qt ?_;exact ⟨Fr1,rfl,hS2.pick [] (by decide)⟩
 ·refine qk ?_;obtain ⟨r7,hr7,H⟩:=zap H;refine qsc ?_;obtain ⟨F8,le8,hf8,hS8⟩:=hS2.freezeR 0 [] rfl (by decide) (by decide);refine lm (zpl hS8.good hf8 hr7) ?_;rintro v9 w9 ⟨Fr7,ur7_0,rfl,hT9⟩;have hS9:=hS8.call hT9;have ler7:=hT9.ext;refine q4 ?_;refine qm ?_;refine zay ?_;refine qsc ?_;refine qm ?_;refine qy H (fun hc10 H=>?_) (fun hc10 H=>?_)
  ·obtain ⟨r11,hr11,H⟩:=zap H;refine qs ?_;refine lm (zjy hS9.good hr11) ?_;rintro v12 w12 ⟨Fr11,rfl,hT12⟩;have hS12:=hS9.lent hT12;refine qm ?_;obtain rfl:=oi H;refine qt ?_;exact ⟨Fr7,rfl,hS12.pick [] (by decide)⟩
  ·refine qk ?_;refine qs ?_;refine W_c (v:=.agg (Vol.cells (Vol.mk 0 0 2 3))) rfl rfl rfl rfl (fun _=>rfl) ?_;refine W_c (v:=.agg (Vol.cells (Vol.mk 0 0 2 2))) rfl rfl rfl rfl (fun _=>rfl) ?_;refine xm (E_bs (t:=Vol.t) (vs:=[.agg (Vol.cells (Vol.mk 0 0 2 3)),.agg (Vol.cells (Vol.mk 0 0 2 2))]) (xs:=[(Vol.mk 0 0 2 3),(Vol.mk 0 0 2 2)]) Tryz.underlying33 Ty.row32 rfl ⟨rfl,⟨rfl,trivial⟩⟩ rfl rfl hS9) ?_;rintro u13 w13 hS13;refine qm ?_;obtain ⟨r14,hr14,H⟩:=zap H;refine qs ?_;refine q2 ?_;obtain ⟨F16,le16,hf16,hS16⟩:=hS13.freezeR 0 [1] rfl (by decide) (by decide);obtain ⟨F17,le17,hf17,hS17⟩:=hS16.freezeR 0 [] rfl (by decide) (by decide);refine lm (zjh hS17.good (hf16.mono le17) hf17 hr14) ?_;rintro v18 w18 ⟨Fr14,ur14_0_0,ur14_0_1,ur14_0_2,ur14_0_3,rfl,hfr14_0_0,hfr14_0_1,hfr14_0_2,hfr14_0_3,hT18⟩;have hS18:=hS17.call hT18;have ler14:=hT18.ext;refine q3 ?_;refine xm (zft (cs:=[.i .i64 0,.sl none 0 (.k 0),.sl none 0 (.k 0),.sl none 0 (.k 0),.sl none 0 (.k 0)]) Ty.zuq rfl hS18) ?_;rintro _ w15 ⟨g15,rfl,hS15⟩;refine um (zea (c:=[.i .i64 r14.1.seq,ur14_0_0,ur14_0_1,ur14_0_2,ur14_0_3]) 0 ([.i .i64 r14.1.seq,ur14_0_0,ur14_0_1,ur14_0_2,ur14_0_3]) rfl rfl hS15 rfl rfl Ty.zhx (by simp only [List.all_cons,List.all_nil,List.all_append,hfr14_0_0.ln.one,hfr14_0_1.ln.one,hfr14_0_2.ln.one,hfr14_0_3.ln.one];rfl) rfl rfl) ?_;rintro _ w19 hS19;refine qm ?_;obtain ⟨l21,hl21,l23,hl23,H⟩:=bd2 H;obtain ⟨r25,hr25,H⟩:=zap H;refine qsc ?_;refine xm (E_bs (t:=Found.t) (vs:=[]) (xs:=([]:List Found)) Tryz.underlying27 Ty.zwq rfl trivial rfl rfl hS19) ?_;rintro u20 w20 hS20;refine qc ?_;refine xm (zgg (t:=Found.t) 0 Tryz.underlying27 Ty.zwq Ty.zk27 rfl rfl hS20 rfl ((hf17.mono ler14).src hS20.agree) hl21) ?_;rintro v22 w22 hS22;refine qc ?_;refine xm (zgg (t:=Found.t) 0 Tryz.underlying27 Ty.zwq Ty.zk27 rfl rfl hS22 rfl ((hf17.mono ler14).src hS22.agree) hl23) ?_;rintro v24 w24 hS24;obtain ⟨F27,le27,hf27,hS27⟩:=hS24.freezeR 0 [1] rfl (by decide) (by decide);refine lm (zjh hS27.good (hf16.mono ((le17.trans ler14).trans le27)) hf27 hr25) ?_;rintro v28 w28 ⟨Fr25,ur25_0_0,ur25_0_1,ur25_0_2,ur25_0_3,rfl,hfr25_0_0,hfr25_0_1,hfr25_0_2,hfr25_0_3,hT28⟩;have hS28:=hS27.call hT28;have ler25:=hT28.ext;refine q3 ?_;refine xm (zft (cs:=[.i .i64 0,.sl none 0 (.k 0),.sl none 0 (.k 0),.sl none 0 (.k 0),.sl none 0 (.k 0)]) Ty.zuq rfl hS28) ?_
   rintro _ w26 ⟨g26,rfl,hS26⟩;refine um (zea (c:=[.i .i64 r25.1.seq,ur25_0_0,ur25_0_1,ur25_0_2,ur25_0_3]) 0 ([.i .i64 r25.1.seq,ur25_0_0,ur25_0_1,ur25_0_2,ur25_0_3]) rfl rfl hS26 rfl rfl Ty.zhx (by simp only [List.all_cons,List.all_nil,List.all_append,hfr25_0_0.ln.one,hfr25_0_1.ln.one,hfr25_0_2.ln.one,hfr25_0_3.ln.one];rfl) rfl rfl) ?_;rintro _ w29 hS29;refine qm ?_;refine zay ?_;obtain ⟨r30,hr30,H⟩:=zap H;refine qsc ?_;refine qr (zah rfl rfl zeb) ?_;refine qc ?_;refine W_gs (v:=.i .i64 r25.2) rfl rfl rfl rfl (fun ⟨hb31,_⟩=>?_) ?_
   ·rw [hb31];exact (qc ·)
   refine W_gs (v:=.b (decide (r25.2≠0))) rfl rfl rfl rfl (fun ⟨hb32,_⟩=>?_) ?_
   ·rw [hb32];exact (qr (zah rfl rfl zeb) ·)
   refine zgl rfl rfl rfl rfl rfl rfl (fun hc=>by rw [hc];rfl) ?_;refine qc ?_;refine W_gs (v:=.agg (Catalog.cells r14.1 ur14_0_0 ur14_0_1 ur14_0_2 ur14_0_3)) rfl rfl rfl rfl (fun ⟨hb33,_⟩=>?_) ?_
   ·rw [hb33];exact (qr (zde 1 (Catalog.cells r14.1 ur14_0_0 ur14_0_1 ur14_0_2 ur14_0_3) Ty.zql Ty.zhx (Nat.zero_lt_succ _) rfl hS29 rfl (fun q u h=>zdb (post:=[]) rfl h)) ·)
   refine W_gs (v:=.agg (Catalog.cells r25.1 ur25_0_0 ur25_0_1 ur25_0_2 ur25_0_3)) rfl rfl rfl rfl (fun ⟨hb34,_⟩=>?_) ?_
   ·rw [hb34];exact (qr (zde 0 (Catalog.cells r25.1 ur25_0_0 ur25_0_1 ur25_0_2 ur25_0_3) Ty.zql Ty.zhx (Nat.zero_lt_succ _) rfl hS29 rfl (fun q u h=>zdb (post:=[]) rfl h)) ·)
   obtain ⟨Q36,hQ36⟩:∃ Q:Hp→Prop,Q=fun wq=>St [] w F Fr25 [.box g26 [.i .i64 r25.1.seq,ur25_0_0,ur25_0_1,ur25_0_2,ur25_0_3],.box g15 [.i .i64 r14.1.seq,ur14_0_0,ur14_0_1,ur14_0_2,ur14_0_3]] wq:=⟨_,rfl⟩;refine W_gw (v:=.b r30) (Q:=Q36) (by rw [hQ36];exact hS29) rfl rfl rfl rfl (fun ⟨hb35,_⟩=>?_) ?_
   ·rw [hb35];intro hK;have hy37:=hr30;rw [zbu (by first | rfl | (rw [hb35];first | done | rfl) | simp [hb35])] at hy37;refine ql (znu hS29.good (hfr14_0_0.mono (le27.trans ler25)) (hfr14_0_1.mono (le27.trans ler25)) (hfr14_0_2.mono (le27.trans ler25)) (hfr14_0_3.mono (le27.trans ler25)) hfr25_0_0 hfr25_0_1 hfr25_0_2 hfr25_0_3 hy37) ?_;rintro v38 w38 ⟨Fr30,rfl,hT38⟩;have hS38:=hS29.lent hT38;exact hK _ (by rw [hQ36];exact hS38)
   intro w39 hS39;rw [hQ36] at hS39;refine Nxt.now ?_;refine W_gs (v:=.b (!r30)) rfl rfl rfl rfl (fun ⟨hb40,_⟩=>?_) ?_
   ·rw [hb40];exact (qc ·)
   refine zgl rfl rfl rfl rfl rfl rfl (fun hc=>by rw [hc];rfl) ?_;refine qc ?_;refine W_gs (v:=pl g15 (0+0)) rfl rfl rfl rfl (fun ⟨hb41,_⟩=>?_) ?_
   ·rw [hb41];exact (qf Ty.zjp ·)
   refine W_gs (v:=.i .i64 r14.1.seq) rfl rfl rfl rfl (fun ⟨hb42,_⟩=>?_) ?_
   ·rw [hb42];exact (qb 1 Ty.zdd hS39 ·)
   refine W_gs (v:=pl g26 (0+0)) rfl rfl rfl rfl (fun ⟨hb43,_⟩=>?_) ?_
   ·rw [hb43];exact (qf Ty.zjp ·)
   refine W_gs (v:=.i .i64 r25.1.seq) rfl rfl rfl rfl (fun ⟨hb44,_⟩=>?_) ?_
   ·rw [hb44];exact (qb 0 Ty.zdd hS39 ·)
   refine W_gs (v:=.b (decide (r14.1.seq≠r25.1.seq))) rfl rfl rfl rfl (fun ⟨hb45,_⟩=>?_) ?_
   ·rw [hb45];exact (qr (zah rfl rfl zeb) ·)
   refine zgl rfl rfl rfl rfl rfl rfl (fun hc=>by rw [hc];rfl) ?_;refine qn ?_;refine qy H (fun hc46 H=>?_) (fun hc46 H=>?_)
   ·refine qsm ?_;obtain rfl:=oi H;refine qt ?_;exact ⟨Fr25,rfl,hS39.pick [] (by decide)⟩
   ·refine qk ?_;refine qsm ?_;refine zai (fun E wq=>∃ l48:List Found,zav.k1 r14 l48=some r ∧ ∃ (F47:Frz) (u49:Val),E=[(9,u13),(10,pl g15 0),(13,u49)]∧Fr25.le F47∧St [] w F F47 [.box g15 [.i .i64 r14.1.seq,ur14_0_0,ur14_0_1,ur14_0_2,ur14_0_3],.row Found.t u49 l48] wq) ?_ ?_
    ·refine qsm ?_;refine zar ?_;refine zbm (fun (s:(List Found) × Int) E wq=>∃ (F93:Frz) (u95:Val),E=[(1,.i .i64 x1),(7,ur7_0),(9,u13),(10,pl g15 0),(13,u95),(14,.i .i64 s.2)]∧Fr25.le F93∧St [] w F F93 [.box g15 [.i .i64 r14.1.seq,ur14_0_0,ur14_0_1,ur14_0_2,ur14_0_3],.row Found.t u95 s.1] wq) H ?_ ?_
     ·have hS116:=hS39.nilRow Found.t;exact ⟨_,⟨Fr25,(.sl none 0 (.k 0)),rfl,(Frz.le.refl _),hS116.pick [2,0] (by decide)⟩,⟨rfl,rfl,rfl,rfl,rfl,rfl,trivial⟩⟩
     ·rintro rec98 ⟨l94,i97⟩ E w93 hI H
      try dsimp only at hI
      obtain ⟨F93,u95,rfl,le93,hS93⟩:=hI;dsimp only [zav.l4] at H;refine zay ?_;refine qs ?_;refine q2 ?_;refine qr (zbs Tryz.underlying27 rfl hf17.ln) ?_;refine qr (zah rfl rfl zbp) ?_;refine qn ?_;refine qy H (fun hc99 H=>?_) (fun hc99 H=>?_)
      ·refine qk ?_;refine zay ?_;refine zar ?_;obtain ⟨x100,hx100,x101,hx101,H⟩:=bd2 H;obtain ⟨x102,hx102,H⟩:=zap H;refine qs ?_;refine q3 ?_;refine qr (zgv Tryz.underlying3 Tryz.underlying26 rfl (rfl)) ?_;refine qc ?_;refine qr (zbs Tryz.underlying27 rfl hf17.ln) ?_;refine qr (zgv Tryz.underlying3 Tryz.underlying26 rfl (rfl)) ?_;obtain ⟨hz105,hw105⟩:=rem_some hx100;refine qr (zah rfl rfl (bI_rem hz105 hw105)) ?_;refine qr (zgv Tryz.underlying26 Tryz.underlying3 rfl (rfl)) ?_;refine q2 ?_;refine qr (zbs Tryz.underlying27 rfl hf17.ln) ?_;obtain ⟨hz106,hw106⟩:=rem_some hx101;refine qr (zah rfl rfl (bI_rem hz106 hw106)) ?_;obtain ⟨hp107,hy107⟩:=zac hx102;obtain ⟨cs107,hr107,he107⟩:=(hf17.mono (((ler14.trans le27).trans ler25).trans le93)).el hy107;obtain ⟨ue103_0,rfl,hue103_0⟩:=hr107;replace he107:=qj 7 he107;have hi107:=he107.ixd;refine qi Tryz.underlying27 Ty.zmt hi107 hp107 ?_;refine qr (zfe 0 (Found.cells x102 ue103_0) Ty.agg53 Ty.zmt rfl (he107.mono hS93.agree) (by omega) rfl (Nat.le_of_ble_eq_true rfl)) ?_;refine xm (zft (cs:=[.i .i64 0,.i .i64 0,.sl none 0 (.k 0),.i .i64 0,.i .i64 0,.i .i64 0,.i .i64 0]) Ty.zero53 rfl hS93) ?_;rintro _ w104 ⟨g104,rfl,hS104⟩;refine um (zea (c:=[.i .i64 x102.rec_.kind,.i .i64 x102.rec_.seq,ue103_0,.i .i64 x102.loc.vol,.i .i64 x102.loc.file,.i .i64 x102.loc.off,.i .i64 x102.loc.len]) 0 ([.i .i64 x102.rec_.kind,.i .i64 x102.rec_.seq,ue103_0,.i .i64 x102.loc.vol,.i .i64 x102.loc.file,.i .i64 x102.loc.off,.i .i64 x102.loc.len]) rfl rfl hS104 rfl rfl Ty.zmt (by simp only [List.all_cons,List.all_nil,List.all_append,hue103_0.ln.one];rfl) rfl rfl) ?_;rintro _ w108 hS108;refine qn ?_;refine qs ?_;refine qr (zde 0 (Found.cells x102 ue103_0) Ty.agg53 Ty.zmt (Nat.zero_lt_succ _) rfl hS108 rfl (fun q u h=>zdb (post:=[]) rfl h)) ?_;refine xm (zft (cs:=[.i .i64 0,.i .i64 0,.sl none 0 (.k 0),.i .i64 0,.i .i64 0,.i .i64 0,.i .i64 0]) Ty.zero53 rfl hS108) ?_;rintro _ w109 ⟨g109,rfl,hS109⟩;refine um (zea (c:=[.i .i64 x102.rec_.kind,.i .i64 x102.rec_.seq,ue103_0,.i .i64 x102.loc.vol,.i .i64 x102.loc.file,.i .i64 x102.loc.off,.i .i64 x102.loc.len]) 0 ([.i .i64 x102.rec_.kind,.i .i64 x102.rec_.seq,ue103_0,.i .i64 x102.loc.vol,.i .i64 x102.loc.file,.i .i64 x102.loc.off,.i .i64 x102.loc.len]) rfl rfl hS109 rfl rfl Ty.zmt (by simp only [List.all_cons,List.all_nil,List.all_append,hue103_0.ln.one];rfl) rfl rfl) ?_
       rintro _ w110 hS110;refine qn ?_;refine qs ?_;refine qf Ty.zsa ?_;refine qf Ty.zhp ?_;refine um (zea (c:=[.i .i64 1]) 0 ([.i .i64 x102.rec_.kind,.i .i64 x102.rec_.seq,ue103_0,.i .i64 1,.i .i64 x102.loc.file,.i .i64 x102.loc.off,.i .i64 x102.loc.len]) rfl rfl hS110 rfl rfl Ty.size3 rfl rfl rfl) ?_;rintro _ w111 hS111;refine qn ?_;obtain ⟨l113,hl113,H⟩:=zap H;refine qd ?_;refine qc ?_;refine qr (zde 0 (Found.cells (Found.mk x102.rec_ (Loc.mk 1 x102.loc.file x102.loc.off x102.loc.len)) ue103_0) Ty.agg53 Ty.zmt (Nat.zero_lt_succ _) rfl hS111 rfl (fun q u h=>zdb (post:=[]) rfl h)) ?_;refine qr (zde 1 (Found.cells x102 ue103_0) Ty.agg53 Ty.zmt (Nat.zero_lt_succ _) rfl hS111 rfl (fun q u h=>zdb (post:=[]) rfl h)) ?_;refine xm (E_bs (t:=Found.t) (vs:=[.agg (Found.cells (Found.mk x102.rec_ (Loc.mk 1 x102.loc.file x102.loc.off x102.loc.len)) ue103_0),.agg (Found.cells x102 ue103_0)]) (xs:=[(Found.mk x102.rec_ (Loc.mk 1 x102.loc.file x102.loc.off x102.loc.len)),x102]) Tryz.underlying27 Ty.zwq rfl ⟨⟨ue103_0,rfl,hue103_0⟩,⟨⟨ue103_0,rfl,hue103_0⟩,trivial⟩⟩ rfl rfl hS111) ?_;rintro u112 w112 hS112;refine xm (zgg (t:=Found.t) 4 Tryz.underlying27 Ty.zwq Ty.zk27 rfl rfl hS112 rfl (hS112.rowSrc (k:=0) rfl) hl113) ?_;rintro v114 w114 hS114;refine qc ?_;refine zbk ?_;refine zbf ?_;refine zcl ?_;refine qd ?_;refine q3 ?_;refine zbk ?_;exact zbd (l113,wr (i97+1)) _ H ⟨F93,v114,rfl,le93,hS114.pick [3,4] (by decide)⟩ ⟨rfl,rfl,rfl,rfl,rfl,rfl,trivial⟩
      ·refine zcc _ rfl ?_;exact zbe _ ⟨l94,H,⟨F93,u95,rfl,le93,hS93⟩⟩ ⟨rfl,rfl,rfl,trivial⟩
    ·rintro E w47 ⟨l48,H,F47,u49,rfl,le47,hS47⟩;dsimp only [zav.k1] at H;obtain ⟨r51,hr51,H⟩:=zap H;refine qs ?_;refine q2 ?_;obtain ⟨F53,le53,hf53,hS53⟩:=hS47.freezeR 1 [0] rfl (by decide) (by decide);refine lm (zjh hS53.good (hf16.mono (((((le17.trans ler14).trans le27).trans ler25).trans le47).trans le53)) hf53 hr51) ?_;rintro v54 w54 ⟨Fr51,ur51_0_0,ur51_0_1,ur51_0_2,ur51_0_3,rfl,hfr51_0_0,hfr51_0_1,hfr51_0_2,hfr51_0_3,hT54⟩;have hS54:=hS53.call hT54;have ler51:=hT54.ext;refine q3 ?_;refine xm (zft (cs:=[.i .i64 0,.sl none 0 (.k 0),.sl none 0 (.k 0),.sl none 0 (.k 0),.sl none 0 (.k 0)]) Ty.zuq rfl hS54) ?_;rintro _ w52 ⟨g52,rfl,hS52⟩;refine um (zea (c:=[.i .i64 r51.1.seq,ur51_0_0,ur51_0_1,ur51_0_2,ur51_0_3]) 0 ([.i .i64 r51.1.seq,ur51_0_0,ur51_0_1,ur51_0_2,ur51_0_3]) rfl rfl hS52 rfl rfl Ty.zhx (by simp only [List.all_cons,List.all_nil,List.all_append,hfr51_0_0.ln.one,hfr51_0_1.ln.one,hfr51_0_2.ln.one,hfr51_0_3.ln.one];rfl) rfl rfl) ?_;rintro _ w55 hS55;refine qm ?_;refine zay ?_;refine zay ?_;obtain ⟨x56,hx56,H⟩:=zap H;refine zsh (fun E wq=>E=[(10,pl g15 0),(17,pl g52 0),(137,.b (((decide (r51.2≠0)||decide ((r51.1.snaps.length:Int)≠1))||decide ((x56.locs.length:Int)≠2))||decide ((r51.1.chunks.length:Int)≠(r14.1.chunks.length:Int))))] ∧ ∃ F58:Frz,Fr51.le F58∧St [] w F F58 [.box g52 [.i .i64 r51.1.seq,ur51_0_0,ur51_0_1,ur51_0_2,ur51_0_3],.box g15 [.i .i64 r14.1.seq,ur14_0_0,ur14_0_1,ur14_0_2,ur14_0_3]] wq) ?_ ?_
     ·
      rcases Bool.eq_false_or_eq_true (decide (r51.2≠0)) with hb59 | hb59
      ·refine qd ?_;refine qc ?_;refine qr (zah rfl rfl zeb) ?_;refine qc ?_;refine qvb 114 hb59 ?_;refine qz2 ?_;refine qz2 ?_;refine q2 ?_;refine qz2 ?_;refine qz2 ?_;refine qz2 ?_;refine qz ?_;refine q2 ?_;refine qz2 ?_;refine qz2 ?_;refine qz2 ?_;refine qz ?_;refine qc ?_;refine zbk ?_;exact zbe _ ⟨rfl,Fr51,(Frz.le.refl _),hS55⟩ ⟨rfl,rfl,(zdw rfl (by first | rfl | (rw [hb59];first | done | rfl) | simp [hb59])),trivial⟩
      ·
       rcases Bool.eq_false_or_eq_true (decide ((r51.1.snaps.length:Int)≠1)) with hb60 | hb60
       ·refine qd ?_;refine qc ?_;refine qr (zah rfl rfl zeb) ?_;refine qc ?_;refine qvb 114 hb59 ?_;refine qf Ty.zdi ?_;refine qb 0 Ty.zhr hS55 ?_;refine qr (zbs Tryz.underlying34 rfl hfr51_0_0.ln) ?_;refine qr (zah rfl rfl zeb) ?_;refine q2 ?_;refine qvb 120 hb60 ?_;refine qz2 ?_;refine qz2 ?_;refine qz2 ?_;refine qz ?_;refine q2 ?_;refine qz2 ?_;refine qz2 ?_;refine qz2 ?_;refine qz ?_;refine qc ?_;refine zbk ?_;exact zbe _ ⟨rfl,Fr51,(Frz.le.refl _),hS55⟩ ⟨rfl,rfl,(zdw rfl (by first | rfl | (rw [hb60,hb59];first | done | rfl) | simp [hb59,hb60])),trivial⟩
       ·
        rcases Bool.eq_false_or_eq_true (decide ((x56.locs.length:Int)≠2)) with hb61 | hb61
        ·refine qd ?_;refine qc ?_;refine qr (zah rfl rfl zeb) ?_;refine qc ?_;refine qvb 114 hb59 ?_;refine qf Ty.zdi ?_;refine qb 0 Ty.zhr hS55 ?_;refine qr (zbs Tryz.underlying34 rfl hfr51_0_0.ln) ?_;refine qr (zah rfl rfl zeb) ?_;refine q2 ?_;refine qvb 120 hb60 ?_;refine qf Ty.zdi ?_;refine qb 0 Ty.zhr hS55 ?_;have hy62:=hx56;rw [zbu (by first | rfl | (rw [hb60,hb59];first | done | rfl) | simp [hb59,hb60,hb61])] at hy62;obtain ⟨hp63,hy63⟩:=zac hy62;obtain ⟨cs63,hr63,he63⟩:=hfr51_0_0.el hy63;obtain ⟨ue57_0,ue57_1,rfl,hue57_0,hue57_1⟩:=hr63;replace he63:=qj 4 he63;have hi63:=he63.ixd;refine qi Tryz.underlying34 Ty.zdl hi63 hp63 ?_;refine qr (zfm 3 Ty.zid rfl hi63) ?_;refine qr (zfs 3 Ty.zhh rfl (he63.mono hS55.agree) (by omega) rfl) ?_;refine qr (zbs Tryz.underlying44 rfl hue57_1.ln) ?_;refine qr (zah rfl rfl zeb) ?_;refine q2 ?_;refine qvb 129 hb61 ?_;refine qz2 ?_;refine qz2 ?_;refine qz2 ?_;refine qz ?_;refine qc ?_;refine zbk ?_;exact zbe _ ⟨rfl,Fr51,(Frz.le.refl _),hS55⟩ ⟨rfl,rfl,(zdw rfl (by first | rfl | (rw [hb60,hb61,hb59];first | done | rfl) | simp [hb59,hb60,hb61])),trivial⟩
        ·refine qd ?_;refine qc ?_;refine qr (zah rfl rfl zeb) ?_;refine qc ?_;refine qvb 114 hb59 ?_;refine qf Ty.zdi ?_;refine qb 0 Ty.zhr hS55 ?_;refine qr (zbs Tryz.underlying34 rfl hfr51_0_0.ln) ?_;refine qr (zah rfl rfl zeb) ?_;refine q2 ?_;refine qvb 120 hb60 ?_;refine qf Ty.zdi ?_;refine qb 0 Ty.zhr hS55 ?_;have hy64:=hx56;rw [zbu (by first | rfl | (rw [hb60,hb59];first | done | rfl) | simp [hb59,hb60,hb61])] at hy64;obtain ⟨hp65,hy65⟩:=zac hy64;obtain ⟨cs65,hr65,he65⟩:=hfr51_0_0.el hy65;obtain ⟨ue57_0,ue57_1,rfl,hue57_0,hue57_1⟩:=hr65;replace he65:=qj 4 he65;have hi65:=he65.ixd;refine qi Tryz.underlying34 Ty.zdl hi65 hp65 ?_;refine qr (zfm 3 Ty.zid rfl hi65) ?_;refine qr (zfs 3 Ty.zhh rfl (he65.mono hS55.agree) (by omega) rfl) ?_;refine qr (zbs Tryz.underlying44 rfl hue57_1.ln) ?_;refine qr (zah rfl rfl zeb) ?_;refine q2 ?_;refine qvb 129 hb61 ?_;refine qf Ty.zcq ?_;refine qb 0 Ty.zgd hS55 ?_;refine qr (zbs Tryz.underlying35 rfl hfr51_0_1.ln) ?_;refine qf Ty.zcq ?_;refine qb 1 Ty.zgd hS55 ?_;refine qr (zbs Tryz.underlying35 rfl hfr14_0_1.ln) ?_;refine qr (zah rfl rfl zeb) ?_;refine qc ?_;refine zbk ?_;exact zbe _ ⟨rfl,Fr51,(Frz.le.refl _),hS55⟩ ⟨rfl,rfl,(zdw rfl (by first | rfl | (rw [hb60,hb61,hb59];first | done | rfl) | simp [hb59,hb60,hb61])),trivial⟩
     rintro E w58 ⟨rfl,F58,le58,hS58⟩;refine zcl ?_;refine qy H (fun hc66 H=>?_) (fun hc66 H=>?_)
     ·refine qsm ?_;obtain rfl:=oi H;refine qt ?_;exact ⟨F58,rfl,hS58.pick [] (by decide)⟩
     ·refine qk ?_;refine zai (fun E wq=>zav.k2=some r ∧ ∃ (F67:Frz),E=[]∧F58.le F67∧St [] w F F67 [] wq) ?_ ?_
      ·refine qsm ?_;refine zar ?_;refine zbm (fun (s:Int) E wq=>∃ (F70:Frz),E=[(10,pl g15 0),(17,pl g52 0),(18,.i .i64 s)]∧F58.le F70∧St [] w F F70 [.box g52 [.i .i64 r51.1.seq,ur51_0_0,ur51_0_1,ur51_0_2,ur51_0_3],.box g15 [.i .i64 r14.1.seq,ur14_0_0,ur14_0_1,ur14_0_2,ur14_0_3]] wq) H ?_ ?_
       ·exact ⟨_,⟨F58,rfl,(Frz.le.refl _),hS58⟩,⟨rfl,rfl,rfl,trivial⟩⟩
       ·rintro rec72 i71 E w70 hI H
        try dsimp only at hI
        obtain ⟨F70,rfl,le70,hS70⟩:=hI;dsimp only [zav.l3] at H;refine zay ?_;refine qsc ?_;refine qf Ty.zcq ?_;refine qb 0 Ty.zgd hS70 ?_;refine qr (zbs Tryz.underlying35 rfl hfr51_0_1.ln) ?_;refine qr (zah rfl rfl zbp) ?_;refine qn ?_;refine qy H (fun hc73 H=>?_) (fun hc73 H=>?_)
        ·refine qk ?_;refine zay ?_;refine zar ?_;refine zay ?_;obtain ⟨x74,hx74,x76,hx76,H⟩:=bd2 H;obtain ⟨x78,hx78,x80,hx80,H⟩:=bd2 H;refine zsh (fun E wq=>E=[(10,pl g15 0),(17,pl g52 0),(18,.i .i64 i71),(175,.b ((!decide (x74.id=x76.id))||decide ((x78.locs.length:Int)≠wr (2*(x80.locs.length:Int)))))] ∧ ∃ F82:Frz,F70.le F82∧St [] w F F82 [.box g52 [.i .i64 r51.1.seq,ur51_0_0,ur51_0_1,ur51_0_2,ur51_0_3],.box g15 [.i .i64 r14.1.seq,ur14_0_0,ur14_0_1,ur14_0_2,ur14_0_3]] wq) ?_ ?_
         ·
          rcases Bool.eq_false_or_eq_true (!decide (x74.id=x76.id)) with hb83 | hb83
          ·refine zaz (G:=(nowF _)) [0,1,2,3,4,5,6,7,8,9,10,11,12,13,14,15,16,17,18,19,20,21,22,23,24,25,26,27,28,29,30] rfl Ty.mixed (by kernel_rfl) (zdc _) ?_;refine qf Ty.zcq ?_;refine qb 0 Ty.zgd hS70 ?_;refine qc ?_;obtain ⟨hp84,hy84⟩:=zac hx74;obtain ⟨cs84,hr84,he84⟩:=(hfr51_0_1.mono (le58.trans le70)).el hy84;obtain ⟨ue75_0,ue75_1,rfl,hle75_0,hue75_0,hue75_1⟩:=hr84;replace he84:=qj 35 he84;have hi84:=he84.ixd;refine qi Tryz.underlying35 Ty.zep hi84 hp84 ?_;refine qr (zfm 0 Ty.zjm rfl hi84) ?_;refine qr (zfe 0 (zao x74.id) Ty.zhs Ty.zcy rfl (he84.mono hS70.agree) (by omega) rfl (Nat.le_of_ble_eq_true rfl)) ?_;refine qf Ty.zcq ?_;refine qb 1 Ty.zgd hS70 ?_;refine qc ?_;obtain ⟨hp85,hy85⟩:=zac hx76;obtain ⟨cs85,hr85,he85⟩:=(hfr14_0_1.mono ((((((le27.trans ler25).trans le47).trans le53).trans ler51).trans le58).trans le70)).el hy85;obtain ⟨ue77_0,ue77_1,rfl,hle77_0,hue77_0,hue77_1⟩:=hr85;replace he85:=qj 35 he85;have hi85:=he85.ixd;refine qi Tryz.underlying35 Ty.zep hi85 hp85 ?_;refine qr (zfm 0 Ty.zjm rfl hi85) ?_;refine qr (zfe 0 (zao x76.id) Ty.zhs Ty.zcy rfl (he85.mono hS70.agree) (by omega) rfl (Nat.le_of_ble_eq_true rfl)) ?_;refine qr (zah rfl rfl (bA_neq Ty.eqt58 rfl rfl (zwc hle75_0 hle77_0))) ?_;refine qc ?_;refine qvb 158 hb83 ?_;refine qz2 ?_;refine qz2 ?_;refine qz2 ?_;refine qz2 ?_;refine qz2 ?_;refine qz2 ?_;refine qz2 ?_;refine qz2 ?_;refine qc ?_;refine zbk ?_;exact zbe _ ⟨rfl,F70,(Frz.le.refl _),hS70⟩ ⟨rfl,rfl,rfl,(zdw rfl (by first | rfl | (rw [hb83];first | done | rfl) | simp [hb83])),trivial⟩
          ·refine zaz (G:=(nowF _)) [0,1,2,3,4,5,6,7,8,9,10,11,12,13,14,15,16,17,18,19,20,21,22,23,24,25,26,27,28,29,30] rfl Ty.mixed (by kernel_rfl) (zdc _) ?_;refine qf Ty.zcq ?_;refine qb 0 Ty.zgd hS70 ?_;refine qc ?_;obtain ⟨hp86,hy86⟩:=zac hx74;obtain ⟨cs86,hr86,he86⟩:=(hfr51_0_1.mono (le58.trans le70)).el hy86;obtain ⟨ue75_0,ue75_1,rfl,hle75_0,hue75_0,hue75_1⟩:=hr86;replace he86:=qj 35 he86;have hi86:=he86.ixd;refine qi Tryz.underlying35 Ty.zep hi86 hp86 ?_;refine qr (zfm 0 Ty.zjm rfl hi86) ?_;refine qr (zfe 0 (zao x74.id) Ty.zhs Ty.zcy rfl (he86.mono hS70.agree) (by omega) rfl (Nat.le_of_ble_eq_true rfl)) ?_;refine qf Ty.zcq ?_;refine qb 1 Ty.zgd hS70 ?_;refine qc ?_;obtain ⟨hp87,hy87⟩:=zac hx76;obtain ⟨cs87,hr87,he87⟩:=(hfr14_0_1.mono ((((((le27.trans ler25).trans le47).trans le53).trans ler51).trans le58).trans le70)).el hy87;obtain ⟨ue77_0,ue77_1,rfl,hle77_0,hue77_0,hue77_1⟩:=hr87;replace he87:=qj 35 he87;have hi87:=he87.ixd;refine qi Tryz.underlying35 Ty.zep hi87 hp87 ?_;refine qr (zfm 0 Ty.zjm rfl hi87) ?_;refine qr (zfe 0 (zao x76.id) Ty.zhs Ty.zcy rfl (he87.mono hS70.agree) (by omega) rfl (Nat.le_of_ble_eq_true rfl)) ?_;refine qr (zah rfl rfl (bA_neq Ty.eqt58 rfl rfl (zwc hle75_0 hle77_0))) ?_;refine qc ?_;refine qvb 158 hb83 ?_;refine qf Ty.zcq ?_;refine qb 0 Ty.zgd hS70 ?_;refine qc ?_;have hy88:=hx78;rw [zbu (by first | rfl | (rw [hb83];first | done | rfl) | simp [hb83])] at hy88;obtain ⟨hp89,hy89⟩:=zac hy88;obtain ⟨cs89,hr89,he89⟩:=(hfr51_0_1.mono (le58.trans le70)).el hy89;obtain ⟨ue79_0,ue79_1,rfl,hle79_0,hue79_0,hue79_1⟩:=hr89;replace he89:=qj 35 he89;have hi89:=he89.ixd;refine qi Tryz.underlying35 Ty.zep hi89 hp89 ?_;refine qr (zfm 34 Ty.zgs rfl hi89) ?_;refine qr (zfs 34 Ty.zhh rfl (he89.mono hS70.agree) (by omega) rfl) ?_;refine qr (zbs Tryz.underlying44 rfl hue79_1.ln) ?_;refine qf Ty.zcq ?_;refine qb 1 Ty.zgd hS70 ?_;refine qc ?_;have hy90:=hx80;rw [zbu (by first | rfl | (rw [hb83];first | done | rfl) | simp [hb83])] at hy90;obtain ⟨hp91,hy91⟩:=zac hy90;obtain ⟨cs91,hr91,he91⟩:=(hfr14_0_1.mono ((((((le27.trans ler25).trans le47).trans le53).trans ler51).trans le58).trans le70)).el hy91;obtain ⟨ue81_0,ue81_1,rfl,hle81_0,hue81_0,hue81_1⟩:=hr91;replace he91:=qj 35 he91
           have hi91:=he91.ixd;refine qi Tryz.underlying35 Ty.zep hi91 hp91 ?_;refine qr (zfm 34 Ty.zgs rfl hi91) ?_;refine qr (zfs 34 Ty.zhh rfl (he91.mono hS70.agree) (by omega) rfl) ?_;refine qr (zbs Tryz.underlying44 rfl hue81_1.ln) ?_;refine qc ?_;refine qr (zah rfl rfl zeb) ?_;refine qc ?_;refine zbk ?_;exact zbe _ ⟨rfl,F70,(Frz.le.refl _),hS70⟩ ⟨rfl,rfl,rfl,(zdw rfl (by first | rfl | (rw [hb83];first | done | rfl) | simp [hb83])),trivial⟩
         rintro E w82 ⟨rfl,F82,le82,hS82⟩;refine zcl ?_;refine qy H (fun hc92 H=>?_) (fun hc92 H=>?_)
         ·refine qsm ?_;obtain rfl:=oi H;refine qt ?_;exact ⟨F82,rfl,hS82.pick [] (by decide)⟩
         ·refine zec ?_;refine zbf ?_;refine zcl ?_;refine qd ?_;refine q3 ?_;refine zbk ?_;exact zbd (wr (i71+1)) _ H ⟨F82,rfl,(le70.trans le82),hS82⟩ ⟨rfl,rfl,rfl,trivial⟩
        ·refine zcc _ rfl ?_;exact zbe _ ⟨H,⟨F70,rfl,le70,hS70.pick [] (by decide)⟩⟩ trivial
      ·rintro E w67 ⟨H,F67,rfl,le67,hS67⟩;dsimp only [zav.k2] at H;obtain ⟨r68,hr68,H⟩:=zap H;refine qs ?_;refine lm (zjy hS67.good hr68) ?_;rintro v69 w69 ⟨Fr68,rfl,hT69⟩;have hS69:=hS67.lent hT69;refine qm ?_;obtain rfl:=oi H;refine qt ?_;exact ⟨F67,rfl,hS69⟩
end
end Go.Wk.Lf
end
section
namespace Go.Wk.Lf
open Go.V Go.Sort Go.Proofs
def rotP (x:UInt32) (k:Nat):UInt32:=UInt32.ofNat (x.toNat / 2 ^ k) ||| UInt32.ofNat (x.toNat*2 ^ (32 - k))
theorem rot_b2 (x:UInt32):zbh x 2=some (rotP x 2):=rfl
theorem rot_b6 (x:UInt32):zbh x 6=some (rotP x 6):=rfl
theorem rot_b7 (x:UInt32):zbh x 7=some (rotP x 7):=rfl
theorem rot_b11 (x:UInt32):zbh x 11=some (rotP x 11):=rfl
theorem rot_b13 (x:UInt32):zbh x 13=some (rotP x 13):=rfl
theorem rot_b17 (x:UInt32):zbh x 17=some (rotP x 17):=rfl
theorem rot_b18 (x:UInt32):zbh x 18=some (rotP x 18):=rfl
theorem rot_b19 (x:UInt32):zbh x 19=some (rotP x 19):=rfl
theorem rot_b22 (x:UInt32):zbh x 22=some (rotP x 22):=rfl
theorem rot_b25 (x:UInt32):zbh x 25=some (rotP x 25):=rfl
theorem zwr (x:UInt32) (i:Int) (k:Nat) (h:zba x i=some (UInt32.ofNat (x.toNat*2 ^ (32 - k)) ||| UInt32.ofNat (x.toNat / 2 ^ k))):zba x i=some (rotP x k):=by
 rw [h,UInt32.or_comm];rfl
theorem rot_a2 (x:UInt32):zba x (-2)=some (rotP x 2):=zwr x _ 2 rfl
theorem rot_a6 (x:UInt32):zba x (-6)=some (rotP x 6):=zwr x _ 6 rfl
theorem rot_a7 (x:UInt32):zba x (-7)=some (rotP x 7):=zwr x _ 7 rfl
theorem rot_a11 (x:UInt32):zba x (-11)=some (rotP x 11):=zwr x _ 11 rfl
theorem rot_a13 (x:UInt32):zba x (-13)=some (rotP x 13):=zwr x _ 13 rfl
theorem rot_a17 (x:UInt32):zba x (-17)=some (rotP x 17):=zwr x _ 17 rfl
theorem rot_a18 (x:UInt32):zba x (-18)=some (rotP x 18):=zwr x _ 18 rfl
theorem rot_a19 (x:UInt32):zba x (-19)=some (rotP x 19):=zwr x _ 19 rfl
theorem rot_a22 (x:UInt32):zba x (-22)=some (rotP x 22):=zwr x _ 22 rfl
theorem rot_a25 (x:UInt32):zba x (-25)=some (rotP x 25):=zwr x _ 25 rfl
theorem ix_gd {α:Type} [Inhabited α] {l:List α} {n:Nat} (h:n < l.length):ix l (n:Int)=some (l.getD n default):=by
 rw [zds h];simp [h]
def rndP (k w s:List UInt32) (i:Nat):List UInt32 :=
 let a:=s.getD 0 default;let e:=s.getD 4 default
 let t:=((((s.getD 7 default+((rotP e 6 ^^^ rotP e 11) ^^^ rotP e 25))+((e &&& s.getD 5 default) ^^^ ((~~~e) &&& s.getD 6 default)))+k.getD i default)+w.getD i default)
 [t+(((rotP a 2 ^^^ rotP a 13) ^^^ rotP a 22)+(((a &&& s.getD 1 default) ^^^ (a &&& s.getD 2 default)) ^^^ (s.getD 1 default &&& s.getD 2 default))),a,s.getD 1 default,s.getD 2 default,s.getD 3 default+t,e,s.getD 5 default,s.getD 6 default]
def rndsP (k w s:List UInt32):List UInt32:=(List.range 64).foldl (rndP k w) s
def addP (s0 s:List UInt32):List UInt32:=(List.range 8).foldl (fun t i=>t.set i (t.getD i default+s.getD i default)) s0
def wordP (b:List UInt8) (i:Nat):UInt32:=UInt32.ofNat (beN ((b.take (4*i+4)).drop (4*i)))
def schP (b:List UInt8) (w:List UInt32) (i:Nat):List UInt32 :=
 if i < 16 then w.set i (wordP b i)
 else w.set i (((w.getD (i - 16) default+((rotP (w.getD (i - 15) default) 7 ^^^ rotP (w.getD (i - 15) default) 18) ^^^ (w.getD (i - 15) default >>> UInt32.ofNat 3)))+w.getD (i - 7) default)+((rotP (w.getD (i - 2) default) 17 ^^^ rotP (w.getD (i - 2) default) 19) ^^^ (w.getD (i - 2) default >>> UInt32.ofNat 10)))
def schedP (b:List UInt8):List UInt32:=(List.range 64).foldl (schP b) (List.replicate 64 0)
def blkP (k:List UInt32) (b:List UInt8) (s:List UInt32):List UInt32:=addP s (rndsP k (schedP b) s)
theorem lit (l:List UInt32) (n:Nat) (h:n < l.length) (i:Int) (hi:i=(n:Int)):ix l i=some (l.getD n default):=by subst hi;exact ix_gd h
theorem a_l9 (k:List UInt32) (hk:k.length=64) (l32:List UInt8) (s35:List UInt32) (rec37) (w:List UInt32) (hw:w.length=64) (s:List UInt32) (hs:s.length=8) :
  loop (zbl.l9 k l32 s35 rec37 w) (0,s)=zbl.k7 l32 s35 rec37 (rndsP k w s):=by
 have:=zgr (F:=zbl.l9 k l32 s35 rec37 w) (x0:=(0,s)) (fun i s=>((i:Int),s)) (List.range 64) (rndP k w) (zbl.k7 l32 s35 rec37) (fun _ s=>s.length=8) (i0:=0) (s0:=s) rfl (Nat.zero_le _) hs (by decide) ?_ ?_
 ·rw [this];rfl
 ·intro rec i s hi hs;rw [List.length_range] at hi;refine ⟨rfl,?_⟩;simp only [zbl.l9];rw [if_t (decide_eq_true (by omega))];simp only [lit s 4 (by omega) 4 rfl,lit s 0 (by omega) 0 rfl,lit s 1 (by omega) 1 rfl,lit s 2 (by omega) 2 rfl,lit s 3 (by omega) 3 rfl,lit s 5 (by omega) 5 rfl,lit s 6 (by omega) 6 rfl,lit s 7 (by omega) 7 rfl,zaq,rot_a2,rot_a6,rot_a11,rot_a13,rot_a22,rot_a25,lit k i (by omega) i rfl,lit w i (by omega) i rfl,zbw (show i < 4611686018427387904 by omega),List.getElem_range];rfl
 ·intro rec s hs;simp only [zbl.l9];rw [if_f (by decide)]
theorem b_l9 (k:List UInt32) (hk:k.length=64) (i32:Int) (s33:List UInt32) (rec35) (w:List UInt32) (hw:w.length=64) (s:List UInt32) (hs:s.length=8) :
  loop (zab.l9 k i32 s33 rec35 w) (0,s)=zab.k7 i32 s33 rec35 (rndsP k w s):=by
 have:=zgr (F:=zab.l9 k i32 s33 rec35 w) (x0:=(0,s)) (fun i s=>((i:Int),s)) (List.range 64) (rndP k w) (zab.k7 i32 s33 rec35) (fun _ s=>s.length=8) (i0:=0) (s0:=s) rfl (Nat.zero_le _) hs (by decide) ?_ ?_
 ·rw [this];rfl
 ·intro rec i s hi hs;rw [List.length_range] at hi;refine ⟨rfl,?_⟩;simp only [zab.l9];rw [if_t (decide_eq_true (by omega))];simp only [lit s 4 (by omega) 4 rfl,lit s 0 (by omega) 0 rfl,lit s 1 (by omega) 1 rfl,lit s 2 (by omega) 2 rfl,lit s 3 (by omega) 3 rfl,lit s 5 (by omega) 5 rfl,lit s 6 (by omega) 6 rfl,lit s 7 (by omega) 7 rfl,zaq,rot_b2,rot_b6,rot_b11,rot_b13,rot_b22,rot_b25,lit k i (by omega) i rfl,lit w i (by omega) i rfl,zbw (show i < 4611686018427387904 by omega),List.getElem_range];rfl
 ·intro rec s hs;simp only [zab.l9];rw [if_f (by decide)]
theorem rnds_len (k w s:List UInt32) (hs:s.length=8):(rndsP k w s).length=8:=by
 have h:∀ (l:List Nat) s,s.length=8→(l.foldl (rndP k w) s).length=8:=fun l=>by
  induction l with
  | nil=>intro s h;exact h
  | cons i l ih=>intro s _;exact ih _ rfl
 unfold rndsP;exact h _ s hs
theorem zul {α:Type} {f:List α→Nat→List α} (hf:∀ s i,(f s i).length=s.length):∀ (l:List Nat) (s:List α),(l.foldl f s).length=s.length
 | [],s=>rfl
 | i::l,s=>by rw [List.foldl_cons,zul hf l,hf]
theorem add_len (s0 s:List UInt32):(addP s0 s).length=s0.length:=zul (fun t i=>by simp) _ _
theorem sch_len (b:List UInt8) (w:List UInt32) (i:Nat):(schP b w i).length=w.length:=by unfold schP;split <;> simp
theorem sched_len (b:List UInt8):(schedP b).length=64:=by unfold schedP;rw [zul (sch_len b)];simp
theorem a_l8 (l32:List UInt8) (rec37) (s t:List UInt32) (hs:s.length=8) (ht:t.length=8) :
  loop (zbl.l8 l32 rec37 s) (0,t)=zbl.k5 l32 rec37 (addP t s):=by
 have:=zgr (F:=zbl.l8 l32 rec37 s) (x0:=(0,t)) (fun i s=>((i:Int),s)) (List.range 8) (fun t i=>t.set i (t.getD i default+s.getD i default)) (zbl.k5 l32 rec37) (fun _ s=>s.length=8) (i0:=0) (s0:=t) rfl (Nat.zero_le _) ht (by decide) ?_ ?_
 ·rw [this];rfl
 ·intro rec i t hi ht;rw [List.length_range] at hi;refine ⟨by simp [ht],?_⟩;simp only [zbl.l8];rw [if_t (decide_eq_true (by omega))];simp only [lit s i (by omega) i rfl,lit t i (by omega) i rfl,zaq,zbw (show i < 4611686018427387904 by omega),List.getElem_range,Int.toNat_natCast]
 ·intro rec s hs;simp only [zbl.l8];rw [if_f (by decide)]
theorem b_l8 (i32:Int) (rec35) (s t:List UInt32) (hs:s.length=8) (ht:t.length=8) :
  loop (zab.l8 i32 rec35 s) (0,t)=zab.k5 i32 rec35 (addP t s):=by
 have:=zgr (F:=zab.l8 i32 rec35 s) (x0:=(0,t)) (fun i s=>((i:Int),s)) (List.range 8) (fun t i=>t.set i (t.getD i default+s.getD i default)) (zab.k5 i32 rec35) (fun _ s=>s.length=8) (i0:=0) (s0:=t) rfl (Nat.zero_le _) ht (by decide) ?_ ?_
 ·rw [this];rfl
 ·intro rec i t hi ht;rw [List.length_range] at hi;refine ⟨by simp [ht],?_⟩;simp only [zab.l8];rw [if_t (decide_eq_true (by omega))];simp only [lit s i (by omega) i rfl,lit t i (by omega) i rfl,zaq,zbw (show i < 4611686018427387904 by omega),List.getElem_range,Int.toNat_natCast]
 ·intro rec s hs;simp only [zab.l8];rw [if_f (by decide)]
theorem or_u64_nat (a b:Nat) (ha:a < 4611686018427387904) (hb:b < 4611686018427387904):bits .or .u64 (a:Int) (b:Int)=((a ||| b:Nat):Int):=by
 have hx:a ||| b < 2 ^ 62:=Nat.or_lt_two_pow (by omega) (by omega);have h1:(BitVec.ofInt 64 (a:Int)).toNat=a:=by
  rw [BitVec.ofInt_natCast,BitVec.toNat_ofNat];exact Nat.mod_eq_of_lt (by omega)
 have h2:(BitVec.ofInt 64 (b:Int)).toNat=b:=by
  rw [BitVec.ofInt_natCast,BitVec.toNat_ofNat];exact Nat.mod_eq_of_lt (by omega)
 show IntKind.u64.wrap ((BitVec.ofInt 64 (a:Int) ||| BitVec.ofInt 64 (b:Int)).toNat:Int)=_;rw [BitVec.toNat_or,h1,h2,zud];omega
theorem zxr {x:Int} (h0:0≤x) (h1:x < 18446744073709551616):wu x=x:=by
 show IntKind.u64.wrap x=x;rw [zud];omega
theorem or_stepU (n:Nat) (c:UInt8) (hn:n < 18014398509481984):bits .or .u64 (wu ((n:Int)*2 ^ (8:Int).toNat)) (c.toNat:Int)=((n*256+c.toNat:Nat):Int):=by
 have hc:=c.toNat_lt;have e:wu ((n:Int)*2 ^ (8:Int).toNat)=((n*256:Nat):Int):=by
  rw [show (8:Int).toNat=8 from rfl];rw [zxr (by omega) (by omega)];omega
 rw [e,or_u64_nat _ _ (by omega) (by omega)];have:=Nat.shiftLeft_add_eq_or_of_lt (i:=8) (b:=c.toNat) (by omega) n;rw [Nat.shiftLeft_eq] at this;rw [show n*256=n*2 ^ 8 from rfl,this]
theorem high_eq (l:List UInt8) (hl:l.length≤7):zhi l=some (beN l:Int):=by
 unfold zhi;refine zfd (S:=Int × Int) (σ:=Unit) (fun i _=>(((beN (l.take i):Nat):Int),(i:Int))) l.length (fun _ _=>True) _ (i0:=0) (s0:=()) (by simp [beN]) (Nat.zero_le _) trivial (by omega) ?_ ?_
 ·intro rec i _ hi _ hrec;have hlt:beN (l.take i) < 256 ^ 6:=Nat.lt_of_lt_of_le (beN_lt _) (Nat.pow_le_pow_right (by decide) (by simp;omega));simp only [zhi.l2];rw [if_t (lt_t hi),zds hi,zaq,or_stepU _ _ (by omega),zbw (by omega)];have:=hrec () trivial;rw [zdo hi,zzk] at this;exact this
 ·intro rec _ _;simp only [zhi.l2,zhi.k1];rw [if_f (lt_f (Nat.lt_irrefl _)),List.take_length]
theorem toW_nat (n:Nat):toW (n:Int)=UInt32.ofNat n:=by
 unfold toW;apply UInt32.toNat.inj;simp only [UInt32.toNat_ofNat'];omega
theorem a_l10 (k:List UInt32) (l32:List UInt8) (h32:64≤l32.length) (s35:List UInt32) (rec37) :
  loop (zbl.l10 k l32 s35 rec37) (0,List.replicate 64 0)=zbl.k6 k l32 s35 rec37 (schedP l32):=by
 have:=zgr (F:=zbl.l10 k l32 s35 rec37) (x0:=(0,List.replicate 64 0)) (fun i s=>((i:Int),s)) (List.range 64) (schP l32) (zbl.k6 k l32 s35 rec37) (fun _ s=>s.length=64) (i0:=0) (s0:=List.replicate 64 0) rfl (Nat.zero_le _) (by simp) (by decide) ?_ ?_
 ·rw [this];rfl
 ·intro rec i w hi hw;rw [List.length_range] at hi;refine ⟨by rw [sch_len,hw],?_⟩;simp only [zbl.l10,zbl.k11,List.getElem_range];rw [if_t (decide_eq_true (by omega))]
  by_cases h:i < 16
  ·rw [if_t (decide_eq_true (by omega))];rw [zfy (x:=4*(i:Int)) (by omega) (by omega),zfy (x:=4*(i:Int)+4) (by omega) (by omega)]
   by_cases hc:4*i+4≤l32.length
   ·rw [zim (by omega) (by omega) (by omega),zaq,show (4*(i:Int)+4).toNat=4*i+4 by omega,show (4*(i:Int)).toNat=4*i by omega,high_eq _ (by simp;omega),zaq,lit w i (by omega) i rfl,zaq,toW_nat,zbw (by omega),Int.toNat_natCast];unfold schP;rw [if_pos h];rfl
   ·omega
  ·rw [if_f (decide_eq_false (by omega))];simp only [lit w (i - 15) (by omega) (wr ((i:Int) - 15)) (by rw [zfy (by omega) (by omega)];omega),lit w (i - 2) (by omega) (wr ((i:Int) - 2)) (by rw [zfy (by omega) (by omega)];omega),lit w (i - 16) (by omega) (wr ((i:Int) - 16)) (by rw [zfy (by omega) (by omega)];omega),lit w (i - 7) (by omega) (wr ((i:Int) - 7)) (by rw [zfy (by omega) (by omega)];omega),lit w i (by omega) i rfl,zaq,rot_a7,rot_a18,rot_a17,rot_a19,zbw (show i < 4611686018427387904 by omega),Int.toNat_natCast];unfold schP;rw [if_neg h]
 ·intro rec s hs;simp only [zbl.l10];rw [if_f (by decide)]
end Go.Wk.Lf
end
section
namespace Go.Wk.Lf
open Go.V Go.Sort Go.Proofs
theorem word_step (n:Nat) (c:UInt8) (hn:n < 16777216):(UInt32.ofNat n <<< UInt32.ofNat 8) ||| c.toUInt32=UInt32.ofNat (n*256+c.toNat):=by
 have hc:=c.toNat_lt;apply UInt32.toNat.inj;have h1:(UInt32.ofNat n <<< UInt32.ofNat 8).toNat=n*256:=by
  rw [UInt32.toNat_shiftLeft];simp only [UInt32.toNat_ofNat'];rw [show 8 % 2 ^ 32 % 32=8 from rfl,Nat.shiftLeft_eq];omega
 rw [UInt32.toNat_or,h1,UInt8.toNat_toUInt32];simp only [UInt32.toNat_ofNat'];have:=Nat.shiftLeft_add_eq_or_of_lt (i:=8) (b:=c.toNat) (by omega) n;rw [Nat.shiftLeft_eq] at this;rw [show n*256=n*2 ^ 8 from rfl,← this];omega
theorem b_l14 (p:List UInt8) (blk:Nat) (hb:64*blk+64≤p.length) (hp:p.length≤1073741824) (i:Nat) (hi:i < 16) (rec145) (w:List UInt32) (hw:w.length=64) (h0:w.getD i default=0) :
  loop (zab.l14 p ((64*blk:Nat):Int) (i:Int) rec145) (0,w)=zab.k13 (i:Int) rec145 (w.set i (wordP (p.drop (64*blk)) i)):=by
 have hl:(((p.drop (64*blk)).take (4*i+4)).drop (4*i)).length=4:=by simp;omega
 refine zfd (S:=Int × List UInt32) (σ:=Unit) (fun j _=>((j:Int),w.set i (UInt32.ofNat (beN ((((p.drop (64*blk)).take (4*i+4)).drop (4*i)).take j))))) 4 (fun _ _=>True) _ (i0:=0) (s0:=()) ?_ (Nat.zero_le _) trivial (by omega) ?_ ?_
 ·refine congrArg (Prod.mk (0:Int)) ?_;rw [List.take_zero];apply List.ext_getElem (by simp);intro n h1 h2;rw [List.getElem_set]
  split
  ·rename_i e;subst e;have:=h0;rw [List.getD_eq_getElem?_getD,List.getElem?_eq_getElem h1] at this;simpa [beN] using this
  ·rfl
 ·intro rec j _ hj _ hrec;have hlt:beN ((((p.drop (64*blk)).take (4*i+4)).drop (4*i)).take j) < 256 ^ 3:=Nat.lt_of_lt_of_le (beN_lt _) (Nat.pow_le_pow_right (by decide) (by simp;omega));simp only [zab.l14];rw [if_t (decide_eq_true (by omega)),lit _ i (by simp;omega) i rfl,zaq];rw [zfy (x:=4*(i:Int)) (by omega) (by omega),zfy (x:=((64*blk:Nat):Int)+4*(i:Int)) (by omega) (by omega),zfy (x:=((64*blk:Nat):Int)+4*(i:Int)+(j:Int)) (by omega) (by omega)];rw [ix_at (n:=64*blk+4*i+j) (by omega) (by omega),zaq,zaq,zbw (by omega),Int.toNat_natCast];have e1:(w.set i (UInt32.ofNat (beN ((((p.drop (64*blk)).take (4*i+4)).drop (4*i)).take j)))).getD i default=UInt32.ofNat (beN ((((p.drop (64*blk)).take (4*i+4)).drop (4*i)).take j)):=by
   rw [List.getD_eq_getElem?_getD,List.getElem?_set_self (by omega)];rfl
  rw [e1,word_step _ _ (by omega),List.set_set];have:=hrec () trivial;rw [zdo (by omega),zzk] at this;have e2:(((p.drop (64*blk)).take (4*i+4)).drop (4*i))[j]'(by omega)=p[64*blk+4*i+j]'(by omega):=by
   simp only [List.getElem_drop,List.getElem_take];congr 1;omega
  rw [e2] at this;exact this
 ·intro rec _ _;simp only [zab.l14];rw [if_f (by decide),List.take_of_length_le (by omega)];rfl
theorem b_l10 (k:List UInt32) (p:List UInt8) (blk:Nat) (hb:64*blk+64≤p.length) (hp:p.length≤1073741824) (s33:List UInt32) (rec35) :
  loop (zab.l10 k p ((64*blk:Nat):Int) s33 rec35) (0,List.replicate 64 0)=zab.k6 k ((64*blk:Nat):Int) s33 rec35 (schedP (p.drop (64*blk))):=by
 have:=zgr (F:=zab.l10 k p ((64*blk:Nat):Int) s33 rec35) (x0:=(0,List.replicate 64 0)) (fun i s=>((i:Int),s)) (List.range 64) (schP (p.drop (64*blk))) (zab.k6 k ((64*blk:Nat):Int) s33 rec35) (fun i s=>s.length=64 ∧ ∀ j,i≤j→s.getD j default=0) (i0:=0) (s0:=List.replicate 64 0) rfl (Nat.zero_le _) ⟨by simp,fun j _=>?_⟩ (by decide) ?_ ?_
 ·rw [this];rfl
 ·rw [List.getD_eq_getElem?_getD,List.getElem?_replicate];split <;> rfl
 ·intro rec i w hi hw;rw [List.length_range] at hi;obtain ⟨hw,hz⟩:=hw;simp only [List.getElem_range];refine ⟨⟨by rw [sch_len,hw],fun j hj=>?_⟩,?_⟩
  ·rw [← hz j (by omega),List.getD_eq_getElem?_getD,List.getD_eq_getElem?_getD];unfold schP
   split <;> rw [List.getElem?_set_ne (by omega)]
  simp only [zab.l10];rw [if_t (decide_eq_true (by omega))]
  by_cases h:i < 16
  ·rw [if_t (decide_eq_true (by omega)),b_l14 p blk hb hp i h _ w hw (hz i (Nat.le_refl _))];simp only [zab.k13,zab.k11];rw [zbw (by omega)];unfold schP;rw [if_pos h]
  ·rw [if_f (decide_eq_false (by omega))];simp only [zab.k12,zab.k11];simp only [lit w (i - 15) (by omega) (wr ((i:Int) - 15)) (by rw [zfy (by omega) (by omega)];omega),lit w (i - 2) (by omega) (wr ((i:Int) - 2)) (by rw [zfy (by omega) (by omega)];omega),lit w (i - 16) (by omega) (wr ((i:Int) - 16)) (by rw [zfy (by omega) (by omega)];omega),lit w (i - 7) (by omega) (wr ((i:Int) - 7)) (by rw [zfy (by omega) (by omega)];omega),lit w i (by omega) i rfl,zaq,rot_b7,rot_b18,rot_b17,rot_b19,zbw (show i < 4611686018427387904 by omega),Int.toNat_natCast];unfold schP;rw [if_neg h]
   congr 3
   rw [UInt32.add_assoc,UInt32.add_assoc,UInt32.add_assoc,UInt32.add_assoc]
   congr 1
   rw [← UInt32.add_assoc,← UInt32.add_assoc]
   congr 1
   exact UInt32.add_comm _ _
 ·intro rec s hs;simp only [zab.l10];rw [if_f (by decide)]
def outP (s:List UInt32):List UInt8:=(List.range 32).foldl (fun o i=>o.set i (UInt32.ofNat ((s.getD (i / 4) default).toNat / 2 ^ (24 - 8*(i % 4)))).toUInt8) (List.replicate 32 0)
theorem div4 (i:Nat):(i:Int).tdiv 4=((i / 4:Nat):Int):=rfl
theorem mod4 (i:Nat):(i:Int).tmod 4=((i % 4:Nat):Int):=rfl
theorem shr_at (x:UInt32) (i:Nat) (n:Int) (h:n=24 - 8*((i % 4:Nat):Int)):shrW x n=some (UInt32.ofNat (x.toNat / 2 ^ (24 - 8*(i % 4)))):=by
 subst h;unfold shrW;rw [if_pos (by omega),show (24 - 8*((i % 4:Nat):Int)).toNat=24 - 8*(i % 4) by omega]
theorem a_out (s:List UInt32) (hs:s.length=8):zbl.k1 s=some (outP s):=by
 unfold zbl.k1;have:=zgr (F:=zbl.l3 s) (x0:=(0,List.replicate 32 0)) (fun i s=>((i:Int),s)) (List.range 32) (fun o i=>o.set i (UInt32.ofNat ((s.getD (i / 4) default).toNat / 2 ^ (24 - 8*(i % 4)))).toUInt8) some (fun _ o=>o.length=32) (i0:=0) (s0:=List.replicate 32 0) rfl (Nat.zero_le _) (by simp) (by decide) ?_ ?_
 ·rw [this];rfl
 ·intro rec i o hi ho;rw [List.length_range] at hi;refine ⟨by simp [ho],?_⟩;simp only [zbl.l3,div4,mod4];rw [if_t (decide_eq_true (by omega)),zfy (x:=((i / 4:Nat):Int)) (by omega) (by omega),lit s (i / 4) (by omega) _ rfl,zaq,zfy (x:=8*((i % 4:Nat):Int)) (by omega) (by omega),zfy (x:=24 - 8*((i % 4:Nat):Int)) (by omega) (by omega),shr_at _ i _ rfl,zaq,zds (l:=o) (n:=i) (by omega),zaq,zbw (by omega),Int.toNat_natCast,List.getElem_range]
 ·intro rec s hs;simp only [zbl.l3,zbl.k2];rw [if_f (by decide)]
theorem b_out (s:List UInt32) (hs:s.length=8):zab.k1 s=some (outP s):=by
 unfold zab.k1;have:=zgr (F:=zab.l3 s) (x0:=(0,List.replicate 32 0)) (fun i s=>((i:Int),s)) (List.range 32) (fun o i=>o.set i (UInt32.ofNat ((s.getD (i / 4) default).toNat / 2 ^ (24 - 8*(i % 4)))).toUInt8) some (fun _ o=>o.length=32) (i0:=0) (s0:=List.replicate 32 0) rfl (Nat.zero_le _) (by simp) (by decide) ?_ ?_
 ·rw [this];rfl
 ·intro rec i o hi ho;rw [List.length_range] at hi;refine ⟨by simp [ho],?_⟩;simp only [zab.l3,div4,mod4];rw [if_t (decide_eq_true (by omega)),zfy (x:=((i / 4:Nat):Int)) (by omega) (by omega),lit s (i / 4) (by omega) _ rfl,zaq,zfy (x:=8*((i % 4:Nat):Int)) (by omega) (by omega),zfy (x:=24 - 8*((i % 4:Nat):Int)) (by omega) (by omega),zxr (by omega) (by omega),shr_at _ i _ rfl,zaq,zds (l:=o) (n:=i) (by omega),zaq,zbw (by omega),Int.toNat_natCast,List.getElem_range]
 ·intro rec s hs;simp only [zab.l3,zab.k2];rw [if_f (by decide)]
theorem blk_len (k:List UInt32) (b:List UInt8) (s:List UInt32):(blkP k b s).length=s.length:=add_len _ _
theorem a_l4 (k:List UInt32) (hk:k.length=64) (p:List UInt8) (n:Nat) (hn:p.length=64*n) (hp:p.length≤1073741824) (s0:List UInt32) (h0:s0.length=8) :
  loop (zbl.l4 k) (p,s0)=some (outP ((List.range n).foldl (fun s i=>blkP k (p.drop (64*i)) s) s0)):=by
 have:=zgr (F:=zbl.l4 k) (x0:=(p,s0)) (fun i s=>(p.drop (64*i),s)) (List.range n) (fun s i=>blkP k (p.drop (64*i)) s) (fun s=>some (outP s)) (fun _ s=>s.length=8) (i0:=0) (s0:=s0) rfl (Nat.zero_le _) h0 (by simp;omega) ?_ ?_
 ·rw [this];rfl
 ·intro rec i s hi hs;rw [List.length_range] at hi;refine ⟨by rw [blk_len,hs],?_⟩;simp only [zbl.l4,List.getElem_range];have hl:(p.drop (64*i)).length=p.length - 64*i:=List.length_drop;rw [if_t (decide_eq_true (by omega)),a_l10 k _ (by omega)];simp only [zbl.k6,zbl.k7,zbl.k5];rw [a_l9 k hk _ _ _ _ (sched_len _) s hs];simp only [zbl.k7];rw [a_l8 _ _ _ _ (rnds_len _ _ _ hs) hs];simp only [zbl.k5];rw [zim (by omega) (by omega) (by omega),zaq,Int.toNat_natCast,List.take_length,show (64:Int).toNat=64 from rfl,List.drop_drop,show 64*i+64=64*(i+1) by omega];rfl
 ·intro rec s hs;simp only [zbl.l4,List.length_range];have hl:(p.drop (64*n)).length=p.length - 64*n:=List.length_drop;rw [if_f (decide_eq_false (by omega)),a_out s hs]
theorem b_l4 (k:List UInt32) (hk:k.length=64) (p:List UInt8) (n:Nat) (hn:p.length=64*n) (hp:p.length≤1073741824) (s0:List UInt32) (h0:s0.length=8) :
  loop (zab.l4 k p) (0,s0)=some (outP ((List.range n).foldl (fun s i=>blkP k (p.drop (64*i)) s) s0)):=by
 have:=zgr (F:=zab.l4 k p) (x0:=(0,s0)) (fun i s=>(((64*i:Nat):Int),s)) (List.range n) (fun s i=>blkP k (p.drop (64*i)) s) (fun s=>some (outP s)) (fun _ s=>s.length=8) (i0:=0) (s0:=s0) rfl (Nat.zero_le _) h0 (by simp;omega) ?_ ?_
 ·rw [this];rfl
 ·intro rec i s hi hs;rw [List.length_range] at hi;refine ⟨by rw [blk_len,hs],?_⟩;simp only [zab.l4,List.getElem_range];rw [if_t (decide_eq_true (by omega)),b_l10 k p i (by omega) hp];simp only [zab.k6];rw [b_l9 k hk _ _ _ _ (sched_len _) s hs];simp only [zab.k7];rw [b_l8 _ _ _ _ (rnds_len _ _ _ hs) hs];simp only [zab.k5];rw [zfy (by omega) (by omega),show ((64*i:Nat):Int)+64=((64*(i+1):Nat):Int) by omega];rfl
 ·intro rec s hs;simp only [zab.l4,List.length_range];rw [if_f (decide_eq_false (by omega)),b_out s hs]
def zgw (n:Nat):Nat:=(119 - n % 64) % 64
def byteP (n j:Nat):UInt8:=toB8 (((n:Int)*8) / 2 ^ (8*(7 - (j:Int))).toNat)
def padP (d:List UInt8):List UInt8:=(List.range 8).foldl (fun l j=>l++[byteP d.length j]) (d++[128]++List.replicate (zgw d.length) 0)
theorem zye (d:List UInt8):(padP d).length=d.length+9+zgw d.length:=by
 unfold padP;have h:∀ (l:List Nat) (s:List UInt8),(l.foldl (fun l j=>l++[byteP d.length j]) s).length=s.length+l.length:=fun l=>by
  induction l with
  | nil=>intro s;rfl
  | cons i l ih=>intro s;rw [List.foldl_cons,ih];simp;omega
 rw [h];simp;omega
theorem a_pad (d:List UInt8) (hd:d.length≤1000000):zcz d=some (padP d):=by
 have hz:zgw d.length < 64:=Nat.mod_lt _ (by decide);unfold zcz;rw [zdp (by simp;omega),zaq,List.nil_append,zdp (by simp;omega),zaq];refine zfd (S:=List UInt8) (σ:=Unit) (fun j _=>d++[128]++List.replicate j 0) (zgw d.length) (fun _ _=>True) _ (i0:=0) (s0:=()) (by simp) (Nat.zero_le _) trivial (by omega) ?_ ?_
 ·intro rec j _ hj _ hrec;simp only [zcz.l4];have hl:(d++[128]++List.replicate j (0:UInt8)).length=d.length+1+j:=by simp;omega
  have hm:((d.length+1+j:Nat):Int).tmod 64=(((d.length+1+j) % 64:Nat):Int):=rfl;rw [hl,hm,if_t (decide_eq_true (by unfold zgw at hj;omega)),zdp (by rw [hl];simp;omega),zaq];have:=hrec () trivial;rw [List.replicate_succ',← List.append_assoc] at this;exact this
 ·intro rec _ _;simp only [zcz.l4];have hl:(d++[128]++List.replicate (zgw d.length) (0:UInt8)).length=d.length+1+zgw d.length:=by simp;omega
  have hm:((d.length+1+zgw d.length:Nat):Int).tmod 64=(((d.length+1+zgw d.length) % 64:Nat):Int):=rfl;rw [hl,hm,if_f (decide_eq_false (by unfold zgw;omega))];unfold zcz.k1;have:=zgr (F:=zcz.l3 d) (x0:=(7,d++[128]++List.replicate (zgw d.length) (0:UInt8))) (fun j l=>(7 - (j:Int),l)) (List.range 8) (fun l j=>l++[byteP d.length j]) some (fun j l=>l.length=d.length+1+zgw d.length+j) (i0:=0) (s0:=d++[128]++List.replicate (zgw d.length) (0:UInt8)) rfl (Nat.zero_le _) hl (by decide) ?_ ?_
  ·rw [this];rfl
  ·intro rec j l hj hl;rw [List.length_range] at hj;refine ⟨by simp [hl];omega,?_⟩;simp only [zcz.l3];rw [if_t (decide_eq_true (by omega)),zxr (x:=(d.length:Int)) (by omega) (by omega),show (2:Int) ^ (3:Int).toNat=8 from rfl,zxr (x:=(d.length:Int)*8) (by omega) (by omega),zfy (x:=8*(7 - (j:Int))) (by omega) (by omega)];unfold shrU;rw [if_pos (by omega),zaq,zdp (by simp;omega),zaq,zfy (by omega) (by omega),List.getElem_range,show 7 - (j:Int) - 1=7 - ((j+1:Nat):Int) by omega];rfl
  ·intro rec l hl;simp only [zcz.l3,zcz.k2];rw [if_f (by decide)]
theorem b_pad (d:List UInt8) (hd:d.length≤1000000):zbb d=some (padP d):=by
 have hz:zgw d.length < 64:=Nat.mod_lt _ (by decide);unfold zbb;rw [zdp (by simp;omega),zaq,List.nil_append,zdp (by simp;omega),zaq];refine zfd (S:=List UInt8) (σ:=Unit) (fun j _=>d++[128]++List.replicate j 0) (zgw d.length) (fun _ _=>True) _ (i0:=0) (s0:=()) (by simp) (Nat.zero_le _) trivial (by omega) ?_ ?_
 ·intro rec j _ hj _ hrec;simp only [zbb.l4];have hl:(d++[128]++List.replicate j (0:UInt8)).length=d.length+1+j:=by simp;omega
  rw [hl,zfy (x:=((d.length+1+j:Nat):Int)+8) (by omega) (by omega)];have hm:(((d.length+1+j:Nat):Int)+8).tmod 64=(((d.length+1+j+8) % 64:Nat):Int):=rfl;rw [hm,if_t (decide_eq_true (by unfold zgw at hj;omega)),zdp (by rw [hl];simp;omega),zaq];have:=hrec () trivial;rw [List.replicate_succ',← List.append_assoc] at this;exact this
 ·intro rec _ _;simp only [zbb.l4];have hl:(d++[128]++List.replicate (zgw d.length) (0:UInt8)).length=d.length+1+zgw d.length:=by simp;omega
  rw [hl,zfy (x:=((d.length+1+zgw d.length:Nat):Int)+8) (by omega) (by omega)];have hm:(((d.length+1+zgw d.length:Nat):Int)+8).tmod 64=(((d.length+1+zgw d.length+8) % 64:Nat):Int):=rfl;rw [hm,if_f (decide_eq_false (by unfold zgw;omega))];unfold zbb.k1;have:=zgr (F:=zbb.l3 d) (x0:=(7,d++[128]++List.replicate (zgw d.length) (0:UInt8))) (fun j l=>(7 - (j:Int),l)) (List.range 8) (fun l j=>l++[byteP d.length j]) some (fun j l=>l.length=d.length+1+zgw d.length+j) (i0:=0) (s0:=d++[128]++List.replicate (zgw d.length) (0:UInt8)) rfl (Nat.zero_le _) hl (by decide) ?_ ?_
  ·rw [this];rfl
  ·intro rec j l hj hl;rw [List.length_range] at hj;refine ⟨by simp [hl];omega,?_⟩;simp only [zbb.l3];rw [if_t (decide_eq_true (by omega)),zxr (x:=(d.length:Int)) (by omega) (by omega),zxr (x:=(d.length:Int)*8) (by omega) (by omega),zxr (x:=7 - (j:Int)) (by omega) (by omega),zxr (x:=8*(7 - (j:Int))) (by omega) (by omega)];unfold shrU;rw [if_pos (by omega),zaq,zdp (by simp;omega),zaq,zfy (by omega) (by omega),List.getElem_range,show 7 - (j:Int) - 1=7 - ((j+1:Nat):Int) by omega];rfl
  ·intro rec l hl;simp only [zbb.l3,zbb.k2];rw [if_f (by decide)]
def keysP:List UInt32:=(zmu).getD []
def startP:List UInt32:=[1779033703,3144134277,1013904242,2773480762,1359893119,2600822924,528734635,1541459225]
def sumQ (d:List UInt8):List UInt8:=outP ((List.range ((padP d).length / 64)).foldl (fun s i=>blkP keysP ((padP d).drop (64*i)) s) startP)
theorem sumQ_ex:∃ f,f=sumQ:=⟨_,rfl⟩
noncomputable def sumP:List UInt8→List UInt8:=sumQ_ex.choose
theorem sumP_eq:sumP=sumQ:=sumQ_ex.choose_spec
theorem sumP_len (d:List UInt8):(sumP d).length=32:=by
 rw [sumP_eq];unfold sumQ outP;rw [zul (fun o i=>by simp)];simp
theorem padP_mod (d:List UInt8):(padP d).length=64*((padP d).length / 64):=by
 rw [zye];unfold zgw;omega
theorem b_sum (d:List UInt8) (hd:d.length≤1000000):zab d=some (sumP d):=by
 rw [sumP_eq];have hz:zgw d.length < 64:=Nat.mod_lt _ (by decide);unfold zab;rw [show zia=some keysP from rfl,zaq,b_pad d hd,zaq];exact b_l4 keysP rfl (padP d) _ (padP_mod d) (by rw [zye];omega) startP rfl
theorem concat_one (d:List UInt8) (hd:d.length≤1000000):zat [d]=some d:=by
 unfold zat;refine zfd (S:=Int × Int) (σ:=Unit) (fun j _=>(if j=0 then 0 else (d.length:Int),(j:Int))) 1 (fun _ _=>True) _ (i0:=0) (s0:=()) rfl (Nat.zero_le _) trivial (by omega) ?_ ?_
 ·intro rec j _ hj _ hrec;obtain rfl:j=0:=by omega
  simp only [zat.l4,zat.k5];rw [if_t (show decide (((0:Nat):Int) < (([d]:List (List UInt8)).length:Int))=true from rfl),show ix [d] ((0:Nat):Int)=some d from rfl,zaq,if_pos trivial,zfy (x:=0+(d.length:Int)) (by omega) (by omega),if_f (decide_eq_false (by omega))];have:=hrec () trivial;rw [if_neg (by decide)] at this;rw [Int.zero_add];exact this
 ·intro rec _ _;simp only [zat.l4,zat.k1];rw [if_f (show decide (((1:Nat):Int) < (([d]:List (List UInt8)).length:Int))=false from rfl),if_neg (by decide)];have hg:zbo (d.length:Int)=some []:=by
   unfold zbo;rw [if_f (decide_eq_false (by omega))];unfold zbo.k1 zbo.k2;rw [show wr (0 - 0)=0 from rfl,zfy (by omega) (by omega)]
   by_cases h:0 < d.length
   ·rw [if_t (decide_eq_true (by omega))];obtain ⟨n,hn⟩:∃ n:Nat,d.length=n+1:=⟨d.length - 1,by omega⟩
    unfold appZ;rw [if_pos ⟨by omega,by simp;omega⟩,zaq,zim (by omega) (by omega) (by omega),zaq,hn,show ((n+1:Nat):Int) - 0=((n+1:Nat):Int) by omega,Int.toNat_natCast,List.nil_append,List.replicate_succ];rfl
   ·rw [if_f (decide_eq_false (by omega))]
  rw [hg,zaq];refine zfd (S:=Int × List UInt8) (σ:=Unit) (fun j _=>((j:Int),if j=0 then [] else d)) 1 (fun _ _=>True) _ (i0:=0) (s0:=()) rfl (Nat.zero_le _) trivial (by omega) ?_ ?_
  ·intro rec j _ hj _ hrec;obtain rfl:j=0:=by omega
   simp only [zat.l3];rw [if_t (show decide (((0:Nat):Int) < (([d]:List (List UInt8)).length:Int))=true from rfl),show ix [d] ((0:Nat):Int)=some d from rfl,zaq,if_pos trivial,zdp (by simp;omega),zaq,List.nil_append];have:=hrec () trivial;rw [if_neg (by decide)] at this;exact this
  ·intro rec _ _;simp only [zat.l3,zat.k2];rw [if_f (show decide (((1:Nat):Int) < (([d]:List (List UInt8)).length:Int))=false from rfl),if_neg (by decide)]
theorem a_sum (d:List UInt8) (hd:d.length≤1000000):zbl [d]=some (sumP d):=by
 rw [sumP_eq];have hz:zgw d.length < 64:=Nat.mod_lt _ (by decide);unfold zbl;rw [concat_one d hd,zaq,show zmu=some keysP from rfl,zaq,a_pad d hd,zaq];exact a_l4 keysP rfl (padP d) _ (padP_mod d) (by rw [zye];omega) startP rfl
end Go.Wk.Lf
end
section
namespace Go.Wk.Lf
open Go.V Go.Sort Go.Proofs
theorem shr0 (n:Int):shrI n 0=some n:=by simp [shrI]
theorem be2_eq (n:Int):zbn n 2=some (be2 n):=by
 unfold zbn;show loop (zbn.l2 n) ([],1)=_;have e:∀ rec,zbn.l2 n rec ([],1)=rec ([toB8 (n / 256)],0):=fun rec=>by
  simp only [zbn.l2];rw [if_pos (by decide),show wu (wr (8*1))=8 from by decide,show shrI n 8=some (n / 256) from by simp [shrI],zaq,zdp (by simp),zaq,show wr ((1:Int) - 1)=0 from by decide];rfl
 have e2:∀ rec,zbn.l2 n rec ([toB8 (n / 256)],0)=rec (be2 n,-1):=fun rec=>by
  simp only [zbn.l2];rw [if_pos (by decide),show wu (wr (8*0))=0 from by decide,shr0,zaq,zdp (by simp),zaq,show wr ((0:Int) - 1) = -1 from by decide];rfl
 have e3:∀ rec,zbn.l2 n rec (be2 n,-1)=some (be2 n):=fun rec=>by
  simp only [zbn.l2,zbn.k1];rw [if_neg (by decide)]
 show iter _ 18446744073709551616 _=_;show zbn.l2 n (iter _ 18446744073709551615) _=_;rw [e];show zbn.l2 n (iter _ 18446744073709551614) _=_;rw [e2];show zbn.l2 n (iter _ 18446744073709551613) _=_;rw [e3]
theorem rbytes_eq (m:Manifest) (h:manB m) (hk:okId m):zas m=some (zgz m):=by
 unfold zas;have hn:=zln h.1;have h6:=h.2.1;rw [zdp (by simp;omega),zaq,zdp (by simp;omega),zaq];have hlen:=zmb h hk;refine zfd (S:=Int × List UInt8) (σ:=List UInt8) (fun i l=>((i:Int),l)) m.parts.length (fun i l=>l=([toB8 (m.name.length:Int)]++m.name++[toB8 (m.parts.length:Int)])++(m.parts.take i).flatMap zdu) _ (i0:=0) rfl (Nat.zero_le _) (by simp) (by omega) ?_ ?_
 ·intro rec i l hi hI hrec;simp only [zas.l2];have hp:=zot (zka h _ (List.getElem_mem hi));have hpn:=zln hp.1;have hids:=hk _ (List.getElem_mem hi);have hl:l.length+(zdu m.parts[i]).length≤5000:=by
   have:(([toB8 (m.name.length:Int)]++m.name++[toB8 (m.parts.length:Int)])++(m.parts.take (i+1)).flatMap zdu).length≤5000:=by
    refine Nat.le_trans ?_ hlen;simp only [zgz,List.length_append];have:(m.parts.flatMap zdu).length=((m.parts.take (i+1)).flatMap zdu).length+((m.parts.drop (i+1)).flatMap zdu).length:=by
     rw [← List.length_append,← List.flatMap_append,List.take_append_drop]
    omega
   rw [zdo hi,List.flatMap_append,← List.append_assoc,← hI] at this;simpa using this
  rw [zrr hids] at hl;rw [if_t (lt_t hi),zds hi,zaq,zdp (by simp;omega),zaq,zdp (by simp;omega),zaq,be2_eq,zaq,zdp (by simp [be2];omega),zaq,zdp (by simp [be2];omega),zaq];generalize hQ:m.parts[i]=p at *;refine zfd (S:=Int × List UInt8) (σ:=List UInt8) (fun j q=>((j:Int),q)) p.ids.length (fun j q=>q=(l++([toB8 (p.path.length:Int)]++p.path++be2 p.size++[toB8 (p.ids.length:Int)]))++(p.ids.take j).flatten) _ (i0:=0) rfl (Nat.zero_le _) (by simp) (by omega) ?_ ?_
  ·intro rec2 j q hj hJ hrec2;simp only [zas.l4];have hx:=hids _ (List.getElem_mem hj);have hft:((p.ids.take j).flatten).length≤32*25:=by
    rw [zsr _ fun x hx=>hids x (List.mem_of_mem_take hx)];simp;omega
   rw [if_t (lt_t hj),zds hj,zaq,zdp (by rw [hJ];simp only [List.length_append,List.length_cons,List.length_nil,be2,hx];omega),zaq,zbw (by omega)];refine hrec2 _ ?_;rw [hJ,zdo hj];simp only [List.flatten_append,List.flatten_cons,List.flatten_nil,List.append_nil,List.append_assoc]
  ·intro rec2 q hJ;simp only [zas.l4,zas.k3];rw [if_f (lt_f (Nat.lt_irrefl _)),zbw (by omega)];refine hrec _ ?_;rw [hJ,hI,zdo hi,hQ,List.take_length,List.flatMap_append];simp [zdu]
 ·intro rec l hI;simp only [zas.l2,zas.k1];rw [if_f (lt_f (Nat.lt_irrefl _)),hI,List.take_length];rfl
theorem sLt_diff:∀ (p:List UInt8) (x y:UInt8) (s t:List UInt8),x≠y→sLt (p++x::s) (p++y::t)=decide (x < y)
 | [],x,y,s,t,h=>by
  rw [List.nil_append,List.nil_append,sLt,Op.bytesLess];simp [h]
 | c::p,x,y,s,t,h=>by
  rw [List.cons_append,List.cons_append,sLt,Op.bytesLess];have:=sLt_diff p x y s t h;rw [sLt] at this;rw [this];simp [UInt8.lt_irrefl]
theorem split_at {l:List UInt8} {i:Nat} (h:i < l.length):l=l.take i++l[i]::l.drop (i+1):=by
 rw [← List.drop_eq_getElem_cons h,List.take_append_drop]
theorem before_eq (a b:List UInt8) (ha:a.length=32) (hb:b.length=32):zbx a b=some (sLt a b):=by
 unfold zbx;refine zfd (S:=Int) (σ:=Unit) (fun i _=>(i:Int)) 32 (fun i _=>a.take i=b.take i) _ (i0:=0) (s0:=()) rfl (Nat.zero_le _) rfl (by decide) ?_ ?_
 ·intro rec i _ hi hI hrec;simp only [zbx.l2];have hia:i < a.length:=by omega
  have hib:i < b.length:=by omega
  rw [if_t (decide_eq_true (by omega)),zds hia,zaq,zds hib,zaq]
  by_cases h:a[i]=b[i]
  ·rw [if_neg (by simp [h]),zbw (by omega)];exact hrec () (by rw [zdo hia,zdo hib,hI,h])
  ·rw [if_pos (by simp only [ne_eq,decide_eq_true_eq];intro e;exact h (UInt8.toNat.inj (by omega))),zaq,zaq]
   congr 1
   conv=>rhs;rw [split_at hia,split_at hib,hI]
   rw [sLt_diff _ _ _ _ _ h,decide_eq_decide,UInt8.lt_iff_toNat_lt];omega
 ·intro rec _ hI;simp only [zbx.l2,zbx.k1];rw [if_neg (by decide)];rw [List.take_of_length_le (by omega),List.take_of_length_le (by omega)] at hI;rw [hI,zgf]
def zfc (l:List (List UInt8)) (x:List UInt8):Nat:=(l.takeWhile fun y=>sLt y x).length
theorem zos (l:List (List UInt8)) (x:List UInt8):zfc l x≤l.length:=by
 unfold zfc;exact (List.takeWhile_sublist _).length_le
theorem zvh {l:List (List UInt8)} {x:List UInt8} {i:Nat} (h:i < zfc l x):sLt (l[i]'(Nat.lt_of_lt_of_le h (zos l x))) x=true:=by
 unfold zfc at h;have hm:=List.getElem_mem h;have h1:(l.takeWhile fun y=>sLt y x)[i]=l[i]'(Nat.lt_of_lt_of_le h (zos l x)):=by
  have:=(List.takeWhile_prefix (fun y=>sLt y x) (l:=l))
  exact this.getElem h
 rw [← h1];have h2:=List.all_takeWhile (p:=fun y=>sLt y x) (l:=l);rw [List.all_eq_true] at h2;exact h2 _ hm
theorem zvi {l:List (List UInt8)} {x:List UInt8} (h:zfc l x < l.length):sLt l[zfc l x] x=false:=by
 induction l with
 | nil=>simp at h
 | cons y l ih =>
  by_cases hy:sLt y x=true
  ·have e:zfc (y::l) x=zfc l x+1:=by simp [zfc,List.takeWhile_cons,hy]
   simp only [e] at h ⊢;simp only [List.getElem_cons_succ];exact ih (by simpa using h)
  ·have e:zfc (y::l) x=0:=by simp [zfc,List.takeWhile_cons,hy]
   simp only [e,List.getElem_cons_zero];simpa using hy
def insI (l:List (List UInt8)) (x:List UInt8):List (List UInt8):=if l[zfc l x]? = some x then l else l.take (zfc l x)++[x]++l.drop (zfc l x)
theorem add_eq (l:List (List UInt8)) (x:List UInt8) (hl:l.length≤100000) (h32:∀ y∈l,y.length=32) (hx:x.length=32) :
  zco l x=some (insI l x,(zfc l x:Int),!decide (l[zfc l x]? = some x)):=by
 unfold zco;have hk:=zos l x;refine zfd (S:=Int) (σ:=Unit) (fun i _=>(i:Int)) (zfc l x) (fun _ _=>True) _ (i0:=0) (s0:=()) rfl (Nat.zero_le _) trivial (by omega) ?_ ?_
 ·intro rec i _ hi _ hrec;simp only [zco.l2];have hil:i < l.length:=by omega
  have hlt:=zvh hi;rw [lt_t hil,zbu rfl,zds hil,zaq,zbu rfl,before_eq _ _ (h32 _ (List.getElem_mem hil)) hx,zaq,hlt,zbw (by omega)];exact hrec () trivial
 ·intro rec _ _;simp only [zco.l2,zco.k1]
  by_cases hil:zfc l x < l.length
  ·have hlt:=zvi hil;rw [lt_t hil,zbu rfl,zds hil,zaq,zbu rfl,before_eq _ _ (h32 _ (List.getElem_mem hil)) hx,zaq,hlt];rw [if_neg (by simp),zaq];unfold insI;rw [List.getElem?_eq_getElem hil]
   by_cases he:l[zfc l x]=x
   ·rw [if_pos (by simp [he]),if_pos (by rw [he])];simp [he]
   ·rw [if_neg (by simp [he]),if_neg (by simpa using he),zim (by omega) (by omega) (by omega),zaq,zdp (by simp;omega),zaq,zdp (by simp;omega),zaq,zim (by omega) (by omega) (by omega),zaq,zdp (by simp;omega),zaq];simp [he]
  ·have hil':zfc l x=l.length:=by omega
   rw [lt_f hil,zhz rfl,zaq,zhz rfl,zaq,if_neg (by simp),zaq,if_neg (by simp)];unfold insI;rw [List.getElem?_eq_none (by omega),if_neg (by simp),zim (by omega) (by omega) (by omega),zaq,zdp (by simp;omega),zaq,zdp (by simp;omega),zaq,zim (by omega) (by omega) (by omega),zaq,zdp (by simp;omega),zaq];simp
theorem place_in {l:List (List UInt8)} {x:List UInt8} (hr:zps l):(l[zfc l x]? = some x) ↔ x∈l:=by
 constructor
 ·intro h;exact List.mem_of_getElem? h
 ·intro h;obtain ⟨j,hj,rfl⟩:=List.getElem_of_mem h;have hk:=zos l l[j];have h1:¬ j < zfc l l[j]:=fun h2=>by have:=zvh h2;rw [zgf] at this;cases this
  have h3:¬ zfc l l[j] < j:=fun h4=>by
   have h5:=zvi (l:=l) (x:=l[j]) (by omega);have h6:=List.pairwise_iff_getElem.1 hr (zfc l l[j]) j (by omega) hj h4;rw [h6] at h5;cases h5
  have e:zfc l l[j]=j:=by omega
  rw [e];exact List.getElem?_eq_getElem hj
theorem insI_mem {l:List (List UInt8)} {x:List UInt8} (hr:zps l) (y:List UInt8):y∈insI l x ↔ y∈l∨y=x:=by
 unfold insI
 split
 ·rename_i h;exact ⟨.inl,fun h2=>h2.elim id fun e=>e ▸ List.mem_of_getElem? h⟩
 ·constructor
  ·intro h;simp only [List.mem_append,List.mem_singleton] at h;rcases h with (h | h) | h
   ·exact .inl (List.mem_of_mem_take h)
   ·exact .inr h
   ·exact .inl (List.mem_of_mem_drop h)
  ·intro h;simp only [List.mem_append,List.mem_singleton];rcases h with h | h
   ·rw [← List.take_append_drop (zfc l x) l] at h;rcases List.mem_append.1 h with h | h
    ·exact .inl (.inl h)
    ·exact .inr h
   ·exact .inl (.inr h)
theorem insI_rises {l:List (List UInt8)} {x:List UInt8} (hr:zps l):zps (insI l x):=by
 unfold insI
 split
 ·exact hr
 ·rename_i h;have hn:x ∉ l:=fun h2=>h ((place_in hr).2 h2);have h1:∀ a∈l.take (zfc l x),sLt a x=true:=fun a ha=>by
   obtain ⟨i,hi,rfl⟩:=List.getElem_of_mem ha;simp only [List.length_take] at hi;rw [List.getElem_take];exact zvh (by omega)
  have h2:∀ b∈l.drop (zfc l x),sLt x b=true:=fun b hb=>by
   obtain ⟨i,hi,rfl⟩:=List.getElem_of_mem hb;simp only [List.length_drop] at hi;rw [List.getElem_drop];have hk:zfc l x < l.length:=by omega
   have h3:=zvi hk;have h4:sLt x l[zfc l x]=true:=by
    cases h5:sLt x l[zfc l x] with
    | true=>rfl
    | false=>exact absurd (List.getElem_mem hk) (by rw [← zuz h5 h3];exact hn)
   cases i with
   | zero=>exact h4
   | succ i=>exact zir h4 (List.pairwise_iff_getElem.1 hr _ _ hk (by omega) (by omega))
  have ht:zps (l.take (zfc l x)):=hr.sublist (List.take_sublist _ _);have hd:zps (l.drop (zfc l x)):=hr.sublist (List.drop_sublist _ _);unfold zps at *;rw [List.append_assoc,List.pairwise_append];refine ⟨ht,List.pairwise_cons.2 ⟨h2,hd⟩,fun a ha b hb=>?_⟩;rcases List.mem_cons.1 hb with rfl | hb
  ·exact h1 a ha
  ·exact zir (h1 a ha) (h2 b hb)
theorem insI_len (l:List (List UInt8)) (x:List UInt8):(insI l x).length≤l.length+1:=by
 unfold insI;split
 ·omega
 ·simp;omega
theorem foldI (ids:List (List UInt8)):∀ acc,zps acc→zps (ids.foldl insI acc)∧(∀ y,y∈ids.foldl insI acc ↔ y∈acc∨y∈ids)∧(ids.foldl insI acc).length≤acc.length+ids.length:=by
 induction ids with
 | nil=>intro acc h;simp [h]
 | cons x ids ih =>
  intro acc h;obtain ⟨h1,h2,h3⟩:=ih _ (insI_rises (x:=x) h);refine ⟨h1,fun y=>?_,?_⟩
  ·rw [List.foldl_cons,h2,insI_mem h];simp [or_assoc]
  ·have:=insI_len acc x;simp only [List.foldl_cons,List.length_cons];omega
end Go.Wk.Lf
end
section
namespace Go.Wk.Lf
open Go.V Go.Sort Go.Proofs
def zvr (l:List File):Bool:=decide (6 < l.length)||l.any fun f=>decide (200 < f.data.length)
theorem long_f {l:List File} (h:zvr l=false):l.length≤6 ∧ ∀ f∈l,f.data.length≤200:=by
 simp only [zvr,Bool.or_eq_false_iff,decide_eq_false_iff_not,List.any_eq_false] at h;exact ⟨by omega,fun f hf=>by have:=h.2 f hf;simp at this;omega⟩
def badB (l:List File):Bool:=l.any fun f=>!zjx f.path
def zll (l:List File):Prop:=l.Pairwise fun a b=>sLt a.path b.path=true
theorem rises_adj (l:List File):zll l ↔ ∀ i (h:i < l.length),0 < i→sLt (l[i - 1]'(by omega)).path l[i].path=true:=by
 unfold zll;constructor
 ·intro h i hi h0;exact List.pairwise_iff_getElem.1 h (i - 1) i (by omega) hi (by omega)
 ·intro h;rw [List.pairwise_iff_getElem];intro i j hi hj hij
  induction j with
  | zero=>omega
  | succ j ih =>
   have h1:=h (j+1) hj (by omega);rcases (by omega:i=j∨i < j) with rfl | h2
   ·exact h1
   ·exact zir (ih (by omega) h2) h1
instance (l : List File) : Decidable (zll l) := by unfold zll; infer_instance
def chkL (l:List File):Int:=if zvr l=true then 2 else if badB l=false∧zll l then 0 else 1
theorem loop_allB {S A:Type} {F:(S→Option A)→S→Option A} (mk:Nat→S) (n:Nat) (ok:Nat→Bool) (K B:Option A) {x0:S} (hx:x0=mk 0) (hn:n < 9223372036854775808)
  (hstep:∀ rec i,i < n→F rec (mk i)=if ok i=true then rec (mk (i+1)) else B) (hend:∀ rec,F rec (mk n)=K):loop F x0=if (∀ i,i < n→ok i=true) then K else B:=by
 subst hx;refine iter_for (σ:=Unit) (fun i _=>mk i) n (fun i _=>∀ j,j < i→ok j=true) (fun o=>o=if (∀ i,i < n→ok i=true) then K else B) ?_ ?_ _ 0 () (Nat.zero_le _) (by omega) (by intro j h;omega)
 ·intro rec i _ hi hI hrec;rw [hstep rec i hi]
  by_cases h:ok i=true
  ·rw [if_pos h];exact hrec () fun j hj=>by
    rcases (by omega:j < i∨j=i) with h1 | rfl
    ·exact hI j h1
    ·exact h
  ·rw [if_neg h,if_neg fun hall=>h (hall i hi)]
 ·intro rec _ hI;rw [hend,if_pos hI]
theorem zsm (s:List UInt8) (hl:s.length < 9223372036854775808):zby s=some (zjx s):=by
 unfold zby zjx;rw [loop_allB (x0:=(0:Int)) (fun i=>(i:Int)) s.length (fun i=>seen (s.getD i 0)) (some (decide (1≤s.length)&&decide (s.length≤20))) (some false) rfl hl ?_ ?_]
 ·by_cases h:s.all seen=true
  ·rw [h,if_pos ((zrb s seen _ fun i hi=>by simp [hi]).2 h),Bool.and_true]
  ·rw [Bool.not_eq_true] at h;rw [h,if_neg fun h3=>by rw [(zrb s seen _ fun i hi=>by simp [hi]).1 h3] at h;cases h];rw [Bool.and_false]
 ·intro rec i hi;simp only [zby.l2];rw [if_t (lt_t hi),zds hi,zaq];simp only [hi,List.getD_eq_getElem?_getD,List.getElem?_eq_getElem,Option.getD_some,seen]
  by_cases h33:(s[i].toNat:Int) < 33
  ·rw [zhz (by simp;omega),zaq,if_pos (by simp [h33])];rw [if_neg (by simp only [Bool.and_eq_true,decide_eq_true_eq];omega)]
  ·rw [zbu (by simp;omega),zaq]
   by_cases h126:(126:Int) < (s[i].toNat:Int)
   ·rw [if_pos (by simp [h126]),if_neg (by simp only [Bool.and_eq_true,decide_eq_true_eq];omega)]
   ·rw [if_neg (by simp only [Bool.or_eq_true,decide_eq_true_eq];omega),if_pos (by simp only [Bool.and_eq_true,decide_eq_true_eq];omega),show wr ((i:Int)+1)=((i+1:Nat):Int) from by rw [zfy (by omega) (by omega)];rfl]
 ·intro rec;simp only [zby.l2,zby.k1];rw [if_f (lt_f (Nat.lt_irrefl _))]
  congr 2
  ·simp;omega
  ·simp;omega
theorem zwz (l:List File) (hl:l.length < 9223372036854775808):zca l=some (zvr l):=by
 unfold zca zvr
 by_cases h:6 < l.length
 ·rw [if_pos (by simp;omega)];simp [h]
 ·rw [if_neg (by simp;omega)];rw [zpw (x0:=(0:Int)) (fun i=>(i:Int)) l.length (fun i=>!decide (200 < (l.getD i default).data.length)) (some false) (some true) rfl (by omega) ?_ ?_]
  ·simp only [h,decide_false,Bool.false_or];have hall:=zrb l (fun f=>!decide (200 < f.data.length)) (fun i=>!decide (200 < (l.getD i default).data.length)) (fun i hi=>by simp [hi])
   by_cases ha:l.all (fun f=>!decide (200 < f.data.length))=true
   ·rw [if_pos (hall.2 ha)]
    congr 1
    rw [eq_comm,List.any_eq_false];intro x hx;have:=List.all_eq_true.1 ha x hx;simpa using this
   ·rw [if_neg fun q=>ha (hall.1 q)]
    congr 1
    rw [Bool.not_eq_true,List.all_eq_false] at ha;obtain ⟨x,hx,q⟩:=ha;rw [eq_comm,List.any_eq_true];exact ⟨x,hx,by simpa using q⟩
  ·intro rec i hi;simp only [zca.l2];rw [if_t (lt_t hi),zds hi,zaq];simp only [List.getD_eq_getElem?_getD,List.getElem?_eq_getElem hi,Option.getD_some]
   by_cases h2:200 < l[i].data.length
   ·rw [if_pos (by simp;omega),if_neg (by simp;omega)]
   ·rw [if_neg (by simp;omega),if_pos (by simp;omega),zbw (by omega)]
  ·intro rec;simp only [zca.l2,zca.k1];rw [if_f (lt_f (Nat.lt_irrefl _))]
theorem reftree_eq (l:List File) (hll:l.length < 9223372036854775808) (hp:∀ f∈l,f.path.length < 9223372036854775808):zch l=some (chkL l):=by
 unfold zch;rw [zwz l hll,zaq];unfold chkL;cases hL:zvr l with
 | true=>rfl
 | false =>
  obtain ⟨hl,hd⟩:=long_f hL;simp only [Bool.false_eq_true,if_false];rw [zpw (x0:=(0:Int)) (fun i=>(i:Int)) l.length (fun i=>zjx (l.getD i default).path&&(!decide (0 < i)||sLt (l.getD (i - 1) default).path (l.getD i default).path)) (some 0) (some 1) rfl (by omega) ?_ ?_]
  ·have hiff:(∀ i,i < l.length→(zjx (l.getD i default).path&&(!decide (0 < i)||sLt (l.getD (i - 1) default).path (l.getD i default).path))=true) ↔ (badB l=false∧zll l):=by
    constructor
    ·intro h;refine ⟨?_,(rises_adj l).2 fun i hi h0=>?_⟩
     ·unfold badB;rw [List.any_eq_false];intro x hx;obtain ⟨j,hj,rfl⟩:=List.getElem_of_mem hx;have h1:=h j hj;simp only [List.getD_eq_getElem?_getD,List.getElem?_eq_getElem hj,Option.getD_some,Bool.and_eq_true] at h1;simp [h1.1]
     ·have h1:=h i hi;have hi':i - 1 < l.length:=by omega
      simp only [List.getD_eq_getElem?_getD,List.getElem?_eq_getElem hi,List.getElem?_eq_getElem hi',Option.getD_some,Bool.and_eq_true,h0,decide_true,Bool.not_true,Bool.false_or] at h1;exact h1.2
    ·rintro ⟨h1,h2⟩ i hi;unfold badB at h1;rw [List.any_eq_false] at h1;have h3:=h1 _ (List.getElem_mem hi);simp only [Bool.not_eq_true',Bool.not_eq_false] at h3;simp only [List.getD_eq_getElem?_getD,List.getElem?_eq_getElem hi,Option.getD_some,h3,Bool.true_and]
     by_cases h0:0 < i
     ·have hi':i - 1 < l.length:=by omega
      simp only [List.getElem?_eq_getElem hi',Option.getD_some,h0,decide_true,Bool.not_true,Bool.false_or];exact (rises_adj l).1 h2 i hi h0
     ·simp [h0]
   by_cases h:badB l=false∧zll l
   ·rw [if_pos h,if_pos (hiff.2 h)]
   ·rw [if_neg h,if_neg fun h2=>h (hiff.1 h2)]
  ·intro rec i hi;simp only [zch.l2];rw [if_t (lt_t hi),zds hi,zaq,zsm _ (hp _ (List.getElem_mem hi)),zaq];simp only [List.getD_eq_getElem?_getD,List.getElem?_eq_getElem hi,Option.getD_some];cases hN:zjx l[i].path with
   | false=>rw [zhz (by simp),zaq,zhz (by simp),zaq];rfl
   | true =>
    by_cases h0:0 < i
    ·have hi':i - 1 < l.length:=by omega
     have h0':(0:Int) < (i:Int):=by omega
     rw [zbu (by simp;omega),zaq,zbu (by simp;omega),zmh h0 (by omega),zds hi',zaq];simp only [List.getElem?_eq_getElem hi',Option.getD_some,h0,h0',decide_true,Bool.not_true,Bool.false_or,Bool.true_and];have hg:=gtr_eq l[i].path l[i - 1].path;cases hc:(sLt l[i].path l[i - 1].path||l[i].path == l[i - 1].path) with
     | true=>rw [hc] at hg;rw [← hg];rfl
     | false=>rw [hc] at hg;rw [← hg,if_neg (by simp),zbw (by omega)];rfl
    ·have h0':¬ (0:Int) < (i:Int):=by omega
     rw [zhz (by simp;omega),zaq,zhz (by simp;omega),zaq];simp only [h0,h0',decide_false,Bool.false_and,Bool.not_true,Bool.or_false,Bool.false_eq_true,if_false,Bool.not_false,Bool.true_or,Bool.and_true,if_true];rw [zbw (by omega)]
  ·intro rec;simp only [zch.l2,zch.k1];rw [if_f (lt_f (Nat.lt_irrefl _))]
theorem twinB_eq (l:List UInt8) (hl:l.length≤1073741824):zfl l=some l:=by
 unfold zfl;rw [zdp (by simpa using hl),zaq];rfl
theorem k5_eq (l out:List File) (i k:Nat) (rec:List File × Int→Option (List File × Int)) (hi:i < l.length) (hl:l.length≤1000000) (ho:out.length≤1000000) (hk:k≤out.length) (hd:l[i].data.length≤1073741824) :
  zak.k5 l out (i:Int) rec (k:Int)=if (∃ h:k < out.length,out[k].path=l[i].path) then some ([],9) else rec (out.take k++l[i]::out.drop k,((i+1:Nat):Int)):=by
 unfold zak.k5 zak.k4;have fin:(bd (cut (α:=File) out 0 (k:Int)) fun l37=>bd (ix l (i:Int)) fun x39=>bd (app (α:=File) [] l37) fun l41=>bd (zfl x39.data) fun r43=>bd (app (α:=File) l41 [(File.mk x39.path r43)]) fun l45=>bd (cut (α:=File) out (k:Int) (out.length:Int)) fun l52=>bd (app (α:=File) l45 l52) fun l54=>rec (l54,wr ((i:Int)+1)))=rec (out.take k++l[i]::out.drop k,((i+1:Nat):Int)):=by
  rw [zim (Int.le_refl _) (by omega) (by omega),zaq,zds hi,zaq,zdp (by simp;omega),zaq,twinB_eq _ hd,zaq,zdp (by simp;omega),zaq,zim (by omega) (by omega) (Int.le_refl _),zaq,zdp (by simp;omega),zaq,zbw (by omega)]
  congr 2
  simp
 by_cases hlt:k < out.length
 ·rw [zbu (lt_t hlt),zds hlt,zaq,zbu (lt_t hlt),zds hi,zaq]
  by_cases he:out[k].path=l[i].path
  ·rw [if_pos (by simp [hlt,he]),if_pos ⟨hlt,he⟩]
  ·rw [if_neg (by simp [he]),if_neg (fun q=>he q.2)];rw [zds hi] at fin;exact fin
 ·rw [zhz (lt_f hlt),zaq,zhz (lt_f hlt),zaq,if_neg (by simp;omega),if_neg (fun q=>hlt q.1)];exact fin
theorem rises_put {out:List File} {x:File} {k:Nat} (hr:zll out) (hk:k≤out.length) (h1:∀ j (h:j < out.length),j < k→sLt out[j].path x.path=true) (h2:∀ h:k < out.length,sLt out[k].path x.path=false∧out[k].path≠x.path):zll (out.take k++x::out.drop k):=by
 unfold zll at *;have hsplit:=hr;rw [← List.take_append_drop k out,List.pairwise_append] at hsplit;obtain ⟨p1,p2,p3⟩:=hsplit;have hb:∀ a∈out.take k,sLt a.path x.path=true:=fun a ha=>by
  obtain ⟨j,hj,rfl⟩:=List.getElem_of_mem ha;rw [List.length_take] at hj;rw [List.getElem_take];exact h1 j (by omega) (by omega)
 have ha:∀ b∈out.drop k,sLt x.path b.path=true:=fun b hb=>by
  obtain ⟨j,hj,rfl⟩:=List.getElem_of_mem hb;rw [List.length_drop] at hj;rw [List.getElem_drop];have hk':k < out.length:=by omega
  obtain ⟨q1,q2⟩:=h2 hk';have q3:sLt x.path out[k].path=true:=by
   cases h:sLt x.path out[k].path with
   | true=>rfl
   | false=>exact absurd (zuz q1 h) q2
  rcases Nat.eq_zero_or_pos j with rfl | hp
  ·exact q3
  ·exact zir q3 (List.pairwise_iff_getElem.1 hr k (k+j) hk' (by omega) (by omega))
 refine List.pairwise_append.2 ⟨p1,List.pairwise_cons.2 ⟨ha,p2⟩,fun a h b hb'=>?_⟩;rcases List.mem_cons.1 hb' with rfl | hb'
 ·exact hb a h
 ·exact p3 a h b hb'
def sorted (l:List File) (o:Option (List File × Int)):Prop:=∃ r,o=some r∧(r.2=0→r.1.Perm l∧zll r.1∧zvr l=false∧badB l=false)
theorem refsort_ok (l:List File) (hll:l.length < 9223372036854775808) (hp:∀ f∈l,f.path.length < 9223372036854775808):sorted l (zak l):=by
 have no:∀ e:Int,e≠0→sorted l (some ([],e)):=fun e he=>⟨_,rfl,fun h=>absurd h he⟩
 unfold zak;rw [zwz l hll,zaq];cases hL:zvr l with
 | true=>exact no _ (by decide)
 | false =>
  obtain ⟨hl,hd⟩:=long_f hL;simp only [Bool.false_eq_true,if_false];rw [zpw (x0:=(0:Int)) (fun i=>(i:Int)) l.length (fun i=>zjx (l.getD i default).path) (zak.k1 l) (some ([],1)) rfl (by omega) ?_ ?_]
  ·have hall:=zrb l (fun f=>zjx f.path) (fun i=>zjx (l.getD i default).path) (fun i hi=>by simp [hi]);cases hB:badB l with
   | true =>
    rw [if_neg]
    ·exact no _ (by decide)
    ·intro q;have:=hall.1 q;unfold badB at hB;obtain ⟨x,hx,h2⟩:=List.any_eq_true.1 hB;have:=List.all_eq_true.1 this x hx;simp [this] at h2
   | false =>
    rw [if_pos]
    ·unfold zak.k1;refine zym (S:=List File × Int) (σ:=List File) (fun i out=>(out,(i:Int))) l.length (fun i out=>out.Perm (l.take i)∧zll out) (sorted l) (i0:=0) (s0:=[]) rfl (Nat.zero_le _) ⟨by simp,List.Pairwise.nil⟩ (by omega) ?_ ?_
     ·intro rec i out hi ⟨hperm,hris⟩ hrec;have hol:out.length=i:=by rw [hperm.length_eq,List.length_take];omega
      simp only [zak.l3];rw [if_t (lt_t hi)];have hfind:∃ k,k≤out.length∧(∀ j (h:j < out.length),j < k→sLt out[j].path l[i].path=true)∧(∀ h:k < out.length,sLt out[k].path l[i].path=false)∧loop (zak.l6 l out (i:Int) rec) 0=zak.k5 l out (i:Int) rec (k:Int):=by
       refine zym (S:=Int) (σ:=Unit) (fun k _=>(k:Int)) out.length (fun k _=>∀ j (h:j < out.length),j < k→sLt out[j].path l[i].path=true) (fun o=>∃ k,k≤out.length∧(∀ j (h:j < out.length),j < k→sLt out[j].path l[i].path=true)∧(∀ h:k < out.length,sLt out[k].path l[i].path=false)∧o=zak.k5 l out (i:Int) rec (k:Int)) (i0:=0) (s0:=()) rfl (Nat.zero_le _) (fun j _ h=>by omega) (by omega) ?_ ?_
       ·intro rec2 k _ hk hI hrec2;simp only [zak.l6];rw [zbu (lt_t hk),zds hk,zaq,zbu (lt_t hk),zds hi,zaq];cases hs:sLt out[k].path l[i].path with
        | true =>
         rw [if_pos (by simp [hk]),zbw (by omega)];refine hrec2 () fun j hj hjk=>?_;rcases (by omega:j < k∨j=k) with q | rfl
         ·exact hI j hj q
         ·exact hs
        | false =>
         rw [if_neg (by simp)];exact ⟨k,by omega,hI,fun _=>hs,rfl⟩
       ·intro rec2 _ hI;simp only [zak.l6];rw [zhz (lt_f (Nat.lt_irrefl _)),zaq,zhz (lt_f (Nat.lt_irrefl _)),zaq,if_neg (by simp)];exact ⟨out.length,Nat.le_refl _,hI,fun h=>absurd h (Nat.lt_irrefl _),rfl⟩
      obtain ⟨k,hk,f1,f2,f3⟩:=hfind;have hdi:=hd _ (List.getElem_mem hi);rw [f3,k5_eq l out i k rec hi (by omega) (by omega) hk (by omega)]
      by_cases htw:∃ h:k < out.length,out[k].path=l[i].path
      ·rw [if_pos htw];exact no _ (by decide)
      ·rw [if_neg htw];refine hrec _ ⟨?_,rises_put hris hk f1 fun h=>⟨f2 h,fun e=>htw ⟨h,e⟩⟩⟩;rw [zdo hi];refine List.perm_middle.trans ?_;rw [List.take_append_drop];exact (List.Perm.cons _ hperm).trans (List.perm_append_singleton _ _).symm
     ·intro rec out ⟨hperm,hris⟩;simp only [zak.l3,zak.k2];rw [if_f (lt_f (Nat.lt_irrefl _))];rw [List.take_length] at hperm;exact ⟨_,rfl,fun _=>⟨hperm,hris,hL,hB⟩⟩
    ·refine hall.2 (List.all_eq_true.2 fun x hx=>?_);unfold badB at hB;have:=List.any_eq_false.1 hB x hx;simpa using this
  ·intro rec i hi;simp only [zak.l7];rw [if_t (lt_t hi),zds hi,zaq,zsm _ (hp _ (List.getElem_mem hi)),zaq];simp only [List.getD_eq_getElem?_getD,List.getElem?_eq_getElem hi,Option.getD_some];cases zjx l[i].path with
   | false=>rfl
   | true=>simp only [Bool.not_true,Bool.false_eq_true,if_false,if_true];rw [zbw (by omega)]
  ·intro rec;simp only [zak.l7];rw [if_f (lt_f (Nat.lt_irrefl _))]
end Go.Wk.Lf
end
section
namespace Go.Wk.Lf
open Go.V Go.Sort Go.Proofs
def zvd (r:UInt32) (c:UInt8):UInt32:=(r <<< UInt32.ofNat 1)+((c.toUInt32+(1:UInt32))*(2654435761:UInt32))
def regHigh (r:UInt32):Bool:=decide (((r >>> UInt32.ofNat 28).toNat:Int)=0)
def znb:UInt32→Nat→List UInt8→Nat
 | _,n,[]=>n
 | r,n,c::t=>if (decide (64≤n+1)||(decide (8≤n+1)&&regHigh (zvd r c)))=true then n+1 else znb (zvd r c) (n+1) t
def zrt (b:List UInt8):Nat:=znb 0 0 b
theorem zov:∀ (t:List UInt8) (r:UInt32) (n:Nat),n≤znb r n t∧znb r n t≤n+t.length∧(t≠[]→n+1≤znb r n t)∧(n≤64→n < 64∨t=[]→znb r n t≤64)∧(znb r n t < n+t.length→8≤znb r n t)
 | [],r,n=>by simp [znb]
 | c::t,r,n=>by
  obtain ⟨h1,h2,h3,h4,h5⟩:=zov t (zvd r c) (n+1);simp only [znb]
  split
  ·rename_i hc;refine ⟨by omega,by simp only [List.length_cons];omega,fun _=>Nat.le_refl _,fun _ h=>?_,fun _=>?_⟩
   ·rcases h with h | h
    ·omega
    ·cases h
   ·simp only [Bool.or_eq_true,Bool.and_eq_true,decide_eq_true_eq] at hc;omega
  ·rename_i hc;refine ⟨by omega,by simp;omega,fun _=>by omega,fun hn h=>?_,fun h=>h5 (by simp at h;omega)⟩;have h6:n+1 < 64:=by
    simp only [Bool.or_eq_true,decide_eq_true_eq,not_or] at hc;omega
   exact h4 (by omega) (.inl h6)
theorem zou {b:List UInt8} (h:b≠[]):1≤zrt b:=(zov b 0 0).2.2.1 h
theorem zyk (b:List UInt8):zrt b≤b.length:=by have:=(zov b 0 0).2.1;rwa [Nat.zero_add] at this
theorem nextL_64 (b:List UInt8):zrt b≤64:=(zov b 0 0).2.2.2.1 (by decide) (.inl (by decide))
theorem nextL_8 {b:List UInt8} (h:zrt b < b.length):8≤zrt b:=(zov b 0 0).2.2.2.2 (by rw [Nat.zero_add];exact h)
def cutL (b:List UInt8):List (List UInt8):=if h:b=[] then [] else b.take (zrt b)::cutL (b.drop (zrt b))
termination_by b.length
decreasing_by
 have h1:=zou h;have:0 < b.length:=List.length_pos_iff.2 h;simp only [List.length_drop];omega
theorem zqb:cutL []=[]:=by unfold cutL;simp
theorem zsb {b:List UInt8} (h:b≠[]):cutL b=b.take (zrt b)::cutL (b.drop (zrt b)):=by rw [cutL,dif_neg h]
theorem len_ind {p:List UInt8→Prop} (h:∀ b,(∀ c,c.length < b.length→p c)→p b) (b:List UInt8):p b:=by
 suffices ∀ n,∀ b:List UInt8,b.length < n→p b from this _ b (Nat.lt_succ_self _)
 intro n
 induction n with
 | zero=>intro b hb;omega
 | succ n ih=>intro b hb;exact h b fun c hc=>ih c (by omega)
theorem zza {p:List UInt8→Prop} (h0:p []) (h1:∀ b,b≠[]→p (b.drop (zrt b))→p b) (b:List UInt8):p b:=by
 refine len_ind (fun b ih=>?_) b
 by_cases h:b=[]
 ·subst h;exact h0
 ·refine h1 b h (ih _ ?_);have h2:=zou h;have:0 < b.length:=List.length_pos_iff.2 h;simp only [List.length_drop];omega
theorem cutL_flat (b:List UInt8):(cutL b).flatten=b:=by
 refine zza (p:=fun b=>(cutL b).flatten=b) (by rw [zqb];rfl) (fun b h ih=>?_) b;rw [zsb h,List.flatten_cons,ih,List.take_append_drop]
theorem cutL_mem (b:List UInt8):∀ x∈cutL b,1≤x.length∧x.length≤64:=by
 refine zza (p:=fun b=>∀ x∈cutL b,1≤x.length∧x.length≤64) (by rw [zqb];intro x hx;simp at hx) (fun b h ih=>?_) b;rw [zsb h];intro x hx;rcases List.mem_cons.1 hx with rfl | hx
 ·have h1:=zou h;have h2:=nextL_64 b;have h3:=zyk b;simp only [List.length_take];omega
 ·exact ih x hx
theorem zyz (b:List UInt8):8*(cutL b).length≤b.length+7:=by
 refine zza (p:=fun b=>8*(cutL b).length≤b.length+7) (by rw [zqb];simp) (fun b h ih=>?_) b;rw [zsb h];have h1:=zou h;have h3:=zyk b;simp only [List.length_cons,List.length_drop] at ih ⊢;rcases Nat.lt_or_ge (zrt b) b.length with h4 | h4
 ·have:=nextL_8 h4;omega
 ·have:b.drop (zrt b)=[]:=List.drop_eq_nil_of_le h4;rw [this,zqb];have:0 < b.length:=List.length_pos_iff.2 h;simp only [List.length_nil];omega
theorem cutL_empty (b:List UInt8):cutL b=[] ↔ b=[]:=by
 constructor
 ·intro h;have:=cutL_flat b;rw [h] at this;exact this.symm
 ·rintro rfl;exact zqb
theorem mul2 (x:UInt32):x*(2:UInt32)=x <<< UInt32.ofNat 1:=by
 apply UInt32.toNat.inj;rw [UInt32.toNat_mul,UInt32.toNat_shiftLeft];rw [show (2:UInt32).toNat=2 from rfl,show (UInt32.ofNat 1).toNat % 32=1 from rfl,Nat.shiftLeft_eq]
theorem rnext_eq (b:List UInt8) (hb:b.length < 4611686018427387904):zci b=some (zrt b:Int):=by
 unfold zci;refine zfd (S:=UInt32 × Int) (σ:=UInt32) (fun i r=>(r,(i:Int))) b.length (fun i r=>i < 64∧znb r i (b.drop i)=zrt b) _ (i0:=0) rfl (Nat.zero_le _) ⟨by decide,rfl⟩ hb ?_ ?_
 ·intro rec i r hi hI hrec;obtain ⟨h64,hI⟩:=hI;simp only [zci.l2];rw [List.drop_eq_getElem_cons hi] at hI;simp only [znb] at hI;rw [if_t (lt_t hi),zds hi,zaq,zbw (by omega)];have e1:decide (((i+1:Nat):Int)=64)=decide (64≤i+1):=by rw [decide_eq_decide];omega
  have e2:decide (8≤((i+1:Nat):Int))=decide (8≤i+1):=by rw [decide_eq_decide];omega
  rw [e1,e2,mul2];show (if ((decide (8≤i+1)&&regHigh (zvd r b[i]))||decide (64≤i+1))=true then _ else rec (zvd r b[i],((i+1:Nat):Int)))=_;rw [Bool.or_comm]
  split
  ·rename_i hc;rw [if_pos hc] at hI;rw [← hI]
  ·rename_i hc;rw [if_neg hc] at hI;refine hrec _ ⟨?_,hI⟩;simp only [Bool.or_eq_true,decide_eq_true_eq,not_or] at hc;omega
 ·intro rec r hI;simp only [zci.l2,zci.k1];rw [if_f (lt_f (Nat.lt_irrefl _))];have hI2:=hI.2;rw [List.drop_length] at hI2;simp only [znb] at hI2;rw [← hI2]
theorem rcut_eq (b:List UInt8) (hb:b.length≤1000000):zcr b=some (cutL b):=by
 unfold zcr;refine zpv (S:=List UInt8 × List (List UInt8)) (fun s=>s.1.length≤1000000∧s.2.length+s.1.length≤1000000∧s.2++cutL s.1=cutL b) (fun s=>s.1.length) ⟨hb,by simpa using hb,rfl⟩ (by show b.length < _;omega) ?_;rintro rec ⟨q,acc⟩ ⟨h1,h2,h3⟩ hrec;simp only at h1 h2 h3;simp only [zcr.l2,zcr.k1]
 by_cases hq:q=[]
 ·subst hq;rw [if_neg (by simp)];rw [zqb,List.append_nil] at h3;rw [h3]
 ·have h4:=zou hq;have h5:=zyk q;have h6:0 < q.length:=List.length_pos_iff.2 hq;rw [if_pos (by simp;omega),rnext_eq q (by omega),zaq,zim (by omega) (by omega) (by omega),zaq,Int.toNat_natCast,Int.toNat_zero,List.drop_zero,twinB_eq _ (by simp;omega),zaq,zdp (by simp;omega),zaq,zim (by omega) (by omega) (by omega),zaq,Int.toNat_natCast,Int.toNat_natCast,List.take_length];refine hrec _ ⟨by simp;omega,by simp;omega,?_⟩ (by simp;omega);rw [← h3,zsb hq];simp
end Go.Wk.Lf
end
section
namespace Go.Wk.Lf
open Go.V Go.Sort Go.Proofs
noncomputable def insC (cs:List (List UInt8)) (c:List UInt8):List (List UInt8) :=
 if (cs.map sumP)[zfc (cs.map sumP) (sumP c)]? = some (sumP c) then cs else cs.take (zfc (cs.map sumP) (sumP c))++[c]++cs.drop (zfc (cs.map sumP) (sumP c))
theorem zys (cs:List (List UInt8)) (c:List UInt8):(insC cs c).map sumP=insI (cs.map sumP) (sumP c):=by
 unfold insC insI
 split <;> simp [List.map_take,List.map_drop]
theorem insC_len (cs:List (List UInt8)) (c:List UInt8):(insC cs c).length≤cs.length+1:=by
 have:=insI_len (cs.map sumP) (sumP c);rw [← zys] at this;simpa using this
theorem insC_mem {cs:List (List UInt8)} {c x:List UInt8} (h:x∈insC cs c):x∈cs∨x=c:=by
 unfold insC at h
 split at h
 ·exact .inl h
 ·simp only [List.mem_append,List.mem_singleton] at h;rcases h with (h | h) | h
  ·exact .inl (List.mem_of_mem_take h)
  ·exact .inr h
  ·exact .inl (List.mem_of_mem_drop h)
theorem foldC_len (l:List (List UInt8)):∀ cs,(l.foldl insC cs).length≤cs.length+l.length:=by
 induction l with
 | nil=>intro cs;exact Nat.le_refl _
 | cons c l ih=>intro cs;have h1:=ih (insC cs c);have h2:=insC_len cs c;simp only [List.foldl_cons,List.length_cons];omega
theorem foldC_mem (l:List (List UInt8)):∀ cs x,x∈l.foldl insC cs→x∈cs∨x∈l:=by
 induction l with
 | nil=>intro cs x h;exact .inl h
 | cons c l ih =>
  intro cs x h;rcases ih _ x h with h | h
  ·rcases insC_mem h with h | h
   ·exact .inl h
   ·exact .inr (by rw [h];simp)
  ·exact .inr (by simp [h])
theorem foldC_map (l:List (List UInt8)):∀ cs,(l.foldl insC cs).map sumP=(l.map sumP).foldl insI (cs.map sumP):=by
 induction l with
 | nil=>intro cs;rfl
 | cons c l ih=>intro cs;rw [List.foldl_cons,ih,zys];rfl
noncomputable def partR (f:File):Part:=Part.mk f.path (f.data.length:Int) ((cutL f.data).map sumP)
def zlm (l:List File):List (List UInt8):=l.flatMap fun f=>cutL f.data
noncomputable def zhd (l:List File):List (List UInt8):=(zlm l).foldl insC []
noncomputable def manR (name:List UInt8) (l:List File):Manifest:=⟨name,l.map partR⟩
theorem all32 (cs:List (List UInt8)):∀ y∈cs.map sumP,y.length=32:=fun y hy=>by
 obtain ⟨x,_,rfl⟩:=List.mem_map.1 hy;exact sumP_len x
theorem build_l5 (i32:Int) (l33:List Part) (rec36) (f:File) (ps:List (List UInt8)) (hps:ps.length≤25) (hp:∀ x∈ps,x.length≤64) (cs:List (List UInt8)) (hcs:cs.length≤1000) :
  loop (zan.l5 i32 l33 rec36 f) (cs.map sumP,cs,ps,0,[])=zan.k4 i32 l33 rec36 f ((ps.foldl insC cs).map sumP) (ps.foldl insC cs) (ps.map sumP):=by
 have:=zgr (F:=zan.l5 i32 l33 rec36 f) (x0:=(cs.map sumP,cs,ps,0,[])) (fun i (s:List (List UInt8))=>(s.map sumP,s,ps,(i:Int),(ps.take i).map sumP)) ps insC (fun s=>zan.k4 i32 l33 rec36 f (s.map sumP) s (ps.map sumP)) (fun i s=>s.length≤1000+i) (i0:=0) (s0:=cs) rfl (Nat.zero_le _) hcs (by omega) ?_ ?_
 ·rw [this];rfl
 ·intro rec i s hi hs;have hl:=hp _ (List.getElem_mem hi);refine ⟨by have:=insC_len s ps[i];omega,?_⟩;simp only [zan.l5];rw [if_t (lt_t hi),zds hi,zaq,b_sum _ (by omega),zaq,zdp (by simp;omega),zaq,add_eq _ _ (by simp;omega) (all32 s) (sumP_len _),zaq];have hk:=zos (s.map sumP) (sumP ps[i]);rw [List.length_map] at hk;rw [zys,zdo hi,List.map_append];simp only [zan.k6,zbw (show i < 4611686018427387904 by omega)]
  by_cases h:(s.map sumP)[zfc (s.map sumP) (sumP ps[i])]? = some (sumP ps[i])
  ·rw [if_f (by simp [h])];unfold insC;rw [if_pos h];rfl
  ·rw [if_t (show (!decide ((s.map sumP)[zfc (s.map sumP) (sumP ps[i])]? = some (sumP ps[i])))=true by rw [decide_eq_false h];rfl),zim (by omega) (by omega) (by omega),zaq,zaq,zdp (by simp;omega),zaq,zdp (by simp;omega),zaq,zim (by omega) (by omega) (by omega),zaq,zdp (by simp;omega),zaq];unfold insC;rw [if_neg h];simp
 ·intro rec s hs;simp only [zan.l5];rw [if_f (lt_f (Nat.lt_irrefl _)),List.take_length]
theorem rbuild_eq (name:List UInt8) (l:List File) (hn:zjx name=true) (hl:l.length≤6) (hd:∀ f∈l,f.data.length≤200) (hp:∀ f∈l,f.path.length < 9223372036854775808) (hc:chkL l=0) :
  zan name l=some (manR name l,zhd l,0):=by
 have hnl:name.length≤20:=by
  unfold zjx at hn;simp only [Bool.and_eq_true,decide_eq_true_eq] at hn;omega
 unfold zan;rw [zsm name (by omega),zaq,hn,if_f (show (!true)=false from rfl),reftree_eq l (by omega) hp,zaq,hc,if_f (by decide)];have hcut:∀ (i:Nat) (hi:i < l.length),(cutL l[i].data).length≤25:=fun i hi=>by
  have h1:=zyz l[i].data;have h2:=hd _ (List.getElem_mem hi);omega
 have:=zgr (F:=zan.l2 name l) (x0:=([],[],0,[])) (fun i (s:List (List UInt8))=>(s.map sumP,s,(i:Int),(l.take i).map partR)) l (fun s f=>(cutL f.data).foldl insC s) (fun s=>some (manR name l,s,0)) (fun i s=>s.length≤25*i) (i0:=0) (s0:=[]) rfl (Nat.zero_le _) (Nat.le_refl _) (by omega) ?_ ?_
 ·rw [this];unfold zhd zlm;rw [List.foldl_flatMap];rfl
 ·intro rec i s hi hs;have h1:=hcut i hi;have h2:=hd _ (List.getElem_mem hi);refine ⟨by have:=foldC_len (cutL l[i].data) s;omega,?_⟩;simp only [zan.l2];rw [if_t (lt_t hi),zds hi,zaq,zaq,rcut_eq _ (by omega),zaq,build_l5 _ _ _ _ _ h1 (fun x hx=>(cutL_mem _ x hx).2) s (by omega)];simp only [zan.k4,zan.k3];rw [zdp (by simp;omega),zaq,zbw (by omega),zdo hi,List.map_append];rfl
 ·intro rec s hs;simp only [zan.l2,zan.k1];rw [if_f (lt_f (Nat.lt_irrefl _)),List.take_length];rfl
theorem zzf (l:List File):zps ((zhd l).map sumP):=by
 unfold zhd;rw [foldC_map];exact (foldI _ [] List.Pairwise.nil).1
theorem chunksR_ids (l:List File) (y:List UInt8):y∈(zhd l).map sumP ↔ y∈(zlm l).map sumP:=by
 unfold zhd;rw [foldC_map];show y∈List.foldl insI [] ((zlm l).map sumP) ↔ _;rw [(foldI _ _ List.Pairwise.nil).2.1];simp
theorem zqv {l:List File} {x:List UInt8} (h:x∈zhd l):1≤x.length∧x.length≤64:=by
 rcases foldC_mem _ _ _ h with h | h
 ·cases h
 ·obtain ⟨f,_,h⟩:=List.mem_flatMap.1 h;exact cutL_mem _ _ h
theorem zvj {l:List File} (hl:l.length≤6) (hd:∀ f∈l,f.data.length≤200):(zlm l).length≤150:=by
 have h:∀ l:List File,(∀ f∈l,f.data.length≤200)→(zlm l).length≤25*l.length:=fun l=>by
  induction l with
  | nil=>intro _;exact Nat.le_refl _
  | cons f l ih =>
   intro hd;have h1:=ih fun g hg=>hd g (by simp [hg]);have h2:=zyz f.data;have h3:=hd f (by simp);unfold zlm at *;simp only [List.flatMap_cons,List.length_append,List.length_cons];omega
 have:=h l hd;omega
theorem zwf {l:List File} (hl:l.length≤6) (hd:∀ f∈l,f.data.length≤200):(zhd l).length≤150:=by
 have h1:=foldC_len (zlm l) [];have h2:=zvj hl hd;unfold zhd;simp only [List.length_nil] at h1;omega
theorem ids_manR (name:List UInt8) (l:List File):zne (manR name l)=(zlm l).map sumP:=by
 unfold zne manR zlm;simp only [List.flatMap_map,List.map_flatMap];rfl
end Go.Wk.Lf
end
section
namespace Go.Wk.Lf
open Go.V Go.Sort Go.Proofs
def zyj (c:Catalog) (f:Found):Option Catalog:=if f.rec_.kind=1 then zen c f else if f.rec_.kind=2 then zes c f else if f.rec_.kind=3 then zhk c f else some c
def notesO:List Found→Catalog→Option Catalog
 | [],c=>some c
 | f::l,c=>bd (zyj c f) (notesO l)
def finO (c:Catalog):Option (Catalog × Int):=zax.k1 c.exps c.chunks c.snaps c.seq c.vols
theorem from_eq (vs:List Vol) (fs:List Found) (C:Catalog) (hv:vs.length≤1073741824) (hf:fs.length≤1073741824) (h:notesO fs (bareC vs)=some C):zax vs fs=finO C:=by
 unfold zax zdg;rw [zjr _ hv,zaq];refine zfd (σ:=Catalog) (fun i c=>((i:Int),c.exps,c.chunks,c.snaps,c.seq,c.vols)) fs.length (fun i c=>notesO (fs.drop i) c=some C) _ (i0:=0) (s0:=bareC vs) rfl (Nat.zero_le _) h (by omega) ?_ ?_
 ·intro rec i c hi hI hrec;simp only [zax.l8];rw [if_t (lt_t hi),zds hi,zaq];rw [List.drop_eq_getElem_cons hi] at hI;obtain ⟨d,hd,hI⟩:=zap hI;have hr:=hrec d hI;have k9:zax.k9 (i:Int) rec d.exps d.chunks d.snaps d.seq d.vols=finO C:=by
   unfold zax.k9;rw [zbw (by omega)];exact hr
  unfold zyj at hd
  by_cases h1:fs[i].rec_.kind=1
  ·rw [if_t (decide_eq_true h1)];rw [if_pos h1] at hd;rw [show Catalog.mk c.seq c.snaps c.chunks c.exps c.vols=c from rfl,hd,zaq];exact k9
  ·rw [if_f (decide_eq_false h1)];rw [if_neg h1] at hd
   by_cases h2:fs[i].rec_.kind=2
   ·rw [if_t (decide_eq_true h2)];rw [if_pos h2] at hd;rw [show Catalog.mk c.seq c.snaps c.chunks c.exps c.vols=c from rfl,hd,zaq];exact k9
   ·rw [if_f (decide_eq_false h2)];rw [if_neg h2] at hd
    by_cases h3:fs[i].rec_.kind=3
    ·rw [if_t (decide_eq_true h3)];rw [if_pos h3] at hd;rw [show Catalog.mk c.seq c.snaps c.chunks c.exps c.vols=c from rfl,hd,zaq];exact k9
    ·rw [if_f (decide_eq_false h3)];rw [if_neg h3] at hd;obtain rfl:=Option.some.inj hd;exact k9
 ·intro rec c hI;simp only [zax.l8];rw [if_f (lt_f (Nat.lt_irrefl _))];rw [List.drop_length] at hI;obtain rfl:=Option.some.inj hI;rfl
def putC (l:List Chunk) (id:List UInt8) (loc:Loc):List Chunk :=
 if ztw l id=true then l.set (zhv l id) (Chunk.mk (l.getD (zhv l id) default).id (l.getD (zhv l id) default).staged (l.getD (zhv l id) default).data ((l.getD (zhv l id) default).locs++[loc]))
 else l.take (zhv l id)++[Chunk.mk id false [] [loc]]++l.drop (zhv l id)
theorem ins_ok {α:Type} {l:List α} {k:Nat} {x:α} (hk:k≤l.length) (hl:l.length≤1000000):insD l (k:Int) [x]=some (l.take k++[x]++l.drop k):=by
 unfold insD;rw [if_pos ⟨by omega,by omega,by simp,by simp;omega⟩,Int.toNat_natCast]
theorem mid_get {α:Type} {l:List α} {k:Nat} {x:α} (hk:k≤l.length):(l.take k++[x]++l.drop k)[k]? = some x:=by
 rw [List.append_assoc,List.getElem?_append_right (by simp [hk])];simp [Nat.min_eq_left hk]
theorem mid_set {α:Type} {l:List α} {k:Nat} {x y:α} (hk:k≤l.length):(l.take k++[x]++l.drop k).set k y=l.take k++[y]++l.drop k:=by
 rw [List.append_assoc,List.set_append_right _ _ (by simp [hk])];simp [Nat.min_eq_left hk]
theorem chunk_step (c:Catalog) (f:Found) (hk:f.rec_.kind=1) (hr:zlw c.chunks) (hl:c.chunks.length≤1000000) (hs:∀ x∈c.chunks,x.locs.length≤1000000) (h1:1≤f.rec_.data.length) (h64:f.rec_.data.length≤64) :
  zyj c f=some ⟨c.seq,c.snaps,putC c.chunks (sumP f.rec_.data) f.loc,c.exps,c.vols⟩:=by
 unfold zyj;rw [if_pos hk];unfold zen;rw [if_f (by rw [decide_eq_false (by omega),decide_eq_false (by omega)];rfl),a_sum _ (by omega),zaq,zyd _ _ (by omega) hr,zaq];have hle:=chunkAt_le c.chunks (sumP f.rec_.data);unfold putC;cases h:ztw c.chunks (sumP f.rec_.data) with
 | true =>
  rw [if_f (by rfl),if_pos rfl];have hlt:zhv c.chunks (sumP f.rec_.data) < c.chunks.length:=by
   unfold ztw at h;simp only [Bool.and_eq_true,decide_eq_true_eq] at h;exact h.1
  unfold zen.k1;rw [zds hlt,zaq,zdp (by have:=hs _ (List.getElem_mem hlt);simp;omega),zaq,zaq,zdj hlt,Int.toNat_natCast]
 | false =>
  rw [if_t (by rfl),ins_ok hle hl,zaq,if_neg (by decide)];unfold zen.k1;rw [ztv (mid_get hle),zaq,zdp (by simp),zaq,zaq,Int.toNat_natCast,mid_set hle];simp only [List.nil_append]
theorem snapAt_nil (n:Int):zaa [] n=some (0,false):=by
 unfold zaa;refine zpv (S:=Int × Int) (fun s=>s=(0,0)) (fun _=>0) rfl (by decide) ?_;rintro rec s rfl _;rfl
theorem next_seq {q s:Int} (h0:0≤s) (h1:s≤1000000) (hq:q≤s):(if q < wr ((if 1073741824 < s then 1073741824 else s)+1) then wr ((if 1073741824 < s then 1073741824 else s)+1) else q)=s+1:=by
 rw [show (if 1073741824 < s then 1073741824 else s)=s from if_neg (by omega),zfy (by omega) (by omega),if_pos (by omega)]
theorem snap_first (c:Catalog) (f:Found) (m:Manifest) (hk:f.rec_.kind=2) (hn:c.snaps=[]) (hm:zyr f.rec_.data m) (hl:f.rec_.data.length≤1000000000) (h0:0≤f.rec_.seq) (h1:f.rec_.seq≤1000000) (hq:c.seq≤f.rec_.seq) :
  zyj c f=some ⟨f.rec_.seq+1,[Snap.mk f.rec_.seq m [f.loc]],c.chunks,c.exps,c.vols⟩:=by
 unfold zyj;rw [if_neg (by omega),if_pos hk];unfold zes;rw [read_eq _ hl,readL_man hm,zaq,if_f (decide_eq_false (fun h=>h rfl)),hn,snapAt_nil,zaq,if_t (by rfl)];rw [show insD ([]:List Snap) 0 [Snap.mk f.rec_.seq m []]=some [Snap.mk f.rec_.seq m []] from rfl,zaq];unfold zes.k1;rw [show ix [Snap.mk f.rec_.seq m []] (0:Int)=some (Snap.mk f.rec_.seq m []) from rfl,zaq,zdp (by simp),zaq,zaq];rw [next_seq h0 h1 hq];rfl
def ztu (so:List Loc→List Loc) (S:List Snap) (c:Catalog):Catalog :=
 ⟨c.seq,S.map fun s=>Snap.mk s.seq s.man (so s.locs),c.chunks.map fun x=>Chunk.mk x.id x.staged x.data (so x.locs),c.exps.map fun x=>Exp.mk x.seq x.of (so x.locs),c.vols⟩
theorem fin_eq (c:Catalog) (S:List Snap) (so:List Loc→List Loc) (hS:zcn c=some S) (hv:c.vols.length≤1000000) (hs:S.length≤1000000) (hc:c.chunks.length≤1000000) (he:c.exps.length≤1000000)
  (p1:∀ x∈S,zis x.locs=some (so x.locs)) (p2:∀ x∈c.chunks,zis x.locs=some (so x.locs)) (p3:∀ x∈c.exps,zis x.locs=some (so x.locs)) :
  finO c=some (if catB (ztu so S c)=true then (ztu so S c,0) else (Catalog.mk 0 [] [] [] [],1)):=by
 have e4:zax.k4 c.seq c.vols (S.map fun s=>Snap.mk s.seq s.man (so s.locs)) (c.chunks.map fun x=>Chunk.mk x.id x.staged x.data (so x.locs)) (c.exps.map fun x=>Exp.mk x.seq x.of (so x.locs))=some (if catB (ztu so S c)=true then (ztu so S c,0) else (Catalog.mk 0 [] [] [] [],1)):=by
  unfold zax.k4;rw [show Catalog.mk c.seq (S.map fun s=>Snap.mk s.seq s.man (so s.locs)) (c.chunks.map fun x=>Chunk.mk x.id x.staged x.data (so x.locs)) (c.exps.map fun x=>Exp.mk x.seq x.of (so x.locs)) c.vols=ztu so S c from rfl];rw [check_eq _ (by unfold ztu;simp only;omega) (by unfold ztu;simp only [List.length_map];omega) (by unfold ztu;simp only [List.length_map];omega) (by unfold ztu;simp only [List.length_map];omega),zaq]
  by_cases h:catB (ztu so S c)=true
  ·rw [if_pos h,if_pos h,twinCat_eq _ (zxk h)];rfl
  ·rw [if_neg h,if_neg h];rfl
 unfold finO zax.k1;rw [show Catalog.mk c.seq c.snaps c.chunks c.exps c.vols=c from rfl,hS,zaq];rw [zlo S (fun s=>Snap.mk s.seq s.man (so s.locs)) (fun l=>zax.k2 c.exps c.chunks c.seq c.vols l) (by omega) ?_ ?_]
 ·unfold zax.k2;rw [zlo c.chunks (fun x=>Chunk.mk x.id x.staged x.data (so x.locs)) (fun l=>zax.k3 c.exps c.seq c.vols (S.map fun s=>Snap.mk s.seq s.man (so s.locs)) l) (by omega) ?_ ?_]
  ·unfold zax.k3;rw [zlo c.exps (fun x=>Exp.mk x.seq x.of (so x.locs)) (fun l=>zax.k4 c.seq c.vols (S.map fun s=>Snap.mk s.seq s.man (so s.locs)) (c.chunks.map fun x=>Chunk.mk x.id x.staged x.data (so x.locs)) l) (by omega) ?_ ?_]
   ·exact e4
   ·intro rec i l hi hm hx;simp only [zax.l5];rw [if_t (lt_t hi),ztv hx,zaq,p3 _ (List.getElem_mem hi),zaq,zbw (by omega),Int.toNat_natCast]
   ·intro rec l hl;simp only [zax.l5];rw [if_f (lt_f (Nat.lt_irrefl _))]
  ·intro rec i l hi hm hx;simp only [zax.l6];rw [if_t (lt_t hi),ztv hx,zaq,p2 _ (List.getElem_mem hi),zaq,zbw (by omega),Int.toNat_natCast]
  ·intro rec l hl;simp only [zax.l6];rw [if_f (lt_f (Nat.lt_irrefl _))]
 ·intro rec i l hi hm hx;simp only [zax.l7];rw [if_t (lt_t hi),ztv hx,zaq,p1 _ (List.getElem_mem hi),zaq,zbw (by omega),Int.toNat_natCast]
 ·intro rec l hl;simp only [zax.l7];rw [if_f (lt_f (Nat.lt_irrefl _))]
def stayB (c:Catalog) (s:Snap):Bool:=allN c.exps.length (fun k=>!decide ((c.exps.getD k default).of=s.seq))&&allN (idsU (zne s.man)).length fun k=>ztw c.chunks ((idsU (zne s.man)).getD k default)
theorem stays_eq (c:Catalog) (s:Snap) (he:c.exps.length≤1000000) (hc:c.chunks.length≤1000000) (hr:zlw c.chunks) (hp:s.man.parts.length≤1000000) (hi:(zne s.man).length≤1000000):zii c s=some (stayB c s):=by
 have hu:=idsU_len (zne s.man);unfold zii zcf zal;rw [zso c.exps.length (fun k=>decide ((c.exps.getD k default).of=s.seq)) (by omega) ?_ ?_,zaq,zaq,zoy]
 ·unfold stayB;cases allN c.exps.length (fun k=>!decide ((c.exps.getD k default).of=s.seq)) with
  | false=>rfl
  | true =>
   rw [if_f (by rfl),mids_eq _ (by omega) (by omega),zaq];unfold zcg zam;rw [zso (idsU (zne s.man)).length (fun k=>!ztw c.chunks ((idsU (zne s.man)).getD k default)) (by omega) ?_ ?_,zaq,zaq,zoy]
   ·simp
   ·intro rec i hi;simp only [zam.l2,zje];rw [if_t (lt_t hi),zds hi,zaq,zyd _ _ (by omega) hr,zaq,zaq,zdj hi,zbw (by omega)]
   ·intro rec;simp only [zam.l2,zam.k1];rw [if_f (lt_f (Nat.lt_irrefl _))]
 ·intro rec i hi;simp only [zal.l2,zjf];rw [if_t (lt_t hi),zds hi,zaq,zaq,zdj hi,zbw (by omega)]
 ·intro rec;simp only [zal.l2,zal.k1];rw [if_f (lt_f (Nat.lt_irrefl _))]
theorem del_nil (s:Snap):zag [] s=some []:=by
 unfold zag;rw [show zau [] s=some (-1) from ?_]
 ·rfl
 ·unfold zau;refine zpv (S:=Int) (fun s=>s=0) (fun _=>0) rfl (by decide) ?_;rintro rec s rfl _;rfl
theorem snaps_one (c:Catalog) (s:Snap) (b:Bool) (h:c.snaps=[s]) (hb:zii c s=some b):zcn c=some (if b=true then [s] else []):=by
 unfold zcn;refine zfd (S:=List Snap × Int) (σ:=Unit) (fun i _=>(if i=0 then [] else if b=true then [s] else [],(i:Int))) 1 (fun _ _=>True) _ (i0:=0) (s0:=()) rfl (Nat.zero_le _) trivial (by omega) ?_ ?_
 ·intro rec i _ hi _ hrec;obtain rfl:i=0:=by omega
  have hr:=hrec () trivial;simp only [zcn.l2,zcn.k3];rw [if_t (by rw [h];rfl),h,show ix [s] ((0:Nat):Int)=some s from rfl,zaq,hb,zaq];rw [if_neg (by decide)] at hr;cases b with
  | true=>rw [if_t rfl,if_pos trivial,del_nil,zaq,zdp (by simp),zaq];exact hr
  | false=>rw [if_f rfl,if_pos trivial];exact hr
 ·intro rec _ _;simp only [zcn.l2,zcn.k1];rw [if_f (by rw [h];rfl),if_neg (by decide)]
end Go.Wk.Lf
end
section
namespace Go.Wk.Lf
open Go.V Go.Sort Go.Proofs
theorem compactK_eq (xs:List Loc) (hl:xs.length≤1073741824):zae xs=some (zeu xs):=by
 unfold zae
 by_cases h2:xs.length < 2
 ·rw [if_t (decide_eq_true (by omega)),zmc _ h2]
 ·rw [if_f (decide_eq_false (by omega))];refine zfd (S:=Int) (σ:=Unit) (fun i _=>(i:Int)) xs.length (fun i _=>1≤i∧zeu (xs.take i)=xs.take i) _ (i0:=1) (s0:=()) rfl (by omega) ⟨by omega,zmc _ (by simp;omega)⟩ (by omega) ?_ ?_
  ·intro rec i _ hi hI hrec;obtain ⟨h1,hc⟩:=hI;simp only [zae.l2,zae.k3];rw [if_t (lt_t hi),zds hi,zaq,zmh (by omega) (by omega),zds (show i - 1 < xs.length by omega),zaq];have hst:=zlc (l:=xs) (j:=i - 1) (a:=xs[i - 1]) (b:=xs[i]) (List.getElem?_eq_getElem (by omega)) (by rw [show i - 1+1=i by omega];exact List.getElem?_eq_getElem hi);rw [show i - 1+2=i+1 by omega,show i - 1+1=i by omega,hc] at hst
   by_cases he:xs[i]=xs[i - 1]
   ·rw [if_t (decide_eq_true he),zim (by omega) (by omega) (by omega),zaq];rw [if_pos he.symm] at hst;refine zfd (S:=Int × Int × List Loc) (σ:=Nat × List Loc) (fun k s=>((s.1:Int),(k:Int),s.2)) (xs.length - i) (fun k s=>s.2.length=xs.length∧1≤k∧1≤s.1∧s.1≤i+k - 1∧s.2.take s.1=zeu (xs.take (i+k)) ∧ ∀ q,i+k - 1≤q→s.2[q]? = xs[q]?) _ (i0:=1) (s0:=(i,xs)) rfl (by omega) ⟨rfl,by omega,by omega,by simp,hst.symm,fun q _=>rfl⟩ (by omega) ?_ ?_
    ·rintro rec2 k ⟨w,cs⟩ hk ⟨e1,e2,e3,e4,e5,e6⟩ hrec2;simp only at e1 e3 e4 e5 e6;simp only [zae.l5,zae.k6,Int.toNat_natCast];have hck:i+k < cs.length:=by omega
     have hg1:cs[i+k]=xs[i+k]:=by have:=e6 (i+k) (by omega);rw [List.getElem?_eq_getElem hck,List.getElem?_eq_getElem (by omega)] at this;exact Option.some.inj this
     have hg2:cs[i+(k - 1)]=xs[i+(k - 1)]:=by have:=e6 (i+(k - 1)) (by omega);rw [List.getElem?_eq_getElem (by omega),List.getElem?_eq_getElem (by omega)] at this;exact Option.some.inj this
     have hst2:=zlc (l:=xs) (j:=i+(k - 1)) (a:=xs[i+(k - 1)]) (b:=xs[i+k]) (List.getElem?_eq_getElem (by omega)) (by rw [show i+(k - 1)+1=i+k by omega];exact List.getElem?_eq_getElem (by omega));rw [show i+(k - 1)+2=i+(k+1) by omega,show i+(k - 1)+1=i+k by omega,← e5] at hst2;rw [if_t (lt_t hk),ixp_lt hk hck,zaq,zmh (by omega) (by omega),ixp_lt (show k - 1 < xs.length - i by omega) (by omega),zaq,hg1,hg2]
     by_cases hne:xs[i+k]=xs[i+(k - 1)]
     ·rw [if_f (by simp [hne]),zbw (by omega)];rw [if_pos hne.symm] at hst2;exact hrec2 (w,cs) ⟨e1,by omega,e3,by simp only;omega,hst2.symm,fun q hq=>e6 q (by omega)⟩
     ·rw [if_t (by simp [hne]),zaq,zds (show w < cs.length by omega),zaq,zbw (by omega),zbw (by omega)];rw [if_neg (fun h=>hne h.symm)] at hst2;refine hrec2 (w+1,cs.set w xs[i+k]) ⟨by simp [e1],by omega,by simp,by simp only;omega,?_,fun q hq=>?_⟩
      ·simp only;rw [zre _ (by omega),hst2]
      ·simp only;rw [List.getElem?_set_ne (by omega)];exact e6 q (by omega)
    ·rintro rec2 ⟨w,cs⟩ ⟨e1,e2,e3,e4,e5,e6⟩;simp only at e1 e3 e4 e5 e6;simp only [zae.l5,zae.k4,Int.toNat_natCast];rw [if_f (lt_f (Nat.lt_irrefl _)),zim (by omega) (by omega) (by omega),zaq];rw [show clr cs w (cs.length - w) (Loc.mk 0 0 0 0)=some (cs.take w++List.replicate (cs.length - w) (Loc.mk 0 0 0 0)) from if_pos (by omega),zaq];rw [zim (by omega) (by omega) (by simp;omega),zaq];simp only [Int.toNat_natCast,Int.toNat_zero,List.drop_zero];rw [nz_ok (by simp only [ne_eq,List.append_eq_nil_iff,not_and];intro q;have q2:=congrArg List.length q;rw [List.length_take,List.length_nil] at q2;omega),zaq,List.take_append_of_le_length (by simp;omega),List.take_take,Nat.min_self,e5,show i+(xs.length - i)=xs.length by omega,List.take_length]
   ·rw [if_f (decide_eq_false he),zbw (by omega)];rw [if_neg (fun h=>he h.symm)] at hst;exact hrec () ⟨by omega,by rw [hst,zdo hi]⟩
  ·intro rec _ hI;simp only [zae.l2,zae.k1];rw [if_f (lt_f (Nat.lt_irrefl _))];have:=hI.2;rw [List.take_length] at this;rw [this]
def zlj (l:List Loc):List Loc:=zeu (zry zji l)
theorem psort_eq (l:List Loc) (hl:l.length≤1000000):zis l=some (zlj l):=by
 have h1:=(znd zji l).length_eq;have h2:=zpf (zry zji l);unfold zis zbq;rw [zjr _ (by omega),zaq,sortM_ok (by omega),zaq,compactK_eq _ (by omega),zaq,zjr _ (by omega),zaq];rfl
end Go.Wk.Lf
end
section
namespace Go.Wk.Lf
open Go.V Go.Sort Go.Proofs
theorem wakes24:zgk=some true:=by decide +kernel
end Go.Wk.Lf
end
section
namespace Go.Wk.Lf
open Go.V Go.Sort Go.Proofs
structure Rows1 (G:List Found):Prop where
 kind:∀ f∈G,f.rec_.kind=1∧1≤f.rec_.data.length∧f.rec_.data.length≤64
 rise:G.Pairwise fun a b=>sLt (sumP a.rec_.data) (sumP b.rec_.data)=true
theorem locs_one {v:List Vol} {x:Loc} (h:locB v x=true):zjk v [x]=true:=by
 unfold zjk;simp only [Bool.and_eq_true,decide_eq_true_eq,zgu];refine ⟨by simp,fun i hi=>?_⟩;obtain rfl:i=0:=by simp at hi;omega
 simp [locOk,h]
theorem chunks_right {c:Catalog} (hr:zlw c.chunks) (hl:c.chunks.length≤200) (hc:∀ x∈c.chunks,x.staged=false∧x.data=[]∧0 < x.locs.length∧zjk c.vols x.locs=true):zml c=true:=by
 unfold zml;simp only [Bool.and_eq_true,decide_eq_true_eq,zgu];refine ⟨fun i hi=>?_,hl⟩;obtain ⟨h1,h2,h3,h4⟩:=hc _ (List.getElem_mem hi);unfold zpg chunkB;rw [zdj hi,h1,h2,h4];have:(!decide (0 < i)||sLt (c.chunks.getD (i - 1) default).id c.chunks[i].id)=true:=by
  by_cases h0:0 < i
  ·rw [decide_eq_true h0,zdj (by omega),pair_lt hr (by omega) hi];rfl
  ·rw [decide_eq_false h0];rfl
 rw [this];simp [h3]
theorem exps_none {c:Catalog} (h:c.exps=[]):expsB c=true:=by
 unfold expsB allN;rw [h];rfl
theorem ids_in {c:Catalog} {m:Manifest} (hr:zlw c.chunks) (h:∀ y∈zne m,∃ x∈c.chunks,x.id=y):idsIn c m=true:=by
 unfold idsIn;simp only [zgu];intro i hi k hk;rw [zdj hi] at hk ⊢;rw [zdj hk];exact (hasId_iff hr _).2 (h _ (List.mem_flatMap.2 ⟨_,List.getElem_mem hi,List.getElem_mem hk⟩))
theorem snaps_single {c:Catalog} {s:Snap} (hr:zlw c.chunks) (h:c.snaps=[s]) (h0:0≤s.seq) (h1:s.seq≤c.seq - 1) (hm:manB s.man) (hl:zjk c.vols s.locs=true) (hi:∀ y∈zne s.man,∃ x∈c.chunks,x.id=y):ztc c=true:=by
 unfold ztc;simp only [Bool.and_eq_true,decide_eq_true_eq,zgu];refine ⟨fun i hi'=>?_,by rw [h];simp⟩;obtain rfl:i=0:=by rw [h] at hi';simp at hi';omega
 have e:c.snaps.getD 0 default=s:=by rw [h];rfl
 unfold zux;rw [e,hl,ids_in hr hi,decide_eq_true hm,zqt.2 ⟨h0,h1⟩];simp
theorem cat_right {c:Catalog} (h0:0≤c.seq) (h1:c.seq≤1073741824) (hv:volsB c.vols=true) (hc:zml c=true) (hs:ztc c=true) (he:expsB c=true):catB c=true:=by
 unfold catB;rw [zqt.2 ⟨h0,h1⟩,hv,hc,hs,he];rfl
theorem tree_facts {t l:List File} (hp:t.Perm l) (hr:zll t) (hl:zvr l=false) (hb:badB l=false):t.length≤6∧(∀ f∈t,f.data.length≤200)∧(∀ f∈t,zjx f.path=true)∧chkL t=0:=by
 obtain ⟨h1,h2⟩:=long_f hl;have hd:∀ f∈t,f.data.length≤200:=fun f hf=>h2 f (hp.mem_iff.1 hf);have hn:∀ f∈t,zjx f.path=true:=fun f hf=>by
  unfold badB at hb;have:=List.any_eq_false.1 hb f (hp.mem_iff.1 hf);simpa using this
 refine ⟨by rw [hp.length_eq];exact h1,hd,hn,?_⟩;have e1:zvr t=false:=by
  unfold zvr;rw [Bool.or_eq_false_iff];refine ⟨decide_eq_false (by rw [hp.length_eq];omega),List.any_eq_false.2 fun f hf=>?_⟩;have:=hd f hf;simp;omega
 have e2:badB t=false:=by
  unfold badB;exact List.any_eq_false.2 fun f hf=>by rw [hn f hf];simp
 unfold chkL;rw [e1,if_neg (by decide),if_pos ⟨e2,hr⟩]
theorem zxb {name:List UInt8} {t:List File} (hn:zjx name=true) (hl:t.length≤6) (hd:∀ f∈t,f.data.length≤200) (hp:∀ f∈t,zjx f.path=true) (hr:zll t):manB (manR name t):=by
 refine ⟨hn,by simpa [manR] using hl,?_,?_⟩
 ·rw [List.all_eq_true];intro p hp';obtain ⟨f,hf,rfl⟩:=List.mem_map.1 hp';have h1:=zyz f.data;have h2:=hd f hf;have h3:(cutL f.data).length=0 ↔ f.data.length=0:=by
   rw [List.length_eq_zero_iff,List.length_eq_zero_iff];exact cutL_empty _
  unfold ztr partR;simp only [hp f hf,List.length_map,Bool.true_and,Bool.and_eq_true,decide_eq_true_eq,beq_iff_eq,decide_eq_decide];refine ⟨⟨⟨by omega,by omega⟩,by omega⟩,?_⟩;rw [h3];omega
 ·unfold zvc manR;simp only;rw [List.pairwise_map];exact hr
theorem manR_ids (name:List UInt8) (t:List File):okId (manR name t):=by
 intro p hp x hx;obtain ⟨f,hf,rfl⟩:=List.mem_map.1 hp;exact all32 _ x hx
def zxe (i:Nat) (d:List UInt8):Found:=Found.mk (Record.mk 1 0 d) (Loc.mk 0 1 (100*(i:Int)) (13+(d.length:Int)))
def zxd (seq:Int) (b:List UInt8):Found:=Found.mk (Record.mk 2 seq b) (Loc.mk 0 2 0 (13+(b.length:Int)))
noncomputable def zmx (t:List File):List Found:=(zhd t).mapIdx zxe
theorem zmw (t:List File):(zmx t).length=(zhd t).length:=by simp [zmx]
theorem zwx (t:List File):(zmx t).map (fun f=>f.rec_.data)=zhd t:=by
 apply List.ext_getElem (by simp [zmx]);intro i h1 h2;simp [zmx,zxe]
theorem rowsT_rows (t:List File):Rows1 (zmx t):=by
 refine ⟨fun f hf=>?_,?_⟩
 ·obtain ⟨i,hi,rfl⟩:=List.getElem_of_mem hf;have hi':i < (zhd t).length:=by rw [← zmw];exact hi
  have:(zmx t)[i]=zxe i (zhd t)[i]:=by simp [zmx]
  rw [this];exact ⟨rfl,zqv (List.getElem_mem hi')⟩
 ·have h:=zzf t;unfold zps at h;rw [← zwx,List.map_map,List.pairwise_map] at h;exact h
theorem tape_eq (name:List UInt8) (seq:Int) (t:List File) (hn:zjx name=true) (hl:t.length≤6) (hd:∀ f∈t,f.data.length≤200) (hp:∀ f∈t,zjx f.path=true) (hr:zll t) (hc:chkL t=0) :
  zcj name seq t=some (zmx t++[zxd seq (zgz (manR name t))],true):=by
 have hb:=zxb hn hl hd hp hr;have hk:=manR_ids name t;have hbl:=zmb hb hk;have hcl:=zwf hl hd;unfold zcj;rw [rbuild_eq name t hn hl hd (fun f hf=>by have:=zln (hp f hf);omega) hc,zaq,if_f (decide_eq_false (fun h=>h rfl))];refine zfd (S:=List Found × Int) (σ:=Unit) (fun i _=>((zmx t).take i,(i:Int))) (zhd t).length (fun _ _=>True) _ (i0:=0) (s0:=()) rfl (Nat.zero_le _) trivial (by omega) ?_ ?_
 ·intro rec i _ hi _ hrec;simp only [zcj.l2];have hi2:i < (zmx t).length:=by rw [zmw];exact hi
  have he:(zmx t)[i]=zxe i (zhd t)[i]:=by simp [zmx]
  have hx:=zqv (List.getElem_mem hi);have hr:=hrec () trivial;rw [zdo hi2,he] at hr;rw [if_t (lt_t hi),zds hi,zaq,zdp (by simp;omega),zaq,zbw (by omega),zfy (x:=100*(i:Int)) (by omega) (by omega),zfy (x:=13+((zhd t)[i].length:Int)) (by omega) (by omega)];exact hr
 ·intro rec _ _;simp only [zcj.l2,zcj.k1];rw [if_f (lt_f (Nat.lt_irrefl _)),rbytes_eq _ hb hk,zaq,List.take_of_length_le (by rw [zmw];exact Nat.le_refl _),zdp (by rw [zmw];simp;omega),zaq,zfy (x:=13+((zgz (manR name t)).length:Int)) (by omega) (by omega)];rfl
end Go.Wk.Lf
end
section
namespace Go.Wk.Lf
open Go.V Go.Sort Go.Proofs
end Go.Wk.Lf
end
section
namespace Go.Wk.Lf
open Go.V Go.Sort Go.Proofs
noncomputable def isC (id:List UInt8) (f:Found):Bool:=decide (f.rec_.kind=1)&&decide (sumP f.rec_.data=id)
noncomputable def zkx (fs:List Found) (id:List UInt8):List Loc:=(fs.filter (isC id)).map Found.loc
noncomputable def rowC (fs:List Found) (g:Found):Chunk:=Chunk.mk (sumP g.rec_.data) false [] (zkx fs (sumP g.rec_.data))
noncomputable def zhj (fs:List Found) (G:List Found):List Chunk:=(G.filter fun g=>fs.any (isC (sumP g.rec_.data))).map (rowC fs)
theorem locs_snoc (fs:List Found) (f:Found) (id:List UInt8):zkx (fs++[f]) id=zkx fs id++(if isC id f=true then [f.loc] else []):=by
 unfold zkx;rw [List.filter_append,List.map_append]
 congr 1
 by_cases h:isC id f=true <;> simp [h]
theorem znq (fs A B:List Found):zhj fs (A++B)=zhj fs A++zhj fs B:=by
 unfold zhj;rw [List.filter_append,List.map_append]
theorem zsl {fs:List Found} {f:Found} {L:List Found} (h:∀ g∈L,isC (sumP g.rec_.data) f=false):zhj (fs++[f]) L=zhj fs L:=by
 unfold zhj;rw [show (L.filter fun g=>(fs++[f]).any (isC (sumP g.rec_.data)))=L.filter fun g=>fs.any (isC (sumP g.rec_.data)) from List.filter_congr fun g hg=>by simp [h g hg]];refine List.map_congr_left fun g hg=>?_;have hg':=(List.mem_filter.1 hg).1;unfold rowC;rw [locs_snoc,if_neg (by rw [h g hg'];decide),List.append_nil]
theorem zxz {fs L:List Found} {x:Chunk} (h:x∈zhj fs L):∃ g∈L,x=rowC fs g:=by
 obtain ⟨g,hg,rfl⟩:=List.mem_map.1 h;exact ⟨g,(List.mem_filter.1 hg).1,rfl⟩
theorem rows_len (fs L:List Found):(zhj fs L).length≤L.length:=by
 unfold zhj;rw [List.length_map];exact List.length_filter_le _ _
theorem rows_rise {fs G:List Found} (h:Rows1 G):zlw (zhj fs G):=by
 unfold zlw zhj;rw [List.pairwise_map];exact (h.rise.sublist List.filter_sublist).imp fun h=>h
theorem locs_len (fs:List Found) (id:List UInt8):(zkx fs id).length≤fs.length:=by
 unfold zkx;rw [List.length_map];exact List.length_filter_le _ _
theorem locs_none {fs:List Found} {id:List UInt8} (h:fs.any (isC id)=false):zkx fs id=[]:=by
 unfold zkx;rw [List.filter_eq_nil_iff.2,List.map_nil];intro a ha;have:=List.any_eq_false.1 h a ha;simpa using this
theorem at_mid {P R:List Chunk} {q:List Chunk} {id:List UInt8} (hP:∀ x∈P,sLt x.id id=true) (hR:∀ x∈q++R,sLt x.id id=false):zhv (P++(q++R)) id=P.length:=by
 refine zoq (by simp) (fun i hi=>?_) (fun hl=>?_)
 ·rw [List.getD_eq_getElem?_getD,List.getElem?_append_left hi,List.getElem?_eq_getElem hi];exact hP _ (List.getElem_mem hi)
 ·rw [List.length_append] at hl;have h0:0 < (q++R).length:=by omega
  rw [List.getD_eq_getElem?_getD,List.getElem?_append_right (Nat.le_refl _),Nat.sub_self,List.getElem?_eq_getElem h0];exact hR _ (List.getElem_mem h0)
theorem put_rows {G A B:List Found} {g0 f:Found} (hG:G=A++g0::B) (hr:Rows1 G) (fs:List Found) (hk:f.rec_.kind=1) (hs:sumP f.rec_.data=sumP g0.rec_.data):putC (zhj fs G) (sumP f.rec_.data) f.loc=zhj (fs++[f]) G:=by
 subst hG;obtain ⟨h1,h2,h3⟩:=List.pairwise_append.1 hr.rise;obtain ⟨h4,h5⟩:=List.pairwise_cons.1 h2;have hA:∀ a∈A,sLt (sumP a.rec_.data) (sumP g0.rec_.data)=true:=fun a ha=>h3 a ha g0 (List.mem_cons_self ..);have hB:∀ b∈B,sLt (sumP g0.rec_.data) (sumP b.rec_.data)=true:=fun b hb=>h4 b hb;have nA:∀ g∈A,isC (sumP g.rec_.data) f=false:=fun g hg=>by
  unfold isC;rw [Bool.and_eq_false_iff];right;refine decide_eq_false fun e=>?_;have:=hA g hg;rw [← e,hs,zgf] at this;cases this
 have nB:∀ g∈B,isC (sumP g.rec_.data) f=false:=fun g hg=>by
  unfold isC;rw [Bool.and_eq_false_iff];right;refine decide_eq_false fun e=>?_;have:=hB g hg;rw [← e,hs,zgf] at this;cases this
 have me:isC (sumP g0.rec_.data) f=true:=by unfold isC;rw [decide_eq_true hk,decide_eq_true hs];rfl
 rw [show A++g0::B=A++([g0]++B) from rfl,znq,znq,znq,znq,zsl nA,zsl nB];have new:zhj (fs++[f]) [g0]=[Chunk.mk (sumP g0.rec_.data) false [] (zkx fs (sumP g0.rec_.data)++[f.loc])]:=by
  unfold zhj;rw [List.filter_cons_of_pos (by simp [me]),List.filter_nil];unfold rowC;rw [List.map_cons,locs_snoc,if_pos me];rfl
 have hP:∀ x∈zhj fs A,sLt x.id (sumP g0.rec_.data)=true:=fun x hx=>by
  obtain ⟨g,hg,rfl⟩:=zxz hx;exact hA g hg
 have hR:∀ x∈zhj fs B,sLt (sumP g0.rec_.data) x.id=true:=fun x hx=>by
  obtain ⟨g,hg,rfl⟩:=zxz hx;exact hB g hg
 have hR':∀ x∈zhj fs B,sLt x.id (sumP g0.rec_.data)=false:=fun x hx=>sLt_asymm (hR x hx);rw [new,hs];unfold putC ztw;cases hseen:fs.any (isC (sumP g0.rec_.data)) with
 | true =>
  have old:zhj fs [g0]=[rowC fs g0]:=by
   unfold zhj;rw [List.filter_cons_of_pos (by exact hseen),List.filter_nil];rfl
  rw [old];have hat:zhv (zhj fs A++([rowC fs g0]++zhj fs B)) (sumP g0.rec_.data)=(zhj fs A).length:=at_mid hP fun x hx=>by
   rcases List.mem_append.1 hx with hx | hx
   ·rw [List.mem_singleton.1 hx];exact zgf _
   ·exact hR' x hx
  have hget:(zhj fs A++([rowC fs g0]++zhj fs B)).getD (zhj fs A).length default=rowC fs g0:=by
   rw [List.getD_eq_getElem?_getD,List.getElem?_append_right (Nat.le_refl _),Nat.sub_self];rfl
  rw [hat,hget,if_pos (by rw [decide_eq_true (by simp),decide_eq_true (show (rowC fs g0).id=sumP g0.rec_.data from rfl)];rfl),List.set_append_right _ _ (Nat.le_refl _),Nat.sub_self];rfl
 | false =>
  have old:zhj fs [g0]=[]:=by
   unfold zhj;rw [List.filter_cons_of_neg (by rw [hseen];decide),List.filter_nil];rfl
  rw [old,locs_none hseen];have hat:zhv (zhj fs A++([]++zhj fs B)) (sumP g0.rec_.data)=(zhj fs A).length:=at_mid hP fun x hx=>hR' x (by simpa using hx);rw [hat,if_neg,List.nil_append,List.take_left,List.drop_left]
  ·simp
  ·intro hh;simp only [Bool.and_eq_true,decide_eq_true_eq,List.nil_append] at hh;obtain ⟨hh1,hh2⟩:=hh;rw [List.length_append] at hh1;have h0:0 < (zhj fs B).length:=by omega
   rw [List.getD_eq_getElem?_getD,List.getElem?_append_right (Nat.le_refl _),Nat.sub_self,List.getElem?_eq_getElem h0] at hh2;have:=hR _ (List.getElem_mem h0);rw [show (zhj fs B)[0].id=sumP g0.rec_.data from hh2,zgf] at this;cases this
end Go.Wk.Lf
end
section
namespace Go.Wk.Lf
open Go.V Go.Sort Go.Proofs
def zkq (fs:List Found):List Loc:=(fs.filter fun f=>decide (f.rec_.kind=2)).map Found.loc
noncomputable def zol (v:List Vol) (G:List Found) (m:Manifest) (s:Int) (fs:List Found):Catalog :=
 ⟨if (zkq fs).isEmpty=true then 0 else s+1,if (zkq fs).isEmpty=true then [] else [Snap.mk s m (zkq fs)],zhj fs G,[],v⟩
def eachT (G:List Found) (m:Manifest) (s:Int) (f:Found):Prop:=(f.rec_.kind=1 ∧ ∃ g∈G,f.rec_.data=g.rec_.data)∨(f.rec_.kind=2∧f.rec_.data=zgz m∧f.rec_.seq=s)
theorem cmp_self (a:Int):zdx a a=some 0:=by
 rw [zxj];simp [cmpI]
theorem snapAt_one (x:Snap):zaa [x] x.seq=some (0,true):=by
 unfold zaa;have hc:zht x x.seq=some 0:=by unfold zht;rw [cmp_self];rfl
 have e1:∀ rec,zaa.l2 [x] x.seq rec (0,1)=rec (0,0):=fun rec=>by
  simp only [zaa.l2];rw [if_t (by decide),show wr ((wu (wr ((0:Int)+1))) / 2 ^ (1:Int).toNat)=0 from by decide,show ix [x] (0:Int)=some x from rfl,zaq,hc,zaq,if_f (by decide)]
 have e2:∀ rec,zaa.l2 [x] x.seq rec (0,0)=some (0,true):=fun rec=>by
  simp only [zaa.l2,zaa.k1];rw [if_f (by decide),show decide ((0:Int) < (([x]:List Snap).length:Int))=true from rfl,show ix [x] (0:Int)=some x from rfl];simp only [only,if_true,zaq,hc];rfl
 show iter _ 18446744073709551616 ((0:Int),(1:Int))=_;show zaa.l2 [x] x.seq (iter _ 18446744073709551615) _=_;rw [e1];show zaa.l2 [x] x.seq (iter _ 18446744073709551614) _=_;rw [e2]
theorem snap_again (c:Catalog) (f:Found) (x:Snap) (m:Manifest) (hk:f.rec_.kind=2) (hn:c.snaps=[x]) (hx:f.rec_.seq=x.seq) (hm:zyr f.rec_.data m) (hl:f.rec_.data.length≤1000000000) (h0:0≤f.rec_.seq) (h1:f.rec_.seq≤1000000) (hq:c.seq=f.rec_.seq+1) (hs:x.locs.length≤1000000) :
  zyj c f=some ⟨c.seq,[Snap.mk x.seq x.man (x.locs++[f.loc])],c.chunks,c.exps,c.vols⟩:=by
 unfold zyj;rw [if_neg (by omega),if_pos hk];unfold zes;rw [read_eq _ hl,readL_man hm,zaq,if_f (decide_eq_false (fun h=>h rfl)),hn,hx,snapAt_one,zaq,if_f (by rfl)];unfold zes.k1;rw [show ix [x] (0:Int)=some x from rfl,zaq,zdp (by simp;omega),zaq,zaq];rw [show (if 1073741824 < f.rec_.seq then (1073741824:Int) else f.rec_.seq)=f.rec_.seq from if_neg (by omega),zfy (by omega) (by omega),if_neg (by omega)];rfl
theorem zxa (fs:List Found) (f:Found):zkq (fs++[f])=zkq fs++(if f.rec_.kind=2 then [f.loc] else []):=by
 unfold zkq;rw [List.filter_append,List.map_append]
 congr 1
 by_cases h:f.rec_.kind=2 <;> simp [h]
theorem mlocs_len (fs:List Found):(zkq fs).length≤fs.length:=by
 unfold zkq;rw [List.length_map];exact List.length_filter_le _ _
theorem note_gen {v:List Vol} {G:List Found} {m:Manifest} {s:Int} (hG:Rows1 G) (hl:G.length≤1000) (hm:manB m) (hk:okId m) (h0:0≤s) (h1:s≤100000) (fs:List Found) (f:Found) (hf:eachT G m s f) (hn:fs.length≤100000) :
  zyj (zol v G m s fs) f=some (zol v G m s (fs++[f])):=by
 rcases hf with ⟨k1,g,hg,hd⟩ | ⟨k2,hd,hs⟩
 ·have hrl:=rows_len fs G;obtain ⟨A,B,hAB⟩:=List.append_of_mem hg;rw [chunk_step _ f k1 (rows_rise hG) (by simp only [zol];omega) (fun x hx=>by
   obtain ⟨g',_,rfl⟩:=zxz hx;have:=locs_len fs (sumP g'.rec_.data);simp only [rowC];omega) (by rw [hd];exact (hG.kind g hg).2.1) (by rw [hd];exact (hG.kind g hg).2.2)]
  have hput:=put_rows hAB hG fs k1 (by rw [hd]);unfold zol;simp only;rw [hput,zxa,if_neg (show ¬ f.rec_.kind=2 by omega),List.append_nil]
 ·have hb:=zmb hm hk;have hrow:zhj (fs++[f]) G=zhj fs G:=zsl fun g _=>by
   unfold isC;rw [decide_eq_false (by omega),Bool.false_and]
  have hml:=mlocs_len fs;unfold zol;rw [hrow,zxa,if_pos k2]
  by_cases he:(zkq fs).isEmpty=true
  ·rw [if_pos he,if_pos he,List.isEmpty_iff.1 he];rw [snap_first _ f m k2 rfl ⟨hm,hk,hd⟩ (by rw [hd];omega) (by omega) (by omega) (by simp only;omega),hs];rfl
  ·rw [if_neg he,if_neg he];rw [snap_again _ f (Snap.mk s m (zkq fs)) m k2 rfl hs ⟨hm,hk,hd⟩ (by rw [hd];omega) (by omega) (by omega) (by simp only;omega) (by simp only;omega)];rw [if_neg (by simp),if_neg (by simp)]
theorem notes_gen {v:List Vol} {G:List Found} {m:Manifest} {s:Int} (hG:Rows1 G) (hl:G.length≤1000) (hm:manB m) (hk:okId m) (h0:0≤s) (h1:s≤100000):∀ (fs pre:List Found),(∀ f∈fs,eachT G m s f)→pre.length+fs.length≤100000→notesO fs (zol v G m s pre)=some (zol v G m s (pre++fs))
 | [],pre,_,_=>by rw [List.append_nil];rfl
 | f::fs,pre,hf,hn=>by
  simp only [List.length_cons] at hn;simp only [notesO];rw [note_gen hG hl hm hk h0 h1 pre f (hf f (by simp)) (by omega),zaq,notes_gen hG hl hm hk h0 h1 fs (pre++[f]) (fun g hg=>hf g (by simp [hg])) (by simp;omega),List.append_assoc];rfl
theorem state_nil (v:List Vol) (G:List Found) (m:Manifest) (s:Int):zol v G m s []=bareC v:=by
 unfold zol zhj;rw [show (G.filter fun g=>([]:List Found).any (isC (sumP g.rec_.data)))=[] from List.filter_eq_nil_iff.2 fun a _=>by simp];rfl
noncomputable def zsq (v:List Vol) (G:List Found) (m:Manifest) (s:Int) (fs:List Found):Catalog :=
 ⟨s+1,[Snap.mk s m (zlj (zkq fs))],G.map fun g=>Chunk.mk (sumP g.rec_.data) false [] (zlj (zkx fs (sumP g.rec_.data))),[],v⟩
theorem from_gen {v:List Vol} {G:List Found} {m:Manifest} {s:Int} {fs:List Found} (hG:Rows1 G) (hl:G.length≤200) (hm:manB m) (hk:okId m) (h0:0≤s) (h1:s≤100000) (hids:∀ y∈zne m,∃ g∈G,sumP g.rec_.data=y) (hmany:(zne m).length≤1000000)
  (hv:volsB v=true) (hvl:v.length≤1000000) (hf:∀ f∈fs,eachT G m s f) (hn:fs.length≤100000) (hall:∀ g∈G,fs.any (isC (sumP g.rec_.data))=true) (hsome:zkq fs≠[])
  (l1:∀ g∈G,0 < (zlj (zkx fs (sumP g.rec_.data))).length∧zjk v (zlj (zkx fs (sumP g.rec_.data)))=true) (l2:zjk v (zlj (zkq fs))=true) :
  zax v fs=some (zsq v G m s fs,0)∧catB (zsq v G m s fs)=true:=by
 have hno:=notes_gen (v:=v) hG (by omega) hm hk h0 h1 fs [] hf (by simpa using hn);rw [state_nil,List.nil_append] at hno;rw [from_eq v fs _ (by omega) (by omega) hno];have he:(zkq fs).isEmpty≠true:=fun h=>hsome (List.isEmpty_iff.1 h);have hst:zol v G m s fs=⟨s+1,[Snap.mk s m (zkq fs)],G.map (rowC fs),[],v⟩:=by
  unfold zol zhj;rw [if_neg he,if_neg he,List.filter_eq_self.2 fun g hg=>hall g hg]
 rw [hst];have hr:zlw (G.map (rowC fs)):=by
  unfold zlw;rw [List.pairwise_map];exact hG.rise.imp fun h=>h
 have hml:=mlocs_len fs;have hstay:=stays_eq ⟨s+1,[Snap.mk s m (zkq fs)],G.map (rowC fs),[],v⟩ (Snap.mk s m (zkq fs)) (Nat.zero_le _) (by simp;omega) hr (by have:=hm.2.1;simp only;omega) hmany;have hyes:stayB ⟨s+1,[Snap.mk s m (zkq fs)],G.map (rowC fs),[],v⟩ (Snap.mk s m (zkq fs))=true:=by
  unfold stayB;simp only [Bool.and_eq_true,zgu];refine ⟨fun i hi=>absurd hi (Nat.not_lt_zero _),fun i hi=>?_⟩;rw [zdj hi];obtain ⟨g,hg,e⟩:=hids _ ((idsU_mem _ _).1 (List.getElem_mem hi));exact (hasId_iff hr _).2 ⟨_,List.mem_map.2 ⟨g,hg,rfl⟩,e⟩
 rw [hyes] at hstay;have hS:=snaps_one _ _ _ rfl hstay;rw [if_pos rfl] at hS;have hr2:zlw (zsq v G m s fs).chunks:=by
  unfold zlw zsq;simp only;rw [List.pairwise_map];exact hG.rise.imp fun h=>h
 have hcat:catB (zsq v G m s fs)=true:=by
  refine cat_right (by simp only [zsq];omega) (by simp only [zsq];omega) hv (chunks_right hr2 (by simp only [zsq,List.length_map];omega) fun x hx=>?_) (snaps_single hr2 rfl h0 (by simp only [zsq];omega) hm l2 fun y hy=>?_) (exps_none rfl)
  ·obtain ⟨g,hg,rfl⟩:=List.mem_map.1 hx;exact ⟨rfl,rfl,(l1 g hg).1,(l1 g hg).2⟩
  ·obtain ⟨g,hg,e⟩:=hids y hy;exact ⟨_,List.mem_map.2 ⟨g,hg,rfl⟩,e⟩
 refine ⟨?_,hcat⟩;rw [fin_eq _ _ zlj hS hvl (by simp) (by simp;omega) (Nat.zero_le _) (fun x hx=>?_) (fun x hx=>?_) (fun x hx=>by cases hx)]
 ·have hlast:ztu zlj [Snap.mk s m (zkq fs)] ⟨s+1,[Snap.mk s m (zkq fs)],G.map (rowC fs),[],v⟩=zsq v G m s fs:=by
   unfold ztu zsq;simp only [List.map_map,List.map_cons,List.map_nil];rfl
  rw [hlast,if_pos hcat]
 ·rw [List.mem_singleton.1 hx];exact psort_eq _ (by simp only;omega)
 ·obtain ⟨g,_,rfl⟩:=List.mem_map.1 hx;exact psort_eq _ (by have:=locs_len fs (sumP g.rec_.data);simp only [rowC];omega)
end Go.Wk.Lf
end
section
namespace Go.Wk.Lf
open Go.V Go.Sort Go.Proofs
theorem zqk {α β:Type} {o:Option α} {x:α} {f:α→Option β} {r:Option β} (h:o=some x) (g:f x=r):bd o f=r:=by rw [h];exact g
theorem if_go {α:Type} {b:Bool} {x y r:α} (h:b=false) (g:y=r):(if b=true then x else y)=r:=by rw [h];exact g
theorem zyf {α:Type} {b:Bool} {o:Option α} {z:α} (h:b=true):only b o z=o:=if_pos h
theorem rows_sum {t:List File} (y:List UInt8):(∃ f∈zmx t,sumP f.rec_.data=y) ↔ y∈(zlm t).map sumP:=by
 rw [← chunksR_ids,← zwx,List.map_map,List.mem_map];rfl
theorem mod_nat (x n:Int) (h0:0 < n) (h1:n≤1000000):∃ k:Nat,wr ((wu x).tmod n)=(k:Int)∧(wu x).tmod n=(k:Int)∧(k:Int) < n:=by
 have hw:0≤wu x:=by show 0≤IntKind.u64.wrap x;rw [zud];omega
 have a:=Int.tmod_nonneg n hw;have b:=Int.tmod_lt_of_pos (wu x) h0;refine ⟨((wu x).tmod n).toNat,?_,by omega,by omega⟩;rw [zfy (by omega) (by omega)];omega
end Go.Wk.Lf
end
section
namespace Go.Wk.Lf
open Go.V Go.Sort Go.Proofs
theorem zuw (a:Loc):zlj [a]=[a]:=rfl
theorem ord_self (a:Loc):zji a a=0:=by
 simp [zji,orI,cmpI]
theorem zsi (a:Loc):zlj [a,a]=[a]:=by
 unfold zlj zry;simp only [List.foldr_cons,List.foldr_nil,ins,ord_self];simp [zeu,zzb]
theorem zrf (a:Loc) (h:a.vol=0):zlj [Loc.mk 1 a.file a.off a.len,a]=[a,Loc.mk 1 a.file a.off a.len]:=by
 have h1:zji (Loc.mk 1 a.file a.off a.len) a=1:=by simp [zji,orI,cmpI,h]
 have h2:zji a (Loc.mk 1 a.file a.off a.len) = -1:=by simp [zji,orI,cmpI,h]
 have hne:a≠Loc.mk 1 a.file a.off a.len:=fun e=>by
  have:=congrArg Loc.vol e;simp only [h] at this;exact absurd this (by decide)
 unfold zlj zry;simp only [List.foldr_cons,List.foldr_nil,ins,h1,h2];simp [zeu,zzb,hne]
theorem once_filter {G:List Found} (h:Rows1 G) {g:Found} (hg:g∈G):G.filter (isC (sumP g.rec_.data))=[g]:=by
 obtain ⟨A,B,rfl⟩:=List.append_of_mem hg;obtain ⟨h1,h2,h3⟩:=List.pairwise_append.1 h.rise;obtain ⟨h4,h5⟩:=List.pairwise_cons.1 h2;rw [List.filter_append,List.filter_eq_nil_iff.2,List.filter_cons_of_pos,List.filter_eq_nil_iff.2,List.nil_append]
 ·intro b hb;unfold isC;simp only [Bool.and_eq_true,decide_eq_true_eq,not_and];intro _ e;have:=h4 b hb;rw [e,zgf] at this;cases this
 ·unfold isC;rw [decide_eq_true (h.kind g (by simp)).1,decide_eq_true rfl];rfl
 ·intro a ha;unfold isC;simp only [Bool.and_eq_true,decide_eq_true_eq,not_and];intro _ e;have:=h3 a ha g (List.mem_cons_self ..);rw [e,zgf] at this;cases this
theorem isC_man {f:Found} (h:f.rec_.kind=2) (id:List UInt8):isC id f=false:=by
 unfold isC;rw [decide_eq_false (by omega),Bool.false_and]
theorem zyh {G:List Found} (h:Rows1 G) {M:Found} (hM:M.rec_.kind=2) {g:Found} (hg:g∈G):(G++[M]).filter (isC (sumP g.rec_.data))=[g]:=by
 rw [List.filter_append,once_filter h hg,List.filter_cons_of_neg (by rw [isC_man hM];decide),List.filter_nil,List.append_nil]
theorem zyg {G:List Found} (h:Rows1 G) {M:Found} (hM:M.rec_.kind=2):(G++[M]).filter (fun f=>decide (f.rec_.kind=2))=[M]:=by
 rw [List.filter_append,List.filter_eq_nil_iff.2,List.filter_cons_of_pos (by simp [hM]),List.filter_nil,List.nil_append];intro a ha;have:=(h.kind a ha).1;simp;omega
def pairF (x:Found):List Found:=[Found.mk x.rec_ (Loc.mk 1 x.loc.file x.loc.off x.loc.len),x]
theorem zvk {p:Found→Bool} (hp:∀ x l,p (Found.mk x.rec_ l)=p x) (fs:List Found):(fs.flatMap pairF).filter p=(fs.filter p).flatMap pairF:=by
 induction fs with
 | nil=>rfl
 | cons x fs ih =>
  rw [List.flatMap_cons,List.filter_append,ih]
  by_cases h:p x=true
  ·rw [List.filter_cons_of_pos h,List.flatMap_cons]
   congr 1
   unfold pairF;rw [List.filter_cons_of_pos (by rw [hp];exact h),List.filter_cons_of_pos h,List.filter_nil]
  ·rw [List.filter_cons_of_neg h];unfold pairF;rw [List.filter_cons_of_neg (by rw [hp];exact h),List.filter_cons_of_neg h,List.filter_nil,List.nil_append]
theorem zrd {p:Found→Bool} {fs:List Found} {x:Found} (k:Nat) (h:fs.filter p=[x]):(fs.drop k++fs.take k).filter p=[x]:=by
 have hp:(fs.drop k++fs.take k).Perm fs:=by
  conv=>rhs;rw [← List.take_append_drop k fs]
  exact List.perm_append_comm
 have:=hp.filter p;rw [h] at this;exact List.perm_singleton.1 this
end Go.Wk.Lf
end
section
namespace Go.Wk.Lf
open Go.V Go.Sort Go.Proofs
def vol2:List Vol:=[Vol.mk 0 0 2 3,Vol.mk 0 0 2 2]
theorem zxt (w f a b:Int) (hw:w=0∨w=1) (hf:1≤f) (hf2:f≤2) (h0:0≤a) (h1:a≤16777215) (h2:13≤b) (h3:b≤8013):locB vol2 (Loc.mk w f a b)=true:=by
 unfold locB vol2;rcases hw with rfl | rfl
 ·simp [inB];omega
 ·simp [inB];omega
def fair (x:Loc):Prop:=x.vol=0∧1≤x.file∧x.file≤2∧0≤x.off∧x.off≤16777215∧13≤x.len∧x.len≤8013
theorem zum {x:Loc} (h:fair x):zjk vol2 [x]=true:=by
 obtain ⟨h1,h2,h3,h4,h5,h6,h7⟩:=h;refine locs_one ?_;rw [show x=Loc.mk x.vol x.file x.off x.len from rfl,h1];exact zxt 0 _ _ _ (.inl rfl) h2 h3 h4 h5 h6 h7
theorem fair_two {x:Loc} (h:fair x):zjk vol2 [x,Loc.mk 1 x.file x.off x.len]=true:=by
 obtain ⟨h1,h2,h3,h4,h5,h6,h7⟩:=h;have e1:locB vol2 x=true:=by
  rw [show x=Loc.mk x.vol x.file x.off x.len from rfl,h1];exact zxt 0 _ _ _ (.inl rfl) h2 h3 h4 h5 h6 h7
 have e2:locB vol2 (Loc.mk 1 x.file x.off x.len)=true:=zxt 1 _ _ _ (.inr rfl) h2 h3 h4 h5 h6 h7;unfold zjk;simp only [Bool.and_eq_true,decide_eq_true_eq,zgu];refine ⟨by simp,fun i hi=>?_⟩;simp only [List.length_cons,List.length_nil] at hi;have:i=0∨i=1:=by omega
 rcases this with rfl | rfl
 ·simp [locOk,e1]
 ·simp [locOk,e2,afterB,h1]
theorem rows_fair {t:List File} (hl:(zhd t).length≤150):∀ f∈zmx t,fair f.loc:=by
 intro f hf;obtain ⟨i,hi,rfl⟩:=List.getElem_of_mem hf;have hi':i < (zhd t).length:=by rw [← zmw];exact hi
 have:(zmx t)[i]=zxe i (zhd t)[i]:=by simp [zmx]
 rw [this];have:=zqv (List.getElem_mem hi');refine ⟨rfl,?_,?_,?_,?_,?_,?_⟩ <;> simp only [zxe] <;> omega
theorem rot_get {α:Type} {F:List α} {k i:Nat} (hk:k < F.length) (hi:i < F.length):(F.drop k++F.take k)[i]'(by simp;omega)=F[(i+k) % F.length]'(Nat.mod_lt _ (by omega)):=by
 by_cases h:i < F.length - k
 ·rw [List.getElem_append_left (by simp;omega),List.getElem_drop]
  congr 1
  rw [Nat.mod_eq_of_lt (by omega)];omega
 ·rw [List.getElem_append_right (by simp;omega),List.getElem_take]
  congr 1
  simp only [List.length_drop];rw [Nat.mod_eq_sub_mod (by omega),Nat.mod_eq_of_lt (by omega)];omega
theorem twice_true (x0:List File) (x1:Int) (hl:x0.length < 9223372036854775808) (hp:∀ f∈x0,f.path.length < 9223372036854775808):zav x0 x1=some true:=by
 obtain ⟨r,e1,h1⟩:=refsort_ok x0 hl hp;unfold zav;rw [e1,zaq]
 by_cases hr:r.2=0∧x0.length≤10
 ·refine if_go (by simp [hr.1];omega) ?_;obtain ⟨hperm,hris,hlong,hbad⟩:=h1 hr.1;obtain ⟨t6,td,tn,tc⟩:=tree_facts hperm hris hlong hbad;have hn:zjx [97]=true:=by decide
  have hmb:=zxb hn t6 td tn hris;have hmi:=manR_ids [97] r.1;have hml:=zmb hmb hmi;have hcl:=zwf t6 td;have hG:=rowsT_rows r.1;have hGl:(zmx r.1).length≤150:=by rw [zmw];exact hcl
  have hfair:=rows_fair hcl;have hpl:=zvj t6 td;refine zqk (tape_eq [97] 3 r.1 hn t6 td tn hris tc) ?_;refine if_go rfl ?_;have hids:∀ y∈zne (manR [97] r.1),∃ f∈zmx r.1,sumP f.rec_.data=y:=fun y hy=>by rw [ids_manR] at hy;exact (rows_sum y).2 hy
  have hmany:(zne (manR [97] r.1)).length≤1000000:=by rw [ids_manR,List.length_map];omega
  generalize hm:manR [97] r.1=m at hmb hmi hml hids hmany;have hMfair:fair (zxd 3 (zgz m)).loc:=by
   refine ⟨rfl,?_,?_,?_,?_,?_,?_⟩ <;> simp only [zxd] <;> omega
  have hMk:(zxd 3 (zgz m)).rec_.kind=2:=rfl;have hMe:∀ G:List Found,eachT G m 3 (zxd 3 (zgz m)):=fun G=>.inr ⟨rfl,rfl,rfl⟩;generalize zxd 3 (zgz m)=M at hMfair hMk hMe;generalize zmx r.1=G at hG hGl hfair hids;dsimp only;rw [show [Vol.mk 0 0 2 3,Vol.mk 0 0 2 2]=vol2 from rfl];have hlen:(G++[M]).length=G.length+1:=by simp
  have heach:∀ f∈G++[M],eachT G m 3 f:=fun f hf=>by
   rcases List.mem_append.1 hf with h | h
   ·exact .inl ⟨(hG.kind f h).1,f,h,rfl⟩
   ·rw [List.mem_singleton.1 h];exact hMe G
  have gen:∀ (fs:List Found) (L:Found→List Loc) (LM:List Loc),(∀ f∈fs,eachT G m 3 f)→fs.length≤100000→(∀ g∈G,zkx fs (sumP g.rec_.data)=L g)→(∀ g∈G,L g≠[])→zkq fs=LM→LM≠[]→(∀ g∈G,0 < (zlj (L g)).length∧zjk vol2 (zlj (L g))=true)→zjk vol2 (zlj LM)=true →
    zax vol2 fs=some (⟨4,[Snap.mk 3 m (zlj LM)],G.map fun g=>Chunk.mk (sumP g.rec_.data) false [] (zlj (L g)),[],vol2⟩,0)∧catB ⟨4,[Snap.mk 3 m (zlj LM)],G.map fun g=>Chunk.mk (sumP g.rec_.data) false [] (zlj (L g)),[],vol2⟩=true:=by
   intro fs L LM h1 h2 h3 h4 h5 h6 h7 h8;have:=from_gen (v:=vol2) hG (by omega) hmb hmi (by decide) (by decide) hids hmany (by decide) (by decide) h1 h2 (fun g hg=>by
    cases hb:fs.any (isC (sumP g.rec_.data)) with
    | true=>rfl
    | false=>exact absurd ((h3 g hg).symm.trans (locs_none hb)) (h4 g hg)) (by rw [h5];exact h6) (fun g hg=>by rw [h3 g hg];exact h7 g hg) (by rw [h5];exact h8)
   rw [show zsq vol2 G m 3 fs=⟨4,[Snap.mk 3 m (zlj LM)],G.map fun g=>Chunk.mk (sumP g.rec_.data) false [] (zlj (L g)),[],vol2⟩ from by
    unfold zsq;rw [h5,List.map_congr_left fun g hg=>by rw [h3 g hg]];rfl] at this
   exact this
  obtain ⟨f1,c1⟩:=gen (G++[M]) (fun g=>[g.loc]) [M.loc] heach (by omega) (fun g hg=>by unfold zkx;rw [zyh hG hMk hg];rfl) (fun g _=>by simp) (by unfold zkq;rw [zyg hG hMk];rfl) (by simp) (fun g hg=>by rw [zuw];exact ⟨by simp,zum (hfair g hg)⟩) (by rw [zuw];exact zum hMfair);obtain ⟨f2,c2⟩:=gen ((G++[M])++(G++[M])) (fun g=>[g.loc,g.loc]) [M.loc,M.loc] (fun f hf=>heach f ((List.mem_append.1 hf).elim id id)) (by simp;omega) (fun g hg=>by unfold zkx;rw [List.filter_append,zyh hG hMk hg];rfl) (fun g _=>by simp) (by unfold zkq;rw [List.filter_append,zyg hG hMk];rfl) (by simp) (fun g hg=>by rw [zsi];exact ⟨by simp,zum (hfair g hg)⟩) (by rw [zsi];exact zum hMfair);simp only [zsi,zuw] at f1 f2 c1;generalize hc:Catalog.mk 4 [Snap.mk 3 m [M.loc]] (G.map fun g=>Chunk.mk (sumP g.rec_.data) false [] [g.loc]) [] vol2=c at f1 f2 c1;refine zqk f1 ?_;refine zqk (zdp (by simp;omega)) ?_;refine zqk (zdp (by simp;omega)) ?_;rw [List.nil_append];refine zqk f2 ?_;refine zqk (x:=true) ((zyf rfl).trans (by rw [kcat_eq _ _ (zxk c1),decide_eq_true (sameC_refl _)])) ?_;refine if_go (by simp) ?_;have hw:wu ((G++[M]).length:Int)=((G++[M]).length:Int):=zxr (by omega) (by omega);obtain ⟨k,hk,hk2,hk3⟩:=mod_nat x1 ((G++[M]).length:Int) (by omega) (by omega);generalize hF:G++[M]=F at *;have hrl:(F.drop k++F.take k).length=F.length:=by simp;omega
  refine zfd (S:=List Found × Int) (σ:=Unit) (fun i _=>(((F.drop k++F.take k).take i).flatMap pairF,(i:Int))) F.length (fun _ _=>True) _ (i0:=0) (s0:=()) rfl (Nat.zero_le _) trivial (by omega) ?_ ?_
  ·intro rec i _ hi _ hrec;have hrr:=hrec () trivial;have hfl:∀ l:List Found,(l.flatMap pairF).length=2*l.length:=fun l=>by
    induction l with
    | nil=>rfl
    | cons x l ih=>rw [List.flatMap_cons,List.length_append,ih,List.length_cons];simp only [pairF,List.length_cons,List.length_nil];omega
   simp only [zav.l4];rw [if_t (lt_t hi),hw];refine zqk (x:=(k:Int)) (by unfold rem;rw [if_neg (by omega),hk2]) ?_;rw [zfy (x:=(k:Int)) (by omega) (by omega),zfy (x:=(i:Int)+(k:Int)) (by omega) (by omega)];refine zqk (x:=(((i+k) % F.length:Nat):Int)) (by unfold rem;rw [if_neg (by omega)];rfl) ?_;refine zqk (zds (Nat.mod_lt _ (by omega))) ?_;refine zqk (zdp (by rw [hfl];simp;omega)) ?_;rw [zbw (by omega)];rw [zdo (show i < (F.drop k++F.take k).length by omega),List.flatMap_append,rot_get (by omega) hi] at hrr;simpa [pairF] using hrr
  ·intro rec _ _;simp only [zav.l4];rw [if_f (lt_f (Nat.lt_irrefl _)),List.take_of_length_le (by omega)];have hpC:∀ id (x:Found) (l:Loc),isC id (Found.mk x.rec_ l)=isC id x:=fun id x l=>rfl;have hpM:∀ (x:Found) (l:Loc),decide ((Found.mk x.rec_ l).rec_.kind=2)=decide (x.rec_.kind=2):=fun x l=>rfl;have hmem:∀ x∈F.drop k++F.take k,x∈F:=fun x hx=>(List.mem_append.1 hx).elim List.mem_of_mem_drop List.mem_of_mem_take;have hfl:∀ l:List Found,(l.flatMap pairF).length=2*l.length:=fun l=>by
    induction l with
    | nil=>rfl
    | cons x l ih=>rw [List.flatMap_cons,List.length_append,ih,List.length_cons];simp only [pairF,List.length_cons,List.length_nil];omega
   obtain ⟨f3,c3⟩:=gen ((F.drop k++F.take k).flatMap pairF) (fun g=>[Loc.mk 1 g.loc.file g.loc.off g.loc.len,g.loc]) [Loc.mk 1 M.loc.file M.loc.off M.loc.len,M.loc] (fun f hf=>by
    obtain ⟨x,hx,hfx⟩:=List.mem_flatMap.1 hf;have he:=heach x (hmem x hx);simp only [pairF,List.mem_cons,List.not_mem_nil,or_false] at hfx;rcases hfx with rfl | rfl
    ·exact he
    ·exact he) (by rw [hfl,hrl];omega) (fun g hg=>by
    unfold zkx;rw [zvk (hpC _),zrd k (by rw [← hF];exact zyh hG hMk hg)];rfl) (fun g _=>by simp) (by
    unfold zkq;rw [zvk hpM,zrd k (by rw [← hF];exact zyg hG hMk)];rfl) (by simp) (fun g hg=>by rw [zrf _ (hfair g hg).1];exact ⟨by simp,fair_two (hfair g hg)⟩) (by rw [zrf _ hMfair.1];exact fair_two hMfair)
   rw [zrf _ hMfair.1] at f3;unfold zav.k1;rw [show [Vol.mk 0 0 2 3,Vol.mk 0 0 2 2]=vol2 from rfl];refine zqk f3 ?_;refine zqk (x:=Snap.mk 3 m [M.loc,Loc.mk 1 M.loc.file M.loc.off M.loc.len]) rfl ?_;have hcl:c.chunks.length=G.length:=by rw [← hc];simp
   refine if_go (by simp [hcl]) ?_;refine zfd (S:=Int) (σ:=Unit) (fun i _=>(i:Int)) G.length (fun _ _=>True) _ (i0:=0) (s0:=()) rfl (Nat.zero_le _) trivial (by omega) ?_ ?_
   ·intro rec i _ hi _ hrec;simp only [zav.l3];have hc1:c.chunks[i]? = some (Chunk.mk (sumP G[i].rec_.data) false [] [G[i].loc]):=by rw [← hc];simp [hi]
    have hs2:=zrf _ (hfair _ (List.getElem_mem hi)).1;have hc3:(G.map fun g=>Chunk.mk (sumP g.rec_.data) false [] (zlj [Loc.mk 1 g.loc.file g.loc.off g.loc.len,g.loc]))[i]? = some (Chunk.mk (sumP G[i].rec_.data) false [] [G[i].loc,Loc.mk 1 G[i].loc.file G[i].loc.off G[i].loc.len]):=by
     rw [List.getElem?_map,List.getElem?_eq_getElem hi,Option.map_some,hs2]
    rw [if_t (by rw [List.length_map];exact lt_t hi)];refine zqk (ztv hc3) ?_;refine zqk (ztv hc1) ?_;refine zqk ((zyf (by simp)).trans (ztv hc3)) ?_;refine zqk ((zyf (by simp)).trans (ztv hc1)) ?_;refine if_go (by simp;decide) ?_;rw [zbw (by omega)];exact hrec () trivial
   ·intro rec _ _;simp only [zav.l3,zav.k2];rw [if_f (by rw [List.length_map];exact lt_f (Nat.lt_irrefl _)),wakes24];rfl
 ·rw [if_t];simp only [Bool.or_eq_true,decide_eq_true_eq]
  by_cases h:r.2=0
  ·right;have:¬ x0.length≤10:=fun h2=>hr ⟨h,h2⟩;omega
  ·left;exact h
end Go.Wk.Lf
end
section
namespace Go.Wk.Lf
open Go.V Go.Proofs
end Go.Wk.Lf
namespace Go.Wk.Lf
open Go.V Go.RowKit Go.ChangeShapes Go.WideShapes Go.Deep
theorem take_join {α:Type} {l:List α} {a b:Nat}:l.drop a=(l.drop a).take b++l.drop (a+b):=by rw [← List.drop_drop,List.take_append_drop]
def File.ok (x:File):Prop:=(fun s:List UInt8=>s.length≤maxLen) x.path∧(okS okT) x.data
theorem opn_File {H:Type} {enc:TypeId × Value→H} {w:World}:Opn enc Go.Proofs.Tryz.prog w 101 File.t File.ok:=by
  intro fuel cs x h ρ hp r hb
  have hu:Go.Proofs.Tryz.prog.underlying 101=some (.struct (Go.Proofs.Tryz.prog.fieldsOf 101)):=by kernel_rfl
  obtain ⟨xs,n,_,rfl,hl,hlen,hf⟩:=DataW.trod_struct hu h
  have hz:Go.Proofs.Tryz.prog.cellsOf 101=2:=by kernel_rfl
  rw [hz] at hl
  have hn:(Go.Proofs.Tryz.prog.fieldsOf 101).size=2:=by kernel_rfl
  rw [hn] at hlen
  have e0:∃ fd,(Go.Proofs.Tryz.prog.fieldsOf 101)[0]? = some fd∧fd.type=9∧fd.offset=0:=⟨(Go.Proofs.Tryz.prog.fieldsOf 101)[0]!,by kernel_rfl,by kernel_rfl,by kernel_rfl⟩
  obtain ⟨fd0,ea0,eb0,ec0⟩:=e0
  have g0:=hf 0 fd0 ea0
  rw [eb0,ec0,show Go.Proofs.Tryz.prog.cellsOf 9=1 from by kernel_rfl,List.getElem?_eq_getElem (show 0 < xs.length by omega)] at g0
  obtain ⟨ρ0,h0,vs0,a0,r0,b0,l0,f0,v0,t0,k0⟩:=(opn_str Go.Proofs.Tryz.underlying9) _ _ _ g0 _ _ r hb
  have e1:∃ fd,(Go.Proofs.Tryz.prog.fieldsOf 101)[1]? = some fd∧fd.type=47∧fd.offset=1:=⟨(Go.Proofs.Tryz.prog.fieldsOf 101)[1]!,by kernel_rfl,by kernel_rfl,by kernel_rfl⟩
  obtain ⟨fd1,ea1,eb1,ec1⟩:=e1
  have g1:=hf 1 fd1 ea1
  rw [eb1,ec1,show Go.Proofs.Tryz.prog.cellsOf 47=1 from by kernel_rfl,List.getElem?_eq_getElem (show 1 < xs.length by omega)] at g1
  obtain ⟨ρ1,h1,vs1,a1,r1,b1,l1,f1,v1,t1,k1⟩:=(zvl Go.Proofs.Tryz.underlying47 (by kernel_rfl) (opn_u8 Go.Proofs.Tryz.underlying5)) _ _ _ g1 _ _ r0 b0
  have hcs:cs=(cs.drop 0).take 1++(cs.drop 1).take 1:=by
    have h0:cs=cs.drop 0:=(List.drop_zero).symm
    have j0:cs.drop 0=(cs.drop 0).take 1++cs.drop 1:=take_join
    have j1:cs.drop 1=(cs.drop 1).take 1++cs.drop 2:=take_join
    have jn:cs.drop 2=[]:=List.drop_eq_nil_of_le (by omega)
    conv=>lhs;rw [h0,j0,j1,jn]
    simp only [List.append_nil]
  have q0:vs0=_:=(tS.mono f1 t0)
  subst q0
  obtain ⟨u1,q1,s1⟩:=t1
  subst q1
  rw [hcs]
  exact ⟨_,h1,_,File.mk a0 a1,r1,b1,(l0.trans l1),(f0.trans f1),((v0.mono l1).append v1),⟨u1,rfl,s1⟩,⟨k0,k1⟩⟩
end Go.Wk.Lf
end
section
namespace Go.Wk.Lf
open Go.V
theorem twice_law (x0:List File) (x1:Int) (k0:okS File.ok x0) (k1:okI x1):zav x0 x1=some true:=by
 have e:maxLen < 9223372036854775808:=by decide
 exact twice_true x0 x1 (by have:=k0.1;omega) fun f hf=>by have:=(k0.2 f hf).1;omega
end Go.Wk.Lf
end
section
namespace Go.Wk.Lf
open Go.V Go.Proofs
end Go.Wk.Lf
namespace Go.Proofs
open Go.Shelf
def Tryz.sortLoc_ren:Go.Shelf.Ren:=⟨fun | 6=>99 | 15=>151 | 14=>150 | 28=>179 | 29=>180 | 20=>171 | 21=>172 | 22=>173 | 23=>174 | 24=>175 | 25=>176 | 26=>177 | 27=>178 | 46=>186 | 47=>187 | 48=>188 | 49=>189 | 50=>190 | 57=>199 | n=>n,fun | 22=>44 | 24=>51 | 25=>162 | 3=>3 | 39=>26 | 0=>0 | 53=>169 | 55=>194 | 4=>4 | 46=>229 | 45=>228 | 50=>146 | 5=>5 | 9=>9 | 66=>240 | 70=>244 | 76=>251 | 77=>252 | n=>n,fun | n=>n⟩
theorem Tryz.sortLoc:Go.Proofs.SlLaysF0.n6 Tryz.prog Tryz.sortLoc_ren:={
  mixed:=by kernel_rfl
  f6:=⟨Tryz.f99.name,by decide,Tryz.func99.trans (congrArg some (by kernel_rfl))⟩
  f14:=⟨Tryz.f150.name,by decide,Tryz.func150.trans (congrArg some (by kernel_rfl))⟩
  f15:=Tryz.func151.trans (congrArg some (by kernel_rfl))
  f20:=⟨Tryz.f171.name,by decide,Tryz.func171.trans (congrArg some (by kernel_rfl))⟩
  f21:=⟨Tryz.f172.name,by decide,Tryz.func172.trans (congrArg some (by kernel_rfl))⟩
  f22:=⟨Tryz.f173.name,by decide,Tryz.func173.trans (congrArg some (by kernel_rfl))⟩
  f23:=⟨Tryz.f174.name,by decide,Tryz.func174.trans (congrArg some (by kernel_rfl))⟩
  f24:=⟨Tryz.f175.name,by decide,Tryz.func175.trans (congrArg some (by kernel_rfl))⟩
  f25:=⟨Tryz.f176.name,by decide,Tryz.func176.trans (congrArg some (by kernel_rfl))⟩
  f26:=⟨Tryz.f177.name,by decide,Tryz.func177.trans (congrArg some (by kernel_rfl))⟩
  f27:=⟨Tryz.f178.name,by decide,Tryz.func178.trans (congrArg some (by kernel_rfl))⟩
  f28:=Tryz.func179.trans (congrArg some (by kernel_rfl))
  f29:=Tryz.func180.trans (congrArg some (by kernel_rfl))
  f46:=⟨Tryz.f186.name,by decide,Tryz.func186.trans (congrArg some (by kernel_rfl))⟩
  f47:=Tryz.func187.trans (congrArg some (by kernel_rfl))
  f48:=Tryz.func188.trans (congrArg some (by kernel_rfl))
  f49:=⟨Tryz.f189.name,by decide,Tryz.func189.trans (congrArg some (by kernel_rfl))⟩
  f50:=⟨Tryz.f190.name,by decide,Tryz.func190.trans (congrArg some (by kernel_rfl))⟩
  f57:=⟨Tryz.f199.name,by decide,Tryz.func199.trans (congrArg some (by kernel_rfl))⟩
  t0:=Tryz.underlying0
  a0:=Tryz.isAgg0
  z0:=Tryz.sizeOf0
  v0:=Tryz.zeroValue0
  t3:=Tryz.underlying3
  a3:=Tryz.isAgg3
  z3:=Tryz.sizeOf3
  v3:=Tryz.zeroValue3
  t4:=Tryz.underlying4
  a4:=Tryz.isAgg4
  z4:=Tryz.sizeOf4
  v4:=Tryz.zeroValue4
  t5:=Tryz.underlying5
  a5:=Tryz.isAgg5
  z5:=Tryz.sizeOf5
  v5:=Tryz.zeroValue5
  t9:=Tryz.underlying9
  a9:=Tryz.isAgg9
  z9:=Tryz.sizeOf9
  v9:=Tryz.zeroValue9
  t22:=Tryz.underlying44
  a22:=Tryz.isAgg44
  z22:=Tryz.sizeOf44
  v22:=Tryz.zeroValue44
  t25:=Tryz.underlying162
  a25:=Tryz.isAgg162
  z25:=Tryz.sizeOf162
  v25:=Tryz.zeroValue162
  t39:=Tryz.underlying26
  a39:=Tryz.isAgg26
  z39:=Tryz.sizeOf26
  v39:=Tryz.zeroValue26
  t45:=Tryz.underlying228
  a45:=Tryz.isAgg228
  z45:=Tryz.sizeOf228
  v45:=Tryz.zeroValue228
  t46:=Tryz.underlying229
  a46:=Tryz.isAgg229
  z46:=Tryz.sizeOf229
  v46:=Tryz.zeroValue229
  t50:=Tryz.underlying146
  a50:=Tryz.isAgg146
  z50:=Tryz.sizeOf146
  v50:=Tryz.zeroValue146
  t53:=Tryz.underlying169
  a53:=Tryz.isAgg169
  z53:=Tryz.sizeOf169
  v53:=Tryz.zeroValue169
  t55:=Tryz.underlying194
  a55:=Tryz.isAgg194
  z55:=Tryz.sizeOf194
  v55:=Tryz.zeroValue194
  t66:=Tryz.underlying240
  a66:=Tryz.isAgg240
  z66:=Tryz.sizeOf240
  v66:=Tryz.zeroValue240
  t70:=Tryz.underlying244
  a70:=Tryz.isAgg244
  z70:=Tryz.sizeOf244
  v70:=Tryz.zeroValue244
  t76:=Tryz.underlying251
  a76:=Tryz.isAgg251
  z76:=Tryz.sizeOf251
  v76:=Tryz.zeroValue251
  t77:=Tryz.underlying252
  a77:=Tryz.isAgg252
  z77:=Tryz.sizeOf252
  v77:=Tryz.zeroValue252 }
def Tryz.sortIds_ren:Go.Shelf.Ren:=⟨fun | 6=>168 | 15=>151 | 14=>185 | 28=>179 | 29=>180 | 20=>191 | 21=>192 | 22=>193 | 23=>194 | 24=>195 | 25=>196 | 26=>197 | 27=>198 | 46=>200 | 47=>187 | 48=>188 | 49=>201 | 50=>202 | 57=>203 | n=>n,fun | 22=>118 | 24=>58 | 25=>187 | 3=>3 | 39=>26 | 0=>0 | 53=>169 | 55=>194 | 4=>4 | 46=>229 | 45=>228 | 50=>146 | 5=>5 | 9=>9 | 66=>240 | 70=>244 | 76=>251 | 77=>252 | n=>n,fun | n=>n⟩
theorem Tryz.sortIds:Go.Proofs.SlLaysF0.n6 Tryz.prog Tryz.sortIds_ren:={
  mixed:=by kernel_rfl
  f6:=⟨Tryz.f168.name,by decide,Tryz.func168.trans (congrArg some (by kernel_rfl))⟩
  f14:=⟨Tryz.f185.name,by decide,Tryz.func185.trans (congrArg some (by kernel_rfl))⟩
  f15:=Tryz.func151.trans (congrArg some (by kernel_rfl))
  f20:=⟨Tryz.f191.name,by decide,Tryz.func191.trans (congrArg some (by kernel_rfl))⟩
  f21:=⟨Tryz.f192.name,by decide,Tryz.func192.trans (congrArg some (by kernel_rfl))⟩
  f22:=⟨Tryz.f193.name,by decide,Tryz.func193.trans (congrArg some (by kernel_rfl))⟩
  f23:=⟨Tryz.f194.name,by decide,Tryz.func194.trans (congrArg some (by kernel_rfl))⟩
  f24:=⟨Tryz.f195.name,by decide,Tryz.func195.trans (congrArg some (by kernel_rfl))⟩
  f25:=⟨Tryz.f196.name,by decide,Tryz.func196.trans (congrArg some (by kernel_rfl))⟩
  f26:=⟨Tryz.f197.name,by decide,Tryz.func197.trans (congrArg some (by kernel_rfl))⟩
  f27:=⟨Tryz.f198.name,by decide,Tryz.func198.trans (congrArg some (by kernel_rfl))⟩
  f28:=Tryz.func179.trans (congrArg some (by kernel_rfl))
  f29:=Tryz.func180.trans (congrArg some (by kernel_rfl))
  f46:=⟨Tryz.f200.name,by decide,Tryz.func200.trans (congrArg some (by kernel_rfl))⟩
  f47:=Tryz.func187.trans (congrArg some (by kernel_rfl))
  f48:=Tryz.func188.trans (congrArg some (by kernel_rfl))
  f49:=⟨Tryz.f201.name,by decide,Tryz.func201.trans (congrArg some (by kernel_rfl))⟩
  f50:=⟨Tryz.f202.name,by decide,Tryz.func202.trans (congrArg some (by kernel_rfl))⟩
  f57:=⟨Tryz.f203.name,by decide,Tryz.func203.trans (congrArg some (by kernel_rfl))⟩
  t0:=Tryz.underlying0
  a0:=Tryz.isAgg0
  z0:=Tryz.sizeOf0
  v0:=Tryz.zeroValue0
  t3:=Tryz.underlying3
  a3:=Tryz.isAgg3
  z3:=Tryz.sizeOf3
  v3:=Tryz.zeroValue3
  t4:=Tryz.underlying4
  a4:=Tryz.isAgg4
  z4:=Tryz.sizeOf4
  v4:=Tryz.zeroValue4
  t5:=Tryz.underlying5
  a5:=Tryz.isAgg5
  z5:=Tryz.sizeOf5
  v5:=Tryz.zeroValue5
  t9:=Tryz.underlying9
  a9:=Tryz.isAgg9
  z9:=Tryz.sizeOf9
  v9:=Tryz.zeroValue9
  t22:=Tryz.underlying118
  a22:=Tryz.isAgg118
  z22:=Tryz.sizeOf118
  v22:=Tryz.zeroValue118
  t25:=Tryz.underlying187
  a25:=Tryz.isAgg187
  z25:=Tryz.sizeOf187
  v25:=Tryz.zeroValue187
  t39:=Tryz.underlying26
  a39:=Tryz.isAgg26
  z39:=Tryz.sizeOf26
  v39:=Tryz.zeroValue26
  t45:=Tryz.underlying228
  a45:=Tryz.isAgg228
  z45:=Tryz.sizeOf228
  v45:=Tryz.zeroValue228
  t46:=Tryz.underlying229
  a46:=Tryz.isAgg229
  z46:=Tryz.sizeOf229
  v46:=Tryz.zeroValue229
  t50:=Tryz.underlying146
  a50:=Tryz.isAgg146
  z50:=Tryz.sizeOf146
  v50:=Tryz.zeroValue146
  t53:=Tryz.underlying169
  a53:=Tryz.isAgg169
  z53:=Tryz.sizeOf169
  v53:=Tryz.zeroValue169
  t55:=Tryz.underlying194
  a55:=Tryz.isAgg194
  z55:=Tryz.sizeOf194
  v55:=Tryz.zeroValue194
  t66:=Tryz.underlying240
  a66:=Tryz.isAgg240
  z66:=Tryz.sizeOf240
  v66:=Tryz.zeroValue240
  t70:=Tryz.underlying244
  a70:=Tryz.isAgg244
  z70:=Tryz.sizeOf244
  v70:=Tryz.zeroValue244
  t76:=Tryz.underlying251
  a76:=Tryz.isAgg251
  z76:=Tryz.sizeOf251
  v76:=Tryz.zeroValue251
  t77:=Tryz.underlying252
  a77:=Tryz.isAgg252
  z77:=Tryz.sizeOf252
  v77:=Tryz.zeroValue252 }
end Go.Proofs
namespace Go.Wk.Lf
open Go.V Go.Proofs
theorem kk_ok:KOk Tryz.prog KK :=
  Tb.or (KSort_ok (ff:=Tryz.f99) KNone_ok Tryz.sortLoc rfl Tryz.isAgg51 Tryz.sizeOf51 Tryz.func99 rfl (by decide)) (Tb.or (KSort_ok (ff:=Tryz.f168) KExt_ok Tryz.sortIds rfl Tryz.isAgg58 Tryz.sizeOf58 Tryz.func168 rfl (by decide)) (Tb.or KExt_ok (Tb.or zzn (Tb.or (zwo zzn) (Tb.or (zwo zzn) (zwo zzn))))))
end Go.Wk.Lf
end
