/- From the model to the plain heap: nothing, what is handed in (views that are only read), the law's call. An executable twin: what it answers, XW shows. Functions without a body that are known: internal/bytealg.Compare. Closed calls: what a call without arguments comes to is known by evaluation, in whatever memory. Frozen memory and typed relations, over the plain heap. A law's arguments, opened by their types: views of what is handed in. What a law's row asks, out of what XW shows. A call's state over the plain heap: what it owns, what is frozen, what stays. Values that own memory: flat ones, rows of such. An element more: append to an own row, deep. Own rows: an element is read, is written. What is owned is frozen: a result, or what is lent to readers. Rules for walks: what comes behind stands in the post. Operations that look into memory, in regions in the text's order. More slots filled: operations tell the same. More slots filled: what XW shows stays. Walks over lists of slots: continuations as data, rules for code and operations. The words of lifted functions; loops over them; own objects by their places. Operations that read: what they tell, out of frozen cells. Own rows: some elements more at once; made anew. Operations that turn memory: what they come to for own objects. More operations: structs built, sums of bytes, texts' order. Machine integers: what the model's wraps and bits are, in Lean's own UInt8, UInt32, UInt64. Pieces of own rows. Deep rows: elements with ro -/
import Derived.Test.YtfphkkaifgnlgaaGreatG1
import Derived.Lib.Bytealg
import Derived.Laws.Externs
import Derived.ProofKit
import Derived.OpenShut
import Derived.Carry
import Derived.Deep.Slices
import Derived.Shelf.SlSortCmp.WholeK
import Derived.Lib.Overlaps
set_option linter.unusedVariables false
set_option linter.unusedSimpArgs false
section
namespace Go.V
section
variable {P:Program} {K:Tb} {ρ:Ren} {h:Hp} {w:World}
def ρ0:Ren:=fun _=>none
theorem Rel.nothing (w:World):Rel ρ0 Hp.empty w :=
 ⟨fun b i e=>(by cases e),fun b i B e=>(by cases e),fun b b' i i' e=>(by cases e),fun b _=>rfl⟩
def Bare (h:Hp):Prop:=∀ b,¬ own h b
theorem Bare.empty:Bare Hp.empty:=fun b ⟨B,q,_⟩=>by cases q
def Rel.see (ρ:Ren) (h:Hp) (g off:Nat):Ren:=ρ.put h.next ⟨g,off,0,0,0⟩
theorem Bare.see (hb:Bare h) (vs:List Val):Bare (h.new (.ro vs)):=fun b ⟨B,q1,q2⟩=>by
 rw [Hp.get_new] at q1
 split at q1
 ·obtain rfl:=Option.some.inj q1;cases q2
 ·exact hb b ⟨B,q1,q2⟩
theorem Rel.view (r:Rel ρ h w) (hb:Bare h) {g off:Nat} {vs:List Val} {us:List Value} (h1:vs.all Val.one=true) (hv:VRL ρ vs us) (hr:∀ j u,us[j]? = some u→w.cell? ⟨g,off+j,none⟩=some u) (hg:g < w.heap.size) :
  Rel (Rel.see ρ h g off) (h.new (.ro vs)) w∧ρ.le (Rel.see ρ h g off)∧(Rel.see ρ h g off) h.next=some ⟨g,off,0,0,0⟩:=by
 have hle:=Ren.le_put (ρ:=ρ) (b:=h.next) ⟨g,off,0,0,0⟩ r.free;have hput:∀ b i,(Rel.see ρ h g off) b=some i→(b=h.next∧i=⟨g,off,0,0,0⟩)∨(b≠h.next∧ρ b=some i):=fun b i e=>by
  unfold Rel.see Ren.put at e
  split at e
  ·rename_i q;exact .inl ⟨q,(Option.some.inj e).symm⟩
  ·rename_i q;exact .inr ⟨q,e⟩
 refine ⟨⟨fun b i e=>?_,fun b i B e f=>?_,fun b b' i i' e e' l l' _=>absurd l' (hb.see vs b'),fun k hk=>?_⟩,hle,by simp [Rel.see,Ren.put]⟩
 ·rcases hput b i e with ⟨rfl,rfl⟩ | ⟨_,e⟩
  ·exact ⟨Nat.lt_succ_self _,hg⟩
  ·have:=r.dom b i e;exact ⟨Nat.lt_succ_of_lt this.1,this.2⟩
 ·rcases hput b i e with ⟨rfl,rfl⟩ | ⟨hk,e⟩
  ·rw [Hp.get_new,if_pos rfl] at f;obtain rfl:=Option.some.inj f;refine ⟨h1,fun j u hj=>?_⟩;obtain ⟨u',q1,q2⟩:=hv.at hj;exact ⟨u',hr j u' q1,q2.mono hle⟩
  ·rw [Hp.get_new,if_neg hk] at f;exact (r.blk b i B e f).congr hle rfl
 ·have hk':h.next+1≤k:=hk;rw [Hp.get_new,if_neg (by omega)];exact r.wf k (by omega)
theorem XW.back {f:FuncId} {fn:Func} {c:Code} {args:List Val} {args':List Value} {M:Val→Hp→Prop} (hK:KOk P K) (hf:P.funcs[f]? = some fn) (hb:fn.body=some c) (hn:fn.name ≠ "runtime.NumGoroutine") (r:Rel ρ h w) (hv:VRL ρ args args') (x:XW P K (.call f args h) fun o=>∃ v h',o = .call v h' ∧ M v h') :
  Calls P f args'.toArray w (zte fun v' w'=>∃ v h' ρ',M v h' ∧ VR ρ' v v' ∧ Rel ρ' h' w' ∧ Ext ρ h w ρ' h' w'):=by
 rcases sim_all hK x ρ w args' r hv with ⟨_,e2⟩ | ⟨v',w',e1,_⟩
 ·refine Calls.mono e2 fun e w' q=>?_;cases e with
  | returned v' =>
   obtain ⟨v,h',ρ',⟨v2,h2,e,q1⟩,q2⟩:=q;obtain ⟨rfl,rfl⟩:=Out.call.inj e;exact ⟨_,_,ρ',q1,q2⟩
  | panicked c=>exact q.elim
  | outgrown=>exact q.elim
 ·rw [zqb hf hb hn args'.toArray w] at e1;cases e1
structure Kept (w w':World):Prop where
 os:w'.os=w.os
 tape:w'.tape=w.tape
 output:w'.output=w.output
 size:w.heap.size≤w'.heap.size
 block:∀ k,k < w.heap.size→w'.heap[k]? = w.heap[k]?
 drawn:w.drawn≤w'.drawn
theorem Ext.kept {ρ':Ren} {h':Hp} {w':World} (x:Ext ρ h w ρ' h' w') (hb:Bare h):Kept w w' :=
 ⟨x.os,x.tape,x.output,x.size,fun k hk=>(x.frame k hk fun b i _ q=>absurd q (hb b)).1,x.drawn⟩
theorem XW.law {f:FuncId} {fn:Func} {c:Code} {args:List Val} {args':List Value} (hK:KOk P K) (hf:P.funcs[f]? = some fn) (hb:fn.body=some c) (hn:fn.name ≠ "runtime.NumGoroutine") (r:Rel ρ h w) (hh:Bare h) (hv:VRL ρ args args') (x:XW P K (.call f args h) fun o=>∃ v h',o = .call v h' ∧ v = .b true) :
  Calls P f args'.toArray w (zte fun v' w'=>v' = .bool true∧Kept w w'):=by
 refine Calls.mono (XW.back hK hf hb hn r hv (M:=fun v _=>v = .b true) x) fun e w' q=>?_;cases e with
 | returned v' =>
  obtain ⟨v,h',ρ',rfl,q2,q3,q4⟩:=q;cases q2;exact ⟨rfl,q4.kept hh⟩
 | panicked c=>exact q.elim
 | outgrown=>exact q.elim
end
end Go.V
end
section
namespace Go.V
mutual
def Val.eqB:Val→Val→Bool
 | .b x,.b y=>x == y
 | .i k n,.i j m=>decide (k=j)&&decide (n=m)
 | .s x,.s y=>decide (x=y)
 | .p a,.p b=>decide (a=b)
 | .sl a n c,.sl b m d=>decide (a=b)&&decide (n=m)&&decide (c=d)
 | .es,.es=>true
 | .m a,.m b=>decide (a=b)
 | .f g cs,.f g' ds=>decide (g=g')&&eqLB cs ds
 | .nf,.nf=>true
 | .agg cs,.agg ds=>eqLB cs ds
 | .tup cs,.tup ds=>eqLB cs ds
 | _,_=>false
def eqLB:List Val→List Val→Bool
 | [],[]=>true
 | x::r,y::s=>Val.eqB x y&&eqLB r s
 | _,_=>false
end
mutual
theorem Val.eqB_eq:∀ {x y:Val},Val.eqB x y=true→x=y:=by
 intro x y h;cases x <;> cases y <;> simp only [Val.eqB,Bool.and_eq_true,decide_eq_true_eq,beq_iff_eq,Bool.false_eq_true] at h
 ·rw [h]
 ·rw [h.1,h.2]
 ·rw [h]
 ·rw [h]
 ·rw [h.1.1,h.1.2,h.2]
 ·rfl
 ·rw [h]
 ·rw [h.1,eqLB_eq h.2]
 ·rfl
 ·rw [eqLB_eq h]
 ·rw [eqLB_eq h]
theorem eqLB_eq:∀ {x y:List Val},eqLB x y=true→x=y:=by
 intro x y h;cases x with
 | nil=>cases y with
  | nil=>rfl
  | cons _ _=>simp [eqLB] at h
 | cons a r=>cases y with
  | nil=>simp [eqLB] at h
  | cons b s =>
   simp only [eqLB,Bool.and_eq_true] at h;rw [Val.eqB_eq h.1,eqLB_eq h.2]
end
section
variable (P:Program)
def staysB (A:List Oper) (dr:Bool) (i:Nat) (pd:List Pend) (h:Hp):Bool :=
 !dr||pd.all fun q=>((ancs A []).getD i 0).testBit q.idx||(match zcs P q.op,op1 P q.env h q.op with
  | .read,some (v,_)=>Val.eqB v q.v
  | _,_=>false)
def orderGo (A:List Oper):Nat→List Nat→List Nat→List Nat
 | 0,_,acc=>acc.reverse
 | n+1,todo,acc =>
  let ready:=todo.filter fun i=>(opAt A i).after.toList.all fun e=>!Region.binds .any e||acc.contains e.on
  match (ready.find? fun i=>decide (zcs P (opAt A i).op ≠ .eff)).or ready.head? with
  | some i=>orderGo A n (todo.filter (· != i)) (i::acc)
  | none=>acc.reverse
def orderOf (A:List Oper):List Nat:=orderGo P A A.length (List.range A.length) []
def evJ:Nat→Job→Option Out
 | 0,_=>none
 | k+1,.code n c env h=>match c with
  | .skip=>some (.code .nrm env h)
  | .label _=>some (.code .nrm env h)
  | .exit i=>some (.code (.ext i) env h)
  | .ret=>some (.code .ret env h)
  | .seq a b=>(evJ k (.code n a env h)).bind fun o=>match o with
   | .code .nrm env' h'=>evJ k (.code n b env' h')
   | o=>some o
  | .cond x a b=>match evO env x with
   | some (.b t)=>evJ k (.code n (bif t then a else b) env h)
   | _=>none
  | .block id a=>(evJ k (.code n a env h)).map fun o=>match o with
   | .code (.ext i) env' h'=>.code (if i=id then .nrm else .ext i) env' h'
   | o=>o
  | .loop a=>(evJ k (.code n a env h)).bind fun o=>match o with
   | .code .nrm env' h'=>evJ k (.code n (.loop a) env' h')
   | o=>some o
  | .region id A dr =>
   let L:=bif dr then orderOf P A.toList else List.range A.toList.length
   if zpj n A.toList=true∧(dr=true→P.follows .mixedOrders=true∧okL P A.toList L=true) then evJ k (.ops n A.toList dr L [] env h) else none
  | _=>none
 | k+1,.ops n A dr L pd env h=>match L with
  | []=>some (.code .nrm env h)
  | i::L=>if i < A.length then match zlo A env (opAt A i) with
   | some false=>evJ k (.ops n A dr L pd (putO env (opAt A i).dst .no) h)
   | some true=>match tgt env (opAt A i).op with
    | some (f,args)=>(evJ k (.call f args h)).bind fun o=>match o with
     | .call v h'=>bif staysB P A dr i pd h' then evJ k (.ops n A dr L pd (putO env (opAt A i).dst v) h') else none
     | _=>none
    | none=>(op1 P env h (opAt A i).op).bind fun q =>
     if zcs P (opAt A i).op = .eff→staysB P A dr i pd q.2=true then evJ k (.ops n A dr L (zoq P A i env q.1 pd) (putO env (opAt A i).dst q.1) q.2) else none
   | none=>none
   else none
 | k+1,.call f args h=>match P.funcs[f]? with
  | some fn=>match fn.body with
   | some c=>if fn.name ≠ "runtime.NumGoroutine" ∧ args.length≤fn.ntmps then (evJ k (.code fn.ntmps c (argE 0 args .lf) h)).bind fun o=>match o with
    | .code .nrm env' h'=>(resV P env' h' fn.results.toList).map fun vs=>.call (oneV vs) h'
    | .code .ret env' h'=>(resV P env' h' fn.results.toList).map fun vs=>.call (oneV vs) h'
    | _=>none
    else none
   | none=>none
  | none=>none
end
theorem staysB_stays {P:Program} {A:List Oper} {dr:Bool} {i:Nat} {pd:List Pend} {h:Hp} (hb:staysB P A dr i pd h=true):Stays P A dr i pd h:=by
 intro hd q hq hbit;subst hd;simp only [staysB,Bool.not_true,Bool.false_or] at hb;have:=List.all_eq_true.1 hb q hq;rw [hbit,Bool.false_or] at this
 split at this
 ·rename_i v h' hk ho;rw [ho];obtain ⟨rfl,_⟩:=zug hk ho;rw [Val.eqB_eq this]
 ·cases this
theorem evJ_sound {P:Program} {K:Tb}:∀ (k:Nat) (j:Job) (o:Out),evJ P k j=some o→XW P K j (· = o):=by
 intro k
 induction k with
 | zero=>intro j o h;simp [evJ] at h
 | succ k ih =>
  intro j o hj;cases j with
  | code n c env h =>
   cases c with
   | skip=>simp only [evJ,Option.some.injEq] at hj;exact .skip hj
   | label i=>simp only [evJ,Option.some.injEq] at hj;exact .label hj
   | exit i=>simp only [evJ,Option.some.injEq] at hj;exact .exit hj
   | ret=>simp only [evJ,Option.some.injEq] at hj;exact .ret hj
   | seq a b =>
    simp only [evJ] at hj;rw [Option.bind_eq_some_iff] at hj;obtain ⟨o1,h1,h2⟩:=hj;refine .seq (ih _ _ h1) (fun env' h' e=>?_) (fun e env' h' ne he=>?_)
    ·subst e;exact ih _ _ h2
    ·subst he;cases e with
     | nrm=>exact absurd rfl ne
     | ext i=>exact Option.some.inj h2
     | ret=>exact Option.some.inj h2
   | cond x a b =>
    simp only [evJ] at hj
    split at hj
    ·rename_i t hx;exact .cond hx (ih _ _ hj)
    ·cases hj
   | block id a =>
    simp only [evJ] at hj;obtain ⟨o1,h1,h2⟩:=Option.map_eq_some_iff.1 hj;refine .block (ih _ _ h1) fun e env' h' he=>?_;subst he;cases e <;> exact h2
   | loop a =>
    simp only [evJ] at hj;rw [Option.bind_eq_some_iff] at hj;obtain ⟨o1,h1,h2⟩:=hj;refine .loop (ih _ _ h1) (fun env' h' e=>?_) (fun e env' h' ne he=>?_)
    ·subst e;exact ih _ _ h2
    ·subst he;cases e with
     | nrm=>exact absurd rfl ne
     | ext i=>exact Option.some.inj h2
     | ret=>exact Option.some.inj h2
   | region id A dr =>
    simp only [evJ] at hj
    split at hj
    ·rename_i hc;have:=XW.region (P:=P) (K:=K) (id:=id) (dr:=dr) hc.1 (by
      cases dr with
      | true=>simp only [if_true];exact hc.2 rfl
      | false=>simp) (ih _ _ hj)
     simpa using this
    ·cases hj
   | _=>simp [evJ] at hj
  | ops n A dr L pd env h =>
   cases L with
   | nil=>simp only [evJ,Option.some.injEq] at hj;exact .onil hj
   | cons i L =>
    simp only [evJ] at hj
    split at hj
    ·rename_i hi
     split at hj
     ·rename_i hw;exact .onot hi hw (ih _ _ hj)
     ·rename_i hw
      split at hj
      ·rename_i f args ht;rw [Option.bind_eq_some_iff] at hj;obtain ⟨o1,h1,h2⟩:=hj;refine .ocall hi hw ht (ih _ _ h1) (fun v h' e=>?_) (fun v h' e=>?_)
       ·subst e;simp only at h2;cases hs:staysB P A dr i pd h' with
        | true=>exact staysB_stays hs
        | false=>rw [hs] at h2;cases h2
       ·subst e;simp only at h2;cases hs:staysB P A dr i pd h' with
        | true=>rw [hs] at h2;exact ih _ _ h2
        | false=>rw [hs] at h2;cases h2
      ·rename_i ht;rw [Option.bind_eq_some_iff] at hj;obtain ⟨q,h1,h2⟩:=hj
       split at h2
       ·rename_i hs;exact .oone hi hw h1 (fun hk=>staysB_stays (hs hk)) (ih _ _ h2)
       ·cases h2
     ·cases hj
    ·cases hj
  | call f args h =>
   simp only [evJ] at hj
   split at hj
   ·rename_i fn hf
    split at hj
    ·rename_i c hb
     split at hj
     ·rename_i hc;rw [Option.bind_eq_some_iff] at hj;obtain ⟨o1,h1,h2⟩:=hj;refine .call hf hb hc.1 hc.2 (ih _ _ h1) fun e env' h' he=>?_;subst he;cases e with
      | nrm =>
       obtain ⟨vs,q1,q2⟩:=Option.map_eq_some_iff.1 h2;exact ⟨.inl rfl,vs,q1,q2⟩
      | ret =>
       obtain ⟨vs,q1,q2⟩:=Option.map_eq_some_iff.1 h2;exact ⟨.inr rfl,vs,q1,q2⟩
      | ext i=>cases h2
     ·cases hj
    ·cases hj
   ·cases hj
end Go.V
end
section
namespace Go.V
def zlr (h:Hp):Val→Option (List UInt8)
 | .sl (some a) n c=>(zgd h 1 n (.sl (some a) n c)).bind zog
 | .sl none _ _=>some []
 | .es=>some []
 | _=>none
section
variable {P:Program} {ρ:Ren} {h:Hp} {w:World}
theorem zqa:∀ (ns:List Int) (w:World) (a:Addr) (acc:ByteArray),(∀ j n,ns[j]? = some n→w.cell? (a.add j)=some (.int .u8 n)) →
  (Extern.Bytes.loadBytes a ns.length acc).run P w = .ok ⟨acc.data++(ns.map fun n=>UInt8.ofNat n.toNat).toArray⟩ w
 | [],w,a,acc,_=>by simp [Extern.Bytes.loadBytes]
 | x::xs,w,a,acc,h=>by
  have h0:=h 0 x rfl;have ha:a.add 0=a:=by simp [Addr.add]
  rw [ha] at h0;have ih:=zqa xs w (a.add 1) (acc.push x.toNat.toUInt8) fun j b hj=>by
   have e:(a.add 1).add j=a.add (j+1):=by simp [Addr.add,Nat.add_assoc,Nat.add_comm 1 j]
   rw [e];exact h (j+1) b (by simpa using hj)
  have hl:(load a).run P w = .ok (.int .u8 x) w:=by simp [run_load,h0]
  simp only [List.length_cons,Extern.Bytes.loadBytes,Sem.run_bind,hl,Result.andThen_ok];rw [ih];simp [ByteArray.push]
theorem zpa {v:Val} {u:Value} {xs:List UInt8} (r:Rel ρ h w) (hv:VR ρ v u) (hs:zlr h v=some xs):(Extern.Bytes.bytesOf u).run P w = .ok ⟨xs.toArray⟩ w:=by
 have key:∀ (b o n cc:Nat) (i:Info),ρ b=some i→((if n=0 then some [] else rd h b o (n*1)).bind zog)=some xs→(Extern.Bytes.bytesOf (.slice (some ⟨i.g,i.base+o,none⟩) n cc)).run P w = .ok ⟨xs.toArray⟩ w:=fun b o n cc i hb hq=>by
  rw [Option.bind_eq_some_iff] at hq;obtain ⟨c,h1,h2⟩:=hq;have hx:∃ us,VRL ρ c us∧us.length=n∧w.rangeAt i.g (i.base+o) us:=by
   split at h1
   ·rename_i h0;obtain rfl:=Option.some.inj h1;exact ⟨[],VRL.nil,by simp [h0],fun j v hv=>by simp at hv⟩
   ·obtain ⟨_,us,g1,g2,g3⟩:=r.rd hb h1;exact ⟨us,g1,by rw [g2];simp,g3⟩
  obtain ⟨us,g1,g2,g3⟩:=hx;obtain ⟨ns,rfl,rfl⟩:=zxz h2 g1;have:=zqa (P:=P) ns w ⟨i.g,i.base+o,none⟩ .empty fun j n hj=>by
   have:=g3 j (.int .u8 n) (by simp [hj]);have e:Addr.add ⟨i.g,i.base+o,none⟩ j=⟨i.g,i.base+o+j,none⟩:=by
    unfold Addr.add
    split
    ·rename_i q;subst q;rfl
    ·rfl
   rw [e];exact this
  have hl:ns.length=n:=by simpa using g2
  subst hl;simp only [Extern.Bytes.bytesOf,this]
  congr 2
  simp [ByteArray.empty,ByteArray.emptyWithCapacity];rfl
 cases hv with
 | sn=>obtain rfl:=Option.some.inj hs;simp [Extern.Bytes.bytesOf];rfl
 | es=>obtain rfl:=Option.some.inj hs;simp [Extern.Bytes.bytesOf,Extern.Bytes.loadBytes];rfl
 | sk hb hk=>exact key _ _ _ _ _ hb hs
 | so hb hk q1 q2=>exact key _ _ _ _ _ hb hs
 | _=>simp [zlr] at hs
def KExt (P:Program):Tb:=fun f args h M=>∃ g u v a b,P.funcs[f]? = some g∧(g.name == "runtime.NumGoroutine")=false∧g.body.isNone=true∧Extern.findNext g=none∧Extern.find g=some Extern.BytealgCompare.compare ∧
 args=[u,v]∧zlr h u=some a∧zlr h v=some b∧M (.i .i64 (Lib.compareBytes a b)) h
theorem KExt_ok:KOk P (KExt P):=by
 rintro f args h M ⟨g,u,v,a,b,hf,hname,hb,hn,he,rfl,hu,hv,hM⟩ ρ w args' r hr
 match args',hr with
 | [u',v'],hr =>
  have h1:=run_callFunc_extern (P:=P) hf hname hb hn he #[u',v'] w;have h2:(Extern.BytealgCompare.compare #[u',v']).run P w = .ok (.int .i64 (Lib.compareBytes a b)) w:=by
   change ((Extern.Bytes.bytesOf u') >>= fun a=>(Extern.Bytes.bytesOf v') >>= fun b=>pure (goInt (Extern.BytealgCompare.cmp a b))).run P w=_;simp only [Sem.run_bind,zpa r hr.head hu,zpa r hr.tail.head hv,Result.andThen_ok,Sem.run_pure,goInt];rw [Lib.cmp_eq]
  rw [h2] at h1;exact .inr ⟨_,w,h1,_,h,ρ,hM,.i _ _,r,Ext.refl _ _ _⟩
 | [],hr=>exact absurd hr.1 (by simp)
 | [_],hr=>exact absurd hr.1 (by simp)
 | _::_::_::_,hr=>exact absurd hr.1 (by simp)
end
end Go.V
end
section
namespace Go.V
section
variable {P:Program} {K K':Tb} {ρ:Ren} {h:Hp} {w w':World}
theorem Tb.or (hK:KOk P K) (hK':KOk P K'):KOk P (fun f args h M=>K f args h M∨K' f args h M):=by
 rintro f args h M (q | q)
 ·exact hK f args h M q
 ·exact hK' f args h M q
end
end Go.V
end
section
namespace Go.V
def zfj (h:Hp) (b o:Nat):Option Val:=match h.get b with
 | some (.cells _ c)=>c[o]?
 | some (.ro c)=>c[o]?
 | _=>none
abbrev Frz:=Nat→Nat→Option Val
def Frz.le (F G:Frz):Prop:=∀ b o u,F b o=some u→G b o=some u
theorem Frz.le.refl (F:Frz):F.le F:=fun _ _ _ h=>h
theorem Frz.le.trans {F G H:Frz} (a:F.le G) (b:G.le H):F.le H:=fun x o u h=>b x o u (a x o u h)
def zit (F:Frz) (h:Hp):Prop:=∀ b o u,F b o=some u→zfj h b o=some u
theorem zit.le {F G:Frz} {h:Hp} (a:zit G h) (l:F.le G):zit F h:=fun x o u e=>a x o u (l x o u e)
def nowF (h:Hp):Frz:=zfj h
theorem zkc (h:Hp):zit (nowF h) h:=fun _ _ _ e=>e
theorem zol {h:Hp} {b o n:Nat} {c:List Val} (hc:c.length=n) (hn:0 < n) (hq:∀ j u,c[j]? = some u→zfj h b (o+j)=some u):rd h b o n=some c:=by
 have key:∀ d:List Val,(∀ j u,c[j]? = some u→d[o+j]? = some u)→(if o+n≤d.length then some ((d.drop o).take n) else none)=some c:=fun d hd=>by
  have hl:o+n≤d.length:=by
   have h1:=hd (n - 1) (c[n - 1]'(by omega)) (List.getElem?_eq_getElem _);have:=(List.getElem?_eq_some_iff.1 h1).1;omega
  rw [if_pos hl]
  congr 1
  apply List.ext_getElem?;intro j;rw [List.getElem?_take]
  split
  ·rename_i hj;rw [List.getElem?_drop,List.getElem?_eq_getElem (by omega:j < c.length)];exact hd j _ (List.getElem?_eq_getElem _)
  ·rename_i hj;rw [List.getElem?_eq_none (by omega)]
 have h0:=hq 0 (c[0]'(by omega)) (List.getElem?_eq_getElem _);unfold rd;cases hg:h.get b with
 | none=>simp [zfj,hg] at h0
 | some B =>
  cases B with
  | cells z d=>exact key d fun j u hj=>by have:=hq j u hj;simpa [zfj,hg] using this
  | ro d=>exact key d fun j u hj=>by have:=hq j u hj;simpa [zfj,hg] using this
  | map es=>simp [zfj,hg] at h0
  | dead=>simp [zfj,hg] at h0
abbrev Cl (s:Nat):={ l:List Val // l.length=s }
structure Tr (α:Type) where
 size:Nat
 rel:Frz→List Val→α→Prop
 pos:0 < size
 len:∀ {F cs x},rel F cs x→cs.length=size
 one:∀ {F cs x},rel F cs x→cs.all Val.one=true
 mono:∀ {F G cs x},F.le G→rel F cs x→rel G cs x
def SlC (F:Frz) (v:Val) (s:Nat) (css:List (Cl s)):Prop :=
 (v = .es∧css=[]) ∨ ∃ a c,v = .sl a css.length (.of s c)∧css.length≤maxLen∧(∀ k,c=some k→css.length≤k)∧(a=none→css=[]∧c=some 0) ∧
  ∀ b o,a=some (b,o) → ∀ (i:Nat) (d:Cl s) (j:Nat) (u:Val),css[i]? = some d→d.1[j]? = some u→F b (o+(i*s+j))=some u
def RelL {α:Type} (t:Tr α) (F:Frz) (css:List (Cl t.size)) (xs:List α):Prop:=css.length=xs.length ∧ ∀ (i:Nat) (d:Cl t.size) (x:α),css[i]? = some d→xs[i]? = some x→t.rel F d.1 x
def SlF {α:Type} (t:Tr α) (F:Frz) (v:Val) (xs:List α):Prop:=∃ css,RelL t F css xs∧SlC F v t.size css
section
variable {α:Type} {t:Tr α} {F G:Frz} {v:Val} {xs:List α} {s:Nat} {css:List (Cl s)}
theorem SlC.mono (h:SlC F v s css) (l:F.le G):SlC G v s css:=by
 rcases h with h | ⟨a,c,e1,e2,e3,e4,e5⟩
 ·exact .inl h
 ·exact .inr ⟨a,c,e1,e2,e3,e4,fun b o had i d j u h1 h2=>l _ _ _ (e5 b o had i d j u h1 h2)⟩
theorem RelL.mono {css:List (Cl t.size)} (h:RelL t F css xs) (l:F.le G):RelL t G css xs:=⟨h.1,fun i d x h1 h2=>t.mono l (h.2 i d x h1 h2)⟩
theorem SlF.mono (h:SlF t F v xs) (l:F.le G):SlF t G v xs:=by
 obtain ⟨css,h1,h2⟩:=h;exact ⟨css,h1.mono l,h2.mono l⟩
theorem SlF.nil (F:Frz):SlF t F (.sl none 0 (.k 0)) []:=⟨[],⟨rfl,fun i d x h _=>by simp at h⟩,.inr ⟨none,some 0,rfl,by simp,fun k hk=>by simp,fun _=>⟨rfl,rfl⟩,fun b o h=>by cases h⟩⟩
theorem SlF.one (h:SlF t F v xs):v.one=true:=by
 obtain ⟨css,h1,h2⟩:=h;rcases h2 with ⟨rfl,rfl⟩ | ⟨a,c,rfl,e2,_⟩ <;> rfl
theorem SlF.at_ (h:SlF t F v xs) {i:Nat} {x:α} (hi:xs[i]? = some x):∃ cs b o c,v = .sl (some (b,o)) xs.length (.of t.size c)∧t.rel F cs x ∧ ∀ j u,cs[j]? = some u→F b (o+i*t.size+j)=some u:=by
 obtain ⟨css,h1,h2⟩:=h;have hl:=(List.getElem?_eq_some_iff.1 hi).1;have hd:=List.getElem?_eq_getElem (l:=css) (i:=i) (by rw [h1.1];exact hl);have hr:=h1.2 _ _ _ hd hi;rcases h2 with ⟨rfl,rfl⟩ | ⟨a,c,rfl,e2,e3,e4,e5⟩
 ·exact absurd h1.1 (by simp;omega)
 ·cases a with
  | none=>have:=(e4 rfl).1;have:=h1.1;simp_all
  | some ad=>exact ⟨_,ad.1,ad.2,c,by rw [h1.1],hr,fun j u hj=>by rw [Nat.add_assoc];exact e5 _ _ rfl i _ j u hd hj⟩
end
def tI:Tr Int:=⟨1,fun _ cs n=>cs=[.i .i64 n],by decide,fun h=>by rw [h];rfl,fun h=>by rw [h];rfl,fun _ h=>h⟩
def tB:Tr UInt8:=⟨1,fun _ cs n=>cs=[.i .u8 n.toNat],by decide,fun h=>by rw [h];rfl,fun h=>by rw [h];rfl,fun _ h=>h⟩
def tBool:Tr Bool:=⟨1,fun _ cs b=>cs=[.b b],by decide,fun h=>by rw [h];rfl,fun h=>by rw [h];rfl,fun _ h=>h⟩
def tS:Tr (List UInt8):=⟨1,fun _ cs s=>cs=[.s s],by decide,fun h=>by rw [h];rfl,fun h=>by rw [h];rfl,fun _ h=>h⟩
def tSl {α:Type} (t:Tr α):Tr (List α) :=
 ⟨1,fun F cs xs=>∃ v,cs=[v]∧SlF t F v xs,by decide,fun ⟨v,h,_⟩=>by rw [h];rfl,fun ⟨v,h,k⟩=>by rw [h];simp [k.one],fun l ⟨v,h,k⟩=>⟨v,h,k.mono l⟩⟩
end Go.V
end
section
namespace Go.V
open Go.RowKit Go.ChangeShapes Go.WideShapes Go.Deep
theorem zom {s:Nat}:∀ {css:List (Cl s)} {i:Nat} {d:Cl s} {j:Nat} {u:Val},css[i]? = some d→d.1[j]? = some u→(css.map Subtype.val).flatten[i*s+j]? = some u
 | [],i,d,j,u,h,_=>by simp at h
 | c::css,0,d,j,u,h,hj=>by
  simp at h;subst h;have:=(List.getElem?_eq_some_iff.1 hj).1;rw [List.map_cons,List.flatten_cons,Nat.zero_mul,Nat.zero_add,List.getElem?_append_left this];exact hj
 | c::css,i+1,d,j,u,h,hj=>by
  have ih:=zom (css:=css) (i:=i) (by simpa using h) hj;rw [List.map_cons,List.flatten_cons,Nat.add_mul,List.getElem?_append_right (by rw [c.2];omega),c.2,← ih]
  congr 1;omega
section
variable {H:Type} {enc:TypeId × Value→H} {P:Program} {w:World}
def Opn {H:Type} (enc:TypeId × Value→H) (P:Program) (w:World) (T:TypeId) {α:Type} (t:Tr α) (ok:α→Prop):Prop :=
 ∀ fuel cs x,DataW.trod enc P w 0 (fun _=>true) true fuel T cs=some x → ∀ ρ h,Rel ρ h w→Bare h → ∃ ρ' h' vs a,Rel ρ' h' w∧Bare h' ∧ ρ.le ρ' ∧ Frz.le (nowF h) (nowF h')∧VRL ρ' vs cs∧t.rel (nowF h') vs a∧ok a
def okI (n:Int):Prop:=-9223372036854775808≤n∧n≤9223372036854775807
def okS {α:Type} (ok:α→Prop) (xs:List α):Prop:=xs.length≤maxLen ∧ ∀ x∈xs,ok x
def okT {α:Type} (_:α):Prop:=True
theorem zua {T:TypeId} (ht:P.underlying T=some (.int .i64)):Opn enc P w T tI okI:=by
 intro fuel cs x h ρ hp r hb;have:∃ n,cs=[.int .i64 n]∧(Lit.int .i64 n).wf=true:=by
  cases fuel with
  | zero=>simp [DataW.trod] at h
  | succ m =>
   unfold DataW.trod at h;rw [ht] at h
   split at h <;> simp_all
 obtain ⟨n,rfl,hw⟩:=this;exact ⟨ρ,hp,[.i .i64 n],n,r,hb,Ren.le.refl _,Frz.le.refl _,VRL.nil.cons (.i _ _),rfl,by simpa [okI,Lit.wf,IntKind.min,IntKind.max,IntKind.signed,IntKind.bits] using hw⟩
theorem opn_u8 {T:TypeId} (ht:P.underlying T=some (.int .u8)):Opn enc P w T tB okT:=by
 intro fuel cs x h ρ hp r hb;have:∃ n,cs=[.int .u8 n]∧(Lit.int .u8 n).wf=true:=by
  cases fuel with
  | zero=>simp [DataW.trod] at h
  | succ m =>
   unfold DataW.trod at h;rw [ht] at h
   split at h <;> simp_all
 obtain ⟨n,rfl,hw⟩:=this;have hx:0≤n∧n≤255:=by simpa [Lit.wf,IntKind.min,IntKind.max,IntKind.signed,IntKind.bits] using hw
 refine ⟨ρ,hp,[.i .u8 n],UInt8.ofNat n.toNat,r,hb,Ren.le.refl _,Frz.le.refl _,VRL.nil.cons (.i _ _),?_,trivial⟩;show [Val.i .u8 n]=[.i .u8 ((UInt8.ofNat n.toNat).toNat:Int)]
 simp only [UInt8.toNat_ofNat']
 congr 2
 omega
theorem opn_bool {T:TypeId} (ht:P.underlying T=some .bool):Opn enc P w T tBool okT:=by
 intro fuel cs x h ρ hp r hb;have:∃ b,cs=[.bool b]:=by
  cases fuel with
  | zero=>simp [DataW.trod] at h
  | succ m =>
   unfold DataW.trod at h;rw [ht] at h
   split at h <;> simp_all
 obtain ⟨b,rfl⟩:=this;exact ⟨ρ,hp,[.b b],b,r,hb,Ren.le.refl _,Frz.le.refl _,VRL.nil.cons (.b _),rfl,trivial⟩
theorem opn_str {T:TypeId} (ht:P.underlying T=some .string):Opn enc P w T tS (fun s=>s.length≤maxLen):=by
 intro fuel cs x h ρ hp r hb;have:∃ s:ByteArray,cs=[.string s]∧s.size≤maxLen:=by
  cases fuel with
  | zero=>simp [DataW.trod] at h
  | succ m =>
   unfold DataW.trod at h;rw [ht] at h
   split at h <;> simp_all
 obtain ⟨s,rfl,hs⟩:=this;exact ⟨ρ,hp,[.s s.data.toList],s.data.toList,r,hb,Ren.le.refl _,Frz.le.refl _,VRL.nil.cons (.s s.data.toList),rfl,hs⟩
theorem nowF_new {h:Hp} {B:Blk} (hw:∀ b,h.next≤b→h.get b=none):Frz.le (nowF h) (nowF (h.new B)):=fun b o u e=>by
 unfold nowF zfj at e ⊢;rw [Hp.get_new,if_neg]
 ·exact e
 ·intro q;rw [q,hw _ (Nat.le_refl _)] at e;cases e
theorem zlx {T e:TypeId} {α:Type} {t:Tr α} {ok:α→Prop} (ht:P.underlying T=some (.slice e)) (hc:P.cellsOf e=t.size) (he:Opn enc P w e t ok):Opn enc P w T (tSl t) (okS ok):=by
 intro fuel cs x h ρ hp r hb;rcases open_slice ht h with ⟨rfl,_⟩ | ⟨a,len,cap,m,n,D,Pl,rfl,_,hl,hm,hmm,_,hx⟩
 ·exact ⟨ρ,hp,[.sl none 0 (.k 0)],[],r,hb,Ren.le.refl _,Frz.le.refl _,VRL.nil.cons .sn,⟨_,rfl,SlF.nil _⟩,by simp [okS]⟩
 ·rw [if_pos rfl] at hmm;rw [hc] at hx;have key:∀ k,k≤len → ∃ ρ' h' us xs,∃ css:List (Cl t.size),Rel ρ' h' w∧Bare h' ∧ ρ.le ρ' ∧ Frz.le (nowF hp) (nowF h')∧css.length=k∧RelL t (nowF h') css xs∧(∀ x∈xs,ok x)∧VRL ρ' (css.map Subtype.val).flatten us∧us.length=k*t.size ∧ ∀ j u,us[j]? = some u→w.cell? ⟨a.block,a.off+j,none⟩=some u∧a.spot=none:=by
   intro k
   induction k with
   | zero=>intro _;exact ⟨ρ,hp,[],[],[],r,hb,Ren.le.refl _,Frz.le.refl _,rfl,⟨rfl,fun i d x h _=>by simp at h⟩,by simp,VRL.nil,by simp,fun j u h=>by simp at h⟩
   | succ k ih =>
    intro hk;obtain ⟨ρ1,h1,us,xs,css,r1,b1,l1,f1,c1,c2,c3,c4,c5,c6⟩:=ih (by omega);obtain ⟨cs',g1,g2⟩:=hx k (by omega);obtain ⟨_,g3,g4⟩:=World.cells?_some g1;obtain ⟨ρ2,h2,vs,y,r2,b2,l2,f2,d1,d2,d3⟩:=he _ _ _ g2 ρ1 h1 r1 b1;have hlen:=t.len d2;have hcs':∀ j u,cs'[j]? = some u→w.cell? ⟨a.block,a.off+(k*t.size+j),none⟩=some u∧(k=0→a.spot=none):=fun j u hj=>by
     have hjl:j < t.size:=by have:=(List.getElem?_eq_some_iff.1 hj).1;omega
     have:=g4 j hjl;rw [hj] at this
     by_cases hk0:k=0
     ·subst hk0;have h00:=g4 0 t.pos;have hsp:a.spot=none:=by
       cases hs:a.spot with
       | none=>rfl
       | some sp =>
        have hz:cs'[0]? = some (cs'[0]'(by rw [g3];exact t.pos)):=List.getElem?_eq_getElem _;rw [hz] at h00;simp [Addr.add,World.cell?,hs] at h00
        split at h00 <;> cases h00
      refine ⟨?_,fun _=>hsp⟩;rw [← this]
      congr 1
      cases a;simp at hsp;subst hsp;unfold Addr.add
      split <;> simp_all
     ·refine ⟨?_,fun q=>absurd q hk0⟩;rw [← this]
      congr 1
      unfold Addr.add;have h0:¬ (k*t.size=0):=by
       intro q;rcases Nat.mul_eq_zero.1 q with q | q
       ·exact hk0 q
       ·have:=t.pos;omega
      rw [if_neg h0]
      split <;> simp_all [Nat.add_assoc]
    refine ⟨ρ2,h2,us++cs',xs++[y],css++[⟨vs,hlen⟩],r2,b2,l1.trans l2,f1.trans f2,by simp [c1],⟨by simp [c2.1],fun i d x hi hx'=>?_⟩,fun x hx'=>?_,?_,by simp [c5,g3,Nat.succ_mul],fun j u hj=>?_⟩
    ·by_cases hik:i < css.length
     ·rw [List.getElem?_append_left hik] at hi;rw [List.getElem?_append_left (by rw [← c2.1];exact hik)] at hx';exact t.mono f2 (c2.2 i d x hi hx')
     ·rw [List.getElem?_append_right (by omega)] at hi;rw [List.getElem?_append_right (by rw [← c2.1];omega),← c2.1] at hx';have:i - css.length=0:=by have:=(List.getElem?_eq_some_iff.1 hi).1;simp at this;omega
      rw [this] at hi hx';simp at hi hx';subst hi;subst hx';exact d2
    ·rcases List.mem_append.1 hx' with q | q
     ·exact c3 x q
     ·simp at q;subst q;exact d3
    ·rw [List.map_append,List.flatten_append];simp only [List.map_cons,List.map_nil,List.flatten_cons,List.flatten_nil,List.append_nil];exact (c4.mono l2).append d1
    ·by_cases hjl:j < us.length
     ·rw [List.getElem?_append_left hjl] at hj;exact c6 j u hj
     ·rw [List.getElem?_append_right (by omega)] at hj;obtain ⟨q1,q2⟩:=hcs' _ u hj;rw [c5] at q1 hjl;refine ⟨by rw [← q1];congr 2;omega,?_⟩
      by_cases hk0:k=0
      ·exact q2 hk0
      ·have hpos:=t.pos;have hu0:us[0]? = some (us[0]'(by rw [c5];exact Nat.mul_pos (by omega) hpos)):=List.getElem?_eq_getElem _;exact (c6 0 _ hu0).2
  obtain ⟨ρ1,h1,us,xs,css,r1,b1,l1,f1,c1,c2,c3,c4,c5,c6⟩:=key len (Nat.le_refl _);have hxl:xs.length=len:=by rw [← c2.1];exact c1
  by_cases hl0:len=0
  ·subst hl0;refine ⟨ρ1,h1,[.es],xs,r1,b1,l1,f1,VRL.nil.cons .es,⟨.es,rfl,css,c2,.inl ⟨rfl,List.eq_nil_of_length_eq_zero c1⟩⟩,by omega,c3⟩
  ·have hpos:0 < us.length:=by rw [c5];exact Nat.mul_pos (by omega) t.pos
   obtain ⟨q1,q2⟩:=c6 0 _ (List.getElem?_eq_getElem hpos);have hg:a.block < w.heap.size:=by
    unfold World.cell? at q1;cases hq:w.heap[a.block]? with
    | none=>simp [hq] at q1
    | some ob=>exact (Array.getElem?_eq_some_iff.1 hq).1
   have hone:(css.map Subtype.val).flatten.all Val.one=true:=List.all_eq_true.2 fun v hv=>by
    obtain ⟨l,hl1,hl2⟩:=List.mem_flatten.1 hv;obtain ⟨d,hd1,rfl⟩:=List.mem_map.1 hl1;obtain ⟨i,hi,rfl⟩:=List.getElem_of_mem hd1;have hxi:i < xs.length:=by rw [← c2.1];exact hi
    exact List.all_eq_true.1 (t.one (c2.2 i _ _ (List.getElem?_eq_getElem hi) (List.getElem?_eq_getElem hxi))) v hl2
   obtain ⟨r2,l2,hs⟩:=r1.view b1 (g:=a.block) (off:=a.off) hone c4 (fun j u hj=>(c6 j u hj).1) hg;have f2:Frz.le (nowF h1) (nowF (h1.new (.ro (css.map Subtype.val).flatten))):=nowF_new r1.wf;refine ⟨_,_,[.sl (some (h1.next,0)) len (.k cap)],xs,r2,b1.see _,l1.trans l2,f1.trans f2,VRL.nil.cons ?_,⟨_,rfl,css,c2.mono f2,.inr ⟨some (h1.next,0),some cap,by rw [c1];rfl,by rw [c1];omega,fun k hk=>?_,fun q=>(by cases q),fun b o had i d j u hi hj=>?_⟩⟩,by omega,c3⟩
   ·have:=VR.sk (ρ:=Rel.see ρ1 h1 a.block a.off) (o:=0) hs hl;have ea:a=⟨a.block,a.off+0,none⟩:=by cases a;simp at q2;subst q2;rfl
    rw [ea];exact this
   ·obtain rfl:=Option.some.inj hk;rw [c1];exact hl
   ·simp only [Option.some.injEq,Prod.mk.injEq] at had;obtain ⟨rfl,rfl⟩:=had;unfold nowF zfj;rw [Hp.get_new,if_pos rfl,Nat.zero_add];exact zom hi hj
end
end Go.V
end
section
namespace Go.V
open Go.RowKit Go.ChangeShapes Go.WideShapes Go.Deep
section
variable {H:Type} {enc:TypeId × Value→H} {P:Program} {w:World}
theorem Kept.kit {w w':World} (h:Kept w w'):Go.RowKit.Below w.heap.size w w':=⟨h.os,h.tape,h.output,h.size,h.block⟩
theorem ztm {base:Nat} {sp:Nat→Bool} {held:Bool}:∀ (ts:List TypeId) (vs:List Value) (ds:List (DataW H)) (ps:List MemPlace),DataW.TrodAll enc P w base sp held ts vs ds ps→ds.length=ts.length
 | [],[],[],_,_=>rfl
 | t::ts,v::vs,d::ds,ps,h=>by
  obtain ⟨p,q,_,h2,_⟩:=h;simp [ztm ts vs ds q h2]
 | [],_::_,_,_,h=>h.elim
 | [],[],_::_,_,h=>h.elim
 | _::_,[],_,_,h=>h.elim
 | _::_,_::_,[],_,h=>h.elim
theorem zsd {w':World} (hl:laidOutB P=true) (hb:Kept w w'):∀ (ts:List TypeId) (vs:List Value) (ds:List (DataW H)) (ps:List MemPlace),(ts.all fun t=>P.readableRec t&&decide (t < P.types.size))=true →
  DataW.TrodAll enc P w 0 (fun _=>true) true ts vs ds ps→(∀ x∈ps,x.block < w.heap.size)→DataW.TrodAll enc P w' 0 (fun b=>decide (b < w.heap.size)) true ts vs ds ps
 | [],[],[],_,_,h,_=>h
 | t::ts,v::vs,d::ds,ps,hts,h,hlt=>by
  obtain ⟨p,q,h1,h2,rfl⟩:=h;simp only [List.all_cons,Bool.and_eq_true,decide_eq_true_eq] at hts;exact ⟨p,q,RowKit.Below.trod hl hts.1.1 hts.1.2 h1 hb.kit (fun x hx=>hlt x (by simp [hx])),zsd hl hb ts vs ds q hts.2 h2 (fun x hx=>hlt x (by simp [hx])),rfl⟩
 | [],_::_,_,_,_,h,_=>h.elim
 | [],[],_::_,_,_,h,_=>h.elim
 | _::_,[],_,_,_,h,_=>h.elim
 | _::_,_::_,[],_,_,h,_=>h.elim
theorem law_calls {f:Func} {F:FuncId} {s:ChangeSpec} {tb:TypeId} {k:Nat} (hl:laidOutB P=true) (hts:(f.params.toList.all fun t=>P.readableRec t&&decide (t < P.types.size))=true) (hk:f.params.toList.length=k) (hrt:f.resultTypes = #[tb]) (htb:P.underlying tb=some .bool)
  (hvars:s.vars=[]) (hfn:∀ ds:List (DataW H),ds.length=k→(s.fn H ds).results=[.lit (.bool true)]∧(s.fn H ds).args=ds∧(s.fn H ds).vars=[])
  (W:World) (base:Nat) (args:Array Value) (ds gs:List (DataW H)) (before:List MemPlace)
  (hcore:∀ p,DataW.TrodAll enc P W 0 (fun _=>true) true f.params.toList args.toList ds p→Calls P F args W (zte fun v w'=>v = .bool true∧Kept W w'))
  (hW:DataW.Whole enc P f.params.toList s.vars false W args.toList ds gs before) :
  Calls P F args W fun e W'=>∃ v,e = .returned v∧s.post enc P f false true false false W args v W':=by
 have hW':=hW;obtain ⟨p,q,hA,hV,rfl,hfz,hnd⟩:=hW;rw [hvars] at hV;obtain ⟨rfl,rfl⟩:=trodVars_none hV;refine Calls.mono (hcore p hA) fun e W' hq=>?_;cases e with
 | returned v =>
  obtain ⟨rfl,hb⟩:=hq;obtain ⟨h1,h2,h3⟩:=hfn (ds++[]) (by rw [List.append_nil,ztm _ _ _ _ hA,hk]);refine ⟨_,rfl,ds,[],_,[],p,[],hW',?_,?_,?_,hb.kit.frame _,fun h=>by cases h⟩
  ·rw [h1,hrt];exact trodAll_cons_mk (shut_bool htb _) trodAll_mk0
  ·rw [h2,List.append_nil];exact zsd hl hb _ _ _ _ hts hA (fun x hx=>hW'.lt x (by simpa using hx))
  ·rw [h3,hvars];rfl
 | _=>exact hq.elim
theorem arg_opn {base:Nat} {T:TypeId} {α:Type} {t:Tr α} {ok:α→Prop} {v:Value} {d:DataW H} {ps:List MemPlace} (ho:Opn enc P w T t ok) (h:DataW.Trod enc P w 0 (fun _=>true) true T v d ps) {ρ:Ren} {hp:Hp} (r:Rel ρ hp w) (hb:Bare hp) :
  ∃ ρ' h' vs a,Rel ρ' h' w∧Bare h' ∧ ρ.le ρ' ∧ Frz.le (nowF hp) (nowF h')∧VRL ρ' vs v.cells.toList∧t.rel (nowF h') vs a∧ok a:=by
 obtain ⟨fuel,hf⟩:=h;exact ho _ _ _ hf ρ hp r hb
theorem cells_one {v:Value} {a:Option Addr} {len cap:Nat} (h:v = .slice a len cap):v.cells.toList=[v]:=by subst h;rfl
theorem arg_slice {base:Nat} {T e:TypeId} {α:Type} {t:Tr α} {ok:List α→Prop} {v:Value} {d:DataW H} {ps:List MemPlace} (ht:P.underlying T=some (.slice e)) (hval:Value.okWide P w .any base T v) (ho:Opn enc P w T (tSl t) ok) (h:DataW.Trod enc P w 0 (fun _=>true) true T v d ps) {ρ:Ren} {hp:Hp} (r:Rel ρ hp w) (hb:Bare hp) :
  ∃ ρ' h' u a,Rel ρ' h' w∧Bare h' ∧ ρ.le ρ' ∧ Frz.le (nowF hp) (nowF h')∧VR ρ' u v∧SlF t (nowF h') u a∧ok a:=by
 obtain ⟨a,len,cap,hv⟩:=okWide_slice ht hval;obtain ⟨ρ',h',vs,x,h1,h2,h3,h4,h5,⟨u,rfl,hs⟩,hok⟩:=arg_opn (base:=base) ho h r hb;rw [cells_one hv] at h5;exact ⟨ρ',h',u,x,h1,h2,h3,h4,h5.head,hs,hok⟩
end
end Go.V
end
section
namespace Go.V
structure To (α:Type) where
 size:Nat
 rel:Frz→Hp→List Nat→List Val→α→Prop
 len:∀ {F h bs cs x},rel F h bs cs x→cs.length=size
 one:∀ {F h bs cs x},rel F h bs cs x→cs.all Val.one=true
 lt:∀ {F h bs cs x},rel F h bs cs x → ∀ b∈bs,b < h.next
 nodup:∀ {F h bs cs x},rel F h bs cs x→bs.Nodup
 mono:∀ {F G h bs cs x},F.le G→rel F h bs cs x→rel G h bs cs x
 frame:∀ {F h h' bs cs x},rel F h bs cs x→h.next≤h'.next→(∀ b∈bs,h'.get b=h.get b)→rel F h' bs cs x
structure Ob:Type 1 where
 {α:Type}
 t:To α
 bs:List Nat
 cs:List Val
 x:α
def Ob.ok (F:Frz) (h:Hp) (o:Ob):Prop:=o.t.rel F h o.bs o.cs o.x
structure St (X:List Nat) (h0:Hp) (F0 F:Frz) (L:List Ob) (h:Hp):Prop where
 next:h0.next≤h.next
 wf:∀ b,h.next≤b→h.get b=none
 keep:∀ b,b < h0.next→b ∉ X→h.get b=h0.get b
 agree:zit F h
 ext:F0.le F
 new:∀ b o u,F b o=some u→F0 b o=some u∨h0.next≤b∨b∈X
 own:∀ (i:Nat) (o:Ob),L[i]? = some o→o.ok F h ∧ ∀ b,b∈o.bs→(∀ k,F b k=none)∧(h0.next≤b∨b∈X)
 apart:∀ (i j:Nat) (o o':Ob) (b:Nat),L[i]? = some o→L[j]? = some o' → b∈o.bs→b∈o'.bs→i=j
theorem zqo {h:Hp} (hw:∀ b,h.next≤b→h.get b=none) {b o:Nat} {u:Val} (e:zfj h b o=some u):b < h.next:=by
 apply Classical.byContradiction;intro q;unfold zfj at e;rw [hw b (by omega)] at e;cases e
section
variable {X:List Nat} {h0 h h':Hp} {F0 F F':Frz} {L Lr:List Ob}
theorem St.entry (hw:∀ b,h.next≤b→h.get b=none) (ha:zit F h):St [] h F F [] h :=
 ⟨Nat.le_refl _,hw,fun _ _ _=>rfl,ha,Frz.le.refl _,fun _ _ _ h=>.inl h,fun i o h=>by simp at h,fun i j o o' b h=>by simp at h⟩
theorem St.ok (s:St X h0 F0 F L h) {i:Nat} {o:Ob} (hi:L[i]? = some o):o.ok F h:=(s.own i o hi).1
theorem St.call (s:St X h0 F0 F L h) (k:St [] h F F' Lr h'):St X h0 F0 F' (Lr++L) h':=by
 have hkeep:∀ b,b < h.next→h'.get b=h.get b:=fun b hb=>k.keep b hb (by simp);have hL:∀ (i:Nat) (o:Ob),L[i]? = some o→o.ok F' h' ∧ ∀ b,b∈o.bs→(∀ q,F' b q=none)∧(h0.next≤b∨b∈X):=by
  intro i o hi;obtain ⟨h1,h2⟩:=s.own i o hi;refine ⟨o.t.mono k.ext (o.t.frame h1 k.next fun b hb=>hkeep b (o.t.lt h1 b hb)),fun b hb=>⟨fun q=>?_,(h2 b hb).2⟩⟩;cases hF:F' b q with
  | none=>rfl
  | some u =>
   rcases k.new b q u hF with h3 | h3 | h3
   ·rw [(h2 b hb).1 q] at h3;cases h3
   ·have:=o.t.lt h1 b hb;omega
   ·simp at h3
 have hR:∀ (i:Nat) (o:Ob),Lr[i]? = some o → ∀ b,b∈o.bs→h.next≤b:=fun i o hi b hb=>by
  rcases ((k.own i o hi).2 b hb).2 with h3 | h3
  ·exact h3
  ·simp at h3
 refine ⟨Nat.le_trans s.next k.next,k.wf,fun b hb hx=>(hkeep b (Nat.lt_of_lt_of_le hb s.next)).trans (s.keep b hb hx),k.agree,s.ext.trans k.ext,fun b o u e=>?_,fun i o hi=>?_,fun i j o o' b hi hj ho ho'=>?_⟩
 ·rcases k.new b o u e with h3 | h3 | h3
  ·exact s.new b o u h3
  ·exact .inr (.inl (Nat.le_trans s.next h3))
  ·simp at h3
 ·by_cases hl:i < Lr.length
  ·rw [List.getElem?_append_left hl] at hi;obtain ⟨h1,h2⟩:=k.own i o hi;exact ⟨h1,fun b hb=>⟨(h2 b hb).1,.inl (Nat.le_trans s.next (hR i o hi b hb))⟩⟩
  ·rw [List.getElem?_append_right (by omega)] at hi;exact hL _ o hi
 ·by_cases hl:i < Lr.length <;> by_cases hm:j < Lr.length
  ·rw [List.getElem?_append_left hl] at hi;rw [List.getElem?_append_left hm] at hj;exact k.apart i j o o' b hi hj ho ho'
  ·rw [List.getElem?_append_left hl] at hi;rw [List.getElem?_append_right (by omega)] at hj;have h1:=hR i o hi b ho;have h2:=o'.t.lt (s.ok hj) b ho';omega
  ·rw [List.getElem?_append_right (by omega)] at hi;rw [List.getElem?_append_left hm] at hj;have h1:=hR j o' hj b ho';have h2:=o.t.lt (s.ok hi) b ho;omega
  ·rw [List.getElem?_append_right (by omega)] at hi hj;have:=s.apart _ _ o o' b hi hj ho ho';omega
structure Abv (h h':Hp):Prop where
 next:h.next≤h'.next
 wf:∀ b,h'.next≤b→h'.get b=none
 keep:∀ b,b < h.next→h'.get b=h.get b
theorem Abv.agree (a:Abv h h') (hw:∀ b,h.next≤b→h.get b=none) (g:zit F h):zit F h':=fun b o u e=>by
 have h1:=g b o u e;have:=zqo hw h1;unfold zfj at h1 ⊢;rw [a.keep b this];exact h1
theorem St.fresh (s:St X h0 F0 F L h) {o:Ob} (a:Abv h h') (ho:o.ok F h') (hg:∀ b,b∈o.bs→h.next≤b):St X h0 F0 F (o::L) h':=by
 have e:St [] h F F [o] h':=⟨a.next,a.wf,fun b hb _=>a.keep b hb,a.agree s.wf s.agree,Frz.le.refl _,fun _ _ _ q=>.inl q,fun i o' hi=>by
   have:i=0:=by have:=(List.getElem?_eq_some_iff.1 hi).1;simpa using this
   subst this;simp at hi;subst hi;refine ⟨ho,fun b hb=>⟨fun q=>?_,.inl (hg b hb)⟩⟩;cases hF:F b q with
   | none=>rfl
   | some u=>have:=zqo s.wf (s.agree b q u hF);have:=hg b hb;omega,fun i j o1 o2 b hi hj _ _=>by
   have:=(List.getElem?_eq_some_iff.1 hi).1;have:=(List.getElem?_eq_some_iff.1 hj).1;simp at *;omega⟩
 simpa using s.call e
theorem St.turn (s:St X h0 F0 F L h) {i:Nat} {o o':Ob} (hi:L[i]? = some o) (ho:o'.ok F h') (hn:h.next≤h'.next) (hw:∀ b,h'.next≤b→h'.get b=none) (hk:∀ b,b < h.next→b ∉ o.bs→h'.get b=h.get b) (hb:∀ b,b∈o'.bs→b∈o.bs∨h.next≤b):St X h0 F0 F (L.set i o') h':=by
 obtain ⟨s1,s2⟩:=s.own i o hi;have hil:=(List.getElem?_eq_some_iff.1 hi).1;have hfr:∀ b k u,F b k=some u→b < h.next∧b ∉ o.bs:=fun b k u e=>⟨zqo s.wf (s.agree b k u e),fun q=>by rw [(s2 b q).1 k] at e;cases e⟩
 have hset:∀ (j:Nat) (p:Ob),(L.set i o')[j]? = some p→(j=i∧p=o')∨(j≠i∧L[j]? = some p):=fun j p hj=>by
  by_cases e:j=i
  ·subst e;rw [List.getElem?_set_self hil] at hj;exact .inl ⟨rfl,(Option.some.inj hj).symm⟩
  ·rw [List.getElem?_set_ne (fun q=>e q.symm)] at hj;exact .inr ⟨e,hj⟩
 have hout:∀ (j:Nat) (p:Ob),j≠i→L[j]? = some p → ∀ b,b∈p.bs→b < h.next∧b ∉ o.bs:=fun j p hj hp b hb=>⟨p.t.lt (s.ok hp) b hb,fun q=>hj (s.apart j i p o b hp hi hb q)⟩
 refine ⟨Nat.le_trans s.next hn,hw,fun b hb' hx=>?_,fun b k u e=>?_,s.ext,s.new,fun j p hj=>?_,fun j k p p' b hj hk' hp hp'=>?_⟩
 ·rw [hk b (Nat.lt_of_lt_of_le hb' s.next) (fun q=>by rcases (s2 b q).2 with h3 | h3;omega;exact hx h3)];exact s.keep b hb' hx
 ·obtain ⟨q1,q2⟩:=hfr b k u e;have:=s.agree b k u e;unfold zfj at this ⊢;rw [hk b q1 q2];exact this
 ·rcases hset j p hj with ⟨rfl,rfl⟩ | ⟨hne,hp⟩
  ·refine ⟨ho,fun b hb'=>?_⟩;rcases hb b hb' with q | q
   ·exact s2 b q
   ·refine ⟨fun k=>?_,.inl (Nat.le_trans s.next q)⟩;cases hF:F b k with
    | none=>rfl
    | some u=>have:=(hfr b k u hF).1;omega
  ·obtain ⟨t1,t2⟩:=s.own j p hp;exact ⟨p.t.frame t1 hn fun b hb'=>hk b (hout j p hne hp b hb').1 (hout j p hne hp b hb').2,t2⟩
 ·rcases hset j p hj with ⟨rfl,rfl⟩ | ⟨hne,hq⟩ <;> rcases hset k p' hk' with ⟨rfl,rfl⟩ | ⟨hne',hq'⟩
  ·rfl
  ·obtain ⟨t1,t2⟩:=hout k p' hne' hq' b hp';rcases hb b hp with q | q
   ·exact absurd q t2
   ·omega
  ·obtain ⟨t1,t2⟩:=hout j p hne hq b hp;rcases hb b hp' with q | q
   ·exact absurd q t2
   ·omega
  ·exact s.apart j k p p' b hq hq' hp hp'
end
end Go.V
end
section
namespace Go.V
def To.ofTr {α:Type} (t:Tr α):To α :=
 ⟨t.size,fun F h bs cs x=>bs=[]∧t.rel F cs x,fun q=>t.len q.2,fun q=>t.one q.2,fun q b hb=>by (rw [q.1] at hb;cases hb),fun q=>by rw [q.1];exact List.nodup_nil,fun l q=>⟨q.1,t.mono l q.2⟩,fun q _ _=>q⟩
structure RowO {α:Type} (t:To α) (F:Frz) (h:Hp) (bs:List Nat) (v:Val) (xs:List α) (b:Nat) (c:List Val) (k:Option Nat) (css:List (Cl t.size)) (bss:List (List Nat)):Prop where
 form:v = .sl (some (b,0)) xs.length (.of t.size k)
 blk:h.get b=some (.cells t.size c)
 lt:b < h.next
 csl:css.length=xs.length
 bsl:bss.length=xs.length
 rel:∀ (i:Nat) (d:Cl t.size) (x:α) (e:List Nat),css[i]? = some d→xs[i]? = some x→bss[i]? = some e→t.rel F h e d.1 x
 cells:c.take (xs.length*t.size)=(css.map Subtype.val).flatten
 opn:k=none→xs.length*t.size≤c.length
 cap:∀ m,k=some m→c.length=m*t.size∧xs.length≤m
 few:xs.length≤2 ^ 30
 one:c.all Val.one=true
 foot:bs=b::bss.flatten
 nodup:bs.Nodup
def To.row {α:Type} (t:To α):To (List α) where
 size:=1
 rel F h bs cs xs:=∃ v,cs=[v]∧((v = .sl none 0 (.k 0)∧xs=[]∧bs=[]) ∨ ∃ b c k css bss,RowO t F h bs v xs b c k css bss)
 len:=fun ⟨v,q,_⟩=>by rw [q];rfl
 one:=fun ⟨v,q,r⟩=>by
  rw [q];rcases r with ⟨rfl,_⟩ | ⟨b,c,k,css,bss,r⟩
  ·rfl
  ·rw [r.form];rfl
 lt:=fun ⟨v,q,r⟩ g hg=>by
  rcases r with ⟨_,_,rfl⟩ | ⟨b,c,k,css,bss,r⟩
  ·cases hg
  ·rw [r.foot] at hg;rcases List.mem_cons.1 hg with rfl | hg
   ·exact r.lt
   ·obtain ⟨e,he,hg⟩:=List.mem_flatten.1 hg;obtain ⟨i,hi,rfl⟩:=List.getElem_of_mem he;have h1:i < css.length:=by rw [r.csl,← r.bsl];exact hi
    exact t.lt (r.rel i _ _ _ (List.getElem?_eq_getElem h1) (List.getElem?_eq_getElem (by rw [← r.bsl];exact hi)) (List.getElem?_eq_getElem hi)) g hg
 nodup:=fun ⟨v,q,r⟩=>by
  rcases r with ⟨_,_,rfl⟩ | ⟨b,c,k,css,bss,r⟩
  ·exact List.nodup_nil
  ·exact r.nodup
 mono:=fun l ⟨v,q,r⟩=>by
  refine ⟨v,q,?_⟩;rcases r with r | ⟨b,c,k,css,bss,r⟩
  ·exact .inl r
  ·exact .inr ⟨b,c,k,css,bss,{ r with rel:=fun i d x e h1 h2 h3=>t.mono l (r.rel i d x e h1 h2 h3) }⟩
 frame:=fun ⟨v,q,r⟩ hn hk=>by
  refine ⟨v,q,?_⟩;rcases r with r | ⟨b,c,k,css,bss,r⟩
  ·exact .inl r
  ·refine .inr ⟨b,c,k,css,bss,{ r with blk:=(hk b (by rw [r.foot];simp)).trans r.blk,lt:=Nat.lt_of_lt_of_le r.lt hn,rel:=fun i d x e h1 h2 h3=>t.frame (r.rel i d x e h1 h2 h3) hn fun g hg=>hk g ?_ }⟩;rw [r.foot];exact List.mem_cons_of_mem _ (List.mem_flatten.2 ⟨e,List.mem_of_getElem? h3,hg⟩)
end Go.V
end
section
namespace Go.V
section
variable {α:Type} {t:To α} {F:Frz} {h h1:Hp} {bs:List Nat} {v:Val} {xs:List α} {b:Nat} {c:List Val} {k:Option Nat} {css:List (Cl t.size)} {bss:List (List Nat)}
theorem zgn {s:Nat}:∀ (css:List (Cl s)),(css.map Subtype.val).flatten.length=css.length*s
 | []=>by simp
 | d::r=>by rw [List.map_cons,List.flatten_cons,List.length_append,zgn r,d.2,List.length_cons,Nat.add_mul];omega
end
end Go.V
end
section
namespace Go.V
theorem zxn {s:Nat} (hs:0 < s):∀ (css:List (Cl s)) (p:Nat),(css.map Subtype.val).flatten[p]? = (css[p / s]?).bind fun d=>d.1[p % s]?
 | [],p=>by simp
 | d::r,p=>by
  rw [List.map_cons,List.flatten_cons]
  by_cases hp:p < s
  ·rw [List.getElem?_append_left (by rw [d.2];exact hp),Nat.div_eq_of_lt hp,Nat.mod_eq_of_lt hp];rfl
  ·have e1:p / s=(p - s) / s+1:=Nat.div_eq_sub_div hs (by omega);have e2:p % s=(p - s) % s:=Nat.mod_eq_sub_mod (by omega);rw [List.getElem?_append_right (by rw [d.2];omega),d.2,zxn hs r (p - s),e1,e2];rfl
theorem zxm {β:Type}:∀ (l:List (List β)) (i:Nat) (e':List β),l.flatten.Nodup→e'.Nodup→(∀ g,g∈e' → ∀ j e2,j≠i→l[j]? = some e2→g ∉ e2)→(l.set i e').flatten.Nodup
 | [],i,e',_,_,_=>by simp
 | a::l,0,e',h,he,hd=>by
  rw [List.flatten_cons] at h;obtain ⟨_,h2,_⟩:=List.nodup_append.1 h;rw [List.set_cons_zero,List.flatten_cons];refine List.nodup_append.2 ⟨he,h2,fun x hx y hy q=>?_⟩;subst q;obtain ⟨e2,q1,q2⟩:=List.mem_flatten.1 hy;obtain ⟨j,hj,rfl⟩:=List.getElem_of_mem q1;exact hd x hx (j+1) _ (by omega) (by simp [hj]) q2
 | a::l,i+1,e',h,he,hd=>by
  rw [List.flatten_cons] at h;obtain ⟨h1,h2,h3⟩:=List.nodup_append.1 h;rw [List.set_cons_succ,List.flatten_cons];refine List.nodup_append.2 ⟨h1,zxm l i e' h2 he fun g hg j e2 hj h2=>hd g hg (j+1) e2 (by omega) (by simpa using h2),fun x hx y hy q=>?_⟩;subst q;obtain ⟨e2,q1,q2⟩:=List.mem_flatten.1 hy;rcases List.mem_or_eq_of_mem_set q1 with q | q
  ·exact h3 x hx x (List.mem_flatten.2 ⟨e2,q,q2⟩) rfl
  ·subst q;exact hd x q2 0 a (by omega) rfl hx
theorem zon {β:Type}:∀ (l:List (List β)) {i j:Nat} {e e2:List β} {g:β},l.flatten.Nodup→j≠i→l[j]? = some e2→l[i]? = some e→g∈e2→g∈e→False
 | [],i,j,e,e2,g,_,_,h,_,_,_=>by simp at h
 | a::l,0,0,e,e2,g,_,hj,_,_,_,_=>hj rfl
 | a::l,0,j+1,e,e2,g,h,_,h2,h1,g2,g1=>by
  rw [List.flatten_cons] at h;simp at h1 h2;subst h1;exact (List.nodup_append.1 h).2.2 g g1 g (List.mem_flatten.2 ⟨e2,List.mem_of_getElem? h2,g2⟩) rfl
 | a::l,i+1,0,e,e2,g,h,_,h2,h1,g2,g1=>by
  rw [List.flatten_cons] at h;simp at h1 h2;subst h2;exact (List.nodup_append.1 h).2.2 g g2 g (List.mem_flatten.2 ⟨e,List.mem_of_getElem? h1,g1⟩) rfl
 | a::l,i+1,j+1,e,e2,g,h,hj,h2,h1,g2,g1=>by
  rw [List.flatten_cons] at h;exact zon l (i:=i) (j:=j) (List.nodup_append.1 h).2.1 (by omega) (by simpa using h2) (by simpa using h1) g2 g1
section
variable {α:Type} {t:To α} {F:Frz} {h:Hp} {bs:List Nat} {v:Val} {xs:List α}
theorem To.row_at (hpos:0 < t.size) (r:(To.row t).rel F h bs [v] xs) {i:Nat} {x:α} (hi:xs[i]? = some x) :
  ∃ b k cs e,v = .sl (some (b,0)) xs.length (.of t.size k)∧b∈bs∧b < h.next∧(∀ g,g∈e→g∈bs∧g≠b)∧t.rel F h e cs x∧rd h b (i*t.size) t.size=some cs ∧
   ∀ (us:List Val) (q:Nat) (ds:List Val) (y:α) (e':List Nat),us.all Val.one=true→q+us.length≤t.size→ds=putL cs q us→(∀ h',h'.next=h.next→(∀ g,g≠b→h'.get g=h.get g)→t.rel F h' e' ds y)→(∀ g,g∈e' → g ∉ bs∨g∈e)→(∀ g,g∈e' → g < h.next)→e'.Nodup →
    ∃ h' bs',wrH h b (i*t.size+q) us=some h' ∧ (To.row t).rel F h' bs' [v] (xs.set i y)∧h'.next=h.next∧(∀ g,g≠b→h'.get g=h.get g) ∧ ∀ g,g∈bs' → g∈bs∨g∈e':=by
 obtain ⟨v0,hv0,r⟩:=r;obtain rfl:=List.head_eq_of_cons_eq hv0;have hil:=(List.getElem?_eq_some_iff.1 hi).1;rcases r with ⟨rfl,rfl,rfl⟩ | ⟨b,c,k,css,bss,r⟩
 ·simp at hi
 ·obtain ⟨hform,hblk,hblt,hcsl,hbsl,hrel,hcells,hopn,hcap,hfw,hcone,hfoot,hnod⟩:=r;subst hform;subst hfoot;obtain ⟨hb1,hb2⟩:=List.nodup_cons.1 hnod;have hfl:=zgn css;have hclen:xs.length*t.size≤c.length:=by
   have:(c.take (xs.length*t.size)).length=xs.length*t.size:=by rw [hcells,hfl,hcsl]
   rw [List.length_take] at this;omega
  have hd:=List.getElem?_eq_getElem (l:=css) (i:=i) (by omega);have he:=List.getElem?_eq_getElem (l:=bss) (i:=i) (by omega);generalize hdd:css[i]=d at hd;generalize hee:bss[i]=e at he;have hr:=hrel i d x e hd hi he;have hmem:∀ g,g∈e→g∈bss.flatten:=fun g hg=>List.mem_flatten.2 ⟨e,List.mem_of_getElem? he,hg⟩;have hiz:i*t.size+t.size≤xs.length*t.size:=by
   have:=Nat.mul_le_mul_right t.size (show i+1≤xs.length from hil);rw [Nat.add_mul] at this;omega
  have hcat:∀ p,p < xs.length*t.size→c[p]? = (css[p / t.size]?).bind fun d=>d.1[p % t.size]?:=fun p hp=>by
   rw [← zxn hpos,← hcells,List.getElem?_take,if_pos hp]
  have hdc:∀ j,j < t.size→c[i*t.size+j]? = d.1[j]?:=fun j hj=>by
   rw [hcat _ (by omega),Nat.mul_comm i,Nat.mul_add_div hpos,Nat.mul_add_mod,Nat.div_eq_of_lt hj,Nat.mod_eq_of_lt hj,Nat.add_zero,hd];rfl
  refine ⟨b,k,d.1,e,rfl,by simp,hblt,fun g hg=>⟨List.mem_cons_of_mem _ (hmem g hg),fun q=>hb1 (q ▸ hmem g hg)⟩,hr,?_,?_⟩
  ·unfold rd;rw [hblk];simp only;rw [if_pos (by omega)]
   congr 1
   apply List.ext_getElem?;intro j;rw [List.getElem?_take]
   split
   ·rename_i hj;rw [List.getElem?_drop];exact hdc j hj
   ·rw [List.getElem?_eq_none (by rw [d.2];omega)]
  ·intro us q ds y e' hus hq hds hy he' hlt' hnd';have hle:i*t.size+q+us.length≤c.length:=by omega
   have hdsl:ds.length=t.size:=by rw [hds,zek (by rw [d.2];exact hq)];exact d.2
   refine ⟨h.set b (.cells t.size (putL c (i*t.size+q) us)),b::(bss.set i e').flatten,?_,⟨_,rfl,.inr ⟨b,putL c (i*t.size+q) us,k,css.set i ⟨ds,hdsl⟩,bss.set i e',?_⟩⟩,rfl,fun g hg=>by rw [Hp.get_set,if_neg hg],fun g hg=>?_⟩
   ·unfold wrH;rw [hblk];simp only;rw [if_pos ⟨hle,hus⟩]
   ·have hoth:∀ (j:Nat) (e2:List Nat),bss[j]? = some e2 → ∀ g,g∈e2→g≠b:=fun j e2 h2 g hg q=>hb1 (q ▸ List.mem_flatten.2 ⟨e2,List.mem_of_getElem? h2,hg⟩);refine ⟨by simp,by rw [Hp.get_set,if_pos rfl],hblt,by simp [hcsl],by simp [hbsl],fun j d2 x2 e2 q1 q2 q3=>?_,?_,fun q=>by rw [zek hle];simpa using hopn q,fun m q=>by rw [zek hle];simpa using hcap m q,by simpa using hfw,?_,rfl,?_⟩
    ·by_cases hj:j=i
     ·subst hj;rw [List.getElem?_set_self (by omega)] at q1 q2 q3;obtain rfl:=Option.some.inj q1;obtain rfl:=Option.some.inj q2;obtain rfl:=Option.some.inj q3;exact hy _ rfl fun g hg=>by rw [Hp.get_set,if_neg hg]
     ·rw [List.getElem?_set_ne (fun q=>hj q.symm)] at q1 q2 q3;exact t.frame (hrel j d2 x2 e2 q1 q2 q3) (Nat.le_refl _) fun g hg=>by rw [Hp.get_set,if_neg (hoth j e2 q3 g hg)]
    ·apply List.ext_getElem?;intro p;rw [zxn hpos,List.getElem?_take,List.length_set]
     split
     ·rename_i hp;rw [zjj hle]
      by_cases hpi:p / t.size=i
      ·have hpe:p=i*t.size+p % t.size:=by rw [← hpi,Nat.mul_comm];exact (Nat.div_add_mod p t.size).symm
       have hpm:=Nat.mod_lt p hpos;rw [hpi,List.getElem?_set_self (by omega)];show _=ds[p % t.size]?;rw [hds,zjj (by rw [d.2];exact hq)]
       by_cases hw:q≤p % t.size∧p % t.size < q+us.length
       ·rw [if_pos hw,if_pos (by omega),show p - (i*t.size+q)=p % t.size - q by omega]
       ·rw [if_neg hw,if_neg (by omega),← hdc _ hpm,← hpe]
      ·rw [List.getElem?_set_ne (fun q=>hpi q.symm),if_neg,hcat p hp];intro hw;apply hpi;have hlo:i*t.size≤p:=by omega
       have hhi:p < (i+1)*t.size:=by rw [Nat.add_mul];omega
       exact Nat.div_eq_of_lt_le hlo hhi
     ·rename_i hp;rw [List.getElem?_eq_none]
      ·rfl
      ·rw [List.length_set,hcsl];exact (Nat.le_div_iff_mul_le hpos).2 (by omega)
    ·unfold putL;rw [List.all_append,List.all_append,hus];have q1:(c.take (i*t.size+q)).all Val.one=true:=List.all_eq_true.2 fun x hx=>List.all_eq_true.1 hcone x (List.mem_of_mem_take hx);have q2:(c.drop (i*t.size+q+us.length)).all Val.one=true:=List.all_eq_true.2 fun x hx=>List.all_eq_true.1 hcone x (List.mem_of_mem_drop hx);rw [q1,q2];rfl
    ·refine List.nodup_cons.2 ⟨fun q=>?_,zxm bss i e' hb2 hnd' fun g hg j e2 hj h2 hg2=>?_⟩
     ·obtain ⟨e2,q1,q2⟩:=List.mem_flatten.1 q;rcases List.mem_or_eq_of_mem_set q1 with q3 | q3
      ·exact hb1 (List.mem_flatten.2 ⟨e2,q3,q2⟩)
      ·subst q3;rcases he' b q2 with q4 | q4
       ·exact q4 (by simp)
       ·exact hb1 (hmem b q4)
     ·rcases he' g hg with q4 | q4
      ·exact q4 (List.mem_cons_of_mem _ (List.mem_flatten.2 ⟨e2,List.mem_of_getElem? h2,hg2⟩))
      ·exact zon bss hb2 hj h2 he hg2 q4
   ·rcases List.mem_cons.1 hg with rfl | hg
    ·exact .inl (by simp)
    ·obtain ⟨e2,h2,hg2⟩:=List.mem_flatten.1 hg;rcases List.mem_or_eq_of_mem_set h2 with q | q
     ·exact .inl (List.mem_cons_of_mem _ (List.mem_flatten.2 ⟨e2,q,hg2⟩))
     ·exact .inr (q ▸ hg2)
end
end Go.V
end
section
namespace Go.V
def Frz.plus (F:Frz) (h:Hp) (bs:List Nat):Frz:=fun b o=>if b∈bs then zfj h b o else F b o
theorem Frz.plus_le {F:Frz} {h:Hp} {bs:List Nat} (hn:∀ b,b∈bs → ∀ k,F b k=none):F.le (F.plus h bs):=fun b o u e=>by
 unfold Frz.plus;rw [if_neg]
 ·exact e
 ·intro q;rw [hn b q o] at e;cases e
section
variable {X:List Nat} {h0 h:Hp} {F0 F:Frz} {L:List Ob}
theorem St.noF (s:St X h0 F0 F L h) {i:Nat} {o:Ob} (hi:L[i]? = some o):∀ b,b∈o.bs → ∀ k,F b k=none:=fun b hb=>((s.own i o hi).2 b hb).1
theorem St.freeze (s:St X h0 F0 F L h) {i:Nat} {o:Ob} (hi:L[i]? = some o):St X h0 F0 (F.plus h o.bs) (L.eraseIdx i) h:=by
 have hle:=Frz.plus_le (h:=h) (s.noF hi);have hget:∀ (j:Nat) (p:Ob),(L.eraseIdx i)[j]? = some p → ∃ j',j' ≠ i∧L[j']? = some p∧(j' = if j < i then j else j+1):=fun j p hj=>by
  rw [List.getElem?_eraseIdx] at hj
  split at hj
  ·rename_i q;exact ⟨j,by omega,hj,by rw [if_pos q]⟩
  ·rename_i q;exact ⟨j+1,by omega,hj,by rw [if_neg q]⟩
 refine ⟨s.next,s.wf,s.keep,fun b k u e=>?_,s.ext.trans hle,fun b k u e=>?_,fun j p hj=>?_,fun j k p p' b hj hk hp hp'=>?_⟩
 ·unfold Frz.plus at e
  split at e
  ·exact e
  ·exact s.agree b k u e
 ·unfold Frz.plus at e
  split at e
  ·rename_i q;exact .inr ((s.own i o hi).2 b q).2
  ·exact s.new b k u e
 ·obtain ⟨j',q1,q2,_⟩:=hget j p hj;obtain ⟨t1,t2⟩:=s.own j' p q2;refine ⟨p.t.mono hle t1,fun b hb=>⟨fun k=>?_,(t2 b hb).2⟩⟩;unfold Frz.plus;rw [if_neg fun q=>q1 (s.apart j' i p o b q2 hi hb q)];exact (t2 b hb).1 k
 ·obtain ⟨j',q1,q2,q3⟩:=hget j p hj;obtain ⟨k',r1,r2,r3⟩:=hget k p' hk;have:=s.apart j' k' p p' b q2 r2 hp hp'
  split at q3 <;> split at r3 <;> omega
end
theorem zlt {α:Type} {t:Tr α} {F G:Frz} {h:Hp} {bs:List Nat} {v:Val} {xs:List α} (r:(To.row (To.ofTr t)).rel F h bs [v] xs) (hl:F.le G) (hg:∀ b,b∈bs → ∀ o u,zfj h b o=some u→G b o=some u):SlF t G v xs:=by
 obtain ⟨v0,hv0,r⟩:=r;obtain rfl:=List.head_eq_of_cons_eq hv0;rcases r with ⟨rfl,rfl,_⟩ | ⟨b,c,k,css,bss,r⟩
 ·exact SlF.nil _
 ·have hfw:xs.length≤maxLen:=Nat.le_trans r.few (by unfold maxLen;decide);have key:∀ css:List (Cl t.size),css.length=xs.length→(∀ (i:Nat) (d:Cl t.size) (x:α),css[i]? = some d→xs[i]? = some x→t.rel F d.1 x)→c.take (xs.length*t.size)=(css.map Subtype.val).flatten→SlF t G v xs:=fun css hcl hrel hc=>by
   refine ⟨css,⟨hcl,fun i d x h1 h2=>t.mono hl (hrel i d x h1 h2)⟩,.inr ⟨some (b,0),k,by rw [r.form,hcl];rfl,by rw [hcl];exact hfw,fun m hm=>by rw [hcl];exact (r.cap m hm).2,fun q=>(by cases q),fun b' o' had i d j u h1 h2=>?_⟩⟩;simp only [Option.some.injEq,Prod.mk.injEq] at had;obtain ⟨rfl,rfl⟩:=had;refine hg b (by rw [r.foot];simp) _ _ ?_;unfold zfj;rw [r.blk,Nat.zero_add];have hil:=(List.getElem?_eq_some_iff.1 h1).1;have hjl:j < t.size:=by have:=(List.getElem?_eq_some_iff.1 h2).1;rw [d.2] at this;exact this
   have hlt:i*t.size+j < xs.length*t.size:=by
    have:=Nat.mul_le_mul_right t.size (show i+1≤xs.length by rw [← hcl];exact hil);rw [Nat.add_mul] at this;omega
   have:=zom h1 h2;show c[i*t.size+j]? = some u;rw [← hc,List.getElem?_take,if_pos hlt] at this;exact this
  refine key css r.csl (fun i d x h1 h2=>?_) r.cells;have hi:=(List.getElem?_eq_some_iff.1 h2).1;exact (r.rel i d x _ h1 h2 (List.getElem?_eq_getElem (by rw [r.bsl];exact hi))).2
end Go.V
end
section
namespace Go.V
section
variable {P:Program} {K:Tb}
def ThenK (P:Program) (K:Tb) (n:Nat) (b:Code) (Q:Out→Prop):Out→Prop
 | .code .nrm env h=>XW P K (.code n b env h) Q
 | o=>Q o
def BlockK (id:Nat) (Q:Out→Prop):Out→Prop
 | .code (.ext i) env h=>Q (.code (if i=id then .nrm else .ext i) env h)
 | o=>Q o
def CallK (P:Program) (rs:List ResultVar) (Q:Out→Prop):Out→Prop
 | .code .nrm env h=>∃ vs,resV P env h rs=some vs∧Q (.call (oneV vs) h)
 | .code .ret env h=>∃ vs,resV P env h rs=some vs∧Q (.call (oneV vs) h)
 | _=>False
theorem XW.seqK {n:Nat} {a b:Code} {env:Env} {h:Hp} {Q:Out→Prop} (x:XW P K (.code n a env h) (ThenK P K n b Q)):XW P K (.code n (.seq a b) env h) Q :=
 .seq x (fun env' h' q=>q) fun e env' h' ne q=>by cases e <;> first | exact absurd rfl ne | exact q
theorem XW.blockK {n id:Nat} {a:Code} {env:Env} {h:Hp} {Q:Out→Prop} (x:XW P K (.code n a env h) (BlockK id Q)):XW P K (.code n (.block id a) env h) Q :=
 .block x fun e env' h' q=>by cases e <;> exact q
theorem XW.callK {f:FuncId} {args:List Val} {h:Hp} {Q:Out→Prop} {fn:Func} {c:Code} (hf:P.funcs[f]? = some fn) (hb:fn.body=some c) (hn:fn.name ≠ "runtime.NumGoroutine") (hl:args.length≤fn.ntmps) (x:XW P K (.code fn.ntmps c (argE 0 args .lf) h) (CallK P fn.results.toList Q)):XW P K (.call f args h) Q :=
 .call hf hb hn hl x fun e env' h' q=>by
  cases e with
  | nrm=>exact ⟨.inl rfl,q⟩
  | ret=>exact ⟨.inr rfl,q⟩
  | ext i=>exact q.elim
theorem XW.condT {n:Nat} {x:Operand} {a b:Code} {env:Env} {h:Hp} {Q:Out→Prop} (hx:evO env x=some (.b true)) (q:XW P K (.code n a env h) Q):XW P K (.code n (.cond x a b) env h) Q:=.cond (t:=true) hx q
theorem XW.condF {n:Nat} {x:Operand} {a b:Code} {env:Env} {h:Hp} {Q:Out→Prop} (hx:evO env x=some (.b false)) (q:XW P K (.code n b env h) Q):XW P K (.code n (.cond x a b) env h) Q:=.cond (t:=false) hx q
theorem XW.condS {n:Nat} {x:Operand} {a b:Code} {env:Env} {h:Hp} {Q:Out→Prop} {t:Bool} (hx:evO env x=some (.b t)) (q1:t=true→XW P K (.code n a env h) Q) (q2:t=false→XW P K (.code n b env h) Q):XW P K (.code n (.cond x a b) env h) Q:=by
 cases t
 ·exact .condF hx (q2 rfl)
 ·exact .condT hx (q1 rfl)
end
end Go.V
end
section
namespace Go.V
section
variable {P:Program} {K:Tb}
def RoundK (I:Nat→Env→Hp→Prop) (k:Nat) (Q:Out→Prop):Out→Prop
 | .code .nrm env h=>∃ j,j < k∧I j env h
 | o=>Q o
theorem XW.loopK {n:Nat} {a:Code} {Q:Out→Prop} (I:Nat→Env→Hp→Prop) (step:∀ k env h,I k env h→XW P K (.code n a env h) (RoundK I k Q)):∀ (k:Nat) (env:Env) (h:Hp),I k env h→XW P K (.code n (.loop a) env h) Q:=by
 intro k
 induction k using Nat.strongRecOn with
 | _ k ih =>
  intro env h hI;refine .loop (step k env h hI) (fun env' h' q=>?_) (fun e env' h' ne q=>?_)
  ·obtain ⟨j,hj,hI'⟩:=q;exact ih j hj env' h' hI'
  ·cases e with
   | nrm=>exact absurd rfl ne
   | ext i=>exact q
   | ret=>exact q
theorem rd_part {h:Hp} {b o z off n:Nat} {cs:List Val} (hr:rd h b o z=some cs) (hn:off+n≤z):rd h b (o+off) n=some ((cs.drop off).take n):=by
 have key:∀ c:List Val,(if o+z≤c.length then some ((c.drop o).take z) else none)=some cs→(if o+off+n≤c.length then some ((c.drop (o+off)).take n) else none)=some ((cs.drop off).take n):=fun c hq=>by
  split at hq
  ·obtain rfl:=Option.some.inj hq;rw [if_pos (by omega),List.drop_take,List.drop_drop,List.take_take,Nat.min_eq_left (by omega)]
  ·cases hq
 unfold rd at hr ⊢
 split at hr
 ·exact key _ hr
 ·exact key _ hr
 ·cases hr
theorem idxA_ok {t e:TypeId} {z b o len i:Nat} {c:Cap} {k:IntKind} (ht:P.underlying t=some (.slice e)) (hz:sz P e=some z) (hi:i < len):idxA P t (.sl (some (b,o)) len c) (.i k i)=some (.p (some (b,o+i*z))):=by
 unfold idxA natI;simp only;rw [if_pos (by omega)];simp [ht,hz,hi]
theorem ldV_one {h:Hp} {t:TypeId} {b o:Nat} {v:Val} (ht:aggT P t=some false) (hr:rd h b o 1=some [v]):ldV P h t (.p (some (b,o)))=some v:=by
 simp [ldV,ht,hr]
theorem zxh {h:Hp} {t:TypeId} {b o n:Nat} {cs:List Val} (ht:aggT P t=some true) (hz:sz P t=some n) (hr:rd h b o n=some cs):ldV P h t (.p (some (b,o)))=some (.agg cs):=by
 simp [ldV,ht,hz,hr]
end
end Go.V
end
section
namespace Go.V
def Le {α:Type} (o o':Option α):Prop:=∀ a,o=some a→o' = some a
theorem Le.refl {α:Type} (o:Option α):Le o o:=fun _ h=>h
theorem Le.bind {α β:Type} {o o':Option α} {f g:α→Option β} (h:Le o o') (k:∀ a,Le (f a) (g a)):Le (o.bind f) (o'.bind g):=fun b e=>by
 rw [Option.bind_eq_some_iff] at e ⊢;obtain ⟨a,e1,e2⟩:=e;exact ⟨a,h a e1,k a b e2⟩
theorem Le.map {α β:Type} {o o':Option α} {f:α→β} (h:Le o o'):Le (o.map f) (o'.map f):=fun b e=>by
 obtain ⟨a,e1,e2⟩:=Option.map_eq_some_iff.1 e;exact Option.map_eq_some_iff.2 ⟨a,h a e1,e2⟩
theorem Le.mapM {α β:Type} {f g:α→Option β} (h:∀ a,Le (f a) (g a)):∀ l:List α,Le (l.mapM f) (l.mapM g)
 | []=>Le.refl _
 | a::l=>by
  rw [List.mapM_cons,List.mapM_cons];exact Le.bind (h a) fun _=>Le.bind (Le.mapM h l) fun _=>Le.refl _
end Go.V
end
section
namespace Go.V
end Go.V
end
section
namespace Go.V
abbrev EL:=List (Nat × Val)
def look:EL→Nat→Option Val
 | [],_=>none
 | (k,v)::l,t=>match Nat.beq k t with | true=>some v | false=>look l t
def Has (E:EL) (env:Env):Prop:=∀ t v,look E t=some v→env.get t=some v
def evLO (E:EL):Operand→Option Val
 | .tmp t=>look E t
 | .const v=>cv v
 | .global _=>none
 | .func f=>some (.f f [])
def evLL (E:EL) (l:List Operand):Option (List Val):=l.mapM (evLO E)
def evLP (E:EL) (l:List (Nat × Operand)):Option (List (Nat × Val)):=l.mapM fun q=>(evLO E q.2).map fun v=>(q.1,v)
def evLQ (E:EL):Option Operand→Option (Option Val)
 | none=>some none
 | some x=>(evLO E x).map some
def opL (P:Program) (env:EL) (h:Hp):Op→Option (Val × Hp)
 | .move x | .assign x=>(evLO env x).map fun v=>(v,h)
 | .pick c a b=>(evLO env c).bind fun | .b true=>(evLO env a).map fun v=>(v,h) | .b false=>(evLO env b).map fun v=>(v,h) | _=>none
 | .alloc e=>(zge P e).bind fun v=>zla h v.cells.length v.cells
 | .box e x=>(evLO env x).bind fun v=>zla h v.cells.length v.cells
 | .build t ps=>(evLP env ps.toList).bind fun ps=>(zwg P t ps).map fun v=>(v,h)
 | .buildSlice t n ps=>(evLP env ps.toList).bind fun ps=>zhg P h t n ps
 | .load t a=>(evLO env a).bind fun a=>(ldV P h t a).map fun v=>(v,h)
 | .store t a x=>(evLO env a).bind fun a=>(evLO env x).bind fun x=>(stV P h t a x).map fun h=>(.no,h)
 | .nilCheck x=>(evLO env x).bind fun | .p none=>none | .nf=>none | .un=>none | v=>some (v,h)
 | .binOp op t x y _=>(evLO env x).bind fun x=>(evLO env y).bind fun y=>(binV P op t x y).map fun v=>(v,h)
 | .unOp op _ x=>(evLO env x).bind fun x=>(unV op x).map fun v=>(v,h)
 | .convert s d x=>(evLO env x).bind fun x=>zkj P h s d x
 | .sliceToArrayPointer t x=>(evLO env x).bind fun | .sl (some a) n _=>(match P.underlying t with | some (.array k _)=>if k≤n then some (.p (some a),h) else none | _=>none) | _=>none
 | .makeFunc (.func f) first caps=>if first.size=0 then (evLL env caps.toList).map fun l=>(.f f l,h) else none
 | .makeMap t r=>match r with
  | none=>some (.m (some h.next),h.new (.map []))
  | some x=>(evLO env x).bind fun v=>match P.underlying t,v with | some (.map _ _),.i _ _=>some (.m (some h.next),h.new (.map [])) | _,_=>none
 | .makeSlice t l c=>(evLO env l).bind fun l=>(evLO env c).bind fun c=>zkd P h t l c
 | .slice t x lo hi mx=>(evLO env x).bind fun x=>(evLQ env lo).bind fun lo=>(evLQ env hi).bind fun hi=>(evLQ env mx).bind fun mx=>(zhn P t x lo hi mx).map fun v=>(v,h)
 | .fieldAddr s x f=>(evLO env x).bind fun | .p (some (b,o))=>((fldT P s f).bind fun q=>(sz P q.type).bind fun n=>if 0 < n then some (.p (some (b,o+q.offset)),h) else none) | _=>none
 | .field s x f=>(evLO env x).bind fun | .agg cs=>((fldT P s f).bind fun q=>(partV P q.type cs q.offset).map fun v=>(v,h)) | _=>none
 | .indexAddr t x i=>(evLO env x).bind fun x=>(evLO env i).bind fun i=>(idxA P t x i).map fun v=>(v,h)
 | .index t x i=>(evLO env x).bind fun x=>(evLO env i).bind fun i=>(idxV P t x i).map fun v=>(v,h)
 | .lookup t m k ok=>(evLO env m).bind fun m=>(evLO env k).bind fun k=>(lookV P h t m k ok).map fun v=>(v,h)
 | .mapUpdate t m k x=>(evLO env m).bind fun m=>(evLO env k).bind fun k=>(evLO env x).bind fun x=>(zue P h t m k x).map fun h=>(.no,h)
 | .extract x i=>(evLO env x).bind fun | .tup vs=>(vs[i]?).map fun v=>(v,h) | _=>none
 | .call { callee:=.builtin b,args,argTypes }=>(evLL env args.toList).bind fun l=>bltV P h b argTypes.toList l
 | _=>none
def tgtL (env:EL):Op→Option (FuncId × List Val)
 | .call { callee:=.value f,args,.. }=>(evLO env f).bind fun | .f g caps=>(evLL env args.toList).map fun l=>(g,l++caps) | _=>none
 | _=>none
def zdc (A:List Oper) (env:EL) (o:Oper):Option Bool:=match o.guard with
 | none=>some true
 | some (j,want)=>match ((A[j]?).bind (·.dst)).bind (look env) with
  | some (.b x)=>some (x == want)
  | some (.tup [])=>some false
  | _=>none
section
variable {E:EL} {env:Env}
theorem Has.nil (env:Env):Has [] env:=fun t v h=>by simp [look] at h
theorem Has.evO (l:Has E env) (x:Operand):Le (evLO E x) (evO env x):=by
 cases x with
 | tmp t=>exact l t
 | const v=>exact Le.refl _
 | global g=>exact Le.refl _
 | func f=>exact Le.refl _
theorem Has.evL (l:Has E env) (xs:List Operand):Le (evLL E xs) (evL env xs):=Le.mapM l.evO xs
theorem Has.evP (l:Has E env) (xs:List (Nat × Operand)):Le (evLP E xs) (evP env xs):=Le.mapM (f:=fun q:Nat × Operand=>(evLO E q.2).map fun v=>(q.1,v)) (g:=fun q=>(Go.V.evO env q.2).map fun v=>(q.1,v)) (fun q=>(l.evO q.2).map) xs
theorem Has.evQ (l:Has E env) (x:Option Operand):Le (evLQ E x) (evQ env x):=by
 cases x with
 | none=>exact Le.refl _
 | some x=>exact (l.evO x).map
theorem Has.put (l:Has E env) (d:Nat) (v:Val):Has ((d,v)::E) (env.set d v):=fun t u h=>by
 simp only [look] at h;rw [T.get_set];cases hb:Nat.beq d t with
 | true=>rw [hb] at h;rw [if_pos (Nat.eq_of_beq_eq_true hb).symm];exact h
 | false=>rw [hb] at h;rw [if_neg (fun e=>Nat.ne_of_beq_eq_false hb e.symm)];exact l t u h
theorem Has.op1 {P:Program} (l:Has E env) (h:Hp) (op:Op):Le (opL P E h op) (op1 P env h op):=by
 cases op
 case pick c a b =>
  simp only [opL,Go.V.op1];exact Le.bind (l.evO _) fun c=>by
   cases c with
   | b x=>cases x <;> exact (l.evO _).map
   | _=>exact fun _ h=>by cases h
 case makeFunc f first caps =>
  cases f with
  | func f =>
   simp only [opL,Go.V.op1]
   split
   ·exact (l.evL _).map
   ·exact Le.refl _
  | _=>exact fun _ h=>by cases h
 case call c =>
  obtain ⟨callee,args,ts⟩:=c;cases callee with
  | builtin b=>exact Le.bind (l.evL _) fun _=>Le.refl _
  | _=>exact fun _ h=>by cases h
 case makeMap t r =>
  cases r with
  | none=>exact Le.refl _
  | some x =>
   simp only [opL,Go.V.op1];exact Le.bind (l.evO _) fun v=>Le.refl _
 all_goals first
  | exact fun _ h=>by cases h
  | exact Le.refl _
  | (simp only [opL,Go.V.op1];repeat' first | exact Le.refl _ | exact l.evO _ | exact l.evL _ | exact l.evP _ | exact l.evQ _ | (refine Le.bind ?_ fun _=>?_) | refine Le.map ?_)
theorem Has.tgt (l:Has E env) (op:Op):Le (tgtL E op) (tgt env op):=by
 cases op
 case call c =>
  obtain ⟨callee,args,ts⟩:=c;cases callee with
  | value f =>
   simp only [tgtL,Go.V.tgt];exact Le.bind (l.evO _) fun v=>by
    cases v with
    | f g caps=>exact (l.evL _).map
    | _=>exact fun _ h=>by cases h
  | _=>exact fun _ h=>by cases h
 all_goals exact fun _ h=>by cases h
theorem Has.want (l:Has E env) (A:List Oper) (o:Oper):Le (zdc A E o) (zlo A env o):=fun b e=>by
 cases hg:o.guard with
 | none=>simp only [zdc,zlo,hg] at e ⊢;exact e
 | some q =>
  obtain ⟨j,want⟩:=q;simp only [zdc,zlo,hg] at e ⊢;cases hA:(A[j]?).bind (·.dst) with
  | none=>rw [hA] at e;simp at e
  | some d =>
   rw [hA] at e;simp only [Option.bind_some] at e ⊢;cases hq:look E d with
   | none=>rw [hq] at e;simp at e
   | some x=>rw [hq] at e;rw [l d x hq];exact e
def Sub:EL→EL→Prop
 | [],_=>True
 | (t,v)::r,l=>look l t=some v∧Sub r l
theorem Sub.look {r l:EL} (h:Sub r l):∀ t v,look r t=some v→look l t=some v:=by
 induction r with
 | nil=>intro t v h;simp [V.look] at h
 | cons x r ih =>
  obtain ⟨k,u⟩:=x;intro t v hv;simp only [V.look] at hv;cases hb:Nat.beq k t with
  | true =>
   rw [hb] at hv;have:k=t:=Nat.eq_of_beq_eq_true hb;subst this;have:u=v:=by simpa using hv
   subst this;exact h.1
  | false=>rw [hb] at hv;exact ih h.2 t v hv
theorem Has.sub {r l:EL} (hs:Has l env) (h:Sub r l):Has r env:=fun t v hv=>hs t v (h.look t v hv)
end
theorem zbu {l:EL} {t:Nat} {x y:Bool} (h:look l t=some (.b x)) (e:x=y):look l t=some (.b y):=e ▸ h
inductive Kont where
 | done (R:Val→Hp→Prop)
 | code (y:Code) (k:Kont)
 | block (id:Nat) (k:Kont)
 | loop (J:Env→Hp→Prop) (k:Kont)
def Ret (P:Program) (K:Tb) (f:FuncId) (args:List Val) (h:Hp) (R:Val→Hp→Prop):Prop:=XW P K (.call f args h) fun o=>∃ v h',o = .call v h' ∧ R v h'
theorem Ret.mono {P:Program} {K:Tb} {f:FuncId} {args:List Val} {h:Hp} {R R':Val→Hp→Prop} (x:Ret P K f args h R) (hr:∀ v h',R v h' → R' v h'):Ret P K f args h R' :=
 XW.mono x fun o ⟨v,h',e,q⟩=>⟨v,h',e,hr _ _ q⟩
def Kont.post (P:Program) (K:Tb) (fn:Func):Kont→Out→Prop
 | .done R=>CallK P fn.results.toList fun o=>∃ v h',o = .call v h' ∧ R v h'
 | .code y k=>ThenK P K fn.ntmps y (k.post P K fn)
 | .block id k=>BlockK id (k.post P K fn)
 | .loop J k=>fun o=>match o with
  | .code .nrm env h=>J env h
  | o=>k.post P K fn o
def Kont.final:Kont→Val→Hp→Prop
 | .done R=>R
 | .code _ k=>k.final
 | .block _ k=>k.final
 | .loop _ k=>k.final
def Kont.upTo (id:Nat):Kont→Option Kont
 | .done _=>none
 | .code _ k=>k.upTo id
 | .block i k=>match Nat.beq id i with | true=>some k | false=>k.upTo id
 | .loop _ k=>k.upTo id
def PdOk (P:Program) (A:List Oper) (dr:Bool) (G:Frz) (L:List Nat) (pd:List Pend):Prop:=dr=true → ∀ q,q∈pd→zcs P (opAt A q.idx).op = .read∧((∀ j,j∈L→zcs P (opAt A j).op = .eff→((ancs A []).getD j 0).testBit q.idx=true) ∨ ∀ h,zit G h→op1 P q.env h q.op=some (q.v,h))
section
variable (P:Program) (K:Tb) (fn:Func)
def C (k:Kont) (c:Code) (E:EL) (h:Hp):Prop:=∀ env,Has E env→XW P K (.code fn.ntmps c env h) (k.post P K fn)
def N (k:Kont) (E:EL) (h:Hp):Prop:=∀ env,Has E env→k.post P K fn (.code .nrm env h)
def W (k:Kont) (A:List Oper) (dr:Bool) (G:Frz) (L:List Nat) (E:EL) (h:Hp):Prop:=zit G h → ∀ env pd,Has E env→PdOk P A dr G L pd→XW P K (.ops fn.ntmps A dr L pd env h) (k.post P K fn)
end
section rules
variable {P:Program} {K:Tb} {fn:Func} {k:Kont} {E:EL} {h:Hp}
theorem C_region {id:Nat} {A:List Oper} (hd:zpj fn.ntmps A=true) (x:W P K fn k A false (nowF h) (List.range A.length) E h):C P K fn k (.region id A.toArray false) E h :=
 fun env he=>.region hd (by simp) (x (zkc h) env [] he fun q=>by cases q)
theorem zbw {id:Nat} {A:List Oper} {G:Frz} (L:List Nat) (hd:zpj fn.ntmps A=true) (hf:P.follows .mixedOrders=true) (hL:okL P A L=true) (hG:zit G h) (x:W P K fn k A true G L E h):C P K fn k (.region id A.toArray true) E h :=
 fun env he=>.region hd (by simp only [if_true];exact ⟨hf,hL⟩) (x hG env [] he fun _ q hq=>by cases hq)
theorem zfl {x y:Code} (q:C P K fn (.code y k) x E h):C P K fn k (.seq x y) E h:=fun env he=>.seqK (q env he)
theorem ziz (q:N P K fn k E h):C P K fn k .skip E h:=fun env he=>.skip (q env he)
theorem zfa {id:Nat} {c:Code} (q:C P K fn (.block id k) c E h):C P K fn k (.block id c) E h:=fun env he=>.blockK (q env he)
theorem zlc {x:Operand} {c d:Code} {t:Bool} (hx:evLO E x=some (.b t)) (ht:t=true→C P K fn k c E h) (hf:t=false→C P K fn k d E h):C P K fn k (.cond x c d) E h :=
 fun env he=>.condS (he.evO _ _ hx) (fun e=>ht e env he) (fun e=>hf e env he)
theorem C_cond_t {x:Operand} {c d:Code} (hx:evLO E x=some (.b true)) (ht:C P K fn k c E h):C P K fn k (.cond x c d) E h:=fun env he=>.condT (he.evO _ _ hx) (ht env he)
theorem zew {A:List Oper} {dr:Bool} {G:Frz} (q:N P K fn k E h):W P K fn k A dr G [] E h:=fun _ env pd he _=>.onil (q env he)
theorem zgl {y:Code} (q:C P K fn k y E h):N P K fn (.code y k) E h:=fun env he=>q env he
theorem zyg {id:Nat} (q:N P K fn k E h):N P K fn (.block id k) E h:=fun env he=>q env he
theorem N_loop {J:Env→Hp→Prop} (q:∀ env,Has E env→J env h):N P K fn (.loop J k) E h:=fun env he=>q env he
theorem upTo_post {id:Nat} {k k':Kont} (e:k.upTo id=some k') {env:Env} {h:Hp} (hn:k'.post P K fn (.code .nrm env h)):k.post P K fn (.code (.ext id) env h):=by
 induction k with
 | done R=>simp [Kont.upTo] at e
 | code y k ih=>exact ih e
 | loop J k ih=>exact ih e
 | block i k ih =>
  simp only [Kont.upTo] at e;show k.post P K fn (.code (if id=i then .nrm else .ext id) env h);cases hb:Nat.beq id i with
  | true =>
   rw [hb] at e;have:k=k':=by simpa using e
   subst this;rw [if_pos (Nat.eq_of_beq_eq_true hb)];exact hn
  | false=>rw [hb] at e;rw [if_neg (Nat.ne_of_beq_eq_false hb)];exact ih e
theorem zbe {id:Nat} (k':Kont) (e:k.upTo id=some k') (hn:N P K fn k' E h):C P K fn k (.exit id) E h:=fun env he=>.exit (upTo_post e (hn env he))
theorem final_post (k:Kont) {env:Env} {h:Hp} {vs:List Val} (hr:resV P env h fn.results.toList=some vs) (hR:k.final (oneV vs) h):k.post P K fn (.code .ret env h):=by
 induction k with
 | done R=>exact ⟨vs,hr,_,_,rfl,hR⟩
 | code y k ih=>exact ih hR
 | loop J k ih=>exact ih hR
 | block i k ih=>exact ih hR
def outs (P:Program) (E:EL) (h:Hp):List ResultVar→Option (List Val)
 | []=>some []
 | .tmp t::r=>(look E t).bind fun v=>(outs P E h r).map (v :: ·)
 | .cell a t::r=>(look E a).bind fun p=>(ldV P h t p).bind fun v=>(outs P E h r).map (v :: ·)
theorem ztg {env:Env} (he:Has E env):∀ rs,Le (outs P E h rs) (resV P env h rs)
 | []=>Le.refl _
 | .tmp t::r=>Le.bind (he t) fun _=>(ztg he r).map
 | .cell a t::r=>Le.bind (he a) fun _=>Le.bind (Le.refl _) fun _=>(ztg he r).map
theorem C_ret {vs:List Val} {v:Val} (hv:outs P E h fn.results.toList=some vs) (ho:oneV vs=v) (hR:k.final v h):C P K fn k .ret E h:=fun env he=>.ret (final_post k (ztg he _ _ hv) (ho ▸ hR))
theorem N_done {R:Val→Hp→Prop} {vs:List Val} {v:Val} (hv:outs P E h fn.results.toList=some vs) (ho:oneV vs=v) (hR:R v h):N P K fn (.done R) E h:=fun env he=>⟨vs,ztg he _ _ hv,_,_,rfl,ho ▸ hR⟩
def AgainM {S A:Type} (Inv:S→EL→Hp→Prop) (rec:S→Option A) (a:A):Env→Hp→Prop:=fun env h=>∃ s E,Inv s E h∧Has E env∧rec s=some a
def Join (J:EL→Hp→Prop):Env→Hp→Prop:=fun env h=>∃ l,J l h∧Has l env
theorem seq_post {J:Env→Hp→Prop} {k:Kont} {y:Code} (hy:∀ env h,J env h→XW P K (.code fn.ntmps y env h) (k.post P K fn)) (o:Out) (q:(Kont.loop J k).post P K fn o):ThenK P K fn.ntmps y (k.post P K fn) o:=by
 cases o with
 | code e env h=>cases e with
  | nrm=>exact hy env h q
  | ext i=>exact q
  | ret=>exact q
 | call v h=>exact q
theorem zac (J:EL→Hp→Prop) {x y:Code} (hx:C P K fn (.loop (Join J) k) x E h) (hy:∀ l' h',J l' h' → C P K fn k y l' h'):C P K fn k (.seq x y) E h :=
 fun env he=>.seqK ((hx env he).mono (seq_post fun env h ⟨l,hJ,hl⟩=>hy l h hJ env hl))
theorem zja (J:EL→Hp→Prop) {c:Code} (hx:C P K fn (.loop (Join J) k) c E h) (hn:∀ l' h',J l' h' → N P K fn k l' h'):C P K fn k c E h :=
 fun env he=>(hx env he).mono fun o q=>by
  cases o with
  | code e env h=>cases e with
   | nrm=>obtain ⟨l,hJ,hl⟩:=q;exact hn l h hJ env hl
   | ext i=>exact q
   | ret=>exact q
  | call v h=>exact q
theorem zdy {J:EL→Hp→Prop} (l':EL) (hJ:J l' h) (hs:Sub l' E):N P K fn (.loop (Join J) k) E h:=N_loop fun _ he=>⟨l',hJ,he.sub hs⟩
def zva:Nat→List Val→EL
 | _,[]=>[]
 | i,v::vs=>(i,v)::zva (i+1) vs
theorem has_argE:∀ (vs:List Val) (i:Nat) (E:EL) (env:Env),Has E env→(∀ t,i≤t→look E t=none)→Has (zva i vs++E) (argE i vs env)
 | [],i,E,env,he,_=>he
 | v::vs,i,E,env,he,hn=>by
  have h1:Has ((i,v)::E) (env.set i v):=he.put i v;have h2:=has_argE vs (i+1) ((i,v)::E) (env.set i v) h1 fun t ht=>by
   simp only [look];rw [show Nat.beq i t=false from (by cases hb:Nat.beq i t with | false=>rfl | true=>have:=Nat.eq_of_beq_eq_true hb;omega)];exact hn t (by omega)
  intro t u hu;refine h2 t u ?_;have key:∀ (us:List Val) (j:Nat) (E:EL),i < j→look ((i,v)::(zva j us++E)) t=look (zva j us++(i,v)::E) t:=by
   intro us
   induction us with
   | nil=>intro j E hj;rfl
   | cons w ws ih =>
    intro j E hj;simp only [zva,List.cons_append,look];cases hb:Nat.beq i t with
    | true =>
     have e:i=t:=Nat.eq_of_beq_eq_true hb;have:Nat.beq j t=false:=by cases hc:Nat.beq j t with | false=>rfl | true=>have:=Nat.eq_of_beq_eq_true hc;omega
     rw [this];simp only;rw [← ih (j+1) E (by omega)];simp [look,hb]
    | false =>
     cases hc:Nat.beq j t with
     | true=>rfl
     | false =>
      simp only;rw [← ih (j+1) E (by omega)];simp [look,hb]
  have hu':look ((i,v)::(zva (i+1) vs++E)) t=some u:=hu;rw [key vs (i+1) E (by omega)] at hu';exact hu'
theorem zra {f:FuncId} {c:Code} {args:List Val} {R:Val→Hp→Prop} (hf:P.funcs[f]? = some fn) (hb:fn.body=some c) (hm:fn.name ≠ "runtime.NumGoroutine") (hn:Nat.ble args.length fn.ntmps=true) (q:C P K fn (.done R) c (zva 0 args) h):Ret P K f args h R:=by
 refine XW.callK hf hb hm (Nat.le_of_ble_eq_true hn) (q _ ?_);have:=has_argE args 0 [] .lf (Has.nil _) (fun _ _=>rfl);simpa using this
def RdO (P:Program) (G:Frz) (E:EL) (op:Op) (v:Val):Prop:=∀ h,zit G h→opL P E h op=some (v,h)
section
variable {A:List Oper} {dr:Bool} {G:Frz} {L:List Nat} {i d:Nat}
theorem PdOk.tail {pd:List Pend} (hp:PdOk P A dr G (i::L) pd):PdOk P A dr G L pd:=fun hdr q hq=>⟨(hp hdr q hq).1,(hp hdr q hq).2.imp (fun r j hj=>r j (List.mem_cons_of_mem _ hj)) id⟩
theorem PdOk.le {pd:List Pend} {G':Frz} (hp:PdOk P A dr G L pd) (l:dr=true→G.le G'):PdOk P A dr G' L pd:=fun hdr q hq=>⟨(hp hdr q hq).1,(hp hdr q hq).2.imp id fun r h ha=>r h (ha.le (l hdr))⟩
theorem PdOk.stays {pd:List Pend} {h':Hp} (hp:PdOk P A dr G (i::L) pd) (he:zcs P (opAt A i).op = .eff) (ha:dr=true→zit G h'):Stays P A dr i pd h':=fun hdr q hq hb=>by
 rcases (hp hdr q hq).2 with r | r
 ·have:=r i (by simp) he;rw [this] at hb;cases hb
 ·exact r h' (ha hdr)
theorem W_p {v:Val} (hi:Nat.blt i A.length=true) (hw:zdc A E (opAt A i)=some true) (hd:(opAt A i).dst=some d) (hk:decide (zcs P (opAt A i).op = .eff)=false) (ho:RdO P G E (opAt A i).op v) (x:W P K fn k A dr G L ((d,v)::E) h):W P K fn k A dr G (i::L) E h:=by
 intro ha env pd he hp;have hop:∀ h,zit G h→op1 P env h (opAt A i).op=some (v,h):=fun h q=>he.op1 _ _ _ (ho h q);refine .oone (by simpa using hi) (he.want _ _ _ hw) (hop h ha) (fun e=>absurd e (by simpa using hk)) ?_;rw [hd];refine x ha _ _ (he.put d v) fun hdr q hq=>?_;unfold zoq at hq
 split at hq
 ·rename_i hkr;rcases List.mem_cons.1 hq with rfl | hq
  ·exact ⟨hkr,.inr hop⟩
  ·exact hp.tail hdr q hq
 ·exact hp.tail hdr q hq
def ahead (P:Program) (A:List Oper) (i:Nat) (L:List Nat):Bool:=L.all fun j=>!decide (zcs P (opAt A j).op = .eff)||((ancs A []).getD j 0).testBit i
theorem W_n {v:Val} (hb:ahead P A i L=true) (hi:Nat.blt i A.length=true) (hw:zdc A E (opAt A i)=some true) (hd:(opAt A i).dst=some d) (hk:decide (zcs P (opAt A i).op = .eff)=false) (ho:RdO P (nowF h) E (opAt A i).op v) (x:W P K fn k A dr G L ((d,v)::E) h):W P K fn k A dr G (i::L) E h:=by
 intro ha env pd he hp;refine .oone (by simpa using hi) (he.want _ _ _ hw) (he.op1 _ _ _ (ho h (zkc h))) (fun e=>absurd e (by simpa using hk)) ?_;rw [hd];refine x ha _ _ (he.put d v) fun hdr q hq=>?_;unfold zoq at hq
 split at hq
 ·rename_i hkr;rcases List.mem_cons.1 hq with rfl | hq
  ·refine ⟨hkr,.inl fun j hj hk=>?_⟩;have:=List.all_eq_true.1 hb j hj;simpa [hk] using this
  ·exact hp.tail hdr q hq
 ·exact hp.tail hdr q hq
theorem W_no (hi:Nat.blt i A.length=true) (hw:zdc A E (opAt A i)=some false) (hd:(opAt A i).dst=some d) (x:W P K fn k A dr G L ((d,.no)::E) h):W P K fn k A dr G (i::L) E h:=by
 intro ha env pd he hp;refine .onot (by simpa using hi) (he.want _ _ _ hw) ?_;rw [hd];exact x ha _ _ (he.put d _) hp.tail
def Nxt (P:Program) (K:Tb) (fn:Func) (k:Kont) (A:List Oper) (dr:Bool) (G:Frz) (L:List Nat) (E:EL) (h:Hp):Prop:=∃ G',(dr=true→G.le G')∧zit G' h∧W P K fn k A dr G' L E h
theorem Nxt.now (x:W P K fn k A false (nowF h) L E h):Nxt P K fn k A false G L E h:=⟨_,fun e=>(by cases e),zkc h,x⟩
theorem Nxt.frz {G':Frz} (l:G.le G') (ha:zit G' h) (x:W P K fn k A dr G' L E h):Nxt P K fn k A dr G L E h:=⟨G',fun _=>l,ha,x⟩
theorem W_rg {G':Frz} (l:G.le G') (ha:zit G' h) (x:W P K fn k A dr G' L E h):W P K fn k A dr G L E h:=fun _ env pd he hp=>x ha env pd he (hp.le fun _=>l)
def settled (P:Program) (A:List Oper) (L:List Nat):Bool:=(List.range A.length).all fun i=>!decide (zcs P (opAt A i).op = .read)||ahead P A i L
theorem zqz {G':Frz} (hs:settled P A L=true) (ha:zit G' h) (x:W P K fn k A dr G' L E h):W P K fn k A dr G L E h:=fun _ env pd he hp=>x ha env pd he fun hdr q hq=>by
 obtain ⟨hk,_⟩:=hp hdr q hq;refine ⟨hk,.inl fun j hj hke=>?_⟩;have hl:q.idx < A.length:=by
  apply Classical.byContradiction;intro hn;have:opAt A q.idx=⟨none,.panic (.func 0),0,"",#[],none⟩:=by
   unfold opAt;rw [List.getD_eq_getElem?_getD,List.getElem?_eq_none (by omega)];rfl
  rw [this] at hk;cases hk
 have h1:=List.all_eq_true.1 hs q.idx (List.mem_range.2 hl);simp only [hk,decide_true,Bool.not_true,Bool.false_or] at h1;have h2:=List.all_eq_true.1 h1 j hj;simpa [hke] using h2
def Ef (P:Program) (E:EL) (h:Hp) (op:Op) (Q:Val→Hp→Prop):Prop:=decide (zcs P op = .read)=false ∧ ∃ v h',opL P E h op=some (v,h')∧Q v h'
theorem W_x {Q:Val→Hp→Prop} (hi:Nat.blt i A.length=true) (hw:zdc A E (opAt A i)=some true) (hd:(opAt A i).dst=some d) (ho:Ef P E h (opAt A i).op Q) (x:∀ v h',Q v h' → Nxt P K fn k A dr G L ((d,v)::E) h'):W P K fn k A dr G (i::L) E h:=by
 obtain ⟨hk,v,h',ho,hq⟩:=ho;obtain ⟨G',l,ha',x⟩:=x v h' hq;intro ha env pd he hp;refine .oone (by simpa using hi) (he.want _ _ _ hw) (he.op1 _ _ _ ho) (fun hke=>hp.stays hke fun hdr=>ha'.le (l hdr)) ?_;rw [hd];refine x ha' _ _ (he.put d v) ?_;unfold zoq;rw [if_neg (by simpa using hk)];exact hp.tail.le l
theorem W_xU {Q:Val→Hp→Prop} (hi:Nat.blt i A.length=true) (hw:zdc A E (opAt A i)=some true) (hd:(opAt A i).dst=none) (ho:Ef P E h (opAt A i).op Q) (x:∀ v h',Q v h' → Nxt P K fn k A dr G L E h'):W P K fn k A dr G (i::L) E h:=by
 obtain ⟨hk,v,h',ho,hq⟩:=ho;obtain ⟨G',l,ha',x⟩:=x v h' hq;intro ha env pd he hp;refine .oone (by simpa using hi) (he.want _ _ _ hw) (he.op1 _ _ _ ho) (fun hke=>hp.stays hke fun hdr=>ha'.le (l hdr)) ?_;rw [hd];refine x ha' _ _ he ?_;unfold zoq;rw [if_neg (by simpa using hk)];exact hp.tail.le l
theorem zoi {f:FuncId} {args:List Val} {R:Val→Hp→Prop} (hi:Nat.blt i A.length=true) (hw:zdc A E (opAt A i)=some true) (hd:(opAt A i).dst=some d) (ht:tgtL E (opAt A i).op=some (f,args)) (hc:Ret P K f args h R)
  (x:∀ v h',R v h' → Nxt P K fn k A dr G L ((d,v)::E) h'):W P K fn k A dr G (i::L) E h:=by
 intro ha env pd he hp;refine .ocall (by simpa using hi) (he.want _ _ _ hw) (he.tgt _ _ ht) hc (fun v h' m=>?_) (fun v h' m=>?_)
 ·obtain ⟨v,h',e,m⟩:=m;obtain ⟨rfl,rfl⟩:=Out.call.inj e;obtain ⟨G',g1,g2,_⟩:=x _ _ m;exact hp.stays (tgt_eff (he.tgt _ _ ht)) fun hdr=>g2.le (g1 hdr)
 ·obtain ⟨v,h',e,m⟩:=m;obtain ⟨rfl,rfl⟩:=Out.call.inj e;obtain ⟨G',g1,g2,g3⟩:=x _ _ m;rw [hd];exact g3 g2 _ _ (he.put d _) (hp.tail.le g1)
theorem W_callU {f:FuncId} {args:List Val} {R:Val→Hp→Prop} (hi:Nat.blt i A.length=true) (hw:zdc A E (opAt A i)=some true) (hd:(opAt A i).dst=none) (ht:tgtL E (opAt A i).op=some (f,args)) (hc:Ret P K f args h R)
  (x:∀ v h',R v h' → Nxt P K fn k A dr G L E h'):W P K fn k A dr G (i::L) E h:=by
 intro ha env pd he hp;refine .ocall (by simpa using hi) (he.want _ _ _ hw) (he.tgt _ _ ht) hc (fun v h' m=>?_) (fun v h' m=>?_)
 ·obtain ⟨v,h',e,m⟩:=m;obtain ⟨rfl,rfl⟩:=Out.call.inj e;obtain ⟨G',g1,g2,_⟩:=x _ _ m;exact hp.stays (tgt_eff (he.tgt _ _ ht)) fun hdr=>g2.le (g1 hdr)
 ·obtain ⟨v,h',e,m⟩:=m;obtain ⟨rfl,rfl⟩:=Out.call.inj e;obtain ⟨G',g1,g2,g3⟩:=x _ _ m;rw [hd];exact g3 g2 _ _ he (hp.tail.le g1)
theorem W_eqv {t:Nat} {v v':Val} (hl:look E t=some v) (e:v=v') (x:W P K fn k A dr G L ((t,v')::E) h):W P K fn k A dr G L E h:=by
 intro ha env pd he hp;refine x ha env pd (fun t' u hu=>?_) hp;simp only [look] at hu;cases hb:Nat.beq t t' with
 | true =>
  rw [hb] at hu;have e':t=t':=Nat.eq_of_beq_eq_true hb;subst e';have:v' = u:=by simpa using hu
  subst this;subst e;exact he t _ hl
 | false=>rw [hb] at hu;exact he t' u hu
end
end rules
end Go.V
end
section
namespace Go.Wk
def bd {α β:Type} (o:Option α) (f:α→Option β):Option β:=match o with | some x=>f x | none=>none
theorem zaj {α β:Type} {o:Option α} {f:α→Option β} {r:β} (h:bd o f=some r):∃ x,o=some x∧f x=some r:=by
 cases o with
 | none=>cases h
 | some x=>exact ⟨x,rfl,h⟩
def ix {α:Type} (l:List α) (i:Int):Option α:=match i with | .ofNat n=>l[n]? | .negSucc _=>none
theorem zaf {α:Type} {l:List α} {i:Int} {x:α} (h:ix l i=some x):0≤i∧l[i.toNat]? = some x:=by
 cases i with
 | ofNat n=>exact ⟨Int.natCast_nonneg n,h⟩
 | negSucc n=>cases h
def cut {α:Type} (l:List α) (a b:Int):Option (List α):=if 0≤a∧a≤b∧b≤(l.length:Int) then some ((l.take b.toNat).drop a.toNat) else none
theorem ztj {α:Type} {l r:List α} {a b:Int} (h:cut l a b=some r):0≤a∧a≤b∧b≤(l.length:Int)∧r=(l.take b.toNat).drop a.toNat:=by
 unfold cut at h
 split at h
 ·rename_i hc;exact ⟨hc.1,hc.2.1,hc.2.2,(Option.some.inj h).symm⟩
 ·cases h
def app {α:Type} (xs ys:List α):Option (List α):=if xs.length+ys.length≤1073741824 then some (xs++ys) else none
theorem zye {α:Type} {xs ys r:List α} (h:app xs ys=some r):xs.length+ys.length≤1073741824∧r=xs++ys:=by
 unfold app at h
 split at h
 ·rename_i hc;exact ⟨hc,(Option.some.inj h).symm⟩
 ·cases h
abbrev wr (x:Int):Int:=IntKind.i64.wrap x
abbrev wu (x:Int):Int:=IntKind.u64.wrap x
def rem (a b:Int):Option Int:=if b=0 then none else some (a.tmod b)
theorem rem_some {a b r:Int} (h:rem a b=some r):b≠0∧r=a.tmod b:=by
 unfold rem at h
 split at h
 ·cases h
 ·rename_i hc;exact ⟨hc,(Option.some.inj h).symm⟩
def only {α:Type} (b:Bool) (o:Option α) (z:α):Option α:=if b=true then o else some z
theorem zck {α:Type} {b:Bool} {o:Option α} {z:α} (h:b=true):only b o z=o:=if_pos h
def iter {S A:Type} (F:(S→Option A)→S→Option A):Nat→S→Option A
 | 0,_=>none
 | n+1,s=>F (iter F n) s
def loop {S A:Type} (F:(S→Option A)→S→Option A) (s:S):Option A:=iter F 18446744073709551616 s
theorem if_t {α:Type} {b:Bool} {x y:α} (h:b=true):(if b=true then x else y)=x:=if_pos h
theorem if_f {α:Type} {b:Bool} {x y:α} (h:b=false):(if b=true then x else y)=y:=if_neg (by rw [h];decide)
end Go.Wk
namespace Go.V
open Go.Wk
section
variable {P:Program} {K:Tb} {fn:Func} {k:Kont} {E:EL} {h:Hp}
theorem zbo {S A:Type} {a:A} {c:Code} {n:Nat} {Fn:(S→Option A)→S→Option A} {s0:S} (Inv:S→EL→Hp→Prop) (H:iter Fn n s0=some a) (h0:∃ E',Inv s0 E' h∧Sub E' E)
  (round:∀ (rec:S→Option A) s E h',Inv s E h' → Fn rec s=some a→C P K fn (.loop (AgainM Inv rec a) k) c E h'):C P K fn k (.loop c) E h:=by
 obtain ⟨E0,hI0,hsub⟩:=h0;intro env he;refine XW.loopK (fun m env h=>∃ s E,Inv s E h∧Has E env∧iter Fn m s=some a) ?_ n env h ⟨s0,E0,hI0,he.sub hsub,H⟩;rintro m env' h' ⟨s,E',hI,hs,hm⟩;cases m with
 | zero=>cases hm
 | succ m =>
  refine (round (iter Fn m) s E' h' hI hm env' hs).mono fun o q=>?_;cases o with
  | code e env2 h2=>cases e with
   | nrm=>obtain ⟨s',E2,hI',hs',hr⟩:=q;exact ⟨m,Nat.lt_succ_self m,s',E2,hI',hs',hr⟩
   | ext i=>exact q
   | ret=>exact q
  | call v h=>exact q
theorem N_againM {S A:Type} {Inv:S→EL→Hp→Prop} {rec:S→Option A} {a:A} (s:S) (E':EL) (H:rec s=some a) (hI:Inv s E' h) (hE:Sub E' E):N P K fn (.loop (AgainM Inv rec a) k) E h :=
 N_loop fun _ ha=>⟨s,E',hI,ha.sub hE,H⟩
end
def Wf (h:Hp):Prop:=∀ b,h.next≤b→h.get b=none
structure Gd (F:Frz) (h:Hp):Prop where
 wf:Wf h
 agree:zit F h
theorem Gd.now {h:Hp} (w:Wf h):Gd (nowF h) h:=⟨w,zkc h⟩
def Val.own:Val→List Nat
 | .sl (some a) _ _=>[a.1]
 | _=>[]
def Ob.row {α:Type} (t:Tr α) (v:Val) (xs:List α):Ob:=⟨To.row (To.ofTr t),v.own,[v],xs⟩
def tBox:To (List Val) where
 size:=1
 rel F h bs cs x:=∃ g,bs=[g]∧cs=[.p (some (g,0))]∧h.get g=some (.cells x.length x)∧g < h.next∧x.all Val.one=true
 len:=fun ⟨g,_,q,_⟩=>by rw [q];rfl
 one:=fun ⟨g,_,q,_⟩=>by rw [q];rfl
 lt:=fun ⟨g,q,_,_,h3,_⟩ b hb=>by rw [q] at hb;simp at hb;subst hb;exact h3
 nodup:=fun ⟨g,q,_⟩=>by rw [q];simp
 mono:=fun _ q=>q
 frame:=fun ⟨g,h1,h2,h3,h4,h5⟩ hn hk=>⟨g,h1,h2,(hk g (by rw [h1];simp)).trans h3,Nat.lt_of_lt_of_le h4 hn,h5⟩
def Ob.box (g:Nat) (cs:List Val):Ob:=⟨tBox,[g],[.p (some (g,0))],cs⟩
theorem zrk {α:Type} {t:Tr α} {F:Frz} {h:Hp} {bs:List Nat} {v:Val} {xs:List α} (r:(To.row (To.ofTr t)).rel F h bs [v] xs):bs=v.own:=by
 obtain ⟨v0,hv0,r⟩:=r;obtain rfl:=List.head_eq_of_cons_eq hv0;rcases r with ⟨rfl,_,rfl⟩ | ⟨b,c,k,css,bss,r⟩
 ·rfl
 ·rw [r.form,r.foot];have:bss.flatten=[]:=by
   rw [List.flatten_eq_nil_iff];intro e he;obtain ⟨i,hi,rfl⟩:=List.getElem_of_mem he;have h1:i < css.length:=by rw [r.csl,← r.bsl];exact hi
   exact (r.rel i _ _ _ (List.getElem?_eq_getElem h1) (List.getElem?_eq_getElem (by rw [← r.bsl];exact hi)) (List.getElem?_eq_getElem hi)).1
  rw [this];rfl
theorem Ob.mkRow {α:Type} {t:Tr α} {F:Frz} {h:Hp} {bs:List Nat} {v:Val} {xs:List α} (r:(To.row (To.ofTr t)).rel F h bs [v] xs):(Ob.row t v xs).ok F h:=by
 have:=zrk r;subst this;exact r
section
variable {X:List Nat} {h0 h h':Hp} {F0 F F':Frz} {L Lr:List Ob}
theorem St.good (s:St X h0 F0 F L h):Gd F h:=⟨s.wf,s.agree⟩
theorem St.start (g:Gd F h):St [] h F F [] h:=St.entry g.wf g.agree
theorem pick_idx (L:List Ob):∀ (is:List Nat),is.Nodup → ∃ f:Nat→Nat,(∀ j o,(is.filterMap fun i=>L[i]?)[j]? = some o→f j∈is∧L[f j]? = some o) ∧ ∀ j j' o o',(is.filterMap fun i=>L[i]?)[j]? = some o→(is.filterMap fun i=>L[i]?)[j']? = some o' → f j=f j' → j=j':=by
 intro is
 induction is with
 | nil=>intro _;exact ⟨id,fun j o h=>by simp at h,fun j j' o o' h=>by simp at h⟩
 | cons a r ih =>
  intro hnd;obtain ⟨hna,hnr⟩:=List.nodup_cons.1 hnd;obtain ⟨f,h1,h2⟩:=ih hnr;cases ha:L[a]? with
  | none=>simp only [List.filterMap_cons,ha];exact ⟨f,fun j o hj=>⟨List.mem_cons_of_mem _ (h1 j o hj).1,(h1 j o hj).2⟩,h2⟩
  | some x =>
   simp only [List.filterMap_cons,ha];refine ⟨fun j=>match j with | 0=>a | j+1=>f j,fun j o hj=>?_,fun j j' o o' hj hj' e=>?_⟩
   ·cases j with
    | zero=>simp at hj;subst hj;exact ⟨by simp,ha⟩
    | succ j=>have:=h1 j o (by simpa using hj);exact ⟨List.mem_cons_of_mem _ this.1,this.2⟩
   ·cases j with
    | zero=>cases j' with
     | zero=>rfl
     | succ j'=>have:=(h1 j' o' (by simpa using hj')).1;simp only at e;rw [← e] at this;exact absurd this hna
    | succ j=>cases j' with
     | zero=>have:=(h1 j o (by simpa using hj)).1;simp only at e;rw [e] at this;exact absurd this hna
     | succ j'=>simp only at e;rw [h2 j j' o o' (by simpa using hj) (by simpa using hj') e]
theorem St.pick (s:St X h0 F0 F L h) (is:List Nat) (hnd:is.Nodup):St X h0 F0 F (is.filterMap fun i=>L[i]?) h:=by
 obtain ⟨f,f1,f2⟩:=pick_idx L is hnd;exact ⟨s.next,s.wf,s.keep,s.agree,s.ext,s.new,fun i o hi=>s.own (f i) o (f1 i o hi).2,fun i j o o' g hi hj ho ho'=>f2 i j o o' hi hj (s.apart _ _ o o' g (f1 i o hi).2 (f1 j o' hj).2 ho ho')⟩
theorem St.nilRow {α:Type} (s:St X h0 F0 F L h) (t:Tr α):St X h0 F0 F (.row t (.sl none 0 (.k 0)) []::L) h :=
 s.fresh ⟨Nat.le_refl _,s.wf,fun _ _=>rfl⟩ ⟨_,rfl,.inl ⟨rfl,rfl,rfl⟩⟩ (fun b hb=>by cases hb)
theorem St.above {w:Hp} (s:St [] h F0 F L w):Abv h w:=⟨s.next,s.wf,fun b hb=>s.keep b hb (by simp)⟩
theorem St.lent {G G':Frz} (s:St X h0 F0 F L h) (k:St [] h G G' Lr h'):St X h0 F0 F L h':=by
 have e:St [] h F F [] h':=⟨k.next,k.wf,fun b hb _=>k.keep b hb (by simp),k.above.agree s.wf s.agree,Frz.le.refl _,fun _ _ _ q=>.inl q,fun i o hi=>by simp at hi,fun i j o o' g hi=>by simp at hi⟩
 simpa using s.call e
theorem St.lend (s:St X h0 F0 F L h) (is:List Nat) (hnd:is.Nodup) (Y:List Nat) (hY:∀ (i:Nat) (o:Ob) (g:Nat),i∈is→L[i]? = some o→g∈o.bs→g∈Y):St Y h F F (is.filterMap fun i=>L[i]?) h:=by
 have hp:=s.pick is hnd;refine ⟨Nat.le_refl _,s.wf,fun _ _ _=>rfl,s.agree,Frz.le.refl _,fun _ _ _ e=>.inl e,fun i o hi=>?_,hp.apart⟩;obtain ⟨h1,h2⟩:=hp.own i o hi;refine ⟨h1,fun g hg=>⟨(h2 g hg).1,.inr ?_⟩⟩;have hm:o∈is.filterMap fun i=>L[i]?:=List.mem_of_getElem? hi;obtain ⟨i',hi',hL⟩:=List.mem_filterMap.1 hm;exact hY i' o g hi' hL hg
theorem St.callX (s:St X h0 F0 F L h) (is rs:List Nat) (Y:List Nat) (hnd:rs.Nodup) (hY:∀ g,g∈Y → ∃ i o,i∈is∧L[i]? = some o∧g∈o.bs) (hrs:∀ i,i∈rs→i ∉ is) (k:St Y h F F' Lr h'):St X h0 F0 F' (Lr++rs.filterMap fun i=>L[i]?) h':=by
 have hp:=s.pick rs hnd;have hYo:∀ g,g∈Y→(∀ k,F g k=none)∧(h0.next≤g∨g∈X)∧g < h.next:=fun g hg=>by
  obtain ⟨i,o,_,hL,ho⟩:=hY g hg;exact ⟨((s.own i o hL).2 g ho).1,((s.own i o hL).2 g ho).2,o.t.lt (s.ok hL) g ho⟩
 have hkeep:∀ b,b < h.next→b ∉ Y→h'.get b=h.get b:=fun b hb hx=>k.keep b hb hx;have hP:∀ (i:Nat) (o:Ob),(rs.filterMap fun i=>L[i]?)[i]? = some o → ∀ g,g∈o.bs→g ∉ Y:=fun i o hi g hg hgY=>by
  have hm:o∈rs.filterMap fun i=>L[i]?:=List.mem_of_getElem? hi;obtain ⟨i',hi',hL⟩:=List.mem_filterMap.1 hm;obtain ⟨j,o2,hj,hL2,ho2⟩:=hY g hgY;have:=s.apart i' j o o2 g hL hL2 hg ho2;exact hrs i' hi' (this ▸ hj)
 have hL:∀ (i:Nat) (o:Ob),(rs.filterMap fun i=>L[i]?)[i]? = some o→o.ok F' h' ∧ ∀ g,g∈o.bs→(∀ q,F' g q=none)∧(h0.next≤g∨g∈X):=by
  intro i o hi;obtain ⟨h1,h2⟩:=hp.own i o hi;refine ⟨o.t.mono k.ext (o.t.frame h1 k.next fun g hg=>hkeep g (o.t.lt h1 g hg) (hP i o hi g hg)),fun g hg=>⟨fun q=>?_,(h2 g hg).2⟩⟩;cases hF:F' g q with
  | none=>rfl
  | some u =>
   rcases k.new g q u hF with h3 | h3 | h3
   ·rw [(h2 g hg).1 q] at h3;cases h3
   ·have:=o.t.lt h1 g hg;omega
   ·exact absurd h3 (hP i o hi g hg)
 have hR:∀ (i:Nat) (o:Ob),Lr[i]? = some o → ∀ g,g∈o.bs→h.next≤g∨g∈Y:=fun i o hi g hg=>((k.own i o hi).2 g hg).2;refine ⟨Nat.le_trans s.next k.next,k.wf,fun b hb hx=>?_,k.agree,s.ext.trans k.ext,fun a q u e=>?_,fun i o hi=>?_,fun i j o o' g hi hj ho ho'=>?_⟩
 ·rw [hkeep b (Nat.lt_of_lt_of_le hb s.next) (fun hy=>by
   rcases (hYo b hy).2.1 with h3 | h3
   ·omega
   ·exact hx h3)]
  exact s.keep b hb hx
 ·rcases k.new a q u e with h3 | h3 | h3
  ·exact s.new a q u h3
  ·exact .inr (.inl (Nat.le_trans s.next h3))
  ·exact .inr (hYo _ h3).2.1
 ·by_cases hl:i < Lr.length
  ·rw [List.getElem?_append_left hl] at hi;obtain ⟨h1,h2⟩:=k.own i o hi;refine ⟨h1,fun g hg=>⟨(h2 g hg).1,?_⟩⟩;rcases hR i o hi g hg with h3 | h3
   ·exact .inl (Nat.le_trans s.next h3)
   ·exact (hYo g h3).2.1
  ·rw [List.getElem?_append_right (by omega)] at hi;exact hL _ o hi
 ·have cross:∀ (i j:Nat) (o o':Ob),Lr[i]? = some o→(rs.filterMap fun i=>L[i]?)[j]? = some o' → g∈o.bs→g∈o'.bs→False:=by
   intro i j o o' hi hj ho ho';rcases hR i o hi g ho with h3 | h3
   ·have:=o'.t.lt (hp.ok hj) g ho';omega
   ·exact hP j o' hj g ho' h3
  by_cases hl:i < Lr.length <;> by_cases hm:j < Lr.length
  ·rw [List.getElem?_append_left hl] at hi;rw [List.getElem?_append_left hm] at hj;exact k.apart i j o o' g hi hj ho ho'
  ·rw [List.getElem?_append_left hl] at hi;rw [List.getElem?_append_right (by omega)] at hj;exact (cross i _ o o' hi hj ho ho').elim
  ·rw [List.getElem?_append_right (by omega)] at hi;rw [List.getElem?_append_left hm] at hj;exact (cross j _ o' o hj hi ho' ho).elim
  ·rw [List.getElem?_append_right (by omega)] at hi hj;have:=hp.apart _ _ o o' g hi hj ho ho';omega
theorem St.lendL (s:St X h0 F0 F L h) (is:List Nat) (hnd:is.Nodup):St ((is.filterMap fun i=>L[i]?).flatMap Ob.bs) h F F (is.filterMap fun i=>L[i]?) h :=
 s.lend is hnd _ fun i o g hi hL hg=>List.mem_flatMap.2 ⟨o,List.mem_filterMap.2 ⟨i,hi,hL⟩,hg⟩
theorem St.backL (s:St X h0 F0 F L h) (is rs:List Nat) (hnd:rs.Nodup) (hd:∀ i,i∈rs→i ∉ is) (k:St ((is.filterMap fun i=>L[i]?).flatMap Ob.bs) h F F' Lr h'):St X h0 F0 F' (Lr++rs.filterMap fun i=>L[i]?) h' :=
 s.callX is rs _ hnd (fun g hg=>by
  obtain ⟨o,ho,hgo⟩:=List.mem_flatMap.1 hg;obtain ⟨i,hi,hL⟩:=List.mem_filterMap.1 ho;exact ⟨i,o,hi,hL,hgo⟩) hd k
theorem St.lendRow {α:Type} {t:Tr α} {v:Val} {xs:List α} (k:Nat) (s:St X h0 F0 F L h) (hk:L[k]? = some (.row t v xs)):St v.own h F F [.row t v xs] h:=by
 have:=s.lend [k] (by simp) v.own fun i o g hi hL hg=>by
  simp at hi;subst hi;rw [hk] at hL;obtain rfl:=Option.some.inj hL;exact hg
 simpa [hk] using this
theorem St.backRow {α:Type} {t:Tr α} {v:Val} {xs:List α} (k:Nat) (rs:List Nat) (s:St X h0 F0 F L h) (hk:L[k]? = some (.row t v xs)) (hnd:rs.Nodup) (hkr:k ∉ rs) (hT:St v.own h F F' Lr h'):St X h0 F0 F' (Lr++rs.filterMap fun i=>L[i]?) h' :=
 s.callX [k] rs _ hnd (fun g hg=>⟨k,_,by simp,hk,hg⟩) (fun i hi q=>hkr (by simp at q;exact q ▸ hi)) hT
theorem St.freezeR {α:Type} {t:Tr α} {v:Val} {xs:List α} (k:Nat) (is:List Nat) (s:St X h0 F0 F L h) (hk:L[k]? = some (.row t v xs)) (hnd:is.Nodup) (hki:k ∉ is) :
  ∃ F',F.le F' ∧ SlF t F' v xs∧St X h0 F0 F' (is.filterMap fun i=>L[i]?) h:=by
 have hp:=s.pick (k::is) (List.nodup_cons.2 ⟨hki,hnd⟩);have e:((k::is).filterMap fun i=>L[i]?)=Ob.row t v xs::is.filterMap fun i=>L[i]?:=by simp [hk]
 rw [e] at hp;have hf:=hp.freeze (i:=0) rfl;have hle:=Frz.plus_le (h:=h) (hp.noF (i:=0) rfl);exact ⟨_,hle,zlt (s.ok hk) hle (fun b hb o u q=>by unfold Frz.plus;rw [if_pos hb];exact q),by simpa using hf⟩
theorem row_now {α:Type} {t:Tr α} {v:Val} {xs:List α} (r:(Ob.row t v xs).ok F h) (ag:zit F h):SlF t (nowF h) v xs:=zlt r ag (fun b hb o u q=>q)
theorem St.rowNow {α:Type} {t:Tr α} {v:Val} {xs:List α} {k:Nat} (s:St X h0 F0 F L h) (hk:L[k]? = some (.row t v xs)):SlF t (nowF h) v xs:=row_now (s.ok hk) s.agree
end
end Go.V
end
section
namespace Go.V
open Go.Wk
def Rd (P:Program) (G:Frz) (E:EL) (op:Op) (v:Val):Prop:=decide (zcs P op = .eff)=false∧RdO P G E op v
def Ln (v:Val) (n:Nat):Prop:=(v = .es∧n=0) ∨ ∃ a c,v = .sl a n c∧(a=none→n=0)
theorem SlF.ln {α:Type} {t:Tr α} {F:Frz} {v:Val} {xs:List α} (s:SlF t F v xs):Ln v xs.length:=by
 obtain ⟨css,h1,h2⟩:=s;rcases h2 with ⟨rfl,rfl⟩ | ⟨a,c,rfl,_,_,e4,_⟩
 ·exact .inl ⟨rfl,by rw [← h1.1];rfl⟩
 ·rw [← h1.1];exact .inr ⟨a,_,rfl,fun q=>by rw [(e4 q).1];rfl⟩
theorem To.row_ln {α:Type} {t:To α} {F:Frz} {h:Hp} {bs:List Nat} {v:Val} {xs:List α} (r:(To.row t).rel F h bs [v] xs):Ln v xs.length:=by
 obtain ⟨v0,hv0,r⟩:=r;obtain rfl:=List.head_eq_of_cons_eq hv0;rcases r with ⟨rfl,rfl,_⟩ | ⟨b,c,k,css,bss,r⟩
 ·exact .inr ⟨none,.k 0,rfl,fun _=>rfl⟩
 ·exact .inr ⟨_,_,r.form,fun q=>by cases q⟩
theorem Ln.one {v:Val} {n:Nat} (l:Ln v n):v.one=true:=by rcases l with ⟨rfl,_⟩ | ⟨a,c,rfl,_⟩ <;> rfl
theorem Ln.cells {v:Val} {n:Nat} (l:Ln v n):v.cells=[v]:=by rcases l with ⟨rfl,_⟩ | ⟨a,c,rfl,_⟩ <;> rfl
theorem St.rowLn {X:List Nat} {h0 h:Hp} {F0 F:Frz} {L:List Ob} {α:Type} {t:Tr α} {v:Val} {xs:List α} {k:Nat} (s:St X h0 F0 F L h) (hk:L[k]? = some (.row t v xs)):Ln v xs.length:=To.row_ln (s.ok hk)
def elp (v:Val) (o:Nat):Val:=match v with
 | .sl (some (b,q)) _ _=>.p (some (b,q+o))
 | _=>.p none
abbrev pl (g o:Nat):Val:=.p (some (g,o))
def Elf (F:Frz) (v:Val) (s i:Nat) (cs:List Val):Prop:=cs.length=s∧0 < s ∧ ∃ b q n c,v = .sl (some (b,q)) n c∧i < n ∧ ∀ j u,cs[j]? = some u→F b (q+i*s+j)=some u
theorem Elf.mono {F G:Frz} {v:Val} {s i:Nat} {cs:List Val} (e:Elf F v s i cs) (l:F.le G):Elf G v s i cs:=by
 obtain ⟨h0,h1,b,q,n,c,h2,h3,h4⟩:=e;exact ⟨h0,h1,b,q,n,c,h2,h3,fun j u hj=>l _ _ _ (h4 j u hj)⟩
theorem SlF.el {α:Type} {t:Tr α} {F:Frz} {v:Val} {xs:List α} (s:SlF t F v xs) {i:Nat} {x:α} (hi:xs[i]? = some x):∃ cs,t.rel F cs x∧Elf F v t.size i cs:=by
 obtain ⟨cs,b,o,c,e,hr,hq⟩:=s.at_ hi;exact ⟨cs,hr,t.len hr,t.pos,b,o,_,_,e,(List.getElem?_eq_some_iff.1 hi).1,hq⟩
theorem Elf.rd {F:Frz} {v:Val} {s i:Nat} {cs:List Val} (e:Elf F v s i cs) {h:Hp} (a:zit F h):∃ b q n c,v = .sl (some (b,q)) n c∧i < n∧V.rd h b (q+i*s) s=some cs:=by
 obtain ⟨h0,h1,b,q,n,c,h2,h3,h4⟩:=e;exact ⟨b,q,n,c,h2,h3,zol h0 h1 fun j u hj=>a _ _ _ (h4 j u hj)⟩
def Ixd (v:Val) (i:Nat):Prop:=∃ b q n c,v = .sl (some (b,q)) n c∧i < n
theorem Elf.ixd {F:Frz} {v:Val} {s i:Nat} {cs:List Val} (e:Elf F v s i cs):Ixd v i:=by
 obtain ⟨h0,h1,b,q,n,c,h2,h3,h4⟩:=e;exact ⟨b,q,n,c,h2,h3⟩
theorem Ixd.form {v:Val} {i:Nat} (e:Ixd v i):∃ b q,∀ o,elp v o = .p (some (b,q+o)):=by
 obtain ⟨b,q,n,c,rfl,_⟩:=e;exact ⟨b,q,fun o=>rfl⟩
def zdb (P:Program) (s:TypeId) (f:Nat):Option Nat:=(fldT P s f).bind fun q=>(sz P q.type).bind fun n=>if 0 < n then some q.offset else none
theorem zdp {cs cs' post:List Val} {f:Nat} (h:cs.drop f=cs' ++ post) {q:Nat} {u:Val} (hq:cs'[q]? = some u):cs[f+q]? = some u:=by
 rw [← List.getElem?_drop,h,List.getElem?_append_left (List.getElem?_eq_some_iff.1 hq).1];exact hq
section
variable {P:Program} {G:Frz} {E:EL}
theorem zdh {T e:TypeId} {x:Operand} {v:Val} {n:Nat} (ht:P.underlying T=some (.slice e)) (hx:evLO E x=some v) (hn:Ln v n):Rd P G E (.call { callee:=.builtin .len,args:=#[x],argTypes:=#[T] }) (.i .i64 n):=by
 refine ⟨?_,fun h _=>?_⟩
 ·simp [zcs,lenK,ht]
 ·rcases hn with ⟨rfl,rfl⟩ | ⟨a,c,rfl,_⟩ <;> simp [opL,evLL,hx,bltV,lenB,ht]
theorem O_lenS {T:TypeId} {x:Operand} {s:List UInt8} (ht:P.underlying T=some .string) (hx:evLO E x=some (.s s)):Rd P G E (.call { callee:=.builtin .len,args:=#[x],argTypes:=#[T] }) (.i .i64 s.length):=by
 refine ⟨?_,fun h _=>?_⟩
 ·simp [zcs,lenK,ht]
 ·simp [opL,evLL,hx,bltV,lenB,ht]
theorem O_ix {t e:TypeId} {s i:Nat} {v:Val} {x y:Operand} {kk:IntKind} {n:Int} (ht:P.underlying t=some (.slice e)) (hz:sz P e=some s) (hx:evLO E x=some v) (hy:evLO E y=some (.i kk n)) (hE:Ixd v i) (hn:0≤n) (hni:n.toNat=i):Rd P G E (.indexAddr t x y) (elp v (i*s)):=by
 refine ⟨rfl,fun h _=>?_⟩;obtain ⟨b,q,m,c,rfl,hi⟩:=hE;have hn':n=(i:Int):=by omega
 subst hn';simp only [opL,hx,hy,Option.bind_some,idxA_ok ht hz hi];rfl
theorem zga {s f:Nat} {v:Val} {x:Operand} {o i:Nat} (off:Nat) (hf:zdb P s f=some off) (hx:evLO E x=some (elp v o)) (hE:Ixd v i):Rd P G E (.fieldAddr s x f) (elp v (o+off)):=by
 refine ⟨rfl,fun h _=>?_⟩;obtain ⟨b,q,hb⟩:=hE.form;rw [hb] at hx ⊢;unfold zdb at hf;rw [Option.bind_eq_some_iff] at hf;obtain ⟨fd,h1,hf⟩:=hf;rw [Option.bind_eq_some_iff] at hf;obtain ⟨n,h2,hf⟩:=hf
 split at hf
 ·rename_i hp;obtain rfl:=Option.some.inj hf;simp [opL,hx,h1,h2,hp,Nat.add_assoc]
 ·cases hf
theorem O_fldB {s f g o:Nat} {x:Operand} (off:Nat) (hf:zdb P s f=some off) (hx:evLO E x=some (pl g o)):Rd P G E (.fieldAddr s x f) (pl g (o+off)):=by
 refine ⟨rfl,fun h _=>?_⟩;unfold zdb at hf;rw [Option.bind_eq_some_iff] at hf;obtain ⟨fd,h1,hf⟩:=hf;rw [Option.bind_eq_some_iff] at hf;obtain ⟨n,h2,hf⟩:=hf
 split at hf
 ·rename_i hp;obtain rfl:=Option.some.inj hf;simp [opL,hx,h1,h2,hp]
 ·cases hf
theorem rd_one {h:Hp} {b o z f:Nat} {cs:List Val} {u:Val} (hr:rd h b o z=some cs) (hl:cs.length=z) (hu:cs[f]? = some u):rd h b (o+f) 1=some [u]:=by
 have hf:=(List.getElem?_eq_some_iff.1 hu).1;rw [rd_part hr (by omega)]
 congr 1
 apply List.ext_getElem?;intro j;rw [List.getElem?_take]
 split
 ·rename_i hj;have:j=0:=by omega
  subst this;rw [List.getElem?_drop];simpa using hu
 ·rw [List.getElem?_eq_none (by simp;omega)]
theorem zej {t:TypeId} {s i:Nat} {v u:Val} {cs:List Val} {x:Operand} {o:Nat} (f:Nat) (ht:aggT P t=some false) (hx:evLO E x=some (elp v o)) (hE:Elf G v s i cs) (ho:o=i*s+f) (hu:cs[f]? = some u):Rd P G E (.load t x) u:=by
 refine ⟨rfl,fun h ha=>?_⟩;have hl:=hE.1;obtain ⟨b,q,n,c,rfl,hi,hr⟩:=hE.rd ha;subst ho;simp only [opL,hx,Option.bind_some,elp];rw [ldV_one ht (by rw [← Nat.add_assoc];exact rd_one hr hl hu)];rfl
theorem zoj {t:TypeId} {s i:Nat} {v:Val} {cs:List Val} {x:Operand} {o:Nat} (f:Nat) (cs':List Val) (ht:aggT P t=some true) (hz:sz P t=some cs'.length) (hx:evLO E x=some (elp v o)) (hE:Elf G v s i cs) (ho:o=i*s+f) (hcs:(cs.drop f).take cs'.length=cs') (hf:f+cs'.length≤s):Rd P G E (.load t x) (.agg cs'):=by
 refine ⟨rfl,fun h ha=>?_⟩;obtain ⟨b,q,n,c,rfl,hi,hr⟩:=hE.rd ha;subst ho;simp only [opL,hx,Option.bind_some,elp];rw [zxh ht hz (by rw [← Nat.add_assoc,rd_part hr hf,hcs])];rfl
theorem O_nil {i:Nat} {v:Val} {x:Operand} {o:Nat} (hx:evLO E x=some (elp v o)) (hE:Ixd v i):Rd P G E (.nilCheck x) (elp v o):=by
 refine ⟨rfl,fun h _=>?_⟩;obtain ⟨b,q,hb⟩:=hE.form;rw [hb] at hx ⊢;simp [opL,hx]
theorem O_ixS {t:TypeId} {s:List UInt8} {c:UInt8} {x y:Operand} {kk:IntKind} {n:Int} (ht:P.underlying t=some .string) (hx:evLO E x=some (.s s)) (hy:evLO E y=some (.i kk n)) (hn:0≤n) (hc:s[n.toNat]? = some c):Rd P G E (.index t x y) (.i .u8 c.toNat):=by
 refine ⟨rfl,fun h _=>?_⟩;have hn':n=((n.toNat:Nat):Int):=by omega
 rw [hn'] at hy;simp only [opL,hx,hy,Option.bind_some,idxV,natI];rw [if_pos (by omega)];simp only [Option.bind_some,ht,Int.toNat_natCast,hc,Option.map_some]
theorem zgu {s t:TypeId} {a:TypeDesc} {k k0:IntKind} {n m:Int} {x:Operand} (h1:P.underlying s=some a) (h2:P.underlying t=some (.int k)) (hx:evLO E x=some (.i k0 n)) (hm:k.wrap n=m):Rd P G E (.convert s t x) (.i k m):=by
 refine ⟨?_,fun h _=>?_⟩
 ·simp only [zcs,zxu,h1,h2];cases a <;> rfl
 ·simp only [opL,hx,Option.bind_some,zkj,h1,h2,hm]
theorem zbc {op:BinOp} {t t2:TypeId} {x y:Operand} {a b v:Val} (hx:evLO E x=some a) (hy:evLO E y=some b) (hv:binV P op t a b=some v):Rd P G E (.binOp op t x y t2) v:=by
 refine ⟨rfl,fun h _=>?_⟩;simp [opL,hx,hy,hv]
theorem O_nilq {t t2 e:TypeId} {x y:Operand} {v:Val} {n:Nat} (ht:P.underlying t=some (.slice e)) (hx:evLO E x=some v) (hy:evLO E y=some (.sl none 0 (.k 0))) (hn:Ln v n):∃ b:Bool,(b=true→n=0)∧Rd P G E (.binOp .eql t x y t2) (.b b):=by
 rcases hn with ⟨rfl,rfl⟩ | ⟨a,c,rfl,ha⟩
 ·exact ⟨false,(fun q=>by cases q),zbc hx hy (by simp [binV,eqV,ht])⟩
 ·cases a with
  | none=>exact ⟨true,fun _=>ha rfl,zbc hx hy (by simp [binV,eqV,ht])⟩
  | some a=>exact ⟨false,(fun q=>by cases q),zbc hx hy (by simp [binV,eqV,ht])⟩
end
section
variable {P:Program} {K:Tb} {fn:Func} {k:Kont} {E:EL} {h:Hp} {A:List Oper} {dr:Bool} {G:Frz} {L:List Nat} {i d:Nat}
theorem W_r {v:Val} (hi:Nat.blt i A.length=true) (hw:zdc A E (opAt A i)=some true) (hd:(opAt A i).dst=some d) (ho:Rd P G E (opAt A i).op v) (x:W P K fn k A dr G L ((d,v)::E) h):W P K fn k A dr G (i::L) E h:=W_p hi hw hd ho.1 ho.2 x
theorem W_q {v:Val} (hb:ahead P A i L=true) (hi:Nat.blt i A.length=true) (hw:zdc A E (opAt A i)=some true) (hd:(opAt A i).dst=some d) (ho:Rd P (nowF h) E (opAt A i).op v) (x:W P K fn k A dr G L ((d,v)::E) h):W P K fn k A dr G (i::L) E h:=W_n hb hi hw hd ho.1 ho.2 x
theorem zso {t t2 e:TypeId} {x y:Operand} {v:Val} {n:Nat} (hi:Nat.blt i A.length=true) (hw:zdc A E (opAt A i)=some true) (hd:(opAt A i).dst=some d) (hop:(opAt A i).op = .binOp .eql t x y t2) (ht:P.underlying t=some (.slice e)) (hx:evLO E x=some v) (hy:evLO E y=some (.sl none 0 (.k 0))) (hn:Ln v n)
  (q:∀ b:Bool,(b=true→n=0)→W P K fn k A dr G L ((d,.b b)::E) h):W P K fn k A dr G (i::L) E h:=by
 obtain ⟨b,h1,h2⟩:=O_nilq (P:=P) (G:=G) (t2:=t2) ht hx hy hn;exact W_r hi hw hd (by rw [hop];exact h2) (q b h1)
theorem W_c {v:Val} (hi:Nat.blt i A.length=true) (hw:zdc A E (opAt A i)=some true) (hd:(opAt A i).dst=some d) (hk:decide (zcs P (opAt A i).op = .eff)=false) (ho:∀ h,opL P E h (opAt A i).op=some (v,h)) (x:W P K fn k A dr G L ((d,v)::E) h):W P K fn k A dr G (i::L) E h:=W_p hi hw hd hk (fun h _=>ho h) x
end
end Go.V
end
section
namespace Go.V
open Go.Wk
structure RowE {α:Type} (t:To α) (F:Frz) (h:Hp) (css:List (Cl t.size)) (bss:List (List Nat)) (xs:List α):Prop where
 csl:css.length=xs.length
 bsl:bss.length=xs.length
 rel:∀ (i:Nat) (d:Cl t.size) (x:α) (e:List Nat),css[i]? = some d→xs[i]? = some x→bss[i]? = some e→t.rel F h e d.1 x
section
variable {α:Type} {t:To α} {F:Frz} {h h1:Hp} {bs:List Nat} {v:Val} {xs ys:List α} {b:Nat} {c:List Val} {k:Option Nat} {css css2:List (Cl t.size)} {bss bss2:List (List Nat)}
theorem RowE.nil:RowE t F h [] [] []:=⟨rfl,rfl,fun i d x e q=>by simp at q⟩
theorem RowE.cat (a:RowE t F h css bss xs) (b:RowE t F h css2 bss2 ys):RowE t F h (css++css2) (bss++bss2) (xs++ys):=by
 refine ⟨by simp [a.csl,b.csl],by simp [a.bsl,b.bsl],fun i d x e q1 q2 q3=>?_⟩
 by_cases hi:i < css.length
 ·rw [List.getElem?_append_left hi] at q1;rw [List.getElem?_append_left (by rw [← a.csl];exact hi)] at q2;rw [List.getElem?_append_left (by rw [a.bsl,← a.csl];exact hi)] at q3;exact a.rel i d x e q1 q2 q3
 ·rw [List.getElem?_append_right (by omega)] at q1;rw [List.getElem?_append_right (by rw [← a.csl];omega),← a.csl] at q2;rw [List.getElem?_append_right (by rw [a.bsl,← a.csl];omega),a.bsl,← a.csl] at q3;exact b.rel _ d x e q1 q2 q3
theorem RowE.one {cs:List Val} {e:List Nat} {x:α} (r:t.rel F h e cs x):RowE t F h [⟨cs,t.len r⟩] [e] [x]:=by
 refine ⟨rfl,rfl,fun i d y e' q1 q2 q3=>?_⟩;cases i with
 | zero=>simp at q1 q2 q3;subst q1;subst q2;subst q3;exact r
 | succ i=>simp at q1
theorem RowE.frame (a:RowE t F h css bss xs) (hn:h.next≤h1.next) (hk:∀ g,g∈bss.flatten→h1.get g=h.get g):RowE t F h1 css bss xs :=
 ⟨a.csl,a.bsl,fun i d x e q1 q2 q3=>t.frame (a.rel i d x e q1 q2 q3) hn fun g hg=>hk g (List.mem_flatten.2 ⟨e,List.mem_of_getElem? q3,hg⟩)⟩
theorem RowE.lt (a:RowE t F h css bss xs):∀ g,g∈bss.flatten→g < h.next:=fun g hg=>by
 obtain ⟨e,he',hg⟩:=List.mem_flatten.1 hg;obtain ⟨i,hi,rfl⟩:=List.getElem_of_mem he';have hi':i < xs.length:=by rw [← a.bsl];exact hi
 exact t.lt (a.rel i _ _ _ (List.getElem?_eq_getElem (by rw [a.csl];exact hi')) (List.getElem?_eq_getElem hi') (List.getElem?_eq_getElem hi)) g hg
theorem RowE.all1 (a:RowE t F h css bss xs):(css.map Subtype.val).flatten.all Val.one=true:=by
 refine List.all_eq_true.2 fun u hu=>?_;obtain ⟨l,hl,hu⟩:=List.mem_flatten.1 hu;obtain ⟨d,hd,rfl⟩:=List.mem_map.1 hl;obtain ⟨i,hi,rfl⟩:=List.getElem_of_mem hd;have hi':i < xs.length:=by rw [← a.csl];exact hi
 exact List.all_eq_true.1 (t.one (a.rel i _ _ _ (List.getElem?_eq_getElem hi) (List.getElem?_eq_getElem hi') (List.getElem?_eq_getElem (by rw [a.bsl];exact hi')))) u hu
theorem RowE.flat {tr:Tr α} {css:List (Cl tr.size)} (r:RelL tr F css xs):RowE (To.ofTr tr) F h css (xs.map fun _=>[]) xs:=by
 refine ⟨r.1,by simp,fun i d x e q1 q2 q3=>⟨?_,r.2 i d x q1 q2⟩⟩;rw [List.getElem?_map] at q3;cases hx:xs[i]? with
 | none=>rw [hx] at q3;cases q3
 | some y=>rw [hx] at q3;exact (Option.some.inj q3).symm
theorem zgt {β γ:Type}:∀ xs:List β,(xs.map fun _=>([]:List γ)).flatten=[]
 | []=>rfl
 | _::r=>by rw [List.map_cons,List.flatten_cons,zgt r];rfl
theorem ztr (a:RowE t F h1 css bss xs) (hb:b < h1.next) (hg:h1.get b=some (.cells t.size c)) (hc:c.take (xs.length*t.size)=(css.map Subtype.val).flatten) (ho:k=none→xs.length*t.size≤c.length) (hk:∀ m,k=some m→c.length=m*t.size∧xs.length≤m) (hf:xs.length≤2 ^ 30) (h1':c.all Val.one=true) (hnd:(b::bss.flatten).Nodup) :
  RowO t F h1 (b::bss.flatten) (.sl (some (b,0)) xs.length (.of t.size k)) xs b c k css bss:=⟨rfl,hg,hb,a.csl,a.bsl,a.rel,hc,ho,hk,hf,h1',rfl,hnd⟩
theorem zqd (a:RowE t F h css bss xs) (hn:h1.next=h.next) (hk:∀ g,g∈bss.flatten→h1.get g=h.get g) (hnd:bss.flatten.Nodup) (hf:xs.length≤2 ^ 30) {m:Option Nat} {post:List Val} (hp:m=none→post=[]) (hm:∀ q,m=some q→xs.length*t.size+post.length=q*t.size∧xs.length≤q) (h1':post.all Val.one=true) :
  RowO t F (h1.new (.cells t.size ((css.map Subtype.val).flatten++post))) (h.next::bss.flatten) (.sl (some (h.next,0)) xs.length (.of t.size m)) xs h.next ((css.map Subtype.val).flatten++post) m css bss:=by
 have hfl:(css.map Subtype.val).flatten.length=xs.length*t.size:=by rw [zgn,a.csl]
 have hlt:=a.lt;refine ztr (a.frame (by show h.next≤h1.next+1;omega) fun g hg=>?_) (by show h.next < h1.next+1;omega) (by rw [Hp.get_new,hn,if_pos rfl]) (by rw [← hfl,List.take_left]) (fun q=>by rw [hp q,List.append_nil];exact Nat.le_of_eq hfl.symm) (fun q hq=>⟨by rw [List.length_append,hfl];exact (hm q hq).1,(hm q hq).2⟩) hf (by rw [List.all_append,a.all1,h1'];rfl) (List.nodup_cons.2 ⟨fun q=>by have:=hlt _ q;omega,hnd⟩);rw [Hp.get_new,hn,if_neg (by have:=hlt g hg;omega)];exact hk g hg
theorem zvk {B:Blk} (hn:h1.next=h.next) (hw:∀ g,h.next≤g→h1.get g=none):∀ g,(h1.new B).next≤g→(h1.new B).get g=none:=fun g hg=>by
 have hg':h1.next+1≤g:=hg;rw [Hp.get_new,if_neg (by omega)];exact hw g (by omega)
theorem To.row_cat (hpos:0 < t.size) (r:(To.row t).rel F h bs [v] xs) (r2:RowE t F h css2 bss2 ys) (hnd2:bss2.flatten.Nodup) (hd:∀ g,g∈bss2.flatten→g ∉ bs) (hw:∀ g,h.next≤g→h.get g=none) (hfew:xs.length+ys.length≤2 ^ 30) :
  ∃ v' h' bs',appV h t.size ys.length (css2.map Subtype.val).flatten v=some (v',h')∧(To.row t).rel F h' bs' [v'] (xs++ys)∧h.next≤h'.next∧(∀ g,h'.next≤g→h'.get g=none)∧(∀ g,g < h.next→g ∉ bs→h'.get g=h.get g) ∧ ∀ g,g∈bs' → g∈bs∨g∈bss2.flatten∨h.next≤g:=by
 obtain ⟨v0,hv0,r⟩:=r;obtain rfl:=List.head_eq_of_cons_eq hv0;have h2l:(css2.map Subtype.val).flatten.length=ys.length*t.size:=by rw [zgn,r2.csl]
 rcases r with ⟨rfl,rfl,rfl⟩ | ⟨b,c,k,css,bss,r⟩
 ·by_cases hy:ys.length=0
  ·have:ys=[]:=List.eq_nil_of_length_eq_zero hy;subst this;exact ⟨.sl none 0 (.k 0),h,[],by simp [appV],⟨_,rfl,.inl ⟨rfl,rfl,rfl⟩⟩,Nat.le_refl _,hw,fun g _ _=>rfl,fun g hg=>by simp at hg⟩
  ·have R:=zqd (h1:=h) (m:=none) (post:=[]) r2 rfl (fun g q=>rfl) hnd2 (by omega) (fun _=>rfl) (fun q e=>by cases e) rfl;rw [List.append_nil] at R;refine ⟨_,_,_,?_,⟨_,rfl,.inr ⟨_,_,_,_,_,R⟩⟩,Nat.le_succ _,zvk rfl hw,fun g hg _=>?_,fun g hg=>?_⟩
   ·simp only [Cap.of_none,Cap.of_some,appV];rw [if_pos ⟨trivial,trivial⟩,if_neg hy];unfold rowV;rw [if_pos r2.all1];rfl
   ·rw [Hp.get_new,if_neg (by omega)]
   ·rcases List.mem_cons.1 hg with rfl | hg
    ·exact .inr (.inr (Nat.le_refl _))
    ·exact .inr (.inl hg)
 ·obtain ⟨hform,hblk,hblt,hcsl,hbsl,hrel,hcells,hopn,hcap,hfw,hcone,hfoot,hnod⟩:=r;have hr:RowE t F h css bss xs:=⟨hcsl,hbsl,hrel⟩
  subst hform;subst hfoot;obtain ⟨hb1,hb2⟩:=List.nodup_cons.1 hnod;have hfl:=zgn css;have hclen:xs.length*t.size≤c.length:=by
   have:(c.take (xs.length*t.size)).length=xs.length*t.size:=by rw [hcells,hfl,hcsl]
   rw [List.length_take] at this;omega
  have hR:=hr.cat r2;have hnd:(bss++bss2).flatten.Nodup:=by
   rw [List.flatten_append];exact List.nodup_append.2 ⟨hb2,hnd2,fun x hx y hy e=>hd y hy (e ▸ List.mem_cons_of_mem _ hx)⟩
  have hbe:∀ g,g∈(bss++bss2).flatten→g≠b:=fun g hg e=>by
   subst e;rw [List.flatten_append] at hg;rcases List.mem_append.1 hg with q | q
   ·exact hb1 q
   ·exact hd _ q (by simp)
  have hout:∀ g,g∈(bss++bss2).flatten→g∈b::bss.flatten∨g∈bss2.flatten:=fun g hg=>by
   rw [List.flatten_append] at hg;rcases List.mem_append.1 hg with q | q
   ·exact .inl (List.mem_cons_of_mem _ q)
   ·exact .inr q
  have hxy:(xs++ys).length*t.size=xs.length*t.size+ys.length*t.size:=by rw [List.length_append,Nat.add_mul]
  have hfirst:∀ cap,zgd h t.size xs.length (.sl (some (b,0)) xs.length cap)=some (css.map Subtype.val).flatten:=fun cap=>by
   simp only [zgd]
   split
   ·rename_i h0;have:css=[]:=List.eq_nil_of_length_eq_zero (by omega);rw [this];rfl
   ·unfold rd;rw [hblk];simp only [Nat.zero_add,List.drop_zero];rw [if_pos hclen,hcells]
  have inpl:∀ (k:Option Nat),0+(xs.length+ys.length)*t.size≤c.length→(k=none→(xs++ys).length*t.size≤c.length)→(∀ m,k=some m→c.length=m*t.size∧(xs++ys).length≤m) →
    ∃ h',wrH h b (0+xs.length*t.size) (css2.map Subtype.val).flatten=some h' ∧ (To.row t).rel F h' (b::(bss++bss2).flatten) [.sl (some (b,0)) (xs.length+ys.length) (.of t.size k)] (xs++ys)∧h'.next=h.next ∧ ∀ g,g≠b→h'.get g=h.get g:=fun k hroom ho hm=>by
   have hle:0+xs.length*t.size+(css2.map Subtype.val).flatten.length≤c.length:=by rw [h2l];rw [Nat.add_mul] at hroom;omega
   refine ⟨h.set b (.cells t.size (putL c (0+xs.length*t.size) (css2.map Subtype.val).flatten)),?_,⟨_,rfl,.inr ⟨b,putL c (0+xs.length*t.size) (css2.map Subtype.val).flatten,k,css++css2,bss++bss2,?_⟩⟩,rfl,fun g hg=>by rw [Hp.get_set,if_neg hg]⟩
   ·unfold wrH;rw [hblk];simp only;rw [if_pos ⟨hle,r2.all1⟩]
   ·have:=ztr (b:=b) (k:=k) (c:=putL c (0+xs.length*t.size) (css2.map Subtype.val).flatten) (hR.frame (h1:=h.set b (.cells t.size (putL c (0+xs.length*t.size) (css2.map Subtype.val).flatten))) (Nat.le_refl _) fun g hg=>by rw [Hp.get_set,if_neg (hbe g hg)]) hblt (by rw [Hp.get_set,if_pos rfl]) ?_ (fun q=>by rw [zek hle];exact ho q) (fun m q=>by rw [zek hle];exact hm m q) (by rw [List.length_append];exact hfew) ?_ (List.nodup_cons.2 ⟨fun q=>hbe b q rfl,hnd⟩)
    ·rw [List.length_append] at this;exact this
    ·rw [List.map_append,List.flatten_append,hxy];unfold putL;have hL:((css.map Subtype.val).flatten++(css2.map Subtype.val).flatten).length=xs.length*t.size+ys.length*t.size:=by rw [List.length_append,hfl,h2l,hcsl]
     rw [Nat.zero_add,hcells,List.take_append_of_le_length (by rw [hL];exact Nat.le_refl _),List.take_of_length_le (by rw [hL];exact Nat.le_refl _)]
    ·unfold putL;rw [List.all_append,List.all_append,r2.all1];have q1:(c.take (0+xs.length*t.size)).all Val.one=true:=List.all_eq_true.2 fun x hx=>List.all_eq_true.1 hcone x (List.mem_of_mem_take hx);have q2:(c.drop (0+xs.length*t.size+(css2.map Subtype.val).flatten.length)).all Val.one=true:=List.all_eq_true.2 fun x hx=>List.all_eq_true.1 hcone x (List.mem_of_mem_drop hx);rw [q1,q2];rfl
  have fin:∀ (h1:Hp),h1.next=h.next→(∀ g,g≠b→h1.get g=h.get g)→(∀ g,h.next≤g→h1.get g=none) → ∀ cap,appV h t.size ys.length (css2.map Subtype.val).flatten (.sl (some (b,0)) xs.length (.of t.size cap))=rowV h1 t.size ((css.map Subtype.val).flatten++(css2.map Subtype.val).flatten) (xs.length+ys.length) none →
    ∃ v' h' bs',appV h t.size ys.length (css2.map Subtype.val).flatten (.sl (some (b,0)) xs.length (.of t.size cap))=some (v',h')∧(To.row t).rel F h' bs' [v'] (xs++ys)∧h.next≤h'.next∧(∀ g,h'.next≤g→h'.get g=none)∧(∀ g,g < h.next→g ∉ b::bss.flatten→h'.get g=h.get g) ∧ ∀ g,g∈bs' → g∈b::bss.flatten∨g∈bss2.flatten∨h.next≤g:=fun h1 hn1 hk1 hw1 cap he=>by
   have R:=zqd (h1:=h1) (m:=none) (post:=[]) hR hn1 (fun g q=>hk1 g (hbe g q)) hnd (by rw [List.length_append];exact hfew) (fun _=>rfl) (fun q e=>by cases e) rfl;rw [List.append_nil,List.map_append,List.flatten_append] at R;have hall:=hR.all1;rw [List.map_append,List.flatten_append] at hall;refine ⟨_,_,_,?_,⟨_,rfl,.inr ⟨_,_,_,_,_,R⟩⟩,by show h.next≤h1.next+1;omega,zvk hn1 hw1,fun g hg hno=>?_,fun g hg=>?_⟩
   ·rw [he];unfold rowV;rw [hall,if_pos rfl,hn1,List.length_append]
   ·rw [Hp.get_new,hn1,if_neg (by omega)];exact hk1 g fun e=>hno (by rw [e];simp)
   ·rcases List.mem_cons.1 hg with rfl | hg
    ·exact .inr (.inr (Nat.le_refl _))
    ·exact (hout g hg).imp id .inl
  cases k with
  | none =>
   have hl:=hopn rfl
   by_cases hy:0+(xs.length+ys.length)*t.size≤c.length
   ·obtain ⟨h',q1,q2,q3,q4⟩:=inpl none hy (fun _=>by rw [List.length_append];omega) (fun m e=>by cases e);refine ⟨_,h',_,?_,q2,by rw [q3];exact Nat.le_refl _,fun g hg=>?_,fun g _ hno=>q4 g fun e=>hno (by rw [e];simp),fun g hg=>?_⟩
    ·simp only [Cap.of_none,Cap.of_some,appV,hblk];rw [if_pos ⟨trivial,hfw,by omega⟩,if_pos hy,q1];rfl
    ·rw [q3] at hg;rw [q4 g (by omega)];exact hw g hg
    ·rcases List.mem_cons.1 hg with rfl | hg
     ·exact .inl (by simp)
     ·exact (hout g hg).imp id .inl
   ·refine fin (h.set b .dead) rfl (fun g hg=>by rw [Hp.get_set,if_neg hg]) (fun g hg=>by rw [Hp.get_set,if_neg (by omega)];exact hw g hg) none ?_;simp only [Cap.of_none,Cap.of_some,appV,hblk];rw [if_pos ⟨trivial,hfw,by omega⟩,if_neg hy,hfirst];rfl
  | some m =>
   obtain ⟨hm1,hm2⟩:=hcap m rfl
   by_cases hroom:xs.length+ys.length≤m
   ·have hrm:=Nat.mul_le_mul_right t.size hroom;obtain ⟨h',q1,q2,q3,q4⟩:=inpl (some m) (by rw [hm1];omega) (fun q=>by cases q) (fun m' e=>by obtain rfl:=Option.some.inj e;exact ⟨hm1,by rw [List.length_append];exact hroom⟩);refine ⟨_,h',_,?_,q2,by rw [q3];exact Nat.le_refl _,fun g hg=>?_,fun g _ hno=>q4 g fun e=>hno (by rw [e];simp),fun g hg=>?_⟩
    ·simp only [Cap.of_none,Cap.of_some,appV];rw [if_pos hroom,q1];rfl
    ·rw [q3] at hg;rw [q4 g (by omega)];exact hw g hg
    ·rcases List.mem_cons.1 hg with rfl | hg
     ·exact .inl (by simp)
     ·exact (hout g hg).imp id .inl
   ·refine fin h rfl (fun g hg=>rfl) hw (some m) ?_;simp only [Cap.of_none,Cap.of_some,appV];rw [if_neg hroom,if_pos ⟨hm2,hfw⟩,hfirst];rfl
end
end Go.V
end
section
namespace Go.V
open Go.Wk
def zkq (P:Program) (e:TypeId) (s:Nat):Bool:=match sz P e,P.info? e,zge P e with
 | some z,some inf,some zero=>Nat.beq z s&&Nat.beq zero.cells.length z&&Nat.blt 0 z&&Nat.blt 0 inf.bytes&&Nat.ble inf.bytes 4096
 | _,_,_=>false
theorem zkb {P:Program} {e:TypeId} {s:Nat} (h:zkq P e s=true):∃ inf zero,sz P e=some s∧P.info? e=some inf∧zge P e=some zero∧zero.cells.length=s∧0 < s∧0 < inf.bytes∧inf.bytes≤2 ^ 12:=by
 unfold zkq at h
 split at h
 ·rename_i z inf zero h1 h2 h3;simp only [Bool.and_eq_true] at h;obtain ⟨⟨⟨⟨a1,a2⟩,a3⟩,a4⟩,a5⟩:=h;have b1:=Nat.eq_of_beq_eq_true a1;have b2:=Nat.eq_of_beq_eq_true a2;have b5:=Nat.le_of_ble_eq_true a5;subst b1;exact ⟨inf,zero,h1,h2,h3,b2,by simpa using a3,by simpa using a4,by omega⟩
 ·cases h
def Src {α:Type} (t:Tr α) (F:Frz) (h:Hp) (x:Val) (ys:List α):Prop:=∃ css:List (Cl t.size),RelL t F css ys∧SlC (nowF h) x t.size css
theorem SlF.src {α:Type} {t:Tr α} {F:Frz} {h:Hp} {x:Val} {ys:List α} (s:SlF t F x ys) (a:zit F h):Src t F h x ys:=by
 obtain ⟨css,h1,h2⟩:=s;exact ⟨css,h1,h2.mono a⟩
theorem row_src {α:Type} {t:Tr α} {F:Frz} {h:Hp} {bs:List Nat} {v:Val} {xs:List α} (r:(To.row (To.ofTr t)).rel F h bs [v] xs):Src t F h v xs:=by
 obtain ⟨v0,hv0,r⟩:=r;obtain rfl:=List.head_eq_of_cons_eq hv0;rcases r with ⟨rfl,rfl,_⟩ | ⟨b,c,k,css,bss,r⟩
 ·exact ⟨[],⟨rfl,fun i d x h _=>by simp at h⟩,.inr ⟨none,some 0,rfl,by simp,fun k hk=>by simp,fun _=>⟨rfl,rfl⟩,fun b o h=>by cases h⟩⟩
 ·have hfw:xs.length≤maxLen:=Nat.le_trans r.few (by unfold maxLen;decide);have key:∀ css:List (Cl t.size),css.length=xs.length→(∀ (i:Nat) (d:Cl t.size) (x:α),css[i]? = some d→xs[i]? = some x→t.rel F d.1 x)→c.take (xs.length*t.size)=(css.map Subtype.val).flatten→Src t F h v xs:=fun css hcl hrel hc=>by
   refine ⟨css,⟨hcl,hrel⟩,.inr ⟨some (b,0),k,by rw [r.form,hcl];rfl,by rw [hcl];exact hfw,fun m hm=>by rw [hcl];exact (r.cap m hm).2,fun q=>(by cases q),fun b' o' had i d j u h1 h2=>?_⟩⟩;simp only [Option.some.injEq,Prod.mk.injEq] at had;obtain ⟨rfl,rfl⟩:=had;show zfj h b _=some u;unfold zfj;rw [r.blk,Nat.zero_add];have hil:=(List.getElem?_eq_some_iff.1 h1).1;have hjl:j < t.size:=by have:=(List.getElem?_eq_some_iff.1 h2).1;rw [d.2] at this;exact this
   have hlt:i*t.size+j < xs.length*t.size:=by
    have:=Nat.mul_le_mul_right t.size (show i+1≤xs.length by rw [← hcl];exact hil);rw [Nat.add_mul] at this;omega
   have:=zom h1 h2;show c[i*t.size+j]? = some u;rw [← hc,List.getElem?_take,if_pos hlt] at this;exact this
  refine key css r.csl (fun i d x h1 h2=>?_) r.cells;have hi:=(List.getElem?_eq_some_iff.1 h2).1;exact (r.rel i d x _ h1 h2 (List.getElem?_eq_getElem (by rw [r.bsl];exact hi))).2
theorem SlC.first {h:Hp} {x:Val} {s:Nat} {css:List (Cl s)} (hs:0 < s) (c:SlC (nowF h) x s css):lenV x=some css.length∧zgd h s css.length x=some (css.map Subtype.val).flatten:=by
 rcases c with ⟨rfl,rfl⟩ | ⟨a,k,rfl,e2,e3,e4,e5⟩
 ·exact ⟨rfl,rfl⟩
 ·refine ⟨rfl,?_⟩;cases a with
  | none=>rw [(e4 rfl).1];rfl
  | some a =>
   obtain ⟨b,o⟩:=a;simp only [zgd]
   split
   ·rename_i h0;rw [List.eq_nil_of_length_eq_zero h0];rfl
   ·rename_i h0;refine zol (zgn css) (Nat.mul_pos (Nat.pos_of_ne_zero h0) hs) fun p u hp=>?_;rw [zxn hs,Option.bind_eq_some_iff] at hp;obtain ⟨d,q1,q2⟩:=hp;have:=e5 b o rfl _ d _ u q1 q2;rw [Nat.mul_comm,Nat.div_add_mod] at this;exact this
def RelV {α:Type} (t:Tr α) (F:Frz):List (List Val)→List α→Prop
 | [],[]=>True
 | c::cs,x::xs=>t.rel F c x∧RelV t F cs xs
 | _,_=>False
theorem RelV.mk {α:Type} {t:Tr α} {F:Frz}:∀ {cs:List (List Val)} {xs:List α},RelV t F cs xs → ∃ css:List (Cl t.size),css.map Subtype.val=cs∧RelL t F css xs
 | [],[],_=>⟨[],rfl,rfl,fun i d x h _=>by simp at h⟩
 | c::cs,x::xs,⟨h1,h2⟩=>by
  obtain ⟨css,h3,h4,h5⟩:=RelV.mk h2;refine ⟨⟨c,t.len h1⟩::css,by simp [h3],by simp [h4],fun i d y hi hy=>?_⟩;cases i with
  | zero=>simp at hi hy;subst hi;subst hy;exact h1
  | succ i=>exact h5 i d y (by simpa using hi) (by simpa using hy)
 | [],_::_,h=>h.elim
 | _::_,[],h=>h.elim
def numb:Nat→List Val→List (Nat × Val)
 | _,[]=>[]
 | k,v::r=>(k,v)::numb (k+1) r
theorem zxp {z:Nat} {zero:List Val} (hz:zero.length=z):∀ (vs:List Val) (k:Nat) (pre:List Val),(∀ v,v∈vs→v.cells.length=z)→pre.length=k*z→zkr (fun i=>some (i*z,z)) (pre++zeu zero vs.length) (numb k vs)=some (pre++(vs.map Val.cells).flatten)
 | [],k,pre,_,_=>by simp [zkr,numb,zeu]
 | v::r,k,pre,hv,hp=>by
  have h1:=hv v (by simp);have hzl:zeu zero (v::r).length=zero++zeu zero r.length:=by
   simp [zeu,List.replicate_succ]
  have ih:=zxp hz r (k+1) (pre++v.cells) (fun w hw=>hv w (List.mem_cons_of_mem _ hw)) (by rw [List.length_append,hp,h1,Nat.add_mul];omega);simp only [numb,zkr,Option.bind_some];rw [if_pos ⟨h1,by rw [hzl];simp only [List.length_append];omega⟩];have:putL (pre++zeu zero (v::r).length) (k*z) v.cells=pre++v.cells++zeu zero r.length:=by
   unfold putL;rw [hzl,← hp,List.take_left,← List.drop_drop,List.drop_left,h1,← hz,List.drop_left]
  rw [this,ih];simp
section
variable {P:Program} {E:EL} {X:List Nat} {h0 h:Hp} {F0 F:Frz} {L:List Ob}
theorem St.rowSrc {α:Type} {t:Tr α} {v:Val} {xs:List α} {k:Nat} (s:St X h0 F0 F L h) (hk:L[k]? = some (.row t v xs)):Src t F h v xs:=row_src (s.ok hk)
theorem Src.el {α:Type} {t:Tr α} {F:Frz} {h:Hp} {x:Val} {ys:List α} (s:Src t F h x ys) {i:Nat} {y:α} (hi:ys[i]? = some y):∃ cs,t.rel F cs y∧Elf (nowF h) x t.size i cs:=by
 obtain ⟨css,h1,h2⟩:=s;have hl:=(List.getElem?_eq_some_iff.1 hi).1;obtain ⟨d,hd⟩:∃ d,css[i]? = some d:=⟨_,List.getElem?_eq_getElem (by rw [h1.1];exact hl)⟩
 rcases h2 with ⟨rfl,rfl⟩ | ⟨a,c,rfl,e2,e3,e4,e5⟩
 ·simp at hd
 ·cases a with
  | none=>rw [(e4 rfl).1] at hd;simp at hd
  | some a=>exact ⟨_,h1.2 _ _ _ hd hi,d.2,t.pos,a.1,a.2,_,_,rfl,by rw [h1.1];exact hl,fun j u hj=>by rw [Nat.add_assoc];exact e5 _ _ rfl i _ j u hd hj⟩
theorem St.rowAt {α:Type} {t:Tr α} {v:Val} {xs:List α} {k i:Nat} {x:α} (s:St X h0 F0 F L h) (hk:L[k]? = some (.row t v xs)) (hi:xs[i]? = some x):∃ cs,t.rel F cs x∧Elf (nowF h) v t.size i cs:=(s.rowSrc hk).el hi
theorem zep {α:Type} {t:Tr α} {ts tx e:TypeId} {sx xx:Operand} {v x:Val} {xs ys zs:List α} (k:Nat) (ht:P.underlying ts=some (.slice e)) (hrow:zkq P e t.size=true) (hzk:zhs P tx=some false) (hs:evLO E sx=some v) (hxx:evLO E xx=some x) (hS:St X h0 F0 F L h) (hk:L[k]? = some (.row t v xs))
  (hx:Src t F h x ys) (hz:app xs ys=some zs):Ef P E h (.call { callee:=.builtin .append,args:=#[sx,xx],argTypes:=#[ts,tx] }) (fun v' h'=>St X h0 F0 F (L.set k (.row t v' zs)) h'):=by
 obtain ⟨hfew,rfl⟩:=zye hz;obtain ⟨inf,zero,r1,r2,r3,r4,r5,r6,r7⟩:=zkb hrow;obtain ⟨css,c1,c2⟩:=hx;obtain ⟨c3,c4⟩:=c2.first r5
 have hE:RowE (To.ofTr t) F h css (ys.map fun _=>[]) ys:=.flat c1;obtain ⟨v',h',bs',q1,q2,q3,q4,q5,q6⟩:=To.row_cat r5 (hS.ok hk) hE (by rw [zgt];exact List.nodup_nil) (fun g hg=>by rw [zgt] at hg;cases hg) hS.wf hfew;refine ⟨rfl,v',h',?_,hS.turn hk (Ob.mkRow q2) q3 q4 q5 fun b hb=>?_⟩
 ·simp only [opL,evLL,List.mapM_cons,List.mapM_nil,hs,hxx,bltV,zpo,ht,r1,r2,r3,hzk,moreV,c3,c4,Option.bind_some,Option.map_some,cond_false,pure,Option.bind_eq_bind];rw [if_pos ⟨r4,r5,by rw [c1.1];omega,r6,r7,zgn css,hE.all1⟩,c1.1];exact q1
 ·have:=zrk q2;have hb':b∈v'.own:=hb;rw [← this] at hb';rcases q6 b hb' with q | q | q
  ·exact .inl q
  ·rw [zgt] at q;cases q
  ·exact .inr q
theorem E_bs {α:Type} {t:Tr α} {ts e:TypeId} {n:Nat} {ps:Array (Nat × Operand)} {vs:List Val} {xs:List α} (ht:P.underlying ts=some (.slice e)) (hrow:zkq P e t.size=true) (hp:evLP E ps.toList=some (numb 0 vs)) (hr:RelV t F (vs.map Val.cells) xs) (hn:n=vs.length) (hle:Nat.ble (n*t.size) 16777216=true) (hS:St X h0 F0 F L h) :
  Ef P E h (.buildSlice ts n ps) (fun v' h'=>St X h0 F0 F (.row t v' xs::L) h'):=by
 obtain ⟨inf,zero,r1,r2,r3,r4,r5,r6,r7⟩:=zkb hrow;obtain ⟨css,c1,c2⟩:=hr.mk;have hE:RowE (To.ofTr t) F h css (xs.map fun _=>[]) xs:=.flat c2;have hvl:vs.length=xs.length:=by
  have q:(css.map Subtype.val).length=css.length:=List.length_map _;rw [← c2.1,← q,c1,List.length_map]
 have hall:(css.map Subtype.val).flatten.all Val.one=true:=hE.all1;have hnle:=Nat.le_of_ble_eq_true hle;have hfill:=zxp (z:=t.size) r4 vs 0 [] (fun w hw=>by
  have:w.cells∈css.map Subtype.val:=by rw [c1];exact List.mem_map_of_mem hw
  obtain ⟨d,_,q⟩:=List.mem_map.1 this;rw [← q];exact d.2) (by simp)
 simp only [List.nil_append] at hfill;have R:=zqd (h1:=h) (m:=some xs.length) (post:=[]) hE rfl (fun g q=>rfl) (by rw [zgt];exact List.nodup_nil) (by
  have:=Nat.le_mul_of_pos_right n r5;rw [← hvl,← hn];omega) (fun _=>rfl) (fun q e=>by obtain rfl:=Option.some.inj e;exact ⟨by simp,Nat.le_refl _⟩) rfl
 rw [List.append_nil,zgt] at R;refine ⟨rfl,.sl (some (h.next,0)) xs.length (.k xs.length),_,?_,hS.fresh ⟨Nat.le_succ _,zvk rfl hS.wf,fun b hb=>?_⟩ (Ob.mkRow ⟨_,rfl,.inr ⟨_,_,_,_,_,R⟩⟩) (fun b hb=>?_)⟩
 ·simp only [opL,hp,Option.bind_some,zhg,ht,r1,r3];rw [if_pos ⟨by omega,r4,r5⟩,hn,hfill,← c1];simp only [Option.bind_some,rowV];rw [if_pos hall,hvl];rfl
 ·rw [Hp.get_new,if_neg (by omega)]
 ·have:b=h.next:=by simpa [Ob.row,Val.own] using hb
  omega
theorem box_mk {g:Nat} {cs:List Val} {h1:Hp} (hg:h1.get g=some (.cells cs.length cs)) (hl:g < h1.next) (h1':cs.all Val.one=true):(Ob.box g cs).ok F h1:=⟨g,rfl,rfl,hg,hl,h1'⟩
theorem alloc_ok {cs:List Val} (h1:cs.all Val.one=true) (hS:St X h0 F0 F L h):∃ h',zla h cs.length cs=some (pl h.next 0,h')∧St X h0 F0 F (.box h.next cs::L) h':=by
 refine ⟨_,by unfold zla;rw [if_pos h1],hS.fresh ⟨Nat.le_succ _,zvk rfl hS.wf,fun b hb=>by rw [Hp.get_new,if_neg (by omega)]⟩ (box_mk (by rw [Hp.get_new,if_pos rfl]) (Nat.lt_succ_self _) h1) fun b hb=>?_⟩;have:b=h.next:=by simpa [Ob.box] using hb
 omega
theorem zis {t:TypeId} {cs:List Val} (hz:(zge P t).map Val.cells=some cs) (h1:cs.all Val.one=true) (hS:St X h0 F0 F L h):Ef P E h (.alloc t) (fun v' h'=>∃ g,v' = pl g 0∧St X h0 F0 F (.box g cs::L) h'):=by
 obtain ⟨z,hzz,rfl⟩:=Option.map_eq_some_iff.1 hz;obtain ⟨h',q1,q2⟩:=alloc_ok h1 hS;exact ⟨rfl,_,h',by simp only [opL];rw [hzz];exact q1,_,rfl,q2⟩
theorem E_bx {t:TypeId} {x:Operand} {v:Val} {cs:List Val} (hx:evLO E x=some v) (hc:v.cells=cs) (h1:cs.all Val.one=true) (hS:St X h0 F0 F L h):Ef P E h (.box t x) (fun v' h'=>∃ g,v' = pl g 0∧St X h0 F0 F (.box g cs::L) h'):=by
 subst hc;obtain ⟨h',q1,q2⟩:=alloc_ok h1 hS;exact ⟨rfl,_,h',by simp only [opL,hx,Option.bind_some];exact q1,_,rfl,q2⟩
theorem St.boxGet {g:Nat} {cs:List Val} (k:Nat) (s:St X h0 F0 F L h) (hk:L[k]? = some (.box g cs)):h.get g=some (.cells cs.length cs)∧g < h.next∧cs.all Val.one=true:=by
 obtain ⟨g',q1,q2,q3,q4,q5⟩:=s.ok hk;simp only [Ob.box,List.cons.injEq,and_true] at q1;subst q1;exact ⟨q3,q4,q5⟩
theorem zya {g:Nat} {cs:List Val} {k:Nat} (s:St X h0 F0 F L h) (hk:L[k]? = some (.box g cs)) {o:Nat} {u:Val} (hu:cs[o]? = some u):nowF h g o=some u:=by
 have:=(s.boxGet k hk).1;show zfj h g o=some u;unfold zfj;rw [this];exact hu
theorem zdm {t:TypeId} {x:Operand} {g o:Nat} {cs:List Val} {u:Val} (k:Nat) (ht:aggT P t=some false) (hx:evLO E x=some (pl g o)) (hS:St X h0 F0 F L h) (hk:L[k]? = some (.box g cs)) (hu:cs[o]? = some u):Rd P (nowF h) E (.load t x) u:=by
 refine ⟨rfl,fun h2 ha=>?_⟩;have:=ha _ _ _ (zya hS hk hu);simp only [opL,hx,Option.bind_some];rw [ldV_one ht (zol (c:=[u]) rfl (by decide) fun j w hj=>by
  cases j with
  | zero=>simp at hj;subst hj;exact this
  | succ j=>simp at hj)]
 rfl
theorem zdx {t:TypeId} {x:Operand} {g o:Nat} {cs:List Val} (k:Nat) (cs':List Val) (ht:aggT P t=some true) (hz:sz P t=some cs'.length) (hp:0 < cs'.length) (hx:evLO E x=some (pl g o)) (hS:St X h0 F0 F L h) (hk:L[k]? = some (.box g cs)) (hcs:∀ (q:Nat) (u:Val),cs'[q]? = some u→cs[o+q]? = some u):Rd P (nowF h) E (.load t x) (.agg cs'):=by
 refine ⟨rfl,fun h2 ha=>?_⟩;simp only [opL,hx,Option.bind_some];rw [zxh ht hz (zol (c:=cs') rfl hp fun j w hj=>ha _ _ _ (zya hS hk (hcs j w hj)))];rfl
theorem zpr {t:TypeId} {x y:Operand} {g o:Nat} {cs c:List Val} {v:Val} (k:Nat) (cs':List Val) (hx:evLO E x=some (pl g o)) (hy:evLO E y=some v) (hS:St X h0 F0 F L h) (hk:L[k]? = some (.box g cs)) (hc:v.cells=c) (hz:sz P t=some c.length) (h1:c.all Val.one=true) (hfit:Nat.ble (o+c.length) cs.length=true) (hcs:putL cs o c=cs') :
  Ef P E h (.store t x y) (fun _ h'=>St X h0 F0 F (L.set k (.box g cs')) h'):=by
 obtain ⟨q1,q2,q3⟩:=hS.boxGet k hk;have hf:=Nat.le_of_ble_eq_true hfit;subst hcs;subst hc;have hall:(putL cs o v.cells).all Val.one=true:=by
  unfold putL;rw [List.all_append,List.all_append,h1];have p1:(cs.take o).all Val.one=true:=List.all_eq_true.2 fun x hx=>List.all_eq_true.1 q3 x (List.mem_of_mem_take hx);have p2:(cs.drop (o+v.cells.length)).all Val.one=true:=List.all_eq_true.2 fun x hx=>List.all_eq_true.1 q3 x (List.mem_of_mem_drop hx);rw [p1,p2];rfl
 have hlen:=zek (c:=cs) (o:=o) (vs:=v.cells) hf;refine ⟨rfl,.no,h.set g (.cells cs.length (putL cs o v.cells)),?_,hS.turn hk (box_mk (by rw [Hp.get_set,if_pos rfl,hlen]) q2 hall) (Nat.le_refl _) (fun b hb=>?_) (fun b hb hn=>?_) fun b hb=>.inl hb⟩
 ·simp only [opL,hx,hy,Option.bind_some,stV,hz];rw [if_pos trivial];unfold wrH;rw [q1];simp only;rw [if_pos ⟨hf,h1⟩];rfl
 ·have hb':h.next≤b:=hb;rw [Hp.get_set,if_neg (by omega)];exact hS.wf b hb'
 ·rw [Hp.get_set,if_neg (fun e=>hn (by rw [e];simp [Ob.box]))]
theorem ziv {α:Type} {tr:Tr α} {t:TypeId} {v u:Val} {xs:List α} {xo yo:Operand} {o:Nat} (i j f:Nat) (x x':α) (c:List Val) (hx:evLO E xo=some (elp v o)) (hy:evLO E yo=some u) (hS:St X h0 F0 F L h) (hk:L[i]? = some (.row tr v xs)) (hj:xs[j]? = some x) (ho:o=j*tr.size+f)
  (hc:u.cells=c) (hz:sz P t=some c.length) (h1:c.all Val.one=true) (hfit:f+c.length≤tr.size) (hrel:∀ cs,tr.rel F cs x→tr.rel F (putL cs f c) x'):Ef P E h (.store t xo yo) (fun _ h'=>St X h0 F0 F (L.set i (.row tr v (xs.set j x'))) h'):=by
 subst hc;obtain ⟨b,k,cs,e,q1,q2,q3,q4,q5,q6,q7⟩:=To.row_at (t:=To.ofTr tr) tr.pos (hS.ok hk) hj;obtain ⟨h',bs',w1,w2,w3,w4,w5⟩:=q7 u.cells f (putL cs f u.cells) x' [] h1 hfit rfl (fun h' _ _=>⟨rfl,hrel _ q5.2⟩) (fun g hg=>by cases hg) (fun g hg=>by cases hg) List.nodup_nil;refine ⟨rfl,.no,h',?_,hS.turn hk (Ob.mkRow w2) (by rw [w3];exact Nat.le_refl _) (fun b' hb=>?_) (fun b' hb hn=>w4 b' fun e'=>hn (by rw [e'];exact q2)) fun b' hb=>.inl (by
  have:=zrk w2;exact hb)⟩
 ·rw [q1] at hx;subst ho;have hx':evLO E xo=some (.p (some (b,j*tr.size+f))):=by rw [hx];simp [elp]
  simp only [opL,hx',hy,Option.bind_some,stV,hz];rw [if_pos trivial];have w1':wrH h b (j*tr.size+f) u.cells=some h':=w1;rw [w1'];rfl
 ·rw [w3] at hb;rw [w4 b' (by omega)];exact hS.wf b' hb
end
end Go.V
end
section
namespace Go.Wk
def toB8 (x:Int):UInt8:=UInt8.ofNat (x % 256).toNat
def sLt (a b:List UInt8):Bool:=Op.bytesLess a b
def cmpT (a b:List UInt8):Int:=if sLt a b then -1 else if sLt b a then 1 else 0
end Go.Wk
namespace Go.V
open Go.Wk
theorem i8_of (x:Int):IntKind.u8.wrap x=((toB8 x).toNat:Int):=by
 simp [IntKind.wrap,IntKind.bits,IntKind.signed,toB8];omega
section
variable {P:Program} {t:TypeId} {k:IntKind} {a b:Int} {x y:List UInt8}
theorem zhh:binV P .eql t (.i k a) (.i k b)=some (.b (decide (a=b))):=by simp only [binV,if_pos];rfl
theorem bI_neq:binV P .neq t (.i k a) (.i k b)=some (.b (decide (a≠b))):=by
 simp only [binV,if_pos];show some (Val.b (!(a == b)))=_
 by_cases h:a=b
 ·subst h;simp
 ·simp [h]
theorem ziy:binV P .lss t (.i k a) (.i k b)=some (.b (decide (a < b))):=by simp only [binV,if_pos];rfl
theorem bI_leq:binV P .leq t (.i k a) (.i k b)=some (.b (decide (a≤b))):=by simp only [binV,if_pos];rfl
theorem zid:binV P .gtr t (.i k a) (.i k b)=some (.b (decide (b < a))):=by simp only [binV,if_pos];rfl
theorem bI_geq:binV P .geq t (.i k a) (.i k b)=some (.b (decide (b≤a))):=by simp only [binV,if_pos];rfl
theorem bB_eql {x y:Bool} (ht:P.underlying t=some .bool):binV P .eql t (.b x) (.b y)=some (.b (x == y)):=by simp only [binV,eqV,ht];rfl
theorem bB_neq {x y:Bool} (ht:P.underlying t=some .bool):binV P .neq t (.b x) (.b y)=some (.b (x != y)):=by simp only [binV,eqV,ht];rfl
theorem bS_eql:binV P .eql t (.s x) (.s y)=some (.b (x == y)):=rfl
theorem bS_neq:binV P .neq t (.s x) (.s y)=some (.b (!(x == y))):=rfl
theorem bS_lss:binV P .lss t (.s x) (.s y)=some (.b (sLt x y)):=rfl
theorem bS_leq:binV P .leq t (.s x) (.s y)=some (.b (sLt x y||x == y)):=rfl
theorem bS_gtr:binV P .gtr t (.s x) (.s y)=some (.b (!(sLt x y||x == y))):=rfl
theorem bS_geq:binV P .geq t (.s x) (.s y)=some (.b (!sLt x y)):=rfl
end
def zpd (P:Program) (t:TypeId):Option (List (Nat × Nat) × List Val):=(zge P t).bind fun zero=>match P.underlying t with
 | some (.struct fs)=>(fs.toList.mapM fun f=>(sz P f.type).map fun n=>(f.offset,n)).map fun pl=>(pl,zero.cells)
 | _=>none
section
variable {P:Program} {G:Frz} {E:EL}
theorem zlm {t:TypeId} {ps:Array (Nat × Operand)} {pl:List (Nat × Nat)} {zc:List Val} {vs:List (Nat × Val)} {v:Val} (ht:zpd P t=some (pl,zc)) (hp:evLP E ps.toList=some vs) (hf:(zkr (fun i=>pl[i]?) zc vs).map Val.agg=some v):Rd P G E (.build t ps) v:=by
 refine ⟨rfl,fun h _=>?_⟩;unfold zpd at ht;rw [Option.bind_eq_some_iff] at ht;obtain ⟨zero,h1,ht⟩:=ht
 split at ht
 ·rename_i fs hu;obtain ⟨pl',h2,e⟩:=Option.map_eq_some_iff.1 ht;obtain ⟨rfl,rfl⟩:=Prod.mk.inj e;simp only [opL,hp,Option.bind_some,zwg,h1,hu,h2,hf,Option.map_some]
 ·cases ht
end
end Go.V
end
section
namespace Go.Wk
theorem i64_id {x:Int} (h0:-9223372036854775808≤x) (h1:x≤9223372036854775807):IntKind.i64.wrap x=x:=IntWalk.i64_in x ⟨h0,h1⟩
theorem u8_wrap (x:Int):IntKind.u8.wrap x=x % 256:=by
 simp [IntKind.wrap,IntKind.bits,IntKind.signed]
theorem zmd (x:Int):IntKind.u32.wrap x=x % 4294967296:=by
 simp [IntKind.wrap,IntKind.bits,IntKind.signed]
theorem zwn (x:Int):IntKind.u64.wrap x=x % 18446744073709551616:=by
 simp [IntKind.wrap,IntKind.bits,IntKind.signed]
theorem zff (x y:UInt32):IntKind.u32.wrap ((x.toNat:Int)+(y.toNat:Int))=((x+y).toNat:Int):=by
 rw [zmd,UInt32.toNat_add];omega
theorem u32_mul (x y:UInt32):IntKind.u32.wrap ((x.toNat:Int)*(y.toNat:Int))=((x*y).toNat:Int):=by
 rw [zmd,UInt32.toNat_mul,← Int.natCast_mul,Int.natCast_emod];rfl
theorem zxe (n x:Nat):BitVec.ofInt n (x:Int)=BitVec.ofNat n x:=by
 apply BitVec.eq_of_toNat_eq;simp
theorem zly (x:UInt32):BitVec.ofInt 32 (x.toNat:Int)=x.toBitVec:=by
 rw [zxe];simp
theorem zld (b:BitVec 32):IntKind.u32.wrap (b.toNat:Int)=(b.toNat:Int):=by
 rw [zmd];have:=b.isLt;omega
theorem zlf (x y:UInt32):bits .and .u32 (x.toNat:Int) (y.toNat:Int)=((x &&& y).toNat:Int):=by
 show IntKind.u32.wrap ((BitVec.ofInt 32 (x.toNat:Int) &&& BitVec.ofInt 32 (y.toNat:Int)).toNat:Int)=_;rw [zld,zly,zly];rfl
theorem u32_or (x y:UInt32):bits .or .u32 (x.toNat:Int) (y.toNat:Int)=((x ||| y).toNat:Int):=by
 show IntKind.u32.wrap ((BitVec.ofInt 32 (x.toNat:Int) ||| BitVec.ofInt 32 (y.toNat:Int)).toNat:Int)=_;rw [zld,zly,zly];rfl
theorem zfp (x y:UInt32):bits .xor .u32 (x.toNat:Int) (y.toNat:Int)=((x ^^^ y).toNat:Int):=by
 show IntKind.u32.wrap ((BitVec.ofInt 32 (x.toNat:Int) ^^^ BitVec.ofInt 32 (y.toNat:Int)).toNat:Int)=_;rw [zld,zly,zly];rfl
theorem u32_shl (x:UInt32) (n:Int) (c:Nat) (hn:n.toNat=c) (hc:c < 32):IntKind.u32.wrap ((x.toNat:Int)*2 ^ n.toNat)=((x <<< (UInt32.ofNat c)).toNat:Int):=by
 rw [zmd,UInt32.toNat_shiftLeft,hn];have:(UInt32.ofNat c).toNat % 32=c:=by simp;omega
 rw [this,Nat.shiftLeft_eq,Int.natCast_emod,Int.natCast_mul,Int.natCast_pow];rfl
theorem ztl (x:UInt32) (n:Int) (c:Nat) (hn:n.toNat=c) (hc:c < 32):(x.toNat:Int) / 2 ^ n.toNat=((x >>> (UInt32.ofNat c)).toNat:Int):=by
 rw [UInt32.toNat_shiftRight,hn];have:(UInt32.ofNat c).toNat % 32=c:=by simp;omega
 rw [this,Nat.shiftRight_eq_div_pow]
 norm_cast
theorem u8_u64 (b:UInt8):IntKind.u64.wrap (b.toNat:Int)=(b.toUInt64.toNat:Int):=by
 rw [zwn,UInt8.toNat_toUInt64];have:=b.toNat_lt;omega
theorem u8_u32 (b:UInt8):IntKind.u32.wrap (b.toNat:Int)=(b.toUInt32.toNat:Int):=by
 rw [zmd,UInt8.toNat_toUInt32];have:=b.toNat_lt;omega
theorem u32_u8 (x:UInt32):IntKind.u8.wrap (x.toNat:Int)=(x.toUInt8.toNat:Int):=by
 rw [u8_wrap,UInt32.toNat_toUInt8];omega
end Go.Wk
end
section
namespace Go.V
open Go.Wk
def Pce (v v':Val) (z a n:Nat):Prop:=(v' = .es∧n=0 ∧ ∃ b len k,v = .sl (some (b,0)) len k∧len≤a)∨(v' = .sl none 0 (.k 0)∧n=0∧v = .sl none 0 (.k 0)) ∨ ∃ b o len k k',v = .sl (some (b,0)) len (.of z k)∧v' = .sl (some (b,o)) n (.of z k')∧(o=a*z∨n=0∧o=0)∧(∀ m,k' = some m→n≤m)∧k' = k.map (· - a)
theorem Pce.ln {v v':Val} {z a n:Nat} (p:Pce v v' z a n):Ln v' n:=by
 rcases p with ⟨rfl,rfl,_⟩ | ⟨rfl,rfl,_⟩ | ⟨b,o,len,k,k',_,rfl,_⟩
 ·exact .inl ⟨rfl,rfl⟩
 ·exact .inr ⟨none,.k 0,rfl,fun _=>rfl⟩
 ·exact .inr ⟨_,_,rfl,fun q=>by cases q⟩
theorem Src.piece {α:Type} {t:Tr α} {F:Frz} {h:Hp} {v v':Val} {xs zs:List α} {a b:Int} (s:Src t F h v xs) (p:Pce v v' t.size a.toNat (b.toNat - a.toNat)) (hc:cut xs a b=some zs):Src t F h v' zs:=by
 obtain ⟨c0,c1,c2,rfl⟩:=ztj hc;obtain ⟨css,h1,h2⟩:=s;have hl:((css.take b.toNat).drop a.toNat).length=b.toNat - a.toNat:=by
  have:=h1.1;simp;omega
 have hrel:RelL t F ((css.take b.toNat).drop a.toNat) ((xs.take b.toNat).drop a.toNat):=by
  refine ⟨by simp [h1.1],fun i d x q1 q2=>?_⟩;rw [List.getElem?_drop,List.getElem?_take] at q1 q2
  split at q1
  ·rw [if_pos (by assumption)] at q2;exact h1.2 _ d x q1 q2
  ·cases q1
 have hmax:b.toNat - a.toNat≤maxLen∨css=[]:=by
  rcases h2 with ⟨_,rfl⟩ | ⟨_,_,_,e2,_⟩
  ·exact .inr rfl
  ·have:=h1.1;exact .inl (by omega)
 refine ⟨_,hrel,?_⟩;rcases p with ⟨rfl,hn,_⟩ | ⟨rfl,hn,_⟩ | ⟨g,o,len,k,k',rfl,rfl,ho,hk,_⟩
 ·exact .inl ⟨rfl,List.eq_nil_of_length_eq_zero (by omega)⟩
 ·have:(css.take b.toNat).drop a.toNat=[]:=List.eq_nil_of_length_eq_zero (by omega);rw [this];exact .inr ⟨none,some 0,rfl,by simp,fun k hk=>by simp,fun _=>⟨rfl,rfl⟩,fun b o h=>by cases h⟩
 ·refine .inr ⟨some (g,o),k',by rw [hl],?_,fun m hm=>by rw [hl];exact hk m hm,fun q=>(by cases q),fun b' o' had i d j u q1 q2=>?_⟩
  ·rw [hl];rcases hmax with q | q
   ·exact q
   ·have:=h1.1;rw [q] at this;simp at this;rw [show b.toNat - a.toNat=0 by omega];exact Nat.zero_le _
  ·simp only [Option.some.injEq,Prod.mk.injEq] at had;obtain ⟨rfl,rfl⟩:=had;have hi:=(List.getElem?_eq_some_iff.1 q1).1;have ho':o=a.toNat*t.size:=ho.elim id fun q=>by omega
   rw [ho'];rw [List.getElem?_drop,List.getElem?_take] at q1
   split at q1
   ·rcases h2 with ⟨e,_⟩ | ⟨a',c',e1,e2,e3,e4,e5⟩
    ·cases e
    ·simp only [Val.sl.injEq] at e1;obtain ⟨rfl,_,_⟩:=e1;have:=e5 g 0 rfl _ d j u q1 q2;rw [show 0+((a.toNat+i)*t.size+j)=a.toNat*t.size+(i*t.size+j) by rw [Nat.add_mul];omega] at this;exact this
   ·cases q1
theorem Elf.piece {F:Frz} {v v':Val} {s i a n:Nat} {cs:List Val} (e:Elf F v s (a+i) cs) (p:Pce v v' s a n) (hi:i < n):Elf F v' s i cs:=by
 obtain ⟨h0,h1,b,q,m,c,rfl,h3,h4⟩:=e;rcases p with ⟨rfl,hn,_⟩ | ⟨rfl,hn,_⟩ | ⟨g,o,len,k,k',hv,rfl,ho,_⟩
 ·omega
 ·omega
 ·simp only [Val.sl.injEq,Option.some.injEq,Prod.mk.injEq] at hv;obtain ⟨⟨rfl,rfl⟩,_,_⟩:=hv;have ho':o=a*s:=ho.elim id fun q=>by omega
  refine ⟨h0,h1,b,o,n,_,rfl,hi,fun j u hj=>?_⟩;have:=h4 j u hj;rw [show 0+(a+i)*s+j=o+i*s+j by rw [ho',Nat.add_mul];omega] at this;exact this
def BdV (r:Option Val) (z n:Int):Prop:=(r=none∧n=z) ∨ ∃ kk,r=some (.i kk n)
def Bd (E:EL) (o:Option Operand) (z n:Int):Prop:=(o=none∧n=z) ∨ ∃ y kk,o=some y∧evLO E y=some (.i kk n)
theorem Bd.val {E:EL} {o:Option Operand} {z n:Int} (b:Bd E o z n):∃ r,evLQ E o=some r∧BdV r z n:=by
 rcases b with ⟨rfl,h⟩ | ⟨y,kk,rfl,h⟩
 ·exact ⟨none,rfl,.inl ⟨rfl,h⟩⟩
 ·exact ⟨some (.i kk n),by simp [evLQ,h],.inr ⟨kk,rfl⟩⟩
theorem zms {len cap:Nat} {lo hi:Option Val} {a b:Int} (hlo:BdV lo 0 a) (hhi:BdV hi len b) (h0:0≤a) (h1:a≤b) (h2:b≤(len:Int)) (hc:len≤cap):bndV len cap lo hi none=some (a.toNat,b.toNat,cap):=by
 have na:∀ kk,natI (.i kk a)=some a.toNat:=fun kk=>by unfold natI;simp only;rw [if_pos h0]
 have nb:∀ kk,natI (.i kk b)=some b.toNat:=fun kk=>by unfold natI;simp only;rw [if_pos (by omega)]
 have e1:zmn hi len=some b.toNat:=by
  rcases hhi with ⟨rfl,rfl⟩ | ⟨kk,rfl⟩
  ·simp [zmn]
  ·exact nb kk
 have e2:zmn lo 0=some a.toNat:=by
  rcases hlo with ⟨rfl,rfl⟩ | ⟨kk,rfl⟩
  ·rfl
  ·exact na kk
 unfold bndV;rw [e1,e2];simp only [zmn,Option.bind_some];rw [if_pos ⟨Nat.le_refl _,by omega,by omega,fun q=>by cases q⟩]
section
variable {P:Program} {h:Hp} {X:List Nat} {h0:Hp} {F0 F:Frz} {Lo:List Ob}
theorem slice_row {α:Type} {tr:Tr α} {t e:TypeId} {v:Val} {xs zs:List α} {lo hi:Option Val} {j:Nat} {a b:Int} (ht:P.underlying t=some (.slice e)) (hz:sz P e=some tr.size) (hlo:BdV lo 0 a) (hhi:BdV hi xs.length b) (hS:St X h0 F0 F Lo h) (hj:Lo[j]? = some (.row tr v xs)) (hc:cut xs a b=some zs) :
  ∃ v',zhn P t v lo hi none=some v' ∧ Pce v v' tr.size a.toNat (b.toNat - a.toNat):=by
 obtain ⟨c0,c1,c2,_⟩:=ztj hc;obtain ⟨v0,hv0,r⟩:=hS.ok hj;obtain rfl:=List.head_eq_of_cons_eq hv0;rcases r with ⟨rfl,hxs,_⟩ | ⟨g,c,m,css,bss,r⟩
 ·have hx0:xs.length=0:=by rw [show xs=[] from hxs];rfl
  rw [hx0] at hhi c2;refine ⟨.sl none 0 (.k 0),?_,.inr (.inl ⟨rfl,by omega,rfl⟩)⟩;unfold zhn;simp only [ht,hz,Option.bind_some];rw [zms hlo hhi c0 c1 c2 (Nat.le_refl _)];have e1:a.toNat=0:=by omega
  have e2:b.toNat=0:=by omega
  simp [e1,e2]
 ·have hf:v = .sl (some (g,0)) xs.length (.of tr.size m):=r.form;subst hf;cases m with
  | some m =>
   have hm:xs.length≤m:=(r.cap m rfl).2;refine ⟨_,by unfold zhn;simp only [Cap.of_some,ht,hz,Option.bind_some];rw [zms hlo hhi c0 c1 c2 hm];rfl,?_⟩;dsimp only
   by_cases he:m=a.toNat
   ·rw [if_pos he];exact .inr (.inr ⟨g,_,_,some m,some (m - a.toNat),rfl,rfl,.inr ⟨by omega,rfl⟩,fun q hq=>by obtain rfl:=Option.some.inj hq;omega,rfl⟩)
   ·rw [if_neg he];exact .inr (.inr ⟨g,_,_,some m,some (m - a.toNat),rfl,rfl,.inl (Nat.zero_add _),fun q hq=>by obtain rfl:=Option.some.inj hq;omega,rfl⟩)
  | none =>
   by_cases hlt:a.toNat < xs.length
   ·refine ⟨.sl (some (g,0+a.toNat*tr.size)) (b.toNat - a.toNat) (.op tr.size),?_,.inr (.inr ⟨g,_,_,none,none,rfl,rfl,.inl (Nat.zero_add _),fun q hq=>(by cases hq),rfl⟩)⟩;unfold zhn;simp only [Cap.of_none,ht,hz,Option.bind_some,if_true];rw [zms hlo hhi c0 c1 c2 (Nat.le_refl _)];simp [hlt]
   ·refine ⟨.es,?_,.inl ⟨rfl,by omega,g,_,_,rfl,by omega⟩⟩;unfold zhn;simp only [Cap.of_none,ht,hz,Option.bind_some,if_true];rw [zms hlo hhi c0 c1 c2 (Nat.le_refl _)];simp [hlt]
end
section
variable {P:Program} {K:Tb} {fn:Func} {k:Kont} {E:EL} {h:Hp} {A:List Oper} {dr:Bool} {G:Frz} {L:List Nat} {i d:Nat} {X:List Nat} {h0:Hp} {F0 F:Frz} {Lo:List Ob}
theorem zlb {α:Type} {tr:Tr α} {t e:TypeId} {v:Val} {xs zs:List α} {x:Operand} {ol oh:Option Operand} (j:Nat) (a b:Int) (hi:Nat.blt i A.length=true) (hw:zdc A E (opAt A i)=some true) (hd:(opAt A i).dst=some d) (hop:(opAt A i).op = .slice t x ol oh none)
  (ht:P.underlying t=some (.slice e)) (hz:sz P e=some tr.size) (hx:evLO E x=some v) (hl:Bd E ol 0 a) (hh:Bd E oh xs.length b) (hS:St X h0 F0 F Lo h) (hj:Lo[j]? = some (.row tr v xs)) (hc:cut xs a b=some zs)
  (q:∀ v',Src tr F h v' zs→Pce v v' tr.size a.toNat (b.toNat - a.toNat)→W P K fn k A dr G L ((d,v')::E) h):W P K fn k A dr G (i::L) E h:=by
 obtain ⟨lo,l1,l2⟩:=hl.val;obtain ⟨hi',r1,r2⟩:=hh.val;obtain ⟨v',k1,k2⟩:=slice_row (P:=P) ht hz l2 r2 hS hj hc;refine W_c hi hw hd (by rw [hop];rfl) (fun h=>?_) (q v' ((hS.rowSrc hj).piece k2 hc) k2);rw [hop];have n0:evLQ E none=some none:=rfl;simp only [opL,hx,l1,r1,n0,Option.bind_some,k1,Option.map_some]
theorem SlF.cut {α:Type} {tr:Tr α} {t e:TypeId} {v:Val} {xs zs:List α} {lo hi:Option Val} {a b:Int} (ht:P.underlying t=some (.slice e)) (hz:sz P e=some tr.size) (hlo:BdV lo 0 a) (hhi:BdV hi xs.length b) (hs:SlF tr F v xs) (hc:Go.Wk.cut xs a b=some zs) :
  ∃ v',zhn P t v lo hi none=some v' ∧ SlF tr F v' zs:=by
 obtain ⟨c0,c1,c2,rfl⟩:=ztj hc;obtain ⟨css,h1,h2⟩:=hs;have hl:((css.take b.toNat).drop a.toNat).length=b.toNat - a.toNat:=by
  have:=h1.1;simp;omega
 have hrel:RelL tr F ((css.take b.toNat).drop a.toNat) ((xs.take b.toNat).drop a.toNat):=by
  refine ⟨by simp [h1.1],fun i d x q1 q2=>?_⟩;rw [List.getElem?_drop,List.getElem?_take] at q1 q2
  split at q1
  ·rw [if_pos (by assumption)] at q2;exact h1.2 _ d x q1 q2
  ·cases q1
 rcases h2 with ⟨rfl,rfl⟩ | ⟨ad,c,rfl,e2,e3,e4,e5⟩
 ·have hx0:xs.length=0:=h1.1.symm;rw [hx0] at hhi c2;refine ⟨.es,?_,_,hrel,.inl ⟨rfl,by simp⟩⟩;unfold zhn;simp only [ht,hz,Option.bind_some];rw [zms hlo hhi c0 c1 c2 (Nat.le_refl _)];rfl
 ·have hxl:=h1.1;cases c with
  | some m =>
   have hm:=e3 m rfl;refine ⟨_,by unfold zhn;simp only [Cap.of_some,ht,hz,Option.bind_some];rw [zms hlo (by rw [hxl];exact hhi) c0 c1 (by omega) hm];rfl,_,hrel,?_⟩;dsimp only;refine .inr ⟨_,some (m - a.toNat),by rw [hl];rfl,by rw [hl];omega,fun q hq=>by obtain rfl:=Option.some.inj hq;rw [hl];omega,fun q=>?_,fun b' o' had i d j u q1 q2=>?_⟩
   ·have hn:ad=none:=by
     split at q
     ·exact q
     ·cases ad with
      | none=>rfl
      | some _=>cases q
    obtain ⟨z1,z2⟩:=e4 hn;obtain rfl:=Option.some.inj z2;exact ⟨by rw [z1];simp,by simp⟩
   ·have hi:=(List.getElem?_eq_some_iff.1 q1).1;have hne:¬ m=a.toNat:=by omega
    split at had
    ·contradiction
    obtain ⟨⟨b0,o0⟩,rfl,had⟩:=Option.map_eq_some_iff.1 had;cases had;rw [List.getElem?_drop,List.getElem?_take] at q1
    split at q1
    ·have:=e5 _ _ rfl _ d j u q1 q2;rw [show o0+((a.toNat+i)*tr.size+j)=o0+a.toNat*tr.size+(i*tr.size+j) by rw [Nat.add_mul];omega] at this;exact this
    ·cases q1
  | none =>
   cases ad with
   | none=>exact absurd (e4 rfl).2 (by simp)
   | some ad =>
    obtain ⟨b0,o0⟩:=ad
    by_cases hlt:a.toNat < css.length
    ·refine ⟨.sl (some (b0,o0+a.toNat*tr.size)) (b.toNat - a.toNat) (.op tr.size),?_,_,hrel,.inr ⟨some (b0,o0+a.toNat*tr.size),none,by rw [hl];rfl,by rw [hl];omega,fun q hq=>(by cases hq),fun q=>(by cases q),fun b' o' had i d j u q1 q2=>?_⟩⟩
     ·unfold zhn;simp only [Cap.of_none,ht,hz,Option.bind_some,if_true];rw [zms hlo (by rw [hxl];exact hhi) c0 c1 (by omega) (Nat.le_refl _)];simp [hlt]
     ·simp only [Option.some.injEq,Prod.mk.injEq] at had;obtain ⟨rfl,rfl⟩:=had;rw [List.getElem?_drop,List.getElem?_take] at q1
      split at q1
      ·have:=e5 _ _ rfl _ d j u q1 q2;rw [show o0+((a.toNat+i)*tr.size+j)=o0+a.toNat*tr.size+(i*tr.size+j) by rw [Nat.add_mul];omega] at this;exact this
      ·cases q1
    ·refine ⟨.es,?_,_,hrel,.inl ⟨rfl,List.eq_nil_of_length_eq_zero (by omega)⟩⟩;unfold zhn;simp only [Cap.of_none,ht,hz,Option.bind_some,if_true];rw [zms hlo (by rw [hxl];exact hhi) c0 c1 (by omega) (Nat.le_refl _)];simp [hlt]
theorem zpe {α:Type} {tr:Tr α} {t e:TypeId} {v:Val} {xs zs:List α} {x:Operand} {ol oh:Option Operand} (a b:Int) (hi:Nat.blt i A.length=true) (hw:zdc A E (opAt A i)=some true) (hd:(opAt A i).dst=some d) (hop:(opAt A i).op = .slice t x ol oh none)
  (ht:P.underlying t=some (.slice e)) (hz:sz P e=some tr.size) (hx:evLO E x=some v) (hl:Bd E ol 0 a) (hh:Bd E oh xs.length b) (hs:SlF tr F v xs) (hc:cut xs a b=some zs)
  (q:∀ v',SlF tr F v' zs→W P K fn k A dr G L ((d,v')::E) h):W P K fn k A dr G (i::L) E h:=by
 obtain ⟨lo,l1,l2⟩:=hl.val;obtain ⟨hi',r1,r2⟩:=hh.val;obtain ⟨v',k1,k2⟩:=hs.cut (P:=P) ht hz l2 r2 hc;refine W_c hi hw hd (by rw [hop];rfl) (fun h=>?_) (q v' k2);rw [hop];have n0:evLQ E none=some none:=rfl;simp only [opL,hx,l1,r1,n0,Option.bind_some,k1,Option.map_some]
end
end Go.V
end
section
namespace Go.V
open Go.Wk
def Ob.dp {α:Type} (t:To α) (bs:List Nat) (v:Val) (xs:List α):Ob:=⟨To.row t,bs,[v],xs⟩
structure Sees {α:Type} (t:To α) (tr:Tr α):Prop where
 size:t.size=tr.size
 rel:∀ {F G h bs cs x},t.rel F h bs cs x→F.le G→(∀ b,b∈bs → ∀ o u,zfj h b o=some u→G b o=some u)→tr.rel G cs x
theorem Sees.flat {α:Type} (tr:Tr α):Sees (To.ofTr tr) tr:=⟨rfl,fun q l _=>tr.mono l q.2⟩
section
variable {α:Type} {t t':To α} {F:Frz} {h:Hp} {bs:List Nat} {v:Val} {xs:List α}
theorem To.row_now {tr:Tr α} (s:Sees t tr) (r:(To.row t).rel F h bs [v] xs) (ag:zit F h):SlF tr (nowF h) v xs:=by
 obtain ⟨v0,hv0,r⟩:=r;obtain rfl:=List.head_eq_of_cons_eq hv0;rcases r with ⟨rfl,rfl,_⟩ | ⟨b,c,k,css,bss,r⟩
 ·exact SlF.nil _
 ·have hfw:xs.length≤maxLen:=Nat.le_trans r.few (by unfold maxLen;decide);have hs:=s.size;refine ⟨css.map fun d=>⟨d.1,hs ▸ d.2⟩,⟨by simp [r.csl],fun i d x h1 h2=>?_⟩,.inr ⟨some (b,0),k,by rw [r.form,List.length_map,r.csl,hs],by rw [List.length_map,r.csl];exact hfw,fun m hm=>by rw [List.length_map,r.csl];exact (r.cap m hm).2,fun q=>(by cases q),fun b' o' had i d j u h1 h2=>?_⟩⟩
  ·rw [List.getElem?_map] at h1;obtain ⟨d0,hd0,rfl⟩:=Option.map_eq_some_iff.1 h1;have hi:=(List.getElem?_eq_some_iff.1 h2).1;exact s.rel (r.rel i d0 x _ hd0 h2 (List.getElem?_eq_getElem (by rw [r.bsl];exact hi))) ag fun _ _ _ _ q=>q
  ·simp only [Option.some.injEq,Prod.mk.injEq] at had;obtain ⟨rfl,rfl⟩:=had;rw [List.getElem?_map] at h1;obtain ⟨d0,hd0,rfl⟩:=Option.map_eq_some_iff.1 h1;show zfj h b _=some u;unfold zfj;rw [r.blk,Nat.zero_add,← hs];have hil:=(List.getElem?_eq_some_iff.1 hd0).1;have hjl:j < t.size:=by
    have e1:j < d0.1.length:=(List.getElem?_eq_some_iff.1 h2).1;have e:d0.1.length=t.size:=d0.2;omega
   have hlt:i*t.size+j < xs.length*t.size:=by
    have:=Nat.mul_le_mul_right t.size (show i+1≤xs.length by rw [← r.csl];exact hil);rw [Nat.add_mul] at this;omega
   have:=zom hd0 h2;show c[i*t.size+j]? = some u;rw [← r.cells,List.getElem?_take,if_pos hlt] at this;exact this
theorem To.row_conv {β:Type} {s:To β} {ys:List β} (hs:t.size=s.size) (r:(To.row t).rel F h bs [v] xs) (hl:ys.length=xs.length) (hr:∀ (i:Nat) x y e cs,xs[i]? = some x→ys[i]? = some y→t.rel F h e cs x→s.rel F h e cs y):(To.row s).rel F h bs [v] ys:=by
 obtain ⟨v0,hv0,r⟩:=r;refine ⟨v0,hv0,?_⟩;obtain rfl:=List.head_eq_of_cons_eq hv0;rcases r with ⟨rfl,rfl,h3⟩ | ⟨b,c,k,css,bss,r⟩
 ·exact .inl ⟨rfl,List.eq_nil_of_length_eq_zero (by rw [hl];rfl),h3⟩
 ·have hcv:c.take (ys.length*s.size)=((css.map fun d=>(⟨d.1,hs ▸ d.2⟩:Cl s.size)).map Subtype.val).flatten:=by
   have e:(css.map fun d=>(⟨d.1,hs ▸ d.2⟩:Cl s.size)).map Subtype.val=css.map Subtype.val:=by rw [List.map_map];rfl
   rw [e,hl,← r.cells,hs]
  refine .inr ⟨b,c,k,css.map fun d=>⟨d.1,hs ▸ d.2⟩,bss,?_⟩;refine ⟨by rw [hl,← hs];exact r.form,by rw [← hs];exact r.blk,r.lt,by rw [List.length_map,r.csl,hl],by rw [r.bsl,hl],fun i d y e q1 q2 q3=>?_,hcv,fun q=>by rw [hl,← hs];exact r.opn q,fun m q=>by rw [hl,← hs];exact r.cap m q,by rw [hl];exact r.few,r.one,r.foot,r.nodup⟩;rw [List.getElem?_map] at q1;obtain ⟨d0,hd0,rfl⟩:=Option.map_eq_some_iff.1 q1;have hi:i < xs.length:=by rw [← hl];exact (List.getElem?_eq_some_iff.1 q2).1
  exact hr i _ y e _ (List.getElem?_eq_getElem hi) q2 (r.rel i d0 _ e hd0 (List.getElem?_eq_getElem hi) q3)
theorem To.row_swap (r:(To.row t).rel F h bs [v] xs) {i:Nat} {x:α} (hi:xs[i]? = some x):∃ cs e,t.rel F h e cs x∧(∀ g,g∈e→g∈bs)∧(0 < t.size→Elf (nowF h) v t.size i cs) ∧
  ∀ {β:Type} (t':To β) (ys:List β) (y:β) (e':List Nat),t.size=t'.size→ys.length=xs.length→ys[i]? = some y→(∀ j x y e cs,j≠i→xs[j]? = some x→ys[j]? = some y→t.rel F h e cs x→t'.rel F h e cs y)→t'.rel F h e' cs y→(∀ g,g∈e' → g ∉ bs∨g∈e) → ∃ bs',(To.row t').rel F h bs' [v] ys ∧ ∀ g,g∈bs' ↔ (g∈bs∧g ∉ e)∨g∈e':=by
 obtain ⟨v0,hv0,r⟩:=r;obtain rfl:=List.head_eq_of_cons_eq hv0;have hil:=(List.getElem?_eq_some_iff.1 hi).1;rcases r with ⟨rfl,rfl,rfl⟩ | ⟨b,c,k,css,bss,r⟩
 ·simp at hi
 ·obtain ⟨hform,hblk,hblt,hcsl,hbsl,hrel,hcells,hopn,hcap,hfw,hcone,hfoot,hnod⟩:=r;subst hform;subst hfoot;obtain ⟨hb1,hb2⟩:=List.nodup_cons.1 hnod;obtain ⟨d,hd⟩:∃ d,css[i]? = some d:=⟨_,List.getElem?_eq_getElem (by omega)⟩
  obtain ⟨e,he⟩:∃ e,bss[i]? = some e:=⟨_,List.getElem?_eq_getElem (by omega)⟩
  have hr:=hrel i d x e hd hi he;have hmem:∀ g,g∈e→g∈bss.flatten:=fun g hg=>List.mem_flatten.2 ⟨e,List.mem_of_getElem? he,hg⟩;refine ⟨d.1,e,hr,fun g hg=>List.mem_cons_of_mem _ (hmem g hg),fun hpos=>⟨d.2,hpos,b,0,_,_,rfl,hil,fun j u hj=>?_⟩,fun t' ys y e' hs hl hy ho hy' hd'=>?_⟩
  ·show zfj h b _=some u;unfold zfj;rw [hblk,Nat.zero_add];have hjl:j < t.size:=by
    have e1:j < d.1.length:=(List.getElem?_eq_some_iff.1 hj).1;have e2:d.1.length=t.size:=d.2;omega
   have hlt:i*t.size+j < xs.length*t.size:=by
    have:=Nat.mul_le_mul_right t.size (show i+1≤xs.length from hil);rw [Nat.add_mul] at this;omega
   have:=zom hd hj;rw [← hcells,List.getElem?_take,if_pos hlt] at this;exact this
  have hoth:∀ j e2,j≠i→bss[j]? = some e2 → ∀ g,g∈e' → g ∉ e2:=fun j e2 hj h2 g hg hg2=>by
   rcases hd' g hg with q | q
   ·exact q (List.mem_cons_of_mem _ (List.mem_flatten.2 ⟨e2,List.mem_of_getElem? h2,hg2⟩))
   ·exact zon bss hb2 hj h2 he hg2 q
  have hnd:(bss.set i e').flatten.Nodup:=zxm bss i e' hb2 (t'.nodup hy') fun g hg j e2 hj h2=>hoth j e2 hj h2 g hg;have hmemS:∀ g,g∈(bss.set i e').flatten ↔ (g∈bss.flatten∧g ∉ e)∨g∈e':=fun g=>by
   constructor
   ·intro hg;obtain ⟨e2,q1,q2⟩:=List.mem_flatten.1 hg;obtain ⟨j,hj,rfl⟩:=List.getElem_of_mem q1
    by_cases hji:j=i
    ·subst hji;simp at q2;exact .inr q2
    ·have hj':j < bss.length:=by simpa using hj
     have hb:(bss.set i e')[j]'hj=bss[j]:=by rw [List.getElem_set_ne (fun q=>hji q.symm)]
     rw [hb] at q2;have h2:bss[j]? = some bss[j]:=List.getElem?_eq_getElem hj';exact .inl ⟨List.mem_flatten.2 ⟨_,List.mem_of_getElem? h2,q2⟩,fun q=>zon bss hb2 hji h2 he q2 q⟩
   ·rintro (⟨q1,q2⟩ | q)
    ·obtain ⟨e2,p1,p2⟩:=List.mem_flatten.1 q1;obtain ⟨j,hj,rfl⟩:=List.getElem_of_mem p1;have hji:j≠i:=fun q=>by
      subst q;rw [List.getElem?_eq_getElem hj] at he;obtain rfl:=Option.some.inj he;exact q2 p2
     refine List.mem_flatten.2 ⟨bss[j],?_,p2⟩;refine List.mem_of_getElem? (i:=j) ?_;rw [List.getElem?_set_ne (fun q=>hji q.symm),List.getElem?_eq_getElem hj]
    ·refine List.mem_flatten.2 ⟨e',List.mem_of_getElem? (i:=i) (List.getElem?_set_self (by omega)),q⟩
  have hcv:c.take (ys.length*t'.size)=((css.map fun d=>(⟨d.1,hs ▸ d.2⟩:Cl t'.size)).map Subtype.val).flatten:=by
   have e:(css.map fun d=>(⟨d.1,hs ▸ d.2⟩:Cl t'.size)).map Subtype.val=css.map Subtype.val:=by rw [List.map_map];rfl
   rw [e,hl,← hcells,hs]
  refine ⟨b::(bss.set i e').flatten,⟨_,rfl,.inr ⟨b,c,k,css.map fun d=>⟨d.1,hs ▸ d.2⟩,bss.set i e',?_⟩⟩,fun g=>?_⟩
  ·refine ⟨by rw [hl,hs],by rw [← hs];exact hblk,hblt,by simp [hcsl,hl],by simp [hbsl,hl],fun j d2 x2 e2 q1 q2 q3=>?_,hcv,fun q=>by rw [hl,← hs];exact hopn q,fun m q=>by rw [hl,← hs];exact hcap m q,by rw [hl];exact hfw,hcone,rfl,List.nodup_cons.2 ⟨fun q=>?_,hnd⟩⟩
   ·rw [List.getElem?_map] at q1;obtain ⟨d0,hd0,rfl⟩:=Option.map_eq_some_iff.1 q1
    by_cases hj:j=i
    ·subst hj;rw [List.getElem?_set_self (by omega)] at q3;rw [hd] at hd0;rw [hy] at q2;obtain rfl:=Option.some.inj hd0;obtain rfl:=Option.some.inj q2;obtain rfl:=Option.some.inj q3;exact hy'
    ·rw [List.getElem?_set_ne (fun q=>hj q.symm)] at q3;have hjx:j < xs.length:=by rw [← hl];exact (List.getElem?_eq_some_iff.1 q2).1
     exact ho j _ x2 e2 _ hj (List.getElem?_eq_getElem hjx) q2 (hrel j d0 _ e2 hd0 (List.getElem?_eq_getElem hjx) q3)
   ·rcases (hmemS b).1 q with ⟨q1,_⟩ | q1
    ·exact hb1 q1
    ·rcases hd' b q1 with q2 | q2
     ·exact q2 (by simp)
     ·exact hb1 (hmem b q2)
  ·rw [List.mem_cons,List.mem_cons,hmemS];constructor
   ·rintro (rfl | q)
    ·exact .inl ⟨.inl rfl,fun q=>hb1 (hmem g q)⟩
    ·rcases q with ⟨q1,q2⟩ | q
     ·exact .inl ⟨.inr q1,q2⟩
     ·exact .inr q
   ·rintro (⟨q1 | q1,q2⟩ | q)
    ·exact .inl q1
    ·exact .inr (.inl ⟨q1,q2⟩)
    ·exact .inr (.inr q)
end
section
variable {X:List Nat} {h0 h h':Hp} {F0 F F':Frz} {L Lr:List Ob}
theorem St.nilDp {α:Type} (s:St X h0 F0 F L h) (t:To α):St X h0 F0 F (.dp t [] (.sl none 0 (.k 0)) []::L) h :=
 s.fresh ⟨Nat.le_refl _,s.wf,fun _ _=>rfl⟩ ⟨_,rfl,.inl ⟨rfl,rfl,rfl⟩⟩ (fun b hb=>by cases hb)
theorem St.dpLn {α:Type} {t:To α} {bs:List Nat} {v:Val} {xs:List α} {k:Nat} (s:St X h0 F0 F L h) (hk:L[k]? = some (.dp t bs v xs)):Ln v xs.length:=To.row_ln (s.ok hk)
theorem St.dpNow {α:Type} {t:To α} {tr:Tr α} {bs:List Nat} {v:Val} {xs:List α} {k:Nat} (s:St X h0 F0 F L h) (hk:L[k]? = some (.dp t bs v xs)) (hs:Sees t tr):SlF tr (nowF h) v xs:=To.row_now hs (s.ok hk) s.agree
theorem St.see (s:St X h0 F0 F L h) {i:Nat} {o o':Ob} (hi:L[i]? = some o) (ho:o'.ok F h) (hb:∀ b,b∈o'.bs→b∈o.bs):St X h0 F0 F (L.set i o') h :=
 s.turn hi ho (Nat.le_refl _) s.wf (fun _ _ _=>rfl) fun b q=>.inl (hb b q)
theorem St.part (s:St X h0 F0 F L h) {i:Nat} {o:Ob} (o1 o2:Ob) (hi:L[i]? = some o) (h1:o1.ok F h) (h2:o2.ok F h) (hb1:∀ g,g∈o1.bs→g∈o.bs) (hb2:∀ g,g∈o2.bs→g∈o.bs) (hd:∀ g,g∈o1.bs→g ∉ o2.bs):St X h0 F0 F (o1::L.set i o2) h:=by
 have hp:=s.see hi h2 hb2;obtain ⟨ho,hog⟩:=s.own i o hi;have hil:=(List.getElem?_eq_some_iff.1 hi).1;have hx:∀ (q:Nat) (p:Ob) (g:Nat),(L.set i o2)[q]? = some p→g∈o1.bs→g∈p.bs→False:=fun q p g hq hg hgp=>by
  by_cases e:q=i
  ·subst e;rw [List.getElem?_set_self hil] at hq;obtain rfl:=Option.some.inj hq;exact hd g hg hgp
  ·rw [List.getElem?_set_ne (fun z=>e z.symm)] at hq;exact e (s.apart i q o p g hi hq (hb1 g hg) hgp).symm
 refine ⟨hp.next,hp.wf,hp.keep,hp.agree,hp.ext,hp.new,fun q p hq=>?_,fun q q' p p' g hq hq' hg hg'=>?_⟩
 ·cases q with
  | zero=>simp at hq;subst hq;exact ⟨h1,fun g hg=>hog g (hb1 g hg)⟩
  | succ q=>exact hp.own q p (by simpa using hq)
 ·cases q with
  | zero =>
   simp at hq;subst hq;cases q' with
   | zero=>rfl
   | succ q'=>exact (hx q' p' g (by simpa using hq') hg hg').elim
  | succ q =>
   cases q' with
   | zero=>simp at hq';subst hq';exact (hx q p g (by simpa using hq) hg' hg).elim
   | succ q'=>rw [hp.apart q q' p p' g (by simpa using hq) (by simpa using hq') hg hg']
theorem St.join {o1 o2:Ob} (s:St X h0 F0 F (o1::o2::L) h) (o:Ob) (ho:o.ok F h') (hn:h.next≤h'.next) (hw:Wf h') (hk:∀ b,b < h.next→b ∉ o1.bs→b ∉ o2.bs→h'.get b=h.get b) (hb:∀ b,b∈o.bs→b∈o1.bs∨b∈o2.bs∨h.next≤b):St X h0 F0 F (o::L) h':=by
 obtain ⟨a1,a2⟩:=s.own 0 o1 rfl;obtain ⟨b1,b2⟩:=s.own 1 o2 rfl;have hL:∀ (i:Nat) (p:Ob),L[i]? = some p→(o1::o2::L)[i+2]? = some p:=fun i p hp=>hp;have hfr:∀ b k u,F b k=some u→b < h.next∧b ∉ o1.bs∧b ∉ o2.bs:=fun b k u e=>⟨zqo s.wf (s.agree b k u e),(fun q=>by rw [(a2 b q).1 k] at e;cases e),(fun q=>by rw [(b2 b q).1 k] at e;cases e)⟩
 have hout:∀ (i:Nat) (p:Ob),L[i]? = some p → ∀ b,b∈p.bs→b < h.next∧b ∉ o1.bs∧b ∉ o2.bs:=fun i p hp b hb=>by
  refine ⟨p.t.lt (s.ok (hL i p hp)) b hb,fun q=>?_,fun q=>?_⟩
  ·have:=s.apart 0 (i+2) o1 p b rfl (hL i p hp) q hb;omega
  ·have:=s.apart 1 (i+2) o2 p b rfl (hL i p hp) q hb;omega
 refine ⟨Nat.le_trans s.next hn,hw,fun b hb' hx=>?_,fun b k u e=>?_,s.ext,s.new,fun i p hp=>?_,fun i j p p' b hi hj hp hp'=>?_⟩
 ·rw [hk b (Nat.lt_of_lt_of_le hb' s.next) (fun q=>(a2 b q).2.elim (fun h3=>by omega) hx) (fun q=>(b2 b q).2.elim (fun h3=>by omega) hx)];exact s.keep b hb' hx
 ·obtain ⟨q1,q2,q3⟩:=hfr b k u e;have:=s.agree b k u e;unfold zfj at this ⊢;rw [hk b q1 q2 q3];exact this
 ·cases i with
  | zero =>
   simp at hp;subst hp;refine ⟨ho,fun b hb'=>?_⟩;rcases hb b hb' with q | q | q
   ·exact a2 b q
   ·exact b2 b q
   ·refine ⟨fun k=>?_,.inl (Nat.le_trans s.next q)⟩;cases hF:F b k with
    | none=>rfl
    | some u=>have:=(hfr b k u hF).1;omega
  | succ i =>
   have hp':L[i]? = some p:=by simpa using hp
   obtain ⟨t1,t2⟩:=s.own (i+2) p (hL i p hp');exact ⟨p.t.frame t1 hn fun b hb'=>hk b (hout i p hp' b hb').1 (hout i p hp' b hb').2.1 (hout i p hp' b hb').2.2,t2⟩
 ·have cross:∀ (i:Nat) (p:Ob),L[i]? = some p→b∈o.bs→b∈p.bs→False:=fun i p hi h1 h2=>by
   obtain ⟨t1,t2,t3⟩:=hout i p hi b h2;rcases hb b h1 with q | q | q
   ·exact t2 q
   ·exact t3 q
   ·omega
  cases i with
  | zero =>
   simp at hi;subst hi;cases j with
   | zero=>rfl
   | succ j=>exact (cross j p' (by simpa using hj) hp hp').elim
  | succ i =>
   cases j with
   | zero=>simp at hj;subst hj;exact (cross i p (by simpa using hi) hp' hp).elim
   | succ j =>
    have:=s.apart (i+2) (j+2) p p' b (hL i p (by simpa using hi)) (hL j p' (by simpa using hj)) hp hp';omega
end
end Go.V
end
section
namespace Go.V
open Go.Wk
def To.tag {α:Type} (a b:To α) (hs:b.size=a.size):To (α × Bool) where
 size:=a.size
 rel F h bs cs x:=(x.2=true∧a.rel F h bs cs x.1)∨(x.2=false∧b.rel F h bs cs x.1)
 len:=fun q=>q.elim (fun q=>a.len q.2) fun q=>(b.len q.2).trans hs
 one:=fun q=>q.elim (fun q=>a.one q.2) fun q=>b.one q.2
 lt:=fun q=>q.elim (fun q=>a.lt q.2) fun q=>b.lt q.2
 nodup:=fun q=>q.elim (fun q=>a.nodup q.2) fun q=>b.nodup q.2
 mono:=fun l q=>q.imp (fun q=>⟨q.1,a.mono l q.2⟩) fun q=>⟨q.1,b.mono l q.2⟩
 frame:=fun q hn hk=>q.imp (fun q=>⟨q.1,a.frame q.2 hn hk⟩) fun q=>⟨q.1,b.frame q.2 hn hk⟩
section
variable {P:Program} {E:EL} {X:List Nat} {h0 h:Hp} {F0 F:Frz} {L:List Ob}
theorem E_putD {α β:Type} {t:To α} {s:To β} {ty:TypeId} {v u:Val} {bs bs2:List Nat} {xs:List α} {y:β} {xo yo:Operand} {o:Nat} (j f:Nat) (x x':α) (hpos:0 < t.size) (hx:evLO E xo=some (elp v o)) (hy:evLO E yo=some u) (hS:St X h0 F0 F (⟨s,bs2,[u],y⟩ :: .dp t bs v xs::L) h) (hj:xs[j]? = some x) (ho:o=j*t.size+f)
  (hc:u.cells=[u]) (hz:sz P ty=some 1) (hfit:f+1≤t.size) (hrel:∀ h cs e,t.rel F h e cs x→s.rel F h bs2 [u] y→t.rel F h bs2 (putL cs f [u]) x'):Ef P E h (.store ty xo yo) (fun _ h'=>∃ bs',St X h0 F0 F (.dp t bs' v (xs.set j x')::L) h'):=by
 have hk:(⟨s,bs2,[u],y⟩ :: .dp t bs v xs::L:List Ob)[1]? = some (.dp t bs v xs):=rfl;have ok1:s.rel F h bs2 [u] y:=hS.ok (i:=0) rfl;have hap:∀ g,g∈bs2→g ∉ bs:=fun g h1 h2=>by
  have:=hS.apart 0 1 _ _ g rfl hk h1 h2;omega
 obtain ⟨b,k,cs,e,q1,q2,q3,q4,q5,q6,q7⟩:=To.row_at hpos (hS.ok hk) hj;have hfr:∀ h',h'.next=h.next→(∀ g,g≠b→h'.get g=h.get g)→t.rel F h' bs2 (putL cs f [u]) x':=fun h' hn hg =>
  hrel _ _ _ (t.frame q5 (by rw [hn];exact Nat.le_refl _) fun g hg'=>hg g (q4 g hg').2) (s.frame ok1 (by rw [hn];exact Nat.le_refl _) fun g hg'=>hg g fun e=>hap g hg' (e ▸ q2))
 obtain ⟨h',bs',w1,w2,w3,w4,w5⟩:=q7 [u] f (putL cs f [u]) x' bs2 (s.one ok1) hfit rfl hfr (fun g hg=>.inl (hap g hg)) (fun g hg=>s.lt ok1 g hg) (s.nodup ok1);refine ⟨rfl,.no,h',?_,bs',hS.join _ w2 (by rw [w3];exact Nat.le_refl _) (fun b' hb=>?_) (fun b' hb _ hn=>w4 b' fun e'=>hn (by rw [e'];exact q2)) fun b' hb=>(w5 b' hb).elim (fun q=>.inr (.inl q)) fun q=>.inl q⟩
 ·rw [q1] at hx;subst ho;have hx':evLO E xo=some (.p (some (b,j*t.size+f))):=by rw [hx];simp [elp]
  simp only [opL,hx',hy,Option.bind_some,stV,hz,hc];rw [if_pos (show [u].length=1 from rfl)];have w1':wrH h b (j*t.size+f) [u]=some h':=w1;rw [w1'];rfl
 ·rw [w3] at hb;rw [w4 b' (by omega)];exact hS.wf b' hb
end
end Go.V
end
section
namespace Go.V
open Go.Wk
def T.mp {α β:Type} (f:α→β):T α→T β
 | .lf=>.lf
 | .nd v l r=>.nd (v.map f) (T.mp f l) (T.mp f r)
theorem T.get_mp {α β:Type} (f:α→β) (t:T α):∀ n,(t.mp f).get n=(t.get n).map f:=by
 induction t with
 | lf=>intro n;rfl
 | nd v l r ihl ihr =>
  intro n;cases n with
  | zero=>rfl
  | succ m =>
   simp only [T.mp,T.get];cases Nat.beq (m % 2) 0
   ·exact ihr _
   ·exact ihl _
def Blk.see:Blk→Blk
 | .cells _ c=>.ro c
 | .ro c=>.ro c
 | _=>.dead
def Hp.see (h:Hp):Hp:=⟨h.next,h.t.mp Blk.see⟩
theorem Hp.get_see (h:Hp) (b:Nat):h.see.get b=(h.get b).map Blk.see:=T.get_mp _ _ _
section
variable {P:Program} {ρ:Ren} {h:Hp} {w W:World} {b:Nat} {i:Info}
theorem bare_see (h:Hp) (b:Nat):Bare (h.see.set b .dead):=fun b' ⟨B,q1,q2⟩=>by
 rw [Hp.get_set] at q1
 split at q1
 ·obtain rfl:=Option.some.inj q1;cases q2
 ·rw [Hp.get_see] at q1;obtain ⟨B',_,rfl⟩:=Option.map_eq_some_iff.1 q1;cases B' <;> cases q2
theorem Rel.seen (r:Rel ρ h w) (hb:ρ b=some i) (ho:own h b) (hs:w.heap.size≤W.heap.size) (hk:∀ g,g < w.heap.size→g≠i.g→W.heap[g]? = w.heap[g]?):Rel ρ (h.see.set b .dead) W:=by
 refine ⟨fun b' i' e=>⟨(r.dom b' i' e).1,Nat.lt_of_lt_of_le (r.dom b' i' e).2 hs⟩,fun b' i' B e f=>?_,fun b1 b2 i1 i2 _ _ _ q=>absurd q (bare_see h b b2),fun b' hn=>?_⟩
 ·rw [Hp.get_set] at f
  split at f
  ·obtain rfl:=Option.some.inj f;trivial
  ·rename_i hne;rw [Hp.get_see] at f;obtain ⟨B',hg,rfl⟩:=Option.map_eq_some_iff.1 f;have hB:=r.blk b' i' B' e hg;have hlive:∀ B'' ,B' = B'' → B''.liveB=true→i'.g≠i.g:=fun B'' eq hl q=>hne (r.inj b' b i' i e hb ⟨B',hg,eq ▸ hl⟩ ho q);cases B' with
   | cells z c =>
    have hn:=hlive _ rfl rfl;obtain ⟨_,_,_,h4,_,h6⟩:=hB;refine ⟨h4,fun j u hj=>?_⟩;obtain ⟨u',a,q⟩:=h6 j u hj;exact ⟨u',by rw [zjf (a:=⟨i'.g,i'.base+j,none⟩) (hk _ (r.dom b' i' e).2 hn)];exact a,q⟩
   | ro c =>
    have hn:=hlive _ rfl rfl;obtain ⟨h4,h6⟩:=hB;refine ⟨h4,fun j u hj=>?_⟩;obtain ⟨u',a,q⟩:=h6 j u hj;exact ⟨u',by rw [zjf (a:=⟨i'.g,i'.base+j,none⟩) (hk _ (r.dom b' i' e).2 hn)];exact a,q⟩
   | map es=>trivial
   | dead=>trivial
 ·have hn':h.next≤b':=hn;rw [Hp.get_set,if_neg (by have:=(r.dom b i hb).1;omega),Hp.get_see,r.wf b' hn'];rfl
theorem hcell_see {q o:Nat} {u:Val} (hq:q≠b) (e:zfj h q o=some u):zfj (h.see.set b .dead) q o=some u:=by
 unfold zfj at e ⊢;rw [Hp.get_set,if_neg hq,Hp.get_see];cases hg:h.get q with
 | none=>rw [hg] at e;cases e
 | some B =>
  rw [hg] at e;cases B with
  | cells z c=>exact e
  | ro c=>exact e
  | map es=>cases e
  | dead=>cases e
theorem kept_grow {W w':World} (h:Kept W w'):∃ q os,w' = Go.Sort.grow (W.drewN q) os:=by
 refine ⟨w'.drawn - W.drawn,w'.heap.extract W.heap.size w'.heap.size,?_⟩;have h1:=h.os;have h2:=h.tape;have h3:=h.output;have h4:=h.drawn;have h5:=h.block;have h6:=h.size;obtain ⟨hp,tp,dr,os,out⟩:=w';simp only at h1 h2 h3 h4 h5 h6;subst h1;subst h2;subst h3;simp only [Go.Sort.grow,World.drewN]
 congr 1
 ·apply Array.ext_getElem?;intro i
  by_cases hi:i < W.heap.size
  ·rw [Array.getElem?_append_left hi,h5 i hi]
  ·rw [Array.getElem?_append_right (by omega)]
   by_cases hl:i < hp.size
   ·simp [hl,show i - W.heap.size < hp.size - W.heap.size by omega,show W.heap.size+(i - W.heap.size)=i by omega]
   ·rw [Array.getElem?_eq_none (by omega),Array.getElem?_eq_none (by simp;omega)]
 ·omega
end
def KSort (P:Program) (K0:Tb) (f z:Nat):Tb:=fun f' args h M=>f' = f ∧ ∃ (β:Type) (x0:β) (enc:β→Cl z) (cf:β→β→Int) (xs:List β) (g b:Nat) (k:Option Nat) (rest:List Val) (fn:Func) (c:Code),
 args=[.sl (some (b,0)) xs.length (.of z k),.f g []]∧h.get b=some (.cells z ((xs.map fun x=>(enc x).1).flatten++rest))∧0 < xs.length∧xs.length≤2 ^ 30∧0 < z∧Go.Sort.SWO (Go.Proofs.ltOf cf)∧(∀ x,(enc x).1.all Val.one=true) ∧
 P.funcs[g]? = some fn∧fn.body=some c∧fn.name ≠ "runtime.NumGoroutine" ∧
 (∀ x y h',Wf h' → (∀ q o u,q≠b→zfj h q o=some u→zfj h' q o=some u)→Ret P K0 g [.agg (enc x).1,.agg (enc y).1] h' fun v _=>v = .i .i64 (cf x y)) ∧
 ∀ S:List β,S.Perm xs→S.Pairwise (fun x y=>¬ cf y x < 0)→M (.tup []) (h.set b (.cells z ((S.map fun x=>(enc x).1).flatten++rest)))
section
open Go.Sort Go.Shelf Go.Proofs
abbrev znd (ρ:Ren) {β:Type} {z:Nat} (enc:β→Cl z):={ p:β × List Value // p.2.length=z∧VRL ρ (enc p.1).1 p.2 }
theorem pairsE {ρ:Ren} {β:Type} {z:Nat} (enc:β→Cl z):∀ (xs:List β) (us:List Value),VRL ρ ((xs.map fun x=>(enc x).1).flatten) us → ∃ ds:List (znd ρ enc),ds.map (fun p=>p.1.1)=xs∧(ds.map fun p=>p.1.2).flatten=us
 | [],us,h=>⟨[],rfl,by have:us=[]:=List.eq_nil_of_length_eq_zero (by rw [← h.1];rfl);rw [this];rfl⟩
 | x::xs,us,h=>by
  rw [List.map_cons,List.flatten_cons] at h;have hz:(enc x).1.length=z:=(enc x).2;have hlen:=h.1;rw [List.length_append,hz] at hlen;have h1:VRL ρ (enc x).1 (us.take z):=⟨by rw [List.length_take,hz];omega,fun j u u' a b=>h.2 j u u' (by rw [List.getElem?_append_left (List.getElem?_eq_some_iff.1 a).1];exact a) (by
   rw [List.getElem?_take] at b
   split at b
   ·exact b
   ·cases b)⟩
  have h2:VRL ρ (xs.map fun x=>(enc x).1).flatten (us.drop z):=⟨by rw [List.length_drop];omega,fun j u u' a b=>h.2 (z+j) u u' (by rw [List.getElem?_append_right (by omega),hz,Nat.add_sub_cancel_left];exact a) (by rw [List.getElem?_drop] at b;exact b)⟩
  obtain ⟨ds,q1,q2⟩:=pairsE enc xs _ h2;exact ⟨⟨(x,us.take z),by rw [List.length_take];omega,h1⟩::ds,by simp [q1],by simp [q2]⟩
theorem flatE {ρ:Ren} {β:Type} {z:Nat} (enc:β→Cl z) (ds:List (znd ρ enc)):VRL ρ ((ds.map fun p=>(enc p.1.1).1).flatten) (ds.map fun p=>p.1.2).flatten:=by
 induction ds with
 | nil=>exact VRL.nil
 | cons p ds ih=>exact p.2.2.append ih
theorem zxo {α:Type} [Inhabited α] {enc:α→List Value} {k:Nat} (hk:∀ x,(enc x).length=k) (hp:0 < k) (ds:List α) {j:Nat} {u:Value} (hj:(ds.map enc).flatten[j]? = some u):j < ds.length*k∧(flatK enc k ds.toArray)[j]! = u:=by
 have hl:(ds.map enc).flatten.length=ds.length*k:=by
  induction ds with
  | nil=>simp
  | cons d r ih =>
   clear hj
   have:∀ r:List α,(r.map enc).flatten.length=r.length*k:=fun r=>by
    induction r with
    | nil=>simp
    | cons d r ih=>rw [List.map_cons,List.flatten_cons,List.length_append,hk,ih,List.length_cons,Nat.add_mul];omega
   exact this _
 have hjl:j < ds.length*k:=by rw [← hl];exact (List.getElem?_eq_some_iff.1 hj).1
 refine ⟨hjl,?_⟩;have key:∀ (ds:List α) (j:Nat),j < ds.length*k→(ds.map enc).flatten[j]? = (ds[j / k]?).bind fun d=>(enc d)[j % k]?:=fun ds=>by
  induction ds with
  | nil=>intro j h;simp at h
  | cons d r ih =>
   intro j h;rw [List.map_cons,List.flatten_cons]
   by_cases hlt:j < k
   ·rw [List.getElem?_append_left (by rw [hk];exact hlt),Nat.div_eq_of_lt hlt,Nat.mod_eq_of_lt hlt];rfl
   ·have e1:j / k=(j - k) / k+1:=Nat.div_eq_sub_div hp (by omega);have e2:j % k=(j - k) % k:=Nat.mod_eq_sub_mod (by omega);rw [List.getElem?_append_right (by rw [hk];omega),hk,ih (j - k) (by rw [List.length_cons,Nat.add_mul] at h;omega),e1,e2];rfl
 rw [key ds j hjl,Option.bind_eq_some_iff] at hj;obtain ⟨d,q1,q2⟩:=hj;rw [get_flatK _ _ _ _ (by simpa using hjl)];have hi:=List.getElem?_eq_some_iff.1 q1;have hd:ds.toArray[j / k]! = d:=by rw [getElem!_pos ds.toArray (j / k) (by simpa using hi.1)];simpa using hi.2
 rw [hd];have hq:=List.getElem?_eq_some_iff.1 q2;rw [getElem!_pos (enc d) (j % k) hq.1];exact hq.2
section
variable {P:Program} {K0:Tb} {ρs:Go.Shelf.Ren} {f z:Nat} {ff:Func} {cf0:Code}
theorem KSort_ok (hK0:KOk P K0) (L:SlLaysF0.n6 P ρs) (hf:ρs.f 6=f) (aE:∀ w,(isAgg (ρs.t 24)).run P w = .ok true w) (zE:∀ w,(Go.sizeOf (ρs.t 24)).run P w = .ok z w) (hff:P.funcs[f]? = some ff) (hbf:ff.body=some cf0) (hnf:ff.name ≠ "runtime.NumGoroutine"):KOk P (KSort P K0 f z):=by
 rintro f' args h M ⟨rfl,β,x0,enc,cf,xs,g,b,k,rest,fn,c,rfl,hget,hpos,hfew,hz,hO,h1,hg1,hg2,hg3,hcmp,hM⟩ ρ w args' r hr;have hob:own h b:=⟨_,hget,rfl⟩
 have main:∀ (i:Info) (c':Nat),ρ b=some i→CallR P f' #[.slice (some ⟨i.g,i.base+0,none⟩) xs.length c',.func (.func g) #[] #[]] w fun v' w'=>∃ v h' ρ',M v h' ∧ VR ρ' v v' ∧ Rel ρ' h' w' ∧ Ext ρ h w ρ' h' w':=by
  intro i c' hb;obtain ⟨b1,b2,b3,b4,⟨b5,b6⟩,b7⟩:=r.blk b i _ hb hget;obtain ⟨hbn,hgs⟩:=r.dom b i hb;have hcl:((xs.map fun x=>(enc x).1).flatten).length=xs.length*z:=by
   have:=zgn (xs.map enc);simpa [List.map_map,Function.comp_def] using this
  let us:List Value:=(List.range (xs.length*z)).map fun j=>(w.cell? ⟨i.g,i.base+j,none⟩).getD undef
  have hus:VRL ρ ((xs.map fun x=>(enc x).1).flatten) us:=⟨by simp [us,hcl],fun j u u' a q=>by
   have hj:j < xs.length*z:=by rw [← hcl];exact (List.getElem?_eq_some_iff.1 a).1
   obtain ⟨u2,p1,p2⟩:=b7 j u (by rw [List.getElem?_append_left (by rw [hcl];exact hj)];exact a);simp [us,hj,p1] at q;subst q;exact p2⟩
  obtain ⟨ds,d1,d2⟩:=pairsE enc xs us hus;have hdl:ds.length=xs.length:=by rw [← d1,List.length_map]
  obtain ⟨d0,hd0⟩:∃ d0,ds[0]? = some d0:=⟨_,List.getElem?_eq_getElem (by omega)⟩
  haveI:Inhabited (znd ρ enc):=⟨d0⟩
  have hk:∀ p:znd ρ enc,p.1.2.length=z:=fun p=>p.2.1;have hone:∀ p:znd ρ enc,∀ v∈p.1.2,v.oneCell' = true:=fun p=>p.2.2.one (h1 _);have hO':SWO (ltOf fun p q:znd ρ enc=>cf p.1.1 q.1.1):=⟨fun x=>hO.irrefl _,fun x y z=>hO.trans _ _ _,fun x y z=>hO.ntrans _ _ _⟩
  have hcellD:∀ j,j < ds.length*z→w.cell? ⟨i.g,i.base+j,none⟩=some ((flatK (fun p:znd ρ enc=>p.1.2) z ds.toArray)[j]!):=fun j hj=>by
   obtain ⟨u,hu⟩:∃ u,((ds.map fun p=>p.1.2).flatten)[j]? = some u:=by
    rw [d2];exact ⟨_,List.getElem?_eq_getElem (by simp [us];rw [← hdl];exact hj)⟩
   rw [(zxo hk hz ds hu).2];rw [d2] at hu;have hj':j < xs.length*z:=by rw [← hdl];exact hj
   have hs:=(b5 (i.base+j) (by rw [b2,List.length_append,hcl] at b3;omega)).1;obtain ⟨u2,hu2⟩:=Option.isSome_iff_exists.1 hs;simp [us,hj',hu2] at hu;rw [hu2,hu]
  have hHold:HoldsK (fun p:znd ρ enc=>p.1.2) z w i.g i.base ds.toArray:=by
   intro j hj;have hj':j < ds.length*z:=by simpa using hj
   refine ⟨hcellD j hj',(b5 (i.base+j) ?_).2⟩;rw [hdl] at hj';rw [b2,List.length_append,hcl] at b3;omega
  have hcon:=AnyQ.slices_SortFunc L z aE zE (fun p:znd ρ enc=>p.1.2) hk hone (fun p q=>cf p.1.1 q.1.1) hO' g #[] i.g i.base c' ds.toArray w (fun args w=>zqb hg1 hg2 hg3 args w) (fun m os dk _ x y=>by
   have hsz:w.heap.size≤(sortWorldK (fun p:znd ρ enc=>p.1.2) z w i.g i.base m dk os).heap.size:=by
    show w.heap.size≤((mapBlock (Go.Sort.ahead w m) i.g _).heap++os).size;simp [mapBlock,Go.Sort.ahead]
   have hoth:∀ q,q < w.heap.size→q≠i.g→(sortWorldK (fun p:znd ρ enc=>p.1.2) z w i.g i.base m dk os).heap[q]? = w.heap[q]?:=fun q hq hqg=>by
    show ((mapBlock (Go.Sort.ahead w m) i.g _).heap++os)[q]? = _;rw [Array.getElem?_append_left (by simp [mapBlock,Go.Sort.ahead];omega)];simp [mapBlock,Go.Sort.ahead,Array.getElem?_modify];intro h;exact absurd h.symm hqg
   have hR:=r.seen hb hob hsz hoth;have hwf:Wf (h.see.set b .dead):=hR.wf;have hx:=hcmp x.1.1 y.1.1 _ hwf (fun q o u hq e=>hcell_see hq e);have hv:VRL ρ [.agg (enc x.1.1).1,.agg (enc y.1.1).1] [.agg x.1.2.toArray,.agg y.1.2.toArray]:=VRL.cons (.agg x.2.2.1 x.2.2.2) (VRL.cons (.agg y.2.2.1 y.2.2.2) VRL.nil);refine Calls.mono (XW.back (M:=fun v _=>v = .i .i64 (cf x.1.1 y.1.1)) hK0 hg1 hg2 hg3 hR hv hx) fun e w' hq=>?_;cases e with
   | returned v' =>
    obtain ⟨v,h',ρ',rfl,q2,q3,q4⟩:=hq;cases q2;obtain ⟨q,os',e⟩:=kept_grow (q4.kept (bare_see h b));exact ⟨rfl,q,os',e⟩
   | _=>exact hq.elim) hHold hgs (by simp;omega)
  refine .inl ⟨by rw [← hf];rw [hf];exact zqb hff hbf hnf _ w,?_⟩;rw [hf] at hcon;simp only [List.size_toArray,hdl] at hcon;rw [Nat.add_zero];refine Calls.mono hcon fun e w' hq=>?_;obtain ⟨rfl,d',n,os,hp,hso,rfl⟩:=hq;have hpS:d'.toList.Perm ds:=by
   have h3:=hp.2.2;have h4:d'.size=xs.length:=by have:=hp.1;simp at this;omega
   simp only [List.extract_toArray] at h3;rw [← h4] at h3;rw [Array.extract_size] at h3;have h5:d'.size=ds.length:=by omega
   simpa [h5] using h3
  have hdl':d'.toList.toArray=d':=by simp
  rw [← hdl'] at hso ⊢;generalize d'.toList=S at *;have hSl:S.length=xs.length:=by rw [hpS.length_eq,hdl]
  have hrise:(S.map fun p=>p.1.1).Pairwise fun x y=>¬ cf y x < 0:=by
   rw [List.pairwise_map,List.pairwise_iff_getElem];intro a q ha hq haq;have h3:=hso a q (Nat.zero_le _) haq (by rw [← hSl];exact hq);rw [getElem!_pos S.toArray a (by simpa using ha),getElem!_pos S.toArray q (by simpa using hq)] at h3;simpa [ltOf] using h3
  have hperm:(S.map fun p=>p.1.1).Perm xs:=by rw [← d1];exact hpS.map _
  have hMS:=hM _ hperm hrise;have hSf:((S.map fun p=>p.1.1).map fun x=>(enc x).1).flatten=(S.map fun p=>(enc p.1.1).1).flatten:=by rw [List.map_map];rfl
  rw [hSf] at hMS;have hSlen:((S.map fun p=>(enc p.1.1).1).flatten).length=xs.length*z:=by
   have:=zgn ((S.map fun p=>p.1.1).map enc);simpa [List.map_map,Function.comp_def,hSl] using this
  obtain ⟨hgc,hge,hgf,hgb⟩:∃ c e fr,w.heap[i.g]? = some (.cells c e fr):=by
   have hs:=(b5 i.base (by rw [b2,List.length_append,hcl] at b3;have:=Nat.mul_pos hpos hz;omega)).1;obtain ⟨u,hu⟩:=Option.isSome_iff_exists.1 hs;obtain ⟨c,e,fr,q,_⟩:=cells_of_cell? hu;exact ⟨c,e,fr,q⟩
  have hW:∀ q,q < w.heap.size→q≠i.g→(sortWorldK (fun p:znd ρ enc=>p.1.2) z w i.g i.base n S.toArray os).heap[q]? = w.heap[q]?:=fun q hq hqg=>by
   show ((mapBlock (Go.Sort.ahead w n) i.g _).heap++os)[q]? = _;rw [Array.getElem?_append_left (by simp [mapBlock,Go.Sort.ahead];omega)];simp [mapBlock,Go.Sort.ahead,Array.getElem?_modify];intro h;exact absurd h.symm hqg
  have hWg:(sortWorldK (fun p:znd ρ enc=>p.1.2) z w i.g i.base n S.toArray os).heap[i.g]? = some (.cells (Go.Sort.putCells id i.base (flatK (fun p:znd ρ enc=>p.1.2) z S.toArray) hgc) hge hgf):=by
   show ((mapBlock (Go.Sort.ahead w n) i.g _).heap++os)[i.g]? = _;rw [Array.getElem?_append_left (by simp [mapBlock,Go.Sort.ahead];exact hgs)];simp [mapBlock,Go.Sort.ahead,Array.getElem?_modify,hgb,onCells]
  have hcW:∀ o,(sortWorldK (fun p:znd ρ enc=>p.1.2) z w i.g i.base n S.toArray os).cell? ⟨i.g,o,none⟩=if i.base≤o∧o < i.base+xs.length*z then some ((flatK (fun p:znd ρ enc=>p.1.2) z S.toArray)[o - i.base]!) else w.cell? ⟨i.g,o,none⟩:=fun o=>by
   have hlt:i.base+xs.length*z≤hgc.size:=by
    have hs:=(b5 (i.base+xs.length*z - 1) (by rw [b2,List.length_append,hcl] at b3;have:=Nat.mul_pos hpos hz;omega)).1;obtain ⟨u,hu⟩:=Option.isSome_iff_exists.1 hs;simp only [World.cell?,hgb] at hu;have:=(Array.getElem?_eq_some_iff.1 hu).1;have:=Nat.mul_pos hpos hz;omega
   simp only [World.cell?,hWg,hgb,Go.Sort.putCells,Array.getElem?_mapIdx,size_flatK,List.size_toArray,hSl]
   by_cases ho:i.base≤o∧o < i.base+xs.length*z
   ·rw [if_pos ho,Array.getElem?_eq_getElem (by omega)];simp [ho]
   ·rw [if_neg ho];cases hgc[o]? with
    | none=>rfl
    | some v=>simp only [Option.map_some,if_neg ho]
  have hfW:∀ o,(sortWorldK (fun p:znd ρ enc=>p.1.2) z w i.g i.base n S.toArray os).frozen? ⟨i.g,o,none⟩=w.frozen? ⟨i.g,o,none⟩:=fun o=>by simp only [World.frozen?,hWg,hgb]
  have hszW:w.heap.size≤(sortWorldK (fun p:znd ρ enc=>p.1.2) z w i.g i.base n S.toArray os).heap.size:=by
   show w.heap.size≤((mapBlock (Go.Sort.ahead w n) i.g _).heap++os).size;simp [mapBlock,Go.Sort.ahead]
  have hgoodn:∀ b' i',ρ b' = some i' → b' ≠ b → ∀ B,h.get b' = some B→B.liveB=true→i'.g≠i.g:=fun b' i' e hne B hB hl q=>hne (r.inj b' b i' i e hb ⟨B,hB,hl⟩ hob q);refine ⟨.tup [],_,ρ,hMS,.tup rfl (fun j u u' a _=>by simp at a),⟨fun b' i' e=>⟨(r.dom b' i' e).1,Nat.lt_of_lt_of_le (r.dom b' i' e).2 hszW⟩,fun b' i' B e q=>?_,fun b1' b2' i1 i2 e1 e2 l1 l2 q=>?_,fun b' hn=>?_⟩,⟨Ren.le.refl _,Nat.le_refl _,fun b' hb' _=>⟨hb',?_⟩,hszW,fun g' hg' hno=>⟨hW g' hg' fun q=>hno b i hb hob q.symm,fun b' i' e o=>?_⟩,rfl,rfl,rfl,?_⟩⟩
  ·rw [Hp.get_set] at q
   split at q
   ·rename_i hbb;subst hbb;rw [hb] at e;obtain rfl:=Option.some.inj e;obtain rfl:=Option.some.inj q;refine ⟨b1,by rw [b2,List.length_append,List.length_append,hcl,hSlen],b3,?_,⟨fun o ho=>?_,fun c2 e2 fz hq=>?_,fun o u hq=>?_,fun hz1 c2 e2 fz hq=>?_⟩,fun j u hj=>?_⟩
    ·rw [List.all_append] at b4 ⊢;simp only [Bool.and_eq_true] at b4 ⊢;refine ⟨List.all_eq_true.2 fun u hu=>?_,b4.2⟩;obtain ⟨l,hl,hu⟩:=List.mem_flatten.1 hu;obtain ⟨p,_,rfl⟩:=List.mem_map.1 hl;exact List.all_eq_true.1 (h1 p.1.1) u hu
    ·rw [hfW,hcW];refine ⟨?_,(b5 o ho).2⟩
     split
     ·rfl
     ·exact (b5 o ho).1
    ·rw [hWg] at hq;simp only [Option.some.injEq,Obj.cells.injEq] at hq;obtain ⟨_,_,rfl⟩:=hq;exact b6.1 _ _ _ hgb
    ·rw [hcW] at hq
     split at hq
     ·obtain rfl:=Option.some.inj hq;rename_i ho;obtain ⟨u',hu'⟩:∃ u',((S.map fun p=>p.1.2).flatten)[o - i.base]? = some u':=by
       have:=(flatE enc S).1;rw [hSlen] at this;exact ⟨_,List.getElem?_eq_getElem (by rw [← this];omega)⟩
      rw [(zxo hk hz S hu').2];exact (flatE enc S).one (List.all_eq_true.2 fun x hx=>by
       obtain ⟨l,hl,hx⟩:=List.mem_flatten.1 hx;obtain ⟨p,_,rfl⟩:=List.mem_map.1 hl;exact List.all_eq_true.1 (h1 p.1.1) x hx) _ (List.mem_of_getElem? hu')
     ·exact b6.2.1 o u hq
    ·rw [hWg] at hq;simp only [Option.some.injEq,Obj.cells.injEq] at hq;obtain ⟨_,_,rfl⟩:=hq;exact b6.2.2 hz1 _ _ _ hgb
    ·rw [hcW]
     by_cases hjl:j < xs.length*z
     ·rw [List.getElem?_append_left (by rw [hSlen];exact hjl)] at hj;obtain ⟨u',p1,p2⟩:=(flatE enc S).at hj;rw [if_pos ⟨by omega,by omega⟩,Nat.add_sub_cancel_left,(zxo hk hz S p1).2];exact ⟨u',rfl,p2⟩
     ·rw [List.getElem?_append_right (by rw [hSlen];omega),hSlen] at hj;rw [if_neg (by omega)];exact b7 j u (by rw [List.getElem?_append_right (by rw [hcl];omega),hcl];exact hj)
   ·rename_i hne;cases hl:B.liveB with
    | true=>exact (r.blk b' i' B e q).congr (Ren.le.refl _) (hW _ (r.dom b' i' e).2 (hgoodn b' i' e hne B q hl))
    | false=>cases B <;> first | trivial | cases hl
  ·have cv:∀ x,live (h.set b (.cells z ((S.map fun p=>(enc p.1.1).1).flatten++rest))) x→live h x:=fun x ⟨B,p1,p2⟩=>by
    rw [Hp.get_set] at p1
    split at p1
    ·rename_i hx;exact ⟨_,hx ▸ hget,rfl⟩
    ·exact ⟨B,p1,p2⟩
   have co:∀ x,own (h.set b (.cells z ((S.map fun p=>(enc p.1.1).1).flatten++rest))) x→own h x:=fun x ⟨B,p1,p2⟩=>by
    rw [Hp.get_set] at p1
    split at p1
    ·rename_i hx;exact ⟨_,hx ▸ hget,rfl⟩
    ·exact ⟨B,p1,p2⟩
   exact r.inj b1' b2' i1 i2 e1 e2 (cv _ l1) (co _ l2) q
  ·have hn':h.next≤b':=hn;rw [Hp.get_set,if_neg (by omega)];exact r.wf b' hn'
  ·rw [Hp.get_set,if_neg (fun q=>by rw [q,hb] at hb';cases hb')]
  ·have:own h b':=by
    obtain ⟨B,p1,p2⟩:=o;rw [Hp.get_set] at p1
    split at p1
    ·rename_i hx;exact ⟨_,hx ▸ hget,rfl⟩
    ·exact ⟨B,p1,p2⟩
   exact hno b' i' e this
  ·show w.drawn≤w.drawn+n;omega
 match args',hr with
 | [u,v],hr =>
  have hu:=hr.head;have hv:=hr.tail.head;cases hv with
  | @f _ _ vs hl _ =>
   have:vs=[]:=List.eq_nil_of_length_eq_zero hl.symm;subst this;generalize Cap.of z k=cp at hu;cases hu with
   | sk hb _=>exact main _ _ hb
   | so hb _ _ _=>exact main _ _ hb
 | [],hr=>exact absurd hr.1 (by simp)
 | [_],hr=>exact absurd hr.1 (by simp)
 | _::_::_::_,hr=>exact absurd hr.1 (by simp)
end
end
end Go.V
end
section
namespace Go.Wk
open Go.Shelf Go.Sort Go.Lib Go.Proofs
section
variable {α:Type}
def ins (cf:α→α→Int) (x:α):List α→List α
 | []=>[x]
 | y::l=>if cf x y < 0 then x::y::l else y::ins cf x l
def isort (cf:α→α→Int) (l:List α):List α:=l.foldr (ins cf) []
theorem ins_perm (cf:α→α→Int) (x:α) (l:List α):(ins cf x l).Perm (x::l):=by
 induction l with
 | nil=>exact List.Perm.refl _
 | cons y l ih =>
  unfold ins
  split
  ·exact List.Perm.refl _
  ·exact (List.Perm.cons y ih).trans (List.Perm.swap x y l)
theorem zro (cf:α→α→Int) (l:List α):(isort cf l).Perm l:=by
 induction l with
 | nil=>exact List.Perm.refl _
 | cons x l ih=>exact (ins_perm cf x _).trans (List.Perm.cons x ih)
def Rise (cf:α→α→Int) (l:List α):Prop:=l.Pairwise fun x y=>¬ cf y x < 0
theorem ins_rise {cf:α→α→Int} (hO:SWO (ltOf cf)) (x:α) (l:List α) (h:Rise cf l):Rise cf (ins cf x l):=by
 induction l with
 | nil=>simp [ins,Rise]
 | cons y l ih =>
  have h':=List.pairwise_cons.1 h;unfold ins
  split
  ·rename_i hxy;refine List.pairwise_cons.2 ⟨fun z hz hzx=>?_,h⟩;have e1:ltOf cf x y=true:=by simpa [ltOf] using hxy
   have e2:ltOf cf z x=true:=by simpa [ltOf] using hzx
   have e3:=hO.trans z x y e2 e1;have e3':cf z y < 0:=by simpa [ltOf] using e3
   rcases List.mem_cons.1 hz with rfl | hz
   ·have:=hO.irrefl z;rw [e3] at this;cases this
   ·exact h'.1 z hz e3'
  ·rename_i hxy;refine List.pairwise_cons.2 ⟨fun z hz=>?_,ih h'.2⟩;rcases List.mem_cons.1 ((ins_perm cf x l).mem_iff.1 hz) with rfl | hz
   ·exact hxy
   ·exact h'.1 z hz
theorem zvu {cf:α→α→Int} (hO:SWO (ltOf cf)) (l:List α):Rise cf (isort cf l):=by
 induction l with
 | nil=>exact List.Pairwise.nil
 | cons x l ih=>exact ins_rise hO x _ ih
theorem rise_unique {cf:α→α→Int} (hT:∀ x y,ltOf cf x y=false→ltOf cf y x=false→x=y) {a b:List α} (h1:Rise cf a) (h2:Rise cf b) (hp:a.Perm b):a=b :=
 List.Perm.eq_of_pairwise (le:=fun x y=>¬ cf y x < 0) (fun x y _ _ h3 h4=>hT x y (by simpa [ltOf] using h4) (by simpa [ltOf] using h3)) h1 h2 hp
end
theorem sLt_eq:∀ (x y:List UInt8),sLt x y=decide (x < y)
 | [],[]=>by simp [sLt,Op.bytesLess]
 | _::_,[]=>by simp [sLt,Op.bytesLess]
 | [],_::_=>by simp [sLt,Op.bytesLess]
 | a::x,b::y=>by
  have h:=sLt_eq x y;rw [sLt] at h ⊢;rw [Op.bytesLess,h];simp only [List.cons_lt_cons_iff]
  by_cases h1:a < b <;> by_cases h2:a=b <;> by_cases h3:x < y <;> simp [h1,h2,h3]
theorem zhj (x:List UInt8):sLt x x=false:=by rw [sLt_eq];simp [List.lt_irrefl]
theorem zhv {x y z:List UInt8} (h1:sLt x y=true) (h2:sLt y z=true):sLt x z=true:=by
 rw [sLt_eq,decide_eq_true_eq] at *;exact List.lt_trans h1 h2
theorem zrh {x y:List UInt8} (h1:sLt x y=false) (h2:sLt y x=false):x=y:=by
 rw [sLt_eq,decide_eq_false_iff_not,List.not_lt] at *;exact List.le_antisymm h2 h1
theorem sLt_asymm {x y:List UInt8} (h1:sLt x y=true):sLt y x=false:=by
 cases h:sLt y x with
 | false=>rfl
 | true=>have:=zhv h1 h;rw [zhj] at this;cases this
theorem zut (a b:List UInt8):ltOf cmpT a b=sLt a b:=by
 simp only [ltOf,cmpT]
 by_cases h:sLt a b=true
 ·simp [h]
 ·by_cases h2:sLt b a=true <;> simp [h,h2]
theorem swo_sLt:SWO sLt:=⟨zhj,fun _ _ _=>zhv,fun x y z h1 h2=>by
 rw [sLt_eq,decide_eq_false_iff_not,List.not_lt] at *;exact List.le_trans h2 h1⟩
theorem swo_of {α:Type} {cf:α→α→Int} {f:α→List UInt8} (h:∀ x y,ltOf cf x y=sLt (f x) (f y)):SWO (ltOf cf) :=
 ⟨fun x=>by rw [h];exact swo_sLt.irrefl _,fun x y z h1 h2=>by rw [h] at *;exact swo_sLt.trans _ _ _ h1 h2,fun x y z h1 h2=>by rw [h] at *;exact swo_sLt.ntrans _ _ _ h1 h2⟩
theorem gtr_eq (a b:List UInt8):(!(sLt a b||a == b))=sLt b a:=by
 cases h:sLt a b with
 | true=>rw [sLt_asymm h];rfl
 | false =>
  cases h2:sLt b a with
  | true =>
   have:a≠b:=by intro e;subst e;rw [zhj] at h2;cases h2
   simp [this]
  | false=>have:=zrh h h2;simp [this]
end Go.Wk
end
section
namespace Go.V
open Go.Wk Go.Sort Go.Proofs
section
variable {α:Type} {t:To α} {F:Frz} {h:Hp}
abbrev Elem (t:To α) (F:Frz) (h:Hp):={ p:Cl t.size × List Nat × α // t.rel F h p.2.1 p.1.1 p.2.2 }
theorem elems:∀ {css:List (Cl t.size)} {bss:List (List Nat)} {xs:List α},RowE t F h css bss xs → ∃ ds:List (Elem t F h),ds.map (fun p=>p.1.1)=css∧ds.map (fun p=>p.1.2.1)=bss∧ds.map (fun p=>p.1.2.2)=xs
 | [],[],[],_=>⟨[],rfl,rfl,rfl⟩
 | c::css,e::bss,x::xs,r=>by
  obtain ⟨ds,h1,h2,h3⟩:=elems (css:=css) (bss:=bss) (xs:=xs) ⟨by simpa using r.csl,by simpa using r.bsl,fun i d x e q1 q2 q3=>r.rel (i+1) d x e (by simpa using q1) (by simpa using q2) (by simpa using q3)⟩;exact ⟨⟨(c,e,x),r.rel 0 c x e rfl rfl rfl⟩::ds,by simp [h1],by simp [h2],by simp [h3]⟩
 | [],_::_,_,r=>by have:=r.csl;have:=r.bsl;simp at *;omega
 | [],[],_::_,r=>by have:=r.csl;simp at this
 | _::_,[],_,r=>by have:=r.csl;have:=r.bsl;simp at *;omega
 | _::_,_::_,[],r=>by have:=r.csl;simp at this
theorem elems_row (ds:List (Elem t F h)):RowE t F h (ds.map fun p=>p.1.1) (ds.map fun p=>p.1.2.1) (ds.map fun p=>p.1.2.2) :=
 ⟨by simp,by simp,fun i d x e q1 q2 q3=>by
  simp only [List.getElem?_map,Option.map_eq_some_iff] at q1 q2 q3;obtain ⟨p,hp,rfl⟩:=q1;obtain ⟨p2,hp2,rfl⟩:=q2;obtain ⟨p3,hp3,rfl⟩:=q3;rw [hp] at hp2 hp3;obtain rfl:=Option.some.inj hp2;obtain rfl:=Option.some.inj hp3;exact p.2⟩
theorem perm_flatten {β:Type} {a b:List (List β)} (p:a.Perm b):a.flatten.Perm b.flatten:=by
 induction p with
 | nil=>exact List.Perm.refl _
 | cons x _ ih=>simpa using ih.append_left x
 | swap x y l=>simp only [List.flatten_cons,← List.append_assoc];exact List.Perm.append_right _ List.perm_append_comm
 | trans _ _ ih1 ih2=>exact ih1.trans ih2
end
theorem sort_dp {P:Program} {K K0:Tb} {α:Type} {t:To α} {tr:Tr α} {f g z:Nat} {cf:α→α→Int} {fn:Func} {c:Code} (hK:∀ args h M,KSort P K0 f z f args h M→K f args h M) (hz:t.size=z) (hpos:0 < z) (hs:Sees t tr) (hO:SWO (ltOf cf)) (hg1:P.funcs[g]? = some fn) (hg2:fn.body=some c) (hg3:fn.name ≠ "runtime.NumGoroutine")
  (h0:∀ a k w,Ret P K f [.sl a 0 k,.f g []] w fun u w'=>u = .tup []∧w' = w)
  (hcmp:∀ G h' cs x ds y,Gd G h' → tr.rel G cs x→tr.rel G ds y→Ret P K0 g [.agg cs,.agg ds] h' fun v _=>v = .i .i64 (cf x y))
  {F:Frz} {w:Hp} {bs:List Nat} {v:Val} {xs:List α} (hS:St bs w F F [.dp t bs v xs] w):Ret P K f [v,.f g []] w fun u w'=>u = .tup [] ∧ ∃ l' bs',l'.Perm xs∧Rise cf l' ∧ St bs w F F [.dp t bs' v l'] w':=by
 subst hz;have key0:∀ a k,v = .sl a 0 k→xs=[]→Ret P K f [v,.f g []] w fun u w'=>u = .tup [] ∧ ∃ l' bs',l'.Perm xs∧Rise cf l' ∧ St bs w F F [.dp t bs' v l'] w':=fun a k hv hx=>by
  subst hv;subst hx;refine (h0 a k w).mono fun u w' ⟨q1,q2⟩=>⟨q1,[],bs,List.Perm.refl _,List.Pairwise.nil,by rw [q2];exact hS⟩
 obtain ⟨v0,hv0,r⟩:=hS.ok (i:=0) rfl;obtain rfl:=List.head_eq_of_cons_eq hv0;rcases r with ⟨rfl,hxs,_⟩ | ⟨b,cl,k,css,bss,r⟩
 ·exact key0 _ _ rfl hxs
 ·have hf:v = .sl (some (b,0)) xs.length (.of t.size k):=r.form
  by_cases hx:xs.length=0
  ·exact key0 _ _ (by rw [hf,hx]) (List.eq_nil_of_length_eq_zero hx)
  have hE:RowE t F w css bss xs:=⟨r.csl,r.bsl,r.rel⟩
  obtain ⟨ds,d1,d2,d3⟩:=elems hE;have hdl:ds.length=xs.length:=by rw [← d3,List.length_map]
  have hfo:bs=b::bss.flatten:=r.foot;have hnod:bs.Nodup:=r.nodup;rw [hfo] at hnod;obtain ⟨hb1,hb2⟩:=List.nodup_cons.1 hnod;have hblk:w.get b=some (.cells t.size cl):=r.blk;have hcl:cl=((ds.map fun p=>p.1.1.1).flatten)++cl.drop (xs.length*t.size):=by
   have h1:cl.take (xs.length*t.size)=(ds.map fun p=>p.1.1.1).flatten:=by
    have:=r.cells;rw [← d1,List.map_map] at this;exact this
   rw [← h1,List.take_append_drop]
  have hFb:∀ o,F b o=none:=(hS.own 0 _ rfl).2 b (by show b∈bs;rw [hfo];simp) |>.1;have hEb:∀ p:Elem t F w,p∈ds → ∀ q,q∈p.1.2.1→q∈bss.flatten:=fun p hp q hq=>List.mem_flatten.2 ⟨p.1.2.1,by rw [← d2];exact List.mem_map_of_mem hp,hq⟩;rw [hf];obtain ⟨p0,hp0⟩:∃ p0,ds[0]? = some p0:=⟨_,List.getElem?_eq_getElem (by omega)⟩
  let β:={ p:Elem t F w // p∈ds }
  have hatt:(ds.attach.map fun p=>p.1)=ds:=List.attach_map_subtype_val ds;have hattl:ds.attach.length=xs.length:=by rw [List.length_attach,hdl]
  have hKs:KSort P K0 f t.size f [.sl (some (b,0)) xs.length (.of t.size k),.f g []] w fun u w'=>u = .tup [] ∧ ∃ l' bs',l'.Perm xs∧Rise cf l' ∧ St bs w F F [.dp t bs' (.sl (some (b,0)) xs.length (.of t.size k)) l'] w':=by
   refine ⟨rfl,β,⟨p0,List.mem_of_getElem? hp0⟩,fun p=>p.1.1.1,fun p q=>cf p.1.1.2.2 q.1.1.2.2,ds.attach,g,b,k,cl.drop (xs.length*t.size),fn,c,by rw [hattl],?_,by rw [hattl];omega,by rw [hattl];exact r.few,hpos,⟨fun x=>hO.irrefl _,fun x y z=>hO.trans _ _ _,fun x y z=>hO.ntrans _ _ _⟩,fun x=>t.one x.1.2,hg1,hg2,hg3,fun x y h' hw hh=>?_,fun S hp hr=>?_⟩
   ·rw [hblk];have e:(ds.attach.map fun x:β=>x.1.1.1.1).flatten=(ds.map fun p=>p.1.1.1).flatten:=by
     conv=>rhs;rw [← hatt]
     rw [List.map_map];rfl
    rw [e,← hcl]
   ·have hG:Gd (fun q o=>if q=b then none else zfj w q o) h':=⟨hw,fun q o u e=>by
     by_cases hq:q=b
     ·rw [if_pos hq] at e;cases e
     ·rw [if_neg hq] at e;exact hh q o u hq e⟩
    have hl:F.le fun q o=>if q=b then none else zfj w q o:=fun q o u e=>by
     by_cases hq:q=b
     ·rw [hq,hFb] at e;cases e
     ·show (if q=b then none else zfj w q o)=some u;rw [if_neg hq];exact hS.agree q o u e
    have hrel:∀ p:β,tr.rel (fun q o=>if q=b then none else zfj w q o) p.1.1.1.1 p.1.1.2.2:=fun p=>hs.rel p.1.2 hl fun q hq o u e=>by
     show (if q=b then none else zfj w q o)=some u;have hqb:q≠b:=fun z=>hb1 (by rw [← z];exact hEb p.1 p.2 q hq);rw [if_neg hqb];exact e
    exact hcmp _ _ _ _ _ _ hG (hrel x) (hrel y)
   ·have hpS:(S.map fun p=>p.1).Perm ds:=by have:=hp.map (fun p:β=>p.1);rw [hatt] at this;exact this
    generalize hT:(S.map fun p=>p.1)=T at hpS;have hTl:T.length=xs.length:=by rw [hpS.length_eq,hdl]
    have hTr:(T.map fun p=>p.1.2.2).Pairwise fun x y=>¬ cf y x < 0:=by
     rw [← hT,List.map_map,List.pairwise_map];exact hr
    have hTc:(S.map fun x:β=>x.1.1.1.1).flatten=(T.map fun p=>p.1.1.1).flatten:=by rw [← hT,List.map_map];rfl
    rw [hTc];have hTE:=elems_row T;have hbp:(T.map fun p=>p.1.2.1).flatten.Perm bss.flatten:=by rw [← d2];exact perm_flatten (hpS.map _)
    have hlx:(T.map fun p=>p.1.2.2).length=xs.length:=by rw [List.length_map,hTl]
    have hflt:((T.map fun p=>p.1.1).map Subtype.val).flatten=(T.map fun p=>p.1.1.1).flatten:=by rw [List.map_map];rfl
    have hfl:((T.map fun p=>p.1.1.1).flatten).length=xs.length*t.size:=by rw [← hflt,zgn,List.length_map,hTl]
    have hcll:cl.length=xs.length*t.size+(cl.drop (xs.length*t.size)).length:=by
     conv=>lhs;rw [hcl]
     rw [List.length_append]
     congr 1
     have:=zgn (ds.map fun p=>p.1.1);rw [List.map_map,List.length_map,hdl] at this;exact this
    have hnx:w.next≤(w.set b (.cells t.size ((T.map fun p=>p.1.1.1).flatten++cl.drop (xs.length*t.size)))).next:=Nat.le_refl _;have hset:∀ q,q≠b→(w.set b (.cells t.size ((T.map fun p=>p.1.1.1).flatten++cl.drop (xs.length*t.size)))).get q=w.get q:=fun q hq=>by rw [Hp.get_set,if_neg hq]
    have hR:RowO t F (w.set b (.cells t.size ((T.map fun p=>p.1.1.1).flatten++cl.drop (xs.length*t.size)))) (b::(T.map fun p=>p.1.2.1).flatten) (.sl (some (b,0)) xs.length (.of t.size k)) (T.map fun p=>p.1.2.2) b ((T.map fun p=>p.1.1.1).flatten++cl.drop (xs.length*t.size)) k (T.map fun p=>p.1.1) (T.map fun p=>p.1.2.1):=by
     refine ⟨by rw [hlx],by rw [Hp.get_set,if_pos rfl],r.lt,hTE.csl,hTE.bsl,fun i d x e q1 q2 q3=>?_,?_,fun q=>?_,fun m q=>?_,by rw [hlx];exact r.few,?_,rfl,?_⟩
     ·refine t.frame (hTE.rel i d x e q1 q2 q3) hnx fun q hq=>hset q fun z=>hb1 ?_;rw [← z];exact hbp.mem_iff.1 (List.mem_flatten.2 ⟨e,List.mem_of_getElem? q3,hq⟩)
     ·rw [hlx,← hfl,List.take_left,hflt]
     ·rw [hlx,List.length_append,hfl,← hcll];exact r.opn q
     ·rw [hlx,List.length_append,hfl,← hcll];exact r.cap m q
     ·have h1:=hTE.all1;rw [hflt] at h1;have h2:(cl.drop (xs.length*t.size)).all Val.one=true:=List.all_eq_true.2 fun x hx=>List.all_eq_true.1 r.one x (List.mem_of_mem_drop hx);rw [List.all_append,h1,h2];rfl
     ·exact List.nodup_cons.2 ⟨fun q=>hb1 (hbp.mem_iff.1 q),hbp.nodup_iff.2 hb2⟩
    have hpx:(T.map fun p=>p.1.2.2).Perm xs:=by
     have:=hpS.map fun p:Elem t F w=>p.1.2.2;rw [d3] at this;exact this
    refine ⟨rfl,(T.map fun p:Elem t F w=>p.1.2.2:List α),b::(T.map fun p=>p.1.2.1).flatten,hpx,hTr,?_⟩;have hS':=hS;rw [hf] at hS';have:=hS'.turn (i:=0) (o':=.dp t (b::(T.map fun p=>p.1.2.1).flatten) (.sl (some (b,0)) xs.length (.of t.size k)) (T.map fun p=>p.1.2.2)) rfl ⟨_,rfl,.inr ⟨_,_,_,_,_,hR⟩⟩ hnx (fun q hq=>by rw [Hp.get_set,if_neg (by have:=r.lt;have hq':w.next≤q:=hq;omega)];exact hS.wf q hq) (fun q hq hn=>hset q fun z=>hn (by show q∈bs;rw [hfo,z];simp)) (fun q hq=>.inl (by
     show q∈bs;rw [hfo];rcases List.mem_cons.1 hq with z | z
     ·rw [z];simp
     ·exact List.mem_cons_of_mem _ (hbp.mem_iff.1 z)))
    simpa using this
  exact .known (hK _ _ _ hKs) fun u w' m=>⟨u,w',rfl,m⟩
end Go.V
end
section
namespace Go.Wk
def cat (a b:List UInt8):Option (List UInt8):=if a.length+b.length≤1073741824 then some (a++b) else none
theorem cat_some {a b r:List UInt8} (h:cat a b=some r):a.length+b.length≤1073741824∧r=a++b:=by
 unfold cat at h;split at h
 ·rename_i hc;exact ⟨hc,(Option.some.inj h).symm⟩
 ·cases h
end Go.Wk
namespace Go.V
open Go.Wk
def cB (b:UInt8):Val:=.i .u8 b.toNat
def zam (x:List UInt8):List Val:=(List.range 32).map fun i=>.i .u8 ((x.getD i 0).toNat:Int)
theorem zhb (x:List UInt8):(zam x).length=32:=by simp [zam]
theorem zjd (x:List UInt8):(zam x).all Val.one=true:=by simp [zam,Val.one]
theorem zmi {x:List UInt8} (h:x.length=32):zam x=x.map cB:=by
 apply List.ext_getElem
 ·simp [zam,h]
 ·intro i h1 h2;have hi:i < x.length:=by simpa [zam,h] using h1
  simp [zam,cB,hi]
theorem id_at {x:List UInt8} (h:x.length=32) {i:Nat} {b:UInt8} (hb:x[i]? = some b):(zam x)[i]? = some (.i .u8 (b.toNat:Int)):=by
 rw [zmi h];simp [hb,cB]
def tId:Tr (List UInt8):=⟨32,fun _ cs x=>cs=zam x∧x.length=32,by decide,fun h=>by rw [h.1,zhb],fun h=>by rw [h.1,zjd],fun _ h=>h⟩
section
variable {P:Program} {t:TypeId} {k:IntKind} {a b:Int} {x y:List UInt8}
theorem zdk {op:BinOp} (h:op = .and∨op = .or∨op = .xor):binV P op t (.i k a) (.i k b)=some (.i k (bits op k a b)):=by
 rcases h with rfl | rfl | rfl <;> simp only [binV,if_pos] <;> rfl
theorem bI_shl {j:IntKind} (h0:0≤b) (h1:b≤(k.bits:Nat)):binV P .shl t (.i k a) (.i j b)=some (.i k (k.wrap (a*2 ^ b.toNat))):=by
 simp only [binV,shV];rw [if_neg (by omega),Nat.min_eq_left (by omega)]
theorem zqy {j:IntKind} (h0:0≤b) (h1:b≤(k.bits:Nat)):binV P .shr t (.i k a) (.i j b)=some (.i k (a / 2 ^ b.toNat)):=by
 simp only [binV,shV];rw [if_neg (by omega),Nat.min_eq_left (by omega),Int.fdiv_eq_ediv_of_nonneg _ (Int.le_of_lt (Int.pow_pos (by decide)))]
theorem bS_add {r:List UInt8} (h:cat x y=some r):binV P .add t (.s x) (.s y)=some (.s r):=by
 obtain ⟨h1,rfl⟩:=cat_some h;simp only [binV,strV];rw [if_pos (by omega)]
def eqT (P:Program) (t:TypeId):Option (List TypeDesc):=match P.underlying t with
 | some (.struct _) | some (.array _ _)=>if P.eqGuardType P.depth t then none else flatT P t
 | _=>none
theorem zuz {l:List TypeDesc} {xs ys:List Val} {q:Bool} (h:eqT P t=some l) (hx:zeb l xs=true) (hy:zeb l ys=true) (he:eqL xs ys=q):binV P .eql t (.agg xs) (.agg ys)=some (.b q):=by
 subst he;unfold eqT at h
 split at h
 ·rename_i hu
  split at h
  ·cases h
  ·rename_i hg;simp only [binV,eqV,hu,h];rw [if_pos (by simp [hx,hy,hg])];rfl
 ·rename_i hu
  split at h
  ·cases h
  ·rename_i hg;simp only [binV,eqV,hu,h];rw [if_pos (by simp [hx,hy,hg])];rfl
 ·cases h
theorem bA_neq {l:List TypeDesc} {xs ys:List Val} {q:Bool} (h:eqT P t=some l) (hx:zeb l xs=true) (hy:zeb l ys=true) (he:eqL xs ys=q):binV P .neq t (.agg xs) (.agg ys)=some (.b (!q)):=by
 have h2:=zuz h hx hy he;simp only [binV,Option.map_eq_some_iff] at h2 ⊢;obtain ⟨a,h3,h4⟩:=h2;exact ⟨a,h3,by cases h4;rfl⟩
theorem eqL_map:∀ (x y:List UInt8),eqL (x.map cB) (y.map cB)=decide (x=y)
 | [],[]=>rfl
 | [],_::_=>rfl
 | _::_,[]=>rfl
 | a::x,b::y=>by
  simp only [List.map_cons,eqL,eqL_map x y,cB,eq1,List.cons.injEq,Bool.decide_and]
  congr 1
  have:((a.toNat:Int) == (b.toNat:Int))=decide (a=b):=by
   by_cases h:a=b
   ·subst h;simp
   ·have:a.toNat≠b.toNat:=fun e=>h (UInt8.toNat_inj.1 e);simp [h];omega
  rw [this];simp
theorem zwa {x y:List UInt8} (hx:x.length=32) (hy:y.length=32):eqL (zam x) (zam y)=decide (x=y):=by
 rw [zmi hx,zmi hy,eqL_map]
end
def BxF (F:Frz) (g:Nat) (cs:List Val):Prop:=∀ (o:Nat) (u:Val),cs[o]? = some u→F g o=some u
theorem BxF.mono {F G:Frz} {g:Nat} {cs:List Val} (h:BxF F g cs) (l:F.le G):BxF G g cs:=fun o u hu=>l _ _ _ (h o u hu)
def Frz.hold (F:Frz) (w:Hp) (bs:List Nat):Frz:=fun b o=>match F b o with | some u=>some u | none=>if b∈bs then zfj w b o else none
theorem Frz.le_hold (F:Frz) (w:Hp) (bs:List Nat):F.le (F.hold w bs):=fun b o u e=>by unfold Frz.hold;rw [e]
theorem Frz.hold_le {F G:Frz} {w:Hp} {bs:List Nat} (l:F.le G) (hn:∀ g,g∈bs → ∀ q,G g q=none):(F.hold w bs).le (G.hold w bs):=fun b o u e=>by
 unfold Frz.hold at e ⊢;cases hF:F b o with
 | some u'=>rw [hF] at e;rw [l _ _ _ hF];exact e
 | none =>
  rw [hF] at e;simp only at e
  split at e
  ·rename_i hb;rw [hn b hb o];simp only;rw [if_pos hb];exact e
  ·cases e
def BoxAt (w:Hp) (g:Nat) (cs:List Val):Prop:=w.get g=some (.cells cs.length cs)
def HB (F:Frz) (w h:Hp) (bs:List Nat):Prop:=∀ g,g∈bs→(∀ q,F g q=none) ∧ ∀ o u,zfj w g o=some u→zfj h g o=some u
section
variable {X:List Nat} {h0 h w:Hp} {F0 F:Frz} {L:List Ob} {g:Nat} {cs:List Val} {bs:List Nat}
theorem St.boxAt (k:Nat) (s:St X h0 F0 F L h) (hk:L[k]? = some (.box g cs)):BoxAt h g cs:=(s.boxGet k hk).1
theorem HB.nil:HB F w h []:=fun g hg=>by cases hg
theorem HB.cons (k:Nat) (b:BoxAt w g cs) (s:St X h0 F0 F L h) (hk:L[k]? = some (.box g cs)) (r:HB F w h bs):HB F w h (g::bs):=fun g' hg'=>by
 rcases List.mem_cons.1 hg' with rfl | hg'
 ·refine ⟨fun q=>((s.own k _ hk).2 g' (by simp [Ob.box])).1 q,fun o u e=>?_⟩;have h1:=(s.boxGet k hk).1;have b':w.get g' = _:=b;unfold zfj at e ⊢;rw [b'] at e;rw [h1];exact e
 ·exact r g' hg'
theorem HB.agree (r:HB F w h bs) (a:zit F h):zit (F.hold w bs) h:=fun b o u e=>by
 unfold Frz.hold at e;cases hF:F b o with
 | some u'=>rw [hF] at e;obtain rfl:=Option.some.inj e;exact a _ _ _ hF
 | none =>
  rw [hF] at e;simp only at e
  split at e
  ·rename_i hb;exact (r b hb).2 o u e
  ·cases e
theorem HB.le {F':Frz} (r:HB F' w h bs) (l:F.le F'):(F.hold w bs).le (F'.hold w bs):=Frz.hold_le l fun g hg q=>(r g hg).1 q
theorem BoxAt.held (b:BoxAt w g cs) (r:HB F w h bs) (hg:g∈bs):BxF (F.hold w bs) g cs:=fun o u hu=>by
 unfold Frz.hold;rw [(r g hg).1 o];simp only;rw [if_pos hg];have b':w.get g=_:=b;unfold zfj;rw [b'];exact hu
theorem St.freezeB (k:Nat) (is:List Nat) (s:St X h0 F0 F L h) (hk:L[k]? = some (.box g cs)) (hnd:is.Nodup) (hki:k ∉ is) :
  ∃ F',F.le F' ∧ BxF F' g cs∧St X h0 F0 F' (is.filterMap fun i=>L[i]?) h:=by
 have hp:=s.pick (k::is) (List.nodup_cons.2 ⟨hki,hnd⟩);have e:((k::is).filterMap fun i=>L[i]?)=Ob.box g cs::is.filterMap fun i=>L[i]?:=by simp [hk]
 rw [e] at hp;have hf:=hp.freeze (i:=0) rfl;have hle:=Frz.plus_le (h:=h) (hp.noF (i:=0) rfl);refine ⟨_,hle,fun o u hu=>?_,by simpa using hf⟩;unfold Frz.plus;rw [if_pos (by simp [Ob.box])];exact zya s hk hu
end
section
variable {P:Program} {G:Frz} {E:EL}
theorem zdo {t:TypeId} {x:Operand} {g o:Nat} {cs:List Val} {u:Val} (ht:aggT P t=some false) (hx:evLO E x=some (pl g o)) (hb:BxF G g cs) (hu:cs[o]? = some u):Rd P G E (.load t x) u:=by
 refine ⟨rfl,fun h2 ha=>?_⟩;have:=ha _ _ _ (hb _ _ hu);simp only [opL,hx,Option.bind_some];rw [ldV_one ht (zol (c:=[u]) rfl (by decide) fun j w hj=>by
  cases j with
  | zero=>simp at hj;subst hj;exact this
  | succ j=>simp at hj)]
 rfl
theorem O_fldg {t:TypeId} {x:Operand} {g o:Nat} {cs:List Val} (cs':List Val) (ht:aggT P t=some true) (hz:sz P t=some cs'.length) (hp:0 < cs'.length) (hx:evLO E x=some (pl g o)) (hb:BxF G g cs) (hcs:∀ (q:Nat) (u:Val),cs'[q]? = some u→cs[o+q]? = some u):Rd P G E (.load t x) (.agg cs'):=by
 refine ⟨rfl,fun h2 ha=>?_⟩;simp only [opL,hx,Option.bind_some];rw [zxh ht hz (zol (c:=cs') rfl hp fun j w hj=>ha _ _ _ (hb _ _ (hcs j w hj)))];rfl
theorem zrz:∀ xs:List UInt8,zog (xs.map cB)=some xs
 | []=>rfl
 | b::xs=>by simp [zog,cB,zrz xs]
theorem zwo {F:Frz}:∀ {css:List (Cl tB.size)} {xs:List UInt8},RelL tB F css xs→(css.map Subtype.val).flatten=xs.map cB
 | [],[],_=>rfl
 | [],_::_,h=>by simp [RelL] at h
 | _::_,[],h=>by simp [RelL] at h
 | d::css,b::xs,⟨h1,h2⟩=>by
  have e:d.1=[cB b]:=h2 0 d b rfl rfl;have ih:=zwo (F:=F) (css:=css) (xs:=xs) ⟨by simpa using h1,fun i d x q1 q2=>h2 (i+1) d x (by simpa using q1) (by simpa using q2)⟩;simp only [List.map_cons,List.flatten_cons,ih,e];rfl
theorem O_bstr {src dst e:TypeId} {x:Operand} {v:Val} {xs:List UInt8} (hs:P.underlying src=some (.slice e)) (he:P.underlying e=some (.int .u8)) (hd:P.underlying dst=some .string) (hx:evLO E x=some v) (hv:SlF tB G v xs):Rd P G E (.convert src dst x) (.s xs):=by
 refine ⟨by simp [zcs,zxu,hs,hd],fun h ha=>?_⟩;obtain ⟨css,h1,h2⟩:=hv;have h3:=(h2.mono (G:=nowF h) ha)
 obtain ⟨_,h4⟩:=h3.first (by decide)
 have hc:=zwo h1;rw [hc] at h4;rcases h2 with ⟨rfl,rfl⟩ | ⟨a,c,rfl,_,_,e4,_⟩
 ·have:xs=[]:=List.eq_nil_of_length_eq_zero h1.1.symm;subst this;simp only [opL,hx,Option.bind_some,zkj,hs,hd,u8T,he,if_true]
 ·cases a with
  | none =>
   have h5:=(e4 rfl).1;have:xs=[]:=List.eq_nil_of_length_eq_zero (by rw [← h1.1,h5];rfl);subst this;simp only [opL,hx,Option.bind_some,zkj,hs,hd,u8T,he,if_true]
  | some a =>
   obtain ⟨b,o⟩:=a;have h6:(if css.length=0 then some [] else rd h b o css.length)=some (xs.map cB):=by
    have:tB.size=1:=rfl;simp only [zgd,this,Nat.mul_one] at h4;exact h4
   simp only [opL,hx,Option.bind_some,zkj,hs,hd,he];rw [h6];simp only [Option.bind_some,zrz,Option.map_some]
theorem sl_id {F:Frz} {b o:Nat} {x:List UInt8} (hl:x.length=32) (hc:∀ (q:Nat) (u:Val),(zam x)[q]? = some u→F b (o+q)=some u):SlF tB F (.sl (some (b,o)) 32 (.k 32)) x:=by
 rw [zmi hl] at hc;refine ⟨x.map fun c=>⟨[cB c],rfl⟩,⟨by simp,fun i d y q1 q2=>?_⟩,.inr ⟨some (b,o),some 32,by simp [hl],by simp [hl,maxLen],fun k hk=>by obtain rfl:=Option.some.inj hk;simp [hl],fun q=>(by cases q),fun b' o' had i d j u q1 q2=>?_⟩⟩
 ·rw [List.getElem?_map,q2] at q1;obtain rfl:=Option.some.inj q1;rfl
 ·simp only [Option.some.injEq,Prod.mk.injEq] at had;obtain ⟨rfl,rfl⟩:=had;rw [List.getElem?_map] at q1;obtain ⟨c,h1,rfl⟩:=Option.map_eq_some_iff.1 q1;cases j with
  | succ j=>simp at q2
  | zero =>
   simp at q2;subst q2;have:=hc i (cB c) (by rw [List.getElem?_map,h1];rfl);simpa [tB] using this
theorem O_slA {t e:TypeId} {x:Operand} {b o:Nat} (ht:P.underlying t=some (.array 32 e)) (hz:sz P e=some 1) (hx:evLO E x=some (pl b o)):Rd P G E (.slice t x none none none) (.sl (some (b,o)) 32 (.k 32)):=by
 refine ⟨rfl,fun h _=>?_⟩;have n0:evLQ E none=some none:=rfl;simp only [opL,hx,n0,Option.bind_some,zhn,ht,hz];rfl
theorem znr {cs:List Val} {o i:Nat} {x:List UInt8} {c:UInt8} (hcs:∀ (q:Nat) (u:Val),(zam x)[q]? = some u→cs[o+q]? = some u) (hl:x.length=32) (hc:x[i]? = some c):cs[o+i]? = some (.i .u8 (c.toNat:Int)):=hcs _ _ (id_at hl hc)
end
end Go.V
end
section
namespace Go.Wk
def mnil {κ ν:Type}:κ→Option ν:=fun _=>none
def mput {κ ν:Type} [DecidableEq κ] (m:κ→Option ν) (k:κ) (v:ν):κ→Option ν:=fun j=>if j=k then some v else m j
end Go.Wk
namespace Go.V
open Go.Wk
class Kn (A B:Tb):Prop where
 le:∀ f args h M,A f args h M→B f args h M
def IdAt (F:Frz) (b o:Nat) (r:List UInt8):Prop:=∀ (q:Nat) (u:Val),(zam r)[q]? = some u→F b (o+q)=some u
theorem BxF.at {F:Frz} {g o:Nat} {cs:List Val} {x:List UInt8} (hb:BxF F g cs) (hcs:∀ (q:Nat) (u:Val),(zam x)[q]? = some u→cs[o+q]? = some u):IdAt F g o x:=fun q u h=>hb _ _ (hcs q u h)
section
variable {P:Program} {K:Tb} {fn:Func} {k:Kont} {E:EL} {h:Hp} {A:List Oper} {dr:Bool} {G:Frz} {L:List Nat} {i d:Nat}
def Rn (P:Program) (h:Hp) (E:EL) (op:Op) (v:Val):Prop:=decide (zcs P op = .eff)=false∧opL P E h op=some (v,h)
theorem W_h {v:Val} (hb:dr=false∨ahead P A i L=true) (hi:Nat.blt i A.length=true) (hw:zdc A E (opAt A i)=some true) (hd:(opAt A i).dst=some d) (ho:Rn P h E (opAt A i).op v) (x:W P K fn k A dr G L ((d,v)::E) h):W P K fn k A dr G (i::L) E h:=by
 intro ha env pd he hp;refine .oone (by simpa using hi) (he.want _ _ _ hw) (he.op1 _ _ _ ho.2) (fun e=>absurd e (by simpa using ho.1)) ?_;rw [hd];refine x ha _ _ (he.put d v) fun hdr q hq=>?_;unfold zoq at hq
 split at hq
 ·rename_i hkr;rcases List.mem_cons.1 hq with rfl | hq
  ·refine ⟨hkr,.inl fun j hj hk=>?_⟩;rcases hb with hb | hb
   ·rw [hb] at hdr;cases hdr
   ·have:=List.all_eq_true.1 hb j hj;simpa [hk] using this
  ·exact hp.tail hdr q hq
 ·exact hp.tail hdr q hq
theorem W_slB {F:Frz} {t e:TypeId} {x:Operand} {b o:Nat} {y:List UInt8} (hi:Nat.blt i A.length=true) (hw:zdc A E (opAt A i)=some true) (hd:(opAt A i).dst=some d) (hop:(opAt A i).op = .slice t x none none none) (ht:P.underlying t=some (.array 32 e)) (hz:sz P e=some 1) (hx:evLO E x=some (pl b o)) (ha:IdAt F b o y) (hl:y.length=32)
  (q:∀ v',SlF tB F v' y→W P K fn k A dr G L ((d,v')::E) h):W P K fn k A dr G (i::L) E h :=
 W_r hi hw hd (by rw [hop];exact O_slA ht hz hx) (q _ (sl_id hl ha))
end
def Tr.Flat {α:Type} (t:Tr α):Prop:=∀ {F G:Frz} {cs:List Val} {x:α},t.rel F cs x→t.rel G cs x
section
variable {X:List Nat} {h0 h h':Hp} {F0 F F':Frz} {L Lr:List Ob}
theorem row_flat {α:Type} {t:Tr α} {v:Val} {xs:List α} {G:Frz} (hf:t.Flat) (r:(Ob.row t v xs).ok F h):(Ob.row t v xs).ok G h:=by
 obtain ⟨v0,hv0,r⟩:=r;refine ⟨v0,hv0,?_⟩;rcases r with r | ⟨b,c,k,css,bss,r⟩
 ·exact .inl r
 ·exact .inr ⟨b,c,k,css,bss,⟨r.form,r.blk,r.lt,r.csl,r.bsl,fun i d x e q1 q2 q3=>⟨(r.rel i d x e q1 q2 q3).1,hf (r.rel i d x e q1 q2 q3).2⟩,r.cells,r.opn,r.cap,r.few,r.one,r.foot,r.nodup⟩⟩
def Flats:List Ob→Prop
 | []=>True
 | o::r=>(∀ F G h,o.ok F h→o.ok G h)∧Flats r
theorem Flats.get:∀ {Lr:List Ob},Flats Lr → ∀ (i:Nat) (o:Ob),Lr[i]? = some o → ∀ F G h,o.ok F h→o.ok G h
 | [],_,i,o,hi=>by simp at hi
 | a::r,hf,i,o,hi=>by
  cases i with
  | zero=>simp at hi;subst hi;exact hf.1
  | succ i=>exact hf.2.get i o (by simpa using hi)
theorem St.lentFlat {G G':Frz} (s:St X h0 F0 F L h) (k:St [] h G G' Lr h') (hf:Flats Lr):St X h0 F0 F (Lr++L) h':=by
 have e:St [] h F F Lr h':=⟨k.next,k.wf,fun b hb _=>k.keep b hb (by simp),k.above.agree s.wf s.agree,Frz.le.refl _,fun _ _ _ q=>.inl q,fun i o hi=>by
   obtain ⟨h1,h2⟩:=k.own i o hi;refine ⟨hf.get i o hi _ _ _ h1,fun b hb=>⟨fun q=>?_,(h2 b hb).2⟩⟩;rcases (h2 b hb).2 with h3 | h3
   ·cases hF:F b q with
    | none=>rfl
    | some u=>have:=zqo s.wf (s.agree _ _ _ hF);omega
   ·simp at h3,k.apart⟩
 exact s.call e
end
theorem znv:∀ a b:List UInt8,Lib.compareBytes a b=cmpT a b
 | [],[]=>rfl
 | [],_::_=>rfl
 | _::_,[]=>rfl
 | a::l,b::bs=>by
  have ih:=znv l bs;simp only [Lib.compareBytes,cmpT,sLt,Op.bytesLess] at ih ⊢
  by_cases h1:a < b
  ·simp [h1]
  ·by_cases h2:b < a
   ·have:a≠b:=fun e=>by subst e;exact h1 h2
    simp [h1,h2,this]
   ·have:a=b:=UInt8.le_antisymm (UInt8.not_lt.1 h2) (UInt8.not_lt.1 h1);subst this;simp only [h1,if_false,ih,decide_false,Bool.false_or,beq_self_eq_true,Bool.true_and]
    by_cases h3:Op.bytesLess l bs=true
    ·exact Eq.trans (if_pos h3) (Eq.symm (if_pos h3))
    ·refine Eq.trans (if_neg h3) (Eq.trans ?_ (Eq.symm (if_neg h3)))
     by_cases h4:Op.bytesLess bs l=true
     ·exact Eq.trans (if_pos h4) (Eq.symm (if_pos h4))
     ·exact Eq.trans (if_neg h4) (Eq.symm (if_neg h4))
theorem zpv {h:Hp} {v:Val} {xs:List UInt8} (s:SlF tB (nowF h) v xs):zlr h v=some xs:=by
 obtain ⟨css,c1,c2⟩:=s;obtain ⟨_,c4⟩:=c2.first (by decide)
 rw [zwo c1] at c4;have hl:=c1.1;rcases c2 with ⟨rfl,rfl⟩ | ⟨a,c,rfl,_,_,e4,_⟩
 ·have:xs=[]:=List.eq_nil_of_length_eq_zero hl.symm;subst this;rfl
 ·cases a with
  | none =>
   have:xs=[]:=List.eq_nil_of_length_eq_zero (by rw [← hl,(e4 rfl).1];rfl);subst this;rfl
  | some a =>
   have c5:zgd h 1 css.length (.sl (some a) css.length (.of 1 c))=some (xs.map cB):=c4;show (zgd h 1 css.length (.sl (some a) css.length (.of 1 c))).bind zog=_;rw [c5];exact zrz xs
theorem zxv {P:Program} {K:Tb} [hK:Kn (KExt P) K] {f:FuncId} {g:Func} {h:Hp} {u v:Val} {xs ys:List UInt8} (hf:P.funcs[f]? = some g) (h1:(g.name == "runtime.NumGoroutine")=false) (h2:g.body.isNone=true) (h3:Extern.findNext g=none) (h4:Extern.find g=some Extern.BytealgCompare.compare) (hu:SlF tB (nowF h) u xs) (hv:SlF tB (nowF h) v ys):Ret P K f [u,v] h fun r w'=>r = .i .i64 (cmpT xs ys)∧w' = h :=
 .known (M:=fun r w'=>r = .i .i64 (cmpT xs ys)∧w' = h) (hK.le _ _ _ _ ⟨g,u,v,xs,ys,hf,h1,h2,h3,h4,rfl,zpv hu,zpv hv,by rw [znv],rfl⟩) fun v h' m=>⟨v,h',rfl,m⟩
section
variable {P:Program} {E:EL} {X:List Nat} {h0 h:Hp} {F0 F:Frz} {L:List Ob}
theorem zero_rel {α:Type} {tr:Tr α} {e:TypeId} {cs:List Val} {x:α} (hz:(zge P e).map Val.cells=some cs) (hr:tr.rel F cs x):∀ z,zge P e=some z→tr.rel F z.cells x:=fun z hz'=>by
 rw [hz'] at hz;obtain rfl:=Option.some.inj hz;exact hr
end
structure KeyE (κ:Type) [DecidableEq κ] where
 enc:κ→Val
 eq:∀ a b,zos (enc a) (enc b)=decide (a=b)
def kS:KeyE (List UInt8):=⟨.s,fun a b=>by simp [zos,eq1];exact Bool.eq_iff_iff.2 (by simp)⟩
structure TrV (ν:Type) where
 rel:Frz→Val→ν→Prop
 mono:∀ {F G u v},F.le G→rel F u v→rel G u v
def TrV.of {ν:Type} (enc:ν→Val):TrV ν:=⟨fun _ u v=>u=enc v,fun _ h=>h⟩
def tMap {κ ν:Type} [DecidableEq κ] (K:KeyE κ) (t:TrV ν):To (κ→Option ν) where
 size:=1
 rel F h bs cs m:=∃ g es,bs=[g]∧cs=[.m (some g)]∧h.get g=some (.map es)∧g < h.next∧(∀ e,e∈es → ∃ k,e.1=K.enc k) ∧ ∀ k,(m k=none∧zmt (K.enc k) es=none) ∨ ∃ v u,m k=some v∧zmt (K.enc k) es=some u∧t.rel F u v
 len:=fun ⟨g,es,_,q,_⟩=>by rw [q];rfl
 one:=fun ⟨g,es,_,q,_⟩=>by rw [q];rfl
 lt:=fun ⟨g,es,q,_,_,h3,_⟩ b hb=>by rw [q] at hb;simp at hb;subst hb;exact h3
 nodup:=fun ⟨g,es,q,_⟩=>by rw [q];simp
 mono:=fun l ⟨g,es,q1,q2,q3,q4,q5,q6⟩=>⟨g,es,q1,q2,q3,q4,q5,fun k=>(q6 k).imp id fun ⟨v,u,a,b,c⟩=>⟨v,u,a,b,t.mono l c⟩⟩
 frame:=fun ⟨g,es,h1,h2,h3,h4,h5⟩ hn hk=>⟨g,es,h1,h2,(hk g (by rw [h1];simp)).trans h3,Nat.lt_of_lt_of_le h4 hn,h5⟩
def Ob.map {κ ν:Type} [DecidableEq κ] (K:KeyE κ) (t:TrV ν) (g:Nat) (m:κ→Option ν):Ob:=⟨tMap K t,[g],[.m (some g)],m⟩
theorem keyS {P:Program} {t:TypeId} (h:P.underlying t=some .string):∀ k,keyT P t (kS.enc k)=true:=fun k=>by simp [keyT,h,kS]
section
variable {P:Program} {E:EL} {X:List Nat} {h0 h:Hp} {F0 F:Frz} {L:List Ob} {κ ν:Type} [DecidableEq κ] {K:KeyE κ} {tr:TrV ν}
theorem E_mkmap {t:TypeId} (K:KeyE κ) (tr:TrV ν) (hS:St X h0 F0 F L h):Ef P E h (.makeMap t none) (fun v' h'=>∃ g,v' = .m (some g)∧St X h0 F0 F (.map K tr g (mnil:κ→Option ν)::L) h') :=
 ⟨rfl,_,_,rfl,_,rfl,hS.fresh ⟨Nat.le_succ _,zvk rfl hS.wf,fun b hb=>by rw [Hp.get_new,if_neg (by omega)]⟩ ⟨_,[],rfl,rfl,by rw [Hp.get_new,if_pos rfl],Nat.lt_succ_self _,fun e he=>(by cases he),fun k=>.inl ⟨rfl,rfl⟩⟩ fun b hb=>by
  have:b=h.next:=by simpa [Ob.map] using hb
  omega⟩
theorem St.mapGet {g:Nat} {m:κ→Option ν} (k:Nat) (s:St X h0 F0 F L h) (hk:L[k]? = some (.map K tr g m)):∃ es,h.get g=some (.map es)∧g < h.next∧(∀ e,e∈es → ∃ k,e.1=K.enc k) ∧ ∀ k,(m k=none∧zmt (K.enc k) es=none) ∨ ∃ v u,m k=some v∧zmt (K.enc k) es=some u∧tr.rel F u v:=by
 obtain ⟨g',es,q1,q2,q3⟩:=s.ok hk;simp only [Ob.map,List.cons.injEq,and_true] at q1;subst q1;exact ⟨es,q3⟩
theorem keys_ok {kt:TypeId} {es:List (Val × Val)} (hk:∀ k,keyT P kt (K.enc k)=true) (h:∀ e,e∈es → ∃ k,e.1=K.enc k):es.all (fun e=>keyT P kt e.1)=true:=List.all_eq_true.2 fun e he=>by
 obtain ⟨k,q⟩:=h e he;rw [q];exact hk k
theorem O_look {t kt vt:TypeId} {x y:Operand} {g:Nat} {enc:ν→Val} {m:κ→Option ν} (k:Nat) (a:κ) (z0:ν) (ht:P.underlying t=some (.map kt vt)) (hkt:∀ k,keyT P kt (K.enc k)=true) (hz:zge P vt=some (enc z0)) (hx:evLO E x=some (.m (some g))) (hy:evLO E y=some (K.enc a)) (hS:St X h0 F0 F L h) (hk:L[k]? = some (.map K (.of enc) g m)) :
  Rn P h E (.lookup t x y false) (enc ((m a).getD z0)):=by
 obtain ⟨es,q1,q2,q3,q4⟩:=hS.mapGet k hk;refine ⟨rfl,?_⟩;simp only [opL,hx,hy,Option.bind_some,lookV,ht,hkt,if_true,q1];rw [if_pos (keys_ok hkt q3)];simp only [Option.bind_some,hz];rcases q4 a with ⟨r1,r2⟩ | ⟨v,u,r1,r2,r3⟩
 ·rw [r1,r2];rfl
 ·rw [r1,r2];have r4:u=enc v:=r3;rw [r4];rfl
theorem find_upd {k j:κ} {u:Val}:∀ es:List (Val × Val),(∀ e,e∈es → ∃ k,e.1=K.enc k)→zmt (K.enc j) (updV (K.enc k) u es)=if j=k then some u else zmt (K.enc j) es
 | [],_=>by
  simp only [updV,zmt,K.eq]
  by_cases h:j=k
  ·simp [h]
  ·simp [h,zmt]
 | (k',w)::r,h=>by
  obtain ⟨a,ha⟩:=h (k',w) (by simp);simp only at ha;subst ha;have ih:=find_upd (k:=k) (j:=j) (u:=u) r fun e he=>h e (List.mem_cons_of_mem _ he);simp only [updV,K.eq]
  by_cases h1:k=a
  ·subst h1;simp only [decide_true,cond_true,zmt,K.eq]
   by_cases h2:j=k
   ·simp [h2]
   ·simp [h2]
  ·simp only [h1,decide_false,cond_false,zmt,K.eq]
   by_cases h2:j=a
   ·subst h2;have:¬ j=k:=fun e=>h1 e.symm;simp [this]
   ·simp only [h2,decide_false,cond_false,ih]
theorem upd_keys {k:κ} {u:Val}:∀ es:List (Val × Val),(∀ e,e∈es → ∃ k,e.1=K.enc k) → ∀ e,e∈updV (K.enc k) u es → ∃ k,e.1=K.enc k
 | [],_,e,he=>by simp [updV] at he;subst he;exact ⟨k,rfl⟩
 | (k',w)::r,h,e,he=>by
  simp only [updV] at he;cases hb:zos (K.enc k) k' with
  | true =>
   rw [hb] at he;rcases List.mem_cons.1 he with rfl | he
   ·exact ⟨k,rfl⟩
   ·exact h e (List.mem_cons_of_mem _ he)
  | false =>
   rw [hb] at he;rcases List.mem_cons.1 he with rfl | he
   ·exact h _ (by simp)
   ·exact upd_keys r (fun e he=>h e (List.mem_cons_of_mem _ he)) e he
theorem E_mput {t kt vt:TypeId} {x y z:Operand} {g:Nat} {m:κ→Option ν} {u:Val} (k:Nat) (a:κ) (v:ν) (ht:P.underlying t=some (.map kt vt)) (hkt:∀ k,keyT P kt (K.enc k)=true) (hx:evLO E x=some (.m (some g))) (hy:evLO E y=some (K.enc a)) (hz:evLO E z=some u) (hr:tr.rel F u v) (hS:St X h0 F0 F L h) (hk:L[k]? = some (.map K tr g m)) :
  Ef P E h (.mapUpdate t x y z) (fun _ h'=>St X h0 F0 F (L.set k (.map K tr g (mput m a v))) h'):=by
 obtain ⟨es,q1,q2,q3,q4⟩:=hS.mapGet k hk;refine ⟨rfl,.no,h.set g (.map (updV (K.enc a) u es)),?_,hS.turn hk (o':=.map K tr g (mput m a v)) ⟨g,_,rfl,rfl,by rw [Hp.get_set,if_pos rfl],q2,upd_keys es q3,fun j=>?_⟩ (Nat.le_refl _) (fun b hb=>?_) (fun b hb hn=>?_) fun b hb=>.inl hb⟩
 ·simp only [opL,hx,hy,hz,Option.bind_some,zue,ht,q1];rw [if_pos ⟨hkt a,keys_ok hkt q3⟩];rfl
 ·show ((mput m a v) j=none∧_) ∨ ∃ v' u',(mput m a v) j=some v' ∧ _;rw [find_upd es q3];unfold mput
  by_cases h1:j=a
  ·rw [if_pos h1,if_pos h1];exact .inr ⟨v,u,rfl,rfl,hr⟩
  ·rw [if_neg h1,if_neg h1];exact q4 j
 ·have hb':h.next≤b:=hb;rw [Hp.get_set,if_neg (by omega)];exact hS.wf b hb'
 ·rw [Hp.get_set,if_neg (fun e=>hn (by rw [e];simp [Ob.map]))]
end
end Go.V
end
section
namespace Go.V
open Go.Wk
def OutsR (P:Program) (E:EL) (h:Hp):List ResultVar→List Val→Prop
 | [],[]=>True
 | .tmp t::r,v::vs=>look E t=some v∧OutsR P E h r vs
 | .cell a t::r,v::vs=>(∃ p,look E a=some p∧ldV P h t p=some v)∧OutsR P E h r vs
 | _,_=>False
section
variable {P:Program} {K:Tb} {fn:Func} {k:Kont} {E:EL} {h:Hp}
theorem OutsR.outs:∀ {rs:List ResultVar} {vs:List Val},OutsR P E h rs vs→outs P E h rs=some vs
 | [],[],_=>rfl
 | .tmp t::r,v::vs,⟨h1,h2⟩=>by simp only [V.outs,h1,Option.bind_some,h2.outs,Option.map_some]
 | .cell a t::r,v::vs,⟨⟨p,h0,h1⟩,h2⟩=>by simp only [V.outs,h0,h1,Option.bind_some,h2.outs,Option.map_some]
 | [],_::_,h=>h.elim
 | .tmp _::_,[],h=>h.elim
 | .cell _ _::_,[],h=>h.elim
theorem zgb {vs:List Val} {v:Val} (ho:oneV vs=v) (hv:OutsR P E h fn.results.toList vs) (hR:k.final v h):C P K fn k .ret E h:=C_ret hv.outs ho hR
theorem zeo {X:List Nat} {h0:Hp} {F0 F:Frz} {L:List Ob} {t:TypeId} {a g:Nat} {cs:List Val} (i:Nat) (ht:aggT P t=some true) (hz:sz P t=some cs.length) (hS:St X h0 F0 F L h) (hi:L[i]? = some (.box g cs)) (hx:look E a=some (pl g 0)):∃ p,look E a=some p∧ldV P h t p=some (.agg cs) :=
 ⟨_,hx,zxh ht hz (by
  unfold rd;rw [(hS.boxGet i hi).1];simp)⟩
end
end Go.V
end
section
namespace Go.Wk
theorem zel {α:Type} {b:Bool} {o:Option α} {z:α} (h:b=false):only b o z=some z:=if_neg (by rw [h];decide)
end Go.Wk
namespace Go.V
open Go.Wk
def cnds:List (Bool × Bool)→Val→Val
 | [],v=>v
 | (b,w)::r,v=>match b,w with
  | true,true=>cnds r v
  | false,false=>cnds r v
  | _,_=>.no
def Aeq:List (Bool × Bool)→Prop
 | []=>True
 | (b,w)::r=>b=w∧Aeq r
theorem zwc:∀ {cs:List (Bool × Bool)} {v:Val},Aeq cs→cnds cs v=v
 | [],_,_=>rfl
 | (b,w)::r,v,h=>by
  obtain ⟨h1,h2⟩:=h;replace h1:b=w:=h1;subst h1;have e:=zwc (v:=v) h2;cases b <;> exact e
theorem cnds_f:∀ {cs:List (Bool × Bool)} {v:Val},¬ Aeq cs→cnds cs v = .no
 | [],_,h=>absurd trivial h
 | (b,w)::r,v,h=>by
  cases b <;> cases w
  ·have e:cnds r v = .no:=cnds_f fun h2=>h ⟨rfl,h2⟩;exact e
  ·rfl
  ·rfl
  ·have e:cnds r v = .no:=cnds_f fun h2=>h ⟨rfl,h2⟩;exact e
theorem zrc:∀ {cs:List (Bool × Bool)} {b w:Bool},Aeq (cs++[(b,w)]) ↔ Aeq cs∧b=w
 | [],b,w=>⟨fun h=>⟨trivial,h.1⟩,fun h=>⟨h.2,trivial⟩⟩
 | (_,_)::r,b,w=>⟨fun h=>⟨⟨h.1,(zrc.1 h.2).1⟩,(zrc.1 h.2).2⟩,fun h=>⟨h.1.1,zrc.2 ⟨h.1.2,h.2⟩⟩⟩
def ylL (A:List Oper) (E:EL) (j:Nat):Option Val:=((A[j]?).bind (·.dst)).bind (look E)
section
variable {P:Program} {K:Tb} {fn:Func} {k:Kont} {E:EL} {h:Hp} {A:List Oper} {dr:Bool} {G:Frz} {L:List Nat} {i d j:Nat} {b want:Bool} {v:Val} {cs:List (Bool × Bool)}
theorem want_no (hg:(opAt A i).guard=some (j,want)) (hy:ylL A E j=some (cnds cs (.b b))) (hn:¬ Aeq (cs++[(b,want)])):zdc A E (opAt A i)=some false:=by
 unfold zdc;simp only [hg];unfold ylL at hy;rw [hy]
 by_cases hc:Aeq cs
 ·rw [zwc hc];have hb:b≠want:=fun e=>hn (zrc.2 ⟨hc,e⟩);simp [hb]
 ·rw [cnds_f hc];rfl
theorem W_gsc (hg:(opAt A i).guard=some (j,want)) (hy:ylL A E j=some (cnds cs (.b b))) (hi:Nat.blt i A.length=true) (hd:(opAt A i).dst=some d)
  (hop:Aeq (cs++[(b,want)])→W P K fn k A dr G L ((d,v)::E) h→W P K fn k A dr G (i::L) E h)
  (x:W P K fn k A dr G L ((d,cnds (cs++[(b,want)]) v)::E) h):W P K fn k A dr G (i::L) E h:=by
 by_cases ha:Aeq (cs++[(b,want)])
 ·rw [zwc ha] at x;exact hop ha x
 ·rw [cnds_f ha] at x;exact W_no hi (want_no hg hy ha) hd x
theorem W_gs (hg:(opAt A i).guard=some (j,want)) (hy:ylL A E j=some (.b b)) (hi:Nat.blt i A.length=true) (hd:(opAt A i).dst=some d)
  (hop:Aeq [(b,want)]→W P K fn k A dr G L ((d,v)::E) h→W P K fn k A dr G (i::L) E h)
  (x:W P K fn k A dr G L ((d,cnds [(b,want)] v)::E) h):W P K fn k A dr G (i::L) E h:=W_gsc (cs:=[]) hg hy hi hd hop x
theorem Nxt.w (x:Nxt P K fn k A dr G L E h):W P K fn k A dr G L E h:=by
 obtain ⟨G',l,ha,x⟩:=x;exact fun _ env pd he hp=>x ha env pd he (hp.le l)
theorem W_gwc {Q:Hp→Prop} (hQ:Q h) (hg:(opAt A i).guard=some (j,want)) (hy:ylL A E j=some (cnds cs (.b b))) (hi:Nat.blt i A.length=true) (hd:(opAt A i).dst=some d)
  (hop:Aeq (cs++[(b,want)])→(∀ w',Q w' → Nxt P K fn k A dr G L ((d,v)::E) w')→W P K fn k A dr G (i::L) E h)
  (x:∀ w',Q w' → Nxt P K fn k A dr G L ((d,cnds (cs++[(b,want)]) v)::E) w'):W P K fn k A dr G (i::L) E h:=by
 by_cases ha:Aeq (cs++[(b,want)])
 ·rw [zwc ha] at x;exact hop ha x
 ·rw [cnds_f ha] at x;exact W_no hi (want_no hg hy ha) hd (x h hQ).w
theorem W_gw {Q:Hp→Prop} (hQ:Q h) (hg:(opAt A i).guard=some (j,want)) (hy:ylL A E j=some (.b b)) (hi:Nat.blt i A.length=true) (hd:(opAt A i).dst=some d)
  (hop:Aeq [(b,want)]→(∀ w',Q w' → Nxt P K fn k A dr G L ((d,v)::E) w')→W P K fn k A dr G (i::L) E h)
  (x:∀ w',Q w' → Nxt P K fn k A dr G L ((d,cnds [(b,want)] v)::E) w'):W P K fn k A dr G (i::L) E h:=W_gwc (cs:=[]) hQ hg hy hi hd hop x
variable {c x y:Operand} {p q:Bool}
theorem W_pk {u:Val} (hi:Nat.blt i A.length=true) (hw:zdc A E (opAt A i)=some true) (hd:(opAt A i).dst=some d) (hop:(opAt A i).op = .pick c x y) (hc:evLO E c=some (.b b)) (hx:b=true→evLO E x=some u) (hy:b=false→evLO E y=some u) (z:W P K fn k A dr G L ((d,u)::E) h):W P K fn k A dr G (i::L) E h:=by
 refine W_c hi hw hd (by rw [hop];rfl) (fun h=>?_) z;rw [hop];simp only [opL,hc,Option.bind_some];cases b with
 | true=>simp only [hx rfl,Option.map_some]
 | false=>simp only [hy rfl,Option.map_some]
theorem W_pkA (hi:Nat.blt i A.length=true) (hw:zdc A E (opAt A i)=some true) (hd:(opAt A i).dst=some d) (hop:(opAt A i).op = .pick c x y) (hc:evLO E c=some (.b b)) (hx:b=true→evLO E x=some (.b p)) (hy:evLO E y=some (.b false)) (z:W P K fn k A dr G L ((d,.b (b&&p))::E) h):W P K fn k A dr G (i::L) E h :=
 W_pk (u:=.b (b&&p)) hi hw hd hop hc (fun e=>by rw [hx e,e];rfl) (fun e=>by rw [hy,e];rfl) z
theorem W_pkO (hi:Nat.blt i A.length=true) (hw:zdc A E (opAt A i)=some true) (hd:(opAt A i).dst=some d) (hop:(opAt A i).op = .pick c x y) (hc:evLO E c=some (.b b)) (hx:evLO E x=some (.b true)) (hy:b=false→evLO E y=some (.b q)) (z:W P K fn k A dr G L ((d,.b (b||q))::E) h):W P K fn k A dr G (i::L) E h :=
 W_pk (u:=.b (b||q)) hi hw hd hop hc (fun e=>by rw [hx,e];rfl) (fun e=>by rw [hy e,e];rfl) z
end
end Go.V
end
section
namespace Go.V
open Go.Wk
def heldB (L:List Ob) (rs:List Nat):List Nat:=(rs.filterMap fun i=>L[i]?).flatMap Ob.bs
section
variable {X:List Nat} {h0 w h:Hp} {F0 F F':Frz} {L L':List Ob} {bs:List Nat}
theorem held_in {o:Ob} {j:Nat} {rs:List Nat} (hj:j∈rs) (hL:L[j]? = some o):∀ g,g∈o.bs→g∈heldB L rs:=fun g hg=>List.mem_flatMap.2 ⟨o,List.mem_filterMap.2 ⟨j,hj,hL⟩,hg⟩
theorem St.heldHB (is rs:List Nat) (s:St X h0 F0 F L w) (hd:∀ i,i∈rs→i ∉ is) (k:St ((is.filterMap fun i=>L[i]?).flatMap Ob.bs) w F F' L' h):HB F' w h (heldB L rs):=fun g hg=>by
 obtain ⟨o,ho,hgo⟩:=List.mem_flatMap.1 hg;obtain ⟨j,hj,hL⟩:=List.mem_filterMap.1 ho;have h1:=s.own j o hL;have hlt:=o.t.lt h1.1 g hgo;have hnY:g ∉ (is.filterMap fun i=>L[i]?).flatMap Ob.bs:=fun q=>by
  obtain ⟨o2,ho2,hgo2⟩:=List.mem_flatMap.1 q;obtain ⟨i,hi,hL2⟩:=List.mem_filterMap.1 ho2;have:=s.apart j i o o2 g hL hL2 hgo hgo2;exact hd j hj (this ▸ hi)
 refine ⟨fun q=>?_,fun p u e=>?_⟩
 ·cases hF:F' g q with
  | none=>rfl
  | some u =>
   rcases k.new g q u hF with h3 | h3 | h3
   ·rw [(h1.2 g hgo).1 q] at h3;cases h3
   ·omega
   ·exact absurd h3 hnY
 ·unfold zfj at e ⊢;rw [k.keep g hlt hnY];exact e
theorem St.heldRow {α:Type} {t:Tr α} {v:Val} {xs:List α} {j:Nat} {rs:List Nat} (s:St X h0 F0 F L w) (hj:j∈rs) (hL:L[j]? = some (.row t v xs)):∀ g,g∈v.own→g∈heldB L rs:=held_in (o:=.row t v xs) hj hL
theorem Elf.held {v:Val} {s i:Nat} {cs:List Val} (e:Elf (nowF w) v s i cs) (b:HB F' w h bs) (hv:∀ g,g∈v.own→g∈bs):Elf (F'.hold w bs) v s i cs:=by
 obtain ⟨h0,h1,g,q,n,c,rfl,h3,h4⟩:=e;have hg:g∈bs:=hv g (by simp [Val.own]);refine ⟨h0,h1,g,q,n,c,rfl,h3,fun j u hj=>?_⟩;unfold Frz.hold;rw [(b g hg).1];simp only;rw [if_pos hg];exact h4 j u hj
end
end Go.V
end
section
namespace Go.Wk
def clr {α:Type} (l:List α) (a n:Nat) (z:α):Option (List α):=if a+n=l.length then some (l.take a++List.replicate n z) else none
theorem clr_some {α:Type} {l r:List α} {a n:Nat} {z:α} (h:clr l a n z=some r):a+n=l.length∧r=l.take a++List.replicate n z:=by
 unfold clr at h
 split at h
 ·rename_i hc;exact ⟨hc,(Option.some.inj h).symm⟩
 ·cases h
def nz {α:Type}:List α→Option Unit
 | []=>none
 | _::_=>some ()
def ixp {α:Type} (l:List α) (a n:Nat) (i:Int):Option α:=match i with | .ofNat k=>if k < n then l[a+k]? else none | .negSucc _=>none
theorem zxk {α:Type} {l:List α} {a n:Nat} {i:Int} {x:α} (h:ixp l a n i=some x):0≤i∧i.toNat < n∧l[a+i.toNat]? = some x:=by
 cases i with
 | ofNat k =>
  simp only [ixp] at h
  split at h
  ·exact ⟨Int.natCast_nonneg k,by assumption,h⟩
  ·cases h
 | negSucc k=>cases h
end Go.Wk
namespace Go.V
open Go.Wk
section
variable {α:Type} {tr:Tr α} {F:Frz} {h:Hp} {bs:List Nat} {v:Val} {xs zs:List α} {b:Nat} {c:List Val} {k:Option Nat} {css:List (Cl (To.ofTr tr).size)} {bss:List (List Nat)}
theorem flatR_one {css2:List (Cl tr.size)} (hr:RelL tr F css2 zs):(css2.map Subtype.val).flatten.all Val.one=true:=(RowE.flat (h:=Hp.empty) hr).all1
theorem zww (r:RowO (To.ofTr tr) F h bs v xs b c k css bss):xs.length*tr.size≤c.length:=by
 cases k with
 | none=>exact r.opn rfl
 | some m =>
  obtain ⟨q1,q2⟩:=r.cap m rfl;rw [q1];exact Nat.mul_le_mul_right _ q2
theorem rowO_put (r:RowO (To.ofTr tr) F h bs v xs b c k css bss) {css2:List (Cl tr.size)} (hr:RelL tr F css2 zs) (hl:zs.length=xs.length) :
  (Ob.row tr v zs).ok F (h.set b (.cells tr.size ((css2.map Subtype.val).flatten++c.drop (xs.length*tr.size)))):=by
 have hfl:(css2.map Subtype.val).flatten.length=xs.length*tr.size:=by rw [zgn,hr.1,hl]
 have hcl:=zww r;have hlen:((css2.map Subtype.val).flatten++c.drop (xs.length*tr.size)).length=c.length:=by rw [List.length_append,hfl,List.length_drop];omega
 have hE:RowE (To.ofTr tr) F (h.set b (.cells tr.size ((css2.map Subtype.val).flatten++c.drop (xs.length*tr.size)))) css2 (zs.map fun _=>[]) zs:=.flat hr;have hone:((css2.map Subtype.val).flatten++c.drop (xs.length*tr.size)).all Val.one=true:=by
  rw [List.all_append,flatR_one hr];exact List.all_eq_true.2 fun x hx=>List.all_eq_true.1 r.one x (List.mem_of_mem_drop hx)
 have R:=ztr (b:=b) (c:=(css2.map Subtype.val).flatten++c.drop (xs.length*tr.size)) (k:=k) hE r.lt (by rw [Hp.get_set,if_pos rfl];rfl) (by rw [hl];exact List.take_left' hfl) (fun q=>by rw [hlen,hl];exact r.opn q) (fun m q=>by rw [hlen,hl];exact r.cap m q) (by rw [hl];exact r.few) hone (by rw [zgt];simp);have hv:v = .sl (some (b,0)) zs.length (.of (To.ofTr tr).size k):=by rw [hl];exact r.form
 rw [hv];exact Ob.mkRow ⟨_,rfl,.inr ⟨_,_,_,_,_,R⟩⟩
end
theorem St.shrink {α:Type} {X:List Nat} {h0 h:Hp} {F0 F:Frz} {L:List Ob} {t:Tr α} {v v':Val} {xs zs:List α} {b:Int} {u:Unit} (k:Nat) (s:St X h0 F0 F L h) (hk:L[k]? = some (.row t v xs)) (p:Pce v v' t.size (0:Int).toNat (b.toNat - (0:Int).toNat)) (hc:cut xs 0 b=some zs) (hnz:nz xs=some u):St X h0 F0 F (L.set k (.row t v' zs)) h:=by
 obtain ⟨c0,c1,c2,hz⟩:=ztj hc;have hz':zs=xs.take b.toNat:=hz;subst hz';have hlen:(xs.take b.toNat).length=b.toNat:=by simp;omega
 have hpos:0 < xs.length:=by
  cases xs with
  | nil=>cases hnz
  | cons a l=>simp
 obtain ⟨v0,hv0,r⟩:=s.ok hk;obtain rfl:=List.head_eq_of_cons_eq hv0
 suffices h:(Ob.row t v' (xs.take b.toNat)).ok F h ∧ ∀ g,g∈v'.own→g∈v.own from s.see hk h.1 h.2
 have hform:∃ b2 k2,v = .sl (some (b2,0)) xs.length (.of t.size k2):=by
  rcases r with ⟨rfl,hxs,_⟩ | ⟨b2,c,k2,css,bss,r⟩
  ·have:xs=[]:=hxs;rw [this] at hpos;simp at hpos
  ·exact ⟨b2,k2,r.form⟩
 rcases p with ⟨rfl,hn,b3,len,k3,hv,hle⟩ | ⟨rfl,hn,hv⟩ | ⟨g,o,len,k1,k',hv,rfl,ho,hcap,hk'⟩
 ·obtain ⟨b2,k2,hf⟩:=hform;rw [hf] at hv;simp only [Val.sl.injEq] at hv;simp at hle;omega
 ·obtain ⟨b2,k2,hf⟩:=hform;rw [hf] at hv;cases hv
 ·have ho':o=0:=ho.elim (fun q=>by simpa using q) fun q=>q.2;subst ho';rcases r with ⟨rfl,_,_⟩ | ⟨b2,c,k2,css,bss,r⟩
  ·cases hv
  ·have hf:v = .sl (some (b2,0)) xs.length (.of t.size k2):=r.form;rw [hf] at hv;simp only [Val.sl.injEq,Option.some.injEq,Prod.mk.injEq,and_true] at hv;obtain ⟨rfl,_,hkk⟩:=hv;have hk1:k1=k2:=by
    cases k1 <;> cases k2 <;> simp [Cap.of] at hkk ⊢
    exact hkk.symm
   subst hk1;have hk2:k' = k1:=by rw [hk'];cases k1 <;> simp
   subst hk2;obtain ⟨cs1,hrl,hcells⟩:∃ cs1:List (Cl t.size),RelL t F cs1 xs∧c.take (xs.length*t.size)=(cs1.map Subtype.val).flatten:=⟨css,⟨r.csl,fun i d x q1 q2=>(r.rel i d x _ q1 q2 (List.getElem?_eq_getElem (by rw [r.bsl];exact (List.getElem?_eq_some_iff.1 q2).1))).2⟩,r.cells⟩
   have hrl2:RelL t F (cs1.take b.toNat) (xs.take b.toNat):=⟨by simp [hrl.1],fun i d x q1 q2=>by
    rw [List.getElem?_take] at q1 q2
    split at q1
    ·rw [if_pos (by assumption)] at q2;exact hrl.2 i d x q1 q2
    ·cases q1⟩
   have hfl:((cs1.take b.toNat).map Subtype.val).flatten=c.take (b.toNat*t.size):=by
    have h1:((cs1.take b.toNat).map Subtype.val).flatten.length=b.toNat*t.size:=by rw [zgn (s:=t.size),List.length_take,hrl.1];congr 1;omega
    have h2:c.take (xs.length*t.size)=((cs1.take b.toNat).map Subtype.val).flatten++((cs1.drop b.toNat).map Subtype.val).flatten:=by
     rw [hcells,← List.flatten_append,← List.map_append,List.take_append_drop]
    have h3:=congrArg (List.take (b.toNat*t.size)) h2;rw [List.take_left' h1,List.take_take,Nat.min_eq_left (Nat.mul_le_mul_right _ (by omega))] at h3;exact h3.symm
   have hE:RowE (To.ofTr t) F h (cs1.take b.toNat) ((xs.take b.toNat).map fun _=>[]) (xs.take b.toNat):=.flat hrl2;have hfit:=zww r;have hmul:b.toNat*t.size≤xs.length*t.size:=Nat.mul_le_mul_right _ (by omega);have R:=ztr (b:=b2) (c:=c) (k:=k') hE r.lt r.blk (by rw [hlen];exact hfl.symm) (fun q=>by rw [hlen];exact Nat.le_trans hmul hfit) (fun m q=>⟨(r.cap m q).1,by have q2:xs.length≤m:=(r.cap m q).2;omega⟩) (by have q2:xs.length≤2 ^ 30:=r.few;omega) r.one (by rw [zgt];simp);rw [hlen] at R;exact ⟨Ob.mkRow ⟨_,rfl,.inr ⟨_,_,_,_,_,R⟩⟩,fun g hg=>by rw [hf];exact hg⟩
section
variable {P:Program} {E:EL} {X:List Nat} {h0 h:Hp} {F0 F:Frz} {L:List Ob}
theorem E_clr {α:Type} {tr:Tr α} {t e:TypeId} {v v':Val} {xs zs:List α} {x:Operand} {cs0:List Val} {x0:α} {a n:Nat} (j:Nat) (ht:P.underlying t=some (.slice e)) (hz:(zge P e).map Val.cells=some cs0) (hz0:tr.rel F cs0 x0) (hx:evLO E x=some v') (hS:St X h0 F0 F L h) (hj:L[j]? = some (.row tr v xs)) (hp:Pce v v' tr.size a n) (hc:clr xs a n x0=some zs) :
  Ef P E h (.call { callee:=.builtin .clear,args:=#[x],argTypes:=#[t] }) (fun _ h'=>St X h0 F0 F (L.set j (.row tr v zs)) h'):=by
 obtain ⟨hn,rfl⟩:=clr_some hc;obtain ⟨z,hz1,rfl⟩:=Option.map_eq_some_iff.1 hz;have same:∀ u,n=0→(op:Option (Val × Hp))→op=some (u,h) → ∃ v'' h',op=some (v'',h')∧St X h0 F0 F (L.set j (.row tr v (xs.take a++List.replicate n x0))) h':=fun u h0' op hop=>by
  subst h0';refine ⟨u,h,hop,?_⟩;have:xs.take a++List.replicate 0 x0=xs:=by rw [List.replicate_zero,List.append_nil];exact List.take_of_length_le (by omega)
  rw [this];exact hS.see hj (hS.ok hj) fun b q=>q
 refine ⟨rfl,?_⟩;have ev:∀ q:Option (Val × Hp),zsk P h [t] v' = q→opL P E h (.call { callee:=.builtin .clear,args:=#[x],argTypes:=#[t] })=q:=fun q hq=>by
  simp only [opL,evLL,List.mapM_cons,List.mapM_nil,hx,bltV,Option.bind_some,Option.bind_eq_bind,pure];exact hq
 rcases hp with ⟨rfl,h0',_⟩ | ⟨rfl,h0',_⟩ | ⟨b,o,len,k,k',hv,rfl,ho,hk,_⟩
 ·exact same (.tup []) h0' _ (ev _ (by simp [zsk,ht,hz1]))
 ·exact same (.tup []) h0' _ (ev _ (by simp [zsk,ht,hz1]))
 ·by_cases h0':n=0
  ·exact same (.tup []) h0' _ (ev _ (by simp [zsk,ht,hz1,h0']))
  ·obtain ⟨v0,hv0,r⟩:=hS.ok hj;obtain rfl:=List.head_eq_of_cons_eq hv0;rcases r with ⟨rfl,hxs,_⟩ | ⟨b2,c,k2,css,bss,r⟩
   ·cases hv
   ·have hf:v = .sl (some (b2,0)) xs.length (.of tr.size k2):=r.form;rw [hf] at hv;simp only [Val.sl.injEq,Option.some.injEq,Prod.mk.injEq] at hv;obtain ⟨⟨rfl,_⟩,_,_⟩:=hv;have hzl:z.cells.length=tr.size:=tr.len hz0;have ho':o=a*tr.size:=ho.elim id fun q=>by omega
    subst ho';obtain ⟨cs1,hrl,hcells⟩:∃ cs1:List (Cl tr.size),RelL tr F cs1 xs∧c.take (xs.length*tr.size)=(cs1.map Subtype.val).flatten:=⟨css,⟨r.csl,fun i d x q1 q2=>(r.rel i d x _ q1 q2 (List.getElem?_eq_getElem (by rw [r.bsl];exact (List.getElem?_eq_some_iff.1 q2).1))).2⟩,r.cells⟩
    have hrel:RelL tr F (cs1.take a++List.replicate n (⟨z.cells,hzl⟩:Cl tr.size)) (xs.take a++List.replicate n x0):=⟨by simp [hrl.1],fun q dd y hq hy=>by
     by_cases hqa:q < a
     ·have hl1:q < (cs1.take a).length:=by simp [hrl.1];omega
      have hl2:q < (xs.take a).length:=by simp;omega
      rw [List.getElem?_append_left hl1,List.getElem?_take_of_lt hqa] at hq;rw [List.getElem?_append_left hl2,List.getElem?_take_of_lt hqa] at hy;exact hrl.2 _ _ _ hq hy
     ·have hl1:(cs1.take a).length=a:=by simp [hrl.1];omega
      have hl2:(xs.take a).length=a:=by simp;omega
      rw [List.getElem?_append_right (by omega),hl1] at hq;rw [List.getElem?_append_right (by omega),hl2] at hy;rw [List.eq_of_mem_replicate (List.mem_of_getElem? hq),List.eq_of_mem_replicate (List.mem_of_getElem? hy)];exact hz0⟩
    have hl2:(xs.take a++List.replicate n x0).length=xs.length:=by simp;omega
    have hok:=rowO_put r hrel hl2;have hcl:=zww r;have hfl:((cs1.take a).map Subtype.val).flatten=c.take (a*tr.size):=by
     have h1:((cs1.take a).map Subtype.val).flatten.length=a*tr.size:=by rw [zgn (s:=tr.size),List.length_take,hrl.1];congr 1;omega
     have h2:c.take (xs.length*tr.size)=((cs1.take a).map Subtype.val).flatten++((cs1.drop a).map Subtype.val).flatten:=by
      rw [hcells,← List.flatten_append,← List.map_append,List.take_append_drop]
     have h3:=congrArg (List.take (a*tr.size)) h2;rw [List.take_left' h1,List.take_take,Nat.min_eq_left (Nat.mul_le_mul_right _ (by omega))] at h3;exact h3.symm
    have hzs:((List.replicate n (⟨z.cells,hzl⟩:Cl tr.size)).map Subtype.val).flatten=zeu z.cells n:=by simp [zeu]
    have hput:putL c (a*tr.size) (zeu z.cells n)=((cs1.take a++List.replicate n (⟨z.cells,hzl⟩:Cl tr.size)).map Subtype.val).flatten++c.drop (xs.length*tr.size):=by
     unfold putL;rw [List.map_append,List.flatten_append,hfl,hzs]
     congr 2
     have:(zeu z.cells n).length=n*tr.size:=by simp [zeu,hzl]
     rw [this,← hn,Nat.add_mul]
    have hzll:(zeu z.cells n).length=n*tr.size:=by simp [zeu,hzl]
    have hzone:(zeu z.cells n).all Val.one=true:=by
     refine List.all_eq_true.2 fun u hu=>?_;obtain ⟨l,hl,hu⟩:=List.mem_flatten.1 hu;rw [List.eq_of_mem_replicate hl] at hu;exact List.all_eq_true.1 (tr.one hz0) u hu
    have hfit:a*tr.size+(zeu z.cells n).length≤c.length:=by
     rw [hzll,← Nat.add_mul,hn];exact hcl
    have hblk:h.get b2=some (.cells tr.size c):=r.blk;refine ⟨.tup [],_,ev _ (by
     simp only [zsk,List.getElem?_cons_zero,Option.bind_some,ht,hz1];rw [if_neg h0',if_pos (by rw [hzl];exact tr.pos)];unfold wrH;rw [hblk];simp only;rw [if_pos ⟨hfit,hzone⟩,hput];rfl),hS.turn hj hok (Nat.le_refl _) (fun q hq=>?_) (fun q hq hn'=>?_) fun q hq=>.inl hq⟩
    ·have hq':h.next≤q:=hq;have:=r.lt;rw [Hp.get_set,if_neg (by omega)];exact hS.wf q hq'
    ·rw [Hp.get_set,if_neg (fun e'=>hn' (by rw [e',hf];simp [Ob.row,Val.own]))]
end
end Go.V
end
section
namespace Go.Wk
def sortM {α:Type} (cf:α→α→Int) (xs:List α):Option (List α):=if xs.length≤1073741824 then some (isort cf xs) else none
theorem sortM_some {α:Type} {cf:α→α→Int} {xs r:List α} (h:sortM cf xs=some r):xs.length≤1073741824∧r=isort cf xs:=by
 unfold sortM at h
 split at h
 ·rename_i hc;exact ⟨hc,(Option.some.inj h).symm⟩
 ·cases h
def cmpI (a b:Int):Int:=if a < b then -1 else if b < a then 1 else 0
def orI:List Int→Int
 | []=>0
 | x::r=>if x≠0 then x else orI r
end Go.Wk
namespace Go.V
open Go.Wk Go.Sort Go.Proofs
def KNone:Tb:=fun _ _ _ _=>False
theorem KNone_ok {P:Program}:KOk P KNone:=fun _ _ _ _ h=>h.elim
theorem sort_flat {P:Program} {K K0:Tb} {α:Type} {tr:Tr α} {f g z:Nat} {cf:α→α→Int} {fn:Func} {c:Code} (hK:∀ args h M,KSort P K0 f z f args h M→K f args h M) (hz:tr.size=z) (hO:SWO (ltOf cf)) (hT:∀ x y,ltOf cf x y=false→ltOf cf y x=false→x=y) (hg1:P.funcs[g]? = some fn) (hg2:fn.body=some c) (hg3:fn.name ≠ "runtime.NumGoroutine")
  (h0:∀ a k w,Ret P K f [.sl a 0 k,.f g []] w fun u w'=>u = .tup []∧w' = w)
  (hcmp:∀ G h' cs x ds y,Gd G h' → tr.rel G cs x→tr.rel G ds y→Ret P K0 g [.agg cs,.agg ds] h' fun v _=>v = .i .i64 (cf x y))
  {F:Frz} {w:Hp} {v:Val} {xs r:List α} (hS:St v.own w F F [.row tr v xs] w) (H:sortM cf xs=some r):Ret P K f [v,.f g []] w fun u w'=>∃ F',u = .tup []∧St v.own w F F' [.row tr v r] w':=by
 obtain ⟨_,rfl⟩:=sortM_some H;have hS':St v.own w F F [.dp (To.ofTr tr) v.own v xs] w:=hS;refine (sort_dp (t:=To.ofTr tr) hK hz (by rw [← hz];exact tr.pos) (Sees.flat tr) hO hg1 hg2 hg3 h0 hcmp hS').mono fun u w' ⟨q1,l',bs',q2,q3,q4⟩=>⟨F,q1,?_⟩
 have e:l' = isort cf xs:=rise_unique hT q3 (zvu hO xs) (q2.trans (zro cf xs).symm);subst e;have hb:bs' = v.own:=zrk (q4.ok (i:=0) rfl);subst hb;exact q4
end Go.V
end
section
namespace Go.Wk
def toW (x:Int):UInt32:=UInt32.ofNat (x % 4294967296).toNat
def shlW (x:UInt32) (n:Int):Option UInt32:=if 0≤n∧n≤32 then some (UInt32.ofNat (x.toNat*2 ^ n.toNat)) else none
def shrW (x:UInt32) (n:Int):Option UInt32:=if 0≤n∧n≤32 then some (UInt32.ofNat (x.toNat / 2 ^ n.toNat)) else none
def shrU (x n:Int):Option Int:=if 0≤n∧n≤64 then some (x / 2 ^ n.toNat) else none
theorem shrU_some {x n r:Int} (h:shrU x n=some r):0≤n∧n≤((IntKind.u64.bits:Nat):Int)∧r=x / 2 ^ n.toNat:=by
 unfold shrU at h;split at h
 ·rename_i hc;exact ⟨hc.1,hc.2,(Option.some.inj h).symm⟩
 ·cases h
def appZ {α:Type} (xs:List α) (n:Int) (d:α):Option (List α):=if 0≤n∧(xs.length:Int)+n≤1073741824 then some (xs++List.replicate n.toNat d) else none
theorem appZ_some {α:Type} {xs r:List α} {n:Int} {d:α} (h:appZ xs n d=some r):0≤n∧(xs.length:Int)+n≤1073741824∧r=xs++List.replicate n.toNat d:=by
 unfold appZ at h;split at h
 ·rename_i hc;exact ⟨hc.1,hc.2,(Option.some.inj h).symm⟩
 ·cases h
end Go.Wk
namespace Go.V
open Go.Wk
def cW (x:UInt32):Val:=.i .u32 x.toNat
def tW:Tr UInt32:=⟨1,fun _ cs n=>cs=[cW n],by decide,fun h=>by rw [h];rfl,fun h=>by rw [h];rfl,fun _ h=>h⟩
def arrC {α:Type} (n:Nat) (enc:α→Val) (d:α) (x:List α):List Val:=(List.range n).map fun i=>enc (x.getD i d)
section
variable {α:Type} {n:Nat} {enc:α→Val} {d:α} {x:List α}
theorem zop:(arrC n enc d x).length=n:=by simp [arrC]
theorem zyd (h:x.length=n):arrC n enc d x=x.map enc:=by
 apply List.ext_getElem
 ·simp [arrC,h]
 ·intro i h1 h2;have hi:i < x.length:=by simpa [arrC,h] using h1
  simp [arrC,hi]
theorem zdn (h:x.length=n) {i:Nat} {b:α} (hb:x[i]? = some b):(arrC n enc d x)[i]? = some (enc b):=by rw [zyd h];simp [hb]
theorem zpn (h:x.length=n) {i:Nat} (hi:i < n) (b:α):putL (arrC n enc d x) (0+i) [enc b]=arrC n enc d (x.set i b):=by
 rw [zyd h,zyd (by simpa using h),Nat.zero_add];apply List.ext_getElem?;intro j;rw [zjj (by simp;omega)]
 by_cases hj:j=i
 ·subst hj;rw [if_pos (by simp),Nat.sub_self,List.map_set,List.getElem?_set_self (by simp;omega)];rfl
 ·rw [if_neg (by simp;omega)];simp only [List.getElem?_map];rw [List.getElem?_set_ne (fun q=>hj q.symm)]
theorem zce (h:x.length=n) {i:Nat} {b:α} (hb:x[i]? = some b):i < n:=by rw [← h];exact (List.getElem?_eq_some_iff.1 hb).1
theorem zui (x:List UInt8):zam x=arrC 32 cB 0 x:=rfl
theorem id_put {x:List UInt8} (h:x.length=32) {i:Nat} (hi:i < 32) (b:UInt8):putL (zam x) (0+i) [cB b]=zam (x.set i b):=by
 rw [zui,zui];exact zpn h hi b
end
theorem bW_shl {P:Program} {t:TypeId} {j:IntKind} {x r:UInt32} {n:Int} (h:shlW x n=some r):binV P .shl t (.i .u32 (x.toNat:Int)) (.i j n)=some (.i .u32 (r.toNat:Int)):=by
 unfold shlW at h
 split at h
 ·rename_i hc;obtain rfl:=Option.some.inj h;rw [bI_shl (k:=.u32) hc.1 hc.2,zmd,UInt32.toNat_ofNat'];have e:((x.toNat*2 ^ n.toNat:Nat):Int)=(x.toNat:Int)*2 ^ n.toNat:=by rw [Int.natCast_mul,Int.natCast_pow];rfl
  rw [← e]
  congr 2
 ·cases h
theorem bW_shr {P:Program} {t:TypeId} {j:IntKind} {x r:UInt32} {n:Int} (h:shrW x n=some r):binV P .shr t (.i .u32 (x.toNat:Int)) (.i j n)=some (.i .u32 (r.toNat:Int)):=by
 unfold shrW at h
 split at h
 ·rename_i hc;obtain rfl:=Option.some.inj h;rw [zqy (k:=.u32) hc.1 hc.2,UInt32.toNat_ofNat']
  congr 2
  have h1:x.toNat / 2 ^ n.toNat < 2 ^ 32:=Nat.lt_of_le_of_lt (Nat.div_le_self _ _) x.toNat_lt;rw [Nat.mod_eq_of_lt h1,Int.natCast_ediv,Int.natCast_pow];rfl
 ·cases h
theorem toW_of (x:Int):IntKind.u32.wrap x=((toW x).toNat:Int):=by
 rw [zmd,toW,UInt32.toNat_ofNat'];omega
theorem uW_not (x:UInt32):unV .xor (.i .u32 (x.toNat:Int))=some (.i .u32 ((~~~x).toNat:Int)):=by
 have e:(4294967295:UInt32) ^^^ x = ~~~x:=by
  apply UInt32.toBitVec_inj.1;rw [UInt32.toBitVec_xor,UInt32.toBitVec_not,BitVec.xor_comm];exact BitVec.xor_allOnes
 have h:=Go.Wk.zfp (4294967295:UInt32) x;rw [e] at h;exact congrArg (fun z=>some (Val.i .u32 z)) h
section
variable {P:Program} {G:Frz} {E:EL}
theorem O_un {op:UnOp} {t:TypeId} {x:Operand} {a v:Val} (hx:evLO E x=some a) (hv:unV op a=some v):Rd P G E (.unOp op t x) v:=by
 refine ⟨rfl,fun h _=>?_⟩;simp [opL,hx,hv]
theorem zed {t e:TypeId} {m:Nat} {x y:Operand} {b o:Nat} {kk:IntKind} {n:Int} (ht:P.underlying t=some (.array m e)) (hz:sz P e=some 1) (hx:evLO E x=some (pl b o)) (hy:evLO E y=some (.i kk n)) (h0:0≤n) (h1:n.toNat < m):Rd P G E (.indexAddr t x y) (pl b (o+n.toNat)):=by
 refine ⟨rfl,fun h _=>?_⟩;simp only [opL,hx,hy,Option.bind_some,idxA,natI];rw [if_pos h0];simp only [Option.bind_some,ht,hz];rw [if_pos h1,Nat.mul_one];rfl
def buildA (P:Program) (t:TypeId):Option (Nat × List Val):=(zge P t).bind fun zero=>match P.underlying t with
 | some (.array _ e)=>(sz P e).map fun z=>(z,zero.cells)
 | _=>none
theorem zrb {t:TypeId} {ps:Array (Nat × Operand)} {z:Nat} {zc:List Val} {vs:List (Nat × Val)} {v:Val} (ht:buildA P t=some (z,zc)) (hp:evLP E ps.toList=some vs) (hf:(zkr (fun i=>some (i*z,z)) zc vs).map Val.agg=some v):Rd P G E (.build t ps) v:=by
 refine ⟨rfl,fun h _=>?_⟩;unfold buildA at ht;rw [Option.bind_eq_some_iff] at ht;obtain ⟨zero,h1,ht⟩:=ht
 split at ht
 ·rename_i m e hu;obtain ⟨z',h2,e'⟩:=Option.map_eq_some_iff.1 ht;obtain ⟨rfl,rfl⟩:=Prod.mk.inj e';simp only [opL,hp,Option.bind_some,zwg,h1,hu,h2,hf,Option.map_some]
 ·cases ht
end
section
variable {P:Program} {E:EL} {X:List Nat} {h0 h:Hp} {F0 F:Frz} {L:List Ob}
theorem zsp {t:TypeId} {x y:Operand} {g o:Nat} {cs cs':List Val} {u:Val} (k:Nat) (hx:evLO E x=some (pl g o)) (hy:evLO E y=some u) (hS:St X h0 F0 F L h) (hk:L[k]? = some (.box g cs)) (h1:u.one=true) (hz:sz P t=some 1) (hfit:o < cs.length) (hcs:putL cs o [u]=cs') :
  Ef P E h (.store t x y) (fun _ h'=>St X h0 F0 F (L.set k (.box g cs')) h'):=by
 obtain ⟨q1,q2,q3⟩:=hS.boxGet k hk;have hc:u.cells=[u]:=by cases u <;> first | rfl | cases h1
 subst hcs;have h1':[u].all Val.one=true:=by simp [h1]
 have hf:o+[u].length≤cs.length:=by simp;omega
 have hall:(putL cs o [u]).all Val.one=true:=by
  unfold putL;rw [List.all_append,List.all_append,h1'];have p1:(cs.take o).all Val.one=true:=List.all_eq_true.2 fun x hx=>List.all_eq_true.1 q3 x (List.mem_of_mem_take hx);have p2:(cs.drop (o+[u].length)).all Val.one=true:=List.all_eq_true.2 fun x hx=>List.all_eq_true.1 q3 x (List.mem_of_mem_drop hx);rw [p1,p2];rfl
 have hlen:=zek (c:=cs) (o:=o) (vs:=[u]) hf;refine ⟨rfl,.no,h.set g (.cells cs.length (putL cs o [u])),?_,hS.turn hk (box_mk (by rw [Hp.get_set,if_pos rfl,hlen]) q2 hall) (Nat.le_refl _) (fun b hb=>?_) (fun b hb hn=>?_) fun b hb=>.inl hb⟩
 ·simp only [opL,hx,hy,Option.bind_some,stV,hz,hc];rw [if_pos (by simp)];unfold wrH;rw [q1];simp only;rw [if_pos ⟨hf,h1'⟩];rfl
 ·have hb':h.next≤b:=hb;rw [Hp.get_set,if_neg (by omega)];exact hS.wf b hb'
 ·rw [Hp.get_set,if_neg (fun e=>hn (by rw [e];simp [Ob.box]))]
theorem E_appZ {α:Type} {t:Tr α} {ts tx e:TypeId} {sx xx:Operand} {v:Val} {xs zs:List α} {n:Int} {d:α} {kk:IntKind} (k:Nat) (ht:P.underlying ts=some (.slice e)) (hrow:zkq P e t.size=true) (hzk:zhs P tx=some true) (hz0:∀ z,zge P e=some z→t.rel F z.cells d) (hs:evLO E sx=some v) (hxx:evLO E xx=some (.i kk n)) (hS:St X h0 F0 F L h) (hk:L[k]? = some (.row t v xs)) (hz:appZ xs n d=some zs) :
  Ef P E h (.call { callee:=.builtin .append,args:=#[sx,xx],argTypes:=#[ts,tx] }) (fun v' h'=>St X h0 F0 F (L.set k (.row t v' zs)) h'):=by
 obtain ⟨n0,hfew,rfl⟩:=appZ_some hz;obtain ⟨inf,zero,r1,r2,r3,r4,r5,r6,r7⟩:=zkb hrow;have hz1:=hz0 _ r3;have c1:RelL t F (List.replicate n.toNat (⟨zero.cells,r4⟩:Cl t.size)) (List.replicate n.toNat d):=⟨by simp,fun i d' x q1 q2=>by
  rw [List.eq_of_mem_replicate (List.mem_of_getElem? q1),List.eq_of_mem_replicate (List.mem_of_getElem? q2)];exact hz1⟩
 have hE:RowE (To.ofTr t) F h (List.replicate n.toNat (⟨zero.cells,r4⟩:Cl t.size)) ((List.replicate n.toNat d).map fun _=>[]) (List.replicate n.toNat d):=.flat c1;obtain ⟨v',h',bs',q1,q2,q3,q4,q5,q6⟩:=To.row_cat (t:=To.ofTr t) r5 (hS.ok hk) hE (by rw [zgt];exact List.nodup_nil) (fun g hg=>by rw [zgt] at hg;cases hg) hS.wf (by simp only [List.length_replicate];show xs.length+n.toNat≤2 ^ 30;omega);refine ⟨rfl,v',h',?_,hS.turn hk (Ob.mkRow q2) q3 q4 q5 fun b hb=>?_⟩
 ·have hnv:natV (.i kk n)=some n.toNat:=by unfold natV;simp only;rw [if_pos ⟨n0,by omega⟩]
  have hzs:((List.replicate n.toNat (⟨zero.cells,r4⟩:Cl t.size)).map Subtype.val).flatten=zeu zero.cells n.toNat:=by simp [zeu]
  have hlen:(zeu zero.cells n.toNat).length=n.toNat*t.size:=by simp [zeu,r4]
  have hone:(zeu zero.cells n.toNat).all Val.one=true:=by rw [← hzs];exact hE.all1
  simp only [opL,evLL,List.mapM_cons,List.mapM_nil,hs,hxx,bltV,zpo,ht,r1,r2,r3,hzk,moreV,hnv,Option.bind_some,cond_true,pure,Option.bind_eq_bind];rw [if_pos r4];simp only [Option.bind_some];rw [if_pos ⟨r4,r5,by omega,r6,r7,hlen,hone⟩];rw [List.length_replicate] at q1;have q1':appV h t.size n.toNat ((List.replicate n.toNat (⟨zero.cells,r4⟩:Cl t.size)).map Subtype.val).flatten v=some (v',h'):=q1;rw [hzs] at q1';exact q1'
 ·have:=zrk q2;have hb':b∈v'.own:=hb;rw [← this] at hb';rcases q6 b hb' with q | q | q
  ·exact .inl q
  ·rw [zgt] at q;cases q
  ·exact .inr q
theorem O_slN {G:Frz} {t e:TypeId} {z:Nat} {x:Operand} {ol oh:Option Operand} (ht:P.underlying t=some (.slice e)) (hz:sz P e=some z) (hx:evLO E x=some (.sl none 0 (.k 0))) (hl:Bd E ol 0 0) (hh:Bd E oh 0 0):Rd P G E (.slice t x ol oh none) (.sl none 0 (.k 0)):=by
 refine ⟨rfl,fun h _=>?_⟩;obtain ⟨lo,l1,l2⟩:=hl.val;obtain ⟨hi',r1,r2⟩:=hh.val;have n0:evLQ E none=some none:=rfl;simp only [opL,hx,l1,r1,n0,Option.bind_some,zhn,ht,hz];rw [zms (len:=0) l2 r2 (by omega) (by omega) (by omega) (Nat.le_refl _)];rfl
theorem O_len0 {G:Frz} {T e:TypeId} {x:Operand} (ht:P.underlying T=some (.slice e)) (hx:evLO E x=some (.sl none 0 (.k 0))):Rd P G E (.call { callee:=.builtin .len,args:=#[x],argTypes:=#[T] }) (.i .i64 0):=zdh (n:=0) ht hx (.inr ⟨none,_,rfl,fun _=>rfl⟩)
theorem O_cap0 {G:Frz} {T e:TypeId} {x:Operand} (ht:P.underlying T=some (.slice e)) (hx:evLO E x=some (.sl none 0 (.k 0))):Rd P G E (.call { callee:=.builtin .cap,args:=#[x],argTypes:=#[T] }) (.i .i64 0):=by
 refine ⟨rfl,fun h _=>?_⟩;simp [opL,evLL,hx,bltV,capB,ht]
end
end Go.V
end
section
namespace Go.V
open Go.Wk
structure Foc {α β:Type} (t:To α) (tr:Tr β) (f:Nat) (get:α→List β) (set:α→List β→α):Prop where
 lt:f < t.size
 op:∀ {F h e cs x},t.rel F h e cs x → ∃ u,cs[f]? = some u∧(To.row (To.ofTr tr)).rel F h e [u] (get x)
 cl:∀ {F h e cs x F' h' e' u' l'},t.rel F h e cs x→F.le F' → (To.row (To.ofTr tr)).rel F' h' e' [u'] l' → t.rel F' h' e' (putL cs f [u']) (set x l')
def To.hu {α:Type} (t:To α) (f:Nat) (u:Val):To α where
 size:=t.size
 rel F h bs cs x:=bs=[] ∧ ∃ h0 e0,t.rel F h0 e0 cs x∧cs[f]? = some u
 len:=fun ⟨_,_,_,q,_⟩=>t.len q
 one:=fun ⟨_,_,_,q,_⟩=>t.one q
 lt:=fun ⟨q,_⟩ b hb=>by rw [q] at hb;cases hb
 nodup:=fun ⟨q,_⟩=>by rw [q];exact List.nodup_nil
 mono:=fun l ⟨q,h0,e0,q1,q2⟩=>⟨q,h0,e0,t.mono l q1,q2⟩
 frame:=fun q _ _=>q
abbrev To.holed {α:Type} (t:To α) (f:Nat) (u:Val):To (α × Bool):=To.tag t (t.hu f u) rfl
def butL {α:Type} (i:Nat) (l:List α):List (α × Bool):=l.mapIdx fun j x=>(x,decide (j≠i))
theorem butL_len {α:Type} (i:Nat) (l:List α):(butL i l).length=l.length:=by simp [butL]
theorem zpm {α:Type} {i j:Nat} {l:List α} {x:α} (h:l[j]? = some x):(butL i l)[j]? = some (x,decide (j≠i)):=by simp [butL,h]
section
variable {α β:Type} {t:To α} {tr:Tr β} {f:Nat} {get:α→List β} {set:α→List β→α} {X:List Nat} {h0 h:Hp} {F0 F:Frz} {L:List Ob} {bs bs2:List Nat} {v:Val} {xs:List α} {x:α} {i:Nat}
theorem St.focus (fo:Foc t tr f get set) (k:Nat) (s:St X h0 F0 F L h) (hk:L[k]? = some (.dp t bs v xs)) (hi:xs[i]? = some x):∃ u bs2 cs,Elf (nowF h) v t.size i cs∧cs[f]? = some u∧St X h0 F0 F (.row tr u (get x)::L.set k (.dp (t.holed f u) bs2 v (butL i xs))) h:=by
 obtain ⟨cs,e,hr,hsub,he,hsw⟩:=To.row_swap (t:=t) (s.ok hk) hi;have hpos:0 < t.size:=Nat.lt_of_le_of_lt (Nat.zero_le _) fo.lt;obtain ⟨u,hu,hrow⟩:=fo.op hr;obtain ⟨bs2,hh2,hm2⟩:=hsw (t.holed f u) (butL i xs) (x,false) [] rfl (butL_len _ _) (by rw [zpm hi];simp) (fun j x y e cs hj h1 h2 h3=>by
  have h1':xs[j]? = some x:=h1;rw [zpm h1'] at h2;obtain rfl:=Option.some.inj h2;exact .inl ⟨by simpa using hj,h3⟩) (.inr ⟨rfl,rfl,h,e,hr,hu⟩) (fun g hg=>by cases hg)
 have hown:e=u.own:=zrk hrow;subst hown;have hS2:=s.part (i:=k) (.row tr u (get x)) (.dp (t.holed f u) bs2 v (butL i xs)) hk hrow hh2 hsub (fun g hg=>((hm2 g).1 hg).elim (fun q=>q.1) fun q=>by cases q) (fun g hg hg2=>((hm2 g).1 hg2).elim (fun q=>q.2 hg) fun q=>by cases q);exact ⟨u,bs2,cs,he hpos,hu,hS2⟩
theorem unbut {u:Val} {y:α} (hi:i < xs.length) (r:(Ob.dp (t.holed f u) bs v ((butL i xs).set i (y,true))).ok F h):(Ob.dp t bs v (xs.set i y)).ok F h :=
 To.row_conv (t:=t.holed f u) (s:=t) (xs:=(butL i xs).set i (y,true)) (ys:=xs.set i y) rfl r (by simp [butL]) fun j a b e cs h1 h2 h3=>by
  by_cases hj:j=i
  ·subst hj;rw [List.getElem?_set_self (by rw [butL_len];exact hi)] at h1;rw [List.getElem?_set_self hi] at h2;obtain rfl:=Option.some.inj h1;obtain rfl:=Option.some.inj h2;exact h3.elim (fun q=>q.2) fun q=>by cases q.1
  ·rw [List.getElem?_set_ne (fun q=>hj q.symm)] at h1 h2;rw [zpm h2] at h1;obtain rfl:=Option.some.inj h1;exact h3.elim (fun q=>q.2) fun q=>absurd q.1 (by simpa using hj)
end
section
variable {P:Program} {E:EL} {α β:Type} {t:To α} {tr:Tr β} {f:Nat} {get:α→List β} {set:α→List β→α} {X:List Nat} {h0 h:Hp} {F0 F:Frz} {L:List Ob} {bs bs2:List Nat} {v:Val} {xs:List α} {x:α}
theorem E_fill {ty:TypeId} {u u':Val} {l':List β} {xo yo:Operand} {o:Nat} (fo:Foc t tr f get set) (i:Nat) (hx:evLO E xo=some (elp v o)) (hy:evLO E yo=some u') (hS:St X h0 F0 F (.row tr u' l' :: .dp (t.holed f u) bs v (butL i xs)::L) h) (hi:xs[i]? = some x) (ho:o=i*t.size+f) (hz:sz P ty=some 1) :
  Ef P E h (.store ty xo yo) (fun _ h'=>∃ bs',St X h0 F0 F (.dp t bs' v (xs.set i (set x l'))::L) h'):=by
 have hpos:0 < t.size:=Nat.lt_of_le_of_lt (Nat.zero_le _) fo.lt;have hrow:(To.row (To.ofTr tr)).rel F h u'.own [u'] l':=hS.ok (i:=0) rfl;have hone:=(To.row_ln hrow).cells;have hS':St X h0 F0 F (⟨To.row (To.ofTr tr),u'.own,[u'],l'⟩ :: .dp (t.holed f u) bs v (butL i xs)::L) h:=hS;have hil:=(List.getElem?_eq_some_iff.1 hi).1;obtain ⟨q0,v',h',q1,bs',q2⟩:=E_putD (P:=P) (E:=E) (ty:=ty) (u:=u') (xo:=xo) (yo:=yo) (o:=o) i f (x,false) (set x l',true) (t:=t.holed f u) hpos hx hy hS' (by rw [zpm hi];simp) ho hone hz fo.lt (fun h cs e r1 r2=>by
  rcases r1 with ⟨r1,_⟩ | ⟨_,_,h1,e1,r1,_⟩
  ·cases r1
  ·exact .inl ⟨rfl,fo.cl r1 (Frz.le.refl _) r2⟩)
 refine ⟨q0,v',h',q1,bs',?_⟩;have:=q2.see (i:=0) (o':=.dp t bs' v (xs.set i (set x l'))) rfl (unbut hil (q2.ok (i:=0) rfl)) (fun b q=>q);simpa using this
end
section
variable {α:Type} {t:To α} {tr:Tr α} {X:List Nat} {h0 h:Hp} {F0 F:Frz} {L:List Ob} {bs:List Nat} {v:Val} {xs:List α}
theorem St.flatD (s:Sees t tr) (k:Nat) (hS:St X h0 F0 F L h) (hk:L[k]? = some (.dp t bs v xs)):∃ F',F.le F' ∧ St X h0 F0 F' (L.set k (.row tr v xs)) h:=by
 obtain ⟨v0,hv0,r⟩:=hS.ok hk;obtain rfl:=List.head_eq_of_cons_eq hv0;have hkl:=(List.getElem?_eq_some_iff.1 hk).1;rcases r with ⟨rfl,hxs,hbs⟩ | ⟨b,c,kk,css,bss,r⟩
 ·have hxs':xs=[]:=hxs;subst hxs';exact ⟨F,Frz.le.refl _,hS.see hk (o':=.row tr (.sl none 0 (.k 0)) []) ⟨_,rfl,.inl ⟨rfl,rfl,rfl⟩⟩ fun b hb=>by cases hb⟩
 ·have hfoot:bs=b::bss.flatten:=r.foot;have hnod:bs.Nodup:=r.nodup;rw [hfoot] at hnod;obtain ⟨hb1,hb2⟩:=List.nodup_cons.1 hnod;have hown:=(hS.own k _ hk).2;have hin:∀ g,g∈bss.flatten→(∀ q,F g q=none)∧(h0.next≤g∨g∈X):=fun g hg=>hown g (by show g∈bs;rw [hfoot];exact List.mem_cons_of_mem _ hg);have hbo:(∀ q,F b q=none)∧(h0.next≤b∨b∈X):=hown b (by show b∈bs;rw [hfoot];simp);have hle:=Frz.plus_le (h:=h) (F:=F) fun g hg=>(hin g hg).1;have hform:v = .sl (some (b,0)) xs.length (.of t.size kk):=r.form;have hs:=s.size;obtain ⟨css2,hc1,hc2,hc3⟩:∃ css2:List (Cl (To.ofTr tr).size),css2.length=css.length∧css2.map Subtype.val=css.map Subtype.val ∧ ∀ (i:Nat) (d:Cl (To.ofTr tr).size),css2[i]? = some d → ∃ d0,css[i]? = some d0∧d.1=d0.1 :=
   ⟨css.map (fun d=>(⟨d.1,d.2.trans hs⟩:Cl (To.ofTr tr).size)),by simp,by rw [List.map_map];rfl,fun i d q=>by
    rw [List.getElem?_map] at q;obtain ⟨d0,hd0,rfl⟩:=Option.map_eq_some_iff.1 q;exact ⟨d0,hd0,rfl⟩⟩
  have hrow:(Ob.row tr v xs).ok (F.plus h bss.flatten) h:=by
   refine Ob.mkRow (bs:=b::(xs.map fun _=>([]:List Nat)).flatten) ⟨_,rfl,.inr ⟨b,c,kk,css2,xs.map fun _=>[],?_⟩⟩;refine ⟨by rw [hform,hs];rfl,by rw [r.blk,hs];rfl,r.lt,by rw [hc1];exact r.csl,by simp,fun i d x e q1 q2 q3=>?_,?_,fun q=>by have:=r.opn q;rw [hs] at this;exact this,fun m q=>by have:=r.cap m q;rw [hs] at this;exact this,r.few,r.one,rfl,by rw [zgt];simp⟩
   ·rw [List.getElem?_map] at q3;obtain ⟨d0,hd0,hdd⟩:=hc3 i d q1;have hil:=(List.getElem?_eq_some_iff.1 q2).1;have he:e=[]:=by
     rw [List.getElem?_eq_getElem hil] at q3;exact (Option.some.inj q3).symm
    have hbl:i < bss.length:=by rw [r.bsl];exact hil
    refine ⟨he,hdd ▸ s.rel (r.rel i d0 x _ hd0 q2 (List.getElem?_eq_getElem hbl)) hle fun g hg o u hu=>?_⟩;unfold Frz.plus;rw [if_pos (List.mem_flatten.2 ⟨_,List.getElem_mem hbl,hg⟩)];exact hu
   ·have h1:c.take (xs.length*tr.size)=(css.map Subtype.val).flatten:=by rw [← hs];exact r.cells
    exact h1.trans (congrArg List.flatten hc2.symm)
  have hvo:v.own=[b]:=by rw [hform];rfl
  have hnk:∀ (j:Nat) (p:Ob) (g:Nat),j≠k→L[j]? = some p→g∈p.bs→g ∉ bs:=fun j p g hj hp hg hg2=>hj (hS.apart j k p _ g hp hk hg hg2);refine ⟨F.plus h bss.flatten,hle,hS.next,hS.wf,hS.keep,fun g q u e=>?_,hS.ext.trans hle,fun g q u e=>?_,fun j p hj=>?_,fun j j' p p' g hj hj' hg hg'=>?_⟩
  ·unfold Frz.plus at e
   split at e
   ·exact e
   ·exact hS.agree g q u e
  ·unfold Frz.plus at e
   split at e
   ·rename_i hg;exact .inr (hin g hg).2
   ·exact hS.new g q u e
  ·by_cases hjk:j=k
   ·subst hjk;rw [List.getElem?_set_self hkl] at hj;obtain rfl:=Option.some.inj hj;refine ⟨hrow,fun g hg=>?_⟩;have hg':g∈v.own:=hg;rw [hvo] at hg';have:g=b:=by simpa using hg'
    subst this;refine ⟨fun q=>?_,hbo.2⟩;unfold Frz.plus;rw [if_neg hb1];exact hbo.1 q
   ·rw [List.getElem?_set_ne (fun q=>hjk q.symm)] at hj;obtain ⟨t1,t2⟩:=hS.own j p hj;refine ⟨p.t.mono hle t1,fun g hg=>⟨fun q=>?_,(t2 g hg).2⟩⟩;unfold Frz.plus;rw [if_neg fun z=>hnk j p g hjk hj hg (by rw [hfoot];exact List.mem_cons_of_mem _ z)];exact (t2 g hg).1 q
  ·have tobs:∀ (j:Nat) (p:Ob),(L.set k (.row tr v xs))[j]? = some p → ∃ p0,L[j]? = some p0 ∧ ∀ g,g∈p.bs→g∈p0.bs:=fun j p hj=>by
    by_cases hjk:j=k
    ·subst hjk;rw [List.getElem?_set_self hkl] at hj;obtain rfl:=Option.some.inj hj;refine ⟨_,hk,fun g hg=>?_⟩;have hg':g∈v.own:=hg;rw [hvo] at hg';show g∈bs;rw [hfoot];have:g=b:=by simpa using hg'
     simp [this]
    ·rw [List.getElem?_set_ne (fun q=>hjk q.symm)] at hj;exact ⟨p,hj,fun g hg=>hg⟩
   obtain ⟨p0,e1,e2⟩:=tobs j p hj;obtain ⟨p1,e3,e4⟩:=tobs j' p' hj';exact hS.apart j j' p0 p1 g e1 e3 (e2 g hg) (e4 g hg')
end
section
variable {α:Type} {t:To α} {F:Frz} {h:Hp} {bs:List Nat} {v:Val} {xs:List α}
theorem To.row_first (hpos:0 < t.size) (r:(To.row t).rel F h bs [v] xs):∃ css bss,RowE t F h css bss xs∧bss.flatten.Nodup∧(∀ g,g∈bss.flatten→g∈bs)∧lenV v=some xs.length∧zgd h t.size xs.length v=some (css.map Subtype.val).flatten:=by
 obtain ⟨v0,hv0,r⟩:=r;obtain rfl:=List.head_eq_of_cons_eq hv0;rcases r with ⟨rfl,rfl,_⟩ | ⟨b,c,k,css,bss,r⟩
 ·exact ⟨[],[],.nil,List.nodup_nil,(fun g hg=>by simp at hg),rfl,rfl⟩
 ·have hf:=r.form;have hnod:=r.nodup;rw [r.foot] at hnod;have hfit:xs.length*t.size≤c.length:=by
   cases k with
   | none=>exact r.opn rfl
   | some m=>obtain ⟨q1,q2⟩:=r.cap m rfl;rw [q1];exact Nat.mul_le_mul_right _ q2
  refine ⟨css,bss,⟨r.csl,r.bsl,r.rel⟩,(List.nodup_cons.1 hnod).2,fun g hg=>by rw [r.foot];exact List.mem_cons_of_mem _ hg,by rw [hf];rfl,?_⟩;rw [hf];simp only [zgd]
  split
  ·rename_i h0;have:css=[]:=List.eq_nil_of_length_eq_zero (by rw [r.csl];exact h0);subst this;rfl
  ·unfold rd;rw [r.blk];simp only [Nat.zero_add,List.drop_zero];rw [if_pos hfit,r.cells]
theorem St.dpIx {X:List Nat} {h0:Hp} {F0:Frz} {L:List Ob} {k i:Nat} {x:α} (hS:St X h0 F0 F L h) (hk:L[k]? = some (.dp t bs v xs)) (hi:xs[i]? = some x):Ixd v i:=by
 obtain ⟨v0,hv0,r⟩:=hS.ok hk;obtain rfl:=List.head_eq_of_cons_eq hv0;have hil:=(List.getElem?_eq_some_iff.1 hi).1;rcases r with ⟨rfl,hxs,_⟩ | ⟨b,c,k,css,bss,r⟩
 ·have:xs=[]:=hxs;subst this;simp at hil
 ·exact ⟨b,0,_,_,r.form,hil⟩
theorem To.row_slice {P:Program} {ty e:TypeId} {lo hi:Option Val} {a b:Int} (r:(To.row t).rel F h bs [v] xs) (ht:P.underlying ty=some (.slice e)) (hz:sz P e=some t.size) (hlo:BdV lo 0 a) (hhi:BdV hi xs.length b) (h0:0≤a) (h1:a≤b) (h2:b≤(xs.length:Int)):∃ v',zhn P ty v lo hi none=some v':=by
 obtain ⟨v0,hv0,r⟩:=r;obtain rfl:=List.head_eq_of_cons_eq hv0;rcases r with ⟨rfl,rfl,_⟩ | ⟨g,c,m,css,bss,r⟩
 ·refine ⟨_,by unfold zhn;simp only [ht,hz,Option.bind_some];rw [zms (len:=0) hlo hhi h0 h1 h2 (Nat.le_refl _)];rfl⟩
 ·have hf:=r.form;subst hf;cases m with
  | some m=>exact ⟨_,by unfold zhn;simp only [Cap.of_some,ht,hz,Option.bind_some];rw [zms hlo hhi h0 h1 h2 (r.cap m rfl).2];rfl⟩
  | none=>exact ⟨_,by unfold zhn;simp only [Cap.of_none,ht,hz,Option.bind_some,if_true];rw [zms hlo hhi h0 h1 h2 (Nat.le_refl _)];rfl⟩
end
section
variable {P:Program} {K:Tb} {fn:Func} {k:Kont} {E:EL} {h:Hp} {A:List Oper} {dr:Bool} {G:Frz} {L:List Nat} {i d:Nat} {X:List Nat} {h0:Hp} {F0 F:Frz} {Lo:List Ob}
theorem W_cutD {α:Type} {t:To α} {ty e:TypeId} {v:Val} {bs:List Nat} {xs:List α} {x:Operand} {ol oh:Option Operand} (j:Nat) (a b:Int) (hi:Nat.blt i A.length=true) (hw:zdc A E (opAt A i)=some true) (hd:(opAt A i).dst=some d) (hop:(opAt A i).op = .slice ty x ol oh none)
  (ht:P.underlying ty=some (.slice e)) (hz:sz P e=some t.size) (hx:evLO E x=some v) (hl:Bd E ol 0 a) (hh:Bd E oh xs.length b) (hS:St X h0 F0 F Lo h) (hj:Lo[j]? = some (.dp t bs v xs)) (q0:0≤a) (q1:a≤b) (q2:b≤(xs.length:Int))
  (q:∀ v',W P K fn k A dr G L ((d,v')::E) h):W P K fn k A dr G (i::L) E h:=by
 obtain ⟨lo,l1,l2⟩:=hl.val;obtain ⟨hi',r1,r2⟩:=hh.val;obtain ⟨v',k1⟩:=To.row_slice (P:=P) (hS.ok hj) ht hz l2 r2 q0 q1 q2;refine W_c (v:=v') hi hw hd (by rw [hop];rfl) (fun h=>?_) (q v');rw [hop];have n0:evLQ E none=some none:=rfl;simp only [opL,hx,l1,r1,n0,Option.bind_some,k1,Option.map_some]
end
section
variable {P:Program} {E:EL} {X:List Nat} {h0 h:Hp} {F0 F:Frz} {L:List Ob}
theorem E_appD {α:Type} {t:To α} {ts tx e:TypeId} {sx xx:Operand} {v v2:Val} {bs bs2:List Nat} {xs ys zs:List α} (ht:P.underlying ts=some (.slice e)) (hrow:zkq P e t.size=true) (hzk:zhs P tx=some false) (hs:evLO E sx=some v) (hxx:evLO E xx=some v2) (hS:St X h0 F0 F (.dp t bs2 v2 ys :: .dp t bs v xs::L) h) (hz:app xs ys=some zs) :
  Ef P E h (.call { callee:=.builtin .append,args:=#[sx,xx],argTypes:=#[ts,tx] }) (fun v' h'=>∃ bs',St X h0 F0 F (.dp t bs' v' zs::L) h'):=by
 obtain ⟨hfew,rfl⟩:=zye hz;obtain ⟨inf,zero,r1,r2,r3,r4,r5,r6,r7⟩:=zkb hrow;have hk:(.dp t bs2 v2 ys :: .dp t bs v xs::L:List Ob)[1]? = some (.dp t bs v xs):=rfl;obtain ⟨css,bss,hE,hnd,hsub,c3,c4⟩:=To.row_first (t:=t) (bs:=bs2) (v:=v2) (xs:=ys) r5 (hS.ok (i:=0) rfl);have hap:∀ g,g∈bs2→g ∉ bs:=fun g h1 h2=>by
  have:=hS.apart 0 1 _ _ g rfl hk h1 h2;omega
 obtain ⟨v',h',bs',q1,q2,q3,q4,q5,q6⟩:=To.row_cat (t:=t) (bs:=bs) (v:=v) (xs:=xs) r5 (hS.ok hk) hE hnd (fun g hg=>hap g (hsub g hg)) hS.wf hfew;refine ⟨rfl,v',h',?_,bs',hS.join _ q2 q3 q4 (fun b hb _ hn=>q5 b hb hn) fun b hb=>?_⟩
 ·have hcl:=hE.csl;simp only [opL,evLL,List.mapM_cons,List.mapM_nil,hs,hxx,bltV,zpo,ht,r1,r2,r3,hzk,moreV,c3,Option.bind_some,Option.map_some,cond_false,pure,Option.bind_eq_bind];rw [c4];simp only [Option.map_some,Option.bind_some];rw [if_pos ⟨r4,r5,by omega,r6,r7,by rw [zgn css,hcl],hE.all1⟩];exact q1
 ·rcases q6 b hb with q | q | q
  ·exact .inr (.inl q)
  ·exact .inl (hsub b q)
  ·exact .inr (.inr q)
theorem E_bs1 {α:Type} {t:To α} {ts e:TypeId} {n:Nat} {ps:Array (Nat × Operand)} {u:Val} {x:α} (ht:P.underlying ts=some (.slice e)) (hrow:zkq P e t.size=true) (hp:evLP E ps.toList=some (numb 0 [u])) (hr:t.rel F h [] u.cells x) (hn:n=1) (hle:Nat.ble t.size 16777216=true) (hS:St X h0 F0 F L h) :
  Ef P E h (.buildSlice ts n ps) (fun v' h'=>∃ bs',St X h0 F0 F (.dp t bs' v' [x]::L) h'):=by
 subst hn;obtain ⟨inf,zero,r1,r2,r3,r4,r5,r6,r7⟩:=zkb hrow;have hE:RowE t F h [⟨u.cells,t.len hr⟩] [[]] [x]:=.one hr;have hall:u.cells.all Val.one=true:=t.one hr;have hnle:=Nat.le_of_ble_eq_true hle;have hfill:=zxp (z:=t.size) r4 [u] 0 [] (fun w hw=>by simp at hw;subst hw;exact t.len hr) (by simp);simp only [List.nil_append,List.map_cons,List.map_nil,List.flatten_cons,List.flatten_nil,List.append_nil,List.length_singleton] at hfill;have R:=zqd (h1:=h) (m:=some 1) (post:=[]) hE rfl (fun g q=>rfl) (by simp) (by simp) (fun _=>rfl) (fun q e=>by obtain rfl:=Option.some.inj e;exact ⟨by simp,by simp⟩) rfl;simp only [List.map_cons,List.map_nil,List.flatten_cons,List.flatten_nil,List.append_nil] at R;refine ⟨rfl,.sl (some (h.next,0)) 1 (.k 1),_,?_,[h.next],hS.fresh ⟨Nat.le_succ _,zvk rfl hS.wf,fun b hb=>?_⟩ ⟨_,rfl,.inr ⟨_,_,_,_,_,R⟩⟩ (fun b hb=>?_)⟩
 ·simp only [opL,hp,Option.bind_some,zhg,ht,r1,r3];rw [if_pos ⟨by omega,r4,r5⟩,hfill];simp only [Option.bind_some,rowV];rw [if_pos hall];rfl
 ·rw [Hp.get_new,if_neg (by omega)]
 ·have:b=h.next:=by simpa [Ob.dp] using hb
  omega
end
end Go.V
end
section
namespace Go.V
open Go.Wk
section
variable {P:Program} {K0:Tb}
def zwh (P:Program) (K0:Tb) (f:FuncId):Tb:=fun f' args h M=>f' = f ∧ ∃ b n z c rest,args = .sl (some (b,0)) n (.op z)::rest∧h.get b=some (.cells z c)∧n*z≤c.length ∧
 ∀ m,n≤m→c.length≤m*z→Ret P K0 f (.sl (some (h.next,0)) n (.k m)::rest) ((h.set b .dead).new (.cells z (c++List.replicate (m*z - c.length) .un))) M
theorem zvd (hK:KOk P K0) {f:FuncId}:KOk P (zwh P K0 f):=by
 rintro f' args h M ⟨rfl,b,n,z,c,rest,rfl,hg,hn,hx⟩ ρ w args' r hr;obtain ⟨a0,ar,rfl⟩:∃ a0 ar,args' = a0::ar:=by
  cases args' with
  | nil=>exact absurd hr.1 (by simp)
  | cons a r=>exact ⟨a,r,rfl⟩
 have h0:=hr.head;cases h0 with
 | so hb hlk p1 p2 =>
  rename_i m i;obtain ⟨b1,b2,b3,b4,b5,b6⟩:=r.blk _ _ _ hb hg;rw [Nat.zero_add,b2] at p1;rw [Nat.add_zero] at p2;have hc:c.length≤m*i.z:=p1;have hall:(c++List.replicate (m*i.z - c.length) Val.un).all Val.one=true:=by
   rw [List.all_append,b4,Bool.true_and];exact List.all_eq_true.2 fun u hu=>by rw [(List.mem_replicate.1 hu).2];rfl
  have hlen:(c++List.replicate (m*i.z - c.length) Val.un).length=m*i.z:=by rw [List.length_append,List.length_replicate];omega
  obtain ⟨q2,q3⟩:=r.newIn (p:=0) (us:=[]) (z:=i.z) (n:=0) (N:=i.N) (base:=i.base) (c:=c++List.replicate (m*i.z - c.length) Val.un) hb hg hall (by rw [hlen];exact p2) (fun u hu=>by cases hu) b5.2 b5.1 (fun j u hj=>by
   by_cases hjl:j < c.length
   ·rw [List.getElem?_append_left hjl] at hj;exact b6 j u hj
   ·rw [List.getElem?_append_right (by omega)] at hj;have hu:u = .un:=(List.mem_replicate.1 (List.mem_of_getElem? hj)).2;have hjm:j < m*i.z:=by
     have:=(List.getElem?_eq_some_iff.1 hj).1;rw [List.length_replicate] at this;omega
    subst hu;obtain ⟨u',hu'⟩:=Option.isSome_iff_exists.1 (b5.1 (i.base+j) (by omega)).1;exact ⟨u',hu',.un (b5.2.2.1 _ _ hu')⟩)
  have hv:VRL (ρ.put h.next ⟨i.g,i.base,i.z,(c++List.replicate (m*i.z - c.length) Val.un).length,i.N⟩) (.sl (some (h.next,0)) n (.k m)::rest) (.slice (some ⟨i.g,i.base+0,none⟩) n m::ar) :=
   VRL.cons (VR.sk (i:=⟨i.g,i.base,i.z,(c++List.replicate (m*i.z - c.length) Val.un).length,i.N⟩) (zju _ _) hlk) (hr.tail.mono q3.le)
  have hm:=sim_all hK (hx m hlk hc) _ _ _ q2 hv;have conv:∀ v' w',(∃ v h' ρ',(∃ v0 h0,Out.call v h' = .call v0 h0∧M v0 h0)∧VR ρ' v v' ∧ Rel ρ' h' w' ∧ Ext (ρ.put h.next ⟨i.g,i.base,i.z,(c++List.replicate (m*i.z - c.length) Val.un).length,i.N⟩) ((h.set b .dead).new (.cells i.z (c++List.replicate (m*i.z - c.length) .un))) w ρ' h' w') → ∃ v h' ρ',M v h' ∧ VR ρ' v v' ∧ Rel ρ' h' w' ∧ Ext ρ h w ρ' h' w':=by
   rintro v' w' ⟨v,h',ρ',⟨v0,h0,e,hM⟩,k1,k2,k3⟩;obtain ⟨rfl,rfl⟩:=Out.call.inj e;exact ⟨_,_,ρ',hM,k1,k2,q3.trans k3⟩
  rcases hm with ⟨e1,e2⟩ | ⟨v,w',e1,e2⟩
  ·refine .inl ⟨e1,Calls.mono e2 fun e w' q=>?_⟩;cases e with
   | returned v=>exact conv _ _ q
   | panicked c=>exact q.elim
   | outgrown=>exact q.elim
  ·exact .inr ⟨v,w',e1,conv _ _ e2⟩
def KLap (P:Program):Tb:=fun f args h M=>∃ g t tr e z vb vo vn vc d1 z1 b o n c d2 z2,P.funcs[f]? = some g∧(g.name == "runtime.NumGoroutine")=false∧g.body.isNone=true∧Extern.findNext g=none∧Extern.find g=some (Extern.SlicesOverlaps.overlaps #[t,t] #[tr])∧P.underlying t=some (.slice e)∧sz P e=some z ∧
 args=[.sl (some (vb,vo)) vn vc,.sl (some (b,o)) n c]∧vb≠b∧h.get vb=some (.cells z1 d1)∧z1≠1∧vo < d1.length∧h.get b=some (.cells z2 d2)∧0 < d2.length∧M (.b false) h
theorem zyh:KOk P (KLap P):=by
 rintro f args h M ⟨g,t,tr,e,z,vb,vo,vn,vc,d1,z1,b,o,n,c,d2,z2,hf,hname,hb,hn,he,ht,hz,rfl,hne,hg1,hz1,hvo,hg2,hd2,hM⟩ ρ w args' r hr
 match args',hr with
 | [u',v'],hr =>
  have slc:∀ {b o n c u},VR ρ (.sl (some (b,o)) n c) u → ∃ i cc,ρ b=some i∧u = .slice (some ⟨i.g,i.base+o,none⟩) n cc:=fun h=>by
   cases h with
   | sk hb _=>exact ⟨_,_,hb,rfl⟩
   | so hb _ _ _=>exact ⟨_,_,hb,rfl⟩
  obtain ⟨i1,c1,e1,rfl⟩:=slc hr.head;obtain ⟨i2,c2,e2,rfl⟩:=slc hr.tail.head;obtain ⟨a1,a2,a3,a4,a5,a6⟩:=r.blk _ _ _ e1 hg1;obtain ⟨b1,b2,b3,b4,b5,b6⟩:=r.blk _ _ _ e2 hg2;have hg:i1.g≠i2.g:=fun q=>hne (r.inj vb b i1 i2 e1 e2 ⟨_,hg1,rfl⟩ ⟨_,hg2,rfl⟩ q);obtain ⟨u1,hu1⟩:=Option.isSome_iff_exists.1 (a5.1 (i1.base+vo) (by omega)).1;obtain ⟨u2,hu2⟩:=Option.isSome_iff_exists.1 (b5.1 i2.base (by omega)).1;obtain ⟨C1,t1,f1,s1,s1'⟩:=Go.Sort.cells_of_cell? hu1;obtain ⟨C2,t2,f2,s2,s2'⟩:=Go.Sort.cells_of_cell? hu2;have k2:C2.size≠0:=by
   simp only [World.cell?,s2] at hu2;have:=(Array.getElem?_eq_some_iff.1 hu2).1;omega
  have h1:=run_callFunc_extern (P:=P) hf hname hb hn he #[.slice (some ⟨i1.g,i1.base+vo,none⟩) vn c1,.slice (some ⟨i2.g,i2.base+o,none⟩) n c2] w;rw [Lib.run_overlaps_apart w t tr e ht z (zgw hz) ⟨i1.g,i1.base+vo,none⟩ ⟨i2.g,i2.base+o,none⟩ vn c1 n c2 hg t1 t2 C1.size C2.size (by simp only [World.shape?,s1]) (by simp only [World.shape?,s2]) k2 (a5.1 _ (by omega)).2 (by
   have:=a5.2.2.2 (by rw [← a1] at hz1;exact a1 ▸ hz1) _ _ _ s1;simp only [World.frozen?,s1];simp;omega)] at h1
  exact .inr ⟨_,w,h1,_,h,ρ,hM,.b _,r,Ext.refl _ _ _⟩
 | [],hr=>exact absurd hr.1 (by simp)
 | [_],hr=>exact absurd hr.1 (by simp)
 | _::_::_::_,hr=>exact absurd hr.1 (by simp)
end
section
variable {P:Program} {E:EL} {X:List Nat} {h0 h:Hp} {F0 F:Frz} {L:List Ob}
theorem E_cvt {α:Type} {t:Tr α} {ty e:TypeId} {x:Operand} {v:Val} {xs:List α} (k:Nat) (hs:P.underlying ty=some (.slice e)) (he:P.underlying e=some (.int .u8)) (hx:evLO E x=some v) (hS:St X h0 F0 F L h) (hk:L[k]? = some (.row t v xs)) (hn:xs≠[]) (h1:t.size=1):Ef P E h (.convert ty ty x) (fun v' h'=>v=v' ∧ h=h'):=by
 refine ⟨by simp [zcs,zxu,hs],v,h,?_,rfl,rfl⟩;obtain ⟨v0,hv0,r⟩:=hS.ok hk;obtain rfl:=List.head_eq_of_cons_eq hv0;rcases r with ⟨rfl,hxs,_⟩ | ⟨b,c,kk,css,bss,r⟩
 ·exact absurd hxs hn
 ·have hf:v = .sl (some (b,0)) xs.length (.of t.size kk):=r.form;have hb:h.get b=some (.cells t.size c):=r.blk;rw [h1] at hb hf;subst hf;simp only [opL,hx,Option.bind_some,zkj,hs,he,hb,beq_self_eq_true]
end
end Go.V
end
