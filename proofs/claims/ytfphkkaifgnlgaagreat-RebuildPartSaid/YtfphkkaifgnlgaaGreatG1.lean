/- Values, a heap and operations of plain data: what a program's code does in one order, where no capacity is asked that is not known. What a piece of code does, in one order: an inductive predicate over plain data. The plain heap and the model's memory: blocks have other names there, known cells are alike. Operations: what the plain ones give, the model's give, alike. Operations that turn no memory: what the plain ones give, the model's give, alike. Operations on memory: what the plain ones give, the model's give, alike. Literals, rows of noughts, slices. Slices: cut, appended, copied, cleared. append. append, copy, clear, lengths. clear, lengths, maps, conversions. maps, conversions; all operations that call nothing. conversions; all operations that call nothing. Code: what holds of it in one order, holds in the model. Regions that draw their order: which orders there are. Kinds of operations: those that look at no memory, those that look, those that lay something new. Operations done later than they stand. Operations that lay something new, whenever they are done. Regions that draw their order: the invariant. Regions that draw their order: the steps. What holds in one order, holds in the model. What holds in one order, holds in the model: the theorem. -/
import Derived.WalkKit
import Derived.Deep.LoopGhost
import Derived.Deep.AppendSrc
import Derived.Deep.MidRow
import Derived.Laws.IdiomStrings
import Derived.Deep.Upon
import Derived.Lib.AppendZeros
set_option linter.unusedVariables false
set_option linter.unusedSimpArgs false
section
namespace Go.V
inductive T (α:Type) where
 | lf
 | nd (v:Option α) (l r:T α)
namespace T
variable {α:Type}
def get:T α→Nat→Option α
 | .lf,_=>none
 | .nd v l r,n=>match n with
  | 0=>v
  | m+1=>bif Nat.beq (m % 2) 0 then l.get (m / 2) else r.get (m / 2)
def val:T α→Option α
 | .lf=>none
 | .nd v _ _=>v
def lft:T α→T α
 | .lf=>.lf
 | .nd _ l _=>l
def rgt:T α→T α
 | .lf=>.lf
 | .nd _ _ r=>r
def setF:Nat→T α→Nat→α→T α
 | 0,t,_,_=>t
 | f+1,t,n,x=>match n with
  | 0=>.nd (some x) t.lft t.rgt
  | m+1=>bif Nat.beq (m % 2) 0 then .nd t.val (setF f t.lft (m / 2) x) t.rgt else .nd t.val t.lft (setF f t.rgt (m / 2) x)
def set (t:T α) (n:Nat) (x:α):T α:=setF (n+1) t n x
theorem get_succ (t:T α) (m:Nat):t.get (m+1)=bif Nat.beq (m % 2) 0 then t.lft.get (m / 2) else t.rgt.get (m / 2):=by
 cases t with
 | lf=>simp [get,lft,rgt]
 | nd v l r=>rfl
theorem get_zero (t:T α):t.get 0=t.val:=by cases t <;> rfl
theorem get_setF (x:α):∀ (f:Nat) (t:T α) (n k:Nat),n < f→(setF f t n x).get k=if k=n then some x else t.get k:=by
 intro f
 induction f with
 | zero=>intro t n k h;omega
 | succ f ih =>
  intro t n k h;cases n with
  | zero =>
   cases k with
   | zero=>rfl
   | succ k=>simp only [setF];rw [get_succ t k,if_neg (by omega)];rfl
  | succ m =>
   cases k with
   | zero =>
    rw [if_neg (by omega),get_zero];simp only [setF];cases hm:Nat.beq (m % 2) 0 <;> simp [cond,val,get_zero]
   | succ k =>
    simp only [setF];have e1:(k+1=m+1) ↔ k=m:=by omega
    cases hm:Nat.beq (m % 2) 0 <;> cases hk:Nat.beq (k % 2) 0 <;> simp only [cond,get,hk,get_succ t k]
    ·rw [ih _ _ _ (by omega)];have hm':m % 2≠0:=Nat.ne_of_beq_eq_false hm;have hk':k % 2≠0:=Nat.ne_of_beq_eq_false hk
     by_cases he:k=m
     ·subst he;simp
     ·rw [if_neg (by omega),if_neg (by omega)]
    ·have hm':m % 2≠0:=Nat.ne_of_beq_eq_false hm;have hk':k % 2=0:=Nat.eq_of_beq_eq_true hk;rw [if_neg (by omega)]
    ·have hm':m % 2=0:=Nat.eq_of_beq_eq_true hm;have hk':k % 2≠0:=Nat.ne_of_beq_eq_false hk;rw [if_neg (by omega)]
    ·rw [ih _ _ _ (by omega)];have hm':m % 2=0:=Nat.eq_of_beq_eq_true hm;have hk':k % 2=0:=Nat.eq_of_beq_eq_true hk
     by_cases he:k=m
     ·subst he;simp
     ·rw [if_neg (by omega),if_neg (by omega)]
theorem get_set (t:T α) (n k:Nat) (x:α):(t.set n x).get k=if k=n then some x else t.get k:=get_setF x (n+1) t n k (by omega)
end T
inductive Cap where
 | k (n:Nat)
 | op (z:Nat)
 deriving DecidableEq,Inhabited
def Cap.of (z:Nat):Option Nat→Cap
 | some n=>.k n
 | none=>.op z
@[simp] theorem Cap.of_some (z n:Nat):Cap.of z (some n) = .k n:=rfl
@[simp] theorem Cap.of_none (z:Nat):Cap.of z none = .op z:=rfl
inductive Val where
 | b (x:Bool)
 | i (k:IntKind) (n:Int)
 | s (x:List UInt8)
 | p (a:Option (Nat × Nat))
 | sl (a:Option (Nat × Nat)) (len:Nat) (cap:Cap)
 | es
 | m (r:Option Nat)
 | f (fn:FuncId) (caps:List Val)
 | nf
 | un
 | agg (cs:List Val)
 | tup (vs:List Val)
 deriving Inhabited
def Val.cells:Val→List Val
 | .agg cs=>cs
 | v=>[v]
def Val.one:Val→Bool
 | .agg _ | .tup _=>false
 | _=>true
def Val.no:Val:=.tup []
inductive Blk where
 | cells (z:Nat) (c:List Val)
 | ro (c:List Val)
 | map (es:List (Val × Val))
 | dead
structure Hp where
 next:Nat
 t:T Blk
def Hp.get (h:Hp) (b:Nat):Option Blk:=h.t.get b
def Hp.set (h:Hp) (b:Nat) (x:Blk):Hp:={ h with t:=h.t.set b x }
def Hp.new (h:Hp) (x:Blk):Hp:={ next:=h.next+1,t:=h.t.set h.next x }
def Hp.empty:Hp:=⟨0,.lf⟩
theorem Hp.get_set (h:Hp) (b k:Nat) (x:Blk):(h.set b x).get k=if k=b then some x else h.get k:=T.get_set _ _ _ _
theorem Hp.get_new (h:Hp) (k:Nat) (x:Blk):(h.new x).get k=if k=h.next then some x else h.get k:=T.get_set _ _ _ _
def cv1:Value→Option Val
 | .bool x=>some (.b x)
 | .int k n=>some (.i k n)
 | .string s=>some (.s s.data.toList)
 | .pointer none=>some (.p none)
 | .slice none 0 0=>some (.sl none 0 (.k 0))
 | .map none=>some (.m none)
 | .nilFunc=>some .nf
 | _=>none
def cv:Value→Option Val
 | .agg cs=>(cs.toList.mapM cv1).map .agg
 | v=>cv1 v
section
variable (P:Program)
def sz (t:TypeId):Option Nat:=(P.info? t).map (·.size)
def zge (t:TypeId):Option Val:=(P.info? t).bind fun i=>i.zero.bind cv
def aggT (t:TypeId):Option Bool:=(P.underlying t).map fun | .struct _ | .array _ _=>true | _=>false
def fldT (t:TypeId) (f:Nat):Option Field:=match P.underlying t with
 | some (.struct fs)=>fs[f]?
 | _=>none
end
def rd (h:Hp) (b o n:Nat):Option (List Val):=match h.get b with
 | some (.cells _ c)=>if o+n≤c.length then some ((c.drop o).take n) else none
 | some (.ro c)=>if o+n≤c.length then some ((c.drop o).take n) else none
 | _=>none
def putL (c:List Val) (o:Nat) (vs:List Val):List Val:=c.take o++vs++c.drop (o+vs.length)
def wrH (h:Hp) (b o:Nat) (vs:List Val):Option Hp:=match h.get b with
 | some (.cells z c)=>if o+vs.length≤c.length∧vs.all Val.one then some (h.set b (.cells z (putL c o vs))) else none
 | _=>none
def partV (P:Program) (t:TypeId) (cs:List Val) (o:Nat):Option Val :=
 (aggT P t).bind fun a=>bif a then (sz P t).bind fun n=>if o+n≤cs.length then some (.agg ((cs.drop o).take n)) else none else cs[o]?
def ldV (P:Program) (h:Hp) (t:TypeId):Val→Option Val
 | .p (some (b,o))=>(aggT P t).bind fun a=>bif a then (sz P t).bind fun n=>(rd h b o n).map .agg else (rd h b o 1).bind List.head?
 | _=>none
def stV (P:Program) (h:Hp) (t:TypeId) (a v:Val):Option Hp:=match a with
 | .p (some (b,o))=>(sz P t).bind fun n=>if v.cells.length=n then wrH h b o v.cells else none
 | _=>none
def ibin (op:BinOp) (k:IntKind) (a b:Int):Option Val:=match op with
 | .add=>some (.i k (k.wrap (a+b)))
 | .sub=>some (.i k (k.wrap (a - b)))
 | .mul=>some (.i k (k.wrap (a*b)))
 | .quo=>if b=0 then none else some (.i k (k.wrap (a.tdiv b)))
 | .rem=>if b=0 then none else some (.i k (a.tmod b))
 | .and=>some (.i k (k.wrap (BitVec.ofInt k.bits a &&& BitVec.ofInt k.bits b).toNat))
 | .or=>some (.i k (k.wrap (BitVec.ofInt k.bits a ||| BitVec.ofInt k.bits b).toNat))
 | .xor=>some (.i k (k.wrap (BitVec.ofInt k.bits a ^^^ BitVec.ofInt k.bits b).toNat))
 | .andNot=>some (.i k (k.wrap (BitVec.ofInt k.bits a &&& ~~~(BitVec.ofInt k.bits b)).toNat))
 | .eql=>some (.b (a == b))
 | .neq=>some (.b (a != b))
 | .lss=>some (.b (a < b))
 | .leq=>some (.b (a≤b))
 | .gtr=>some (.b (a > b))
 | .geq=>some (.b (a ≥ b))
 | _=>none
def shV (op:BinOp) (k:IntKind) (x y:Int):Option Val:=if y < 0 then none else match op with
 | .shl=>some (.i k (k.wrap (x*2 ^ min y.toNat k.bits)))
 | .shr=>some (.i k (x.fdiv (2 ^ min y.toNat k.bits)))
 | _=>none
def strV (op:BinOp) (x y:List UInt8):Option Val:=match op with
 | .add=>if x.length+y.length≤2 ^ 62 then some (.s (x++y)) else none
 | .eql=>some (.b (x == y))
 | .neq=>some (.b (!(x == y)))
 | .lss=>some (.b (Op.bytesLess x y))
 | .leq=>some (.b (Op.bytesLess x y||x == y))
 | .gtr=>some (.b (!(Op.bytesLess x y||x == y)))
 | .geq=>some (.b (!Op.bytesLess x y))
 | _=>none
def eq1:Val→Val→Bool
 | .b x,.b y=>x == y
 | .i j x,.i k y=>j == k&&x == y
 | .s x,.s y=>x == y
 | _,_=>false
def eqL:List Val→List Val→Bool
 | [],[]=>true
 | x::xs,y::ys=>eq1 x y&&eqL xs ys
 | _,_=>false
def zsg (P:Program) (t:TypeId):Option TypeDesc:=match P.underlying t with
 | some .bool=>some .bool
 | some (.int k)=>some (.int k)
 | some .string=>some .string
 | _=>none
def plainF (P:Program):Nat→List Field→Option (List TypeDesc)
 | _,[]=>some []
 | k,f::r=>if f.name ≠ "_" ∧ f.offset=k then (zsg P f.type).bind fun d=>(plainF P (k+1) r).map (d :: ·) else none
def flatT (P:Program) (t:TypeId):Option (List TypeDesc):=match P.underlying t with
 | some (.struct fs)=>if P.stoodInHeld t then none else plainF P 0 fs.toList
 | some (.array n e)=>if sz P e=some 1 then (zsg P e).map (List.replicate n) else none
 | _=>none
def zqm:TypeDesc→Val→Bool
 | .bool,.b _=>true
 | .int k,.i j _=>j == k
 | .string,.s _=>true
 | _,_=>false
def zeb:List TypeDesc→List Val→Bool
 | [],[]=>true
 | t::ts,v::vs=>zqm t v&&zeb ts vs
 | _,_=>false
def eqV (P:Program) (t:TypeId) (x y:Val):Option Bool:=match P.underlying t,x,y with
 | some .bool,.b a,.b c=>some (a == c)
 | some (.pointer _),.p none,.p a=>some a.isNone
 | some (.pointer _),.p (some _),.p none=>some false
 | some (.slice _),.sl none _ _,.sl a _ _=>some a.isNone
 | some (.slice _),.sl (some _) _ _,.sl none _ _=>some false
 | some (.slice _),.es,.sl none _ _=>some false
 | some (.slice _),.sl none _ _,.es=>some false
 | some (.func _ _ _),.nf,.nf=>some true
 | some (.func _ _ _),.nf,.f _ _=>some false
 | some (.func _ _ _),.f _ _,.nf=>some false
 | some (.map _ _),.m none,.m a=>some a.isNone
 | some (.map _ _),.m (some _),.m none=>some false
 | some (.struct _),.agg xs,.agg ys=>match flatT P t with
  | some l=>if zeb l xs&&zeb l ys && !P.eqGuardType P.depth t then some (eqL xs ys) else none
  | none=>none
 | some (.array _ _),.agg xs,.agg ys=>match flatT P t with
  | some l=>if zeb l xs&&zeb l ys && !P.eqGuardType P.depth t then some (eqL xs ys) else none
  | none=>none
 | _,_,_=>none
def binV (P:Program) (op:BinOp) (t:TypeId) (x y:Val):Option Val:=match x,y with
 | .i k a,.i j c=>match op with
  | .shl=>shV .shl k a c
  | .shr=>shV .shr k a c
  | _=>if k=j then ibin op k a c else none
 | .s a,.s c=>strV op a c
 | x,y=>match op with
  | .eql=>(eqV P t x y).map .b
  | .neq=>(eqV P t x y).map fun q=>.b (!q)
  | _=>none
def unV (op:UnOp) (x:Val):Option Val:=match op,x with
 | .neg,.i k n=>some (.i k (k.wrap (0 - n)))
 | .xor,.i k n=>ibin .xor k (if k.signed then -1 else k.max) n
 | .not,.b c=>some (.b (!c))
 | _,_=>none
def natV:Val→Option Nat
 | .i _ n=>if 0≤n∧n≤2 ^ 40 then some n.toNat else none
 | _=>none
def natI:Val→Option Nat
 | .i _ n=>if 0≤n then some n.toNat else none
 | _=>none
def zmn:Option Val→Nat→Option Nat
 | none,d=>some d
 | some v,_=>natI v
def bndV (len cap:Nat) (lo hi mx:Option Val):Option (Nat × Nat × Nat) :=
 (zmn mx cap).bind fun m=>(zmn hi len).bind fun h=>(zmn lo 0).bind fun l=>if m≤cap∧h≤m∧l≤h∧(mx.isSome→hi.isSome) then some (l,h,m) else none
def zhn (P:Program) (t:TypeId) (x:Val) (lo hi mx:Option Val):Option Val:=match P.underlying t,x with
 | some .string,.s s=>if mx.isSome then none else (bndV s.length s.length lo hi none).map fun q=>.s ((s.drop q.1).take (q.2.1 - q.1))
 | some (.slice e),.sl a len (.k k)=>(sz P e).bind fun z=>(bndV len k lo hi mx).map fun q =>
   .sl (if q.2.2=q.1 then a else a.map fun c=>(c.1,c.2+q.1*z)) (q.2.1 - q.1) (.k (q.2.2 - q.1))
 | some (.slice e),.sl (some (b,o)) len (.op z')=>(sz P e).bind fun z=>(if z' = z then bndV len len lo hi mx else none).map fun q =>
   if mx.isSome then .sl (some (if q.2.2=q.1 then (b,o) else (b,o+q.1*z))) (q.2.1 - q.1) (.k (q.2.2 - q.1))
   else if q.1 < len then .sl (some (b,o+q.1*z)) (q.2.1 - q.1) (.op z) else .es
 | some (.slice e),.es=>(sz P e).bind fun _=>(bndV 0 0 lo hi mx).map fun _=>.es
 | some (.array n e),.p (some (b,o))=>(sz P e).bind fun z=>(bndV n n lo hi mx).map fun q =>
   .sl (some (if q.2.2=q.1 then (b,o) else (b,o+q.1*z))) (q.2.1 - q.1) (.k (q.2.2 - q.1))
 | some (.pointer arr),.p (some (b,o))=>match P.underlying arr with
  | some (.array n e)=>(sz P e).bind fun z=>(bndV n n lo hi mx).map fun q =>
   .sl (some (if q.2.2=q.1 then (b,o) else (b,o+q.1*z))) (q.2.1 - q.1) (.k (q.2.2 - q.1))
  | _=>none
 | _,_=>none
def idxA (P:Program) (t:TypeId) (x ix:Val):Option Val:=(natI ix).bind fun i=>match P.underlying t,x with
 | some (.array n e),.p (some (b,o))=>(sz P e).bind fun z=>if i < n then some (.p (some (b,o+i*z))) else none
 | some (.slice e),.sl (some (b,o)) len _=>(sz P e).bind fun z=>if i < len then some (.p (some (b,o+i*z))) else none
 | _,_=>none
def idxV (P:Program) (t:TypeId) (x ix:Val):Option Val:=(natI ix).bind fun i=>match P.underlying t,x with
 | some (.array n e),.agg cs=>(sz P e).bind fun z=>if i < n then partV P e cs (i*z) else none
 | some .string,.s s=>(s[i]?).map fun c=>.i .u8 c.toNat
 | _,_=>none
def zkr (place:Nat→Option (Nat × Nat)) (cells:List Val):List (Nat × Val)→Option (List Val)
 | []=>some cells
 | (i,v)::rest=>(place i).bind fun q=>if v.cells.length=q.2∧q.1+v.cells.length≤cells.length then zkr place (putL cells q.1 v.cells) rest else none
def zeu (z:List Val) (n:Nat):List Val:=(List.replicate n z).flatten
def zwg (P:Program) (t:TypeId) (parts:List (Nat × Val)):Option Val:=(zge P t).bind fun zero=>match P.underlying t with
 | some (.struct fs)=>(fs.toList.mapM fun f=>(sz P f.type).map fun n=>(f.offset,n)).bind fun pl=>(zkr (fun i=>pl[i]?) zero.cells parts).map .agg
 | some (.array _ e)=>(sz P e).bind fun z=>(zkr (fun i=>some (i*z,z)) zero.cells parts).map .agg
 | _=>none
def zla (h:Hp) (z:Nat) (c:List Val):Option (Val × Hp):=if c.all Val.one then some (.p (some (h.next,0)),h.new (.cells z c)) else none
def rowV (h:Hp) (z:Nat) (c:List Val) (len:Nat) (cap:Option Nat):Option (Val × Hp) :=
 if c.all Val.one then some (.sl (some (h.next,0)) len (.of z cap),h.new (.cells z c)) else none
def zhg (P:Program) (h:Hp) (t:TypeId) (len:Nat) (parts:List (Nat × Val)):Option (Val × Hp):=match P.underlying t with
 | some (.slice e)=>(sz P e).bind fun z=>(zge P e).bind fun zero=>if len*z≤2 ^ 24∧zero.cells.length=z∧0 < z then
   (zkr (fun i=>some (i*z,z)) (zeu zero.cells len) parts).bind fun c=>rowV h z c len (some len) else none
 | _=>none
def zkd (P:Program) (h:Hp) (t:TypeId) (len cap:Val):Option (Val × Hp):=match P.underlying t with
 | some (.slice e)=>(sz P e).bind fun z=>(zge P e).bind fun zero=>(natV len).bind fun l=>(natV cap).bind fun c=>(P.info? e).bind fun i =>
   if l≤c∧i.bytes*c≤2 ^ 48∧zero.cells.length=z∧0 < z then rowV h z (zeu zero.cells c) l (some c) else none
 | _=>none
def zgd (h:Hp) (z n:Nat):Val→Option (List Val)
 | .sl (some (b,o)) _ _=>if n=0 then some [] else rd h b o (n*z)
 | .sl none _ _=>some []
 | .es=>if n=0 then some [] else none
 | .s s=>some ((s.take n).map fun c=>.i .u8 c.toNat)
 | _=>none
def lenV:Val→Option Nat
 | .sl _ n _=>some n
 | .es=>some 0
 | .s s=>some s.length
 | _=>none
def moreV (P:Program) (h:Hp) (e:TypeId) (z:Nat) (zeros:Bool) (x:Val):Option (Nat × List Val) :=
 bif zeros then (natV x).bind fun n=>(zge P e).bind fun zero=>if zero.cells.length=z then some (n,zeu zero.cells n) else none
 else (lenV x).bind fun n=>(zgd h z n x).map fun c=>(n,c)
def zhs (P:Program) (t:TypeId):Option Bool:=match P.underlying t with
 | some (.int _)=>some true
 | some (.slice _) | some .string=>some false
 | _=>none
def appV (h:Hp) (z n:Nat) (c:List Val) (s:Val):Option (Val × Hp):=match s with
 | .sl none len cap=>if len=0∧cap = .k 0 then if n=0 then some (s,h) else rowV h z c n none else none
 | .es=>if n=0 then some (s,h) else none
 | .sl (some (b,o)) len (.k k) =>
  if len+n≤k then (wrH h b (o+len*z) c).map fun h'=>(.sl (some (b,o)) (len+n) (.k k),h')
  else if len≤k∧len≤2 ^ 30 then (zgd h z len s).bind fun d=>rowV h z (d++c) (len+n) none else none
 | .sl (some (b,o)) len (.op _)=>match h.get b with
  | some (.cells z' d) =>
   if z' = z∧len≤2 ^ 30∧o+len*z≤d.length then
    if o+(len+n)*z≤d.length then (wrH h b (o+len*z) c).map fun h'=>(.sl (some (b,o)) (len+n) (.op z),h')
    else (zgd h z len s).bind fun d=>rowV (h.set b .dead) z (d++c) (len+n) none
   else none
  | _=>none
 | _=>none
def zpo (P:Program) (h:Hp) (ts:List TypeId) (s x:Val):Option (Val × Hp):=match ts with
 | [t,tx]=>(match P.underlying t with
  | some (.slice e)=>(sz P e).bind fun z=>(P.info? e).bind fun inf=>(zge P e).bind fun zero=>(zhs P tx).bind fun zk=>(moreV P h e z zk x).bind fun q =>
   if zero.cells.length=z∧0 < z∧q.1≤2 ^ 30∧0 < inf.bytes∧inf.bytes≤2 ^ 12∧q.2.length=q.1*z∧q.2.all Val.one then appV h z q.1 q.2 s else none
  | _=>none)
 | _=>none
def copyV (P:Program) (h:Hp) (ts:List TypeId) (d s:Val):Option (Val × Hp) :=
 (ts[0]?).bind fun t=>match P.underlying t with
 | some (.slice e)=>(sz P e).bind fun z=>(lenV s).bind fun m=>match d with
  | .sl (some (b,o)) len _=>(zgd h z (min m len) s).bind fun c=>if c.length=min m len*z then (wrH h b o c).map fun h'=>(.i .i64 ((min m len:Nat):Int),h') else none
  | .sl none len _=>if len=0 then some (.i .i64 0,h) else none
  | .es=>some (.i .i64 0,h)
  | _=>none
 | _=>none
def zsk (P:Program) (h:Hp) (ts:List TypeId) (d:Val):Option (Val × Hp) :=
 (ts[0]?).bind fun t=>match P.underlying t with
 | some (.slice e)=>(zge P e).bind fun zero=>match d with
  | .sl (some (b,o)) len _=>if len=0 then some (.tup [],h) else if 0 < zero.cells.length then (wrH h b o (zeu zero.cells len)).map fun h'=>(.tup [],h') else none
  | .sl none _ _=>some (.tup [],h)
  | .es=>some (.tup [],h)
  | _=>none
 | _=>none
def lenB (P:Program) (h:Hp) (ts:List TypeId) (x:Val):Option Val :=
 (ts[0]?).bind fun t=>match P.underlying t,x with
 | some .string,.s s=>some (.i .i64 s.length)
 | some (.array n _),_=>some (.i .i64 n)
 | some (.slice _),.sl _ n _=>some (.i .i64 n)
 | some (.slice _),.es=>some (.i .i64 0)
 | some (.map _ _),.m none=>some (.i .i64 0)
 | some (.map _ _),.m (some r)=>match h.get r with
  | some (.map es)=>some (.i .i64 es.length)
  | _=>none
 | some (.pointer a),.p (some _)=>match P.underlying a with
  | some (.array n _)=>some (.i .i64 n)
  | _=>none
 | _,_=>none
def capB (P:Program) (ts:List TypeId) (x:Val):Option Val :=
 (ts[0]?).bind fun t=>match P.underlying t,x with
 | some (.slice _),.sl _ _ (.k k)=>some (.i .i64 k)
 | _,_=>none
def mm2 (mx:Bool):Val→Val→Option Val
 | .i k x,.i j y=>if k=j then some (.i k (bif mx then (if y > x then y else x) else (if y < x then y else x))) else none
 | _,_=>none
def mmB (mx:Bool):List Val→Option Val
 | []=>none
 | x::r=>r.foldlM (mm2 mx) x
def bltV (P:Program) (h:Hp) (b:Builtin) (ts:List TypeId) (args:List Val):Option (Val × Hp):=match b,args with
 | .append,[s,x]=>zpo P h ts s x
 | .copy,[d,s]=>copyV P h ts d s
 | .clear,[d]=>zsk P h ts d
 | .len,[x]=>(lenB P h ts x).map fun v=>(v,h)
 | .cap,[x]=>(capB P ts x).map fun v=>(v,h)
 | .max,vs=>(mmB true vs).map fun v=>(v,h)
 | .min,vs=>(mmB false vs).map fun v=>(v,h)
 | _,_=>none
def keyT (P:Program) (t:TypeId) (k:Val):Bool:=match P.underlying t,k with
 | some (.int j),.i i _=>i == j
 | some .string,.s _=>true
 | some .bool,.b _=>true
 | _,_=>false
def zos (x y:Val):Bool:=eq1 x y
def zmt (k:Val):List (Val × Val)→Option Val
 | []=>none
 | (k',v)::r=>bif zos k k' then some v else zmt k r
def updV (k v:Val):List (Val × Val)→List (Val × Val)
 | []=>[(k,v)]
 | (k',u)::r=>bif zos k k' then (k,v)::r else (k',u)::updV k v r
def lookV (P:Program) (h:Hp) (t:TypeId) (m k:Val) (ok:Bool):Option Val:=match P.underlying t with
 | some (.map kt vt)=>if keyT P kt k then
   (match m with
   | .m none=>some []
   | .m (some r)=>match h.get r with
    | some (.map es)=>if es.all fun e=>keyT P kt e.1 then some es else none
    | _=>none
   | _=>none:Option (List (Val × Val))).bind fun es=>(zge P vt).bind fun zero =>
   let q:Val × Bool:=match zmt k es with
    | some v=>(v,true)
    | none=>(zero,false)
   some (if ok then .tup [q.1,.b q.2] else q.1) else none
 | _=>none
def zue (P:Program) (h:Hp) (t:TypeId) (m k v:Val):Option Hp:=match P.underlying t,m with
 | some (.map kt _),.m (some r)=>match h.get r with
  | some (.map es)=>if keyT P kt k∧es.all fun e=>keyT P kt e.1 then some (h.set r (.map (updV k v es))) else none
  | _=>none
 | _,_=>none
def zog:List Val→Option (List UInt8)
 | []=>some []
 | .i .u8 n::r=>(zog r).map fun l=>UInt8.ofNat n.toNat::l
 | _=>none
def u8T (P:Program) (e:TypeId):Bool:=match P.underlying e with
 | some (.int .u8)=>true
 | _=>false
def zkj (P:Program) (h:Hp) (src dst:TypeId) (x:Val):Option (Val × Hp):=match P.underlying src,P.underlying dst,x with
 | some _,some (.int k),.i _ n=>some (.i k (k.wrap n),h)
 | some _,some .string,.s s=>some (.s s,h)
 | some .string,some (.slice e),.s s=>match P.underlying e with
  | some (.int .u8)=>if s=[] then none else rowV h 1 (s.map fun c=>.i .u8 c.toNat) s.length none
  | _=>none
 | some (.slice _),some (.slice e),.sl (some a) n c=>match src == dst,P.underlying e,h.get a.1 with
  | true,some (.int .u8),some (.cells 1 _)=>some (.sl (some a) n c,h)
  | _,_,_=>none
 | some (.slice e),some .string,.sl none _ _=>if u8T P e then some (.s [],h) else none
 | some (.slice e),some .string,.es=>if u8T P e then some (.s [],h) else none
 | some (.slice e),some .string,.sl (some (b,o)) n _=>match P.underlying e with
  | some (.int .u8)=>(if n=0 then some [] else rd h b o n).bind fun c=>(zog c).map fun s=>(.s s,h)
  | _=>none
 | _,_,_=>none
abbrev Env:=T Val
def evO (env:Env):Operand→Option Val
 | .tmp t=>env.get t
 | .const v=>cv v
 | .global _=>none
 | .func f=>some (.f f [])
def evL (env:Env) (l:List Operand):Option (List Val):=l.mapM (evO env)
def evP (env:Env) (l:List (Nat × Operand)):Option (List (Nat × Val)):=l.mapM fun q=>(evO env q.2).map fun v=>(q.1,v)
def evQ (env:Env):Option Operand→Option (Option Val)
 | none=>some none
 | some x=>(evO env x).map some
def op1 (P:Program) (env:Env) (h:Hp):Op→Option (Val × Hp)
 | .move x | .assign x=>(evO env x).map fun v=>(v,h)
 | .pick c a b=>(evO env c).bind fun | .b true=>(evO env a).map fun v=>(v,h) | .b false=>(evO env b).map fun v=>(v,h) | _=>none
 | .alloc e=>(zge P e).bind fun v=>zla h v.cells.length v.cells
 | .box e x=>(evO env x).bind fun v=>zla h v.cells.length v.cells
 | .build t ps=>(evP env ps.toList).bind fun ps=>(zwg P t ps).map fun v=>(v,h)
 | .buildSlice t n ps=>(evP env ps.toList).bind fun ps=>zhg P h t n ps
 | .load t a=>(evO env a).bind fun a=>(ldV P h t a).map fun v=>(v,h)
 | .store t a x=>(evO env a).bind fun a=>(evO env x).bind fun x=>(stV P h t a x).map fun h=>(.no,h)
 | .nilCheck x=>(evO env x).bind fun | .p none=>none | .nf=>none | .un=>none | v=>some (v,h)
 | .binOp op t x y _=>(evO env x).bind fun x=>(evO env y).bind fun y=>(binV P op t x y).map fun v=>(v,h)
 | .unOp op _ x=>(evO env x).bind fun x=>(unV op x).map fun v=>(v,h)
 | .convert s d x=>(evO env x).bind fun x=>zkj P h s d x
 | .sliceToArrayPointer t x=>(evO env x).bind fun | .sl (some a) n _=>(match P.underlying t with | some (.array k _)=>if k≤n then some (.p (some a),h) else none | _=>none) | _=>none
 | .makeFunc (.func f) first caps=>if first.size=0 then (evL env caps.toList).map fun l=>(.f f l,h) else none
 | .makeMap t r=>match r with
  | none=>some (.m (some h.next),h.new (.map []))
  | some x=>(evO env x).bind fun v=>match P.underlying t,v with | some (.map _ _),.i _ _=>some (.m (some h.next),h.new (.map [])) | _,_=>none
 | .makeSlice t l c=>(evO env l).bind fun l=>(evO env c).bind fun c=>zkd P h t l c
 | .slice t x lo hi mx=>(evO env x).bind fun x=>(evQ env lo).bind fun lo=>(evQ env hi).bind fun hi=>(evQ env mx).bind fun mx=>(zhn P t x lo hi mx).map fun v=>(v,h)
 | .fieldAddr s x f=>(evO env x).bind fun | .p (some (b,o))=>((fldT P s f).bind fun q=>(sz P q.type).bind fun n=>if 0 < n then some (.p (some (b,o+q.offset)),h) else none) | _=>none
 | .field s x f=>(evO env x).bind fun | .agg cs=>((fldT P s f).bind fun q=>(partV P q.type cs q.offset).map fun v=>(v,h)) | _=>none
 | .indexAddr t x i=>(evO env x).bind fun x=>(evO env i).bind fun i=>(idxA P t x i).map fun v=>(v,h)
 | .index t x i=>(evO env x).bind fun x=>(evO env i).bind fun i=>(idxV P t x i).map fun v=>(v,h)
 | .lookup t m k ok=>(evO env m).bind fun m=>(evO env k).bind fun k=>(lookV P h t m k ok).map fun v=>(v,h)
 | .mapUpdate t m k x=>(evO env m).bind fun m=>(evO env k).bind fun k=>(evO env x).bind fun x=>(zue P h t m k x).map fun h=>(.no,h)
 | .extract x i=>(evO env x).bind fun | .tup vs=>(vs[i]?).map fun v=>(v,h) | _=>none
 | .call { callee:=.builtin b,args,argTypes }=>(evL env args.toList).bind fun l=>bltV P h b argTypes.toList l
 | _=>none
def tgt (env:Env):Op→Option (FuncId × List Val)
 | .call { callee:=.value f,args,.. }=>(evO env f).bind fun | .f g caps=>(evL env args.toList).map fun l=>(g,l++caps) | _=>none
 | _=>none
end Go.V
end
section
namespace Go.V
inductive Ex where
 | nrm
 | ext (id:Nat)
 | ret
inductive OpK where
 | pure | read | alloc | eff
 deriving DecidableEq
def zxu (P:Program) (s d:TypeId):OpK:=match P.underlying s,P.underlying d with
 | some .string,some (.slice _)=>.alloc
 | some (.slice _),some (.slice _)=>.eff
 | some (.slice _),some .string=>.read
 | _,_=>.pure
def lenK (P:Program):List TypeId→OpK
 | t::_=>match P.underlying t with
  | some (.map _ _)=>.read
  | _=>.pure
 | []=>.pure
def zcs (P:Program):Op→OpK
 | .load .. | .lookup ..=>.read
 | .alloc .. | .box .. | .buildSlice .. | .makeMap .. | .makeSlice ..=>.alloc
 | .convert s d _=>zxu P s d
 | .call { callee:=.builtin .len,argTypes,.. }=>lenK P argTypes.toList
 | .call { callee:=.builtin .cap,.. } | .call { callee:=.builtin .max,.. } | .call { callee:=.builtin .min,.. }=>.pure
 | .store .. | .mapUpdate .. | .call ..=>.eff
 | .move .. | .assign .. | .pick .. | .build .. | .nilCheck .. | .binOp .. | .unOp .. | .sliceToArrayPointer .. | .makeFunc .. | .fieldAddr .. | .field .. | .indexAddr .. | .index .. | .extract .. | .slice ..=>.pure
 | _=>.eff
def ancs:List Oper→List Nat→List Nat
 | [],acc=>acc
 | o::r,acc=>ancs r (acc++[o.after.toList.foldl (fun s e=>if Region.binds .any e then s ||| 2 ^ e.on ||| acc.getD e.on 0 else s) 0])
def opAt (A:List Oper) (i:Nat):Oper:=A.getD i ⟨none,.panic (.func 0),0,"",#[],none⟩
def zjp (A:List Oper) (o:Oper):List Tmp :=
 (o.op.operands.toList.filterMap fun | .tmp t=>some t | _=>none)++(match o.guard with | some (g,_)=>((A[g]?).bind (·.dst)).toList | none=>[])
def okGo (P:Program) (A:List Oper) (an:List Nat):List Nat→List Nat→Bool
 | _,[]=>true
 | done,i::rest=>!done.contains i && !rest.contains i&&Nat.blt i A.length &&
   ((opAt A i).after.toList.all fun e=>!Region.binds .any e||done.contains e.on) &&
   (match (opAt A i).guard with | some (g,_)=>done.contains g&&(an.getD i 0).testBit g | none=>true) &&
   (!decide (zcs P (opAt A i).op = .eff)||rest.all fun r=>(an.getD r 0).testBit i) &&
   (match (opAt A i).dst with
    | some d=>!(zjp A (opAt A i)).contains d&&(rest++done).all fun j=>(opAt A j).dst != some d&&(!(zjp A (opAt A j)).contains d||(an.getD j 0).testBit i||(an.getD i 0).testBit j)
    | none=>true) &&
   okGo P A an (i::done) rest
def okL (P:Program) (A:List Oper) (L:List Nat):Bool:=(List.range A.length).all (fun i=>L.contains i)&&okGo P A (ancs A []) [] L
structure Pend where
 idx:Nat
 op:Op
 env:Env
 v:Val
inductive Job where
 | code (n:Nat) (c:Code) (env:Env) (h:Hp)
 | ops (n:Nat) (A:List Oper) (dr:Bool) (L:List Nat) (pd:List Pend) (env:Env) (h:Hp)
 | call (f:FuncId) (args:List Val) (h:Hp)
inductive Out where
 | code (e:Ex) (env:Env) (h:Hp)
 | call (v:Val) (h:Hp)
def putO (env:Env) (d:Option Tmp) (v:Val):Env:=match d with
 | some d=>env.set d v
 | none=>env
def zlo (A:List Oper) (env:Env) (o:Oper):Option Bool:=match o.guard with
 | none=>some true
 | some (j,want)=>match ((A[j]?).bind (·.dst)).bind env.get with
  | some (.b x)=>some (x == want)
  | some (.tup [])=>some false
  | _=>none
def zpj (n:Nat) (A:List Oper):Bool:=A.all fun o=>match o.dst with
 | some d=>Nat.blt d n
 | none=>true
def Stays (P:Program) (A:List Oper) (dr:Bool) (i:Nat) (pd:List Pend) (h:Hp):Prop :=
 dr=true → ∀ q,q∈pd→((ancs A []).getD i 0).testBit q.idx=false→op1 P q.env h q.op=some (q.v,h)
def zoq (P:Program) (A:List Oper) (i:Nat) (env:Env) (v:Val) (pd:List Pend):List Pend :=
 if zcs P (opAt A i).op = .read then ⟨i,(opAt A i).op,env,v⟩::pd else pd
def argE:Nat→List Val→Env→Env
 | _,[],env=>env
 | i,v::r,env=>argE (i+1) r (env.set i v)
def resV (P:Program) (env:Env) (h:Hp):List ResultVar→Option (List Val)
 | []=>some []
 | .tmp t::r=>(env.get t).bind fun v=>(resV P env h r).map (v :: ·)
 | .cell a t::r=>(env.get a).bind fun p=>(ldV P h t p).bind fun v=>(resV P env h r).map (v :: ·)
def oneV:List Val→Val
 | [v]=>v
 | vs=>.tup vs
abbrev Tb:=FuncId→List Val→Hp→(Val→Hp→Prop)→Prop
inductive XW (P:Program) (K:Tb):Job→(Out→Prop)→Prop where
 | skip {n env h Q}:Q (.code .nrm env h)→XW P K (.code n .skip env h) Q
 | label {n i env h Q}:Q (.code .nrm env h)→XW P K (.code n (.label i) env h) Q
 | exit {n i env h Q}:Q (.code (.ext i) env h)→XW P K (.code n (.exit i) env h) Q
 | ret {n env h Q}:Q (.code .ret env h)→XW P K (.code n .ret env h) Q
 | seq {n a b env h M Q}:XW P K (.code n a env h) M→(∀ env' h',M (.code .nrm env' h')→XW P K (.code n b env' h') Q)→(∀ e env' h',e ≠ .nrm→M (.code e env' h')→Q (.code e env' h'))→XW P K (.code n (.seq a b) env h) Q
 | cond {n} {x:Operand} {a b env h Q} {t:Bool}:evO env x=some (.b t)→XW P K (.code n (bif t then a else b) env h) Q→XW P K (.code n (.cond x a b) env h) Q
 | block {n id a env h M Q}:XW P K (.code n a env h) M→(∀ e env' h',M (.code e env' h')→Q (.code (match e with | .ext i=>if i=id then .nrm else .ext i | e=>e) env' h'))→XW P K (.code n (.block id a) env h) Q
 | loop {n a env h M Q}:XW P K (.code n a env h) M→(∀ env' h',M (.code .nrm env' h')→XW P K (.code n (.loop a) env' h') Q)→(∀ e env' h',e ≠ .nrm→M (.code e env' h')→Q (.code e env' h'))→XW P K (.code n (.loop a) env h) Q
 | region {n} {id:Nat} {A:List Oper} {dr:Bool} {L:List Nat} {env h Q}:zpj n A=true→(if dr then P.follows .mixedOrders=true∧okL P A L=true else L=List.range A.length)→XW P K (.ops n A dr L [] env h) Q→XW P K (.code n (.region id A.toArray dr) env h) Q
 | onil {n A dr pd env h Q}:Q (.code .nrm env h)→XW P K (.ops n A dr [] pd env h) Q
 | onot {n} {A:List Oper} {dr:Bool} {i:Nat} {L:List Nat} {pd env h Q}:i < A.length→zlo A env (opAt A i)=some false→XW P K (.ops n A dr L pd (putO env (opAt A i).dst .no) h) Q→XW P K (.ops n A dr (i::L) pd env h) Q
 | oone {n} {A:List Oper} {dr:Bool} {i:Nat} {L:List Nat} {pd env h Q v h'}:i < A.length→zlo A env (opAt A i)=some true→op1 P env h (opAt A i).op=some (v,h')→(zcs P (opAt A i).op = .eff→Stays P A dr i pd h') →
   XW P K (.ops n A dr L (zoq P A i env v pd) (putO env (opAt A i).dst v) h') Q→XW P K (.ops n A dr (i::L) pd env h) Q
 | ocall {n} {A:List Oper} {dr:Bool} {i:Nat} {L:List Nat} {pd env h M Q f args}:i < A.length→zlo A env (opAt A i)=some true→tgt env (opAt A i).op=some (f,args)→XW P K (.call f args h) M →
   (∀ v h',M (.call v h')→Stays P A dr i pd h')→(∀ v h',M (.call v h')→XW P K (.ops n A dr L pd (putO env (opAt A i).dst v) h') Q)→XW P K (.ops n A dr (i::L) pd env h) Q
 | call {f args h M Q} {fn:Func} {c:Code}:P.funcs[f]? = some fn→fn.body=some c→fn.name ≠ "runtime.NumGoroutine" → args.length≤fn.ntmps→XW P K (.code fn.ntmps c (argE 0 args .lf) h) M →
   (∀ e env' h',M (.code e env' h')→(e = .nrm∨e = .ret) ∧ ∃ vs,resV P env' h' fn.results.toList=some vs∧Q (.call (oneV vs) h'))→XW P K (.call f args h) Q
 | known {f args h M Q}:K f args h M→(∀ v h',M v h' → Q (.call v h'))→XW P K (.call f args h) Q
theorem XW.mono {P:Program} {K:Tb} {j:Job} {Q Q':Out→Prop} (h:XW P K j Q) (hq:∀ o,Q o→Q' o):XW P K j Q':=by
 induction h with
 | skip h=>exact .skip (hq _ h)
 | label h=>exact .label (hq _ h)
 | exit h=>exact .exit (hq _ h)
 | ret h=>exact .ret (hq _ h)
 | seq h1 h2 h3 ih1 ih2=>exact .seq h1 (fun e h m=>ih2 e h m hq) fun e env h ne m=>hq _ (h3 e env h ne m)
 | cond h1 _ ih=>exact .cond h1 (ih hq)
 | block h1 h2=>exact .block h1 fun e env h m=>hq _ (h2 e env h m)
 | loop h1 h2 h3 ih1 ih2=>exact .loop h1 (fun e h m=>ih2 e h m hq) fun e env h ne m=>hq _ (h3 e env h ne m)
 | region h0 h1 _ ih=>exact .region h0 h1 (ih hq)
 | onil h=>exact .onil (hq _ h)
 | onot h1 h2 _ ih=>exact .onot h1 h2 (ih hq)
 | oone h1 h2 h3 h4 _ ih=>exact .oone h1 h2 h3 h4 (ih hq)
 | ocall h1 h2 h3 h4 h5 _ ih1 ih2=>exact .ocall h1 h2 h3 h4 h5 fun v h m=>ih2 v h m hq
 | call h1 h2 h3 h4 h5 h6=>exact .call h1 h2 h3 h4 h5 fun e env h m=>by obtain ⟨g,vs,r,q⟩:=h6 e env h m;exact ⟨g,vs,r,hq _ q⟩
 | known h1 h2=>exact .known h1 fun v h m=>hq _ (h2 v h m)
end Go.V
end
section
namespace Go.V
structure Info where
 g:Nat
 base:Nat
 z:Nat
 n:Nat
 N:Nat
abbrev Ren:=Nat→Option Info
def zee (l:List UInt8):Value:=.string ⟨l.toArray⟩
inductive VR (ρ:Ren):Val→Value→Prop where
 | b (x:Bool):VR ρ (.b x) (.bool x)
 | i (k:IntKind) (n:Int):VR ρ (.i k n) (.int k n)
 | s (x:List UInt8):VR ρ (.s x) (zee x)
 | pn:VR ρ (.p none) (.pointer none)
 | p {b o:Nat} {i:Info}:ρ b=some i→VR ρ (.p (some (b,o))) (.pointer (some ⟨i.g,i.base+o,none⟩))
 | sn:VR ρ (.sl none 0 (.k 0)) (.slice none 0 0)
 | sk {b o len k:Nat} {i:Info}:ρ b=some i→len≤k→VR ρ (.sl (some (b,o)) len (.k k)) (.slice (some ⟨i.g,i.base+o,none⟩) len k)
 | so {b o len c:Nat} {i:Info}:ρ b=some i→len≤c→i.n≤o+c*i.z→i.base+o+c*i.z≤i.N→VR ρ (.sl (some (b,o)) len (.op i.z)) (.slice (some ⟨i.g,i.base+o,none⟩) len c)
 | es {a:Addr} {c:Nat}:VR ρ .es (.slice (some a) 0 c)
 | mn:VR ρ (.m none) (.map none)
 | m {r:Nat} {i:Info}:ρ r=some i→VR ρ (.m (some r)) (.map (some i.g))
 | f {fn:FuncId} {cs:List Val} {vs:List Value}:cs.length=vs.length→(∀ (j:Nat) (u:Val) (u':Value),cs[j]? = some u→vs[j]? = some u' → VR ρ u u')→VR ρ (.f fn cs) (.func (.func fn) #[] vs.toArray)
 | nf:VR ρ .nf .nilFunc
 | un {u:Value}:u.oneCell' = true→VR ρ .un u
 | agg {cs:List Val} {vs:List Value}:cs.length=vs.length→(∀ (j:Nat) (u:Val) (u':Value),cs[j]? = some u→vs[j]? = some u' → VR ρ u u')→VR ρ (.agg cs) (.agg vs.toArray)
 | tup {cs:List Val} {vs:List Value}:cs.length=vs.length→(∀ (j:Nat) (u:Val) (u':Value),cs[j]? = some u→vs[j]? = some u' → VR ρ u u')→VR ρ (.tup cs) (.tuple vs.toArray)
def Ren.le (ρ σ:Ren):Prop:=∀ b i,ρ b=some i→σ b=some i
theorem Ren.le.refl (ρ:Ren):ρ.le ρ:=fun _ _ h=>h
theorem Ren.le.trans {ρ σ τ:Ren} (a:ρ.le σ) (b:σ.le τ):ρ.le τ:=fun x i h=>b x i (a x i h)
theorem VR.mono {ρ σ:Ren} (l:ρ.le σ) {v:Val} {u:Value} (h:VR ρ v u):VR σ v u:=by
 induction h with
 | b x=>exact .b x
 | i k n=>exact .i k n
 | s x=>exact .s x
 | pn=>exact .pn
 | p h=>exact .p (l _ _ h)
 | sn=>exact .sn
 | sk h h2=>exact .sk (l _ _ h) h2
 | so h h2 h3 h4=>exact .so (l _ _ h) h2 h3 h4
 | es=>exact .es
 | mn=>exact .mn
 | m h=>exact .m (l _ _ h)
 | f h _ ih=>exact .f h ih
 | nf=>exact .nf
 | un h=>exact .un h
 | agg h _ ih=>exact .agg h ih
 | tup h _ ih=>exact .tup h ih
def VRL (ρ:Ren) (cs:List Val) (vs:List Value):Prop:=cs.length=vs.length ∧ ∀ (j:Nat) (u:Val) (u':Value),cs[j]? = some u→vs[j]? = some u' → VR ρ u u'
theorem VRL.mono {ρ σ:Ren} (l:ρ.le σ) {cs vs} (h:VRL ρ cs vs):VRL σ cs vs:=⟨h.1,fun j u u' a b=>(h.2 j u u' a b).mono l⟩
theorem VRL.nil {ρ:Ren}:VRL ρ [] []:=⟨rfl,fun j u u' h=>by simp at h⟩
theorem VRL.cons {ρ:Ren} {c v cs vs} (h:VR ρ c v) (hs:VRL ρ cs vs):VRL ρ (c::cs) (v::vs):=⟨by simp [hs.1],fun j u u' a b=>by
 cases j with
 | zero=>simp at a b;subst a;subst b;exact h
 | succ j=>exact hs.2 j u u' (by simpa using a) (by simpa using b)⟩
theorem VRL.head {ρ:Ren} {c v cs vs} (h:VRL ρ (c::cs) (v::vs)):VR ρ c v:=h.2 0 c v rfl rfl
theorem VRL.tail {ρ:Ren} {c v cs vs} (h:VRL ρ (c::cs) (v::vs)):VRL ρ cs vs:=⟨by simpa using h.1,fun j u u' a b=>h.2 (j+1) u u' (by simpa using a) (by simpa using b)⟩
theorem VRL.at {ρ:Ren} {cs vs} (h:VRL ρ cs vs) {j:Nat} {u:Val} (hj:cs[j]? = some u):∃ u',vs[j]? = some u' ∧ VR ρ u u':=by
 have hl:=(List.getElem?_eq_some_iff.1 hj).1;have h2:=List.getElem?_eq_getElem (l:=vs) (i:=j) (by rw [← h.1];exact hl);exact ⟨_,h2,h.2 j u _ hj h2⟩
theorem VRL.append {ρ:Ren} {cs ds vs us} (h:VRL ρ cs vs) (k:VRL ρ ds us):VRL ρ (cs++ds) (vs++us):=⟨by simp [h.1,k.1],fun j u u' a b=>by
 by_cases hj:j < cs.length
 ·rw [List.getElem?_append_left hj] at a;rw [List.getElem?_append_left (by rw [← h.1];exact hj)] at b;exact h.2 j u u' a b
 ·rw [List.getElem?_append_right (by omega)] at a;rw [List.getElem?_append_right (by rw [← h.1];omega)] at b;rw [← h.1] at b;exact k.2 _ u u' a b⟩
theorem VRL.drop {ρ:Ren} {cs vs} (h:VRL ρ cs vs) (n:Nat):VRL ρ (cs.drop n) (vs.drop n):=⟨by simp [h.1],fun j u u' a b=>h.2 (n+j) u u' (by simpa [List.getElem?_drop] using a) (by simpa [List.getElem?_drop] using b)⟩
theorem VRL.take {ρ:Ren} {cs vs} (h:VRL ρ cs vs) (n:Nat):VRL ρ (cs.take n) (vs.take n):=⟨by simp [h.1],fun j u u' a b=>by
 rw [List.getElem?_take] at a b
 split at a
 ·rw [if_pos (by assumption)] at b;exact h.2 j u u' a b
 ·cases a⟩
theorem VRL.getL {ρ:Ren}:∀ {cs:List Val} {f:Nat→Option Value},(∀ j u,cs[j]? = some u → ∃ u',f j=some u' ∧ VR ρ u u') → ∃ vs,VRL ρ cs vs ∧ ∀ j u',vs[j]? = some u' → f j=some u'
 | [],f,h=>⟨[],VRL.nil,fun j u' h=>by simp at h⟩
 | c::cs,f,h=>by
  obtain ⟨v,h1,h2⟩:=h 0 c rfl;obtain ⟨vs,h3,h4⟩:=VRL.getL (cs:=cs) (f:=fun j=>f (j+1)) fun j u hj=>h (j+1) u (by simpa using hj);exact ⟨v::vs,h3.cons h2,fun j u' hj=>by cases j with | zero=>simp at hj;subst hj;exact h1 | succ j=>exact h4 j u' (by simpa using hj)⟩
theorem cells_un {u:Value} (h:u.oneCell' = true):u.cells.toList=[u]:=by
 cases u <;> first | rfl | (simp [Value.oneCell'] at h)
theorem VR.cells {ρ:Ren} {v:Val} {u:Value} (h:VR ρ v u):VRL ρ v.cells u.cells.toList:=by
 cases h with
 | agg h1 h2=>exact ⟨by simpa [Val.cells,Value.cells] using h1,fun j u u' a b=>h2 j u u' a (by simpa [Value.cells] using b)⟩
 | b x=>exact VRL.nil.cons (.b x)
 | i k n=>exact VRL.nil.cons (.i k n)
 | s x=>exact VRL.nil.cons (.s x)
 | pn=>exact VRL.nil.cons .pn
 | p h=>exact VRL.nil.cons (.p h)
 | sn=>exact VRL.nil.cons .sn
 | sk h h2=>exact VRL.nil.cons (.sk h h2)
 | so h h2 h3 h4=>exact VRL.nil.cons (.so h h2 h3 h4)
 | es=>exact VRL.nil.cons .es
 | mn=>exact VRL.nil.cons .mn
 | m h=>exact VRL.nil.cons (.m h)
 | f h1 h2=>exact VRL.nil.cons (.f h1 h2)
 | nf=>exact VRL.nil.cons .nf
 | un h=>rw [cells_un h];exact VRL.nil.cons (.un h)
 | tup h1 h2=>exact VRL.nil.cons (.tup h1 h2)
theorem VR.oneCell {ρ:Ren} {v:Val} {u:Value} (h:VR ρ v u) (h1:v.one=true):u.oneCell' = true:=by
 cases h <;> first | rfl | assumption | (simp [Val.one] at h1)
theorem VRL.one {ρ:Ren} {cs vs} (h:VRL ρ cs vs) (h1:cs.all Val.one=true):∀ u∈vs,u.oneCell' = true:=by
 intro u hu;obtain ⟨j,hj,rfl⟩:=List.getElem_of_mem hu;have hc:cs[j]? = some (cs[j]'(by rw [h.1];exact hj)):=List.getElem?_eq_getElem _;exact (h.2 j _ _ hc (List.getElem?_eq_getElem hj)).oneCell (List.all_eq_true.1 h1 _ (List.getElem_mem _))
def Fz (z:Nat) (w:World) (g:Nat):Prop:=(∀ c e fz,w.heap[g]? = some (.cells c e fz)→fz.1≤fz.2)∧(∀ o u,w.cell? ⟨g,o,none⟩=some u→u.oneCell' = true)∧(z≠1 → ∀ c e fz,w.heap[g]? = some (.cells c e fz)→fz.2≤fz.1)
def BlkR (ρ:Ren) (i:Info) (w:World):Blk→Prop
 | .cells z c=>i.z=z∧i.n=c.length∧i.base+i.n≤i.N∧c.all Val.one=true∧((∀ o,o < i.N→(w.cell? ⟨i.g,o,none⟩).isSome=true∧w.frozen? ⟨i.g,o,none⟩=false)∧Fz z w i.g) ∧
   ∀ j u,c[j]? = some u → ∃ u',w.cell? ⟨i.g,i.base+j,none⟩=some u' ∧ VR ρ u u'
 | .ro c=>c.all Val.one=true ∧ ∀ j u,c[j]? = some u → ∃ u',w.cell? ⟨i.g,i.base+j,none⟩=some u' ∧ VR ρ u u'
 | .map es=>∃ (en:Array MapEntry) (ck:Nat),w.heap[i.g]? = some (.map en ck)∧en.size=es.length ∧ ∀ (j:Nat) (k v:Val),es[j]? = some (k,v) → ∃ e:MapEntry,en[j]? = some e∧VR ρ k e.key∧VR ρ v e.val
 | .dead=>True
@[simp] def Blk.liveB:Blk→Bool
 | .cells ..=>true
 | .ro _=>true
 | .map _=>true
 | .dead=>false
@[simp] def Blk.ownB:Blk→Bool
 | .cells ..=>true
 | .ro _=>false
 | .map _=>true
 | .dead=>false
def has (p:Blk→Bool) (h:Hp) (b:Nat):Prop:=∃ B,h.get b=some B∧p B=true
abbrev live (h:Hp) (b:Nat):Prop:=has Blk.liveB h b
abbrev own (h:Hp) (b:Nat):Prop:=has Blk.ownB h b
theorem own.live {h:Hp} {b:Nat} (q:own h b):live h b:=by
 obtain ⟨B,q1,q2⟩:=q;refine ⟨B,q1,?_⟩;cases B <;> simp at q2 ⊢
structure Rel (ρ:Ren) (h:Hp) (w:World):Prop where
 dom:∀ b i,ρ b=some i→b < h.next∧i.g < w.heap.size
 blk:∀ b i B,ρ b=some i→h.get b=some B→BlkR ρ i w B
 inj:∀ b b' i i',ρ b=some i→ρ b' = some i' → live h b→own h b' → i.g=i'.g→b=b'
 wf:∀ b,h.next≤b→h.get b=none
structure Ext (ρ:Ren) (h:Hp) (w:World) (ρ':Ren) (h':Hp) (w':World):Prop where
 le:ρ.le ρ'
 next:h.next≤h'.next
 other:∀ b,ρ b=none→b < h.next→ρ' b=none∧h'.get b=h.get b
 size:w.heap.size≤w'.heap.size
 frame:∀ g,g < w.heap.size→(∀ b i,ρ b=some i→own h b→i.g≠g)→w'.heap[g]? = w.heap[g]? ∧ ∀ b i,ρ' b=some i→own h' b→i.g≠g
 os:w'.os=w.os
 tape:w'.tape=w.tape
 output:w'.output=w.output
 drawn:w.drawn≤w'.drawn
theorem Ext.refl (ρ:Ren) (h:Hp) (w:World):Ext ρ h w ρ h w:=⟨Ren.le.refl _,Nat.le_refl _,fun b hb _=>⟨hb,rfl⟩,Nat.le_refl _,fun g _ hg=>⟨rfl,hg⟩,rfl,rfl,rfl,Nat.le_refl _⟩
theorem Ext.trans {ρ h w ρ1 h1 w1 ρ2 h2 w2} (a:Ext ρ h w ρ1 h1 w1) (b:Ext ρ1 h1 w1 ρ2 h2 w2):Ext ρ h w ρ2 h2 w2 :=
 ⟨a.le.trans b.le,Nat.le_trans a.next b.next,fun x hx hl=>by
   obtain ⟨p,q⟩:=a.other x hx hl;obtain ⟨p',q'⟩:=b.other x p (Nat.lt_of_lt_of_le hl a.next);exact ⟨p',q'.trans q⟩,
  Nat.le_trans a.size b.size,fun g hg hn=>by
   obtain ⟨p,q⟩:=a.frame g hg hn;obtain ⟨p',q'⟩:=b.frame g (Nat.lt_of_lt_of_le hg a.size) q;exact ⟨p'.trans p,q'⟩,b.os.trans a.os,b.tape.trans a.tape,b.output.trans a.output,Nat.le_trans a.drawn b.drawn⟩
theorem Rel.drew {ρ h w} (r:Rel ρ h w):Rel ρ h w.drew:=⟨fun b i e=>r.dom b i e,fun b i B e f=>by
  have:=r.blk b i B e f;cases B with
  | cells z c=>exact this
  | map es=>exact this
  | ro c=>exact this
  | dead=>trivial,r.inj,r.wf⟩
theorem Ext.drew (ρ:Ren) (h:Hp) (w:World):Ext ρ h w ρ h w.drew:=⟨Ren.le.refl _,Nat.le_refl _,fun b hb _=>⟨hb,rfl⟩,Nat.le_refl _,fun g _ hg=>⟨rfl,hg⟩,rfl,rfl,rfl,Nat.le_succ _⟩
section
variable {ρ:Ren} {h:Hp} {w:World}
theorem Rel.rd (r:Rel ρ h w) {b o n:Nat} {i:Info} {vs:List Val} (hb:ρ b=some i) (hr:rd h b o n=some vs):vs.all Val.one=true ∧ ∃ us,VRL ρ vs us∧us.length=n∧w.rangeAt i.g (i.base+o) us:=by
 unfold V.rd at hr;cases hg:h.get b with
 | none=>simp [hg] at hr
 | some B =>
  cases B with
  | cells z c =>
   simp only [hg] at hr
   split at hr
   ·rename_i hle;obtain rfl:=Option.some.inj hr;obtain ⟨h1,h2,h3,h4,h5,h6⟩:=r.blk b i _ hb hg;refine ⟨List.all_eq_true.2 fun x hx=>List.all_eq_true.1 h4 x (List.mem_of_mem_drop (List.mem_of_mem_take hx)),?_⟩;obtain ⟨us,h7,h8⟩:=VRL.getL (ρ:=ρ) (cs:=(c.drop o).take n) (f:=fun j=>w.cell? ⟨i.g,i.base+o+j,none⟩) fun j u hj=>by
     rw [List.getElem?_take] at hj
     split at hj
     ·rw [List.getElem?_drop] at hj;obtain ⟨u',a,q⟩:=h6 _ u hj;exact ⟨u',by rw [Nat.add_assoc];exact a,q⟩
     ·cases hj
    exact ⟨us,h7,by rw [← h7.1];simp;omega,fun j v hv=>h8 j v hv⟩
   ·cases hr
  | ro c =>
   simp only [hg] at hr
   split at hr
   ·rename_i hle;obtain rfl:=Option.some.inj hr;obtain ⟨h4,h6⟩:=r.blk b i _ hb hg;refine ⟨List.all_eq_true.2 fun x hx=>List.all_eq_true.1 h4 x (List.mem_of_mem_drop (List.mem_of_mem_take hx)),?_⟩;obtain ⟨us,h7,h8⟩:=VRL.getL (ρ:=ρ) (cs:=(c.drop o).take n) (f:=fun j=>w.cell? ⟨i.g,i.base+o+j,none⟩) fun j u hj=>by
     rw [List.getElem?_take] at hj
     split at hj
     ·rw [List.getElem?_drop] at hj;obtain ⟨u',a,q⟩:=h6 _ u hj;exact ⟨u',by rw [Nat.add_assoc];exact a,q⟩
     ·cases hj
    exact ⟨us,h7,by rw [← h7.1];simp;omega,fun j v hv=>h8 j v hv⟩
   ·cases hr
  | map es=>simp [hg] at hr
  | dead=>simp [hg] at hr
theorem frozen_congr {w w':World} {a:Addr} (e:w'.heap[a.block]? = w.heap[a.block]?):w'.frozen? a=w.frozen? a:=by simp [World.frozen?,e]
theorem zjf {w w':World} {a:Addr} (e:w'.heap[a.block]? = w.heap[a.block]?):w'.cell? a=w.cell? a:=by simp [World.cell?,e]
theorem BlkR.congr {i:Info} {w w':World} {B:Blk} {σ:Ren} (l:ρ.le σ) (e:w'.heap[i.g]? = w.heap[i.g]?) (hB:BlkR ρ i w B):BlkR σ i w' B:=by
 cases B with
 | cells z c =>
  obtain ⟨h1,h2,h3,h4,h5,h6⟩:=hB;refine ⟨h1,h2,h3,h4,⟨fun o ho=>?_,⟨fun c e' fz hf=>h5.2.1 c e' fz (e ▸ hf),fun o u q=>h5.2.2.1 o u (by rw [zjf (a:=⟨i.g,o,none⟩) e] at q;exact q),fun hz c e' fz hf=>h5.2.2.2 hz c e' fz (e ▸ hf)⟩⟩,fun j u hj=>?_⟩
  ·rw [zjf (a:=⟨i.g,o,none⟩) e,frozen_congr (a:=⟨i.g,o,none⟩) e];exact h5.1 o ho
  ·obtain ⟨u',a,q⟩:=h6 j u hj;exact ⟨u',by rw [zjf (a:=⟨i.g,i.base+j,none⟩) e];exact a,q.mono l⟩
 | ro c =>
  obtain ⟨h4,h6⟩:=hB;refine ⟨h4,fun j u hj=>?_⟩;obtain ⟨u',a,q⟩:=h6 j u hj;exact ⟨u',by rw [zjf (a:=⟨i.g,i.base+j,none⟩) e];exact a,q.mono l⟩
 | map es =>
  obtain ⟨en,ck,h1,h2,h3⟩:=hB;exact ⟨en,ck,e.trans h1,h2,fun j k v hj=>by obtain ⟨x,a,p,q⟩:=h3 j k v hj;exact ⟨x,a,p.mono l,q.mono l⟩⟩
 | dead=>trivial
theorem zek {c:List Val} {o:Nat} {vs:List Val} (h:o+vs.length≤c.length):(putL c o vs).length=c.length:=by simp [putL];omega
theorem zjj {c:List Val} {o:Nat} {vs:List Val} (h:o+vs.length≤c.length) (j:Nat):(putL c o vs)[j]? = if o≤j∧j < o+vs.length then vs[j - o]? else c[j]?:=by
 unfold putL
 by_cases h1:j < o
 ·rw [if_neg (by omega),List.append_assoc,List.getElem?_append_left (by simp;omega),List.getElem?_take,if_pos h1]
 ·by_cases h2:j < o+vs.length
  ·rw [if_pos ⟨by omega,h2⟩,List.append_assoc,List.getElem?_append_right (by simp;omega),List.getElem?_append_left (by simp;omega)]
   congr 1;simp;omega
  ·rw [if_neg (by omega),List.append_assoc,List.getElem?_append_right (by simp;omega),List.getElem?_append_right (by simp;omega),List.getElem?_drop]
   congr 1;simp;omega
theorem zfi (b:Nat):∀ (vs:List Value) (o:Nat) (w:World) (k:Nat),k≠b→(w.setCells b o vs).heap[k]? = w.heap[k]?
 | [],_,_,_,_=>rfl
 | v::r,o,w,k,hk=>by
  rw [World.setCells,zfi b r (o+1) _ k hk];simp only [World.setCell,Array.getElem?_modify]
  split
  ·rename_i e;exact absurd e.symm hk
  ·rfl
theorem zii (b:Nat):∀ (vs:List Value) (o:Nat) (w:World),(w.setCells b o vs).heap.size=w.heap.size
 | [],_,_=>rfl
 | v::r,o,w=>by rw [World.setCells,zii b r];simp [World.setCell]
theorem zpg (b:Nat):∀ (vs:List Value) (o:Nat) (w:World),(w.setCells b o vs).os=w.os∧(w.setCells b o vs).tape=w.tape∧(w.setCells b o vs).output=w.output∧(w.setCells b o vs).drawn=w.drawn
 | [],_,_=>⟨rfl,rfl,rfl,rfl⟩
 | v::r,o,w=>by rw [World.setCells];exact zpg b r (o+1) _
theorem zkg (b:Nat):∀ (vs:List Value) (o:Nat) (w:World) (x:Addr),(w.cell? x).isSome=true→((w.setCells b o vs).cell? x).isSome=true
 | [],_,_,_,h=>h
 | v::r,o,w,x,h=>by
  rw [World.setCells];refine zkg b r (o+1) _ x ?_;simp only [World.cell?,World.setCell,Array.getElem?_modify] at h ⊢
  split
  ·rename_i c cc e hh
   split at hh
   ·rename_i hb;cases hw:w.heap[x.block]? with
    | none=>simp [hw] at h
    | some ob =>
     rw [hw] at h hh;cases ob <;> simp at hh h
     obtain ⟨rfl,rfl,rfl⟩:=hh
     split at h
     ·simp at h
     ·rename_i hs;rw [if_neg hs];simp at h ⊢;exact h
   ·rw [hh] at h;exact h
  ·rename_i hh
   split at hh
   ·rename_i hb;cases hw:w.heap[x.block]? with
    | none=>simp [hw] at h
    | some ob=>rw [hw] at h hh;cases ob <;> simp at hh h
   ·cases hw:w.heap[x.block]? with
    | none=>simp [hw] at h
    | some ob=>rw [hw] at h hh;cases ob <;> simp at hh h
theorem cell_setCell {w:World} {a x:Addr} {v u:Value} (h:(w.setCell a v).cell? x=some u):u=v∨w.cell? x=some u:=by
 simp only [World.cell?,World.setCell,Array.getElem?_modify] at h ⊢
 by_cases hb:a.block=x.block
 ·rw [if_pos hb] at h;cases hw:w.heap[x.block]? with
  | none=>simp [hw] at h
  | some ob =>
   rw [hw] at h;cases ob with
   | cells c e fz =>
    simp only [Option.map_some] at h
    split at h
    ·cases h
    ·by_cases hs:a.spot.isSome=true
     ·rw [if_pos hs] at h;exact .inr (by simpa [‹¬ x.spot.isSome=true›] using h)
     ·rw [if_neg hs,Array.getElem?_setIfInBounds] at h
      split at h
      ·split at h
       ·exact .inl (Option.some.inj h).symm
       ·cases h
      ·exact .inr (by simpa [‹¬ x.spot.isSome=true›] using h)
   | _=>simp at h
 ·rw [if_neg hb] at h;exact .inr h
theorem zuj {w:World} {a:Addr} {v:Value} {g:Nat} {c:Array Value} {e:TypeId} {fz:Nat × Nat} (hf:(w.setCell a v).heap[g]? = some (.cells c e fz)):∃ c',w.heap[g]? = some (.cells c' e fz):=by
 simp only [World.setCell,Array.getElem?_modify] at hf
 split at hf
 ·rename_i hb;cases hw:w.heap[g]? with
  | none=>simp [hw] at hf
  | some ob =>
   rw [hw] at hf;cases ob <;> simp at hf
   obtain ⟨_,rfl,rfl⟩:=hf;exact ⟨_,rfl⟩
 ·exact ⟨c,hf⟩
theorem zpi {z:Nat} (b:Nat):∀ (vs:List Value) (o:Nat) (w:World) (g:Nat),(∀ u∈vs,u.oneCell' = true)→Fz z w g→Fz z (w.setCells b o vs) g
 | [],_,_,_,_,h=>h
 | v::r,o,w,g,hv,h=>by
  rw [World.setCells];refine zpi b r (o+1) _ g (fun u hu=>hv u (List.mem_cons_of_mem _ hu)) ⟨fun c e fz hf=>?_,fun o' u hu=>?_,fun hz c e fz hf=>?_⟩
  ·obtain ⟨c',q⟩:=zuj hf;exact h.1 c' e fz q
  ·rcases cell_setCell hu with rfl | q
   ·exact hv _ (by simp)
   ·exact h.2.1 o' u q
  ·obtain ⟨c',q⟩:=zuj hf;exact h.2.2 hz c' e fz q
theorem zxg {p:Blk→Bool} {b k:Nat} {z:Nat} {c c':List Val} (hp:p (.cells z c)=p (.cells z c')) (hb:h.get b=some (.cells z c)):has p (h.set b (.cells z c')) k ↔ has p h k:=by
 unfold has
 by_cases hk:k=b
 ·subst hk;simp [Hp.get_set,hb,hp]
 ·simp [Hp.get_set,hk]
theorem Rel.wrH {h':Hp} (r:Rel ρ h w) {b o:Nat} {i:Info} {vs:List Val} {us:List Value} (hb:ρ b=some i) (hr:wrH h b o vs=some h') (hv:VRL ρ vs us) :
  (∀ j,j < us.length→(w.cell? ⟨i.g,i.base+o+j,none⟩).isSome=true)∧(∀ j,j < us.length→w.frozen? ⟨i.g,i.base+o+j,none⟩=false)∧(∀ u∈us,u.oneCell' = true)∧Rel ρ h' (w.setCells i.g (i.base+o) us)∧Ext ρ h w ρ h' (w.setCells i.g (i.base+o) us):=by
 unfold V.wrH at hr;cases hg:h.get b with
 | none=>simp [hg] at hr
 | some B =>
  cases B with
  | cells z c =>
   simp only [hg] at hr
   split at hr
   ·rename_i hle;obtain ⟨hle,hone⟩:=hle;obtain rfl:=Option.some.inj hr;obtain ⟨h1,h2,h3,h4,h5,h6⟩:=r.blk b i _ hb hg;have hul:=hv.1;have hs:∀ j,j < us.length→(w.cell? ⟨i.g,i.base+o+j,none⟩).isSome=true:=fun j hj=>(h5.1 _ (by omega)).1;refine ⟨hs,fun j hj=>(h5.1 _ (by omega)).2,hv.one hone,?_,?_⟩
    ·refine ⟨fun b' i' e=>?_,fun b' i' B' e f=>?_,fun b1 b2 i1 i2 e1 e2 l1 l2=>r.inj b1 b2 i1 i2 e1 e2 ((zxg (p:=Blk.liveB) (z:=z) (c:=c) (c':=putL c o vs) (Eq.refl true) hg).1 l1) ((zxg (p:=Blk.ownB) (z:=z) (c:=c) (c':=putL c o vs) (Eq.refl true) hg).1 l2),fun k hk=>by
      have hbn:=(r.dom b i hb).1;have hk':h.next≤k:=hk;rw [Hp.get_set,if_neg (by omega)];exact r.wf k hk'⟩
     ·have:=r.dom b' i' e;rw [zii];exact this
     ·rw [Hp.get_set] at f
      split at f
      ·rename_i hbb;subst hbb;rw [hb] at e;obtain rfl:=Option.some.inj e;obtain rfl:=Option.some.inj f;refine ⟨h1,by rw [zek hle];exact h2,h3,?_,⟨fun o' ho'=>?_,zpi _ _ _ _ _ (hv.one hone) h5.2⟩,fun j u hj=>?_⟩
       ·refine List.all_eq_true.2 fun x hx=>?_;unfold putL at hx;rcases List.mem_append.1 hx with hx | hx
        ·rcases List.mem_append.1 hx with hx | hx
         ·exact List.all_eq_true.1 h4 x (List.mem_of_mem_take hx)
         ·exact List.all_eq_true.1 hone x hx
        ·exact List.all_eq_true.1 h4 x (List.mem_of_mem_drop hx)
       ·exact ⟨zkg _ _ _ _ _ (h5.1 o' ho').1,by rw [World.frozen?_setCells];exact (h5.1 o' ho').2⟩
       ·rw [zjj hle] at hj
        split at hj
        ·rename_i hjj;obtain ⟨u',a,q⟩:=hv.at hj;refine ⟨u',?_,q⟩;have hlt:=(List.getElem?_eq_some_iff.1 a).1;have:=World.cell?_setCells_in i.g us (i.base+o) w hs (j - o) hlt;rw [show i.base+j=i.base+o+(j - o) from by omega,this];exact (List.getElem?_eq_getElem hlt).symm.trans a
        ·rename_i hjj;obtain ⟨u',a,q⟩:=h6 j u hj;refine ⟨u',?_,q⟩;rw [World.cell?_setCells_out i.g us (i.base+o) w ⟨i.g,i.base+j,none⟩ (fun _ _=>by simp only;rw [← hul];omega)];exact a
      ·rename_i hbb;have hB:=r.blk b' i' B' e f;cases B' with
       | dead=>trivial
       | cells z' c' =>
        have hne:i'.g≠i.g:=fun eg=>hbb (r.inj b' b i' i e hb ⟨_,f,by simp⟩ ⟨_,hg,by simp⟩ eg);exact hB.congr (Ren.le.refl _) (zfi _ _ _ _ _ hne)
       | ro c' =>
        have hne:i'.g≠i.g:=fun eg=>hbb (r.inj b' b i' i e hb ⟨_,f,by simp⟩ ⟨_,hg,by simp⟩ eg);exact hB.congr (Ren.le.refl _) (zfi _ _ _ _ _ hne)
       | map es =>
        have hne:i'.g≠i.g:=fun eg=>hbb (r.inj b' b i' i e hb ⟨_,f,by simp⟩ ⟨_,hg,by simp⟩ eg);exact hB.congr (Ren.le.refl _) (zfi _ _ _ _ _ hne)
    ·obtain ⟨o1,o2,o3,o4⟩:=zpg i.g us (i.base+o) w;refine ⟨Ren.le.refl _,Nat.le_refl _,fun b' hb' hl=>⟨hb',?_⟩,by rw [zii];exact Nat.le_refl _,fun g hg' hn=>⟨zfi _ _ _ _ _ (fun e=>hn b i hb ⟨_,hg,rfl⟩ e.symm),fun b' i' e q=>hn b' i' e ((zxg (p:=Blk.ownB) (z:=z) (c:=c) (c':=putL c o vs) (Eq.refl true) hg).1 q)⟩,o1,o2,o3,by rw [o4];exact Nat.le_refl _⟩;rw [Hp.get_set,if_neg (fun e=>by rw [e,hb] at hb';cases hb')]
   ·cases hr
  | ro c=>simp [hg] at hr
  | map es=>simp [hg] at hr
  | dead=>simp [hg] at hr
def Ren.put (ρ:Ren) (b:Nat) (i:Info):Ren:=fun k=>if k=b then some i else ρ k
theorem Rel.free (r:Rel ρ h w):ρ h.next=none:=by
 cases e:ρ h.next with
 | none=>rfl
 | some i=>have:=(r.dom _ _ e).1;omega
theorem Ren.le_put {b:Nat} (i:Info) (hb:ρ b=none):ρ.le (ρ.put b i):=fun k j e=>by
 unfold Ren.put
 split
 ·rename_i hk;rw [hk,hb] at e;cases e
 ·exact e
theorem Rel.newCells (r:Rel ρ h w) {z:Nat} {c:List Val} {cs:List Value} {e:TypeId} {fz:Nat × Nat} (hf:fz.1 < fz.2→cs.length≤fz.1) (hz:fz.1≤fz.2) (hzm:z≠1→fz.2≤fz.1) (h1:c.all Val.one=true) (ho1:∀ u∈cs,u.oneCell' = true) (hlen:c.length≤cs.length) (hv:VRL ρ c (cs.take c.length)) :
  Rel (ρ.put h.next ⟨w.heap.size,0,z,c.length,cs.length⟩) (h.new (.cells z c)) (w.alloc (.cells cs.toArray e fz))∧Ext ρ h w (ρ.put h.next ⟨w.heap.size,0,z,c.length,cs.length⟩) (h.new (.cells z c)) (w.alloc (.cells cs.toArray e fz)):=by
 have hfree:=r.free;have hle:=Ren.le_put (ρ:=ρ) (b:=h.next) ⟨w.heap.size,0,z,c.length,cs.length⟩ hfree;have hput:∀ b i,(ρ.put h.next ⟨w.heap.size,0,z,c.length,cs.length⟩) b=some i→(b=h.next∧i=⟨w.heap.size,0,z,c.length,cs.length⟩)∨(b≠h.next∧ρ b=some i):=fun b i e=>by
  unfold Ren.put at e
  split at e
  ·rename_i hb;exact .inl ⟨hb,(Option.some.inj e).symm⟩
  ·rename_i hb;exact .inr ⟨hb,e⟩
 have hold:∀ g,g < w.heap.size→(w.alloc (.cells cs.toArray e fz)).heap[g]? = w.heap[g]?:=fun g hg=>by
  show (w.heap.push _)[g]? = _;rw [Array.getElem?_push,if_neg (Nat.ne_of_lt hg)]
 have hnew:(w.alloc (.cells cs.toArray e fz)).heap[w.heap.size]? = some (.cells cs.toArray e fz):=by
  show (w.heap.push _)[w.heap.size]? = _;rw [Array.getElem?_push,if_pos rfl]
 refine ⟨⟨fun b i e=>?_,fun b i B e f=>?_,fun b b' i i' e e' l l' hg=>?_,fun k hk=>by
   have hk':h.next+1≤k:=hk;rw [Hp.get_new,if_neg (by omega)];exact r.wf k (by omega)⟩,hle,Nat.le_succ _,fun b hb hl=>⟨?_,?_⟩,by simp,fun g hg hn=>⟨hold g hg,fun b i e q=>?_⟩,rfl,rfl,rfl,Nat.le_refl _⟩
 ·rcases hput b i e with ⟨rfl,rfl⟩ | ⟨_,e⟩
  ·exact ⟨Nat.lt_succ_self _,by simp⟩
  ·have:=r.dom b i e;exact ⟨Nat.lt_succ_of_lt this.1,by simp;omega⟩
 ·rcases hput b i e with ⟨rfl,rfl⟩ | ⟨hb,e⟩
  ·rw [Hp.get_new,if_pos rfl] at f;obtain rfl:=Option.some.inj f;refine ⟨rfl,rfl,by simpa using hlen,h1,⟨fun o ho=>⟨?_,?_⟩,⟨fun c' e' fz' hf'=>by rw [hnew] at hf';obtain ⟨_,_,rfl⟩:=(Obj.cells.inj (Option.some.inj hf'));exact hz,fun o u q=>by simp only [World.cell?,hnew] at q;exact ho1 u (List.mem_of_getElem? (by simpa using q)),fun hz1 c' e' fz' hf'=>by rw [hnew] at hf';obtain ⟨_,_,rfl⟩:=(Obj.cells.inj (Option.some.inj hf'));exact hzm hz1⟩⟩,fun j u hj=>?_⟩
   ·simp only [World.cell?,hnew];simp;exact ho
   ·simp only [World.frozen?,hnew];simp;intro a;rcases Nat.lt_or_ge fz.1 fz.2 with q | q
    ·have:=hf q;simp at ho;omega
    ·omega
   ·have hjl:=(List.getElem?_eq_some_iff.1 hj).1;obtain ⟨u',a,q⟩:=hv.at hj;refine ⟨u',?_,q.mono hle⟩;simp only [World.cell?,hnew];rw [List.getElem?_take,if_pos hjl] at a;simpa using a
  ·rw [Hp.get_new,if_neg hb] at f;exact (r.blk b i B e f).congr hle (hold _ (r.dom b i e).2)
 ·have lv:∀ (p:Blk→Bool) b,b≠h.next→has p (h.new (.cells z c)) b→has p h b:=fun p b hb ⟨B,a,q⟩=>⟨B,by rw [Hp.get_new,if_neg hb] at a;exact a,q⟩
  rcases hput b i e with ⟨rfl,rfl⟩ | ⟨hb,e⟩ <;> rcases hput b' i' e' with ⟨rfl,rfl⟩ | ⟨hb',e'⟩
  ·rfl
  ·have:=(r.dom b' i' e').2;simp only at hg;omega
  ·have:=(r.dom b i e).2;simp only at hg;omega
  ·exact r.inj b b' i i' e e' (lv _ b hb l) (lv _ b' hb' l') hg
 ·unfold Ren.put;rw [if_neg (by omega)];exact hb
 ·rw [Hp.get_new,if_neg (by omega)]
 ·rcases hput b i e with ⟨rfl,rfl⟩ | ⟨hb,e⟩
  ·simp;omega
  ·obtain ⟨B,q1,q2⟩:=q;exact hn b i e ⟨B,by rw [Hp.get_new,if_neg hb] at q1;exact q1,q2⟩
end
end Go.V
end
section
namespace Go.V
def EnvR (ρ:Ren) (env:Env) (a:Act):Prop:=∀ t v,env.get t=some v→VR ρ v (a.tmps.getD t undef)
theorem EnvR.mono {ρ σ:Ren} {env:Env} {a:Act} (l:ρ.le σ) (h:EnvR ρ env a):EnvR σ env a:=fun t v e=>(h t v e).mono l
theorem cv1_VR {ρ:Ren} {u:Value} {v:Val} (h:cv1 u=some v):VR ρ v u:=by
 unfold cv1 at h
 split at h <;> first | (obtain rfl:=Option.some.inj h) | cases h
 ·exact .b _
 ·exact .i _ _
 ·rename_i s;have:zee s.data.toList = .string s:=by unfold zee;rw [Array.toArray_toList]
  rw [← this];exact .s _
 ·exact .pn
 ·exact .sn
 ·exact .mn
 ·exact .nf
theorem mapM_cv1 {ρ:Ren}:∀ {l:List Value} {vs:List Val},l.mapM cv1=some vs→VRL ρ vs l:=by
 intro l
 induction l with
 | nil=>intro vs h;simp at h;subst h;exact VRL.nil
 | cons x l ih =>
  intro vs h;simp only [List.mapM_cons,Option.bind_eq_bind,Option.pure_def,Option.bind_eq_some_iff,Option.some.injEq] at h;obtain ⟨v,h1,us,h2,rfl⟩:=h;exact (ih h2).cons (cv1_VR h1)
theorem zsw {ρ:Ren} {u:Value} {v:Val} (h:cv u=some v):VR ρ v u:=by
 unfold cv at h
 split at h
 ·rename_i cs;obtain ⟨vs,h1,rfl⟩:=Option.map_eq_some_iff.1 h;have:=mapM_cv1 (ρ:=ρ) h1;have h2:=VR.agg this.1 this.2;simpa using h2
 ·exact cv1_VR h
theorem cv1_one {u:Value} {v:Val} (h:cv1 u=some v):u.oneCell' = true:=by
 unfold cv1 at h
 split at h <;> first | rfl | cases h
theorem mapM_one:∀ {l:List Value} {vs:List Val},l.mapM cv1=some vs → ∀ u∈l,u.oneCell' = true:=by
 intro l
 induction l with
 | nil=>intro vs _ u hu;cases hu
 | cons x l ih =>
  intro vs h u hu;simp only [List.mapM_cons,Option.bind_eq_bind,Option.pure_def,Option.bind_eq_some_iff,Option.some.injEq] at h;obtain ⟨v,h1,us,h2,rfl⟩:=h;rcases List.mem_cons.1 hu with rfl | hu
  ·exact cv1_one h1
  ·exact ih h2 u hu
theorem zsm {s:ByteArray} {n:Nat}:∀ u∈(bytesRow s n).toList,u.oneCell' = true:=by
 intro u hu;simp only [bytesRow,Array.toList_append,Array.toList_map,Array.toList_replicate,List.mem_append,List.mem_map,List.mem_replicate] at hu;rcases hu with ⟨b,_,rfl⟩ | ⟨_,rfl⟩ <;> rfl
theorem cv_one {u:Value} {v:Val} (h:cv u=some v):∀ x∈u.cells.toList,x.oneCell' = true:=by
 unfold cv at h
 split at h
 ·rename_i cs;obtain ⟨vs,h1,rfl⟩:=Option.map_eq_some_iff.1 h;exact fun x hx=>mapM_one h1 x (by simpa [Value.cells] using hx)
 ·have h1:=cv1_one h;rw [cells_un h1];intro x hx;obtain rfl:=List.mem_singleton.1 hx;exact h1
section
variable {P:Program} {ρ:Ren} {h:Hp} {w:World} {env:Env} {a:Act}
theorem zen (hE:EnvR ρ env a) {x:Operand} {v:Val} (hx:evO env x=some v):VR ρ v (a.eval x):=by
 cases x with
 | tmp t=>exact hE t v hx
 | const c=>exact zsw hx
 | global g=>cases hx
 | func f=>obtain rfl:=Option.some.inj hx;exact VR.f (vs:=[]) rfl (fun j u u' h=>by simp at h)
theorem evL_VR (hE:EnvR ρ env a):∀ {l:List Operand} {vs:List Val},evL env l=some vs→VRL ρ vs (l.map a.eval):=by
 intro l
 induction l with
 | nil=>intro vs h;simp [evL] at h;subst h;exact VRL.nil
 | cons x l ih =>
  intro vs h;simp only [evL,List.mapM_cons,Option.bind_eq_bind,Option.pure_def,Option.bind_eq_some_iff,Option.some.injEq] at h;obtain ⟨v,h1,us,h2,rfl⟩:=h;exact (ih h2).cons (zen hE h1)
def OpR (P:Program) (ρ:Ren) (h:Hp) (w:World) (a:Act) (o:Oper) (v:Val) (h':Hp):Prop :=
 ∃ ρ' w' r u,(execOp a.eval o).run P w = .ok r w' ∧ (r = .value u∨(r = .skip∧u=undef))∧VR ρ' v u∧Rel ρ' h' w' ∧ Ext ρ h w ρ' h' w'
theorem OpR.val {o:Oper} {v:Val} {u:Value} (r:Rel ρ h w) (hr:(execOp a.eval o).run P w = .ok (.value u) w) (hv:VR ρ v u):OpR P ρ h w a o v h :=
 ⟨ρ,w,_,u,hr,.inl rfl,hv,r,Ext.refl _ _ _⟩
theorem zgw {t:TypeId} {n:Nat} (hs:sz P t=some n) (w:World):(sizeOf t).run P w = .ok n w:=by
 obtain ⟨i,h1,rfl⟩:=Option.map_eq_some_iff.1 hs;simp [sizeOf,typeInfo,h1]
theorem zwv {t:TypeId} {b:Bool} (hs:aggT P t=some b) (w:World):(isAgg t).run P w = .ok b w:=by
 obtain ⟨d,h1,rfl⟩:=Option.map_eq_some_iff.1 hs;unfold isAgg;rw [Sem.run_bind,run_underlying h1 w];cases d <;> rfl
theorem zfx {t:TypeId} {v:Val} (hz:zge P t=some v):∃ i z,P.info? t=some i∧i.zero=some z∧cv z=some v:=by
 obtain ⟨i,h1,h2⟩:=Option.bind_eq_some_iff.1 hz;obtain ⟨z,h3,h4⟩:=Option.bind_eq_some_iff.1 h2;exact ⟨i,z,h1,h3,h4⟩
theorem zji {t:TypeId} {i:TypeInfo} {z:Value} (h1:P.info? t=some i) (h2:i.zero=some z) (w:World):(zeroValue t).run P w = .ok z w:=by
 simp [zeroValue,typeInfo,h1,h2]
theorem add_lit (g o n:Nat):(⟨g,o,none⟩:Addr).add n=⟨g,o+n,none⟩:=Addr.add_mid g o n
theorem sim_move {o:Oper} {x:Operand} {v:Val} (ho:o.op = .move x∨o.op = .assign x) (r:Rel ρ h w) (hE:EnvR ρ env a) (hx:evO env x=some v):OpR P ρ h w a o v h :=
 OpR.val r (u:=a.eval x) (by rcases ho with ho | ho <;> simp [execOp,ho]) (zen hE hx)
theorem sim_pick {o:Oper} {c x y:Operand} {t:Bool} {v:Val} (ho:o.op = .pick c x y) (r:Rel ρ h w) (hE:EnvR ρ env a) (hc:evO env c=some (.b t)) (hx:evO env (bif t then x else y)=some v):OpR P ρ h w a o v h:=by
 have h1:=zen hE hc;have h2:=zen hE hx;generalize hq:a.eval c=q at h1;cases h1;refine OpR.val r (u:=a.eval (bif t then x else y)) ?_ h2;cases t <;> simp [execOp,ho,hq,asBool]
theorem sim_nilCheck {o:Oper} {x:Operand} {v:Val} (ho:o.op = .nilCheck x) (r:Rel ρ h w) (hE:EnvR ρ env a) (hx:evO env x=some v) (h1:v ≠ .p none) (h2:v ≠ .nf) (h3:v ≠ .un):OpR P ρ h w a o v h:=by
 have hv:=zen hE hx;generalize hq:a.eval x=q at hv;refine OpR.val r (u:=q) ?_ hv;cases hv <;> first | exact absurd rfl h1 | exact absurd rfl h2 | exact absurd rfl h3 | simp [execOp,ho,hq,zee]
theorem zjt (x:List UInt8):(⟨x.toArray⟩:ByteArray).toList=x:=by rw [ByteArray.toList_eq]
theorem ba_add (x y:List UInt8):(⟨x.toArray⟩:ByteArray)++⟨y.toArray⟩=⟨(x++y).toArray⟩:=by
 apply ByteArray.ext;simp [ByteArray.data_append]
theorem sim_ibin {op:BinOp} {k:IntKind} {x y:Int} {v:Val} (hop:op ≠ .shl∧op ≠ .shr) (hv:ibin op k x y=some v) (t:TypeId):∃ u,(∀ w,(binOp op t (.int k x) (.int k y)).run P w = .ok u w)∧VR ρ v u:=by
  unfold ibin at hv;cases op <;> simp only [Option.some.injEq,reduceCtorEq] at hv <;> first | exact absurd rfl hop.1 | exact absurd rfl hop.2 | skip
  all_goals first
    | (subst hv;refine ⟨_,fun w=>?_,by first | exact VR.i _ _ | exact VR.b _⟩;simp [binOp,Op.intArith,Op.intBits,Op.intCmp];done)
    | (split at hv
       · cases hv
       · rename_i h0
         obtain rfl:=Option.some.inj hv;refine ⟨_,fun w=>?_,VR.i _ _⟩;simp [binOp,Op.intDiv,h0])
theorem sim_sh {op:BinOp} {k j:IntKind} {x y:Int} {v:Val} (hop:op = .shl∨op = .shr) (hv:shV op k x y=some v) (t:TypeId):∃ u,(∀ w,(binOp op t (.int k x) (.int j y)).run P w = .ok u w)∧VR ρ v u:=by
 unfold shV at hv
 split at hv
 ·cases hv
 ·rename_i h0;rcases hop with rfl | rfl
  ·obtain rfl:=Option.some.inj hv;exact ⟨_,fun w=>by simp [binOp,Op.shift,h0],VR.i _ _⟩
  ·obtain rfl:=Option.some.inj hv;exact ⟨_,fun w=>by simp [binOp,Op.shift,h0],VR.i _ _⟩
theorem sim_str {op:BinOp} {x y:List UInt8} {v:Val} (hv:strV op x y=some v) (t:TypeId):∃ u,(∀ w,(binOp op t (zee x) (zee y)).run P w = .ok u w)∧VR ρ v u:=by
 unfold strV at hv;cases op <;> simp only [Option.some.injEq,reduceCtorEq] at hv
 case add =>
  split at hv
  ·rename_i hle;obtain rfl:=Option.some.inj hv;refine ⟨_,fun w=>?_,VR.s _⟩;have h1:¬ ((((⟨x.toArray⟩:ByteArray).size+(⟨y.toArray⟩:ByteArray).size:Nat):Int) > IntKind.i64.max):=by
    have e1:(⟨x.toArray⟩:ByteArray).size=x.length:=by simp [ByteArray.size]
    have e2:(⟨y.toArray⟩:ByteArray).size=y.length:=by simp [ByteArray.size]
    rw [e1,e2];have:IntKind.i64.max=2 ^ 63 - 1:=by decide
    rw [this];omega
   simp only [binOp,zee,Op.stringOp];rw [if_neg h1,ba_add];rfl
  ·cases hv
 all_goals
  subst hv;refine ⟨_,fun w=>?_,VR.b _⟩;simp only [binOp,zee,Op.stringOp,zjt];rfl
theorem run_plain {t:TypeId} {d:TypeDesc} {c1 c2:Val} {u1 u2:Value} (hp:zsg P t=some d) (l1:zqm d c1=true) (l2:zqm d c2=true) (v1:VR ρ c1 u1) (v2:VR ρ c2 u2) (n:Nat) (w:World) :
  (Op.equalIn (n+1) t u1 u2).run P w = .ok (eq1 c1 c2) w:=by
 unfold zsg at hp
 split at hp <;> first | (obtain rfl:=Option.some.inj hp) | cases hp
 ·cases c1 <;> simp [zqm] at l1
  cases c2 <;> simp [zqm] at l2
  cases v1;cases v2;rw [run_equalIn_bool w n t _ _ (by assumption)];rfl
 ·rename_i k hu;cases c1 <;> simp [zqm] at l1
  cases c2 <;> simp [zqm] at l2
  subst l1;subst l2;cases v1;cases v2;rw [run_equalIn_int w n t _ _ _ _ hu];simp [eq1]
 ·cases c1 <;> simp [zqm] at l1
  cases c2 <;> simp [zqm] at l2
  cases v1;cases v2;unfold zee;rw [run_equalIn_string w n t _ _ (by assumption),zjt,zjt];rfl
theorem agg_plain {t:TypeId} {d:TypeDesc} (hp:zsg P t=some d) (w:World):(isAgg t).run P w = .ok false w:=by
 unfold zsg at hp
 split at hp <;> first | cases hp | skip
 all_goals (unfold isAgg;rw [Sem.run_bind,run_underlying (by assumption) w];rfl)
theorem zpz {t:TypeId} {d:TypeDesc} (hp:zsg P t=some d) {us:List Value} {k:Nat} {u:Value} (hk:us[k]? = some u) (w:World):(part t us.toArray k).run P w = .ok u w:=by
 unfold part;rw [Sem.run_bind,agg_plain hp w];simp [hk]
theorem run_fieldsP {c1 c2:List Val} {u1 u2:List Value} (v1:VRL ρ c1 u1) (v2:VRL ρ c2 u2) (n:Nat) (w:World):∀ (fs:List Field) (k:Nat) (l:List TypeDesc),plainF P k fs=some l→zeb l (c1.drop k)=true→zeb l (c2.drop k)=true →
  (Op.eqFields (n+1) u1.toArray u2.toArray fs).run P w = .ok (eqL (c1.drop k) (c2.drop k)) w:=by
 intro fs
 induction fs with
 | nil =>
  intro k l hl h1 h2;simp [plainF] at hl;subst hl;cases e1:c1.drop k <;> rw [e1] at h1 <;> simp [zeb] at h1
  cases e2:c2.drop k <;> rw [e2] at h2 <;> simp [zeb] at h2
  simp [Op.eqFields,eqL]
 | cons f fs ih =>
  intro k l hl h1 h2;simp only [plainF] at hl
  split at hl
  ·rename_i hf;obtain ⟨d,hd,hl⟩:=Option.bind_eq_some_iff.1 hl;obtain ⟨l',hl',rfl⟩:=Option.map_eq_some_iff.1 hl;cases e1:c1.drop k with
   | nil=>rw [e1] at h1;simp [zeb] at h1
   | cons x1 r1 =>
    cases e2:c2.drop k with
    | nil=>rw [e2] at h2;simp [zeb] at h2
    | cons x2 r2 =>
     rw [e1] at h1;rw [e2] at h2;simp only [zeb,Bool.and_eq_true] at h1 h2;have g1:c1[k]? = some x1:=by have:=congrArg (·[0]?) e1;simpa [List.getElem?_drop] using this
     have g2:c2[k]? = some x2:=by have:=congrArg (·[0]?) e2;simpa [List.getElem?_drop] using this
     have q1:c1.drop (k+1)=r1:=by rw [← List.tail_drop,e1];rfl
     have q2:c2.drop (k+1)=r2:=by rw [← List.tail_drop,e2];rfl
     obtain ⟨y1,a1,b1⟩:=v1.at g1;obtain ⟨y2,a2,b2⟩:=v2.at g2;have hr:=ih (k+1) l' hl' (by rw [q1];exact h1.2) (by rw [q2];exact h2.2);rw [q1,q2] at hr;have hq:=run_plain hd h1.1 h2.1 b1 b2 n w;simp only [Op.eqFields,hf.1,ne_eq,not_false_eq_true,if_true,Sem.run_bind,hf.2,zpz hd a1 w,zpz hd a2 w,Result.andThen_ok,hq];cases he:eq1 x1 x2
     ·simp [eqL,he]
     ·simp [eqL,he];exact hr
  ·cases hl
theorem run_itemsP {c1 c2:List Val} {u1 u2:List Value} (v1:VRL ρ c1 u1) (v2:VRL ρ c2 u2) {e:TypeId} {d:TypeDesc} (hd:zsg P e=some d) (n:Nat) (w:World):∀ (m k:Nat),zeb (List.replicate m d) (c1.drop k)=true→zeb (List.replicate m d) (c2.drop k)=true →
  (Op.eqItems (n+1) e 1 u1.toArray u2.toArray (List.range' k m)).run P w = .ok (eqL (c1.drop k) (c2.drop k)) w:=by
 intro m
 induction m with
 | zero =>
  intro k h1 h2;cases e1:c1.drop k <;> rw [e1] at h1 <;> simp [zeb] at h1
  cases e2:c2.drop k <;> rw [e2] at h2 <;> simp [zeb] at h2
  simp [Op.eqItems,eqL]
 | succ m ih =>
  intro k h1 h2;cases e1:c1.drop k with
  | nil=>rw [e1] at h1;simp [zeb,List.replicate_succ] at h1
  | cons x1 r1 =>
   cases e2:c2.drop k with
   | nil=>rw [e2] at h2;simp [zeb,List.replicate_succ] at h2
   | cons x2 r2 =>
    rw [e1] at h1;rw [e2] at h2;simp only [List.replicate_succ,zeb,Bool.and_eq_true] at h1 h2;have g1:c1[k]? = some x1:=by have:=congrArg (·[0]?) e1;simpa [List.getElem?_drop] using this
    have g2:c2[k]? = some x2:=by have:=congrArg (·[0]?) e2;simpa [List.getElem?_drop] using this
    have q1:c1.drop (k+1)=r1:=by rw [← List.tail_drop,e1];rfl
    have q2:c2.drop (k+1)=r2:=by rw [← List.tail_drop,e2];rfl
    obtain ⟨y1,a1,b1⟩:=v1.at g1;obtain ⟨y2,a2,b2⟩:=v2.at g2;have hr:=ih (k+1) (by rw [q1];exact h1.2) (by rw [q2];exact h2.2);rw [q1,q2] at hr;have hq:=run_plain hd h1.1 h2.1 b1 b2 n w;simp only [List.range'_succ,Op.eqItems,Sem.run_bind,Nat.mul_one,zpz hd a1 w,zpz hd a2 w,Result.andThen_ok,hq];cases he:eq1 x1 x2
    ·simp [eqL,he]
    ·simp [eqL,he];exact hr
theorem sz_info {t:TypeId} {n:Nat} (h:sz P t=some n):∃ i,P.info? t=some i∧i.size=n:=Option.map_eq_some_iff.1 h
theorem run_flat {t:TypeId} {l:List TypeDesc} {c1 c2:List Val} {u1 u2:List Value} (hf:flatT P t=some l) (l1:zeb l c1=true) (l2:zeb l c2=true) (v1:VRL ρ c1 u1) (v2:VRL ρ c2 u2) (n:Nat) (w:World) :
  (Op.equalIn (n+2) t (.agg u1.toArray) (.agg u2.toArray)).run P w = .ok (eqL c1 c2) w:=by
 unfold flatT at hf
 split at hf
 ·rename_i fs hu
  split at hf
  ·cases hf
  ·rename_i hs;have hfo:P.fieldsOf t=fs:=by simp [Program.fieldsOf,hu]
   rw [run_equalIn_struct w (n+1) t _ _ (by rw [hfo];exact hu) (by simpa using hs),hfo];exact run_fieldsP v1 v2 n w fs.toList 0 l hf l1 l2
 ·rename_i m e hu
  split at hf
  ·rename_i hs;obtain ⟨d,hd,rfl⟩:=Option.map_eq_some_iff.1 hf;obtain ⟨i,hi,hi2⟩:=sz_info hs;rw [run_equalIn_array w (n+1) _ _ hu hi,show P.cellsOf e=1 by simp [Program.cellsOf,hi,hi2],List.range_eq_range'];exact run_itemsP v1 v2 hd n w m 0 l1 l2
  ·cases hf
 ·cases hf
theorem sim_eq {t:TypeId} {x y:Val} {u1 u2:Value} {q:Bool} (hq:eqV P t x y=some q) (v1:VR ρ x u1) (v2:VR ρ y u2) (w:World):(Op.equal t u1 u2).run P w = .ok q w:=by
 suffices key:∀ n,(Op.equalIn (n+2) t u1 u2).run P w = .ok q w from key 9998
 intro n;unfold eqV at hq
 split at hq
 ·rename_i hu;obtain rfl:=Option.some.inj hq;cases v1;cases v2;exact run_equalIn_bool w (n+1) t _ _ hu
 ·rename_i hu;obtain rfl:=Option.some.inj hq;cases v1;cases v2 <;> (unfold Op.equalIn;rw [Sem.run_bind,run_underlying hu w];rfl)
 ·rename_i hu;obtain rfl:=Option.some.inj hq;cases v1;cases v2;(unfold Op.equalIn;rw [Sem.run_bind,run_underlying hu w];rfl)
 ·rename_i hu;obtain rfl:=Option.some.inj hq;cases v1;cases v2 <;> (unfold Op.equalIn;rw [Sem.run_bind,run_underlying hu w];rfl)
 ·rename_i hu;obtain rfl:=Option.some.inj hq;cases v1 <;> cases v2 <;> (unfold Op.equalIn;rw [Sem.run_bind,run_underlying hu w];rfl)
 ·rename_i hu;obtain rfl:=Option.some.inj hq;cases v1;cases v2;(unfold Op.equalIn;rw [Sem.run_bind,run_underlying hu w];rfl)
 ·rename_i hu;obtain rfl:=Option.some.inj hq;cases v1;cases v2;(unfold Op.equalIn;rw [Sem.run_bind,run_underlying hu w];rfl)
 ·rename_i hu;obtain rfl:=Option.some.inj hq;cases v1;cases v2;(unfold Op.equalIn;rw [Sem.run_bind,run_underlying hu w];rfl)
 ·rename_i hu;obtain rfl:=Option.some.inj hq;cases v1;cases v2;(unfold Op.equalIn;rw [Sem.run_bind,run_underlying hu w];rfl)
 ·rename_i hu;obtain rfl:=Option.some.inj hq;cases v1;cases v2;(unfold Op.equalIn;rw [Sem.run_bind,run_underlying hu w];rfl)
 ·rename_i hu;obtain rfl:=Option.some.inj hq;cases v1;cases v2 <;> (unfold Op.equalIn;rw [Sem.run_bind,run_underlying hu w];rfl)
 ·rename_i hu;obtain rfl:=Option.some.inj hq;cases v1;cases v2;(unfold Op.equalIn;rw [Sem.run_bind,run_underlying hu w];rfl)
 ·split at hq
  ·rename_i l hf
   split at hq
   ·rename_i hc;simp only [Bool.and_eq_true] at hc;obtain rfl:=Option.some.inj hq;cases v1 with
    | agg a1 b1=>cases v2 with
     | agg a2 b2=>exact run_flat hf hc.1.1 hc.1.2 ⟨a1,b1⟩ ⟨a2,b2⟩ n w
   ·cases hq
  ·cases hq
 ·split at hq
  ·rename_i l hf
   split at hq
   ·rename_i hc;simp only [Bool.and_eq_true] at hc;obtain rfl:=Option.some.inj hq;cases v1 with
    | agg a1 b1=>cases v2 with
     | agg a2 b2=>exact run_flat hf hc.1.1 hc.1.2 ⟨a1,b1⟩ ⟨a2,b2⟩ n w
   ·cases hq
  ·cases hq
 ·cases hq
end
end Go.V
end
section
namespace Go.V
section
variable {P:Program} {ρ:Ren} {h:Hp} {w:World} {env:Env} {a:Act}
theorem run_bq {t:TypeId} {x y:Val} {u1 u2:Value} {q:Bool} (hq:eqV P t x y=some q) (v1:VR ρ x u1) (v2:VR ρ y u2) (w:World) :
  (do pure (Value.bool (← Op.equal t u1 u2)):Sem Value).run P w = .ok (.bool q) w:=by
 rw [Sem.run_bind,sim_eq hq v1 v2 w];rfl
theorem run_bn {t:TypeId} {x y:Val} {u1 u2:Value} {q:Bool} (hq:eqV P t x y=some q) (v1:VR ρ x u1) (v2:VR ρ y u2) (w:World) :
  (do pure (Value.bool (!(← Op.equal t u1 u2))):Sem Value).run P w = .ok (.bool (!q)) w:=by
 rw [Sem.run_bind,sim_eq hq v1 v2 w];rfl
theorem zrp {op:BinOp} {t:TypeId} {x y:Operand} {u1 u2:Value} (h1:∀ b c,¬ (u1 = .agg b∧u2 = .agg c)) (h2:u1 ≠ .nilIface) (w:World):(eqGuard op t x y u1 u2).run P w = .ok () w:=by
  unfold eqGuard;cases op <;> first
    | rfl
    | (simp only [Bool.not_true,Bool.false_eq_true,if_false]
       split
       · exact absurd rfl h2
       · exact absurd ⟨rfl,rfl⟩ (h1 _ _)
       · rfl)
theorem guard_agg {op:BinOp} {t:TypeId} {x y:Operand} {b c:Array Value} (hg:P.eqGuardType P.depth t=false) (w:World):(eqGuard op t x y (.agg b) (.agg c)).run P w = .ok () w:=by
  unfold eqGuard;cases op <;> first
    | rfl
    | (simp only [Bool.not_true,Bool.false_eq_true,if_false]
       simp [hg])
theorem sim_cmp {t:TypeId} {x y:Val} {u1 u2:Value} {q:Bool} (o1 o2:Operand) (hq:eqV P t x y=some q) (v1:VR ρ x u1) (v2:VR ρ y u2) (w:World) :
  (binOp .eql t u1 u2).run P w = .ok (.bool q) w∧(binOp .neq t u1 u2).run P w = .ok (.bool (!q)) w∧(∀ op,(eqGuard op t o1 o2 u1 u2).run P w = .ok () w):=by
 have e1:=run_bq hq v1 v2 w;have e2:=run_bn hq v1 v2 w;unfold eqV at hq
 split at hq
 case h_13 =>
  split at hq
  ·split at hq
   ·rename_i hc;simp only [Bool.and_eq_true,Bool.not_eq_true'] at hc;cases v1;cases v2;exact ⟨e1,e2,fun op=>guard_agg hc.2 w⟩
   ·cases hq
  ·cases hq
 case h_14 =>
  split at hq
  ·split at hq
   ·rename_i hc;simp only [Bool.and_eq_true,Bool.not_eq_true'] at hc;cases v1;cases v2;exact ⟨e1,e2,fun op=>guard_agg hc.2 w⟩
   ·cases hq
  ·cases hq
 all_goals first
  | (cases hq;done)
  | (cases v1 <;> cases v2 <;> exact ⟨e1,e2,fun op=>zrp (by simp) (by simp) w⟩)
theorem sim_bin {o:Oper} {op:BinOp} {t t2:TypeId} {x y:Operand} {p q v:Val} (ho:o.op = .binOp op t x y t2) (r:Rel ρ h w) (hE:EnvR ρ env a) (hx:evO env x=some p) (hy:evO env y=some q) (hv:binV P op t p q=some v):OpR P ρ h w a o v h:=by
 have v1:=zen hE hx;have v2:=zen hE hy;have hrun:∀ {u:Value},(eqGuard op t x y (a.eval x) (a.eval y)).run P w = .ok () w→(binOp op t (a.eval x) (a.eval y)).run P w = .ok u w→(execOp a.eval o).run P w = .ok (.value u) w:=fun h1 h2=>by
  simp only [execOp,ho,Sem.run_bind,h1,Result.andThen_ok,h2,Sem.run_pure]
 unfold binV at hv
 split at hv
 ·rename_i k m j n;generalize a.eval x=u1 at v1 hrun;generalize a.eval y=u2 at v2 hrun;cases v1;cases v2;have hg:=zrp (P:=P) (op:=op) (t:=t) (x:=x) (y:=y) (u1:=.int k m) (u2:=.int j n) (by simp) (by simp) w
  split at hv
  ·obtain ⟨u,h1,h2⟩:=sim_sh (P:=P) (ρ:=ρ) (j:=j) (.inl rfl) hv t;exact OpR.val r (hrun hg (h1 w)) h2
  ·obtain ⟨u,h1,h2⟩:=sim_sh (P:=P) (ρ:=ρ) (j:=j) (.inr rfl) hv t;exact OpR.val r (hrun hg (h1 w)) h2
  ·split at hv
   ·rename_i n1 n2 hkj;subst hkj;obtain ⟨u,h1,h2⟩:=sim_ibin (P:=P) (ρ:=ρ) ⟨n1,n2⟩ hv t;exact OpR.val r (hrun hg (h1 w)) h2
   ·cases hv
 ·rename_i m n;generalize a.eval x=u1 at v1 hrun;generalize a.eval y=u2 at v2 hrun;cases v1;cases v2;have hg:=zrp (P:=P) (op:=op) (t:=t) (x:=x) (y:=y) (u1:=zee m) (u2:=zee n) (by simp [zee]) (by simp [zee]) w;obtain ⟨u,h1,h2⟩:=sim_str (P:=P) (ρ:=ρ) hv t;exact OpR.val r (hrun hg (h1 w)) h2
 ·split at hv
  ·obtain ⟨b,hb,rfl⟩:=Option.map_eq_some_iff.1 hv;obtain ⟨h1,h2,h3⟩:=sim_cmp x y hb v1 v2 w;exact OpR.val r (hrun (h3 _) h1) (.b _)
  ·obtain ⟨b,hb,rfl⟩:=Option.map_eq_some_iff.1 hv;obtain ⟨h1,h2,h3⟩:=sim_cmp x y hb v1 v2 w;exact OpR.val r (hrun (h3 _) h2) (.b _)
  ·cases hv
theorem sim_un {o:Oper} {op:UnOp} {t:TypeId} {x:Operand} {p v:Val} (ho:o.op = .unOp op t x) (r:Rel ρ h w) (hE:EnvR ρ env a) (hx:evO env x=some p) (hv:unV op p=some v):OpR P ρ h w a o v h:=by
 have v1:=zen hE hx;have hrun:∀ {u:Value},(Op.unary op (a.eval x)).run P w = .ok u w→(execOp a.eval o).run P w = .ok (.value u) w:=fun h2=>by
  simp only [execOp,ho,Sem.run_bind,Result.andThen_ok,h2,Sem.run_pure]
 generalize a.eval x=u1 at v1 hrun;unfold unV at hv
 split at hv
 ·obtain rfl:=Option.some.inj hv;cases v1;exact OpR.val r (hrun (u:=_) rfl) (.i _ _)
 ·cases v1;unfold ibin at hv;obtain rfl:=Option.some.inj hv;exact OpR.val r (hrun (u:=_) rfl) (.i _ _)
 ·obtain rfl:=Option.some.inj hv;cases v1;exact OpR.val r (hrun (u:=_) rfl) (.b _)
 ·cases hv
theorem znp {v:Val} {n:Nat} (hv:natV v=some n):∃ k,v = .i k n∧n≤2 ^ 40:=by
 unfold natV at hv
 split at hv
 ·rename_i k m
  split at hv
  ·rename_i hm;obtain rfl:=Option.some.inj hv;exact ⟨k,by rw [Int.toNat_of_nonneg hm.1],by omega⟩
  ·cases hv
 ·cases hv
theorem zuc {v:Val} {n:Nat} (hv:natI v=some n):∃ k,v = .i k n:=by
 unfold natI at hv
 split at hv
 ·rename_i k m
  split at hv
  ·rename_i hm;obtain rfl:=Option.some.inj hv;exact ⟨k,by rw [Int.toNat_of_nonneg hm]⟩
  ·cases hv
 ·cases hv
theorem zwr {o:Oper} {s:TypeId} {x:Operand} {f b q n:Nat} {fd:Field} (ho:o.op = .fieldAddr s x f) (r:Rel ρ h w) (hE:EnvR ρ env a) (hx:evO env x=some (.p (some (b,q)))) (hf:fldT P s f=some fd) (hs:sz P fd.type=some n) (hn:0 < n) :
  OpR P ρ h w a o (.p (some (b,q+fd.offset))) h:=by
 have v1:=zen hE hx;generalize hu:a.eval x=u1 at v1;cases v1 with
 | p hb =>
  unfold fldT at hf
  split at hf
  ·rename_i fs hst;refine OpR.val r (u:=.pointer (some ⟨_,_,none⟩)) ?_ (.p hb);simp only [execOp,ho,hu,Instr.fieldAt,Instr.sureAddr,fieldPlace,Sem.run_bind,run_underlying hst w,Result.andThen_ok,hf,Sem.run_pure,zgw hs w];rw [if_neg (by omega)];simp only [Sem.run_pure,Result.andThen_ok,add_lit,Nat.add_assoc]
  ·cases hf
theorem sim_index {o:Oper} {t:TypeId} {x y:Operand} {p q v:Val} (ho:o.op = .indexAddr t x y) (r:Rel ρ h w) (hE:EnvR ρ env a) (hx:evO env x=some p) (hy:evO env y=some q) (hv:idxA P t p q=some v):OpR P ρ h w a o v h:=by
 have v1:=zen hE hx;have v2:=zen hE hy;unfold idxA at hv;rw [Option.bind_eq_some_iff] at hv;obtain ⟨i,hi,hv⟩:=hv;obtain ⟨k,rfl⟩:=zuc hi;generalize hu2:a.eval y=u2 at v2;cases v2;generalize hu1:a.eval x=u1 at v1;have hrun:∀ {u:Value},(Instr.indexAt t u1 (.int k i)).run P w = .ok u w→(execOp a.eval o).run P w = .ok (.value u) w:=fun h2=>by
  simp only [execOp,ho,hu1,hu2,Sem.run_bind,Result.andThen_ok,h2,Sem.run_pure]
 split at hv
 ·rename_i n e b off hst;rw [Option.bind_eq_some_iff] at hv;obtain ⟨z,hz,hv⟩:=hv
  split at hv
  ·rename_i hlt;obtain rfl:=Option.some.inj hv;cases v1 with
   | p hb =>
    refine OpR.val r (hrun (u:=.pointer (some ⟨_,_,none⟩)) ?_) (.p hb);simp only [Instr.indexAt,asIntOf,Instr.sureAddr,Sem.run_bind,run_underlying hst w,Result.andThen_ok,Sem.run_pure,zgw hz w];rw [if_pos ⟨by omega,by omega⟩];simp only [Sem.run_bind,zgw hz w,Result.andThen_ok,Sem.run_pure,add_lit,Nat.add_assoc,Int.toNat_natCast]
  ·cases hv
 ·rename_i e b off len c hst;rw [Option.bind_eq_some_iff] at hv;obtain ⟨z,hz,hv⟩:=hv
  split at hv
  ·rename_i hlt;obtain rfl:=Option.some.inj hv;have key:∀ (i':Info) (cc:Nat),ρ b=some i' → u1 = .slice (some ⟨i'.g,i'.base+off,none⟩) len cc→OpR P ρ h w a o (.p (some (b,off+i*z))) h:=fun i' cc hb e1=>by
    subst e1;refine OpR.val r (hrun (u:=.pointer (some ⟨_,_,none⟩)) ?_) (.p hb);simp only [Instr.indexAt,asIntOf,Sem.run_bind,run_underlying hst w,Result.andThen_ok,Sem.run_pure];rw [if_pos ⟨by omega,by omega⟩];simp only [Sem.run_bind,zgw hz w,Result.andThen_ok,Sem.run_pure,add_lit,Nat.add_assoc,Int.toNat_natCast]
   cases v1 with
   | sk hb _=>exact key _ _ hb rfl
   | so hb _ _ _=>exact key _ _ hb rfl
  ·cases hv
 ·cases hv
theorem sim_part {t:TypeId} {cs:List Val} {us:List Value} {k:Nat} {v:Val} (hv:partV P t cs k=some v) (hr:VRL ρ cs us) (w:World):∃ u,(part t us.toArray k).run P w = .ok u w∧VR ρ v u:=by
 unfold partV at hv;rw [Option.bind_eq_some_iff] at hv;obtain ⟨b,hb,hv⟩:=hv;cases b with
 | true =>
  simp only [cond_true] at hv;rw [Option.bind_eq_some_iff] at hv;obtain ⟨n,hn,hv⟩:=hv
  split at hv
  ·rename_i hle;obtain rfl:=Option.some.inj hv;have h2:=(hr.drop k).take n;refine ⟨_,?_,VR.agg h2.1 h2.2⟩;simp only [part,Sem.run_bind,zwv hb w,Result.andThen_ok,if_true,zgw hn w,Sem.run_pure]
   congr 2
   apply Array.ext';simp
  ·cases hv
 | false =>
  simp only [cond_false] at hv;obtain ⟨u,h1,h2⟩:=hr.at hv;refine ⟨u,?_,h2⟩;simp [part,zwv hb,h1]
theorem sim_field {o:Oper} {s:TypeId} {x:Operand} {f:Nat} {fd:Field} {cs:List Val} {v:Val} (ho:o.op = .field s x f) (r:Rel ρ h w) (hE:EnvR ρ env a) (hx:evO env x=some (.agg cs)) (hf:fldT P s f=some fd) (hv:partV P fd.type cs fd.offset=some v) :
  OpR P ρ h w a o v h:=by
 have v1:=zen hE hx;generalize hu:a.eval x=u1 at v1;cases v1 with
 | agg a1 a2 =>
  unfold fldT at hf
  split at hf
  ·rename_i fs hst;obtain ⟨u,h1,h2⟩:=sim_part hv ⟨a1,a2⟩ w;refine OpR.val r (u:=u) ?_ h2;simp only [execOp,ho,hu,Instr.field,asAgg,Sem.run_bind,run_underlying hst w,Result.andThen_ok,hf,Sem.run_pure,h1]
  ·cases hf
theorem sim_idxV {o:Oper} {t:TypeId} {x y:Operand} {p q v:Val} (ho:o.op = .index t x y) (r:Rel ρ h w) (hE:EnvR ρ env a) (hx:evO env x=some p) (hy:evO env y=some q) (hv:idxV P t p q=some v):OpR P ρ h w a o v h:=by
 have v1:=zen hE hx;have v2:=zen hE hy;unfold idxV at hv;rw [Option.bind_eq_some_iff] at hv;obtain ⟨i,hi,hv⟩:=hv;obtain ⟨k,rfl⟩:=zuc hi;generalize hu2:a.eval y=u2 at v2;cases v2;generalize hu1:a.eval x=u1 at v1;have hrun:∀ {u:Value},(Instr.index t u1 (.int k i)).run P w = .ok u w→(execOp a.eval o).run P w = .ok (.value u) w:=fun h2=>by
  simp only [execOp,ho,hu1,hu2,Sem.run_bind,Result.andThen_ok,h2,Sem.run_pure]
 split at hv
 ·rename_i n e cs hst;rw [Option.bind_eq_some_iff] at hv;obtain ⟨z,hz,hv⟩:=hv
  split at hv
  ·rename_i hlt;cases v1 with
   | agg a1 a2 =>
    obtain ⟨u,h1,h2⟩:=sim_part hv ⟨a1,a2⟩ w;refine OpR.val r (hrun (u:=u) ?_) h2;simp only [Instr.index,asIntOf,Sem.run_bind,run_underlying hst w,Result.andThen_ok,Sem.run_pure];rw [if_pos ⟨by omega,by omega⟩];simp only [Sem.run_bind,zgw hz w,Result.andThen_ok,Int.toNat_natCast,h1]
  ·cases hv
 ·rename_i s hst;obtain ⟨c,hc,rfl⟩:=Option.map_eq_some_iff.1 hv;cases v1;have hg:(⟨s.toArray⟩:ByteArray)[i]? = some c:=by
   obtain ⟨hlt,hc⟩:=List.getElem?_eq_some_iff.1 hc;have hsz:i < (⟨s.toArray⟩:ByteArray).size:=by simp [ByteArray.size];exact hlt
   rw [getElem?_pos (⟨s.toArray⟩:ByteArray) i hsz,← hc];rfl
  refine OpR.val r (hrun (u:=.int .u8 c.toNat) ?_) (.i _ _);simp only [Instr.index,zee,asIntOf,Sem.run_bind,run_underlying hst w,Result.andThen_ok,Sem.run_pure,Int.toNat_natCast,hg,Int.natCast_nonneg,if_true]
 ·cases hv
theorem sim_extract {o:Oper} {x:Operand} {i:Nat} {vs:List Val} {v:Val} (ho:o.op = .extract x i) (r:Rel ρ h w) (hE:EnvR ρ env a) (hx:evO env x=some (.tup vs)) (hv:vs[i]? = some v):OpR P ρ h w a o v h:=by
 have v1:=zen hE hx;generalize hu:a.eval x=u1 at v1;cases v1 with
 | tup a1 a2 =>
  obtain ⟨u,h1,h2⟩:=(VRL.at (ρ:=ρ) ⟨a1,a2⟩ hv)
  refine OpR.val r (u:=u) ?_ h2;simp [execOp,ho,hu,Instr.extract,h1]
theorem sim_makeFunc {o:Oper} {f:FuncId} {first caps:Array Operand} {l:List Val} (ho:o.op = .makeFunc (.func f) first caps) (r:Rel ρ h w) (hE:EnvR ρ env a) (hf:first.size=0) (hl:evL env caps.toList=some l):OpR P ρ h w a o (.f f l) h:=by
 have h1:=evL_VR hE hl;have e0:first = #[]:=Array.eq_empty_of_size_eq_zero hf
 refine OpR.val r (u:=.func (.func f) #[] (caps.toList.map a.eval).toArray) ?_ (.f h1.1 h1.2);simp only [execOp,ho,Instr.makeFunc,e0,Sem.run_bind,Sem.run_pure,Result.andThen_ok];have e1:(caps.toList.map a.eval).toArray=caps.map a.eval:=by apply Array.ext';simp
 rw [e1];simp
theorem sim_toArr {o:Oper} {t:TypeId} {x:Operand} {b:Nat × Nat} {n k:Nat} {c:Cap} {e:TypeId} (ho:o.op = .sliceToArrayPointer t x) (r:Rel ρ h w) (hE:EnvR ρ env a) (hx:evO env x=some (.sl (some b) n c)) (ht:P.underlying t=some (.array k e)) (hk:k≤n):OpR P ρ h w a o (.p (some b)) h:=by
 have v1:=zen hE hx;generalize hu:a.eval x=u1 at v1;obtain ⟨b,off⟩:=b;have key:∀ (i':Info) (cc:Nat),ρ b=some i' → u1 = .slice (some ⟨i'.g,i'.base+off,none⟩) n cc→OpR P ρ h w a o (.p (some (b,off))) h:=fun i' cc hb e1=>by
  subst e1;refine OpR.val r (u:=.pointer (some ⟨_,_,none⟩)) ?_ (.p hb);simp only [execOp,ho,hu,Instr.arrayAt,Sem.run_bind,run_underlying ht w,Result.andThen_ok];rw [if_neg (by omega)];rfl
 cases v1 with
 | sk hb _=>exact key _ _ hb rfl
 | so hb _ _ _=>exact key _ _ hb rfl
end
end Go.V
end
section
namespace Go.V
section
variable {P:Program} {ρ:Ren} {h:Hp} {w:World} {env:Env} {a:Act}
theorem run_cell {x:Addr} {u:Value} (hc:w.cell? x=some u):(load x).run P w = .ok u w:=by simp [load,Sem.run,hc]
theorem zqc {g o:Nat} {us:List Value} (hr:w.rangeAt g o us):(loadCells ⟨g,o,none⟩ us.length).run P w = .ok us.toArray w :=
 run_loadCells_list (P:=P) w ⟨g,o,none⟩ us fun j v hv=>by rw [add_lit];exact hr j v hv
theorem ld_run {t:TypeId} {b o:Nat} {v:Val} (r:Rel ρ h w) (hv:ldV P h t (.p (some (b,o)))=some v) {i:Info} (hb:ρ b=some i):∃ u,(loadVar t ⟨i.g,i.base+o,none⟩).run P w = .ok u w∧VR ρ v u:=by
 unfold ldV at hv;simp only at hv;rw [Option.bind_eq_some_iff] at hv;obtain ⟨g,hg,hv⟩:=hv;cases g with
 | true =>
  simp only [cond_true] at hv;rw [Option.bind_eq_some_iff] at hv;obtain ⟨n,hn,hv⟩:=hv;obtain ⟨vs,hr,rfl⟩:=Option.map_eq_some_iff.1 hv;obtain ⟨_,us,h1,h2,h3⟩:=r.rd hb hr;refine ⟨_,?_,VR.agg h1.1 h1.2⟩;subst h2;simp only [loadVar,Sem.run_bind,zwv hg w,Result.andThen_ok,if_true,zgw hn w,zqc h3,Sem.run_pure]
 | false =>
  simp only [cond_false] at hv;rw [Option.bind_eq_some_iff] at hv;obtain ⟨vs,hr,hv⟩:=hv;obtain ⟨_,us,h1,h2,h3⟩:=r.rd hb hr;cases vs with
  | nil=>cases hv
  | cons x vs =>
   obtain rfl:=Option.some.inj hv;obtain ⟨u,a1,a2⟩:=h1.at (j:=0) rfl;refine ⟨u,?_,a2⟩;have:=h3 0 u a1;simp only [loadVar,Sem.run_bind,zwv hg w,Result.andThen_ok,Bool.false_eq_true,if_false];exact run_cell this
theorem sim_load {o:Oper} {t:TypeId} {x:Operand} {p v:Val} (ho:o.op = .load t x) (r:Rel ρ h w) (hE:EnvR ρ env a) (hx:evO env x=some p) (hv:ldV P h t p=some v):OpR P ρ h w a o v h:=by
 have v1:=zen hE hx;generalize hu:a.eval x=u1 at v1;cases v1 with
 | p hb =>
  obtain ⟨u,h1,h2⟩:=ld_run r hv hb;exact OpR.val r (u:=u) (by simp only [execOp,ho,hu,Instr.loadAt,Instr.sureAddr,Sem.run_bind,Sem.run_pure,Result.andThen_ok,h1]) h2
 | _=>simp [ldV] at hv
theorem sim_store {o:Oper} {t:TypeId} {x y:Operand} {p q:Val} {h':Hp} (ho:o.op = .store t x y) (r:Rel ρ h w) (hE:EnvR ρ env a) (hx:evO env x=some p) (hy:evO env y=some q) (hv:stV P h t p q=some h'):OpR P ρ h w a o .no h':=by
 have v1:=zen hE hx;have v2:=zen hE hy;generalize hu:a.eval x=u1 at v1;cases v1 with
 | p hb =>
  unfold stV at hv;simp only at hv;rw [Option.bind_eq_some_iff] at hv;obtain ⟨n,hn,hv⟩:=hv
  split at hv
  ·rename_i hl;obtain ⟨c1,c2,c3,c4,c5⟩:=r.wrH hb hv v2.cells;have hs:=run_storeCells_cells (P:=P) _ _ (a.eval y).cells.toList 0 w (by simpa using c1) (by simpa using c2) c3;refine ⟨ρ,_,_,undef,?_,.inr ⟨rfl,rfl⟩,VR.tup (vs:=[]) rfl (fun j u u' h=>by simp at h),c4,c5⟩;have hsz:(a.eval y).cells.size=n:=by have:=v2.cells.1;simp at this;omega
   simp only [Nat.add_zero] at hs;simp only [execOp,ho,hu,Instr.storeAt,Instr.sureAddr,storeVar,Sem.run_bind,Sem.run_pure,Result.andThen_ok,zgw hn w,hsz,ne_eq,not_true_eq_false,if_false,hs]
  ·cases hv
 | _=>simp [stV] at hv
theorem zfz (e:TypeId) (cs:Array Value) (w:World):(newRow e cs).run P w = .ok ⟨w.heap.size,0,none⟩ (w.alloc (.cells cs e)):=by
 rfl
theorem new_row (r:Rel ρ h w) {z:Nat} {c:List Val} {us:List Value} (e:TypeId) (h1:c.all Val.one=true) (hv:VRL ρ c us) :
  Rel (ρ.put h.next ⟨w.heap.size,0,z,c.length,us.length⟩) (h.new (.cells z c)) (w.alloc (.cells us.toArray e))∧Ext ρ h w (ρ.put h.next ⟨w.heap.size,0,z,c.length,us.length⟩) (h.new (.cells z c)) (w.alloc (.cells us.toArray e)) :=
 r.newCells (fz:=(0,0)) (by simp) (by simp) (fun _=>Nat.le_refl _) h1 (hv.one h1) (by rw [hv.1];exact Nat.le_refl _) (by rw [hv.1,List.take_length];exact hv)
theorem zju (b:Nat) (i:Info):(ρ.put b i) b=some i:=by simp [Ren.put]
theorem zvn {z:Nat} {c:List Val} {us:List Value} {v:Val} {h':Hp} (r:Rel ρ h w) (e:TypeId) (hv:zla h z c=some (v,h')) (hr:VRL ρ c us) :
  ∃ ρ' u,u = .pointer (some ⟨w.heap.size,0,none⟩)∧VR ρ' v u∧Rel ρ' h' (w.alloc (.cells us.toArray e))∧Ext ρ h w ρ' h' (w.alloc (.cells us.toArray e)):=by
 unfold zla at hv
 split at hv
 ·rename_i h1;simp only [Option.some.injEq,Prod.mk.injEq] at hv;obtain ⟨rfl,rfl⟩:=hv;obtain ⟨h2,h3⟩:=new_row r (z:=z) e h1 hr;exact ⟨_,_,rfl,VR.p (zju _ _),h2,h3⟩
 ·cases hv
theorem sim_alloc {o:Oper} {e:TypeId} {z v:Val} {h':Hp} (ho:o.op = .alloc e) (r:Rel ρ h w) (hz:zge P e=some z) (hv:zla h z.cells.length z.cells=some (v,h')):OpR P ρ h w a o v h':=by
 obtain ⟨i,u,h1,h2,h3⟩:=zfx hz;have hr:=(zsw (ρ:=ρ) h3).cells;obtain ⟨ρ',u',rfl,q1,q2,q3⟩:=zvn r e hv hr;refine ⟨ρ',_,_,_,?_,.inl rfl,q1,q2,q3⟩;simp only [execOp,ho,Instr.alloc,Sem.run_bind,zji h1 h2 w,Result.andThen_ok,newVar,zfz,Sem.run_pure,Array.toArray_toList]
theorem sim_box {o:Oper} {e:TypeId} {x:Operand} {z v:Val} {h':Hp} (ho:o.op = .box e x) (r:Rel ρ h w) (hE:EnvR ρ env a) (hz:evO env x=some z) (hv:zla h z.cells.length z.cells=some (v,h')):OpR P ρ h w a o v h':=by
 have hr:=(zen hE hz).cells;obtain ⟨ρ',u',rfl,q1,q2,q3⟩:=zvn r e hv hr;refine ⟨ρ',_,_,_,?_,.inl rfl,q1,q2,q3⟩;simp only [execOp,ho,Instr.box,Sem.run_bind,Result.andThen_ok,newVar,zfz,Sem.run_pure,Array.toArray_toList]
theorem putN_cons {α:Type} (L:List α) (o k:Nat) (x:α) (xs:List α) (h:o+k+(xs.length+1)≤L.length) :
  (L.set (o+k) x).take (o+(k+1))++xs++(L.set (o+k) x).drop (o+(k+1)+xs.length)=L.take (o+k)++(x::xs)++L.drop (o+k+(xs.length+1)):=by
 have e1:(L.set (o+k) x).take (o+(k+1))=L.take (o+k)++[x]:=by
  rw [← Nat.add_assoc,List.take_add_one,List.take_set_of_le (Nat.le_refl _),List.getElem?_set_self (by omega)];rfl
 have e2:(L.set (o+k) x).drop (o+(k+1)+xs.length)=L.drop (o+k+(xs.length+1)):=by
  rw [List.drop_set_of_lt (by omega)]
  congr 1;omega
 rw [e1,e2];simp
theorem foldl_put:∀ (xs:List Value) (o k:Nat) (cs:Array Value),o+k+xs.length≤cs.size→((xs.zipIdx k).foldl (fun cs (q:Value × Nat)=>cs.setIfInBounds (o+q.2) q.1) cs).toList=cs.toList.take (o+k)++xs++cs.toList.drop (o+k+xs.length):=by
 intro xs
 induction xs with
 | nil=>intro o k cs h;simp
 | cons x xs ih =>
  intro o k cs h;obtain ⟨L⟩:=cs;have hL:o+k+(xs.length+1)≤L.length:=h;simp only [List.zipIdx_cons,List.foldl_cons];rw [ih o (k+1) _ (by rw [Array.size_setIfInBounds];show o+(k+1)+xs.length≤L.length;omega)];rw [Array.toList_setIfInBounds];exact putN_cons L o k x xs hL
theorem VRL.putL {cs vs:List Val} {us xs:List Value} (h:VRL ρ cs us) (k:VRL ρ vs xs) (o:Nat):VRL ρ (putL cs o vs) (us.take o++xs++us.drop (o+xs.length)):=by
 unfold V.putL;rw [← k.1];exact ((h.take o).append k).append (h.drop _)
theorem zpy {pl:Nat→Option (Nat × Nat)}:∀ {ps:List (Nat × Val)} {qs:List (Nat × Value)} {cs cs':List Val} {us:List Value},zkr pl cs ps=some cs' → VRL ρ cs us→ps.length=qs.length→(∀ (j i:Nat) (v:Val) (i':Nat) (u:Value),ps[j]? = some (i,v)→qs[j]? = some (i',u)→i=i' ∧ VR ρ v u) →
  ∃ us',Instr.fill pl us.toArray qs=some us'.toArray∧VRL ρ cs' us'
 | [],[],cs,cs',us,hf,hr,_,_=>⟨us,rfl,by simp [zkr] at hf;subst hf;exact hr⟩
 | [],_::_,_,_,_,_,_,hl,_=>by simp at hl
 | _::_,[],_,_,_,_,_,hl,_=>by simp at hl
 | (i,v)::ps,(i',u)::qs,cs,cs',us,hf,hr,hl,hv=>by
  obtain ⟨rfl,h1⟩:=hv 0 i v i' u rfl rfl;simp only [zkr] at hf;rw [Option.bind_eq_some_iff] at hf;obtain ⟨⟨off,size⟩,hp,hf⟩:=hf
  split at hf
  ·rename_i hc;simp only at hc;have hc1:=h1.cells;have hk:u.cells.size=size:=by have:=hc1.1;simp at this;omega
   have hfit:off+0+u.cells.toList.length≤us.toArray.size:=by have:=hr.1;have:=hc1.1;simp at *;omega
   have hput:=foldl_put u.cells.toList off 0 us.toArray hfit;obtain ⟨us',e1,e2⟩:=zpy hf (hr.putL hc1 off) (by simpa using hl) (fun j i v i' u a b=>hv (j+1) i v i' u (by simpa using a) (by simpa using b));refine ⟨us',?_,e2⟩;rw [← e1];simp only [Instr.fill,hp];rw [if_neg (by simp;have:=hr.1;have:=hc1.1;simp at *;omega)]
   congr 1
   apply Array.ext';rw [← Array.foldl_toList,Array.toList_zipIdx];simpa using hput
  ·cases hf
theorem evP_VR (hE:EnvR ρ env a):∀ {l:List (Nat × Operand)} {ps:List (Nat × Val)},evP env l=some ps→ps.length=(l.map fun (i,x)=>(i,a.eval x)).length∧(∀ (j i:Nat) (v:Val) (i':Nat) (u:Value),ps[j]? = some (i,v)→(l.map fun (i,x)=>(i,a.eval x))[j]? = some (i',u)→i=i' ∧ VR ρ v u):=by
 intro l
 induction l with
 | nil=>intro ps h;simp [evP] at h;subst h;exact ⟨rfl,fun j i v i' u h=>by simp at h⟩
 | cons x l ih =>
  intro ps h;simp only [evP,List.mapM_cons,Option.bind_eq_bind,Option.pure_def,Option.bind_eq_some_iff,Option.some.injEq] at h;obtain ⟨v,h1,us,h2,rfl⟩:=h;obtain ⟨y,h3,rfl⟩:=Option.map_eq_some_iff.1 h1;obtain ⟨g1,g2⟩:=ih h2;refine ⟨by simp at g1 ⊢;exact g1,fun j i v i' u p q=>?_⟩;cases j with
  | zero=>simp at p q;obtain ⟨rfl,rfl⟩:=p;obtain ⟨rfl,rfl⟩:=q;exact ⟨rfl,zen hE h3⟩
  | succ j=>exact g2 j i v i' u (by simpa using p) (by simpa using q)
end
end Go.V
end
section
namespace Go.V
section
variable {P:Program} {ρ:Ren} {h:Hp} {w:World} {env:Env} {a:Act}
theorem run_mapM {α β:Type} {f:α→Sem β} {g:α→Option β} (w:World) (hf:∀ x y,g x=some y→(f x).run P w = .ok y w):∀ {l:List α} {r:List β},l.mapM g=some r→(l.mapM f).run P w = .ok r w:=by
 intro l
 induction l with
 | nil=>intro r h;simp at h;subst h;simp
 | cons x l ih =>
  intro r h;simp only [List.mapM_cons,Option.bind_eq_bind,Option.pure_def,Option.bind_eq_some_iff,Option.some.injEq] at h;obtain ⟨y,h1,ys,h2,rfl⟩:=h;simp only [List.mapM_cons,Sem.run_bind,hf x y h1,Result.andThen_ok,ih h2,Sem.run_pure]
theorem sim_build {o:Oper} {t:TypeId} {ps:Array (Nat × Operand)} {qs:List (Nat × Val)} {v:Val} (ho:o.op = .build t ps) (r:Rel ρ h w) (hE:EnvR ρ env a) (hp:evP env ps.toList=some qs) (hv:zwg P t qs=some v):OpR P ρ h w a o v h:=by
 obtain ⟨g1,g2⟩:=evP_VR hE hp;unfold zwg at hv;rw [Option.bind_eq_some_iff] at hv;obtain ⟨z,hz,hv⟩:=hv;obtain ⟨i,zu,i1,i2,i3⟩:=zfx hz;have hzr:=(zsw (ρ:=ρ) i3).cells;have hparts:(ps.map fun (i,x)=>(i,a.eval x)).toList=ps.toList.map fun (i,x)=>(i,a.eval x):=by simp
 have hrun:∀ {u:Value},(Instr.build t (ps.map fun (i,x)=>(i,a.eval x))).run P w = .ok u w→(execOp a.eval o).run P w = .ok (.value u) w:=fun h2=>by
  simp only [execOp,ho,Sem.run_bind,h2,Result.andThen_ok,Sem.run_pure]
 split at hv
 ·rename_i fs hst;rw [Option.bind_eq_some_iff] at hv;obtain ⟨pl,hpl,hv⟩:=hv;obtain ⟨cs,hf,rfl⟩:=Option.map_eq_some_iff.1 hv;obtain ⟨us,e1,e2⟩:=zpy hf hzr g1 g2;refine OpR.val r (hrun (u:=.agg us.toArray) ?_) (.agg e2.1 e2.2);have hm:=run_mapM (P:=P) (f:=fun f:Field=>(do pure (f.offset,← sizeOf f.type):Sem (Nat × Nat))) (g:=fun f=>(sz P f.type).map fun n=>(f.offset,n)) w (fun x y hx=>by
   obtain ⟨n,h1,rfl⟩:=Option.map_eq_some_iff.1 hx;simp [zgw h1]) hpl
  have hm2:(fs.mapM fun f=>(do pure (f.offset,← sizeOf f.type):Sem (Nat × Nat))).run P w = .ok pl.toArray w:=by
   rw [← Array.toArray_toList (xs:=fs),List.mapM_toArray,Sem.run_map,hm];rfl
  simp only [Instr.build,Sem.run_bind,zji i1 i2 w,Result.andThen_ok,run_underlying hst w,hm2,hparts];have e3:Instr.fill (fun x=>pl.toArray[x]?) zu.cells (ps.toList.map fun (i,x)=>(i,a.eval x))=some us.toArray:=by simpa using e1
  rw [e3];rfl
 ·rename_i n e hst;rw [Option.bind_eq_some_iff] at hv;obtain ⟨sz',hs,hv⟩:=hv;obtain ⟨cs,hf,rfl⟩:=Option.map_eq_some_iff.1 hv;obtain ⟨us,e1,e2⟩:=zpy hf hzr g1 g2;refine OpR.val r (hrun (u:=.agg us.toArray) ?_) (.agg e2.1 e2.2);simp only [Instr.build,Sem.run_bind,zji i1 i2 w,Result.andThen_ok,run_underlying hst w,zgw hs w,hparts];have e3:Instr.fill (fun i=>some (i*sz',sz')) zu.cells (ps.toList.map fun (i,x)=>(i,a.eval x))=some us.toArray:=by simpa using e1
  rw [e3];rfl
 ·cases hv
theorem zps (z:List Val) (n:Nat):(zeu z n).length=n*z.length:=by simp [zeu]
theorem zerosV_get (z:List Val):∀ (n j:Nat),j < n*z.length→(zeu z n)[j]? = z[j % z.length]?:=by
 intro n
 induction n with
 | zero=>intro j h;omega
 | succ n ih =>
  intro j h;unfold zeu at ih ⊢;rw [List.replicate_succ,List.flatten_cons]
  by_cases hj:j < z.length
  ·rw [List.getElem?_append_left hj,Nat.mod_eq_of_lt hj]
  ·rw [List.getElem?_append_right (by omega),ih _ (by rw [Nat.succ_mul] at h;omega)]
   congr 1
   exact (Nat.mod_eq_sub_mod (by omega)).symm
theorem zln {z:List Val} {zu:Array Value} (hr:VRL ρ z zu.toList) (hz:0 < z.length) (n:Nat):VRL ρ (zeu z n) ((Array.range (n*zu.size)).map fun i=>zu[i % zu.size]!).toList:=by
 have hl:z.length=zu.size:=by simpa using hr.1
 refine ⟨by rw [zps];simp [hl],fun j u u' h1 h2=>?_⟩;have hj:=(List.getElem?_eq_some_iff.1 h1).1;rw [zps] at hj;rw [zerosV_get z n j hj] at h1;have hm:j % zu.size < zu.size:=Nat.mod_lt _ (by omega);refine hr.2 (j % z.length) u u' h1 ?_;rw [hl] at hj ⊢;have h3:(Array.range (n*zu.size))[j]? = some j:=by simp [hj]
 have h4:some (zu[j % zu.size]!)=some u':=by
  rw [← h2];simp [hj]
 rw [← h4,getElem!_pos zu _ hm];simp [hm]
theorem sim_row {z len:Nat} {cap:Option Nat} {c:List Val} {us:List Value} {v:Val} {h':Hp} (r:Rel ρ h w) (e:TypeId) (hv:rowV h z c len cap=some (v,h')) (hr:VRL ρ c us) (k:Nat) (hk:cap=some k∧len≤k) :
  ∃ ρ' u,u = .slice (some ⟨w.heap.size,0,none⟩) len k∧VR ρ' v u∧Rel ρ' h' (w.alloc (.cells us.toArray e))∧Ext ρ h w ρ' h' (w.alloc (.cells us.toArray e)):=by
 unfold rowV at hv
 split at hv
 ·rename_i h1;simp only [Option.some.injEq,Prod.mk.injEq] at hv;obtain ⟨rfl,rfl⟩:=hv;obtain ⟨h2,h3⟩:=new_row r (z:=z) e h1 hr;obtain ⟨rfl,hk⟩:=hk;exact ⟨_,_,rfl,VR.sk (zju _ _) hk,h2,h3⟩
 ·cases hv
theorem zvf {o:Oper} {t:TypeId} {n:Nat} {ps:Array (Nat × Operand)} {qs:List (Nat × Val)} {v:Val} {h':Hp} (ho:o.op = .buildSlice t n ps) (r:Rel ρ h w) (hE:EnvR ρ env a) (hp:evP env ps.toList=some qs) (hv:zhg P h t n qs=some (v,h')) :
  OpR P ρ h w a o v h':=by
 obtain ⟨g1,g2⟩:=evP_VR hE hp;unfold zhg at hv
 split at hv
 ·rename_i e hst;rw [Option.bind_eq_some_iff] at hv;obtain ⟨z,hs,hv⟩:=hv;rw [Option.bind_eq_some_iff] at hv;obtain ⟨zv,hz,hv⟩:=hv
  split at hv
  ·rename_i hc;obtain ⟨c1,c2,c3⟩:=hc;rw [Option.bind_eq_some_iff] at hv;obtain ⟨cs,hf,hv⟩:=hv;obtain ⟨i,zu,i1,i2,i3⟩:=zfx hz;have hzr:=(zsw (ρ:=ρ) i3).cells;have hzs:zu.cells.size=z:=by have:=hzr.1;simp at this;omega
   have hzz:=zln hzr (by omega) n;rw [hzs] at hzz;obtain ⟨us,e1,e2⟩:=zpy hf hzz g1 g2;obtain ⟨ρ',u,rfl,q1,q2,q3⟩:=sim_row r e hv e2 n ⟨rfl,Nat.le_refl _⟩;refine ⟨ρ',_,_,_,?_,.inl rfl,q1,q2,q3⟩;have hparts:(ps.map fun (i,x)=>(i,a.eval x)).toList=ps.toList.map fun (i,x)=>(i,a.eval x):=by simp
   have e3:∀ zero:Array Value,(n*z≠0→zero=zu.cells)→Instr.fill (fun i=>some (i*z,z)) ((Array.range (n*z)).map fun x=>zero[x % zero.size]!) (ps.toList.map fun (i,x)=>(i,a.eval x))=some us.toArray:=fun zero h0=>by
    rw [← e1]
    congr 1
    by_cases hn:n*z=0
    ·rw [hn];apply Array.ext';simp
    ·rw [h0 hn,hzs,Array.toArray_toList]
   simp only [execOp,ho,Instr.buildSlice,Sem.run_bind,run_underlying hst w,Result.andThen_ok,zgw hs w];rw [if_neg (by omega)]
   by_cases h0:n*z=0
   ·rw [if_pos h0];simp only [Sem.run_bind,Sem.run_pure,Result.andThen_ok,hparts,e3 #[] (fun q=>absurd h0 q),zfz]
   ·rw [if_neg h0];simp only [Sem.run_bind,Sem.run_pure,Result.andThen_ok,hparts,zji i1 i2 w,e3 zu.cells (fun _=>rfl),zfz]
  ·cases hv
 ·cases hv
theorem zne {n:Nat} (hn:n≤2 ^ 40):IntKind.i64.wrap (n:Int)=n:=by
 have h1:((n:Int) % (2 ^ 64:Int))=n:=Int.emod_eq_of_lt (by omega) (by omega);show (if (true&&decide ((n:Int) % (2 ^ 64:Int) ≥ (2 ^ 63:Int)))=true then (n:Int) % (2 ^ 64:Int) - (2 ^ 64:Int) else (n:Int) % (2 ^ 64:Int))=n;rw [h1,if_neg];simp only [Bool.true_and,decide_eq_true_eq];omega
theorem zwq {o:Oper} {t:TypeId} {x y:Operand} {p q v:Val} {h':Hp} (ho:o.op = .makeSlice t x y) (r:Rel ρ h w) (hE:EnvR ρ env a) (hx:evO env x=some p) (hy:evO env y=some q) (hv:zkd P h t p q=some (v,h')):OpR P ρ h w a o v h':=by
 have v1:=zen hE hx;have v2:=zen hE hy;unfold zkd at hv
 split at hv
 ·rename_i e hst;rw [Option.bind_eq_some_iff] at hv;obtain ⟨z,hs,hv⟩:=hv;rw [Option.bind_eq_some_iff] at hv;obtain ⟨zv,hz,hv⟩:=hv;rw [Option.bind_eq_some_iff] at hv;obtain ⟨l,hl,hv⟩:=hv;rw [Option.bind_eq_some_iff] at hv;obtain ⟨c,hc,hv⟩:=hv;rw [Option.bind_eq_some_iff] at hv;obtain ⟨inf,hi,hv⟩:=hv;obtain ⟨k1,rfl,l1⟩:=znp hl;obtain ⟨k2,rfl,l2⟩:=znp hc;generalize hu1:a.eval x=u1 at v1;generalize hu2:a.eval y=u2 at v2;cases v1;cases v2
  split at hv
  ·rename_i hcc;obtain ⟨c1,c2,c3,c4⟩:=hcc;obtain ⟨i,zu,i1,i2,i3⟩:=zfx hz;have hii:i=inf:=by rw [i1] at hi;exact Option.some.inj hi
   subst hii;have hzr:=(zsw (ρ:=ρ) i3).cells;have hzs:zu.cells.size=z:=by have:=hzr.1;simp at this;omega
   have hzz:=zln hzr (by omega) c;rw [hzs] at hzz;obtain ⟨ρ',u,rfl,q1,q2,q3⟩:=sim_row r e hv hzz c ⟨rfl,c1⟩;refine ⟨ρ',_,_,_,?_,.inl rfl,q1,q2,q3⟩;have hroom:∀ b,(askRoom b).run P w = .ok () w:=fun b=>by
    unfold askRoom;split <;> rfl
   have t1:¬ (((c:Int) < 0||(i.bytes:Int)*c > 2 ^ 48)||(l:Int) < 0||(l:Int) > c)=true:=by
    have:((i.bytes:Int)*c)=((i.bytes*c:Nat):Int):=by simp
    simp only [Bool.or_eq_true,decide_eq_true_eq,this];omega
   simp only [execOp,ho,hu1,hu2,Instr.makeSlice,asInt,asIntOf,Sem.run_bind,run_underlying hst w,Result.andThen_ok,Sem.run_pure,typeInfo,run_program,hi,zne l1,zne l2];rw [if_neg t1];have e3:∀ zero:Array Value,(c*z≠0→zero=zu.cells)→((Array.range (c*z)).map fun x=>zero[x % zero.size]!)=(((Array.range (c*z)).map fun i=>zu.cells[i % z]!).toList).toArray:=fun zero h0=>by
    rw [Array.toArray_toList]
    by_cases hn:c*z=0
    ·rw [hn];apply Array.ext';simp
    ·rw [h0 hn,hzs]
   simp only [Sem.run_bind,Sem.run_pure,Result.andThen_ok,hroom,zgw hs w,Int.toNat_natCast]
   by_cases h0:c*z=0
   ·rw [if_pos h0];simp only [Sem.run_bind,Sem.run_pure,Result.andThen_ok,e3 #[] (fun q=>absurd h0 q),zfz]
   ·rw [if_neg h0];simp only [Sem.run_bind,Sem.run_pure,Result.andThen_ok,zji i1 i2 w,e3 zu.cells (fun _=>rfl),zfz]
  ·cases hv
 ·cases hv
end
end Go.V
end
section
namespace Go.V
section
variable {P:Program} {ρ:Ren} {h:Hp} {w:World} {env:Env} {a:Act}
def OptR (ρ:Ren):Option Val→Option Value→Prop
 | none,none=>True
 | some v,some u=>VR ρ v u
 | _,_=>False
theorem evQ_VR (hE:EnvR ρ env a) {x:Option Operand} {v:Option Val} (hx:evQ env x=some v):OptR ρ v (x.map a.eval):=by
 cases x with
 | none=>obtain rfl:=Option.some.inj hx;trivial
 | some x=>obtain ⟨u,h1,rfl⟩:=Option.map_eq_some_iff.1 hx;exact zen hE h1
theorem zng {v:Val} {u:Value} {n y:Nat} (hv:natI v=some n) (hr:VR ρ v u) (hy:n≤y) (c:BoundsCode) (w:World):(Instr.sliceBound u y c).run P w = .ok n w:=by
 obtain ⟨k,rfl⟩:=zuc hv;cases hr;simp only [Instr.sliceBound,asIntOf,Sem.run_bind,Sem.run_pure,Result.andThen_ok];rw [if_pos ⟨by omega,by omega⟩];simp
theorem zri {len cap cap' l hh m:Nat} {lo hi mx:Option Val} {lo' hi' mx':Option Value} (hb:bndV len cap lo hi mx=some (l,hh,m)) (hc:cap≤cap') (r1:OptR ρ lo lo') (r2:OptR ρ hi hi') (r3:OptR ρ mx mx') (isS:Bool) (w:World) :
  (Instr.sliceBounds isS len cap' lo' hi' mx').run P w = .ok (l,hh,if mx.isSome then m else cap') w:=by
 unfold bndV at hb;rw [Option.bind_eq_some_iff] at hb;obtain ⟨m0,h1,hb⟩:=hb;rw [Option.bind_eq_some_iff] at hb;obtain ⟨h0,h2,hb⟩:=hb;rw [Option.bind_eq_some_iff] at hb;obtain ⟨l0,h3,hb⟩:=hb
 split at hb
 ·rename_i hle;simp only [Option.some.injEq,Prod.mk.injEq] at hb;obtain ⟨rfl,rfl,rfl⟩:=hb;obtain ⟨c1,c2,c3,c4⟩:=hle;cases mx with
  | none =>
   cases mx' with
   | some u=>exact r3.elim
   | none =>
    obtain rfl:=Option.some.inj h1;have hl:∀ (code:BoundsCode),(match lo' with | some v=>Instr.sliceBound v h0 code | none=>(pure 0:Sem Nat)).run P w = .ok l0 w:=fun code=>by
     cases lo with
     | none=>cases lo' with
      | some u=>exact r1.elim
      | none=>obtain rfl:=Option.some.inj h3;rfl
     | some v=>cases lo' with
      | none=>exact r1.elim
      | some u=>exact zng h3 r1 c3 code w
    cases hi with
    | none=>cases hi' with
     | some u=>exact r2.elim
     | none =>
      obtain rfl:=Option.some.inj h2;simp only [Instr.sliceBounds,Sem.run_bind,Sem.run_pure,Result.andThen_ok];have:=hl (if (none:Option Value).isSome then BoundsCode.slice3C else .sliceB);cases lo' <;> simp only [Sem.run_bind,Sem.run_pure,Result.andThen_ok] at this ⊢ <;> first | (rw [this];rfl) | (injection this with e _;subst e;rfl)
    | some v=>cases hi' with
     | none=>exact r2.elim
     | some u =>
      have hh:=zng (P:=P) h2 r2 (y:=cap') (by omega) (if isS then BoundsCode.sliceAcap else .sliceAlen) w;simp only [Instr.sliceBounds,Sem.run_bind,Sem.run_pure,Result.andThen_ok,hh];have:=hl (if (none:Option Value).isSome then BoundsCode.slice3C else .sliceB);cases lo' <;> simp only [Sem.run_bind,Sem.run_pure,Result.andThen_ok] at this ⊢ <;> first | (rw [this];rfl) | (injection this with e _;subst e;rfl)
  | some mv =>
   cases mx' with
   | none=>exact r3.elim
   | some mu =>
    have hm:=zng (P:=P) h1 r3 (y:=cap') (by omega) (if isS then BoundsCode.slice3Acap else .slice3Alen) w;cases hi with
    | none=>exact absurd (c4 rfl) (by simp)
    | some v=>cases hi' with
     | none=>exact r2.elim
     | some u =>
      have hh:=zng (P:=P) h2 r2 (y:=m0) c2 BoundsCode.slice3B w;have hl:∀ (code:BoundsCode),(match lo' with | some v=>Instr.sliceBound v h0 code | none=>(pure 0:Sem Nat)).run P w = .ok l0 w:=fun code=>by
       cases lo with
       | none=>cases lo' with
        | some u=>exact r1.elim
        | none=>obtain rfl:=Option.some.inj h3;rfl
       | some v=>cases lo' with
        | none=>exact r1.elim
        | some u=>exact zng h3 r1 c3 code w
      simp only [Instr.sliceBounds,Sem.run_bind,Sem.run_pure,Result.andThen_ok,hm,hh];have:=hl (if (some mu).isSome then BoundsCode.slice3C else .sliceB);cases lo' <;> simp only [Sem.run_bind,Sem.run_pure,Result.andThen_ok] at this ⊢ <;> first | (rw [this];rfl) | (injection this with e _;subst e;rfl)
 ·cases hb
theorem ba_cut (s:List UInt8) (l hh:Nat):(⟨s.toArray⟩:ByteArray).extract l hh=⟨((s.drop l).take (hh - l)).toArray⟩:=by
 apply ByteArray.ext;simp
theorem bnd_le {len cap l hh m:Nat} {lo hi mx:Option Val} (hb:bndV len cap lo hi mx=some (l,hh,m)):m≤cap∧hh≤m∧l≤hh:=by
 unfold bndV at hb;rw [Option.bind_eq_some_iff] at hb;obtain ⟨m0,h1,hb⟩:=hb;rw [Option.bind_eq_some_iff] at hb;obtain ⟨h0,h2,hb⟩:=hb;rw [Option.bind_eq_some_iff] at hb;obtain ⟨l0,h3,hb⟩:=hb
 split at hb
 ·rename_i hle;simp only [Option.some.injEq,Prod.mk.injEq] at hb;obtain ⟨rfl,rfl,rfl⟩:=hb;exact ⟨hle.1,hle.2.1,hle.2.2.1⟩
 ·cases hb
theorem bnd_mx {len cap l hh m:Nat} {lo hi:Option Val} (hb:bndV len cap lo hi none=some (l,hh,m)):m=cap:=by
 unfold bndV at hb;rw [Option.bind_eq_some_iff] at hb;obtain ⟨m0,h1,hb⟩:=hb;rw [Option.bind_eq_some_iff] at hb;obtain ⟨h0,h2,hb⟩:=hb;rw [Option.bind_eq_some_iff] at hb;obtain ⟨l0,h3,hb⟩:=hb
 split at hb
 ·simp only [Option.some.injEq,Prod.mk.injEq] at hb;obtain ⟨rfl,rfl,rfl⟩:=hb;exact (Option.some.inj h1).symm
 ·cases hb
theorem sim_slice {o:Oper} {t:TypeId} {x:Operand} {lo hi mx:Option Operand} {p v:Val} {lv hv' mv:Option Val} (ho:o.op = .slice t x lo hi mx) (r:Rel ρ h w) (hE:EnvR ρ env a) (hx:evO env x=some p) (hl:evQ env lo=some lv) (hh:evQ env hi=some hv') (hm:evQ env mx=some mv)
  (hv:zhn P t p lv hv' mv=some v):OpR P ρ h w a o v h:=by
 have v1:=zen hE hx;have r1:=evQ_VR hE hl;have r2:=evQ_VR hE hh;have r3:=evQ_VR hE hm;generalize hu1:a.eval x=u1 at v1;have hrun:∀ {u:Value},(Instr.sliceAt t u1 (lo.map a.eval) (hi.map a.eval) (mx.map a.eval)).run P w = .ok u w→(execOp a.eval o).run P w = .ok (.value u) w:=fun h2=>by
  simp only [execOp,ho,hu1,Sem.run_bind,Result.andThen_ok,h2,Sem.run_pure]
 generalize lo.map a.eval=lu at r1 hrun;generalize hi.map a.eval=hu at r2 hrun;generalize mx.map a.eval=mu at r3 hrun;unfold zhn at hv
 split at hv
 ·rename_i s hst
  split at hv
  ·cases hv
  ·rename_i hmx;cases mv with
   | some _=>simp at hmx
   | none =>
    cases mu with
    | some _=>exact r3.elim
    | none =>
     obtain ⟨⟨l,hh,m⟩,hb,rfl⟩:=Option.map_eq_some_iff.1 hv;cases v1;have hs:(⟨s.toArray⟩:ByteArray).size=s.length:=by simp [ByteArray.size]
     have:=zri (P:=P) hb (Nat.le_refl _) r1 r2 r3 false w;refine OpR.val r (hrun (u:=.string ((⟨s.toArray⟩:ByteArray).extract l hh)) ?_) (by rw [ba_cut];exact VR.s _);simp only [Instr.sliceAt,zee,Instr.slice,Sem.run_bind,run_underlying hst w,Result.andThen_ok,Option.isSome_none,Bool.false_eq_true,if_false,hs,this,Sem.run_pure]
 ·rename_i e ao len k hst;rw [Option.bind_eq_some_iff] at hv;obtain ⟨z,hz,hv⟩:=hv;obtain ⟨⟨l,hh,m⟩,hb,rfl⟩:=Option.map_eq_some_iff.1 hv;have hbb:=zri (P:=P) hb (Nat.le_refl _) r1 r2 r3 true w;have hle:=bnd_le hb;have hm':(if mv.isSome then m else k)=m:=by
   cases mv with
   | some _=>rfl
   | none=>exact (bnd_mx hb).symm
  rw [hm'] at hbb;cases v1 with
  | sn =>
   have e1:l=0∧hh=0∧m=0:=by omega
   obtain ⟨rfl,rfl,rfl⟩:=e1;refine OpR.val r (hrun (u:=.slice none 0 0) ?_) .sn;simp only [Instr.sliceAt,Instr.slice,Sem.run_bind,run_underlying hst w,Result.andThen_ok,hbb,zgw hz w,Sem.run_pure];rfl
  | sk hb' hlk =>
   rename_i b off i';refine OpR.val r (hrun (u:=.slice (if m=l then some ⟨i'.g,i'.base+off,none⟩ else (some (⟨i'.g,i'.base+off,none⟩:Addr)).map (·.add (l*z))) (hh - l) (m - l)) ?_) ?_
   ·simp only [Instr.sliceAt,Instr.slice,Sem.run_bind,run_underlying hst w,Result.andThen_ok,hbb,zgw hz w,Sem.run_pure]
   ·by_cases hml:m=l
    ·simp only [hml,if_true];exact VR.sk hb' (by omega)
    ·simp only [hml,if_false,Option.map_some,add_lit,Nat.add_assoc];exact VR.sk hb' (by omega)
 ·rename_i e b off len zs hst;rw [Option.bind_eq_some_iff] at hv;obtain ⟨z,hz,hv⟩:=hv;obtain ⟨⟨l,hh,m⟩,hb,rfl⟩:=Option.map_eq_some_iff.1 hv
  split at hb
  case isFalse=>cases hb
  rename_i hst2;have hle:=bnd_le hb;cases v1 with
  | so hb' hlk q1 q2 =>
   rename_i c i';subst hst2;have hbb:=zri (P:=P) hb hlk r1 r2 r3 true w;have hrun2:OpR P ρ h w a o (if mv.isSome then .sl (some (if m=l then (b,off) else (b,off+l*i'.z))) (hh - l) (.k (m - l)) else if l < len then .sl (some (b,off+l*i'.z)) (hh - l) (.op i'.z) else .es) h:=by
    refine OpR.val r (hrun (u:=.slice (if (if mv.isSome then m else c)=l then some ⟨i'.g,i'.base+off,none⟩ else (some (⟨i'.g,i'.base+off,none⟩:Addr)).map (·.add (l*i'.z))) (hh - l) ((if mv.isSome then m else c) - l)) ?_) ?_
    ·simp only [Instr.sliceAt,Instr.slice,Sem.run_bind,run_underlying hst w,Result.andThen_ok,hbb,zgw hz w,Sem.run_pure]
    ·cases hmv:mv.isSome
     ·simp only [Bool.false_eq_true,if_false]
      by_cases hl:l < len
      ·rw [if_pos hl,if_neg (by omega)];simp only [Option.map_some,add_lit,Nat.add_assoc];have e2:l*i'.z+(c - l)*i'.z=c*i'.z:=by rw [← Nat.add_mul];congr 1;omega
       refine VR.so hb' (by omega) ?_ ?_
       ·rw [Nat.add_assoc,e2];exact q1
       ·rw [show i'.base+(off+l*i'.z)+(c - l)*i'.z=i'.base+off+(l*i'.z+(c - l)*i'.z) by omega,e2];exact q2
      ·rw [if_neg hl];have e1:hh - l=0:=by omega
       rw [e1]
       split
       ·exact VR.es
       ·exact VR.es
     ·simp only [if_true]
      by_cases hml:m=l
      ·simp only [hml,if_true];exact VR.sk hb' (by omega)
      ·simp only [hml,if_false,Option.map_some,add_lit,Nat.add_assoc];exact VR.sk hb' (by omega)
   exact hrun2
 ·rename_i e hst;rw [Option.bind_eq_some_iff] at hv;obtain ⟨z,hz,hv⟩:=hv;obtain ⟨⟨l,hh,m⟩,hb,rfl⟩:=Option.map_eq_some_iff.1 hv;have hle:=bnd_le hb;cases v1 with
  | es =>
   rename_i ad c;have hbb:=zri (P:=P) hb (Nat.zero_le c) r1 r2 r3 true w;have e1:l=0∧hh=0∧m=0:=by omega
   obtain ⟨rfl,rfl,rfl⟩:=e1;refine OpR.val r (hrun (u:=.slice (if (if mv.isSome then 0 else c)=0 then some ad else (some ad).map (·.add (0*z))) 0 ((if mv.isSome then 0 else c) - 0)) ?_) ?_
   ·simp only [Instr.sliceAt,Instr.slice,Sem.run_bind,run_underlying hst w,Result.andThen_ok,hbb,zgw hz w,Sem.run_pure,Nat.sub_zero]
   ·generalize (if mv.isSome then 0 else c)=q
    by_cases hq:q=0
    ·rw [if_pos hq];exact VR.es
    ·rw [if_neg hq];exact VR.es
 ·rename_i n e b off hst;rw [Option.bind_eq_some_iff] at hv;obtain ⟨z,hz,hv⟩:=hv;obtain ⟨⟨l,hh,m⟩,hb,rfl⟩:=Option.map_eq_some_iff.1 hv;have hbb:=zri (P:=P) hb (Nat.le_refl _) r1 r2 r3 false w;have hle:=bnd_le hb;have hm':(if mv.isSome then m else n)=m:=by
   cases mv with
   | some _=>rfl
   | none=>exact (bnd_mx hb).symm
  rw [hm'] at hbb;cases v1 with
  | p hb' =>
   rename_i i';refine OpR.val r (hrun (u:=.slice (some (if m=l then ⟨i'.g,i'.base+off,none⟩ else (⟨i'.g,i'.base+off,none⟩:Addr).add (l*z))) (hh - l) (m - l)) ?_) ?_
   ·simp only [Instr.sliceAt,Instr.sureAddr,Sem.run_bind,run_underlying hst w,Result.andThen_ok,hbb,zgw hz w,Sem.run_pure]
   ·by_cases hml:m=l
    ·simp only [hml,if_true];exact VR.sk hb' (by omega)
    ·simp only [hml,if_false,add_lit,Nat.add_assoc];exact VR.sk hb' (by omega)
 ·rename_i arr b off hst
  split at hv
  ·rename_i n e hst2;rw [Option.bind_eq_some_iff] at hv;obtain ⟨z,hz,hv⟩:=hv;obtain ⟨⟨l,hh,m⟩,hb,rfl⟩:=Option.map_eq_some_iff.1 hv;have hbb:=zri (P:=P) hb (Nat.le_refl _) r1 r2 r3 false w;have hle:=bnd_le hb;have hm':(if mv.isSome then m else n)=m:=by
    cases mv with
    | some _=>rfl
    | none=>exact (bnd_mx hb).symm
   rw [hm'] at hbb;cases v1 with
   | p hb' =>
    rename_i i';refine OpR.val r (hrun (u:=.slice (some (if m=l then ⟨i'.g,i'.base+off,none⟩ else (⟨i'.g,i'.base+off,none⟩:Addr).add (l*z))) (hh - l) (m - l)) ?_) ?_
    ·simp only [Instr.sliceAt,Instr.slice,asAddr,Sem.run_bind,run_underlying hst w,run_underlying hst2 w,Result.andThen_ok,hbb,zgw hz w,Sem.run_pure]
    ·by_cases hml:m=l
     ·simp only [hml,if_true];exact VR.sk hb' (by omega)
     ·simp only [hml,if_false,add_lit,Nat.add_assoc];exact VR.sk hb' (by omega)
  ·cases hv
 ·cases hv
end
end Go.V
end
section
namespace Go.V
section
variable {P:Program} {ρ:Ren} {h:Hp} {w:World} {env:Env} {a:Act}
theorem has_kill {p:Blk→Bool} (hp:p .dead=false) {b k:Nat}:has p (h.set b .dead) k→has p h k:=fun ⟨B,q1,q2⟩=>by
 rw [Hp.get_set] at q1
 split at q1
 ·obtain rfl:=Option.some.inj q1;rw [hp] at q2;cases q2
 ·exact ⟨B,q1,q2⟩
theorem Rel.kill (r:Rel ρ h w) {b:Nat} {i:Info} (hb:ρ b=some i):Rel ρ (h.set b .dead) w∧Ext ρ h w ρ (h.set b .dead) w:=by
 refine ⟨⟨r.dom,fun b' i' B' e f=>?_,fun b1 b2 i1 i2 e1 e2 l1 l2=>?_,fun k hk=>by
   have hbn:=(r.dom b i hb).1;have hk':h.next≤k:=hk;rw [Hp.get_set,if_neg (by omega)];exact r.wf k hk'⟩,Ren.le.refl _,Nat.le_refl _,fun b' hb' hl=>⟨hb',?_⟩,Nat.le_refl _,fun g _ hg=>⟨rfl,fun b' i' e q=>hg b' i' e (has_kill rfl q)⟩,rfl,rfl,rfl,Nat.le_refl _⟩
 ·rw [Hp.get_set] at f
  split at f
  ·obtain rfl:=Option.some.inj f;trivial
  ·exact r.blk b' i' B' e f
 ·have lv:∀ (p:Blk→Bool),p .dead=false → ∀ k,has p (h.set b .dead) k→has p h k:=fun p hp k ⟨B,q1,q2⟩=>by
   rw [Hp.get_set] at q1
   split at q1
   ·obtain rfl:=Option.some.inj q1;rw [hp] at q2;cases q2
   ·exact ⟨B,q1,q2⟩
  exact r.inj b1 b2 i1 i2 e1 e2 (lv _ rfl _ l1) (lv _ rfl _ l2)
 ·rw [Hp.get_set,if_neg (fun e=>by rw [e,hb] at hb';cases hb')]
theorem Rel.newIn (r:Rel ρ h w) {b p z n N base:Nat} {i:Info} {c:List Val} {us:List Value} {z0:Nat} {d:List Val} (hb:ρ b=some i) (hlive:h.get b=some (.cells z0 d)) (h1:c.all Val.one=true)
  (hN:base+c.length≤N) (hus:∀ u∈us,u.oneCell' = true) (hfz:Fz z w i.g) (hc:∀ o,o < N→((w.setCells i.g p us).cell? ⟨i.g,o,none⟩).isSome=true∧(w.setCells i.g p us).frozen? ⟨i.g,o,none⟩=false)
  (hv:∀ j u,c[j]? = some u → ∃ u',(w.setCells i.g p us).cell? ⟨i.g,base+j,none⟩=some u' ∧ VR ρ u u') :
  Rel (ρ.put h.next ⟨i.g,base,z,c.length,N⟩) ((h.set b .dead).new (.cells z c)) (w.setCells i.g p us)∧Ext ρ h w (ρ.put h.next ⟨i.g,base,z,c.length,N⟩) ((h.set b .dead).new (.cells z c)) (w.setCells i.g p us):=by
 have hfree:=r.free;have hle:=Ren.le_put (ρ:=ρ) (b:=h.next) ⟨i.g,base,z,c.length,N⟩ hfree;have hput:∀ b' i',(ρ.put h.next ⟨i.g,base,z,c.length,N⟩) b' = some i' → (b' = h.next∧i' = ⟨i.g,base,z,c.length,N⟩)∨(b' ≠ h.next∧ρ b' = some i'):=fun b' i' e=>by
  unfold Ren.put at e
  split at e
  ·rename_i hb';exact .inl ⟨hb',(Option.some.inj e).symm⟩
  ·rename_i hb';exact .inr ⟨hb',e⟩
 have hbn:b≠h.next:=fun e=>by rw [e,hfree] at hb;cases hb
 have hnext:(h.set b .dead).next=h.next:=rfl;have hget:∀ k,((h.set b .dead).new (.cells z c)).get k=if k=h.next then some (.cells z c) else if k=b then some .dead else h.get k:=fun k=>by
  rw [Hp.get_new,hnext,Hp.get_set]
 have hdom:=r.dom b i hb;have lv:∀ (p:Blk→Bool),p .dead=false → ∀ k,k≠h.next→has p ((h.set b .dead).new (.cells z c)) k→k≠b∧has p h k:=fun p hp k hk ⟨B,q1,q2⟩=>by
  rw [hget,if_neg hk] at q1
  split at q1
  ·obtain rfl:=Option.some.inj q1;rw [hp] at q2;cases q2
  ·exact ⟨by assumption,B,q1,q2⟩
 have hne:∀ k i',k≠b→ρ k=some i' → live h k→i'.g≠i.g:=fun k i' hk e l eg=>hk (r.inj k b i' i e hb l ⟨_,hlive,by simp⟩ eg);obtain ⟨o1,o2,o3,o4⟩:=zpg i.g us p w;refine ⟨⟨fun b' i' e=>?_,fun b' i' B' e f=>?_,fun b1 b2 i1 i2 e1 e2 l1 l2 hg=>?_,fun k hk=>by
   have hk':h.next+1≤k:=hk;rw [hget,if_neg (by omega),if_neg (by have:=hdom.1;omega)];exact r.wf k (by omega)⟩,hle,Nat.le_succ _,fun b' hb' hl=>⟨?_,?_⟩,by rw [zii];exact Nat.le_refl _,fun g hg hn=>⟨zfi _ _ _ _ _ (fun e=>hn b i hb ⟨_,hlive,rfl⟩ e.symm),fun b' i' e q=>?_⟩,o1,o2,o3,by rw [o4];exact Nat.le_refl _⟩
 ·rw [zii];rcases hput b' i' e with ⟨rfl,rfl⟩ | ⟨_,e⟩
  ·exact ⟨Nat.lt_succ_self _,hdom.2⟩
  ·have:=r.dom b' i' e;exact ⟨Nat.lt_succ_of_lt this.1,this.2⟩
 ·rw [hget] at f;rcases hput b' i' e with ⟨rfl,rfl⟩ | ⟨hk,e⟩
  ·rw [if_pos rfl] at f;obtain rfl:=Option.some.inj f;exact ⟨rfl,rfl,hN,h1,⟨hc,zpi _ _ _ _ _ hus hfz⟩,fun j u hj=>by obtain ⟨u',q1,q2⟩:=hv j u hj;exact ⟨u',q1,q2.mono hle⟩⟩
  ·rw [if_neg hk] at f
   split at f
   ·obtain rfl:=Option.some.inj f;trivial
   ·rename_i hkb;have hB:=r.blk b' i' B' e f;cases B' with
    | dead=>trivial
    | cells z' c'=>exact hB.congr hle (zfi _ _ _ _ _ (hne b' i' hkb e ⟨_,f,by simp⟩))
    | ro c'=>exact hB.congr hle (zfi _ _ _ _ _ (hne b' i' hkb e ⟨_,f,by simp⟩))
    | map es=>exact hB.congr hle (zfi _ _ _ _ _ (hne b' i' hkb e ⟨_,f,by simp⟩))
 ·rcases hput b1 i1 e1 with ⟨rfl,rfl⟩ | ⟨k1,e1⟩ <;> rcases hput b2 i2 e2 with ⟨rfl,rfl⟩ | ⟨k2,e2⟩
  ·rfl
  ·obtain ⟨q1,q2⟩:=lv _ rfl b2 k2 l2;exact absurd hg.symm (hne b2 i2 q1 e2 (own.live q2))
  ·obtain ⟨q1,q2⟩:=lv _ rfl b1 k1 l1;exact absurd hg (hne b1 i1 q1 e1 q2)
  ·exact r.inj b1 b2 i1 i2 e1 e2 (lv _ rfl b1 k1 l1).2 (lv _ rfl b2 k2 l2).2 hg
 ·unfold Ren.put;rw [if_neg (by omega)];exact hb'
 ·rw [hget,if_neg (by omega),if_neg (fun e=>by rw [e,hb] at hb';cases hb')]
 ·rcases hput b' i' e with ⟨rfl,rfl⟩ | ⟨hk,e⟩
  ·exact hn b i hb ⟨_,hlive,rfl⟩
  ·exact hn b' i' e (lv _ rfl b' hk q).2
structure More (P:Program) (e:TypeId) (i:TypeInfo) (tx:TypeId) (x:Value) (n:Nat) (news:List Value) (w:World):Prop where
 how:Src P i.size tx x n news w ∨ ∃ (kn k:IntKind) (z:Value),P.underlying tx=some (.int kn)∧x = .int k n∧i.zero=some z∧news=(Builtin.zeroCells z.cells n).toList∧0 < i.size
 one:∀ u∈news,u.oneCell' = true
 len:news.length=n*i.size
theorem zmf {t tx ty e:TypeId} {i:TypeInfo} (ht:P.underlying t=some (.slice e)) (hi:P.info? e=some i) {b off sLen sCap:Nat} {x:Value} {n:Nat} {news:List Value} (hs:More P e i tx x n news w) (hn40:n≤2 ^ 30) (hby:i.bytes≤2 ^ 12)
  (hroom:sLen+n≤sCap) (hc:∀ j,j < news.length→(w.cell? ⟨b,off+sLen*i.size+j,none⟩).isSome=true) (hf:∀ j,j < news.length→w.frozen? ⟨b,off+sLen*i.size+j,none⟩=false) :
  (Builtin.append_ #[t,tx] ty #[.slice (some ⟨b,off,none⟩) sLen sCap,x]).run P w = .ok (.slice (some ⟨b,off,none⟩) (sLen+n) sCap) (w.setCells b (off+sLen*i.size) news):=by
 rcases hs.how with h1 | ⟨kn,k,z,htn,rfl,hz,hnews,hs0⟩
 ·exact run_append_room_src w t tx ty e i ht hi b off sLen sCap x n news h1 hroom hc hf
 ·have hst:=run_storeCells_cells (P:=P) b (off+sLen*i.size) news 0 w (by simpa using hc) (by simpa using hf) hs.one;simp only [Nat.add_zero] at hst;have hw:=zne (n:=n) (by omega);have hneg:¬ ((n:Int) < 0):=by omega
  have h48i:¬ (281474976710656 < (n:Int)*(i.bytes:Int)):=by
   rw [← Int.natCast_mul];have:n*i.bytes≤2 ^ 30*2 ^ 12:=Nat.mul_le_mul hn40 hby;omega
  by_cases h0:n*i.size=0
  ·have hn0:n=0:=by
    rcases Nat.eq_zero_or_pos n with q | q
    ·exact q
    ·have:=Nat.mul_pos q hs0;omega
   subst hn0;have hnil:news=[]:=List.eq_nil_of_length_eq_zero (by rw [hs.len];exact h0);subst hnil;have hw0:IntKind.i64.wrap 0=0:=zne (n:=0) (by omega);have hr0:sLen≤sCap:=by omega
   simp [Builtin.append_,run_underlying ht,run_underlying htn,sizeOf,typeInfo,hi,asInt,asIntOf,hw0,hr0,Addr.add_lit,World.setCells,storeCells]
  ·have hn0:n≠0:=fun q=>h0 (by rw [q];simp);have hsz0:i.size≠0:=by omega
   rw [hnews] at hst;simp [Builtin.append_,run_underlying ht,run_underlying htn,sizeOf,typeInfo,zeroValue,hi,hz,asInt,asIntOf,hw,hneg,h48i,hroom,hn0,hsz0,Addr.add_lit];rw [hst,hnews,if_neg h0];rfl
theorem zmg {t tx ty e:TypeId} {i:TypeInfo} {z:Value} (ht:P.underlying t=some (.slice e)) (hi:P.info? e=some i) (hz:i.zero=some z) (base:Option Addr) (sLen sCap:Nat) (olds:List Value)
  (hold:(Builtin.firstCells i.size sLen (.slice base sLen sCap)).run P w.drew = .ok olds.toArray w.drew) {x:Value} {n:Nat} {news:List Value} (hs:More P e i tx x n news w) (hn40:n≤2 ^ 30) (hby:i.bytes≤2 ^ 12) (hsl:sLen≤2 ^ 30) (hn1:0 < n) (hg:sCap < sLen+n) :
  (Builtin.append_ #[t,tx] ty #[.slice base sLen sCap,x]).run P w =
   .ok (.slice (some ⟨w.heap.size,0,none⟩) (sLen+n) (grownCap w (sLen+n) sCap e))
    (w.drew.alloc (.cells ((olds++news).toArray++Builtin.zeroCells z.cells (grownCap w (sLen+n) sCap e - (sLen+n))) e)):=by
 have hfit:Builtin.nextslicecap (sLen+n) sCap*i.bytes≤281474976710656:=growslice_fits hg (by
  have:(sLen+n)*i.bytes≤2 ^ 31*2 ^ 12:=Nat.mul_le_mul (by omega) hby;omega)
 have h63:((sLen+n:Nat):Int)≤9223372036854775807:=by omega
 rcases hs.how with h1 | ⟨kn,k,z',htn,rfl,hz',hnews,hs0⟩
 ·exact run_append_grow_src w t tx ty e i z ht hi hz base sLen sCap olds hold x n news h1 hg h63 hfit
 ·have hzz:z' = z:=by rw [hz] at hz';exact (Option.some.inj hz').symm
  subst hzz;have hw:=zne (n:=n) (by omega);have hneg:¬ ((n:Int) < 0):=by omega
  have h48i:¬ (281474976710656 < (n:Int)*(i.bytes:Int)):=by
   rw [← Int.natCast_mul];have:n*i.bytes≤2 ^ 30*2 ^ 12:=Nat.mul_le_mul hn40 hby;omega
  have hn:¬ (sLen+n≤sCap):=by omega
  have h63':¬ (9223372036854775807 < ((sLen:Int)+(n:Int))):=by omega
  have h48':¬ (281474976710656 < Builtin.nextslicecap (sLen+n) sCap*i.bytes):=by omega
  have hn0:n≠0:=by omega
  have hsz0:i.size≠0:=by omega
  subst hnews;simp [Builtin.append_,run_underlying ht,run_underlying htn,sizeOf,typeInfo,zeroValue,hi,hz,asInt,asIntOf,hw,hneg,h48i,hn,h63',h48',hn0,hsz0,Question.forced,hold,newRow,grownCap];rw [if_neg (Nat.mul_ne_zero hn0 hsz0)]
  congr 3
  apply Array.ext';simp [List.append_assoc]
end
end Go.V
end
section
namespace Go.V
section
variable {P:Program} {ρ:Ren} {h:Hp} {w:World} {env:Env} {a:Act}
theorem ztx {w w':World} {g o:Nat} {us:List Value} (hw:w'.heap=w.heap) (hr:w.rangeAt g o us):w'.rangeAt g o us:=fun j v hv=>by
 rw [zjf (w:=w) (by rw [hw])];exact hr j v hv
theorem zpx {z n:Nat} {v:Val} {u:Value} {c:List Val} (r:Rel ρ h w) (hv:VR ρ v u) (hc:zgd h z n v=some c) (hz:∀ s,v = .s s→n=s.length) (hl:c.length=n*z) :
  ∃ us,VRL ρ c us∧us.length=n*z ∧ ∀ w',w'.heap=w.heap→(Builtin.firstCells z n u).run P w' = .ok us.toArray w':=by
 cases hv with
 | sn=>obtain rfl:=Option.some.inj hc;exact ⟨[],VRL.nil,hl,fun w' _=>rfl⟩
 | es =>
  simp only [zgd] at hc
  split at hc
  ·rename_i h0;subst h0;obtain rfl:=Option.some.inj hc;exact ⟨[],VRL.nil,by simp,fun w' _=>by simp [Builtin.firstCells,loadCells,loadCellsFrom]⟩
  ·cases hc
 | s x =>
  obtain rfl:=Option.some.inj hc;have hn:=hz x rfl;subst hn;rw [List.take_length] at hl ⊢;refine ⟨byteCells ⟨x.toArray⟩,⟨by simp [byteCells],fun j u u' p q=>?_⟩,by rw [byteCells_length,← hl];simp [ByteArray.size],fun w' _=>?_⟩
  ·simp only [byteCells,List.getElem?_map,Option.map_eq_some_iff] at p q;obtain ⟨b,p1,rfl⟩:=p;obtain ⟨b',q1,rfl⟩:=q;rw [p1] at q1;obtain rfl:=Option.some.inj q1;exact .i _ _
  ·have:=firstCells_string (P:=P) ⟨x.toArray⟩ w';simpa [ByteArray.size,zee,Builtin.firstCells] using this
 | sk hb hk =>
  simp only [zgd] at hc
  split at hc
  ·rename_i h0;subst h0;obtain rfl:=Option.some.inj hc;exact ⟨[],VRL.nil,by simp,fun w' _=>by simp [Builtin.firstCells,loadCells,loadCellsFrom]⟩
  ·obtain ⟨g1,us,g2,g3,g4⟩:=r.rd hb hc;refine ⟨us,g2,g3,fun w' hw=>?_⟩;simp only [Builtin.firstCells];rw [← g3];exact zqc (ztx hw g4)
 | so hb hk q1 q2 =>
  simp only [zgd] at hc
  split at hc
  ·rename_i h0;subst h0;obtain rfl:=Option.some.inj hc;exact ⟨[],VRL.nil,by simp,fun w' _=>by simp [Builtin.firstCells,loadCells,loadCellsFrom]⟩
  ·obtain ⟨g1,us,g2,g3,g4⟩:=r.rd hb hc;refine ⟨us,g2,g3,fun w' hw=>?_⟩;simp only [Builtin.firstCells];rw [← g3];exact zqc (ztx hw g4)
 | _=>cases hc
theorem sim_len {v:Val} {u:Value} {n:Nat} (hv:VR ρ v u) (hl:lenV v=some n) (w:World):(Builtin.lenOf u).run P w = .ok n w:=by
 cases hv <;> simp only [lenV,Option.some.injEq,reduceCtorEq] at hl <;> subst hl <;> simp [Builtin.lenOf,zee,ByteArray.size]
theorem zsb (z:Array Value) (n:Nat):Builtin.zeroCells z n=(Array.range (n*z.size)).map fun i=>z[i % z.size]!:=rfl
theorem zql {l:Nat} {k:Cap} {u:Value} (hv:VR ρ (.sl none l k) u):l=0∧k = .k 0∧u = .slice none 0 0:=by cases hv;exact ⟨rfl,rfl,rfl⟩
theorem sim_more {e tx:TypeId} {i:TypeInfo} {z n:Nat} {zk:Bool} {zero v:Val} {u:Value} {c:List Val} (r:Rel ρ h w) (hi:P.info? e=some i) (hs:i.size=z) (hz:zge P e=some zero) (hzl:zero.cells.length=z) (h0:0 < z) (hk:zhs P tx=some zk) (hv:VR ρ v u)
  (hm:moreV P h e z zk v=some (n,c)) (hl:c.length=n*z) (ho:c.all Val.one=true):∃ news,VRL ρ c news∧More P e i tx u n news w:=by
 obtain ⟨i',zu,i1,i2,i3⟩:=zfx hz;have hii:i' = i:=by rw [i1] at hi;exact Option.some.inj hi
 subst hii;have hzr:=(zsw (ρ:=ρ) i3).cells;have hzs:zu.cells.size=z:=by have:=hzr.1;simp at this;omega
 unfold moreV at hm;cases zk with
 | true =>
  simp only [cond_true] at hm;rw [Option.bind_eq_some_iff] at hm;obtain ⟨m,h1,hm⟩:=hm;rw [hz] at hm;simp only [Option.bind_some] at hm;rw [if_pos hzl] at hm
  ·simp only [Option.some.injEq,Prod.mk.injEq] at hm;obtain ⟨rfl,rfl⟩:=hm;obtain ⟨k,rfl,hm40⟩:=znp h1;cases hv;have hzz:=zln hzr (by omega) m;have hkn:∃ kn,P.underlying tx=some (.int kn):=by
    unfold zhs at hk
    split at hk <;> simp at hk
    exact ⟨_,by assumption⟩
   obtain ⟨kn,hkn⟩:=hkn;exact ⟨_,hzz,.inr ⟨kn,k,zu,hkn,rfl,i2,by rw [zsb],by omega⟩,hzz.one ho,by rw [← hzz.1,hl,hs]⟩
 | false =>
  simp only [cond_false] at hm;rw [Option.bind_eq_some_iff] at hm;obtain ⟨m,h1,hm⟩:=hm;obtain ⟨c',h2,hm⟩:=Option.map_eq_some_iff.1 hm;simp only [Prod.mk.injEq] at hm;obtain ⟨rfl,rfl⟩:=hm;obtain ⟨us,g1,g2,g3⟩:=zpx (P:=P) r hv h2 (fun s e=>by subst e;exact (Option.some.inj h1).symm) hl;have hkn:(∃ e',P.underlying tx=some (.slice e'))∨P.underlying tx=some .string:=by
   unfold zhs at hk
   split at hk <;> simp at hk
   ·exact .inl ⟨_,by assumption⟩
   ·exact .inr (by assumption)
  refine ⟨us,g1,.inl ⟨hkn,fun w'=>sim_len hv h1 w',?_,?_,by rw [hs];exact g2,g1.one ho⟩,g1.one ho,by rw [hs];exact g2⟩
  ·rw [hs];exact g3 w rfl
  ·rw [hs];exact g3 w.drew rfl
theorem zsr (z:Array Value) (n:Nat):(Builtin.zeroCells z n).toList.length=n*z.size:=by simp [Builtin.zeroCells]
theorem zwi {z:Array Value} {n:Nat} (h:∀ u∈z.toList,u.oneCell' = true):∀ u∈(Builtin.zeroCells z n).toList,u.oneCell' = true:=by
 intro u hu;simp only [Builtin.zeroCells,Array.toList_map,Array.toList_range,List.mem_map,List.mem_range] at hu;obtain ⟨i,hi,rfl⟩:=hu;have hp:0 < z.size:=by
  rcases Nat.eq_zero_or_pos z.size with q | q
  ·rw [q] at hi;omega
  ·exact q
 have hl:=Nat.mod_lt i hp;rw [getElem!_pos z _ hl];exact h _ (by simp)
theorem ztq {z n0:Nat} {c:List Val} {us:List Value} {v:Val} {h':Hp} (r:Rel ρ h w) (e:TypeId) (zs:Array Value) (hz1:∀ u∈zs.toList,u.oneCell' = true) (hzs:zs.size=z) (C:Nat) (hC:n0≤C) (hcl:c.length=n0*z) (hv:rowV h z c n0 none=some (v,h')) (hr:VRL ρ c us) :
  ∃ ρ' u,u = .slice (some ⟨w.heap.size,0,none⟩) n0 C∧VR ρ' v u∧Rel ρ' h' (w.alloc (.cells (us.toArray++Builtin.zeroCells zs (C - n0)) e))∧Ext ρ h w ρ' h' (w.alloc (.cells (us.toArray++Builtin.zeroCells zs (C - n0)) e)):=by
 unfold rowV at hv
 split at hv
 ·rename_i h1;simp only [Option.some.injEq,Prod.mk.injEq] at hv;obtain ⟨rfl,rfl⟩:=hv;have hul:=hr.1;have e1:us.toArray++Builtin.zeroCells zs (C - n0)=(us++(Builtin.zeroCells zs (C - n0)).toList).toArray:=by apply Array.ext';simp
  have e2:(us++(Builtin.zeroCells zs (C - n0)).toList).length=C*z:=by
   rw [List.length_append,zsr,hzs,← hul,hcl,← Nat.add_mul];congr 1;omega
  rw [e1];obtain ⟨h2,h3⟩:=r.newCells (z:=z) (cs:=us++(Builtin.zeroCells zs (C - n0)).toList) (e:=e) (fz:=(0,0)) (by simp) (by simp) (fun _=>Nat.le_refl _) h1 (fun u hu=>(List.mem_append.1 hu).elim (hr.one h1 u) (zwi hz1 u)) (by simp [hul]) (by rw [hul,List.take_left];exact hr);refine ⟨_,_,rfl,?_,h2,h3⟩;have:=VR.so (ρ:=ρ.put h.next ⟨w.heap.size,0,z,c.length,(us++(Builtin.zeroCells zs (C - n0)).toList).length⟩) (b:=h.next) (o:=0) (len:=n0) (c:=C) (zju _ _) hC (by
   show c.length≤0+C*z;rw [hcl,Nat.zero_add];exact Nat.mul_le_mul_right _ hC) (by
   show 0+0+C*z≤(us++(Builtin.zeroCells zs (C - n0)).toList).length;rw [e2];omega)
  simpa using this
 ·cases hv
theorem zmm {t tx ty e:TypeId} {i:TypeInfo} (ht:P.underlying t=some (.slice e)) (hi:P.info? e=some i) (base:Option Addr) (sLen sCap:Nat) (hle:sLen≤sCap) {x:Value} (hs:More P e i tx x 0 [] w) :
  (Builtin.append_ #[t,tx] ty #[.slice base sLen sCap,x]).run P w = .ok (.slice base sLen sCap) w:=by
 rcases hs.how with h1 | ⟨kn,k,z,htn,rfl,hz,hnews,hs0⟩
 ·exact run_append_nothing w t tx ty e i ht hi base sLen sCap hle x h1
 ·have hw0:IntKind.i64.wrap 0=0:=zne (n:=0) (by omega);cases base <;> simp [Builtin.append_,run_underlying ht,run_underlying htn,sizeOf,typeInfo,hi,asInt,asIntOf,hw0,hle,storeCells]
theorem rd_length {b o n:Nat} {c:List Val} (hr:rd h b o n=some c):c.length=n:=by
 unfold rd at hr
 split at hr
 ·split at hr
  ·obtain rfl:=Option.some.inj hr;simp;omega
  ·cases hr
 ·split at hr
  ·obtain rfl:=Option.some.inj hr;simp;omega
  ·cases hr
 ·cases hr
theorem zsi {z n b o len:Nat} {cap:Cap} {c:List Val} (hc:zgd h z n (.sl (some (b,o)) len cap)=some c):c.length=n*z:=by
 simp only [zgd] at hc
 split at hc
 ·rename_i h0;subst h0;obtain rfl:=Option.some.inj hc;simp
 ·exact rd_length hc
theorem first_one {z n b o len:Nat} {cap:Cap} {c:List Val} (r:Rel ρ h w) {i:Info} (hb:ρ b=some i) (hc:zgd h z n (.sl (some (b,o)) len cap)=some c):c.all Val.one=true:=by
 simp only [zgd] at hc
 split at hc
 ·obtain rfl:=Option.some.inj hc;rfl
 ·exact (r.rd hb hc).1
theorem sim_app {e t tx ty:TypeId} {i:TypeInfo} {zu s' x':Value} {z n:Nat} {c:List Val} {news:List Value} {s v:Val} {h':Hp} (r:Rel ρ h w) (hst:P.underlying t=some (.slice e)) (hi:P.info? e=some i) (hsz:i.size=z) (j2:i.zero=some zu) (hz1:∀ u∈zu.cells.toList,u.oneCell' = true) (hzs:zu.cells.size=z) (c2:0 < z) (c3:n≤2 ^ 30) (c5:i.bytes≤2 ^ 12)
  (c6:c.length=n*z) (vs:VR ρ s s') (g1:VRL ρ c news) (g2:More P e i tx x' n news w) (hv:appV h z n c s=some (v,h')) :
  ∃ ρ' w' u,(Builtin.append_ #[t,tx] ty #[s',x']).run P w = .ok u w' ∧ VR ρ' v u∧Rel ρ' h' w' ∧ Ext ρ h w ρ' h' w':=by
 have hdr:=Ext.drew ρ h w;subst hsz;unfold appV at hv
 split at hv
 ·rename_i len cap
  split at hv
  ·obtain ⟨_,_,rfl⟩:=zql vs
   split at hv
   ·rename_i h0;subst h0;simp only [Option.some.injEq,Prod.mk.injEq] at hv;obtain ⟨rfl,rfl⟩:=hv;have hnil:news=[]:=List.eq_nil_of_length_eq_zero (by rw [g2.len];simp);subst hnil;exact ⟨ρ,w,_,zmm hst hi none 0 0 (Nat.le_refl _) g2,vs,r,Ext.refl _ _ _⟩
   ·have hg:=zmg (w:=w) hst hi j2 none 0 0 [] (ty:=ty) (by rfl) g2 c3 c5 (by omega) (by omega) (by omega);obtain ⟨ρ',u,rfl,q1,q2,q3⟩:=ztq r.drew e zu.cells hz1 hzs (grownCap w (0+n) 0 e) (n0:=n) (by have:=grownCap_ge w (0+n) 0 e;omega) c6 hv g1;refine ⟨ρ',_,.slice (some ⟨w.heap.size,0,none⟩) n (grownCap w (0+n) 0 e),?_,q1,q2,hdr.trans q3⟩;rw [hg];simp
  ·cases hv
 ·cases vs with
  | es =>
   split at hv
   ·rename_i h0;subst h0;simp only [Option.some.injEq,Prod.mk.injEq] at hv;obtain ⟨rfl,rfl⟩:=hv;have hnil:news=[]:=List.eq_nil_of_length_eq_zero (by rw [g2.len];simp);subst hnil;exact ⟨ρ,w,_,zmm hst hi _ 0 _ (Nat.zero_le _) g2,VR.es,r,Ext.refl _ _ _⟩
   ·cases hv
 ·rename_i b off len k;cases vs with
  | sk hb hlk =>
   rename_i i'
   split at hv
   ·rename_i hroom;obtain ⟨h2,hw,hv⟩:=Option.map_eq_some_iff.1 hv;simp only [Prod.mk.injEq] at hv;obtain ⟨rfl,rfl⟩:=hv;obtain ⟨d1,d2,d3,d4,d5⟩:=r.wrH hb hw g1;have e0:i'.base+(off+len*i.size)=i'.base+off+len*i.size:=by omega
    rw [e0] at d1 d2 d4 d5;exact ⟨ρ,_,_,zmf hst hi g2 c3 c5 hroom d1 d2,VR.sk hb hroom,d4,d5⟩
   ·rename_i hroom
    split at hv
    ·rename_i hlen;rw [Option.bind_eq_some_iff] at hv;obtain ⟨d,hd,hv⟩:=hv;have hdl:=zsi hd;obtain ⟨olds,f1,f2,f3⟩:=zpx (P:=P) r (VR.sk hb hlk) hd (fun s e=>by cases e) hdl;have hg:=zmg (w:=w) hst hi j2 (some ⟨i'.g,i'.base+off,none⟩) len k olds (ty:=ty) (f3 w.drew rfl) g2 c3 c5 hlen.2 (by omega) (by omega);obtain ⟨ρ',u,rfl,q1,q2,q3⟩:=ztq r.drew e zu.cells hz1 hzs (grownCap w (len+n) k e) (n0:=len+n) (grownCap_ge w (len+n) k e) (by rw [List.length_append,hdl,c6,Nat.add_mul]) hv (f1.append g1);exact ⟨ρ',_,_,hg,q1,q2,hdr.trans q3⟩
    ·cases hv
 ·rename_i b off len zo;cases vs with
  | so hb hlk p1 p2 =>
   rename_i cc i'
   split at hv
   ·rename_i z' d hgb;have hB:=r.blk _ _ _ hb hgb;obtain ⟨b1,b2,b3,b4,b5,b6⟩:=hB
    split at hv
    ·rename_i hcc;obtain ⟨rfl,hl30,hfit⟩:=hcc;rw [b1] at p1 p2
     split at hv
     ·rename_i hin;obtain ⟨h2,hw,hv⟩:=Option.map_eq_some_iff.1 hv;simp only [Prod.mk.injEq] at hv;obtain ⟨rfl,rfl⟩:=hv;obtain ⟨d1,d2,d3,d4,d5⟩:=r.wrH hb hw g1;have e0:i'.base+(off+len*i.size)=i'.base+off+len*i.size:=by omega
      rw [e0] at d1 d2 d4 d5;have hroom:len+n≤cc:=by
       have:(len+n)*i.size≤cc*i.size:=by omega
       exact Nat.le_of_mul_le_mul_right this c2
      refine ⟨ρ,_,_,zmf hst hi g2 c3 c5 hroom d1 d2,b1 ▸ VR.so hb hroom (by rw [b1];exact p1) (by rw [b1];exact p2),d4,d5⟩
     ·rename_i hin;rw [Option.bind_eq_some_iff] at hv;obtain ⟨dd,hd,hv⟩:=hv;have hdl:=zsi hd;have hone:=first_one r hb hd;obtain ⟨olds,f1,f2,f3⟩:=zpx (P:=P) r (VR.so hb hlk (by rw [b1];exact p1) (by rw [b1];exact p2)) hd (fun s e=>by cases e) hdl;have hn1:0 < n:=by
       rcases Nat.eq_zero_or_pos n with q | q
       ·subst q;simp at hin;omega
       ·exact q
      by_cases hroom:len+n≤cc
      ·
       have hlen:news.length=n*i.size:=g2.len;have hmul:(len+n)*i.size≤cc*i.size:=Nat.mul_le_mul_right _ hroom;rw [Nat.add_mul] at hmul;have d1:∀ j,j < news.length→(w.cell? ⟨i'.g,i'.base+off+len*i.size+j,none⟩).isSome=true:=fun j hj=>(b5.1 _ (by omega)).1;have d2:∀ j,j < news.length→w.frozen? ⟨i'.g,i'.base+off+len*i.size+j,none⟩=false:=fun j hj=>(b5.1 _ (by omega)).2;have hg:=zmf (ty:=ty) hst hi g2 c3 c5 hroom d1 d2;unfold rowV at hv
       split at hv
       ·rename_i h1;simp only [Option.some.injEq,Prod.mk.injEq] at hv;obtain ⟨rfl,rfl⟩:=hv;have hcl:(dd++c).length=(len+n)*i.size:=by rw [List.length_append,hdl,c6,Nat.add_mul]
        obtain ⟨q2,q3⟩:=r.newIn (p:=i'.base+off+len*i.size) (z:=i.size) (n:=0) (N:=i'.base+off+cc*i.size) (base:=i'.base+off) (c:=dd++c) (us:=news) hb hgb h1 (by rw [hcl,Nat.add_mul];omega) g2.one b5.2 (fun o ho=>⟨zkg _ _ _ _ _ (b5.1 o (by omega)).1,by rw [World.frozen?_setCells];exact (b5.1 o (by omega)).2⟩) (fun j u hj=>by
         by_cases hjl:j < dd.length
         ·rw [List.getElem?_append_left hjl] at hj;have hrd:rd h b off (len*i.size)=some dd∨dd=[]:=by
           simp only [zgd] at hd
           split at hd
           ·exact .inr (Option.some.inj hd).symm
           ·exact .inl hd
          rcases hrd with hrd | hrd
          ·obtain ⟨_,us2,v1,v2,v3⟩:=r.rd hb hrd;obtain ⟨u2,a1,a2⟩:=v1.at hj;refine ⟨u2,?_,a2⟩;rw [World.cell?_setCells_out _ _ _ _ _ (fun _ _=>by simp only;omega)];exact v3 j u2 a1
          ·rw [hrd] at hjl;simp at hjl
         ·rw [List.getElem?_append_right (by omega)] at hj;obtain ⟨u',a1,a2⟩:=g1.at hj;refine ⟨u',?_,a2⟩;have hlt:=(List.getElem?_eq_some_iff.1 a1).1;have:=World.cell?_setCells_in i'.g news (i'.base+off+len*i.size) w d1 (j - dd.length) hlt;rw [show i'.base+off+j=i'.base+off+len*i.size+(j - dd.length) by omega,this];exact (List.getElem?_eq_getElem hlt).symm.trans a1)
        refine ⟨_,_,_,hg,?_,q2,q3⟩;have:=VR.so (ρ:=ρ.put h.next ⟨i'.g,i'.base+off,i.size,(dd++c).length,i'.base+off+cc*i.size⟩) (b:=h.next) (o:=0) (len:=len+n) (c:=cc) (zju _ _) hroom (by
         show (dd++c).length≤0+cc*i.size;rw [hcl,Nat.add_mul];omega) (by
         show i'.base+off+0+cc*i.size≤i'.base+off+cc*i.size;omega)
        have hh:(h.set b .dead).next=h.next:=rfl;rw [hh];simpa using this
       ·cases hv
      ·have hg:=zmg (w:=w) hst hi j2 (some ⟨i'.g,i'.base+off,none⟩) len cc olds (ty:=ty) (f3 w.drew rfl) g2 c3 c5 hl30 hn1 (by omega);obtain ⟨k1,k2⟩:=r.drew.kill hb;obtain ⟨ρ',u,rfl,q1,q2,q3⟩:=ztq k1 e zu.cells hz1 hzs (grownCap w (len+n) cc e) (n0:=len+n) (grownCap_ge w (len+n) cc e) (by rw [List.length_append,hdl,c6,Nat.add_mul]) hv (f1.append g1);exact ⟨ρ',_,_,hg,q1,q2,(hdr.trans k2).trans q3⟩
    ·cases hv
   ·cases hv
 ·cases hv
theorem map2 {xs:Array Operand} {s x:Val} (hE:EnvR ρ env a) (hl:evL env xs.toList=some [s,x]):∃ s' x',xs.map a.eval = #[s',x']∧VR ρ s s' ∧ VR ρ x x':=by
 have hr:=evL_VR hE hl;have hmap:(xs.map a.eval).toList=xs.toList.map a.eval:=by simp
 generalize hus:xs.toList.map a.eval=us at hr;obtain ⟨s',x',rfl⟩:∃ s' x',us=[s',x']:=by
  have:=hr.1
  match us,this with
  | [s',x'],_=>exact ⟨s',x',rfl⟩
 exact ⟨s',x',by apply Array.ext';rw [hmap,hus],hr.head,hr.tail.head⟩
theorem map1 {xs:Array Operand} {s:Val} (hE:EnvR ρ env a) (hl:evL env xs.toList=some [s]):∃ s',xs.map a.eval = #[s']∧VR ρ s s':=by
 have hr:=evL_VR hE hl;have hmap:(xs.map a.eval).toList=xs.toList.map a.eval:=by simp
 generalize hus:xs.toList.map a.eval=us at hr;obtain ⟨s',rfl⟩:∃ s',us=[s']:=by
  have:=hr.1
  match us,this with
  | [s'],_=>exact ⟨s',rfl⟩
 exact ⟨s',by apply Array.ext';rw [hmap,hus],hr.head⟩
theorem zrj {o:Oper} {b:Builtin} {xs:Array Operand} {ats:Array TypeId} {u:Next} {w':World} (ho:o.op = .call { callee:=.builtin b,args:=xs,argTypes:=ats }) (h2:(builtin b ats o.type (xs.map fun | .const _=>true | _=>false) (xs.map a.eval)).run P w = .ok u w') :
  (execOp a.eval o).run P w = .ok u w':=by
 simp only [execOp,ho,resolve,invoke,Sem.run_bind,Sem.run_pure,Result.andThen_ok];exact h2
theorem sim_append {o:Oper} {xs:Array Operand} {ats:Array TypeId} {s x:Val} {v:Val} {h':Hp} (ho:o.op = .call { callee:=.builtin .append,args:=xs,argTypes:=ats }) (r:Rel ρ h w) (hE:EnvR ρ env a) (hl:evL env xs.toList=some [s,x]) (hv:zpo P h ats.toList s x=some (v,h')) :
  OpR P ρ h w a o v h':=by
 obtain ⟨s',x',hargs,vs,vx⟩:=map2 hE hl;unfold zpo at hv
 split at hv
 ·rename_i t tx hts
  split at hv
  ·rename_i e hst;rw [Option.bind_eq_some_iff] at hv;obtain ⟨z,hz,hv⟩:=hv;rw [Option.bind_eq_some_iff] at hv;obtain ⟨i,hi,hv⟩:=hv;rw [Option.bind_eq_some_iff] at hv;obtain ⟨zero,hzero,hv⟩:=hv;rw [Option.bind_eq_some_iff] at hv;obtain ⟨zk,hzk,hv⟩:=hv;rw [Option.bind_eq_some_iff] at hv;obtain ⟨⟨n,c⟩,hm,hv⟩:=hv
   split at hv
   ·rename_i hc;obtain ⟨c1,c2,c3,c4,c5,c6,c7⟩:=hc;simp only at c3 c6 c7 hv;obtain ⟨i',hi',hsz⟩:=sz_info hz;have:i' = i:=by rw [hi'] at hi;exact Option.some.inj hi
    subst this;obtain ⟨news,g1,g2⟩:=sim_more r hi hsz hzero c1 c2 hzk vx hm c6 c7;have hats:ats = #[t,tx]:=by apply Array.ext';simpa using hts
    obtain ⟨i2,zu,j1,j2,j3⟩:=zfx hzero;have:i2=i':=by rw [j1] at hi;exact Option.some.inj hi
    subst this;have hzs:zu.cells.size=z:=by have:=(zsw (ρ:=ρ) j3).cells.1;simp at this;omega
    obtain ⟨ρ',w',u,e1,e2,e3,e4⟩:=sim_app (ty:=o.type) r hst hi hsz j2 (cv_one j3) hzs c2 c3 c5 c6 vs g1 g2 hv;refine ⟨ρ',w',_,u,zrj ho ?_,.inl rfl,e2,e3,e4⟩;rw [hargs,hats];simp only [builtin,Sem.run_bind,e1,Result.andThen_ok,Sem.run_pure]
   ·cases hv
  ·cases hv
 ·cases hv
theorem sim_copy {o:Oper} {xs:Array Operand} {ats:Array TypeId} {d s:Val} {v:Val} {h':Hp} (ho:o.op = .call { callee:=.builtin .copy,args:=xs,argTypes:=ats }) (r:Rel ρ h w) (hE:EnvR ρ env a) (hl:evL env xs.toList=some [d,s]) (hv:copyV P h ats.toList d s=some (v,h')) :
  OpR P ρ h w a o v h':=by
 obtain ⟨d',s',hargs,vd,vs⟩:=map2 hE hl;unfold copyV at hv;rw [Option.bind_eq_some_iff] at hv;obtain ⟨t,ht,hv⟩:=hv
 split at hv
 ·rename_i e hst;rw [Option.bind_eq_some_iff] at hv;obtain ⟨z,hz,hv⟩:=hv;rw [Option.bind_eq_some_iff] at hv;obtain ⟨m,hm,hv⟩:=hv;have hlen:=sim_len (P:=P) vs hm w;have ht':ats[0]? = some t:=by simpa using ht
  have done:∀ {u:Value} {w':World} {ρ':Ren} {v':Val},(Builtin.copy_ ats o.type #[d',s']).run P w = .ok u w' → VR ρ' v' u→Rel ρ' h' w' → Ext ρ h w ρ' h' w' → OpR P ρ h w a o v' h':=fun e1 e2 e3 e4=>by
   refine ⟨_,_,_,_,zrj ho ?_,.inl rfl,e2,e3,e4⟩;rw [hargs];simp only [builtin,Sem.run_bind,e1,Result.andThen_ok,Sem.run_pure]
  have main:∀ (b off len:Nat) (cap:Cap) (cc:Nat) (i:Info),d = .sl (some (b,off)) len cap→d' = .slice (some ⟨i.g,i.base+off,none⟩) len cc→ρ b=some i →
    ((zgd h z (min m len) s).bind fun c=>if c.length=min m len*z then (wrH h b off c).map fun h'=>(Val.i .i64 ((min m len:Nat):Int),h') else none)=some (v,h')→OpR P ρ h w a o v h':=fun b off len cap cc i e1 e2 hb hv=>by
   rw [Option.bind_eq_some_iff] at hv;obtain ⟨c,hc,hv⟩:=hv
   split at hv
   ·rename_i hcl;obtain ⟨h2,hw,hv⟩:=Option.map_eq_some_iff.1 hv;simp only [Prod.mk.injEq] at hv;obtain ⟨rfl,rfl⟩:=hv;obtain ⟨us,f1,f2,f3⟩:∃ us,VRL ρ c us∧us.length=min m len*z∧(Builtin.firstCells z (min m len) s').run P w = .ok us.toArray w:=by
     cases s with
     | s x =>
      cases vs;obtain rfl:=Option.some.inj hc;obtain rfl:=Option.some.inj hm;refine ⟨(x.take (min x.length len)).map fun c=>.int .u8 c.toNat,⟨by simp,fun j u u' p q=>?_⟩,by simpa using hcl,?_⟩
      ·simp only [List.getElem?_map,Option.map_eq_some_iff] at p q;obtain ⟨b,p1,rfl⟩:=p;obtain ⟨b',q1,rfl⟩:=q;rw [p1] at q1;obtain rfl:=Option.some.inj q1;exact .i _ _
      ·simp only [Builtin.firstCells,zee,Sem.run_pure]
       congr 1
       apply Array.ext';simp
     | _ =>
      obtain ⟨us,f1,f2,f3⟩:=zpx (P:=P) r vs hc (fun s e=>by cases e) hcl;exact ⟨us,f1,f2,f3 w rfl⟩
    obtain ⟨d1,d2,d3,d4,d5⟩:=r.wrH hb hw f1;have hst2:=run_storeCells_cells (P:=P) i.g (i.base+off) us 0 w (by simpa using d1) (by simpa using d2) d3;simp only [Nat.add_zero] at hst2;refine done (u:=.int .i64 ((min m len:Nat):Int)) (ρ':=ρ) ?_ (VR.i _ _) d4 d5;subst e2;simp only [Builtin.copy_,ht',List.getElem?_toArray,List.getElem?_cons_zero,List.getElem?_cons_succ,Sem.run_bind,run_underlying hst w,Result.andThen_ok,hlen,zgw hz w];have e3:Nat.min m len=min m len:=rfl;rw [e3,f3];simp only [Result.andThen_ok,Sem.run_bind,hst2,Sem.run_pure,goInt]
   ·cases hv
  split at hv
  ·rename_i b off len cap;cases vd with
   | sk hb hk=>exact main b off len _ _ _ rfl rfl hb hv
   | so hb hk q1 q2=>exact main b off len _ _ _ rfl rfl hb hv
  ·rename_i len cap;obtain ⟨rfl,rfl,rfl⟩:=zql vd;simp only [if_true,Option.some.injEq,Prod.mk.injEq] at hv;obtain ⟨rfl,rfl⟩:=hv;refine done (u:=.int .i64 0) (w':=w) (ρ':=ρ) ?_ (VR.i _ _) r (Ext.refl _ _ _);have e3:Nat.min m 0=0:=Nat.min_zero m;have hf:(Builtin.firstCells z 0 s').run P w = .ok #[] w:=by
    cases vs <;> simp [lenV] at hm <;> simp [Builtin.firstCells,loadCells,loadCellsFrom,zee]
   simp only [Builtin.copy_,ht',List.getElem?_toArray,List.getElem?_cons_zero,List.getElem?_cons_succ,Sem.run_bind,run_underlying hst w,Result.andThen_ok,hlen,zgw hz w,e3,hf,Sem.run_pure,goInt];rfl
  ·simp only [Option.some.injEq,Prod.mk.injEq] at hv;obtain ⟨rfl,rfl⟩:=hv;cases vd;refine done (u:=.int .i64 0) (w':=w) (ρ':=ρ) ?_ (VR.i _ _) r (Ext.refl _ _ _);have e3:Nat.min m 0=0:=Nat.min_zero m;have hf:(Builtin.firstCells z 0 s').run P w = .ok #[] w:=by
    cases vs <;> simp [lenV] at hm <;> simp [Builtin.firstCells,loadCells,loadCellsFrom,zee]
   simp only [Builtin.copy_,ht',List.getElem?_toArray,List.getElem?_cons_zero,List.getElem?_cons_succ,Sem.run_bind,run_underlying hst w,Result.andThen_ok,hlen,zgw hz w,e3,hf,Sem.run_pure,goInt];rfl
  ·cases hv
 ·cases hv
end
end Go.V
end
section
namespace Go.V
section
variable {P:Program} {ρ:Ren} {h:Hp} {w:World} {env:Env} {a:Act}
theorem VR.none0 {ρ:Ren}:VR ρ (.tup []) (.tuple #[]):=VR.tup (vs:=[]) rfl (fun j u u' h=>by simp at h)
theorem sim_clear {o:Oper} {xs:Array Operand} {ats:Array TypeId} {d:Val} {v:Val} {h':Hp} (ho:o.op = .call { callee:=.builtin .clear,args:=xs,argTypes:=ats }) (r:Rel ρ h w) (hE:EnvR ρ env a) (hl:evL env xs.toList=some [d]) (hv:zsk P h ats.toList d=some (v,h')) :
  OpR P ρ h w a o v h':=by
 obtain ⟨d',hargs,vd⟩:=map1 hE hl;unfold zsk at hv;rw [Option.bind_eq_some_iff] at hv;obtain ⟨t,ht,hv⟩:=hv;have ht':ats[0]? = some t:=by simpa using ht
 have done:∀ {w':World} {ρ':Ren},(Builtin.clear_ ats o.type #[d']).run P w = .ok (.tuple #[]) w' → Rel ρ' h' w' → Ext ρ h w ρ' h' w' → OpR P ρ h w a o (.tup []) h':=fun e1 e3 e4=>by
  refine ⟨_,_,_,_,zrj ho ?_,.inl rfl,VR.none0,e3,e4⟩;rw [hargs];simp only [builtin,Sem.run_bind,e1,Result.andThen_ok,Sem.run_pure]
 split at hv
 ·rename_i e hst;rw [Option.bind_eq_some_iff] at hv;obtain ⟨zero,hz,hv⟩:=hv;obtain ⟨i,zu,i1,i2,i3⟩:=zfx hz;have hzr:=(zsw (ρ:=ρ) i3).cells;have main:∀ (b off len:Nat) (cc:Nat) (i':Info),d' = .slice (some ⟨i'.g,i'.base+off,none⟩) len cc→ρ b=some i' →
    (if len=0 then some (Val.tup [],h) else if 0 < zero.cells.length then (wrH h b off (zeu zero.cells len)).map fun h'=>(Val.tup [],h') else none)=some (v,h')→OpR P ρ h w a o v h':=fun b off len cc i' e2 hb hv=>by
   subst e2
   split at hv
   ·rename_i h0;subst h0;simp only [Option.some.injEq,Prod.mk.injEq] at hv;obtain ⟨rfl,rfl⟩:=hv;refine done (w':=w) (ρ':=ρ) ?_ r (Ext.refl _ _ _);simp [Builtin.clear_,ht',run_underlying hst]
   ·rename_i h0
    split at hv
    ·rename_i hz0;obtain ⟨h2,hw,hv⟩:=Option.map_eq_some_iff.1 hv;simp only [Prod.mk.injEq] at hv;obtain ⟨rfl,rfl⟩:=hv;have hzz:=zln hzr hz0 len;obtain ⟨d1,d2,d3,d4,d5⟩:=r.wrH hb hw hzz;have hst2:=run_storeCells_cells (P:=P) i'.g (i'.base+off) _ 0 w (by simpa using d1) (by simpa using d2) d3;simp only [Nat.add_zero] at hst2;refine done (ρ':=ρ) ?_ d4 d5;cases len with
     | zero=>exact absurd rfl h0
     | succ len =>
      simp only [Builtin.clear_,ht',List.getElem?_toArray,List.getElem?_cons_zero,Sem.run_bind,run_underlying hst w,Result.andThen_ok,zji i1 i2 w,zsb,hst2,Sem.run_pure]
    ·cases hv
  split at hv
  ·rename_i b off len cap;cases vd with
   | sk hb hk=>exact main b off len _ _ rfl hb hv
   | so hb hk q1 q2=>exact main b off len _ _ rfl hb hv
  ·obtain ⟨rfl,rfl,rfl⟩:=zql vd;simp only [Option.some.injEq,Prod.mk.injEq] at hv;obtain ⟨rfl,rfl⟩:=hv;refine done (w':=w) (ρ':=ρ) ?_ r (Ext.refl _ _ _);simp [Builtin.clear_,ht',run_underlying hst]
  ·simp only [Option.some.injEq,Prod.mk.injEq] at hv;obtain ⟨rfl,rfl⟩:=hv;cases vd;refine done (w':=w) (ρ':=ρ) ?_ r (Ext.refl _ _ _);simp [Builtin.clear_,ht',run_underlying hst]
  ·cases hv
 ·cases hv
theorem sim_lenB {o:Oper} {xs:Array Operand} {ats:Array TypeId} {d:Val} {v:Val} (ho:o.op = .call { callee:=.builtin .len,args:=xs,argTypes:=ats }) (r:Rel ρ h w) (hE:EnvR ρ env a) (hl:evL env xs.toList=some [d]) (hv:lenB P h ats.toList d=some v) :
  OpR P ρ h w a o v h:=by
 obtain ⟨d',hargs,vd⟩:=map1 hE hl;unfold lenB at hv;rw [Option.bind_eq_some_iff] at hv;obtain ⟨t,ht,hv⟩:=hv;have ht':ats[0]? = some t:=by simpa using ht
 have done:∀ {n:Int},(Builtin.len_ ats o.type #[d']).run P w = .ok (.int .i64 n) w→OpR P ρ h w a o (.i .i64 n) h:=fun e1=>by
  refine OpR.val r (zrj ho ?_) (VR.i _ _);rw [hargs];simp only [builtin,Sem.run_bind,e1,Result.andThen_ok,Sem.run_pure]
 have pre:∀ {d:TypeDesc},P.underlying t=some d→(underlying t).run P w = .ok d w:=fun hd=>run_underlying hd w
 split at hv
 ·rename_i s hst;obtain rfl:=Option.some.inj hv;cases vd;refine done ?_;have e9:(⟨s.toArray⟩:ByteArray).size=s.length:=by simp [ByteArray.size]
  simp only [Builtin.len_,ht',zee,List.getElem?_toArray,List.getElem?_cons_zero,Sem.run_bind,run_underlying hst w,Result.andThen_ok,Sem.run_pure,goInt,e9]
 ·rename_i n e hst;obtain rfl:=Option.some.inj hv;refine done ?_;cases vd <;> simp [Builtin.len_,ht',run_underlying hst,goInt]
 ·rename_i e b n c hst;obtain rfl:=Option.some.inj hv;refine done ?_;cases vd <;> simp [Builtin.len_,ht',run_underlying hst,goInt]
 ·rename_i e hst;obtain rfl:=Option.some.inj hv;refine done ?_;cases vd;simp [Builtin.len_,ht',run_underlying hst,goInt]
 ·rename_i hst;obtain rfl:=Option.some.inj hv;refine done ?_;cases vd;simp [Builtin.len_,ht',run_underlying hst,goInt]
 ·rename_i rr hst
  split at hv
  ·rename_i es hg;obtain rfl:=Option.some.inj hv;cases vd with
   | m hb =>
    obtain ⟨en,ck,m1,m2,m3⟩:=r.blk _ _ _ hb hg;refine done ?_;simp [Builtin.len_,ht',run_underlying hst,goInt,getObj,Sem.run,m1,m2]
  ·cases hv
 ·rename_i ad hst
  split at hv
  ·rename_i n e hst2;obtain rfl:=Option.some.inj hv;refine done ?_;cases vd;simp [Builtin.len_,ht',run_underlying hst,run_underlying hst2,goInt]
  ·cases hv
 ·cases hv
theorem sim_capB {o:Oper} {xs:Array Operand} {ats:Array TypeId} {d:Val} {v:Val} (ho:o.op = .call { callee:=.builtin .cap,args:=xs,argTypes:=ats }) (r:Rel ρ h w) (hE:EnvR ρ env a) (hl:evL env xs.toList=some [d]) (hv:capB P ats.toList d=some v) :
  OpR P ρ h w a o v h:=by
 obtain ⟨d',hargs,vd⟩:=map1 hE hl;unfold capB at hv;rw [Option.bind_eq_some_iff] at hv;obtain ⟨t,ht,hv⟩:=hv;have ht':ats[0]? = some t:=by simpa using ht
 split at hv
 ·rename_i e b n k hst;obtain rfl:=Option.some.inj hv;have e1:(Builtin.cap_ ats o.type #[d']).run P w = .ok (.int .i64 k) w:=by
   cases vd <;> simp [Builtin.cap_,ht',run_underlying hst,goInt]
  refine OpR.val r (zrj ho (u:=.value (.int .i64 k)) ?_) (VR.i _ _);rw [hargs];simp only [builtin,Sem.run_bind,e1,Result.andThen_ok,Sem.run_pure]
 ·cases hv
theorem sim_mm {mx:Bool}:∀ {l:List Val} {us:List Value} {x:Val} {u:Value} {v:Val},l.foldlM (mm2 mx) x=some v→VRL ρ l us→VR ρ x u → ∃ u',(us.foldlM (if mx then Builtin.max2 else Builtin.min2) u:Sem Value).run P w = .ok u' w∧VR ρ v u'
 | [],us,x,u,v,hf,hr,hx=>by
  have:us=[]:=List.eq_nil_of_length_eq_zero hr.1.symm;subst this;simp at hf;subst hf;exact ⟨u,by simp,hx⟩
 | y::l,[],x,u,v,hf,hr,hx=>by have:=hr.1;simp at this
 | y::l,u2::us,x,u,v,hf,hr,hx=>by
  simp only [List.foldlM_cons,Option.bind_eq_bind,Option.bind_eq_some_iff] at hf;obtain ⟨m,h1,h2⟩:=hf;unfold mm2 at h1
  split at h1
  ·split at h1
   ·rename_i hk;subst hk;obtain rfl:=Option.some.inj h1;have hy:=hr.head;cases hx;cases hy;obtain ⟨u',e1,e2⟩:=sim_mm h2 hr.tail (VR.i _ _);refine ⟨u',?_,e2⟩;cases mx <;> simpa [Builtin.max2,Builtin.min2] using e1
   ·cases h1
  ·cases h1
theorem sim_mmB {o:Oper} {xs:Array Operand} {ats:Array TypeId} {vs:List Val} {v:Val} {mx:Bool} (ho:o.op = .call { callee:=.builtin (if mx then .max else .min),args:=xs,argTypes:=ats }) (r:Rel ρ h w) (hE:EnvR ρ env a) (hl:evL env xs.toList=some vs) (hv:mmB mx vs=some v) :
  OpR P ρ h w a o v h:=by
 have hr:=evL_VR hE hl;have hmap:(xs.map a.eval).toList=xs.toList.map a.eval:=by simp
 generalize xs.toList.map a.eval=us at hr hmap;unfold mmB at hv;cases vs with
 | nil=>cases hv
 | cons x l =>
  cases us with
  | nil=>have:=hr.1;simp at this
  | cons u us =>
   obtain ⟨u',e1,e2⟩:=sim_mm (P:=P) (w:=w) hv hr.tail hr.head;refine OpR.val r (zrj ho (u:=.value u') ?_) e2;cases mx
   ·simp only [Bool.false_eq_true,if_false] at e1 ⊢;simp only [builtin,Builtin.min_,hmap,Sem.run_bind,e1,Result.andThen_ok,Sem.run_pure]
   ·simp only [if_true] at e1 ⊢;simp only [builtin,Builtin.max_,hmap,Sem.run_bind,e1,Result.andThen_ok,Sem.run_pure]
end
end Go.V
end
section
namespace Go.V
section
variable {P:Program} {ρ:Ren} {h:Hp} {w:World} {env:Env} {a:Act}
theorem Rel.newMap (r:Rel ρ h w):Rel (ρ.put h.next ⟨w.heap.size,0,0,0,0⟩) (h.new (.map [])) (w.alloc (.map #[] 0))∧Ext ρ h w (ρ.put h.next ⟨w.heap.size,0,0,0,0⟩) (h.new (.map [])) (w.alloc (.map #[] 0)):=by
 have hfree:=r.free;have hle:=Ren.le_put (ρ:=ρ) (b:=h.next) ⟨w.heap.size,0,0,0,0⟩ hfree;have hput:∀ b i,(ρ.put h.next ⟨w.heap.size,0,0,0,0⟩) b=some i→(b=h.next∧i=⟨w.heap.size,0,0,0,0⟩)∨(b≠h.next∧ρ b=some i):=fun b i e=>by
  unfold Ren.put at e
  split at e
  ·rename_i hb;exact .inl ⟨hb,(Option.some.inj e).symm⟩
  ·rename_i hb;exact .inr ⟨hb,e⟩
 have hold:∀ g,g < w.heap.size→(w.alloc (.map #[] 0)).heap[g]? = w.heap[g]?:=fun g hg=>by
  show (w.heap.push _)[g]? = _;rw [Array.getElem?_push,if_neg (Nat.ne_of_lt hg)]
 have hnew:(w.alloc (.map #[] 0)).heap[w.heap.size]? = some (.map #[] 0):=by
  show (w.heap.push _)[w.heap.size]? = _;rw [Array.getElem?_push,if_pos rfl]
 refine ⟨⟨fun b i e=>?_,fun b i B e f=>?_,fun b b' i i' e e' l l' hg=>?_,fun k hk=>by
   have hk':h.next+1≤k:=hk;rw [Hp.get_new,if_neg (by omega)];exact r.wf k (by omega)⟩,hle,Nat.le_succ _,fun b hb hl=>⟨?_,?_⟩,by simp,fun g hg hn=>⟨hold g hg,fun b i e q=>?_⟩,rfl,rfl,rfl,Nat.le_refl _⟩
 ·rcases hput b i e with ⟨rfl,rfl⟩ | ⟨_,e⟩
  ·exact ⟨Nat.lt_succ_self _,by simp⟩
  ·have:=r.dom b i e;exact ⟨Nat.lt_succ_of_lt this.1,by simp;omega⟩
 ·rcases hput b i e with ⟨rfl,rfl⟩ | ⟨hb,e⟩
  ·rw [Hp.get_new,if_pos rfl] at f;obtain rfl:=Option.some.inj f;exact ⟨#[],0,hnew,rfl,fun j k v hj=>by simp at hj⟩
  ·rw [Hp.get_new,if_neg hb] at f;exact (r.blk b i B e f).congr hle (hold _ (r.dom b i e).2)
 ·have lv:∀ (p:Blk→Bool) b,b≠h.next→has p (h.new (.map [])) b→has p h b:=fun p b hb ⟨B,a,q⟩=>⟨B,by rw [Hp.get_new,if_neg hb] at a;exact a,q⟩
  rcases hput b i e with ⟨rfl,rfl⟩ | ⟨hb,e⟩ <;> rcases hput b' i' e' with ⟨rfl,rfl⟩ | ⟨hb',e'⟩
  ·rfl
  ·have:=(r.dom b' i' e').2;simp only at hg;omega
  ·have:=(r.dom b i e).2;simp only at hg;omega
  ·exact r.inj b b' i i' e e' (lv _ b hb l) (lv _ b' hb' l') hg
 ·unfold Ren.put;rw [if_neg (by omega)];exact hb
 ·rw [Hp.get_new,if_neg (by omega)]
 ·rcases hput b i e with ⟨rfl,rfl⟩ | ⟨hb,e⟩
  ·simp;omega
  ·obtain ⟨B,q1,q2⟩:=q;exact hn b i e ⟨B,by rw [Hp.get_new,if_neg hb] at q1;exact q1,q2⟩
theorem Rel.setMap (r:Rel ρ h w) {b:Nat} {i:Info} {es es':List (Val × Val)} {en':Array MapEntry} {ck':Nat} (hb:ρ b=some i) (hg:h.get b=some (.map es)) (hlen:en'.size=es'.length) (hr:∀ (j:Nat) (k v:Val),es'[j]? = some (k,v) → ∃ e:MapEntry,en'[j]? = some e∧VR ρ k e.key∧VR ρ v e.val) :
  Rel ρ (h.set b (.map es')) { w with heap:=w.heap.setIfInBounds i.g (.map en' ck') }∧Ext ρ h w ρ (h.set b (.map es')) { w with heap:=w.heap.setIfInBounds i.g (.map en' ck') }:=by
 have hd:=r.dom b i hb;have hold:∀ g,g≠i.g→(w.heap.setIfInBounds i.g (.map en' ck'))[g]? = w.heap[g]?:=fun g hg=>by
  rw [Array.getElem?_setIfInBounds,if_neg (fun e=>hg e.symm)]
 have hnew:(w.heap.setIfInBounds i.g (.map en' ck'))[i.g]? = some (.map en' ck'):=by
  rw [Array.getElem?_setIfInBounds,if_pos rfl,if_pos hd.2]
 have lv:∀ (p:Blk→Bool),p (.map es')=p (.map es) → ∀ k,has p (h.set b (.map es')) k→has p h k:=fun p hp k ⟨B,q1,q2⟩=>by
  rw [Hp.get_set] at q1
  split at q1
  ·rename_i e;subst e;obtain rfl:=Option.some.inj q1;exact ⟨_,hg,by rw [← hp];exact q2⟩
  ·exact ⟨B,q1,q2⟩
 refine ⟨⟨fun b' i' e=>by have:=r.dom b' i' e;exact ⟨this.1,by simpa using this.2⟩,fun b' i' B' e f=>?_,fun b1 b2 i1 i2 e1 e2 l1 l2=>r.inj b1 b2 i1 i2 e1 e2 (lv _ rfl _ l1) (lv _ rfl _ l2),fun k hk=>by
   have hk':h.next≤k:=hk;rw [Hp.get_set,if_neg (by omega)];exact r.wf k hk'⟩,Ren.le.refl _,Nat.le_refl _,fun b' hb' hl=>⟨hb',?_⟩,by simp,fun g hg' hn=>⟨hold g (fun e=>hn b i hb ⟨_,hg,rfl⟩ e.symm),fun b' i' e q=>hn b' i' e (lv _ rfl _ q)⟩,rfl,rfl,rfl,Nat.le_refl _⟩
 ·rw [Hp.get_set] at f
  split at f
  ·rename_i e2;subst e2;rw [hb] at e;obtain rfl:=Option.some.inj e;obtain rfl:=Option.some.inj f;exact ⟨en',ck',hnew,hlen,hr⟩
  ·rename_i hbb;have hB:=r.blk b' i' B' e f;cases B' with
   | dead=>trivial
   | cells z c=>exact hB.congr (Ren.le.refl _) (hold _ (fun eg=>hbb (r.inj b' b i' i e hb ⟨_,f,by simp⟩ ⟨_,hg,by simp⟩ eg)))
   | ro c=>exact hB.congr (Ren.le.refl _) (hold _ (fun eg=>hbb (r.inj b' b i' i e hb ⟨_,f,by simp⟩ ⟨_,hg,by simp⟩ eg)))
   | map es=>exact hB.congr (Ren.le.refl _) (hold _ (fun eg=>hbb (r.inj b' b i' i e hb ⟨_,f,by simp⟩ ⟨_,hg,by simp⟩ eg)))
 ·rw [Hp.get_set,if_neg (fun e=>by rw [e,hb] at hb';cases hb')]
theorem sameNow_eq {kt:TypeId} {d:TypeDesc} {k k':Val} {u u':Value} (hd:P.underlying kt=some d) (h1:keyT P kt k=true) (h2:keyT P kt k' = true) (v1:VR ρ k u) (v2:VR ρ k' u'):Instr.sameNow d u u' = some (zos k k'):=by
 unfold keyT at h1
 split at h1
 ·rename_i j q n hu;rw [hu] at hd;obtain rfl:=Option.some.inj hd;unfold keyT at h2;rw [hu] at h2
  split at h2
  ·rename_i j2 q2 n2 e1;obtain rfl:j=j2:=by injection e1 with e1;injection e1
   cases v1;cases v2;have a1:q=j:=by simpa using h1
   have a2:q2=j:=by simpa using h2
   subst a1;subst a2;simp [Instr.sameNow,zos,eq1]
  ·rename_i e1;cases e1
  ·rename_i e1;cases e1
  ·cases h2
 ·rename_i s hu;rw [hu] at hd;obtain rfl:=Option.some.inj hd;unfold keyT at h2;rw [hu] at h2
  split at h2
  ·rename_i e1;cases e1
  ·cases v1;cases v2;simp only [Instr.sameNow,zee,zos,eq1,beq_toListBytes,zjt]
  ·rename_i e1;cases e1
  ·cases h2
 ·rename_i s hu;rw [hu] at hd;obtain rfl:=Option.some.inj hd;unfold keyT at h2;rw [hu] at h2
  split at h2
  ·rename_i e1;cases e1
  ·rename_i e1;cases e1
  ·cases v1;cases v2;rfl
  ·cases h2
 ·cases h1
theorem sameBits_eq {kt:TypeId} {k k':Val} {u u':Value} (h1:keyT P kt k=true) (h2:keyT P kt k' = true) (v1:VR ρ k u) (v2:VR ρ k' u') (he:zos k k' = true) (n:Nat):Instr.sameBits n u' u=true:=by
 cases v1 <;> first | (simp [zos,eq1] at he;done) | skip
 all_goals (cases v2 <;> first | (simp [zos,eq1] at he;done) | skip)
 ·simp only [zos,eq1,beq_iff_eq] at he;subst he;simp [Instr.sameBits]
 ·simp only [zos,eq1,Bool.and_eq_true,beq_iff_eq] at he;obtain ⟨rfl,rfl⟩:=he;simp [Instr.sameBits]
 ·simp only [zos,eq1,beq_iff_eq] at he;subst he;simp only [Instr.sameBits,zee,beq_toListBytes];simp
theorem check_key {kt:TypeId} {k:Val} {u:Value} (h1:keyT P kt k=true) (v1:VR ρ k u) (e:Bool) (n:Nat) (w:World):(Instr.checkKey e (n+1) kt u).run P w = .ok () w:=by
 unfold keyT at h1
 split at h1
 ·cases v1;rw [Instr.checkKey];simp [run_underlying (by assumption)]
 ·cases v1;rw [Instr.checkKey];simp [run_underlying (by assumption),zee]
 ·cases v1;rw [Instr.checkKey];simp [run_underlying (by assumption)]
 ·cases h1
theorem find_now {kt:TypeId} {d:TypeDesc} {k:Val} {u:Value} (hd:P.underlying kt=some d) (h1:keyT P kt k=true) (v1:VR ρ k u):∀ (es:List (Val × Val)) (en:List MapEntry) (i:Nat),en.length=es.length→(es.all fun e=>keyT P kt e.1)=true →
  (∀ (j:Nat) (k v:Val),es[j]? = some (k,v) → ∃ e:MapEntry,en[j]? = some e∧VR ρ k e.key∧VR ρ v e.val) →
  (zmt k es=none∧Instr.findNow d u en i=some none ∧ ∀ x,updV k x es=es++[(k,x)]) ∨ ∃ j e v k',zmt k es=some v∧en[j]? = some e∧VR ρ v e.val∧Instr.findNow d u en i=some (some (i+j,e.val))∧es[j]? = some (k',v)∧zos k k' = true∧keyT P kt k' = true∧VR ρ k' e.key ∧ ∀ x,updV k x es=es.set j (k,x):=by
 intro es
 induction es with
 | nil =>
  intro en i hl hk hr;have:en=[]:=List.eq_nil_of_length_eq_zero hl;subst this;exact .inl ⟨rfl,rfl,fun x=>rfl⟩
 | cons e es ih =>
  intro en i hl hk hr;obtain ⟨k',v⟩:=e;cases en with
  | nil=>simp at hl
  | cons m en =>
   simp only [List.all_cons,Bool.and_eq_true] at hk;obtain ⟨m',hm,r1,r2⟩:=hr 0 k' v rfl;simp at hm;subst hm;have hs:=sameNow_eq hd h1 hk.1 v1 r1;cases he:zos k k' with
   | true =>
    refine .inr ⟨0,m,v,k',by simp [zmt,he],rfl,r2,by simp [Instr.findNow,hs,he],rfl,he,hk.1,r1,fun x=>by simp [updV,he]⟩
   | false =>
    rcases ih en (i+1) (by simpa using hl) hk.2 (fun j k v hj=>hr (j+1) k v (by simpa using hj)) with ⟨q1,q2,q3⟩ | ⟨j,e,v',k2,q1,q2,q3,q4,q5,q6,q7,q8,q9⟩
    ·exact .inl ⟨by simp [zmt,he,q1],by simp [Instr.findNow,hs,he,q2],fun x=>by simp [updV,he,q3]⟩
    ·exact .inr ⟨j+1,e,v',k2,by simp [zmt,he,q1],by simpa using q2,q3,by simp [Instr.findNow,hs,he,q4];omega,by simpa using q5,q6,q7,q8,fun x=>by simp [updV,he,q9]⟩
theorem keyT_und {kt:TypeId} {k:Val} (h1:keyT P kt k=true):∃ d,P.underlying kt=some d:=by
 unfold keyT at h1
 split at h1 <;> first | exact ⟨_,by assumption⟩ | cases h1
theorem sim_lookup {o:Oper} {t:TypeId} {x y:Operand} {ok:Bool} {m k v:Val} (ho:o.op = .lookup t x y ok) (r:Rel ρ h w) (hE:EnvR ρ env a) (hx:evO env x=some m) (hy:evO env y=some k) (hv:lookV P h t m k ok=some v):OpR P ρ h w a o v h:=by
 have v1:=zen hE hx;have v2:=zen hE hy;generalize hu1:a.eval x=u1 at v1;generalize hu2:a.eval y=u2 at v2;have hrun:∀ {u:Value},(Instr.lookup t u1 u2 ok).run P w = .ok u w→(execOp a.eval o).run P w = .ok (.value u) w:=fun h2=>by
  simp only [execOp,ho,hu1,hu2,Sem.run_bind,Result.andThen_ok,h2,Sem.run_pure]
 unfold lookV at hv
 split at hv
 ·rename_i kt vt hst
  split at hv
  ·rename_i hk;rw [Option.bind_eq_some_iff] at hv;obtain ⟨es,hes,hv⟩:=hv;rw [Option.bind_eq_some_iff] at hv;obtain ⟨zero,hz,hv⟩:=hv;obtain ⟨i,zu,i1,i2,i3⟩:=zfx hz;have hzr:=zsw (ρ:=ρ) i3;obtain ⟨d,hd⟩:=keyT_und hk;have hchk:=fun e=>check_key (P:=P) hk v2 e 9999 w;obtain ⟨en,g1,g2,g3,g4⟩:∃ en:Array MapEntry,(u1 = .map none∧en = #[] ∨ ∃ g ck,u1 = .map (some g)∧(getObj g).run P w = .ok (.map en ck) w)∧en.size=es.length∧(es.all fun e=>keyT P kt e.1)=true ∧
     (∀ (j:Nat) (k v:Val),es[j]? = some (k,v) → ∃ e:MapEntry,en[j]? = some e∧VR ρ k e.key∧VR ρ v e.val):=by
    cases v1 <;> simp only [Option.some.injEq,reduceCtorEq] at hes
    ·subst hes;exact ⟨#[],.inl ⟨rfl,rfl⟩,rfl,rfl,fun j k v h=>by simp at h⟩
    ·rename_i r' i' hb
     split at hes
     ·rename_i es' hg
      split at hes
      ·rename_i hall;obtain rfl:=Option.some.inj hes;obtain ⟨en,ck,m1,m2,m3⟩:=r.blk _ _ _ hb hg;exact ⟨en,.inr ⟨_,ck,rfl,by simp [getObj,Sem.run,m1]⟩,m2,hall,m3⟩
      ·cases hes
     ·cases hes
   have hfind:=find_now hd hk v2 es en.toList 0 (by simpa using g2) g3 (fun j k v hj=>by obtain ⟨e,a1,a2⟩:=g4 j k v hj;exact ⟨e,by simpa using a1,a2⟩);obtain ⟨q,hq⟩:∃ q:Val × Bool,q=(match zmt k es with | some v=>(v,true) | none=>(zero,false)):=⟨_,rfl⟩
   have hrunf:∃ u:Value,VR ρ q.1 u∧(do
     let es ← pure en
     Instr.checkKey es.isEmpty 10000 kt u2
     let (v,ok') ← match ← Instr.findKey kt u2 es.toList with
      | some (_,v)=>pure (v,true)
      | none=>pure (← zeroValue vt,false)
     pure (if ok then Value.tuple #[v,.bool ok'] else v):Sem Value).run P w = .ok (if ok then Value.tuple #[u,.bool q.2] else u) w:=by
    rcases hfind with ⟨q1,q2,q3⟩ | ⟨j,e,v',k2,q1,q2,q3,q4,q5,q6,q7,q8,q9⟩
    ·rw [q1] at hq;subst hq;refine ⟨zu,hzr,?_⟩;simp only [Sem.run_bind,Sem.run_pure,Result.andThen_ok,hchk,Instr.findKey,run_underlying hd w,q2,zji i1 i2 w]
    ·rw [q1] at hq;subst hq;refine ⟨e.val,q3,?_⟩;simp only [Sem.run_bind,Sem.run_pure,Result.andThen_ok,hchk,Instr.findKey,run_underlying hd w,q4]
   obtain ⟨u,hu,hrunf⟩:=hrunf;have hv2:v=if ok then .tup [q.1,.b q.2] else q.1:=by rw [hq];exact (Option.some.inj hv).symm
   refine OpR.val r (hrun (u:=if ok then Value.tuple #[u,.bool q.2] else u) ?_) ?_
   ·simp only [Sem.run_bind,Sem.run_pure,Result.andThen_ok] at hrunf;rcases g1 with ⟨rfl,rfl⟩ | ⟨g,ck,rfl,g1⟩
    ·simp only [Instr.lookup,Sem.run_bind,run_underlying hst w,Result.andThen_ok,Sem.run_pure];exact hrunf
    ·simp only [Instr.lookup,Sem.run_bind,run_underlying hst w,Result.andThen_ok,g1,Sem.run_pure];exact hrunf
   ·rw [hv2];cases ok
    ·exact hu
    ·have h3:=(VRL.nil (ρ:=ρ).cons (VR.b q.2)).cons hu;exact VR.tup h3.1 h3.2
  ·cases hv
 ·cases hv
end
end Go.V
end
section
namespace Go.V
section
variable {P:Program} {ρ:Ren} {h:Hp} {w:World} {env:Env} {a:Act}
theorem sim_mapUpd {o:Oper} {t:TypeId} {x y z:Operand} {m k v:Val} {h':Hp} (ho:o.op = .mapUpdate t x y z) (r:Rel ρ h w) (hE:EnvR ρ env a) (hx:evO env x=some m) (hy:evO env y=some k) (hz:evO env z=some v) (hv:zue P h t m k v=some h'):OpR P ρ h w a o .no h':=by
 have v1:=zen hE hx;have v2:=zen hE hy;have v3:=zen hE hz;generalize hu1:a.eval x=u1 at v1;generalize hu2:a.eval y=u2 at v2;generalize hu3:a.eval z=u3 at v3;have hrun:∀ {w':World},(Instr.mapUpdate t u1 u2 u3).run P w = .ok () w' → (execOp a.eval o).run P w = .ok .skip w':=fun h2=>by
  simp only [execOp,ho,hu1,hu2,hu3,Sem.run_bind,Result.andThen_ok,h2,Sem.run_pure]
 unfold zue at hv
 split at hv
 ·rename_i kt vt r' hst
  split at hv
  ·rename_i es hg
   split at hv
   ·rename_i hc;obtain ⟨hk,hall⟩:=hc;obtain rfl:=Option.some.inj hv;cases v1 with
    | m hb =>
     rename_i i';obtain ⟨en,ck,m1,m2,m3⟩:=r.blk _ _ _ hb hg;obtain ⟨d,hd⟩:=keyT_und hk;have hchk:=fun e=>check_key (P:=P) hk v2 e 9999 w;have hgo:(getObj i'.g).run P w = .ok (.map en ck) w:=by simp [getObj,Sem.run,m1]
     have hso:∀ (es:Array MapEntry) (c:Nat),(setObj i'.g (.map es c)).run P w = .ok () { w with heap:=w.heap.setIfInBounds i'.g (.map es c) }:=fun es c=>by simp [setObj,Sem.run,m1]
     rcases find_now hd hk v2 es en.toList 0 (by simpa using m2) hall (fun j k v hj=>by obtain ⟨e,a1,a2⟩:=m3 j k v hj;exact ⟨e,by simpa using a1,a2⟩) with ⟨q1,q2,q3⟩ | ⟨j,e,v',k2,q1,q2,q3,q4,q5,q6,q7,q8,q9⟩
     ·obtain ⟨s1,s2⟩:=r.setMap (es':=updV k v es) (en':=en.push { key:=u2,val:=u3,born:=ck }) (ck':=ck+1) hb hg (by rw [q3];simp [m2]) (fun j k' v' hj=>by
       rw [q3] at hj
       by_cases hjl:j < es.length
       ·rw [List.getElem?_append_left hjl] at hj;obtain ⟨e,a1,a2⟩:=m3 j k' v' hj;exact ⟨e,by rw [Array.getElem?_push,if_neg (by omega)];exact a1,a2⟩
       ·rw [List.getElem?_append_right (by omega)] at hj;have hj0:j=es.length:=by
         have:=(List.getElem?_eq_some_iff.1 hj).1;simp at this;omega
        subst hj0;simp at hj;obtain ⟨rfl,rfl⟩:=hj;exact ⟨_,by rw [Array.getElem?_push,if_pos m2.symm],v2,v3⟩)
      refine ⟨ρ,_,_,undef,hrun ?_,.inr ⟨rfl,rfl⟩,VR.none0,s1,s2⟩;simp only [Instr.mapUpdate,Sem.run_bind,run_underlying hst w,Result.andThen_ok,hgo,hchk,Instr.findKey,run_underlying hd w,q2,Sem.run_pure,hso]
     ·rw [Nat.zero_add] at q4;have hjl:=(List.getElem?_eq_some_iff.1 q5).1;have q2':en[j]? = some e:=by simpa using q2
      obtain ⟨s1,s2⟩:=r.setMap (es':=updV k v es) (en':=en.modify j fun e=>{ e with key:=u2,val:=u3 }) (ck':=ck) hb hg (by rw [q9];simp [m2]) (fun j' k' v' hj=>by
       rw [q9,List.getElem?_set] at hj
       split at hj
       ·rename_i ej;subst ej;simp only [hjl,if_true,Option.some.injEq,Prod.mk.injEq] at hj;obtain ⟨rfl,rfl⟩:=hj;exact ⟨{ e with key:=u2,val:=u3 },by rw [Array.getElem?_modify,if_pos rfl,q2'];rfl,v2,v3⟩
       ·rename_i ej;obtain ⟨e',a1,a2⟩:=m3 j' k' v' hj;exact ⟨e',by rw [Array.getElem?_modify,if_neg ej];exact a1,a2⟩)
      refine ⟨ρ,_,_,undef,hrun ?_,.inr ⟨rfl,rfl⟩,VR.none0,s1,s2⟩;have hkts:(Instr.keyThatStays (((en[j]?).map (·.key)).getD u2) u2).run P w = .ok u2 w:=by
       simp only [q2',Option.map_some,Option.getD_some,Instr.keyThatStays];rw [if_pos (sameBits_eq hk q7 v2 q8 q6 10000)];rfl
      simp only [Instr.mapUpdate,Sem.run_bind,run_underlying hst w,Result.andThen_ok,hgo,hchk,Instr.findKey,run_underlying hd w,q4,Sem.run_pure,hkts,hso]
   ·cases hv
  ·cases hv
 ·cases hv
theorem sim_makeMap {o:Oper} {t:TypeId} {x:Option Operand} {v:Val} {h':Hp} (ho:o.op = .makeMap t x) (r:Rel ρ h w) (hE:EnvR ρ env a) (hv:op1 P env h o.op=some (v,h')):OpR P ρ h w a o v h':=by
 rw [ho] at hv;obtain ⟨s1,s2⟩:=r.newMap;have hnew:(newObj (.map #[] 0)).run P w = .ok w.heap.size (w.alloc (.map #[] 0)):=rfl;cases x with
 | none =>
  simp only [op1,Option.some.injEq,Prod.mk.injEq] at hv;obtain ⟨rfl,rfl⟩:=hv;refine ⟨_,_,_,.map (some w.heap.size),?_,.inl rfl,VR.m (zju _ _),s1,s2⟩;simp only [execOp,ho,Instr.makeMap,Option.map_none,Sem.run_bind,Sem.run_pure,Result.andThen_ok,hnew]
 | some x =>
  simp only [op1] at hv;rw [Option.bind_eq_some_iff] at hv;obtain ⟨p,hp,hv⟩:=hv
  split at hv
  ·rename_i kt vt k n hst;simp only [Option.some.injEq,Prod.mk.injEq] at hv;obtain ⟨rfl,rfl⟩:=hv;have v1:=zen hE hp;generalize hu1:a.eval x=u1 at v1;cases v1;refine ⟨_,_,_,.map (some w.heap.size),?_,.inl rfl,VR.m (zju _ _),s1,s2⟩;simp only [execOp,ho,Instr.makeMap,Option.map_some,hu1,asInt,asIntOf,Sem.run_bind,run_underlying hst w,Sem.run_pure,Result.andThen_ok,hnew]
  ·cases hv
theorem zxz:∀ {c:List Val} {us:List Value} {s:List UInt8},zog c=some s→VRL ρ c us → ∃ ns:List Int,us=ns.map (Value.int .u8)∧s=ns.map fun n=>UInt8.ofNat n.toNat
 | [],us,s,hb,hr=>by
  have:us=[]:=List.eq_nil_of_length_eq_zero hr.1.symm;subst this;simp [zog] at hb;subst hb;exact ⟨[],rfl,rfl⟩
 | c::cs,[],s,hb,hr=>by have:=hr.1;simp at this
 | c::cs,u::us,s,hb,hr=>by
  unfold zog at hb
  split at hb
  ·cases ‹c::cs=[]›
  ·rename_i n r' e1;injection e1 with e1 e2;subst e1;subst e2;obtain ⟨l,h1,rfl⟩:=Option.map_eq_some_iff.1 hb;have h2:=hr.head;cases h2;obtain ⟨ns,rfl,rfl⟩:=zxz h1 hr.tail;exact ⟨n::ns,rfl,rfl⟩
  ·cases hb
theorem zul (g C1:Nat) (w:World) (k:Nat) (hk:k≠g):(w.freeze ⟨g,C1,none⟩ 1).heap[k]? = w.heap[k]?:=by
 unfold World.freeze;rw [if_neg (by decide)];simp only [Array.getElem?_modify];rw [if_neg (fun e=>hk e.symm)]
theorem freeze_at {g lo hi:Nat} {C:Array Value} {e:TypeId} {w:World} (hc:w.heap[g]? = some (.cells C e (lo,hi))):(w.freeze ⟨g,C.size,none⟩ 1).heap[g]? = some (.cells C e (if lo == hi then (C.size,C.size+1) else (min lo C.size,max hi (C.size+1)))):=by
 unfold World.freeze;rw [if_neg (by decide)];simp only [Array.getElem?_modify,if_true,hc,Option.map_some]
theorem zuk (g C1:Nat) (w:World):(w.freeze ⟨g,C1,none⟩ 1).heap.size=w.heap.size:=by
 unfold World.freeze;rw [if_neg (by decide)];simp
theorem freeze_os (g C1:Nat) (w:World):(w.freeze ⟨g,C1,none⟩ 1).os=w.os∧(w.freeze ⟨g,C1,none⟩ 1).tape=w.tape∧(w.freeze ⟨g,C1,none⟩ 1).output=w.output∧(w.freeze ⟨g,C1,none⟩ 1).drawn=w.drawn:=by
 unfold World.freeze;rw [if_neg (by decide)];exact ⟨rfl,rfl,rfl,rfl⟩
theorem Rel.mark (r:Rel ρ h w) {b:Nat} {i:Info} (hb:ρ b=some i) (hown:own h b) (hz1:∀ z c,h.get b=some (.cells z c)→z=1) (C:Array Value) (e:TypeId) (lo hi:Nat) (hc:w.heap[i.g]? = some (.cells C e (lo,hi))) :
  Rel ρ h (w.freeze ⟨i.g,C.size,none⟩ 1)∧Ext ρ h w ρ h (w.freeze ⟨i.g,C.size,none⟩ 1):=by
 obtain ⟨o1,o2,o3,o4⟩:=freeze_os i.g C.size w;refine ⟨⟨fun b' i' e'=>by rw [zuk];exact r.dom b' i' e',fun b' i' B' e' f=>?_,r.inj,r.wf⟩,Ren.le.refl _,Nat.le_refl _,fun b' hb' hl=>⟨hb',rfl⟩,by rw [zuk];exact Nat.le_refl _,fun g hg hn=>⟨zul _ _ _ _ (fun e=>hn b i hb hown e.symm),hn⟩,o1,o2,o3,by rw [o4];exact Nat.le_refl _⟩;have hB:=r.blk b' i' B' e' f
 by_cases hg:i'.g=i.g
 ·cases B' with
  | dead=>trivial
  | ro c =>
   obtain ⟨h4,h6⟩:=hB;have hat:=freeze_at hc;have zfj:∀ o,(w.freeze ⟨i.g,C.size,none⟩ 1).cell? ⟨i'.g,o,none⟩=w.cell? ⟨i'.g,o,none⟩:=fun o=>by
    simp only [World.cell?,hg,hat,hc]
   exact ⟨h4,fun j u hj=>by rw [zfj];exact h6 j u hj⟩
  | map es =>
   obtain ⟨en,ck,h1,_⟩:=hB;rw [hg,hc] at h1;cases h1
  | cells z c =>
   obtain ⟨h1,h2,h3,h4,h5,h6⟩:=hB;have hat:=freeze_at hc;have zfj:∀ o,(w.freeze ⟨i.g,C.size,none⟩ 1).cell? ⟨i'.g,o,none⟩=w.cell? ⟨i'.g,o,none⟩:=fun o=>by
    simp only [World.cell?,hg,hat,hc]
   have hN:∀ o,o < i'.N→o < C.size:=fun o ho=>by
    have:=(h5.1 o ho).1;simp only [World.cell?,hg,hc] at this;simpa using this
   have hfz:=h5.2.1 C e (lo,hi) (by rw [hg];exact hc);refine ⟨h1,h2,h3,h4,⟨fun o ho=>⟨by rw [zfj];exact (h5.1 o ho).1,?_⟩,⟨fun c' e2 fz hf=>?_,fun o u hq=>by rw [zfj] at hq;exact h5.2.2.1 o u hq,fun hzz=>absurd (hz1 z c (by rw [← r.inj b' b i' i e' hb ⟨_,f,by simp⟩ hown hg];exact f)) hzz⟩⟩,fun j u hj=>by rw [zfj];exact h6 j u hj⟩
   ·have hno:=(h5.1 o ho).2;have hos:=hN o ho;simp only [World.frozen?,hg,hat]
    by_cases hlh:lo=hi
    ·simp [hlh];omega
    ·have hlt:lo < hi:=by simp only at hfz;omega
     have hNlo:¬ lo < i'.N:=fun hq=>by
      have:=(h5.1 lo hq).2;simp [World.frozen?,hg,hc,hlt] at this
     have:(lo == hi)=false:=by simpa using hlh
     rw [this];simp;omega
   ·rw [hg,hat] at hf;obtain ⟨_,_,rfl⟩:=Obj.cells.inj (Option.some.inj hf);simp only at hfz
    split
    ·simp
    ·simp only;omega
 ·exact hB.congr (Ren.le.refl _) (zul _ _ _ _ hg)
theorem u8T_eq {e:TypeId} (hq:u8T P e=true):P.underlying e=some (.int .u8):=by
 unfold u8T at hq
 split at hq
 ·assumption
 ·cases hq
theorem sim_conv {o:Oper} {s d:TypeId} {x:Operand} {p v:Val} {h':Hp} (ho:o.op = .convert s d x) (r:Rel ρ h w) (hE:EnvR ρ env a) (hx:evO env x=some p) (hv:zkj P h s d p=some (v,h')):OpR P ρ h w a o v h':=by
 have v1:=zen hE hx;generalize hu1:a.eval x=u1 at v1;have hrun:∀ {u:Value} {w':World},(convert s d u1).run P w = .ok u w' → (execOp a.eval o).run P w = .ok (.value u) w':=fun h2=>by
  simp only [execOp,ho,hu1,Sem.run_bind,Result.andThen_ok,h2,Sem.run_pure]
 unfold zkj at hv
 split at hv
 ·rename_i ds k k' n hs hd;simp only [Option.some.injEq,Prod.mk.injEq] at hv;obtain ⟨rfl,rfl⟩:=hv;cases v1;refine OpR.val r (hrun (u:=.int k (k.wrap n)) ?_) (VR.i _ _);cases ds <;> simp [convert,run_underlying hs,run_underlying hd,Conv.intToInt]
 ·rename_i ds sx hs hd;simp only [Option.some.injEq,Prod.mk.injEq] at hv;obtain ⟨rfl,rfl⟩:=hv;cases v1;refine OpR.val r (hrun (u:=zee sx) ?_) (VR.s _);cases ds <;> simp [convert,run_underlying hs,run_underlying hd,zee]
 ·rename_i e sx hs hd
  split at hv
  ·rename_i he
   split at hv
   ·cases hv
   ·rename_i hne;cases v1;have hrb:=run_bytes_of_string (P:=P) w s d e ⟨sx.toArray⟩ hs hd he;have hsz:(⟨sx.toArray⟩:ByteArray).size=sx.length:=by simp [ByteArray.size]
    have hcap:=grownCap_ge w sx.length 0 e;unfold rowV at hv
    split at hv
    ·rename_i h1;simp only [Option.some.injEq,Prod.mk.injEq] at hv;obtain ⟨rfl,rfl⟩:=hv;rw [hsz] at hrb;have hrl:(bytesRow ⟨sx.toArray⟩ (grownCap w sx.length 0 e)).toList=sx.map (fun c=>Value.int .u8 c.toNat)++List.replicate (grownCap w sx.length 0 e - sx.length) (.int .u8 0):=by
      simp [bytesRow,hsz]
     have hlen:(bytesRow ⟨sx.toArray⟩ (grownCap w sx.length 0 e)).size=grownCap w sx.length 0 e:=by
      rw [← Array.length_toList,hrl];simp;omega
     obtain ⟨s1,s2⟩:=r.drew.newCells (z:=1) (cs:=(bytesRow ⟨sx.toArray⟩ (grownCap w sx.length 0 e)).toList) (e:=e) (fz:=((bytesRow ⟨sx.toArray⟩ (grownCap w sx.length 0 e)).size,(bytesRow ⟨sx.toArray⟩ (grownCap w sx.length 0 e)).size+1)) (by simp) (by simp) (fun q=>absurd rfl q) h1 zsm (by have q:=hlen;rw [← Array.length_toList] at q;rw [q];simpa using hcap) (by
      rw [hrl,List.length_map,List.take_left' (by simp)];refine ⟨by simp,fun j u u' p q=>?_⟩;simp only [List.getElem?_map,Option.map_eq_some_iff] at p q;obtain ⟨b,p1,rfl⟩:=p;obtain ⟨b',q1,rfl⟩:=q;rw [p1] at q1;obtain rfl:=Option.some.inj q1;exact .i _ _)
     rw [Array.toArray_toList] at s1 s2;refine ⟨_,_,_,_,hrun hrb,.inl rfl,?_,s1,(Ext.drew ρ h w).trans s2⟩;have:=VR.so (ρ:=ρ.put h.next ⟨w.heap.size,0,1,(sx.map fun c=>Val.i .u8 c.toNat).length,(bytesRow ⟨sx.toArray⟩ (grownCap w sx.length 0 e)).toList.length⟩) (b:=h.next) (o:=0) (len:=sx.length) (c:=grownCap w sx.length 0 e) (zju _ _) hcap (by simp;exact hcap) (by simp [hlen]);simpa using this
    ·cases hv
  ·cases hv
 ·rename_i e1 e2 ad n c hs hd
  split at hv
  ·rename_i cc0 he1 he2 hgb;simp only [Option.some.injEq,Prod.mk.injEq] at hv;obtain ⟨rfl,rfl⟩:=hv;have key:∀ (b off cc:Nat) (i':Info),ρ b=some i' → own h b→(∀ z c,h.get b=some (.cells z c)→z=1)→u1 = .slice (some ⟨i'.g,i'.base+off,none⟩) n cc→VR ρ (.sl (some ad) n c) u1→OpR P ρ h w a o (.sl (some ad) n c) h:=fun b off cc i' hb hown hz1 e1 hvr=>by
    subst e1;have hc:∀ {w':World},(markStringish ⟨i'.g,i'.base+off,none⟩).run P w = .ok () w' → (convert s d (.slice (some ⟨i'.g,i'.base+off,none⟩) n cc)).run P w = .ok (.slice (some ⟨i'.g,i'.base+off,none⟩) n cc) w':=fun hm=>by
     simp only [convert,Sem.run_bind,run_underlying hs w,run_underlying hd w,Result.andThen_ok,run_underlying he2 w,he1,hm,Sem.run_pure]
    cases hw:w.heap[i'.g]? with
    | none =>
     refine OpR.val r (hrun (hc ?_)) hvr;simp [markStringish,shape,Sem.run,World.shape?,hw]
    | some ob =>
     cases ob with
     | cells C e fz =>
      obtain ⟨lo,hi⟩:=fz;obtain ⟨s1,s2⟩:=r.mark hb hown hz1 C e lo hi hw;refine ⟨ρ,_,_,_,hrun (hc (w':=w.freeze ⟨i'.g,C.size,none⟩ 1) ?_),.inl rfl,hvr,s1,s2⟩;simp [markStringish,shape,Sem.run,World.shape?,hw,freeze]
     | _ =>
      refine OpR.val r (hrun (hc ?_)) hvr;simp [markStringish,shape,Sem.run,World.shape?,hw]
   have hv1:=v1;cases v1 with
   | sk hb hk=>exact key _ _ _ _ hb ⟨_,hgb,rfl⟩ (fun z c q=>by rw [hgb] at q;cases q;rfl) rfl hv1
   | so hb hk q1 q2=>exact key _ _ _ _ hb ⟨_,hgb,rfl⟩ (fun z c q=>by rw [hgb] at q;cases q;rfl) rfl hv1
  ·cases hv
 ·rename_i e1 n c hs hd
  split at hv
  case isFalse=>cases hv
  rename_i hu8;have he:=u8T_eq hu8;simp only [Option.some.injEq,Prod.mk.injEq] at hv;obtain ⟨rfl,rfl⟩:=hv;obtain ⟨rfl,rfl,rfl⟩:=zql v1;refine OpR.val r (hrun (u:=zee []) ?_) (VR.s _);rw [run_convert_bytes_string w s d _ _ 0 0 hs he hd];rfl
 ·rename_i e1 hs hd
  split at hv
  case isFalse=>cases hv
  rename_i hu8;have he:=u8T_eq hu8;simp only [Option.some.injEq,Prod.mk.injEq] at hv;obtain ⟨rfl,rfl⟩:=hv;cases v1;rename_i ad c;refine OpR.val r (hrun (u:=zee []) ?_) (VR.s _);rw [run_convert_bytes_string w s d _ _ 0 c hs he hd,run_bytesToString w ad 0 c [] (by simp [loadCells,loadCellsFrom])];rfl
 ·rename_i e1 b off n c hs hd
  split at hv
  ·rename_i he;rw [Option.bind_eq_some_iff] at hv;obtain ⟨cs,hcs,hv⟩:=hv;obtain ⟨bs,hbs,hv⟩:=Option.map_eq_some_iff.1 hv;simp only [Prod.mk.injEq] at hv;obtain ⟨rfl,rfl⟩:=hv;have key:∀ (cc:Nat) (i':Info),ρ b=some i' → u1 = .slice (some ⟨i'.g,i'.base+off,none⟩) n cc→OpR P ρ h w a o (.s bs) h:=fun cc i' hb e1=>by
    subst e1;obtain ⟨us,f1,f2⟩:∃ us,VRL ρ cs us∧(loadCells ⟨i'.g,i'.base+off,none⟩ n).run P w = .ok us.toArray w:=by
     split at hcs
     ·rename_i h0;obtain rfl:=Option.some.inj hcs;subst h0;exact ⟨[],VRL.nil,by simp [loadCells,loadCellsFrom]⟩
     ·obtain ⟨_,us,g1,g2,g3⟩:=r.rd hb hcs;exact ⟨us,g1,by rw [← g2];exact zqc g3⟩
    obtain ⟨ns,rfl,rfl⟩:=zxz hbs f1;refine OpR.val r (hrun (u:=zee (ns.map fun n=>UInt8.ofNat n.toNat)) ?_) (VR.s _);rw [run_convert_bytes_string w s d _ _ n cc hs he hd,run_bytesToString w _ n cc ns f2,foldl_push_bytes];simp [zee,ByteArray.empty,ByteArray.emptyWithCapacity];rfl
   cases v1 with
   | sk hb hk=>exact key _ _ hb rfl
   | so hb hk q1 q2=>exact key _ _ hb rfl
  ·cases hv
 ·cases hv
theorem sim_op1 {o:Oper} {v:Val} {h':Hp} (r:Rel ρ h w) (hE:EnvR ρ env a) (hv:op1 P env h o.op=some (v,h')):OpR P ρ h w a o v h':=by
 have hv0:=hv;generalize ho:o.op=op at hv;cases op <;> simp only [op1,reduceCtorEq] at hv
 case move x =>
  obtain ⟨u,h1,h2⟩:=Option.map_eq_some_iff.1 hv;simp only [Prod.mk.injEq] at h2;obtain ⟨rfl,rfl⟩:=h2;exact sim_move (.inl ho) r hE h1
 case assign x =>
  obtain ⟨u,h1,h2⟩:=Option.map_eq_some_iff.1 hv;simp only [Prod.mk.injEq] at h2;obtain ⟨rfl,rfl⟩:=h2;exact sim_move (.inr ho) r hE h1
 case pick c x y =>
  rw [Option.bind_eq_some_iff] at hv;obtain ⟨p,hp,hv⟩:=hv
  split at hv
  ·obtain ⟨u,h1,h2⟩:=Option.map_eq_some_iff.1 hv;simp only [Prod.mk.injEq] at h2;obtain ⟨rfl,rfl⟩:=h2;exact sim_pick (t:=true) ho r hE hp h1
  ·obtain ⟨u,h1,h2⟩:=Option.map_eq_some_iff.1 hv;simp only [Prod.mk.injEq] at h2;obtain ⟨rfl,rfl⟩:=h2;exact sim_pick (t:=false) ho r hE hp h1
  ·cases hv
 case alloc e =>
  rw [Option.bind_eq_some_iff] at hv;obtain ⟨z,hz,hv⟩:=hv;exact sim_alloc ho r hz hv
 case box e x =>
  rw [Option.bind_eq_some_iff] at hv;obtain ⟨z,hz,hv⟩:=hv;exact sim_box ho r hE hz hv
 case build t ps =>
  rw [Option.bind_eq_some_iff] at hv;obtain ⟨qs,hq,hv⟩:=hv;obtain ⟨u,h1,h2⟩:=Option.map_eq_some_iff.1 hv;simp only [Prod.mk.injEq] at h2;obtain ⟨rfl,rfl⟩:=h2;exact sim_build ho r hE hq h1
 case buildSlice t n ps =>
  rw [Option.bind_eq_some_iff] at hv;obtain ⟨qs,hq,hv⟩:=hv;exact zvf ho r hE hq hv
 case load t x =>
  rw [Option.bind_eq_some_iff] at hv;obtain ⟨p,hp,hv⟩:=hv;obtain ⟨u,h1,h2⟩:=Option.map_eq_some_iff.1 hv;simp only [Prod.mk.injEq] at h2;obtain ⟨rfl,rfl⟩:=h2;exact sim_load ho r hE hp h1
 case store t x y =>
  rw [Option.bind_eq_some_iff] at hv;obtain ⟨p,hp,hv⟩:=hv;rw [Option.bind_eq_some_iff] at hv;obtain ⟨q,hq,hv⟩:=hv;obtain ⟨u,h1,h2⟩:=Option.map_eq_some_iff.1 hv;simp only [Prod.mk.injEq] at h2;obtain ⟨rfl,rfl⟩:=h2;exact sim_store ho r hE hp hq h1
 case nilCheck x =>
  rw [Option.bind_eq_some_iff] at hv;obtain ⟨p,hp,hv⟩:=hv
  split at hv
  ·cases hv
  ·cases hv
  ·cases hv
  ·rename_i n1 n2 n3;simp only [Option.some.injEq,Prod.mk.injEq] at hv;obtain ⟨rfl,rfl⟩:=hv;exact sim_nilCheck ho r hE hp n1 n2 n3
 case binOp op t x y t2 =>
  rw [Option.bind_eq_some_iff] at hv;obtain ⟨p,hp,hv⟩:=hv;rw [Option.bind_eq_some_iff] at hv;obtain ⟨q,hq,hv⟩:=hv;obtain ⟨u,h1,h2⟩:=Option.map_eq_some_iff.1 hv;simp only [Prod.mk.injEq] at h2;obtain ⟨rfl,rfl⟩:=h2;exact sim_bin ho r hE hp hq h1
 case unOp op t x =>
  rw [Option.bind_eq_some_iff] at hv;obtain ⟨p,hp,hv⟩:=hv;obtain ⟨u,h1,h2⟩:=Option.map_eq_some_iff.1 hv;simp only [Prod.mk.injEq] at h2;obtain ⟨rfl,rfl⟩:=h2;exact sim_un ho r hE hp h1
 case convert s d x =>
  rw [Option.bind_eq_some_iff] at hv;obtain ⟨p,hp,hv⟩:=hv;exact sim_conv ho r hE hp hv
 case sliceToArrayPointer t x =>
  rw [Option.bind_eq_some_iff] at hv;obtain ⟨p,hp,hv⟩:=hv
  split at hv
  ·split at hv
   ·split at hv
    ·rename_i hk;simp only [Option.some.injEq,Prod.mk.injEq] at hv;obtain ⟨rfl,rfl⟩:=hv;exact sim_toArr ho r hE hp (by assumption) hk
    ·cases hv
   ·cases hv
  ·cases hv
 case makeFunc f first caps =>
  cases f with
  | func f =>
   simp only at hv
   split at hv
   ·rename_i hf;obtain ⟨u,h1,h2⟩:=Option.map_eq_some_iff.1 hv;simp only [Prod.mk.injEq] at h2;obtain ⟨rfl,rfl⟩:=h2;exact sim_makeFunc ho r hE hf h1
   ·cases hv
  | _=>simp at hv
 case makeMap t x=>exact sim_makeMap ho r hE hv0
 case makeSlice t x y =>
  rw [Option.bind_eq_some_iff] at hv;obtain ⟨p,hp,hv⟩:=hv;rw [Option.bind_eq_some_iff] at hv;obtain ⟨q,hq,hv⟩:=hv;exact zwq ho r hE hp hq hv
 case slice t x lo hi mx =>
  rw [Option.bind_eq_some_iff] at hv;obtain ⟨p,hp,hv⟩:=hv;rw [Option.bind_eq_some_iff] at hv;obtain ⟨q1,hq1,hv⟩:=hv;rw [Option.bind_eq_some_iff] at hv;obtain ⟨q2,hq2,hv⟩:=hv;rw [Option.bind_eq_some_iff] at hv;obtain ⟨q3,hq3,hv⟩:=hv;obtain ⟨u,h1,h2⟩:=Option.map_eq_some_iff.1 hv;simp only [Prod.mk.injEq] at h2;obtain ⟨rfl,rfl⟩:=h2;exact sim_slice ho r hE hp hq1 hq2 hq3 h1
 case fieldAddr s x f =>
  rw [Option.bind_eq_some_iff] at hv;obtain ⟨p,hp,hv⟩:=hv
  split at hv
  ·rw [Option.bind_eq_some_iff] at hv;obtain ⟨fd,hf,hv⟩:=hv;rw [Option.bind_eq_some_iff] at hv;obtain ⟨n,hn,hv⟩:=hv
   split at hv
   ·rename_i h0;simp only [Option.some.injEq,Prod.mk.injEq] at hv;obtain ⟨rfl,rfl⟩:=hv;exact zwr ho r hE hp hf hn h0
   ·cases hv
  ·cases hv
 case field s x f =>
  rw [Option.bind_eq_some_iff] at hv;obtain ⟨p,hp,hv⟩:=hv
  split at hv
  ·rw [Option.bind_eq_some_iff] at hv;obtain ⟨fd,hf,hv⟩:=hv;obtain ⟨u,h1,h2⟩:=Option.map_eq_some_iff.1 hv;simp only [Prod.mk.injEq] at h2;obtain ⟨rfl,rfl⟩:=h2;exact sim_field ho r hE hp hf h1
  ·cases hv
 case indexAddr t x y =>
  rw [Option.bind_eq_some_iff] at hv;obtain ⟨p,hp,hv⟩:=hv;rw [Option.bind_eq_some_iff] at hv;obtain ⟨q,hq,hv⟩:=hv;obtain ⟨u,h1,h2⟩:=Option.map_eq_some_iff.1 hv;simp only [Prod.mk.injEq] at h2;obtain ⟨rfl,rfl⟩:=h2;exact sim_index ho r hE hp hq h1
 case index t x y =>
  rw [Option.bind_eq_some_iff] at hv;obtain ⟨p,hp,hv⟩:=hv;rw [Option.bind_eq_some_iff] at hv;obtain ⟨q,hq,hv⟩:=hv;obtain ⟨u,h1,h2⟩:=Option.map_eq_some_iff.1 hv;simp only [Prod.mk.injEq] at h2;obtain ⟨rfl,rfl⟩:=h2;exact sim_idxV ho r hE hp hq h1
 case lookup t m k ok =>
  rw [Option.bind_eq_some_iff] at hv;obtain ⟨p,hp,hv⟩:=hv;rw [Option.bind_eq_some_iff] at hv;obtain ⟨q,hq,hv⟩:=hv;obtain ⟨u,h1,h2⟩:=Option.map_eq_some_iff.1 hv;simp only [Prod.mk.injEq] at h2;obtain ⟨rfl,rfl⟩:=h2;exact sim_lookup ho r hE hp hq h1
 case mapUpdate t m k x =>
  rw [Option.bind_eq_some_iff] at hv;obtain ⟨p,hp,hv⟩:=hv;rw [Option.bind_eq_some_iff] at hv;obtain ⟨q,hq,hv⟩:=hv;rw [Option.bind_eq_some_iff] at hv;obtain ⟨s,hs,hv⟩:=hv;obtain ⟨u,h1,h2⟩:=Option.map_eq_some_iff.1 hv;simp only [Prod.mk.injEq] at h2;obtain ⟨rfl,rfl⟩:=h2;exact sim_mapUpd ho r hE hp hq hs h1
 case extract x i =>
  rw [Option.bind_eq_some_iff] at hv;obtain ⟨p,hp,hv⟩:=hv
  split at hv
  ·obtain ⟨u,h1,h2⟩:=Option.map_eq_some_iff.1 hv;simp only [Prod.mk.injEq] at h2;obtain ⟨rfl,rfl⟩:=h2;exact sim_extract ho r hE hp h1
  ·cases hv
 case call c =>
  obtain ⟨cal,args,ats⟩:=c;cases cal with
  | builtin b =>
   simp only at hv;rw [Option.bind_eq_some_iff] at hv;obtain ⟨l,hl,hv⟩:=hv;unfold bltV at hv
   split at hv
   ·exact sim_append ho r hE hl hv
   ·exact sim_copy ho r hE hl hv
   ·exact sim_clear ho r hE hl hv
   ·obtain ⟨u,h1,h2⟩:=Option.map_eq_some_iff.1 hv;simp only [Prod.mk.injEq] at h2;obtain ⟨rfl,rfl⟩:=h2;exact sim_lenB ho r hE hl h1
   ·obtain ⟨u,h1,h2⟩:=Option.map_eq_some_iff.1 hv;simp only [Prod.mk.injEq] at h2;obtain ⟨rfl,rfl⟩:=h2;exact sim_capB ho r hE hl h1
   ·obtain ⟨u,h1,h2⟩:=Option.map_eq_some_iff.1 hv;simp only [Prod.mk.injEq] at h2;obtain ⟨rfl,rfl⟩:=h2;exact sim_mmB (mx:=true) ho r hE hl h1
   ·obtain ⟨u,h1,h2⟩:=Option.map_eq_some_iff.1 hv;simp only [Prod.mk.injEq] at h2;obtain ⟨rfl,rfl⟩:=h2;exact sim_mmB (mx:=false) ho r hE hl h1
   ·cases hv
  | _=>simp at hv
end
end Go.V
end
section
namespace Go.V
def zvz:Ex→Exit
 | .nrm=>.normal
 | .ext i=>.exit i
 | .ret=>.ret
def zte (R:Value→World→Prop):Ending→World→Prop
 | .returned v,w=>R v w
 | _,_=>False
def CallR (P:Program) (f:FuncId) (args:Array Value) (w:World) (R:Value→World→Prop):Prop :=
 ((callFunc f args).run P w = .ok (.enter f args) w∧Calls P f args w (zte R)) ∨ ∃ v w',(callFunc f args).run P w = .ok (.value v) w' ∧ R v w'
def KOk (P:Program) (K:Tb):Prop:=∀ f args h M,K f args h M → ∀ ρ w args',Rel ρ h w→VRL ρ args args' → CallR P f args'.toArray w fun v' w'=>∃ v h' ρ',M v h' ∧ VR ρ' v v' ∧ Rel ρ' h' w' ∧ Ext ρ h w ρ' h' w'
structure PostC (Q:Out→Prop) (ρ:Ren) (h:Hp) (w:World) (n:Nat) (e:Exit) (a':Act) (w':World):Prop where
 ex:∃ e0 env' h' ρ',e=zvz e0∧Q (.code e0 env' h')∧Rel ρ' h' w' ∧ EnvR ρ' env' a' ∧ Ext ρ h w ρ' h' w'
 defers:a'.defers=[]
 size:a'.tmps.size=n
structure St0 (ρ:Ren) (env:Env) (h:Hp) (n:Nat) (a:Act) (w:World):Prop where
 rel:Rel ρ h w
 env:EnvR ρ env a
 defers:a.defers=[]
 size:a.tmps.size=n
theorem St0.put {ρ env h n a w} (s:St0 ρ env h n a w) {d:Option Tmp} (hd:∀ x,d=some x→x < n) {v:Val} {u:Value} (hv:VR ρ v u):St0 ρ (putO env d v) h n (a.put d u) w:=by
 cases d with
 | none=>exact s
 | some d =>
  have hd:=hd d rfl;refine ⟨s.rel,fun t x hx=>?_,s.defers,by simp [Act.put,s.size]⟩;simp only [putO,T.get_set] at hx;simp only [Act.put,Array.getD_eq_getD_getElem?,Array.getElem?_setIfInBounds]
  split at hx
  ·rename_i e;subst e;obtain rfl:=Option.some.inj hx;rw [if_pos rfl,if_pos (by rw [s.size];exact hd)];exact hv
  ·rename_i e;rw [if_neg (fun q=>e q.symm)];have:=s.env t x hx
   rwa [Array.getD_eq_getD_getElem?] at this
theorem St0.turn {ρ env h n a w ρ' h' w'} (s:St0 ρ env h n a w) (r:Rel ρ' h' w') (e:Ext ρ h w ρ' h' w'):St0 ρ' env h' n a w':=⟨r,s.env.mono e.le,s.defers,s.size⟩
theorem zwb {n:Nat} {A:List Oper} (h:zpj n A=true) {i:Nat} (hi:i < A.length):∀ x,(opAt A i).dst=some x→x < n:=by
 intro x hx;have hm:opAt A i∈A:=by
  unfold opAt;rw [List.getD_eq_getElem?_getD,List.getElem?_eq_getElem hi];exact List.getElem_mem hi
 have:=List.all_eq_true.1 h _ hm;rw [hx] at this;simpa using this
theorem zkv {A:List Oper} {i:Nat} (hi:i < A.length):A[i]? = some (opAt A i):=by
 unfold opAt;rw [List.getD_eq_getElem?_getD,List.getElem?_eq_getElem hi];rfl
theorem zmc {ρ env h n a w} {A:List Oper} {o:Oper} {t:Bool} (s:St0 ρ env h n a w) (hd:zpj n A=true) (hw:zlo A env o=some t):Region.wanted o (yielded A.toArray a.tmps)=t:=by
 unfold zlo at hw;unfold Region.wanted
 split at hw
 ·rename_i hg;rw [hg];exact Option.some.inj hw
 ·rename_i j want hg;rw [hg];simp only;cases hA:A[j]? with
  | none=>simp [hA] at hw
  | some oj =>
   cases hdd:oj.dst with
   | none=>simp [hA,hdd] at hw
   | some d =>
    simp only [hA,Option.bind_some,hdd] at hw;have hj:j < A.length:=(List.getElem?_eq_some_iff.1 hA).1;have hlt:d < a.tmps.size:=by
     rw [s.size];refine zwb hd hj d ?_;rw [← hdd];congr 1;have:=zkv hj;rw [hA] at this;exact (Option.some.inj this).symm
    have hy:∀ u,a.tmps.getD d undef=u→a.tmps[d]? = some u:=fun u hu=>by
     rw [Array.getD_eq_getD_getElem?,Array.getElem?_eq_getElem hlt] at hu;rw [Array.getElem?_eq_getElem hlt];simpa using hu
    unfold yielded;simp only [List.getElem?_toArray,hA,Option.bind_some,hdd]
    split at hw
    ·rename_i x hx;have hv:=s.env d _ hx;obtain rfl:=Option.some.inj hw;generalize hq:a.tmps.getD d undef=q at hv;cases hv;rw [hy _ hq];cases x <;> cases want <;> rfl
    ·rename_i hx;have hv:=s.env d _ hx;obtain rfl:=Option.some.inj hw;generalize hq:a.tmps.getD d undef=q at hv;cases hv;rw [hy _ hq];cases want <;> rfl
    ·cases hw
theorem putO_same (o:Oper) (a:Act) {r:Next} {u:Value} (h:r = .value u∨(r = .skip∧u=undef)) {P:Program} {K:Act→World→Prop} {Q:Exit→Act→World→Prop} {w':World} (hk:K (a.put o.dst u) w'):o.upon P a K Q (.ok r w'):=by
 rcases h with rfl | ⟨rfl,rfl⟩ <;> exact hk
section
variable {P:Program} {K:Tb} {ρ:Ren} {h:Hp} {w:World} {env:Env} {a:Act} {n:Nat}
theorem sim_tgt {o:Oper} {f:FuncId} {vs:List Val} (s:St0 ρ env h n a w) (ht:tgt env o.op=some (f,vs)):∃ args',VRL ρ vs args' ∧ (execOp a.eval o).run P w=(callFunc f args'.toArray).run P w:=by
 unfold tgt at ht
 split at ht
 ·rename_i x args ats ho;rw [Option.bind_eq_some_iff] at ht;obtain ⟨p,hp,ht⟩:=ht;have hv:=zen s.env hp
  split at ht
  ·rename_i g caps;obtain ⟨l,hl,ht⟩:=Option.map_eq_some_iff.1 ht;simp only [Prod.mk.injEq] at ht;obtain ⟨rfl,rfl⟩:=ht;have hr:=evL_VR s.env hl;generalize hu:a.eval x=u at hv;cases hv with
   | f h1 h2 =>
    rename_i us;refine ⟨args.toList.map a.eval++us,hr.append ⟨h1,h2⟩,?_⟩;have e1:(args.toList.map a.eval++us).toArray=args.map a.eval++us.toArray:=by apply Array.ext';simp
    rw [e1];simp only [execOp,ho,resolve,hu,Deferred.ofValue,Sem.run_bind,Sem.run_pure,Result.andThen_ok,invoke]
    congr 3
    simp
  ·cases ht
 ·cases ht
theorem zqb {f:FuncId} {fn:Func} {c:Code} (hf:P.funcs[f]? = some fn) (hb:fn.body=some c) (hn:fn.name ≠ "runtime.NumGoroutine") (args:Array Value) (w:World):(callFunc f args).run P w = .ok (.enter f args) w:=by
 unfold callFunc;simp only [Sem.run_bind,run_program,Result.andThen_ok,hf];rw [if_neg (by simpa using hn),if_neg (by simp [hb])];rfl
theorem argE_get:∀ (vs:List Val) (i:Nat) (env:Env) (t:Nat) (v:Val),(argE i vs env).get t=some v→(i≤t∧vs[t - i]? = some v)∨env.get t=some v:=by
 intro vs
 induction vs with
 | nil=>intro i env t v h;exact .inr h
 | cons u us ih =>
  intro i env t v h;rcases ih (i+1) (env.set i u) t v h with ⟨h1,h2⟩ | h1
  ·exact .inl ⟨by omega,by rw [show t - i=(t - (i+1))+1 by omega];simpa using h2⟩
  ·rw [T.get_set] at h1
   split at h1
   ·rename_i e;subst e;exact .inl ⟨Nat.le_refl _,by simpa using h1⟩
   ·exact .inr h1
theorem enter_St0 {args:List Val} {args':List Value} (r:Rel ρ h w) (hr:VRL ρ args args') (hl:args.length≤n):St0 ρ (argE 0 args .lf) h n { tmps:=args'.toArray++Array.replicate (n - args'.toArray.size) undef,defers:=[] } w:=by
 have hl':=hr.1;refine ⟨r,fun t v hv=>?_,rfl,by simp;omega⟩;rcases argE_get args 0 .lf t v hv with ⟨_,h1⟩ | h1
 ·obtain ⟨u,a1,a2⟩:=hr.at h1;have hlt:=(List.getElem?_eq_some_iff.1 a1).1;simp only [Nat.sub_zero] at a1 hlt;rw [Array.getD_eq_getD_getElem?,Array.getElem?_append_left (by simpa using hlt)];simp [a1,a2]
 ·simp [T.get] at h1
theorem run_results (s:St0 ρ env h n a w) (f:ResultVar→Sem Value) (hf1:∀ t,f (.tmp t)=pure (a.tmps.getD t undef)) (hf2:∀ x t,f (.cell x t)=(do loadVar t (← asAddr (a.tmps.getD x undef)))):∀ {rs:List ResultVar} {vs:List Val},resV P env h rs=some vs → ∃ us,VRL ρ vs us∧(rs.mapM f).run P w = .ok us w:=by
 intro rs
 induction rs with
 | nil=>intro vs hv;simp [resV] at hv;subst hv;exact ⟨[],VRL.nil,by simp⟩
 | cons r rs ih =>
  intro vs hv;cases r with
  | tmp t =>
   simp only [resV] at hv;rw [Option.bind_eq_some_iff] at hv;obtain ⟨v,h1,hv⟩:=hv;obtain ⟨l,h2,rfl⟩:=Option.map_eq_some_iff.1 hv;obtain ⟨us,g1,g2⟩:=ih h2;exact ⟨_,g1.cons (s.env t v h1),by simp only [List.mapM_cons,hf1,Sem.run_bind,Sem.run_pure,Result.andThen_ok,g2]⟩
  | cell x t =>
   simp only [resV] at hv;rw [Option.bind_eq_some_iff] at hv;obtain ⟨p,h1,hv⟩:=hv;rw [Option.bind_eq_some_iff] at hv;obtain ⟨v,h3,hv⟩:=hv;obtain ⟨l,h2,rfl⟩:=Option.map_eq_some_iff.1 hv;obtain ⟨us,g1,g2⟩:=ih h2;have hp:=s.env x p h1;generalize hu:a.tmps.getD x undef=q at hp;cases hp with
   | p hb =>
    obtain ⟨u,e1,e2⟩:=ld_run s.rel h3 hb;exact ⟨_,g1.cons e2,by simp only [List.mapM_cons,hf2,Sem.run_bind,Sem.run_pure,Result.andThen_ok,hu,asAddr,e1,g2]⟩
   | _=>simp [ldV] at h3
def oneU:List Value→Value
 | [v]=>v
 | vs=>.tuple vs.toArray
theorem oneV_VR {vs:List Val} {us:List Value} (hr:VRL ρ vs us):VR ρ (oneV vs) (oneU us):=by
 match vs,us,hr with
 | [v],[u],hr=>exact hr.head
 | [],[],hr=>exact VR.none0
 | _::_::_,_::_::_,hr=>exact VR.tup hr.1 hr.2
 | [],_::_,hr=>exact absurd hr.1 (by simp)
 | _::_,[],hr=>exact absurd hr.1 (by simp)
 | [_],_::_::_,hr=>exact absurd hr.1 (by simp)
 | _::_::_,[_],hr=>exact absurd hr.1 (by simp)
theorem run_res {fn:Func} (s:St0 ρ env h n a w) {vs:List Val} (hv:resV P env h fn.results.toList=some vs):∃ us,VRL ρ vs us∧(results fn a.tmps).run P w = .ok (oneU us) w:=by
 have key:∀ f:ResultVar→Sem Value,(∀ t,f (.tmp t)=pure (a.tmps.getD t undef))→(∀ x t,f (.cell x t)=(do loadVar t (← asAddr (a.tmps.getD x undef)))) →
   ∃ us,VRL ρ vs us∧(do let vs ← fn.results.mapM f;pure (if h:vs.size=1 then vs[0] else .tuple vs):Sem Value).run P w = .ok (oneU us) w:=fun f h1 h2=>by
  obtain ⟨us,g1,g2⟩:=run_results s f h1 h2 hv;refine ⟨us,g1,?_⟩;rw [Sem.run_bind,← Array.toArray_toList (xs:=fn.results),List.mapM_toArray,Sem.run_map,g2];simp only [Result.andThen_ok,Sem.run_pure]
  match us with
  | []=>simp [oneU]
  | [v]=>simp [oneU]
  | v::u::r=>simp [oneU]
 unfold results;exact key _ (fun t=>rfl) (fun x t=>rfl)
end
end Go.V
end
section
namespace Go.V
def edge (A:List Oper) (j i:Nat):Prop:=∃ e∈(opAt A j).after.toList,Region.binds .any e=true∧e.on=i
def ancB (A:List Oper) (j i:Nat):Prop:=((ancs A []).getD j 0).testBit i=true
def zux (o:Oper) (acc:List Nat):Nat:=o.after.toList.foldl (fun s e=>if Region.binds .any e then s ||| 2 ^ e.on ||| acc.getD e.on 0 else s) 0
theorem bits_spec (acc:List Nat) (i:Nat):∀ (l:List Edge) (s:Nat),(l.foldl (fun s e=>if Region.binds .any e then s ||| 2 ^ e.on ||| acc.getD e.on 0 else s) s).testBit i=true→s.testBit i=true ∨ ∃ e∈l,Region.binds .any e=true∧(e.on=i∨(acc.getD e.on 0).testBit i=true):=by
 intro l
 induction l with
 | nil=>intro s h;exact .inl h
 | cons e l ih =>
  intro s h;rcases ih _ h with h | ⟨e',he,hb⟩
  ·simp only at h
   split at h
   ·rename_i hb;rw [Nat.testBit_or,Nat.testBit_or,Bool.or_eq_true,Bool.or_eq_true,Nat.testBit_two_pow] at h;rcases h with (h | h) | h
    ·exact .inl h
    ·exact .inr ⟨e,by simp,hb,.inl (by simpa using h)⟩
    ·exact .inr ⟨e,by simp,hb,.inr h⟩
   ·exact .inl h
  ·exact .inr ⟨e',by simp [he],hb⟩
theorem ancs_spec:∀ (A:List Oper) (acc:List Nat),(ancs A acc).take acc.length=acc∧(ancs A acc).length=acc.length+A.length ∧ ∀ k o,A[k]? = some o→(ancs A acc).getD (acc.length+k) 0=zux o ((ancs A acc).take (acc.length+k)):=by
 intro A
 induction A with
 | nil=>intro acc;exact ⟨by simp [ancs],by simp [ancs],fun k o h=>by simp at h⟩
 | cons o A ih =>
  intro acc;obtain ⟨h1,h2,h3⟩:=ih (acc++[zux o acc]);have e0:ancs (o::A) acc=ancs A (acc++[zux o acc]):=rfl;rw [e0];have hlen:(acc++[zux o acc]).length=acc.length+1:=by simp
  rw [hlen] at h1 h2 h3;have ht:(ancs A (acc++[zux o acc])).take acc.length=acc:=by
   have:=congrArg (List.take acc.length) h1;rw [List.take_take,Nat.min_eq_left (by omega),List.take_left'] at this
   ·exact this
   ·rfl
  refine ⟨ht,by simp at h2 ⊢;omega,fun k x hk=>?_⟩;cases k with
  | zero =>
   simp at hk;subst hk;rw [Nat.add_zero,ht];have:(ancs A (acc++[zux o acc]))[acc.length]? = some (zux o acc):=by
    have h:=congrArg (·[acc.length]?) h1;simp only [List.getElem?_take] at h;rw [if_pos (by omega)] at h;rw [h];simp
   rw [List.getD_eq_getElem?_getD,this];rfl
  | succ k =>
   have:=h3 k x (by simpa using hk);rw [show acc.length+(k+1)=acc.length+1+k by omega];exact this
theorem anc_edge {A:List Oper} {j i:Nat} (h:ancB A j i):j < A.length ∧ ∃ k,edge A j k∧(k=i∨(k < j∧ancB A k i)):=by
 obtain ⟨_,h2,h3⟩:=ancs_spec A [];unfold ancB at h;have hj:j < A.length:=by
  rcases Nat.lt_or_ge j A.length with q | q
  ·exact q
  ·rw [List.getD_eq_getElem?_getD,List.getElem?_eq_none (by rw [h2];simpa using q)] at h;simp at h
 refine ⟨hj,?_⟩;have h4:=h3 j _ (zkv hj);simp only [List.length_nil,Nat.zero_add] at h4;rw [h4] at h;rcases bits_spec _ i _ 0 h with h | ⟨e,he,hb,h⟩
 ·simp at h
 ·refine ⟨e.on,⟨e,he,hb,rfl⟩,?_⟩;rcases h with h | h
  ·exact .inl h
  ·right
   rw [List.getD_eq_getElem?_getD,List.getElem?_take] at h
   split at h
   ·rename_i hlt;exact ⟨hlt,by unfold ancB;rw [List.getD_eq_getElem?_getD];exact h⟩
   ·simp at h
theorem zhm {A:List Oper} {D:Nat→Prop} (hc:∀ j,D j → ∀ k,edge A j k→D k):∀ (j i:Nat),(∀ k,edge A j k→D k)→ancB A j i→D i:=by
 intro j
 induction j using Nat.strongRecOn with
 | _ j ih =>
  intro i hr h;obtain ⟨_,k,h1,h2⟩:=anc_edge h;rcases h2 with rfl | ⟨h2,h3⟩
  ·exact hr k h1
  ·exact ih k h2 i (fun k' h'=>hc k (hr k h1) k' h') h3
structure Glob (A:List Oper) (n:Nat):Prop where
 dst:zpj n A=true
 uniq:∀ i j d,i < A.length→j < A.length→i≠j→(opAt A i).dst=some d→(opAt A j).dst≠some d
 self:∀ i d,i < A.length→(opAt A i).dst=some d→d ∉ zjp A (opAt A i)
 rw:∀ i j d,i < A.length→j < A.length→i≠j→(opAt A i).dst=some d→d∈zjp A (opAt A j)→ancB A j i∨ancB A i j
structure At (P:Program) (A:List Oper) (dn:List Nat) (i:Nat) (rest:List Nat):Prop where
 lt:i < A.length
 out:i ∉ dn
 nrest:i ∉ rest
 edges:∀ k,edge A i k→k∈dn
 guard:∀ g w,(opAt A i).guard=some (g,w)→g∈dn∧ancB A i g
 eff:zcs P (opAt A i).op = .eff → ∀ r∈rest,ancB A r i
theorem zph {P:Program} {A:List Oper} {dn:List Nat} {i:Nat} {rest:List Nat} (h:okGo P A (ancs A []) dn (i::rest)=true):At P A dn i rest∧okGo P A (ancs A []) (i::dn) rest=true ∧
  ∀ d,(opAt A i).dst=some d→d ∉ zjp A (opAt A i) ∧ ∀ j,j∈rest∨j∈dn→(opAt A j).dst≠some d∧(d∈zjp A (opAt A j)→ancB A j i∨ancB A i j):=by
 simp only [okGo,Bool.and_eq_true] at h;obtain ⟨⟨⟨⟨⟨⟨⟨h1,h2⟩,h3⟩,h4⟩,h5⟩,h6⟩,h7⟩,h8⟩:=h;refine ⟨⟨by simpa using h3,by simpa using h1,by simpa using h2,fun k ⟨e,he,hb,hk⟩=>?_,fun g w hg=>?_,fun hk r hr=>?_⟩,h8,fun d hd=>?_⟩
 ·have:=List.all_eq_true.1 h4 e he;rw [hb] at this;simp at this;rw [← hk];exact this
 ·rw [hg] at h5;simp only [Bool.and_eq_true] at h5;exact ⟨by simpa using h5.1,h5.2⟩
 ·simp only [hk,decide_true,Bool.not_true,Bool.false_or] at h6;exact List.all_eq_true.1 h6 r hr
 ·rw [hd] at h7;simp only [Bool.and_eq_true] at h7;refine ⟨by simpa using h7.1,fun j hj=>?_⟩;have:=List.all_eq_true.1 h7.2 j (by simpa using hj);simp only [Bool.and_eq_true,Bool.or_eq_true,Bool.not_eq_true'] at this;refine ⟨by simpa using this.1,fun hl=>?_⟩;rcases this.2 with (h | h) | h
  ·simp at h;exact absurd hl h
  ·exact .inl h
  ·exact .inr h
theorem okGo_glob {P:Program} {A:List Oper}:∀ (L dn:List Nat),okGo P A (ancs A []) dn L=true→(∀ i,i < A.length→i∈L∨i∈dn) → ∀ i,i∈L→i < A.length ∧ ∀ d,(opAt A i).dst=some d→d ∉ zjp A (opAt A i) ∧ ∀ j,j < A.length→j≠i→(opAt A j).dst≠some d∧(d∈zjp A (opAt A j)→ancB A j i∨ancB A i j):=by
 intro L
 induction L with
 | nil=>intro dn _ _ i hi;cases hi
 | cons x L ih =>
  intro dn h hc i hi;obtain ⟨h1,h2,h3⟩:=zph h;rcases List.mem_cons.1 hi with rfl | hi
  ·refine ⟨h1.lt,fun d hd=>⟨(h3 d hd).1,fun j hj hne=>(h3 d hd).2 j ?_⟩⟩;rcases hc j hj with q | q
   ·rcases List.mem_cons.1 q with rfl | q
    ·exact absurd rfl hne
    ·exact .inl q
   ·exact .inr q
  ·exact ih (x::dn) h2 (fun j hj=>by
    rcases hc j hj with q | q
    ·rcases List.mem_cons.1 q with rfl | q
     ·exact .inr (by simp)
     ·exact .inl q
    ·exact .inr (by simp [q])) i hi
theorem okL_glob {P:Program} {A:List Oper} {L:List Nat} {n:Nat} (hd:zpj n A=true) (h:okL P A L=true):Glob A n∧okGo P A (ancs A []) [] L=true ∧ ∀ i,i < A.length→i∈L:=by
 unfold okL at h;simp only [Bool.and_eq_true] at h;obtain ⟨h1,h2⟩:=h;have hfull:∀ i,i < A.length→i∈L:=fun i hi=>by
  have:=List.all_eq_true.1 h1 i (List.mem_range.2 hi);simpa using this
 have hg:=okGo_glob L [] h2 (fun i hi=>.inl (hfull i hi));refine ⟨⟨hd,fun i j d hi hj hne hdd=>?_,fun i d hi hdd=>((hg i (hfull i hi)).2 d hdd).1,fun i j d hi hj hne hdd hl=>?_⟩,h2,hfull⟩
 ·exact (((hg i (hfull i hi)).2 d hdd).2 j hj (fun e=>hne e.symm)).1
 ·exact (((hg i (hfull i hi)).2 d hdd).2 j hj (fun e=>hne e.symm)).2 hl
end Go.V
end
section
namespace Go.V
section
variable {P:Program} {ρ:Ren} {h h':Hp} {w:World} {env:Env} {a:Act}
theorem zem {α:Type} {x:Option α} {v:α} (hv:x.map (fun v=>(v,h))=some (v,h')):x=some v∧h' = h:=by
 obtain ⟨u,h1,h2⟩:=Option.map_eq_some_iff.1 hv;simp only [Prod.mk.injEq] at h2;obtain ⟨rfl,rfl⟩:=h2;exact ⟨h1,rfl⟩
theorem conv_pure {s d:TypeId} {p v:Val} (hk:zxu P s d = .pure) (hv:zkj P h s d p=some (v,h')):h' = h ∧ ∀ h2,zkj P h2 s d p=some (v,h2):=by
 unfold zxu at hk;unfold zkj at hv
 split at hv
 ·rename_i ds k k' n hs hd;simp only [Option.some.injEq,Prod.mk.injEq] at hv;obtain ⟨rfl,rfl⟩:=hv;exact ⟨rfl,fun h2=>by simp only [zkj,hs,hd]⟩
 ·rename_i ds sx hs hd;simp only [Option.some.injEq,Prod.mk.injEq] at hv;obtain ⟨rfl,rfl⟩:=hv;exact ⟨rfl,fun h2=>by simp only [zkj,hs,hd]⟩
 ·rename_i hs hd;simp [hs,hd] at hk
 ·rename_i hs hd;simp [hs,hd] at hk
 ·rename_i hs hd;simp [hs,hd] at hk
 ·rename_i hs hd;simp [hs,hd] at hk
 ·rename_i hs hd;simp [hs,hd] at hk
 ·cases hv
theorem len_pure {ts:List TypeId} {x v:Val} (hk:lenK P ts = .pure) (hv:lenB P h ts x=some v) (h2:Hp):lenB P h2 ts x=some v:=by
 unfold lenB at hv ⊢;rw [Option.bind_eq_some_iff] at hv ⊢;obtain ⟨t,ht,hv⟩:=hv;refine ⟨t,ht,?_⟩
 split at hv <;> first | (cases hv;done) | skip
 all_goals (try rename_i hst)
 all_goals first
  | (simp only [hst];exact hv)
  | skip
 all_goals (
  cases ts with
  | nil=>simp at ht
  | cons t0 ts =>
   simp at ht;subst ht;simp [lenK] at hk;simp_all)
theorem zuh {op:Op} {v:Val} (hk:zcs P op = .pure) (hv:op1 P env h op=some (v,h')):h' = h ∧ ∀ h2,op1 P env h2 op=some (v,h2):=by
 cases op <;> simp only [op1,reduceCtorEq] at hv <;> simp only [zcs,reduceCtorEq] at hk
 case move x =>
  obtain ⟨hw,rfl⟩:=zem hv;exact ⟨rfl,fun h2=>by simp only [op1,hw,Option.map_some]⟩
 case assign x =>
  obtain ⟨hw,rfl⟩:=zem hv;exact ⟨rfl,fun h2=>by simp only [op1,hw,Option.map_some]⟩
 case pick c x y =>
  rw [Option.bind_eq_some_iff] at hv;obtain ⟨p,hp,hv⟩:=hv
  split at hv
  ·obtain ⟨hw,rfl⟩:=zem hv;exact ⟨rfl,fun h2=>by simp only [op1,hp,Option.bind_some,hw,Option.map_some]⟩
  ·obtain ⟨hw,rfl⟩:=zem hv;exact ⟨rfl,fun h2=>by simp only [op1,hp,Option.bind_some,hw,Option.map_some]⟩
  ·cases hv
 case build t ps =>
  rw [Option.bind_eq_some_iff] at hv;obtain ⟨q,hq,hv⟩:=hv;obtain ⟨hw,rfl⟩:=zem hv;exact ⟨rfl,fun h2=>by simp only [op1,hq,Option.bind_some,hw,Option.map_some]⟩
 case nilCheck x =>
  rw [Option.bind_eq_some_iff] at hv;obtain ⟨p,hp,hv⟩:=hv
  split at hv
  ·cases hv
  ·cases hv
  ·cases hv
  ·rename_i n1 n2 n3;simp only [Option.some.injEq,Prod.mk.injEq] at hv;obtain ⟨rfl,rfl⟩:=hv;refine ⟨rfl,fun h2=>?_⟩;simp only [op1,hp,Option.bind_some]
 case binOp op t x y t2 =>
  rw [Option.bind_eq_some_iff] at hv;obtain ⟨p,hp,hv⟩:=hv;rw [Option.bind_eq_some_iff] at hv;obtain ⟨q,hq,hv⟩:=hv;obtain ⟨hw,rfl⟩:=zem hv;exact ⟨rfl,fun h2=>by simp only [op1,hp,hq,Option.bind_some,hw,Option.map_some]⟩
 case unOp op t x =>
  rw [Option.bind_eq_some_iff] at hv;obtain ⟨p,hp,hv⟩:=hv;obtain ⟨hw,rfl⟩:=zem hv;exact ⟨rfl,fun h2=>by simp only [op1,hp,Option.bind_some,hw,Option.map_some]⟩
 case convert s d x =>
  rw [Option.bind_eq_some_iff] at hv;obtain ⟨p,hp,hv⟩:=hv;obtain ⟨rfl,hq⟩:=conv_pure hk hv;exact ⟨rfl,fun h2=>by simp only [op1,hp,Option.bind_some,hq h2]⟩
 case sliceToArrayPointer t x =>
  rw [Option.bind_eq_some_iff] at hv;obtain ⟨p,hp,hv⟩:=hv
  split at hv
  ·split at hv
   ·rename_i hst
    split at hv
    ·rename_i hkn;simp only [Option.some.injEq,Prod.mk.injEq] at hv;obtain ⟨rfl,rfl⟩:=hv;exact ⟨rfl,fun h2=>by simp only [op1,hp,Option.bind_some,hst,hkn,if_true]⟩
    ·cases hv
   ·cases hv
  ·cases hv
 case makeFunc f first caps =>
  cases f with
  | func f =>
   simp only at hv
   split at hv
   ·rename_i hf;obtain ⟨l,h1,h2⟩:=Option.map_eq_some_iff.1 hv;simp only [Prod.mk.injEq] at h2;obtain ⟨rfl,rfl⟩:=h2;exact ⟨rfl,fun h2=>by simp only [op1,hf,if_true,h1,Option.map_some]⟩
   ·cases hv
  | _=>simp at hv
 case fieldAddr s x f =>
  rw [Option.bind_eq_some_iff] at hv;obtain ⟨p,hp,hv⟩:=hv
  split at hv
  ·rw [Option.bind_eq_some_iff] at hv;obtain ⟨fd,hf,hv⟩:=hv;rw [Option.bind_eq_some_iff] at hv;obtain ⟨m,hm,hv⟩:=hv
   split at hv
   ·rename_i h0;simp only [Option.some.injEq,Prod.mk.injEq] at hv;obtain ⟨rfl,rfl⟩:=hv;exact ⟨rfl,fun h2=>by simp only [op1,hp,Option.bind_some,hf,hm,h0,if_true]⟩
   ·cases hv
  ·cases hv
 case field s x f =>
  rw [Option.bind_eq_some_iff] at hv;obtain ⟨p,hp,hv⟩:=hv
  split at hv
  ·rw [Option.bind_eq_some_iff] at hv;obtain ⟨fd,hf,hv⟩:=hv;obtain ⟨hw,rfl⟩:=zem hv;exact ⟨rfl,fun h2=>by simp only [op1,hp,Option.bind_some,hf,hw,Option.map_some]⟩
  ·cases hv
 case indexAddr t x y =>
  rw [Option.bind_eq_some_iff] at hv;obtain ⟨p,hp,hv⟩:=hv;rw [Option.bind_eq_some_iff] at hv;obtain ⟨q,hq,hv⟩:=hv;obtain ⟨hw,rfl⟩:=zem hv;exact ⟨rfl,fun h2=>by simp only [op1,hp,hq,Option.bind_some,hw,Option.map_some]⟩
 case index t x y =>
  rw [Option.bind_eq_some_iff] at hv;obtain ⟨p,hp,hv⟩:=hv;rw [Option.bind_eq_some_iff] at hv;obtain ⟨q,hq,hv⟩:=hv;obtain ⟨hw,rfl⟩:=zem hv;exact ⟨rfl,fun h2=>by simp only [op1,hp,hq,Option.bind_some,hw,Option.map_some]⟩
 case extract x i =>
  rw [Option.bind_eq_some_iff] at hv;obtain ⟨p,hp,hv⟩:=hv
  split at hv
  ·obtain ⟨hw,rfl⟩:=zem hv;exact ⟨rfl,fun h2=>by simp only [op1,hp,Option.bind_some,hw,Option.map_some]⟩
  ·cases hv
 case slice t x lo hi mx =>
  rw [Option.bind_eq_some_iff] at hv;obtain ⟨p,hp,hv⟩:=hv;rw [Option.bind_eq_some_iff] at hv;obtain ⟨q1,hq1,hv⟩:=hv;rw [Option.bind_eq_some_iff] at hv;obtain ⟨q2,hq2,hv⟩:=hv;rw [Option.bind_eq_some_iff] at hv;obtain ⟨q3,hq3,hv⟩:=hv;obtain ⟨hl,rfl⟩:=zem hv;exact ⟨rfl,fun h2=>by simp only [op1,hp,hq1,hq2,hq3,Option.bind_some,hl,Option.map_some]⟩
 case call c =>
  obtain ⟨cal,args,ats⟩:=c;cases cal with
  | builtin b =>
   simp only at hv;rw [Option.bind_eq_some_iff] at hv;obtain ⟨l,hl,hv⟩:=hv;unfold bltV at hv
   split at hv
   ·simp [zcs] at hk
   ·simp [zcs] at hk
   ·simp [zcs] at hk
   ·obtain ⟨hw,rfl⟩:=zem hv;simp only [zcs] at hk;exact ⟨rfl,fun h2=>by simp only [op1,hl,Option.bind_some,bltV,len_pure hk hw h2,Option.map_some]⟩
   ·obtain ⟨hw,rfl⟩:=zem hv;exact ⟨rfl,fun h2=>by simp only [op1,hl,Option.bind_some,bltV,hw,Option.map_some]⟩
   ·obtain ⟨hw,rfl⟩:=zem hv;exact ⟨rfl,fun h2=>by simp only [op1,hl,Option.bind_some,bltV,hw,Option.map_some]⟩
   ·obtain ⟨hw,rfl⟩:=zem hv;exact ⟨rfl,fun h2=>by simp only [op1,hl,Option.bind_some,bltV,hw,Option.map_some]⟩
   ·cases hv
  | _=>simp at hv
def Hp.wf (h:Hp):Prop:=∀ b,h.next≤b→h.get b=none
theorem zth (hw:h.wf) {b:Nat} {X B:Blk} (hb:h.get b=some X):(h.new B).get b=some X:=by
 rw [Hp.get_new,if_neg]
 ·exact hb
 ·intro e;rw [e,hw _ (Nat.le_refl _)] at hb;cases hb
theorem rd_new (hw:h.wf) {B:Blk} {b o m:Nat} {c:List Val} (hr:rd h b o m=some c):rd (h.new B) b o m=some c:=by
 unfold rd at hr ⊢
 split at hr
 ·rename_i hg;rw [zth hw hg];exact hr
 ·rename_i hg;rw [zth hw hg];exact hr
 ·cases hr
theorem ld_new (hw:h.wf) {B:Blk} {t:TypeId} {p v:Val} (hr:ldV P h t p=some v):ldV P (h.new B) t p=some v:=by
 unfold ldV at hr ⊢
 split at hr
 ·rename_i b o;rw [Option.bind_eq_some_iff] at hr ⊢;obtain ⟨g,hg,hr⟩:=hr;refine ⟨g,hg,?_⟩;cases g with
  | true =>
   simp only [cond_true] at hr ⊢;rw [Option.bind_eq_some_iff] at hr ⊢;obtain ⟨m,hm,hr⟩:=hr;obtain ⟨c,h1,h2⟩:=Option.map_eq_some_iff.1 hr;exact ⟨m,hm,by rw [rd_new hw h1];simpa using h2⟩
  | false =>
   simp only [cond_false] at hr ⊢;rw [Option.bind_eq_some_iff] at hr ⊢;obtain ⟨c,h1,h2⟩:=hr;exact ⟨c,rd_new hw h1,h2⟩
 ·cases hr
end
end Go.V
end
section
namespace Go.V
section
variable {P:Program} {ρ:Ren} {h h':Hp} {w:World} {env env2:Env} {a:Act}
theorem look_new (hw:h.wf) {B:Blk} {t:TypeId} {m k v:Val} {ok:Bool} (hr:lookV P h t m k ok=some v):lookV P (h.new B) t m k ok=some v:=by
 unfold lookV at hr ⊢
 split at hr
 ·rename_i kt vt hst
  split at hr
  ·rename_i hk;simp only [hk,if_true];rw [Option.bind_eq_some_iff] at hr ⊢;obtain ⟨es,hes,hr⟩:=hr;refine ⟨es,?_,hr⟩
   split at hes
   ·exact hes
   ·split at hes
    ·rename_i hg;simp only [zth hw hg];exact hes
    ·cases hes
   ·cases hes
  ·cases hr
 ·cases hr
theorem zug {op:Op} {v:Val} (hk:zcs P op = .read) (hv:op1 P env h op=some (v,h')):h' = h ∧ ∀ B,h.wf→op1 P env (h.new B) op=some (v,h.new B):=by
  cases op <;> simp only [op1,reduceCtorEq] at hv <;> simp only [zcs,reduceCtorEq] at hk
  case load t x =>
    rw [Option.bind_eq_some_iff] at hv;obtain ⟨p,hp,hv⟩:=hv;obtain ⟨hl,rfl⟩:=zem hv;exact ⟨rfl,fun B hw=>by simp only [op1,hp,Option.bind_some,ld_new hw hl,Option.map_some]⟩
  case lookup t m k ok =>
    rw [Option.bind_eq_some_iff] at hv;obtain ⟨p,hp,hv⟩:=hv;rw [Option.bind_eq_some_iff] at hv;obtain ⟨q,hq,hv⟩:=hv;obtain ⟨hl,rfl⟩:=zem hv;exact ⟨rfl,fun B hw=>by simp only [op1,hp,hq,Option.bind_some,look_new hw hl,Option.map_some]⟩
  case convert s d x =>
    rw [Option.bind_eq_some_iff] at hv;obtain ⟨p,hp,hv⟩:=hv;have key:h' = h ∧ ∀ B,h.wf→zkj P (h.new B) s d p=some (v,h.new B):=by
      unfold zxu at hk;unfold zkj at hv
      split at hv
      · rename_i ds k k' n hs hd
        simp only [Option.some.injEq,Prod.mk.injEq] at hv;obtain ⟨rfl,rfl⟩:=hv;exact ⟨rfl,fun B hw=>by simp only [zkj,hs,hd]⟩
      · rename_i ds sx hs hd
        simp only [Option.some.injEq,Prod.mk.injEq] at hv;obtain ⟨rfl,rfl⟩:=hv;exact ⟨rfl,fun B hw=>by simp only [zkj,hs,hd]⟩
      · rename_i hs hd;simp [hs,hd] at hk
      · rename_i hs hd;simp [hs,hd] at hk
      · rename_i hs hd
        split at hv
        · rename_i hu
          simp only [Option.some.injEq,Prod.mk.injEq] at hv;obtain ⟨rfl,rfl⟩:=hv;exact ⟨rfl,fun B hw=>by simp only [zkj,hs,hd,hu,if_true]⟩
        · cases hv
      · rename_i hs hd
        split at hv
        · rename_i hu
          simp only [Option.some.injEq,Prod.mk.injEq] at hv;obtain ⟨rfl,rfl⟩:=hv;exact ⟨rfl,fun B hw=>by simp only [zkj,hs,hd,hu,if_true]⟩
        · cases hv
      · rename_i e b o n c hs hd
        split at hv
        · rename_i he
          rw [Option.bind_eq_some_iff] at hv;obtain ⟨cs,hcs,hv⟩:=hv;obtain ⟨hb,rfl⟩:=zem (v:=v) (by
            obtain ⟨u,h1,h2⟩:=Option.map_eq_some_iff.1 hv;show ((zog cs).map Val.s).map (fun v=>(v,h))=some (v,h');rw [h1];simpa using h2)
          refine ⟨rfl,fun B hw=>?_⟩;simp only [zkj,hs,hd,he];rw [Option.bind_eq_some_iff];refine ⟨cs,?_,?_⟩
          · split at hcs
            · rename_i h0;rw [if_pos h0];exact hcs
            · rename_i h0;rw [if_neg h0];exact rd_new hw hcs
          · obtain ⟨u,h1,rfl⟩:=Option.map_eq_some_iff.1 hb
            rw [h1];rfl
        · cases hv
      · cases hv
    exact ⟨key.1,fun B hw=>by simp only [op1,hp,Option.bind_some,key.2 B hw]⟩
  case call c =>
    obtain ⟨cal,args,ats⟩:=c;cases cal with
    | builtin b =>
      simp only at hv;rw [Option.bind_eq_some_iff] at hv;obtain ⟨l,hl,hv⟩:=hv;unfold bltV at hv
      split at hv
      · simp [zcs] at hk
      · simp [zcs] at hk
      · simp [zcs] at hk
      · obtain ⟨hq,rfl⟩:=zem hv
        rename_i x;refine ⟨rfl,fun B hw=>?_⟩;have:lenB P (h'.new B) ats.toList x=some v:=by
          unfold lenB at hq ⊢;rw [Option.bind_eq_some_iff] at hq ⊢;obtain ⟨t,ht,hq⟩:=hq;refine ⟨t,ht,?_⟩
          split at hq <;> first | (cases hq;done) | skip
          all_goals first
            | (simp_all;done)
            | (split at hq
               · rename_i hg
                 have hg':=zth (B:=B) hw hg;simp_all
               · cases hq)
            | (split at hq
               · simp_all
               · cases hq)
        simp only [op1,hl,Option.bind_some,bltV,this,Option.map_some]
      · obtain ⟨hq,rfl⟩:=zem hv
        exact ⟨rfl,fun B hw=>by simp only [op1,hl,Option.bind_some,bltV,hq,Option.map_some]⟩
      · obtain ⟨hq,rfl⟩:=zem hv
        exact ⟨rfl,fun B hw=>by simp only [op1,hl,Option.bind_some,bltV,hq,Option.map_some]⟩
      · obtain ⟨hq,rfl⟩:=zem hv
        exact ⟨rfl,fun B hw=>by simp only [op1,hl,Option.bind_some,bltV,hq,Option.map_some]⟩
      · cases hv
    | _=>simp at hv
def tmpsOf (op:Op):List Tmp:=op.operands.toList.filterMap fun | .tmp t=>some t | _=>none
theorem znu {x:Operand} (he:∀ t,x = .tmp t→env.get t=env2.get t):evO env x=evO env2 x:=by
 cases x with
 | tmp t=>exact he t rfl
 | _=>rfl
theorem evL_congr {l:List Operand} (he:∀ t,Operand.tmp t∈l→env.get t=env2.get t):evL env l=evL env2 l:=by
 unfold evL
 induction l with
 | nil=>rfl
 | cons x l ih =>
  rw [List.mapM_cons,List.mapM_cons,znu (env2:=env2) fun t e=>he t (by simp [e]),ih fun t ht=>he t (by simp [ht])]
theorem evP_congr {l:List (Nat × Operand)} (he:∀ t,Operand.tmp t∈l.map (·.2)→env.get t=env2.get t):evP env l=evP env2 l:=by
 unfold evP
 induction l with
 | nil=>rfl
 | cons x l ih =>
  rw [List.mapM_cons,List.mapM_cons,znu (env2:=env2) fun t e=>he t (by simp [e]),ih fun t ht=>he t (by simp at ht ⊢;exact .inr ht)]
theorem evQ_congr {x:Option Operand} (he:∀ t,x=some (.tmp t)→env.get t=env2.get t):evQ env x=evQ env2 x:=by
 cases x with
 | none=>rfl
 | some x=>simp only [evQ];rw [znu (env2:=env2) fun t e=>he t (by rw [e])]
theorem zqj {op:Op} {t:Tmp} (h:Operand.tmp t∈op.operands.toList):t∈tmpsOf op:=by
 unfold tmpsOf;rw [List.mem_filterMap];exact ⟨_,h,rfl⟩
theorem op1_congr {op:Op} (he:∀ t,t∈tmpsOf op→env.get t=env2.get t):op1 P env h op=op1 P env2 h op:=by
 have h1:∀ x:Operand,x∈op.operands.toList→evO env x=evO env2 x:=fun x hx=>znu fun t e=>he t (zqj (by rw [← e];exact hx));have h2:∀ l:List Operand,(∀ x∈l,x∈op.operands.toList)→evL env l=evL env2 l:=fun l hl=>evL_congr fun t ht=>he t (zqj (hl _ ht));have h3:∀ l:List (Nat × Operand),(∀ x∈l.map (·.2),x∈op.operands.toList)→evP env l=evP env2 l:=fun l hl=>evP_congr fun t ht=>he t (zqj (hl _ ht));have h4:∀ x:Option Operand,(∀ y,x=some y→y∈op.operands.toList)→evQ env x=evQ env2 x:=fun x hx=>evQ_congr fun t e=>he t (zqj (hx _ e));cases op
 case move x=>simp only [op1];rw [h1 x (by simp [Op.operands])]
 case assign x=>simp only [op1];rw [h1 x (by simp [Op.operands])]
 case pick c x y=>simp only [op1];rw [h1 c (by simp [Op.operands]),h1 x (by simp [Op.operands]),h1 y (by simp [Op.operands])]
 case box e x=>simp only [op1];rw [h1 x (by simp [Op.operands])]
 case build t ps=>simp only [op1];rw [h3 ps.toList (fun x hx=>by simpa [Op.operands] using hx)]
 case buildSlice t n ps=>simp only [op1];rw [h3 ps.toList (fun x hx=>by simpa [Op.operands] using hx)]
 case load t x=>simp only [op1];rw [h1 x (by simp [Op.operands])]
 case store t x y=>simp only [op1];rw [h1 x (by simp [Op.operands]),h1 y (by simp [Op.operands])]
 case nilCheck x=>simp only [op1];rw [h1 x (by simp [Op.operands])]
 case binOp o t x y t2=>simp only [op1];rw [h1 x (by simp [Op.operands]),h1 y (by simp [Op.operands])]
 case unOp o t x=>simp only [op1];rw [h1 x (by simp [Op.operands])]
 case convert s d x=>simp only [op1];rw [h1 x (by simp [Op.operands])]
 case sliceToArrayPointer t x=>simp only [op1];rw [h1 x (by simp [Op.operands])]
 case makeFunc f first caps =>
  cases f with
  | func f=>simp only [op1];rw [h2 caps.toList (fun x hx=>by simp [Op.operands];exact .inr (by simpa using hx))]
  | _=>rfl
 case makeMap t r =>
  cases r with
  | none=>rfl
  | some x=>simp only [op1];rw [h1 x (by simp [Op.operands])]
 case makeSlice t x y=>simp only [op1];rw [h1 x (by simp [Op.operands]),h1 y (by simp [Op.operands])]
 case slice t x lo hi mx =>
  simp only [op1];rw [h1 x (by simp [Op.operands]),h4 lo (fun y e=>by simp [Op.operands,e]),h4 hi (fun y e=>by simp [Op.operands,e]),h4 mx (fun y e=>by simp [Op.operands,e])]
 case fieldAddr s x f=>simp only [op1];rw [h1 x (by simp [Op.operands])]
 case field s x f=>simp only [op1];rw [h1 x (by simp [Op.operands])]
 case indexAddr t x y=>simp only [op1];rw [h1 x (by simp [Op.operands]),h1 y (by simp [Op.operands])]
 case index t x y=>simp only [op1];rw [h1 x (by simp [Op.operands]),h1 y (by simp [Op.operands])]
 case lookup t x y ok=>simp only [op1];rw [h1 x (by simp [Op.operands]),h1 y (by simp [Op.operands])]
 case mapUpdate t x y z=>simp only [op1];rw [h1 x (by simp [Op.operands]),h1 y (by simp [Op.operands]),h1 z (by simp [Op.operands])]
 case extract x i=>simp only [op1];rw [h1 x (by simp [Op.operands])]
 case call c =>
  obtain ⟨cal,args,ats⟩:=c;cases cal with
  | builtin b=>simp only [op1];rw [h2 args.toList (fun x hx=>by simp [Op.operands,Call.operands];simpa using hx)]
  | _=>rfl
 all_goals rfl
def restr (E:Env):List Tmp→Env
 | []=>.lf
 | t::r=>match E.get t with
  | some v=>(restr E r).set t v
  | none=>restr E r
theorem zqe (E:Env) (l:List Tmp) (t:Tmp):(restr E l).get t=if t∈l then E.get t else none:=by
 induction l with
 | nil=>simp [restr,T.get]
 | cons x l ih =>
  unfold restr;cases hx:E.get x with
  | none =>
   simp only;rw [ih]
   by_cases h1:t=x
   ·subst h1;simp [hx]
   ·simp [h1]
  | some v =>
   simp only [T.get_set]
   by_cases h1:t=x
   ·subst h1;simp [hx]
   ·rw [if_neg h1,ih];simp [h1]
end
end Go.V
end
section
namespace Go.V
section
variable {P:Program} {ρ:Ren} {h h':Hp} {w:World} {env:Env} {a:Act}
structure New1 (w w':World):Prop where
 size:w'.heap.size=w.heap.size+1
 old:∀ g,g < w.heap.size→w'.heap[g]? = w.heap[g]?
 os:w'.os=w.os
 tape:w'.tape=w.tape
 output:w'.output=w.output
 drawn:w.drawn≤w'.drawn
theorem New1.alloc (w:World) (o:Obj):New1 w (w.alloc o):=⟨by simp,fun g hg=>by
 show (w.heap.push _)[g]? = _;rw [Array.getElem?_push,if_neg (Nat.ne_of_lt hg)],rfl,rfl,rfl,Nat.le_refl _⟩
theorem New1.drew (w:World) (o:Obj):New1 w (w.drew.alloc o):=by
 have:=New1.alloc w.drew o;exact ⟨this.size,this.old,this.os,this.tape,this.output,Nat.le_succ _⟩
def zsq (P:Program) (ρ:Ren) (w:World) (a:Act) (o:Oper) (vOf:Nat→Val) (B:Blk):Prop :=
 ∃ w' u i,(execOp a.eval o).run P w = .ok (.value u) w' ∧ New1 w w' ∧ i.g=w.heap.size∧(∀ σ b,σ b=some i→VR σ (vOf b) u) ∧ ∀ σ,ρ.le σ→BlkR σ i w' B
theorem cellsBlk {z:Nat} {c:List Val} {cs:List Value} {e:TypeId} {fz:Nat × Nat} (hf:fz.1 < fz.2→cs.length≤fz.1) (hz:fz.1≤fz.2) (hzm:z≠1→fz.2≤fz.1) (h1:c.all Val.one=true) (ho1:∀ u∈cs,u.oneCell' = true) (hlen:c.length≤cs.length) (hv:VRL ρ c (cs.take c.length)) {w2:World} (hnew:w2.heap[w.heap.size]? = some (.cells cs.toArray e fz)) :
  BlkR ρ ⟨w.heap.size,0,z,c.length,cs.length⟩ w2 (.cells z c):=by
 refine ⟨rfl,rfl,by simpa using hlen,h1,⟨fun o ho=>⟨?_,?_⟩,⟨fun c' e' fz' hf'=>by rw [hnew] at hf';obtain ⟨_,_,rfl⟩:=(Obj.cells.inj (Option.some.inj hf'));exact hz,fun o u q=>by simp only [World.cell?,hnew] at q;exact ho1 u (List.mem_of_getElem? (by simpa using q)),fun hz1 c' e' fz' hf'=>by rw [hnew] at hf';obtain ⟨_,_,rfl⟩:=(Obj.cells.inj (Option.some.inj hf'));exact hzm hz1⟩⟩,fun j u hj=>?_⟩
 ·simp only [World.cell?,hnew];simp;exact ho
 ·simp only [World.frozen?,hnew];simp;intro a;rcases Nat.lt_or_ge fz.1 fz.2 with q | q
  ·have:=hf q;simp at ho;omega
  ·omega
 ·have hjl:=(List.getElem?_eq_some_iff.1 hj).1;obtain ⟨u',a,q⟩:=hv.at hj;refine ⟨u',?_,q⟩;simp only [World.cell?,hnew];rw [List.getElem?_take,if_pos hjl] at a;simpa using a
theorem zyf (w:World) (o:Obj):(w.alloc o).heap[w.heap.size]? = some o:=by
 show (w.heap.push _)[w.heap.size]? = _;rw [Array.getElem?_push,if_pos rfl]
theorem zsq.row {o:Oper} {z:Nat} {c:List Val} {us:List Value} {e:TypeId} {u:Value} {vOf:Nat→Val} (h1:c.all Val.one=true) (hv:VRL ρ c us) (hr:(execOp a.eval o).run P w = .ok (.value u) (w.alloc (.cells us.toArray e)))
  (hu:∀ σ b,σ b=some ⟨w.heap.size,0,z,c.length,us.length⟩→VR σ (vOf b) u):zsq P ρ w a o vOf (.cells z c) :=
 ⟨_,u,⟨w.heap.size,0,z,c.length,us.length⟩,hr,New1.alloc _ _,rfl,hu,fun σ hl=>cellsBlk (fz:=(0,0)) (by simp) (by simp) (fun _=>Nat.le_refl _) h1 (hv.one h1) (by rw [hv.1];exact Nat.le_refl _) (by rw [hv.1,List.take_length];exact hv.mono hl) (zyf _ _)⟩
structure AllocK (P:Program) (env:Env) (h:Hp) (o:Oper) (v:Val) (h':Hp) (vOf:Nat→Val) (B:Blk):Prop where
 dead:B ≠ .dead
 val:v=vOf h.next
 heap:h' = h.new B
 ptr:∀ σ b u,VR σ (vOf b) u→σ b≠none
 run:∀ ρ w a,EnvR ρ env a→zsq P ρ w a o vOf B
theorem alloc_alloc {o:Oper} {e:TypeId} {z v:Val} (ho:o.op = .alloc e) (hz:zge P e=some z) (hv:zla h z.cells.length z.cells=some (v,h')):AllocK P env h o v h' (fun b=>.p (some (b,0))) (.cells z.cells.length z.cells):=by
 unfold zla at hv
 split at hv
 ·rename_i h1;simp only [Option.some.injEq,Prod.mk.injEq] at hv;obtain ⟨rfl,rfl⟩:=hv;refine ⟨by simp,rfl,rfl,fun σ b u hu=>by cases hu;simp_all,fun ρ w a hE=>?_⟩;obtain ⟨i,u,h2,h3,h4⟩:=zfx hz;have hr:=(zsw (ρ:=ρ) h4).cells;refine zsq.row (e:=e) (u:=.pointer (some ⟨w.heap.size,0,none⟩)) h1 hr ?_ (fun σ b hb=>VR.p hb);simp only [execOp,ho,Instr.alloc,Sem.run_bind,zji h2 h3 w,Result.andThen_ok,newVar,zfz,Sem.run_pure,Array.toArray_toList]
 ·cases hv
theorem alloc_box {o:Oper} {e:TypeId} {x:Operand} {z v:Val} (ho:o.op = .box e x) (hz:evO env x=some z) (hv:zla h z.cells.length z.cells=some (v,h')):AllocK P env h o v h' (fun b=>.p (some (b,0))) (.cells z.cells.length z.cells):=by
 unfold zla at hv
 split at hv
 ·rename_i h1;simp only [Option.some.injEq,Prod.mk.injEq] at hv;obtain ⟨rfl,rfl⟩:=hv;refine ⟨by simp,rfl,rfl,fun σ b u hu=>by cases hu;simp_all,fun ρ w a hE=>?_⟩;have hr:=(zen hE hz).cells;refine zsq.row (e:=e) (u:=.pointer (some ⟨w.heap.size,0,none⟩)) h1 hr ?_ (fun σ b hb=>VR.p hb);simp only [execOp,ho,Instr.box,Sem.run_bind,Result.andThen_ok,newVar,zfz,Sem.run_pure,Array.toArray_toList]
 ·cases hv
theorem alloc_map {o:Oper} {t:TypeId} {x:Option Operand} {v:Val} (ho:o.op = .makeMap t x) (hv:op1 P env h o.op=some (v,h')):AllocK P env h o v h' (fun b=>.m (some b)) (.map []):=by
 rw [ho] at hv;have hnew:∀ w:World,(newObj (.map #[] 0)).run P w = .ok w.heap.size (w.alloc (.map #[] 0)):=fun w=>rfl;have hfin:∀ (ρ:Ren) (w:World) (a:Act),(execOp a.eval o).run P w = .ok (.value (.map (some w.heap.size))) (w.alloc (.map #[] 0))→zsq P ρ w a o (fun b=>.m (some b)) (.map []):=fun ρ w a hr =>
  ⟨_,_,⟨w.heap.size,0,0,0,0⟩,hr,New1.alloc _ _,rfl,fun σ b hb=>VR.m hb,fun σ _=>⟨#[],0,zyf _ _,rfl,fun j k v hj=>by simp at hj⟩⟩
 cases x with
 | none =>
  simp only [op1,Option.some.injEq,Prod.mk.injEq] at hv;obtain ⟨rfl,rfl⟩:=hv;refine ⟨by simp,rfl,rfl,fun σ b u hu=>by cases hu;simp_all,fun ρ w a hE=>hfin ρ w a ?_⟩;simp only [execOp,ho,Instr.makeMap,Option.map_none,Sem.run_bind,Sem.run_pure,Result.andThen_ok,hnew]
 | some x =>
  simp only [op1] at hv;rw [Option.bind_eq_some_iff] at hv;obtain ⟨p,hp,hv⟩:=hv
  split at hv
  ·rename_i kt vt k n hst;simp only [Option.some.injEq,Prod.mk.injEq] at hv;obtain ⟨rfl,rfl⟩:=hv;refine ⟨by simp,rfl,rfl,fun σ b u hu=>by cases hu;simp_all,fun ρ w a hE=>hfin ρ w a ?_⟩;have v1:=zen hE hp;generalize hu1:a.eval x=u1 at v1;cases v1;simp only [execOp,ho,Instr.makeMap,Option.map_some,hu1,asInt,asIntOf,Sem.run_bind,run_underlying hst w,Sem.run_pure,Result.andThen_ok,hnew]
  ·cases hv
theorem zta {o:Oper} {t:TypeId} {n:Nat} {ps:Array (Nat × Operand)} {qs:List (Nat × Val)} {v:Val} (ho:o.op = .buildSlice t n ps) (hp:evP env ps.toList=some qs) (hv:zhg P h t n qs=some (v,h')) :
  ∃ vOf B,AllocK P env h o v h' vOf B:=by
 unfold zhg at hv
 split at hv
 ·rename_i e hst;rw [Option.bind_eq_some_iff] at hv;obtain ⟨z,hs,hv⟩:=hv;rw [Option.bind_eq_some_iff] at hv;obtain ⟨zv,hz,hv⟩:=hv
  split at hv
  ·rename_i hc;obtain ⟨c1,c2,c3⟩:=hc;rw [Option.bind_eq_some_iff] at hv;obtain ⟨cs,hf,hv⟩:=hv;unfold rowV at hv
   split at hv
   case isFalse=>cases hv
   rename_i hone;simp only [Option.some.injEq,Prod.mk.injEq] at hv;obtain ⟨rfl,rfl⟩:=hv;refine ⟨fun b=>.sl (some (b,0)) n (.k n),.cells z cs,by simp,rfl,rfl,fun σ b u hu=>by cases hu;simp_all,fun ρ w a hE=>?_⟩;obtain ⟨g1,g2⟩:=evP_VR hE hp;obtain ⟨i,zu,i1,i2,i3⟩:=zfx hz;have hzr:=(zsw (ρ:=ρ) i3).cells;have hzs:zu.cells.size=z:=by have:=hzr.1;simp at this;omega
   have hzz:=zln hzr (by omega) n;rw [hzs] at hzz;obtain ⟨us,e1,e2⟩:=zpy hf hzz g1 g2;refine zsq.row (e:=e) (u:=.slice (some ⟨w.heap.size,0,none⟩) n n) hone e2 ?_ (fun σ b hb=>VR.sk hb (Nat.le_refl _));have hparts:(ps.map fun (i,x)=>(i,a.eval x)).toList=ps.toList.map fun (i,x)=>(i,a.eval x):=by simp
   have e3:∀ zero:Array Value,(n*z≠0→zero=zu.cells)→Instr.fill (fun i=>some (i*z,z)) ((Array.range (n*z)).map fun x=>zero[x % zero.size]!) (ps.toList.map fun (i,x)=>(i,a.eval x))=some us.toArray:=fun zero h0=>by
    rw [← e1]
    congr 1
    by_cases hn:n*z=0
    ·rw [hn];apply Array.ext';simp
    ·rw [h0 hn,hzs,Array.toArray_toList]
   simp only [execOp,ho,Instr.buildSlice,Sem.run_bind,run_underlying hst w,Result.andThen_ok,zgw hs w];rw [if_neg (by omega)]
   by_cases h0:n*z=0
   ·rw [if_pos h0];simp only [Sem.run_bind,Sem.run_pure,Result.andThen_ok,hparts,e3 #[] (fun q=>absurd h0 q),zfz]
   ·rw [if_neg h0];simp only [Sem.run_bind,Sem.run_pure,Result.andThen_ok,hparts,zji i1 i2 w,e3 zu.cells (fun _=>rfl),zfz]
  ·cases hv
 ·cases hv
theorem zvb {o:Oper} {t:TypeId} {x y:Operand} {p q v:Val} (ho:o.op = .makeSlice t x y) (hx:evO env x=some p) (hy:evO env y=some q) (hv:zkd P h t p q=some (v,h')):∃ vOf B,AllocK P env h o v h' vOf B:=by
 unfold zkd at hv
 split at hv
 ·rename_i e hst;rw [Option.bind_eq_some_iff] at hv;obtain ⟨z,hs,hv⟩:=hv;rw [Option.bind_eq_some_iff] at hv;obtain ⟨zv,hz,hv⟩:=hv;rw [Option.bind_eq_some_iff] at hv;obtain ⟨l,hl,hv⟩:=hv;rw [Option.bind_eq_some_iff] at hv;obtain ⟨c,hc,hv⟩:=hv;rw [Option.bind_eq_some_iff] at hv;obtain ⟨inf,hi,hv⟩:=hv;obtain ⟨k1,rfl,l1⟩:=znp hl;obtain ⟨k2,rfl,l2⟩:=znp hc
  split at hv
  ·rename_i hcc;obtain ⟨c1,c2,c3,c4⟩:=hcc;unfold rowV at hv
   split at hv
   case isFalse=>cases hv
   rename_i hone;simp only [Option.some.injEq,Prod.mk.injEq] at hv;obtain ⟨rfl,rfl⟩:=hv;refine ⟨fun b=>.sl (some (b,0)) l (.k c),.cells z (zeu zv.cells c),by simp,rfl,rfl,fun σ b u hu=>by cases hu;simp_all,fun ρ w a hE=>?_⟩;have v1:=zen hE hx;have v2:=zen hE hy;generalize hu1:a.eval x=u1 at v1;generalize hu2:a.eval y=u2 at v2;cases v1;cases v2;obtain ⟨i,zu,i1,i2,i3⟩:=zfx hz;have hii:i=inf:=by rw [i1] at hi;exact Option.some.inj hi
   subst hii;have hzr:=(zsw (ρ:=ρ) i3).cells;have hzs:zu.cells.size=z:=by have:=hzr.1;simp at this;omega
   have hzz:=zln hzr (by omega) c;rw [hzs] at hzz;refine zsq.row (e:=e) (u:=.slice (some ⟨w.heap.size,0,none⟩) l c) hone hzz ?_ (fun σ b hb=>VR.sk hb c1);have hroom:∀ b,(askRoom b).run P w = .ok () w:=fun b=>by
    unfold askRoom;split <;> rfl
   have t1:¬ (((c:Int) < 0||(i.bytes:Int)*c > 2 ^ 48)||(l:Int) < 0||(l:Int) > c)=true:=by
    have:((i.bytes:Int)*c)=((i.bytes*c:Nat):Int):=by simp
    simp only [Bool.or_eq_true,decide_eq_true_eq,this];omega
   simp only [execOp,ho,hu1,hu2,Instr.makeSlice,asInt,asIntOf,Sem.run_bind,run_underlying hst w,Result.andThen_ok,Sem.run_pure,typeInfo,run_program,hi,zne l1,zne l2];rw [if_neg t1];have e3:∀ zero:Array Value,(c*z≠0→zero=zu.cells)→((Array.range (c*z)).map fun x=>zero[x % zero.size]!)=(((Array.range (c*z)).map fun i=>zu.cells[i % z]!).toList).toArray:=fun zero h0=>by
    rw [Array.toArray_toList]
    by_cases hn:c*z=0
    ·rw [hn];apply Array.ext';simp
    ·rw [h0 hn,hzs]
   simp only [Sem.run_bind,Sem.run_pure,Result.andThen_ok,hroom,zgw hs w,Int.toNat_natCast]
   by_cases h0:c*z=0
   ·rw [if_pos h0];simp only [Sem.run_bind,Sem.run_pure,Result.andThen_ok,e3 #[] (fun q=>absurd h0 q),zfz]
   ·rw [if_neg h0];simp only [Sem.run_bind,Sem.run_pure,Result.andThen_ok,zji i1 i2 w,e3 zu.cells (fun _=>rfl),zfz]
  ·cases hv
 ·cases hv
theorem alloc_conv {o:Oper} {s d:TypeId} {x:Operand} {p v:Val} (ho:o.op = .convert s d x) (hk:zxu P s d = .alloc) (hx:evO env x=some p) (hv:zkj P h s d p=some (v,h')):∃ vOf B,AllocK P env h o v h' vOf B:=by
 unfold zxu at hk;unfold zkj at hv
 split at hv
 ·rename_i ds k k' n hs hd;simp [hd] at hk
 ·rename_i ds sx hs hd;cases ds <;> simp [hs,hd] at hk
 ·rename_i e sx hs hd
  split at hv
  ·rename_i he
   split at hv
   ·cases hv
   ·rename_i hne;unfold rowV at hv
    split at hv
    ·rename_i h1;simp only [Option.some.injEq,Prod.mk.injEq] at hv;obtain ⟨rfl,rfl⟩:=hv;refine ⟨fun b=>.sl (some (b,0)) sx.length (.op 1),.cells 1 (sx.map fun c=>.i .u8 c.toNat),by simp,rfl,rfl,fun σ b u hu=>by generalize Cap.op 1=cp at hu;cases hu <;> simp_all,fun ρ w a hE=>?_⟩;have v1:=zen hE hx;generalize hu1:a.eval x=u1 at v1;cases v1;have hrb:=run_bytes_of_string (P:=P) w s d e ⟨sx.toArray⟩ hs hd he;have hsz:(⟨sx.toArray⟩:ByteArray).size=sx.length:=by simp [ByteArray.size]
     have hcap:=grownCap_ge w sx.length 0 e;rw [hsz] at hrb;have hrl:(bytesRow ⟨sx.toArray⟩ (grownCap w sx.length 0 e)).toList=sx.map (fun c=>Value.int .u8 c.toNat)++List.replicate (grownCap w sx.length 0 e - sx.length) (.int .u8 0):=by
      simp [bytesRow,hsz]
     have hlen:(bytesRow ⟨sx.toArray⟩ (grownCap w sx.length 0 e)).size=grownCap w sx.length 0 e:=by
      rw [← Array.length_toList,hrl];simp;omega
     have hvv:VRL ρ (sx.map fun c=>Val.i .u8 c.toNat) ((bytesRow ⟨sx.toArray⟩ (grownCap w sx.length 0 e)).toList.take (sx.map fun c=>Val.i .u8 c.toNat).length):=by
      rw [hrl,List.length_map,List.take_left' (by simp)];refine ⟨by simp,fun j u u' p q=>?_⟩;simp only [List.getElem?_map,Option.map_eq_some_iff] at p q;obtain ⟨b,p1,rfl⟩:=p;obtain ⟨b',q1,rfl⟩:=q;rw [p1] at q1;obtain rfl:=Option.some.inj q1;exact .i _ _
     refine ⟨_,.slice (some ⟨w.heap.size,0,none⟩) sx.length (grownCap w sx.length 0 e),⟨w.heap.size,0,1,(sx.map fun c=>Val.i .u8 c.toNat).length,(bytesRow ⟨sx.toArray⟩ (grownCap w sx.length 0 e)).toList.length⟩,?_,New1.drew _ _,rfl,fun σ b hb=>?_,fun σ hl=>cellsBlk (w:=w.drew) (e:=e) (fz:=((bytesRow ⟨sx.toArray⟩ (grownCap w sx.length 0 e)).size,(bytesRow ⟨sx.toArray⟩ (grownCap w sx.length 0 e)).size+1)) (by simp) (by simp) (fun q=>absurd rfl q) h1 zsm (by have q:=hlen;rw [← Array.length_toList] at q;rw [q];simpa using hcap) (hvv.mono hl) (by rw [Array.toArray_toList];exact zyf w.drew _)⟩
     ·simp only [execOp,ho,hu1,zee,Sem.run_bind,hrb,Result.andThen_ok,Sem.run_pure]
     ·have:=VR.so (ρ:=σ) (b:=b) (o:=0) (len:=sx.length) (c:=grownCap w sx.length 0 e) hb hcap (by simp;exact hcap) (by simp [hlen]);simpa using this
    ·cases hv
  ·cases hv
 ·rename_i hs hd;simp [hs,hd] at hk
 ·rename_i hs hd;simp [hs,hd] at hk
 ·rename_i hs hd;simp [hs,hd] at hk
 ·rename_i hs hd;simp [hs,hd] at hk
 ·cases hv
theorem zvt {o:Oper} {v:Val} (hk:zcs P o.op = .alloc) (hv:op1 P env h o.op=some (v,h')):∃ vOf B,AllocK P env h o v h' vOf B:=by
 have hv0:=hv;generalize ho:o.op=op at hv hk;cases op <;> simp only [op1,reduceCtorEq] at hv <;> simp only [zcs,reduceCtorEq] at hk
 case alloc e =>
  rw [Option.bind_eq_some_iff] at hv;obtain ⟨z,hz,hv⟩:=hv;exact ⟨_,_,alloc_alloc ho hz hv⟩
 case box e x =>
  rw [Option.bind_eq_some_iff] at hv;obtain ⟨z,hz,hv⟩:=hv;exact ⟨_,_,alloc_box ho hz hv⟩
 case buildSlice t n ps =>
  rw [Option.bind_eq_some_iff] at hv;obtain ⟨qs,hq,hv⟩:=hv;exact zta ho hq hv
 case convert s d x =>
  rw [Option.bind_eq_some_iff] at hv;obtain ⟨p,hp,hv⟩:=hv;exact alloc_conv ho hk hp hv
 case makeMap t x=>exact ⟨_,_,alloc_map ho hv0⟩
 case makeSlice t x y =>
  rw [Option.bind_eq_some_iff] at hv;obtain ⟨p,hp,hv⟩:=hv;rw [Option.bind_eq_some_iff] at hv;obtain ⟨q,hq,hv⟩:=hv;exact zvb ho hp hq hv
 case call c =>
  obtain ⟨cal,args,ats⟩:=c;cases cal with
  | builtin b=>cases b <;> simp [zcs] at hk;unfold lenK at hk;split at hk <;> (try split at hk) <;> simp at hk
  | _=>simp at hv
end
end Go.V
end
section
namespace Go.V
def Dn (listed:Array Bool) (i:Nat):Prop:=listed.getD i false=true
inductive Late (P:Program) (A:List Oper) (hs:Hp) (h:Hp) (pd:List Pend) (ρ:Ren) (i:Nat) (E:Env) (v:Val) (b:Nat):Prop where
 | pure:zcs P (opAt A i).op = .pure→op1 P E h (opAt A i).op=some (v,h)→Late P A hs h pd ρ i E v b
 | read:zcs P (opAt A i).op = .read→op1 P E h (opAt A i).op=some (v,h)→(⟨i,(opAt A i).op,E,v⟩:Pend)∈pd→Late P A hs h pd ρ i E v b
 | alloc (vOf:Nat→Val) (B:Blk) (h0 h0':Hp):zcs P (opAt A i).op = .alloc→AllocK P (restr E (zjp A (opAt A i))) h0 (opAt A i) v h0' vOf B→v=vOf b→h.get b=some B→ρ b=none→hs.next≤b→b < h.next→Late P A hs h pd ρ i E v b
structure DI (P:Program) (A:List Oper) (n:Nat) (dn L:List Nat) (pd:List Pend) (env:Env) (h:Hp) (listed:Array Bool) (a:Act) (w:World) (ρ:Ren) (ρs:Ren) (hs:Hp) (ws:World) (e0:Env) (V:Nat→Val) (EV:Nat→Env) (BL:Nat→Nat):Prop where
 size:listed.size=A.length
 cover:∀ i,i < A.length→i∈dn∨i∈L
 ord:okGo P A (ancs A []) dn L=true
 dlt:∀ i,i∈dn→i < A.length
 sub:∀ i,Dn listed i→i∈dn
 closed:∀ j,Dn listed j → ∀ k,edge A j k→Dn listed k
 cedge:∀ j,j∈dn → ∀ k,edge A j k→k∈dn
 tail:∀ pre j post,dn=pre++j::post → ∀ k,edge A j k→k∈post
 rel:Rel ρ h w
 defers:a.defers=[]
 asize:a.tmps.size=n
 ext:Ext ρs hs ws ρ h w
 cv:∀ i,i∈dn → ∀ t,(opAt A i).dst=some t→env.get t=some (V i)
 ce:∀ t,(∀ i,i∈dn→(opAt A i).dst≠some t)→env.get t=e0.get t
 av:∀ i,Dn listed i → ∀ t,(opAt A i).dst=some t→VR ρ (V i) (a.tmps.getD t undef)
 ae:∀ t v,(∀ i,Dn listed i→(opAt A i).dst≠some t)→e0.get t=some v→VR ρ v (a.tmps.getD t undef)
 sv:∀ i,i∈dn → ¬ Dn listed i → ∀ j t,j < A.length→(opAt A j).dst=some t→t∈zjp A (opAt A i)→(ancB A i j→(EV i).get t=some (V j))∧(¬ ancB A i j→(EV i).get t=e0.get t)
 se:∀ i,i∈dn → ¬ Dn listed i → ∀ t,t∈zjp A (opAt A i)→(∀ j,j < A.length→(opAt A j).dst≠some t)→(EV i).get t=e0.get t
 again:∀ i,i∈dn → ¬ Dn listed i→(zlo A (EV i) (opAt A i)=some false∧V i = .no)∨(zlo A (EV i) (opAt A i)=some true∧Late P A hs h pd ρ i (EV i) (V i) (BL i))
 inj:∀ i j,i∈dn→j∈dn → ¬ Dn listed i → ¬ Dn listed j→zlo A (EV i) (opAt A i)=some true→zlo A (EV j) (opAt A j)=some true→zcs P (opAt A i).op = .alloc→zcs P (opAt A j).op = .alloc→BL i=BL j→i=j
section
variable {P:Program} {A:List Oper} {n:Nat} {dn L:List Nat} {pd:List Pend} {env:Env} {h:Hp} {listed:Array Bool} {a:Act} {w:World} {ρ ρs:Ren} {hs:Hp} {ws:World} {e0:Env} {V:Nat→Val} {EV:Nat→Env} {BL:Nat→Nat}
theorem Rel.extend (r:Rel ρ h w) (B:Blk):Rel ρ (h.new B) w:=by
 have hget:∀ b i,ρ b=some i→(h.new B).get b=h.get b:=fun b i e=>by
  rw [Hp.get_new,if_neg];intro q;have:=(r.dom b i e).1;omega
 refine ⟨fun b i e=>⟨Nat.lt_succ_of_lt (r.dom b i e).1,(r.dom b i e).2⟩,fun b i X e f=>r.blk b i X e (by rw [← hget b i e];exact f),fun b b' i i' e e' l l' hg=>?_,fun k hk=>?_⟩
 ·refine r.inj b b' i i' e e' ?_ ?_ hg
  ·obtain ⟨X,q1,q2⟩:=l;exact ⟨X,by rw [← hget b i e];exact q1,q2⟩
  ·obtain ⟨X,q1,q2⟩:=l';exact ⟨X,by rw [← hget b' i' e'];exact q1,q2⟩
 ·have hk':h.next+1≤k:=hk;rw [Hp.get_new,if_neg (by omega)];exact r.wf k (by omega)
theorem Ext.extend (x:Ext ρs hs ws ρ h w) (r:Rel ρ h w) (B:Blk):Ext ρs hs ws ρ (h.new B) w :=
 ⟨x.le,Nat.le_succ_of_le x.next,fun b hb hl=>by
  obtain ⟨p,q⟩:=x.other b hb hl;refine ⟨p,?_⟩;rw [Hp.get_new,if_neg (by have:=x.next;omega)];exact q,x.size,fun g hg hn=>by
   obtain ⟨p,q⟩:=x.frame g hg hn;refine ⟨p,fun b i e ho=>q b i e ?_⟩;obtain ⟨X,q1,q2⟩:=ho;rw [Hp.get_new,if_neg (fun e'=>by have:=(r.dom b i e).1;omega)] at q1;exact ⟨X,q1,q2⟩,x.os,x.tape,x.output,x.drawn⟩
theorem Rel.late (r:Rel ρ h w) {b:Nat} {i:Info} {B:Blk} {w':World} (hb:ρ b=none) (hl:b < h.next) (hg:h.get b=some B) (hn:New1 w w') (hi:i.g=w.heap.size) (hB:BlkR (ρ.put b i) i w' B):Rel (ρ.put b i) h w':=by
 have hle:=Ren.le_put (ρ:=ρ) (b:=b) i hb;have hput:∀ b' i',(ρ.put b i) b' = some i' → (b' = b∧i' = i)∨(b' ≠ b∧ρ b' = some i'):=fun b' i' e=>by
  unfold Ren.put at e
  split at e
  ·rename_i q;exact .inl ⟨q,(Option.some.inj e).symm⟩
  ·rename_i q;exact .inr ⟨q,e⟩
 refine ⟨fun b' i' e=>?_,fun b' i' X e f=>?_,fun b1 b2 i1 i2 e1 e2 l1 l2 hgg=>?_,r.wf⟩
 ·rw [hn.size];rcases hput b' i' e with ⟨rfl,rfl⟩ | ⟨_,e⟩
  ·exact ⟨hl,by omega⟩
  ·have:=r.dom b' i' e;exact ⟨this.1,by omega⟩
 ·rcases hput b' i' e with ⟨rfl,rfl⟩ | ⟨_,e⟩
  ·rw [hg] at f;obtain rfl:=Option.some.inj f;exact hB
  ·exact (r.blk b' i' X e f).congr hle (hn.old _ (r.dom b' i' e).2)
 ·rcases hput b1 i1 e1 with ⟨q1,q2⟩ | ⟨q1,f1⟩ <;> rcases hput b2 i2 e2 with ⟨q3,q4⟩ | ⟨q3,f2⟩
  ·rw [q1,q3]
  ·have:=(r.dom b2 i2 f2).2;rw [q2] at hgg;omega
  ·have:=(r.dom b1 i1 f1).2;rw [q4] at hgg;omega
  ·exact r.inj b1 b2 i1 i2 f1 f2 l1 l2 hgg
theorem Ext.late (x:Ext ρs hs ws ρ h w) {b:Nat} {i:Info} {w':World} (hb:ρ b=none) (hl:hs.next≤b) (hn:New1 w w') (hi:i.g=w.heap.size):Ext ρs hs ws (ρ.put b i) h w':=by
 have hle:=Ren.le_put (ρ:=ρ) (b:=b) i hb;refine ⟨x.le.trans hle,x.next,fun b' hb' hl'=>?_,by rw [hn.size];have:=x.size;omega,fun g hg hno=>?_,hn.os.trans x.os,hn.tape.trans x.tape,hn.output.trans x.output,Nat.le_trans x.drawn hn.drawn⟩
 ·obtain ⟨p,q⟩:=x.other b' hb' hl';refine ⟨?_,q⟩;unfold Ren.put;rw [if_neg (by omega)];exact p
 ·obtain ⟨p,q⟩:=x.frame g hg hno;refine ⟨(hn.old g (Nat.lt_of_lt_of_le hg x.size)).trans p,fun b' i' e ho=>?_⟩;unfold Ren.put at e
  split at e
  ·obtain rfl:=Option.some.inj e;have:=x.size;omega
  ·exact q b' i' e ho
theorem zhi {i j:Nat} (hi:i < listed.size):Dn (listed.setIfInBounds i true) j ↔ j=i∨Dn listed j:=by
 unfold Dn;rw [Array.getD_eq_getD_getElem?,Array.getElem?_setIfInBounds,Array.getD_eq_getD_getElem?]
 split
 ·rename_i e;subst e;simp [hi]
 ·rename_i e;constructor
  ·exact fun q=>.inr q
  ·rintro (rfl | q)
   ·exact absurd rfl e
   ·exact q
theorem DI.done (d:DI P A n dn L pd env h listed a w ρ ρs hs ws e0 V EV BL) (G:Glob A n) {i:Nat} (hi:i∈dn) (hnd:¬ Dn listed i) (hr:∀ k,edge A i k→Dn listed k) {w':World} {ρ':Ren} {u:Value} (hle:ρ.le ρ') (hrel:Rel ρ' h w') (hext:Ext ρs hs ws ρ' h w') (hv:VR ρ' (V i) u)
  (hb:∀ j,j∈dn → ¬ Dn listed j→j≠i→zlo A (EV j) (opAt A j)=some true→zcs P (opAt A j).op = .alloc→ρ (BL j)=none→BL j < h.next→ρ' (BL j)=none) :
  DI P A n dn L pd env h (listed.setIfInBounds i true) (a.put (opAt A i).dst u) w' ρ' ρs hs ws e0 V EV BL:=by
 have hil:i < listed.size:=by rw [d.size];exact d.dlt i hi
 have hput:∀ t,(opAt A i).dst≠some t→(a.put (opAt A i).dst u).tmps.getD t undef=a.tmps.getD t undef:=fun t ht=>by
  cases hd:(opAt A i).dst with
  | none=>rfl
  | some x =>
   simp only [Act.put,Array.getD_eq_getD_getElem?,Array.getElem?_setIfInBounds];rw [if_neg (fun e=>ht (by rw [hd,e]))]
 have hself:∀ t,(opAt A i).dst=some t→(a.put (opAt A i).dst u).tmps.getD t undef=u:=fun t ht=>by
  rw [ht];simp only [Act.put,Array.getD_eq_getD_getElem?,Array.getElem?_setIfInBounds];simp only [if_true];rw [if_pos (by rw [d.asize];exact zwb G.dst (d.dlt i hi) t ht)];rfl
 refine ⟨by simp [d.size],d.cover,d.ord,d.dlt,fun j hj=>?_,fun j hj k hk=>?_,d.cedge,d.tail,hrel,?_,?_,hext,d.cv,d.ce,fun j hj t ht=>?_,fun t v hno hv0=>?_,fun j hj hjd=>d.sv j hj (fun q=>hjd ((zhi hil).2 (.inr q))),fun j hj hjd=>d.se j hj (fun q=>hjd ((zhi hil).2 (.inr q))),fun j hj hjd=>?_,fun j k hj hk hjd hkd=>d.inj j k hj hk (fun q=>hjd ((zhi hil).2 (.inr q))) (fun q=>hkd ((zhi hil).2 (.inr q)))⟩
 ·rcases (zhi hil).1 hj with rfl | hj
  ·exact hi
  ·exact d.sub j hj
 ·rcases (zhi hil).1 hj with rfl | hj
  ·exact (zhi hil).2 (.inr (hr k hk))
  ·exact (zhi hil).2 (.inr (d.closed j hj k hk))
 ·cases (opAt A i).dst <;> simp [Act.put,d.defers]
 ·cases (opAt A i).dst <;> simp [Act.put,d.asize]
 ·rcases (zhi hil).1 hj with rfl | hj
  ·rw [hself t ht];exact hv
  ·have hne:j≠i:=fun e=>hnd (e ▸ hj);rw [hput t (fun e=>G.uniq i j t (d.dlt i hi) (d.dlt j (d.sub j hj)) (fun q=>hne q.symm) e ht)];exact (d.av j hj t ht).mono hle
 ·rw [hput t (hno i ((zhi hil).2 (.inl rfl)))];exact (d.ae t v (fun j hj=>hno j ((zhi hil).2 (.inr hj))) hv0).mono hle
 ·have hjd':¬ Dn listed j:=fun q=>hjd ((zhi hil).2 (.inr q));have hne:j≠i:=fun e=>hjd ((zhi hil).2 (.inl e));rcases d.again j hj hjd' with q | ⟨q,l⟩
  ·exact .inl q
  ·refine .inr ⟨q,?_⟩;cases l with
   | pure k1 k2=>exact .pure k1 k2
   | read k1 k2 k3=>exact .read k1 k2 k3
   | alloc vOf B h0 h0' k1 k2 k3 k4 k5 k6 k7=>exact .alloc vOf B h0 h0' k1 k2 k3 k4 (hb j hj hjd' hne q k1 k5 k7) k6 k7
end
end Go.V
end
section
namespace Go.V
section
variable {P:Program} {A:List Oper} {n:Nat} {dn L:List Nat} {pd:List Pend} {env:Env} {h:Hp} {listed:Array Bool} {a:Act} {w:World} {ρ ρs:Ren} {hs:Hp} {ws:World} {e0:Env} {V:Nat→Val} {EV:Nat→Env} {BL:Nat→Nat}
structure Snap (A:List Oper) (e0:Env) (V:Nat→Val) (i:Nat) (E:Env):Prop where
 sv:∀ j t,j < A.length→(opAt A j).dst=some t→t∈zjp A (opAt A i)→(ancB A i j→E.get t=some (V j))∧(¬ ancB A i j→E.get t=e0.get t)
 se:∀ t,t∈zjp A (opAt A i)→(∀ j,j < A.length→(opAt A j).dst≠some t)→E.get t=e0.get t
theorem DI.snapA (d:DI P A n dn L pd env h listed a w ρ ρs hs ws e0 V EV BL) (G:Glob A n) {i:Nat} (hi:i < A.length) (hnd:¬ Dn listed i) (hr:∀ k,edge A i k→Dn listed k) {E:Env} (S:Snap A e0 V i E) :
  ∀ t,t∈zjp A (opAt A i) → ∀ v,E.get t=some v→VR ρ v (a.tmps.getD t undef):=by
 intro t ht v hv
 by_cases hj:∃ j,j < A.length∧(opAt A j).dst=some t
 ·obtain ⟨j,hj,hjd⟩:=hj;have hne:j≠i:=fun e=>G.self j t hj hjd (by rw [e];exact ht);obtain ⟨s1,s2⟩:=S.sv j t hj hjd ht
  by_cases hb:ancB A i j
  ·have hD:=zhm d.closed i j hr hb;rw [s1 hb] at hv;obtain rfl:=Option.some.inj hv;exact d.av j hD t hjd
  ·rw [s2 hb] at hv;refine d.ae t v (fun k hk hkd=>?_) hv;have hkj:k=j:=by
    apply Classical.byContradiction;intro hne2;exact G.uniq k j t (d.dlt k (d.sub k hk)) hj hne2 hkd hjd
   subst hkj;rcases G.rw k i t hj hi hne hjd ht with q | q
   ·exact hb q
   ·exact hnd (zhm d.closed k i (d.closed k hk) q)
 ·rw [S.se t ht (fun j hjl hjd=>hj ⟨j,hjl,hjd⟩)] at hv;exact d.ae t v (fun k hk hkd=>hj ⟨k,d.dlt k (d.sub k hk),hkd⟩) hv
theorem DI.snapD (d:DI P A n dn L pd env h listed a w ρ ρs hs ws e0 V EV BL) {i:Nat} (hi:i∈dn) (hnd:¬ Dn listed i):Snap A e0 V i (EV i):=⟨d.sv i hi hnd,d.se i hi hnd⟩
theorem DI.snapC {i:Nat} {L':List Nat} (d:DI P A n dn (i::L') pd env h listed a w ρ ρs hs ws e0 V EV BL) (G:Glob A n) (T:At P A dn i L'):Snap A e0 V i env:=by
 refine ⟨fun j t hj hjd ht=>⟨fun hb=>?_,fun hb=>?_⟩,fun t ht hno=>d.ce t fun k hk=>hno k (d.dlt k hk)⟩
 ·exact d.cv j (zhm (D:=(· ∈ dn)) d.cedge i j T.edges hb) t hjd
 ·refine d.ce t fun k hk hkd=>?_;have hkj:k=j:=by
   apply Classical.byContradiction;intro hne2;exact G.uniq k j t (d.dlt k hk) hj hne2 hkd hjd
  subst hkj;have hne:k≠i:=fun e=>T.out (e ▸ hk);rcases G.rw k i t hj T.lt hne hjd ht with q | q
  ·exact hb q
  ·exact T.out (zhm (D:=(· ∈ dn)) d.cedge k i (d.cedge k hk) q)
theorem zvl {A:List Oper} {o:Oper} {t:Tmp} (h:t∈tmpsOf o.op):t∈zjp A o:=by
 unfold zjp;exact List.mem_append.2 (.inl h)
theorem guard_looks {A:List Oper} {o:Oper} {g:Nat} {wt:Bool} {x:Tmp} (h:o.guard=some (g,wt)) (hx:((A[g]?).bind (·.dst))=some x):x∈zjp A o:=by
 unfold zjp;refine List.mem_append.2 (.inr ?_);rw [h];simp only;rw [hx];simp
theorem zok {A:List Oper} {o:Oper} {E:Env}:zlo A (restr E (zjp A o)) o=zlo A E o:=by
 unfold zlo;cases hg:o.guard with
 | none=>rfl
 | some q =>
  obtain ⟨g,wt⟩:=q;simp only;cases hx:(A[g]?).bind (·.dst) with
  | none=>rfl
  | some x =>
   simp only [Option.bind_some];rw [zqe,if_pos (guard_looks hg hx)]
theorem zub {A:List Oper} {o:Oper} {E:Env}:op1 P (restr E (zjp A o)) h o.op=op1 P E h o.op :=
 op1_congr fun t ht=>by rw [zqe,if_pos (zvl ht)]
theorem St0.restr (d:DI P A n dn L pd env h listed a w ρ ρs hs ws e0 V EV BL) (G:Glob A n) {i:Nat} (hi:i < A.length) (hnd:¬ Dn listed i) (hr:∀ k,edge A i k→Dn listed k) {E:Env} (S:Snap A e0 V i E):St0 ρ (Go.V.restr E (zjp A (opAt A i))) h n a w:=by
 refine ⟨d.rel,fun t v hv=>?_,d.defers,d.asize⟩;rw [zqe] at hv
 split at hv
 ·rename_i ht;exact d.snapA G hi hnd hr S t ht v hv
 ·cases hv
theorem DI.late (d:DI P A n dn L pd env h listed a w ρ ρs hs ws e0 V EV BL) (G:Glob A n) {i:Nat} (hi:i∈dn) (hnd:¬ Dn listed i) (hr:∀ k,edge A i k→Dn listed k) {K:Act→World→Prop} {Q:Exit→Act→World→Prop}
  (hK:∀ a' w' ρ',DI P A n dn L pd env h (listed.setIfInBounds i true) a' w' ρ' ρs hs ws e0 V EV BL→K a' w'):wpOp P A.toArray Q i K a w:=by
 have hil:=d.dlt i hi;have s:=St0.restr d G hil hnd hr (d.snapD hi hnd);unfold wpOp;simp only [List.getElem?_toArray,zkv hil];rcases d.again i hi hnd with ⟨q1,q2⟩ | ⟨q1,l⟩
 ·rw [zmc s G.dst (by rw [zok];exact q1)];simp only [Bool.false_eq_true,if_false];exact hK _ _ ρ (d.done G hi hnd hr (Ren.le.refl _) d.rel d.ext (by rw [q2];exact VR.none0) (fun j _ _ _ _ _ q _=>q))
 ·have q1':=q1;rw [zmc s G.dst (by rw [zok];exact q1)];simp only [if_true]
  left
  have two:∀ {v:Val},op1 P (EV i) h (opAt A i).op=some (v,h)→V i=v→Oper.wp P (opAt A i) a w K Q:=fun {v} ho hv=>by
   rw [← zub (A:=A)] at ho;obtain ⟨ρ',w',r,u,e1,e2,e3,e4,e5⟩:=sim_op1 (a:=a) d.rel s.env ho;unfold Oper.wp;rw [e1];refine putO_same _ _ e2 (hK _ _ ρ' (d.done G hi hnd hr e5.le e4 (d.ext.trans e5) (by rw [hv];exact e3) (fun j _ _ _ _ _ q1 q2=>(e5.other _ q1 q2).1)))
  cases l with
  | pure k1 k2=>exact two k2 rfl
  | read k1 k2 k3=>exact two k2 rfl
  | alloc vOf B h0 h0' k1 k2 k3 k4 k5 k6 k7 =>
   obtain ⟨w',u,f,r1,r2,r3,r4,r5⟩:=k2.run ρ w a s.env;have hle:=Ren.le_put (ρ:=ρ) (b:=BL i) f k5;have hrel:=d.rel.late k5 k7 k4 r2 r3 (r5 _ hle);have hext:=d.ext.late k5 k6 r2 r3;unfold Oper.wp;rw [r1];refine hK _ _ (ρ.put (BL i) f) (d.done G hi hnd hr hle hrel hext (by rw [k3];exact r4 _ _ (zju _ _)) (fun j hj hjd hne hw hka q1 q2=>?_));unfold Ren.put;rw [if_neg]
   ·exact q1
   ·intro e;exact hne (d.inj j i hj hi hjd hnd hw q1' hka k1 e)
def upd {α:Type} (f:Nat→α) (i:Nat) (x:α):Nat→α:=fun j=>if j=i then x else f j
theorem zjh {α:Type} (f:Nat→α) (i:Nat) (x:α):upd f i x i=x:=by simp [upd]
theorem zht {α:Type} (f:Nat→α) {i j:Nat} (x:α) (h:j≠i):upd f i x j=f j:=by simp [upd,h]
theorem DI.step {i:Nat} {L':List Nat} (d:DI P A n dn (i::L') pd env h listed a w ρ ρs hs ws e0 V EV BL) (G:Glob A n) {v:Val} {h':Hp} {pd':List Pend} (hh:h' = h ∨ ∃ B,h' = h.new B) (hpd:∀ q,q∈pd→q∈pd')
  (hnew:(zlo A env (opAt A i)=some false∧v = .no∧h' = h)∨(zlo A env (opAt A i)=some true∧((zcs P (opAt A i).op = .pure∧op1 P env h' (opAt A i).op=some (v,h'))∨(zcs P (opAt A i).op = .read∧op1 P env h' (opAt A i).op=some (v,h')∧(⟨i,(opAt A i).op,env,v⟩:Pend)∈pd') ∨
   (zcs P (opAt A i).op = .alloc∧op1 P env h (opAt A i).op=some (v,h'))))) :
  ∃ V' EV' BL',DI P A n (i::dn) L' pd' (putO env (opAt A i).dst v) h' listed a w ρ ρs hs ws e0 V' EV' BL':=by
 obtain ⟨T,hord,_⟩:=zph d.ord;have hnd:¬ Dn listed i:=fun q=>T.out (d.sub i q);have hne:∀ j,j∈dn→j≠i:=fun j hj e=>T.out (e ▸ hj);have hwf:h.wf:=d.rel.wf;have hrel:Rel ρ h' w:=by rcases hh with rfl | ⟨B,rfl⟩;exact d.rel;exact d.rel.extend B
 have hext:Ext ρs hs ws ρ h' w:=by rcases hh with rfl | ⟨B,rfl⟩;exact d.ext;exact d.ext.extend d.rel B
 have hgp:∀ t,(putO env (opAt A i).dst v).get t=if (opAt A i).dst=some t then some v else env.get t:=fun t=>by
  cases hd:(opAt A i).dst with
  | none=>simp [putO]
  | some x =>
   simp only [putO,Go.V.T.get_set]
   by_cases e:t=x
   ·subst e;simp
   ·rw [if_neg e,if_neg (fun q=>e (Option.some.inj q).symm)]
 have S:=d.snapC G T;refine ⟨upd V i v,upd EV i env,upd BL i h.next,d.size,fun j hj=>?_,hord,fun j hj=>?_,fun j hj=>List.mem_cons_of_mem _ (d.sub j hj),d.closed,fun j hj k hk=>?_,fun pre j post hq k hk=>?_,hrel,d.defers,d.asize,hext,fun j hj t ht=>?_,fun t hno=>?_,fun j hj t ht=>?_,d.ae,fun j hj hjd k t hk hkd ht=>?_,fun j hj hjd t ht hno=>?_,fun j hj hjd=>?_,fun j k hj hk hjd hkd hwj hwk kj kk e=>?_⟩
 ·rcases d.cover j hj with q | q
  ·exact .inl (List.mem_cons_of_mem _ q)
  ·rcases List.mem_cons.1 q with rfl | q
   ·exact .inl (by simp)
   ·exact .inr q
 ·rcases List.mem_cons.1 hj with rfl | hj
  ·exact T.lt
  ·exact d.dlt j hj
 ·rcases List.mem_cons.1 hj with rfl | hj
  ·exact List.mem_cons_of_mem _ (T.edges k hk)
  ·exact List.mem_cons_of_mem _ (d.cedge j hj k hk)
 ·cases pre with
  | nil =>
   simp at hq;obtain ⟨rfl,rfl⟩:=hq;exact T.edges k hk
  | cons x pre =>
   simp at hq;exact d.tail pre j post hq.2 k hk
 ·rw [hgp];rcases List.mem_cons.1 hj with rfl | hj
  ·rw [if_pos ht,zjh]
  ·rw [if_neg (G.uniq j i t (d.dlt j hj) T.lt (hne j hj) ht),zht _ _ (hne j hj)];exact d.cv j hj t ht
 ·rw [hgp,if_neg (hno i (by simp))];exact d.ce t fun j hj=>hno j (List.mem_cons_of_mem _ hj)
 ·have:=hne j (d.sub j hj);rw [zht _ _ this];exact d.av j hj t ht
 ·rcases List.mem_cons.1 hj with rfl | hj
  ·rw [zjh];obtain ⟨s1,s2⟩:=S.sv k t hk hkd ht;refine ⟨fun hb=>?_,s2⟩;have hki:k≠j:=fun e=>T.out (zhm (D:=(· ∈ dn)) d.cedge j j T.edges (e ▸ hb));rw [zht _ _ hki];exact s1 hb
  ·rw [zht EV _ (hne j hj)];obtain ⟨s1,s2⟩:=d.sv j hj hjd k t hk hkd ht;refine ⟨fun hb=>?_,s2⟩;have hki:k≠i:=fun e=>T.out (zhm (D:=(· ∈ dn)) d.cedge j i (d.cedge j hj) (e ▸ hb));rw [zht _ _ hki];exact s1 hb
 ·rcases List.mem_cons.1 hj with rfl | hj
  ·rw [zjh];exact S.se t ht hno
  ·rw [zht _ _ (hne j hj)];exact d.se j hj hjd t ht hno
 ·rcases List.mem_cons.1 hj with rfl | hj
  ·rw [zjh,zjh,zjh];rcases hnew with ⟨q1,q2,_⟩ | ⟨q1,q2⟩
   ·exact .inl ⟨q1,q2⟩
   ·refine .inr ⟨q1,?_⟩;rcases q2 with ⟨k1,k2⟩ | ⟨k1,k2,k3⟩ | ⟨k1,k2⟩
    ·exact .pure k1 k2
    ·exact .read k1 k2 k3
    ·obtain ⟨vOf,B,k⟩:=zvt (env:=restr env (zjp A (opAt A j))) k1 (by rw [zub];exact k2);refine .alloc vOf B h h' k1 k k.val ?_ d.rel.free d.ext.next ?_
     ·rw [k.heap,Hp.get_new,if_pos rfl]
     ·rw [k.heap];exact Nat.lt_succ_self _
  ·rw [zht _ _ (hne j hj),zht _ _ (hne j hj),zht _ _ (hne j hj)];rcases d.again j hj hjd with q | ⟨q,l⟩
   ·exact .inl q
   ·refine .inr ⟨q,?_⟩;cases l with
    | pure k1 k2=>exact .pure k1 ((zuh k1 k2).2 h')
    | read k1 k2 k3 =>
     refine .read k1 ?_ (hpd _ k3);rcases hh with rfl | ⟨B,rfl⟩
     ·exact k2
     ·exact (zug k1 k2).2 B hwf
    | alloc vOf B h0 h0' k1 k2 k3 k4 k5 k6 k7 =>
     refine .alloc vOf B h0 h0' k1 k2 k3 ?_ k5 k6 ?_
     ·rcases hh with rfl | ⟨B,rfl⟩
      ·exact k4
      ·rw [Hp.get_new,if_neg (by omega)];exact k4
     ·rcases hh with rfl | ⟨B,rfl⟩
      ·exact k7
      ·exact Nat.lt_succ_of_lt k7
 ·have old:∀ m,m∈dn → ¬ Dn listed m→zlo A (EV m) (opAt A m)=some true→zcs P (opAt A m).op = .alloc→BL m < h.next:=fun m hm hmd hwm hkm=>by
   rcases d.again m hm hmd with ⟨q,_⟩ | ⟨q,l⟩
   ·rw [q] at hwm;cases hwm
   ·cases l with
    | pure k1 _=>rw [hkm] at k1;cases k1
    | read k1 _ _=>rw [hkm] at k1;cases k1
    | alloc vOf B h0 h0' k1 k2 k3 k4 k5 k6 k7=>exact k7
  rcases List.mem_cons.1 hj with q1 | hj' <;> rcases List.mem_cons.1 hk with q2 | hk'
  ·rw [q1,q2]
  ·rw [q1,zjh,zht _ _ (hne k hk')] at e;rw [zht _ _ (hne k hk')] at hwk;have:=old k hk' hkd hwk kk;omega
  ·rw [q2,zjh,zht _ _ (hne j hj')] at e;rw [zht _ _ (hne j hj')] at hwj;have:=old j hj' hjd hwj kj;omega
  ·rw [zht _ _ (hne j hj'),zht _ _ (hne k hk')] at e;rw [zht _ _ (hne j hj')] at hwj;rw [zht _ _ (hne k hk')] at hwk;exact d.inj j k hj' hk' hjd hkd hwj hwk kj kk e
end
end Go.V
end
section
namespace Go.V
section
variable {P:Program} {A:List Oper} {n:Nat} {dn L:List Nat} {pd:List Pend} {env:Env} {h:Hp} {listed:Array Bool} {a:Act} {w:World} {ρ ρs:Ren} {hs:Hp} {ws:World} {e0:Env} {V:Nat→Val} {EV:Nat→Env} {BL:Nat→Nat}
theorem DI.eff {i:Nat} {L':List Nat} (d:DI P A n dn (i::L') pd env h listed a w ρ ρs hs ws e0 V EV BL) (G:Glob A n) (hr:∀ k,edge A i k→Dn listed k) {v:Val} {u:Value} {h':Hp} {w':World} {ρ':Ren} (hst:Stays P A true i pd h') (hrel:Rel ρ' h' w') (hx:Ext ρ h w ρ' h' w') (hv:VR ρ' v u) :
  ∃ V',DI P A n (i::dn) L' pd (putO env (opAt A i).dst v) h' (listed.setIfInBounds i true) (a.put (opAt A i).dst u) w' ρ' ρs hs ws e0 V' EV BL:=by
 obtain ⟨T,hord,_⟩:=zph d.ord;have hnd:¬ Dn listed i:=fun q=>T.out (d.sub i q);have hne:∀ j,j∈dn→j≠i:=fun j hj e=>T.out (e ▸ hj);have hil:i < listed.size:=by rw [d.size];exact T.lt
 have hgp:∀ t,(putO env (opAt A i).dst v).get t=if (opAt A i).dst=some t then some v else env.get t:=fun t=>by
  cases hd:(opAt A i).dst with
  | none=>simp [putO]
  | some x =>
   simp only [putO,Go.V.T.get_set]
   by_cases e:t=x
   ·subst e;simp
   ·rw [if_neg e,if_neg (fun q=>e (Option.some.inj q).symm)]
 have hput:∀ t,(opAt A i).dst≠some t→(a.put (opAt A i).dst u).tmps.getD t undef=a.tmps.getD t undef:=fun t ht=>by
  cases hd:(opAt A i).dst with
  | none=>rfl
  | some x =>
   simp only [Act.put,Array.getD_eq_getD_getElem?,Array.getElem?_setIfInBounds];rw [if_neg (fun e=>ht (by rw [hd,e]))]
 have hself:∀ t,(opAt A i).dst=some t→(a.put (opAt A i).dst u).tmps.getD t undef=u:=fun t ht=>by
  rw [ht];simp only [Act.put,Array.getD_eq_getD_getElem?,Array.getElem?_setIfInBounds];simp only [if_true];rw [if_pos (by rw [d.asize];exact zwb G.dst T.lt t ht)];rfl
 have hcase:∀ j,j∈i::dn → ¬ Dn (listed.setIfInBounds i true) j→j∈dn ∧ ¬ Dn listed j:=fun j hj hjd=>by
  have h1:j≠i:=fun e=>hjd ((zhi hil).2 (.inl e));rcases List.mem_cons.1 hj with q | q
  ·exact absurd q h1
  ·exact ⟨q,fun x=>hjd ((zhi hil).2 (.inr x))⟩
 refine ⟨upd V i v,by simp [d.size],fun j hj=>?_,hord,fun j hj=>?_,fun j hj=>?_,fun j hj k hk=>?_,fun j hj k hk=>?_,fun pre j post hq k hk=>?_,hrel,?_,?_,d.ext.trans hx,fun j hj t ht=>?_,fun t hno=>?_,fun j hj t ht=>?_,fun t x hno hx0=>?_,fun j hj hjd k t hk hkd ht=>?_,fun j hj hjd t ht hno=>?_,fun j hj hjd=>?_,fun j k hj hk hjd hkd=>?_⟩
 ·rcases d.cover j hj with q | q
  ·exact .inl (List.mem_cons_of_mem _ q)
  ·rcases List.mem_cons.1 q with rfl | q
   ·exact .inl (by simp)
   ·exact .inr q
 ·rcases List.mem_cons.1 hj with rfl | hj
  ·exact T.lt
  ·exact d.dlt j hj
 ·rcases (zhi hil).1 hj with rfl | hj
  ·simp
  ·exact List.mem_cons_of_mem _ (d.sub j hj)
 ·rcases (zhi hil).1 hj with rfl | hj
  ·exact (zhi hil).2 (.inr (hr k hk))
  ·exact (zhi hil).2 (.inr (d.closed j hj k hk))
 ·rcases List.mem_cons.1 hj with rfl | hj
  ·exact List.mem_cons_of_mem _ (T.edges k hk)
  ·exact List.mem_cons_of_mem _ (d.cedge j hj k hk)
 ·cases pre with
  | nil =>
   simp at hq;obtain ⟨rfl,rfl⟩:=hq;exact T.edges k hk
  | cons x pre =>
   simp at hq;exact d.tail pre j post hq.2 k hk
 ·cases (opAt A i).dst <;> simp [Act.put,d.defers]
 ·cases (opAt A i).dst <;> simp [Act.put,d.asize]
 ·rw [hgp];rcases List.mem_cons.1 hj with rfl | hj
  ·rw [if_pos ht,zjh]
  ·rw [if_neg (G.uniq j i t (d.dlt j hj) T.lt (hne j hj) ht),zht _ _ (hne j hj)];exact d.cv j hj t ht
 ·rw [hgp,if_neg (hno i (by simp))];exact d.ce t fun j hj=>hno j (List.mem_cons_of_mem _ hj)
 ·rcases (zhi hil).1 hj with rfl | hj
  ·rw [hself t ht,zjh];exact hv
  ·have hn:=hne j (d.sub j hj);rw [hput t (fun e=>G.uniq i j t T.lt (d.dlt j (d.sub j hj)) (fun q=>hn q.symm) e ht),zht _ _ hn];exact (d.av j hj t ht).mono hx.le
 ·rw [hput t (hno i ((zhi hil).2 (.inl rfl)))];exact (d.ae t x (fun j hj=>hno j ((zhi hil).2 (.inr hj))) hx0).mono hx.le
 ·obtain ⟨hj',hjd'⟩:=hcase j hj hjd;obtain ⟨s1,s2⟩:=d.sv j hj' hjd' k t hk hkd ht;refine ⟨fun hb=>?_,s2⟩;have hki:k≠i:=fun e=>T.out (zhm (D:=(· ∈ dn)) d.cedge j i (d.cedge j hj') (e ▸ hb));rw [zht _ _ hki];exact s1 hb
 ·obtain ⟨hj',hjd'⟩:=hcase j hj hjd;exact d.se j hj' hjd' t ht hno
 ·obtain ⟨hj',hjd'⟩:=hcase j hj hjd;rw [zht _ _ (hne j hj')];rcases d.again j hj' hjd' with q | ⟨q,l⟩
  ·exact .inl q
  ·refine .inr ⟨q,?_⟩;cases l with
   | pure k1 k2=>exact .pure k1 ((zuh k1 k2).2 h')
   | read k1 k2 k3 =>
    refine .read k1 (hst rfl _ k3 ?_) k3;cases hb:((ancs A []).getD i 0).testBit j with
    | false=>rfl
    | true=>exact absurd (zhm d.closed i j hr hb) hjd'
   | alloc vOf B h0 h0' k1 k2 k3 k4 k5 k6 k7 =>
    obtain ⟨p,q'⟩:=hx.other _ k5 k7;exact .alloc vOf B h0 h0' k1 k2 k3 (q'.trans k4) p k6 (Nat.lt_of_lt_of_le k7 hx.next)
 ·obtain ⟨hj',hjd'⟩:=hcase j hj hjd;obtain ⟨hk',hkd'⟩:=hcase k hk hkd;exact d.inj j k hj' hk' hjd' hkd'
def unl (listed:Array Bool):Nat→Nat
 | 0=>0
 | m+1=>unl listed m+if listed.getD m false then 0 else 1
theorem unl_zero:∀ m,unl listed m=0 → ∀ i,i < m→Dn listed i:=by
 intro m
 induction m with
 | zero=>intro _ i h;omega
 | succ m ih =>
  intro h i hi;simp only [unl] at h
  by_cases he:i=m
  ·subst he;unfold Dn;cases hq:listed.getD i false with
   | true=>rfl
   | false=>rw [hq] at h;simp at h
  ·exact ih (by omega) i (by omega)
theorem unl_ge {i:Nat} (hi:i < listed.size):∀ m,m≤i→unl (listed.setIfInBounds i true) m=unl listed m:=by
 intro m
 induction m with
 | zero=>intro _;rfl
 | succ m ih =>
  intro h;simp only [unl,ih (by omega)]
  congr 1
  have:(listed.setIfInBounds i true).getD m false=listed.getD m false:=by
   rw [Array.getD_eq_getD_getElem?,Array.getElem?_setIfInBounds,if_neg (by omega),Array.getD_eq_getD_getElem?]
  rw [this]
theorem unl_set {i:Nat} (hi:i < listed.size) (hn:¬ Dn listed i):∀ m,i < m→unl (listed.setIfInBounds i true) m+1=unl listed m:=by
 intro m
 induction m with
 | zero=>intro h;omega
 | succ m ih =>
  intro h;simp only [unl]
  by_cases he:i=m
  ·subst he;rw [unl_ge hi i (Nat.le_refl _)];have h1:(listed.setIfInBounds i true).getD i false=true:=(zhi hi).2 (.inl rfl);have h2:listed.getD i false=false:=by
    cases hq:listed.getD i false with
    | false=>rfl
    | true=>exact absurd hq hn
   rw [h1,h2];simp
  ·have:(listed.setIfInBounds i true).getD m false=listed.getD m false:=by
    rw [Array.getD_eq_getD_getElem?,Array.getElem?_setIfInBounds,if_neg he,Array.getD_eq_getD_getElem?]
   rw [this,← ih (by omega)];omega
theorem ztv {i:Nat} (hs:listed.size=A.length):i∈Region.ready .any A.toArray listed ↔ i < A.length ∧ ¬ Dn listed i ∧ ∀ k,edge A i k→Dn listed k:=by
 unfold Region.ready;rw [List.mem_filter,List.mem_range];simp only [List.size_toArray,List.getElem?_toArray];constructor
 ·rintro ⟨h1,h2⟩;rw [zkv h1] at h2;simp only [Option.map_some,Option.getD_some,Bool.and_eq_true,Bool.not_eq_true'] at h2;refine ⟨h1,fun q=>?_,fun k ⟨e,he,hb,hk⟩=>?_⟩
  ·have:listed.getD i true=listed.getD i false:=by
    simp [Array.getD_eq_getD_getElem?,hs,h1]
   unfold Dn at q;rw [← this,h2.1] at q;cases q
  ·have:=(Array.all_eq_true_iff_forall_mem.1 h2.2) e (by simpa using he);rw [hb] at this;simp at this;rw [← hk];unfold Dn;rw [Array.getD_eq_getD_getElem?];simpa using this
 ·rintro ⟨h1,h2,h3⟩;refine ⟨h1,?_⟩;rw [zkv h1];simp only [Option.map_some,Option.getD_some,Bool.and_eq_true,Bool.not_eq_true'];refine ⟨?_,Array.all_eq_true_iff_forall_mem.2 fun e he=>?_⟩
  ·have:listed.getD i true=listed.getD i false:=by
    simp [Array.getD_eq_getD_getElem?,hs,h1]
   rw [this];cases hq:listed.getD i false with
   | false=>rfl
   | true=>exact absurd hq h2
  ·cases hb:Region.binds .any e with
   | false=>rfl
   | true =>
    have:=h3 e.on ⟨e,by simpa using he,hb,rfl⟩;unfold Dn at this;simpa using this
theorem DI.all (d:DI P A n dn L pd env h listed a w ρ ρs hs ws e0 V EV BL) (hno:∀ i,i < A.length → ¬ Dn listed i → ¬ ∀ k,edge A i k→Dn listed k):L=[] ∧ ∀ i,i < A.length→Dn listed i:=by
 have h1:∀ (post pre:List Nat),dn=pre++post → ∀ j,j∈post→Dn listed j:=by
  intro post
  induction post with
  | nil=>intro pre _ j hj;cases hj
  | cons x post ih =>
   intro pre hq j hj;have ih':=ih (pre++[x]) (by rw [hq];simp);rcases List.mem_cons.1 hj with e | hj
   ·subst e;apply Classical.byContradiction;intro hnd;exact hno j (d.dlt j (by rw [hq];simp)) hnd fun k hk=>ih' k (d.tail pre j post hq k hk)
   ·exact ih' j hj
 have h2:=h1 dn [] rfl;have hL:L=[]:=by
  cases L with
  | nil=>rfl
  | cons i L =>
   obtain ⟨T,_,_⟩:=zph d.ord;exact absurd (fun k hk=>h2 k (T.edges k hk)) (hno i T.lt (fun q=>T.out (d.sub i q)))
 refine ⟨hL,fun i hi=>?_⟩;rcases d.cover i hi with q | q
 ·exact h2 i q
 ·rw [hL] at q;cases q
theorem DI.run (G:Glob A n) {Q':Exit→Act→World→Prop} (hend:L=[] → ∀ listed a w ρ,DI P A n dn L pd env h listed a w ρ ρs hs ws e0 V EV BL→(∀ i,i < A.length→Dn listed i)→Q' .normal a w)
  (hhead:∀ i L',L=i::L' → ∀ listed a w ρ fuel,DI P A n dn L pd env h listed a w ρ ρs hs ws e0 V EV BL→unl (listed.setIfInBounds i true) A.length≤fuel→(∀ k,edge A i k→Dn listed k)→wpOp P A.toArray Q' i (wpAny P .any A.toArray Q' fuel (listed.setIfInBounds i true)) a w)
  (hafter:∀ i L',L=i::L' → ∀ r,r∈L' → ancB A r i) :
  ∀ (fuel:Nat) listed a w ρ,DI P A n dn L pd env h listed a w ρ ρs hs ws e0 V EV BL→unl listed A.length≤fuel→wpAny P .any A.toArray Q' fuel listed a w:=by
 have hfin:∀ listed a w ρ,DI P A n dn L pd env h listed a w ρ ρs hs ws e0 V EV BL→Region.ready .any A.toArray listed=[]→Q' .normal a w:=fun listed a w ρ d hr=>by
  obtain ⟨q1,q2⟩:=d.all fun i hi hnd hk=>by
   have:i∈Region.ready .any A.toArray listed:=(ztv d.size).2 ⟨hi,hnd,hk⟩;rw [hr] at this;cases this
  exact hend q1 listed a w ρ d q2
 intro fuel
 induction fuel with
 | zero =>
  intro listed a w ρ d hu;have hall:=unl_zero (listed:=listed) A.length (by omega);have hr:Region.ready .any A.toArray listed=[]:=by
   apply List.eq_nil_iff_forall_not_mem.2;intro i hi;obtain ⟨h1,h2,_⟩:=(ztv d.size).1 hi;exact h2 (hall i h1)
  exact ⟨hr,hfin listed a w ρ d hr⟩
 | succ fuel ih =>
  intro listed a w ρ d hu;refine ⟨hfin listed a w ρ d,fun i hi=>?_⟩;obtain ⟨h1,h2,h3⟩:=(ztv d.size).1 hi;have hu':unl (listed.setIfInBounds i true) A.length≤fuel:=by
   have:=unl_set (by rw [d.size];exact h1) h2 A.length h1;omega
  rcases d.cover i h1 with q | q
  ·exact d.late G q h2 h3 fun a' w' ρ' d'=>ih _ a' w' ρ' d' hu'
  ·cases hL:L with
   | nil=>rw [hL] at q;cases q
   | cons i0 L' =>
    rw [hL] at q;rcases List.mem_cons.1 q with rfl | q
    ·exact hhead i L' hL listed a w ρ fuel d hu' h3
    ·have hb:=hafter i0 L' hL i q;have hD:=zhm d.closed i i0 h3 hb;have hord:=d.ord;rw [hL] at hord;exact absurd (d.sub i0 hD) (zph hord).1.out
end
end Go.V
end
section
namespace Go.V
section
variable {P:Program} {K:Tb}
inductive LoopR (P:Program) (c:Code) (Q:Exit→Act→World→Prop):Act→World→Prop where
 | mk {a:Act} {w:World} (M:Exit→Act→World→Prop):c.wp P M a w→(∀ a' w',M .normal a' w' → LoopR P c Q a' w')→(∀ e a' w',e ≠ .normal→M e a' w' → Q e a' w')→LoopR P c Q a w
theorem LoopR.wp {c:Code} {Q:Exit→Act→World→Prop} {a:Act} {w:World} (h:LoopR P c Q a w):(Code.loop c).wp P Q a w:=by
 intro b k cs;have key:∃ e a' w',Q e a' w' ∧ Arrives P (lone (b.at a (.code c :: .inLoop c::k)) cs w) b k cs e a' w':=by
  induction h with
  | mk M hc hn hq ih =>
   obtain ⟨e,a₁,w₁,hm,harr⟩:=hc b (.inLoop c::k) cs;cases e with
   | normal =>
    obtain ⟨e₂,a₂,w₂,hq₂,harr₂⟩:=ih a₁ w₁ hm;exact ⟨e₂,a₂,w₂,hq₂,.of_steps (Steps.trans harr (.one step_inLoop)) harr₂⟩
   | exit id=>exact ⟨_,a₁,w₁,hq _ _ _ (by simp) hm,.pass (x:=.inLoop c) rfl (fun _ _=>.inl (by simp)) harr⟩
   | goto l=>exact ⟨_,a₁,w₁,hq _ _ _ (by simp) hm,.pass (x:=.inLoop c) rfl (fun _ _=>.inl (by simp)) harr⟩
   | ret=>exact ⟨_,a₁,w₁,hq _ _ _ (by simp) hm,.pass (x:=.inLoop c) rfl (fun _ _=>.inl (by simp)) harr⟩
   | panic ch=>exact ⟨_,a₁,w₁,hq _ _ _ (by simp) hm,.pass (x:=.inLoop c) rfl (fun _ _=>.inl (by simp)) harr⟩
   | outgrown=>exact ⟨_,a₁,w₁,hq _ _ _ (by simp) hm,.pass (x:=.inLoop c) rfl (fun _ _=>.inl (by simp)) harr⟩
 obtain ⟨e,a',w',hq,harr⟩:=key;exact ⟨e,a',w',hq,.of_steps (.one step_loop) harr⟩
def wpL (P:Program):Code→(Exit→Act→World→Prop)→Act→World→Prop
 | .loop c,Q,a,w=>LoopR P c Q a w
 | c,Q,a,w=>c.wp P Q a w
theorem wpL.wp {c:Code} {Q:Exit→Act→World→Prop} {a:Act} {w:World} (h:wpL P c Q a w):c.wp P Q a w:=by
 cases c <;> first | exact h | exact LoopR.wp h
def Mot (P:Program):Job→(Out→Prop)→Prop
 | .code n c env h,Q=>∀ ρ w a ρs hs ws,St0 ρ env h n a w→Ext ρs hs ws ρ h w→wpL P c (PostC Q ρs hs ws n) a w
 | .ops n A dr L pd env h,Q=>zpj n A=true →
   (dr=false → ∀ ρ w a ρs hs ws,St0 ρ env h n a w→Ext ρs hs ws ρ h w→wpList P A.toArray (PostC Q ρs hs ws n) (L.map (opAt A)) a w) ∧
   (dr=true→Glob A n → ∀ dn listed a w ρ ρs hs ws e0 V EV BL,DI P A n dn L pd env h listed a w ρ ρs hs ws e0 V EV BL → ∀ fuel,unl listed A.length≤fuel→wpAny P .any A.toArray (PostC Q ρs hs ws n) fuel listed a w)
 | .call f args h,Q=>∀ ρ w args',Rel ρ h w→VRL ρ args args' → CallR P f args'.toArray w fun v' w'=>∃ v h' ρ',Q (.call v h')∧VR ρ' v v' ∧ Rel ρ' h' w' ∧ Ext ρ h w ρ' h' w'
theorem PostC.turn {Q:Out→Prop} {ρs hs ws n a w ρ h env} {e0:Ex} (s:St0 ρ env h n a w) (x:Ext ρs hs ws ρ h w) (q:Q (.code e0 env h)):PostC Q ρs hs ws n (zvz e0) a w :=
 ⟨⟨e0,env,h,ρ,rfl,q,s.rel,s.env,x⟩,s.defers,s.size⟩
theorem zxr {e:Ex} (h:Exit.normal=zvz e):e = .nrm:=by cases e <;> simp [zvz] at h ⊢
theorem PostC.st {Q:Out→Prop} {ρs hs ws n a w} {e:Exit} (p:PostC Q ρs hs ws n e a w):∃ e0 env h ρ,e=zvz e0∧Q (.code e0 env h)∧St0 ρ env h n a w∧Ext ρs hs ws ρ h w:=by
 obtain ⟨⟨e0,env,h,ρ,h1,h2,h3,h4,h5⟩,h6,h7⟩:=p;exact ⟨e0,env,h,ρ,h1,h2,⟨h3,h4,h6,h7⟩,h5⟩
theorem wp_op1 {o:Oper} {env:Env} {h h':Hp} {n:Nat} {a:Act} {w:World} {ρ:Ren} {v:Val} {Kk:Act→World→Prop} {Q:Exit→Act→World→Prop} (r:Rel ρ h w) {E:Env} (hE:EnvR ρ E a) (hv:op1 P E h o.op=some (v,h'))
  (hK:∀ ρ' w' u,VR ρ' v u→Rel ρ' h' w' → Ext ρ h w ρ' h' w' → Kk (a.put o.dst u) w'):o.wp P a w Kk Q:=by
 obtain ⟨ρ',w',r',u,e1,e2,e3,e4,e5⟩:=sim_op1 (a:=a) r hE hv;unfold Oper.wp;rw [e1];exact putO_same _ _ e2 (hK ρ' w' u e3 e4 e5)
theorem wp_call {o:Oper} {f:FuncId} {vs:List Val} {E:Env} {h:Hp} {n:Nat} {a:Act} {w:World} {ρ:Ren} {Q0:Out→Prop} {Kk:Act→World→Prop} {Q:Exit→Act→World→Prop} (s:St0 ρ E h n a w) (ht:tgt E o.op=some (f,vs)) (hc:Mot P (.call f vs h) Q0)
  (hK:∀ v h' ρ' w' u,Q0 (.call v h')→VR ρ' v u→Rel ρ' h' w' → Ext ρ h w ρ' h' w' → Kk (a.put o.dst u) w'):o.wp P a w Kk Q:=by
 obtain ⟨args',h1,h2⟩:=sim_tgt s ht;unfold Oper.wp;rw [h2];rcases hc ρ w args' s.rel h1 with ⟨e1,e2⟩ | ⟨v',w',e1,v,h',ρ',e2,e3,e4,e5⟩
 ·rw [e1];simp only [Oper.upon];refine Calls.mono e2 fun e w' q=>?_;cases e with
  | returned v' =>
   obtain ⟨v,h',ρ',q1,q2,q3,q4⟩:=q;exact hK v h' ρ' w' v' q1 q2 q3 q4
  | panicked c=>exact q.elim
  | outgrown=>exact q.elim
 ·rw [e1];exact hK v h' ρ' w' v' e2 e3 e4 e5
theorem tgt_congr {A:List Oper} {o:Oper} {E:Env}:tgt (restr E (zjp A o)) o.op=tgt E o.op:=by
 have he:∀ t,t∈tmpsOf o.op→(restr E (zjp A o)).get t=E.get t:=fun t ht=>by rw [zqe,if_pos (zvl ht)]
 unfold tgt
 split
 ·rename_i x args ats ho;have hm:∀ y:Operand,y∈(Call.operands ⟨.value x,args,ats⟩).toList → ∀ t,y = .tmp t→(restr E (zjp A o)).get t=E.get t:=fun y hy t e=>he t (zqj (by rw [ho,← e];exact hy));rw [znu (env2:=E) (hm x (by simp [Call.operands])),evL_congr (env2:=E) fun t ht=>hm _ (by simp [Call.operands];exact .inr (by simpa using ht)) t rfl]
 ·rfl
theorem range_opAt (A:List Oper):(List.range A.length).map (opAt A)=A:=by
 apply List.ext_getElem?;intro i;simp only [List.getElem?_map]
 by_cases h:i < A.length
 ·rw [List.getElem?_range h,zkv h];rfl
 ·rw [List.getElem?_eq_none (by simpa using h),List.getElem?_eq_none (by simpa using h)];rfl
theorem pdPut_eff {i:Nat} {A:List Oper} {env:Env} {v:Val} {pd:List Pend} (h:zcs P (opAt A i).op = .eff):zoq P A i env v pd=pd:=by
 unfold zoq;rw [if_neg];rw [h];intro e;cases e
theorem tgt_eff {env:Env} {op:Op} {f:FuncId} {vs:List Val} (h:tgt env op=some (f,vs)):zcs P op = .eff:=by
 unfold tgt at h
 split at h
 ·rfl
 ·cases h
theorem sim_all (hK:KOk P K) {j:Job} {Q:Out→Prop} (x:XW P K j Q):Mot P j Q:=by
 induction x with
 | skip q=>intro ρ w a ρs hs ws s x;exact wp_skip (PostC.turn s x q)
 | label q=>intro ρ w a ρs hs ws s x;exact wp_label (PostC.turn s x q)
 | exit q=>intro ρ w a ρs hs ws s x;exact wp_exit (PostC.turn s x q)
 | ret q=>intro ρ w a ρs hs ws s x;exact wp_ret (PostC.turn s x q)
 | seq _ _ hno ih1 ih2 =>
  intro ρ w a ρs hs ws s x;refine wp_seq (wp_mono (ih1 ρ w a ρs hs ws s x).wp fun e a' w' p=>?_);obtain ⟨e0,env',h',ρ',rfl,q,s',x'⟩:=p.st;cases e0 with
  | nrm=>exact (ih2 env' h' q ρ' w' a' ρs hs ws s' x').wp
  | ext i=>exact PostC.turn s' x' (hno _ _ _ (by simp) q)
  | ret=>exact PostC.turn s' x' (hno _ _ _ (by simp) q)
 | cond hx _ ih =>
  rename_i n x a' b' env h Q t _;intro ρ w a ρs hs ws s x;have hv:=zen s.env hx;generalize hu:a.eval _=u at hv;cases hv;refine wp_cond hu ?_;cases t
  ·exact (ih ρ w a ρs hs ws s x).wp
  ·exact (ih ρ w a ρs hs ws s x).wp
 | block _ hq ih =>
  rename_i id c env h M Q;intro ρ w a ρs hs ws s x;refine wp_block (wp_mono (ih ρ w a ρs hs ws s x).wp fun e a' w' p=>?_);obtain ⟨e0,env',h',ρ',rfl,q,s',x'⟩:=p.st;have q':=hq _ _ _ q;cases e0 with
  | nrm=>exact PostC.turn s' x' q'
  | ret=>exact PostC.turn s' x' q'
  | ext i =>
   simp only [zvz,Exit.inBlock];simp only at q'
   split
   ·rename_i e;rw [if_pos e] at q';exact PostC.turn s' x' q'
   ·rename_i e;rw [if_neg e] at q';exact PostC.turn s' x' q'
 | loop _ _ hno ih1 ih2 =>
  rename_i n c env h M Q _ _;intro ρ w a ρs hs ws s x;refine LoopR.mk (PostC M ρs hs ws n) (ih1 ρ w a ρs hs ws s x).wp (fun a' w' p=>?_) (fun e a' w' ne p=>?_)
  ·obtain ⟨e0,env',h',ρ',he,q,s',x'⟩:=p.st;obtain rfl:=zxr he;exact ih2 env' h' q ρ' w' a' ρs hs ws s' x'
  ·obtain ⟨e0,env',h',ρ',rfl,q,s',x'⟩:=p.st;exact PostC.turn s' x' (hno _ _ _ (fun e=>ne (by rw [e];rfl)) q)
 | region hd hL _ ih =>
  rename_i n id A dr L env h Q _;intro ρ w a ρs hs ws s x;obtain ⟨ih1,ih2⟩:=ih hd;cases dr with
  | false =>
   simp only [Bool.false_eq_true,if_false] at hL;refine wp_region_lit ?_;have:=ih1 rfl ρ w a ρs hs ws s x;rw [hL,range_opAt] at this;exact this
  | true =>
   simp only [if_true] at hL;obtain ⟨G,hord,hfull⟩:=okL_glob hd hL.2;refine wp_region_any hL.1 ?_;have hno:∀ i,¬ Dn (Array.replicate A.length false) i:=fun i q=>by
    unfold Dn at q;rw [Array.getD_eq_getD_getElem?,Array.getElem?_replicate] at q
    split at q <;> simp at q
   have hx:=x.trans (Ext.drew ρ h w);have d:DI P A n [] L [] env h (Array.replicate A.length false) a w.drew ρ ρs hs ws env (fun _=>.no) (fun _=>.lf) (fun _=>0) :=
    ⟨by simp,fun i hi=>.inr (hfull i hi),hord,fun i hi=>(by cases hi),fun i hi=>absurd hi (hno i),fun i hi=>absurd hi (hno i),fun i hi=>(by cases hi),fun pre j post hq=>(by simp at hq),s.rel.drew,s.defers,s.size,hx,fun i hi=>(by cases hi),fun t _=>rfl,fun i hi=>absurd hi (hno i),fun t v _ hv=>s.env t v hv,fun i hi=>(by cases hi),fun i hi=>(by cases hi),fun i hi=>(by cases hi),fun i j hi=>(by cases hi)⟩
   have hul:∀ m,unl (Array.replicate A.length false) m≤m:=fun m=>by
    induction m with
    | zero=>exact Nat.le_refl _
    | succ m ih=>simp only [unl];split <;> omega
   have:=ih2 rfl G _ _ _ _ _ _ _ _ _ _ _ _ d A.length (hul _);simpa using this
 | onil q =>
  rename_i n A dr pd env h Q;intro hd;refine ⟨fun _ ρ w a ρs hs ws s x=>wpList_nil (PostC.turn (e0:=.nrm) s x q),fun _ G dn listed a w ρ ρs hs ws e0 V EV BL d fuel hu=>?_⟩;refine DI.run (ρs:=ρs) (hs:=hs) (ws:=ws) (e0:=e0) (V:=V) (EV:=EV) (BL:=BL) (dn:=dn) G (fun _ listed a w ρ d hall=>?_) (fun i L' e=>by cases e) (fun i L' e=>by cases e) fuel listed a w ρ d hu;refine PostC.turn (e0:=.nrm) ⟨d.rel,fun t v hv=>?_,d.defers,d.asize⟩ d.ext q
  by_cases hx:∃ i,i∈dn∧(opAt A i).dst=some t
  ·obtain ⟨i,hi,ht⟩:=hx;have hcv:=d.cv i hi t ht;rw [hv] at hcv;obtain rfl:=Option.some.inj hcv;exact d.av i (hall i (d.dlt i hi)) t ht
  ·have hno:∀ i,i∈dn→(opAt A i).dst≠some t:=fun i hi ht=>hx ⟨i,hi,ht⟩;exact d.ae t v (fun i hi=>hno i (d.sub i hi)) (by rw [← d.ce t hno];exact hv)
 | onot hi hw _ ih =>
  intro hd;obtain ⟨ih1,ih2⟩:=ih hd;refine ⟨fun hdr ρ w a ρs hs ws s x=>?_,fun hdr G dn listed a w ρ ρs hs ws e0 V EV BL d fuel hu=>?_⟩
  ·rw [List.map_cons];unfold wpList;rw [zmc s hd hw];simp only [Bool.false_eq_true,if_false];exact ih1 hdr ρ w _ ρs hs ws (s.put (zwb hd hi) VR.none0) x
  ·obtain ⟨V',EV',BL',d'⟩:=d.step G (v:=.no) (.inl rfl) (fun q h=>h) (.inl ⟨hw,rfl,rfl⟩);exact ih2 hdr G _ listed a w ρ ρs hs ws e0 V' EV' BL' d' fuel hu
 | oone hi hw hv hst _ ih =>
  rename_i n A dr i L pd env h Q v h' _;intro hd;obtain ⟨ih1,ih2⟩:=ih hd;refine ⟨fun hdr ρ w a ρs hs ws s x=>?_,fun hdr G dn listed a w ρ ρs hs ws e0 V EV BL d fuel hu=>?_⟩
  ·rw [List.map_cons];unfold wpList;rw [zmc s hd hw];simp only [if_true];exact .inl (wp_op1 (env:=env) (n:=n) s.rel s.env hv fun ρ' w' u q1 q2 q3=>ih1 hdr ρ' w' _ ρs hs ws ((s.turn q2 q3).put (zwb hd hi) q1) (x.trans q3))
  ·subst hdr;cases hk:zcs P (opAt A i).op with
   | eff =>
    obtain ⟨T,_,_⟩:=zph d.ord;have hpd:=pdPut_eff (env:=env) (v:=v) (pd:=pd) hk;rw [hpd] at ih2;refine DI.run G (fun e=>by cases e) (fun i0 L' e listed a w ρ fuel d hu hr=>?_) (fun i0 L' e r hr=>?_) fuel listed a w ρ d hu
    ·injection e with e1 e2;subst e1;subst e2;have hnd:¬ Dn listed i:=fun q=>T.out (d.sub i q);have S:=d.snapC G T;have s:=St0.restr d G hi hnd hr S;unfold wpOp;simp only [List.getElem?_toArray,zkv hi];rw [zmc s hd (by rw [zok];exact hw)];simp only [if_true];refine .inl (wp_op1 (env:=env) (n:=n) d.rel s.env (by rw [zub];exact hv) fun ρ' w' u q1 q2 q3=>?_);obtain ⟨V',d'⟩:=d.eff G hr (hst hk) q2 q3 q1;exact ih2 rfl G _ _ _ _ _ _ _ _ _ _ _ _ d' fuel hu
    ·injection e with e1 e2;subst e1;subst e2;exact T.eff hk r hr
   | pure =>
    obtain ⟨rfl,hq⟩:=zuh hk hv;obtain ⟨V',EV',BL',d'⟩:=d.step G (v:=v) (.inl rfl) (pd':=zoq P A i env v pd) (fun q h=>by unfold zoq;split <;> simp [h]) (.inr ⟨hw,.inl ⟨hk,hv⟩⟩);exact ih2 rfl G _ listed a w ρ ρs hs ws e0 V' EV' BL' d' fuel hu
   | read =>
    obtain ⟨rfl,hq⟩:=zug hk hv;obtain ⟨V',EV',BL',d'⟩:=d.step G (v:=v) (.inl rfl) (pd':=zoq P A i env v pd) (fun q h=>by unfold zoq;split <;> simp [h]) (.inr ⟨hw,.inr (.inl ⟨hk,hv,by unfold zoq;rw [if_pos hk];simp⟩)⟩);exact ih2 rfl G _ listed a w ρ ρs hs ws e0 V' EV' BL' d' fuel hu
   | alloc =>
    obtain ⟨vOf,B,k⟩:=zvt hk hv;obtain ⟨V',EV',BL',d'⟩:=d.step G (v:=v) (.inr ⟨B,k.heap⟩) (pd':=zoq P A i env v pd) (fun q h=>by unfold zoq;split <;> simp [h]) (.inr ⟨hw,.inr (.inr ⟨hk,hv⟩)⟩);exact ih2 rfl G _ listed a w ρ ρs hs ws e0 V' EV' BL' d' fuel hu
 | ocall hi hw ht _ hst _ ih1 ih2 =>
  rename_i n A dr i L pd env h M Q f args _ _;intro hd;refine ⟨fun hdr ρ w a ρs hs ws s x=>?_,fun hdr G dn listed a w ρ ρs hs ws e0 V EV BL d fuel hu=>?_⟩
  ·rw [List.map_cons];unfold wpList;rw [zmc s hd hw];simp only [if_true];exact .inl (wp_call s ht ih1 fun v h' ρ' w' u q0 q1 q2 q3=>(ih2 v h' q0 hd).1 hdr ρ' w' _ ρs hs ws ((s.turn q2 q3).put (zwb hd hi) q1) (x.trans q3))
  ·subst hdr;obtain ⟨T,_,_⟩:=zph d.ord;refine DI.run G (fun e=>by cases e) (fun i0 L' e listed a w ρ fuel d hu hr=>?_) (fun i0 L' e r hr=>?_) fuel listed a w ρ d hu
   ·injection e with e1 e2;subst e1;subst e2;have hnd:¬ Dn listed i:=fun q=>T.out (d.sub i q);have S:=d.snapC G T;have s:=St0.restr d G hi hnd hr S;unfold wpOp;simp only [List.getElem?_toArray,zkv hi];rw [zmc s hd (by rw [zok];exact hw)];simp only [if_true];refine .inl (wp_call s (by rw [tgt_congr];exact ht) ih1 fun v h' ρ' w' u q0 q1 q2 q3=>?_);obtain ⟨V',d'⟩:=d.eff G hr (hst v h' q0) q2 q3 q1;exact (ih2 v h' q0 hd).2 rfl G _ _ _ _ _ _ _ _ _ _ _ _ d' fuel hu
   ·injection e with e1 e2;subst e1;subst e2;exact T.eff (tgt_eff ht) r hr
 | call hf hb hn hl _ hq ih =>
  rename_i f args h M Q fn c _;intro ρ w args' r hr;refine .inl ⟨zqb hf hb hn _ w,?_⟩;refine calls_of_wp hf hb (wp_mono (ih ρ w _ ρ h w (enter_St0 r hr hl) (Ext.refl _ _ _)).wp fun e a' w' p=>?_);obtain ⟨e0,env',h',ρ',rfl,q,s',x'⟩:=p.st;obtain ⟨q1,vs,q2,q3⟩:=hq _ _ _ q;obtain ⟨us,g1,g2⟩:=run_res s' q2;rcases q1 with rfl | rfl
  ·exact ⟨s'.defers,_,g2,_,_,_,q3,oneV_VR g1,s'.rel,x'⟩
  ·exact ⟨s'.defers,_,g2,_,_,_,q3,oneV_VR g1,s'.rel,x'⟩
 | known hk hq =>
  intro ρ w args' r hr;rcases hK _ _ _ _ hk ρ w args' r hr with ⟨e1,e2⟩ | ⟨v',w',e1,v,h',ρ',e2,e3⟩
  ·refine .inl ⟨e1,Calls.mono e2 fun e w' q=>?_⟩;cases e with
   | returned v'=>obtain ⟨v,h',ρ',q1,q2⟩:=q;exact ⟨v,h',ρ',hq v h' q1,q2⟩
   | panicked c=>exact q.elim
   | outgrown=>exact q.elim
  ·exact .inr ⟨v',w',e1,v,h',ρ',hq v h' e2,e3⟩
end
end Go.V
end
