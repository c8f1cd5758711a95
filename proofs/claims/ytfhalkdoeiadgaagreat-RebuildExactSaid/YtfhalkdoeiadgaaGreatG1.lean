/- Values, a heap and operations of plain data: what a program's code does in one order, where no capacity is asked that is not known. What a piece of code does, in one order: an inductive predicate over plain data. The plain heap and the model's memory: blocks have other names there, known cells are alike. Operations: what the plain ones give, the model's give, alike. Operations that turn no memory: what the plain ones give, the model's give, alike. Operations on memory: what the plain ones give, the model's give, alike. Literals, rows of noughts, slices. Slices: cut, appended, copied, cleared.  -/
import Derived.WalkKit
import Derived.Deep.LoopGhost
import Derived.Deep.AppendSrc
import Derived.Deep.MidRow
import Derived.Laws.IdiomStrings
import Derived.Deep.Upon
import Derived.Lib.AppendZeros
import Derived.Lib.Bytealg
import Derived.Laws.Externs
import Derived.ProofKit
import Derived.OpenShut
import Derived.Carry
import Derived.Deep.Slices
set_option linter.unusedVariables false
set_option linter.unusedSimpArgs false
open Array renaming ext'→Be, getD_eq_getD_getElem?→yQ, getElem?_eq_getElem→T5, getElem?_modify→DD, getElem?_push→GN, getElem?_setIfInBounds→DE, length_toList→PA, range→Fq, replicate→PB, toArray_toList→BS
open BitVec renaming ofInt→wy
open Bool renaming and_eq_true→rk, false_eq_true→zZ, false_or→uB, not_eq_true'→AK, not_true→uP, or_eq_true→xK
open ByteArray renaming size→Er
open Classical renaming byContradiction→Ip
open Go renaming BinOp→Bf, BoundsCode→T7, Calls→J8, DataW→Et, Field→CQ, FuncId→tO, IntKind→vW, MapEntry→Fv, MemPlace→Fw, Operand→oY, Program→oZ, ResultVar→GW, TypeDesc→yR, TypeId→oI, TypeInfo→It, Value→oT, World→pf, grownCap_ge→MR, run_convert_bytes_string→Uz, run_program→UA, run_storeCells_cells→PR, run_underlying→qp, wp_mono→UB
open Go.Act renaming put→Es
open Go.Addr renaming add→Iq
open Go.BoundsCode renaming slice3C→T8
open Go.Builtin renaming append_→GO, clear_→MG, copy_→PG, firstCells→Bg, len_→GP, zeroCells→AL
open Go.Call renaming operands→PH
open Go.Calls renaming mono→GQ
open Go.DataW renaming Trod→T9, TrodAll→PI, trod→BT
open Go.Extern.Bytes renaming bytesOf→Ir, loadBytes→PJ
open Go.Instr renaming build→Ud, checkKey→MH, fill→J9, findKey→MI, findNow→MJ, index→Ue, indexAt→Uf, lookup→Ug, makeMap→PK, mapUpdate→Uh, sameBits→PL, sameNow→Ui, slice→Ka, sliceAt→GR, sliceBound→PM, sliceBounds→PN, sureAddr→MK
open Go.IntKind renaming bits→GS, i64→Eu, max→Uj, min→Uk, signed→GU
open Go.Obj.cells renaming inj→MM
open Go.Op renaming bytesLess→Bh, eqFields→Uo, eqItems→Up, equal→Uq, equalIn→Bi, operands→th
open Go.Region renaming binds→GV, ready→MO
open Go.Result renaming andThen_ok→pK
open Go.Sem renaming run→GX, run_bind→pB, run_pure→pT
open Go.Value renaming cells→Uv, int→Uw, tuple→Uy
open Go.World renaming cell?→zq, freeze→PQ, frozen?→Iu, setCell→MP, setCells→Kb, shape?→MQ
open Int renaming natCast_mul→PU, toNat_natCast→ry
open List renaming all_cons→tZ, all_eq_true→qB, append_assoc→tF, append_nil→vM, eq_nil_of_length_eq_zero→tP, ext_getElem?→CR, flatten_cons→vh, getD_eq_getElem?_getD→ya, getElem?_append_left→s6, getElem?_append_right→s7, getElem?_cons_succ→UL, getElem?_cons_zero→FB, getElem?_drop→vi, getElem?_eq_getElem→pF, getElem?_eq_none→zr, getElem?_eq_some_iff→qO, getElem?_map→xh, getElem?_take→tQ, getElem?_toArray→Ev, getElem_mem→qW, getElem_of_mem→vX, length_append→rH, length_map→wz, mapM_cons→vY, map_cons→xi, mem_append→vj, mem_cons→sg, mem_cons_of_mem→ti, mem_map→z7, mem_of_getElem?→vC, mem_of_mem_drop→yS, mem_of_mem_take→zt, mem_range→P7, range→sN, replicate→ph, replicate_succ→Kh, tail_drop→P8, take_left'→G4, take_length→uf
open Nat renaming add_assoc→yc, add_mul→rV, add_zero→xM, beq→xN, eq_of_beq_eq_true→BX, eq_zero_or_pos→Qa, le_refl→px, le_succ→AN, le_trans→wT, lt_of_lt_of_le→xO, lt_or_ge→M3, lt_succ_of_lt→Iy, lt_succ_self→BY, min→U0, mod_lt→Iz, mul_le_mul→M4, mul_le_mul_right→tG, mul_pos→IA, ne_of_beq_eq_false→Kj, ne_of_lt→U3, sub_zero→DK, zero_add→pA, zero_le→pY
open Option renaming bind_eq_bind→Bn, bind_eq_some_iff→oV, bind_some→pG, getD_some→BZ, map_eq_some_iff→pU, map_some→rN, pure_def→Ko
open Option.some renaming inj→oQ, injEq→qL
open Prod.mk renaming injEq→pZ
open Subtype renaming val→qK
open UInt8 renaming ofNat→G5
section
namespace Go.V
inductive T (α:Type) where
 | lf
 | nd (v:Option α) (l r:T α)
namespace T
variable {α:Type}
def get:T α→Nat→Option α
 | .lf,_=>none
 | .nd v l r,n=>match n with
  | 0=>v
  | m+1=>bif xN (m % 2) 0 then l.get (m / 2) else r.get (m / 2)
def val:T α→Option α
 | .lf=>none
 | .nd v _ _=>v
def LW:T α→T α
 | .lf=>.lf
 | .nd _ l _=>l
def Mi:T α→T α
 | .lf=>.lf
 | .nd _ _ r=>r
def Ib:Nat→T α→Nat→α→T α
 | 0,t,_,_=>t
 | f+1,t,n,x=>match n with
  | 0=>.nd (some x) t.LW t.Mi
  | m+1=>bif xN (m % 2) 0 then .nd t.val (Ib f t.LW (m / 2) x) t.Mi else .nd t.val t.LW (Ib f t.Mi (m / 2) x)
def set (t:T α) (n:Nat) (x:α):T α:=Ib (n+1) t n x
theorem W9 (t:T α) (m:Nat):t.get (m+1)=bif xN (m % 2) 0 then t.LW.get (m / 2) else t.Mi.get (m / 2):=by
 cases t with
 | lf=>simp [get,LW,Mi]
 | nd v l r=>rfl
theorem Xa (t:T α):t.get 0=t.val:=by cases t <;> rfl
theorem adu (x:α):∀ (f:Nat) (t:T α) (n k:Nat),n < f→(Ib f t n x).get k=if k=n then some x else t.get k:=by
 intro f
 induction f with
 | zero=>intro t n k h;omega
 | succ f ih =>
  intro t n k h;cases n with
  | zero =>
   cases k with
   | zero=>rfl
   | succ k=>simp only [Ib];rw [W9 t k,if_neg (by omega)];rfl
  | succ m =>
   cases k with
   | zero =>
    rw [if_neg (by omega),Xa];simp only [Ib];cases hm:xN (m % 2) 0 <;> simp [cond,val,Xa]
   | succ k =>
    simp only [Ib];have e1:(k+1=m+1) ↔ k=m:=by omega
    cases hm:xN (m % 2) 0 <;> cases hk:xN (k % 2) 0 <;> simp only [cond,get,hk,W9 t k]
    ·rw [ih _ _ _ (by omega)];have EZ:m % 2≠0:=Kj hm;have uI:k % 2≠0:=Kj hk
     by_cases he:k=m
     ·subst he;simp
     ·rw [if_neg (by omega),if_neg (by omega)]
    ·have EZ:m % 2≠0:=Kj hm;have uI:k % 2=0:=BX hk;rw [if_neg (by omega)]
    ·have EZ:m % 2=0:=BX hm;have uI:k % 2≠0:=Kj hk;rw [if_neg (by omega)]
    ·rw [ih _ _ _ (by omega)];have EZ:m % 2=0:=BX hm;have uI:k % 2=0:=BX hk
     by_cases he:k=m
     ·subst he;simp
     ·rw [if_neg (by omega),if_neg (by omega)]
theorem pD (t:T α) (n k:Nat) (x:α):(t.set n x).get k=if k=n then some x else t.get k:=adu x (n+1) t n k (by omega)
end T
inductive Cap where
 | k (n:Nat)
 | op (z:Nat)
 deriving DecidableEq,Inhabited
def Cap.of (z:Nat):Option Nat→Cap
 | some n=>.k n
 | none=>.op z
@[simp] theorem Cap.Gv (z n:Nat):Cap.of z (some n) = .k n:=rfl
@[simp] theorem Cap.D9 (z:Nat):Cap.of z none = .op z:=rfl
inductive jD where
 | b (x:Bool)
 | i (k:vW) (n:Int)
 | s (x:List UInt8)
 | p (a:Option (Nat × Nat))
 | sl (a:Option (Nat × Nat)) (len:Nat) (cap:Cap)
 | es
 | m (r:Option Nat)
 | f (fn:tO) (xv:List jD)
 | nf
 | un
 | agg (cs:List jD)
 | qR (vs:List jD)
 deriving Inhabited
def jD.cells:jD→List jD
 | .agg cs=>cs
 | v=>[v]
def jD.one:jD→Bool
 | .agg _ | .qR _=>false
 | _=>true
def jD.no:jD:=.qR []
inductive sD where
 | cells (z:Nat) (c:List jD)
 | ro (c:List jD)
 | map (es:List (jD × jD))
 | dead
structure Hp where
 next:Nat
 t:T sD
def Hp.get (h:Hp) (b:Nat):Option sD:=h.t.get b
def Hp.set (h:Hp) (b:Nat) (x:sD):Hp:={ h with t:=h.t.set b x }
def Hp.new (h:Hp) (x:sD):Hp:={ next:=h.next+1,t:=h.t.set h.next x }
def Hp.empty:Hp:=⟨0,.lf⟩
theorem Hp.pD (h:Hp) (b k:Nat) (x:sD):(h.set b x).get k=if k=b then some x else h.get k:=T.pD _ _ _ _
theorem Hp.rO (h:Hp) (k:Nat) (x:sD):(h.new x).get k=if k=h.next then some x else h.get k:=T.pD _ _ _ _
def Db:oT→Option jD
 | .bool x=>some (.b x)
 | .int k n=>some (.i k n)
 | .string s=>some (.s s.data.toList)
 | .pointer none=>some (.p none)
 | .slice none 0 0=>some (.sl none 0 (.k 0))
 | .map none=>some (.m none)
 | .nilFunc=>some .nf
 | _=>none
def cv:oT→Option jD
 | .agg cs=>(cs.toList.mapM Db).map .agg
 | v=>Db v
section
variable (P:oZ)
def sz (t:oI):Option Nat:=(P.info? t).map (·.size)
def zeroV (t:oI):Option jD:=(P.info? t).bind fun i=>i.zero.bind cv
def rY (t:oI):Option Bool:=(P.underlying t).map fun | .struct _ | .array _ _=>true | _=>false
def ET (t:oI) (f:Nat):Option CQ:=match P.underlying t with
 | some (.struct fs)=>fs[f]?
 | _=>none
end
def rd (h:Hp) (b o n:Nat):Option (List jD):=match h.get b with
 | some (.cells _ c)=>if o+n≤c.length then some ((c.drop o).take n) else none
 | some (.ro c)=>if o+n≤c.length then some ((c.drop o).take n) else none
 | _=>none
def p6 (c:List jD) (o:Nat) (vs:List jD):List jD:=c.take o++vs++c.drop (o+vs.length)
def vB (h:Hp) (b o:Nat) (vs:List jD):Option Hp:=match h.get b with
 | some (.cells z c)=>if o+vs.length≤c.length∧vs.all jD.one then some (h.set b (.cells z (p6 c o vs))) else none
 | _=>none
def JL (P:oZ) (t:oI) (cs:List jD) (o:Nat):Option jD :=
 (rY P t).bind fun a=>bif a then (sz P t).bind fun n=>if o+n≤cs.length then some (.agg ((cs.drop o).take n)) else none else cs[o]?
def yL (P:oZ) (h:Hp) (t:oI):jD→Option jD
 | .p (some (b,o))=>(rY P t).bind fun a=>bif a then (sz P t).bind fun n=>(rd h b o n).map .agg else (rd h b o 1).bind List.head?
 | _=>none
def En (P:oZ) (h:Hp) (t:oI) (a v:jD):Option Hp:=match a with
 | .p (some (b,o))=>(sz P t).bind fun n=>if v.cells.length=n then vB h b o v.cells else none
 | _=>none
def BG (op:Bf) (k:vW) (a b:Int):Option jD:=match op with
 | .add=>some (.i k (k.wrap (a+b)))
 | .sub=>some (.i k (k.wrap (a - b)))
 | .mul=>some (.i k (k.wrap (a*b)))
 | .quo=>if b=0 then none else some (.i k (k.wrap (a.tdiv b)))
 | .rem=>if b=0 then none else some (.i k (a.tmod b))
 | .and=>some (.i k (k.wrap (wy k.bits a &&& wy k.bits b).toNat))
 | .or=>some (.i k (k.wrap (wy k.bits a ||| wy k.bits b).toNat))
 | .xor=>some (.i k (k.wrap (wy k.bits a ^^^ wy k.bits b).toNat))
 | .andNot=>some (.i k (k.wrap (wy k.bits a &&& ~~~(wy k.bits b)).toNat))
 | .eql=>some (.b (a == b))
 | .neq=>some (.b (a != b))
 | .lss=>some (.b (a < b))
 | .leq=>some (.b (a≤b))
 | .gtr=>some (.b (a > b))
 | .geq=>some (.b (a ≥ b))
 | _=>none
def JV (op:Bf) (k:vW) (x y:Int):Option jD:=if y < 0 then none else match op with
 | .shl=>some (.i k (k.wrap (x*2 ^ min y.toNat k.bits)))
 | .shr=>some (.i k (x.fdiv (2 ^ min y.toNat k.bits)))
 | _=>none
def TL (op:Bf) (x y:List UInt8):Option jD:=match op with
 | .add=>if x.length+y.length≤2 ^ 62 then some (.s (x++y)) else none
 | .eql=>some (.b (x == y))
 | .neq=>some (.b (!(x == y)))
 | .lss=>some (.b (Bh x y))
 | .leq=>some (.b (Bh x y||x == y))
 | .gtr=>some (.b (!(Bh x y||x == y)))
 | .geq=>some (.b (!Bh x y))
 | _=>none
def zD:jD→jD→Bool
 | .b x,.b y=>x == y
 | .i j x,.i k y=>j == k&&x == y
 | .s x,.s y=>x == y
 | _,_=>false
def ym:List jD→List jD→Bool
 | [],[]=>true
 | x::xs,y::ys=>zD x y&&ym xs ys
 | _,_=>false
def GB (P:oZ) (t:oI):Option yR:=match P.underlying t with
 | some .bool=>some .bool
 | some (.int k)=>some (.int k)
 | some .string=>some .string
 | _=>none
def Mb (P:oZ):Nat→List CQ→Option (List yR)
 | _,[]=>some []
 | k,f::r=>if f.name ≠ "_" ∧ f.offset=k then (GB P f.type).bind fun d=>(Mb P (k+1) r).map (d :: ·) else none
def K3 (P:oZ) (t:oI):Option (List yR):=match P.underlying t with
 | some (.struct fs)=>if P.stoodInHeld t then none else Mb P 0 fs.toList
 | some (.array n e)=>if sz P e=some 1 then (GB P e).map (ph n) else none
 | _=>none
def E8:yR→jD→Bool
 | .bool,.b _=>true
 | .int k,.i j _=>j == k
 | .string,.s _=>true
 | _,_=>false
def vT:List yR→List jD→Bool
 | [],[]=>true
 | t::ts,v::vs=>E8 t v&&vT ts vs
 | _,_=>false
def Ag (P:oZ) (t:oI) (x y:jD):Option Bool:=match P.underlying t,x,y with
 | some .bool,.b a,.b c=>some (a == c)
 | some (.pointer _),.p none,.p a=>some a.isNone
 | some (.pointer _),.p (some _),.p none=>some false
 | some (.slice _),.sl none _ _,.sl a _ _=>some a.isNone
 | some (.slice _),.sl (some _) _ _,.sl none _ _=>some false
 | some (.slice _),.es,.sl none _ _=>some false
 | some (.slice _),.sl none _ _,.es=>some false
 | some (.func _ _ _),.nf,.nf=>some true
 | some (.func _ _ _),.nf,.f _ _=>some false
 | some (.func _ _ _),.f _ _,.nf=>some false
 | some (.map _ _),.m none,.m a=>some a.isNone
 | some (.map _ _),.m (some _),.m none=>some false
 | some (.struct _),.agg xs,.agg ys=>match K3 P t with
  | some l=>if vT l xs&&vT l ys && !P.eqGuardType P.depth t then some (ym xs ys) else none
  | none=>none
 | some (.array _ _),.agg xs,.agg ys=>match K3 P t with
  | some l=>if vT l xs&&vT l ys && !P.eqGuardType P.depth t then some (ym xs ys) else none
  | none=>none
 | _,_,_=>none
def ru (P:oZ) (op:Bf) (t:oI) (x y:jD):Option jD:=match x,y with
 | .i k a,.i j c=>match op with
  | .shl=>JV .shl k a c
  | .shr=>JV .shr k a c
  | _=>if k=j then BG op k a c else none
 | .s a,.s c=>TL op a c
 | x,y=>match op with
  | .eql=>(Ag P t x y).map .b
  | .neq=>(Ag P t x y).map fun q=>.b (!q)
  | _=>none
def J4 (op:UnOp) (x:jD):Option jD:=match op,x with
 | .neg,.i k n=>some (.i k (k.wrap (0 - n)))
 | .xor,.i k n=>BG .xor k (if k.signed then -1 else k.max) n
 | .not,.b c=>some (.b (!c))
 | _,_=>none
def BK:jD→Option Nat
 | .i _ n=>if 0≤n∧n≤2 ^ 40 then some n.toNat else none
 | _=>none
def ze:jD→Option Nat
 | .i _ n=>if 0≤n then some n.toNat else none
 | _=>none
def CD:Option jD→Nat→Option Nat
 | none,d=>some d
 | some v,_=>ze v
def zB (len cap:Nat) (lo hi mx:Option jD):Option (Nat × Nat × Nat) :=
 (CD mx cap).bind fun m=>(CD hi len).bind fun h=>(CD lo 0).bind fun l=>if m≤cap∧h≤m∧l≤h∧(mx.isSome→hi.isSome) then some (l,h,m) else none
def xb (P:oZ) (t:oI) (x:jD) (lo hi mx:Option jD):Option jD:=match P.underlying t,x with
 | some .string,.s s=>if mx.isSome then none else (zB s.length s.length lo hi none).map fun q=>.s ((s.drop q.1).take (q.2.1 - q.1))
 | some (.slice e),.sl a len (.k k)=>(sz P e).bind fun z=>(zB len k lo hi mx).map fun q =>
   .sl (if q.2.2=q.1 then a else a.map fun c=>(c.1,c.2+q.1*z)) (q.2.1 - q.1) (.k (q.2.2 - q.1))
 | some (.slice e),.sl (some (b,o)) len (.op z')=>(sz P e).bind fun z=>(if z' = z then zB len len lo hi mx else none).map fun q =>
   if mx.isSome then .sl (some (if q.2.2=q.1 then (b,o) else (b,o+q.1*z))) (q.2.1 - q.1) (.k (q.2.2 - q.1))
   else if q.1 < len then .sl (some (b,o+q.1*z)) (q.2.1 - q.1) (.op z) else .es
 | some (.slice e),.es=>(sz P e).bind fun _=>(zB 0 0 lo hi mx).map fun _=>.es
 | some (.array n e),.p (some (b,o))=>(sz P e).bind fun z=>(zB n n lo hi mx).map fun q =>
   .sl (some (if q.2.2=q.1 then (b,o) else (b,o+q.1*z))) (q.2.1 - q.1) (.k (q.2.2 - q.1))
 | some (.pointer arr),.p (some (b,o))=>match P.underlying arr with
  | some (.array n e)=>(sz P e).bind fun z=>(zB n n lo hi mx).map fun q =>
   .sl (some (if q.2.2=q.1 then (b,o) else (b,o+q.1*z))) (q.2.1 - q.1) (.k (q.2.2 - q.1))
  | _=>none
 | _,_=>none
def HP (P:oZ) (t:oI) (x ix:jD):Option jD:=(ze ix).bind fun i=>match P.underlying t,x with
 | some (.array n e),.p (some (b,o))=>(sz P e).bind fun z=>if i < n then some (.p (some (b,o+i*z))) else none
 | some (.slice e),.sl (some (b,o)) len _=>(sz P e).bind fun z=>if i < len then some (.p (some (b,o+i*z))) else none
 | _,_=>none
def LP (P:oZ) (t:oI) (x ix:jD):Option jD:=(ze ix).bind fun i=>match P.underlying t,x with
 | some (.array n e),.agg cs=>(sz P e).bind fun z=>if i < n then JL P e cs (i*z) else none
 | some .string,.s s=>(s[i]?).map fun c=>.i .u8 c.toNat
 | _,_=>none
def xR (place:Nat→Option (Nat × Nat)) (cells:List jD):List (Nat × jD)→Option (List jD)
 | []=>some cells
 | (i,v)::rest=>(place i).bind fun q=>if v.cells.length=q.2∧q.1+v.cells.length≤cells.length then xR place (p6 cells q.1 v.cells) rest else none
def sZ (z:List jD) (n:Nat):List jD:=(ph n z).flatten
def IW (P:oZ) (t:oI) (parts:List (Nat × jD)):Option jD:=(zeroV P t).bind fun zero=>match P.underlying t with
 | some (.struct fs)=>(fs.toList.mapM fun f=>(sz P f.type).map fun n=>(f.offset,n)).bind fun pl=>(xR (fun i=>pl[i]?) zero.cells parts).map .agg
 | some (.array _ e)=>(sz P e).bind fun z=>(xR (fun i=>some (i*z,z)) zero.cells parts).map .agg
 | _=>none
def AR (h:Hp) (z:Nat) (c:List jD):Option (jD × Hp):=if c.all jD.one then some (.p (some (h.next,0)),h.new (.cells z c)) else none
def xa (h:Hp) (z:Nat) (c:List jD) (len:Nat) (cap:Option Nat):Option (jD × Hp) :=
 if c.all jD.one then some (.sl (some (h.next,0)) len (.of z cap),h.new (.cells z c)) else none
def FQ (P:oZ) (h:Hp) (t:oI) (len:Nat) (parts:List (Nat × jD)):Option (jD × Hp):=match P.underlying t with
 | some (.slice e)=>(sz P e).bind fun z=>(zeroV P e).bind fun zero=>if len*z≤2 ^ 24∧zero.cells.length=z∧0 < z then
   (xR (fun i=>some (i*z,z)) (sZ zero.cells len) parts).bind fun c=>xa h z c len (some len) else none
 | _=>none
def HW (P:oZ) (h:Hp) (t:oI) (len cap:jD):Option (jD × Hp):=match P.underlying t with
 | some (.slice e)=>(sz P e).bind fun z=>(zeroV P e).bind fun zero=>(BK len).bind fun l=>(BK cap).bind fun c=>(P.info? e).bind fun i =>
   if l≤c∧i.bytes*c≤2 ^ 48∧zero.cells.length=z∧0 < z then xa h z (sZ zero.cells c) l (some c) else none
 | _=>none
def ui (h:Hp) (z n:Nat):jD→Option (List jD)
 | .sl (some (b,o)) _ _=>if n=0 then some [] else rd h b o (n*z)
 | .sl none _ _=>some []
 | .es=>if n=0 then some [] else none
 | .s s=>some ((s.take n).map fun c=>.i .u8 c.toNat)
 | _=>none
def D5:jD→Option Nat
 | .sl _ n _=>some n
 | .es=>some 0
 | .s s=>some s.length
 | _=>none
def HX (P:oZ) (h:Hp) (e:oI) (z:Nat) (alP:Bool) (x:jD):Option (Nat × List jD) :=
 bif alP then (BK x).bind fun n=>(zeroV P e).bind fun zero=>if zero.cells.length=z then some (n,sZ zero.cells n) else none
 else (D5 x).bind fun n=>(ui h z n x).map fun c=>(n,c)
def yP (P:oZ) (t:oI):Option Bool:=match P.underlying t with
 | some (.int _)=>some true
 | some (.slice _) | some .string=>some false
 | _=>none
def AS (h:Hp) (z n:Nat) (c:List jD) (s:jD):Option (jD × Hp):=match s with
 | .sl none len cap=>if len=0∧cap = .k 0 then if n=0 then some (s,h) else xa h z c n none else none
 | .es=>if n=0 then some (s,h) else none
 | .sl (some (b,o)) len (.k k) =>
  if len+n≤k then (vB h b (o+len*z) c).map fun h'=>(.sl (some (b,o)) (len+n) (.k k),h')
  else if len≤k∧len≤2 ^ 30 then (ui h z len s).bind fun d=>xa h z (d++c) (len+n) none else none
 | .sl (some (b,o)) len (.op _)=>match h.get b with
  | some (.cells z' d) =>
   if z' = z∧len≤2 ^ 30∧o+len*z≤d.length then
    if o+(len+n)*z≤d.length then (vB h b (o+len*z) c).map fun h'=>(.sl (some (b,o)) (len+n) (.op z),h')
    else (ui h z len s).bind fun d=>xa (h.set b .dead) z (d++c) (len+n) none
   else none
  | _=>none
 | _=>none
def G9 (P:oZ) (h:Hp) (ts:List oI) (s x:jD):Option (jD × Hp):=match ts with
 | [t,tx]=>(match P.underlying t with
  | some (.slice e)=>(sz P e).bind fun z=>(P.info? e).bind fun inf=>(zeroV P e).bind fun zero=>(yP P tx).bind fun zk=>(HX P h e z zk x).bind fun q =>
   if zero.cells.length=z∧0 < z∧q.1≤2 ^ 30∧0 < inf.bytes∧inf.bytes≤2 ^ 12∧q.2.length=q.1*z∧q.2.all jD.one then AS h z q.1 q.2 s else none
  | _=>none)
 | _=>none
def copyV (P:oZ) (h:Hp) (ts:List oI) (d s:jD):Option (jD × Hp) :=
 (ts[0]?).bind fun t=>match P.underlying t with
 | some (.slice e)=>(sz P e).bind fun z=>(D5 s).bind fun m=>match d with
  | .sl (some (b,o)) len _=>(ui h z (min m len) s).bind fun c=>if c.length=min m len*z then (vB h b o c).map fun h'=>(.i .i64 ((min m len:Nat):Int),h') else none
  | .sl none len _=>if len=0 then some (.i .i64 0,h) else none
  | .es=>some (.i .i64 0,h)
  | _=>none
 | _=>none
def FU (P:oZ) (h:Hp) (ts:List oI) (d:jD):Option (jD × Hp) :=
 (ts[0]?).bind fun t=>match P.underlying t with
 | some (.slice e)=>(zeroV P e).bind fun zero=>match d with
  | .sl (some (b,o)) len _=>if len=0 then some (.qR [],h) else if 0 < zero.cells.length then (vB h b o (sZ zero.cells len)).map fun h'=>(.qR [],h') else none
  | .sl none _ _=>some (.qR [],h)
  | .es=>some (.qR [],h)
  | _=>none
 | _=>none
def D4 (P:oZ) (h:Hp) (ts:List oI) (x:jD):Option jD :=
 (ts[0]?).bind fun t=>match P.underlying t,x with
 | some .string,.s s=>some (.i .i64 s.length)
 | some (.array n _),_=>some (.i .i64 n)
 | some (.slice _),.sl _ n _=>some (.i .i64 n)
 | some (.slice _),.es=>some (.i .i64 0)
 | some (.map _ _),.m none=>some (.i .i64 0)
 | some (.map _ _),.m (some r)=>match h.get r with
  | some (.map es)=>some (.i .i64 es.length)
  | _=>none
 | some (.pointer a),.p (some _)=>match P.underlying a with
  | some (.array n _)=>some (.i .i64 n)
  | _=>none
 | _,_=>none
def Nv (P:oZ) (ts:List oI) (x:jD):Option jD :=
 (ts[0]?).bind fun t=>match P.underlying t,x with
 | some (.slice _),.sl _ _ (.k k)=>some (.i .i64 k)
 | _,_=>none
def SP (mx:Bool):jD→jD→Option jD
 | .i k x,.i j y=>if k=j then some (.i k (bif mx then (if y > x then y else x) else (if y < x then y else x))) else none
 | _,_=>none
def OB (mx:Bool):List jD→Option jD
 | []=>none
 | x::r=>r.foldlM (SP mx) x
def wD (P:oZ) (h:Hp) (b:Builtin) (ts:List oI) (args:List jD):Option (jD × Hp):=match b,args with
 | .append,[s,x]=>G9 P h ts s x
 | .copy,[d,s]=>copyV P h ts d s
 | .clear,[d]=>FU P h ts d
 | .len,[x]=>(D4 P h ts x).map fun v=>(v,h)
 | .cap,[x]=>(Nv P ts x).map fun v=>(v,h)
 | .max,vs=>(OB true vs).map fun v=>(v,h)
 | .min,vs=>(OB false vs).map fun v=>(v,h)
 | _,_=>none
def vK (P:oZ) (t:oI) (k:jD):Bool:=match P.underlying t,k with
 | some (.int j),.i i _=>i == j
 | some .string,.s _=>true
 | some .bool,.b _=>true
 | _,_=>false
def zQ (x y:jD):Bool:=zD x y
def yE (k:jD):List (jD × jD)→Option jD
 | []=>none
 | (k',v)::r=>bif zQ k k' then some v else yE k r
def zX (k v:jD):List (jD × jD)→List (jD × jD)
 | []=>[(k,v)]
 | (k',u)::r=>bif zQ k k' then (k,v)::r else (k',u)::zX k v r
def Gr (P:oZ) (h:Hp) (t:oI) (m k:jD) (ok:Bool):Option jD:=match P.underlying t with
 | some (.map kt vt)=>if vK P kt k then
   (match m with
   | .m none=>some []
   | .m (some r)=>match h.get r with
    | some (.map es)=>if es.all fun e=>vK P kt e.1 then some es else none
    | _=>none
   | _=>none:Option (List (jD × jD))).bind fun es=>(zeroV P vt).bind fun zero =>
   let q:jD × Bool:=match yE k es with
    | some v=>(v,true)
    | none=>(zero,false)
   some (if ok then .qR [q.1,.b q.2] else q.1) else none
 | _=>none
def LZ (P:oZ) (h:Hp) (t:oI) (m k v:jD):Option Hp:=match P.underlying t,m with
 | some (.map kt _),.m (some r)=>match h.get r with
  | some (.map es)=>if vK P kt k∧es.all fun e=>vK P kt e.1 then some (h.set r (.map (zX k v es))) else none
  | _=>none
 | _,_=>none
def C5:List jD→Option (List UInt8)
 | []=>some []
 | .i .u8 n::r=>(C5 r).map fun l=>G5 n.toNat::l
 | _=>none
def J2 (P:oZ) (e:oI):Bool:=match P.underlying e with
 | some (.int .u8)=>true
 | _=>false
def wH (P:oZ) (h:Hp) (src dst:oI) (x:jD):Option (jD × Hp):=match P.underlying src,P.underlying dst,x with
 | some _,some (.int k),.i _ n=>some (.i k (k.wrap n),h)
 | some _,some .string,.s s=>some (.s s,h)
 | some .string,some (.slice e),.s s=>match P.underlying e with
  | some (.int .u8)=>if s=[] then none else xa h 1 (s.map fun c=>.i .u8 c.toNat) s.length none
  | _=>none
 | some (.slice _),some (.slice e),.sl (some a) n c=>match src == dst,P.underlying e,h.get a.1 with
  | true,some (.int .u8),some (.cells 1 _)=>some (.sl (some a) n c,h)
  | _,_,_=>none
 | some (.slice e),some .string,.sl none _ _=>if J2 P e then some (.s [],h) else none
 | some (.slice e),some .string,.es=>if J2 P e then some (.s [],h) else none
 | some (.slice e),some .string,.sl (some (b,o)) n _=>match P.underlying e with
  | some (.int .u8)=>(if n=0 then some [] else rd h b o n).bind fun c=>(C5 c).map fun s=>(.s s,h)
  | _=>none
 | _,_,_=>none
abbrev Env:=T jD
def pO (env:Env):oY→Option jD
 | .tmp t=>env.get t
 | .const v=>cv v
 | .global _=>none
 | .func f=>some (.f f [])
def vH (env:Env) (l:List oY):Option (List jD):=l.mapM (pO env)
def zF (env:Env) (l:List (Nat × oY)):Option (List (Nat × jD)):=l.mapM fun q=>(pO env q.2).map fun v=>(q.1,v)
def Ah (env:Env):Option oY→Option (Option jD)
 | none=>some none
 | some x=>(pO env x).map some
def pJ (P:oZ) (env:Env) (h:Hp):Op→Option (jD × Hp)
 | .move x | .assign x=>(pO env x).map fun v=>(v,h)
 | .pick c a b=>(pO env c).bind fun | .b true=>(pO env a).map fun v=>(v,h) | .b false=>(pO env b).map fun v=>(v,h) | _=>none
 | .alloc e=>(zeroV P e).bind fun v=>AR h v.cells.length v.cells
 | .box e x=>(pO env x).bind fun v=>AR h v.cells.length v.cells
 | .build t ps=>(zF env ps.toList).bind fun ps=>(IW P t ps).map fun v=>(v,h)
 | .buildSlice t n ps=>(zF env ps.toList).bind fun ps=>FQ P h t n ps
 | .load t a=>(pO env a).bind fun a=>(yL P h t a).map fun v=>(v,h)
 | .store t a x=>(pO env a).bind fun a=>(pO env x).bind fun x=>(En P h t a x).map fun h=>(.no,h)
 | .nilCheck x=>(pO env x).bind fun | .p none=>none | .nf=>none | .un=>none | v=>some (v,h)
 | .binOp op t x y _=>(pO env x).bind fun x=>(pO env y).bind fun y=>(ru P op t x y).map fun v=>(v,h)
 | .unOp op _ x=>(pO env x).bind fun x=>(J4 op x).map fun v=>(v,h)
 | .convert s d x=>(pO env x).bind fun x=>wH P h s d x
 | .sliceToArrayPointer t x=>(pO env x).bind fun | .sl (some a) n _=>(match P.underlying t with | some (.array k _)=>if k≤n then some (.p (some a),h) else none | _=>none) | _=>none
 | .makeFunc (.func f) first xv=>if first.size=0 then (vH env xv.toList).map fun l=>(.f f l,h) else none
 | .makeMap t r=>match r with
  | none=>some (.m (some h.next),h.new (.map []))
  | some x=>(pO env x).bind fun v=>match P.underlying t,v with | some (.map _ _),.i _ _=>some (.m (some h.next),h.new (.map [])) | _,_=>none
 | .makeSlice t l c=>(pO env l).bind fun l=>(pO env c).bind fun c=>HW P h t l c
 | .slice t x lo hi mx=>(pO env x).bind fun x=>(Ah env lo).bind fun lo=>(Ah env hi).bind fun hi=>(Ah env mx).bind fun mx=>(xb P t x lo hi mx).map fun v=>(v,h)
 | .fieldAddr s x f=>(pO env x).bind fun | .p (some (b,o))=>((ET P s f).bind fun q=>(sz P q.type).bind fun n=>if 0 < n then some (.p (some (b,o+q.offset)),h) else none) | _=>none
 | .field s x f=>(pO env x).bind fun | .agg cs=>((ET P s f).bind fun q=>(JL P q.type cs q.offset).map fun v=>(v,h)) | _=>none
 | .indexAddr t x i=>(pO env x).bind fun x=>(pO env i).bind fun i=>(HP P t x i).map fun v=>(v,h)
 | .index t x i=>(pO env x).bind fun x=>(pO env i).bind fun i=>(LP P t x i).map fun v=>(v,h)
 | .lookup t m k ok=>(pO env m).bind fun m=>(pO env k).bind fun k=>(Gr P h t m k ok).map fun v=>(v,h)
 | .mapUpdate t m k x=>(pO env m).bind fun m=>(pO env k).bind fun k=>(pO env x).bind fun x=>(LZ P h t m k x).map fun h=>(.no,h)
 | .extract x i=>(pO env x).bind fun | .qR vs=>(vs[i]?).map fun v=>(v,h) | _=>none
 | .call { callee:=.builtin b,args,argTypes }=>(vH env args.toList).bind fun l=>wD P h b argTypes.toList l
 | _=>none
def zp (env:Env):Op→Option (tO × List jD)
 | .call { callee:=.value f,args,.. }=>(pO env f).bind fun | .f g xv=>(vH env args.toList).map fun l=>(g,l++xv) | _=>none
 | _=>none
end Go.V
end
section
namespace Go.V
inductive Ex where
 | td
 | ext (id:Nat)
 | ret
inductive Qq where
 | pure | read | alloc | sQ
 deriving DecidableEq
def EP (P:oZ) (s d:oI):Qq:=match P.underlying s,P.underlying d with
 | some .string,some (.slice _)=>.alloc
 | some (.slice _),some (.slice _)=>.sQ
 | some (.slice _),some .string=>.read
 | _,_=>.pure
def Jy (P:oZ):List oI→Qq
 | t::_=>match P.underlying t with
  | some (.map _ _)=>.read
  | _=>.pure
 | []=>.pure
def qT (P:oZ):Op→Qq
 | .load .. | .lookup ..=>.read
 | .alloc .. | .box .. | .buildSlice .. | .makeMap .. | .makeSlice ..=>.alloc
 | .convert s d _=>EP P s d
 | .call { callee:=.builtin .len,argTypes,.. }=>Jy P argTypes.toList
 | .call { callee:=.builtin .cap,.. } | .call { callee:=.builtin .max,.. } | .call { callee:=.builtin .min,.. }=>.pure
 | .store .. | .mapUpdate .. | .call ..=>.sQ
 | .move .. | .assign .. | .pick .. | .build .. | .nilCheck .. | .binOp .. | .unOp .. | .sliceToArrayPointer .. | .makeFunc .. | .fieldAddr .. | .field .. | .indexAddr .. | .index .. | .extract .. | .slice ..=>.pure
 | _=>.sQ
def wC:List Oper→List Nat→List Nat
 | [],acc=>acc
 | o::r,acc=>wC r (acc++[o.after.toList.foldl (fun s e=>if GV .any e then s ||| 2 ^ e.on ||| acc.getD e.on 0 else s) 0])
def oE (A:List Oper) (i:Nat):Oper:=A.getD i ⟨none,.panic (.func 0),0,"",#[],none⟩
def looks (A:List Oper) (o:Oper):List Tmp :=
 (o.op.operands.toList.filterMap fun | .tmp t=>some t | _=>none)++(match o.guard with | some (g,_)=>((A[g]?).bind (·.dst)).toList | none=>[])
def Gw (P:oZ) (A:List Oper) (an:List Nat):List Nat→List Nat→Bool
 | _,[]=>true
 | done,i::rest=>!done.contains i && !rest.contains i&&Nat.blt i A.length &&
   ((oE A i).after.toList.all fun e=>!GV .any e||done.contains e.on) &&
   (match (oE A i).guard with | some (g,_)=>done.contains g&&(an.getD i 0).testBit g | none=>true) &&
   (!decide (qT P (oE A i).op = .sQ)||rest.all fun r=>(an.getD r 0).testBit i) &&
   (match (oE A i).dst with
    | some d=>!(looks A (oE A i)).contains d&&(rest++done).all fun j=>(oE A j).dst != some d&&(!(looks A (oE A j)).contains d||(an.getD j 0).testBit i||(an.getD i 0).testBit j)
    | none=>true) &&
   Gw P A an (i::done) rest
def Gx (P:oZ) (A:List Oper) (L:List Nat):Bool:=(sN A.length).all (fun i=>L.contains i)&&Gw P A (wC A []) [] L
structure yf where
 idx:Nat
 op:Op
 env:Env
 v:jD
inductive IF where
 | code (n:Nat) (c:Code) (env:Env) (h:Hp)
 | ops (n:Nat) (A:List Oper) (dr:Bool) (L:List Nat) (pd:List yf) (env:Env) (h:Hp)
 | call (f:tO) (args:List jD) (h:Hp)
inductive Out where
 | code (e:Ex) (env:Env) (h:Hp)
 | call (v:jD) (h:Hp)
def zV (env:Env) (d:Option Tmp) (v:jD):Env:=match d with
 | some d=>env.set d v
 | none=>env
def xZ (A:List Oper) (env:Env) (o:Oper):Option Bool:=match o.guard with
 | none=>some true
 | some (j,want)=>match ((A[j]?).bind (·.dst)).bind env.get with
  | some (.b x)=>some (x == want)
  | some (.qR [])=>some false
  | _=>none
def zC (n:Nat) (A:List Oper):Bool:=A.all fun o=>match o.dst with
 | some d=>Nat.blt d n
 | none=>true
def KB (P:oZ) (A:List Oper) (dr:Bool) (i:Nat) (pd:List yf) (h:Hp):Prop :=
 dr=true → ∀ q,q∈pd→((wC A []).getD i 0).testBit q.idx=false→pJ P q.env h q.op=some (q.v,h)
def zU (P:oZ) (A:List Oper) (i:Nat) (env:Env) (v:jD) (pd:List yf):List yf :=
 if qT P (oE A i).op = .read then ⟨i,(oE A i).op,env,v⟩::pd else pd
def Ha:Nat→List jD→Env→Env
 | _,[],env=>env
 | i,v::r,env=>Ha (i+1) r (env.set i v)
def Ba (P:oZ) (env:Env) (h:Hp):List GW→Option (List jD)
 | []=>some []
 | .tmp t::r=>(env.get t).bind fun v=>(Ba P env h r).map (v :: ·)
 | .cell a t::r=>(env.get a).bind fun p=>(yL P h t p).bind fun v=>(Ba P env h r).map (v :: ·)
def Du:List jD→jD
 | [v]=>v
 | vs=>.qR vs
abbrev Tb:=tO→List jD→Hp→(jD→Hp→Prop)→Prop
inductive XW (P:oZ) (K:Tb):IF→(Out→Prop)→Prop where
 | skip {n env h Q}:Q (.code .td env h)→XW P K (.code n .skip env h) Q
 | label {n i env h Q}:Q (.code .td env h)→XW P K (.code n (.label i) env h) Q
 | exit {n i env h Q}:Q (.code (.ext i) env h)→XW P K (.code n (.exit i) env h) Q
 | ret {n env h Q}:Q (.code .ret env h)→XW P K (.code n .ret env h) Q
 | seq {n a b env h M Q}:XW P K (.code n a env h) M→(∀ rF h',M (.code .td rF h')→XW P K (.code n b rF h') Q)→(∀ e rF h',e ≠ .td→M (.code e rF h')→Q (.code e rF h'))→XW P K (.code n (.seq a b) env h) Q
 | cond {n} {x:oY} {a b env h Q} {t:Bool}:pO env x=some (.b t)→XW P K (.code n (bif t then a else b) env h) Q→XW P K (.code n (.cond x a b) env h) Q
 | block {n id a env h M Q}:XW P K (.code n a env h) M→(∀ e rF h',M (.code e rF h')→Q (.code (match e with | .ext i=>if i=id then .td else .ext i | e=>e) rF h'))→XW P K (.code n (.block id a) env h) Q
 | loop {n a env h M Q}:XW P K (.code n a env h) M→(∀ rF h',M (.code .td rF h')→XW P K (.code n (.loop a) rF h') Q)→(∀ e rF h',e ≠ .td→M (.code e rF h')→Q (.code e rF h'))→XW P K (.code n (.loop a) env h) Q
 | region {n} {id:Nat} {A:List Oper} {dr:Bool} {L:List Nat} {env h Q}:zC n A=true→(if dr then P.follows .mixedOrders=true∧Gx P A L=true else L=sN A.length)→XW P K (.ops n A dr L [] env h) Q→XW P K (.code n (.region id A.toArray dr) env h) Q
 | L7 {n A dr pd env h Q}:Q (.code .td env h)→XW P K (.ops n A dr [] pd env h) Q
 | L8 {n} {A:List Oper} {dr:Bool} {i:Nat} {L:List Nat} {pd env h Q}:i < A.length→xZ A env (oE A i)=some false→XW P K (.ops n A dr L pd (zV env (oE A i).dst .no) h) Q→XW P K (.ops n A dr (i::L) pd env h) Q
 | Fa {n} {A:List Oper} {dr:Bool} {i:Nat} {L:List Nat} {pd env h Q v h'}:i < A.length→xZ A env (oE A i)=some true→pJ P env h (oE A i).op=some (v,h')→(qT P (oE A i).op = .sQ→KB P A dr i pd h') →
   XW P K (.ops n A dr L (zU P A i env v pd) (zV env (oE A i).dst v) h') Q→XW P K (.ops n A dr (i::L) pd env h) Q
 | JF {n} {A:List Oper} {dr:Bool} {i:Nat} {L:List Nat} {pd env h M Q f args}:i < A.length→xZ A env (oE A i)=some true→zp env (oE A i).op=some (f,args)→XW P K (.call f args h) M →
   (∀ v h',M (.call v h')→KB P A dr i pd h')→(∀ v h',M (.call v h')→XW P K (.ops n A dr L pd (zV env (oE A i).dst v) h') Q)→XW P K (.ops n A dr (i::L) pd env h) Q
 | call {f args h M Q} {fn:Func} {c:Code}:P.funcs[f]? = some fn→fn.body=some c→fn.name ≠ "runtime.NumGoroutine" → args.length≤fn.ntmps→XW P K (.code fn.ntmps c (Ha 0 args .lf) h) M →
   (∀ e rF h',M (.code e rF h')→(e = .td∨e = .ret) ∧ ∃ vs,Ba P rF h' fn.results.toList=some vs∧Q (.call (Du vs) h'))→XW P K (.call f args h) Q
 | known {f args h M Q}:K f args h M→(∀ v h',M v h' → Q (.call v h'))→XW P K (.call f args h) Q
theorem XW.mono {P:oZ} {K:Tb} {j:IF} {Q Q':Out→Prop} (h:XW P K j Q) (hq:∀ o,Q o→Q' o):XW P K j Q':=by
 induction h with
 | skip h=>exact .skip (hq _ h)
 | label h=>exact .label (hq _ h)
 | exit h=>exact .exit (hq _ h)
 | ret h=>exact .ret (hq _ h)
 | seq h1 h2 h3 za wj=>exact .seq h1 (fun e h m=>wj e h m hq) fun e env h ne m=>hq _ (h3 e env h ne m)
 | cond h1 _ ih=>exact .cond h1 (ih hq)
 | block h1 h2=>exact .block h1 fun e env h m=>hq _ (h2 e env h m)
 | loop h1 h2 h3 za wj=>exact .loop h1 (fun e h m=>wj e h m hq) fun e env h ne m=>hq _ (h3 e env h ne m)
 | region h0 h1 _ ih=>exact .region h0 h1 (ih hq)
 | L7 h=>exact .L7 (hq _ h)
 | L8 h1 h2 _ ih=>exact .L8 h1 h2 (ih hq)
 | Fa h1 h2 h3 h4 _ ih=>exact .Fa h1 h2 h3 h4 (ih hq)
 | JF h1 h2 h3 h4 h5 _ za wj=>exact .JF h1 h2 h3 h4 h5 fun v h m=>wj v h m hq
 | call h1 h2 h3 h4 h5 h6=>exact .call h1 h2 h3 h4 h5 fun e env h m=>by obtain ⟨g,vs,r,q⟩:=h6 e env h m;exact ⟨g,vs,r,hq _ q⟩
 | known h1 h2=>exact .known h1 fun v h m=>hq _ (h2 v h m)
end Go.V
end
section
namespace Go.V
structure Info where
 g:Nat
 base:Nat
 z:Nat
 n:Nat
 N:Nat
abbrev Ren:=Nat→Option Info
def uv (l:List UInt8):oT:=.string ⟨l.toArray⟩
inductive VR (ρ:Ren):jD→oT→Prop where
 | b (x:Bool):VR ρ (.b x) (.bool x)
 | i (k:vW) (n:Int):VR ρ (.i k n) (.int k n)
 | s (x:List UInt8):VR ρ (.s x) (uv x)
 | pn:VR ρ (.p none) (.pointer none)
 | p {b o:Nat} {i:Info}:ρ b=some i→VR ρ (.p (some (b,o))) (.pointer (some ⟨i.g,i.base+o,none⟩))
 | sn:VR ρ (.sl none 0 (.k 0)) (.slice none 0 0)
 | sk {b o len k:Nat} {i:Info}:ρ b=some i→len≤k→VR ρ (.sl (some (b,o)) len (.k k)) (.slice (some ⟨i.g,i.base+o,none⟩) len k)
 | so {b o len c:Nat} {i:Info}:ρ b=some i→len≤c→i.n≤o+c*i.z→i.base+o+c*i.z≤i.N→VR ρ (.sl (some (b,o)) len (.op i.z)) (.slice (some ⟨i.g,i.base+o,none⟩) len c)
 | es {a:Addr} {c:Nat}:VR ρ .es (.slice (some a) 0 c)
 | mn:VR ρ (.m none) (.map none)
 | m {r:Nat} {i:Info}:ρ r=some i→VR ρ (.m (some r)) (.map (some i.g))
 | f {fn:tO} {cs:List jD} {vs:List oT}:cs.length=vs.length→(∀ (j:Nat) (u:jD) (u':oT),cs[j]? = some u→vs[j]? = some u' → VR ρ u u')→VR ρ (.f fn cs) (.func (.func fn) #[] vs.toArray)
 | nf:VR ρ .nf .nilFunc
 | un {u:oT}:u.oneCell' = true→VR ρ .un u
 | agg {cs:List jD} {vs:List oT}:cs.length=vs.length→(∀ (j:Nat) (u:jD) (u':oT),cs[j]? = some u→vs[j]? = some u' → VR ρ u u')→VR ρ (.agg cs) (.agg vs.toArray)
 | qR {cs:List jD} {vs:List oT}:cs.length=vs.length→(∀ (j:Nat) (u:jD) (u':oT),cs[j]? = some u→vs[j]? = some u' → VR ρ u u')→VR ρ (.qR cs) (.tuple vs.toArray)
def Ren.le (ρ σ:Ren):Prop:=∀ b i,ρ b=some i→σ b=some i
theorem Ren.le.refl (ρ:Ren):ρ.le ρ:=fun _ _ h=>h
theorem Ren.le.trans {ρ σ τ:Ren} (a:ρ.le σ) (b:σ.le τ):ρ.le τ:=fun x i h=>b x i (a x i h)
theorem VR.mono {ρ σ:Ren} (l:ρ.le σ) {v:jD} {u:oT} (h:VR ρ v u):VR σ v u:=by
 induction h with
 | b x=>exact .b x
 | i k n=>exact .i k n
 | s x=>exact .s x
 | pn=>exact .pn
 | p h=>exact .p (l _ _ h)
 | sn=>exact .sn
 | sk h h2=>exact .sk (l _ _ h) h2
 | so h h2 h3 h4=>exact .so (l _ _ h) h2 h3 h4
 | es=>exact .es
 | mn=>exact .mn
 | m h=>exact .m (l _ _ h)
 | f h _ ih=>exact .f h ih
 | nf=>exact .nf
 | un h=>exact .un h
 | agg h _ ih=>exact .agg h ih
 | qR h _ ih=>exact .qR h ih
def pj (ρ:Ren) (cs:List jD) (vs:List oT):Prop:=cs.length=vs.length ∧ ∀ (j:Nat) (u:jD) (u':oT),cs[j]? = some u→vs[j]? = some u' → VR ρ u u'
theorem pj.mono {ρ σ:Ren} (l:ρ.le σ) {cs vs} (h:pj ρ cs vs):pj σ cs vs:=⟨h.1,fun j u u' a b=>(h.2 j u u' a b).mono l⟩
theorem pj.nil {ρ:Ren}:pj ρ [] []:=⟨rfl,fun j u u' h=>by simp at h⟩
theorem pj.cons {ρ:Ren} {c v cs vs} (h:VR ρ c v) (hs:pj ρ cs vs):pj ρ (c::cs) (v::vs):=⟨by simp [hs.1],fun j u u' a b=>by
 cases j with
 | zero=>simp at a b;subst a;subst b;exact h
 | succ j=>exact hs.2 j u u' (by simpa using a) (by simpa using b)⟩
theorem pj.head {ρ:Ren} {c v cs vs} (h:pj ρ (c::cs) (v::vs)):VR ρ c v:=h.2 0 c v rfl rfl
theorem pj.tail {ρ:Ren} {c v cs vs} (h:pj ρ (c::cs) (v::vs)):pj ρ cs vs:=⟨by simpa using h.1,fun j u u' a b=>h.2 (j+1) u u' (by simpa using a) (by simpa using b)⟩
theorem pj.at {ρ:Ren} {cs vs} (h:pj ρ cs vs) {j:Nat} {u:jD} (hj:cs[j]? = some u):∃ u',vs[j]? = some u' ∧ VR ρ u u':=by
 have hl:=(qO.1 hj).1;have h2:=pF (l:=vs) (i:=j) (by rw [← h.1];exact hl);exact ⟨_,h2,h.2 j u _ hj h2⟩
theorem pj.append {ρ:Ren} {cs ds vs us} (h:pj ρ cs vs) (k:pj ρ ds us):pj ρ (cs++ds) (vs++us):=⟨by simp [h.1,k.1],fun j u u' a b=>by
 by_cases hj:j < cs.length
 ·rw [s6 hj] at a;rw [s6 (by rw [← h.1];exact hj)] at b;exact h.2 j u u' a b
 ·rw [s7 (by omega)] at a;rw [s7 (by rw [← h.1];omega)] at b;rw [← h.1] at b;exact k.2 _ u u' a b⟩
theorem pj.drop {ρ:Ren} {cs vs} (h:pj ρ cs vs) (n:Nat):pj ρ (cs.drop n) (vs.drop n):=⟨by simp [h.1],fun j u u' a b=>h.2 (n+j) u u' (by simpa [vi] using a) (by simpa [vi] using b)⟩
theorem pj.take {ρ:Ren} {cs vs} (h:pj ρ cs vs) (n:Nat):pj ρ (cs.take n) (vs.take n):=⟨by simp [h.1],fun j u u' a b=>by
 rw [tQ] at a b
 split at a
 ·rw [if_pos (by assumption)] at b;exact h.2 j u u' a b
 ·cases a⟩
theorem pj.Rq {ρ:Ren}:∀ {cs:List jD} {f:Nat→Option oT},(∀ j u,cs[j]? = some u → ∃ u',f j=some u' ∧ VR ρ u u') → ∃ vs,pj ρ cs vs ∧ ∀ j u',vs[j]? = some u' → f j=some u'
 | [],f,h=>⟨[],pj.nil,fun j u' h=>by simp at h⟩
 | c::cs,f,h=>by
  obtain ⟨v,h1,h2⟩:=h 0 c rfl;obtain ⟨vs,h3,h4⟩:=pj.Rq (cs:=cs) (f:=fun j=>f (j+1)) fun j u hj=>h (j+1) u (by simpa using hj);exact ⟨v::vs,h3.cons h2,fun j u' hj=>by cases j with | zero=>simp at hj;subst hj;exact h1 | succ j=>exact h4 j u' (by simpa using hj)⟩
theorem Wm {u:oT} (h:u.oneCell' = true):u.cells.toList=[u]:=by
 cases u <;> first | rfl | (simp [Value.oneCell'] at h)
theorem VR.cells {ρ:Ren} {v:jD} {u:oT} (h:VR ρ v u):pj ρ v.cells u.cells.toList:=by
 cases h with
 | agg h1 h2=>exact ⟨by simpa [jD.cells,Uv] using h1,fun j u u' a b=>h2 j u u' a (by simpa [Uv] using b)⟩
 | b x=>exact pj.nil.cons (.b x)
 | i k n=>exact pj.nil.cons (.i k n)
 | s x=>exact pj.nil.cons (.s x)
 | pn=>exact pj.nil.cons .pn
 | p h=>exact pj.nil.cons (.p h)
 | sn=>exact pj.nil.cons .sn
 | sk h h2=>exact pj.nil.cons (.sk h h2)
 | so h h2 h3 h4=>exact pj.nil.cons (.so h h2 h3 h4)
 | es=>exact pj.nil.cons .es
 | mn=>exact pj.nil.cons .mn
 | m h=>exact pj.nil.cons (.m h)
 | f h1 h2=>exact pj.nil.cons (.f h1 h2)
 | nf=>exact pj.nil.cons .nf
 | un h=>rw [Wm h];exact pj.nil.cons (.un h)
 | qR h1 h2=>exact pj.nil.cons (.qR h1 h2)
theorem VR.aht {ρ:Ren} {v:jD} {u:oT} (h:VR ρ v u) (h1:v.one=true):u.oneCell' = true:=by
 cases h <;> first | rfl | assumption | (simp [jD.one] at h1)
theorem pj.one {ρ:Ren} {cs vs} (h:pj ρ cs vs) (h1:cs.all jD.one=true):∀ u∈vs,u.oneCell' = true:=by
 intro u hu;obtain ⟨j,hj,rfl⟩:=vX hu;have hc:cs[j]? = some (cs[j]'(by rw [h.1];exact hj)):=pF _;exact (h.2 j _ _ hc (pF hj)).aht (qB.1 h1 _ (qW _))
def Fz (z:Nat) (w:pf) (g:Nat):Prop:=(∀ c e fz,w.heap[g]? = some (.cells c e fz)→fz.1≤fz.2)∧(∀ o u,w.cell? ⟨g,o,none⟩=some u→u.oneCell' = true)∧(z≠1 → ∀ c e fz,w.heap[g]? = some (.cells c e fz)→fz.2≤fz.1)
def G6 (ρ:Ren) (i:Info) (w:pf):sD→Prop
 | .cells z c=>i.z=z∧i.n=c.length∧i.base+i.n≤i.N∧c.all jD.one=true∧((∀ o,o < i.N→(w.cell? ⟨i.g,o,none⟩).isSome=true∧w.frozen? ⟨i.g,o,none⟩=false)∧Fz z w i.g) ∧
   ∀ j u,c[j]? = some u → ∃ u',w.cell? ⟨i.g,i.base+j,none⟩=some u' ∧ VR ρ u u'
 | .ro c=>c.all jD.one=true ∧ ∀ j u,c[j]? = some u → ∃ u',w.cell? ⟨i.g,i.base+j,none⟩=some u' ∧ VR ρ u u'
 | .map es=>∃ (en:Array Fv) (ck:Nat),w.heap[i.g]? = some (.map en ck)∧en.size=es.length ∧ ∀ (j:Nat) (k v:jD),es[j]? = some (k,v) → ∃ e:Fv,en[j]? = some e∧VR ρ k e.key∧VR ρ v e.val
 | .dead=>True
@[simp] def sD.LX:sD→Bool
 | .cells ..=>true
 | .ro _=>true
 | .map _=>true
 | .dead=>false
@[simp] def sD.S1:sD→Bool
 | .cells ..=>true
 | .ro _=>false
 | .map _=>true
 | .dead=>false
def has (p:sD→Bool) (h:Hp) (b:Nat):Prop:=∃ B,h.get b=some B∧p B=true
abbrev live (h:Hp) (b:Nat):Prop:=has sD.LX h b
abbrev own (h:Hp) (b:Nat):Prop:=has sD.S1 h b
theorem own.live {h:Hp} {b:Nat} (q:own h b):live h b:=by
 obtain ⟨B,q1,q2⟩:=q;refine ⟨B,q1,?_⟩;cases B <;> simp at q2 ⊢
structure Rel (ρ:Ren) (h:Hp) (w:pf):Prop where
 tq:∀ b i,ρ b=some i→b < h.next∧i.g < w.heap.size
 qS:∀ b i B,ρ b=some i→h.get b=some B→G6 ρ i w B
 inj:∀ b b' i i',ρ b=some i→ρ b' = some i' → live h b→own h b' → i.g=i'.g→b=b'
 wf:∀ b,h.next≤b→h.get b=none
structure Ext (ρ:Ren) (h:Hp) (w:pf) (ρ':Ren) (h':Hp) (w':pf):Prop where
 le:ρ.le ρ'
 next:h.next≤h'.next
 other:∀ b,ρ b=none→b < h.next→ρ' b=none∧h'.get b=h.get b
 size:w.heap.size≤w'.heap.size
 frame:∀ g,g < w.heap.size→(∀ b i,ρ b=some i→own h b→i.g≠g)→w'.heap[g]? = w.heap[g]? ∧ ∀ b i,ρ' b=some i→own h' b→i.g≠g
 os:w'.os=w.os
 tape:w'.tape=w.tape
 output:w'.output=w.output
 drawn:w.drawn≤w'.drawn
theorem Ext.refl (ρ:Ren) (h:Hp) (w:pf):Ext ρ h w ρ h w:=⟨Ren.le.refl _,px _,fun b hb _=>⟨hb,rfl⟩,px _,fun g _ hg=>⟨rfl,hg⟩,rfl,rfl,rfl,px _⟩
theorem Ext.trans {ρ h w Fo h1 w1 Fp h2 w2} (a:Ext ρ h w Fo h1 w1) (b:Ext Fo h1 w1 Fp h2 w2):Ext ρ h w Fp h2 w2 :=
 ⟨a.le.trans b.le,wT a.next b.next,fun x hx hl=>by
   obtain ⟨p,q⟩:=a.other x hx hl;obtain ⟨p',q'⟩:=b.other x p (xO hl a.next);exact ⟨p',q'.trans q⟩,
  wT a.size b.size,fun g hg hn=>by
   obtain ⟨p,q⟩:=a.frame g hg hn;obtain ⟨p',q'⟩:=b.frame g (xO hg a.size) q;exact ⟨p'.trans p,q'⟩,b.os.trans a.os,b.tape.trans a.tape,b.output.trans a.output,wT a.drawn b.drawn⟩
theorem Rel.drew {ρ h w} (r:Rel ρ h w):Rel ρ h w.drew:=⟨fun b i e=>r.tq b i e,fun b i B e f=>by
  have:=r.qS b i B e f;cases B with
  | cells z c=>exact this
  | map es=>exact this
  | ro c=>exact this
  | dead=>trivial,r.inj,r.wf⟩
theorem Ext.drew (ρ:Ren) (h:Hp) (w:pf):Ext ρ h w ρ h w.drew:=⟨Ren.le.refl _,px _,fun b hb _=>⟨hb,rfl⟩,px _,fun g _ hg=>⟨rfl,hg⟩,rfl,rfl,rfl,AN _⟩
section
variable {ρ:Ren} {h:Hp} {w:pf}
theorem Rel.rd (r:Rel ρ h w) {b o n:Nat} {i:Info} {vs:List jD} (hb:ρ b=some i) (hr:rd h b o n=some vs):vs.all jD.one=true ∧ ∃ us,pj ρ vs us∧us.length=n∧w.rangeAt i.g (i.base+o) us:=by
 unfold V.rd at hr;cases hg:h.get b with
 | none=>simp [hg] at hr
 | some B =>
  cases B with
  | cells z c =>
   simp only [hg] at hr
   split at hr
   ·rename_i hle;obtain rfl:=oQ hr;obtain ⟨h1,h2,h3,h4,h5,h6⟩:=r.qS b i _ hb hg;refine ⟨qB.2 fun x hx=>qB.1 h4 x (yS (zt hx)),?_⟩;obtain ⟨us,h7,h8⟩:=pj.Rq (ρ:=ρ) (cs:=(c.drop o).take n) (f:=fun j=>w.cell? ⟨i.g,i.base+o+j,none⟩) fun j u hj=>by
     rw [tQ] at hj
     split at hj
     ·rw [vi] at hj;obtain ⟨u',a,q⟩:=h6 _ u hj;exact ⟨u',by rw [yc];exact a,q⟩
     ·cases hj
    exact ⟨us,h7,by rw [← h7.1];simp;omega,fun j v hv=>h8 j v hv⟩
   ·cases hr
  | ro c =>
   simp only [hg] at hr
   split at hr
   ·rename_i hle;obtain rfl:=oQ hr;obtain ⟨h4,h6⟩:=r.qS b i _ hb hg;refine ⟨qB.2 fun x hx=>qB.1 h4 x (yS (zt hx)),?_⟩;obtain ⟨us,h7,h8⟩:=pj.Rq (ρ:=ρ) (cs:=(c.drop o).take n) (f:=fun j=>w.cell? ⟨i.g,i.base+o+j,none⟩) fun j u hj=>by
     rw [tQ] at hj
     split at hj
     ·rw [vi] at hj;obtain ⟨u',a,q⟩:=h6 _ u hj;exact ⟨u',by rw [yc];exact a,q⟩
     ·cases hj
    exact ⟨us,h7,by rw [← h7.1];simp;omega,fun j v hv=>h8 j v hv⟩
   ·cases hr
  | map es=>simp [hg] at hr
  | dead=>simp [hg] at hr
theorem ads {w w':pf} {a:Addr} (e:w'.heap[a.block]? = w.heap[a.block]?):w'.frozen? a=w.frozen? a:=by simp [Iu,e]
theorem Hl {w w':pf} {a:Addr} (e:w'.heap[a.block]? = w.heap[a.block]?):w'.cell? a=w.cell? a:=by simp [zq,e]
theorem G6.congr {i:Info} {w w':pf} {B:sD} {σ:Ren} (l:ρ.le σ) (e:w'.heap[i.g]? = w.heap[i.g]?) (hB:G6 ρ i w B):G6 σ i w' B:=by
 cases B with
 | cells z c =>
  obtain ⟨h1,h2,h3,h4,h5,h6⟩:=hB;refine ⟨h1,h2,h3,h4,⟨fun o ho=>?_,⟨fun c e' fz hf=>h5.2.1 c e' fz (e ▸ hf),fun o u q=>h5.2.2.1 o u (by rw [Hl (a:=⟨i.g,o,none⟩) e] at q;exact q),fun hz c e' fz hf=>h5.2.2.2 hz c e' fz (e ▸ hf)⟩⟩,fun j u hj=>?_⟩
  ·rw [Hl (a:=⟨i.g,o,none⟩) e,ads (a:=⟨i.g,o,none⟩) e];exact h5.1 o ho
  ·obtain ⟨u',a,q⟩:=h6 j u hj;exact ⟨u',by rw [Hl (a:=⟨i.g,i.base+j,none⟩) e];exact a,q.mono l⟩
 | ro c =>
  obtain ⟨h4,h6⟩:=hB;refine ⟨h4,fun j u hj=>?_⟩;obtain ⟨u',a,q⟩:=h6 j u hj;exact ⟨u',by rw [Hl (a:=⟨i.g,i.base+j,none⟩) e];exact a,q.mono l⟩
 | map es =>
  obtain ⟨en,ck,h1,h2,h3⟩:=hB;exact ⟨en,ck,e.trans h1,h2,fun j k v hj=>by obtain ⟨x,a,p,q⟩:=h3 j k v hj;exact ⟨x,a,p.mono l,q.mono l⟩⟩
 | dead=>trivial
theorem yt {c:List jD} {o:Nat} {vs:List jD} (h:o+vs.length≤c.length):(p6 c o vs).length=c.length:=by simp [p6];omega
theorem Ed {c:List jD} {o:Nat} {vs:List jD} (h:o+vs.length≤c.length) (j:Nat):(p6 c o vs)[j]? = if o≤j∧j < o+vs.length then vs[j - o]? else c[j]?:=by
 unfold p6
 by_cases h1:j < o
 ·rw [if_neg (by omega),tF,s6 (by simp;omega),tQ,if_pos h1]
 ·by_cases h2:j < o+vs.length
  ·rw [if_pos ⟨by omega,h2⟩,tF,s7 (by simp;omega),s6 (by simp;omega)]
   congr 1;simp;omega
  ·rw [if_neg (by omega),tF,s7 (by simp;omega),s7 (by simp;omega),vi]
   congr 1;simp;omega
theorem EY (b:Nat):∀ (vs:List oT) (o:Nat) (w:pf) (k:Nat),k≠b→(w.setCells b o vs).heap[k]? = w.heap[k]?
 | [],_,_,_,_=>rfl
 | v::r,o,w,k,hk=>by
  rw [Kb,EY b r (o+1) _ k hk];simp only [MP,DD]
  split
  ·rename_i e;exact absurd e.symm hk
  ·rfl
theorem size_setCells (b:Nat):∀ (vs:List oT) (o:Nat) (w:pf),(w.setCells b o vs).heap.size=w.heap.size
 | [],_,_=>rfl
 | v::r,o,w=>by rw [Kb,size_setCells b r];simp [MP]
theorem os_setCells (b:Nat):∀ (vs:List oT) (o:Nat) (w:pf),(w.setCells b o vs).os=w.os∧(w.setCells b o vs).tape=w.tape∧(w.setCells b o vs).output=w.output∧(w.setCells b o vs).drawn=w.drawn
 | [],_,_=>⟨rfl,rfl,rfl,rfl⟩
 | v::r,o,w=>by rw [Kb];exact os_setCells b r (o+1) _
theorem isSome_setCells (b:Nat):∀ (vs:List oT) (o:Nat) (w:pf) (x:Addr),(w.cell? x).isSome=true→((w.setCells b o vs).cell? x).isSome=true
 | [],_,_,_,h=>h
 | v::r,o,w,x,h=>by
  rw [Kb];refine isSome_setCells b r (o+1) _ x ?_;simp only [zq,MP,DD] at h ⊢
  split
  ·rename_i c cc e hh
   split at hh
   ·rename_i hb;cases hw:w.heap[x.block]? with
    | none=>simp [hw] at h
    | some ob =>
     rw [hw] at h hh;cases ob <;> simp at hh h
     obtain ⟨rfl,rfl,rfl⟩:=hh
     split at h
     ·simp at h
     ·rename_i hs;rw [if_neg hs];simp at h ⊢;exact h
   ·rw [hh] at h;exact h
  ·rename_i hh
   split at hh
   ·rename_i hb;cases hw:w.heap[x.block]? with
    | none=>simp [hw] at h
    | some ob=>rw [hw] at h hh;cases ob <;> simp at hh h
   ·cases hw:w.heap[x.block]? with
    | none=>simp [hw] at h
    | some ob=>rw [hw] at h hh;cases ob <;> simp at hh h
theorem ab4 {w:pf} {a x:Addr} {v u:oT} (h:(w.setCell a v).cell? x=some u):u=v∨w.cell? x=some u:=by
 simp only [zq,MP,DD] at h ⊢
 by_cases hb:a.block=x.block
 ·rw [if_pos hb] at h;cases hw:w.heap[x.block]? with
  | none=>simp [hw] at h
  | some ob =>
   rw [hw] at h;cases ob with
   | cells c e fz =>
    simp only [rN] at h
    split at h
    ·cases h
    ·by_cases hs:a.spot.isSome=true
     ·rw [if_pos hs] at h;exact .inr (by simpa [‹¬ x.spot.isSome=true›] using h)
     ·rw [if_neg hs,DE] at h
      split at h
      ·split at h
       ·exact .inl (oQ h).symm
       ·cases h
      ·exact .inr (by simpa [‹¬ x.spot.isSome=true›] using h)
   | _=>simp at h
 ·rw [if_neg hb] at h;exact .inr h
theorem W8 {w:pf} {a:Addr} {v:oT} {g:Nat} {c:Array oT} {e:oI} {fz:Nat × Nat} (hf:(w.setCell a v).heap[g]? = some (.cells c e fz)):∃ c',w.heap[g]? = some (.cells c' e fz):=by
 simp only [MP,DD] at hf
 split at hf
 ·rename_i hb;cases hw:w.heap[g]? with
  | none=>simp [hw] at hf
  | some ob =>
   rw [hw] at hf;cases ob <;> simp at hf
   obtain ⟨_,rfl,rfl⟩:=hf;exact ⟨_,rfl⟩
 ·exact ⟨c,hf⟩
theorem Rp {z:Nat} (b:Nat):∀ (vs:List oT) (o:Nat) (w:pf) (g:Nat),(∀ u∈vs,u.oneCell' = true)→Fz z w g→Fz z (w.setCells b o vs) g
 | [],_,_,_,_,h=>h
 | v::r,o,w,g,hv,h=>by
  rw [Kb];refine Rp b r (o+1) _ g (fun u hu=>hv u (ti _ hu)) ⟨fun c e fz hf=>?_,fun o' u hu=>?_,fun hz c e fz hf=>?_⟩
  ·obtain ⟨c',q⟩:=W8 hf;exact h.1 c' e fz q
  ·rcases ab4 hu with rfl | q
   ·exact hv _ (by simp)
   ·exact h.2.1 o' u q
  ·obtain ⟨c',q⟩:=W8 hf;exact h.2.2 hz c' e fz q
theorem SF {p:sD→Bool} {b k:Nat} {z:Nat} {c c':List jD} (hp:p (.cells z c)=p (.cells z c')) (hb:h.get b=some (.cells z c)):has p (h.set b (.cells z c')) k ↔ has p h k:=by
 unfold has
 by_cases hk:k=b
 ·subst hk;simp [Hp.pD,hb,hp]
 ·simp [Hp.pD,hk]
theorem Rel.vB {h':Hp} (r:Rel ρ h w) {b o:Nat} {i:Info} {vs:List jD} {us:List oT} (hb:ρ b=some i) (hr:vB h b o vs=some h') (hv:pj ρ vs us) :
  (∀ j,j < us.length→(w.cell? ⟨i.g,i.base+o+j,none⟩).isSome=true)∧(∀ j,j < us.length→w.frozen? ⟨i.g,i.base+o+j,none⟩=false)∧(∀ u∈us,u.oneCell' = true)∧Rel ρ h' (w.setCells i.g (i.base+o) us)∧Ext ρ h w ρ h' (w.setCells i.g (i.base+o) us):=by
 unfold V.vB at hr;cases hg:h.get b with
 | none=>simp [hg] at hr
 | some B =>
  cases B with
  | cells z c =>
   simp only [hg] at hr
   split at hr
   ·rename_i hle;obtain ⟨hle,wY⟩:=hle;obtain rfl:=oQ hr;obtain ⟨h1,h2,h3,h4,h5,h6⟩:=r.qS b i _ hb hg;have HM:=hv.1;have hs:∀ j,j < us.length→(w.cell? ⟨i.g,i.base+o+j,none⟩).isSome=true:=fun j hj=>(h5.1 _ (by omega)).1;refine ⟨hs,fun j hj=>(h5.1 _ (by omega)).2,hv.one wY,?_,?_⟩
    ·refine ⟨fun b' i' e=>?_,fun b' i' B' e f=>?_,fun b1 b2 i1 i2 e1 e2 l1 l2=>r.inj b1 b2 i1 i2 e1 e2 ((SF (p:=sD.LX) (z:=z) (c:=c) (c':=p6 c o vs) (Eq.refl true) hg).1 l1) ((SF (p:=sD.S1) (z:=z) (c:=c) (c':=p6 c o vs) (Eq.refl true) hg).1 l2),fun k hk=>by
      have RF:=(r.tq b i hb).1;have uI:h.next≤k:=hk;rw [Hp.pD,if_neg (by omega)];exact r.wf k uI⟩
     ·have:=r.tq b' i' e;rw [size_setCells];exact this
     ·rw [Hp.pD] at f
      split at f
      ·rename_i vu;subst vu;rw [hb] at e;obtain rfl:=oQ e;obtain rfl:=oQ f;refine ⟨h1,by rw [yt hle];exact h2,h3,?_,⟨fun o' vR=>?_,Rp _ _ _ _ _ (hv.one wY) h5.2⟩,fun j u hj=>?_⟩
       ·refine qB.2 fun x hx=>?_;unfold p6 at hx;rcases vj.1 hx with hx | hx
        ·rcases vj.1 hx with hx | hx
         ·exact qB.1 h4 x (zt hx)
         ·exact qB.1 wY x hx
        ·exact qB.1 h4 x (yS hx)
       ·exact ⟨isSome_setCells _ _ _ _ _ (h5.1 o' vR).1,by rw [World.frozen?_setCells];exact (h5.1 o' vR).2⟩
       ·rw [Ed hle] at hj
        split at hj
        ·rename_i hjj;obtain ⟨u',a,q⟩:=hv.at hj;refine ⟨u',?_,q⟩;have pv:=(qO.1 a).1;have:=World.cell?_setCells_in i.g us (i.base+o) w hs (j - o) pv;rw [show i.base+j=i.base+o+(j - o) from by omega,this];exact (pF pv).symm.trans a
        ·rename_i hjj;obtain ⟨u',a,q⟩:=h6 j u hj;refine ⟨u',?_,q⟩;rw [World.cell?_setCells_out i.g us (i.base+o) w ⟨i.g,i.base+j,none⟩ (fun _ _=>by simp only;rw [← HM];omega)];exact a
      ·rename_i vu;have hB:=r.qS b' i' B' e f;cases B' with
       | dead=>trivial
       | cells z' c' =>
        have pM:i'.g≠i.g:=fun eg=>vu (r.inj b' b i' i e hb ⟨_,f,by simp⟩ ⟨_,hg,by simp⟩ eg);exact hB.congr (Ren.le.refl _) (EY _ _ _ _ _ pM)
       | ro c' =>
        have pM:i'.g≠i.g:=fun eg=>vu (r.inj b' b i' i e hb ⟨_,f,by simp⟩ ⟨_,hg,by simp⟩ eg);exact hB.congr (Ren.le.refl _) (EY _ _ _ _ _ pM)
       | map es =>
        have pM:i'.g≠i.g:=fun eg=>vu (r.inj b' b i' i e hb ⟨_,f,by simp⟩ ⟨_,hg,by simp⟩ eg);exact hB.congr (Ren.le.refl _) (EY _ _ _ _ _ pM)
    ·obtain ⟨o1,o2,o3,o4⟩:=os_setCells i.g us (i.base+o) w;refine ⟨Ren.le.refl _,px _,fun b' pP hl=>⟨pP,?_⟩,by rw [size_setCells];exact px _,fun g vv hn=>⟨EY _ _ _ _ _ (fun e=>hn b i hb ⟨_,hg,rfl⟩ e.symm),fun b' i' e q=>hn b' i' e ((SF (p:=sD.S1) (z:=z) (c:=c) (c':=p6 c o vs) (Eq.refl true) hg).1 q)⟩,o1,o2,o3,by rw [o4];exact px _⟩;rw [Hp.pD,if_neg (fun e=>by rw [e,hb] at pP;cases pP)]
   ·cases hr
  | ro c=>simp [hg] at hr
  | map es=>simp [hg] at hr
  | dead=>simp [hg] at hr
def Ren.put (ρ:Ren) (b:Nat) (i:Info):Ren:=fun k=>if k=b then some i else ρ k
theorem Rel.free (r:Rel ρ h w):ρ h.next=none:=by
 cases e:ρ h.next with
 | none=>rfl
 | some i=>have:=(r.tq _ _ e).1;omega
theorem Ren.HT {b:Nat} (i:Info) (hb:ρ b=none):ρ.le (ρ.put b i):=fun k j e=>by
 unfold Ren.put
 split
 ·rename_i hk;rw [hk,hb] at e;cases e
 ·exact e
theorem Rel.SU (r:Rel ρ h w) {z:Nat} {c:List jD} {cs:List oT} {e:oI} {fz:Nat × Nat} (hf:fz.1 < fz.2→cs.length≤fz.1) (hz:fz.1≤fz.2) (Sj:z≠1→fz.2≤fz.1) (h1:c.all jD.one=true) (E1:∀ u∈cs,u.oneCell' = true) (hlen:c.length≤cs.length) (hv:pj ρ c (cs.take c.length)) :
  Rel (ρ.put h.next ⟨w.heap.size,0,z,c.length,cs.length⟩) (h.new (.cells z c)) (w.alloc (.cells cs.toArray e fz))∧Ext ρ h w (ρ.put h.next ⟨w.heap.size,0,z,c.length,cs.length⟩) (h.new (.cells z c)) (w.alloc (.cells cs.toArray e fz)):=by
 have Jh:=r.free;have hle:=Ren.HT (ρ:=ρ) (b:=h.next) ⟨w.heap.size,0,z,c.length,cs.length⟩ Jh;have sX:∀ b i,(ρ.put h.next ⟨w.heap.size,0,z,c.length,cs.length⟩) b=some i→(b=h.next∧i=⟨w.heap.size,0,z,c.length,cs.length⟩)∨(b≠h.next∧ρ b=some i):=fun b i e=>by
  unfold Ren.put at e
  split at e
  ·rename_i hb;exact .inl ⟨hb,(oQ e).symm⟩
  ·rename_i hb;exact .inr ⟨hb,e⟩
 have hold:∀ g,g < w.heap.size→(w.alloc (.cells cs.toArray e fz)).heap[g]? = w.heap[g]?:=fun g hg=>by
  show (w.heap.push _)[g]? = _;rw [GN,if_neg (U3 hg)]
 have u7:(w.alloc (.cells cs.toArray e fz)).heap[w.heap.size]? = some (.cells cs.toArray e fz):=by
  show (w.heap.push _)[w.heap.size]? = _;rw [GN,if_pos rfl]
 refine ⟨⟨fun b i e=>?_,fun b i B e f=>?_,fun b b' i i' e e' l l' hg=>?_,fun k hk=>by
   have uI:h.next+1≤k:=hk;rw [Hp.rO,if_neg (by omega)];exact r.wf k (by omega)⟩,hle,AN _,fun b hb hl=>⟨?_,?_⟩,by simp,fun g hg hn=>⟨hold g hg,fun b i e q=>?_⟩,rfl,rfl,rfl,px _⟩
 ·rcases sX b i e with ⟨rfl,rfl⟩ | ⟨_,e⟩
  ·exact ⟨BY _,by simp⟩
  ·have:=r.tq b i e;exact ⟨Iy this.1,by simp;omega⟩
 ·rcases sX b i e with ⟨rfl,rfl⟩ | ⟨hb,e⟩
  ·rw [Hp.rO,if_pos rfl] at f;obtain rfl:=oQ f;refine ⟨rfl,rfl,by simpa using hlen,h1,⟨fun o ho=>⟨?_,?_⟩,⟨fun c' e' Ro Dg=>by rw [u7] at Dg;obtain ⟨_,_,rfl⟩:=(MM (oQ Dg));exact hz,fun o u q=>by simp only [zq,u7] at q;exact E1 u (vC (by simpa using q)),fun sS c' e' Ro Dg=>by rw [u7] at Dg;obtain ⟨_,_,rfl⟩:=(MM (oQ Dg));exact Sj sS⟩⟩,fun j u hj=>?_⟩
   ·simp only [zq,u7];simp;exact ho
   ·simp only [Iu,u7];simp;intro a;rcases M3 fz.1 fz.2 with q | q
    ·have:=hf q;simp at ho;omega
    ·omega
   ·have ta:=(qO.1 hj).1;obtain ⟨u',a,q⟩:=hv.at hj;refine ⟨u',?_,q.mono hle⟩;simp only [zq,u7];rw [tQ,if_pos ta] at a;simpa using a
  ·rw [Hp.rO,if_neg hb] at f;exact (r.qS b i B e f).congr hle (hold _ (r.tq b i e).2)
 ·have lv:∀ (p:sD→Bool) b,b≠h.next→has p (h.new (.cells z c)) b→has p h b:=fun p b hb ⟨B,a,q⟩=>⟨B,by rw [Hp.rO,if_neg hb] at a;exact a,q⟩
  rcases sX b i e with ⟨rfl,rfl⟩ | ⟨hb,e⟩ <;> rcases sX b' i' e' with ⟨rfl,rfl⟩ | ⟨pP,e'⟩
  ·rfl
  ·have:=(r.tq b' i' e').2;simp only at hg;omega
  ·have:=(r.tq b i e).2;simp only at hg;omega
  ·exact r.inj b b' i i' e e' (lv _ b hb l) (lv _ b' pP l') hg
 ·unfold Ren.put;rw [if_neg (by omega)];exact hb
 ·rw [Hp.rO,if_neg (by omega)]
 ·rcases sX b i e with ⟨rfl,rfl⟩ | ⟨hb,e⟩
  ·simp;omega
  ·obtain ⟨B,q1,q2⟩:=q;exact hn b i e ⟨B,by rw [Hp.rO,if_neg hb] at q1;exact q1,q2⟩
end
end Go.V
end
section
namespace Go.V
def ss (ρ:Ren) (env:Env) (a:Act):Prop:=∀ t v,env.get t=some v→VR ρ v (a.tmps.getD t undef)
theorem ss.mono {ρ σ:Ren} {env:Env} {a:Act} (l:ρ.le σ) (h:ss ρ env a):ss σ env a:=fun t v e=>(h t v e).mono l
theorem WB {ρ:Ren} {u:oT} {v:jD} (h:Db u=some v):VR ρ v u:=by
 unfold Db at h
 split at h <;> first | (obtain rfl:=oQ h) | cases h
 ·exact .b _
 ·exact .i _ _
 ·rename_i s;have:uv s.data.toList = .string s:=by unfold uv;rw [BS]
  rw [← this];exact .s _
 ·exact .pn
 ·exact .sn
 ·exact .mn
 ·exact .nf
theorem aha {ρ:Ren}:∀ {l:List oT} {vs:List jD},l.mapM Db=some vs→pj ρ vs l:=by
 intro l
 induction l with
 | nil=>intro vs h;simp at h;subst h;exact pj.nil
 | cons x l ih =>
  intro vs h;simp only [vY,Bn,Ko,oV,qL] at h;obtain ⟨v,h1,us,h2,rfl⟩:=h;exact (ih h2).cons (WB h1)
theorem Cq {ρ:Ren} {u:oT} {v:jD} (h:cv u=some v):VR ρ v u:=by
 unfold cv at h
 split at h
 ·rename_i cs;obtain ⟨vs,h1,rfl⟩:=pU.1 h;have:=aha (ρ:=ρ) h1;have h2:=VR.agg this.1 this.2;simpa using h2
 ·exact WB h
theorem WC {u:oT} {v:jD} (h:Db u=some v):u.oneCell' = true:=by
 unfold Db at h
 split at h <;> first | rfl | cases h
theorem ahb:∀ {l:List oT} {vs:List jD},l.mapM Db=some vs → ∀ u∈l,u.oneCell' = true:=by
 intro l
 induction l with
 | nil=>intro vs _ u hu;cases hu
 | cons x l ih =>
  intro vs h u hu;simp only [vY,Bn,Ko,oV,qL] at h;obtain ⟨v,h1,us,h2,rfl⟩:=h;rcases sg.1 hu with rfl | hu
  ·exact WC h1
  ·exact ih h2 u hu
theorem VX {s:ByteArray} {n:Nat}:∀ u∈(bytesRow s n).toList,u.oneCell' = true:=by
 intro u hu;simp only [bytesRow,Array.toList_append,Array.toList_map,Array.toList_replicate,vj,z7,List.mem_replicate] at hu;rcases hu with ⟨b,_,rfl⟩ | ⟨_,rfl⟩ <;> rfl
theorem acT {u:oT} {v:jD} (h:cv u=some v):∀ x∈u.cells.toList,x.oneCell' = true:=by
 unfold cv at h
 split at h
 ·rename_i cs;obtain ⟨vs,h1,rfl⟩:=pU.1 h;exact fun x hx=>ahb h1 x (by simpa [Uv] using hx)
 ·have h1:=WC h;rw [Wm h1];intro x hx;obtain rfl:=List.mem_singleton.1 hx;exact h1
section
variable {P:oZ} {ρ:Ren} {h:Hp} {w:pf} {env:Env} {a:Act}
theorem sW (hE:ss ρ env a) {x:oY} {v:jD} (hx:pO env x=some v):VR ρ v (a.eval x):=by
 cases x with
 | tmp t=>exact hE t v hx
 | const c=>exact Cq hx
 | global g=>cases hx
 | func f=>obtain rfl:=oQ hx;exact VR.f (vs:=[]) rfl (fun j u u' h=>by simp at h)
theorem KT (hE:ss ρ env a):∀ {l:List oY} {vs:List jD},vH env l=some vs→pj ρ vs (l.map a.eval):=by
 intro l
 induction l with
 | nil=>intro vs h;simp [vH] at h;subst h;exact pj.nil
 | cons x l ih =>
  intro vs h;simp only [vH,vY,Bn,Ko,oV,qL] at h;obtain ⟨v,h1,us,h2,rfl⟩:=h;exact (ih h2).cons (sW hE h1)
def pV (P:oZ) (ρ:Ren) (h:Hp) (w:pf) (a:Act) (o:Oper) (v:jD) (h':Hp):Prop :=
 ∃ ρ' w' r u,(execOp a.eval o).run P w = .ok r w' ∧ (r = .value u∨(r = .skip∧u=undef))∧VR ρ' v u∧Rel ρ' h' w' ∧ Ext ρ h w ρ' h' w'
theorem pV.val {o:Oper} {v:jD} {u:oT} (r:Rel ρ h w) (hr:(execOp a.eval o).run P w = .ok (.value u) w) (hv:VR ρ v u):pV P ρ h w a o v h :=
 ⟨ρ,w,_,u,hr,.inl rfl,hv,r,Ext.refl _ _ _⟩
theorem wo {t:oI} {n:Nat} (hs:sz P t=some n) (w:pf):(sizeOf t).run P w = .ok n w:=by
 obtain ⟨i,h1,rfl⟩:=pU.1 hs;simp [sizeOf,typeInfo,h1]
theorem O0 {t:oI} {b:Bool} (hs:rY P t=some b) (w:pf):(isAgg t).run P w = .ok b w:=by
 obtain ⟨d,h1,rfl⟩:=pU.1 hs;unfold isAgg;rw [pB,qp h1 w];cases d <;> rfl
theorem CO {t:oI} {v:jD} (hz:zeroV P t=some v):∃ i z,P.info? t=some i∧i.zero=some z∧cv z=some v:=by
 obtain ⟨i,h1,h2⟩:=oV.1 hz;obtain ⟨z,h3,h4⟩:=oV.1 h2;exact ⟨i,z,h1,h3,h4⟩
theorem Ej {t:oI} {i:It} {z:oT} (h1:P.info? t=some i) (h2:i.zero=some z) (w:pf):(zeroValue t).run P w = .ok z w:=by
 simp [zeroValue,typeInfo,h1,h2]
theorem add_lit (g o n:Nat):(⟨g,o,none⟩:Addr).add n=⟨g,o+n,none⟩:=Addr.add_mid g o n
theorem Zu {o:Oper} {x:oY} {v:jD} (ho:o.op = .move x∨o.op = .assign x) (r:Rel ρ h w) (hE:ss ρ env a) (hx:pO env x=some v):pV P ρ h w a o v h :=
 pV.val r (u:=a.eval x) (by rcases ho with ho | ho <;> simp [execOp,ho]) (sW hE hx)
theorem Zx {o:Oper} {c x y:oY} {t:Bool} {v:jD} (ho:o.op = .pick c x y) (r:Rel ρ h w) (hE:ss ρ env a) (hc:pO env c=some (.b t)) (hx:pO env (bif t then x else y)=some v):pV P ρ h w a o v h:=by
 have h1:=sW hE hc;have h2:=sW hE hx;generalize hq:a.eval c=q at h1;cases h1;refine pV.val r (u:=a.eval (bif t then x else y)) ?_ h2;cases t <;> simp [execOp,ho,hq,asBool]
theorem ajM {o:Oper} {x:oY} {v:jD} (ho:o.op = .nilCheck x) (r:Rel ρ h w) (hE:ss ρ env a) (hx:pO env x=some v) (h1:v ≠ .p none) (h2:v ≠ .nf) (h3:v ≠ .un):pV P ρ h w a o v h:=by
 have hv:=sW hE hx;generalize hq:a.eval x=q at hv;refine pV.val r (u:=q) ?_ hv;cases hv <;> first | exact absurd rfl h1 | exact absurd rfl h2 | exact absurd rfl h3 | simp [execOp,ho,hq,uv]
theorem Ph (x:List UInt8):(⟨x.toArray⟩:ByteArray).toList=x:=by rw [ByteArray.toList_eq]
theorem abr (x y:List UInt8):(⟨x.toArray⟩:ByteArray)++⟨y.toArray⟩=⟨(x++y).toArray⟩:=by
 apply ByteArray.ext;simp [ByteArray.data_append]
theorem ajB {op:Bf} {k:vW} {x y:Int} {v:jD} (py:op ≠ .shl∧op ≠ .shr) (hv:BG op k x y=some v) (t:oI):∃ u,(∀ w,(binOp op t (.int k x) (.int k y)).run P w = .ok u w)∧VR ρ v u:=by
  unfold BG at hv;cases op <;> simp only [qL,reduceCtorEq] at hv <;> first | exact absurd rfl py.1 | exact absurd rfl py.2 | skip
  all_goals first
    | (subst hv;refine ⟨_,fun w=>?_,by first | exact VR.i _ _ | exact VR.b _⟩;simp [binOp,Op.intArith,Op.intBits,Op.intCmp];done)
    | (split at hv
       · cases hv
       · rename_i h0
         obtain rfl:=oQ hv;refine ⟨_,fun w=>?_,VR.i _ _⟩;simp [binOp,Op.intDiv,h0])
theorem Zz {op:Bf} {k j:vW} {x y:Int} {v:jD} (py:op = .shl∨op = .shr) (hv:JV op k x y=some v) (t:oI):∃ u,(∀ w,(binOp op t (.int k x) (.int j y)).run P w = .ok u w)∧VR ρ v u:=by
 unfold JV at hv
 split at hv
 ·cases hv
 ·rename_i h0;rcases py with rfl | rfl
  ·obtain rfl:=oQ hv;exact ⟨_,fun w=>by simp [binOp,Op.shift,h0],VR.i _ _⟩
  ·obtain rfl:=oQ hv;exact ⟨_,fun w=>by simp [binOp,Op.shift,h0],VR.i _ _⟩
theorem ajP {op:Bf} {x y:List UInt8} {v:jD} (hv:TL op x y=some v) (t:oI):∃ u,(∀ w,(binOp op t (uv x) (uv y)).run P w = .ok u w)∧VR ρ v u:=by
 unfold TL at hv;cases op <;> simp only [qL,reduceCtorEq] at hv
 case add =>
  split at hv
  ·rename_i hle;obtain rfl:=oQ hv;refine ⟨_,fun w=>?_,VR.s _⟩;have h1:¬ ((((⟨x.toArray⟩:ByteArray).size+(⟨y.toArray⟩:ByteArray).size:Nat):Int) > Eu.max):=by
    have e1:(⟨x.toArray⟩:ByteArray).size=x.length:=by simp [Er]
    have e2:(⟨y.toArray⟩:ByteArray).size=y.length:=by simp [Er]
    rw [e1,e2];have:Eu.max=2 ^ 63 - 1:=by decide
    rw [this];omega
   simp only [binOp,uv,Op.stringOp];rw [if_neg h1,abr];rfl
  ·cases hv
 all_goals
  subst hv;refine ⟨_,fun w=>?_,VR.b _⟩;simp only [binOp,uv,Op.stringOp,Ph];rfl
theorem Ze {t:oI} {d:yR} {c1 c2:jD} {u1 u2:oT} (hp:GB P t=some d) (l1:E8 d c1=true) (l2:E8 d c2=true) (v1:VR ρ c1 u1) (v2:VR ρ c2 u2) (n:Nat) (w:pf) :
  (Bi (n+1) t u1 u2).run P w = .ok (zD c1 c2) w:=by
 unfold GB at hp
 split at hp <;> first | (obtain rfl:=oQ hp) | cases hp
 ·cases c1 <;> simp [E8] at l1
  cases c2 <;> simp [E8] at l2
  cases v1;cases v2;rw [run_equalIn_bool w n t _ _ (by assumption)];rfl
 ·rename_i k hu;cases c1 <;> simp [E8] at l1
  cases c2 <;> simp [E8] at l2
  subst l1;subst l2;cases v1;cases v2;rw [run_equalIn_int w n t _ _ _ _ hu];simp [zD]
 ·cases c1 <;> simp [E8] at l1
  cases c2 <;> simp [E8] at l2
  cases v1;cases v2;unfold uv;rw [run_equalIn_string w n t _ _ (by assumption),Ph,Ph];rfl
theorem aaU {t:oI} {d:yR} (hp:GB P t=some d) (w:pf):(isAgg t).run P w = .ok false w:=by
 unfold GB at hp
 split at hp <;> first | cases hp | skip
 all_goals (unfold isAgg;rw [pB,qp (by assumption) w];rfl)
theorem O3 {t:oI} {d:yR} (hp:GB P t=some d) {us:List oT} {k:Nat} {u:oT} (hk:us[k]? = some u) (w:pf):(part t us.toArray k).run P w = .ok u w:=by
 unfold part;rw [pB,aaU hp w];simp [hk]
theorem ai2 {c1 c2:List jD} {u1 u2:List oT} (v1:pj ρ c1 u1) (v2:pj ρ c2 u2) (n:Nat) (w:pf):∀ (fs:List CQ) (k:Nat) (l:List yR),Mb P k fs=some l→vT l (c1.drop k)=true→vT l (c2.drop k)=true →
  (Uo (n+1) u1.toArray u2.toArray fs).run P w = .ok (ym (c1.drop k) (c2.drop k)) w:=by
 intro fs
 induction fs with
 | nil =>
  intro k l hl h1 h2;simp [Mb] at hl;subst hl;cases e1:c1.drop k <;> rw [e1] at h1 <;> simp [vT] at h1
  cases e2:c2.drop k <;> rw [e2] at h2 <;> simp [vT] at h2
  simp [Uo,ym]
 | cons f fs ih =>
  intro k l hl h1 h2;simp only [Mb] at hl
  split at hl
  ·rename_i hf;obtain ⟨d,hd,hl⟩:=oV.1 hl;obtain ⟨l',Oa,rfl⟩:=pU.1 hl;cases e1:c1.drop k with
   | nil=>rw [e1] at h1;simp [vT] at h1
   | cons x1 r1 =>
    cases e2:c2.drop k with
    | nil=>rw [e2] at h2;simp [vT] at h2
    | cons x2 r2 =>
     rw [e1] at h1;rw [e2] at h2;simp only [vT,rk] at h1 h2;have g1:c1[k]? = some x1:=by have:=congrArg (·[0]?) e1;simpa [vi] using this
     have g2:c2[k]? = some x2:=by have:=congrArg (·[0]?) e2;simpa [vi] using this
     have q1:c1.drop (k+1)=r1:=by rw [← P8,e1];rfl
     have q2:c2.drop (k+1)=r2:=by rw [← P8,e2];rfl
     obtain ⟨y1,a1,b1⟩:=v1.at g1;obtain ⟨y2,a2,b2⟩:=v2.at g2;have hr:=ih (k+1) l' Oa (by rw [q1];exact h1.2) (by rw [q2];exact h2.2);rw [q1,q2] at hr;have hq:=Ze hd h1.1 h2.1 b1 b2 n w;simp only [Uo,hf.1,ne_eq,not_false_eq_true,if_true,pB,hf.2,O3 hd a1 w,O3 hd a2 w,pK,hq];cases he:zD x1 x2
     ·simp [ym,he]
     ·simp [ym,he];exact hr
  ·cases hl
theorem ai3 {c1 c2:List jD} {u1 u2:List oT} (v1:pj ρ c1 u1) (v2:pj ρ c2 u2) {e:oI} {d:yR} (hd:GB P e=some d) (n:Nat) (w:pf):∀ (m k:Nat),vT (ph m d) (c1.drop k)=true→vT (ph m d) (c2.drop k)=true →
  (Up (n+1) e 1 u1.toArray u2.toArray (List.range' k m)).run P w = .ok (ym (c1.drop k) (c2.drop k)) w:=by
 intro m
 induction m with
 | zero =>
  intro k h1 h2;cases e1:c1.drop k <;> rw [e1] at h1 <;> simp [vT] at h1
  cases e2:c2.drop k <;> rw [e2] at h2 <;> simp [vT] at h2
  simp [Up,ym]
 | succ m ih =>
  intro k h1 h2;cases e1:c1.drop k with
  | nil=>rw [e1] at h1;simp [vT,Kh] at h1
  | cons x1 r1 =>
   cases e2:c2.drop k with
   | nil=>rw [e2] at h2;simp [vT,Kh] at h2
   | cons x2 r2 =>
    rw [e1] at h1;rw [e2] at h2;simp only [Kh,vT,rk] at h1 h2;have g1:c1[k]? = some x1:=by have:=congrArg (·[0]?) e1;simpa [vi] using this
    have g2:c2[k]? = some x2:=by have:=congrArg (·[0]?) e2;simpa [vi] using this
    have q1:c1.drop (k+1)=r1:=by rw [← P8,e1];rfl
    have q2:c2.drop (k+1)=r2:=by rw [← P8,e2];rfl
    obtain ⟨y1,a1,b1⟩:=v1.at g1;obtain ⟨y2,a2,b2⟩:=v2.at g2;have hr:=ih (k+1) (by rw [q1];exact h1.2) (by rw [q2];exact h2.2);rw [q1,q2] at hr;have hq:=Ze hd h1.1 h2.1 b1 b2 n w;simp only [List.range'_succ,Up,pB,Nat.mul_one,O3 hd a1 w,O3 hd a2 w,pK,hq];cases he:zD x1 x2
    ·simp [ym,he]
    ·simp [ym,he];exact hr
theorem ZW {t:oI} {n:Nat} (h:sz P t=some n):∃ i,P.info? t=some i∧i.size=n:=pU.1 h
theorem Zb {t:oI} {l:List yR} {c1 c2:List jD} {u1 u2:List oT} (hf:K3 P t=some l) (l1:vT l c1=true) (l2:vT l c2=true) (v1:pj ρ c1 u1) (v2:pj ρ c2 u2) (n:Nat) (w:pf) :
  (Bi (n+2) t (.agg u1.toArray) (.agg u2.toArray)).run P w = .ok (ym c1 c2) w:=by
 unfold K3 at hf
 split at hf
 ·rename_i fs hu
  split at hf
  ·cases hf
  ·rename_i hs;have Hu:P.fieldsOf t=fs:=by simp [Program.fieldsOf,hu]
   rw [run_equalIn_struct w (n+1) t _ _ (by rw [Hu];exact hu) (by simpa using hs),Hu];exact ai2 v1 v2 n w fs.toList 0 l hf l1 l2
 ·rename_i m e hu
  split at hf
  ·rename_i hs;obtain ⟨d,hd,rfl⟩:=pU.1 hf;obtain ⟨i,hi,Ll⟩:=ZW hs;rw [run_equalIn_array w (n+1) _ _ hu hi,show P.cellsOf e=1 by simp [Program.cellsOf,hi,Ll],List.range_eq_range'];exact ai3 v1 v2 hd n w m 0 l1 l2
  ·cases hf
 ·cases hf
theorem Zq {t:oI} {x y:jD} {u1 u2:oT} {q:Bool} (hq:Ag P t x y=some q) (v1:VR ρ x u1) (v2:VR ρ y u2) (w:pf):(Uq t u1 u2).run P w = .ok q w:=by
 suffices key:∀ n,(Bi (n+2) t u1 u2).run P w = .ok q w from key 9998
 intro n;unfold Ag at hq
 split at hq
 ·rename_i hu;obtain rfl:=oQ hq;cases v1;cases v2;exact run_equalIn_bool w (n+1) t _ _ hu
 ·rename_i hu;obtain rfl:=oQ hq;cases v1;cases v2 <;> (unfold Bi;rw [pB,qp hu w];rfl)
 ·rename_i hu;obtain rfl:=oQ hq;cases v1;cases v2;(unfold Bi;rw [pB,qp hu w];rfl)
 ·rename_i hu;obtain rfl:=oQ hq;cases v1;cases v2 <;> (unfold Bi;rw [pB,qp hu w];rfl)
 ·rename_i hu;obtain rfl:=oQ hq;cases v1 <;> cases v2 <;> (unfold Bi;rw [pB,qp hu w];rfl)
 ·rename_i hu;obtain rfl:=oQ hq;cases v1;cases v2;(unfold Bi;rw [pB,qp hu w];rfl)
 ·rename_i hu;obtain rfl:=oQ hq;cases v1;cases v2;(unfold Bi;rw [pB,qp hu w];rfl)
 ·rename_i hu;obtain rfl:=oQ hq;cases v1;cases v2;(unfold Bi;rw [pB,qp hu w];rfl)
 ·rename_i hu;obtain rfl:=oQ hq;cases v1;cases v2;(unfold Bi;rw [pB,qp hu w];rfl)
 ·rename_i hu;obtain rfl:=oQ hq;cases v1;cases v2;(unfold Bi;rw [pB,qp hu w];rfl)
 ·rename_i hu;obtain rfl:=oQ hq;cases v1;cases v2 <;> (unfold Bi;rw [pB,qp hu w];rfl)
 ·rename_i hu;obtain rfl:=oQ hq;cases v1;cases v2;(unfold Bi;rw [pB,qp hu w];rfl)
 ·split at hq
  ·rename_i l hf
   split at hq
   ·rename_i hc;simp only [rk] at hc;obtain rfl:=oQ hq;cases v1 with
    | agg a1 b1=>cases v2 with
     | agg a2 b2=>exact Zb hf hc.1.1 hc.1.2 ⟨a1,b1⟩ ⟨a2,b2⟩ n w
   ·cases hq
  ·cases hq
 ·split at hq
  ·rename_i l hf
   split at hq
   ·rename_i hc;simp only [rk] at hc;obtain rfl:=oQ hq;cases v1 with
    | agg a1 b1=>cases v2 with
     | agg a2 b2=>exact Zb hf hc.1.1 hc.1.2 ⟨a1,b1⟩ ⟨a2,b2⟩ n w
   ·cases hq
  ·cases hq
 ·cases hq
end
end Go.V
end
section
namespace Go.V
section
variable {P:oZ} {ρ:Ren} {h:Hp} {w:pf} {env:Env} {a:Act}
theorem ai0 {t:oI} {x y:jD} {u1 u2:oT} {q:Bool} (hq:Ag P t x y=some q) (v1:VR ρ x u1) (v2:VR ρ y u2) (w:pf) :
  (do pure (Value.bool (← Uq t u1 u2)):Sem oT).run P w = .ok (.bool q) w:=by
 rw [pB,Zq hq v1 v2 w];rfl
theorem aiZ {t:oI} {x y:jD} {u1 u2:oT} {q:Bool} (hq:Ag P t x y=some q) (v1:VR ρ x u1) (v2:VR ρ y u2) (w:pf) :
  (do pure (Value.bool (!(← Uq t u1 u2))):Sem oT).run P w = .ok (.bool (!q)) w:=by
 rw [pB,Zq hq v1 v2 w];rfl
theorem Rr {op:Bf} {t:oI} {x y:oY} {u1 u2:oT} (h1:∀ b c,¬ (u1 = .agg b∧u2 = .agg c)) (h2:u1 ≠ .nilIface) (w:pf):(eqGuard op t x y u1 u2).run P w = .ok () w:=by
  unfold eqGuard;cases op <;> first
    | rfl
    | (simp only [uP,zZ,if_false]
       split
       · exact absurd rfl h2
       · exact absurd ⟨rfl,rfl⟩ (h1 _ _)
       · rfl)
theorem Xc {op:Bf} {t:oI} {x y:oY} {b c:Array oT} (hg:P.eqGuardType P.depth t=false) (w:pf):(eqGuard op t x y (.agg b) (.agg c)).run P w = .ok () w:=by
  unfold eqGuard;cases op <;> first
    | rfl
    | (simp only [uP,zZ,if_false]
       simp [hg])
theorem Zp {t:oI} {x y:jD} {u1 u2:oT} {q:Bool} (o1 o2:oY) (hq:Ag P t x y=some q) (v1:VR ρ x u1) (v2:VR ρ y u2) (w:pf) :
  (binOp .eql t u1 u2).run P w = .ok (.bool q) w∧(binOp .neq t u1 u2).run P w = .ok (.bool (!q)) w∧(∀ op,(eqGuard op t o1 o2 u1 u2).run P w = .ok () w):=by
 have e1:=ai0 hq v1 v2 w;have e2:=aiZ hq v1 v2 w;unfold Ag at hq
 split at hq
 case h_13 =>
  split at hq
  ·split at hq
   ·rename_i hc;simp only [rk,AK] at hc;cases v1;cases v2;exact ⟨e1,e2,fun op=>Xc hc.2 w⟩
   ·cases hq
  ·cases hq
 case h_14 =>
  split at hq
  ·split at hq
   ·rename_i hc;simp only [rk,AK] at hc;cases v1;cases v2;exact ⟨e1,e2,fun op=>Xc hc.2 w⟩
   ·cases hq
  ·cases hq
 all_goals first
  | (cases hq;done)
  | (cases v1 <;> cases v2 <;> exact ⟨e1,e2,fun op=>Rr (by simp) (by simp) w⟩)
theorem ajq {o:Oper} {op:Bf} {t t2:oI} {x y:oY} {p q v:jD} (ho:o.op = .binOp op t x y t2) (r:Rel ρ h w) (hE:ss ρ env a) (hx:pO env x=some p) (hy:pO env y=some q) (hv:ru P op t p q=some v):pV P ρ h w a o v h:=by
 have v1:=sW hE hx;have v2:=sW hE hy;have rP:∀ {u:oT},(eqGuard op t x y (a.eval x) (a.eval y)).run P w = .ok () w→(binOp op t (a.eval x) (a.eval y)).run P w = .ok u w→(execOp a.eval o).run P w = .ok (.value u) w:=fun h1 h2=>by
  simp only [execOp,ho,pB,h1,pK,h2,pT]
 unfold ru at hv
 split at hv
 ·rename_i k m j n;generalize a.eval x=u1 at v1 rP;generalize a.eval y=u2 at v2 rP;cases v1;cases v2;have hg:=Rr (P:=P) (op:=op) (t:=t) (x:=x) (y:=y) (u1:=.int k m) (u2:=.int j n) (by simp) (by simp) w
  split at hv
  ·obtain ⟨u,h1,h2⟩:=Zz (P:=P) (ρ:=ρ) (j:=j) (.inl rfl) hv t;exact pV.val r (rP hg (h1 w)) h2
  ·obtain ⟨u,h1,h2⟩:=Zz (P:=P) (ρ:=ρ) (j:=j) (.inr rfl) hv t;exact pV.val r (rP hg (h1 w)) h2
  ·split at hv
   ·rename_i n1 n2 Lq;subst Lq;obtain ⟨u,h1,h2⟩:=ajB (P:=P) (ρ:=ρ) ⟨n1,n2⟩ hv t;exact pV.val r (rP hg (h1 w)) h2
   ·cases hv
 ·rename_i m n;generalize a.eval x=u1 at v1 rP;generalize a.eval y=u2 at v2 rP;cases v1;cases v2;have hg:=Rr (P:=P) (op:=op) (t:=t) (x:=x) (y:=y) (u1:=uv m) (u2:=uv n) (by simp [uv]) (by simp [uv]) w;obtain ⟨u,h1,h2⟩:=ajP (P:=P) (ρ:=ρ) hv t;exact pV.val r (rP hg (h1 w)) h2
 ·split at hv
  ·obtain ⟨b,hb,rfl⟩:=pU.1 hv;obtain ⟨h1,h2,h3⟩:=Zp x y hb v1 v2 w;exact pV.val r (rP (h3 _) h1) (.b _)
  ·obtain ⟨b,hb,rfl⟩:=pU.1 hv;obtain ⟨h1,h2,h3⟩:=Zp x y hb v1 v2 w;exact pV.val r (rP (h3 _) h2) (.b _)
  ·cases hv
theorem ajS {o:Oper} {op:UnOp} {t:oI} {x:oY} {p v:jD} (ho:o.op = .unOp op t x) (r:Rel ρ h w) (hE:ss ρ env a) (hx:pO env x=some p) (hv:J4 op p=some v):pV P ρ h w a o v h:=by
 have v1:=sW hE hx;have rP:∀ {u:oT},(Op.unary op (a.eval x)).run P w = .ok u w→(execOp a.eval o).run P w = .ok (.value u) w:=fun h2=>by
  simp only [execOp,ho,pB,pK,h2,pT]
 generalize a.eval x=u1 at v1 rP;unfold J4 at hv
 split at hv
 ·obtain rfl:=oQ hv;cases v1;exact pV.val r (rP (u:=_) rfl) (.i _ _)
 ·cases v1;unfold BG at hv;obtain rfl:=oQ hv;exact pV.val r (rP (u:=_) rfl) (.i _ _)
 ·obtain rfl:=oQ hv;cases v1;exact pV.val r (rP (u:=_) rfl) (.b _)
 ·cases hv
theorem L2 {v:jD} {n:Nat} (hv:BK v=some n):∃ k,v = .i k n∧n≤2 ^ 40:=by
 unfold BK at hv
 split at hv
 ·rename_i k m
  split at hv
  ·rename_i hm;obtain rfl:=oQ hv;exact ⟨k,by rw [Int.toNat_of_nonneg hm.1],by omega⟩
  ·cases hv
 ·cases hv
theorem SS {v:jD} {n:Nat} (hv:ze v=some n):∃ k,v = .i k n:=by
 unfold ze at hv
 split at hv
 ·rename_i k m
  split at hv
  ·rename_i hm;obtain rfl:=oQ hv;exact ⟨k,by rw [Int.toNat_of_nonneg hm]⟩
  ·cases hv
 ·cases hv
theorem ajA {o:Oper} {s:oI} {x:oY} {f b q n:Nat} {fd:CQ} (ho:o.op = .fieldAddr s x f) (r:Rel ρ h w) (hE:ss ρ env a) (hx:pO env x=some (.p (some (b,q)))) (hf:ET P s f=some fd) (hs:sz P fd.type=some n) (hn:0 < n) :
  pV P ρ h w a o (.p (some (b,q+fd.offset))) h:=by
 have v1:=sW hE hx;generalize hu:a.eval x=u1 at v1;cases v1 with
 | p hb =>
  unfold ET at hf
  split at hf
  ·rename_i fs pz;refine pV.val r (u:=.pointer (some ⟨_,_,none⟩)) ?_ (.p hb);simp only [execOp,ho,hu,Instr.fieldAt,MK,fieldPlace,pB,qp pz w,pK,hf,pT,wo hs w];rw [if_neg (by omega)];simp only [pT,pK,add_lit,yc]
  ·cases hf
theorem ajD {o:Oper} {t:oI} {x y:oY} {p q v:jD} (ho:o.op = .indexAddr t x y) (r:Rel ρ h w) (hE:ss ρ env a) (hx:pO env x=some p) (hy:pO env y=some q) (hv:HP P t p q=some v):pV P ρ h w a o v h:=by
 have v1:=sW hE hx;have v2:=sW hE hy;unfold HP at hv;rw [oV] at hv;obtain ⟨i,hi,hv⟩:=hv;obtain ⟨k,rfl⟩:=SS hi;generalize yJ:a.eval y=u2 at v2;cases v2;generalize wL:a.eval x=u1 at v1;have rP:∀ {u:oT},(Uf t u1 (.int k i)).run P w = .ok u w→(execOp a.eval o).run P w = .ok (.value u) w:=fun h2=>by
  simp only [execOp,ho,wL,yJ,pB,pK,h2,pT]
 split at hv
 ·rename_i n e b off pz;rw [oV] at hv;obtain ⟨z,hz,hv⟩:=hv
  split at hv
  ·rename_i pv;obtain rfl:=oQ hv;cases v1 with
   | p hb =>
    refine pV.val r (rP (u:=.pointer (some ⟨_,_,none⟩)) ?_) (.p hb);simp only [Uf,asIntOf,MK,pB,qp pz w,pK,pT,wo hz w];rw [if_pos ⟨by omega,by omega⟩];simp only [pB,wo hz w,pK,pT,add_lit,yc,ry]
  ·cases hv
 ·rename_i e b off len c pz;rw [oV] at hv;obtain ⟨z,hz,hv⟩:=hv
  split at hv
  ·rename_i pv;obtain rfl:=oQ hv;have key:∀ (i':Info) (cc:Nat),ρ b=some i' → u1 = .slice (some ⟨i'.g,i'.base+off,none⟩) len cc→pV P ρ h w a o (.p (some (b,off+i*z))) h:=fun i' cc hb e1=>by
    subst e1;refine pV.val r (rP (u:=.pointer (some ⟨_,_,none⟩)) ?_) (.p hb);simp only [Uf,asIntOf,pB,qp pz w,pK,pT];rw [if_pos ⟨by omega,by omega⟩];simp only [pB,wo hz w,pK,pT,add_lit,yc,ry]
   cases v1 with
   | sk hb _=>exact key _ _ hb rfl
   | so hb _ _ _=>exact key _ _ hb rfl
  ·cases hv
 ·cases hv
theorem Zw {t:oI} {cs:List jD} {us:List oT} {k:Nat} {v:jD} (hv:JL P t cs k=some v) (hr:pj ρ cs us) (w:pf):∃ u,(part t us.toArray k).run P w = .ok u w∧VR ρ v u:=by
 unfold JL at hv;rw [oV] at hv;obtain ⟨b,hb,hv⟩:=hv;cases b with
 | true =>
  simp only [cond_true] at hv;rw [oV] at hv;obtain ⟨n,hn,hv⟩:=hv
  split at hv
  ·rename_i hle;obtain rfl:=oQ hv;have h2:=(hr.drop k).take n;refine ⟨_,?_,VR.agg h2.1 h2.2⟩;simp only [part,pB,O0 hb w,pK,if_true,wo hn w,pT]
   congr 2
   apply Be;simp
  ·cases hv
 | false =>
  simp only [cond_false] at hv;obtain ⟨u,h1,h2⟩:=hr.at hv;refine ⟨u,?_,h2⟩;simp [part,O0 hb,h1]
theorem ajz {o:Oper} {s:oI} {x:oY} {f:Nat} {fd:CQ} {cs:List jD} {v:jD} (ho:o.op = .field s x f) (r:Rel ρ h w) (hE:ss ρ env a) (hx:pO env x=some (.agg cs)) (hf:ET P s f=some fd) (hv:JL P fd.type cs fd.offset=some v) :
  pV P ρ h w a o v h:=by
 have v1:=sW hE hx;generalize hu:a.eval x=u1 at v1;cases v1 with
 | agg a1 a2 =>
  unfold ET at hf
  split at hf
  ·rename_i fs pz;obtain ⟨u,h1,h2⟩:=Zw hv ⟨a1,a2⟩ w;refine pV.val r (u:=u) ?_ h2;simp only [execOp,ho,hu,Instr.field,asAgg,pB,qp pz w,pK,hf,pT,h1]
  ·cases hf
theorem ajC {o:Oper} {t:oI} {x y:oY} {p q v:jD} (ho:o.op = .index t x y) (r:Rel ρ h w) (hE:ss ρ env a) (hx:pO env x=some p) (hy:pO env y=some q) (hv:LP P t p q=some v):pV P ρ h w a o v h:=by
 have v1:=sW hE hx;have v2:=sW hE hy;unfold LP at hv;rw [oV] at hv;obtain ⟨i,hi,hv⟩:=hv;obtain ⟨k,rfl⟩:=SS hi;generalize yJ:a.eval y=u2 at v2;cases v2;generalize wL:a.eval x=u1 at v1;have rP:∀ {u:oT},(Ue t u1 (.int k i)).run P w = .ok u w→(execOp a.eval o).run P w = .ok (.value u) w:=fun h2=>by
  simp only [execOp,ho,wL,yJ,pB,pK,h2,pT]
 split at hv
 ·rename_i n e cs pz;rw [oV] at hv;obtain ⟨z,hz,hv⟩:=hv
  split at hv
  ·rename_i pv;cases v1 with
   | agg a1 a2 =>
    obtain ⟨u,h1,h2⟩:=Zw hv ⟨a1,a2⟩ w;refine pV.val r (rP (u:=u) ?_) h2;simp only [Ue,asIntOf,pB,qp pz w,pK,pT];rw [if_pos ⟨by omega,by omega⟩];simp only [pB,wo hz w,pK,ry,h1]
  ·cases hv
 ·rename_i s pz;obtain ⟨c,hc,rfl⟩:=pU.1 hv;cases v1;have hg:(⟨s.toArray⟩:ByteArray)[i]? = some c:=by
   obtain ⟨pv,hc⟩:=qO.1 hc;have zO:i < (⟨s.toArray⟩:ByteArray).size:=by simp [Er];exact pv
   rw [getElem?_pos (⟨s.toArray⟩:ByteArray) i zO,← hc];rfl
  refine pV.val r (rP (u:=.int .u8 c.toNat) ?_) (.i _ _);simp only [Ue,uv,asIntOf,pB,qp pz w,pK,pT,ry,hg,Int.natCast_nonneg,if_true]
 ·cases hv
theorem ajy {o:Oper} {x:oY} {i:Nat} {vs:List jD} {v:jD} (ho:o.op = .extract x i) (r:Rel ρ h w) (hE:ss ρ env a) (hx:pO env x=some (.qR vs)) (hv:vs[i]? = some v):pV P ρ h w a o v h:=by
 have v1:=sW hE hx;generalize hu:a.eval x=u1 at v1;cases v1 with
 | qR a1 a2 =>
  obtain ⟨u,h1,h2⟩:=(pj.at (ρ:=ρ) ⟨a1,a2⟩ hv)
  refine pV.val r (u:=u) ?_ h2;simp [execOp,ho,hu,Instr.extract,h1]
theorem ajH {o:Oper} {f:tO} {first xv:Array oY} {l:List jD} (ho:o.op = .makeFunc (.func f) first xv) (r:Rel ρ h w) (hE:ss ρ env a) (hf:first.size=0) (hl:vH env xv.toList=some l):pV P ρ h w a o (.f f l) h:=by
 have h1:=KT hE hl;have e0:first = #[]:=Array.eq_empty_of_size_eq_zero hf
 refine pV.val r (u:=.func (.func f) #[] (xv.toList.map a.eval).toArray) ?_ (.f h1.1 h1.2);simp only [execOp,ho,Instr.makeFunc,e0,pB,pT,pK];have e1:(xv.toList.map a.eval).toArray=xv.map a.eval:=by apply Be;simp
 rw [e1];simp
theorem ajR {o:Oper} {t:oI} {x:oY} {b:Nat × Nat} {n k:Nat} {c:Cap} {e:oI} (ho:o.op = .sliceToArrayPointer t x) (r:Rel ρ h w) (hE:ss ρ env a) (hx:pO env x=some (.sl (some b) n c)) (ht:P.underlying t=some (.array k e)) (hk:k≤n):pV P ρ h w a o (.p (some b)) h:=by
 have v1:=sW hE hx;generalize hu:a.eval x=u1 at v1;obtain ⟨b,off⟩:=b;have key:∀ (i':Info) (cc:Nat),ρ b=some i' → u1 = .slice (some ⟨i'.g,i'.base+off,none⟩) n cc→pV P ρ h w a o (.p (some (b,off))) h:=fun i' cc hb e1=>by
  subst e1;refine pV.val r (u:=.pointer (some ⟨_,_,none⟩)) ?_ (.p hb);simp only [execOp,ho,hu,Instr.arrayAt,pB,qp ht w,pK];rw [if_neg (by omega)];rfl
 cases v1 with
 | sk hb _=>exact key _ _ hb rfl
 | so hb _ _ _=>exact key _ _ hb rfl
end
end Go.V
end
section
namespace Go.V
section
variable {P:oZ} {ρ:Ren} {h:Hp} {w:pf} {env:Env} {a:Act}
theorem ai1 {x:Addr} {u:oT} (hc:w.cell? x=some u):(load x).run P w = .ok u w:=by simp [load,GX,hc]
theorem O1 {g o:Nat} {us:List oT} (hr:w.rangeAt g o us):(loadCells ⟨g,o,none⟩ us.length).run P w = .ok us.toArray w :=
 run_loadCells_list (P:=P) w ⟨g,o,none⟩ us fun j v hv=>by rw [add_lit];exact hr j v hv
theorem Yi {t:oI} {b o:Nat} {v:jD} (r:Rel ρ h w) (hv:yL P h t (.p (some (b,o)))=some v) {i:Info} (hb:ρ b=some i):∃ u,(loadVar t ⟨i.g,i.base+o,none⟩).run P w = .ok u w∧VR ρ v u:=by
 unfold yL at hv;simp only at hv;rw [oV] at hv;obtain ⟨g,hg,hv⟩:=hv;cases g with
 | true =>
  simp only [cond_true] at hv;rw [oV] at hv;obtain ⟨n,hn,hv⟩:=hv;obtain ⟨vs,hr,rfl⟩:=pU.1 hv;obtain ⟨_,us,h1,h2,h3⟩:=r.rd hb hr;refine ⟨_,?_,VR.agg h1.1 h1.2⟩;subst h2;simp only [loadVar,pB,O0 hg w,pK,if_true,wo hn w,O1 h3,pT]
 | false =>
  simp only [cond_false] at hv;rw [oV] at hv;obtain ⟨vs,hr,hv⟩:=hv;obtain ⟨_,us,h1,h2,h3⟩:=r.rd hb hr;cases vs with
  | nil=>cases hv
  | cons x vs =>
   obtain rfl:=oQ hv;obtain ⟨u,a1,a2⟩:=h1.at (j:=0) rfl;refine ⟨u,?_,a2⟩;have:=h3 0 u a1;simp only [loadVar,pB,O0 hg w,pK,zZ,if_false];exact ai1 this
theorem ajF {o:Oper} {t:oI} {x:oY} {p v:jD} (ho:o.op = .load t x) (r:Rel ρ h w) (hE:ss ρ env a) (hx:pO env x=some p) (hv:yL P h t p=some v):pV P ρ h w a o v h:=by
 have v1:=sW hE hx;generalize hu:a.eval x=u1 at v1;cases v1 with
 | p hb =>
  obtain ⟨u,h1,h2⟩:=Yi r hv hb;exact pV.val r (u:=u) (by simp only [execOp,ho,hu,Instr.loadAt,MK,pB,pT,pK,h1]) h2
 | _=>simp [yL] at hv
theorem ajO {o:Oper} {t:oI} {x y:oY} {p q:jD} {h':Hp} (ho:o.op = .store t x y) (r:Rel ρ h w) (hE:ss ρ env a) (hx:pO env x=some p) (hy:pO env y=some q) (hv:En P h t p q=some h'):pV P ρ h w a o .no h':=by
 have v1:=sW hE hx;have v2:=sW hE hy;generalize hu:a.eval x=u1 at v1;cases v1 with
 | p hb =>
  unfold En at hv;simp only at hv;rw [oV] at hv;obtain ⟨n,hn,hv⟩:=hv
  split at hv
  ·rename_i hl;obtain ⟨c1,c2,c3,c4,c5⟩:=r.vB hb hv v2.cells;have hs:=PR (P:=P) _ _ (a.eval y).cells.toList 0 w (by simpa using c1) (by simpa using c2) c3;refine ⟨ρ,_,_,undef,?_,.inr ⟨rfl,rfl⟩,VR.qR (vs:=[]) rfl (fun j u u' h=>by simp at h),c4,c5⟩;have zO:(a.eval y).cells.size=n:=by have:=v2.cells.1;simp at this;omega
   simp only [xM] at hs;simp only [execOp,ho,hu,Instr.storeAt,MK,storeVar,pB,pT,pK,wo hn w,zO,ne_eq,not_true_eq_false,if_false,hs]
  ·cases hv
 | _=>simp [En] at hv
theorem CF (e:oI) (cs:Array oT) (w:pf):(newRow e cs).run P w = .ok ⟨w.heap.size,0,none⟩ (w.alloc (.cells cs e)):=by
 rfl
theorem Yx (r:Rel ρ h w) {z:Nat} {c:List jD} {us:List oT} (e:oI) (h1:c.all jD.one=true) (hv:pj ρ c us) :
  Rel (ρ.put h.next ⟨w.heap.size,0,z,c.length,us.length⟩) (h.new (.cells z c)) (w.alloc (.cells us.toArray e))∧Ext ρ h w (ρ.put h.next ⟨w.heap.size,0,z,c.length,us.length⟩) (h.new (.cells z c)) (w.alloc (.cells us.toArray e)) :=
 r.SU (fz:=(0,0)) (by simp) (by simp) (fun _=>px _) h1 (hv.one h1) (by rw [hv.1];exact px _) (by rw [hv.1,uf];exact hv)
theorem Fc (b:Nat) (i:Info):(ρ.put b i) b=some i:=by simp [Ren.put]
theorem Zo {z:Nat} {c:List jD} {us:List oT} {v:jD} {h':Hp} (r:Rel ρ h w) (e:oI) (hv:AR h z c=some (v,h')) (hr:pj ρ c us) :
  ∃ ρ' u,u = .pointer (some ⟨w.heap.size,0,none⟩)∧VR ρ' v u∧Rel ρ' h' (w.alloc (.cells us.toArray e))∧Ext ρ h w ρ' h' (w.alloc (.cells us.toArray e)):=by
 unfold AR at hv
 split at hv
 ·rename_i h1;simp only [qL,pZ] at hv;obtain ⟨rfl,rfl⟩:=hv;obtain ⟨h2,h3⟩:=Yx r (z:=z) e h1 hr;exact ⟨_,_,rfl,VR.p (Fc _ _),h2,h3⟩
 ·cases hv
theorem ajn {o:Oper} {e:oI} {z v:jD} {h':Hp} (ho:o.op = .alloc e) (r:Rel ρ h w) (hz:zeroV P e=some z) (hv:AR h z.cells.length z.cells=some (v,h')):pV P ρ h w a o v h':=by
 obtain ⟨i,u,h1,h2,h3⟩:=CO hz;have hr:=(Cq (ρ:=ρ) h3).cells;obtain ⟨ρ',u',rfl,q1,q2,q3⟩:=Zo r e hv hr;refine ⟨ρ',_,_,_,?_,.inl rfl,q1,q2,q3⟩;simp only [execOp,ho,Instr.alloc,pB,Ej h1 h2 w,pK,newVar,CF,pT,BS]
theorem ajr {o:Oper} {e:oI} {x:oY} {z v:jD} {h':Hp} (ho:o.op = .box e x) (r:Rel ρ h w) (hE:ss ρ env a) (hz:pO env x=some z) (hv:AR h z.cells.length z.cells=some (v,h')):pV P ρ h w a o v h':=by
 have hr:=(sW hE hz).cells;obtain ⟨ρ',u',rfl,q1,q2,q3⟩:=Zo r e hv hr;refine ⟨ρ',_,_,_,?_,.inl rfl,q1,q2,q3⟩;simp only [execOp,ho,Instr.box,pB,pK,newVar,CF,pT,BS]
theorem ah0 {α:Type} (L:List α) (o k:Nat) (x:α) (xs:List α) (h:o+k+(xs.length+1)≤L.length) :
  (L.set (o+k) x).take (o+(k+1))++xs++(L.set (o+k) x).drop (o+(k+1)+xs.length)=L.take (o+k)++(x::xs)++L.drop (o+k+(xs.length+1)):=by
 have e1:(L.set (o+k) x).take (o+(k+1))=L.take (o+k)++[x]:=by
  rw [← yc,List.take_add_one,List.take_set_of_le (px _),List.getElem?_set_self (by omega)];rfl
 have e2:(L.set (o+k) x).drop (o+(k+1)+xs.length)=L.drop (o+k+(xs.length+1)):=by
  rw [List.drop_set_of_lt (by omega)]
  congr 1;omega
 rw [e1,e2];simp
theorem ado:∀ (xs:List oT) (o k:Nat) (cs:Array oT),o+k+xs.length≤cs.size→((xs.zipIdx k).foldl (fun cs (q:oT × Nat)=>cs.setIfInBounds (o+q.2) q.1) cs).toList=cs.toList.take (o+k)++xs++cs.toList.drop (o+k+xs.length):=by
 intro xs
 induction xs with
 | nil=>intro o k cs h;simp
 | cons x xs ih =>
  intro o k cs h;obtain ⟨L⟩:=cs;have hL:o+k+(xs.length+1)≤L.length:=h;simp only [List.zipIdx_cons,List.foldl_cons];rw [ih o (k+1) _ (by rw [Array.size_setIfInBounds];show o+(k+1)+xs.length≤L.length;omega)];rw [Array.toList_setIfInBounds];exact ah0 L o k x xs hL
theorem pj.p6 {cs vs:List jD} {us xs:List oT} (h:pj ρ cs us) (k:pj ρ vs xs) (o:Nat):pj ρ (p6 cs o vs) (us.take o++xs++us.drop (o+xs.length)):=by
 unfold V.p6;rw [← k.1];exact ((h.take o).append k).append (h.drop _)
theorem Ms {pl:Nat→Option (Nat × Nat)}:∀ {ps:List (Nat × jD)} {qs:List (Nat × oT)} {cs cs':List jD} {us:List oT},xR pl cs ps=some cs' → pj ρ cs us→ps.length=qs.length→(∀ (j i:Nat) (v:jD) (i':Nat) (u:oT),ps[j]? = some (i,v)→qs[j]? = some (i',u)→i=i' ∧ VR ρ v u) →
  ∃ Pp,J9 pl us.toArray qs=some Pp.toArray∧pj ρ cs' Pp
 | [],[],cs,cs',us,hf,hr,_,_=>⟨us,rfl,by simp [xR] at hf;subst hf;exact hr⟩
 | [],_::_,_,_,_,_,_,hl,_=>by simp at hl
 | _::_,[],_,_,_,_,_,hl,_=>by simp at hl
 | (i,v)::ps,(i',u)::qs,cs,cs',us,hf,hr,hl,hv=>by
  obtain ⟨rfl,h1⟩:=hv 0 i v i' u rfl rfl;simp only [xR] at hf;rw [oV] at hf;obtain ⟨⟨off,size⟩,hp,hf⟩:=hf
  split at hf
  ·rename_i hc;simp only at hc;have uk:=h1.cells;have hk:u.cells.size=size:=by have:=uk.1;simp at this;omega
   have tU:off+0+u.cells.toList.length≤us.toArray.size:=by have:=hr.1;have:=uk.1;simp at *;omega
   have sX:=ado u.cells.toList off 0 us.toArray tU;obtain ⟨Pp,e1,e2⟩:=Ms hf (hr.p6 uk off) (by simpa using hl) (fun j i v i' u a b=>hv (j+1) i v i' u (by simpa using a) (by simpa using b));refine ⟨Pp,?_,e2⟩;rw [← e1];simp only [J9,hp];rw [if_neg (by simp;have:=hr.1;have:=uk.1;simp at *;omega)]
   congr 1
   apply Be;rw [← Array.foldl_toList,Array.toList_zipIdx];simpa using sX
  ·cases hf
theorem Q8 (hE:ss ρ env a):∀ {l:List (Nat × oY)} {ps:List (Nat × jD)},zF env l=some ps→ps.length=(l.map fun (i,x)=>(i,a.eval x)).length∧(∀ (j i:Nat) (v:jD) (i':Nat) (u:oT),ps[j]? = some (i,v)→(l.map fun (i,x)=>(i,a.eval x))[j]? = some (i',u)→i=i' ∧ VR ρ v u):=by
 intro l
 induction l with
 | nil=>intro ps h;simp [zF] at h;subst h;exact ⟨rfl,fun j i v i' u h=>by simp at h⟩
 | cons x l ih =>
  intro ps h;simp only [zF,vY,Bn,Ko,oV,qL] at h;obtain ⟨v,h1,us,h2,rfl⟩:=h;obtain ⟨y,h3,rfl⟩:=pU.1 h1;obtain ⟨g1,g2⟩:=ih h2;refine ⟨by simp at g1 ⊢;exact g1,fun j i v i' u p q=>?_⟩;cases j with
  | zero=>simp at p q;obtain ⟨rfl,rfl⟩:=p;obtain ⟨rfl,rfl⟩:=q;exact ⟨rfl,sW hE h3⟩
  | succ j=>exact g2 j i v i' u (by simpa using p) (by simpa using q)
end
end Go.V
end
section
namespace Go.V
section
variable {P:oZ} {ρ:Ren} {h:Hp} {w:pf} {env:Env} {a:Act}
theorem ai4 {α β:Type} {f:α→Sem β} {g:α→Option β} (w:pf) (hf:∀ x y,g x=some y→(f x).run P w = .ok y w):∀ {l:List α} {r:List β},l.mapM g=some r→(l.mapM f).run P w = .ok r w:=by
 intro l
 induction l with
 | nil=>intro r h;simp at h;subst h;simp
 | cons x l ih =>
  intro r h;simp only [vY,Bn,Ko,oV,qL] at h;obtain ⟨y,h1,ys,h2,rfl⟩:=h;simp only [vY,pB,hf x y h1,pK,ih h2,pT]
theorem ajs {o:Oper} {t:oI} {ps:Array (Nat × oY)} {qs:List (Nat × jD)} {v:jD} (ho:o.op = .build t ps) (r:Rel ρ h w) (hE:ss ρ env a) (hp:zF env ps.toList=some qs) (hv:IW P t qs=some v):pV P ρ h w a o v h:=by
 obtain ⟨g1,g2⟩:=Q8 hE hp;unfold IW at hv;rw [oV] at hv;obtain ⟨z,hz,hv⟩:=hv;obtain ⟨i,zu,i1,i2,i3⟩:=CO hz;have xH:=(Cq (ρ:=ρ) i3).cells;have Gj:(ps.map fun (i,x)=>(i,a.eval x)).toList=ps.toList.map fun (i,x)=>(i,a.eval x):=by simp
 have rP:∀ {u:oT},(Ud t (ps.map fun (i,x)=>(i,a.eval x))).run P w = .ok u w→(execOp a.eval o).run P w = .ok (.value u) w:=fun h2=>by
  simp only [execOp,ho,pB,h2,pK,pT]
 split at hv
 ·rename_i fs pz;rw [oV] at hv;obtain ⟨pl,Ar,hv⟩:=hv;obtain ⟨cs,hf,rfl⟩:=pU.1 hv;obtain ⟨us,e1,e2⟩:=Ms hf xH g1 g2;refine pV.val r (rP (u:=.agg us.toArray) ?_) (.agg e2.1 e2.2);have hm:=ai4 (P:=P) (f:=fun f:CQ=>(do pure (f.offset,← sizeOf f.type):Sem (Nat × Nat))) (g:=fun f=>(sz P f.type).map fun n=>(f.offset,n)) w (fun x y hx=>by
   obtain ⟨n,h1,rfl⟩:=pU.1 hx;simp [wo h1]) Ar
  have HE:(fs.mapM fun f=>(do pure (f.offset,← sizeOf f.type):Sem (Nat × Nat))).run P w = .ok pl.toArray w:=by
   rw [← BS (xs:=fs),List.mapM_toArray,Sem.run_map,hm];rfl
  simp only [Ud,pB,Ej i1 i2 w,pK,qp pz w,HE,Gj];have e3:J9 (fun x=>pl.toArray[x]?) zu.cells (ps.toList.map fun (i,x)=>(i,a.eval x))=some us.toArray:=by simpa using e1
  rw [e3];rfl
 ·rename_i n e pz;rw [oV] at hv;obtain ⟨ZV,hs,hv⟩:=hv;obtain ⟨cs,hf,rfl⟩:=pU.1 hv;obtain ⟨us,e1,e2⟩:=Ms hf xH g1 g2;refine pV.val r (rP (u:=.agg us.toArray) ?_) (.agg e2.1 e2.2);simp only [Ud,pB,Ej i1 i2 w,pK,qp pz w,wo hs w,Gj];have e3:J9 (fun i=>some (i*ZV,ZV)) zu.cells (ps.toList.map fun (i,x)=>(i,a.eval x))=some us.toArray:=by simpa using e1
  rw [e3];rfl
 ·cases hv
theorem aak (z:List jD) (n:Nat):(sZ z n).length=n*z.length:=by simp [sZ]
theorem alQ (z:List jD):∀ (n j:Nat),j < n*z.length→(sZ z n)[j]? = z[j % z.length]?:=by
 intro n
 induction n with
 | zero=>intro j h;omega
 | succ n ih =>
  intro j h;unfold sZ at ih ⊢;rw [Kh,vh]
  by_cases hj:j < z.length
  ·rw [s6 hj,Nat.mod_eq_of_lt hj]
  ·rw [s7 (by omega),ih _ (by rw [Nat.succ_mul] at h;omega)]
   congr 1
   exact (Nat.mod_eq_sub_mod (by omega)).symm
theorem J6 {z:List jD} {zu:Array oT} (hr:pj ρ z zu.toList) (hz:0 < z.length) (n:Nat):pj ρ (sZ z n) ((Fq (n*zu.size)).map fun i=>zu[i % zu.size]!).toList:=by
 have hl:z.length=zu.size:=by simpa using hr.1
 refine ⟨by rw [aak];simp [hl],fun j u u' h1 h2=>?_⟩;have hj:=(qO.1 h1).1;rw [aak] at hj;rw [alQ z n j hj] at h1;have hm:j % zu.size < zu.size:=Iz _ (by omega);refine hr.2 (j % z.length) u u' h1 ?_;rw [hl] at hj ⊢;have h3:(Fq (n*zu.size))[j]? = some j:=by simp [hj]
 have h4:some (zu[j % zu.size]!)=some u':=by
  rw [← h2];simp [hj]
 rw [← h4,getElem!_pos zu _ hm];simp [hm]
theorem Zy {z len:Nat} {cap:Option Nat} {c:List jD} {us:List oT} {v:jD} {h':Hp} (r:Rel ρ h w) (e:oI) (hv:xa h z c len cap=some (v,h')) (hr:pj ρ c us) (k:Nat) (hk:cap=some k∧len≤k) :
  ∃ ρ' u,u = .slice (some ⟨w.heap.size,0,none⟩) len k∧VR ρ' v u∧Rel ρ' h' (w.alloc (.cells us.toArray e))∧Ext ρ h w ρ' h' (w.alloc (.cells us.toArray e)):=by
 unfold xa at hv
 split at hv
 ·rename_i h1;simp only [qL,pZ] at hv;obtain ⟨rfl,rfl⟩:=hv;obtain ⟨h2,h3⟩:=Yx r (z:=z) e h1 hr;obtain ⟨rfl,hk⟩:=hk;exact ⟨_,_,rfl,VR.sk (Fc _ _) hk,h2,h3⟩
 ·cases hv
theorem ajt {o:Oper} {t:oI} {n:Nat} {ps:Array (Nat × oY)} {qs:List (Nat × jD)} {v:jD} {h':Hp} (ho:o.op = .buildSlice t n ps) (r:Rel ρ h w) (hE:ss ρ env a) (hp:zF env ps.toList=some qs) (hv:FQ P h t n qs=some (v,h')) :
  pV P ρ h w a o v h':=by
 obtain ⟨g1,g2⟩:=Q8 hE hp;unfold FQ at hv
 split at hv
 ·rename_i e pz;rw [oV] at hv;obtain ⟨z,hs,hv⟩:=hv;rw [oV] at hv;obtain ⟨zv,hz,hv⟩:=hv
  split at hv
  ·rename_i hc;obtain ⟨c1,c2,c3⟩:=hc;rw [oV] at hv;obtain ⟨cs,hf,hv⟩:=hv;obtain ⟨i,zu,i1,i2,i3⟩:=CO hz;have xH:=(Cq (ρ:=ρ) i3).cells;have tV:zu.cells.size=z:=by have:=xH.1;simp at this;omega
   have wM:=J6 xH (by omega) n;rw [tV] at wM;obtain ⟨us,e1,e2⟩:=Ms hf wM g1 g2;obtain ⟨ρ',u,rfl,q1,q2,q3⟩:=Zy r e hv e2 n ⟨rfl,px _⟩;refine ⟨ρ',_,_,_,?_,.inl rfl,q1,q2,q3⟩;have Gj:(ps.map fun (i,x)=>(i,a.eval x)).toList=ps.toList.map fun (i,x)=>(i,a.eval x):=by simp
   have e3:∀ zero:Array oT,(n*z≠0→zero=zu.cells)→J9 (fun i=>some (i*z,z)) ((Fq (n*z)).map fun x=>zero[x % zero.size]!) (ps.toList.map fun (i,x)=>(i,a.eval x))=some us.toArray:=fun zero h0=>by
    rw [← e1]
    congr 1
    by_cases hn:n*z=0
    ·rw [hn];apply Be;simp
    ·rw [h0 hn,tV,BS]
   simp only [execOp,ho,Instr.buildSlice,pB,qp pz w,pK,wo hs w];rw [if_neg (by omega)]
   by_cases h0:n*z=0
   ·rw [if_pos h0];simp only [pB,pT,pK,Gj,e3 #[] (fun q=>absurd h0 q),CF]
   ·rw [if_neg h0];simp only [pB,pT,pK,Gj,Ej i1 i2 w,e3 zu.cells (fun _=>rfl),CF]
  ·cases hv
 ·cases hv
theorem GL {n:Nat} (hn:n≤2 ^ 40):Eu.wrap (n:Int)=n:=by
 have h1:((n:Int) % (2 ^ 64:Int))=n:=Int.emod_eq_of_lt (by omega) (by omega);show (if (true&&decide ((n:Int) % (2 ^ 64:Int) ≥ (2 ^ 63:Int)))=true then (n:Int) % (2 ^ 64:Int) - (2 ^ 64:Int) else (n:Int) % (2 ^ 64:Int))=n;rw [h1,if_neg];simp only [Bool.true_and,decide_eq_true_eq];omega
theorem ajJ {o:Oper} {t:oI} {x y:oY} {p q v:jD} {h':Hp} (ho:o.op = .makeSlice t x y) (r:Rel ρ h w) (hE:ss ρ env a) (hx:pO env x=some p) (hy:pO env y=some q) (hv:HW P h t p q=some (v,h')):pV P ρ h w a o v h':=by
 have v1:=sW hE hx;have v2:=sW hE hy;unfold HW at hv
 split at hv
 ·rename_i e pz;rw [oV] at hv;obtain ⟨z,hs,hv⟩:=hv;rw [oV] at hv;obtain ⟨zv,hz,hv⟩:=hv;rw [oV] at hv;obtain ⟨l,hl,hv⟩:=hv;rw [oV] at hv;obtain ⟨c,hc,hv⟩:=hv;rw [oV] at hv;obtain ⟨inf,hi,hv⟩:=hv;obtain ⟨k1,rfl,l1⟩:=L2 hl;obtain ⟨k2,rfl,l2⟩:=L2 hc;generalize wL:a.eval x=u1 at v1;generalize yJ:a.eval y=u2 at v2;cases v1;cases v2
  split at hv
  ·rename_i Ak;obtain ⟨c1,c2,c3,c4⟩:=Ak;obtain ⟨i,zu,i1,i2,i3⟩:=CO hz;have Lm:i=inf:=by rw [i1] at hi;exact oQ hi
   subst Lm;have xH:=(Cq (ρ:=ρ) i3).cells;have tV:zu.cells.size=z:=by have:=xH.1;simp at this;omega
   have wM:=J6 xH (by omega) c;rw [tV] at wM;obtain ⟨ρ',u,rfl,q1,q2,q3⟩:=Zy r e hv wM c ⟨rfl,c1⟩;refine ⟨ρ',_,_,_,?_,.inl rfl,q1,q2,q3⟩;have sR:∀ b,(askRoom b).run P w = .ok () w:=fun b=>by
    unfold askRoom;split <;> rfl
   have t1:¬ (((c:Int) < 0||(i.bytes:Int)*c > 2 ^ 48)||(l:Int) < 0||(l:Int) > c)=true:=by
    have:((i.bytes:Int)*c)=((i.bytes*c:Nat):Int):=by simp
    simp only [xK,decide_eq_true_eq,this];omega
   simp only [execOp,ho,wL,yJ,Instr.makeSlice,asInt,asIntOf,pB,qp pz w,pK,pT,typeInfo,UA,hi,GL l1,GL l2];rw [if_neg t1];have e3:∀ zero:Array oT,(c*z≠0→zero=zu.cells)→((Fq (c*z)).map fun x=>zero[x % zero.size]!)=(((Fq (c*z)).map fun i=>zu.cells[i % z]!).toList).toArray:=fun zero h0=>by
    rw [BS]
    by_cases hn:c*z=0
    ·rw [hn];apply Be;simp
    ·rw [h0 hn,tV]
   simp only [pB,pT,pK,sR,wo hs w,ry]
   by_cases h0:c*z=0
   ·rw [if_pos h0];simp only [pB,pT,pK,e3 #[] (fun q=>absurd h0 q),CF]
   ·rw [if_neg h0];simp only [pB,pT,pK,Ej i1 i2 w,e3 zu.cells (fun _=>rfl),CF]
  ·cases hv
 ·cases hv
end
end Go.V
end
section
namespace Go.V
section
variable {P:oZ} {ρ:Ren} {h:Hp} {w:pf} {env:Env} {a:Act}
def Nd (ρ:Ren):Option jD→Option oT→Prop
 | none,none=>True
 | some v,some u=>VR ρ v u
 | _,_=>False
theorem Q9 (hE:ss ρ env a) {x:Option oY} {v:Option jD} (hx:Ah env x=some v):Nd ρ v (x.map a.eval):=by
 cases x with
 | none=>obtain rfl:=oQ hx;trivial
 | some x=>obtain ⟨u,h1,rfl⟩:=pU.1 hx;exact sW hE h1
theorem Mp {v:jD} {u:oT} {n y:Nat} (hv:ze v=some n) (hr:VR ρ v u) (hy:n≤y) (c:T7) (w:pf):(PM u y c).run P w = .ok n w:=by
 obtain ⟨k,rfl⟩:=SS hv;cases hr;simp only [PM,asIntOf,pB,pT,pK];rw [if_pos ⟨by omega,by omega⟩];simp
theorem JU {len cap KH l hh m:Nat} {lo hi mx:Option jD} {Ds sK OC:Option oT} (hb:zB len cap lo hi mx=some (l,hh,m)) (hc:cap≤KH) (r1:Nd ρ lo Ds) (r2:Nd ρ hi sK) (r3:Nd ρ mx OC) (Sv:Bool) (w:pf) :
  (PN Sv len KH Ds sK OC).run P w = .ok (l,hh,if mx.isSome then m else KH) w:=by
 unfold zB at hb;rw [oV] at hb;obtain ⟨m0,h1,hb⟩:=hb;rw [oV] at hb;obtain ⟨h0,h2,hb⟩:=hb;rw [oV] at hb;obtain ⟨l0,h3,hb⟩:=hb
 split at hb
 ·rename_i hle;simp only [qL,pZ] at hb;obtain ⟨rfl,rfl,rfl⟩:=hb;obtain ⟨c1,c2,c3,c4⟩:=hle;cases mx with
  | none =>
   cases OC with
   | some u=>exact r3.elim
   | none =>
    obtain rfl:=oQ h1;have hl:∀ (code:T7),(match Ds with | some v=>PM v h0 code | none=>(pure 0:Sem Nat)).run P w = .ok l0 w:=fun code=>by
     cases lo with
     | none=>cases Ds with
      | some u=>exact r1.elim
      | none=>obtain rfl:=oQ h3;rfl
     | some v=>cases Ds with
      | none=>exact r1.elim
      | some u=>exact Mp h3 r1 c3 code w
    cases hi with
    | none=>cases sK with
     | some u=>exact r2.elim
     | none =>
      obtain rfl:=oQ h2;simp only [PN,pB,pT,pK];have:=hl (if (none:Option oT).isSome then T8 else .sliceB);cases Ds <;> simp only [pB,pT,pK] at this ⊢ <;> first | (rw [this];rfl) | (injection this with e _;subst e;rfl)
    | some v=>cases sK with
     | none=>exact r2.elim
     | some u =>
      have hh:=Mp (P:=P) h2 r2 (y:=KH) (by omega) (if Sv then BoundsCode.sliceAcap else .sliceAlen) w;simp only [PN,pB,pT,pK,hh];have:=hl (if (none:Option oT).isSome then T8 else .sliceB);cases Ds <;> simp only [pB,pT,pK] at this ⊢ <;> first | (rw [this];rfl) | (injection this with e _;subst e;rfl)
  | some mv =>
   cases OC with
   | none=>exact r3.elim
   | some mu =>
    have hm:=Mp (P:=P) h1 r3 (y:=KH) (by omega) (if Sv then BoundsCode.slice3Acap else .slice3Alen) w;cases hi with
    | none=>exact absurd (c4 rfl) (by simp)
    | some v=>cases sK with
     | none=>exact r2.elim
     | some u =>
      have hh:=Mp (P:=P) h2 r2 (y:=m0) c2 BoundsCode.slice3B w;have hl:∀ (code:T7),(match Ds with | some v=>PM v h0 code | none=>(pure 0:Sem Nat)).run P w = .ok l0 w:=fun code=>by
       cases lo with
       | none=>cases Ds with
        | some u=>exact r1.elim
        | none=>obtain rfl:=oQ h3;rfl
       | some v=>cases Ds with
        | none=>exact r1.elim
        | some u=>exact Mp h3 r1 c3 code w
      simp only [PN,pB,pT,pK,hm,hh];have:=hl (if (some mu).isSome then T8 else .sliceB);cases Ds <;> simp only [pB,pT,pK] at this ⊢ <;> first | (rw [this];rfl) | (injection this with e _;subst e;rfl)
 ·cases hb
theorem abt (s:List UInt8) (l hh:Nat):(⟨s.toArray⟩:ByteArray).extract l hh=⟨((s.drop l).take (hh - l)).toArray⟩:=by
 apply ByteArray.ext;simp
theorem KG {len cap l hh m:Nat} {lo hi mx:Option jD} (hb:zB len cap lo hi mx=some (l,hh,m)):m≤cap∧hh≤m∧l≤hh:=by
 unfold zB at hb;rw [oV] at hb;obtain ⟨m0,h1,hb⟩:=hb;rw [oV] at hb;obtain ⟨h0,h2,hb⟩:=hb;rw [oV] at hb;obtain ⟨l0,h3,hb⟩:=hb
 split at hb
 ·rename_i hle;simp only [qL,pZ] at hb;obtain ⟨rfl,rfl,rfl⟩:=hb;exact ⟨hle.1,hle.2.1,hle.2.2.1⟩
 ·cases hb
theorem QJ {len cap l hh m:Nat} {lo hi:Option jD} (hb:zB len cap lo hi none=some (l,hh,m)):m=cap:=by
 unfold zB at hb;rw [oV] at hb;obtain ⟨m0,h1,hb⟩:=hb;rw [oV] at hb;obtain ⟨h0,h2,hb⟩:=hb;rw [oV] at hb;obtain ⟨l0,h3,hb⟩:=hb
 split at hb
 ·simp only [qL,pZ] at hb;obtain ⟨rfl,rfl,rfl⟩:=hb;exact (oQ h1).symm
 ·cases hb
theorem ajN {o:Oper} {t:oI} {x:oY} {lo hi mx:Option oY} {p v:jD} {lv XR mv:Option jD} (ho:o.op = .slice t x lo hi mx) (r:Rel ρ h w) (hE:ss ρ env a) (hx:pO env x=some p) (hl:Ah env lo=some lv) (hh:Ah env hi=some XR) (hm:Ah env mx=some mv)
  (hv:xb P t p lv XR mv=some v):pV P ρ h w a o v h:=by
 have v1:=sW hE hx;have r1:=Q9 hE hl;have r2:=Q9 hE hh;have r3:=Q9 hE hm;generalize wL:a.eval x=u1 at v1;have rP:∀ {u:oT},(GR t u1 (lo.map a.eval) (hi.map a.eval) (mx.map a.eval)).run P w = .ok u w→(execOp a.eval o).run P w = .ok (.value u) w:=fun h2=>by
  simp only [execOp,ho,wL,pB,pK,h2,pT]
 generalize lo.map a.eval=lu at r1 rP;generalize hi.map a.eval=hu at r2 rP;generalize mx.map a.eval=mu at r3 rP;unfold xb at hv
 split at hv
 ·rename_i s pz
  split at hv
  ·cases hv
  ·rename_i hmx;cases mv with
   | some _=>simp at hmx
   | none =>
    cases mu with
    | some _=>exact r3.elim
    | none =>
     obtain ⟨⟨l,hh,m⟩,hb,rfl⟩:=pU.1 hv;cases v1;have hs:(⟨s.toArray⟩:ByteArray).size=s.length:=by simp [Er]
     have:=JU (P:=P) hb (px _) r1 r2 r3 false w;refine pV.val r (rP (u:=.string ((⟨s.toArray⟩:ByteArray).extract l hh)) ?_) (by rw [abt];exact VR.s _);simp only [GR,uv,Ka,pB,qp pz w,pK,Option.isSome_none,zZ,if_false,hs,this,pT]
 ·rename_i e ao len k pz;rw [oV] at hv;obtain ⟨z,hz,hv⟩:=hv;obtain ⟨⟨l,hh,m⟩,hb,rfl⟩:=pU.1 hv;have vu:=JU (P:=P) hb (px _) r1 r2 r3 true w;have hle:=KG hb;have EZ:(if mv.isSome then m else k)=m:=by
   cases mv with
   | some _=>rfl
   | none=>exact (QJ hb).symm
  rw [EZ] at vu;cases v1 with
  | sn =>
   have e1:l=0∧hh=0∧m=0:=by omega
   obtain ⟨rfl,rfl,rfl⟩:=e1;refine pV.val r (rP (u:=.slice none 0 0) ?_) .sn;simp only [GR,Ka,pB,qp pz w,pK,vu,wo hz w,pT];rfl
  | sk pP Dm =>
   rename_i b off i';refine pV.val r (rP (u:=.slice (if m=l then some ⟨i'.g,i'.base+off,none⟩ else (some (⟨i'.g,i'.base+off,none⟩:Addr)).map (·.add (l*z))) (hh - l) (m - l)) ?_) ?_
   ·simp only [GR,Ka,pB,qp pz w,pK,vu,wo hz w,pT]
   ·by_cases Ao:m=l
    ·simp only [Ao,if_true];exact VR.sk pP (by omega)
    ·simp only [Ao,if_false,rN,add_lit,yc];exact VR.sk pP (by omega)
 ·rename_i e b off len zs pz;rw [oV] at hv;obtain ⟨z,hz,hv⟩:=hv;obtain ⟨⟨l,hh,m⟩,hb,rfl⟩:=pU.1 hv
  split at hb
  case isFalse=>cases hb
  rename_i vS;have hle:=KG hb;cases v1 with
  | so pP Dm q1 q2 =>
   rename_i c i';subst vS;have vu:=JU (P:=P) hb Dm r1 r2 r3 true w;have afL:pV P ρ h w a o (if mv.isSome then .sl (some (if m=l then (b,off) else (b,off+l*i'.z))) (hh - l) (.k (m - l)) else if l < len then .sl (some (b,off+l*i'.z)) (hh - l) (.op i'.z) else .es) h:=by
    refine pV.val r (rP (u:=.slice (if (if mv.isSome then m else c)=l then some ⟨i'.g,i'.base+off,none⟩ else (some (⟨i'.g,i'.base+off,none⟩:Addr)).map (·.add (l*i'.z))) (hh - l) ((if mv.isSome then m else c) - l)) ?_) ?_
    ·simp only [GR,Ka,pB,qp pz w,pK,vu,wo hz w,pT]
    ·cases hmv:mv.isSome
     ·simp only [zZ,if_false]
      by_cases hl:l < len
      ·rw [if_pos hl,if_neg (by omega)];simp only [rN,add_lit,yc];have e2:l*i'.z+(c - l)*i'.z=c*i'.z:=by rw [← rV];congr 1;omega
       refine VR.so pP (by omega) ?_ ?_
       ·rw [yc,e2];exact q1
       ·rw [show i'.base+(off+l*i'.z)+(c - l)*i'.z=i'.base+off+(l*i'.z+(c - l)*i'.z) by omega,e2];exact q2
      ·rw [if_neg hl];have e1:hh - l=0:=by omega
       rw [e1]
       split
       ·exact VR.es
       ·exact VR.es
     ·simp only [if_true]
      by_cases Ao:m=l
      ·simp only [Ao,if_true];exact VR.sk pP (by omega)
      ·simp only [Ao,if_false,rN,add_lit,yc];exact VR.sk pP (by omega)
   exact afL
 ·rename_i e pz;rw [oV] at hv;obtain ⟨z,hz,hv⟩:=hv;obtain ⟨⟨l,hh,m⟩,hb,rfl⟩:=pU.1 hv;have hle:=KG hb;cases v1 with
  | es =>
   rename_i ad c;have vu:=JU (P:=P) hb (pY c) r1 r2 r3 true w;have e1:l=0∧hh=0∧m=0:=by omega
   obtain ⟨rfl,rfl,rfl⟩:=e1;refine pV.val r (rP (u:=.slice (if (if mv.isSome then 0 else c)=0 then some ad else (some ad).map (·.add (0*z))) 0 ((if mv.isSome then 0 else c) - 0)) ?_) ?_
   ·simp only [GR,Ka,pB,qp pz w,pK,vu,wo hz w,pT,DK]
   ·generalize (if mv.isSome then 0 else c)=q
    by_cases hq:q=0
    ·rw [if_pos hq];exact VR.es
    ·rw [if_neg hq];exact VR.es
 ·rename_i n e b off pz;rw [oV] at hv;obtain ⟨z,hz,hv⟩:=hv;obtain ⟨⟨l,hh,m⟩,hb,rfl⟩:=pU.1 hv;have vu:=JU (P:=P) hb (px _) r1 r2 r3 false w;have hle:=KG hb;have EZ:(if mv.isSome then m else n)=m:=by
   cases mv with
   | some _=>rfl
   | none=>exact (QJ hb).symm
  rw [EZ] at vu;cases v1 with
  | p pP =>
   rename_i i';refine pV.val r (rP (u:=.slice (some (if m=l then ⟨i'.g,i'.base+off,none⟩ else (⟨i'.g,i'.base+off,none⟩:Addr).add (l*z))) (hh - l) (m - l)) ?_) ?_
   ·simp only [GR,MK,pB,qp pz w,pK,vu,wo hz w,pT]
   ·by_cases Ao:m=l
    ·simp only [Ao,if_true];exact VR.sk pP (by omega)
    ·simp only [Ao,if_false,add_lit,yc];exact VR.sk pP (by omega)
 ·rename_i arr b off pz
  split at hv
  ·rename_i n e vS;rw [oV] at hv;obtain ⟨z,hz,hv⟩:=hv;obtain ⟨⟨l,hh,m⟩,hb,rfl⟩:=pU.1 hv;have vu:=JU (P:=P) hb (px _) r1 r2 r3 false w;have hle:=KG hb;have EZ:(if mv.isSome then m else n)=m:=by
    cases mv with
    | some _=>rfl
    | none=>exact (QJ hb).symm
   rw [EZ] at vu;cases v1 with
   | p pP =>
    rename_i i';refine pV.val r (rP (u:=.slice (some (if m=l then ⟨i'.g,i'.base+off,none⟩ else (⟨i'.g,i'.base+off,none⟩:Addr).add (l*z))) (hh - l) (m - l)) ?_) ?_
    ·simp only [GR,Ka,asAddr,pB,qp pz w,qp vS w,pK,vu,wo hz w,pT]
    ·by_cases Ao:m=l
     ·simp only [Ao,if_true];exact VR.sk pP (by omega)
     ·simp only [Ao,if_false,add_lit,yc];exact VR.sk pP (by omega)
  ·cases hv
 ·cases hv
end
end Go.V
end
section
namespace Go.V
section
variable {P:oZ} {ρ:Ren} {h:Hp} {w:pf} {env:Env} {a:Act}
theorem adS {p:sD→Bool} (hp:p .dead=false) {b k:Nat}:has p (h.set b .dead) k→has p h k:=fun ⟨B,q1,q2⟩=>by
 rw [Hp.pD] at q1
 split at q1
 ·obtain rfl:=oQ q1;rw [hp] at q2;cases q2
 ·exact ⟨B,q1,q2⟩
theorem Rel.kill (r:Rel ρ h w) {b:Nat} {i:Info} (hb:ρ b=some i):Rel ρ (h.set b .dead) w∧Ext ρ h w ρ (h.set b .dead) w:=by
 refine ⟨⟨r.tq,fun b' i' B' e f=>?_,fun b1 b2 i1 i2 e1 e2 l1 l2=>?_,fun k hk=>by
   have RF:=(r.tq b i hb).1;have uI:h.next≤k:=hk;rw [Hp.pD,if_neg (by omega)];exact r.wf k uI⟩,Ren.le.refl _,px _,fun b' pP hl=>⟨pP,?_⟩,px _,fun g _ hg=>⟨rfl,fun b' i' e q=>hg b' i' e (adS rfl q)⟩,rfl,rfl,rfl,px _⟩
 ·rw [Hp.pD] at f
  split at f
  ·obtain rfl:=oQ f;trivial
  ·exact r.qS b' i' B' e f
 ·have lv:∀ (p:sD→Bool),p .dead=false → ∀ k,has p (h.set b .dead) k→has p h k:=fun p hp k ⟨B,q1,q2⟩=>by
   rw [Hp.pD] at q1
   split at q1
   ·obtain rfl:=oQ q1;rw [hp] at q2;cases q2
   ·exact ⟨B,q1,q2⟩
  exact r.inj b1 b2 i1 i2 e1 e2 (lv _ rfl _ l1) (lv _ rfl _ l2)
 ·rw [Hp.pD,if_neg (fun e=>by rw [e,hb] at pP;cases pP)]
theorem Rel.Yw (r:Rel ρ h w) {b p z n N base:Nat} {i:Info} {c:List jD} {us:List oT} {z0:Nat} {d:List jD} (hb:ρ b=some i) (Jl:h.get b=some (.cells z0 d)) (h1:c.all jD.one=true)
  (hN:base+c.length≤N) (D1:∀ u∈us,u.oneCell' = true) (Lj:Fz z w i.g) (hc:∀ o,o < N→((w.setCells i.g p us).cell? ⟨i.g,o,none⟩).isSome=true∧(w.setCells i.g p us).frozen? ⟨i.g,o,none⟩=false)
  (hv:∀ j u,c[j]? = some u → ∃ u',(w.setCells i.g p us).cell? ⟨i.g,base+j,none⟩=some u' ∧ VR ρ u u') :
  Rel (ρ.put h.next ⟨i.g,base,z,c.length,N⟩) ((h.set b .dead).new (.cells z c)) (w.setCells i.g p us)∧Ext ρ h w (ρ.put h.next ⟨i.g,base,z,c.length,N⟩) ((h.set b .dead).new (.cells z c)) (w.setCells i.g p us):=by
 have Jh:=r.free;have hle:=Ren.HT (ρ:=ρ) (b:=h.next) ⟨i.g,base,z,c.length,N⟩ Jh;have sX:∀ b' i',(ρ.put h.next ⟨i.g,base,z,c.length,N⟩) b' = some i' → (b' = h.next∧i' = ⟨i.g,base,z,c.length,N⟩)∨(b' ≠ h.next∧ρ b' = some i'):=fun b' i' e=>by
  unfold Ren.put at e
  split at e
  ·rename_i pP;exact .inl ⟨pP,(oQ e).symm⟩
  ·rename_i pP;exact .inr ⟨pP,e⟩
 have RF:b≠h.next:=fun e=>by rw [e,Jh] at hb;cases hb
 have afh:(h.set b .dead).next=h.next:=rfl;have yG:∀ k,((h.set b .dead).new (.cells z c)).get k=if k=h.next then some (.cells z c) else if k=b then some .dead else h.get k:=fun k=>by
  rw [Hp.rO,afh,Hp.pD]
 have Xu:=r.tq b i hb;have lv:∀ (p:sD→Bool),p .dead=false → ∀ k,k≠h.next→has p ((h.set b .dead).new (.cells z c)) k→k≠b∧has p h k:=fun p hp k hk ⟨B,q1,q2⟩=>by
  rw [yG,if_neg hk] at q1
  split at q1
  ·obtain rfl:=oQ q1;rw [hp] at q2;cases q2
  ·exact ⟨by assumption,B,q1,q2⟩
 have pM:∀ k i',k≠b→ρ k=some i' → live h k→i'.g≠i.g:=fun k i' hk e l eg=>hk (r.inj k b i' i e hb l ⟨_,Jl,by simp⟩ eg);obtain ⟨o1,o2,o3,o4⟩:=os_setCells i.g us p w;refine ⟨⟨fun b' i' e=>?_,fun b' i' B' e f=>?_,fun b1 b2 i1 i2 e1 e2 l1 l2 hg=>?_,fun k hk=>by
   have uI:h.next+1≤k:=hk;rw [yG,if_neg (by omega),if_neg (by have:=Xu.1;omega)];exact r.wf k (by omega)⟩,hle,AN _,fun b' pP hl=>⟨?_,?_⟩,by rw [size_setCells];exact px _,fun g hg hn=>⟨EY _ _ _ _ _ (fun e=>hn b i hb ⟨_,Jl,rfl⟩ e.symm),fun b' i' e q=>?_⟩,o1,o2,o3,by rw [o4];exact px _⟩
 ·rw [size_setCells];rcases sX b' i' e with ⟨rfl,rfl⟩ | ⟨_,e⟩
  ·exact ⟨BY _,Xu.2⟩
  ·have:=r.tq b' i' e;exact ⟨Iy this.1,this.2⟩
 ·rw [yG] at f;rcases sX b' i' e with ⟨rfl,rfl⟩ | ⟨hk,e⟩
  ·rw [if_pos rfl] at f;obtain rfl:=oQ f;exact ⟨rfl,rfl,hN,h1,⟨hc,Rp _ _ _ _ _ D1 Lj⟩,fun j u hj=>by obtain ⟨u',q1,q2⟩:=hv j u hj;exact ⟨u',q1,q2.mono hle⟩⟩
  ·rw [if_neg hk] at f
   split at f
   ·obtain rfl:=oQ f;trivial
   ·rename_i RR;have hB:=r.qS b' i' B' e f;cases B' with
    | dead=>trivial
    | cells z' c'=>exact hB.congr hle (EY _ _ _ _ _ (pM b' i' RR e ⟨_,f,by simp⟩))
    | ro c'=>exact hB.congr hle (EY _ _ _ _ _ (pM b' i' RR e ⟨_,f,by simp⟩))
    | map es=>exact hB.congr hle (EY _ _ _ _ _ (pM b' i' RR e ⟨_,f,by simp⟩))
 ·rcases sX b1 i1 e1 with ⟨rfl,rfl⟩ | ⟨k1,e1⟩ <;> rcases sX b2 i2 e2 with ⟨rfl,rfl⟩ | ⟨k2,e2⟩
  ·rfl
  ·obtain ⟨q1,q2⟩:=lv _ rfl b2 k2 l2;exact absurd hg.symm (pM b2 i2 q1 e2 (own.live q2))
  ·obtain ⟨q1,q2⟩:=lv _ rfl b1 k1 l1;exact absurd hg (pM b1 i1 q1 e1 q2)
  ·exact r.inj b1 b2 i1 i2 e1 e2 (lv _ rfl b1 k1 l1).2 (lv _ rfl b2 k2 l2).2 hg
 ·unfold Ren.put;rw [if_neg (by omega)];exact pP
 ·rw [yG,if_neg (by omega),if_neg (fun e=>by rw [e,hb] at pP;cases pP)]
 ·rcases sX b' i' e with ⟨rfl,rfl⟩ | ⟨hk,e⟩
  ·exact hn b i hb ⟨_,Jl,rfl⟩
  ·exact hn b' i' e (lv _ rfl b' hk q).2
structure Kw (P:oZ) (e:oI) (i:It) (tx:oI) (x:oT) (n:Nat) (news:List oT) (w:pf):Prop where
 R3:Src P i.size tx x n news w ∨ ∃ (kn k:vW) (z:oT),P.underlying tx=some (.int kn)∧x = .int k n∧i.zero=some z∧news=(AL z.cells n).toList∧0 < i.size
 one:∀ u∈news,u.oneCell' = true
 len:news.length=n*i.size
theorem Tw {t tx ty e:oI} {i:It} (ht:P.underlying t=some (.slice e)) (hi:P.info? e=some i) {b off ur xX:Nat} {x:oT} {n:Nat} {news:List oT} (hs:Kw P e i tx x n news w) (RT:n≤2 ^ 30) (N2:i.bytes≤2 ^ 12)
  (sR:ur+n≤xX) (hc:∀ j,j < news.length→(w.cell? ⟨b,off+ur*i.size+j,none⟩).isSome=true) (hf:∀ j,j < news.length→w.frozen? ⟨b,off+ur*i.size+j,none⟩=false) :
  (GO #[t,tx] ty #[.slice (some ⟨b,off,none⟩) ur xX,x]).run P w = .ok (.slice (some ⟨b,off,none⟩) (ur+n) xX) (w.setCells b (off+ur*i.size) news):=by
 rcases hs.R3 with h1 | ⟨kn,k,z,Jo,rfl,hz,Lw,R8⟩
 ·exact run_append_room_src w t tx ty e i ht hi b off ur xX x n news h1 sR hc hf
 ·have pz:=PR (P:=P) b (off+ur*i.size) news 0 w (by simpa using hc) (by simpa using hf) hs.one;simp only [xM] at pz;have hw:=GL (n:=n) (by omega);have RV:¬ ((n:Int) < 0):=by omega
  have Rv:¬ (281474976710656 < (n:Int)*(i.bytes:Int)):=by
   rw [← PU];have:n*i.bytes≤2 ^ 30*2 ^ 12:=M4 RT N2;omega
  by_cases h0:n*i.size=0
  ·have yH:n=0:=by
    rcases Qa n with q | q
    ·exact q
    ·have:=IA q R8;omega
   subst yH;have Lx:news=[]:=tP (by rw [hs.len];exact h0);subst Lx;have E5:Eu.wrap 0=0:=GL (n:=0) (by omega);have hr0:ur≤xX:=by omega
   simp [GO,qp ht,qp Jo,sizeOf,typeInfo,hi,asInt,asIntOf,E5,hr0,Addr.add_lit,Kb,storeCells]
  ·have yH:n≠0:=fun q=>h0 (by rw [q];simp);have Oh:i.size≠0:=by omega
   rw [Lw] at pz;simp [GO,qp ht,qp Jo,sizeOf,typeInfo,zeroValue,hi,hz,asInt,asIntOf,hw,RV,Rv,sR,yH,Oh,Addr.add_lit];rw [pz,Lw,if_neg h0];rfl
theorem Tv {t tx ty e:oI} {i:It} {z:oT} (ht:P.underlying t=some (.slice e)) (hi:P.info? e=some i) (hz:i.zero=some z) (base:Option Addr) (ur xX:Nat) (olds:List oT)
  (hold:(Bg i.size ur (.slice base ur xX)).run P w.drew = .ok olds.toArray w.drew) {x:oT} {n:Nat} {news:List oT} (hs:Kw P e i tx x n news w) (RT:n≤2 ^ 30) (N2:i.bytes≤2 ^ 12) (LI:ur≤2 ^ 30) (Ap:0 < n) (hg:xX < ur+n) :
  (GO #[t,tx] ty #[.slice base ur xX,x]).run P w =
   .ok (.slice (some ⟨w.heap.size,0,none⟩) (ur+n) (grownCap w (ur+n) xX e))
    (w.drew.alloc (.cells ((olds++news).toArray++AL z.cells (grownCap w (ur+n) xX e - (ur+n))) e)):=by
 have tU:Builtin.nextslicecap (ur+n) xX*i.bytes≤281474976710656:=growslice_fits hg (by
  have:(ur+n)*i.bytes≤2 ^ 31*2 ^ 12:=M4 (by omega) N2;omega)
 have h63:((ur+n:Nat):Int)≤9223372036854775807:=by omega
 rcases hs.R3 with h1 | ⟨kn,k,z',Jo,rfl,Jr,Lw,R8⟩
 ·exact run_append_grow_src w t tx ty e i z ht hi hz base ur xX olds hold x n news h1 hg h63 tU
 ·have wM:z' = z:=by rw [hz] at Jr;exact (oQ Jr).symm
  subst wM;have hw:=GL (n:=n) (by omega);have RV:¬ ((n:Int) < 0):=by omega
  have Rv:¬ (281474976710656 < (n:Int)*(i.bytes:Int)):=by
   rw [← PU];have:n*i.bytes≤2 ^ 30*2 ^ 12:=M4 RT N2;omega
  have hn:¬ (ur+n≤xX):=by omega
  have ady:¬ (9223372036854775807 < ((ur:Int)+(n:Int))):=by omega
  have adw:¬ (281474976710656 < Builtin.nextslicecap (ur+n) xX*i.bytes):=by omega
  have yH:n≠0:=by omega
  have Oh:i.size≠0:=by omega
  subst Lw;simp [GO,qp ht,qp Jo,sizeOf,typeInfo,zeroValue,hi,hz,asInt,asIntOf,hw,RV,Rv,hn,ady,adw,yH,Oh,Question.forced,hold,newRow,grownCap];rw [if_neg (Nat.mul_ne_zero yH Oh)]
  congr 3
  apply Be;simp [tF]
end
end Go.V
end
section
namespace Go.V
section
variable {P:oZ} {ρ:Ren} {h:Hp} {w:pf} {env:Env} {a:Act}
theorem YP {w w':pf} {g o:Nat} {us:List oT} (hw:w'.heap=w.heap) (hr:w.rangeAt g o us):w'.rangeAt g o us:=fun j v hv=>by
 rw [Hl (w:=w) (by rw [hw])];exact hr j v hv
theorem O6 {z n:Nat} {v:jD} {u:oT} {c:List jD} (r:Rel ρ h w) (hv:VR ρ v u) (hc:ui h z n v=some c) (hz:∀ s,v = .s s→n=s.length) (hl:c.length=n*z) :
  ∃ us,pj ρ c us∧us.length=n*z ∧ ∀ w',w'.heap=w.heap→(Bg z n u).run P w' = .ok us.toArray w':=by
 cases hv with
 | sn=>obtain rfl:=oQ hc;exact ⟨[],pj.nil,hl,fun w' _=>rfl⟩
 | es =>
  simp only [ui] at hc
  split at hc
  ·rename_i h0;subst h0;obtain rfl:=oQ hc;exact ⟨[],pj.nil,by simp,fun w' _=>by simp [Bg,loadCells,loadCellsFrom]⟩
  ·cases hc
 | s x =>
  obtain rfl:=oQ hc;have hn:=hz x rfl;subst hn;rw [uf] at hl ⊢;refine ⟨byteCells ⟨x.toArray⟩,⟨by simp [byteCells],fun j u u' p q=>?_⟩,by rw [byteCells_length,← hl];simp [Er],fun w' _=>?_⟩
  ·simp only [byteCells,xh,pU] at p q;obtain ⟨b,p1,rfl⟩:=p;obtain ⟨b',q1,rfl⟩:=q;rw [p1] at q1;obtain rfl:=oQ q1;exact .i _ _
  ·have:=firstCells_string (P:=P) ⟨x.toArray⟩ w';simpa [Er,uv,Bg] using this
 | sk hb hk =>
  simp only [ui] at hc
  split at hc
  ·rename_i h0;subst h0;obtain rfl:=oQ hc;exact ⟨[],pj.nil,by simp,fun w' _=>by simp [Bg,loadCells,loadCellsFrom]⟩
  ·obtain ⟨g1,us,g2,g3,g4⟩:=r.rd hb hc;refine ⟨us,g2,g3,fun w' hw=>?_⟩;simp only [Bg];rw [← g3];exact O1 (YP hw g4)
 | so hb hk q1 q2 =>
  simp only [ui] at hc
  split at hc
  ·rename_i h0;subst h0;obtain rfl:=oQ hc;exact ⟨[],pj.nil,by simp,fun w' _=>by simp [Bg,loadCells,loadCellsFrom]⟩
  ·obtain ⟨g1,us,g2,g3,g4⟩:=r.rd hb hc;refine ⟨us,g2,g3,fun w' hw=>?_⟩;simp only [Bg];rw [← g3];exact O1 (YP hw g4)
 | _=>cases hc
theorem Zr {v:jD} {u:oT} {n:Nat} (hv:VR ρ v u) (hl:D5 v=some n) (w:pf):(Builtin.lenOf u).run P w = .ok n w:=by
 cases hv <;> simp only [D5,qL,reduceCtorEq] at hl <;> subst hl <;> simp [Builtin.lenOf,uv,Er]
theorem aaj (z:Array oT) (n:Nat):AL z n=(Fq (n*z.size)).map fun i=>z[i % z.size]!:=rfl
theorem Ov {l:Nat} {k:Cap} {u:oT} (hv:VR ρ (.sl none l k) u):l=0∧k = .k 0∧u = .slice none 0 0:=by cases hv;exact ⟨rfl,rfl,rfl⟩
theorem ajL {e tx:oI} {i:It} {z n:Nat} {zk:Bool} {zero v:jD} {u:oT} {c:List jD} (r:Rel ρ h w) (hi:P.info? e=some i) (hs:i.size=z) (hz:zeroV P e=some zero) (Cx:zero.cells.length=z) (h0:0 < z) (hk:yP P tx=some zk) (hv:VR ρ v u)
  (hm:HX P h e z zk v=some (n,c)) (hl:c.length=n*z) (ho:c.all jD.one=true):∃ news,pj ρ c news∧Kw P e i tx u n news w:=by
 obtain ⟨i',zu,i1,i2,i3⟩:=CO hz;have Lm:i' = i:=by rw [i1] at hi;exact oQ hi
 subst Lm;have xH:=(Cq (ρ:=ρ) i3).cells;have tV:zu.cells.size=z:=by have:=xH.1;simp at this;omega
 unfold HX at hm;cases zk with
 | true =>
  simp only [cond_true] at hm;rw [oV] at hm;obtain ⟨m,h1,hm⟩:=hm;rw [hz] at hm;simp only [pG] at hm;rw [if_pos Cx] at hm
  ·simp only [qL,pZ] at hm;obtain ⟨rfl,rfl⟩:=hm;obtain ⟨k,rfl,amp⟩:=L2 h1;cases hv;have wM:=J6 xH (by omega) m;have HA:∃ kn,P.underlying tx=some (.int kn):=by
    unfold yP at hk
    split at hk <;> simp at hk
    exact ⟨_,by assumption⟩
   obtain ⟨kn,HA⟩:=HA;exact ⟨_,wM,.inr ⟨kn,k,zu,HA,rfl,i2,by rw [aaj],by omega⟩,wM.one ho,by rw [← wM.1,hl,hs]⟩
 | false =>
  simp only [cond_false] at hm;rw [oV] at hm;obtain ⟨m,h1,hm⟩:=hm;obtain ⟨c',h2,hm⟩:=pU.1 hm;simp only [pZ] at hm;obtain ⟨rfl,rfl⟩:=hm;obtain ⟨us,g1,g2,g3⟩:=O6 (P:=P) r hv h2 (fun s e=>by subst e;exact (oQ h1).symm) hl;have HA:(∃ e',P.underlying tx=some (.slice e'))∨P.underlying tx=some .string:=by
   unfold yP at hk
   split at hk <;> simp at hk
   ·exact .inl ⟨_,by assumption⟩
   ·exact .inr (by assumption)
  refine ⟨us,g1,.inl ⟨HA,fun w'=>Zr hv h1 w',?_,?_,by rw [hs];exact g2,g1.one ho⟩,g1.one ho,by rw [hs];exact g2⟩
  ·rw [hs];exact g3 w rfl
  ·rw [hs];exact g3 w.drew rfl
theorem alL (z:Array oT) (n:Nat):(AL z n).toList.length=n*z.size:=by simp [AL]
theorem alM {z:Array oT} {n:Nat} (h:∀ u∈z.toList,u.oneCell' = true):∀ u∈(AL z n).toList,u.oneCell' = true:=by
 intro u hu;simp only [AL,Array.toList_map,Array.toList_range,z7,P7] at hu;obtain ⟨i,hi,rfl⟩:=hu;have hp:0 < z.size:=by
  rcases Qa z.size with q | q
  ·rw [q] at hi;omega
  ·exact q
 have hl:=Iz i hp;rw [getElem!_pos z _ hl];exact h _ (by simp)
theorem TB {z n0:Nat} {c:List jD} {us:List oT} {v:jD} {h':Hp} (r:Rel ρ h w) (e:oI) (zs:Array oT) (sS:∀ u∈zs.toList,u.oneCell' = true) (tV:zs.size=z) (C:Nat) (hC:n0≤C) (rT:c.length=n0*z) (hv:xa h z c n0 none=some (v,h')) (hr:pj ρ c us) :
  ∃ ρ' u,u = .slice (some ⟨w.heap.size,0,none⟩) n0 C∧VR ρ' v u∧Rel ρ' h' (w.alloc (.cells (us.toArray++AL zs (C - n0)) e))∧Ext ρ h w ρ' h' (w.alloc (.cells (us.toArray++AL zs (C - n0)) e)):=by
 unfold xa at hv
 split at hv
 ·rename_i h1;simp only [qL,pZ] at hv;obtain ⟨rfl,rfl⟩:=hv;have HM:=hr.1;have e1:us.toArray++AL zs (C - n0)=(us++(AL zs (C - n0)).toList).toArray:=by apply Be;simp
  have e2:(us++(AL zs (C - n0)).toList).length=C*z:=by
   rw [rH,alL,tV,← HM,rT,← rV];congr 1;omega
  rw [e1];obtain ⟨h2,h3⟩:=r.SU (z:=z) (cs:=us++(AL zs (C - n0)).toList) (e:=e) (fz:=(0,0)) (by simp) (by simp) (fun _=>px _) h1 (fun u hu=>(vj.1 hu).elim (hr.one h1 u) (alM sS u)) (by simp [HM]) (by rw [HM,List.take_left];exact hr);refine ⟨_,_,rfl,?_,h2,h3⟩;have:=VR.so (ρ:=ρ.put h.next ⟨w.heap.size,0,z,c.length,(us++(AL zs (C - n0)).toList).length⟩) (b:=h.next) (o:=0) (len:=n0) (c:=C) (Fc _ _) hC (by
   show c.length≤0+C*z;rw [rT,pA];exact tG _ hC) (by
   show 0+0+C*z≤(us++(AL zs (C - n0)).toList).length;rw [e2];omega)
  simpa using this
 ·cases hv
theorem Zd {t tx ty e:oI} {i:It} (ht:P.underlying t=some (.slice e)) (hi:P.info? e=some i) (base:Option Addr) (ur xX:Nat) (hle:ur≤xX) {x:oT} (hs:Kw P e i tx x 0 [] w) :
  (GO #[t,tx] ty #[.slice base ur xX,x]).run P w = .ok (.slice base ur xX) w:=by
 rcases hs.R3 with h1 | ⟨kn,k,z,Jo,rfl,hz,Lw,R8⟩
 ·exact run_append_nothing w t tx ty e i ht hi base ur xX hle x h1
 ·have E5:Eu.wrap 0=0:=GL (n:=0) (by omega);cases base <;> simp [GO,qp ht,qp Jo,sizeOf,typeInfo,hi,asInt,asIntOf,E5,hle,storeCells]
theorem ah9 {b o n:Nat} {c:List jD} (hr:rd h b o n=some c):c.length=n:=by
 unfold rd at hr
 split at hr
 ·split at hr
  ·obtain rfl:=oQ hr;simp;omega
  ·cases hr
 ·split at hr
  ·obtain rfl:=oQ hr;simp;omega
  ·cases hr
 ·cases hr
theorem W0 {z n b o len:Nat} {cap:Cap} {c:List jD} (hc:ui h z n (.sl (some (b,o)) len cap)=some c):c.length=n*z:=by
 simp only [ui] at hc
 split at hc
 ·rename_i h0;subst h0;obtain rfl:=oQ hc;simp
 ·exact ah9 hc
theorem adl {z n b o len:Nat} {cap:Cap} {c:List jD} (r:Rel ρ h w) {i:Info} (hb:ρ b=some i) (hc:ui h z n (.sl (some (b,o)) len cap)=some c):c.all jD.one=true:=by
 simp only [ui] at hc
 split at hc
 ·obtain rfl:=oQ hc;rfl
 ·exact (r.rd hb hc).1
theorem ajo {e t tx ty:oI} {i:It} {zu s' x':oT} {z n:Nat} {c:List jD} {news:List oT} {s v:jD} {h':Hp} (r:Rel ρ h w) (pz:P.underlying t=some (.slice e)) (hi:P.info? e=some i) (zO:i.size=z) (j2:i.zero=some zu) (sS:∀ u∈zu.cells.toList,u.oneCell' = true) (tV:zu.cells.size=z) (c2:0 < z) (c3:n≤2 ^ 30) (c5:i.bytes≤2 ^ 12)
  (c6:c.length=n*z) (vs:VR ρ s s') (g1:pj ρ c news) (g2:Kw P e i tx x' n news w) (hv:AS h z n c s=some (v,h')) :
  ∃ ρ' w' u,(GO #[t,tx] ty #[s',x']).run P w = .ok u w' ∧ VR ρ' v u∧Rel ρ' h' w' ∧ Ext ρ h w ρ' h' w':=by
 have sd:=Ext.drew ρ h w;subst zO;unfold AS at hv
 split at hv
 ·rename_i len cap
  split at hv
  ·obtain ⟨_,_,rfl⟩:=Ov vs
   split at hv
   ·rename_i h0;subst h0;simp only [qL,pZ] at hv;obtain ⟨rfl,rfl⟩:=hv;have Lx:news=[]:=tP (by rw [g2.len];simp);subst Lx;exact ⟨ρ,w,_,Zd pz hi none 0 0 (px _) g2,vs,r,Ext.refl _ _ _⟩
   ·have hg:=Tv (w:=w) pz hi j2 none 0 0 [] (ty:=ty) (by rfl) g2 c3 c5 (by omega) (by omega) (by omega);obtain ⟨ρ',u,rfl,q1,q2,q3⟩:=TB r.drew e zu.cells sS tV (grownCap w (0+n) 0 e) (n0:=n) (by have:=MR w (0+n) 0 e;omega) c6 hv g1;refine ⟨ρ',_,.slice (some ⟨w.heap.size,0,none⟩) n (grownCap w (0+n) 0 e),?_,q1,q2,sd.trans q3⟩;rw [hg];simp
  ·cases hv
 ·cases vs with
  | es =>
   split at hv
   ·rename_i h0;subst h0;simp only [qL,pZ] at hv;obtain ⟨rfl,rfl⟩:=hv;have Lx:news=[]:=tP (by rw [g2.len];simp);subst Lx;exact ⟨ρ,w,_,Zd pz hi _ 0 _ (pY _) g2,VR.es,r,Ext.refl _ _ _⟩
   ·cases hv
 ·rename_i b off len k;cases vs with
  | sk hb Dm =>
   rename_i i'
   split at hv
   ·rename_i sR;obtain ⟨h2,hw,hv⟩:=pU.1 hv;simp only [pZ] at hv;obtain ⟨rfl,rfl⟩:=hv;obtain ⟨d1,d2,d3,d4,d5⟩:=r.vB hb hw g1;have e0:i'.base+(off+len*i.size)=i'.base+off+len*i.size:=by omega
    rw [e0] at d1 d2 d4 d5;exact ⟨ρ,_,_,Tw pz hi g2 c3 c5 sR d1 d2,VR.sk hb sR,d4,d5⟩
   ·rename_i sR
    split at hv
    ·rename_i hlen;rw [oV] at hv;obtain ⟨d,hd,hv⟩:=hv;have zI:=W0 hd;obtain ⟨olds,f1,f2,f3⟩:=O6 (P:=P) r (VR.sk hb Dm) hd (fun s e=>by cases e) zI;have hg:=Tv (w:=w) pz hi j2 (some ⟨i'.g,i'.base+off,none⟩) len k olds (ty:=ty) (f3 w.drew rfl) g2 c3 c5 hlen.2 (by omega) (by omega);obtain ⟨ρ',u,rfl,q1,q2,q3⟩:=TB r.drew e zu.cells sS tV (grownCap w (len+n) k e) (n0:=len+n) (MR w (len+n) k e) (by rw [rH,zI,c6,rV]) hv (f1.append g1);exact ⟨ρ',_,_,hg,q1,q2,sd.trans q3⟩
    ·cases hv
 ·rename_i b off len zo;cases vs with
  | so hb Dm p1 p2 =>
   rename_i cc i'
   split at hv
   ·rename_i z' d zJ;have hB:=r.qS _ _ _ hb zJ;obtain ⟨b1,b2,b3,b4,b5,b6⟩:=hB
    split at hv
    ·rename_i Ak;obtain ⟨rfl,ae3,tU⟩:=Ak;rw [b1] at p1 p2
     split at hv
     ·rename_i zK;obtain ⟨h2,hw,hv⟩:=pU.1 hv;simp only [pZ] at hv;obtain ⟨rfl,rfl⟩:=hv;obtain ⟨d1,d2,d3,d4,d5⟩:=r.vB hb hw g1;have e0:i'.base+(off+len*i.size)=i'.base+off+len*i.size:=by omega
      rw [e0] at d1 d2 d4 d5;have sR:len+n≤cc:=by
       have:(len+n)*i.size≤cc*i.size:=by omega
       exact Nat.le_of_mul_le_mul_right this c2
      refine ⟨ρ,_,_,Tw pz hi g2 c3 c5 sR d1 d2,b1 ▸ VR.so hb sR (by rw [b1];exact p1) (by rw [b1];exact p2),d4,d5⟩
     ·rename_i zK;rw [oV] at hv;obtain ⟨dd,hd,hv⟩:=hv;have zI:=W0 hd;have wY:=adl r hb hd;obtain ⟨olds,f1,f2,f3⟩:=O6 (P:=P) r (VR.so hb Dm (by rw [b1];exact p1) (by rw [b1];exact p2)) hd (fun s e=>by cases e) zI;have Ap:0 < n:=by
       rcases Qa n with q | q
       ·subst q;simp at zK;omega
       ·exact q
      by_cases sR:len+n≤cc
      ·
       have hlen:news.length=n*i.size:=g2.len;have hmul:(len+n)*i.size≤cc*i.size:=tG _ sR;rw [rV] at hmul;have d1:∀ j,j < news.length→(w.cell? ⟨i'.g,i'.base+off+len*i.size+j,none⟩).isSome=true:=fun j hj=>(b5.1 _ (by omega)).1;have d2:∀ j,j < news.length→w.frozen? ⟨i'.g,i'.base+off+len*i.size+j,none⟩=false:=fun j hj=>(b5.1 _ (by omega)).2;have hg:=Tw (ty:=ty) pz hi g2 c3 c5 sR d1 d2;unfold xa at hv
       split at hv
       ·rename_i h1;simp only [qL,pZ] at hv;obtain ⟨rfl,rfl⟩:=hv;have rT:(dd++c).length=(len+n)*i.size:=by rw [rH,zI,c6,rV]
        obtain ⟨q2,q3⟩:=r.Yw (p:=i'.base+off+len*i.size) (z:=i.size) (n:=0) (N:=i'.base+off+cc*i.size) (base:=i'.base+off) (c:=dd++c) (us:=news) hb zJ h1 (by rw [rT,rV];omega) g2.one b5.2 (fun o ho=>⟨isSome_setCells _ _ _ _ _ (b5.1 o (by omega)).1,by rw [World.frozen?_setCells];exact (b5.1 o (by omega)).2⟩) (fun j u hj=>by
         by_cases ta:j < dd.length
         ·rw [s6 ta] at hj;have LF:rd h b off (len*i.size)=some dd∨dd=[]:=by
           simp only [ui] at hd
           split at hd
           ·exact .inr (oQ hd).symm
           ·exact .inl hd
          rcases LF with LF | LF
          ·obtain ⟨_,us2,v1,v2,v3⟩:=r.rd hb LF;obtain ⟨u2,a1,a2⟩:=v1.at hj;refine ⟨u2,?_,a2⟩;rw [World.cell?_setCells_out _ _ _ _ _ (fun _ _=>by simp only;omega)];exact v3 j u2 a1
          ·rw [LF] at ta;simp at ta
         ·rw [s7 (by omega)] at hj;obtain ⟨u',a1,a2⟩:=g1.at hj;refine ⟨u',?_,a2⟩;have pv:=(qO.1 a1).1;have:=World.cell?_setCells_in i'.g news (i'.base+off+len*i.size) w d1 (j - dd.length) pv;rw [show i'.base+off+j=i'.base+off+len*i.size+(j - dd.length) by omega,this];exact (pF pv).symm.trans a1)
        refine ⟨_,_,_,hg,?_,q2,q3⟩;have:=VR.so (ρ:=ρ.put h.next ⟨i'.g,i'.base+off,i.size,(dd++c).length,i'.base+off+cc*i.size⟩) (b:=h.next) (o:=0) (len:=len+n) (c:=cc) (Fc _ _) sR (by
         show (dd++c).length≤0+cc*i.size;rw [rT,rV];omega) (by
         show i'.base+off+0+cc*i.size≤i'.base+off+cc*i.size;omega)
        have hh:(h.set b .dead).next=h.next:=rfl;rw [hh];simpa using this
       ·cases hv
      ·have hg:=Tv (w:=w) pz hi j2 (some ⟨i'.g,i'.base+off,none⟩) len cc olds (ty:=ty) (f3 w.drew rfl) g2 c3 c5 ae3 Ap (by omega);obtain ⟨k1,k2⟩:=r.drew.kill hb;obtain ⟨ρ',u,rfl,q1,q2,q3⟩:=TB k1 e zu.cells sS tV (grownCap w (len+n) cc e) (n0:=len+n) (MR w (len+n) cc e) (by rw [rH,zI,c6,rV]) hv (f1.append g1);exact ⟨ρ',_,_,hg,q1,q2,(sd.trans k2).trans q3⟩
    ·cases hv
   ·cases hv
 ·cases hv
theorem Yr {xs:Array oY} {s x:jD} (hE:ss ρ env a) (hl:vH env xs.toList=some [s,x]):∃ s' x',xs.map a.eval = #[s',x']∧VR ρ s s' ∧ VR ρ x x':=by
 have hr:=KT hE hl;have HG:(xs.map a.eval).toList=xs.toList.map a.eval:=by simp
 generalize D1:xs.toList.map a.eval=us at hr;obtain ⟨s',x',rfl⟩:∃ s' x',us=[s',x']:=by
  have:=hr.1
  match us,this with
  | [s',x'],_=>exact ⟨s',x',rfl⟩
 exact ⟨s',x',by apply Be;rw [HG,D1],hr.head,hr.tail.head⟩
theorem SK {xs:Array oY} {s:jD} (hE:ss ρ env a) (hl:vH env xs.toList=some [s]):∃ s',xs.map a.eval = #[s']∧VR ρ s s':=by
 have hr:=KT hE hl;have HG:(xs.map a.eval).toList=xs.toList.map a.eval:=by simp
 generalize D1:xs.toList.map a.eval=us at hr;obtain ⟨s',rfl⟩:∃ s',us=[s']:=by
  have:=hr.1
  match us,this with
  | [s'],_=>exact ⟨s',rfl⟩
 exact ⟨s',by apply Be;rw [HG,D1],hr.head⟩
theorem JT {o:Oper} {b:Builtin} {xs:Array oY} {tm:Array oI} {u:Next} {w':pf} (ho:o.op = .call { callee:=.builtin b,args:=xs,argTypes:=tm }) (h2:(builtin b tm o.type (xs.map fun | .const _=>true | _=>false) (xs.map a.eval)).run P w = .ok u w') :
  (execOp a.eval o).run P w = .ok u w':=by
 simp only [execOp,ho,resolve,invoke,pB,pT,pK];exact h2
theorem ajp {o:Oper} {xs:Array oY} {tm:Array oI} {s x:jD} {v:jD} {h':Hp} (ho:o.op = .call { callee:=.builtin .append,args:=xs,argTypes:=tm }) (r:Rel ρ h w) (hE:ss ρ env a) (hl:vH env xs.toList=some [s,x]) (hv:G9 P h tm.toList s x=some (v,h')) :
  pV P ρ h w a o v h':=by
 obtain ⟨s',x',DY,vs,vx⟩:=Yr hE hl;unfold G9 at hv
 split at hv
 ·rename_i t tx y9
  split at hv
  ·rename_i e pz;rw [oV] at hv;obtain ⟨z,hz,hv⟩:=hv;rw [oV] at hv;obtain ⟨i,hi,hv⟩:=hv;rw [oV] at hv;obtain ⟨zero,hzero,hv⟩:=hv;rw [oV] at hv;obtain ⟨zk,BF,hv⟩:=hv;rw [oV] at hv;obtain ⟨⟨n,c⟩,hm,hv⟩:=hv
   split at hv
   ·rename_i hc;obtain ⟨c1,c2,c3,c4,c5,c6,c7⟩:=hc;simp only at c3 c6 c7 hv;obtain ⟨i',sK,zO⟩:=ZW hz;have:i' = i:=by rw [sK] at hi;exact oQ hi
    subst this;obtain ⟨news,g1,g2⟩:=ajL r hi zO hzero c1 c2 BF vx hm c6 c7;have adT:tm = #[t,tx]:=by apply Be;simpa using y9
    obtain ⟨i2,zu,j1,j2,j3⟩:=CO hzero;have:i2=i':=by rw [j1] at hi;exact oQ hi
    subst this;have tV:zu.cells.size=z:=by have:=(Cq (ρ:=ρ) j3).cells.1;simp at this;omega
    obtain ⟨ρ',w',u,e1,e2,e3,e4⟩:=ajo (ty:=o.type) r pz hi zO j2 (acT j3) tV c2 c3 c5 c6 vs g1 g2 hv;refine ⟨ρ',w',_,u,JT ho ?_,.inl rfl,e2,e3,e4⟩;rw [DY,adT];simp only [builtin,pB,e1,pK,pT]
   ·cases hv
  ·cases hv
 ·cases hv
theorem ajx {o:Oper} {xs:Array oY} {tm:Array oI} {d s:jD} {v:jD} {h':Hp} (ho:o.op = .call { callee:=.builtin .copy,args:=xs,argTypes:=tm }) (r:Rel ρ h w) (hE:ss ρ env a) (hl:vH env xs.toList=some [d,s]) (hv:copyV P h tm.toList d s=some (v,h')) :
  pV P ρ h w a o v h':=by
 obtain ⟨d',s',DY,vd,vs⟩:=Yr hE hl;unfold copyV at hv;rw [oV] at hv;obtain ⟨t,ht,hv⟩:=hv
 split at hv
 ·rename_i e pz;rw [oV] at hv;obtain ⟨z,hz,hv⟩:=hv;rw [oV] at hv;obtain ⟨m,hm,hv⟩:=hv;have hlen:=Zr (P:=P) vs hm w;have yI:tm[0]? = some t:=by simpa using ht
  have done:∀ {u:oT} {w':pf} {ρ':Ren} {v':jD},(PG tm o.type #[d',s']).run P w = .ok u w' → VR ρ' v' u→Rel ρ' h' w' → Ext ρ h w ρ' h' w' → pV P ρ h w a o v' h':=fun e1 e2 e3 e4=>by
   refine ⟨_,_,_,_,JT ho ?_,.inl rfl,e2,e3,e4⟩;rw [DY];simp only [builtin,pB,e1,pK,pT]
  have main:∀ (b off len:Nat) (cap:Cap) (cc:Nat) (i:Info),d = .sl (some (b,off)) len cap→d' = .slice (some ⟨i.g,i.base+off,none⟩) len cc→ρ b=some i →
    ((ui h z (min m len) s).bind fun c=>if c.length=min m len*z then (vB h b off c).map fun h'=>(jD.i .i64 ((min m len:Nat):Int),h') else none)=some (v,h')→pV P ρ h w a o v h':=fun b off len cap cc i e1 e2 hb hv=>by
   rw [oV] at hv;obtain ⟨c,hc,hv⟩:=hv
   split at hv
   ·rename_i rT;obtain ⟨h2,hw,hv⟩:=pU.1 hv;simp only [pZ] at hv;obtain ⟨rfl,rfl⟩:=hv;obtain ⟨us,f1,f2,f3⟩:∃ us,pj ρ c us∧us.length=min m len*z∧(Bg z (min m len) s').run P w = .ok us.toArray w:=by
     cases s with
     | s x =>
      cases vs;obtain rfl:=oQ hc;obtain rfl:=oQ hm;refine ⟨(x.take (min x.length len)).map fun c=>.int .u8 c.toNat,⟨by simp,fun j u u' p q=>?_⟩,by simpa using rT,?_⟩
      ·simp only [xh,pU] at p q;obtain ⟨b,p1,rfl⟩:=p;obtain ⟨b',q1,rfl⟩:=q;rw [p1] at q1;obtain rfl:=oQ q1;exact .i _ _
      ·simp only [Bg,uv,pT]
       congr 1
       apply Be;simp
     | _ =>
      obtain ⟨us,f1,f2,f3⟩:=O6 (P:=P) r vs hc (fun s e=>by cases e) rT;exact ⟨us,f1,f2,f3 w rfl⟩
    obtain ⟨d1,d2,d3,d4,d5⟩:=r.vB hb hw f1;have vS:=PR (P:=P) i.g (i.base+off) us 0 w (by simpa using d1) (by simpa using d2) d3;simp only [xM] at vS;refine done (u:=.int .i64 ((min m len:Nat):Int)) (ρ':=ρ) ?_ (VR.i _ _) d4 d5;subst e2;simp only [PG,yI,Ev,FB,UL,pB,qp pz w,pK,hlen,wo hz w];have e3:U0 m len=min m len:=rfl;rw [e3,f3];simp only [pK,pB,vS,pT,goInt]
   ·cases hv
  split at hv
  ·rename_i b off len cap;cases vd with
   | sk hb hk=>exact main b off len _ _ _ rfl rfl hb hv
   | so hb hk q1 q2=>exact main b off len _ _ _ rfl rfl hb hv
  ·rename_i len cap;obtain ⟨rfl,rfl,rfl⟩:=Ov vd;simp only [if_true,qL,pZ] at hv;obtain ⟨rfl,rfl⟩:=hv;refine done (u:=.int .i64 0) (w':=w) (ρ':=ρ) ?_ (VR.i _ _) r (Ext.refl _ _ _);have e3:U0 m 0=0:=Nat.min_zero m;have hf:(Bg z 0 s').run P w = .ok #[] w:=by
    cases vs <;> simp [D5] at hm <;> simp [Bg,loadCells,loadCellsFrom,uv]
   simp only [PG,yI,Ev,FB,UL,pB,qp pz w,pK,hlen,wo hz w,e3,hf,pT,goInt];rfl
  ·simp only [qL,pZ] at hv;obtain ⟨rfl,rfl⟩:=hv;cases vd;refine done (u:=.int .i64 0) (w':=w) (ρ':=ρ) ?_ (VR.i _ _) r (Ext.refl _ _ _);have e3:U0 m 0=0:=Nat.min_zero m;have hf:(Bg z 0 s').run P w = .ok #[] w:=by
    cases vs <;> simp [D5] at hm <;> simp [Bg,loadCells,loadCellsFrom,uv]
   simp only [PG,yI,Ev,FB,UL,pB,qp pz w,pK,hlen,wo hz w,e3,hf,pT,goInt];rfl
  ·cases hv
 ·cases hv
end
end Go.V
end
section
namespace Go.V
section
variable {P:oZ} {ρ:Ren} {h:Hp} {w:pf} {env:Env} {a:Act}
theorem VR.JD {ρ:Ren}:VR ρ (.qR []) (.tuple #[]):=VR.qR (vs:=[]) rfl (fun j u u' h=>by simp at h)
theorem ajv {o:Oper} {xs:Array oY} {tm:Array oI} {d:jD} {v:jD} {h':Hp} (ho:o.op = .call { callee:=.builtin .clear,args:=xs,argTypes:=tm }) (r:Rel ρ h w) (hE:ss ρ env a) (hl:vH env xs.toList=some [d]) (hv:FU P h tm.toList d=some (v,h')) :
  pV P ρ h w a o v h':=by
 obtain ⟨d',DY,vd⟩:=SK hE hl;unfold FU at hv;rw [oV] at hv;obtain ⟨t,ht,hv⟩:=hv;have yI:tm[0]? = some t:=by simpa using ht
 have done:∀ {w':pf} {ρ':Ren},(MG tm o.type #[d']).run P w = .ok (.tuple #[]) w' → Rel ρ' h' w' → Ext ρ h w ρ' h' w' → pV P ρ h w a o (.qR []) h':=fun e1 e3 e4=>by
  refine ⟨_,_,_,_,JT ho ?_,.inl rfl,VR.JD,e3,e4⟩;rw [DY];simp only [builtin,pB,e1,pK,pT]
 split at hv
 ·rename_i e pz;rw [oV] at hv;obtain ⟨zero,hz,hv⟩:=hv;obtain ⟨i,zu,i1,i2,i3⟩:=CO hz;have xH:=(Cq (ρ:=ρ) i3).cells;have main:∀ (b off len:Nat) (cc:Nat) (i':Info),d' = .slice (some ⟨i'.g,i'.base+off,none⟩) len cc→ρ b=some i' →
    (if len=0 then some (jD.qR [],h) else if 0 < zero.cells.length then (vB h b off (sZ zero.cells len)).map fun h'=>(jD.qR [],h') else none)=some (v,h')→pV P ρ h w a o v h':=fun b off len cc i' e2 hb hv=>by
   subst e2
   split at hv
   ·rename_i h0;subst h0;simp only [qL,pZ] at hv;obtain ⟨rfl,rfl⟩:=hv;refine done (w':=w) (ρ':=ρ) ?_ r (Ext.refl _ _ _);simp [MG,yI,qp pz]
   ·rename_i h0
    split at hv
    ·rename_i E6;obtain ⟨h2,hw,hv⟩:=pU.1 hv;simp only [pZ] at hv;obtain ⟨rfl,rfl⟩:=hv;have wM:=J6 xH E6 len;obtain ⟨d1,d2,d3,d4,d5⟩:=r.vB hb hw wM;have vS:=PR (P:=P) i'.g (i'.base+off) _ 0 w (by simpa using d1) (by simpa using d2) d3;simp only [xM] at vS;refine done (ρ':=ρ) ?_ d4 d5;cases len with
     | zero=>exact absurd rfl h0
     | succ len =>
      simp only [MG,yI,Ev,FB,pB,qp pz w,pK,Ej i1 i2 w,aaj,vS,pT]
    ·cases hv
  split at hv
  ·rename_i b off len cap;cases vd with
   | sk hb hk=>exact main b off len _ _ rfl hb hv
   | so hb hk q1 q2=>exact main b off len _ _ rfl hb hv
  ·obtain ⟨rfl,rfl,rfl⟩:=Ov vd;simp only [qL,pZ] at hv;obtain ⟨rfl,rfl⟩:=hv;refine done (w':=w) (ρ':=ρ) ?_ r (Ext.refl _ _ _);simp [MG,yI,qp pz]
  ·simp only [qL,pZ] at hv;obtain ⟨rfl,rfl⟩:=hv;cases vd;refine done (w':=w) (ρ':=ρ) ?_ r (Ext.refl _ _ _);simp [MG,yI,qp pz]
  ·cases hv
 ·cases hv
theorem ajE {o:Oper} {xs:Array oY} {tm:Array oI} {d:jD} {v:jD} (ho:o.op = .call { callee:=.builtin .len,args:=xs,argTypes:=tm }) (r:Rel ρ h w) (hE:ss ρ env a) (hl:vH env xs.toList=some [d]) (hv:D4 P h tm.toList d=some v) :
  pV P ρ h w a o v h:=by
 obtain ⟨d',DY,vd⟩:=SK hE hl;unfold D4 at hv;rw [oV] at hv;obtain ⟨t,ht,hv⟩:=hv;have yI:tm[0]? = some t:=by simpa using ht
 have done:∀ {n:Int},(GP tm o.type #[d']).run P w = .ok (.int .i64 n) w→pV P ρ h w a o (.i .i64 n) h:=fun e1=>by
  refine pV.val r (JT ho ?_) (VR.i _ _);rw [DY];simp only [builtin,pB,e1,pK,pT]
 have pre:∀ {d:yR},P.underlying t=some d→(underlying t).run P w = .ok d w:=fun hd=>qp hd w
 split at hv
 ·rename_i s pz;obtain rfl:=oQ hv;cases vd;refine done ?_;have e9:(⟨s.toArray⟩:ByteArray).size=s.length:=by simp [Er]
  simp only [GP,yI,uv,Ev,FB,pB,qp pz w,pK,pT,goInt,e9]
 ·rename_i n e pz;obtain rfl:=oQ hv;refine done ?_;cases vd <;> simp [GP,yI,qp pz,goInt]
 ·rename_i e b n c pz;obtain rfl:=oQ hv;refine done ?_;cases vd <;> simp [GP,yI,qp pz,goInt]
 ·rename_i e pz;obtain rfl:=oQ hv;refine done ?_;cases vd;simp [GP,yI,qp pz,goInt]
 ·rename_i pz;obtain rfl:=oQ hv;refine done ?_;cases vd;simp [GP,yI,qp pz,goInt]
 ·rename_i rr pz
  split at hv
  ·rename_i es hg;obtain rfl:=oQ hv;cases vd with
   | m hb =>
    obtain ⟨en,ck,m1,m2,m3⟩:=r.qS _ _ _ hb hg;refine done ?_;simp [GP,yI,qp pz,goInt,getObj,GX,m1,m2]
  ·cases hv
 ·rename_i ad pz
  split at hv
  ·rename_i n e vS;obtain rfl:=oQ hv;refine done ?_;cases vd;simp [GP,yI,qp pz,qp vS,goInt]
  ·cases hv
 ·cases hv
theorem aju {o:Oper} {xs:Array oY} {tm:Array oI} {d:jD} {v:jD} (ho:o.op = .call { callee:=.builtin .cap,args:=xs,argTypes:=tm }) (r:Rel ρ h w) (hE:ss ρ env a) (hl:vH env xs.toList=some [d]) (hv:Nv P tm.toList d=some v) :
  pV P ρ h w a o v h:=by
 obtain ⟨d',DY,vd⟩:=SK hE hl;unfold Nv at hv;rw [oV] at hv;obtain ⟨t,ht,hv⟩:=hv;have yI:tm[0]? = some t:=by simpa using ht
 split at hv
 ·rename_i e b n k pz;obtain rfl:=oQ hv;have e1:(Builtin.cap_ tm o.type #[d']).run P w = .ok (.int .i64 k) w:=by
   cases vd <;> simp [Builtin.cap_,yI,qp pz,goInt]
  refine pV.val r (JT ho (u:=.value (.int .i64 k)) ?_) (VR.i _ _);rw [DY];simp only [builtin,pB,e1,pK,pT]
 ·cases hv
theorem Zs {mx:Bool}:∀ {l:List jD} {us:List oT} {x:jD} {u:oT} {v:jD},l.foldlM (SP mx) x=some v→pj ρ l us→VR ρ x u → ∃ u',(us.foldlM (if mx then Builtin.max2 else Builtin.min2) u:Sem oT).run P w = .ok u' w∧VR ρ v u'
 | [],us,x,u,v,hf,hr,hx=>by
  have:us=[]:=tP hr.1.symm;subst this;simp at hf;subst hf;exact ⟨u,by simp,hx⟩
 | y::l,[],x,u,v,hf,hr,hx=>by have:=hr.1;simp at this
 | y::l,u2::us,x,u,v,hf,hr,hx=>by
  simp only [List.foldlM_cons,Bn,oV] at hf;obtain ⟨m,h1,h2⟩:=hf;unfold SP at h1
  split at h1
  ·split at h1
   ·rename_i hk;subst hk;obtain rfl:=oQ h1;have hy:=hr.head;cases hx;cases hy;obtain ⟨u',e1,e2⟩:=Zs h2 hr.tail (VR.i _ _);refine ⟨u',?_,e2⟩;cases mx <;> simpa [Builtin.max2,Builtin.min2] using e1
   ·cases h1
  ·cases h1
theorem Zt {o:Oper} {xs:Array oY} {tm:Array oI} {vs:List jD} {v:jD} {mx:Bool} (ho:o.op = .call { callee:=.builtin (if mx then .max else .min),args:=xs,argTypes:=tm }) (r:Rel ρ h w) (hE:ss ρ env a) (hl:vH env xs.toList=some vs) (hv:OB mx vs=some v) :
  pV P ρ h w a o v h:=by
 have hr:=KT hE hl;have HG:(xs.map a.eval).toList=xs.toList.map a.eval:=by simp
 generalize xs.toList.map a.eval=us at hr HG;unfold OB at hv;cases vs with
 | nil=>cases hv
 | cons x l =>
  cases us with
  | nil=>have:=hr.1;simp at this
  | cons u us =>
   obtain ⟨u',e1,e2⟩:=Zs (P:=P) (w:=w) hv hr.tail hr.head;refine pV.val r (JT ho (u:=.value u') ?_) e2;cases mx
   ·simp only [zZ,if_false] at e1 ⊢;simp only [builtin,Builtin.min_,HG,pB,e1,pK,pT]
   ·simp only [if_true] at e1 ⊢;simp only [builtin,Builtin.max_,HG,pB,e1,pK,pT]
end
end Go.V
end
section
namespace Go.V
section
variable {P:oZ} {ρ:Ren} {h:Hp} {w:pf} {env:Env} {a:Act}
theorem Rel.ahi (r:Rel ρ h w):Rel (ρ.put h.next ⟨w.heap.size,0,0,0,0⟩) (h.new (.map [])) (w.alloc (.map #[] 0))∧Ext ρ h w (ρ.put h.next ⟨w.heap.size,0,0,0,0⟩) (h.new (.map [])) (w.alloc (.map #[] 0)):=by
 have Jh:=r.free;have hle:=Ren.HT (ρ:=ρ) (b:=h.next) ⟨w.heap.size,0,0,0,0⟩ Jh;have sX:∀ b i,(ρ.put h.next ⟨w.heap.size,0,0,0,0⟩) b=some i→(b=h.next∧i=⟨w.heap.size,0,0,0,0⟩)∨(b≠h.next∧ρ b=some i):=fun b i e=>by
  unfold Ren.put at e
  split at e
  ·rename_i hb;exact .inl ⟨hb,(oQ e).symm⟩
  ·rename_i hb;exact .inr ⟨hb,e⟩
 have hold:∀ g,g < w.heap.size→(w.alloc (.map #[] 0)).heap[g]? = w.heap[g]?:=fun g hg=>by
  show (w.heap.push _)[g]? = _;rw [GN,if_neg (U3 hg)]
 have u7:(w.alloc (.map #[] 0)).heap[w.heap.size]? = some (.map #[] 0):=by
  show (w.heap.push _)[w.heap.size]? = _;rw [GN,if_pos rfl]
 refine ⟨⟨fun b i e=>?_,fun b i B e f=>?_,fun b b' i i' e e' l l' hg=>?_,fun k hk=>by
   have uI:h.next+1≤k:=hk;rw [Hp.rO,if_neg (by omega)];exact r.wf k (by omega)⟩,hle,AN _,fun b hb hl=>⟨?_,?_⟩,by simp,fun g hg hn=>⟨hold g hg,fun b i e q=>?_⟩,rfl,rfl,rfl,px _⟩
 ·rcases sX b i e with ⟨rfl,rfl⟩ | ⟨_,e⟩
  ·exact ⟨BY _,by simp⟩
  ·have:=r.tq b i e;exact ⟨Iy this.1,by simp;omega⟩
 ·rcases sX b i e with ⟨rfl,rfl⟩ | ⟨hb,e⟩
  ·rw [Hp.rO,if_pos rfl] at f;obtain rfl:=oQ f;exact ⟨#[],0,u7,rfl,fun j k v hj=>by simp at hj⟩
  ·rw [Hp.rO,if_neg hb] at f;exact (r.qS b i B e f).congr hle (hold _ (r.tq b i e).2)
 ·have lv:∀ (p:sD→Bool) b,b≠h.next→has p (h.new (.map [])) b→has p h b:=fun p b hb ⟨B,a,q⟩=>⟨B,by rw [Hp.rO,if_neg hb] at a;exact a,q⟩
  rcases sX b i e with ⟨rfl,rfl⟩ | ⟨hb,e⟩ <;> rcases sX b' i' e' with ⟨rfl,rfl⟩ | ⟨pP,e'⟩
  ·rfl
  ·have:=(r.tq b' i' e').2;simp only at hg;omega
  ·have:=(r.tq b i e).2;simp only at hg;omega
  ·exact r.inj b b' i i' e e' (lv _ b hb l) (lv _ b' pP l') hg
 ·unfold Ren.put;rw [if_neg (by omega)];exact hb
 ·rw [Hp.rO,if_neg (by omega)]
 ·rcases sX b i e with ⟨rfl,rfl⟩ | ⟨hb,e⟩
  ·simp;omega
  ·obtain ⟨B,q1,q2⟩:=q;exact hn b i e ⟨B,by rw [Hp.rO,if_neg hb] at q1;exact q1,q2⟩
theorem Rel.Zj (r:Rel ρ h w) {b:Nat} {i:Info} {es es':List (jD × jD)} {en':Array Fv} {ck':Nat} (hb:ρ b=some i) (hg:h.get b=some (.map es)) (hlen:en'.size=es'.length) (hr:∀ (j:Nat) (k v:jD),es'[j]? = some (k,v) → ∃ e:Fv,en'[j]? = some e∧VR ρ k e.key∧VR ρ v e.val) :
  Rel ρ (h.set b (.map es')) { w with heap:=w.heap.setIfInBounds i.g (.map en' ck') }∧Ext ρ h w ρ (h.set b (.map es')) { w with heap:=w.heap.setIfInBounds i.g (.map en' ck') }:=by
 have hd:=r.tq b i hb;have hold:∀ g,g≠i.g→(w.heap.setIfInBounds i.g (.map en' ck'))[g]? = w.heap[g]?:=fun g hg=>by
  rw [DE,if_neg (fun e=>hg e.symm)]
 have u7:(w.heap.setIfInBounds i.g (.map en' ck'))[i.g]? = some (.map en' ck'):=by
  rw [DE,if_pos rfl,if_pos hd.2]
 have lv:∀ (p:sD→Bool),p (.map es')=p (.map es) → ∀ k,has p (h.set b (.map es')) k→has p h k:=fun p hp k ⟨B,q1,q2⟩=>by
  rw [Hp.pD] at q1
  split at q1
  ·rename_i e;subst e;obtain rfl:=oQ q1;exact ⟨_,hg,by rw [← hp];exact q2⟩
  ·exact ⟨B,q1,q2⟩
 refine ⟨⟨fun b' i' e=>by have:=r.tq b' i' e;exact ⟨this.1,by simpa using this.2⟩,fun b' i' B' e f=>?_,fun b1 b2 i1 i2 e1 e2 l1 l2=>r.inj b1 b2 i1 i2 e1 e2 (lv _ rfl _ l1) (lv _ rfl _ l2),fun k hk=>by
   have uI:h.next≤k:=hk;rw [Hp.pD,if_neg (by omega)];exact r.wf k uI⟩,Ren.le.refl _,px _,fun b' pP hl=>⟨pP,?_⟩,by simp,fun g vv hn=>⟨hold g (fun e=>hn b i hb ⟨_,hg,rfl⟩ e.symm),fun b' i' e q=>hn b' i' e (lv _ rfl _ q)⟩,rfl,rfl,rfl,px _⟩
 ·rw [Hp.pD] at f
  split at f
  ·rename_i e2;subst e2;rw [hb] at e;obtain rfl:=oQ e;obtain rfl:=oQ f;exact ⟨en',ck',u7,hlen,hr⟩
  ·rename_i vu;have hB:=r.qS b' i' B' e f;cases B' with
   | dead=>trivial
   | cells z c=>exact hB.congr (Ren.le.refl _) (hold _ (fun eg=>vu (r.inj b' b i' i e hb ⟨_,f,by simp⟩ ⟨_,hg,by simp⟩ eg)))
   | ro c=>exact hB.congr (Ren.le.refl _) (hold _ (fun eg=>vu (r.inj b' b i' i e hb ⟨_,f,by simp⟩ ⟨_,hg,by simp⟩ eg)))
   | map es=>exact hB.congr (Ren.le.refl _) (hold _ (fun eg=>vu (r.inj b' b i' i e hb ⟨_,f,by simp⟩ ⟨_,hg,by simp⟩ eg)))
 ·rw [Hp.pD,if_neg (fun e=>by rw [e,hb] at pP;cases pP)]
theorem ajg {kt:oI} {d:yR} {k k':jD} {u u':oT} (hd:P.underlying kt=some d) (h1:vK P kt k=true) (h2:vK P kt k' = true) (v1:VR ρ k u) (v2:VR ρ k' u'):Ui d u u' = some (zQ k k'):=by
 unfold vK at h1
 split at h1
 ·rename_i j q n hu;rw [hu] at hd;obtain rfl:=oQ hd;unfold vK at h2;rw [hu] at h2
  split at h2
  ·rename_i j2 q2 n2 e1;obtain rfl:j=j2:=by injection e1 with e1;injection e1
   cases v1;cases v2;have a1:q=j:=by simpa using h1
   have a2:q2=j:=by simpa using h2
   subst a1;subst a2;simp [Ui,zQ,zD]
  ·rename_i e1;cases e1
  ·rename_i e1;cases e1
  ·cases h2
 ·rename_i s hu;rw [hu] at hd;obtain rfl:=oQ hd;unfold vK at h2;rw [hu] at h2
  split at h2
  ·rename_i e1;cases e1
  ·cases v1;cases v2;simp only [Ui,uv,zQ,zD,beq_toListBytes,Ph]
  ·rename_i e1;cases e1
  ·cases h2
 ·rename_i s hu;rw [hu] at hd;obtain rfl:=oQ hd;unfold vK at h2;rw [hu] at h2
  split at h2
  ·rename_i e1;cases e1
  ·rename_i e1;cases e1
  ·cases v1;cases v2;rfl
  ·cases h2
 ·cases h1
theorem aje {kt:oI} {k k':jD} {u u':oT} (h1:vK P kt k=true) (h2:vK P kt k' = true) (v1:VR ρ k u) (v2:VR ρ k' u') (he:zQ k k' = true) (n:Nat):PL n u' u=true:=by
 cases v1 <;> first | (simp [zQ,zD] at he;done) | skip
 all_goals (cases v2 <;> first | (simp [zQ,zD] at he;done) | skip)
 ·simp only [zQ,zD,beq_iff_eq] at he;subst he;simp [PL]
 ·simp only [zQ,zD,rk,beq_iff_eq] at he;obtain ⟨rfl,rfl⟩:=he;simp [PL]
 ·simp only [zQ,zD,beq_iff_eq] at he;subst he;simp only [PL,uv,beq_toListBytes];simp
theorem Wn {kt:oI} {k:jD} {u:oT} (h1:vK P kt k=true) (v1:VR ρ k u) (e:Bool) (n:Nat) (w:pf):(MH e (n+1) kt u).run P w = .ok () w:=by
 unfold vK at h1
 split at h1
 ·cases v1;rw [MH];simp [qp (by assumption)]
 ·cases v1;rw [MH];simp [qp (by assumption),uv]
 ·cases v1;rw [MH];simp [qp (by assumption)]
 ·cases h1
theorem WU {kt:oI} {d:yR} {k:jD} {u:oT} (hd:P.underlying kt=some d) (h1:vK P kt k=true) (v1:VR ρ k u):∀ (es:List (jD × jD)) (en:List Fv) (i:Nat),en.length=es.length→(es.all fun e=>vK P kt e.1)=true →
  (∀ (j:Nat) (k v:jD),es[j]? = some (k,v) → ∃ e:Fv,en[j]? = some e∧VR ρ k e.key∧VR ρ v e.val) →
  (yE k es=none∧MJ d u en i=some none ∧ ∀ x,zX k x es=es++[(k,x)]) ∨ ∃ j e v k',yE k es=some v∧en[j]? = some e∧VR ρ v e.val∧MJ d u en i=some (some (i+j,e.val))∧es[j]? = some (k',v)∧zQ k k' = true∧vK P kt k' = true∧VR ρ k' e.key ∧ ∀ x,zX k x es=es.set j (k,x):=by
 intro es
 induction es with
 | nil =>
  intro en i hl hk hr;have:en=[]:=tP hl;subst this;exact .inl ⟨rfl,rfl,fun x=>rfl⟩
 | cons e es ih =>
  intro en i hl hk hr;obtain ⟨k',v⟩:=e;cases en with
  | nil=>simp at hl
  | cons m en =>
   simp only [tZ,rk] at hk;obtain ⟨m',hm,r1,r2⟩:=hr 0 k' v rfl;simp at hm;subst hm;have hs:=ajg hd h1 hk.1 v1 r1;cases he:zQ k k' with
   | true =>
    refine .inr ⟨0,m,v,k',by simp [yE,he],rfl,r2,by simp [MJ,hs,he],rfl,he,hk.1,r1,fun x=>by simp [zX,he]⟩
   | false =>
    rcases ih en (i+1) (by simpa using hl) hk.2 (fun j k v hj=>hr (j+1) k v (by simpa using hj)) with ⟨q1,q2,q3⟩ | ⟨j,e,v',k2,q1,q2,q3,q4,q5,q6,q7,q8,q9⟩
    ·exact .inl ⟨by simp [yE,he,q1],by simp [MJ,hs,he,q2],fun x=>by simp [zX,he,q3]⟩
    ·exact .inr ⟨j+1,e,v',k2,by simp [yE,he,q1],by simpa using q2,q3,by simp [MJ,hs,he,q4];omega,by simpa using q5,q6,q7,q8,fun x=>by simp [zX,he,q9]⟩
theorem Yd {kt:oI} {k:jD} (h1:vK P kt k=true):∃ d,P.underlying kt=some d:=by
 unfold vK at h1
 split at h1 <;> first | exact ⟨_,by assumption⟩ | cases h1
theorem ajG {o:Oper} {t:oI} {x y:oY} {ok:Bool} {m k v:jD} (ho:o.op = .lookup t x y ok) (r:Rel ρ h w) (hE:ss ρ env a) (hx:pO env x=some m) (hy:pO env y=some k) (hv:Gr P h t m k ok=some v):pV P ρ h w a o v h:=by
 have v1:=sW hE hx;have v2:=sW hE hy;generalize wL:a.eval x=u1 at v1;generalize yJ:a.eval y=u2 at v2;have rP:∀ {u:oT},(Ug t u1 u2 ok).run P w = .ok u w→(execOp a.eval o).run P w = .ok (.value u) w:=fun h2=>by
  simp only [execOp,ho,wL,yJ,pB,pK,h2,pT]
 unfold Gr at hv
 split at hv
 ·rename_i kt vt pz
  split at hv
  ·rename_i hk;rw [oV] at hv;obtain ⟨es,AZ,hv⟩:=hv;rw [oV] at hv;obtain ⟨zero,hz,hv⟩:=hv;obtain ⟨i,zu,i1,i2,i3⟩:=CO hz;have xH:=Cq (ρ:=ρ) i3;obtain ⟨d,hd⟩:=Yd hk;have Lc:=fun e=>Wn (P:=P) hk v2 e 9999 w;obtain ⟨en,g1,g2,g3,g4⟩:∃ en:Array Fv,(u1 = .map none∧en = #[] ∨ ∃ g ck,u1 = .map (some g)∧(getObj g).run P w = .ok (.map en ck) w)∧en.size=es.length∧(es.all fun e=>vK P kt e.1)=true ∧
     (∀ (j:Nat) (k v:jD),es[j]? = some (k,v) → ∃ e:Fv,en[j]? = some e∧VR ρ k e.key∧VR ρ v e.val):=by
    cases v1 <;> simp only [qL,reduceCtorEq] at AZ
    ·subst AZ;exact ⟨#[],.inl ⟨rfl,rfl⟩,rfl,rfl,fun j k v h=>by simp at h⟩
    ·rename_i r' i' hb
     split at AZ
     ·rename_i es' hg
      split at AZ
      ·rename_i uH;obtain rfl:=oQ AZ;obtain ⟨en,ck,m1,m2,m3⟩:=r.qS _ _ _ hb hg;exact ⟨en,.inr ⟨_,ck,rfl,by simp [getObj,GX,m1]⟩,m2,uH,m3⟩
      ·cases AZ
     ·cases AZ
   have aep:=WU hd hk v2 es en.toList 0 (by simpa using g2) g3 (fun j k v hj=>by obtain ⟨e,a1,a2⟩:=g4 j k v hj;exact ⟨e,by simpa using a1,a2⟩);obtain ⟨q,hq⟩:∃ q:jD × Bool,q=(match yE k es with | some v=>(v,true) | none=>(zero,false)):=⟨_,rfl⟩
   have LG:∃ u:oT,VR ρ q.1 u∧(do
     let es ← pure en
     MH es.isEmpty 10000 kt u2
     let (v,ok') ← match ← MI kt u2 es.toList with
      | some (_,v)=>pure (v,true)
      | none=>pure (← zeroValue vt,false)
     pure (if ok then Uy #[v,.bool ok'] else v):Sem oT).run P w = .ok (if ok then Uy #[u,.bool q.2] else u) w:=by
    rcases aep with ⟨q1,q2,q3⟩ | ⟨j,e,v',k2,q1,q2,q3,q4,q5,q6,q7,q8,q9⟩
    ·rw [q1] at hq;subst hq;refine ⟨zu,xH,?_⟩;simp only [pB,pT,pK,Lc,MI,qp hd w,q2,Ej i1 i2 w]
    ·rw [q1] at hq;subst hq;refine ⟨e.val,q3,?_⟩;simp only [pB,pT,pK,Lc,MI,qp hd w,q4]
   obtain ⟨u,hu,LG⟩:=LG;have Sc:v=if ok then .qR [q.1,.b q.2] else q.1:=by rw [hq];exact (oQ hv).symm
   refine pV.val r (rP (u:=if ok then Uy #[u,.bool q.2] else u) ?_) ?_
   ·simp only [pB,pT,pK] at LG;rcases g1 with ⟨rfl,rfl⟩ | ⟨g,ck,rfl,g1⟩
    ·simp only [Ug,pB,qp pz w,pK,pT];exact LG
    ·simp only [Ug,pB,qp pz w,pK,g1,pT];exact LG
   ·rw [Sc];cases ok
    ·exact hu
    ·have h3:=(pj.nil (ρ:=ρ).cons (VR.b q.2)).cons hu;exact VR.qR h3.1 h3.2
  ·cases hv
 ·cases hv
end
end Go.V
end
section
namespace Go.V
section
variable {P:oZ} {ρ:Ren} {h:Hp} {w:pf} {env:Env} {a:Act}
theorem ajK {o:Oper} {t:oI} {x y z:oY} {m k v:jD} {h':Hp} (ho:o.op = .mapUpdate t x y z) (r:Rel ρ h w) (hE:ss ρ env a) (hx:pO env x=some m) (hy:pO env y=some k) (hz:pO env z=some v) (hv:LZ P h t m k v=some h'):pV P ρ h w a o .no h':=by
 have v1:=sW hE hx;have v2:=sW hE hy;have v3:=sW hE hz;generalize wL:a.eval x=u1 at v1;generalize yJ:a.eval y=u2 at v2;generalize hu3:a.eval z=u3 at v3;have rP:∀ {w':pf},(Uh t u1 u2 u3).run P w = .ok () w' → (execOp a.eval o).run P w = .ok .skip w':=fun h2=>by
  simp only [execOp,ho,wL,yJ,hu3,pB,pK,h2,pT]
 unfold LZ at hv
 split at hv
 ·rename_i kt vt r' pz
  split at hv
  ·rename_i es hg
   split at hv
   ·rename_i hc;obtain ⟨hk,uH⟩:=hc;obtain rfl:=oQ hv;cases v1 with
    | m hb =>
     rename_i i';obtain ⟨en,ck,m1,m2,m3⟩:=r.qS _ _ _ hb hg;obtain ⟨d,hd⟩:=Yd hk;have Lc:=fun e=>Wn (P:=P) hk v2 e 9999 w;have Gf:(getObj i'.g).run P w = .ok (.map en ck) w:=by simp [getObj,GX,m1]
     have LK:∀ (es:Array Fv) (c:Nat),(setObj i'.g (.map es c)).run P w = .ok () { w with heap:=w.heap.setIfInBounds i'.g (.map es c) }:=fun es c=>by simp [setObj,GX,m1]
     rcases WU hd hk v2 es en.toList 0 (by simpa using m2) uH (fun j k v hj=>by obtain ⟨e,a1,a2⟩:=m3 j k v hj;exact ⟨e,by simpa using a1,a2⟩) with ⟨q1,q2,q3⟩ | ⟨j,e,v',k2,q1,q2,q3,q4,q5,q6,q7,q8,q9⟩
     ·obtain ⟨s1,s2⟩:=r.Zj (es':=zX k v es) (en':=en.push { key:=u2,val:=u3,born:=ck }) (ck':=ck+1) hb hg (by rw [q3];simp [m2]) (fun j k' v' hj=>by
       rw [q3] at hj
       by_cases ta:j < es.length
       ·rw [s6 ta] at hj;obtain ⟨e,a1,a2⟩:=m3 j k' v' hj;exact ⟨e,by rw [GN,if_neg (by omega)];exact a1,a2⟩
       ·rw [s7 (by omega)] at hj;have hj0:j=es.length:=by
         have:=(qO.1 hj).1;simp at this;omega
        subst hj0;simp at hj;obtain ⟨rfl,rfl⟩:=hj;exact ⟨_,by rw [GN,if_pos m2.symm],v2,v3⟩)
      refine ⟨ρ,_,_,undef,rP ?_,.inr ⟨rfl,rfl⟩,VR.JD,s1,s2⟩;simp only [Uh,pB,qp pz w,pK,Gf,Lc,MI,qp hd w,q2,pT,LK]
     ·rw [pA] at q4;have ta:=(qO.1 q5).1;have YL:en[j]? = some e:=by simpa using q2
      obtain ⟨s1,s2⟩:=r.Zj (es':=zX k v es) (en':=en.modify j fun e=>{ e with key:=u2,val:=u3 }) (ck':=ck) hb hg (by rw [q9];simp [m2]) (fun j' k' v' hj=>by
       rw [q9,List.getElem?_set] at hj
       split at hj
       ·rename_i ej;subst ej;simp only [ta,if_true,qL,pZ] at hj;obtain ⟨rfl,rfl⟩:=hj;exact ⟨{ e with key:=u2,val:=u3 },by rw [DD,if_pos rfl,YL];rfl,v2,v3⟩
       ·rename_i ej;obtain ⟨e',a1,a2⟩:=m3 j' k' v' hj;exact ⟨e',by rw [DD,if_neg ej];exact a1,a2⟩)
      refine ⟨ρ,_,_,undef,rP ?_,.inr ⟨rfl,rfl⟩,VR.JD,s1,s2⟩;have ae1:(Instr.keyThatStays (((en[j]?).map (·.key)).getD u2) u2).run P w = .ok u2 w:=by
       simp only [YL,rN,BZ,Instr.keyThatStays];rw [if_pos (aje hk q7 v2 q8 q6 10000)];rfl
      simp only [Uh,pB,qp pz w,pK,Gf,Lc,MI,qp hd w,q4,pT,ae1,LK]
   ·cases hv
  ·cases hv
 ·cases hv
theorem ajI {o:Oper} {t:oI} {x:Option oY} {v:jD} {h':Hp} (ho:o.op = .makeMap t x) (r:Rel ρ h w) (hE:ss ρ env a) (hv:pJ P env h o.op=some (v,h')):pV P ρ h w a o v h':=by
 rw [ho] at hv;obtain ⟨s1,s2⟩:=r.ahi;have u7:(newObj (.map #[] 0)).run P w = .ok w.heap.size (w.alloc (.map #[] 0)):=rfl;cases x with
 | none =>
  simp only [pJ,qL,pZ] at hv;obtain ⟨rfl,rfl⟩:=hv;refine ⟨_,_,_,.map (some w.heap.size),?_,.inl rfl,VR.m (Fc _ _),s1,s2⟩;simp only [execOp,ho,PK,Option.map_none,pB,pT,pK,u7]
 | some x =>
  simp only [pJ] at hv;rw [oV] at hv;obtain ⟨p,hp,hv⟩:=hv
  split at hv
  ·rename_i kt vt k n pz;simp only [qL,pZ] at hv;obtain ⟨rfl,rfl⟩:=hv;have v1:=sW hE hp;generalize wL:a.eval x=u1 at v1;cases v1;refine ⟨_,_,_,.map (some w.heap.size),?_,.inl rfl,VR.m (Fc _ _),s1,s2⟩;simp only [execOp,ho,PK,rN,wL,asInt,asIntOf,pB,qp pz w,pT,pK,u7]
  ·cases hv
theorem QO:∀ {c:List jD} {us:List oT} {s:List UInt8},C5 c=some s→pj ρ c us → ∃ ns:List Int,us=ns.map (Uw .u8)∧s=ns.map fun n=>G5 n.toNat
 | [],us,s,hb,hr=>by
  have:us=[]:=tP hr.1.symm;subst this;simp [C5] at hb;subst hb;exact ⟨[],rfl,rfl⟩
 | c::cs,[],s,hb,hr=>by have:=hr.1;simp at this
 | c::cs,u::us,s,hb,hr=>by
  unfold C5 at hb
  split at hb
  ·cases ‹c::cs=[]›
  ·rename_i n r' e1;injection e1 with e1 e2;subst e1;subst e2;obtain ⟨l,h1,rfl⟩:=pU.1 hb;have h2:=hr.head;cases h2;obtain ⟨ns,rfl,rfl⟩:=QO h1 hr.tail;exact ⟨n::ns,rfl,rfl⟩
  ·cases hb
theorem W6 (g C1:Nat) (w:pf) (k:Nat) (hk:k≠g):(w.freeze ⟨g,C1,none⟩ 1).heap[k]? = w.heap[k]?:=by
 unfold PQ;rw [if_neg (by decide)];simp only [DD];rw [if_neg (fun e=>hk e.symm)]
theorem W5 {g lo hi:Nat} {C:Array oT} {e:oI} {w:pf} (hc:w.heap[g]? = some (.cells C e (lo,hi))):(w.freeze ⟨g,C.size,none⟩ 1).heap[g]? = some (.cells C e (if lo == hi then (C.size,C.size+1) else (min lo C.size,max hi (C.size+1)))):=by
 unfold PQ;rw [if_neg (by decide)];simp only [DD,if_true,hc,rN]
theorem W7 (g C1:Nat) (w:pf):(w.freeze ⟨g,C1,none⟩ 1).heap.size=w.heap.size:=by
 unfold PQ;rw [if_neg (by decide)];simp
theorem adp (g C1:Nat) (w:pf):(w.freeze ⟨g,C1,none⟩ 1).os=w.os∧(w.freeze ⟨g,C1,none⟩ 1).tape=w.tape∧(w.freeze ⟨g,C1,none⟩ 1).output=w.output∧(w.freeze ⟨g,C1,none⟩ 1).drawn=w.drawn:=by
 unfold PQ;rw [if_neg (by decide)];exact ⟨rfl,rfl,rfl,rfl⟩
theorem Rel.mark (r:Rel ρ h w) {b:Nat} {i:Info} (hb:ρ b=some i) (zM:own h b) (sS:∀ z c,h.get b=some (.cells z c)→z=1) (C:Array oT) (e:oI) (lo hi:Nat) (hc:w.heap[i.g]? = some (.cells C e (lo,hi))) :
  Rel ρ h (w.freeze ⟨i.g,C.size,none⟩ 1)∧Ext ρ h w ρ h (w.freeze ⟨i.g,C.size,none⟩ 1):=by
 obtain ⟨o1,o2,o3,o4⟩:=adp i.g C.size w;refine ⟨⟨fun b' i' e'=>by rw [W7];exact r.tq b' i' e',fun b' i' B' e' f=>?_,r.inj,r.wf⟩,Ren.le.refl _,px _,fun b' pP hl=>⟨pP,rfl⟩,by rw [W7];exact px _,fun g hg hn=>⟨W6 _ _ _ _ (fun e=>hn b i hb zM e.symm),hn⟩,o1,o2,o3,by rw [o4];exact px _⟩;have hB:=r.qS b' i' B' e' f
 by_cases hg:i'.g=i.g
 ·cases B' with
  | dead=>trivial
  | ro c =>
   obtain ⟨h4,h6⟩:=hB;have EU:=W5 hc;have rJ:∀ o,(w.freeze ⟨i.g,C.size,none⟩ 1).cell? ⟨i'.g,o,none⟩=w.cell? ⟨i'.g,o,none⟩:=fun o=>by
    simp only [zq,hg,EU,hc]
   exact ⟨h4,fun j u hj=>by rw [rJ];exact h6 j u hj⟩
  | map es =>
   obtain ⟨en,ck,h1,_⟩:=hB;rw [hg,hc] at h1;cases h1
  | cells z c =>
   obtain ⟨h1,h2,h3,h4,h5,h6⟩:=hB;have EU:=W5 hc;have rJ:∀ o,(w.freeze ⟨i.g,C.size,none⟩ 1).cell? ⟨i'.g,o,none⟩=w.cell? ⟨i'.g,o,none⟩:=fun o=>by
    simp only [zq,hg,EU,hc]
   have hN:∀ o,o < i'.N→o < C.size:=fun o ho=>by
    have:=(h5.1 o ho).1;simp only [zq,hg,hc] at this;simpa using this
   have Lj:=h5.2.1 C e (lo,hi) (by rw [hg];exact hc);refine ⟨h1,h2,h3,h4,⟨fun o ho=>⟨by rw [rJ];exact (h5.1 o ho).1,?_⟩,⟨fun c' e2 fz hf=>?_,fun o u hq=>by rw [rJ] at hq;exact h5.2.2.1 o u hq,fun wM=>absurd (sS z c (by rw [← r.inj b' b i' i e' hb ⟨_,f,by simp⟩ zM hg];exact f)) wM⟩⟩,fun j u hj=>by rw [rJ];exact h6 j u hj⟩
   ·have rK:=(h5.1 o ho).2;have hos:=hN o ho;simp only [Iu,hg,EU]
    by_cases XF:lo=hi
    ·simp [XF];omega
    ·have pv:lo < hi:=by simp only at Lj;omega
     have amb:¬ lo < i'.N:=fun hq=>by
      have:=(h5.1 lo hq).2;simp [Iu,hg,hc,pv] at this
     have:(lo == hi)=false:=by simpa using XF
     rw [this];simp;omega
   ·rw [hg,EU] at hf;obtain ⟨_,_,rfl⟩:=MM (oQ hf);simp only at Lj
    split
    ·simp
    ·simp only;omega
 ·exact hB.congr (Ren.le.refl _) (W6 _ _ _ _ hg)
theorem Z9 {e:oI} (hq:J2 P e=true):P.underlying e=some (.int .u8):=by
 unfold J2 at hq
 split at hq
 ·assumption
 ·cases hq
theorem ajw {o:Oper} {s d:oI} {x:oY} {p v:jD} {h':Hp} (ho:o.op = .convert s d x) (r:Rel ρ h w) (hE:ss ρ env a) (hx:pO env x=some p) (hv:wH P h s d p=some (v,h')):pV P ρ h w a o v h':=by
 have v1:=sW hE hx;generalize wL:a.eval x=u1 at v1;have rP:∀ {u:oT} {w':pf},(convert s d u1).run P w = .ok u w' → (execOp a.eval o).run P w = .ok (.value u) w':=fun h2=>by
  simp only [execOp,ho,wL,pB,pK,h2,pT]
 unfold wH at hv
 split at hv
 ·rename_i ds k k' n hs hd;simp only [qL,pZ] at hv;obtain ⟨rfl,rfl⟩:=hv;cases v1;refine pV.val r (rP (u:=.int k (k.wrap n)) ?_) (VR.i _ _);cases ds <;> simp [convert,qp hs,qp hd,Conv.intToInt]
 ·rename_i ds sx hs hd;simp only [qL,pZ] at hv;obtain ⟨rfl,rfl⟩:=hv;cases v1;refine pV.val r (rP (u:=uv sx) ?_) (VR.s _);cases ds <;> simp [convert,qp hs,qp hd,uv]
 ·rename_i e sx hs hd
  split at hv
  ·rename_i he
   split at hv
   ·cases hv
   ·rename_i pM;cases v1;have LD:=run_bytes_of_string (P:=P) w s d e ⟨sx.toArray⟩ hs hd he;have zO:(⟨sx.toArray⟩:ByteArray).size=sx.length:=by simp [Er]
    have zH:=MR w sx.length 0 e;unfold xa at hv
    split at hv
    ·rename_i h1;simp only [qL,pZ] at hv;obtain ⟨rfl,rfl⟩:=hv;rw [zO] at LD;have Av:(bytesRow ⟨sx.toArray⟩ (grownCap w sx.length 0 e)).toList=sx.map (fun c=>Uw .u8 c.toNat)++ph (grownCap w sx.length 0 e - sx.length) (.int .u8 0):=by
      simp [bytesRow,zO]
     have hlen:(bytesRow ⟨sx.toArray⟩ (grownCap w sx.length 0 e)).size=grownCap w sx.length 0 e:=by
      rw [← PA,Av];simp;omega
     obtain ⟨s1,s2⟩:=r.drew.SU (z:=1) (cs:=(bytesRow ⟨sx.toArray⟩ (grownCap w sx.length 0 e)).toList) (e:=e) (fz:=((bytesRow ⟨sx.toArray⟩ (grownCap w sx.length 0 e)).size,(bytesRow ⟨sx.toArray⟩ (grownCap w sx.length 0 e)).size+1)) (by simp) (by simp) (fun q=>absurd rfl q) h1 VX (by have q:=hlen;rw [← PA] at q;rw [q];simpa using zH) (by
      rw [Av,wz,G4 (by simp)];refine ⟨by simp,fun j u u' p q=>?_⟩;simp only [xh,pU] at p q;obtain ⟨b,p1,rfl⟩:=p;obtain ⟨b',q1,rfl⟩:=q;rw [p1] at q1;obtain rfl:=oQ q1;exact .i _ _)
     rw [BS] at s1 s2;refine ⟨_,_,_,_,rP LD,.inl rfl,?_,s1,(Ext.drew ρ h w).trans s2⟩;have:=VR.so (ρ:=ρ.put h.next ⟨w.heap.size,0,1,(sx.map fun c=>jD.i .u8 c.toNat).length,(bytesRow ⟨sx.toArray⟩ (grownCap w sx.length 0 e)).toList.length⟩) (b:=h.next) (o:=0) (len:=sx.length) (c:=grownCap w sx.length 0 e) (Fc _ _) zH (by simp;exact zH) (by simp [hlen]);simpa using this
    ·cases hv
  ·cases hv
 ·rename_i e1 e2 ad n c hs hd
  split at hv
  ·rename_i cc0 he1 Ht zJ;simp only [qL,pZ] at hv;obtain ⟨rfl,rfl⟩:=hv;have key:∀ (b off cc:Nat) (i':Info),ρ b=some i' → own h b→(∀ z c,h.get b=some (.cells z c)→z=1)→u1 = .slice (some ⟨i'.g,i'.base+off,none⟩) n cc→VR ρ (.sl (some ad) n c) u1→pV P ρ h w a o (.sl (some ad) n c) h:=fun b off cc i' hb zM sS e1 Sf=>by
    subst e1;have hc:∀ {w':pf},(markStringish ⟨i'.g,i'.base+off,none⟩).run P w = .ok () w' → (convert s d (.slice (some ⟨i'.g,i'.base+off,none⟩) n cc)).run P w = .ok (.slice (some ⟨i'.g,i'.base+off,none⟩) n cc) w':=fun hm=>by
     simp only [convert,pB,qp hs w,qp hd w,pK,qp Ht w,he1,hm,pT]
    cases hw:w.heap[i'.g]? with
    | none =>
     refine pV.val r (rP (hc ?_)) Sf;simp [markStringish,shape,GX,MQ,hw]
    | some ob =>
     cases ob with
     | cells C e fz =>
      obtain ⟨lo,hi⟩:=fz;obtain ⟨s1,s2⟩:=r.mark hb zM sS C e lo hi hw;refine ⟨ρ,_,_,_,rP (hc (w':=w.freeze ⟨i'.g,C.size,none⟩ 1) ?_),.inl rfl,Sf,s1,s2⟩;simp [markStringish,shape,GX,MQ,hw,freeze]
     | _ =>
      refine pV.val r (rP (hc ?_)) Sf;simp [markStringish,shape,GX,MQ,hw]
   have Oi:=v1;cases v1 with
   | sk hb hk=>exact key _ _ _ _ hb ⟨_,zJ,rfl⟩ (fun z c q=>by rw [zJ] at q;cases q;rfl) rfl Oi
   | so hb hk q1 q2=>exact key _ _ _ _ hb ⟨_,zJ,rfl⟩ (fun z c q=>by rw [zJ] at q;cases q;rfl) rfl Oi
  ·cases hv
 ·rename_i e1 n c hs hd
  split at hv
  case isFalse=>cases hv
  rename_i Sb;have he:=Z9 Sb;simp only [qL,pZ] at hv;obtain ⟨rfl,rfl⟩:=hv;obtain ⟨rfl,rfl,rfl⟩:=Ov v1;refine pV.val r (rP (u:=uv []) ?_) (VR.s _);rw [Uz w s d _ _ 0 0 hs he hd];rfl
 ·rename_i e1 hs hd
  split at hv
  case isFalse=>cases hv
  rename_i Sb;have he:=Z9 Sb;simp only [qL,pZ] at hv;obtain ⟨rfl,rfl⟩:=hv;cases v1;rename_i ad c;refine pV.val r (rP (u:=uv []) ?_) (VR.s _);rw [Uz w s d _ _ 0 c hs he hd,run_bytesToString w ad 0 c [] (by simp [loadCells,loadCellsFrom])];rfl
 ·rename_i e1 b off n c hs hd
  split at hv
  ·rename_i he;rw [oV] at hv;obtain ⟨cs,tu,hv⟩:=hv;obtain ⟨bs,Gc,hv⟩:=pU.1 hv;simp only [pZ] at hv;obtain ⟨rfl,rfl⟩:=hv;have key:∀ (cc:Nat) (i':Info),ρ b=some i' → u1 = .slice (some ⟨i'.g,i'.base+off,none⟩) n cc→pV P ρ h w a o (.s bs) h:=fun cc i' hb e1=>by
    subst e1;obtain ⟨us,f1,f2⟩:∃ us,pj ρ cs us∧(loadCells ⟨i'.g,i'.base+off,none⟩ n).run P w = .ok us.toArray w:=by
     split at tu
     ·rename_i h0;obtain rfl:=oQ tu;subst h0;exact ⟨[],pj.nil,by simp [loadCells,loadCellsFrom]⟩
     ·obtain ⟨_,us,g1,g2,g3⟩:=r.rd hb tu;exact ⟨us,g1,by rw [← g2];exact O1 g3⟩
    obtain ⟨ns,rfl,rfl⟩:=QO Gc f1;refine pV.val r (rP (u:=uv (ns.map fun n=>G5 n.toNat)) ?_) (VR.s _);rw [Uz w s d _ _ n cc hs he hd,run_bytesToString w _ n cc ns f2,foldl_push_bytes];simp [uv,ByteArray.empty,ByteArray.emptyWithCapacity];rfl
   cases v1 with
   | sk hb hk=>exact key _ _ hb rfl
   | so hb hk q1 q2=>exact key _ _ hb rfl
  ·cases hv
 ·cases hv
theorem Zv {o:Oper} {v:jD} {h':Hp} (r:Rel ρ h w) (hE:ss ρ env a) (hv:pJ P env h o.op=some (v,h')):pV P ρ h w a o v h':=by
 have rj:=hv;generalize ho:o.op=op at hv;cases op <;> simp only [pJ,reduceCtorEq] at hv
 case move x =>
  obtain ⟨u,h1,h2⟩:=pU.1 hv;simp only [pZ] at h2;obtain ⟨rfl,rfl⟩:=h2;exact Zu (.inl ho) r hE h1
 case assign x =>
  obtain ⟨u,h1,h2⟩:=pU.1 hv;simp only [pZ] at h2;obtain ⟨rfl,rfl⟩:=h2;exact Zu (.inr ho) r hE h1
 case pick c x y =>
  rw [oV] at hv;obtain ⟨p,hp,hv⟩:=hv
  split at hv
  ·obtain ⟨u,h1,h2⟩:=pU.1 hv;simp only [pZ] at h2;obtain ⟨rfl,rfl⟩:=h2;exact Zx (t:=true) ho r hE hp h1
  ·obtain ⟨u,h1,h2⟩:=pU.1 hv;simp only [pZ] at h2;obtain ⟨rfl,rfl⟩:=h2;exact Zx (t:=false) ho r hE hp h1
  ·cases hv
 case alloc e =>
  rw [oV] at hv;obtain ⟨z,hz,hv⟩:=hv;exact ajn ho r hz hv
 case box e x =>
  rw [oV] at hv;obtain ⟨z,hz,hv⟩:=hv;exact ajr ho r hE hz hv
 case build t ps =>
  rw [oV] at hv;obtain ⟨qs,hq,hv⟩:=hv;obtain ⟨u,h1,h2⟩:=pU.1 hv;simp only [pZ] at h2;obtain ⟨rfl,rfl⟩:=h2;exact ajs ho r hE hq h1
 case buildSlice t n ps =>
  rw [oV] at hv;obtain ⟨qs,hq,hv⟩:=hv;exact ajt ho r hE hq hv
 case load t x =>
  rw [oV] at hv;obtain ⟨p,hp,hv⟩:=hv;obtain ⟨u,h1,h2⟩:=pU.1 hv;simp only [pZ] at h2;obtain ⟨rfl,rfl⟩:=h2;exact ajF ho r hE hp h1
 case store t x y =>
  rw [oV] at hv;obtain ⟨p,hp,hv⟩:=hv;rw [oV] at hv;obtain ⟨q,hq,hv⟩:=hv;obtain ⟨u,h1,h2⟩:=pU.1 hv;simp only [pZ] at h2;obtain ⟨rfl,rfl⟩:=h2;exact ajO ho r hE hp hq h1
 case nilCheck x =>
  rw [oV] at hv;obtain ⟨p,hp,hv⟩:=hv
  split at hv
  ·cases hv
  ·cases hv
  ·cases hv
  ·rename_i n1 n2 n3;simp only [qL,pZ] at hv;obtain ⟨rfl,rfl⟩:=hv;exact ajM ho r hE hp n1 n2 n3
 case binOp op t x y t2 =>
  rw [oV] at hv;obtain ⟨p,hp,hv⟩:=hv;rw [oV] at hv;obtain ⟨q,hq,hv⟩:=hv;obtain ⟨u,h1,h2⟩:=pU.1 hv;simp only [pZ] at h2;obtain ⟨rfl,rfl⟩:=h2;exact ajq ho r hE hp hq h1
 case unOp op t x =>
  rw [oV] at hv;obtain ⟨p,hp,hv⟩:=hv;obtain ⟨u,h1,h2⟩:=pU.1 hv;simp only [pZ] at h2;obtain ⟨rfl,rfl⟩:=h2;exact ajS ho r hE hp h1
 case convert s d x =>
  rw [oV] at hv;obtain ⟨p,hp,hv⟩:=hv;exact ajw ho r hE hp hv
 case sliceToArrayPointer t x =>
  rw [oV] at hv;obtain ⟨p,hp,hv⟩:=hv
  split at hv
  ·split at hv
   ·split at hv
    ·rename_i hk;simp only [qL,pZ] at hv;obtain ⟨rfl,rfl⟩:=hv;exact ajR ho r hE hp (by assumption) hk
    ·cases hv
   ·cases hv
  ·cases hv
 case makeFunc f first xv =>
  cases f with
  | func f =>
   simp only at hv
   split at hv
   ·rename_i hf;obtain ⟨u,h1,h2⟩:=pU.1 hv;simp only [pZ] at h2;obtain ⟨rfl,rfl⟩:=h2;exact ajH ho r hE hf h1
   ·cases hv
  | _=>simp at hv
 case makeMap t x=>exact ajI ho r hE rj
 case makeSlice t x y =>
  rw [oV] at hv;obtain ⟨p,hp,hv⟩:=hv;rw [oV] at hv;obtain ⟨q,hq,hv⟩:=hv;exact ajJ ho r hE hp hq hv
 case slice t x lo hi mx =>
  rw [oV] at hv;obtain ⟨p,hp,hv⟩:=hv;rw [oV] at hv;obtain ⟨q1,R5,hv⟩:=hv;rw [oV] at hv;obtain ⟨q2,E3,hv⟩:=hv;rw [oV] at hv;obtain ⟨q3,R6,hv⟩:=hv;obtain ⟨u,h1,h2⟩:=pU.1 hv;simp only [pZ] at h2;obtain ⟨rfl,rfl⟩:=h2;exact ajN ho r hE hp R5 E3 R6 h1
 case fieldAddr s x f =>
  rw [oV] at hv;obtain ⟨p,hp,hv⟩:=hv
  split at hv
  ·rw [oV] at hv;obtain ⟨fd,hf,hv⟩:=hv;rw [oV] at hv;obtain ⟨n,hn,hv⟩:=hv
   split at hv
   ·rename_i h0;simp only [qL,pZ] at hv;obtain ⟨rfl,rfl⟩:=hv;exact ajA ho r hE hp hf hn h0
   ·cases hv
  ·cases hv
 case field s x f =>
  rw [oV] at hv;obtain ⟨p,hp,hv⟩:=hv
  split at hv
  ·rw [oV] at hv;obtain ⟨fd,hf,hv⟩:=hv;obtain ⟨u,h1,h2⟩:=pU.1 hv;simp only [pZ] at h2;obtain ⟨rfl,rfl⟩:=h2;exact ajz ho r hE hp hf h1
  ·cases hv
 case indexAddr t x y =>
  rw [oV] at hv;obtain ⟨p,hp,hv⟩:=hv;rw [oV] at hv;obtain ⟨q,hq,hv⟩:=hv;obtain ⟨u,h1,h2⟩:=pU.1 hv;simp only [pZ] at h2;obtain ⟨rfl,rfl⟩:=h2;exact ajD ho r hE hp hq h1
 case index t x y =>
  rw [oV] at hv;obtain ⟨p,hp,hv⟩:=hv;rw [oV] at hv;obtain ⟨q,hq,hv⟩:=hv;obtain ⟨u,h1,h2⟩:=pU.1 hv;simp only [pZ] at h2;obtain ⟨rfl,rfl⟩:=h2;exact ajC ho r hE hp hq h1
 case lookup t m k ok =>
  rw [oV] at hv;obtain ⟨p,hp,hv⟩:=hv;rw [oV] at hv;obtain ⟨q,hq,hv⟩:=hv;obtain ⟨u,h1,h2⟩:=pU.1 hv;simp only [pZ] at h2;obtain ⟨rfl,rfl⟩:=h2;exact ajG ho r hE hp hq h1
 case mapUpdate t m k x =>
  rw [oV] at hv;obtain ⟨p,hp,hv⟩:=hv;rw [oV] at hv;obtain ⟨q,hq,hv⟩:=hv;rw [oV] at hv;obtain ⟨s,hs,hv⟩:=hv;obtain ⟨u,h1,h2⟩:=pU.1 hv;simp only [pZ] at h2;obtain ⟨rfl,rfl⟩:=h2;exact ajK ho r hE hp hq hs h1
 case extract x i =>
  rw [oV] at hv;obtain ⟨p,hp,hv⟩:=hv
  split at hv
  ·obtain ⟨u,h1,h2⟩:=pU.1 hv;simp only [pZ] at h2;obtain ⟨rfl,rfl⟩:=h2;exact ajy ho r hE hp h1
  ·cases hv
 case call c =>
  obtain ⟨EJ,args,tm⟩:=c;cases EJ with
  | builtin b =>
   simp only at hv;rw [oV] at hv;obtain ⟨l,hl,hv⟩:=hv;unfold wD at hv
   split at hv
   ·exact ajp ho r hE hl hv
   ·exact ajx ho r hE hl hv
   ·exact ajv ho r hE hl hv
   ·obtain ⟨u,h1,h2⟩:=pU.1 hv;simp only [pZ] at h2;obtain ⟨rfl,rfl⟩:=h2;exact ajE ho r hE hl h1
   ·obtain ⟨u,h1,h2⟩:=pU.1 hv;simp only [pZ] at h2;obtain ⟨rfl,rfl⟩:=h2;exact aju ho r hE hl h1
   ·obtain ⟨u,h1,h2⟩:=pU.1 hv;simp only [pZ] at h2;obtain ⟨rfl,rfl⟩:=h2;exact Zt (mx:=true) ho r hE hl h1
   ·obtain ⟨u,h1,h2⟩:=pU.1 hv;simp only [pZ] at h2;obtain ⟨rfl,rfl⟩:=h2;exact Zt (mx:=false) ho r hE hl h1
   ·cases hv
  | _=>simp at hv
end
end Go.V
end
section
namespace Go.V
def Jd:Ex→Exit
 | .td=>.normal
 | .ext i=>.exit i
 | .ret=>.ret
def OW (R:oT→pf→Prop):Ending→pf→Prop
 | .returned v,w=>R v w
 | _,_=>False
def Qg (P:oZ) (f:tO) (args:Array oT) (w:pf) (R:oT→pf→Prop):Prop :=
 ((callFunc f args).run P w = .ok (.enter f args) w∧J8 P f args w (OW R)) ∨ ∃ v w',(callFunc f args).run P w = .ok (.value v) w' ∧ R v w'
def AO (P:oZ) (K:Tb):Prop:=∀ f args h M,K f args h M → ∀ ρ w tJ,Rel ρ h w→pj ρ args tJ→Qg P f tJ.toArray w fun v' w'=>∃ v h' ρ',M v h' ∧ VR ρ' v v' ∧ Rel ρ' h' w' ∧ Ext ρ h w ρ' h' w'
structure xn (Q:Out→Prop) (ρ:Ren) (h:Hp) (w:pf) (n:Nat) (e:Exit) (a':Act) (w':pf):Prop where
 ex:∃ e0 rF h' ρ',e=Jd e0∧Q (.code e0 rF h')∧Rel ρ' h' w' ∧ ss ρ' rF a' ∧ Ext ρ h w ρ' h' w'
 defers:a'.defers=[]
 size:a'.tmps.size=n
structure xp (ρ:Ren) (env:Env) (h:Hp) (n:Nat) (a:Act) (w:pf):Prop where
 rel:Rel ρ h w
 env:ss ρ env a
 defers:a.defers=[]
 size:a.tmps.size=n
theorem xp.put {ρ env h n a w} (s:xp ρ env h n a w) {d:Option Tmp} (hd:∀ x,d=some x→x < n) {v:jD} {u:oT} (hv:VR ρ v u):xp ρ (zV env d v) h n (a.put d u) w:=by
 cases d with
 | none=>exact s
 | some d =>
  have hd:=hd d rfl;refine ⟨s.rel,fun t x hx=>?_,s.defers,by simp [Es,s.size]⟩;simp only [zV,T.pD] at hx;simp only [Es,yQ,DE]
  split at hx
  ·rename_i e;subst e;obtain rfl:=oQ hx;rw [if_pos rfl,if_pos (by rw [s.size];exact hd)];exact hv
  ·rename_i e;rw [if_neg (fun q=>e q.symm)];have:=s.env t x hx
   rwa [yQ] at this
theorem xp.vf {ρ env h n a w ρ' h' w'} (s:xp ρ env h n a w) (r:Rel ρ' h' w') (e:Ext ρ h w ρ' h' w'):xp ρ' env h' n a w':=⟨r,s.env.mono e.le,s.defers,s.size⟩
theorem I9 {n:Nat} {A:List Oper} (h:zC n A=true) {i:Nat} (hi:i < A.length):∀ x,(oE A i).dst=some x→x < n:=by
 intro x hx;have hm:oE A i∈A:=by
  unfold oE;rw [ya,pF hi];exact qW hi
 have:=qB.1 h _ hm;rw [hx] at this;simpa using this
theorem Gy {A:List Oper} {i:Nat} (hi:i < A.length):A[i]? = some (oE A i):=by
 unfold oE;rw [ya,pF hi];rfl
theorem Ii {ρ env h n a w} {A:List Oper} {o:Oper} {t:Bool} (s:xp ρ env h n a w) (hd:zC n A=true) (hw:xZ A env o=some t):Region.wanted o (yielded A.toArray a.tmps)=t:=by
 unfold xZ at hw;unfold Region.wanted
 split at hw
 ·rename_i hg;rw [hg];exact oQ hw
 ·rename_i j want hg;rw [hg];simp only;cases hA:A[j]? with
  | none=>simp [hA] at hw
  | some oj =>
   cases y3:oj.dst with
   | none=>simp [hA,y3] at hw
   | some d =>
    simp only [hA,pG,y3] at hw;have hj:j < A.length:=(qO.1 hA).1;have pv:d < a.tmps.size:=by
     rw [s.size];refine I9 hd hj d ?_;rw [← y3];congr 1;have:=Gy hj;rw [hA] at this;exact (oQ this).symm
    have hy:∀ u,a.tmps.getD d undef=u→a.tmps[d]? = some u:=fun u hu=>by
     rw [yQ,T5 pv] at hu;rw [T5 pv];simpa using hu
    unfold yielded;simp only [Ev,hA,pG,y3]
    split at hw
    ·rename_i x hx;have hv:=s.env d _ hx;obtain rfl:=oQ hw;generalize hq:a.tmps.getD d undef=q at hv;cases hv;rw [hy _ hq];cases x <;> cases want <;> rfl
    ·rename_i hx;have hv:=s.env d _ hx;obtain rfl:=oQ hw;generalize hq:a.tmps.getD d undef=q at hv;cases hv;rw [hy _ hq];cases want <;> rfl
    ·cases hw
theorem YK (o:Oper) (a:Act) {r:Next} {u:oT} (h:r = .value u∨(r = .skip∧u=undef)) {P:oZ} {K:Act→pf→Prop} {Q:Exit→Act→pf→Prop} {w':pf} (hk:K (a.put o.dst u) w'):o.upon P a K Q (.ok r w'):=by
 rcases h with rfl | ⟨rfl,rfl⟩ <;> exact hk
section
variable {P:oZ} {K:Tb} {ρ:Ren} {h:Hp} {w:pf} {env:Env} {a:Act} {n:Nat}
theorem ajQ {o:Oper} {f:tO} {vs:List jD} (s:xp ρ env h n a w) (ht:zp env o.op=some (f,vs)):∃ tJ,pj ρ vs tJ∧(execOp a.eval o).run P w=(callFunc f tJ.toArray).run P w:=by
 unfold zp at ht
 split at ht
 ·rename_i x args tm ho;rw [oV] at ht;obtain ⟨p,hp,ht⟩:=ht;have hv:=sW s.env hp
  split at ht
  ·rename_i g xv;obtain ⟨l,hl,ht⟩:=pU.1 ht;simp only [pZ] at ht;obtain ⟨rfl,rfl⟩:=ht;have hr:=KT s.env hl;generalize hu:a.eval x=u at hv;cases hv with
   | f h1 h2 =>
    rename_i us;refine ⟨args.toList.map a.eval++us,hr.append ⟨h1,h2⟩,?_⟩;have e1:(args.toList.map a.eval++us).toArray=args.map a.eval++us.toArray:=by apply Be;simp
    rw [e1];simp only [execOp,ho,resolve,hu,Deferred.ofValue,pB,pT,pK,invoke]
    congr 3
    simp
  ·cases ht
 ·cases ht
theorem O2 {f:tO} {fn:Func} {c:Code} (hf:P.funcs[f]? = some fn) (hb:fn.body=some c) (hn:fn.name ≠ "runtime.NumGoroutine") (args:Array oT) (w:pf):(callFunc f args).run P w = .ok (.enter f args) w:=by
 unfold callFunc;simp only [pB,UA,pK,hf];rw [if_neg (by simpa using hn),if_neg (by simp [hb])];rfl
theorem aa6:∀ (vs:List jD) (i:Nat) (env:Env) (t:Nat) (v:jD),(Ha i vs env).get t=some v→(i≤t∧vs[t - i]? = some v)∨env.get t=some v:=by
 intro vs
 induction vs with
 | nil=>intro i env t v h;exact .inr h
 | cons u us ih =>
  intro i env t v h;rcases ih (i+1) (env.set i u) t v h with ⟨h1,h2⟩ | h1
  ·exact .inl ⟨by omega,by rw [show t - i=(t - (i+1))+1 by omega];simpa using h2⟩
  ·rw [T.pD] at h1
   split at h1
   ·rename_i e;subst e;exact .inl ⟨px _,by simpa using h1⟩
   ·exact .inr h1
theorem ac3 {args:List jD} {tJ:List oT} (r:Rel ρ h w) (hr:pj ρ args tJ) (hl:args.length≤n):xp ρ (Ha 0 args .lf) h n { tmps:=tJ.toArray++PB (n - tJ.toArray.size) undef,defers:=[] } w:=by
 have Oa:=hr.1;refine ⟨r,fun t v hv=>?_,rfl,by simp;omega⟩;rcases aa6 args 0 .lf t v hv with ⟨_,h1⟩ | h1
 ·obtain ⟨u,a1,a2⟩:=hr.at h1;have pv:=(qO.1 a1).1;simp only [DK] at a1 pv;rw [yQ,Array.getElem?_append_left (by simpa using pv)];simp [a1,a2]
 ·simp [T.get] at h1
theorem ai6 (s:xp ρ env h n a w) (f:GW→Sem oT) (Ge:∀ t,f (.tmp t)=pure (a.tmps.getD t undef)) (Jg:∀ x t,f (.cell x t)=(do loadVar t (← asAddr (a.tmps.getD x undef)))):∀ {rs:List GW} {vs:List jD},Ba P env h rs=some vs → ∃ us,pj ρ vs us∧(rs.mapM f).run P w = .ok us w:=by
 intro rs
 induction rs with
 | nil=>intro vs hv;simp [Ba] at hv;subst hv;exact ⟨[],pj.nil,by simp⟩
 | cons r rs ih =>
  intro vs hv;cases r with
  | tmp t =>
   simp only [Ba] at hv;rw [oV] at hv;obtain ⟨v,h1,hv⟩:=hv;obtain ⟨l,h2,rfl⟩:=pU.1 hv;obtain ⟨us,g1,g2⟩:=ih h2;exact ⟨_,g1.cons (s.env t v h1),by simp only [vY,Ge,pB,pT,pK,g2]⟩
  | cell x t =>
   simp only [Ba] at hv;rw [oV] at hv;obtain ⟨p,h1,hv⟩:=hv;rw [oV] at hv;obtain ⟨v,h3,hv⟩:=hv;obtain ⟨l,h2,rfl⟩:=pU.1 hv;obtain ⟨us,g1,g2⟩:=ih h2;have hp:=s.env x p h1;generalize hu:a.tmps.getD x undef=q at hp;cases hp with
   | p hb =>
    obtain ⟨u,e1,e2⟩:=Yi s.rel h3 hb;exact ⟨_,g1.cons e2,by simp only [vY,Jg,pB,pT,pK,hu,asAddr,e1,g2]⟩
   | _=>simp [yL] at h3
def JH:List oT→oT
 | [v]=>v
 | vs=>.tuple vs.toArray
theorem YB {vs:List jD} {us:List oT} (hr:pj ρ vs us):VR ρ (Du vs) (JH us):=by
 match vs,us,hr with
 | [v],[u],hr=>exact hr.head
 | [],[],hr=>exact VR.JD
 | _::_::_,_::_::_,hr=>exact VR.qR hr.1 hr.2
 | [],_::_,hr=>exact absurd hr.1 (by simp)
 | _::_,[],hr=>exact absurd hr.1 (by simp)
 | [_],_::_::_,hr=>exact absurd hr.1 (by simp)
 | _::_::_,[_],hr=>exact absurd hr.1 (by simp)
theorem ai5 {fn:Func} (s:xp ρ env h n a w) {vs:List jD} (hv:Ba P env h fn.results.toList=some vs):∃ us,pj ρ vs us∧(results fn a.tmps).run P w = .ok (JH us) w:=by
 have key:∀ f:GW→Sem oT,(∀ t,f (.tmp t)=pure (a.tmps.getD t undef))→(∀ x t,f (.cell x t)=(do loadVar t (← asAddr (a.tmps.getD x undef)))) →
   ∃ us,pj ρ vs us∧(do let vs ← fn.results.mapM f;pure (if h:vs.size=1 then vs[0] else .tuple vs):Sem oT).run P w = .ok (JH us) w:=fun f h1 h2=>by
  obtain ⟨us,g1,g2⟩:=ai6 s f h1 h2 hv;refine ⟨us,g1,?_⟩;rw [pB,← BS (xs:=fn.results),List.mapM_toArray,Sem.run_map,g2];simp only [pK,pT]
  match us with
  | []=>simp [JH]
  | [v]=>simp [JH]
  | v::u::r=>simp [JH]
 unfold results;exact key _ (fun t=>rfl) (fun x t=>rfl)
end
end Go.V
end
section
namespace Go.V
def Ae (A:List Oper) (j i:Nat):Prop:=∃ e∈(oE A j).after.toList,GV .any e=true∧e.on=i
def yh (A:List Oper) (j i:Nat):Prop:=((wC A []).getD j 0).testBit i=true
def bitsOf (o:Oper) (acc:List Nat):Nat:=o.after.toList.foldl (fun s e=>if GV .any e then s ||| 2 ^ e.on ||| acc.getD e.on 0 else s) 0
theorem abw (acc:List Nat) (i:Nat):∀ (l:List Edge) (s:Nat),(l.foldl (fun s e=>if GV .any e then s ||| 2 ^ e.on ||| acc.getD e.on 0 else s) s).testBit i=true→s.testBit i=true ∨ ∃ e∈l,GV .any e=true∧(e.on=i∨(acc.getD e.on 0).testBit i=true):=by
 intro l
 induction l with
 | nil=>intro s h;exact .inl h
 | cons e l ih =>
  intro s h;rcases ih _ h with h | ⟨e',he,hb⟩
  ·simp only at h
   split at h
   ·rename_i hb;rw [Nat.testBit_or,Nat.testBit_or,xK,xK,Nat.testBit_two_pow] at h;rcases h with (h | h) | h
    ·exact .inl h
    ·exact .inr ⟨e,by simp,hb,.inl (by simpa using h)⟩
    ·exact .inr ⟨e,by simp,hb,.inr h⟩
   ·exact .inl h
  ·exact .inr ⟨e',by simp [he],hb⟩
theorem aa4:∀ (A:List Oper) (acc:List Nat),(wC A acc).take acc.length=acc∧(wC A acc).length=acc.length+A.length ∧ ∀ k o,A[k]? = some o→(wC A acc).getD (acc.length+k) 0=bitsOf o ((wC A acc).take (acc.length+k)):=by
 intro A
 induction A with
 | nil=>intro acc;exact ⟨by simp [wC],by simp [wC],fun k o h=>by simp at h⟩
 | cons o A ih =>
  intro acc;obtain ⟨h1,h2,h3⟩:=ih (acc++[bitsOf o acc]);have e0:wC (o::A) acc=wC A (acc++[bitsOf o acc]):=rfl;rw [e0];have hlen:(acc++[bitsOf o acc]).length=acc.length+1:=by simp
  rw [hlen] at h1 h2 h3;have ht:(wC A (acc++[bitsOf o acc])).take acc.length=acc:=by
   have:=congrArg (List.take acc.length) h1;rw [List.take_take,Nat.min_eq_left (by omega),G4] at this
   ·exact this
   ·rfl
  refine ⟨ht,by simp at h2 ⊢;omega,fun k x hk=>?_⟩;cases k with
  | zero =>
   simp at hk;subst hk;rw [xM,ht];have:(wC A (acc++[bitsOf o acc]))[acc.length]? = some (bitsOf o acc):=by
    have h:=congrArg (·[acc.length]?) h1;simp only [tQ] at h;rw [if_pos (by omega)] at h;rw [h];simp
   rw [ya,this];rfl
  | succ k =>
   have:=h3 k x (by simpa using hk);rw [show acc.length+(k+1)=acc.length+1+k by omega];exact this
theorem aa3 {A:List Oper} {j i:Nat} (h:yh A j i):j < A.length ∧ ∃ k,Ae A j k∧(k=i∨(k < j∧yh A k i)):=by
 obtain ⟨_,h2,h3⟩:=aa4 A [];unfold yh at h;have hj:j < A.length:=by
  rcases M3 j A.length with q | q
  ·exact q
  ·rw [ya,zr (by rw [h2];simpa using q)] at h;simp at h
 refine ⟨hj,?_⟩;have h4:=h3 j _ (Gy hj);simp only [List.length_nil,pA] at h4;rw [h4] at h;rcases abw _ i _ 0 h with h | ⟨e,he,hb,h⟩
 ·simp at h
 ·refine ⟨e.on,⟨e,he,hb,rfl⟩,?_⟩;rcases h with h | h
  ·exact .inl h
  ·right
   rw [ya,tQ] at h
   split at h
   ·rename_i pv;exact ⟨pv,by unfold yh;rw [ya];exact h⟩
   ·simp at h
theorem EH {A:List Oper} {D:Nat→Prop} (hc:∀ j,D j → ∀ k,Ae A j k→D k):∀ (j i:Nat),(∀ k,Ae A j k→D k)→yh A j i→D i:=by
 intro j
 induction j using Nat.strongRecOn with
 | _ j ih =>
  intro i hr h;obtain ⟨_,k,h1,h2⟩:=aa3 h;rcases h2 with rfl | ⟨h2,h3⟩
  ·exact hr k h1
  ·exact ih k h2 i (fun k' h'=>hc k (hr k h1) k' h') h3
structure DL (A:List Oper) (n:Nat):Prop where
 dst:zC n A=true
 uniq:∀ i j d,i < A.length→j < A.length→i≠j→(oE A i).dst=some d→(oE A j).dst≠some d
 self:∀ i d,i < A.length→(oE A i).dst=some d→d ∉ looks A (oE A i)
 rw:∀ i j d,i < A.length→j < A.length→i≠j→(oE A i).dst=some d→d∈looks A (oE A j)→yh A j i∨yh A i j
structure At (P:oZ) (A:List Oper) (dn:List Nat) (i:Nat) (rest:List Nat):Prop where
 lt:i < A.length
 out:i ∉ dn
 amx:i ∉ rest
 Ho:∀ k,Ae A i k→k∈dn
 guard:∀ g w,(oE A i).guard=some (g,w)→g∈dn∧yh A i g
 sQ:qT P (oE A i).op = .sQ → ∀ r∈rest,yh A r i
theorem HZ {P:oZ} {A:List Oper} {dn:List Nat} {i:Nat} {rest:List Nat} (h:Gw P A (wC A []) dn (i::rest)=true):At P A dn i rest∧Gw P A (wC A []) (i::dn) rest=true ∧
  ∀ d,(oE A i).dst=some d→d ∉ looks A (oE A i) ∧ ∀ j,j∈rest∨j∈dn→(oE A j).dst≠some d∧(d∈looks A (oE A j)→yh A j i∨yh A i j):=by
 simp only [Gw,rk] at h;obtain ⟨⟨⟨⟨⟨⟨⟨h1,h2⟩,h3⟩,h4⟩,h5⟩,h6⟩,h7⟩,h8⟩:=h;refine ⟨⟨by simpa using h3,by simpa using h1,by simpa using h2,fun k ⟨e,he,hb,hk⟩=>?_,fun g w hg=>?_,fun hk r hr=>?_⟩,h8,fun d hd=>?_⟩
 ·have:=qB.1 h4 e he;rw [hb] at this;simp at this;rw [← hk];exact this
 ·rw [hg] at h5;simp only [rk] at h5;exact ⟨by simpa using h5.1,h5.2⟩
 ·simp only [hk,decide_true,uP,uB] at h6;exact qB.1 h6 r hr
 ·rw [hd] at h7;simp only [rk] at h7;refine ⟨by simpa using h7.1,fun j hj=>?_⟩;have:=qB.1 h7.2 j (by simpa using hj);simp only [rk,xK,AK] at this;refine ⟨by simpa using this.1,fun hl=>?_⟩;rcases this.2 with (h | h) | h
  ·simp at h;exact absurd hl h
  ·exact .inl h
  ·exact .inr h
theorem ahr {P:oZ} {A:List Oper}:∀ (L dn:List Nat),Gw P A (wC A []) dn L=true→(∀ i,i < A.length→i∈L∨i∈dn) → ∀ i,i∈L→i < A.length ∧ ∀ d,(oE A i).dst=some d→d ∉ looks A (oE A i) ∧ ∀ j,j < A.length→j≠i→(oE A j).dst≠some d∧(d∈looks A (oE A j)→yh A j i∨yh A i j):=by
 intro L
 induction L with
 | nil=>intro dn _ _ i hi;cases hi
 | cons x L ih =>
  intro dn h hc i hi;obtain ⟨h1,h2,h3⟩:=HZ h;rcases sg.1 hi with rfl | hi
  ·refine ⟨h1.lt,fun d hd=>⟨(h3 d hd).1,fun j hj pM=>(h3 d hd).2 j ?_⟩⟩;rcases hc j hj with q | q
   ·rcases sg.1 q with rfl | q
    ·exact absurd rfl pM
    ·exact .inl q
   ·exact .inr q
  ·exact ih (x::dn) h2 (fun j hj=>by
    rcases hc j hj with q | q
    ·rcases sg.1 q with rfl | q
     ·exact .inr (by simp)
     ·exact .inl q
    ·exact .inr (by simp [q])) i hi
theorem ahs {P:oZ} {A:List Oper} {L:List Nat} {n:Nat} (hd:zC n A=true) (h:Gx P A L=true):DL A n∧Gw P A (wC A []) [] L=true ∧ ∀ i,i < A.length→i∈L:=by
 unfold Gx at h;simp only [rk] at h;obtain ⟨h1,h2⟩:=h;have Hw:∀ i,i < A.length→i∈L:=fun i hi=>by
  have:=qB.1 h1 i (P7.2 hi);simpa using this
 have hg:=ahr L [] h2 (fun i hi=>.inl (Hw i hi));refine ⟨⟨hd,fun i j d hi hj pM y3=>?_,fun i d hi y3=>((hg i (Hw i hi)).2 d y3).1,fun i j d hi hj pM y3 hl=>?_⟩,h2,Hw⟩
 ·exact (((hg i (Hw i hi)).2 d y3).2 j hj (fun e=>pM e.symm)).1
 ·exact (((hg i (Hw i hi)).2 d y3).2 j hj (fun e=>pM e.symm)).2 hl
end Go.V
end
section
namespace Go.V
section
variable {P:oZ} {ρ:Ren} {h h':Hp} {w:pf} {env:Env} {a:Act}
theorem wP {α:Type} {x:Option α} {v:α} (hv:x.map (fun v=>(v,h))=some (v,h')):x=some v∧h' = h:=by
 obtain ⟨u,h1,h2⟩:=pU.1 hv;simp only [pZ] at h2;obtain ⟨rfl,rfl⟩:=h2;exact ⟨h1,rfl⟩
theorem acN {s d:oI} {p v:jD} (hk:EP P s d = .pure) (hv:wH P h s d p=some (v,h')):h' = h ∧ ∀ h2,wH P h2 s d p=some (v,h2):=by
 unfold EP at hk;unfold wH at hv
 split at hv
 ·rename_i ds k k' n hs hd;simp only [qL,pZ] at hv;obtain ⟨rfl,rfl⟩:=hv;exact ⟨rfl,fun h2=>by simp only [wH,hs,hd]⟩
 ·rename_i ds sx hs hd;simp only [qL,pZ] at hv;obtain ⟨rfl,rfl⟩:=hv;exact ⟨rfl,fun h2=>by simp only [wH,hs,hd]⟩
 ·rename_i hs hd;simp [hs,hd] at hk
 ·rename_i hs hd;simp [hs,hd] at hk
 ·rename_i hs hd;simp [hs,hd] at hk
 ·rename_i hs hd;simp [hs,hd] at hk
 ·rename_i hs hd;simp [hs,hd] at hk
 ·cases hv
theorem agX {ts:List oI} {x v:jD} (hk:Jy P ts = .pure) (hv:D4 P h ts x=some v) (h2:Hp):D4 P h2 ts x=some v:=by
 unfold D4 at hv ⊢;rw [oV] at hv ⊢;obtain ⟨t,ht,hv⟩:=hv;refine ⟨t,ht,?_⟩
 split at hv <;> first | (cases hv;done) | skip
 all_goals (try rename_i pz)
 all_goals first
  | (simp only [pz];exact hv)
  | skip
 all_goals (
  cases ts with
  | nil=>simp at ht
  | cons t0 ts =>
   simp at ht;subst ht;simp [Jy] at hk;simp_all)
theorem Sx {op:Op} {v:jD} (hk:qT P op = .pure) (hv:pJ P env h op=some (v,h')):h' = h ∧ ∀ h2,pJ P env h2 op=some (v,h2):=by
 cases op <;> simp only [pJ,reduceCtorEq] at hv <;> simp only [qT,reduceCtorEq] at hk
 case move x =>
  obtain ⟨hw,rfl⟩:=wP hv;exact ⟨rfl,fun h2=>by simp only [pJ,hw,rN]⟩
 case assign x =>
  obtain ⟨hw,rfl⟩:=wP hv;exact ⟨rfl,fun h2=>by simp only [pJ,hw,rN]⟩
 case pick c x y =>
  rw [oV] at hv;obtain ⟨p,hp,hv⟩:=hv
  split at hv
  ·obtain ⟨hw,rfl⟩:=wP hv;exact ⟨rfl,fun h2=>by simp only [pJ,hp,pG,hw,rN]⟩
  ·obtain ⟨hw,rfl⟩:=wP hv;exact ⟨rfl,fun h2=>by simp only [pJ,hp,pG,hw,rN]⟩
  ·cases hv
 case build t ps =>
  rw [oV] at hv;obtain ⟨q,hq,hv⟩:=hv;obtain ⟨hw,rfl⟩:=wP hv;exact ⟨rfl,fun h2=>by simp only [pJ,hq,pG,hw,rN]⟩
 case nilCheck x =>
  rw [oV] at hv;obtain ⟨p,hp,hv⟩:=hv
  split at hv
  ·cases hv
  ·cases hv
  ·cases hv
  ·rename_i n1 n2 n3;simp only [qL,pZ] at hv;obtain ⟨rfl,rfl⟩:=hv;refine ⟨rfl,fun h2=>?_⟩;simp only [pJ,hp,pG]
 case binOp op t x y t2 =>
  rw [oV] at hv;obtain ⟨p,hp,hv⟩:=hv;rw [oV] at hv;obtain ⟨q,hq,hv⟩:=hv;obtain ⟨hw,rfl⟩:=wP hv;exact ⟨rfl,fun h2=>by simp only [pJ,hp,hq,pG,hw,rN]⟩
 case unOp op t x =>
  rw [oV] at hv;obtain ⟨p,hp,hv⟩:=hv;obtain ⟨hw,rfl⟩:=wP hv;exact ⟨rfl,fun h2=>by simp only [pJ,hp,pG,hw,rN]⟩
 case convert s d x =>
  rw [oV] at hv;obtain ⟨p,hp,hv⟩:=hv;obtain ⟨rfl,hq⟩:=acN hk hv;exact ⟨rfl,fun h2=>by simp only [pJ,hp,pG,hq h2]⟩
 case sliceToArrayPointer t x =>
  rw [oV] at hv;obtain ⟨p,hp,hv⟩:=hv
  split at hv
  ·split at hv
   ·rename_i pz
    split at hv
    ·rename_i HA;simp only [qL,pZ] at hv;obtain ⟨rfl,rfl⟩:=hv;exact ⟨rfl,fun h2=>by simp only [pJ,hp,pG,pz,HA,if_true]⟩
    ·cases hv
   ·cases hv
  ·cases hv
 case makeFunc f first xv =>
  cases f with
  | func f =>
   simp only at hv
   split at hv
   ·rename_i hf;obtain ⟨l,h1,h2⟩:=pU.1 hv;simp only [pZ] at h2;obtain ⟨rfl,rfl⟩:=h2;exact ⟨rfl,fun h2=>by simp only [pJ,hf,if_true,h1,rN]⟩
   ·cases hv
  | _=>simp at hv
 case fieldAddr s x f =>
  rw [oV] at hv;obtain ⟨p,hp,hv⟩:=hv
  split at hv
  ·rw [oV] at hv;obtain ⟨fd,hf,hv⟩:=hv;rw [oV] at hv;obtain ⟨m,hm,hv⟩:=hv
   split at hv
   ·rename_i h0;simp only [qL,pZ] at hv;obtain ⟨rfl,rfl⟩:=hv;exact ⟨rfl,fun h2=>by simp only [pJ,hp,pG,hf,hm,h0,if_true]⟩
   ·cases hv
  ·cases hv
 case field s x f =>
  rw [oV] at hv;obtain ⟨p,hp,hv⟩:=hv
  split at hv
  ·rw [oV] at hv;obtain ⟨fd,hf,hv⟩:=hv;obtain ⟨hw,rfl⟩:=wP hv;exact ⟨rfl,fun h2=>by simp only [pJ,hp,pG,hf,hw,rN]⟩
  ·cases hv
 case indexAddr t x y =>
  rw [oV] at hv;obtain ⟨p,hp,hv⟩:=hv;rw [oV] at hv;obtain ⟨q,hq,hv⟩:=hv;obtain ⟨hw,rfl⟩:=wP hv;exact ⟨rfl,fun h2=>by simp only [pJ,hp,hq,pG,hw,rN]⟩
 case index t x y =>
  rw [oV] at hv;obtain ⟨p,hp,hv⟩:=hv;rw [oV] at hv;obtain ⟨q,hq,hv⟩:=hv;obtain ⟨hw,rfl⟩:=wP hv;exact ⟨rfl,fun h2=>by simp only [pJ,hp,hq,pG,hw,rN]⟩
 case extract x i =>
  rw [oV] at hv;obtain ⟨p,hp,hv⟩:=hv
  split at hv
  ·obtain ⟨hw,rfl⟩:=wP hv;exact ⟨rfl,fun h2=>by simp only [pJ,hp,pG,hw,rN]⟩
  ·cases hv
 case slice t x lo hi mx =>
  rw [oV] at hv;obtain ⟨p,hp,hv⟩:=hv;rw [oV] at hv;obtain ⟨q1,R5,hv⟩:=hv;rw [oV] at hv;obtain ⟨q2,E3,hv⟩:=hv;rw [oV] at hv;obtain ⟨q3,R6,hv⟩:=hv;obtain ⟨hl,rfl⟩:=wP hv;exact ⟨rfl,fun h2=>by simp only [pJ,hp,R5,E3,R6,pG,hl,rN]⟩
 case call c =>
  obtain ⟨EJ,args,tm⟩:=c;cases EJ with
  | builtin b =>
   simp only at hv;rw [oV] at hv;obtain ⟨l,hl,hv⟩:=hv;unfold wD at hv
   split at hv
   ·simp [qT] at hk
   ·simp [qT] at hk
   ·simp [qT] at hk
   ·obtain ⟨hw,rfl⟩:=wP hv;simp only [qT] at hk;exact ⟨rfl,fun h2=>by simp only [pJ,hl,pG,wD,agX hk hw h2,rN]⟩
   ·obtain ⟨hw,rfl⟩:=wP hv;exact ⟨rfl,fun h2=>by simp only [pJ,hl,pG,wD,hw,rN]⟩
   ·obtain ⟨hw,rfl⟩:=wP hv;exact ⟨rfl,fun h2=>by simp only [pJ,hl,pG,wD,hw,rN]⟩
   ·obtain ⟨hw,rfl⟩:=wP hv;exact ⟨rfl,fun h2=>by simp only [pJ,hl,pG,wD,hw,rN]⟩
   ·cases hv
  | _=>simp at hv
def Hp.wf (h:Hp):Prop:=∀ b,h.next≤b→h.get b=none
theorem NU (hw:h.wf) {b:Nat} {X B:sD} (hb:h.get b=some X):(h.new B).get b=some X:=by
 rw [Hp.rO,if_neg]
 ·exact hb
 ·intro e;rw [e,hw _ (px _)] at hb;cases hb
theorem Tg (hw:h.wf) {B:sD} {b o m:Nat} {c:List jD} (hr:rd h b o m=some c):rd (h.new B) b o m=some c:=by
 unfold rd at hr ⊢
 split at hr
 ·rename_i hg;rw [NU hw hg];exact hr
 ·rename_i hg;rw [NU hw hg];exact hr
 ·cases hr
theorem agW (hw:h.wf) {B:sD} {t:oI} {p v:jD} (hr:yL P h t p=some v):yL P (h.new B) t p=some v:=by
 unfold yL at hr ⊢
 split at hr
 ·rename_i b o;rw [oV] at hr ⊢;obtain ⟨g,hg,hr⟩:=hr;refine ⟨g,hg,?_⟩;cases g with
  | true =>
   simp only [cond_true] at hr ⊢;rw [oV] at hr ⊢;obtain ⟨m,hm,hr⟩:=hr;obtain ⟨c,h1,h2⟩:=pU.1 hr;exact ⟨m,hm,by rw [Tg hw h1];simpa using h2⟩
  | false =>
   simp only [cond_false] at hr ⊢;rw [oV] at hr ⊢;obtain ⟨c,h1,h2⟩:=hr;exact ⟨c,Tg hw h1,h2⟩
 ·cases hr
end
end Go.V
end
section
namespace Go.V
section
variable {P:oZ} {ρ:Ren} {h h':Hp} {w:pf} {env env2:Env} {a:Act}
theorem ag0 (hw:h.wf) {B:sD} {t:oI} {m k v:jD} {ok:Bool} (hr:Gr P h t m k ok=some v):Gr P (h.new B) t m k ok=some v:=by
 unfold Gr at hr ⊢
 split at hr
 ·rename_i kt vt pz
  split at hr
  ·rename_i hk;simp only [hk,if_true];rw [oV] at hr ⊢;obtain ⟨es,AZ,hr⟩:=hr;refine ⟨es,?_,hr⟩
   split at AZ
   ·exact AZ
   ·split at AZ
    ·rename_i hg;simp only [NU hw hg];exact AZ
    ·cases AZ
   ·cases AZ
  ·cases hr
 ·cases hr
theorem Sy {op:Op} {v:jD} (hk:qT P op = .read) (hv:pJ P env h op=some (v,h')):h' = h ∧ ∀ B,h.wf→pJ P env (h.new B) op=some (v,h.new B):=by
  cases op <;> simp only [pJ,reduceCtorEq] at hv <;> simp only [qT,reduceCtorEq] at hk
  case load t x =>
    rw [oV] at hv;obtain ⟨p,hp,hv⟩:=hv;obtain ⟨hl,rfl⟩:=wP hv;exact ⟨rfl,fun B hw=>by simp only [pJ,hp,pG,agW hw hl,rN]⟩
  case lookup t m k ok =>
    rw [oV] at hv;obtain ⟨p,hp,hv⟩:=hv;rw [oV] at hv;obtain ⟨q,hq,hv⟩:=hv;obtain ⟨hl,rfl⟩:=wP hv;exact ⟨rfl,fun B hw=>by simp only [pJ,hp,hq,pG,ag0 hw hl,rN]⟩
  case convert s d x =>
    rw [oV] at hv;obtain ⟨p,hp,hv⟩:=hv;have key:h' = h ∧ ∀ B,h.wf→wH P (h.new B) s d p=some (v,h.new B):=by
      unfold EP at hk;unfold wH at hv
      split at hv
      · rename_i ds k k' n hs hd
        simp only [qL,pZ] at hv;obtain ⟨rfl,rfl⟩:=hv;exact ⟨rfl,fun B hw=>by simp only [wH,hs,hd]⟩
      · rename_i ds sx hs hd
        simp only [qL,pZ] at hv;obtain ⟨rfl,rfl⟩:=hv;exact ⟨rfl,fun B hw=>by simp only [wH,hs,hd]⟩
      · rename_i hs hd;simp [hs,hd] at hk
      · rename_i hs hd;simp [hs,hd] at hk
      · rename_i hs hd
        split at hv
        · rename_i hu
          simp only [qL,pZ] at hv;obtain ⟨rfl,rfl⟩:=hv;exact ⟨rfl,fun B hw=>by simp only [wH,hs,hd,hu,if_true]⟩
        · cases hv
      · rename_i hs hd
        split at hv
        · rename_i hu
          simp only [qL,pZ] at hv;obtain ⟨rfl,rfl⟩:=hv;exact ⟨rfl,fun B hw=>by simp only [wH,hs,hd,hu,if_true]⟩
        · cases hv
      · rename_i e b o n c hs hd
        split at hv
        · rename_i he
          rw [oV] at hv;obtain ⟨cs,tu,hv⟩:=hv;obtain ⟨hb,rfl⟩:=wP (v:=v) (by
            obtain ⟨u,h1,h2⟩:=pU.1 hv;show ((C5 cs).map jD.s).map (fun v=>(v,h))=some (v,h');rw [h1];simpa using h2)
          refine ⟨rfl,fun B hw=>?_⟩;simp only [wH,hs,hd,he];rw [oV];refine ⟨cs,?_,?_⟩
          · split at tu
            · rename_i h0;rw [if_pos h0];exact tu
            · rename_i h0;rw [if_neg h0];exact Tg hw tu
          · obtain ⟨u,h1,rfl⟩:=pU.1 hb
            rw [h1];rfl
        · cases hv
      · cases hv
    exact ⟨key.1,fun B hw=>by simp only [pJ,hp,pG,key.2 B hw]⟩
  case call c =>
    obtain ⟨EJ,args,tm⟩:=c;cases EJ with
    | builtin b =>
      simp only at hv;rw [oV] at hv;obtain ⟨l,hl,hv⟩:=hv;unfold wD at hv
      split at hv
      · simp [qT] at hk
      · simp [qT] at hk
      · simp [qT] at hk
      · obtain ⟨hq,rfl⟩:=wP hv
        rename_i x;refine ⟨rfl,fun B hw=>?_⟩;have:D4 P (h'.new B) tm.toList x=some v:=by
          unfold D4 at hq ⊢;rw [oV] at hq ⊢;obtain ⟨t,ht,hq⟩:=hq;refine ⟨t,ht,?_⟩
          split at hq <;> first | (cases hq;done) | skip
          all_goals first
            | (simp_all;done)
            | (split at hq
               · rename_i hg
                 have vv:=NU (B:=B) hw hg;simp_all
               · cases hq)
            | (split at hq
               · simp_all
               · cases hq)
        simp only [pJ,hl,pG,wD,this,rN]
      · obtain ⟨hq,rfl⟩:=wP hv
        exact ⟨rfl,fun B hw=>by simp only [pJ,hl,pG,wD,hq,rN]⟩
      · obtain ⟨hq,rfl⟩:=wP hv
        exact ⟨rfl,fun B hw=>by simp only [pJ,hl,pG,wD,hq,rN]⟩
      · obtain ⟨hq,rfl⟩:=wP hv
        exact ⟨rfl,fun B hw=>by simp only [pJ,hl,pG,wD,hq,rN]⟩
      · cases hv
    | _=>simp at hv
def tmpsOf (op:Op):List Tmp:=op.operands.toList.filterMap fun | .tmp t=>some t | _=>none
theorem KU {x:oY} (he:∀ t,x = .tmp t→env.get t=env2.get t):pO env x=pO env2 x:=by
 cases x with
 | tmp t=>exact he t rfl
 | _=>rfl
theorem WL {l:List oY} (he:∀ t,Operand.tmp t∈l→env.get t=env2.get t):vH env l=vH env2 l:=by
 unfold vH
 induction l with
 | nil=>rfl
 | cons x l ih =>
  rw [vY,vY,KU (env2:=env2) fun t e=>he t (by simp [e]),ih fun t ht=>he t (by simp [ht])]
theorem ac4 {l:List (Nat × oY)} (he:∀ t,Operand.tmp t∈l.map (·.2)→env.get t=env2.get t):zF env l=zF env2 l:=by
 unfold zF
 induction l with
 | nil=>rfl
 | cons x l ih =>
  rw [vY,vY,KU (env2:=env2) fun t e=>he t (by simp [e]),ih fun t ht=>he t (by simp at ht ⊢;exact .inr ht)]
theorem ac5 {x:Option oY} (he:∀ t,x=some (.tmp t)→env.get t=env2.get t):Ah env x=Ah env2 x:=by
 cases x with
 | none=>rfl
 | some x=>simp only [Ah];rw [KU (env2:=env2) fun t e=>he t (by rw [e])]
theorem L1 {op:Op} {t:Tmp} (h:Operand.tmp t∈op.operands.toList):t∈tmpsOf op:=by
 unfold tmpsOf;rw [List.mem_filterMap];exact ⟨_,h,rfl⟩
theorem ahu {op:Op} (he:∀ t,t∈tmpsOf op→env.get t=env2.get t):pJ P env h op=pJ P env2 h op:=by
 have h1:∀ x:oY,x∈op.operands.toList→pO env x=pO env2 x:=fun x hx=>KU fun t e=>he t (L1 (by rw [← e];exact hx));have h2:∀ l:List oY,(∀ x∈l,x∈op.operands.toList)→vH env l=vH env2 l:=fun l hl=>WL fun t ht=>he t (L1 (hl _ ht));have h3:∀ l:List (Nat × oY),(∀ x∈l.map (·.2),x∈op.operands.toList)→zF env l=zF env2 l:=fun l hl=>ac4 fun t ht=>he t (L1 (hl _ ht));have h4:∀ x:Option oY,(∀ y,x=some y→y∈op.operands.toList)→Ah env x=Ah env2 x:=fun x hx=>ac5 fun t e=>he t (L1 (hx _ e));cases op
 case move x=>simp only [pJ];rw [h1 x (by simp [th])]
 case assign x=>simp only [pJ];rw [h1 x (by simp [th])]
 case pick c x y=>simp only [pJ];rw [h1 c (by simp [th]),h1 x (by simp [th]),h1 y (by simp [th])]
 case box e x=>simp only [pJ];rw [h1 x (by simp [th])]
 case build t ps=>simp only [pJ];rw [h3 ps.toList (fun x hx=>by simpa [th] using hx)]
 case buildSlice t n ps=>simp only [pJ];rw [h3 ps.toList (fun x hx=>by simpa [th] using hx)]
 case load t x=>simp only [pJ];rw [h1 x (by simp [th])]
 case store t x y=>simp only [pJ];rw [h1 x (by simp [th]),h1 y (by simp [th])]
 case nilCheck x=>simp only [pJ];rw [h1 x (by simp [th])]
 case binOp o t x y t2=>simp only [pJ];rw [h1 x (by simp [th]),h1 y (by simp [th])]
 case unOp o t x=>simp only [pJ];rw [h1 x (by simp [th])]
 case convert s d x=>simp only [pJ];rw [h1 x (by simp [th])]
 case sliceToArrayPointer t x=>simp only [pJ];rw [h1 x (by simp [th])]
 case makeFunc f first xv =>
  cases f with
  | func f=>simp only [pJ];rw [h2 xv.toList (fun x hx=>by simp [th];exact .inr (by simpa using hx))]
  | _=>rfl
 case makeMap t r =>
  cases r with
  | none=>rfl
  | some x=>simp only [pJ];rw [h1 x (by simp [th])]
 case makeSlice t x y=>simp only [pJ];rw [h1 x (by simp [th]),h1 y (by simp [th])]
 case slice t x lo hi mx =>
  simp only [pJ];rw [h1 x (by simp [th]),h4 lo (fun y e=>by simp [th,e]),h4 hi (fun y e=>by simp [th,e]),h4 mx (fun y e=>by simp [th,e])]
 case fieldAddr s x f=>simp only [pJ];rw [h1 x (by simp [th])]
 case field s x f=>simp only [pJ];rw [h1 x (by simp [th])]
 case indexAddr t x y=>simp only [pJ];rw [h1 x (by simp [th]),h1 y (by simp [th])]
 case index t x y=>simp only [pJ];rw [h1 x (by simp [th]),h1 y (by simp [th])]
 case lookup t x y ok=>simp only [pJ];rw [h1 x (by simp [th]),h1 y (by simp [th])]
 case mapUpdate t x y z=>simp only [pJ];rw [h1 x (by simp [th]),h1 y (by simp [th]),h1 z (by simp [th])]
 case extract x i=>simp only [pJ];rw [h1 x (by simp [th])]
 case call c =>
  obtain ⟨EJ,args,tm⟩:=c;cases EJ with
  | builtin b=>simp only [pJ];rw [h2 args.toList (fun x hx=>by simp [th,PH];simpa using hx)]
  | _=>rfl
 all_goals rfl
def zg (E:Env):List Tmp→Env
 | []=>.lf
 | t::r=>match E.get t with
  | some v=>(zg E r).set t v
  | none=>zg E r
theorem OV (E:Env) (l:List Tmp) (t:Tmp):(zg E l).get t=if t∈l then E.get t else none:=by
 induction l with
 | nil=>simp [zg,T.get]
 | cons x l ih =>
  unfold zg;cases hx:E.get x with
  | none =>
   simp only;rw [ih]
   by_cases h1:t=x
   ·subst h1;simp [hx]
   ·simp [h1]
  | some v =>
   simp only [T.pD]
   by_cases h1:t=x
   ·subst h1;simp [hx]
   ·rw [if_neg h1,ih];simp [h1]
end
end Go.V
end
section
namespace Go.V
section
variable {P:oZ} {ρ:Ren} {h h':Hp} {w:pf} {env:Env} {a:Act}
structure CZ (w w':pf):Prop where
 size:w'.heap.size=w.heap.size+1
 old:∀ g,g < w.heap.size→w'.heap[g]? = w.heap[g]?
 os:w'.os=w.os
 tape:w'.tape=w.tape
 output:w'.output=w.output
 drawn:w.drawn≤w'.drawn
theorem CZ.alloc (w:pf) (o:Obj):CZ w (w.alloc o):=⟨by simp,fun g hg=>by
 show (w.heap.push _)[g]? = _;rw [GN,if_neg (U3 hg)],rfl,rfl,rfl,px _⟩
theorem CZ.drew (w:pf) (o:Obj):CZ w (w.drew.alloc o):=by
 have:=CZ.alloc w.drew o;exact ⟨this.size,this.old,this.os,this.tape,this.output,AN _⟩
def FF (P:oZ) (ρ:Ren) (w:pf) (a:Act) (o:Oper) (uA:Nat→jD) (B:sD):Prop :=
 ∃ w' u i,(execOp a.eval o).run P w = .ok (.value u) w' ∧ CZ w w' ∧ i.g=w.heap.size∧(∀ σ b,σ b=some i→VR σ (uA b) u) ∧ ∀ σ,ρ.le σ→G6 σ i w' B
theorem Wl {z:Nat} {c:List jD} {cs:List oT} {e:oI} {fz:Nat × Nat} (hf:fz.1 < fz.2→cs.length≤fz.1) (hz:fz.1≤fz.2) (Sj:z≠1→fz.2≤fz.1) (h1:c.all jD.one=true) (E1:∀ u∈cs,u.oneCell' = true) (hlen:c.length≤cs.length) (hv:pj ρ c (cs.take c.length)) {w2:pf} (u7:w2.heap[w.heap.size]? = some (.cells cs.toArray e fz)) :
  G6 ρ ⟨w.heap.size,0,z,c.length,cs.length⟩ w2 (.cells z c):=by
 refine ⟨rfl,rfl,by simpa using hlen,h1,⟨fun o ho=>⟨?_,?_⟩,⟨fun c' e' Ro Dg=>by rw [u7] at Dg;obtain ⟨_,_,rfl⟩:=(MM (oQ Dg));exact hz,fun o u q=>by simp only [zq,u7] at q;exact E1 u (vC (by simpa using q)),fun sS c' e' Ro Dg=>by rw [u7] at Dg;obtain ⟨_,_,rfl⟩:=(MM (oQ Dg));exact Sj sS⟩⟩,fun j u hj=>?_⟩
 ·simp only [zq,u7];simp;exact ho
 ·simp only [Iu,u7];simp;intro a;rcases M3 fz.1 fz.2 with q | q
  ·have:=hf q;simp at ho;omega
  ·omega
 ·have ta:=(qO.1 hj).1;obtain ⟨u',a,q⟩:=hv.at hj;refine ⟨u',?_,q⟩;simp only [zq,u7];rw [tQ,if_pos ta] at a;simpa using a
theorem Qz (w:pf) (o:Obj):(w.alloc o).heap[w.heap.size]? = some o:=by
 show (w.heap.push _)[w.heap.size]? = _;rw [GN,if_pos rfl]
theorem FF.row {o:Oper} {z:Nat} {c:List jD} {us:List oT} {e:oI} {u:oT} {uA:Nat→jD} (h1:c.all jD.one=true) (hv:pj ρ c us) (hr:(execOp a.eval o).run P w = .ok (.value u) (w.alloc (.cells us.toArray e)))
  (hu:∀ σ b,σ b=some ⟨w.heap.size,0,z,c.length,us.length⟩→VR σ (uA b) u):FF P ρ w a o uA (.cells z c) :=
 ⟨_,u,⟨w.heap.size,0,z,c.length,us.length⟩,hr,CZ.alloc _ _,rfl,hu,fun σ hl=>Wl (fz:=(0,0)) (by simp) (by simp) (fun _=>px _) h1 (hv.one h1) (by rw [hv.1];exact px _) (by rw [hv.1,uf];exact hv.mono hl) (Qz _ _)⟩
structure FE (P:oZ) (env:Env) (h:Hp) (o:Oper) (v:jD) (h':Hp) (uA:Nat→jD) (B:sD):Prop where
 dead:B ≠ .dead
 val:v=uA h.next
 heap:h' = h.new B
 ptr:∀ σ b u,VR σ (uA b) u→σ b≠none
 run:∀ ρ w a,ss ρ env a→FF P ρ w a o uA B
theorem aaX {o:Oper} {e:oI} {z v:jD} (ho:o.op = .alloc e) (hz:zeroV P e=some z) (hv:AR h z.cells.length z.cells=some (v,h')):FE P env h o v h' (fun b=>.p (some (b,0))) (.cells z.cells.length z.cells):=by
 unfold AR at hv
 split at hv
 ·rename_i h1;simp only [qL,pZ] at hv;obtain ⟨rfl,rfl⟩:=hv;refine ⟨by simp,rfl,rfl,fun σ b u hu=>by cases hu;simp_all,fun ρ w a hE=>?_⟩;obtain ⟨i,u,h2,h3,h4⟩:=CO hz;have hr:=(Cq (ρ:=ρ) h4).cells;refine FF.row (e:=e) (u:=.pointer (some ⟨w.heap.size,0,none⟩)) h1 hr ?_ (fun σ b hb=>VR.p hb);simp only [execOp,ho,Instr.alloc,pB,Ej h2 h3 w,pK,newVar,CF,pT,BS]
 ·cases hv
theorem aaY {o:Oper} {e:oI} {x:oY} {z v:jD} (ho:o.op = .box e x) (hz:pO env x=some z) (hv:AR h z.cells.length z.cells=some (v,h')):FE P env h o v h' (fun b=>.p (some (b,0))) (.cells z.cells.length z.cells):=by
 unfold AR at hv
 split at hv
 ·rename_i h1;simp only [qL,pZ] at hv;obtain ⟨rfl,rfl⟩:=hv;refine ⟨by simp,rfl,rfl,fun σ b u hu=>by cases hu;simp_all,fun ρ w a hE=>?_⟩;have hr:=(sW hE hz).cells;refine FF.row (e:=e) (u:=.pointer (some ⟨w.heap.size,0,none⟩)) h1 hr ?_ (fun σ b hb=>VR.p hb);simp only [execOp,ho,Instr.box,pB,pK,newVar,CF,pT,BS]
 ·cases hv
theorem aa2 {o:Oper} {t:oI} {x:Option oY} {v:jD} (ho:o.op = .makeMap t x) (hv:pJ P env h o.op=some (v,h')):FE P env h o v h' (fun b=>.m (some b)) (.map []):=by
 rw [ho] at hv;have u7:∀ w:pf,(newObj (.map #[] 0)).run P w = .ok w.heap.size (w.alloc (.map #[] 0)):=fun w=>rfl;have Dh:∀ (ρ:Ren) (w:pf) (a:Act),(execOp a.eval o).run P w = .ok (.value (.map (some w.heap.size))) (w.alloc (.map #[] 0))→FF P ρ w a o (fun b=>.m (some b)) (.map []):=fun ρ w a hr =>
  ⟨_,_,⟨w.heap.size,0,0,0,0⟩,hr,CZ.alloc _ _,rfl,fun σ b hb=>VR.m hb,fun σ _=>⟨#[],0,Qz _ _,rfl,fun j k v hj=>by simp at hj⟩⟩
 cases x with
 | none =>
  simp only [pJ,qL,pZ] at hv;obtain ⟨rfl,rfl⟩:=hv;refine ⟨by simp,rfl,rfl,fun σ b u hu=>by cases hu;simp_all,fun ρ w a hE=>Dh ρ w a ?_⟩;simp only [execOp,ho,PK,Option.map_none,pB,pT,pK,u7]
 | some x =>
  simp only [pJ] at hv;rw [oV] at hv;obtain ⟨p,hp,hv⟩:=hv
  split at hv
  ·rename_i kt vt k n pz;simp only [qL,pZ] at hv;obtain ⟨rfl,rfl⟩:=hv;refine ⟨by simp,rfl,rfl,fun σ b u hu=>by cases hu;simp_all,fun ρ w a hE=>Dh ρ w a ?_⟩;have v1:=sW hE hp;generalize wL:a.eval x=u1 at v1;cases v1;simp only [execOp,ho,PK,rN,wL,asInt,asIntOf,pB,qp pz w,pT,pK,u7]
  ·cases hv
theorem aaZ {o:Oper} {t:oI} {n:Nat} {ps:Array (Nat × oY)} {qs:List (Nat × jD)} {v:jD} (ho:o.op = .buildSlice t n ps) (hp:zF env ps.toList=some qs) (hv:FQ P h t n qs=some (v,h')) :
  ∃ uA B,FE P env h o v h' uA B:=by
 unfold FQ at hv
 split at hv
 ·rename_i e pz;rw [oV] at hv;obtain ⟨z,hs,hv⟩:=hv;rw [oV] at hv;obtain ⟨zv,hz,hv⟩:=hv
  split at hv
  ·rename_i hc;obtain ⟨c1,c2,c3⟩:=hc;rw [oV] at hv;obtain ⟨cs,hf,hv⟩:=hv;unfold xa at hv
   split at hv
   case isFalse=>cases hv
   rename_i wY;simp only [qL,pZ] at hv;obtain ⟨rfl,rfl⟩:=hv;refine ⟨fun b=>.sl (some (b,0)) n (.k n),.cells z cs,by simp,rfl,rfl,fun σ b u hu=>by cases hu;simp_all,fun ρ w a hE=>?_⟩;obtain ⟨g1,g2⟩:=Q8 hE hp;obtain ⟨i,zu,i1,i2,i3⟩:=CO hz;have xH:=(Cq (ρ:=ρ) i3).cells;have tV:zu.cells.size=z:=by have:=xH.1;simp at this;omega
   have wM:=J6 xH (by omega) n;rw [tV] at wM;obtain ⟨us,e1,e2⟩:=Ms hf wM g1 g2;refine FF.row (e:=e) (u:=.slice (some ⟨w.heap.size,0,none⟩) n n) wY e2 ?_ (fun σ b hb=>VR.sk hb (px _));have Gj:(ps.map fun (i,x)=>(i,a.eval x)).toList=ps.toList.map fun (i,x)=>(i,a.eval x):=by simp
   have e3:∀ zero:Array oT,(n*z≠0→zero=zu.cells)→J9 (fun i=>some (i*z,z)) ((Fq (n*z)).map fun x=>zero[x % zero.size]!) (ps.toList.map fun (i,x)=>(i,a.eval x))=some us.toArray:=fun zero h0=>by
    rw [← e1]
    congr 1
    by_cases hn:n*z=0
    ·rw [hn];apply Be;simp
    ·rw [h0 hn,tV,BS]
   simp only [execOp,ho,Instr.buildSlice,pB,qp pz w,pK,wo hs w];rw [if_neg (by omega)]
   by_cases h0:n*z=0
   ·rw [if_pos h0];simp only [pB,pT,pK,Gj,e3 #[] (fun q=>absurd h0 q),CF]
   ·rw [if_neg h0];simp only [pB,pT,pK,Gj,Ej i1 i2 w,e3 zu.cells (fun _=>rfl),CF]
  ·cases hv
 ·cases hv
theorem aa1 {o:Oper} {t:oI} {x y:oY} {p q v:jD} (ho:o.op = .makeSlice t x y) (hx:pO env x=some p) (hy:pO env y=some q) (hv:HW P h t p q=some (v,h')):∃ uA B,FE P env h o v h' uA B:=by
 unfold HW at hv
 split at hv
 ·rename_i e pz;rw [oV] at hv;obtain ⟨z,hs,hv⟩:=hv;rw [oV] at hv;obtain ⟨zv,hz,hv⟩:=hv;rw [oV] at hv;obtain ⟨l,hl,hv⟩:=hv;rw [oV] at hv;obtain ⟨c,hc,hv⟩:=hv;rw [oV] at hv;obtain ⟨inf,hi,hv⟩:=hv;obtain ⟨k1,rfl,l1⟩:=L2 hl;obtain ⟨k2,rfl,l2⟩:=L2 hc
  split at hv
  ·rename_i Ak;obtain ⟨c1,c2,c3,c4⟩:=Ak;unfold xa at hv
   split at hv
   case isFalse=>cases hv
   rename_i wY;simp only [qL,pZ] at hv;obtain ⟨rfl,rfl⟩:=hv;refine ⟨fun b=>.sl (some (b,0)) l (.k c),.cells z (sZ zv.cells c),by simp,rfl,rfl,fun σ b u hu=>by cases hu;simp_all,fun ρ w a hE=>?_⟩;have v1:=sW hE hx;have v2:=sW hE hy;generalize wL:a.eval x=u1 at v1;generalize yJ:a.eval y=u2 at v2;cases v1;cases v2;obtain ⟨i,zu,i1,i2,i3⟩:=CO hz;have Lm:i=inf:=by rw [i1] at hi;exact oQ hi
   subst Lm;have xH:=(Cq (ρ:=ρ) i3).cells;have tV:zu.cells.size=z:=by have:=xH.1;simp at this;omega
   have wM:=J6 xH (by omega) c;rw [tV] at wM;refine FF.row (e:=e) (u:=.slice (some ⟨w.heap.size,0,none⟩) l c) wY wM ?_ (fun σ b hb=>VR.sk hb c1);have sR:∀ b,(askRoom b).run P w = .ok () w:=fun b=>by
    unfold askRoom;split <;> rfl
   have t1:¬ (((c:Int) < 0||(i.bytes:Int)*c > 2 ^ 48)||(l:Int) < 0||(l:Int) > c)=true:=by
    have:((i.bytes:Int)*c)=((i.bytes*c:Nat):Int):=by simp
    simp only [xK,decide_eq_true_eq,this];omega
   simp only [execOp,ho,wL,yJ,Instr.makeSlice,asInt,asIntOf,pB,qp pz w,pK,pT,typeInfo,UA,hi,GL l1,GL l2];rw [if_neg t1];have e3:∀ zero:Array oT,(c*z≠0→zero=zu.cells)→((Fq (c*z)).map fun x=>zero[x % zero.size]!)=(((Fq (c*z)).map fun i=>zu.cells[i % z]!).toList).toArray:=fun zero h0=>by
    rw [BS]
    by_cases hn:c*z=0
    ·rw [hn];apply Be;simp
    ·rw [h0 hn,tV]
   simp only [pB,pT,pK,sR,wo hs w,ry]
   by_cases h0:c*z=0
   ·rw [if_pos h0];simp only [pB,pT,pK,e3 #[] (fun q=>absurd h0 q),CF]
   ·rw [if_neg h0];simp only [pB,pT,pK,Ej i1 i2 w,e3 zu.cells (fun _=>rfl),CF]
  ·cases hv
 ·cases hv
theorem aa0 {o:Oper} {s d:oI} {x:oY} {p v:jD} (ho:o.op = .convert s d x) (hk:EP P s d = .alloc) (hx:pO env x=some p) (hv:wH P h s d p=some (v,h')):∃ uA B,FE P env h o v h' uA B:=by
 unfold EP at hk;unfold wH at hv
 split at hv
 ·rename_i ds k k' n hs hd;simp [hd] at hk
 ·rename_i ds sx hs hd;cases ds <;> simp [hs,hd] at hk
 ·rename_i e sx hs hd
  split at hv
  ·rename_i he
   split at hv
   ·cases hv
   ·rename_i pM;unfold xa at hv
    split at hv
    ·rename_i h1;simp only [qL,pZ] at hv;obtain ⟨rfl,rfl⟩:=hv;refine ⟨fun b=>.sl (some (b,0)) sx.length (.op 1),.cells 1 (sx.map fun c=>.i .u8 c.toNat),by simp,rfl,rfl,fun σ b u hu=>by generalize Cap.op 1=cp at hu;cases hu <;> simp_all,fun ρ w a hE=>?_⟩;have v1:=sW hE hx;generalize wL:a.eval x=u1 at v1;cases v1;have LD:=run_bytes_of_string (P:=P) w s d e ⟨sx.toArray⟩ hs hd he;have zO:(⟨sx.toArray⟩:ByteArray).size=sx.length:=by simp [Er]
     have zH:=MR w sx.length 0 e;rw [zO] at LD;have Av:(bytesRow ⟨sx.toArray⟩ (grownCap w sx.length 0 e)).toList=sx.map (fun c=>Uw .u8 c.toNat)++ph (grownCap w sx.length 0 e - sx.length) (.int .u8 0):=by
      simp [bytesRow,zO]
     have hlen:(bytesRow ⟨sx.toArray⟩ (grownCap w sx.length 0 e)).size=grownCap w sx.length 0 e:=by
      rw [← PA,Av];simp;omega
     have Oj:pj ρ (sx.map fun c=>jD.i .u8 c.toNat) ((bytesRow ⟨sx.toArray⟩ (grownCap w sx.length 0 e)).toList.take (sx.map fun c=>jD.i .u8 c.toNat).length):=by
      rw [Av,wz,G4 (by simp)];refine ⟨by simp,fun j u u' p q=>?_⟩;simp only [xh,pU] at p q;obtain ⟨b,p1,rfl⟩:=p;obtain ⟨b',q1,rfl⟩:=q;rw [p1] at q1;obtain rfl:=oQ q1;exact .i _ _
     refine ⟨_,.slice (some ⟨w.heap.size,0,none⟩) sx.length (grownCap w sx.length 0 e),⟨w.heap.size,0,1,(sx.map fun c=>jD.i .u8 c.toNat).length,(bytesRow ⟨sx.toArray⟩ (grownCap w sx.length 0 e)).toList.length⟩,?_,CZ.drew _ _,rfl,fun σ b hb=>?_,fun σ hl=>Wl (w:=w.drew) (e:=e) (fz:=((bytesRow ⟨sx.toArray⟩ (grownCap w sx.length 0 e)).size,(bytesRow ⟨sx.toArray⟩ (grownCap w sx.length 0 e)).size+1)) (by simp) (by simp) (fun q=>absurd rfl q) h1 VX (by have q:=hlen;rw [← PA] at q;rw [q];simpa using zH) (Oj.mono hl) (by rw [BS];exact Qz w.drew _)⟩
     ·simp only [execOp,ho,wL,uv,pB,LD,pK,pT]
     ·have:=VR.so (ρ:=σ) (b:=b) (o:=0) (len:=sx.length) (c:=grownCap w sx.length 0 e) hb zH (by simp;exact zH) (by simp [hlen]);simpa using this
    ·cases hv
  ·cases hv
 ·rename_i hs hd;simp [hs,hd] at hk
 ·rename_i hs hd;simp [hs,hd] at hk
 ·rename_i hs hd;simp [hs,hd] at hk
 ·rename_i hs hd;simp [hs,hd] at hk
 ·cases hv
theorem Yf {o:Oper} {v:jD} (hk:qT P o.op = .alloc) (hv:pJ P env h o.op=some (v,h')):∃ uA B,FE P env h o v h' uA B:=by
 have rj:=hv;generalize ho:o.op=op at hv hk;cases op <;> simp only [pJ,reduceCtorEq] at hv <;> simp only [qT,reduceCtorEq] at hk
 case alloc e =>
  rw [oV] at hv;obtain ⟨z,hz,hv⟩:=hv;exact ⟨_,_,aaX ho hz hv⟩
 case box e x =>
  rw [oV] at hv;obtain ⟨z,hz,hv⟩:=hv;exact ⟨_,_,aaY ho hz hv⟩
 case buildSlice t n ps =>
  rw [oV] at hv;obtain ⟨qs,hq,hv⟩:=hv;exact aaZ ho hq hv
 case convert s d x =>
  rw [oV] at hv;obtain ⟨p,hp,hv⟩:=hv;exact aa0 ho hk hp hv
 case makeMap t x=>exact ⟨_,_,aa2 ho rj⟩
 case makeSlice t x y =>
  rw [oV] at hv;obtain ⟨p,hp,hv⟩:=hv;rw [oV] at hv;obtain ⟨q,hq,hv⟩:=hv;exact aa1 ho hp hq hv
 case call c =>
  obtain ⟨EJ,args,tm⟩:=c;cases EJ with
  | builtin b=>cases b <;> simp [qT] at hk;unfold Jy at hk;split at hk <;> (try split at hk) <;> simp at hk
  | _=>simp at hv
end
end Go.V
end
section
namespace Go.V
def Dn (listed:Array Bool) (i:Nat):Prop:=listed.getD i false=true
inductive Na (P:oZ) (A:List Oper) (hs:Hp) (h:Hp) (pd:List yf) (ρ:Ren) (i:Nat) (E:Env) (v:jD) (b:Nat):Prop where
 | pure:qT P (oE A i).op = .pure→pJ P E h (oE A i).op=some (v,h)→Na P A hs h pd ρ i E v b
 | read:qT P (oE A i).op = .read→pJ P E h (oE A i).op=some (v,h)→(⟨i,(oE A i).op,E,v⟩:yf)∈pd→Na P A hs h pd ρ i E v b
 | alloc (uA:Nat→jD) (B:sD) (h0 rp:Hp):qT P (oE A i).op = .alloc→FE P (zg E (looks A (oE A i))) h0 (oE A i) v rp uA B→v=uA b→h.get b=some B→ρ b=none→hs.next≤b→b < h.next→Na P A hs h pd ρ i E v b
structure DI (P:oZ) (A:List Oper) (n:Nat) (dn L:List Nat) (pd:List yf) (env:Env) (h:Hp) (listed:Array Bool) (a:Act) (w:pf) (ρ:Ren) (ρs:Ren) (hs:Hp) (ws:pf) (e0:Env) (V:Nat→jD) (EV:Nat→Env) (BL:Nat→Nat):Prop where
 size:listed.size=A.length
 cover:∀ i,i < A.length→i∈dn∨i∈L
 ord:Gw P A (wC A []) dn L=true
 yX:∀ i,i∈dn→i < A.length
 sub:∀ i,Dn listed i→i∈dn
 closed:∀ j,Dn listed j → ∀ k,Ae A j k→Dn listed k
 C6:∀ j,j∈dn → ∀ k,Ae A j k→k∈dn
 tail:∀ pre j post,dn=pre++j::post → ∀ k,Ae A j k→k∈post
 rel:Rel ρ h w
 defers:a.defers=[]
 He:a.tmps.size=n
 ext:Ext ρs hs ws ρ h w
 cv:∀ i,i∈dn → ∀ t,(oE A i).dst=some t→env.get t=some (V i)
 ce:∀ t,(∀ i,i∈dn→(oE A i).dst≠some t)→env.get t=e0.get t
 av:∀ i,Dn listed i → ∀ t,(oE A i).dst=some t→VR ρ (V i) (a.tmps.getD t undef)
 ae:∀ t v,(∀ i,Dn listed i→(oE A i).dst≠some t)→e0.get t=some v→VR ρ v (a.tmps.getD t undef)
 sv:∀ i,i∈dn → ¬ Dn listed i → ∀ j t,j < A.length→(oE A j).dst=some t→t∈looks A (oE A i)→(yh A i j→(EV i).get t=some (V j))∧(¬ yh A i j→(EV i).get t=e0.get t)
 se:∀ i,i∈dn → ¬ Dn listed i → ∀ t,t∈looks A (oE A i)→(∀ j,j < A.length→(oE A j).dst≠some t)→(EV i).get t=e0.get t
 again:∀ i,i∈dn → ¬ Dn listed i→(xZ A (EV i) (oE A i)=some false∧V i = .no)∨(xZ A (EV i) (oE A i)=some true∧Na P A hs h pd ρ i (EV i) (V i) (BL i))
 inj:∀ i j,i∈dn→j∈dn → ¬ Dn listed i → ¬ Dn listed j→xZ A (EV i) (oE A i)=some true→xZ A (EV j) (oE A j)=some true→qT P (oE A i).op = .alloc→qT P (oE A j).op = .alloc→BL i=BL j→i=j
section
variable {P:oZ} {A:List Oper} {n:Nat} {dn L:List Nat} {pd:List yf} {env:Env} {h:Hp} {listed:Array Bool} {a:Act} {w:pf} {ρ ρs:Ren} {hs:Hp} {ws:pf} {e0:Env} {V:Nat→jD} {EV:Nat→Env} {BL:Nat→Nat}
theorem Rel.extend (r:Rel ρ h w) (B:sD):Rel ρ (h.new B) w:=by
 have yG:∀ b i,ρ b=some i→(h.new B).get b=h.get b:=fun b i e=>by
  rw [Hp.rO,if_neg];intro q;have:=(r.tq b i e).1;omega
 refine ⟨fun b i e=>⟨Iy (r.tq b i e).1,(r.tq b i e).2⟩,fun b i X e f=>r.qS b i X e (by rw [← yG b i e];exact f),fun b b' i i' e e' l l' hg=>?_,fun k hk=>?_⟩
 ·refine r.inj b b' i i' e e' ?_ ?_ hg
  ·obtain ⟨X,q1,q2⟩:=l;exact ⟨X,by rw [← yG b i e];exact q1,q2⟩
  ·obtain ⟨X,q1,q2⟩:=l';exact ⟨X,by rw [← yG b' i' e'];exact q1,q2⟩
 ·have uI:h.next+1≤k:=hk;rw [Hp.rO,if_neg (by omega)];exact r.wf k (by omega)
theorem Ext.extend (x:Ext ρs hs ws ρ h w) (r:Rel ρ h w) (B:sD):Ext ρs hs ws ρ (h.new B) w :=
 ⟨x.le,Nat.le_succ_of_le x.next,fun b hb hl=>by
  obtain ⟨p,q⟩:=x.other b hb hl;refine ⟨p,?_⟩;rw [Hp.rO,if_neg (by have:=x.next;omega)];exact q,x.size,fun g hg hn=>by
   obtain ⟨p,q⟩:=x.frame g hg hn;refine ⟨p,fun b i e ho=>q b i e ?_⟩;obtain ⟨X,q1,q2⟩:=ho;rw [Hp.rO,if_neg (fun e'=>by have:=(r.tq b i e).1;omega)] at q1;exact ⟨X,q1,q2⟩,x.os,x.tape,x.output,x.drawn⟩
theorem Rel.late (r:Rel ρ h w) {b:Nat} {i:Info} {B:sD} {w':pf} (hb:ρ b=none) (hl:b < h.next) (hg:h.get b=some B) (hn:CZ w w') (hi:i.g=w.heap.size) (hB:G6 (ρ.put b i) i w' B):Rel (ρ.put b i) h w':=by
 have hle:=Ren.HT (ρ:=ρ) (b:=b) i hb;have sX:∀ b' i',(ρ.put b i) b' = some i' → (b' = b∧i' = i)∨(b' ≠ b∧ρ b' = some i'):=fun b' i' e=>by
  unfold Ren.put at e
  split at e
  ·rename_i q;exact .inl ⟨q,(oQ e).symm⟩
  ·rename_i q;exact .inr ⟨q,e⟩
 refine ⟨fun b' i' e=>?_,fun b' i' X e f=>?_,fun b1 b2 i1 i2 e1 e2 l1 l2 Jj=>?_,r.wf⟩
 ·rw [hn.size];rcases sX b' i' e with ⟨rfl,rfl⟩ | ⟨_,e⟩
  ·exact ⟨hl,by omega⟩
  ·have:=r.tq b' i' e;exact ⟨this.1,by omega⟩
 ·rcases sX b' i' e with ⟨rfl,rfl⟩ | ⟨_,e⟩
  ·rw [hg] at f;obtain rfl:=oQ f;exact hB
  ·exact (r.qS b' i' X e f).congr hle (hn.old _ (r.tq b' i' e).2)
 ·rcases sX b1 i1 e1 with ⟨q1,q2⟩ | ⟨q1,f1⟩ <;> rcases sX b2 i2 e2 with ⟨q3,q4⟩ | ⟨q3,f2⟩
  ·rw [q1,q3]
  ·have:=(r.tq b2 i2 f2).2;rw [q2] at Jj;omega
  ·have:=(r.tq b1 i1 f1).2;rw [q4] at Jj;omega
  ·exact r.inj b1 b2 i1 i2 f1 f2 l1 l2 Jj
theorem Ext.late (x:Ext ρs hs ws ρ h w) {b:Nat} {i:Info} {w':pf} (hb:ρ b=none) (hl:hs.next≤b) (hn:CZ w w') (hi:i.g=w.heap.size):Ext ρs hs ws (ρ.put b i) h w':=by
 have hle:=Ren.HT (ρ:=ρ) (b:=b) i hb;refine ⟨x.le.trans hle,x.next,fun b' pP Oa=>?_,by rw [hn.size];have:=x.size;omega,fun g hg rK=>?_,hn.os.trans x.os,hn.tape.trans x.tape,hn.output.trans x.output,wT x.drawn hn.drawn⟩
 ·obtain ⟨p,q⟩:=x.other b' pP Oa;refine ⟨?_,q⟩;unfold Ren.put;rw [if_neg (by omega)];exact p
 ·obtain ⟨p,q⟩:=x.frame g hg rK;refine ⟨(hn.old g (xO hg x.size)).trans p,fun b' i' e ho=>?_⟩;unfold Ren.put at e
  split at e
  ·obtain rfl:=oQ e;have:=x.size;omega
  ·exact q b' i' e ho
theorem wA {i j:Nat} (hi:i < listed.size):Dn (listed.setIfInBounds i true) j ↔ j=i∨Dn listed j:=by
 unfold Dn;rw [yQ,DE,yQ]
 split
 ·rename_i e;subst e;simp [hi]
 ·rename_i e;constructor
  ·exact fun q=>.inr q
  ·rintro (rfl | q)
   ·exact absurd rfl e
   ·exact q
theorem DI.done (d:DI P A n dn L pd env h listed a w ρ ρs hs ws e0 V EV BL) (G:DL A n) {i:Nat} (hi:i∈dn) (qZ:¬ Dn listed i) (hr:∀ k,Ae A i k→Dn listed k) {w':pf} {ρ':Ren} {u:oT} (hle:ρ.le ρ') (sM:Rel ρ' h w') (Lh:Ext ρs hs ws ρ' h w') (hv:VR ρ' (V i) u)
  (hb:∀ j,j∈dn → ¬ Dn listed j→j≠i→xZ A (EV j) (oE A j)=some true→qT P (oE A j).op = .alloc→ρ (BL j)=none→BL j < h.next→ρ' (BL j)=none) :
  DI P A n dn L pd env h (listed.setIfInBounds i true) (a.put (oE A i).dst u) w' ρ' ρs hs ws e0 V EV BL:=by
 have qJ:i < listed.size:=by rw [d.size];exact d.yX i hi
 have sX:∀ t,(oE A i).dst≠some t→(a.put (oE A i).dst u).tmps.getD t undef=a.tmps.getD t undef:=fun t ht=>by
  cases hd:(oE A i).dst with
  | none=>rfl
  | some x =>
   simp only [Es,yQ,DE];rw [if_neg (fun e=>ht (by rw [hd,e]))]
 have R9:∀ t,(oE A i).dst=some t→(a.put (oE A i).dst u).tmps.getD t undef=u:=fun t ht=>by
  rw [ht];simp only [Es,yQ,DE];simp only [if_true];rw [if_pos (by rw [d.He];exact I9 G.dst (d.yX i hi) t ht)];rfl
 refine ⟨by simp [d.size],d.cover,d.ord,d.yX,fun j hj=>?_,fun j hj k hk=>?_,d.C6,d.tail,sM,?_,?_,Lh,d.cv,d.ce,fun j hj t ht=>?_,fun t v rK rj=>?_,fun j hj sH=>d.sv j hj (fun q=>sH ((wA qJ).2 (.inr q))),fun j hj sH=>d.se j hj (fun q=>sH ((wA qJ).2 (.inr q))),fun j hj sH=>?_,fun j k hj hk sH y6=>d.inj j k hj hk (fun q=>sH ((wA qJ).2 (.inr q))) (fun q=>y6 ((wA qJ).2 (.inr q)))⟩
 ·rcases (wA qJ).1 hj with rfl | hj
  ·exact hi
  ·exact d.sub j hj
 ·rcases (wA qJ).1 hj with rfl | hj
  ·exact (wA qJ).2 (.inr (hr k hk))
  ·exact (wA qJ).2 (.inr (d.closed j hj k hk))
 ·cases (oE A i).dst <;> simp [Es,d.defers]
 ·cases (oE A i).dst <;> simp [Es,d.He]
 ·rcases (wA qJ).1 hj with rfl | hj
  ·rw [R9 t ht];exact hv
  ·have pM:j≠i:=fun e=>qZ (e ▸ hj);rw [sX t (fun e=>G.uniq i j t (d.yX i hi) (d.yX j (d.sub j hj)) (fun q=>pM q.symm) e ht)];exact (d.av j hj t ht).mono hle
 ·rw [sX t (rK i ((wA qJ).2 (.inl rfl)))];exact (d.ae t v (fun j hj=>rK j ((wA qJ).2 (.inr hj))) rj).mono hle
 ·have Dk:¬ Dn listed j:=fun q=>sH ((wA qJ).2 (.inr q));have pM:j≠i:=fun e=>sH ((wA qJ).2 (.inl e));rcases d.again j hj Dk with q | ⟨q,l⟩
  ·exact .inl q
  ·refine .inr ⟨q,?_⟩;cases l with
   | pure k1 k2=>exact .pure k1 k2
   | read k1 k2 k3=>exact .read k1 k2 k3
   | alloc uA B h0 rp k1 k2 k3 k4 k5 k6 k7=>exact .alloc uA B h0 rp k1 k2 k3 k4 (hb j hj Dk pM q k1 k5 k7) k6 k7
end
end Go.V
end
section
namespace Go.V
section
variable {P:oZ} {A:List Oper} {n:Nat} {dn L:List Nat} {pd:List yf} {env:Env} {h:Hp} {listed:Array Bool} {a:Act} {w:pf} {ρ ρs:Ren} {hs:Hp} {ws:pf} {e0:Env} {V:Nat→jD} {EV:Nat→Env} {BL:Nat→Nat}
structure lU (A:List Oper) (e0:Env) (V:Nat→jD) (i:Nat) (E:Env):Prop where
 sv:∀ j t,j < A.length→(oE A j).dst=some t→t∈looks A (oE A i)→(yh A i j→E.get t=some (V j))∧(¬ yh A i j→E.get t=e0.get t)
 se:∀ t,t∈looks A (oE A i)→(∀ j,j < A.length→(oE A j).dst≠some t)→E.get t=e0.get t
theorem DI.akl (d:DI P A n dn L pd env h listed a w ρ ρs hs ws e0 V EV BL) (G:DL A n) {i:Nat} (hi:i < A.length) (qZ:¬ Dn listed i) (hr:∀ k,Ae A i k→Dn listed k) {E:Env} (S:lU A e0 V i E) :
  ∀ t,t∈looks A (oE A i) → ∀ v,E.get t=some v→VR ρ v (a.tmps.getD t undef):=by
 intro t ht v hv
 by_cases hj:∃ j,j < A.length∧(oE A j).dst=some t
 ·obtain ⟨j,hj,sH⟩:=hj;have pM:j≠i:=fun e=>G.self j t hj sH (by rw [e];exact ht);obtain ⟨s1,s2⟩:=S.sv j t hj sH ht
  by_cases hb:yh A i j
  ·have hD:=EH d.closed i j hr hb;rw [s1 hb] at hv;obtain rfl:=oQ hv;exact d.av j hD t sH
  ·rw [s2 hb] at hv;refine d.ae t v (fun k hk y6=>?_) hv;have Lq:k=j:=by
    apply Ip;intro RU;exact G.uniq k j t (d.yX k (d.sub k hk)) hj RU y6 sH
   subst Lq;rcases G.rw k i t hj hi pM sH ht with q | q
   ·exact hb q
   ·exact qZ (EH d.closed k i (d.closed k hk) q)
 ·rw [S.se t ht (fun j ta sH=>hj ⟨j,ta,sH⟩)] at hv;exact d.ae t v (fun k hk y6=>hj ⟨k,d.yX k (d.sub k hk),y6⟩) hv
theorem DI.akn (d:DI P A n dn L pd env h listed a w ρ ρs hs ws e0 V EV BL) {i:Nat} (hi:i∈dn) (qZ:¬ Dn listed i):lU A e0 V i (EV i):=⟨d.sv i hi qZ,d.se i hi qZ⟩
theorem DI.TH {i:Nat} {L':List Nat} (d:DI P A n dn (i::L') pd env h listed a w ρ ρs hs ws e0 V EV BL) (G:DL A n) (T:At P A dn i L'):lU A e0 V i env:=by
 refine ⟨fun j t hj sH ht=>⟨fun hb=>?_,fun hb=>?_⟩,fun t ht rK=>d.ce t fun k hk=>rK k (d.yX k hk)⟩
 ·exact d.cv j (EH (D:=(· ∈ dn)) d.C6 i j T.Ho hb) t sH
 ·refine d.ce t fun k hk y6=>?_;have Lq:k=j:=by
   apply Ip;intro RU;exact G.uniq k j t (d.yX k hk) hj RU y6 sH
  subst Lq;have pM:k≠i:=fun e=>T.out (e ▸ hk);rcases G.rw k i t hj T.lt pM sH ht with q | q
  ·exact hb q
  ·exact T.out (EH (D:=(· ∈ dn)) d.C6 k i (d.C6 k hk) q)
theorem Z0 {A:List Oper} {o:Oper} {t:Tmp} (h:t∈tmpsOf o.op):t∈looks A o:=by
 unfold looks;exact vj.2 (.inl h)
theorem adv {A:List Oper} {o:Oper} {g:Nat} {wt:Bool} {x:Tmp} (h:o.guard=some (g,wt)) (hx:((A[g]?).bind (·.dst))=some x):x∈looks A o:=by
 unfold looks;refine vj.2 (.inr ?_);rw [h];simp only;rw [hx];simp
theorem Pq {A:List Oper} {o:Oper} {E:Env}:xZ A (zg E (looks A o)) o=xZ A E o:=by
 unfold xZ;cases hg:o.guard with
 | none=>rfl
 | some q =>
  obtain ⟨g,wt⟩:=q;simp only;cases hx:(A[g]?).bind (·.dst) with
  | none=>rfl
  | some x =>
   simp only [pG];rw [OV,if_pos (adv hg hx)]
theorem S0 {A:List Oper} {o:Oper} {E:Env}:pJ P (zg E (looks A o)) h o.op=pJ P E h o.op :=
 ahu fun t ht=>by rw [OV,if_pos (Z0 ht)]
theorem xp.zg (d:DI P A n dn L pd env h listed a w ρ ρs hs ws e0 V EV BL) (G:DL A n) {i:Nat} (hi:i < A.length) (qZ:¬ Dn listed i) (hr:∀ k,Ae A i k→Dn listed k) {E:Env} (S:lU A e0 V i E):xp ρ (Go.V.zg E (looks A (oE A i))) h n a w:=by
 refine ⟨d.rel,fun t v hv=>?_,d.defers,d.He⟩;rw [OV] at hv
 split at hv
 ·rename_i ht;exact d.akl G hi qZ hr S t ht v hv
 ·cases hv
theorem DI.late (d:DI P A n dn L pd env h listed a w ρ ρs hs ws e0 V EV BL) (G:DL A n) {i:Nat} (hi:i∈dn) (qZ:¬ Dn listed i) (hr:∀ k,Ae A i k→Dn listed k) {K:Act→pf→Prop} {Q:Exit→Act→pf→Prop}
  (hK:∀ a' w' ρ',DI P A n dn L pd env h (listed.setIfInBounds i true) a' w' ρ' ρs hs ws e0 V EV BL→K a' w'):wpOp P A.toArray Q i K a w:=by
 have qJ:=d.yX i hi;have s:=xp.zg d G qJ qZ hr (d.akn hi qZ);unfold wpOp;simp only [Ev,Gy qJ];rcases d.again i hi qZ with ⟨q1,q2⟩ | ⟨q1,l⟩
 ·rw [Ii s G.dst (by rw [Pq];exact q1)];simp only [zZ,if_false];exact hK _ _ ρ (d.done G hi qZ hr (Ren.le.refl _) d.rel d.ext (by rw [q2];exact VR.JD) (fun j _ _ _ _ _ q _=>q))
 ·have OT:=q1;rw [Ii s G.dst (by rw [Pq];exact q1)];simp only [if_true]
  left
  have two:∀ {v:jD},pJ P (EV i) h (oE A i).op=some (v,h)→V i=v→Oper.wp P (oE A i) a w K Q:=fun {v} ho hv=>by
   rw [← S0 (A:=A)] at ho;obtain ⟨ρ',w',r,u,e1,e2,e3,e4,e5⟩:=Zv (a:=a) d.rel s.env ho;unfold Oper.wp;rw [e1];refine YK _ _ e2 (hK _ _ ρ' (d.done G hi qZ hr e5.le e4 (d.ext.trans e5) (by rw [hv];exact e3) (fun j _ _ _ _ _ q1 q2=>(e5.other _ q1 q2).1)))
  cases l with
  | pure k1 k2=>exact two k2 rfl
  | read k1 k2 k3=>exact two k2 rfl
  | alloc uA B h0 rp k1 k2 k3 k4 k5 k6 k7 =>
   obtain ⟨w',u,f,r1,r2,r3,r4,r5⟩:=k2.run ρ w a s.env;have hle:=Ren.HT (ρ:=ρ) (b:=BL i) f k5;have sM:=d.rel.late k5 k7 k4 r2 r3 (r5 _ hle);have Lh:=d.ext.late k5 k6 r2 r3;unfold Oper.wp;rw [r1];refine hK _ _ (ρ.put (BL i) f) (d.done G hi qZ hr hle sM Lh (by rw [k3];exact r4 _ _ (Fc _ _)) (fun j hj sH pM hw hka q1 q2=>?_));unfold Ren.put;rw [if_neg]
   ·exact q1
   ·intro e;exact pM (d.inj j i hj hi sH qZ hw OT hka k1 e)
def GK {α:Type} (f:Nat→α) (i:Nat) (x:α):Nat→α:=fun j=>if j=i then x else f j
theorem Ep {α:Type} (f:Nat→α) (i:Nat) (x:α):GK f i x i=x:=by simp [GK]
theorem xJ {α:Type} (f:Nat→α) {i j:Nat} (x:α) (h:j≠i):GK f i x j=f j:=by simp [GK,h]
theorem DI.step {i:Nat} {L':List Nat} (d:DI P A n dn (i::L') pd env h listed a w ρ ρs hs ws e0 V EV BL) (G:DL A n) {v:jD} {h':Hp} {pd':List yf} (hh:h' = h ∨ ∃ B,h' = h.new B) (R4:∀ q,q∈pd→q∈pd')
  (u7:(xZ A env (oE A i)=some false∧v = .no∧h' = h)∨(xZ A env (oE A i)=some true∧((qT P (oE A i).op = .pure∧pJ P env h' (oE A i).op=some (v,h'))∨(qT P (oE A i).op = .read∧pJ P env h' (oE A i).op=some (v,h')∧(⟨i,(oE A i).op,env,v⟩:yf)∈pd') ∨
   (qT P (oE A i).op = .alloc∧pJ P env h (oE A i).op=some (v,h'))))) :
  ∃ V' EE EC,DI P A n (i::dn) L' pd' (zV env (oE A i).dst v) h' listed a w ρ ρs hs ws e0 V' EE EC:=by
 obtain ⟨T,Gi,_⟩:=HZ d.ord;have qZ:¬ Dn listed i:=fun q=>T.out (d.sub i q);have pM:∀ j,j∈dn→j≠i:=fun j hj e=>T.out (e ▸ hj);have HN:h.wf:=d.rel.wf;have sM:Rel ρ h' w:=by rcases hh with rfl | ⟨B,rfl⟩;exact d.rel;exact d.rel.extend B
 have Lh:Ext ρs hs ws ρ h' w:=by rcases hh with rfl | ⟨B,rfl⟩;exact d.ext;exact d.ext.extend d.rel B
 have Gg:∀ t,(zV env (oE A i).dst v).get t=if (oE A i).dst=some t then some v else env.get t:=fun t=>by
  cases hd:(oE A i).dst with
  | none=>simp [zV]
  | some x =>
   simp only [zV,Go.V.T.pD]
   by_cases e:t=x
   ·subst e;simp
   ·rw [if_neg e,if_neg (fun q=>e (oQ q).symm)]
 have S:=d.TH G T;refine ⟨GK V i v,GK EV i env,GK BL i h.next,d.size,fun j hj=>?_,Gi,fun j hj=>?_,fun j hj=>ti _ (d.sub j hj),d.closed,fun j hj k hk=>?_,fun pre j post hq k hk=>?_,sM,d.defers,d.He,Lh,fun j hj t ht=>?_,fun t rK=>?_,fun j hj t ht=>?_,d.ae,fun j hj sH k t hk y6 ht=>?_,fun j hj sH t ht rK=>?_,fun j hj sH=>?_,fun j k hj hk sH y6 Ol Om kj kk e=>?_⟩
 ·rcases d.cover j hj with q | q
  ·exact .inl (ti _ q)
  ·rcases sg.1 q with rfl | q
   ·exact .inl (by simp)
   ·exact .inr q
 ·rcases sg.1 hj with rfl | hj
  ·exact T.lt
  ·exact d.yX j hj
 ·rcases sg.1 hj with rfl | hj
  ·exact ti _ (T.Ho k hk)
  ·exact ti _ (d.C6 j hj k hk)
 ·cases pre with
  | nil =>
   simp at hq;obtain ⟨rfl,rfl⟩:=hq;exact T.Ho k hk
  | cons x pre =>
   simp at hq;exact d.tail pre j post hq.2 k hk
 ·rw [Gg];rcases sg.1 hj with rfl | hj
  ·rw [if_pos ht,Ep]
  ·rw [if_neg (G.uniq j i t (d.yX j hj) T.lt (pM j hj) ht),xJ _ _ (pM j hj)];exact d.cv j hj t ht
 ·rw [Gg,if_neg (rK i (by simp))];exact d.ce t fun j hj=>rK j (ti _ hj)
 ·have:=pM j (d.sub j hj);rw [xJ _ _ this];exact d.av j hj t ht
 ·rcases sg.1 hj with rfl | hj
  ·rw [Ep];obtain ⟨s1,s2⟩:=S.sv k t hk y6 ht;refine ⟨fun hb=>?_,s2⟩;have Ct:k≠j:=fun e=>T.out (EH (D:=(· ∈ dn)) d.C6 j j T.Ho (e ▸ hb));rw [xJ _ _ Ct];exact s1 hb
  ·rw [xJ EV _ (pM j hj)];obtain ⟨s1,s2⟩:=d.sv j hj sH k t hk y6 ht;refine ⟨fun hb=>?_,s2⟩;have Ct:k≠i:=fun e=>T.out (EH (D:=(· ∈ dn)) d.C6 j i (d.C6 j hj) (e ▸ hb));rw [xJ _ _ Ct];exact s1 hb
 ·rcases sg.1 hj with rfl | hj
  ·rw [Ep];exact S.se t ht rK
  ·rw [xJ _ _ (pM j hj)];exact d.se j hj sH t ht rK
 ·rcases sg.1 hj with rfl | hj
  ·rw [Ep,Ep,Ep];rcases u7 with ⟨q1,q2,_⟩ | ⟨q1,q2⟩
   ·exact .inl ⟨q1,q2⟩
   ·refine .inr ⟨q1,?_⟩;rcases q2 with ⟨k1,k2⟩ | ⟨k1,k2,k3⟩ | ⟨k1,k2⟩
    ·exact .pure k1 k2
    ·exact .read k1 k2 k3
    ·obtain ⟨uA,B,k⟩:=Yf (env:=zg env (looks A (oE A j))) k1 (by rw [S0];exact k2);refine .alloc uA B h h' k1 k k.val ?_ d.rel.free d.ext.next ?_
     ·rw [k.heap,Hp.rO,if_pos rfl]
     ·rw [k.heap];exact BY _
  ·rw [xJ _ _ (pM j hj),xJ _ _ (pM j hj),xJ _ _ (pM j hj)];rcases d.again j hj sH with q | ⟨q,l⟩
   ·exact .inl q
   ·refine .inr ⟨q,?_⟩;cases l with
    | pure k1 k2=>exact .pure k1 ((Sx k1 k2).2 h')
    | read k1 k2 k3 =>
     refine .read k1 ?_ (R4 _ k3);rcases hh with rfl | ⟨B,rfl⟩
     ·exact k2
     ·exact (Sy k1 k2).2 B HN
    | alloc uA B h0 rp k1 k2 k3 k4 k5 k6 k7 =>
     refine .alloc uA B h0 rp k1 k2 k3 ?_ k5 k6 ?_
     ·rcases hh with rfl | ⟨B,rfl⟩
      ·exact k4
      ·rw [Hp.rO,if_neg (by omega)];exact k4
     ·rcases hh with rfl | ⟨B,rfl⟩
      ·exact k7
      ·exact Iy k7
 ·have old:∀ m,m∈dn → ¬ Dn listed m→xZ A (EV m) (oE A m)=some true→qT P (oE A m).op = .alloc→BL m < h.next:=fun m hm hmd LL XE=>by
   rcases d.again m hm hmd with ⟨q,_⟩ | ⟨q,l⟩
   ·rw [q] at LL;cases LL
   ·cases l with
    | pure k1 _=>rw [XE] at k1;cases k1
    | read k1 _ _=>rw [XE] at k1;cases k1
    | alloc uA B h0 rp k1 k2 k3 k4 k5 k6 k7=>exact k7
  rcases sg.1 hj with q1 | u6 <;> rcases sg.1 hk with q2 | uI
  ·rw [q1,q2]
  ·rw [q1,Ep,xJ _ _ (pM k uI)] at e;rw [xJ _ _ (pM k uI)] at Om;have:=old k uI y6 Om kk;omega
  ·rw [q2,Ep,xJ _ _ (pM j u6)] at e;rw [xJ _ _ (pM j u6)] at Ol;have:=old j u6 sH Ol kj;omega
  ·rw [xJ _ _ (pM j u6),xJ _ _ (pM k uI)] at e;rw [xJ _ _ (pM j u6)] at Ol;rw [xJ _ _ (pM k uI)] at Om;exact d.inj j k u6 uI sH y6 Ol Om kj kk e
end
end Go.V
end
section
namespace Go.V
section
variable {P:oZ} {A:List Oper} {n:Nat} {dn L:List Nat} {pd:List yf} {env:Env} {h:Hp} {listed:Array Bool} {a:Act} {w:pf} {ρ ρs:Ren} {hs:Hp} {ws:pf} {e0:Env} {V:Nat→jD} {EV:Nat→Env} {BL:Nat→Nat}
theorem DI.sQ {i:Nat} {L':List Nat} (d:DI P A n dn (i::L') pd env h listed a w ρ ρs hs ws e0 V EV BL) (G:DL A n) (hr:∀ k,Ae A i k→Dn listed k) {v:jD} {u:oT} {h':Hp} {w':pf} {ρ':Ren} (pz:KB P A true i pd h') (sM:Rel ρ' h' w') (hx:Ext ρ h w ρ' h' w') (hv:VR ρ' v u) :
  ∃ V',DI P A n (i::dn) L' pd (zV env (oE A i).dst v) h' (listed.setIfInBounds i true) (a.put (oE A i).dst u) w' ρ' ρs hs ws e0 V' EV BL:=by
 obtain ⟨T,Gi,_⟩:=HZ d.ord;have qZ:¬ Dn listed i:=fun q=>T.out (d.sub i q);have pM:∀ j,j∈dn→j≠i:=fun j hj e=>T.out (e ▸ hj);have qJ:i < listed.size:=by rw [d.size];exact T.lt
 have Gg:∀ t,(zV env (oE A i).dst v).get t=if (oE A i).dst=some t then some v else env.get t:=fun t=>by
  cases hd:(oE A i).dst with
  | none=>simp [zV]
  | some x =>
   simp only [zV,Go.V.T.pD]
   by_cases e:t=x
   ·subst e;simp
   ·rw [if_neg e,if_neg (fun q=>e (oQ q).symm)]
 have sX:∀ t,(oE A i).dst≠some t→(a.put (oE A i).dst u).tmps.getD t undef=a.tmps.getD t undef:=fun t ht=>by
  cases hd:(oE A i).dst with
  | none=>rfl
  | some x =>
   simp only [Es,yQ,DE];rw [if_neg (fun e=>ht (by rw [hd,e]))]
 have R9:∀ t,(oE A i).dst=some t→(a.put (oE A i).dst u).tmps.getD t undef=u:=fun t ht=>by
  rw [ht];simp only [Es,yQ,DE];simp only [if_true];rw [if_pos (by rw [d.He];exact I9 G.dst T.lt t ht)];rfl
 have La:∀ j,j∈i::dn → ¬ Dn (listed.setIfInBounds i true) j→j∈dn ∧ ¬ Dn listed j:=fun j hj sH=>by
  have h1:j≠i:=fun e=>sH ((wA qJ).2 (.inl e));rcases sg.1 hj with q | q
  ·exact absurd q h1
  ·exact ⟨q,fun x=>sH ((wA qJ).2 (.inr x))⟩
 refine ⟨GK V i v,by simp [d.size],fun j hj=>?_,Gi,fun j hj=>?_,fun j hj=>?_,fun j hj k hk=>?_,fun j hj k hk=>?_,fun pre j post hq k hk=>?_,sM,?_,?_,d.ext.trans hx,fun j hj t ht=>?_,fun t rK=>?_,fun j hj t ht=>?_,fun t x rK LM=>?_,fun j hj sH k t hk y6 ht=>?_,fun j hj sH t ht rK=>?_,fun j hj sH=>?_,fun j k hj hk sH y6=>?_⟩
 ·rcases d.cover j hj with q | q
  ·exact .inl (ti _ q)
  ·rcases sg.1 q with rfl | q
   ·exact .inl (by simp)
   ·exact .inr q
 ·rcases sg.1 hj with rfl | hj
  ·exact T.lt
  ·exact d.yX j hj
 ·rcases (wA qJ).1 hj with rfl | hj
  ·simp
  ·exact ti _ (d.sub j hj)
 ·rcases (wA qJ).1 hj with rfl | hj
  ·exact (wA qJ).2 (.inr (hr k hk))
  ·exact (wA qJ).2 (.inr (d.closed j hj k hk))
 ·rcases sg.1 hj with rfl | hj
  ·exact ti _ (T.Ho k hk)
  ·exact ti _ (d.C6 j hj k hk)
 ·cases pre with
  | nil =>
   simp at hq;obtain ⟨rfl,rfl⟩:=hq;exact T.Ho k hk
  | cons x pre =>
   simp at hq;exact d.tail pre j post hq.2 k hk
 ·cases (oE A i).dst <;> simp [Es,d.defers]
 ·cases (oE A i).dst <;> simp [Es,d.He]
 ·rw [Gg];rcases sg.1 hj with rfl | hj
  ·rw [if_pos ht,Ep]
  ·rw [if_neg (G.uniq j i t (d.yX j hj) T.lt (pM j hj) ht),xJ _ _ (pM j hj)];exact d.cv j hj t ht
 ·rw [Gg,if_neg (rK i (by simp))];exact d.ce t fun j hj=>rK j (ti _ hj)
 ·rcases (wA qJ).1 hj with rfl | hj
  ·rw [R9 t ht,Ep];exact hv
  ·have hn:=pM j (d.sub j hj);rw [sX t (fun e=>G.uniq i j t T.lt (d.yX j (d.sub j hj)) (fun q=>hn q.symm) e ht),xJ _ _ hn];exact (d.av j hj t ht).mono hx.le
 ·rw [sX t (rK i ((wA qJ).2 (.inl rfl)))];exact (d.ae t x (fun j hj=>rK j ((wA qJ).2 (.inr hj))) LM).mono hx.le
 ·obtain ⟨u6,Dk⟩:=La j hj sH;obtain ⟨s1,s2⟩:=d.sv j u6 Dk k t hk y6 ht;refine ⟨fun hb=>?_,s2⟩;have Ct:k≠i:=fun e=>T.out (EH (D:=(· ∈ dn)) d.C6 j i (d.C6 j u6) (e ▸ hb));rw [xJ _ _ Ct];exact s1 hb
 ·obtain ⟨u6,Dk⟩:=La j hj sH;exact d.se j u6 Dk t ht rK
 ·obtain ⟨u6,Dk⟩:=La j hj sH;rw [xJ _ _ (pM j u6)];rcases d.again j u6 Dk with q | ⟨q,l⟩
  ·exact .inl q
  ·refine .inr ⟨q,?_⟩;cases l with
   | pure k1 k2=>exact .pure k1 ((Sx k1 k2).2 h')
   | read k1 k2 k3 =>
    refine .read k1 (pz rfl _ k3 ?_) k3;cases hb:((wC A []).getD i 0).testBit j with
    | false=>rfl
    | true=>exact absurd (EH d.closed i j hr hb) Dk
   | alloc uA B h0 rp k1 k2 k3 k4 k5 k6 k7 =>
    obtain ⟨p,q'⟩:=hx.other _ k5 k7;exact .alloc uA B h0 rp k1 k2 k3 (q'.trans k4) p k6 (xO k7 hx.next)
 ·obtain ⟨u6,Dk⟩:=La j hj sH;obtain ⟨uI,ae0⟩:=La k hk y6;exact d.inj j k u6 uI Dk ae0
def AI (listed:Array Bool):Nat→Nat
 | 0=>0
 | m+1=>AI listed m+if listed.getD m false then 0 else 1
theorem ak9:∀ m,AI listed m=0 → ∀ i,i < m→Dn listed i:=by
 intro m
 induction m with
 | zero=>intro _ i h;omega
 | succ m ih =>
  intro h i hi;simp only [AI] at h
  by_cases he:i=m
  ·subst he;unfold Dn;cases hq:listed.getD i false with
   | true=>rfl
   | false=>rw [hq] at h;simp at h
  ·exact ih (by omega) i (by omega)
theorem ak7 {i:Nat} (hi:i < listed.size):∀ m,m≤i→AI (listed.setIfInBounds i true) m=AI listed m:=by
 intro m
 induction m with
 | zero=>intro _;rfl
 | succ m ih =>
  intro h;simp only [AI,ih (by omega)]
  congr 1
  have:(listed.setIfInBounds i true).getD m false=listed.getD m false:=by
   rw [yQ,DE,if_neg (by omega),yQ]
  rw [this]
theorem ak8 {i:Nat} (hi:i < listed.size) (hn:¬ Dn listed i):∀ m,i < m→AI (listed.setIfInBounds i true) m+1=AI listed m:=by
 intro m
 induction m with
 | zero=>intro h;omega
 | succ m ih =>
  intro h;simp only [AI]
  by_cases he:i=m
  ·subst he;rw [ak7 hi i (px _)];have h1:(listed.setIfInBounds i true).getD i false=true:=(wA hi).2 (.inl rfl);have h2:listed.getD i false=false:=by
    cases hq:listed.getD i false with
    | false=>rfl
    | true=>exact absurd hq hn
   rw [h1,h2];simp
  ·have:(listed.setIfInBounds i true).getD m false=listed.getD m false:=by
    rw [yQ,DE,if_neg he,yQ]
   rw [this,← ih (by omega)];omega
theorem Ti {i:Nat} (hs:listed.size=A.length):i∈MO .any A.toArray listed ↔ i < A.length ∧ ¬ Dn listed i ∧ ∀ k,Ae A i k→Dn listed k:=by
 unfold MO;rw [List.mem_filter,P7];simp only [List.size_toArray,Ev];constructor
 ·rintro ⟨h1,h2⟩;rw [Gy h1] at h2;simp only [rN,BZ,rk,AK] at h2;refine ⟨h1,fun q=>?_,fun k ⟨e,he,hb,hk⟩=>?_⟩
  ·have:listed.getD i true=listed.getD i false:=by
    simp [yQ,hs,h1]
   unfold Dn at q;rw [← this,h2.1] at q;cases q
  ·have:=(Array.all_eq_true_iff_forall_mem.1 h2.2) e (by simpa using he);rw [hb] at this;simp at this;rw [← hk];unfold Dn;rw [yQ];simpa using this
 ·rintro ⟨h1,h2,h3⟩;refine ⟨h1,?_⟩;rw [Gy h1];simp only [rN,BZ,rk,AK];refine ⟨?_,Array.all_eq_true_iff_forall_mem.2 fun e he=>?_⟩
  ·have:listed.getD i true=listed.getD i false:=by
    simp [yQ,hs,h1]
   rw [this];cases hq:listed.getD i false with
   | false=>rfl
   | true=>exact absurd hq h2
  ·cases hb:GV .any e with
   | false=>rfl
   | true =>
    have:=h3 e.on ⟨e,by simpa using he,hb,rfl⟩;unfold Dn at this;simpa using this
theorem DI.all (d:DI P A n dn L pd env h listed a w ρ ρs hs ws e0 V EV BL) (rK:∀ i,i < A.length → ¬ Dn listed i → ¬ ∀ k,Ae A i k→Dn listed k):L=[] ∧ ∀ i,i < A.length→Dn listed i:=by
 have h1:∀ (post pre:List Nat),dn=pre++post → ∀ j,j∈post→Dn listed j:=by
  intro post
  induction post with
  | nil=>intro pre _ j hj;cases hj
  | cons x post ih =>
   intro pre hq j hj;have X1:=ih (pre++[x]) (by rw [hq];simp);rcases sg.1 hj with e | hj
   ·subst e;apply Ip;intro qZ;exact rK j (d.yX j (by rw [hq];simp)) qZ fun k hk=>X1 k (d.tail pre j post hq k hk)
   ·exact X1 j hj
 have h2:=h1 dn [] rfl;have hL:L=[]:=by
  cases L with
  | nil=>rfl
  | cons i L =>
   obtain ⟨T,_,_⟩:=HZ d.ord;exact absurd (fun k hk=>h2 k (T.Ho k hk)) (rK i T.lt (fun q=>T.out (d.sub i q)))
 refine ⟨hL,fun i hi=>?_⟩;rcases d.cover i hi with q | q
 ·exact h2 i q
 ·rw [hL] at q;cases q
theorem DI.run (G:DL A n) {Q':Exit→Act→pf→Prop} (tv:L=[] → ∀ listed a w ρ,DI P A n dn L pd env h listed a w ρ ρs hs ws e0 V EV BL→(∀ i,i < A.length→Dn listed i)→Q' .normal a w)
  (aeQ:∀ i L',L=i::L' → ∀ listed a w ρ fuel,DI P A n dn L pd env h listed a w ρ ρs hs ws e0 V EV BL→AI (listed.setIfInBounds i true) A.length≤fuel→(∀ k,Ae A i k→Dn listed k)→wpOp P A.toArray Q' i (wpAny P .any A.toArray Q' fuel (listed.setIfInBounds i true)) a w)
  (adO:∀ i L',L=i::L' → ∀ r,r∈L' → yh A r i) :
  ∀ (fuel:Nat) listed a w ρ,DI P A n dn L pd env h listed a w ρ ρs hs ws e0 V EV BL→AI listed A.length≤fuel→wpAny P .any A.toArray Q' fuel listed a w:=by
 have Dh:∀ listed a w ρ,DI P A n dn L pd env h listed a w ρ ρs hs ws e0 V EV BL→MO .any A.toArray listed=[]→Q' .normal a w:=fun listed a w ρ d hr=>by
  obtain ⟨q1,q2⟩:=d.all fun i hi qZ hk=>by
   have:i∈MO .any A.toArray listed:=(Ti d.size).2 ⟨hi,qZ,hk⟩;rw [hr] at this;cases this
  exact tv q1 listed a w ρ d q2
 intro fuel
 induction fuel with
 | zero =>
  intro listed a w ρ d hu;have uH:=ak9 (listed:=listed) A.length (by omega);have hr:MO .any A.toArray listed=[]:=by
   apply List.eq_nil_iff_forall_not_mem.2;intro i hi;obtain ⟨h1,h2,_⟩:=(Ti d.size).1 hi;exact h2 (uH i h1)
  exact ⟨hr,Dh listed a w ρ d hr⟩
 | succ fuel ih =>
  intro listed a w ρ d hu;refine ⟨Dh listed a w ρ d,fun i hi=>?_⟩;obtain ⟨h1,h2,h3⟩:=(Ti d.size).1 hi;have Dq:AI (listed.setIfInBounds i true) A.length≤fuel:=by
   have:=ak8 (by rw [d.size];exact h1) h2 A.length h1;omega
  rcases d.cover i h1 with q | q
  ·exact d.late G q h2 h3 fun a' w' ρ' d'=>ih _ a' w' ρ' d' Dq
  ·cases hL:L with
   | nil=>rw [hL] at q;cases q
   | cons i0 L' =>
    rw [hL] at q;rcases sg.1 q with rfl | q
    ·exact aeQ i L' hL listed a w ρ fuel d Dq h3
    ·have hb:=adO i0 L' hL i q;have hD:=EH d.closed i i0 h3 hb;have Gi:=d.ord;rw [hL] at Gi;exact absurd (d.sub i0 hD) (HZ Gi).1.out
end
end Go.V
end
section
namespace Go.V
section
variable {P:oZ} {K:Tb}
inductive G7 (P:oZ) (c:Code) (Q:Exit→Act→pf→Prop):Act→pf→Prop where
 | mk {a:Act} {w:pf} (M:Exit→Act→pf→Prop):c.wp P M a w→(∀ a' w',M .normal a' w' → G7 P c Q a' w')→(∀ e a' w',e ≠ .normal→M e a' w' → Q e a' w')→G7 P c Q a w
theorem G7.wp {c:Code} {Q:Exit→Act→pf→Prop} {a:Act} {w:pf} (h:G7 P c Q a w):(Code.loop c).wp P Q a w:=by
 intro b k cs;have key:∃ e a' w',Q e a' w' ∧ Arrives P (lone (b.at a (.code c :: .inLoop c::k)) cs w) b k cs e a' w':=by
  induction h with
  | mk M hc hn hq ih =>
   obtain ⟨e,IS,J5,hm,Ga⟩:=hc b (.inLoop c::k) cs;cases e with
   | normal =>
    obtain ⟨ade,aa9,alF,afD,adR⟩:=ih IS J5 hm;exact ⟨ade,aa9,alF,afD,.of_steps (Steps.trans Ga (.one step_inLoop)) adR⟩
   | exit id=>exact ⟨_,IS,J5,hq _ _ _ (by simp) hm,.pass (x:=.inLoop c) rfl (fun _ _=>.inl (by simp)) Ga⟩
   | goto l=>exact ⟨_,IS,J5,hq _ _ _ (by simp) hm,.pass (x:=.inLoop c) rfl (fun _ _=>.inl (by simp)) Ga⟩
   | ret=>exact ⟨_,IS,J5,hq _ _ _ (by simp) hm,.pass (x:=.inLoop c) rfl (fun _ _=>.inl (by simp)) Ga⟩
   | panic ch=>exact ⟨_,IS,J5,hq _ _ _ (by simp) hm,.pass (x:=.inLoop c) rfl (fun _ _=>.inl (by simp)) Ga⟩
   | outgrown=>exact ⟨_,IS,J5,hq _ _ _ (by simp) hm,.pass (x:=.inLoop c) rfl (fun _ _=>.inl (by simp)) Ga⟩
 obtain ⟨e,a',w',hq,Ga⟩:=key;exact ⟨e,a',w',hq,.of_steps (.one step_loop) Ga⟩
def TX (P:oZ):Code→(Exit→Act→pf→Prop)→Act→pf→Prop
 | .loop c,Q,a,w=>G7 P c Q a w
 | c,Q,a,w=>c.wp P Q a w
theorem TX.wp {c:Code} {Q:Exit→Act→pf→Prop} {a:Act} {w:pf} (h:TX P c Q a w):c.wp P Q a w:=by
 cases c <;> first | exact h | exact G7.wp h
def Vg (P:oZ):IF→(Out→Prop)→Prop
 | .code n c env h,Q=>∀ ρ w a ρs hs ws,xp ρ env h n a w→Ext ρs hs ws ρ h w→TX P c (xn Q ρs hs ws n) a w
 | .ops n A dr L pd env h,Q=>zC n A=true →
   (dr=false → ∀ ρ w a ρs hs ws,xp ρ env h n a w→Ext ρs hs ws ρ h w→wpList P A.toArray (xn Q ρs hs ws n) (L.map (oE A)) a w) ∧
   (dr=true→DL A n → ∀ dn listed a w ρ ρs hs ws e0 V EV BL,DI P A n dn L pd env h listed a w ρ ρs hs ws e0 V EV BL → ∀ fuel,AI listed A.length≤fuel→wpAny P .any A.toArray (xn Q ρs hs ws n) fuel listed a w)
 | .call f args h,Q=>∀ ρ w tJ,Rel ρ h w→pj ρ args tJ→Qg P f tJ.toArray w fun v' w'=>∃ v h' ρ',Q (.call v h')∧VR ρ' v v' ∧ Rel ρ' h' w' ∧ Ext ρ h w ρ' h' w'
theorem xn.vf {Q:Out→Prop} {ρs hs ws n a w ρ h env} {e0:Ex} (s:xp ρ env h n a w) (x:Ext ρs hs ws ρ h w) (q:Q (.code e0 env h)):xn Q ρs hs ws n (Jd e0) a w :=
 ⟨⟨e0,env,h,ρ,rfl,q,s.rel,s.env,x⟩,s.defers,s.size⟩
theorem ac8 {e:Ex} (h:Exit.normal=Jd e):e = .td:=by cases e <;> simp [Jd] at h ⊢
theorem xn.st {Q:Out→Prop} {ρs hs ws n a w} {e:Exit} (p:xn Q ρs hs ws n e a w):∃ e0 env h ρ,e=Jd e0∧Q (.code e0 env h)∧xp ρ env h n a w∧Ext ρs hs ws ρ h w:=by
 obtain ⟨⟨e0,env,h,ρ,h1,h2,h3,h4,h5⟩,h6,h7⟩:=p;exact ⟨e0,env,h,ρ,h1,h2,⟨h3,h4,h6,h7⟩,h5⟩
theorem aah {o:Oper} {env:Env} {h h':Hp} {n:Nat} {a:Act} {w:pf} {ρ:Ren} {v:jD} {Kk:Act→pf→Prop} {Q:Exit→Act→pf→Prop} (r:Rel ρ h w) {E:Env} (hE:ss ρ E a) (hv:pJ P E h o.op=some (v,h'))
  (hK:∀ ρ' w' u,VR ρ' v u→Rel ρ' h' w' → Ext ρ h w ρ' h' w' → Kk (a.put o.dst u) w'):o.wp P a w Kk Q:=by
 obtain ⟨ρ',w',r',u,e1,e2,e3,e4,e5⟩:=Zv (a:=a) r hE hv;unfold Oper.wp;rw [e1];exact YK _ _ e2 (hK ρ' w' u e3 e4 e5)
theorem aag {o:Oper} {f:tO} {vs:List jD} {E:Env} {h:Hp} {n:Nat} {a:Act} {w:pf} {ρ:Ren} {Q0:Out→Prop} {Kk:Act→pf→Prop} {Q:Exit→Act→pf→Prop} (s:xp ρ E h n a w) (ht:zp E o.op=some (f,vs)) (hc:Vg P (.call f vs h) Q0)
  (hK:∀ v h' ρ' w' u,Q0 (.call v h')→VR ρ' v u→Rel ρ' h' w' → Ext ρ h w ρ' h' w' → Kk (a.put o.dst u) w'):o.wp P a w Kk Q:=by
 obtain ⟨tJ,h1,h2⟩:=ajQ s ht;unfold Oper.wp;rw [h2];rcases hc ρ w tJ s.rel h1 with ⟨e1,e2⟩ | ⟨v',w',e1,v,h',ρ',e2,e3,e4,e5⟩
 ·rw [e1];simp only [Oper.upon];refine GQ e2 fun e w' q=>?_;cases e with
  | returned v' =>
   obtain ⟨v,h',ρ',q1,q2,q3,q4⟩:=q;exact hK v h' ρ' w' v' q1 q2 q3 q4
  | panicked c=>exact q.elim
  | outgrown=>exact q.elim
 ·rw [e1];exact hK v h' ρ' w' v' e2 e3 e4 e5
theorem akQ {A:List Oper} {o:Oper} {E:Env}:zp (zg E (looks A o)) o.op=zp E o.op:=by
 have he:∀ t,t∈tmpsOf o.op→(zg E (looks A o)).get t=E.get t:=fun t ht=>by rw [OV,if_pos (Z0 ht)]
 unfold zp
 split
 ·rename_i x args tm ho;have hm:∀ y:oY,y∈(PH ⟨.value x,args,tm⟩).toList → ∀ t,y = .tmp t→(zg E (looks A o)).get t=E.get t:=fun y hy t e=>he t (L1 (by rw [ho,← e];exact hy));rw [KU (env2:=E) (hm x (by simp [PH])),WL (env2:=E) fun t ht=>hm _ (by simp [PH];exact .inr (by simpa using ht)) t rfl]
 ·rfl
theorem ah6 (A:List Oper):(sN A.length).map (oE A)=A:=by
 apply CR;intro i;simp only [xh]
 by_cases h:i < A.length
 ·rw [List.getElem?_range h,Gy h];rfl
 ·rw [zr (by simpa using h),zr (by simpa using h)];rfl
theorem ahQ {i:Nat} {A:List Oper} {env:Env} {v:jD} {pd:List yf} (h:qT P (oE A i).op = .sQ):zU P A i env v pd=pd:=by
 unfold zU;rw [if_neg];rw [h];intro e;cases e
theorem TT {env:Env} {op:Op} {f:tO} {vs:List jD} (h:zp env op=some (f,vs)):qT P op = .sQ:=by
 unfold zp at h
 split at h
 ·rfl
 ·cases h
theorem Zn (hK:AO P K) {j:IF} {Q:Out→Prop} (x:XW P K j Q):Vg P j Q:=by
 induction x with
 | skip q=>intro ρ w a ρs hs ws s x;exact wp_skip (xn.vf s x q)
 | label q=>intro ρ w a ρs hs ws s x;exact wp_label (xn.vf s x q)
 | exit q=>intro ρ w a ρs hs ws s x;exact wp_exit (xn.vf s x q)
 | ret q=>intro ρ w a ρs hs ws s x;exact wp_ret (xn.vf s x q)
 | seq _ _ rK za wj =>
  intro ρ w a ρs hs ws s x;refine wp_seq (UB (za ρ w a ρs hs ws s x).wp fun e a' w' p=>?_);obtain ⟨e0,rF,h',ρ',rfl,q,s',x'⟩:=p.st;cases e0 with
  | td=>exact (wj rF h' q ρ' w' a' ρs hs ws s' x').wp
  | ext i=>exact xn.vf s' x' (rK _ _ _ (by simp) q)
  | ret=>exact xn.vf s' x' (rK _ _ _ (by simp) q)
 | cond hx _ ih =>
  rename_i n x a' b' env h Q t _;intro ρ w a ρs hs ws s x;have hv:=sW s.env hx;generalize hu:a.eval _=u at hv;cases hv;refine wp_cond hu ?_;cases t
  ·exact (ih ρ w a ρs hs ws s x).wp
  ·exact (ih ρ w a ρs hs ws s x).wp
 | block _ hq ih =>
  rename_i id c env h M Q;intro ρ w a ρs hs ws s x;refine wp_block (UB (ih ρ w a ρs hs ws s x).wp fun e a' w' p=>?_);obtain ⟨e0,rF,h',ρ',rfl,q,s',x'⟩:=p.st;have q':=hq _ _ _ q;cases e0 with
  | td=>exact xn.vf s' x' q'
  | ret=>exact xn.vf s' x' q'
  | ext i =>
   simp only [Jd,Exit.inBlock];simp only at q'
   split
   ·rename_i e;rw [if_pos e] at q';exact xn.vf s' x' q'
   ·rename_i e;rw [if_neg e] at q';exact xn.vf s' x' q'
 | loop _ _ rK za wj =>
  rename_i n c env h M Q _ _;intro ρ w a ρs hs ws s x;refine G7.mk (xn M ρs hs ws n) (za ρ w a ρs hs ws s x).wp (fun a' w' p=>?_) (fun e a' w' ne p=>?_)
  ·obtain ⟨e0,rF,h',ρ',he,q,s',x'⟩:=p.st;obtain rfl:=ac8 he;exact wj rF h' q ρ' w' a' ρs hs ws s' x'
  ·obtain ⟨e0,rF,h',ρ',rfl,q,s',x'⟩:=p.st;exact xn.vf s' x' (rK _ _ _ (fun e=>ne (by rw [e];rfl)) q)
 | region hd hL _ ih =>
  rename_i n id A dr L env h Q _;intro ρ w a ρs hs ws s x;obtain ⟨za,wj⟩:=ih hd;cases dr with
  | false =>
   simp only [zZ,if_false] at hL;refine wp_region_lit ?_;have:=za rfl ρ w a ρs hs ws s x;rw [hL,ah6] at this;exact this
  | true =>
   simp only [if_true] at hL;obtain ⟨G,Gi,Hw⟩:=ahs hd hL.2;refine wp_region_any hL.1 ?_;have rK:∀ i,¬ Dn (PB A.length false) i:=fun i q=>by
    unfold Dn at q;rw [yQ,Array.getElem?_replicate] at q
    split at q <;> simp at q
   have hx:=x.trans (Ext.drew ρ h w);have d:DI P A n [] L [] env h (PB A.length false) a w.drew ρ ρs hs ws env (fun _=>.no) (fun _=>.lf) (fun _=>0) :=
    ⟨by simp,fun i hi=>.inr (Hw i hi),Gi,fun i hi=>(by cases hi),fun i hi=>absurd hi (rK i),fun i hi=>absurd hi (rK i),fun i hi=>(by cases hi),fun pre j post hq=>(by simp at hq),s.rel.drew,s.defers,s.size,hx,fun i hi=>(by cases hi),fun t _=>rfl,fun i hi=>absurd hi (rK i),fun t v _ hv=>s.env t v hv,fun i hi=>(by cases hi),fun i hi=>(by cases hi),fun i hi=>(by cases hi),fun i j hi=>(by cases hi)⟩
   have HM:∀ m,AI (PB A.length false) m≤m:=fun m=>by
    induction m with
    | zero=>exact px _
    | succ m ih=>simp only [AI];split <;> omega
   have:=wj rfl G _ _ _ _ _ _ _ _ _ _ _ _ d A.length (HM _);simpa using this
 | L7 q =>
  rename_i n A dr pd env h Q;intro hd;refine ⟨fun _ ρ w a ρs hs ws s x=>wpList_nil (xn.vf (e0:=.td) s x q),fun _ G dn listed a w ρ ρs hs ws e0 V EV BL d fuel hu=>?_⟩;refine DI.run (ρs:=ρs) (hs:=hs) (ws:=ws) (e0:=e0) (V:=V) (EV:=EV) (BL:=BL) (dn:=dn) G (fun _ listed a w ρ d uH=>?_) (fun i L' e=>by cases e) (fun i L' e=>by cases e) fuel listed a w ρ d hu;refine xn.vf (e0:=.td) ⟨d.rel,fun t v hv=>?_,d.defers,d.He⟩ d.ext q
  by_cases hx:∃ i,i∈dn∧(oE A i).dst=some t
  ·obtain ⟨i,hi,ht⟩:=hx;have Jf:=d.cv i hi t ht;rw [hv] at Jf;obtain rfl:=oQ Jf;exact d.av i (uH i (d.yX i hi)) t ht
  ·have rK:∀ i,i∈dn→(oE A i).dst≠some t:=fun i hi ht=>hx ⟨i,hi,ht⟩;exact d.ae t v (fun i hi=>rK i (d.sub i hi)) (by rw [← d.ce t rK];exact hv)
 | L8 hi hw _ ih =>
  intro hd;obtain ⟨za,wj⟩:=ih hd;refine ⟨fun sd ρ w a ρs hs ws s x=>?_,fun sd G dn listed a w ρ ρs hs ws e0 V EV BL d fuel hu=>?_⟩
  ·rw [xi];unfold wpList;rw [Ii s hd hw];simp only [zZ,if_false];exact za sd ρ w _ ρs hs ws (s.put (I9 hd hi) VR.JD) x
  ·obtain ⟨V',EE,EC,d'⟩:=d.step G (v:=.no) (.inl rfl) (fun q h=>h) (.inl ⟨hw,rfl,rfl⟩);exact wj sd G _ listed a w ρ ρs hs ws e0 V' EE EC d' fuel hu
 | Fa hi hw hv pz _ ih =>
  rename_i n A dr i L pd env h Q v h' _;intro hd;obtain ⟨za,wj⟩:=ih hd;refine ⟨fun sd ρ w a ρs hs ws s x=>?_,fun sd G dn listed a w ρ ρs hs ws e0 V EV BL d fuel hu=>?_⟩
  ·rw [xi];unfold wpList;rw [Ii s hd hw];simp only [if_true];exact .inl (aah (env:=env) (n:=n) s.rel s.env hv fun ρ' w' u q1 q2 q3=>za sd ρ' w' _ ρs hs ws ((s.vf q2 q3).put (I9 hd hi) q1) (x.trans q3))
  ·subst sd;cases hk:qT P (oE A i).op with
   | sQ =>
    obtain ⟨T,_,_⟩:=HZ d.ord;have R4:=ahQ (env:=env) (v:=v) (pd:=pd) hk;rw [R4] at wj;refine DI.run G (fun e=>by cases e) (fun i0 L' e listed a w ρ fuel d hu hr=>?_) (fun i0 L' e r hr=>?_) fuel listed a w ρ d hu
    ·injection e with e1 e2;subst e1;subst e2;have qZ:¬ Dn listed i:=fun q=>T.out (d.sub i q);have S:=d.TH G T;have s:=xp.zg d G hi qZ hr S;unfold wpOp;simp only [Ev,Gy hi];rw [Ii s hd (by rw [Pq];exact hw)];simp only [if_true];refine .inl (aah (env:=env) (n:=n) d.rel s.env (by rw [S0];exact hv) fun ρ' w' u q1 q2 q3=>?_);obtain ⟨V',d'⟩:=d.sQ G hr (pz hk) q2 q3 q1;exact wj rfl G _ _ _ _ _ _ _ _ _ _ _ _ d' fuel hu
    ·injection e with e1 e2;subst e1;subst e2;exact T.sQ hk r hr
   | pure =>
    obtain ⟨rfl,hq⟩:=Sx hk hv;obtain ⟨V',EE,EC,d'⟩:=d.step G (v:=v) (.inl rfl) (pd':=zU P A i env v pd) (fun q h=>by unfold zU;split <;> simp [h]) (.inr ⟨hw,.inl ⟨hk,hv⟩⟩);exact wj rfl G _ listed a w ρ ρs hs ws e0 V' EE EC d' fuel hu
   | read =>
    obtain ⟨rfl,hq⟩:=Sy hk hv;obtain ⟨V',EE,EC,d'⟩:=d.step G (v:=v) (.inl rfl) (pd':=zU P A i env v pd) (fun q h=>by unfold zU;split <;> simp [h]) (.inr ⟨hw,.inr (.inl ⟨hk,hv,by unfold zU;rw [if_pos hk];simp⟩)⟩);exact wj rfl G _ listed a w ρ ρs hs ws e0 V' EE EC d' fuel hu
   | alloc =>
    obtain ⟨uA,B,k⟩:=Yf hk hv;obtain ⟨V',EE,EC,d'⟩:=d.step G (v:=v) (.inr ⟨B,k.heap⟩) (pd':=zU P A i env v pd) (fun q h=>by unfold zU;split <;> simp [h]) (.inr ⟨hw,.inr (.inr ⟨hk,hv⟩)⟩);exact wj rfl G _ listed a w ρ ρs hs ws e0 V' EE EC d' fuel hu
 | JF hi hw ht _ pz _ za wj =>
  rename_i n A dr i L pd env h M Q f args _ _;intro hd;refine ⟨fun sd ρ w a ρs hs ws s x=>?_,fun sd G dn listed a w ρ ρs hs ws e0 V EV BL d fuel hu=>?_⟩
  ·rw [xi];unfold wpList;rw [Ii s hd hw];simp only [if_true];exact .inl (aag s ht za fun v h' ρ' w' u q0 q1 q2 q3=>(wj v h' q0 hd).1 sd ρ' w' _ ρs hs ws ((s.vf q2 q3).put (I9 hd hi) q1) (x.trans q3))
  ·subst sd;obtain ⟨T,_,_⟩:=HZ d.ord;refine DI.run G (fun e=>by cases e) (fun i0 L' e listed a w ρ fuel d hu hr=>?_) (fun i0 L' e r hr=>?_) fuel listed a w ρ d hu
   ·injection e with e1 e2;subst e1;subst e2;have qZ:¬ Dn listed i:=fun q=>T.out (d.sub i q);have S:=d.TH G T;have s:=xp.zg d G hi qZ hr S;unfold wpOp;simp only [Ev,Gy hi];rw [Ii s hd (by rw [Pq];exact hw)];simp only [if_true];refine .inl (aag s (by rw [akQ];exact ht) za fun v h' ρ' w' u q0 q1 q2 q3=>?_);obtain ⟨V',d'⟩:=d.sQ G hr (pz v h' q0) q2 q3 q1;exact (wj v h' q0 hd).2 rfl G _ _ _ _ _ _ _ _ _ _ _ _ d' fuel hu
   ·injection e with e1 e2;subst e1;subst e2;exact T.sQ (TT ht) r hr
 | call hf hb hn hl _ hq ih =>
  rename_i f args h M Q fn c _;intro ρ w tJ r hr;refine .inl ⟨O2 hf hb hn _ w,?_⟩;refine calls_of_wp hf hb (UB (ih ρ w _ ρ h w (ac3 r hr hl) (Ext.refl _ _ _)).wp fun e a' w' p=>?_);obtain ⟨e0,rF,h',ρ',rfl,q,s',x'⟩:=p.st;obtain ⟨q1,vs,q2,q3⟩:=hq _ _ _ q;obtain ⟨us,g1,g2⟩:=ai5 s' q2;rcases q1 with rfl | rfl
  ·exact ⟨s'.defers,_,g2,_,_,_,q3,YB g1,s'.rel,x'⟩
  ·exact ⟨s'.defers,_,g2,_,_,_,q3,YB g1,s'.rel,x'⟩
 | known hk hq =>
  intro ρ w tJ r hr;rcases hK _ _ _ _ hk ρ w tJ r hr with ⟨e1,e2⟩ | ⟨v',w',e1,v,h',ρ',e2,e3⟩
  ·refine .inl ⟨e1,GQ e2 fun e w' q=>?_⟩;cases e with
   | returned v'=>obtain ⟨v,h',ρ',q1,q2⟩:=q;exact ⟨v,h',ρ',hq v h' q1,q2⟩
   | panicked c=>exact q.elim
   | outgrown=>exact q.elim
  ·exact .inr ⟨v',w',e1,v,h',ρ',hq v h' e2,e3⟩
end
end Go.V
end
section
namespace Go.V
section
variable {P:oZ} {K:Tb} {ρ:Ren} {h:Hp} {w:pf}
def ρ0:Ren:=fun _=>none
theorem Rel.nothing (w:pf):Rel ρ0 Hp.empty w :=
 ⟨fun b i e=>(by cases e),fun b i B e=>(by cases e),fun b b' i i' e=>(by cases e),fun b _=>rfl⟩
def xj (h:Hp):Prop:=∀ b,¬ own h b
theorem xj.empty:xj Hp.empty:=fun b ⟨B,q,_⟩=>by cases q
def Rel.vy (ρ:Ren) (h:Hp) (g off:Nat):Ren:=ρ.put h.next ⟨g,off,0,0,0⟩
theorem xj.vy (hb:xj h) (vs:List jD):xj (h.new (.ro vs)):=fun b ⟨B,q1,q2⟩=>by
 rw [Hp.rO] at q1
 split at q1
 ·obtain rfl:=oQ q1;cases q2
 ·exact hb b ⟨B,q1,q2⟩
theorem Rel.view (r:Rel ρ h w) (hb:xj h) {g off:Nat} {vs:List jD} {us:List oT} (h1:vs.all jD.one=true) (hv:pj ρ vs us) (hr:∀ j u,us[j]? = some u→w.cell? ⟨g,off+j,none⟩=some u) (hg:g < w.heap.size) :
  Rel (Rel.vy ρ h g off) (h.new (.ro vs)) w∧ρ.le (Rel.vy ρ h g off)∧(Rel.vy ρ h g off) h.next=some ⟨g,off,0,0,0⟩:=by
 have hle:=Ren.HT (ρ:=ρ) (b:=h.next) ⟨g,off,0,0,0⟩ r.free;have sX:∀ b i,(Rel.vy ρ h g off) b=some i→(b=h.next∧i=⟨g,off,0,0,0⟩)∨(b≠h.next∧ρ b=some i):=fun b i e=>by
  unfold Rel.vy Ren.put at e
  split at e
  ·rename_i q;exact .inl ⟨q,(oQ e).symm⟩
  ·rename_i q;exact .inr ⟨q,e⟩
 refine ⟨⟨fun b i e=>?_,fun b i B e f=>?_,fun b b' i i' e e' l l' _=>absurd l' (hb.vy vs b'),fun k hk=>?_⟩,hle,by simp [Rel.vy,Ren.put]⟩
 ·rcases sX b i e with ⟨rfl,rfl⟩ | ⟨_,e⟩
  ·exact ⟨BY _,hg⟩
  ·have:=r.tq b i e;exact ⟨Iy this.1,this.2⟩
 ·rcases sX b i e with ⟨rfl,rfl⟩ | ⟨hk,e⟩
  ·rw [Hp.rO,if_pos rfl] at f;obtain rfl:=oQ f;refine ⟨h1,fun j u hj=>?_⟩;obtain ⟨u',q1,q2⟩:=hv.at hj;exact ⟨u',hr j u' q1,q2.mono hle⟩
  ·rw [Hp.rO,if_neg hk] at f;exact (r.qS b i B e f).congr hle rfl
 ·have uI:h.next+1≤k:=hk;rw [Hp.rO,if_neg (by omega)];exact r.wf k (by omega)
theorem XW.back {f:tO} {fn:Func} {c:Code} {args:List jD} {tJ:List oT} {M:jD→Hp→Prop} (hK:AO P K) (hf:P.funcs[f]? = some fn) (hb:fn.body=some c) (hn:fn.name ≠ "runtime.NumGoroutine") (r:Rel ρ h w) (hv:pj ρ args tJ) (x:XW P K (.call f args h) fun o=>∃ v h',o = .call v h' ∧ M v h') :
  J8 P f tJ.toArray w (OW fun v' w'=>∃ v h' ρ',M v h' ∧ VR ρ' v v' ∧ Rel ρ' h' w' ∧ Ext ρ h w ρ' h' w'):=by
 rcases Zn hK x ρ w tJ r hv with ⟨_,e2⟩ | ⟨v',w',e1,_⟩
 ·refine GQ e2 fun e w' q=>?_;cases e with
  | returned v' =>
   obtain ⟨v,h',ρ',⟨v2,h2,e,q1⟩,q2⟩:=q;obtain ⟨rfl,rfl⟩:=Out.call.inj e;exact ⟨_,_,ρ',q1,q2⟩
  | panicked c=>exact q.elim
  | outgrown=>exact q.elim
 ·rw [O2 hf hb hn tJ.toArray w] at e1;cases e1
structure Kept (w w':pf):Prop where
 os:w'.os=w.os
 tape:w'.tape=w.tape
 output:w'.output=w.output
 size:w.heap.size≤w'.heap.size
 block:∀ k,k < w.heap.size→w'.heap[k]? = w.heap[k]?
 drawn:w.drawn≤w'.drawn
theorem Ext.kept {ρ':Ren} {h':Hp} {w':pf} (x:Ext ρ h w ρ' h' w') (hb:xj h):Kept w w' :=
 ⟨x.os,x.tape,x.output,x.size,fun k hk=>(x.frame k hk fun b i _ q=>absurd q (hb b)).1,x.drawn⟩
theorem XW.law {f:tO} {fn:Func} {c:Code} {args:List jD} {tJ:List oT} (hK:AO P K) (hf:P.funcs[f]? = some fn) (hb:fn.body=some c) (hn:fn.name ≠ "runtime.NumGoroutine") (r:Rel ρ h w) (hh:xj h) (hv:pj ρ args tJ) (x:XW P K (.call f args h) fun o=>∃ v h',o = .call v h' ∧ v = .b true) :
  J8 P f tJ.toArray w (OW fun v' w'=>v' = .bool true∧Kept w w'):=by
 refine GQ (XW.back hK hf hb hn r hv (M:=fun v _=>v = .b true) x) fun e w' q=>?_;cases e with
 | returned v' =>
  obtain ⟨v,h',ρ',rfl,q2,q3,q4⟩:=q;cases q2;exact ⟨rfl,q4.kept hh⟩
 | panicked c=>exact q.elim
 | outgrown=>exact q.elim
end
end Go.V
end
section
namespace Go.V
mutual
def jD.NL:jD→jD→Bool
 | .b x,.b y=>x == y
 | .i k n,.i j m=>decide (k=j)&&decide (n=m)
 | .s x,.s y=>decide (x=y)
 | .p a,.p b=>decide (a=b)
 | .sl a n c,.sl b m d=>decide (a=b)&&decide (n=m)&&decide (c=d)
 | .es,.es=>true
 | .m a,.m b=>decide (a=b)
 | .f g cs,.f g' ds=>decide (g=g')&&FV cs ds
 | .nf,.nf=>true
 | .agg cs,.agg ds=>FV cs ds
 | .qR cs,.qR ds=>FV cs ds
 | _,_=>false
def FV:List jD→List jD→Bool
 | [],[]=>true
 | x::r,y::s=>jD.NL x y&&FV r s
 | _,_=>false
end
mutual
theorem jD.WG:∀ {x y:jD},jD.NL x y=true→x=y:=by
 intro x y h;cases x <;> cases y <;> simp only [jD.NL,rk,decide_eq_true_eq,beq_iff_eq,zZ] at h
 ·rw [h]
 ·rw [h.1,h.2]
 ·rw [h]
 ·rw [h]
 ·rw [h.1.1,h.1.2,h.2]
 ·rfl
 ·rw [h]
 ·rw [h.1,NM h.2]
 ·rfl
 ·rw [NM h]
 ·rw [NM h]
theorem NM:∀ {x y:List jD},FV x y=true→x=y:=by
 intro x y h;cases x with
 | nil=>cases y with
  | nil=>rfl
  | cons _ _=>simp [FV] at h
 | cons a r=>cases y with
  | nil=>simp [FV] at h
  | cons b s =>
   simp only [FV,rk] at h;rw [jD.WG h.1,NM h.2]
end
section
variable (P:oZ)
def J0 (A:List Oper) (dr:Bool) (i:Nat) (pd:List yf) (h:Hp):Bool :=
 !dr||pd.all fun q=>((wC A []).getD i 0).testBit q.idx||(match qT P q.op,pJ P q.env h q.op with
  | .read,some (v,_)=>jD.NL v q.v
  | _,_=>false)
def YG (A:List Oper):Nat→List Nat→List Nat→List Nat
 | 0,_,acc=>acc.reverse
 | n+1,todo,acc =>
  let ready:=todo.filter fun i=>(oE A i).after.toList.all fun e=>!GV .any e||acc.contains e.on
  match (ready.find? fun i=>decide (qT P (oE A i).op ≠ .sQ)).or ready.head? with
  | some i=>YG A n (todo.filter (· != i)) (i::acc)
  | none=>acc.reverse
def ahI (A:List Oper):List Nat:=YG P A A.length (sN A.length) []
def vp:Nat→IF→Option Out
 | 0,_=>none
 | k+1,.code n c env h=>match c with
  | .skip=>some (.code .td env h)
  | .label _=>some (.code .td env h)
  | .exit i=>some (.code (.ext i) env h)
  | .ret=>some (.code .ret env h)
  | .seq a b=>(vp k (.code n a env h)).bind fun o=>match o with
   | .code .td rF h'=>vp k (.code n b rF h')
   | o=>some o
  | .cond x a b=>match pO env x with
   | some (.b t)=>vp k (.code n (bif t then a else b) env h)
   | _=>none
  | .block id a=>(vp k (.code n a env h)).map fun o=>match o with
   | .code (.ext i) rF h'=>.code (if i=id then .td else .ext i) rF h'
   | o=>o
  | .loop a=>(vp k (.code n a env h)).bind fun o=>match o with
   | .code .td rF h'=>vp k (.code n (.loop a) rF h')
   | o=>some o
  | .region id A dr =>
   let L:=bif dr then ahI P A.toList else sN A.toList.length
   if zC n A.toList=true∧(dr=true→P.follows .mixedOrders=true∧Gx P A.toList L=true) then vp k (.ops n A.toList dr L [] env h) else none
  | _=>none
 | k+1,.ops n A dr L pd env h=>match L with
  | []=>some (.code .td env h)
  | i::L=>if i < A.length then match xZ A env (oE A i) with
   | some false=>vp k (.ops n A dr L pd (zV env (oE A i).dst .no) h)
   | some true=>match zp env (oE A i).op with
    | some (f,args)=>(vp k (.call f args h)).bind fun o=>match o with
     | .call v h'=>bif J0 P A dr i pd h' then vp k (.ops n A dr L pd (zV env (oE A i).dst v) h') else none
     | _=>none
    | none=>(pJ P env h (oE A i).op).bind fun q =>
     if qT P (oE A i).op = .sQ→J0 P A dr i pd q.2=true then vp k (.ops n A dr L (zU P A i env q.1 pd) (zV env (oE A i).dst q.1) q.2) else none
   | none=>none
   else none
 | k+1,.call f args h=>match P.funcs[f]? with
  | some fn=>match fn.body with
   | some c=>if fn.name ≠ "runtime.NumGoroutine" ∧ args.length≤fn.ntmps then (vp k (.code fn.ntmps c (Ha 0 args .lf) h)).bind fun o=>match o with
    | .code .td rF h'=>(Ba P rF h' fn.results.toList).map fun vs=>.call (Du vs) h'
    | .code .ret rF h'=>(Ba P rF h' fn.results.toList).map fun vs=>.call (Du vs) h'
    | _=>none
    else none
   | none=>none
  | none=>none
end
theorem ZR {P:oZ} {A:List Oper} {dr:Bool} {i:Nat} {pd:List yf} {h:Hp} (hb:J0 P A dr i pd h=true):KB P A dr i pd h:=by
 intro hd q hq adV;subst hd;simp only [J0,uP,uB] at hb;have:=qB.1 hb q hq;rw [adV,uB] at this
 split at this
 ·rename_i v h' hk ho;rw [ho];obtain ⟨rfl,_⟩:=Sy hk ho;rw [jD.WG this]
 ·cases this
theorem WK {P:oZ} {K:Tb}:∀ (k:Nat) (j:IF) (o:Out),vp P k j=some o→XW P K j (· = o):=by
 intro k
 induction k with
 | zero=>intro j o h;simp [vp] at h
 | succ k ih =>
  intro j o hj;cases j with
  | code n c env h =>
   cases c with
   | skip=>simp only [vp,qL] at hj;exact .skip hj
   | label i=>simp only [vp,qL] at hj;exact .label hj
   | exit i=>simp only [vp,qL] at hj;exact .exit hj
   | ret=>simp only [vp,qL] at hj;exact .ret hj
   | seq a b =>
    simp only [vp] at hj;rw [oV] at hj;obtain ⟨o1,h1,h2⟩:=hj;refine .seq (ih _ _ h1) (fun rF h' e=>?_) (fun e rF h' ne he=>?_)
    ·subst e;exact ih _ _ h2
    ·subst he;cases e with
     | td=>exact absurd rfl ne
     | ext i=>exact oQ h2
     | ret=>exact oQ h2
   | cond x a b =>
    simp only [vp] at hj
    split at hj
    ·rename_i t hx;exact .cond hx (ih _ _ hj)
    ·cases hj
   | block id a =>
    simp only [vp] at hj;obtain ⟨o1,h1,h2⟩:=pU.1 hj;refine .block (ih _ _ h1) fun e rF h' he=>?_;subst he;cases e <;> exact h2
   | loop a =>
    simp only [vp] at hj;rw [oV] at hj;obtain ⟨o1,h1,h2⟩:=hj;refine .loop (ih _ _ h1) (fun rF h' e=>?_) (fun e rF h' ne he=>?_)
    ·subst e;exact ih _ _ h2
    ·subst he;cases e with
     | td=>exact absurd rfl ne
     | ext i=>exact oQ h2
     | ret=>exact oQ h2
   | region id A dr =>
    simp only [vp] at hj
    split at hj
    ·rename_i hc;have:=XW.region (P:=P) (K:=K) (id:=id) (dr:=dr) hc.1 (by
      cases dr with
      | true=>simp only [if_true];exact hc.2 rfl
      | false=>simp) (ih _ _ hj)
     simpa using this
    ·cases hj
   | _=>simp [vp] at hj
  | ops n A dr L pd env h =>
   cases L with
   | nil=>simp only [vp,qL] at hj;exact .L7 hj
   | cons i L =>
    simp only [vp] at hj
    split at hj
    ·rename_i hi
     split at hj
     ·rename_i hw;exact .L8 hi hw (ih _ _ hj)
     ·rename_i hw
      split at hj
      ·rename_i f args ht;rw [oV] at hj;obtain ⟨o1,h1,h2⟩:=hj;refine .JF hi hw ht (ih _ _ h1) (fun v h' e=>?_) (fun v h' e=>?_)
       ·subst e;simp only at h2;cases hs:J0 P A dr i pd h' with
        | true=>exact ZR hs
        | false=>rw [hs] at h2;cases h2
       ·subst e;simp only at h2;cases hs:J0 P A dr i pd h' with
        | true=>rw [hs] at h2;exact ih _ _ h2
        | false=>rw [hs] at h2;cases h2
      ·rename_i ht;rw [oV] at hj;obtain ⟨q,h1,h2⟩:=hj
       split at h2
       ·rename_i hs;exact .Fa hi hw h1 (fun hk=>ZR (hs hk)) (ih _ _ h2)
       ·cases h2
     ·cases hj
    ·cases hj
  | call f args h =>
   simp only [vp] at hj
   split at hj
   ·rename_i fn hf
    split at hj
    ·rename_i c hb
     split at hj
     ·rename_i hc;rw [oV] at hj;obtain ⟨o1,h1,h2⟩:=hj;refine .call hf hb hc.1 hc.2 (ih _ _ h1) fun e rF h' he=>?_;subst he;cases e with
      | td =>
       obtain ⟨vs,q1,q2⟩:=pU.1 h2;exact ⟨.inl rfl,vs,q1,q2⟩
      | ret =>
       obtain ⟨vs,q1,q2⟩:=pU.1 h2;exact ⟨.inr rfl,vs,q1,q2⟩
      | ext i=>cases h2
     ·cases hj
    ·cases hj
   ·cases hj
end Go.V
end
section
namespace Go.V
def Mu (h:Hp):jD→Option (List UInt8)
 | .sl (some a) n c=>(ui h 1 n (.sl (some a) n c)).bind C5
 | .sl none _ _=>some []
 | .es=>some []
 | _=>none
section
variable {P:oZ} {ρ:Ren} {h:Hp} {w:pf}
theorem Zc:∀ (ns:List Int) (w:pf) (a:Addr) (acc:ByteArray),(∀ j n,ns[j]? = some n→w.cell? (a.add j)=some (.int .u8 n)) →
  (PJ a ns.length acc).run P w = .ok ⟨acc.data++(ns.map fun n=>G5 n.toNat).toArray⟩ w
 | [],w,a,acc,_=>by simp [PJ]
 | x::xs,w,a,acc,h=>by
  have h0:=h 0 x rfl;have ha:a.add 0=a:=by simp [Iq]
  rw [ha] at h0;have ih:=Zc xs w (a.add 1) (acc.push x.toNat.toUInt8) fun j b hj=>by
   have e:(a.add 1).add j=a.add (j+1):=by simp [Iq,yc,Nat.add_comm 1 j]
   rw [e];exact h (j+1) b (by simpa using hj)
  have hl:(load a).run P w = .ok (.int .u8 x) w:=by simp [run_load,h0]
  simp only [List.length_cons,PJ,pB,hl,pK];rw [ih];simp [ByteArray.push]
theorem ZA {v:jD} {u:oT} {xs:List UInt8} (r:Rel ρ h w) (hv:VR ρ v u) (hs:Mu h v=some xs):(Ir u).run P w = .ok ⟨xs.toArray⟩ w:=by
 have key:∀ (b o n cc:Nat) (i:Info),ρ b=some i→((if n=0 then some [] else rd h b o (n*1)).bind C5)=some xs→(Ir (.slice (some ⟨i.g,i.base+o,none⟩) n cc)).run P w = .ok ⟨xs.toArray⟩ w:=fun b o n cc i hb hq=>by
  rw [oV] at hq;obtain ⟨c,h1,h2⟩:=hq;have hx:∃ us,pj ρ c us∧us.length=n∧w.rangeAt i.g (i.base+o) us:=by
   split at h1
   ·rename_i h0;obtain rfl:=oQ h1;exact ⟨[],pj.nil,by simp [h0],fun j v hv=>by simp at hv⟩
   ·obtain ⟨_,us,g1,g2,g3⟩:=r.rd hb h1;exact ⟨us,g1,by rw [g2];simp,g3⟩
  obtain ⟨us,g1,g2,g3⟩:=hx;obtain ⟨ns,rfl,rfl⟩:=QO h2 g1;have:=Zc (P:=P) ns w ⟨i.g,i.base+o,none⟩ .empty fun j n hj=>by
   have:=g3 j (.int .u8 n) (by simp [hj]);have e:Iq ⟨i.g,i.base+o,none⟩ j=⟨i.g,i.base+o+j,none⟩:=by
    unfold Iq
    split
    ·rename_i q;subst q;rfl
    ·rfl
   rw [e];exact this
  have hl:ns.length=n:=by simpa using g2
  subst hl;simp only [Ir,this]
  congr 2
  simp [ByteArray.empty,ByteArray.emptyWithCapacity];rfl
 cases hv with
 | sn=>obtain rfl:=oQ hs;simp [Ir];rfl
 | es=>obtain rfl:=oQ hs;simp [Ir,PJ];rfl
 | sk hb hk=>exact key _ _ _ _ _ hb hs
 | so hb hk q1 q2=>exact key _ _ _ _ _ hb hs
 | _=>simp [Mu] at hs
def ye (P:oZ):Tb:=fun f args h M=>∃ g u v a b,P.funcs[f]? = some g∧(g.name == "runtime.NumGoroutine")=false∧g.body.isNone=true∧Extern.findNext g=none∧Extern.find g=some Extern.BytealgCompare.compare ∧
 args=[u,v]∧Mu h u=some a∧Mu h v=some b∧M (.i .i64 (Lib.compareBytes a b)) h
theorem Ve:AO P (ye P):=by
 rintro f args h M ⟨g,u,v,a,b,hf,Lv,hb,hn,he,rfl,hu,hv,hM⟩ ρ w tJ r hr
 match tJ,hr with
 | [u',v'],hr =>
  have h1:=run_callFunc_extern (P:=P) hf Lv hb hn he #[u',v'] w;have h2:(Extern.BytealgCompare.compare #[u',v']).run P w = .ok (.int .i64 (Lib.compareBytes a b)) w:=by
   change ((Ir u') >>= fun a=>(Ir v') >>= fun b=>pure (goInt (Extern.BytealgCompare.cmp a b))).run P w=_;simp only [pB,ZA r hr.head hu,ZA r hr.tail.head hv,pK,pT,goInt];rw [Lib.cmp_eq]
  rw [h2] at h1;exact .inr ⟨_,w,h1,_,h,ρ,hM,.i _ _,r,Ext.refl _ _ _⟩
 | [],hr=>exact absurd hr.1 (by simp)
 | [_],hr=>exact absurd hr.1 (by simp)
 | _::_::_::_,hr=>exact absurd hr.1 (by simp)
end
end Go.V
end
section
namespace Go.V
section
variable {P:oZ} {K K':Tb} {ρ:Ren} {h:Hp} {w w':pf}
theorem Tb.or (hK:AO P K) (hK':AO P K'):AO P (fun f args h M=>K f args h M∨K' f args h M):=by
 rintro f args h M (q | q)
 ·exact hK f args h M q
 ·exact hK' f args h M q
end
end Go.V
end
section
namespace Go.V
def rJ (h:Hp) (b o:Nat):Option jD:=match h.get b with
 | some (.cells _ c)=>c[o]?
 | some (.ro c)=>c[o]?
 | _=>none
abbrev jL:=Nat→Nat→Option jD
def jL.le (F G:jL):Prop:=∀ b o u,F b o=some u→G b o=some u
theorem jL.le.refl (F:jL):F.le F:=fun _ _ _ h=>h
theorem jL.le.trans {F G H:jL} (a:F.le G) (b:G.le H):F.le H:=fun x o u h=>b x o u (a x o u h)
def Agree (F:jL) (h:Hp):Prop:=∀ b o u,F b o=some u→rJ h b o=some u
theorem Agree.le {F G:jL} {h:Hp} (a:Agree G h) (l:F.le G):Agree F h:=fun x o u e=>a x o u (l x o u e)
def qH (h:Hp):jL:=rJ h
theorem JE (h:Hp):Agree (qH h) h:=fun _ _ _ e=>e
theorem H5 {h:Hp} {b o n:Nat} {c:List jD} (hc:c.length=n) (hn:0 < n) (hq:∀ j u,c[j]? = some u→rJ h b (o+j)=some u):rd h b o n=some c:=by
 have key:∀ d:List jD,(∀ j u,c[j]? = some u→d[o+j]? = some u)→(if o+n≤d.length then some ((d.drop o).take n) else none)=some c:=fun d hd=>by
  have hl:o+n≤d.length:=by
   have h1:=hd (n - 1) (c[n - 1]'(by omega)) (pF _);have:=(qO.1 h1).1;omega
  rw [if_pos hl]
  congr 1
  apply CR;intro j;rw [tQ]
  split
  ·rename_i hj;rw [vi,pF (by omega:j < c.length)];exact hd j _ (pF _)
  ·rename_i hj;rw [zr (by omega)]
 have h0:=hq 0 (c[0]'(by omega)) (pF _);unfold rd;cases hg:h.get b with
 | none=>simp [rJ,hg] at h0
 | some B =>
  cases B with
  | cells z d=>exact key d fun j u hj=>by have:=hq j u hj;simpa [rJ,hg] using this
  | ro d=>exact key d fun j u hj=>by have:=hq j u hj;simpa [rJ,hg] using this
  | map es=>simp [rJ,hg] at h0
  | dead=>simp [rJ,hg] at h0
abbrev Cl (s:Nat):={ l:List jD // l.length=s }
structure Tr (α:Type) where
 size:Nat
 rel:jL→List jD→α→Prop
 pos:0 < size
 len:∀ {F cs x},rel F cs x→cs.length=size
 one:∀ {F cs x},rel F cs x→cs.all jD.one=true
 mono:∀ {F G cs x},F.le G→rel F cs x→rel G cs x
def G8 (F:jL) (v:jD) (s:Nat) (css:List (Cl s)):Prop :=
 (v = .es∧css=[]) ∨ ∃ a c,v = .sl a css.length (.of s c)∧css.length≤maxLen∧(∀ k,c=some k→css.length≤k)∧(a=none→css=[]∧c=some 0) ∧
  ∀ b o,a=some (b,o) → ∀ (i:Nat) (d:Cl s) (j:Nat) (u:jD),css[i]? = some d→d.1[j]? = some u→F b (o+(i*s+j))=some u
def wW {α:Type} (t:Tr α) (F:jL) (css:List (Cl t.size)) (xs:List α):Prop:=css.length=xs.length ∧ ∀ (i:Nat) (d:Cl t.size) (x:α),css[i]? = some d→xs[i]? = some x→t.rel F d.1 x
def oF {α:Type} (t:Tr α) (F:jL) (v:jD) (xs:List α):Prop:=∃ css,wW t F css xs∧G8 F v t.size css
section
variable {α:Type} {t:Tr α} {F G:jL} {v:jD} {xs:List α} {s:Nat} {css:List (Cl s)}
theorem G8.mono (h:G8 F v s css) (l:F.le G):G8 G v s css:=by
 rcases h with h | ⟨a,c,e1,e2,e3,e4,e5⟩
 ·exact .inl h
 ·exact .inr ⟨a,c,e1,e2,e3,e4,fun b o vq i d j u h1 h2=>l _ _ _ (e5 b o vq i d j u h1 h2)⟩
theorem wW.mono {css:List (Cl t.size)} (h:wW t F css xs) (l:F.le G):wW t G css xs:=⟨h.1,fun i d x h1 h2=>t.mono l (h.2 i d x h1 h2)⟩
theorem oF.mono (h:oF t F v xs) (l:F.le G):oF t G v xs:=by
 obtain ⟨css,h1,h2⟩:=h;exact ⟨css,h1.mono l,h2.mono l⟩
theorem oF.nil (F:jL):oF t F (.sl none 0 (.k 0)) []:=⟨[],⟨rfl,fun i d x h _=>by simp at h⟩,.inr ⟨none,some 0,rfl,by simp,fun k hk=>by simp,fun _=>⟨rfl,rfl⟩,fun b o h=>by cases h⟩⟩
theorem oF.one (h:oF t F v xs):v.one=true:=by
 obtain ⟨css,h1,h2⟩:=h;rcases h2 with ⟨rfl,rfl⟩ | ⟨a,c,rfl,e2,_⟩ <;> rfl
theorem oF.at_ (h:oF t F v xs) {i:Nat} {x:α} (hi:xs[i]? = some x):∃ cs b o c,v = .sl (some (b,o)) xs.length (.of t.size c)∧t.rel F cs x ∧ ∀ j u,cs[j]? = some u→F b (o+i*t.size+j)=some u:=by
 obtain ⟨css,h1,h2⟩:=h;have hl:=(qO.1 hi).1;have hd:=pF (l:=css) (i:=i) (by rw [h1.1];exact hl);have hr:=h1.2 _ _ _ hd hi;rcases h2 with ⟨rfl,rfl⟩ | ⟨a,c,rfl,e2,e3,e4,e5⟩
 ·exact absurd h1.1 (by simp;omega)
 ·cases a with
  | none=>have:=(e4 rfl).1;have:=h1.1;simp_all
  | some ad=>exact ⟨_,ad.1,ad.2,c,by rw [h1.1],hr,fun j u hj=>by rw [yc];exact e5 _ _ rfl i _ j u hd hj⟩
end
def tI:Tr Int:=⟨1,fun _ cs n=>cs=[.i .i64 n],by decide,fun h=>by rw [h];rfl,fun h=>by rw [h];rfl,fun _ h=>h⟩
def tB:Tr UInt8:=⟨1,fun _ cs n=>cs=[.i .u8 n.toNat],by decide,fun h=>by rw [h];rfl,fun h=>by rw [h];rfl,fun _ h=>h⟩
def akK:Tr Bool:=⟨1,fun _ cs b=>cs=[.b b],by decide,fun h=>by rw [h];rfl,fun h=>by rw [h];rfl,fun _ h=>h⟩
def tS:Tr (List UInt8):=⟨1,fun _ cs s=>cs=[.s s],by decide,fun h=>by rw [h];rfl,fun h=>by rw [h];rfl,fun _ h=>h⟩
def GJ {α:Type} (t:Tr α):Tr (List α) :=
 ⟨1,fun F cs xs=>∃ v,cs=[v]∧oF t F v xs,by decide,fun ⟨v,h,_⟩=>by rw [h];rfl,fun ⟨v,h,k⟩=>by rw [h];simp [k.one],fun l ⟨v,h,k⟩=>⟨v,h,k.mono l⟩⟩
end Go.V
end
section
namespace Go.V
open Go.RowKit Go.ChangeShapes Go.WideShapes Go.Deep
theorem Je {s:Nat}:∀ {css:List (Cl s)} {i:Nat} {d:Cl s} {j:Nat} {u:jD},css[i]? = some d→d.1[j]? = some u→(css.map qK).flatten[i*s+j]? = some u
 | [],i,d,j,u,h,_=>by simp at h
 | c::css,0,d,j,u,h,hj=>by
  simp at h;subst h;have:=(qO.1 hj).1;rw [xi,vh,Nat.zero_mul,pA,s6 this];exact hj
 | c::css,i+1,d,j,u,h,hj=>by
  have ih:=Je (css:=css) (i:=i) (by simpa using h) hj;rw [xi,vh,rV,s7 (by rw [c.2];omega),c.2,← ih]
  congr 1;omega
section
variable {H:Type} {enc:oI × oT→H} {P:oZ} {w:pf}
def vO {H:Type} (enc:oI × oT→H) (P:oZ) (w:pf) (T:oI) {α:Type} (t:Tr α) (ok:α→Prop):Prop :=
 ∀ fuel cs x,BT enc P w 0 (fun _=>true) true fuel T cs=some x → ∀ ρ h,Rel ρ h w→xj h → ∃ ρ' h' vs a,Rel ρ' h' w∧xj h' ∧ ρ.le ρ' ∧ jL.le (qH h) (qH h')∧pj ρ' vs cs∧t.rel (qH h') vs a∧ok a
def zf (n:Int):Prop:=-9223372036854775808≤n∧n≤9223372036854775807
def yM {α:Type} (ok:α→Prop) (xs:List α):Prop:=xs.length≤maxLen ∧ ∀ x∈xs,ok x
def L6 {α:Type} (_:α):Prop:=True
theorem Az {T:oI} (ht:P.underlying T=some (.int .i64)):vO enc P w T tI zf:=by
 intro fuel cs x h ρ hp r hb;have:∃ n,cs=[.int .i64 n]∧(Lit.int .i64 n).wf=true:=by
  cases fuel with
  | zero=>simp [BT] at h
  | succ m =>
   unfold BT at h;rw [ht] at h
   split at h <;> simp_all
 obtain ⟨n,rfl,hw⟩:=this;exact ⟨ρ,hp,[.i .i64 n],n,r,hb,Ren.le.refl _,jL.le.refl _,pj.nil.cons (.i _ _),rfl,by simpa [zf,Lit.wf,Uk,Uj,GU,GS] using hw⟩
theorem YF {T:oI} (ht:P.underlying T=some (.int .u8)):vO enc P w T tB L6:=by
 intro fuel cs x h ρ hp r hb;have:∃ n,cs=[.int .u8 n]∧(Lit.int .u8 n).wf=true:=by
  cases fuel with
  | zero=>simp [BT] at h
  | succ m =>
   unfold BT at h;rw [ht] at h
   split at h <;> simp_all
 obtain ⟨n,rfl,hw⟩:=this;have hx:0≤n∧n≤255:=by simpa [Lit.wf,Uk,Uj,GU,GS] using hw
 refine ⟨ρ,hp,[.i .u8 n],G5 n.toNat,r,hb,Ren.le.refl _,jL.le.refl _,pj.nil.cons (.i _ _),?_,trivial⟩;show [jD.i .u8 n]=[.i .u8 ((G5 n.toNat).toNat:Int)]
 simp only [UInt8.toNat_ofNat']
 congr 2
 omega
theorem ahD {T:oI} (ht:P.underlying T=some .bool):vO enc P w T akK L6:=by
 intro fuel cs x h ρ hp r hb;have:∃ b,cs=[.bool b]:=by
  cases fuel with
  | zero=>simp [BT] at h
  | succ m =>
   unfold BT at h;rw [ht] at h
   split at h <;> simp_all
 obtain ⟨b,rfl⟩:=this;exact ⟨ρ,hp,[.b b],b,r,hb,Ren.le.refl _,jL.le.refl _,pj.nil.cons (.b _),rfl,trivial⟩
theorem YE {T:oI} (ht:P.underlying T=some .string):vO enc P w T tS (fun s=>s.length≤maxLen):=by
 intro fuel cs x h ρ hp r hb;have:∃ s:ByteArray,cs=[.string s]∧s.size≤maxLen:=by
  cases fuel with
  | zero=>simp [BT] at h
  | succ m =>
   unfold BT at h;rw [ht] at h
   split at h <;> simp_all
 obtain ⟨s,rfl,hs⟩:=this;exact ⟨ρ,hp,[.s s.data.toList],s.data.toList,r,hb,Ren.le.refl _,jL.le.refl _,pj.nil.cons (.s s.data.toList),rfl,hs⟩
theorem ahn {h:Hp} {B:sD} (hw:∀ b,h.next≤b→h.get b=none):jL.le (qH h) (qH (h.new B)):=fun b o u e=>by
 unfold qH rJ at e ⊢;rw [Hp.rO,if_neg]
 ·exact e
 ·intro q;rw [q,hw _ (px _)] at e;cases e
theorem A7 {T e:oI} {α:Type} {t:Tr α} {ok:α→Prop} (ht:P.underlying T=some (.slice e)) (hc:P.cellsOf e=t.size) (he:vO enc P w e t ok):vO enc P w T (GJ t) (yM ok):=by
 intro fuel cs x h ρ hp r hb;rcases open_slice ht h with ⟨rfl,_⟩ | ⟨a,len,cap,m,n,D,Pl,rfl,_,hl,hm,hmm,_,hx⟩
 ·exact ⟨ρ,hp,[.sl none 0 (.k 0)],[],r,hb,Ren.le.refl _,jL.le.refl _,pj.nil.cons .sn,⟨_,rfl,oF.nil _⟩,by simp [yM]⟩
 ·rw [if_pos rfl] at hmm;rw [hc] at hx;have key:∀ k,k≤len → ∃ ρ' h' us xs,∃ css:List (Cl t.size),Rel ρ' h' w∧xj h' ∧ ρ.le ρ' ∧ jL.le (qH hp) (qH h')∧css.length=k∧wW t (qH h') css xs∧(∀ x∈xs,ok x)∧pj ρ' (css.map qK).flatten us∧us.length=k*t.size ∧ ∀ j u,us[j]? = some u→w.cell? ⟨a.block,a.off+j,none⟩=some u∧a.spot=none:=by
   intro k
   induction k with
   | zero=>intro _;exact ⟨ρ,hp,[],[],[],r,hb,Ren.le.refl _,jL.le.refl _,rfl,⟨rfl,fun i d x h _=>by simp at h⟩,by simp,pj.nil,by simp,fun j u h=>by simp at h⟩
   | succ k ih =>
    intro hk;obtain ⟨Fo,h1,us,xs,css,r1,b1,l1,f1,c1,c2,c3,c4,c5,c6⟩:=ih (by omega);obtain ⟨cs',g1,g2⟩:=hx k (by omega);obtain ⟨_,g3,g4⟩:=World.cells?_some g1;obtain ⟨Fp,h2,vs,y,r2,b2,l2,f2,d1,d2,d3⟩:=he _ _ _ g2 Fo h1 r1 b1;have hlen:=t.len d2;have ad5:∀ j u,cs'[j]? = some u→w.cell? ⟨a.block,a.off+(k*t.size+j),none⟩=some u∧(k=0→a.spot=none):=fun j u hj=>by
     have ta:j < t.size:=by have:=(qO.1 hj).1;omega
     have:=g4 j ta;rw [hj] at this
     by_cases Dl:k=0
     ·subst Dl;have NW:=g4 0 t.pos;have Sa:a.spot=none:=by
       cases hs:a.spot with
       | none=>rfl
       | some sp =>
        have hz:cs'[0]? = some (cs'[0]'(by rw [g3];exact t.pos)):=pF _;rw [hz] at NW;simp [Iq,zq,hs] at NW
        split at NW <;> cases NW
      refine ⟨?_,fun _=>Sa⟩;rw [← this]
      congr 1
      cases a;simp at Sa;subst Sa;unfold Iq
      split <;> simp_all
     ·refine ⟨?_,fun q=>absurd q Dl⟩;rw [← this]
      congr 1
      unfold Iq;have h0:¬ (k*t.size=0):=by
       intro q;rcases Nat.mul_eq_zero.1 q with q | q
       ·exact Dl q
       ·have:=t.pos;omega
      rw [if_neg h0]
      split <;> simp_all [yc]
    refine ⟨Fp,h2,us++cs',xs++[y],css++[⟨vs,hlen⟩],r2,b2,l1.trans l2,f1.trans f2,by simp [c1],⟨by simp [c2.1],fun i d x hi A2=>?_⟩,fun x A2=>?_,?_,by simp [c5,g3,Nat.succ_mul],fun j u hj=>?_⟩
    ·by_cases XB:i < css.length
     ·rw [s6 XB] at hi;rw [s6 (by rw [← c2.1];exact XB)] at A2;exact t.mono f2 (c2.2 i d x hi A2)
     ·rw [s7 (by omega)] at hi;rw [s7 (by rw [← c2.1];omega),← c2.1] at A2;have:i - css.length=0:=by have:=(qO.1 hi).1;simp at this;omega
      rw [this] at hi A2;simp at hi A2;subst hi;subst A2;exact d2
    ·rcases vj.1 A2 with q | q
     ·exact c3 x q
     ·simp at q;subst q;exact d3
    ·rw [List.map_append,List.flatten_append];simp only [xi,List.map_nil,vh,List.flatten_nil,vM];exact (c4.mono l2).append d1
    ·by_cases ta:j < us.length
     ·rw [s6 ta] at hj;exact c6 j u hj
     ·rw [s7 (by omega)] at hj;obtain ⟨q1,q2⟩:=ad5 _ u hj;rw [c5] at q1 ta;refine ⟨by rw [← q1];congr 2;omega,?_⟩
      by_cases Dl:k=0
      ·exact q2 Dl
      ·have sL:=t.pos;have hu0:us[0]? = some (us[0]'(by rw [c5];exact IA (by omega) sL)):=pF _;exact (c6 0 _ hu0).2
  obtain ⟨Fo,h1,us,xs,css,r1,b1,l1,f1,c1,c2,c3,c4,c5,c6⟩:=key len (px _);have Jq:xs.length=len:=by rw [← c2.1];exact c1
  by_cases hl0:len=0
  ·subst hl0;refine ⟨Fo,h1,[.es],xs,r1,b1,l1,f1,pj.nil.cons .es,⟨.es,rfl,css,c2,.inl ⟨rfl,tP c1⟩⟩,by omega,c3⟩
  ·have sL:0 < us.length:=by rw [c5];exact IA (by omega) t.pos
   obtain ⟨q1,q2⟩:=c6 0 _ (pF sL);have hg:a.block < w.heap.size:=by
    unfold zq at q1;cases hq:w.heap[a.block]? with
    | none=>simp [hq] at q1
    | some ob=>exact (Array.getElem?_eq_some_iff.1 hq).1
   have wY:(css.map qK).flatten.all jD.one=true:=qB.2 fun v hv=>by
    obtain ⟨l,vQ,Cv⟩:=List.mem_flatten.1 hv;obtain ⟨d,wK,rfl⟩:=z7.1 vQ;obtain ⟨i,hi,rfl⟩:=vX wK;have Si:i < xs.length:=by rw [← c2.1];exact hi
    exact qB.1 (t.one (c2.2 i _ _ (pF hi) (pF Si))) v Cv
   obtain ⟨r2,l2,hs⟩:=r1.view b1 (g:=a.block) (off:=a.off) wY c4 (fun j u hj=>(c6 j u hj).1) hg;have f2:jL.le (qH h1) (qH (h1.new (.ro (css.map qK).flatten))):=ahn r1.wf;refine ⟨_,_,[.sl (some (h1.next,0)) len (.k cap)],xs,r2,b1.vy _,l1.trans l2,f1.trans f2,pj.nil.cons ?_,⟨_,rfl,css,c2.mono f2,.inr ⟨some (h1.next,0),some cap,by rw [c1];rfl,by rw [c1];omega,fun k hk=>?_,fun q=>(by cases q),fun b o vq i d j u hi hj=>?_⟩⟩,by omega,c3⟩
   ·have:=VR.sk (ρ:=Rel.vy Fo h1 a.block a.off) (o:=0) hs hl;have ea:a=⟨a.block,a.off+0,none⟩:=by cases a;simp at q2;subst q2;rfl
    rw [ea];exact this
   ·obtain rfl:=oQ hk;rw [c1];exact hl
   ·simp only [qL,pZ] at vq;obtain ⟨rfl,rfl⟩:=vq;unfold qH rJ;rw [Hp.rO,if_pos rfl,pA];exact Je hi hj
end
end Go.V
end
section
namespace Go.V
open Go.RowKit Go.ChangeShapes Go.WideShapes Go.Deep
section
variable {H:Type} {enc:oI × oT→H} {P:oZ} {w:pf}
theorem Kept.Yg {w w':pf} (h:Kept w w'):Go.RowKit.Below w.heap.size w w':=⟨h.os,h.tape,h.output,h.size,h.block⟩
theorem Z5 {base:Nat} {sp:Nat→Bool} {held:Bool}:∀ (ts:List oI) (vs:List oT) (ds:List (Et H)) (ps:List Fw),PI enc P w base sp held ts vs ds ps→ds.length=ts.length
 | [],[],[],_,_=>rfl
 | t::ts,v::vs,d::ds,ps,h=>by
  obtain ⟨p,q,_,h2,_⟩:=h;simp [Z5 ts vs ds q h2]
 | [],_::_,_,_,h=>h.elim
 | [],[],_::_,_,h=>h.elim
 | _::_,[],_,_,h=>h.elim
 | _::_,_::_,[],_,h=>h.elim
theorem Z4 {w':pf} (hl:laidOutB P=true) (hb:Kept w w'):∀ (ts:List oI) (vs:List oT) (ds:List (Et H)) (ps:List Fw),(ts.all fun t=>P.readableRec t&&decide (t < P.types.size))=true →
  PI enc P w 0 (fun _=>true) true ts vs ds ps→(∀ x∈ps,x.block < w.heap.size)→PI enc P w' 0 (fun b=>decide (b < w.heap.size)) true ts vs ds ps
 | [],[],[],_,_,h,_=>h
 | t::ts,v::vs,d::ds,ps,y9,h,pv=>by
  obtain ⟨p,q,h1,h2,rfl⟩:=h;simp only [tZ,rk,decide_eq_true_eq] at y9;exact ⟨p,q,RowKit.Below.trod hl y9.1.1 y9.1.2 h1 hb.Yg (fun x hx=>pv x (by simp [hx])),Z4 hl hb ts vs ds q y9.2 h2 (fun x hx=>pv x (by simp [hx])),rfl⟩
 | [],_::_,_,_,_,h,_=>h.elim
 | [],[],_::_,_,_,h,_=>h.elim
 | _::_,[],_,_,_,h,_=>h.elim
 | _::_,_::_,[],_,_,h,_=>h.elim
theorem agV {f:Func} {F:tO} {s:ChangeSpec} {tb:oI} {k:Nat} (hl:laidOutB P=true) (y9:(f.params.toList.all fun t=>P.readableRec t&&decide (t < P.types.size))=true) (hk:f.params.toList.length=k) (hrt:f.resultTypes = #[tb]) (htb:P.underlying tb=some .bool)
  (XS:s.vars=[]) (hfn:∀ ds:List (Et H),ds.length=k→(s.fn H ds).results=[.lit (.bool true)]∧(s.fn H ds).args=ds∧(s.fn H ds).vars=[])
  (W:pf) (base:Nat) (args:Array oT) (ds gs:List (Et H)) (before:List Fw)
  (ad3:∀ p,PI enc P W 0 (fun _=>true) true f.params.toList args.toList ds p→J8 P F args W (OW fun v w'=>v = .bool true∧Kept W w'))
  (hW:DataW.Whole enc P f.params.toList s.vars false W args.toList ds gs before) :
  J8 P F args W fun e W'=>∃ v,e = .returned v∧s.post enc P f false true false false W args v W':=by
 have Xi:=hW;obtain ⟨p,q,hA,hV,rfl,Lj,qZ⟩:=hW;rw [XS] at hV;obtain ⟨rfl,rfl⟩:=trodVars_none hV;refine GQ (ad3 p hA) fun e W' hq=>?_;cases e with
 | returned v =>
  obtain ⟨rfl,hb⟩:=hq;obtain ⟨h1,h2,h3⟩:=hfn (ds++[]) (by rw [vM,Z5 _ _ _ _ hA,hk]);refine ⟨_,rfl,ds,[],_,[],p,[],Xi,?_,?_,?_,hb.Yg.frame _,fun h=>by cases h⟩
  ·rw [h1,hrt];exact trodAll_cons_mk (shut_bool htb _) trodAll_mk0
  ·rw [h2,vM];exact Z4 hl hb _ _ _ _ y9 hA (fun x hx=>Xi.lt x (by simpa using hx))
  ·rw [h3,XS];rfl
 | _=>exact hq.elim
theorem VF {base:Nat} {T:oI} {α:Type} {t:Tr α} {ok:α→Prop} {v:oT} {d:Et H} {ps:List Fw} (ho:vO enc P w T t ok) (h:T9 enc P w 0 (fun _=>true) true T v d ps) {ρ:Ren} {hp:Hp} (r:Rel ρ hp w) (hb:xj hp) :
  ∃ ρ' h' vs a,Rel ρ' h' w∧xj h' ∧ ρ.le ρ' ∧ jL.le (qH hp) (qH h')∧pj ρ' vs v.cells.toList∧t.rel (qH h') vs a∧ok a:=by
 obtain ⟨fuel,hf⟩:=h;exact ho _ _ _ hf ρ hp r hb
theorem cells_one {v:oT} {a:Option Addr} {len cap:Nat} (h:v = .slice a len cap):v.cells.toList=[v]:=by subst h;rfl
theorem VG {base:Nat} {T e:oI} {α:Type} {t:Tr α} {ok:List α→Prop} {v:oT} {d:Et H} {ps:List Fw} (ht:P.underlying T=some (.slice e)) (D2:Value.okWide P w .any base T v) (ho:vO enc P w T (GJ t) ok) (h:T9 enc P w 0 (fun _=>true) true T v d ps) {ρ:Ren} {hp:Hp} (r:Rel ρ hp w) (hb:xj hp) :
  ∃ ρ' h' u a,Rel ρ' h' w∧xj h' ∧ ρ.le ρ' ∧ jL.le (qH hp) (qH h')∧VR ρ' u v∧oF t (qH h') u a∧ok a:=by
 obtain ⟨a,len,cap,hv⟩:=okWide_slice ht D2;obtain ⟨ρ',h',vs,x,h1,h2,h3,h4,h5,⟨u,rfl,hs⟩,RZ⟩:=VF (base:=base) ho h r hb;rw [cells_one hv] at h5;exact ⟨ρ',h',u,x,h1,h2,h3,h4,h5.head,hs,RZ⟩
end
end Go.V
end
