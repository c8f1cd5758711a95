/- Values, a heap and operations of plain data: what a program's code does in one order, where no capacity is asked that is not known. What a piece of code does, in one order: an inductive predicate over plain data. The plain heap and the model's memory: blocks have other names there, known cells are alike. Operations: what the plain ones give, the model's give, alike. Operations that turn no memory: what the plain ones give, the model's give, alike. Operations on memory: what the plain ones give, the model's give, alike. Literals, rows of noughts, slices. Slices: cut, appended, copied, cleared.  -/
import Derived.WalkKit
import Derived.Deep.LoopGhost
import Derived.Deep.AppendSrc
import Derived.Deep.MidRow
import Derived.Laws.IdiomStrings
import Derived.Deep.Upon
import Derived.Lib.AppendZeros
import Derived.Lib.Bytealg
import Derived.Laws.Externs
import Derived.ProofKit
import Derived.OpenShut
import Derived.Carry
import Derived.Deep.Slices
set_option linter.unusedVariables false
set_option linter.unusedSimpArgs false
open Array renaming ext'→wC, getD_eq_getD_getElem?→tC, getElem?_eq_getElem→Rb, getElem?_modify→zG, getElem?_push→Db, getElem?_setIfInBounds→zH, length_toList→Mv, range→B4, replicate→Mw, toArray_toList→xy
open BitVec renaming ofInt→pv
open Bool renaming and_eq_true→jK, false_eq_true→sY, false_or→nG, not_eq_true'→tE, not_true→nH, or_eq_true→rW
open ByteArray renaming size→AP
open Classical renaming byContradiction→Js
open Go renaming BinOp→wD, BoundsCode→Rf, Calls→GS, DataW→B6, Field→zM, FuncId→nI, IntKind→pQ, MapEntry→B7, MemPlace→Dh, Operand→iT, Program→iY, ResultVar→Dl, TypeDesc→tF, TypeId→iA, TypeInfo→ES, Value→iU, World→jb, grownCap_ge→JF, run_convert_bytes_string→RF, run_program→RG, run_storeCells_cells→MM, run_underlying→j7, wp_mono→RH
open Go.Act renaming put→AQ
open Go.Addr renaming add→EG
open Go.BoundsCode renaming slice3C→Rg
open Go.Builtin renaming append_→Dc, clear_→Ju, copy_→MA, firstCells→wE, len_→Dd, zeroCells→vK
open Go.Call renaming operands→MB
open Go.Calls renaming mono→De
open Go.DataW renaming Trod→Rh, TrodAll→MC, trod→AR
open Go.Extern.Bytes renaming bytesOf→EH, loadBytes→MD
open Go.Instr renaming build→Rl, checkKey→Jv, fill→GU, findKey→Jw, findNow→Jx, index→Rm, indexAt→Ro, lookup→Rp, makeMap→ME, mapUpdate→Rq, sameBits→MF, sameNow→Rr, slice→GV, sliceAt→Df, sliceBound→MG, sliceBounds→MH, sureAddr→Jy
open Go.IntKind renaming bits→EI, i64→yE, signed→EJ
open Go.Obj.cells renaming inj→JA
open Go.Op renaming bytesLess→wF, eqFields→Rt, eqItems→Ru, equal→Rv, equalIn→wG, operands→nn
open Go.Region renaming binds→Dk, ready→JC
open Go.Result renaming andThen_ok→jA
open Go.Sem renaming run→Dm, run_bind→jq, run_pure→jP
open Go.Value renaming cells→RB, int→RC, okWide→RD, tuple→RE
open Go.World renaming cell?→uq, freeze→ML, frozen?→ET, setCell→JD, setCells→GX, shape?→JE
open Int renaming natCast_mul→JG, toNat_natCast→ly
open List renaming all_cons→nJ, all_eq_true→j9, append_assoc→pG, append_nil→rY, eq_nil_of_length_eq_zero→nK, ext_getElem?→Ca, flatten_cons→o7, getD_eq_getElem?_getD→pR, getElem?_append_left→mU, getElem?_append_right→nq, getElem?_cons_succ→RT, getElem?_cons_zero→E1, getElem?_drop→pS, getElem?_eq_getElem→jx, getElem?_eq_none→zN, getElem?_eq_some_iff→kI, getElem?_map→sF, getElem?_set_self→uv, getElem?_take→oc, getElem?_toArray→AT, getElem_mem→jF, getElem_of_mem→my, length_append→kU, length_cons→tG, length_map→sH, mapM_cons→qa, map_cons→qI, mem_append→mF, mem_cons→lM, mem_cons_of_mem→mV, mem_flatten→ny, mem_map→qJ, mem_of_getElem?→pH, mem_of_mem_drop→sI, mem_of_mem_take→sJ, mem_range→MV, nodup_nil→AY, range→mI, replicate→iV, replicate_succ→G4, tail_drop→MW, take_left'→E7, take_length→ow
open Nat renaming add_assoc→sK, add_mul→lQ, add_zero→sZ, beq→rZ, eq_of_beq_eq_true→xD, eq_zero_or_pos→JO, le_refl→jg, le_succ→vN, le_trans→nY, lt_of_lt_of_le→sa, lt_or_ge→G7, lt_succ_of_lt→E9, lt_succ_self→xF, min→R4, mod_lt→zR, mul_le_mul→MY, mul_le_mul_right→nL, mul_pos→Fa, ne_of_beq_eq_false→G8, ne_of_lt→R7, sub_zero→zS, zero_add→jn, zero_le→ju
open Option renaming bind_eq_bind→wN, bind_eq_some_iff→iO, bind_some→jy, getD_some→sd, map_eq_some_iff→jR, map_some→lE, pure_def→Hb
open Option.some renaming inj→iK, injEq→km
open Prod.mk renaming injEq→jT
open Subtype renaming val→kg
open UInt8 renaming ofNat→Fb
section
namespace Go.V
inductive T(α:Type)where
 |lf
 |nd (v:Option α) (l r:T α)
namespace T
variable{α:Type}
def get:T α→Nat→Option α
 | .lf,_=>none
 | .nd v l r,n=>match n with
  |0=>v
  |m+1=>bif rZ (m%2) 0 then l.get (m/2)else r.get (m/2)
def val:T α→Option α
 | .lf=>none
 | .nd v _ _=>v
def Iz:T α→T α
 | .lf=>.lf
 | .nd _ l _=>l
def I2:T α→T α
 | .lf=>.lf
 | .nd _ _ r=>r
def Et:Nat→T α→Nat→α→T α
 |0,t,_,_=>t
 |f+1,t,n,x=>match n with
  |0=>.nd (some x) t.Iz t.I2
  |m+1=>bif rZ (m%2) 0 then .nd t.val (Et f t.Iz (m/2) x) t.I2 else .nd t.val t.Iz (Et f t.I2 (m/2) x)
def set(t:T α)(n:Nat)(x:α):T α:=Et (n+1) t n x
theorem Uh(t:T α)(m:Nat):t.get (m+1)=bif rZ (m%2) 0 then t.Iz.get (m/2)else t.I2.get (m/2):=by
 cases t with
 |lf=>simp[get,Iz,I2]
 |nd v l r=>rfl
theorem Ui(t:T α):t.get 0=t.val:=by cases t<;>rfl
theorem aaY(x:α):∀(f:Nat)(t:T α)(n k:Nat),n<f→(Et f t n x).get k=if k=n then some x else t.get k:=by
 intro f
 induction f with
 |zero=>intro t n k h;omega
 | succ f ih =>
  intro t n k h;cases n with
  |zero =>
   cases k with
   |zero=>rfl
   |succ k=>simp only[Et];rw[Uh t k,if_neg (by omega)];rfl
  | succ m =>
   cases k with
   |zero =>
    rw[if_neg (by omega),Ui];simp only[Et];cases hm:rZ (m%2) 0<;>simp[cond,val,Ui]
   | succ k =>
    simp only[Et];have e1:(k+1=m+1)↔k=m:=by omega
    cases hm:rZ (m%2) 0<;>cases hk:rZ (k%2) 0<;>simp only[cond,get,hk,Uh t k]
    ·rw[ih _ _ _ (by omega)];have Bu:m%2≠0:=G8 hm;have om:k%2≠0:=G8 hk
     by_cases he:k=m
     ·subst he;simp
     ·rw[if_neg (by omega),if_neg (by omega)]
    ·have Bu:m%2≠0:=G8 hm;have om:k%2=0:=xD hk;rw[if_neg (by omega)]
    ·have Bu:m%2=0:=xD hm;have om:k%2≠0:=G8 hk;rw[if_neg (by omega)]
    ·rw[ih _ _ _ (by omega)];have Bu:m%2=0:=xD hm;have om:k%2=0:=xD hk
     by_cases he:k=m
     ·subst he;simp
     ·rw[if_neg (by omega),if_neg (by omega)]
theorem jv(t:T α)(n k:Nat)(x:α):(t.set n x).get k=if k=n then some x else t.get k:=aaY x (n+1) t n k (by omega)
end T
inductive Cap where
 |k (n:Nat)
 |op (z:Nat)
 deriving DecidableEq,Inhabited
def Cap.of(z:Nat):Option Nat→Cap
 |some n=>.k n
 |none=>.op z
@[simp]theorem Cap.CR(z n:Nat):Cap.of z (some n) = .k n:=rfl
@[simp]theorem Cap.Aw(z:Nat):Cap.of z none = .op z:=rfl
inductive gE where
 |b (x:Bool)
 |i (k:pQ) (n:Int)
 |s (x:List UInt8)
 |p (a:Option (Nat×Nat))
 |sl (a:Option (Nat×Nat)) (len:Nat) (cap:Cap)
 |es
 |m (r:Option Nat)
 |f (fn:nI) (rH:List gE)
 |nf
 |un
 |agg (cs:List gE)
 |kx (vs:List gE)
 deriving Inhabited
def gE.cells:gE→List gE
 | .agg cs=>cs
 |v=>[v]
def gE.one:gE→Bool
 | .agg _ | .kx _=>false
 |_=>true
def gE.no:gE:=.kx []
inductive mA where
 |cells (z:Nat) (c:List gE)
 |ro (c:List gE)
 |map (es:List (gE×gE))
 |dead
structure Hp where
 next:Nat
 t:T mA
def Hp.get(h:Hp)(b:Nat):Option mA:=h.t.get b
def Hp.set(h:Hp)(b:Nat)(x:mA):Hp:={ h with t:=h.t.set b x }
def Hp.new(h:Hp)(x:mA):Hp:={ next:=h.next+1,t:=h.t.set h.next x }
def Hp.empty:Hp:=⟨0,.lf⟩
theorem Hp.jv(h:Hp)(b k:Nat)(x:mA):(h.set b x).get k=if k=b then some x else h.get k:=T.jv _ _ _ _
theorem Hp.lI(h:Hp)(k:Nat)(x:mA):(h.new x).get k=if k=h.next then some x else h.get k:=T.jv _ _ _ _
def yV:iU→Option gE
 | .bool x=>some (.b x)
 | .int k n=>some (.i k n)
 | .string s=>some (.s s.data.toList)
 | .pointer none=>some (.p none)
 | .slice none 0 0=>some (.sl none 0 (.k 0))
 | .map none=>some (.m none)
 | .nilFunc=>some .nf
 |_=>none
def cv:iU→Option gE
 | .agg cs=>(cs.toList.mapM yV).map .agg
 |v=>yV v
section
variable(P:iY)
def sz(t:iA):Option Nat:=(P.info? t).map (·.size)
def zeroV(t:iA):Option gE:=(P.info? t).bind λi=>i.zero.bind cv
def lG(t:iA):Option Bool:=(P.underlying t).map λ | .struct _ | .array _ _=>true|_=>false
def Bn(t:iA)(f:Nat):Option zM:=match P.underlying t with
 |some (.struct fs)=>fs[f]?
 |_=>none
end
def rd(h:Hp)(b o n:Nat):Option (List gE):=match h.get b with
 |some (.cells _ c)=>if o+n≤c.length then some ((c.drop o).take n)else none
 |some (.ro c)=>if o+n≤c.length then some ((c.drop o).take n)else none
 |_=>none
def kA(c:List gE)(o:Nat)(vs:List gE):List gE:=c.take o++vs++c.drop (o+vs.length)
def p6(h:Hp)(b o:Nat)(vs:List gE):Option Hp:=match h.get b with
 |some (.cells z c)=>if o+vs.length≤c.length∧vs.all gE.one then some (h.set b (.cells z (kA c o vs)))else none
 |_=>none
def Gw(P:iY)(t:iA)(cs:List gE)(o:Nat):Option gE :=
 (lG P t).bind λa=>bif a then(sz P t).bind λn=>if o+n≤cs.length then some (.agg ((cs.drop o).take n))else none else cs[o]?
def tt(P:iY)(h:Hp)(t:iA):gE→Option gE
 | .p (some (b,o))=>(lG P t).bind λa=>bif a then(sz P t).bind λn=>(rd h b o n).map .agg else(rd h b o 1).bind List.head?
 |_=>none
def BY(P:iY)(h:Hp)(t:iA)(a v:gE):Option Hp:=match a with
 | .p (some (b,o))=>(sz P t).bind λn=>if v.cells.length=n then p6 h b o v.cells else none
 |_=>none
def tX(op:wD)(k:pQ)(a b:Int):Option gE:=match op with
 | .add=>some (.i k (k.wrap (a+b)))
 | .sub=>some (.i k (k.wrap (a-b)))
 | .mul=>some (.i k (k.wrap (a*b)))
 | .quo=>if b=0 then none else some (.i k (k.wrap (a.tdiv b)))
 | .rem=>if b=0 then none else some (.i k (a.tmod b))
 | .and=>some (.i k (k.wrap (pv k.bits a &&& pv k.bits b).toNat))
 | .or=>some (.i k (k.wrap (pv k.bits a ||| pv k.bits b).toNat))
 | .xor=>some (.i k (k.wrap (pv k.bits a ^^^pv k.bits b).toNat))
 | .andNot=>some (.i k (k.wrap (pv k.bits a &&& ~~~(pv k.bits b)).toNat))
 | .eql=>some (.b (a==b))
 | .neq=>some (.b (a !=b))
 | .lss=>some (.b (a<b))
 | .leq=>some (.b (a≤b))
 | .gtr=>some (.b (a>b))
 | .geq=>some (.b (a≥b))
 |_=>none
def GD(op:wD)(k:pQ)(x y:Int):Option gE:=if y<0 then none else match op with
 | .shl=>some (.i k (k.wrap (x*2^min y.toNat k.bits)))
 | .shr=>some (.i k (x.fdiv (2^min y.toNat k.bits)))
 |_=>none
def Md(op:wD)(x y:List UInt8):Option gE:=match op with
 | .add=>if x.length+y.length≤2^62 then some (.s (x++y))else none
 | .eql=>some (.b (x==y))
 | .neq=>some (.b (!(x==y)))
 | .lss=>some (.b (wF x y))
 | .leq=>some (.b (wF x y||x==y))
 | .gtr=>some (.b (!(wF x y||x==y)))
 | .geq=>some (.b (!wF x y))
 |_=>none
def uG:gE→gE→Bool
 | .b x,.b y=>x==y
 | .i j x,.i k y=>j==k&&x==y
 | .s x,.s y=>x==y
 |_,_=>false
def sS:List gE→List gE→Bool
 |[],[]=>true
 |x::xs,y::ys=>uG x y&&sS xs ys
 |_,_=>false
def CW(P:iY)(t:iA):Option tF:=match P.underlying t with
 |some .bool=>some .bool
 |some (.int k)=>some (.int k)
 |some .string=>some .string
 |_=>none
def IQ(P:iY):Nat→List zM→Option (List tF)
 |_,[]=>some []
 |k,f::r=>if f.name ≠ "_" ∧f.offset=k then(CW P f.type).bind λd=>(IQ P (k+1) r).map (d :: ·)else none
def HN(P:iY)(t:iA):Option (List tF):=match P.underlying t with
 |some (.struct fs)=>if P.stoodInHeld t then none else IQ P 0 fs.toList
 |some (.array n e)=>if sz P e=some 1 then(CW P e).map (iV n)else none
 |_=>none
def BN:tF→gE→Bool
 | .bool,.b _=>true
 | .int k,.i j _=>j==k
 | .string,.s _=>true
 |_,_=>false
def pY:List tF→List gE→Bool
 |[],[]=>true
 |t::ts,v::vs=>BN t v&&pY ts vs
 |_,_=>false
def vm(P:iY)(t:iA)(x y:gE):Option Bool:=match P.underlying t,x,y with
 |some .bool,.b a,.b c=>some (a==c)
 |some (.pointer _),.p none,.p a=>some a.isNone
 |some (.pointer _),.p (some _),.p none=>some false
 |some (.slice _),.sl none _ _,.sl a _ _=>some a.isNone
 |some (.slice _),.sl (some _) _ _,.sl none _ _=>some false
 |some (.slice _),.es,.sl none _ _=>some false
 |some (.slice _),.sl none _ _,.es=>some false
 |some (.func _ _ _),.nf,.nf=>some true
 |some (.func _ _ _),.nf,.f _ _=>some false
 |some (.func _ _ _),.f _ _,.nf=>some false
 |some (.map _ _),.m none,.m a=>some a.isNone
 |some (.map _ _),.m (some _),.m none=>some false
 |some (.struct _),.agg xs,.agg ys=>match HN P t with
  |some l=>if pY l xs&&pY l ys && !P.eqGuardType P.depth t then some (sS xs ys)else none
  |none=>none
 |some (.array _ _),.agg xs,.agg ys=>match HN P t with
  |some l=>if pY l xs&&pY l ys && !P.eqGuardType P.depth t then some (sS xs ys)else none
  |none=>none
 |_,_,_=>none
def kJ(P:iY)(op:wD)(t:iA)(x y:gE):Option gE:=match x,y with
 | .i k a,.i j c=>match op with
  | .shl=>GD .shl k a c
  | .shr=>GD .shr k a c
  |_=>if k=j then tX op k a c else none
 | .s a,.s c=>Md op a c
 |x,y=>match op with
  | .eql=>(vm P t x y).map .b
  | .neq=>(vm P t x y).map λq=>.b (!q)
  |_=>none
def GL(op:UnOp)(x:gE):Option gE:=match op,x with
 | .neg,.i k n=>some (.i k (k.wrap (0-n)))
 | .xor,.i k n=>tX .xor k (if k.signed then -1 else k.max) n
 | .not,.b c=>some (.b (!c))
 |_,_=>none
def xp:gE→Option Nat
 | .i _ n=>if 0≤n∧n≤2^40 then some n.toNat else none
 |_=>none
def uc:gE→Option Nat
 | .i _ n=>if 0≤n then some n.toNat else none
 |_=>none
def yq:Option gE→Nat→Option Nat
 |none,d=>some d
 |some v,_=>uc v
def uB(len cap:Nat)(lo hi mx:Option gE):Option (Nat×Nat×Nat) :=
 (yq mx cap).bind λm=>(yq hi len).bind λh=>(yq lo 0).bind λl=>if m≤cap∧h≤m∧l≤h∧(mx.isSome→hi.isSome)then some (l,h,m)else none
def ry(P:iY)(t:iA)(x:gE)(lo hi mx:Option gE):Option gE:=match P.underlying t,x with
 |some .string,.s s=>if mx.isSome then none else(uB s.length s.length lo hi none).map λq=>.s ((s.drop q.1).take (q.2.1-q.1))
 | some (.slice e),.sl a len (.k k)=>(sz P e).bind fun z=>(uB len k lo hi mx).map fun q =>
   .sl (if q.2.2=q.1 then a else a.map λc=>(c.1,c.2+q.1*z)) (q.2.1-q.1) (.k (q.2.2-q.1))
 | some (.slice e),.sl (some (b,o)) len (.op z')=>(sz P e).bind fun z=>(if z' = z then uB len len lo hi mx else none).map fun q =>
   if mx.isSome then .sl (some (if q.2.2=q.1 then(b,o)else(b,o+q.1*z))) (q.2.1-q.1) (.k (q.2.2-q.1))
   else if q.1<len then .sl (some (b,o+q.1*z)) (q.2.1-q.1) (.op z)else .es
 |some (.slice e),.es=>(sz P e).bind λ_=>(uB 0 0 lo hi mx).map λ_=>.es
 | some (.array n e),.p (some (b,o))=>(sz P e).bind fun z=>(uB n n lo hi mx).map fun q =>
   .sl (some (if q.2.2=q.1 then(b,o)else(b,o+q.1*z))) (q.2.1-q.1) (.k (q.2.2-q.1))
 | some (.pointer arr),.p (some (b,o))=>match P.underlying arr with
  |some (.array n e)=>(sz P e).bind λz=>(uB n n lo hi mx).map λq =>
   .sl (some (if q.2.2=q.1 then(b,o)else(b,o+q.1*z))) (q.2.1-q.1) (.k (q.2.2-q.1))
  |_=>none
 |_,_=>none
def Eb(P:iY)(t:iA)(x ix:gE):Option gE:=(uc ix).bind λi=>match P.underlying t,x with
 |some (.array n e),.p (some (b,o))=>(sz P e).bind λz=>if i<n then some (.p (some (b,o+i*z)))else none
 |some (.slice e),.sl (some (b,o)) len _=>(sz P e).bind λz=>if i<len then some (.p (some (b,o+i*z)))else none
 |_,_=>none
def Iv(P:iY)(t:iA)(x ix:gE):Option gE:=(uc ix).bind λi=>match P.underlying t,x with
 |some (.array n e),.agg cs=>(sz P e).bind λz=>if i<n then Gw P e cs (i*z)else none
 |some .string,.s s=>(s[i]?).map λc=>.i .u8 c.toNat
 |_,_=>none
def oS(place:Nat→Option (Nat×Nat))(cells:List gE):List (Nat×gE)→Option (List gE)
 |[]=>some cells
 |(i,v)::rest=>(place i).bind λq=>if v.cells.length=q.2∧q.1+v.cells.length≤cells.length then oS place (kA cells q.1 v.cells) rest else none
def mT(z:List gE)(n:Nat):List gE:=(iV n z).flatten
def Fx(P:iY)(t:iA)(parts:List (Nat×gE)):Option gE:=(zeroV P t).bind λzero=>match P.underlying t with
 |some (.struct fs)=>(fs.toList.mapM λf=>(sz P f.type).map λn=>(f.offset,n)).bind λpl=>(oS (λi=>pl[i]?) zero.cells parts).map .agg
 |some (.array _ e)=>(sz P e).bind λz=>(oS (λi=>some (i*z,z)) zero.cells parts).map .agg
 |_=>none
def vR(h:Hp)(z:Nat)(c:List gE):Option (gE×Hp):=if c.all gE.one then some (.p (some (h.next,0)),h.new (.cells z c))else none
def ru(h:Hp)(z:Nat)(c:List gE)(len:Nat)(cap:Option Nat):Option (gE×Hp) :=
 if c.all gE.one then some (.sl (some (h.next,0)) len (.of z cap),h.new (.cells z c))else none
def Cq(P:iY)(h:Hp)(t:iA)(len:Nat)(parts:List (Nat×gE)):Option (gE×Hp):=match P.underlying t with
 | some (.slice e)=>(sz P e).bind fun z=>(zeroV P e).bind fun zero=>if len*z≤2 ^ 24∧zero.cells.length=z∧0 < z then
   (oS (λi=>some (i*z,z)) (mT zero.cells len) parts).bind λc=>ru h z c len (some len)else none
 |_=>none
def Ei(P:iY)(h:Hp)(t:iA)(len cap:gE):Option (gE×Hp):=match P.underlying t with
 | some (.slice e)=>(sz P e).bind fun z=>(zeroV P e).bind fun zero=>(xp len).bind fun l=>(xp cap).bind fun c=>(P.info? e).bind fun i =>
   if l≤c∧i.bytes*c≤2^48∧zero.cells.length=z∧0<z then ru h z (mT zero.cells c) l (some c)else none
 |_=>none
def oL(h:Hp)(z n:Nat):gE→Option (List gE)
 | .sl (some (b,o)) _ _=>if n=0 then some []else rd h b o (n*z)
 | .sl none _ _=>some []
 | .es=>if n=0 then some []else none
 | .s s=>some ((s.take n).map λc=>.i .u8 c.toNat)
 |_=>none
def As:gE→Option Nat
 | .sl _ n _=>some n
 | .es=>some 0
 | .s s=>some s.length
 |_=>none
def CP(P:iY)(h:Hp)(e:iA)(z:Nat)(aiZ:Bool)(x:gE):Option (Nat×List gE) :=
 bif aiZ then(xp x).bind λn=>(zeroV P e).bind λzero=>if zero.cells.length=z then some (n,mT zero.cells n)else none
 else(As x).bind λn=>(oL h z n x).map λc=>(n,c)
def rV(P:iY)(t:iA):Option Bool:=match P.underlying t with
 |some (.int _)=>some true
 |some (.slice _)|some .string=>some false
 |_=>none
def vS(h:Hp)(z n:Nat)(c:List gE)(s:gE):Option (gE×Hp):=match s with
 | .sl none len cap=>if len=0∧cap = .k 0 then if n=0 then some (s,h)else ru h z c n none else none
 | .es=>if n=0 then some (s,h)else none
 | .sl (some (b,o)) len (.k k) =>
  if len+n≤k then(p6 h b (o+len*z) c).map λh'=>(.sl (some (b,o)) (len+n) (.k k),h')
  else if len≤k∧len≤2^30 then(oL h z len s).bind λd=>ru h z (d++c) (len+n) none else none
 | .sl (some (b,o)) len (.op _)=>match h.get b with
  | some (.cells z' d) =>
   if z'=z∧len≤2^30∧o+len*z≤d.length then
    if o+(len+n)*z≤d.length then(p6 h b (o+len*z) c).map λh'=>(.sl (some (b,o)) (len+n) (.op z),h')
    else(oL h z len s).bind λd=>ru (h.set b .dead) z (d++c) (len+n) none
   else none
  |_=>none
 |_=>none
def Co(P:iY)(h:Hp)(ts:List iA)(s x:gE):Option (gE×Hp):=match ts with
 | [t,tx]=>(match P.underlying t with
  |some (.slice e)=>(sz P e).bind λz=>(P.info? e).bind λinf=>(zeroV P e).bind λzero=>(rV P tx).bind λzk=>(CP P h e z zk x).bind λq =>
   if zero.cells.length=z∧0<z∧q.1≤2^30∧0<inf.bytes∧inf.bytes≤2^12∧q.2.length=q.1*z∧q.2.all gE.one then vS h z q.1 q.2 s else none
  |_=>none)
 |_=>none
def copyV(P:iY)(h:Hp)(ts:List iA)(d s:gE):Option (gE×Hp) :=
 (ts[0]?).bind λt=>match P.underlying t with
 |some (.slice e)=>(sz P e).bind λz=>(As s).bind λm=>match d with
  | .sl (some (b,o)) len _=>(oL h z (min m len) s).bind λc=>if c.length=min m len*z then(p6 h b o c).map λh'=>(.i .i64 ((min m len:Nat):Int),h')else none
  | .sl none len _=>if len=0 then some (.i .i64 0,h)else none
  | .es=>some (.i .i64 0,h)
  |_=>none
 |_=>none
def Cs(P:iY)(h:Hp)(ts:List iA)(d:gE):Option (gE×Hp) :=
 (ts[0]?).bind λt=>match P.underlying t with
 |some (.slice e)=>(zeroV P e).bind λzero=>match d with
  | .sl (some (b,o)) len _=>if len=0 then some (.kx [],h)else if 0<zero.cells.length then(p6 h b o (mT zero.cells len)).map λh'=>(.kx [],h')else none
  | .sl none _ _=>some (.kx [],h)
  | .es=>some (.kx [],h)
  |_=>none
 |_=>none
def Ar(P:iY)(h:Hp)(ts:List iA)(x:gE):Option gE :=
 (ts[0]?).bind λt=>match P.underlying t,x with
 |some .string,.s s=>some (.i .i64 s.length)
 |some (.array n _),_=>some (.i .i64 n)
 |some (.slice _),.sl _ n _=>some (.i .i64 n)
 |some (.slice _),.es=>some (.i .i64 0)
 |some (.map _ _),.m none=>some (.i .i64 0)
 |some (.map _ _),.m (some r)=>match h.get r with
  |some (.map es)=>some (.i .i64 es.length)
  |_=>none
 |some (.pointer a),.p (some _)=>match P.underlying a with
  |some (.array n _)=>some (.i .i64 n)
  |_=>none
 |_,_=>none
def Kb(P:iY)(ts:List iA)(x:gE):Option gE :=
 (ts[0]?).bind λt=>match P.underlying t,x with
 |some (.slice _),.sl _ _ (.k k)=>some (.i .i64 k)
 |_,_=>none
def PN(mx:Bool):gE→gE→Option gE
 | .i k x,.i j y=>if k=j then some (.i k (bif mx then(if y>x then y else x)else(if y<x then y else x)))else none
 |_,_=>none
def Ly(mx:Bool):List gE→Option gE
 |[]=>none
 |x::r=>r.foldlM (PN mx) x
def qO(P:iY)(h:Hp)(b:Builtin)(ts:List iA)(args:List gE):Option (gE×Hp):=match b,args with
 | .append,[s,x]=>Co P h ts s x
 | .copy,[d,s]=>copyV P h ts d s
 | .clear,[d]=>Cs P h ts d
 | .len,[x]=>(Ar P h ts x).map λv=>(v,h)
 | .cap,[x]=>(Kb P ts x).map λv=>(v,h)
 | .max,vs=>(Ly true vs).map λv=>(v,h)
 | .min,vs=>(Ly false vs).map λv=>(v,h)
 |_,_=>none
def pO(P:iY)(t:iA)(k:gE):Bool:=match P.underlying t,k with
 |some (.int j),.i i _=>i==j
 |some .string,.s _=>true
 |some .bool,.b _=>true
 |_,_=>false
def uQ(x y:gE):Bool:=uG x y
def td(k:gE):List (gE×gE)→Option gE
 |[]=>none
 |(k',v)::r=>bif uQ k k' then some v else td k r
def uW(k v:gE):List (gE×gE)→List (gE×gE)
 |[]=>[(k,v)]
 |(k',u)::r=>bif uQ k k' then(k,v)::r else(k',u)::uW k v r
def CM(P:iY)(h:Hp)(t:iA)(m k:gE)(ok:Bool):Option gE:=match P.underlying t with
 | some (.map kt vt)=>if pO P kt k then
   (match m with
   | .m none=>some []
   | .m (some r)=>match h.get r with
    |some (.map es)=>if es.all λe=>pO P kt e.1 then some es else none
    |_=>none
   |_=>none:Option (List (gE×gE))).bind λes=>(zeroV P vt).bind λzero =>
   let q:gE×Bool:=match td k es with
    |some v=>(v,true)
    |none=>(zero,false)
   some (if ok then .kx [q.1,.b q.2]else q.1)else none
 |_=>none
def ID(P:iY)(h:Hp)(t:iA)(m k v:gE):Option Hp:=match P.underlying t,m with
 |some (.map kt _),.m (some r)=>match h.get r with
  |some (.map es)=>if pO P kt k∧es.all λe=>pO P kt e.1 then some (h.set r (.map (uW k v es)))else none
  |_=>none
 |_,_=>none
def yO:List gE→Option (List UInt8)
 |[]=>some []
 | .i .u8 n::r=>(yO r).map λl=>Fb n.toNat::l
 |_=>none
def GK(P:iY)(e:iA):Bool:=match P.underlying e with
 |some (.int .u8)=>true
 |_=>false
def qQ(P:iY)(h:Hp)(src dst:iA)(x:gE):Option (gE×Hp):=match P.underlying src,P.underlying dst,x with
 |some _,some (.int k),.i _ n=>some (.i k (k.wrap n),h)
 |some _,some .string,.s s=>some (.s s,h)
 |some .string,some (.slice e),.s s=>match P.underlying e with
  |some (.int .u8)=>if s=[]then none else ru h 1 (s.map λc=>.i .u8 c.toNat) s.length none
  |_=>none
 |some (.slice _),some (.slice e),.sl (some a) n c=>match src==dst,P.underlying e,h.get a.1 with
  |true,some (.int .u8),some (.cells 1 _)=>some (.sl (some a) n c,h)
  |_,_,_=>none
 |some (.slice e),some .string,.sl none _ _=>if GK P e then some (.s [],h)else none
 |some (.slice e),some .string,.es=>if GK P e then some (.s [],h)else none
 |some (.slice e),some .string,.sl (some (b,o)) n _=>match P.underlying e with
  |some (.int .u8)=>(if n=0 then some []else rd h b o n).bind λc=>(yO c).map λs=>(.s s,h)
  |_=>none
 |_,_,_=>none
abbrev Env:=T gE
def jI(env:Env):iT→Option gE
 | .tmp t=>env.get t
 | .const v=>cv v
 | .global _=>none
 | .func f=>some (.f f [])
def pN(env:Env)(l:List iT):Option (List gE):=l.mapM (jI env)
def uH(env:Env)(l:List (Nat×iT)):Option (List (Nat×gE)):=l.mapM λq=>(jI env q.2).map λv=>(q.1,v)
def vp(env:Env):Option iT→Option (Option gE)
 |none=>some none
 |some x=>(jI env x).map some
def jz(P:iY)(env:Env)(h:Hp):Op→Option (gE×Hp)
 | .move x | .assign x=>(jI env x).map λv=>(v,h)
 | .pick c a b=>(jI env c).bind λ | .b true=>(jI env a).map λv=>(v,h) | .b false=>(jI env b).map λv=>(v,h)|_=>none
 | .alloc e=>(zeroV P e).bind λv=>vR h v.cells.length v.cells
 | .box e x=>(jI env x).bind λv=>vR h v.cells.length v.cells
 | .build t ps=>(uH env ps.toList).bind λps=>(Fx P t ps).map λv=>(v,h)
 | .buildSlice t n ps=>(uH env ps.toList).bind λps=>Cq P h t n ps
 | .load t a=>(jI env a).bind λa=>(tt P h t a).map λv=>(v,h)
 | .store t a x=>(jI env a).bind λa=>(jI env x).bind λx=>(BY P h t a x).map λh=>(.no,h)
 | .nilCheck x=>(jI env x).bind λ | .p none=>none | .nf=>none | .un=>none|v=>some (v,h)
 | .binOp op t x y _=>(jI env x).bind λx=>(jI env y).bind λy=>(kJ P op t x y).map λv=>(v,h)
 | .unOp op _ x=>(jI env x).bind λx=>(GL op x).map λv=>(v,h)
 | .convert s d x=>(jI env x).bind λx=>qQ P h s d x
 | .sliceToArrayPointer t x=>(jI env x).bind λ | .sl (some a) n _=>(match P.underlying t with|some (.array k _)=>if k≤n then some (.p (some a),h)else none|_=>none)|_=>none
 | .makeFunc (.func f) first rH=>if first.size=0 then(pN env rH.toList).map λl=>(.f f l,h)else none
 | .makeMap t r=>match r with
  |none=>some (.m (some h.next),h.new (.map []))
  |some x=>(jI env x).bind λv=>match P.underlying t,v with|some (.map _ _),.i _ _=>some (.m (some h.next),h.new (.map []))|_,_=>none
 | .makeSlice t l c=>(jI env l).bind λl=>(jI env c).bind λc=>Ei P h t l c
 | .slice t x lo hi mx=>(jI env x).bind λx=>(vp env lo).bind λlo=>(vp env hi).bind λhi=>(vp env mx).bind λmx=>(ry P t x lo hi mx).map λv=>(v,h)
 | .fieldAddr s x f=>(jI env x).bind λ | .p (some (b,o))=>((Bn P s f).bind λq=>(sz P q.type).bind λn=>if 0<n then some (.p (some (b,o+q.offset)),h)else none)|_=>none
 | .field s x f=>(jI env x).bind λ | .agg cs=>((Bn P s f).bind λq=>(Gw P q.type cs q.offset).map λv=>(v,h))|_=>none
 | .indexAddr t x i=>(jI env x).bind λx=>(jI env i).bind λi=>(Eb P t x i).map λv=>(v,h)
 | .index t x i=>(jI env x).bind λx=>(jI env i).bind λi=>(Iv P t x i).map λv=>(v,h)
 | .lookup t m k ok=>(jI env m).bind λm=>(jI env k).bind λk=>(CM P h t m k ok).map λv=>(v,h)
 | .mapUpdate t m k x=>(jI env m).bind λm=>(jI env k).bind λk=>(jI env x).bind λx=>(ID P h t m k x).map λh=>(.no,h)
 | .extract x i=>(jI env x).bind λ | .kx vs=>(vs[i]?).map λv=>(v,h)|_=>none
 | .call { callee:=.builtin b,args,argTypes }=>(pN env args.toList).bind λl=>qO P h b argTypes.toList l
 |_=>none
def uk(env:Env):Op→Option (nI×List gE)
 | .call { callee:=.value f,args,.. }=>(jI env f).bind λ | .f g rH=>(pN env args.toList).map λl=>(g,l++rH)|_=>none
 |_=>none
end Go.V
end
section
namespace Go.V
inductive Ex where
 |mZ
 |ext (id:Nat)
 |ret
inductive Nd where
 |pure|read|alloc|mL
 deriving DecidableEq
def Bi(P:iY)(s d:iA):Nd:=match P.underlying s,P.underlying d with
 |some .string,some (.slice _)=>.alloc
 |some (.slice _),some (.slice _)=>.mL
 |some (.slice _),some .string=>.read
 |_,_=>.pure
def Gi(P:iY):List iA→Nd
 |t::_=>match P.underlying t with
  |some (.map _ _)=>.read
  |_=>.pure
 |[]=>.pure
def kz(P:iY):Op→Nd
 | .load .. | .lookup ..=>.read
 | .alloc .. | .box .. | .buildSlice .. | .makeMap .. | .makeSlice ..=>.alloc
 | .convert s d _=>Bi P s d
 | .call { callee:=.builtin .len,argTypes,.. }=>Gi P argTypes.toList
 | .call { callee:=.builtin .cap,.. } | .call { callee:=.builtin .max,.. } | .call { callee:=.builtin .min,.. }=>.pure
 | .store .. | .mapUpdate .. | .call ..=>.mL
 | .move .. | .assign .. | .pick .. | .build .. | .nilCheck .. | .binOp .. | .unOp .. | .sliceToArrayPointer .. | .makeFunc .. | .fieldAddr .. | .field .. | .indexAddr .. | .index .. | .extract .. | .slice ..=>.pure
 |_=>.mL
def qN:List Oper→List Nat→List Nat
 |[],acc=>acc
 |o::r,acc=>qN r (acc++[o.after.toList.foldl (λs e=>if Dk .any e then s ||| 2^e.on ||| acc.getD e.on 0 else s) 0])
def ir(A:List Oper)(i:Nat):Oper:=A.getD i ⟨none,.panic (.func 0),0,"",#[],none⟩
def looks(A:List Oper)(o:Oper):List Tmp :=
 (o.op.operands.toList.filterMap λ | .tmp t=>some t|_=>none)++(match o.guard with|some (g,_)=>((A[g]?).bind (·.dst)).toList|none=>[])
def CS(P:iY)(A:List Oper)(an:List Nat):List Nat→List Nat→Bool
 |_,[]=>true
 | done,i::rest=>!done.contains i && !rest.contains i&&Nat.blt i A.length &&
   ((ir A i).after.toList.all λe=>!Dk .any e||done.contains e.on) &&
   (match(ir A i).guard with|some (g,_)=>done.contains g&&(an.getD i 0).testBit g|none=>true) &&
   (!decide (kz P (ir A i).op = .mL)||rest.all λr=>(an.getD r 0).testBit i) &&
   (match(ir A i).dst with
    |some d=>!(looks A (ir A i)).contains d&&(rest++done).all λj=>(ir A j).dst !=some d&&(!(looks A (ir A j)).contains d||(an.getD j 0).testBit i||(an.getD i 0).testBit j)
    |none=>true) &&
   CS P A an (i::done) rest
def CT(P:iY)(A:List Oper)(L:List Nat):Bool:=(mI A.length).all (λi=>L.contains i)&&CS P A (qN A []) [] L
structure sO where
 idx:Nat
 op:Op
 env:Env
 v:gE
inductive Fg where
 |code (n:Nat) (c:Code) (env:Env) (h:Hp)
 |ops (n:Nat) (A:List Oper) (dr:Bool) (L:List Nat) (pd:List sO) (env:Env) (h:Hp)
 |call (f:nI) (args:List gE) (h:Hp)
inductive Out where
 |code (e:Ex) (env:Env) (h:Hp)
 |call (v:gE) (h:Hp)
def uU(env:Env)(d:Option Tmp)(v:gE):Env:=match d with
 |some d=>env.set d v
 |none=>env
def sE(A:List Oper)(env:Env)(o:Oper):Option Bool:=match o.guard with
 |none=>some true
 |some (j,want)=>match((A[j]?).bind (·.dst)).bind env.get with
  |some (.b x)=>some (x==want)
  |some (.kx [])=>some false
  |_=>none
def uF(n:Nat)(A:List Oper):Bool:=A.all λo=>match o.dst with
 |some d=>Nat.blt d n
 |none=>true
def Hm(P:iY)(A:List Oper)(dr:Bool)(i:Nat)(pd:List sO)(h:Hp):Prop :=
 dr=true → ∀q,q∈pd→((qN A []).getD i 0).testBit q.idx=false→jz P q.env h q.op=some (q.v,h)
def uT(P:iY)(A:List Oper)(i:Nat)(env:Env)(v:gE)(pd:List sO):List sO :=
 if kz P (ir A i).op = .read then⟨i,(ir A i).op,env,v⟩::pd else pd
def DC:Nat→List gE→Env→Env
 |_,[],env=>env
 |i,v::r,env=>DC (i+1) r (env.set i v)
def wy(P:iY)(env:Env)(h:Hp):List Dl→Option (List gE)
 |[]=>some []
 | .tmp t::r=>(env.get t).bind λv=>(wy P env h r).map (v :: ·)
 | .cell a t::r=>(env.get a).bind λp=>(tt P h t p).bind λv=>(wy P env h r).map (v :: ·)
def zq:List gE→gE
 |[v]=>v
 |vs=>.kx vs
abbrev Tb:=nI→List gE→Hp→(gE→Hp→Prop)→Prop
inductive XW(P:iY)(K:Tb):Fg→(Out→Prop)→Prop where
 |skip {n env h Q}:Q (.code .mZ env h)→XW P K (.code n .skip env h) Q
 |label {n i env h Q}:Q (.code .mZ env h)→XW P K (.code n (.label i) env h) Q
 |exit {n i env h Q}:Q (.code (.ext i) env h)→XW P K (.code n (.exit i) env h) Q
 |ret {n env h Q}:Q (.code .ret env h)→XW P K (.code n .ret env h) Q
 |seq {n a b env h M Q}:XW P K (.code n a env h) M→(∀lr h',M (.code .mZ lr h')→XW P K (.code n b lr h') Q)→(∀e lr h',e ≠ .mZ→M (.code e lr h')→Q (.code e lr h'))→XW P K (.code n (.seq a b) env h) Q
 |cond {n} {x:iT} {a b env h Q} {t:Bool}:jI env x=some (.b t)→XW P K (.code n (bif t then a else b) env h) Q→XW P K (.code n (.cond x a b) env h) Q
 |block {n id a env h M Q}:XW P K (.code n a env h) M→(∀e lr h',M (.code e lr h')→Q (.code (match e with | .ext i=>if i=id then .mZ else .ext i|e=>e) lr h'))→XW P K (.code n (.block id a) env h) Q
 |loop {n a env h M Q}:XW P K (.code n a env h) M→(∀lr h',M (.code .mZ lr h')→XW P K (.code n (.loop a) lr h') Q)→(∀e lr h',e ≠ .mZ→M (.code e lr h')→Q (.code e lr h'))→XW P K (.code n (.loop a) env h) Q
 |region {n} {id:Nat} {A:List Oper} {dr:Bool} {L:List Nat} {env h Q}:uF n A=true→(if dr then P.follows .mixedOrders=true∧CT P A L=true else L=mI A.length)→XW P K (.ops n A dr L [] env h) Q→XW P K (.code n (.region id A.toArray dr) env h) Q
 |IK {n A dr pd env h Q}:Q (.code .mZ env h)→XW P K (.ops n A dr [] pd env h) Q
 |IL {n} {A:List Oper} {dr:Bool} {i:Nat} {L:List Nat} {pd env h Q}:i<A.length→sE A env (ir A i)=some false→XW P K (.ops n A dr L pd (uU env (ir A i).dst .no) h) Q→XW P K (.ops n A dr (i::L) pd env h) Q
 | BQ {n} {A:List Oper} {dr:Bool} {i:Nat} {L:List Nat} {pd env h Q v h'}:i < A.length→sE A env (ir A i)=some true→jz P env h (ir A i).op=some (v,h')→(kz P (ir A i).op = .mL→Hm P A dr i pd h') →
   XW P K (.ops n A dr L (uT P A i env v pd) (uU env (ir A i).dst v) h') Q→XW P K (.ops n A dr (i::L) pd env h) Q
 | Gp {n} {A:List Oper} {dr:Bool} {i:Nat} {L:List Nat} {pd env h M Q f args}:i < A.length→sE A env (ir A i)=some true→uk env (ir A i).op=some (f,args)→XW P K (.call f args h) M →
   (∀v h',M (.call v h')→Hm P A dr i pd h')→(∀v h',M (.call v h')→XW P K (.ops n A dr L pd (uU env (ir A i).dst v) h') Q)→XW P K (.ops n A dr (i::L) pd env h) Q
 | call {f args h M Q} {fn:Func} {c:Code}:P.funcs[f]? = some fn→fn.body=some c→fn.name ≠ "runtime.NumGoroutine" → args.length≤fn.ntmps→XW P K (.code fn.ntmps c (DC 0 args .lf) h) M →
   (∀e lr h',M (.code e lr h')→(e = .mZ∨e = .ret) ∧ ∃vs,wy P lr h' fn.results.toList=some vs∧Q (.call (zq vs) h'))→XW P K (.call f args h) Q
 |known {f args h M Q}:K f args h M→(∀v h',M v h'→Q (.call v h'))→XW P K (.call f args h) Q
theorem XW.mono{P:iY}{K:Tb}{j:Fg}{Q Q':Out→Prop}(h:XW P K j Q)(hq:∀o,Q o→Q' o):XW P K j Q':=by
 induction h with
 |skip h=>exact .skip (hq _ h)
 |label h=>exact .label (hq _ h)
 |exit h=>exact .exit (hq _ h)
 |ret h=>exact .ret (hq _ h)
 |seq h1 h2 h3 tY qB=>exact .seq h1 (λe h m=>qB e h m hq) λe env h ne m=>hq _ (h3 e env h ne m)
 |cond h1 _ ih=>exact .cond h1 (ih hq)
 |block h1 h2=>exact .block h1 λe env h m=>hq _ (h2 e env h m)
 |loop h1 h2 h3 tY qB=>exact .loop h1 (λe h m=>qB e h m hq) λe env h ne m=>hq _ (h3 e env h ne m)
 |region h0 h1 _ ih=>exact .region h0 h1 (ih hq)
 |IK h=>exact .IK (hq _ h)
 |IL h1 h2 _ ih=>exact .IL h1 h2 (ih hq)
 |BQ h1 h2 h3 h4 _ ih=>exact .BQ h1 h2 h3 h4 (ih hq)
 |Gp h1 h2 h3 h4 h5 _ tY qB=>exact .Gp h1 h2 h3 h4 h5 λv h m=>qB v h m hq
 |call h1 h2 h3 h4 h5 h6=>exact .call h1 h2 h3 h4 h5 λe env h m=>by obtain⟨g,vs,r,q⟩:=h6 e env h m;exact⟨g,vs,r,hq _ q⟩
 |known h1 h2=>exact .known h1 λv h m=>hq _ (h2 v h m)
end Go.V
end
section
namespace Go.V
structure Info where
 g:Nat
 base:Nat
 z:Nat
 n:Nat
 N:Nat
abbrev Ren:=Nat→Option Info
def oF(l:List UInt8):iU:=.string ⟨l.toArray⟩
inductive VR(ρ:Ren):gE→iU→Prop where
 |b (x:Bool):VR ρ (.b x) (.bool x)
 |i (k:pQ) (n:Int):VR ρ (.i k n) (.int k n)
 |s (x:List UInt8):VR ρ (.s x) (oF x)
 |pn:VR ρ (.p none) (.pointer none)
 |p {b o:Nat} {i:Info}:ρ b=some i→VR ρ (.p (some (b,o))) (.pointer (some ⟨i.g,i.base+o,none⟩))
 |sn:VR ρ (.sl none 0 (.k 0)) (.slice none 0 0)
 |sk {b o len k:Nat} {i:Info}:ρ b=some i→len≤k→VR ρ (.sl (some (b,o)) len (.k k)) (.slice (some ⟨i.g,i.base+o,none⟩) len k)
 |so {b o len c:Nat} {i:Info}:ρ b=some i→len≤c→i.n≤o+c*i.z→i.base+o+c*i.z≤i.N→VR ρ (.sl (some (b,o)) len (.op i.z)) (.slice (some ⟨i.g,i.base+o,none⟩) len c)
 |es {a:Addr} {c:Nat}:VR ρ .es (.slice (some a) 0 c)
 |mn:VR ρ (.m none) (.map none)
 |m {r:Nat} {i:Info}:ρ r=some i→VR ρ (.m (some r)) (.map (some i.g))
 |f {fn:nI} {cs:List gE} {vs:List iU}:cs.length=vs.length→(∀(j:Nat)(u:gE)(u':iU),cs[j]? =some u→vs[j]? =some u'→VR ρ u u')→VR ρ (.f fn cs) (.func (.func fn) #[] vs.toArray)
 |nf:VR ρ .nf .nilFunc
 |un {u:iU}:u.oneCell'=true→VR ρ .un u
 |agg {cs:List gE} {vs:List iU}:cs.length=vs.length→(∀(j:Nat)(u:gE)(u':iU),cs[j]? =some u→vs[j]? =some u'→VR ρ u u')→VR ρ (.agg cs) (.agg vs.toArray)
 |kx {cs:List gE} {vs:List iU}:cs.length=vs.length→(∀(j:Nat)(u:gE)(u':iU),cs[j]? =some u→vs[j]? =some u'→VR ρ u u')→VR ρ (.kx cs) (.tuple vs.toArray)
def Ren.le(ρ σ:Ren):Prop:=∀b i,ρ b=some i→σ b=some i
theorem Ren.le.refl(ρ:Ren):ρ.le ρ:=λ_ _ h=>h
theorem Ren.le.trans{ρ σ τ:Ren}(a:ρ.le σ)(b:σ.le τ):ρ.le τ:=λx i h=>b x i (a x i h)
theorem VR.mono{ρ σ:Ren}(l:ρ.le σ){v:gE}{u:iU}(h:VR ρ v u):VR σ v u:=by
 induction h with
 |b x=>exact .b x
 |i k n=>exact .i k n
 |s x=>exact .s x
 |pn=>exact .pn
 |p h=>exact .p (l _ _ h)
 |sn=>exact .sn
 |sk h h2=>exact .sk (l _ _ h) h2
 |so h h2 h3 h4=>exact .so (l _ _ h) h2 h3 h4
 |es=>exact .es
 |mn=>exact .mn
 |m h=>exact .m (l _ _ h)
 |f h _ ih=>exact .f h ih
 |nf=>exact .nf
 |un h=>exact .un h
 |agg h _ ih=>exact .agg h ih
 |kx h _ ih=>exact .kx h ih
def jc(ρ:Ren)(cs:List gE)(vs:List iU):Prop:=cs.length=vs.length ∧ ∀(j:Nat)(u:gE)(u':iU),cs[j]? =some u→vs[j]? =some u'→VR ρ u u'
theorem jc.mono{ρ σ:Ren}(l:ρ.le σ){cs vs}(h:jc ρ cs vs):jc σ cs vs:=⟨h.1,λj u u' a b=>(h.2 j u u' a b).mono l⟩
theorem jc.nil{ρ:Ren}:jc ρ [] []:=⟨rfl,λj u u' h=>by simp at h⟩
theorem jc.cons{ρ:Ren}{c v cs vs}(h:VR ρ c v)(hs:jc ρ cs vs):jc ρ (c::cs) (v::vs):=⟨by simp[hs.1],λj u u' a b=>by
 cases j with
 |zero=>simp at a b;subst a;subst b;exact h
 |succ j=>exact hs.2 j u u' (by simpa using a) (by simpa using b)⟩
theorem jc.head{ρ:Ren}{c v cs vs}(h:jc ρ (c::cs) (v::vs)):VR ρ c v:=h.2 0 c v rfl rfl
theorem jc.tail{ρ:Ren}{c v cs vs}(h:jc ρ (c::cs) (v::vs)):jc ρ cs vs:=⟨by simpa using h.1,λj u u' a b=>h.2 (j+1) u u' (by simpa using a) (by simpa using b)⟩
theorem jc.at{ρ:Ren}{cs vs}(h:jc ρ cs vs){j:Nat}{u:gE}(hj:cs[j]? =some u):∃u',vs[j]? =some u'∧VR ρ u u':=by
 have hl:=(kI.1 hj).1;have h2:=jx (l:=vs) (i:=j) (by rw[←h.1];exact hl);exact⟨_,h2,h.2 j u _ hj h2⟩
theorem jc.append{ρ:Ren}{cs ds vs us}(h:jc ρ cs vs)(k:jc ρ ds us):jc ρ (cs++ds) (vs++us):=⟨by simp[h.1,k.1],λj u u' a b=>by
 by_cases hj:j<cs.length
 ·rw[mU hj]at a;rw[mU (by rw[←h.1];exact hj)]at b;exact h.2 j u u' a b
 ·rw[nq (by omega)]at a;rw[nq (by rw[←h.1];omega)]at b;rw[←h.1]at b;exact k.2 _ u u' a b⟩
theorem jc.drop{ρ:Ren}{cs vs}(h:jc ρ cs vs)(n:Nat):jc ρ (cs.drop n) (vs.drop n):=⟨by simp[h.1],λj u u' a b=>h.2 (n+j) u u' (by simpa[pS]using a) (by simpa[pS]using b)⟩
theorem jc.take{ρ:Ren}{cs vs}(h:jc ρ cs vs)(n:Nat):jc ρ (cs.take n) (vs.take n):=⟨by simp[h.1],λj u u' a b=>by
 rw[oc]at a b
 split at a
 ·rw[if_pos (by assumption)]at b;exact h.2 j u u' a b
 ·cases a⟩
theorem jc.Om{ρ:Ren}:∀{cs:List gE}{f:Nat→Option iU},(∀j u,cs[j]? =some u → ∃u',f j=some u'∧VR ρ u u') → ∃vs,jc ρ cs vs ∧ ∀j u',vs[j]? =some u'→f j=some u'
 |[],f,h=>⟨[],jc.nil,λj u' h=>by simp at h⟩
 |c::cs,f,h=>by
  obtain⟨v,h1,h2⟩:=h 0 c rfl;obtain⟨vs,h3,h4⟩:=jc.Om (cs:=cs) (f:=λj=>f (j+1)) λj u hj=>h (j+1) u (by simpa using hj);exact⟨v::vs,h3.cons h2,λj u' hj=>by cases j with|zero=>simp at hj;subst hj;exact h1|succ j=>exact h4 j u' (by simpa using hj)⟩
theorem TA{u:iU}(h:u.oneCell'=true):u.cells.toList=[u]:=by
 cases u<;>first|rfl|(simp[Value.oneCell']at h)
theorem VR.cells{ρ:Ren}{v:gE}{u:iU}(h:VR ρ v u):jc ρ v.cells u.cells.toList:=by
 cases h with
 |agg h1 h2=>exact⟨by simpa[gE.cells,RB]using h1,λj u u' a b=>h2 j u u' a (by simpa[RB]using b)⟩
 |b x=>exact jc.nil.cons (.b x)
 |i k n=>exact jc.nil.cons (.i k n)
 |s x=>exact jc.nil.cons (.s x)
 |pn=>exact jc.nil.cons .pn
 |p h=>exact jc.nil.cons (.p h)
 |sn=>exact jc.nil.cons .sn
 |sk h h2=>exact jc.nil.cons (.sk h h2)
 |so h h2 h3 h4=>exact jc.nil.cons (.so h h2 h3 h4)
 |es=>exact jc.nil.cons .es
 |mn=>exact jc.nil.cons .mn
 |m h=>exact jc.nil.cons (.m h)
 |f h1 h2=>exact jc.nil.cons (.f h1 h2)
 |nf=>exact jc.nil.cons .nf
 |un h=>rw[TA h];exact jc.nil.cons (.un h)
 |kx h1 h2=>exact jc.nil.cons (.kx h1 h2)
theorem VR.ae0{ρ:Ren}{v:gE}{u:iU}(h:VR ρ v u)(h1:v.one=true):u.oneCell'=true:=by
 cases h<;>first|rfl|assumption|(simp[gE.one]at h1)
theorem jc.one{ρ:Ren}{cs vs}(h:jc ρ cs vs)(h1:cs.all gE.one=true):∀u∈vs,u.oneCell'=true:=by
 intro u hu;obtain⟨j,hj,rfl⟩:=my hu;have hc:cs[j]? =some (cs[j]'(by rw[h.1];exact hj)):=jx _;exact(h.2 j _ _ hc (jx hj)).ae0 (j9.1 h1 _ (jF _))
def Fz(z:Nat)(w:jb)(g:Nat):Prop:=(∀c e fz,w.heap[g]? =some (.cells c e fz)→fz.1≤fz.2)∧(∀o u,w.cell? ⟨g,o,none⟩=some u→u.oneCell'=true)∧(z≠1 → ∀c e fz,w.heap[g]? =some (.cells c e fz)→fz.2≤fz.1)
def Dw(ρ:Ren)(i:Info)(w:jb):mA→Prop
 | .cells z c=>i.z=z∧i.n=c.length∧i.base+i.n≤i.N∧c.all gE.one=true∧((∀o,o<i.N→(w.cell? ⟨i.g,o,none⟩).isSome=true∧w.frozen? ⟨i.g,o,none⟩=false)∧Fz z w i.g) ∧
   ∀j u,c[j]? =some u → ∃u',w.cell? ⟨i.g,i.base+j,none⟩=some u'∧VR ρ u u'
 | .ro c=>c.all gE.one=true ∧ ∀j u,c[j]? =some u → ∃u',w.cell? ⟨i.g,i.base+j,none⟩=some u'∧VR ρ u u'
 | .map es=>∃(en:Array B7)(ck:Nat),w.heap[i.g]? =some (.map en ck)∧en.size=es.length ∧ ∀(j:Nat)(k v:gE),es[j]? =some (k,v) → ∃e:B7,en[j]? =some e∧VR ρ k e.key∧VR ρ v e.val
 | .dead=>True
@[simp]def mA.IA:mA→Bool
 | .cells ..=>true
 | .ro _=>true
 | .map _=>true
 | .dead=>false
@[simp]def mA.P1:mA→Bool
 | .cells ..=>true
 | .ro _=>false
 | .map _=>true
 | .dead=>false
def has(p:mA→Bool)(h:Hp)(b:Nat):Prop:=∃B,h.get b=some B∧p B=true
abbrev live(h:Hp)(b:Nat):Prop:=has mA.IA h b
abbrev own(h:Hp)(b:Nat):Prop:=has mA.P1 h b
theorem own.live{h:Hp}{b:Nat}(q:own h b):live h b:=by
 obtain⟨B,q1,q2⟩:=q;refine⟨B,q1,?_⟩;cases B<;>simp at q2 ⊢
structure Rel(ρ:Ren)(h:Hp)(w:jb):Prop where
 nv:∀b i,ρ b=some i→b<h.next∧i.g<w.heap.size
 kG:∀b i B,ρ b=some i→h.get b=some B→Dw ρ i w B
 inj:∀b b' i i',ρ b=some i→ρ b'=some i'→live h b→own h b'→i.g=i'.g→b=b'
 wf:∀b,h.next≤b→h.get b=none
structure Ext(ρ:Ren)(h:Hp)(w:jb)(ρ':Ren)(h':Hp)(w':jb):Prop where
 le:ρ.le ρ'
 next:h.next≤h'.next
 other:∀b,ρ b=none→b<h.next→ρ' b=none∧h'.get b=h.get b
 size:w.heap.size≤w'.heap.size
 frame:∀g,g<w.heap.size→(∀b i,ρ b=some i→own h b→i.g≠g)→w'.heap[g]? =w.heap[g]? ∧ ∀b i,ρ' b=some i→own h' b→i.g≠g
 os:w'.os=w.os
 tape:w'.tape=w.tape
 output:w'.output=w.output
 drawn:w.drawn≤w'.drawn
theorem Ext.refl(ρ:Ren)(h:Hp)(w:jb):Ext ρ h w ρ h w:=⟨Ren.le.refl _,jg _,λb hb _=>⟨hb,rfl⟩,jg _,λg _ hg=>⟨rfl,hg⟩,rfl,rfl,rfl,jg _⟩
theorem Ext.trans{ρ h w B3 h1 w1 Da h2 w2}(a:Ext ρ h w B3 h1 w1)(b:Ext B3 h1 w1 Da h2 w2):Ext ρ h w Da h2 w2 :=
 ⟨a.le.trans b.le,nY a.next b.next,λx hx hl=>by
   obtain⟨p,q⟩:=a.other x hx hl;obtain⟨p',q'⟩:=b.other x p (sa hl a.next);exact⟨p',q'.trans q⟩,
  nY a.size b.size,λg hg hn=>by
   obtain⟨p,q⟩:=a.frame g hg hn;obtain⟨p',q'⟩:=b.frame g (sa hg a.size) q;exact⟨p'.trans p,q'⟩,b.os.trans a.os,b.tape.trans a.tape,b.output.trans a.output,nY a.drawn b.drawn⟩
theorem Rel.drew{ρ h w}(r:Rel ρ h w):Rel ρ h w.drew:=⟨λb i e=>r.nv b i e,λb i B e f=>by
  have:=r.kG b i B e f;cases B with
  |cells z c=>exact this
  |map es=>exact this
  |ro c=>exact this
  |dead=>trivial,r.inj,r.wf⟩
theorem Ext.drew(ρ:Ren)(h:Hp)(w:jb):Ext ρ h w ρ h w.drew:=⟨Ren.le.refl _,jg _,λb hb _=>⟨hb,rfl⟩,jg _,λg _ hg=>⟨rfl,hg⟩,rfl,rfl,rfl,vN _⟩
section
variable{ρ:Ren}{h:Hp}{w:jb}
theorem Rel.rd(r:Rel ρ h w){b o n:Nat}{i:Info}{vs:List gE}(hb:ρ b=some i)(hr:rd h b o n=some vs):vs.all gE.one=true ∧ ∃us,jc ρ vs us∧us.length=n∧w.rangeAt i.g (i.base+o) us:=by
 unfold V.rd at hr;cases hg:h.get b with
 |none=>simp[hg]at hr
 | some B =>
  cases B with
  | cells z c =>
   simp only[hg]at hr
   split at hr
   ·rename_i hle;obtain rfl:=iK hr;obtain⟨h1,h2,h3,h4,h5,h6⟩:=r.kG b i _ hb hg;refine⟨j9.2 λx hx=>j9.1 h4 x (sI (sJ hx)),?_⟩;obtain⟨us,h7,h8⟩:=jc.Om (ρ:=ρ) (cs:=(c.drop o).take n) (f:=λj=>w.cell? ⟨i.g,i.base+o+j,none⟩) λj u hj=>by
     rw[oc]at hj
     split at hj
     ·rw[pS]at hj;obtain⟨u',a,q⟩:=h6 _ u hj;exact⟨u',by rw[sK];exact a,q⟩
     ·cases hj
    exact⟨us,h7,by rw[←h7.1];simp;omega,λj v hv=>h8 j v hv⟩
   ·cases hr
  | ro c =>
   simp only[hg]at hr
   split at hr
   ·rename_i hle;obtain rfl:=iK hr;obtain⟨h4,h6⟩:=r.kG b i _ hb hg;refine⟨j9.2 λx hx=>j9.1 h4 x (sI (sJ hx)),?_⟩;obtain⟨us,h7,h8⟩:=jc.Om (ρ:=ρ) (cs:=(c.drop o).take n) (f:=λj=>w.cell? ⟨i.g,i.base+o+j,none⟩) λj u hj=>by
     rw[oc]at hj
     split at hj
     ·rw[pS]at hj;obtain⟨u',a,q⟩:=h6 _ u hj;exact⟨u',by rw[sK];exact a,q⟩
     ·cases hj
    exact⟨us,h7,by rw[←h7.1];simp;omega,λj v hv=>h8 j v hv⟩
   ·cases hr
  |map es=>simp[hg]at hr
  |dead=>simp[hg]at hr
theorem aaW{w w':jb}{a:Addr}(e:w'.heap[a.block]? =w.heap[a.block]?):w'.frozen? a=w.frozen? a:=by simp[ET,e]
theorem DN{w w':jb}{a:Addr}(e:w'.heap[a.block]? =w.heap[a.block]?):w'.cell? a=w.cell? a:=by simp[uq,e]
theorem Dw.congr{i:Info}{w w':jb}{B:mA}{σ:Ren}(l:ρ.le σ)(e:w'.heap[i.g]? =w.heap[i.g]?)(hB:Dw ρ i w B):Dw σ i w' B:=by
 cases B with
 |cells z c =>
  obtain⟨h1,h2,h3,h4,h5,h6⟩:=hB;refine⟨h1,h2,h3,h4,⟨λo ho=>?_,⟨λc e' fz hf=>h5.2.1 c e' fz (e▸hf),λo u q=>h5.2.2.1 o u (by rw[DN (a:=⟨i.g,o,none⟩) e]at q;exact q),λhz c e' fz hf=>h5.2.2.2 hz c e' fz (e▸hf)⟩⟩,λj u hj=>?_⟩
  ·rw[DN (a:=⟨i.g,o,none⟩) e,aaW (a:=⟨i.g,o,none⟩) e];exact h5.1 o ho
  ·obtain⟨u',a,q⟩:=h6 j u hj;exact⟨u',by rw[DN (a:=⟨i.g,i.base+j,none⟩) e];exact a,q.mono l⟩
 |ro c =>
  obtain⟨h4,h6⟩:=hB;refine⟨h4,λj u hj=>?_⟩;obtain⟨u',a,q⟩:=h6 j u hj;exact⟨u',by rw[DN (a:=⟨i.g,i.base+j,none⟩) e];exact a,q.mono l⟩
 |map es =>
  obtain⟨en,ck,h1,h2,h3⟩:=hB;exact⟨en,ck,e.trans h1,h2,λj k v hj=>by obtain⟨x,a,p,q⟩:=h3 j k v hj;exact⟨x,a,p.mono l,q.mono l⟩⟩
 |dead=>trivial
theorem tv{c:List gE}{o:Nat}{vs:List gE}(h:o+vs.length≤c.length):(kA c o vs).length=c.length:=by simp[kA];omega
theorem AB{c:List gE}{o:Nat}{vs:List gE}(h:o+vs.length≤c.length)(j:Nat):(kA c o vs)[j]? =if o≤j∧j<o+vs.length then vs[j-o]? else c[j]?:=by
 unfold kA
 by_cases h1:j<o
 ·rw[if_neg (by omega),pG,mU (by simp;omega),oc,if_pos h1]
 ·by_cases h2:j<o+vs.length
  ·rw[if_pos ⟨by omega,h2⟩,pG,nq (by simp;omega),mU (by simp;omega)]
   congr 1;simp;omega
  ·rw[if_neg (by omega),pG,nq (by simp;omega),nq (by simp;omega),pS]
   congr 1;simp;omega
theorem Bq(b:Nat):∀(vs:List iU)(o:Nat)(w:jb)(k:Nat),k≠b→(w.setCells b o vs).heap[k]? =w.heap[k]?
 |[],_,_,_,_=>rfl
 |v::r,o,w,k,hk=>by
  rw[GX,Bq b r (o+1) _ k hk];simp only[JD,zG]
  split
  ·rename_i e;exact absurd e.symm hk
  ·rfl
theorem size_setCells(b:Nat):∀(vs:List iU)(o:Nat)(w:jb),(w.setCells b o vs).heap.size=w.heap.size
 |[],_,_=>rfl
 |v::r,o,w=>by rw[GX,size_setCells b r];simp[JD]
theorem os_setCells(b:Nat):∀(vs:List iU)(o:Nat)(w:jb),(w.setCells b o vs).os=w.os∧(w.setCells b o vs).tape=w.tape∧(w.setCells b o vs).output=w.output∧(w.setCells b o vs).drawn=w.drawn
 |[],_,_=>⟨rfl,rfl,rfl,rfl⟩
 |v::r,o,w=>by rw[GX];exact os_setCells b r (o+1) _
theorem isSome_setCells(b:Nat):∀(vs:List iU)(o:Nat)(w:jb)(x:Addr),(w.cell? x).isSome=true→((w.setCells b o vs).cell? x).isSome=true
 |[],_,_,_,h=>h
 | v::r,o,w,x,h=>by
  rw[GX];refine isSome_setCells b r (o+1) _ x ?_;simp only[uq,JD,zG]at h ⊢
  split
  ·rename_i c cc e hh
   split at hh
   ·rename_i hb;cases hw:w.heap[x.block]? with
    |none=>simp[hw]at h
    |some ob =>
     rw[hw]at h hh;cases ob<;>simp at hh h
     obtain⟨rfl,rfl,rfl⟩:=hh
     split at h
     ·simp at h
     ·rename_i hs;rw[if_neg hs];simp at h ⊢;exact h
   ·rw[hh]at h;exact h
  ·rename_i hh
   split at hh
   ·rename_i hb;cases hw:w.heap[x.block]? with
    |none=>simp[hw]at h
    |some ob=>rw[hw]at h hh;cases ob<;>simp at hh h
   ·cases hw:w.heap[x.block]? with
    |none=>simp[hw]at h
    |some ob=>rw[hw]at h hh;cases ob<;>simp at hh h
theorem Zv{w:jb}{a x:Addr}{v u:iU}(h:(w.setCell a v).cell? x=some u):u=v∨w.cell? x=some u:=by
 simp only[uq,JD,zG]at h ⊢
 by_cases hb:a.block=x.block
 ·rw[if_pos hb]at h;cases hw:w.heap[x.block]? with
  |none=>simp[hw]at h
  | some ob =>
   rw[hw]at h;cases ob with
   | cells c e fz =>
    simp only[lE]at h
    split at h
    ·cases h
    ·by_cases hs:a.spot.isSome=true
     ·rw[if_pos hs]at h;exact .inr (by simpa[‹¬x.spot.isSome=true›]using h)
     ·rw[if_neg hs,zH]at h
      split at h
      ·split at h
       ·exact .inl (iK h).symm
       ·cases h
      ·exact .inr (by simpa[‹¬x.spot.isSome=true›]using h)
   |_=>simp at h
 ·rw[if_neg hb]at h;exact .inr h
theorem Ug{w:jb}{a:Addr}{v:iU}{g:Nat}{c:Array iU}{e:iA}{fz:Nat×Nat}(hf:(w.setCell a v).heap[g]? =some (.cells c e fz)):∃c',w.heap[g]? =some (.cells c' e fz):=by
 simp only[JD,zG]at hf
 split at hf
 ·rename_i hb;cases hw:w.heap[g]? with
  |none=>simp[hw]at hf
  |some ob =>
   rw[hw]at hf;cases ob<;>simp at hf
   obtain⟨_,rfl,rfl⟩:=hf;exact⟨_,rfl⟩
 ·exact⟨c,hf⟩
theorem Ol{z:Nat}(b:Nat):∀(vs:List iU)(o:Nat)(w:jb)(g:Nat),(∀u∈vs,u.oneCell'=true)→Fz z w g→Fz z (w.setCells b o vs) g
 |[],_,_,_,_,h=>h
 | v::r,o,w,g,hv,h=>by
  rw[GX];refine Ol b r (o+1) _ g (λu hu=>hv u (mV _ hu)) ⟨λc e fz hf=>?_,λo' u hu=>?_,λhz c e fz hf=>?_⟩
  ·obtain⟨c',q⟩:=Ug hf;exact h.1 c' e fz q
  ·rcases Zv hu with rfl|q
   ·exact hv _ (by simp)
   ·exact h.2.1 o' u q
  ·obtain⟨c',q⟩:=Ug hf;exact h.2.2 hz c' e fz q
theorem PA{p:mA→Bool}{b k:Nat}{z:Nat}{c c':List gE}(hp:p (.cells z c)=p (.cells z c'))(hb:h.get b=some (.cells z c)):has p (h.set b (.cells z c')) k↔has p h k:=by
 unfold has
 by_cases hk:k=b
 ·subst hk;simp[Hp.jv,hb,hp]
 ·simp[Hp.jv,hk]
theorem Rel.p6{h':Hp}(r:Rel ρ h w){b o:Nat}{i:Info}{vs:List gE}{us:List iU}(hb:ρ b=some i)(hr:p6 h b o vs=some h')(hv:jc ρ vs us) :
  (∀j,j<us.length→(w.cell? ⟨i.g,i.base+o+j,none⟩).isSome=true)∧(∀j,j<us.length→w.frozen? ⟨i.g,i.base+o+j,none⟩=false)∧(∀u∈us,u.oneCell'=true)∧Rel ρ h' (w.setCells i.g (i.base+o) us)∧Ext ρ h w ρ h' (w.setCells i.g (i.base+o) us):=by
 unfold V.p6 at hr;cases hg:h.get b with
 |none=>simp[hg]at hr
 | some B =>
  cases B with
  | cells z c =>
   simp only[hg]at hr
   split at hr
   ·rename_i hle;obtain⟨hle,rl⟩:=hle;obtain rfl:=iK hr;obtain⟨h1,h2,h3,h4,h5,h6⟩:=r.kG b i _ hb hg;have BA:=hv.1;have hs:∀j,j<us.length→(w.cell? ⟨i.g,i.base+o+j,none⟩).isSome=true:=λj hj=>(h5.1 _ (by omega)).1;refine⟨hs,λj hj=>(h5.1 _ (by omega)).2,hv.one rl,?_,?_⟩
    ·refine⟨λb' i' e=>?_,λb' i' B' e f=>?_,λb1 b2 i1 i2 e1 e2 l1 l2=>r.inj b1 b2 i1 i2 e1 e2 ((PA (p:=mA.IA) (z:=z) (c:=c) (c':=kA c o vs) (Eq.refl true) hg).1 l1) ((PA (p:=mA.P1) (z:=z) (c:=c) (c':=kA c o vs) (Eq.refl true) hg).1 l2),λk hk=>by
      have OI:=(r.nv b i hb).1;have om:h.next≤k:=hk;rw[Hp.jv,if_neg (by omega)];exact r.wf k om⟩
     ·have:=r.nv b' i' e;rw[size_setCells];exact this
     ·rw[Hp.jv]at f
      split at f
      ·rename_i pU;subst pU;rw[hb]at e;obtain rfl:=iK e;obtain rfl:=iK f;refine⟨h1,by rw[tv hle];exact h2,h3,?_,⟨λo' pX=>?_,Ol _ _ _ _ _ (hv.one rl) h5.2⟩,λj u hj=>?_⟩
       ·refine j9.2 λx hx=>?_;unfold kA at hx;rcases mF.1 hx with hx|hx
        ·rcases mF.1 hx with hx|hx
         ·exact j9.1 h4 x (sJ hx)
         ·exact j9.1 rl x hx
        ·exact j9.1 h4 x (sI hx)
       ·exact⟨isSome_setCells _ _ _ _ _ (h5.1 o' pX).1,by rw[World.frozen?_setCells];exact(h5.1 o' pX).2⟩
       ·rw[AB hle]at hj
        split at hj
        ·rename_i hjj;obtain⟨u',a,q⟩:=hv.at hj;refine⟨u',?_,q⟩;have jB:=(kI.1 a).1;have:=World.cell?_setCells_in i.g us (i.base+o) w hs (j-o) jB;rw[show i.base+j=i.base+o+(j-o)from by omega,this];exact(jx jB).symm.trans a
        ·rename_i hjj;obtain⟨u',a,q⟩:=h6 j u hj;refine⟨u',?_,q⟩;rw[World.cell?_setCells_out i.g us (i.base+o) w ⟨i.g,i.base+j,none⟩ (λ_ _=>by simp only;rw[←BA];omega)];exact a
      ·rename_i pU;have hB:=r.kG b' i' B' e f;cases B' with
       |dead=>trivial
       |cells z' c' =>
        have jw:i'.g≠i.g:=λeg=>pU (r.inj b' b i' i e hb ⟨_,f,by simp⟩ ⟨_,hg,by simp⟩ eg);exact hB.congr (Ren.le.refl _) (Bq _ _ _ _ _ jw)
       |ro c' =>
        have jw:i'.g≠i.g:=λeg=>pU (r.inj b' b i' i e hb ⟨_,f,by simp⟩ ⟨_,hg,by simp⟩ eg);exact hB.congr (Ren.le.refl _) (Bq _ _ _ _ _ jw)
       |map es =>
        have jw:i'.g≠i.g:=λeg=>pU (r.inj b' b i' i e hb ⟨_,f,by simp⟩ ⟨_,hg,by simp⟩ eg);exact hB.congr (Ren.le.refl _) (Bq _ _ _ _ _ jw)
    ·obtain⟨o1,o2,o3,o4⟩:=os_setCells i.g us (i.base+o) w;refine⟨Ren.le.refl _,jg _,λb' jM hl=>⟨jM,?_⟩,by rw[size_setCells];exact jg _,λg pV hn=>⟨Bq _ _ _ _ _ (λe=>hn b i hb ⟨_,hg,rfl⟩ e.symm),λb' i' e q=>hn b' i' e ((PA (p:=mA.P1) (z:=z) (c:=c) (c':=kA c o vs) (Eq.refl true) hg).1 q)⟩,o1,o2,o3,by rw[o4];exact jg _⟩;rw[Hp.jv,if_neg (λe=>by rw[e,hb]at jM;cases jM)]
   ·cases hr
  |ro c=>simp[hg]at hr
  |map es=>simp[hg]at hr
  |dead=>simp[hg]at hr
def Ren.put(ρ:Ren)(b:Nat)(i:Info):Ren:=λk=>if k=b then some i else ρ k
theorem Rel.free(r:Rel ρ h w):ρ h.next=none:=by
 cases e:ρ h.next with
 |none=>rfl
 |some i=>have:=(r.nv _ _ e).1;omega
theorem Ren.Ed{b:Nat}(i:Info)(hb:ρ b=none):ρ.le (ρ.put b i):=λk j e=>by
 unfold Ren.put
 split
 ·rename_i hk;rw[hk,hb]at e;cases e
 ·exact e
theorem Rel.PT(r:Rel ρ h w){z:Nat}{c:List gE}{cs:List iU}{e:iA}{fz:Nat×Nat}(hf:fz.1<fz.2→cs.length≤fz.1)(hz:fz.1≤fz.2)(Pj:z≠1→fz.2≤fz.1)(h1:c.all gE.one=true)(Bv:∀u∈cs,u.oneCell'=true)(hlen:c.length≤cs.length)(hv:jc ρ c (cs.take c.length)) :
  Rel (ρ.put h.next ⟨w.heap.size,0,z,c.length,cs.length⟩) (h.new (.cells z c)) (w.alloc (.cells cs.toArray e fz))∧Ext ρ h w (ρ.put h.next ⟨w.heap.size,0,z,c.length,cs.length⟩) (h.new (.cells z c)) (w.alloc (.cells cs.toArray e fz)):=by
 have FR:=r.free;have hle:=Ren.Ed (ρ:=ρ) (b:=h.next) ⟨w.heap.size,0,z,c.length,cs.length⟩ FR;have mE:∀b i,(ρ.put h.next ⟨w.heap.size,0,z,c.length,cs.length⟩) b=some i→(b=h.next∧i=⟨w.heap.size,0,z,c.length,cs.length⟩)∨(b≠h.next∧ρ b=some i):=λb i e=>by
  unfold Ren.put at e
  split at e
  ·rename_i hb;exact .inl ⟨hb,(iK e).symm⟩
  ·rename_i hb;exact .inr ⟨hb,e⟩
 have hold:∀g,g<w.heap.size→(w.alloc (.cells cs.toArray e fz)).heap[g]? =w.heap[g]?:=λg hg=>by
  show(w.heap.push _)[g]? =_;rw[Db,if_neg (R7 hg)]
 have pj:(w.alloc (.cells cs.toArray e fz)).heap[w.heap.size]? =some (.cells cs.toArray e fz):=by
  show(w.heap.push _)[w.heap.size]? =_;rw[Db,if_pos rfl]
 refine⟨⟨λb i e=>?_,λb i B e f=>?_,λb b' i i' e e' l l' hg=>?_,λk hk=>by
   have om:h.next+1≤k:=hk;rw[Hp.lI,if_neg (by omega)];exact r.wf k (by omega)⟩,hle,vN _,λb hb hl=>⟨?_,?_⟩,by simp,λg hg hn=>⟨hold g hg,λb i e q=>?_⟩,rfl,rfl,rfl,jg _⟩
 ·rcases mE b i e with⟨rfl,rfl⟩|⟨_,e⟩
  ·exact⟨xF _,by simp⟩
  ·have:=r.nv b i e;exact⟨E9 this.1,by simp;omega⟩
 ·rcases mE b i e with⟨rfl,rfl⟩|⟨hb,e⟩
  ·rw[Hp.lI,if_pos rfl]at f;obtain rfl:=iK f;refine⟨rfl,rfl,by simpa using hlen,h1,⟨λo ho=>⟨?_,?_⟩,⟨λc' e' Oj y6=>by rw[pj]at y6;obtain⟨_,_,rfl⟩:=(JA (iK y6));exact hz,λo u q=>by simp only[uq,pj]at q;exact Bv u (pH (by simpa using q)),λmY c' e' Oj y6=>by rw[pj]at y6;obtain⟨_,_,rfl⟩:=(JA (iK y6));exact Pj mY⟩⟩,λj u hj=>?_⟩
   ·simp only[uq,pj];simp;exact ho
   ·simp only[ET,pj];simp;intro a;rcases G7 fz.1 fz.2 with q|q
    ·have:=hf q;simp at ho;omega
    ·omega
   ·have nT:=(kI.1 hj).1;obtain⟨u',a,q⟩:=hv.at hj;refine⟨u',?_,q.mono hle⟩;simp only[uq,pj];rw[oc,if_pos nT]at a;simpa using a
  ·rw[Hp.lI,if_neg hb]at f;exact(r.kG b i B e f).congr hle (hold _ (r.nv b i e).2)
 ·have lv:∀(p:mA→Bool)b,b≠h.next→has p (h.new (.cells z c)) b→has p h b:=λp b hb ⟨B,a,q⟩=>⟨B,by rw[Hp.lI,if_neg hb]at a;exact a,q⟩
  rcases mE b i e with⟨rfl,rfl⟩|⟨hb,e⟩<;>rcases mE b' i' e' with⟨rfl,rfl⟩|⟨jM,e'⟩
  ·rfl
  ·have:=(r.nv b' i' e').2;simp only at hg;omega
  ·have:=(r.nv b i e).2;simp only at hg;omega
  ·exact r.inj b b' i i' e e' (lv _ b hb l) (lv _ b' jM l') hg
 ·unfold Ren.put;rw[if_neg (by omega)];exact hb
 ·rw[Hp.lI,if_neg (by omega)]
 ·rcases mE b i e with⟨rfl,rfl⟩|⟨hb,e⟩
  ·simp;omega
  ·obtain⟨B,q1,q2⟩:=q;exact hn b i e ⟨B,by rw[Hp.lI,if_neg hb]at q1;exact q1,q2⟩
end
end Go.V
end
section
namespace Go.V
def mj(ρ:Ren)(env:Env)(a:Act):Prop:=∀t v,env.get t=some v→VR ρ v (a.tmps.getD t undef)
theorem mj.mono{ρ σ:Ren}{env:Env}{a:Act}(l:ρ.le σ)(h:mj ρ env a):mj σ env a:=λt v e=>(h t v e).mono l
theorem TO{ρ:Ren}{u:iU}{v:gE}(h:yV u=some v):VR ρ v u:=by
 unfold yV at h
 split at h<;>first|(obtain rfl:=iK h)|cases h
 ·exact .b _
 ·exact .i _ _
 ·rename_i s;have:oF s.data.toList = .string s:=by unfold oF;rw[xy]
  rw[←this];exact .s _
 ·exact .pn
 ·exact .sn
 ·exact .mn
 ·exact .nf
theorem aew{ρ:Ren}:∀{l:List iU}{vs:List gE},l.mapM yV=some vs→jc ρ vs l:=by
 intro l
 induction l with
 |nil=>intro vs h;simp at h;subst h;exact jc.nil
 |cons x l ih =>
  intro vs h;simp only[qa,wN,Hb,iO,km]at h;obtain⟨v,h1,us,h2,rfl⟩:=h;exact(ih h2).cons (TO h1)
theorem yd{ρ:Ren}{u:iU}{v:gE}(h:cv u=some v):VR ρ v u:=by
 unfold cv at h
 split at h
 ·rename_i cs;obtain⟨vs,h1,rfl⟩:=jR.1 h;have:=aew (ρ:=ρ) h1;have h2:=VR.agg this.1 this.2;simpa using h2
 ·exact TO h
theorem TP{u:iU}{v:gE}(h:yV u=some v):u.oneCell'=true:=by
 unfold yV at h
 split at h<;>first|rfl|cases h
theorem aex:∀{l:List iU}{vs:List gE},l.mapM yV=some vs → ∀u∈l,u.oneCell'=true:=by
 intro l
 induction l with
 |nil=>intro vs _ u hu;cases hu
 |cons x l ih =>
  intro vs h u hu;simp only[qa,wN,Hb,iO,km]at h;obtain⟨v,h1,us,h2,rfl⟩:=h;rcases lM.1 hu with rfl|hu
  ·exact TP h1
  ·exact ih h2 u hu
theorem Tc{s:ByteArray}{n:Nat}:∀u∈(bytesRow s n).toList,u.oneCell'=true:=by
 intro u hu;simp only[bytesRow,Array.toList_append,Array.toList_map,Array.toList_replicate,mF,qJ,List.mem_replicate]at hu;rcases hu with⟨b,_,rfl⟩|⟨_,rfl⟩<;>rfl
theorem aav{u:iU}{v:gE}(h:cv u=some v):∀x∈u.cells.toList,x.oneCell'=true:=by
 unfold cv at h
 split at h
 ·rename_i cs;obtain⟨vs,h1,rfl⟩:=jR.1 h;exact λx hx=>aex h1 x (by simpa[RB]using hx)
 ·have h1:=TP h;rw[TA h1];intro x hx;obtain rfl:=List.mem_singleton.1 hx;exact h1
section
variable{P:iY}{ρ:Ren}{h:Hp}{w:jb}{env:Env}{a:Act}
theorem mS(hE:mj ρ env a){x:iT}{v:gE}(hx:jI env x=some v):VR ρ v (a.eval x):=by
 cases x with
 |tmp t=>exact hE t v hx
 |const c=>exact yd hx
 |global g=>cases hx
 |func f=>obtain rfl:=iK hx;exact VR.f (vs:=[]) rfl (λj u u' h=>by simp at h)
theorem HI(hE:mj ρ env a):∀{l:List iT}{vs:List gE},pN env l=some vs→jc ρ vs (l.map a.eval):=by
 intro l
 induction l with
 |nil=>intro vs h;simp[pN]at h;subst h;exact jc.nil
 |cons x l ih =>
  intro vs h;simp only[pN,qa,wN,Hb,iO,km]at h;obtain⟨v,h1,us,h2,rfl⟩:=h;exact(ih h2).cons (mS hE h1)
def jQ(P:iY)(ρ:Ren)(h:Hp)(w:jb)(a:Act)(o:Oper)(v:gE)(h':Hp):Prop :=
 ∃ρ' w' r u,(execOp a.eval o).run P w = .ok r w'∧(r = .value u∨(r = .skip∧u=undef))∧VR ρ' v u∧Rel ρ' h' w'∧Ext ρ h w ρ' h' w'
theorem jQ.val{o:Oper}{v:gE}{u:iU}(r:Rel ρ h w)(hr:(execOp a.eval o).run P w = .ok (.value u) w)(hv:VR ρ v u):jQ P ρ h w a o v h :=
 ⟨ρ,w,_,u,hr,.inl rfl,hv,r,Ext.refl _ _ _⟩
theorem qE{t:iA}{n:Nat}(hs:sz P t=some n)(w:jb):(sizeOf t).run P w = .ok n w:=by
 obtain⟨i,h1,rfl⟩:=jR.1 hs;simp[sizeOf,typeInfo,h1]
theorem L2{t:iA}{b:Bool}(hs:lG P t=some b)(w:jb):(isAgg t).run P w = .ok b w:=by
 obtain⟨d,h1,rfl⟩:=jR.1 hs;unfold isAgg;rw[jq,j7 h1 w];cases d<;>rfl
theorem yD{t:iA}{v:gE}(hz:zeroV P t=some v):∃i z,P.info? t=some i∧i.zero=some z∧cv z=some v:=by
 obtain⟨i,h1,h2⟩:=iO.1 hz;obtain⟨z,h3,h4⟩:=iO.1 h2;exact⟨i,z,h1,h3,h4⟩
theorem AH{t:iA}{i:ES}{z:iU}(h1:P.info? t=some i)(h2:i.zero=some z)(w:jb):(zeroValue t).run P w = .ok z w:=by
 simp[zeroValue,typeInfo,h1,h2]
theorem add_lit(g o n:Nat):(⟨g,o,none⟩:Addr).add n=⟨g,o+n,none⟩:=Addr.add_mid g o n
theorem WL{o:Oper}{x:iT}{v:gE}(ho:o.op = .move x∨o.op = .assign x)(r:Rel ρ h w)(hE:mj ρ env a)(hx:jI env x=some v):jQ P ρ h w a o v h :=
 jQ.val r (u:=a.eval x) (by rcases ho with ho|ho<;>simp[execOp,ho]) (mS hE hx)
theorem WO{o:Oper}{c x y:iT}{t:Bool}{v:gE}(ho:o.op = .pick c x y)(r:Rel ρ h w)(hE:mj ρ env a)(hc:jI env c=some (.b t))(hx:jI env (bif t then x else y)=some v):jQ P ρ h w a o v h:=by
 have h1:=mS hE hc;have h2:=mS hE hx;generalize hq:a.eval c=q at h1;cases h1;refine jQ.val r (u:=a.eval (bif t then x else y)) ?_ h2;cases t<;>simp[execOp,ho,hq,asBool]
theorem ahg{o:Oper}{x:iT}{v:gE}(ho:o.op = .nilCheck x)(r:Rel ρ h w)(hE:mj ρ env a)(hx:jI env x=some v)(h1:v ≠ .p none)(h2:v ≠ .nf)(h3:v ≠ .un):jQ P ρ h w a o v h:=by
 have hv:=mS hE hx;generalize hq:a.eval x=q at hv;refine jQ.val r (u:=q) ?_ hv;cases hv<;>first|exact absurd rfl h1|exact absurd rfl h2|exact absurd rfl h3|simp[execOp,ho,hq,oF]
theorem Me(x:List UInt8):(⟨x.toArray⟩:ByteArray).toList=x:=by rw[ByteArray.toList_eq]
theorem YQ(x y:List UInt8):(⟨x.toArray⟩:ByteArray)++⟨y.toArray⟩=⟨(x++y).toArray⟩:=by
 apply ByteArray.ext;simp[ByteArray.data_append]
theorem ag5{op:wD}{k:pQ}{x y:Int}{v:gE}(ji:op ≠ .shl∧op ≠ .shr)(hv:tX op k x y=some v)(t:iA):∃u,(∀w,(binOp op t (.int k x) (.int k y)).run P w = .ok u w)∧VR ρ v u:=by
  unfold tX at hv;cases op<;>simp only[km,reduceCtorEq]at hv<;>first|exact absurd rfl ji.1|exact absurd rfl ji.2|skip
  all_goals first
    |(subst hv;refine⟨_,λw=>?_,by first|exact VR.i _ _|exact VR.b _⟩;simp[binOp,Op.intArith,Op.intBits,Op.intCmp];done)
    | (split at hv
       · cases hv
       · rename_i h0
         obtain rfl:=iK hv;refine⟨_,λw=>?_,VR.i _ _⟩;simp[binOp,Op.intDiv,h0])
theorem WR{op:wD}{k j:pQ}{x y:Int}{v:gE}(ji:op = .shl∨op = .shr)(hv:GD op k x y=some v)(t:iA):∃u,(∀w,(binOp op t (.int k x) (.int j y)).run P w = .ok u w)∧VR ρ v u:=by
 unfold GD at hv
 split at hv
 ·cases hv
 ·rename_i h0;rcases ji with rfl|rfl
  ·obtain rfl:=iK hv;exact⟨_,λw=>by simp[binOp,Op.shift,h0],VR.i _ _⟩
  ·obtain rfl:=iK hv;exact⟨_,λw=>by simp[binOp,Op.shift,h0],VR.i _ _⟩
theorem ahj{op:wD}{x y:List UInt8}{v:gE}(hv:Md op x y=some v)(t:iA):∃u,(∀w,(binOp op t (oF x) (oF y)).run P w = .ok u w)∧VR ρ v u:=by
 unfold Md at hv;cases op<;>simp only[km,reduceCtorEq]at hv
 case add =>
  split at hv
  ·rename_i hle;obtain rfl:=iK hv;refine⟨_,λw=>?_,VR.s _⟩;have h1:¬((((⟨x.toArray⟩:ByteArray).size+(⟨y.toArray⟩:ByteArray).size:Nat):Int)>yE.max):=by
    have e1:(⟨x.toArray⟩:ByteArray).size=x.length:=by simp[AP]
    have e2:(⟨y.toArray⟩:ByteArray).size=y.length:=by simp[AP]
    rw[e1,e2];have:yE.max=2^63-1:=by decide
    rw[this];omega
   simp only[binOp,oF,Op.stringOp];rw[if_neg h1,YQ];rfl
  ·cases hv
 all_goals
  subst hv;refine⟨_,λw=>?_,VR.b _⟩;simp only[binOp,oF,Op.stringOp,Me];rfl
theorem Wu{t:iA}{d:tF}{c1 c2:gE}{u1 u2:iU}(hp:CW P t=some d)(l1:BN d c1=true)(l2:BN d c2=true)(v1:VR ρ c1 u1)(v2:VR ρ c2 u2)(n:Nat)(w:jb) :
  (wG (n+1) t u1 u2).run P w = .ok (uG c1 c2) w:=by
 unfold CW at hp
 split at hp<;>first|(obtain rfl:=iK hp)|cases hp
 ·cases c1<;>simp[BN]at l1
  cases c2<;>simp[BN]at l2
  cases v1;cases v2;rw[run_equalIn_bool w n t _ _ (by assumption)];rfl
 ·rename_i k hu;cases c1<;>simp[BN]at l1
  cases c2<;>simp[BN]at l2
  subst l1;subst l2;cases v1;cases v2;rw[run_equalIn_int w n t _ _ _ _ hu];simp[uG]
 ·cases c1<;>simp[BN]at l1
  cases c2<;>simp[BN]at l2
  cases v1;cases v2;unfold oF;rw[run_equalIn_string w n t _ _ (by assumption),Me,Me];rfl
theorem Yi{t:iA}{d:tF}(hp:CW P t=some d)(w:jb):(isAgg t).run P w = .ok false w:=by
 unfold CW at hp
 split at hp<;>first|cases hp|skip
 all_goals(unfold isAgg;rw[jq,j7 (by assumption) w];rfl)
theorem L5{t:iA}{d:tF}(hp:CW P t=some d){us:List iU}{k:Nat}{u:iU}(hk:us[k]? =some u)(w:jb):(part t us.toArray k).run P w = .ok u w:=by
 unfold part;rw[jq,Yi hp w];simp[hk]
theorem agB{c1 c2:List gE}{u1 u2:List iU}(v1:jc ρ c1 u1)(v2:jc ρ c2 u2)(n:Nat)(w:jb):∀(fs:List zM)(k:Nat)(l:List tF),IQ P k fs=some l→pY l (c1.drop k)=true→pY l (c2.drop k)=true →
  (Rt (n+1) u1.toArray u2.toArray fs).run P w = .ok (sS (c1.drop k) (c2.drop k)) w:=by
 intro fs
 induction fs with
 |nil =>
  intro k l hl h1 h2;simp[IQ]at hl;subst hl;cases e1:c1.drop k<;>rw[e1]at h1<;>simp[pY]at h1
  cases e2:c2.drop k<;>rw[e2]at h2<;>simp[pY]at h2
  simp[Rt,sS]
 | cons f fs ih =>
  intro k l hl h1 h2;simp only[IQ]at hl
  split at hl
  ·rename_i hf;obtain⟨d,hd,hl⟩:=iO.1 hl;obtain⟨l',Ak,rfl⟩:=jR.1 hl;cases e1:c1.drop k with
   |nil=>rw[e1]at h1;simp[pY]at h1
   | cons x1 r1 =>
    cases e2:c2.drop k with
    |nil=>rw[e2]at h2;simp[pY]at h2
    |cons x2 r2 =>
     rw[e1]at h1;rw[e2]at h2;simp only[pY,jK]at h1 h2;have g1:c1[k]? =some x1:=by have:=congrArg (·[0]?) e1;simpa[pS]using this
     have g2:c2[k]? =some x2:=by have:=congrArg (·[0]?) e2;simpa[pS]using this
     have q1:c1.drop (k+1)=r1:=by rw[←MW,e1];rfl
     have q2:c2.drop (k+1)=r2:=by rw[←MW,e2];rfl
     obtain⟨y1,a1,b1⟩:=v1.at g1;obtain⟨y2,a2,b2⟩:=v2.at g2;have hr:=ih (k+1) l' Ak (by rw[q1];exact h1.2) (by rw[q2];exact h2.2);rw[q1,q2]at hr;have hq:=Wu hd h1.1 h2.1 b1 b2 n w;simp only[Rt,hf.1,ne_eq,not_false_eq_true,if_true,jq,hf.2,L5 hd a1 w,L5 hd a2 w,jA,hq];cases he:uG x1 x2
     ·simp[sS,he]
     ·simp[sS,he];exact hr
  ·cases hl
theorem agC{c1 c2:List gE}{u1 u2:List iU}(v1:jc ρ c1 u1)(v2:jc ρ c2 u2){e:iA}{d:tF}(hd:CW P e=some d)(n:Nat)(w:jb):∀(m k:Nat),pY (iV m d) (c1.drop k)=true→pY (iV m d) (c2.drop k)=true →
  (Ru (n+1) e 1 u1.toArray u2.toArray (List.range' k m)).run P w = .ok (sS (c1.drop k) (c2.drop k)) w:=by
 intro m
 induction m with
 |zero =>
  intro k h1 h2;cases e1:c1.drop k<;>rw[e1]at h1<;>simp[pY]at h1
  cases e2:c2.drop k<;>rw[e2]at h2<;>simp[pY]at h2
  simp[Ru,sS]
 | succ m ih =>
  intro k h1 h2;cases e1:c1.drop k with
  |nil=>rw[e1]at h1;simp[pY,G4]at h1
  | cons x1 r1 =>
   cases e2:c2.drop k with
   |nil=>rw[e2]at h2;simp[pY,G4]at h2
   |cons x2 r2 =>
    rw[e1]at h1;rw[e2]at h2;simp only[G4,pY,jK]at h1 h2;have g1:c1[k]? =some x1:=by have:=congrArg (·[0]?) e1;simpa[pS]using this
    have g2:c2[k]? =some x2:=by have:=congrArg (·[0]?) e2;simpa[pS]using this
    have q1:c1.drop (k+1)=r1:=by rw[←MW,e1];rfl
    have q2:c2.drop (k+1)=r2:=by rw[←MW,e2];rfl
    obtain⟨y1,a1,b1⟩:=v1.at g1;obtain⟨y2,a2,b2⟩:=v2.at g2;have hr:=ih (k+1) (by rw[q1];exact h1.2) (by rw[q2];exact h2.2);rw[q1,q2]at hr;have hq:=Wu hd h1.1 h2.1 b1 b2 n w;simp only[List.range'_succ,Ru,jq,Nat.mul_one,L5 hd a1 w,L5 hd a2 w,jA,hq];cases he:uG x1 x2
    ·simp[sS,he]
    ·simp[sS,he];exact hr
theorem W9{t:iA}{n:Nat}(h:sz P t=some n):∃i,P.info? t=some i∧i.size=n:=jR.1 h
theorem Wr{t:iA}{l:List tF}{c1 c2:List gE}{u1 u2:List iU}(hf:HN P t=some l)(l1:pY l c1=true)(l2:pY l c2=true)(v1:jc ρ c1 u1)(v2:jc ρ c2 u2)(n:Nat)(w:jb) :
  (wG (n+2) t (.agg u1.toArray) (.agg u2.toArray)).run P w = .ok (sS c1 c2) w:=by
 unfold HN at hf
 split at hf
 ·rename_i fs hu
  split at hf
  ·cases hf
  ·rename_i hs;have DV:P.fieldsOf t=fs:=by simp[Program.fieldsOf,hu]
   rw[run_equalIn_struct w (n+1) t _ _ (by rw[DV];exact hu) (by simpa using hs),DV];exact agB v1 v2 n w fs.toList 0 l hf l1 l2
 ·rename_i m e hu
  split at hf
  ·rename_i hs;obtain⟨d,hd,rfl⟩:=jR.1 hf;obtain⟨i,hi,sT⟩:=W9 hs;rw[run_equalIn_array w (n+1) _ _ hu hi,show P.cellsOf e=1 by simp[Program.cellsOf,hi,sT],List.range_eq_range'];exact agC v1 v2 hd n w m 0 l1 l2
  ·cases hf
 ·cases hf
theorem WH{t:iA}{x y:gE}{u1 u2:iU}{q:Bool}(hq:vm P t x y=some q)(v1:VR ρ x u1)(v2:VR ρ y u2)(w:jb):(Rv t u1 u2).run P w = .ok q w:=by
 suffices key:∀n,(wG (n+2) t u1 u2).run P w = .ok q w from key 9998
 intro n;unfold vm at hq
 split at hq
 ·rename_i hu;obtain rfl:=iK hq;cases v1;cases v2;exact run_equalIn_bool w (n+1) t _ _ hu
 ·rename_i hu;obtain rfl:=iK hq;cases v1;cases v2<;>(unfold wG;rw[jq,j7 hu w];rfl)
 ·rename_i hu;obtain rfl:=iK hq;cases v1;cases v2;(unfold wG;rw[jq,j7 hu w];rfl)
 ·rename_i hu;obtain rfl:=iK hq;cases v1;cases v2<;>(unfold wG;rw[jq,j7 hu w];rfl)
 ·rename_i hu;obtain rfl:=iK hq;cases v1<;>cases v2<;>(unfold wG;rw[jq,j7 hu w];rfl)
 ·rename_i hu;obtain rfl:=iK hq;cases v1;cases v2;(unfold wG;rw[jq,j7 hu w];rfl)
 ·rename_i hu;obtain rfl:=iK hq;cases v1;cases v2;(unfold wG;rw[jq,j7 hu w];rfl)
 ·rename_i hu;obtain rfl:=iK hq;cases v1;cases v2;(unfold wG;rw[jq,j7 hu w];rfl)
 ·rename_i hu;obtain rfl:=iK hq;cases v1;cases v2;(unfold wG;rw[jq,j7 hu w];rfl)
 ·rename_i hu;obtain rfl:=iK hq;cases v1;cases v2;(unfold wG;rw[jq,j7 hu w];rfl)
 ·rename_i hu;obtain rfl:=iK hq;cases v1;cases v2<;>(unfold wG;rw[jq,j7 hu w];rfl)
 ·rename_i hu;obtain rfl:=iK hq;cases v1;cases v2;(unfold wG;rw[jq,j7 hu w];rfl)
 ·split at hq
  ·rename_i l hf
   split at hq
   ·rename_i hc;simp only[jK]at hc;obtain rfl:=iK hq;cases v1 with
    |agg a1 b1=>cases v2 with
     |agg a2 b2=>exact Wr hf hc.1.1 hc.1.2 ⟨a1,b1⟩ ⟨a2,b2⟩ n w
   ·cases hq
  ·cases hq
 ·split at hq
  ·rename_i l hf
   split at hq
   ·rename_i hc;simp only[jK]at hc;obtain rfl:=iK hq;cases v1 with
    |agg a1 b1=>cases v2 with
     |agg a2 b2=>exact Wr hf hc.1.1 hc.1.2 ⟨a1,b1⟩ ⟨a2,b2⟩ n w
   ·cases hq
  ·cases hq
 ·cases hq
end
end Go.V
end
section
namespace Go.V
section
variable{P:iY}{ρ:Ren}{h:Hp}{w:jb}{env:Env}{a:Act}
theorem agz{t:iA}{x y:gE}{u1 u2:iU}{q:Bool}(hq:vm P t x y=some q)(v1:VR ρ x u1)(v2:VR ρ y u2)(w:jb) :
  (do pure (Value.bool (←Rv t u1 u2)):Sem iU).run P w = .ok (.bool q) w:=by
 rw[jq,WH hq v1 v2 w];rfl
theorem agy{t:iA}{x y:gE}{u1 u2:iU}{q:Bool}(hq:vm P t x y=some q)(v1:VR ρ x u1)(v2:VR ρ y u2)(w:jb) :
  (do pure (Value.bool (!(←Rv t u1 u2))):Sem iU).run P w = .ok (.bool (!q)) w:=by
 rw[jq,WH hq v1 v2 w];rfl
theorem Oo{op:wD}{t:iA}{x y:iT}{u1 u2:iU}(h1:∀b c,¬(u1 = .agg b∧u2 = .agg c))(h2:u1 ≠ .nilIface)(w:jb):(eqGuard op t x y u1 u2).run P w = .ok () w:=by
  unfold eqGuard;cases op<;>first
    |rfl
    | (simp only [nH,sY,if_false]
       split
       · exact absurd rfl h2
       · exact absurd ⟨rfl,rfl⟩ (h1 _ _)
       · rfl)
theorem Uj{op:wD}{t:iA}{x y:iT}{b c:Array iU}(hg:P.eqGuardType P.depth t=false)(w:jb):(eqGuard op t x y (.agg b) (.agg c)).run P w = .ok () w:=by
  unfold eqGuard;cases op<;>first
    |rfl
    | (simp only [nH,sY,if_false]
       simp[hg])
theorem WG{t:iA}{x y:gE}{u1 u2:iU}{q:Bool}(o1 o2:iT)(hq:vm P t x y=some q)(v1:VR ρ x u1)(v2:VR ρ y u2)(w:jb) :
  (binOp .eql t u1 u2).run P w = .ok (.bool q) w∧(binOp .neq t u1 u2).run P w = .ok (.bool (!q)) w∧(∀op,(eqGuard op t o1 o2 u1 u2).run P w = .ok () w):=by
 have e1:=agz hq v1 v2 w;have e2:=agy hq v1 v2 w;unfold vm at hq
 split at hq
 case h_13 =>
  split at hq
  ·split at hq
   ·rename_i hc;simp only[jK,tE]at hc;cases v1;cases v2;exact⟨e1,e2,λop=>Uj hc.2 w⟩
   ·cases hq
  ·cases hq
 case h_14 =>
  split at hq
  ·split at hq
   ·rename_i hc;simp only[jK,tE]at hc;cases v1;cases v2;exact⟨e1,e2,λop=>Uj hc.2 w⟩
   ·cases hq
  ·cases hq
 all_goals first
  |(cases hq;done)
  |(cases v1<;>cases v2<;>exact⟨e1,e2,λop=>Oo (by simp) (by simp) w⟩)
theorem agU{o:Oper}{op:wD}{t t2:iA}{x y:iT}{p q v:gE}(ho:o.op = .binOp op t x y t2)(r:Rel ρ h w)(hE:mj ρ env a)(hx:jI env x=some p)(hy:jI env y=some q)(hv:kJ P op t p q=some v):jQ P ρ h w a o v h:=by
 have v1:=mS hE hx;have v2:=mS hE hy;have lJ:∀{u:iU},(eqGuard op t x y (a.eval x) (a.eval y)).run P w = .ok () w→(binOp op t (a.eval x) (a.eval y)).run P w = .ok u w→(execOp a.eval o).run P w = .ok (.value u) w:=λh1 h2=>by
  simp only[execOp,ho,jq,h1,jA,h2,jP]
 unfold kJ at hv
 split at hv
 ·rename_i k m j n;generalize a.eval x=u1 at v1 lJ;generalize a.eval y=u2 at v2 lJ;cases v1;cases v2;have hg:=Oo (P:=P) (op:=op) (t:=t) (x:=x) (y:=y) (u1:=.int k m) (u2:=.int j n) (by simp) (by simp) w
  split at hv
  ·obtain⟨u,h1,h2⟩:=WR (P:=P) (ρ:=ρ) (j:=j) (.inl rfl) hv t;exact jQ.val r (lJ hg (h1 w)) h2
  ·obtain⟨u,h1,h2⟩:=WR (P:=P) (ρ:=ρ) (j:=j) (.inr rfl) hv t;exact jQ.val r (lJ hg (h1 w)) h2
  ·split at hv
   ·rename_i n1 n2 Ia;subst Ia;obtain⟨u,h1,h2⟩:=ag5 (P:=P) (ρ:=ρ) ⟨n1,n2⟩ hv t;exact jQ.val r (lJ hg (h1 w)) h2
   ·cases hv
 ·rename_i m n;generalize a.eval x=u1 at v1 lJ;generalize a.eval y=u2 at v2 lJ;cases v1;cases v2;have hg:=Oo (P:=P) (op:=op) (t:=t) (x:=x) (y:=y) (u1:=oF m) (u2:=oF n) (by simp[oF]) (by simp[oF]) w;obtain⟨u,h1,h2⟩:=ahj (P:=P) (ρ:=ρ) hv t;exact jQ.val r (lJ hg (h1 w)) h2
 ·split at hv
  ·obtain⟨b,hb,rfl⟩:=jR.1 hv;obtain⟨h1,h2,h3⟩:=WG x y hb v1 v2 w;exact jQ.val r (lJ (h3 _) h1) (.b _)
  ·obtain⟨b,hb,rfl⟩:=jR.1 hv;obtain⟨h1,h2,h3⟩:=WG x y hb v1 v2 w;exact jQ.val r (lJ (h3 _) h2) (.b _)
  ·cases hv
theorem ahm{o:Oper}{op:UnOp}{t:iA}{x:iT}{p v:gE}(ho:o.op = .unOp op t x)(r:Rel ρ h w)(hE:mj ρ env a)(hx:jI env x=some p)(hv:GL op p=some v):jQ P ρ h w a o v h:=by
 have v1:=mS hE hx;have lJ:∀{u:iU},(Op.unary op (a.eval x)).run P w = .ok u w→(execOp a.eval o).run P w = .ok (.value u) w:=λh2=>by
  simp only[execOp,ho,jq,jA,h2,jP]
 generalize a.eval x=u1 at v1 lJ;unfold GL at hv
 split at hv
 ·obtain rfl:=iK hv;cases v1;exact jQ.val r (lJ (u:=_) rfl) (.i _ _)
 ·cases v1;unfold tX at hv;obtain rfl:=iK hv;exact jQ.val r (lJ (u:=_) rfl) (.i _ _)
 ·obtain rfl:=iK hv;cases v1;exact jQ.val r (lJ (u:=_) rfl) (.b _)
 ·cases hv
theorem IF{v:gE}{n:Nat}(hv:xp v=some n):∃k,v = .i k n∧n≤2^40:=by
 unfold xp at hv
 split at hv
 ·rename_i k m
  split at hv
  ·rename_i hm;obtain rfl:=iK hv;exact⟨k,by rw[Int.toNat_of_nonneg hm.1],by omega⟩
  ·cases hv
 ·cases hv
theorem PR{v:gE}{n:Nat}(hv:uc v=some n):∃k,v = .i k n:=by
 unfold uc at hv
 split at hv
 ·rename_i k m
  split at hv
  ·rename_i hm;obtain rfl:=iK hv;exact⟨k,by rw[Int.toNat_of_nonneg hm]⟩
  ·cases hv
 ·cases hv
theorem ag4{o:Oper}{s:iA}{x:iT}{f b q n:Nat}{fd:zM}(ho:o.op = .fieldAddr s x f)(r:Rel ρ h w)(hE:mj ρ env a)(hx:jI env x=some (.p (some (b,q))))(hf:Bn P s f=some fd)(hs:sz P fd.type=some n)(hn:0<n) :
  jQ P ρ h w a o (.p (some (b,q+fd.offset))) h:=by
 have v1:=mS hE hx;generalize hu:a.eval x=u1 at v1;cases v1 with
 |p hb =>
  unfold Bn at hf
  split at hf
  ·rename_i fs jm;refine jQ.val r (u:=.pointer (some ⟨_,_,none⟩)) ?_ (.p hb);simp only[execOp,ho,hu,Instr.fieldAt,Jy,fieldPlace,jq,j7 jm w,jA,hf,jP,qE hs w];rw[if_neg (by omega)];simp only[jP,jA,add_lit,sK]
  ·cases hf
theorem ag7{o:Oper}{t:iA}{x y:iT}{p q v:gE}(ho:o.op = .indexAddr t x y)(r:Rel ρ h w)(hE:mj ρ env a)(hx:jI env x=some p)(hy:jI env y=some q)(hv:Eb P t p q=some v):jQ P ρ h w a o v h:=by
 have v1:=mS hE hx;have v2:=mS hE hy;unfold Eb at hv;rw[iO]at hv;obtain⟨i,hi,hv⟩:=hv;obtain⟨k,rfl⟩:=PR hi;generalize tk:a.eval y=u2 at v2;cases v2;generalize qT:a.eval x=u1 at v1;have lJ:∀{u:iU},(Ro t u1 (.int k i)).run P w = .ok u w→(execOp a.eval o).run P w = .ok (.value u) w:=λh2=>by
  simp only[execOp,ho,qT,tk,jq,jA,h2,jP]
 split at hv
 ·rename_i n e b off jm;rw[iO]at hv;obtain⟨z,hz,hv⟩:=hv
  split at hv
  ·rename_i jB;obtain rfl:=iK hv;cases v1 with
   |p hb =>
    refine jQ.val r (lJ (u:=.pointer (some ⟨_,_,none⟩)) ?_) (.p hb);simp only[Ro,asIntOf,Jy,jq,j7 jm w,jA,jP,qE hz w];rw[if_pos ⟨by omega,by omega⟩];simp only[jq,qE hz w,jA,jP,add_lit,sK,ly]
  ·cases hv
 ·rename_i e b off len c jm;rw[iO]at hv;obtain⟨z,hz,hv⟩:=hv
  split at hv
  ·rename_i jB;obtain rfl:=iK hv;have key:∀(i':Info)(cc:Nat),ρ b=some i'→u1 = .slice (some ⟨i'.g,i'.base+off,none⟩) len cc→jQ P ρ h w a o (.p (some (b,off+i*z))) h:=λi' cc hb e1=>by
    subst e1;refine jQ.val r (lJ (u:=.pointer (some ⟨_,_,none⟩)) ?_) (.p hb);simp only[Ro,asIntOf,jq,j7 jm w,jA,jP];rw[if_pos ⟨by omega,by omega⟩];simp only[jq,qE hz w,jA,jP,add_lit,sK,ly]
   cases v1 with
   |sk hb _=>exact key _ _ hb rfl
   |so hb _ _ _=>exact key _ _ hb rfl
  ·cases hv
 ·cases hv
theorem WN{t:iA}{cs:List gE}{us:List iU}{k:Nat}{v:gE}(hv:Gw P t cs k=some v)(hr:jc ρ cs us)(w:jb):∃u,(part t us.toArray k).run P w = .ok u w∧VR ρ v u:=by
 unfold Gw at hv;rw[iO]at hv;obtain⟨b,hb,hv⟩:=hv;cases b with
 | true =>
  simp only[cond_true]at hv;rw[iO]at hv;obtain⟨n,hn,hv⟩:=hv
  split at hv
  ·rename_i hle;obtain rfl:=iK hv;have h2:=(hr.drop k).take n;refine⟨_,?_,VR.agg h2.1 h2.2⟩;simp only[part,jq,L2 hb w,jA,if_true,qE hn w,jP]
   congr 2
   apply wC;simp
  ·cases hv
 |false =>
  simp only[cond_false]at hv;obtain⟨u,h1,h2⟩:=hr.at hv;refine⟨u,?_,h2⟩;simp[part,L2 hb,h1]
theorem ag3{o:Oper}{s:iA}{x:iT}{f:Nat}{fd:zM}{cs:List gE}{v:gE}(ho:o.op = .field s x f)(r:Rel ρ h w)(hE:mj ρ env a)(hx:jI env x=some (.agg cs))(hf:Bn P s f=some fd)(hv:Gw P fd.type cs fd.offset=some v) :
  jQ P ρ h w a o v h:=by
 have v1:=mS hE hx;generalize hu:a.eval x=u1 at v1;cases v1 with
 |agg a1 a2 =>
  unfold Bn at hf
  split at hf
  ·rename_i fs jm;obtain⟨u,h1,h2⟩:=WN hv ⟨a1,a2⟩ w;refine jQ.val r (u:=u) ?_ h2;simp only[execOp,ho,hu,Instr.field,asAgg,jq,j7 jm w,jA,hf,jP,h1]
  ·cases hf
theorem ag6{o:Oper}{t:iA}{x y:iT}{p q v:gE}(ho:o.op = .index t x y)(r:Rel ρ h w)(hE:mj ρ env a)(hx:jI env x=some p)(hy:jI env y=some q)(hv:Iv P t p q=some v):jQ P ρ h w a o v h:=by
 have v1:=mS hE hx;have v2:=mS hE hy;unfold Iv at hv;rw[iO]at hv;obtain⟨i,hi,hv⟩:=hv;obtain⟨k,rfl⟩:=PR hi;generalize tk:a.eval y=u2 at v2;cases v2;generalize qT:a.eval x=u1 at v1;have lJ:∀{u:iU},(Rm t u1 (.int k i)).run P w = .ok u w→(execOp a.eval o).run P w = .ok (.value u) w:=λh2=>by
  simp only[execOp,ho,qT,tk,jq,jA,h2,jP]
 split at hv
 ·rename_i n e cs jm;rw[iO]at hv;obtain⟨z,hz,hv⟩:=hv
  split at hv
  ·rename_i jB;cases v1 with
   |agg a1 a2 =>
    obtain⟨u,h1,h2⟩:=WN hv ⟨a1,a2⟩ w;refine jQ.val r (lJ (u:=u) ?_) h2;simp only[Rm,asIntOf,jq,j7 jm w,jA,jP];rw[if_pos ⟨by omega,by omega⟩];simp only[jq,qE hz w,jA,ly,h1]
  ·cases hv
 ·rename_i s jm;obtain⟨c,hc,rfl⟩:=jR.1 hv;cases v1;have hg:(⟨s.toArray⟩:ByteArray)[i]? =some c:=by
   obtain⟨jB,hc⟩:=kI.1 hc;have uP:i<(⟨s.toArray⟩:ByteArray).size:=by simp[AP];exact jB
   rw[getElem?_pos (⟨s.toArray⟩:ByteArray) i uP,←hc];rfl
  refine jQ.val r (lJ (u:=.int .u8 c.toNat) ?_) (.i _ _);simp only[Rm,oF,asIntOf,jq,j7 jm w,jA,jP,ly,hg,Int.natCast_nonneg,if_true]
 ·cases hv
theorem ag2{o:Oper}{x:iT}{i:Nat}{vs:List gE}{v:gE}(ho:o.op = .extract x i)(r:Rel ρ h w)(hE:mj ρ env a)(hx:jI env x=some (.kx vs))(hv:vs[i]? =some v):jQ P ρ h w a o v h:=by
 have v1:=mS hE hx;generalize hu:a.eval x=u1 at v1;cases v1 with
 |kx a1 a2 =>
  obtain⟨u,h1,h2⟩:=(jc.at (ρ:=ρ) ⟨a1,a2⟩ hv)
  refine jQ.val r (u:=u) ?_ h2;simp[execOp,ho,hu,Instr.extract,h1]
theorem ahb{o:Oper}{f:nI}{first rH:Array iT}{l:List gE}(ho:o.op = .makeFunc (.func f) first rH)(r:Rel ρ h w)(hE:mj ρ env a)(hf:first.size=0)(hl:pN env rH.toList=some l):jQ P ρ h w a o (.f f l) h:=by
 have h1:=HI hE hl;have e0:first = #[]:=Array.eq_empty_of_size_eq_zero hf
 refine jQ.val r (u:=.func (.func f) #[] (rH.toList.map a.eval).toArray) ?_ (.f h1.1 h1.2);simp only[execOp,ho,Instr.makeFunc,e0,jq,jP,jA];have e1:(rH.toList.map a.eval).toArray=rH.map a.eval:=by apply wC;simp
 rw[e1];simp
theorem ahl{o:Oper}{t:iA}{x:iT}{b:Nat×Nat}{n k:Nat}{c:Cap}{e:iA}(ho:o.op = .sliceToArrayPointer t x)(r:Rel ρ h w)(hE:mj ρ env a)(hx:jI env x=some (.sl (some b) n c))(ht:P.underlying t=some (.array k e))(hk:k≤n):jQ P ρ h w a o (.p (some b)) h:=by
 have v1:=mS hE hx;generalize hu:a.eval x=u1 at v1;obtain⟨b,off⟩:=b;have key:∀(i':Info)(cc:Nat),ρ b=some i'→u1 = .slice (some ⟨i'.g,i'.base+off,none⟩) n cc→jQ P ρ h w a o (.p (some (b,off))) h:=λi' cc hb e1=>by
  subst e1;refine jQ.val r (u:=.pointer (some ⟨_,_,none⟩)) ?_ (.p hb);simp only[execOp,ho,hu,Instr.arrayAt,jq,j7 ht w,jA];rw[if_neg (by omega)];rfl
 cases v1 with
 |sk hb _=>exact key _ _ hb rfl
 |so hb _ _ _=>exact key _ _ hb rfl
end
end Go.V
end
section
namespace Go.V
section
variable{P:iY}{ρ:Ren}{h:Hp}{w:jb}{env:Env}{a:Act}
theorem agA{x:Addr}{u:iU}(hc:w.cell? x=some u):(load x).run P w = .ok u w:=by simp[load,Dm,hc]
theorem L3{g o:Nat}{us:List iU}(hr:w.rangeAt g o us):(loadCells ⟨g,o,none⟩ us.length).run P w = .ok us.toArray w :=
 run_loadCells_list (P:=P) w ⟨g,o,none⟩ us λj v hv=>by rw[add_lit];exact hr j v hv
theorem Vv{t:iA}{b o:Nat}{v:gE}(r:Rel ρ h w)(hv:tt P h t (.p (some (b,o)))=some v){i:Info}(hb:ρ b=some i):∃u,(loadVar t ⟨i.g,i.base+o,none⟩).run P w = .ok u w∧VR ρ v u:=by
 unfold tt at hv;simp only at hv;rw[iO]at hv;obtain⟨g,hg,hv⟩:=hv;cases g with
 |true =>
  simp only[cond_true]at hv;rw[iO]at hv;obtain⟨n,hn,hv⟩:=hv;obtain⟨vs,hr,rfl⟩:=jR.1 hv;obtain⟨_,us,h1,h2,h3⟩:=r.rd hb hr;refine⟨_,?_,VR.agg h1.1 h1.2⟩;subst h2;simp only[loadVar,jq,L2 hg w,jA,if_true,qE hn w,L3 h3,jP]
 | false =>
  simp only[cond_false]at hv;rw[iO]at hv;obtain⟨vs,hr,hv⟩:=hv;obtain⟨_,us,h1,h2,h3⟩:=r.rd hb hr;cases vs with
  |nil=>cases hv
  |cons x vs =>
   obtain rfl:=iK hv;obtain⟨u,a1,a2⟩:=h1.at (j:=0) rfl;refine⟨u,?_,a2⟩;have:=h3 0 u a1;simp only[loadVar,jq,L2 hg w,jA,sY,if_false];exact agA this
theorem ag9{o:Oper}{t:iA}{x:iT}{p v:gE}(ho:o.op = .load t x)(r:Rel ρ h w)(hE:mj ρ env a)(hx:jI env x=some p)(hv:tt P h t p=some v):jQ P ρ h w a o v h:=by
 have v1:=mS hE hx;generalize hu:a.eval x=u1 at v1;cases v1 with
 |p hb =>
  obtain⟨u,h1,h2⟩:=Vv r hv hb;exact jQ.val r (u:=u) (by simp only[execOp,ho,hu,Instr.loadAt,Jy,jq,jP,jA,h1]) h2
 |_=>simp[tt]at hv
theorem ahi{o:Oper}{t:iA}{x y:iT}{p q:gE}{h':Hp}(ho:o.op = .store t x y)(r:Rel ρ h w)(hE:mj ρ env a)(hx:jI env x=some p)(hy:jI env y=some q)(hv:BY P h t p q=some h'):jQ P ρ h w a o .no h':=by
 have v1:=mS hE hx;have v2:=mS hE hy;generalize hu:a.eval x=u1 at v1;cases v1 with
 | p hb =>
  unfold BY at hv;simp only at hv;rw[iO]at hv;obtain⟨n,hn,hv⟩:=hv
  split at hv
  ·rename_i hl;obtain⟨c1,c2,c3,c4,c5⟩:=r.p6 hb hv v2.cells;have hs:=MM (P:=P) _ _ (a.eval y).cells.toList 0 w (by simpa using c1) (by simpa using c2) c3;refine⟨ρ,_,_,undef,?_,.inr ⟨rfl,rfl⟩,VR.kx (vs:=[]) rfl (λj u u' h=>by simp at h),c4,c5⟩;have uP:(a.eval y).cells.size=n:=by have:=v2.cells.1;simp at this;omega
   simp only[sZ]at hs;simp only[execOp,ho,hu,Instr.storeAt,Jy,storeVar,jq,jP,jA,qE hn w,uP,ne_eq,not_true_eq_false,if_false,hs]
  ·cases hv
 |_=>simp[BY]at hv
theorem yu(e:iA)(cs:Array iU)(w:jb):(newRow e cs).run P w = .ok ⟨w.heap.size,0,none⟩ (w.alloc (.cells cs e)):=by
 rfl
theorem VJ(r:Rel ρ h w){z:Nat}{c:List gE}{us:List iU}(e:iA)(h1:c.all gE.one=true)(hv:jc ρ c us) :
  Rel (ρ.put h.next ⟨w.heap.size,0,z,c.length,us.length⟩) (h.new (.cells z c)) (w.alloc (.cells us.toArray e))∧Ext ρ h w (ρ.put h.next ⟨w.heap.size,0,z,c.length,us.length⟩) (h.new (.cells z c)) (w.alloc (.cells us.toArray e)) :=
 r.PT (fz:=(0,0)) (by simp) (by simp) (λ_=>jg _) h1 (hv.one h1) (by rw[hv.1];exact jg _) (by rw[hv.1,ow];exact hv)
theorem BT(b:Nat)(i:Info):(ρ.put b i) b=some i:=by simp[Ren.put]
theorem WE{z:Nat}{c:List gE}{us:List iU}{v:gE}{h':Hp}(r:Rel ρ h w)(e:iA)(hv:vR h z c=some (v,h'))(hr:jc ρ c us) :
  ∃ρ' u,u = .pointer (some ⟨w.heap.size,0,none⟩)∧VR ρ' v u∧Rel ρ' h' (w.alloc (.cells us.toArray e))∧Ext ρ h w ρ' h' (w.alloc (.cells us.toArray e)):=by
 unfold vR at hv
 split at hv
 ·rename_i h1;simp only[km,jT]at hv;obtain⟨rfl,rfl⟩:=hv;obtain⟨h2,h3⟩:=VJ r (z:=z) e h1 hr;exact⟨_,_,rfl,VR.p (BT _ _),h2,h3⟩
 ·cases hv
theorem agR{o:Oper}{e:iA}{z v:gE}{h':Hp}(ho:o.op = .alloc e)(r:Rel ρ h w)(hz:zeroV P e=some z)(hv:vR h z.cells.length z.cells=some (v,h')):jQ P ρ h w a o v h':=by
 obtain⟨i,u,h1,h2,h3⟩:=yD hz;have hr:=(yd (ρ:=ρ) h3).cells;obtain⟨ρ',u',rfl,q1,q2,q3⟩:=WE r e hv hr;refine⟨ρ',_,_,_,?_,.inl rfl,q1,q2,q3⟩;simp only[execOp,ho,Instr.alloc,jq,AH h1 h2 w,jA,newVar,yu,jP,xy]
theorem agV{o:Oper}{e:iA}{x:iT}{z v:gE}{h':Hp}(ho:o.op = .box e x)(r:Rel ρ h w)(hE:mj ρ env a)(hz:jI env x=some z)(hv:vR h z.cells.length z.cells=some (v,h')):jQ P ρ h w a o v h':=by
 have hr:=(mS hE hz).cells;obtain⟨ρ',u',rfl,q1,q2,q3⟩:=WE r e hv hr;refine⟨ρ',_,_,_,?_,.inl rfl,q1,q2,q3⟩;simp only[execOp,ho,Instr.box,jq,jA,newVar,yu,jP,xy]
theorem afr{α:Type}(L:List α)(o k:Nat)(x:α)(xs:List α)(h:o+k+(xs.length+1)≤L.length) :
  (L.set (o+k) x).take (o+(k+1))++xs++(L.set (o+k) x).drop (o+(k+1)+xs.length)=L.take (o+k)++(x::xs)++L.drop (o+k+(xs.length+1)):=by
 have e1:(L.set (o+k) x).take (o+(k+1))=L.take (o+k)++[x]:=by
  rw[←sK,List.take_add_one,List.take_set_of_le (jg _),uv (by omega)];rfl
 have e2:(L.set (o+k) x).drop (o+(k+1)+xs.length)=L.drop (o+k+(xs.length+1)):=by
  rw[List.drop_set_of_lt (by omega)]
  congr 1;omega
 rw[e1,e2];simp
theorem aaS:∀(xs:List iU)(o k:Nat)(cs:Array iU),o+k+xs.length≤cs.size→((xs.zipIdx k).foldl (λcs (q:iU×Nat)=>cs.setIfInBounds (o+q.2) q.1) cs).toList=cs.toList.take (o+k)++xs++cs.toList.drop (o+k+xs.length):=by
 intro xs
 induction xs with
 |nil=>intro o k cs h;simp
 |cons x xs ih =>
  intro o k cs h;obtain⟨L⟩:=cs;have hL:o+k+(xs.length+1)≤L.length:=h;simp only[List.zipIdx_cons,List.foldl_cons];rw[ih o (k+1) _ (by rw[Array.size_setIfInBounds];show o+(k+1)+xs.length≤L.length;omega)];rw[Array.toList_setIfInBounds];exact afr L o k x xs hL
theorem jc.kA{cs vs:List gE}{us xs:List iU}(h:jc ρ cs us)(k:jc ρ vs xs)(o:Nat):jc ρ (kA cs o vs) (us.take o++xs++us.drop (o+xs.length)):=by
 unfold V.kA;rw[←k.1];exact((h.take o).append k).append (h.drop _)
theorem Je{pl:Nat→Option (Nat×Nat)}:∀{ps:List (Nat×gE)}{qs:List (Nat×iU)}{cs cs':List gE}{us:List iU},oS pl cs ps=some cs'→jc ρ cs us→ps.length=qs.length→(∀(j i:Nat)(v:gE)(i':Nat)(u:iU),ps[j]? =some (i,v)→qs[j]? =some (i',u)→i=i'∧VR ρ v u) →
  ∃Mn,GU pl us.toArray qs=some Mn.toArray∧jc ρ cs' Mn
 |[],[],cs,cs',us,hf,hr,_,_=>⟨us,rfl,by simp[oS]at hf;subst hf;exact hr⟩
 |[],_::_,_,_,_,_,_,hl,_=>by simp at hl
 |_::_,[],_,_,_,_,_,hl,_=>by simp at hl
 | (i,v)::ps,(i',u)::qs,cs,cs',us,hf,hr,hl,hv=>by
  obtain⟨rfl,h1⟩:=hv 0 i v i' u rfl rfl;simp only[oS]at hf;rw[iO]at hf;obtain⟨⟨off,size⟩,hp,hf⟩:=hf
  split at hf
  ·rename_i hc;simp only at hc;have oA:=h1.cells;have hk:u.cells.size=size:=by have:=oA.1;simp at this;omega
   have oW:off+0+u.cells.toList.length≤us.toArray.size:=by have:=hr.1;have:=oA.1;simp at *;omega
   have mE:=aaS u.cells.toList off 0 us.toArray oW;obtain⟨Mn,e1,e2⟩:=Je hf (hr.kA oA off) (by simpa using hl) (λj i v i' u a b=>hv (j+1) i v i' u (by simpa using a) (by simpa using b));refine⟨Mn,?_,e2⟩;rw[←e1];simp only[GU,hp];rw[if_neg (by simp;have:=hr.1;have:=oA.1;simp at *;omega)]
   congr 1
   apply wC;rw[←Array.foldl_toList,Array.toList_zipIdx];simpa using mE
  ·cases hf
theorem NY(hE:mj ρ env a):∀{l:List (Nat×iT)}{ps:List (Nat×gE)},uH env l=some ps→ps.length=(l.map λ(i,x)=>(i,a.eval x)).length∧(∀(j i:Nat)(v:gE)(i':Nat)(u:iU),ps[j]? =some (i,v)→(l.map λ(i,x)=>(i,a.eval x))[j]? =some (i',u)→i=i'∧VR ρ v u):=by
 intro l
 induction l with
 |nil=>intro ps h;simp[uH]at h;subst h;exact⟨rfl,λj i v i' u h=>by simp at h⟩
 |cons x l ih =>
  intro ps h;simp only[uH,qa,wN,Hb,iO,km]at h;obtain⟨v,h1,us,h2,rfl⟩:=h;obtain⟨y,h3,rfl⟩:=jR.1 h1;obtain⟨g1,g2⟩:=ih h2;refine⟨by simp at g1 ⊢;exact g1,λj i v i' u p q=>?_⟩;cases j with
  |zero=>simp at p q;obtain⟨rfl,rfl⟩:=p;obtain⟨rfl,rfl⟩:=q;exact⟨rfl,mS hE h3⟩
  |succ j=>exact g2 j i v i' u (by simpa using p) (by simpa using q)
end
end Go.V
end
section
namespace Go.V
section
variable{P:iY}{ρ:Ren}{h:Hp}{w:jb}{env:Env}{a:Act}
theorem agD{α β:Type}{f:α→Sem β}{g:α→Option β}(w:jb)(hf:∀x y,g x=some y→(f x).run P w = .ok y w):∀{l:List α}{r:List β},l.mapM g=some r→(l.mapM f).run P w = .ok r w:=by
 intro l
 induction l with
 |nil=>intro r h;simp at h;subst h;simp
 |cons x l ih =>
  intro r h;simp only[qa,wN,Hb,iO,km]at h;obtain⟨y,h1,ys,h2,rfl⟩:=h;simp only[qa,jq,hf x y h1,jA,ih h2,jP]
theorem agW{o:Oper}{t:iA}{ps:Array (Nat×iT)}{qs:List (Nat×gE)}{v:gE}(ho:o.op = .build t ps)(r:Rel ρ h w)(hE:mj ρ env a)(hp:uH env ps.toList=some qs)(hv:Fx P t qs=some v):jQ P ρ h w a o v h:=by
 obtain⟨g1,g2⟩:=NY hE hp;unfold Fx at hv;rw[iO]at hv;obtain⟨z,hz,hv⟩:=hv;obtain⟨i,zu,i1,i2,i3⟩:=yD hz;have rQ:=(yd (ρ:=ρ) i3).cells;have CI:(ps.map λ(i,x)=>(i,a.eval x)).toList=ps.toList.map λ(i,x)=>(i,a.eval x):=by simp
 have lJ:∀{u:iU},(Rl t (ps.map λ(i,x)=>(i,a.eval x))).run P w = .ok u w→(execOp a.eval o).run P w = .ok (.value u) w:=λh2=>by
  simp only[execOp,ho,jq,h2,jA,jP]
 split at hv
 ·rename_i fs jm;rw[iO]at hv;obtain⟨pl,FX,hv⟩:=hv;obtain⟨cs,hf,rfl⟩:=jR.1 hv;obtain⟨us,e1,e2⟩:=Je hf rQ g1 g2;refine jQ.val r (lJ (u:=.agg us.toArray) ?_) (.agg e2.1 e2.2);have hm:=agD (P:=P) (f:=λf:zM=>(do pure (f.offset,←sizeOf f.type):Sem (Nat×Nat))) (g:=λf=>(sz P f.type).map λn=>(f.offset,n)) w (λx y hx=>by
   obtain⟨n,h1,rfl⟩:=jR.1 hx;simp[qE h1]) FX
  have xe:(fs.mapM λf=>(do pure (f.offset,←sizeOf f.type):Sem (Nat×Nat))).run P w = .ok pl.toArray w:=by
   rw[←xy (xs:=fs),List.mapM_toArray,Sem.run_map,hm];rfl
  simp only[Rl,jq,AH i1 i2 w,jA,j7 jm w,xe,CI];have e3:GU (λx=>pl.toArray[x]?) zu.cells (ps.toList.map λ(i,x)=>(i,a.eval x))=some us.toArray:=by simpa using e1
  rw[e3];rfl
 ·rename_i n e jm;rw[iO]at hv;obtain⟨W8,hs,hv⟩:=hv;obtain⟨cs,hf,rfl⟩:=jR.1 hv;obtain⟨us,e1,e2⟩:=Je hf rQ g1 g2;refine jQ.val r (lJ (u:=.agg us.toArray) ?_) (.agg e2.1 e2.2);simp only[Rl,jq,AH i1 i2 w,jA,j7 jm w,qE hs w,CI];have e3:GU (λi=>some (i*W8,W8)) zu.cells (ps.toList.map λ(i,x)=>(i,a.eval x))=some us.toArray:=by simpa using e1
  rw[e3];rfl
 ·cases hv
theorem XD(z:List gE)(n:Nat):(mT z n).length=n*z.length:=by simp[mT]
theorem ai0(z:List gE):∀(n j:Nat),j<n*z.length→(mT z n)[j]? =z[j%z.length]?:=by
 intro n
 induction n with
 |zero=>intro j h;omega
 | succ n ih =>
  intro j h;unfold mT at ih ⊢;rw[G4,o7]
  by_cases hj:j<z.length
  ·rw[mU hj,Nat.mod_eq_of_lt hj]
  ·rw[nq (by omega),ih _ (by rw[Nat.succ_mul]at h;omega)]
   congr 1
   exact(Nat.mod_eq_sub_mod (by omega)).symm
theorem GO{z:List gE}{zu:Array iU}(hr:jc ρ z zu.toList)(hz:0<z.length)(n:Nat):jc ρ (mT z n) ((B4 (n*zu.size)).map λi=>zu[i%zu.size]!).toList:=by
 have hl:z.length=zu.size:=by simpa using hr.1
 refine⟨by rw[XD];simp[hl],λj u u' h1 h2=>?_⟩;have hj:=(kI.1 h1).1;rw[XD]at hj;rw[ai0 z n j hj]at h1;have hm:j%zu.size<zu.size:=zR _ (by omega);refine hr.2 (j%z.length) u u' h1 ?_;rw[hl]at hj ⊢;have h3:(B4 (n*zu.size))[j]? =some j:=by simp[hj]
 have h4:some (zu[j%zu.size]!)=some u':=by
  rw[←h2];simp[hj]
 rw[←h4,getElem!_pos zu _ hm];simp[hm]
theorem WQ{z len:Nat}{cap:Option Nat}{c:List gE}{us:List iU}{v:gE}{h':Hp}(r:Rel ρ h w)(e:iA)(hv:ru h z c len cap=some (v,h'))(hr:jc ρ c us)(k:Nat)(hk:cap=some k∧len≤k) :
  ∃ρ' u,u = .slice (some ⟨w.heap.size,0,none⟩) len k∧VR ρ' v u∧Rel ρ' h' (w.alloc (.cells us.toArray e))∧Ext ρ h w ρ' h' (w.alloc (.cells us.toArray e)):=by
 unfold ru at hv
 split at hv
 ·rename_i h1;simp only[km,jT]at hv;obtain⟨rfl,rfl⟩:=hv;obtain⟨h2,h3⟩:=VJ r (z:=z) e h1 hr;obtain⟨rfl,hk⟩:=hk;exact⟨_,_,rfl,VR.sk (BT _ _) hk,h2,h3⟩
 ·cases hv
theorem agX{o:Oper}{t:iA}{n:Nat}{ps:Array (Nat×iT)}{qs:List (Nat×gE)}{v:gE}{h':Hp}(ho:o.op = .buildSlice t n ps)(r:Rel ρ h w)(hE:mj ρ env a)(hp:uH env ps.toList=some qs)(hv:Cq P h t n qs=some (v,h')) :
  jQ P ρ h w a o v h':=by
 obtain⟨g1,g2⟩:=NY hE hp;unfold Cq at hv
 split at hv
 ·rename_i e jm;rw[iO]at hv;obtain⟨z,hs,hv⟩:=hv;rw[iO]at hv;obtain⟨zv,hz,hv⟩:=hv
  split at hv
  ·rename_i hc;obtain⟨c1,c2,c3⟩:=hc;rw[iO]at hv;obtain⟨cs,hf,hv⟩:=hv;obtain⟨i,zu,i1,i2,i3⟩:=yD hz;have rQ:=(yd (ρ:=ρ) i3).cells;have nZ:zu.cells.size=z:=by have:=rQ.1;simp at this;omega
   have qU:=GO rQ (by omega) n;rw[nZ]at qU;obtain⟨us,e1,e2⟩:=Je hf qU g1 g2;obtain⟨ρ',u,rfl,q1,q2,q3⟩:=WQ r e hv e2 n ⟨rfl,jg _⟩;refine⟨ρ',_,_,_,?_,.inl rfl,q1,q2,q3⟩;have CI:(ps.map λ(i,x)=>(i,a.eval x)).toList=ps.toList.map λ(i,x)=>(i,a.eval x):=by simp
   have e3:∀zero:Array iU,(n*z≠0→zero=zu.cells)→GU (λi=>some (i*z,z)) ((B4 (n*z)).map λx=>zero[x%zero.size]!) (ps.toList.map λ(i,x)=>(i,a.eval x))=some us.toArray:=λzero h0=>by
    rw[←e1]
    congr 1
    by_cases hn:n*z=0
    ·rw[hn];apply wC;simp
    ·rw[h0 hn,nZ,xy]
   simp only[execOp,ho,Instr.buildSlice,jq,j7 jm w,jA,qE hs w];rw[if_neg (by omega)]
   by_cases h0:n*z=0
   ·rw[if_pos h0];simp only[jq,jP,jA,CI,e3 #[] (λq=>absurd h0 q),yu]
   ·rw[if_neg h0];simp only[jq,jP,jA,CI,AH i1 i2 w,e3 zu.cells (λ_=>rfl),yu]
  ·cases hv
 ·cases hv
theorem C9{n:Nat}(hn:n≤2^40):yE.wrap (n:Int)=n:=by
 have h1:((n:Int)%(2^64:Int))=n:=Int.emod_eq_of_lt (by omega) (by omega);show(if(true&&decide ((n:Int)%(2^64:Int)≥(2^63:Int)))=true then(n:Int)%(2^64:Int)-(2^64:Int)else(n:Int)%(2^64:Int))=n;rw[h1,if_neg];simp only[Bool.true_and,decide_eq_true_eq];omega
theorem ahd{o:Oper}{t:iA}{x y:iT}{p q v:gE}{h':Hp}(ho:o.op = .makeSlice t x y)(r:Rel ρ h w)(hE:mj ρ env a)(hx:jI env x=some p)(hy:jI env y=some q)(hv:Ei P h t p q=some (v,h')):jQ P ρ h w a o v h':=by
 have v1:=mS hE hx;have v2:=mS hE hy;unfold Ei at hv
 split at hv
 ·rename_i e jm;rw[iO]at hv;obtain⟨z,hs,hv⟩:=hv;rw[iO]at hv;obtain⟨zv,hz,hv⟩:=hv;rw[iO]at hv;obtain⟨l,hl,hv⟩:=hv;rw[iO]at hv;obtain⟨c,hc,hv⟩:=hv;rw[iO]at hv;obtain⟨inf,hi,hv⟩:=hv;obtain⟨k1,rfl,l1⟩:=IF hl;obtain⟨k2,rfl,l2⟩:=IF hc;generalize qT:a.eval x=u1 at v1;generalize tk:a.eval y=u2 at v2;cases v1;cases v2
  split at hv
  ·rename_i tf;obtain⟨c1,c2,c3,c4⟩:=tf;obtain⟨i,zu,i1,i2,i3⟩:=yD hz;have H6:i=inf:=by rw[i1]at hi;exact iK hi
   subst H6;have rQ:=(yd (ρ:=ρ) i3).cells;have nZ:zu.cells.size=z:=by have:=rQ.1;simp at this;omega
   have qU:=GO rQ (by omega) c;rw[nZ]at qU;obtain⟨ρ',u,rfl,q1,q2,q3⟩:=WQ r e hv qU c ⟨rfl,c1⟩;refine⟨ρ',_,_,_,?_,.inl rfl,q1,q2,q3⟩;have mM:∀b,(askRoom b).run P w = .ok () w:=λb=>by
    unfold askRoom;split<;>rfl
   have t1:¬(((c:Int)<0||(i.bytes:Int)*c>2^48)||(l:Int)<0||(l:Int)>c)=true:=by
    have:((i.bytes:Int)*c)=((i.bytes*c:Nat):Int):=by simp
    simp only[rW,decide_eq_true_eq,this];omega
   simp only[execOp,ho,qT,tk,Instr.makeSlice,asInt,asIntOf,jq,j7 jm w,jA,jP,typeInfo,RG,hi,C9 l1,C9 l2];rw[if_neg t1];have e3:∀zero:Array iU,(c*z≠0→zero=zu.cells)→((B4 (c*z)).map λx=>zero[x%zero.size]!)=(((B4 (c*z)).map λi=>zu.cells[i%z]!).toList).toArray:=λzero h0=>by
    rw[xy]
    by_cases hn:c*z=0
    ·rw[hn];apply wC;simp
    ·rw[h0 hn,nZ]
   simp only[jq,jP,jA,mM,qE hs w,ly]
   by_cases h0:c*z=0
   ·rw[if_pos h0];simp only[jq,jP,jA,e3 #[] (λq=>absurd h0 q),yu]
   ·rw[if_neg h0];simp only[jq,jP,jA,AH i1 i2 w,e3 zu.cells (λ_=>rfl),yu]
  ·cases hv
 ·cases hv
end
end Go.V
end
section
namespace Go.V
section
variable{P:iY}{ρ:Ren}{h:Hp}{w:jb}{env:Env}{a:Act}
def JX(ρ:Ren):Option gE→Option iU→Prop
 |none,none=>True
 |some v,some u=>VR ρ v u
 |_,_=>False
theorem NZ(hE:mj ρ env a){x:Option iT}{v:Option gE}(hx:vp env x=some v):JX ρ v (x.map a.eval):=by
 cases x with
 |none=>obtain rfl:=iK hx;trivial
 |some x=>obtain⟨u,h1,rfl⟩:=jR.1 hx;exact mS hE h1
theorem Ja{v:gE}{u:iU}{n y:Nat}(hv:uc v=some n)(hr:VR ρ v u)(hy:n≤y)(c:Rf)(w:jb):(MG u y c).run P w = .ok n w:=by
 obtain⟨k,rfl⟩:=PR hv;cases hr;simp only[MG,asIntOf,jq,jP,jA];rw[if_pos ⟨by omega,by omega⟩];simp
theorem GC{len cap Hx l hh m:Nat}{lo hi mx:Option gE}{zm lY Lz:Option iU}(hb:uB len cap lo hi mx=some (l,hh,m))(hc:cap≤Hx)(r1:JX ρ lo zm)(r2:JX ρ hi lY)(r3:JX ρ mx Lz)(qV:Bool)(w:jb) :
  (MH qV len Hx zm lY Lz).run P w = .ok (l,hh,if mx.isSome then m else Hx) w:=by
 unfold uB at hb;rw[iO]at hb;obtain⟨m0,h1,hb⟩:=hb;rw[iO]at hb;obtain⟨h0,h2,hb⟩:=hb;rw[iO]at hb;obtain⟨l0,h3,hb⟩:=hb
 split at hb
 ·rename_i hle;simp only[km,jT]at hb;obtain⟨rfl,rfl,rfl⟩:=hb;obtain⟨c1,c2,c3,c4⟩:=hle;cases mx with
  | none =>
   cases Lz with
   |some u=>exact r3.elim
   | none =>
    obtain rfl:=iK h1;have hl:∀(code:Rf),(match zm with|some v=>MG v h0 code|none=>(pure 0:Sem Nat)).run P w = .ok l0 w:=λcode=>by
     cases lo with
     |none=>cases zm with
      |some u=>exact r1.elim
      |none=>obtain rfl:=iK h3;rfl
     |some v=>cases zm with
      |none=>exact r1.elim
      |some u=>exact Ja h3 r1 c3 code w
    cases hi with
    | none=>cases lY with
     |some u=>exact r2.elim
     |none =>
      obtain rfl:=iK h2;simp only[MH,jq,jP,jA];have:=hl (if(none:Option iU).isSome then Rg else .sliceB);cases zm<;>simp only[jq,jP,jA]at this ⊢ <;>first|(rw[this];rfl)|(injection this with e _;subst e;rfl)
    | some v=>cases lY with
     |none=>exact r2.elim
     |some u =>
      have hh:=Ja (P:=P) h2 r2 (y:=Hx) (by omega) (if qV then BoundsCode.sliceAcap else .sliceAlen) w;simp only[MH,jq,jP,jA,hh];have:=hl (if(none:Option iU).isSome then Rg else .sliceB);cases zm<;>simp only[jq,jP,jA]at this ⊢ <;>first|(rw[this];rfl)|(injection this with e _;subst e;rfl)
  | some mv =>
   cases Lz with
   |none=>exact r3.elim
   | some mu =>
    have hm:=Ja (P:=P) h1 r3 (y:=Hx) (by omega) (if qV then BoundsCode.slice3Acap else .slice3Alen) w;cases hi with
    |none=>exact absurd (c4 rfl) (by simp)
    | some v=>cases lY with
     |none=>exact r2.elim
     | some u =>
      have hh:=Ja (P:=P) h2 r2 (y:=m0) c2 BoundsCode.slice3B w;have hl:∀(code:Rf),(match zm with|some v=>MG v h0 code|none=>(pure 0:Sem Nat)).run P w = .ok l0 w:=λcode=>by
       cases lo with
       |none=>cases zm with
        |some u=>exact r1.elim
        |none=>obtain rfl:=iK h3;rfl
       |some v=>cases zm with
        |none=>exact r1.elim
        |some u=>exact Ja h3 r1 c3 code w
      simp only[MH,jq,jP,jA,hm,hh];have:=hl (if(some mu).isSome then Rg else .sliceB);cases zm<;>simp only[jq,jP,jA]at this ⊢ <;>first|(rw[this];rfl)|(injection this with e _;subst e;rfl)
 ·cases hb
theorem YR(s:List UInt8)(l hh:Nat):(⟨s.toArray⟩:ByteArray).extract l hh=⟨((s.drop l).take (hh-l)).toArray⟩:=by
 apply ByteArray.ext;simp
theorem Ht{len cap l hh m:Nat}{lo hi mx:Option gE}(hb:uB len cap lo hi mx=some (l,hh,m)):m≤cap∧hh≤m∧l≤hh:=by
 unfold uB at hb;rw[iO]at hb;obtain⟨m0,h1,hb⟩:=hb;rw[iO]at hb;obtain⟨h0,h2,hb⟩:=hb;rw[iO]at hb;obtain⟨l0,h3,hb⟩:=hb
 split at hb
 ·rename_i hle;simp only[km,jT]at hb;obtain⟨rfl,rfl,rfl⟩:=hb;exact⟨hle.1,hle.2.1,hle.2.2.1⟩
 ·cases hb
theorem Nz{len cap l hh m:Nat}{lo hi:Option gE}(hb:uB len cap lo hi none=some (l,hh,m)):m=cap:=by
 unfold uB at hb;rw[iO]at hb;obtain⟨m0,h1,hb⟩:=hb;rw[iO]at hb;obtain⟨h0,h2,hb⟩:=hb;rw[iO]at hb;obtain⟨l0,h3,hb⟩:=hb
 split at hb
 ·simp only[km,jT]at hb;obtain⟨rfl,rfl,rfl⟩:=hb;exact(iK h1).symm
 ·cases hb
theorem ahh{o:Oper}{t:iA}{x:iT}{lo hi mx:Option iT}{p v:gE}{lv U5 mv:Option gE}(ho:o.op = .slice t x lo hi mx)(r:Rel ρ h w)(hE:mj ρ env a)(hx:jI env x=some p)(hl:vp env lo=some lv)(hh:vp env hi=some U5)(hm:vp env mx=some mv)
  (hv:ry P t p lv U5 mv=some v):jQ P ρ h w a o v h:=by
 have v1:=mS hE hx;have r1:=NZ hE hl;have r2:=NZ hE hh;have r3:=NZ hE hm;generalize qT:a.eval x=u1 at v1;have lJ:∀{u:iU},(Df t u1 (lo.map a.eval) (hi.map a.eval) (mx.map a.eval)).run P w = .ok u w→(execOp a.eval o).run P w = .ok (.value u) w:=λh2=>by
  simp only[execOp,ho,qT,jq,jA,h2,jP]
 generalize lo.map a.eval=lu at r1 lJ;generalize hi.map a.eval=hu at r2 lJ;generalize mx.map a.eval=mu at r3 lJ;unfold ry at hv
 split at hv
 ·rename_i s jm
  split at hv
  ·cases hv
  ·rename_i hmx;cases mv with
   |some _=>simp at hmx
   | none =>
    cases mu with
    |some _=>exact r3.elim
    |none =>
     obtain⟨⟨l,hh,m⟩,hb,rfl⟩:=jR.1 hv;cases v1;have hs:(⟨s.toArray⟩:ByteArray).size=s.length:=by simp[AP]
     have:=GC (P:=P) hb (jg _) r1 r2 r3 false w;refine jQ.val r (lJ (u:=.string ((⟨s.toArray⟩:ByteArray).extract l hh)) ?_) (by rw[YR];exact VR.s _);simp only[Df,oF,GV,jq,j7 jm w,jA,Option.isSome_none,sY,if_false,hs,this,jP]
 ·rename_i e ao len k jm;rw[iO]at hv;obtain⟨z,hz,hv⟩:=hv;obtain⟨⟨l,hh,m⟩,hb,rfl⟩:=jR.1 hv;have pU:=GC (P:=P) hb (jg _) r1 r2 r3 true w;have hle:=Ht hb;have Bu:(if mv.isSome then m else k)=m:=by
   cases mv with
   |some _=>rfl
   |none=>exact(Nz hb).symm
  rw[Bu]at pU;cases v1 with
  |sn =>
   have e1:l=0∧hh=0∧m=0:=by omega
   obtain⟨rfl,rfl,rfl⟩:=e1;refine jQ.val r (lJ (u:=.slice none 0 0) ?_) .sn;simp only[Df,GV,jq,j7 jm w,jA,pU,qE hz w,jP];rfl
  | sk jM zd =>
   rename_i b off i';refine jQ.val r (lJ (u:=.slice (if m=l then some ⟨i'.g,i'.base+off,none⟩else(some (⟨i'.g,i'.base+off,none⟩:Addr)).map (·.add (l*z))) (hh-l) (m-l)) ?_) ?_
   ·simp only[Df,GV,jq,j7 jm w,jA,pU,qE hz w,jP]
   ·by_cases uM:m=l
    ·simp only[uM,if_true];exact VR.sk jM (by omega)
    ·simp only[uM,if_false,lE,add_lit,sK];exact VR.sk jM (by omega)
 ·rename_i e b off len zs jm;rw[iO]at hv;obtain⟨z,hz,hv⟩:=hv;obtain⟨⟨l,hh,m⟩,hb,rfl⟩:=jR.1 hv
  split at hb
  case isFalse=>cases hb
  rename_i qS;have hle:=Ht hb;cases v1 with
  | so jM zd q1 q2 =>
   rename_i c i';subst qS;have pU:=GC (P:=P) hb zd r1 r2 r3 true w;have ac3:jQ P ρ h w a o (if mv.isSome then .sl (some (if m=l then(b,off)else(b,off+l*i'.z))) (hh-l) (.k (m-l))else if l<len then .sl (some (b,off+l*i'.z)) (hh-l) (.op i'.z)else .es) h:=by
    refine jQ.val r (lJ (u:=.slice (if(if mv.isSome then m else c)=l then some ⟨i'.g,i'.base+off,none⟩else(some (⟨i'.g,i'.base+off,none⟩:Addr)).map (·.add (l*i'.z))) (hh-l) ((if mv.isSome then m else c)-l)) ?_) ?_
    ·simp only[Df,GV,jq,j7 jm w,jA,pU,qE hz w,jP]
    ·cases hmv:mv.isSome
     ·simp only[sY,if_false]
      by_cases hl:l<len
      ·rw[if_pos hl,if_neg (by omega)];simp only[lE,add_lit,sK];have e2:l*i'.z+(c-l)*i'.z=c*i'.z:=by rw[←lQ];congr 1;omega
       refine VR.so jM (by omega) ?_ ?_
       ·rw[sK,e2];exact q1
       ·rw[show i'.base+(off+l*i'.z)+(c-l)*i'.z=i'.base+off+(l*i'.z+(c-l)*i'.z) by omega,e2];exact q2
      ·rw[if_neg hl];have e1:hh-l=0:=by omega
       rw[e1]
       split
       ·exact VR.es
       ·exact VR.es
     ·simp only[if_true]
      by_cases uM:m=l
      ·simp only[uM,if_true];exact VR.sk jM (by omega)
      ·simp only[uM,if_false,lE,add_lit,sK];exact VR.sk jM (by omega)
   exact ac3
 ·rename_i e jm;rw[iO]at hv;obtain⟨z,hz,hv⟩:=hv;obtain⟨⟨l,hh,m⟩,hb,rfl⟩:=jR.1 hv;have hle:=Ht hb;cases v1 with
  | es =>
   rename_i ad c;have pU:=GC (P:=P) hb (ju c) r1 r2 r3 true w;have e1:l=0∧hh=0∧m=0:=by omega
   obtain⟨rfl,rfl,rfl⟩:=e1;refine jQ.val r (lJ (u:=.slice (if(if mv.isSome then 0 else c)=0 then some ad else(some ad).map (·.add (0*z))) 0 ((if mv.isSome then 0 else c)-0)) ?_) ?_
   ·simp only[Df,GV,jq,j7 jm w,jA,pU,qE hz w,jP,zS]
   ·generalize(if mv.isSome then 0 else c)=q
    by_cases hq:q=0
    ·rw[if_pos hq];exact VR.es
    ·rw[if_neg hq];exact VR.es
 ·rename_i n e b off jm;rw[iO]at hv;obtain⟨z,hz,hv⟩:=hv;obtain⟨⟨l,hh,m⟩,hb,rfl⟩:=jR.1 hv;have pU:=GC (P:=P) hb (jg _) r1 r2 r3 false w;have hle:=Ht hb;have Bu:(if mv.isSome then m else n)=m:=by
   cases mv with
   |some _=>rfl
   |none=>exact(Nz hb).symm
  rw[Bu]at pU;cases v1 with
  | p jM =>
   rename_i i';refine jQ.val r (lJ (u:=.slice (some (if m=l then⟨i'.g,i'.base+off,none⟩else(⟨i'.g,i'.base+off,none⟩:Addr).add (l*z))) (hh-l) (m-l)) ?_) ?_
   ·simp only[Df,Jy,jq,j7 jm w,jA,pU,qE hz w,jP]
   ·by_cases uM:m=l
    ·simp only[uM,if_true];exact VR.sk jM (by omega)
    ·simp only[uM,if_false,add_lit,sK];exact VR.sk jM (by omega)
 ·rename_i arr b off jm
  split at hv
  ·rename_i n e qS;rw[iO]at hv;obtain⟨z,hz,hv⟩:=hv;obtain⟨⟨l,hh,m⟩,hb,rfl⟩:=jR.1 hv;have pU:=GC (P:=P) hb (jg _) r1 r2 r3 false w;have hle:=Ht hb;have Bu:(if mv.isSome then m else n)=m:=by
    cases mv with
    |some _=>rfl
    |none=>exact(Nz hb).symm
   rw[Bu]at pU;cases v1 with
   | p jM =>
    rename_i i';refine jQ.val r (lJ (u:=.slice (some (if m=l then⟨i'.g,i'.base+off,none⟩else(⟨i'.g,i'.base+off,none⟩:Addr).add (l*z))) (hh-l) (m-l)) ?_) ?_
    ·simp only[Df,GV,asAddr,jq,j7 jm w,j7 qS w,jA,pU,qE hz w,jP]
    ·by_cases uM:m=l
     ·simp only[uM,if_true];exact VR.sk jM (by omega)
     ·simp only[uM,if_false,add_lit,sK];exact VR.sk jM (by omega)
  ·cases hv
 ·cases hv
end
end Go.V
end
section
namespace Go.V
section
variable{P:iY}{ρ:Ren}{h:Hp}{w:jb}{env:Env}{a:Act}
theorem abo{p:mA→Bool}(hp:p .dead=false){b k:Nat}:has p (h.set b .dead) k→has p h k:=λ⟨B,q1,q2⟩=>by
 rw[Hp.jv]at q1
 split at q1
 ·obtain rfl:=iK q1;rw[hp]at q2;cases q2
 ·exact⟨B,q1,q2⟩
theorem Rel.kill(r:Rel ρ h w){b:Nat}{i:Info}(hb:ρ b=some i):Rel ρ (h.set b .dead) w∧Ext ρ h w ρ (h.set b .dead) w:=by
 refine⟨⟨r.nv,λb' i' B' e f=>?_,λb1 b2 i1 i2 e1 e2 l1 l2=>?_,λk hk=>by
   have OI:=(r.nv b i hb).1;have om:h.next≤k:=hk;rw[Hp.jv,if_neg (by omega)];exact r.wf k om⟩,Ren.le.refl _,jg _,λb' jM hl=>⟨jM,?_⟩,jg _,λg _ hg=>⟨rfl,λb' i' e q=>hg b' i' e (abo rfl q)⟩,rfl,rfl,rfl,jg _⟩
 ·rw[Hp.jv]at f
  split at f
  ·obtain rfl:=iK f;trivial
  ·exact r.kG b' i' B' e f
 ·have lv:∀(p:mA→Bool),p .dead=false → ∀k,has p (h.set b .dead) k→has p h k:=λp hp k ⟨B,q1,q2⟩=>by
   rw[Hp.jv]at q1
   split at q1
   ·obtain rfl:=iK q1;rw[hp]at q2;cases q2
   ·exact⟨B,q1,q2⟩
  exact r.inj b1 b2 i1 i2 e1 e2 (lv _ rfl _ l1) (lv _ rfl _ l2)
 ·rw[Hp.jv,if_neg (λe=>by rw[e,hb]at jM;cases jM)]
theorem Rel.VI(r:Rel ρ h w){b p z n N base:Nat}{i:Info}{c:List gE}{us:List iU}{z0:Nat}{d:List gE}(hb:ρ b=some i)(FW:h.get b=some (.cells z0 d))(h1:c.all gE.one=true)
  (hN:base+c.length≤N) (Am:∀u∈us,u.oneCell'=true) (H4:Fz z w i.g) (hc:∀o,o<N→((w.setCells i.g p us).cell? ⟨i.g,o,none⟩).isSome=true∧(w.setCells i.g p us).frozen? ⟨i.g,o,none⟩=false)
  (hv:∀j u,c[j]? =some u → ∃u',(w.setCells i.g p us).cell? ⟨i.g,base+j,none⟩=some u'∧VR ρ u u') :
  Rel (ρ.put h.next ⟨i.g,base,z,c.length,N⟩) ((h.set b .dead).new (.cells z c)) (w.setCells i.g p us)∧Ext ρ h w (ρ.put h.next ⟨i.g,base,z,c.length,N⟩) ((h.set b .dead).new (.cells z c)) (w.setCells i.g p us):=by
 have FR:=r.free;have hle:=Ren.Ed (ρ:=ρ) (b:=h.next) ⟨i.g,base,z,c.length,N⟩ FR;have mE:∀b' i',(ρ.put h.next ⟨i.g,base,z,c.length,N⟩) b'=some i'→(b'=h.next∧i'=⟨i.g,base,z,c.length,N⟩)∨(b'≠h.next∧ρ b'=some i'):=λb' i' e=>by
  unfold Ren.put at e
  split at e
  ·rename_i jM;exact .inl ⟨jM,(iK e).symm⟩
  ·rename_i jM;exact .inr ⟨jM,e⟩
 have OI:b≠h.next:=λe=>by rw[e,FR]at hb;cases hb
 have acB:(h.set b .dead).next=h.next:=rfl;have tg:∀k,((h.set b .dead).new (.cells z c)).get k=if k=h.next then some (.cells z c)else if k=b then some .dead else h.get k:=λk=>by
  rw[Hp.lI,acB,Hp.jv]
 have UA:=r.nv b i hb;have lv:∀(p:mA→Bool),p .dead=false → ∀k,k≠h.next→has p ((h.set b .dead).new (.cells z c)) k→k≠b∧has p h k:=λp hp k hk ⟨B,q1,q2⟩=>by
  rw[tg,if_neg hk]at q1
  split at q1
  ·obtain rfl:=iK q1;rw[hp]at q2;cases q2
  ·exact⟨by assumption,B,q1,q2⟩
 have jw:∀k i',k≠b→ρ k=some i'→live h k→i'.g≠i.g:=λk i' hk e l eg=>hk (r.inj k b i' i e hb l ⟨_,FW,by simp⟩ eg);obtain⟨o1,o2,o3,o4⟩:=os_setCells i.g us p w;refine⟨⟨λb' i' e=>?_,λb' i' B' e f=>?_,λb1 b2 i1 i2 e1 e2 l1 l2 hg=>?_,λk hk=>by
   have om:h.next+1≤k:=hk;rw[tg,if_neg (by omega),if_neg (by have:=UA.1;omega)];exact r.wf k (by omega)⟩,hle,vN _,λb' jM hl=>⟨?_,?_⟩,by rw[size_setCells];exact jg _,λg hg hn=>⟨Bq _ _ _ _ _ (λe=>hn b i hb ⟨_,FW,rfl⟩ e.symm),λb' i' e q=>?_⟩,o1,o2,o3,by rw[o4];exact jg _⟩
 ·rw[size_setCells];rcases mE b' i' e with⟨rfl,rfl⟩|⟨_,e⟩
  ·exact⟨xF _,UA.2⟩
  ·have:=r.nv b' i' e;exact⟨E9 this.1,this.2⟩
 ·rw[tg]at f;rcases mE b' i' e with⟨rfl,rfl⟩|⟨hk,e⟩
  ·rw[if_pos rfl]at f;obtain rfl:=iK f;exact⟨rfl,rfl,hN,h1,⟨hc,Ol _ _ _ _ _ Am H4⟩,λj u hj=>by obtain⟨u',q1,q2⟩:=hv j u hj;exact⟨u',q1,q2.mono hle⟩⟩
  ·rw[if_neg hk]at f
   split at f
   ·obtain rfl:=iK f;trivial
   ·rename_i OT;have hB:=r.kG b' i' B' e f;cases B' with
    |dead=>trivial
    |cells z' c'=>exact hB.congr hle (Bq _ _ _ _ _ (jw b' i' OT e ⟨_,f,by simp⟩))
    |ro c'=>exact hB.congr hle (Bq _ _ _ _ _ (jw b' i' OT e ⟨_,f,by simp⟩))
    |map es=>exact hB.congr hle (Bq _ _ _ _ _ (jw b' i' OT e ⟨_,f,by simp⟩))
 ·rcases mE b1 i1 e1 with⟨rfl,rfl⟩|⟨k1,e1⟩<;>rcases mE b2 i2 e2 with⟨rfl,rfl⟩|⟨k2,e2⟩
  ·rfl
  ·obtain⟨q1,q2⟩:=lv _ rfl b2 k2 l2;exact absurd hg.symm (jw b2 i2 q1 e2 (own.live q2))
  ·obtain⟨q1,q2⟩:=lv _ rfl b1 k1 l1;exact absurd hg (jw b1 i1 q1 e1 q2)
  ·exact r.inj b1 b2 i1 i2 e1 e2 (lv _ rfl b1 k1 l1).2 (lv _ rfl b2 k2 l2).2 hg
 ·unfold Ren.put;rw[if_neg (by omega)];exact jM
 ·rw[tg,if_neg (by omega),if_neg (λe=>by rw[e,hb]at jM;cases jM)]
 ·rcases mE b' i' e with⟨rfl,rfl⟩|⟨hk,e⟩
  ·exact hn b i hb ⟨_,FW,rfl⟩
  ·exact hn b' i' e (lv _ rfl b' hk q).2
structure Hj(P:iY)(e:iA)(i:ES)(tx:iA)(x:iU)(n:Nat)(news:List iU)(w:jb):Prop where
 O0:Src P i.size tx x n news w ∨ ∃(kn k:pQ)(z:iU),P.underlying tx=some (.int kn)∧x = .int k n∧i.zero=some z∧news=(vK z.cells n).toList∧0<i.size
 one:∀u∈news,u.oneCell'=true
 len:news.length=n*i.size
theorem Qv{t tx ty e:iA}{i:ES}(ht:P.underlying t=some (.slice e))(hi:P.info? e=some i){b off oE sD:Nat}{x:iU}{n:Nat}{news:List iU}(hs:Hj P e i tx x n news w)(OU:n≤2^30)(KS:i.bytes≤2^12)
  (mM:oE+n≤sD) (hc:∀j,j<news.length→(w.cell? ⟨b,off+oE*i.size+j,none⟩).isSome=true) (hf:∀j,j<news.length→w.frozen? ⟨b,off+oE*i.size+j,none⟩=false) :
  (Dc #[t,tx] ty #[.slice (some ⟨b,off,none⟩) oE sD,x]).run P w = .ok (.slice (some ⟨b,off,none⟩) (oE+n) sD) (w.setCells b (off+oE*i.size) news):=by
 rcases hs.O0 with h1|⟨kn,k,z,Ga,rfl,hz,Ie,Bz⟩
 ·exact run_append_room_src w t tx ty e i ht hi b off oE sD x n news h1 mM hc hf
 ·have jm:=MM (P:=P) b (off+oE*i.size) news 0 w (by simpa using hc) (by simpa using hf) hs.one;simp only[sZ]at jm;have hw:=C9 (n:=n) (by omega);have K7:¬((n:Int)<0):=by omega
  have Ox:¬(281474976710656<(n:Int)*(i.bytes:Int)):=by
   rw[←JG];have:n*i.bytes≤2^30*2^12:=MY OU KS;omega
  by_cases h0:n*i.size=0
  ·have Al:n=0:=by
    rcases JO n with q|q
    ·exact q
    ·have:=Fa q Bz;omega
   subst Al;have xg:news=[]:=nK (by rw[hs.len];exact h0);subst xg;have BC:yE.wrap 0=0:=C9 (n:=0) (by omega);have hr0:oE≤sD:=by omega
   simp[Dc,j7 ht,j7 Ga,sizeOf,typeInfo,hi,asInt,asIntOf,BC,hr0,Addr.add_lit,GX,storeCells]
  ·have Al:n≠0:=λq=>h0 (by rw[q];simp);have K9:i.size≠0:=by omega
   rw[Ie]at jm;simp[Dc,j7 ht,j7 Ga,sizeOf,typeInfo,zeroValue,hi,hz,asInt,asIntOf,hw,K7,Ox,mM,Al,K9,Addr.add_lit];rw[jm,Ie,if_neg h0];rfl
theorem Qu{t tx ty e:iA}{i:ES}{z:iU}(ht:P.underlying t=some (.slice e))(hi:P.info? e=some i)(hz:i.zero=some z)(base:Option Addr)(oE sD:Nat)(olds:List iU)
  (hold:(wE i.size oE (.slice base oE sD)).run P w.drew = .ok olds.toArray w.drew) {x:iU} {n:Nat} {news:List iU} (hs:Hj P e i tx x n news w) (OU:n≤2^30) (KS:i.bytes≤2^12) (U0:oE≤2^30) (xf:0<n) (hg:sD<oE+n) :
  (Dc #[t,tx] ty #[.slice base oE sD,x]).run P w =
   .ok (.slice (some ⟨w.heap.size,0,none⟩) (oE+n) (grownCap w (oE+n) sD e))
    (w.drew.alloc (.cells ((olds++news).toArray++vK z.cells (grownCap w (oE+n) sD e-(oE+n))) e)):=by
 have oW:Builtin.nextslicecap (oE+n) sD*i.bytes≤281474976710656:=growslice_fits hg (by
  have:(oE+n)*i.bytes≤2^31*2^12:=MY (by omega) KS;omega)
 have h63:((oE+n:Nat):Int)≤9223372036854775807:=by omega
 rcases hs.O0 with h1|⟨kn,k,z',Ga,rfl,wj,Ie,Bz⟩
 ·exact run_append_grow_src w t tx ty e i z ht hi hz base oE sD olds hold x n news h1 hg h63 oW
 ·have qU:z'=z:=by rw[hz]at wj;exact(iK wj).symm
  subst qU;have hw:=C9 (n:=n) (by omega);have K7:¬((n:Int)<0):=by omega
  have Ox:¬(281474976710656<(n:Int)*(i.bytes:Int)):=by
   rw[←JG];have:n*i.bytes≤2^30*2^12:=MY OU KS;omega
  have hn:¬(oE+n≤sD):=by omega
  have aa3:¬(9223372036854775807<((oE:Int)+(n:Int))):=by omega
  have aa1:¬(281474976710656<Builtin.nextslicecap (oE+n) sD*i.bytes):=by omega
  have Al:n≠0:=by omega
  have K9:i.size≠0:=by omega
  subst Ie;simp[Dc,j7 ht,j7 Ga,sizeOf,typeInfo,zeroValue,hi,hz,asInt,asIntOf,hw,K7,Ox,hn,aa3,aa1,Al,K9,Question.forced,hold,newRow,grownCap];rw[if_neg (Nat.mul_ne_zero Al K9)]
  congr 3
  apply wC;simp[pG]
end
end Go.V
end
section
namespace Go.V
section
variable{P:iY}{ρ:Ren}{h:Hp}{w:jb}{env:Env}{a:Act}
theorem V1{w w':jb}{g o:Nat}{us:List iU}(hw:w'.heap=w.heap)(hr:w.rangeAt g o us):w'.rangeAt g o us:=λj v hv=>by
 rw[DN (w:=w) (by rw[hw])];exact hr j v hv
theorem L8{z n:Nat}{v:gE}{u:iU}{c:List gE}(r:Rel ρ h w)(hv:VR ρ v u)(hc:oL h z n v=some c)(hz:∀s,v = .s s→n=s.length)(hl:c.length=n*z) :
  ∃us,jc ρ c us∧us.length=n*z ∧ ∀w',w'.heap=w.heap→(wE z n u).run P w' = .ok us.toArray w':=by
 cases hv with
 |sn=>obtain rfl:=iK hc;exact⟨[],jc.nil,hl,λw' _=>rfl⟩
 |es =>
  simp only[oL]at hc
  split at hc
  ·rename_i h0;subst h0;obtain rfl:=iK hc;exact⟨[],jc.nil,by simp,λw' _=>by simp[wE,loadCells,loadCellsFrom]⟩
  ·cases hc
 |s x =>
  obtain rfl:=iK hc;have hn:=hz x rfl;subst hn;rw[ow]at hl ⊢;refine⟨byteCells ⟨x.toArray⟩,⟨by simp[byteCells],λj u u' p q=>?_⟩,by rw[byteCells_length,←hl];simp[AP],λw' _=>?_⟩
  ·simp only[byteCells,sF,jR]at p q;obtain⟨b,p1,rfl⟩:=p;obtain⟨b',q1,rfl⟩:=q;rw[p1]at q1;obtain rfl:=iK q1;exact .i _ _
  ·have:=firstCells_string (P:=P) ⟨x.toArray⟩ w';simpa[AP,oF,wE]using this
 |sk hb hk =>
  simp only[oL]at hc
  split at hc
  ·rename_i h0;subst h0;obtain rfl:=iK hc;exact⟨[],jc.nil,by simp,λw' _=>by simp[wE,loadCells,loadCellsFrom]⟩
  ·obtain⟨g1,us,g2,g3,g4⟩:=r.rd hb hc;refine⟨us,g2,g3,λw' hw=>?_⟩;simp only[wE];rw[←g3];exact L3 (V1 hw g4)
 |so hb hk q1 q2 =>
  simp only[oL]at hc
  split at hc
  ·rename_i h0;subst h0;obtain rfl:=iK hc;exact⟨[],jc.nil,by simp,λw' _=>by simp[wE,loadCells,loadCellsFrom]⟩
  ·obtain⟨g1,us,g2,g3,g4⟩:=r.rd hb hc;refine⟨us,g2,g3,λw' hw=>?_⟩;simp only[wE];rw[←g3];exact L3 (V1 hw g4)
 |_=>cases hc
theorem WI{v:gE}{u:iU}{n:Nat}(hv:VR ρ v u)(hl:As v=some n)(w:jb):(Builtin.lenOf u).run P w = .ok n w:=by
 cases hv<;>simp only[As,km,reduceCtorEq]at hl<;>subst hl<;>simp[Builtin.lenOf,oF,AP]
theorem XB(z:Array iU)(n:Nat):vK z n=(B4 (n*z.size)).map λi=>z[i%z.size]!:=rfl
theorem Lp{l:Nat}{k:Cap}{u:iU}(hv:VR ρ (.sl none l k) u):l=0∧k = .k 0∧u = .slice none 0 0:=by cases hv;exact⟨rfl,rfl,rfl⟩
theorem ahf{e tx:iA}{i:ES}{z n:Nat}{zk:Bool}{zero v:gE}{u:iU}{c:List gE}(r:Rel ρ h w)(hi:P.info? e=some i)(hs:i.size=z)(hz:zeroV P e=some zero)(zf:zero.cells.length=z)(h0:0<z)(hk:rV P tx=some zk)(hv:VR ρ v u)
  (hm:CP P h e z zk v=some (n,c)) (hl:c.length=n*z) (ho:c.all gE.one=true):∃news,jc ρ c news∧Hj P e i tx u n news w:=by
 obtain⟨i',zu,i1,i2,i3⟩:=yD hz;have H6:i'=i:=by rw[i1]at hi;exact iK hi
 subst H6;have rQ:=(yd (ρ:=ρ) i3).cells;have nZ:zu.cells.size=z:=by have:=rQ.1;simp at this;omega
 unfold CP at hm;cases zk with
 | true =>
  simp only[cond_true]at hm;rw[iO]at hm;obtain⟨m,h1,hm⟩:=hm;rw[hz]at hm;simp only[jy]at hm;rw[if_pos zf]at hm
  ·simp only[km,jT]at hm;obtain⟨rfl,rfl⟩:=hm;obtain⟨k,rfl,ajo⟩:=IF h1;cases hv;have qU:=GO rQ (by omega) m;have DY:∃kn,P.underlying tx=some (.int kn):=by
    unfold rV at hk
    split at hk<;>simp at hk
    exact⟨_,by assumption⟩
   obtain⟨kn,DY⟩:=DY;exact⟨_,qU,.inr ⟨kn,k,zu,DY,rfl,i2,by rw[XB],by omega⟩,qU.one ho,by rw[←qU.1,hl,hs]⟩
 | false =>
  simp only[cond_false]at hm;rw[iO]at hm;obtain⟨m,h1,hm⟩:=hm;obtain⟨c',h2,hm⟩:=jR.1 hm;simp only[jT]at hm;obtain⟨rfl,rfl⟩:=hm;obtain⟨us,g1,g2,g3⟩:=L8 (P:=P) r hv h2 (λs e=>by subst e;exact(iK h1).symm) hl;have DY:(∃e',P.underlying tx=some (.slice e'))∨P.underlying tx=some .string:=by
   unfold rV at hk
   split at hk<;>simp at hk
   ·exact .inl ⟨_,by assumption⟩
   ·exact .inr (by assumption)
  refine⟨us,g1,.inl ⟨DY,λw'=>WI hv h1 w',?_,?_,by rw[hs];exact g2,g1.one ho⟩,g1.one ho,by rw[hs];exact g2⟩
  ·rw[hs];exact g3 w rfl
  ·rw[hs];exact g3 w.drew rfl
theorem aiX(z:Array iU)(n:Nat):(vK z n).toList.length=n*z.size:=by simp[vK]
theorem aiY{z:Array iU}{n:Nat}(h:∀u∈z.toList,u.oneCell'=true):∀u∈(vK z n).toList,u.oneCell'=true:=by
 intro u hu;simp only[vK,Array.toList_map,Array.toList_range,qJ,MV]at hu;obtain⟨i,hi,rfl⟩:=hu;have hp:0<z.size:=by
  rcases JO z.size with q|q
  ·rw[q]at hi;omega
  ·exact q
 have hl:=zR i hp;rw[getElem!_pos z _ hl];exact h _ (by simp)
theorem Qz{z n0:Nat}{c:List gE}{us:List iU}{v:gE}{h':Hp}(r:Rel ρ h w)(e:iA)(zs:Array iU)(mY:∀u∈zs.toList,u.oneCell'=true)(nZ:zs.size=z)(C:Nat)(hC:n0≤C)(lT:c.length=n0*z)(hv:ru h z c n0 none=some (v,h'))(hr:jc ρ c us) :
  ∃ρ' u,u = .slice (some ⟨w.heap.size,0,none⟩) n0 C∧VR ρ' v u∧Rel ρ' h' (w.alloc (.cells (us.toArray++vK zs (C-n0)) e))∧Ext ρ h w ρ' h' (w.alloc (.cells (us.toArray++vK zs (C-n0)) e)):=by
 unfold ru at hv
 split at hv
 ·rename_i h1;simp only[km,jT]at hv;obtain⟨rfl,rfl⟩:=hv;have BA:=hr.1;have e1:us.toArray++vK zs (C-n0)=(us++(vK zs (C-n0)).toList).toArray:=by apply wC;simp
  have e2:(us++(vK zs (C-n0)).toList).length=C*z:=by
   rw[kU,aiX,nZ,←BA,lT,←lQ];congr 1;omega
  rw[e1];obtain⟨h2,h3⟩:=r.PT (z:=z) (cs:=us++(vK zs (C-n0)).toList) (e:=e) (fz:=(0,0)) (by simp) (by simp) (λ_=>jg _) h1 (λu hu=>(mF.1 hu).elim (hr.one h1 u) (aiY mY u)) (by simp[BA]) (by rw[BA,List.take_left];exact hr);refine⟨_,_,rfl,?_,h2,h3⟩;have:=VR.so (ρ:=ρ.put h.next ⟨w.heap.size,0,z,c.length,(us++(vK zs (C-n0)).toList).length⟩) (b:=h.next) (o:=0) (len:=n0) (c:=C) (BT _ _) hC (by
   show c.length≤0+C*z;rw[lT,jn];exact nL _ hC) (by
   show 0+0+C*z≤(us++(vK zs (C-n0)).toList).length;rw[e2];omega)
  simpa using this
 ·cases hv
theorem Wt{t tx ty e:iA}{i:ES}(ht:P.underlying t=some (.slice e))(hi:P.info? e=some i)(base:Option Addr)(oE sD:Nat)(hle:oE≤sD){x:iU}(hs:Hj P e i tx x 0 [] w) :
  (Dc #[t,tx] ty #[.slice base oE sD,x]).run P w = .ok (.slice base oE sD) w:=by
 rcases hs.O0 with h1|⟨kn,k,z,Ga,rfl,hz,Ie,Bz⟩
 ·exact run_append_nothing w t tx ty e i ht hi base oE sD hle x h1
 ·have BC:yE.wrap 0=0:=C9 (n:=0) (by omega);cases base<;>simp[Dc,j7 ht,j7 Ga,sizeOf,typeInfo,hi,asInt,asIntOf,BC,hle,storeCells]
theorem afE{b o n:Nat}{c:List gE}(hr:rd h b o n=some c):c.length=n:=by
 unfold rd at hr
 split at hr
 ·split at hr
  ·obtain rfl:=iK hr;simp;omega
  ·cases hr
 ·split at hr
  ·obtain rfl:=iK hr;simp;omega
  ·cases hr
 ·cases hr
theorem T7{z n b o len:Nat}{cap:Cap}{c:List gE}(hc:oL h z n (.sl (some (b,o)) len cap)=some c):c.length=n*z:=by
 simp only[oL]at hc
 split at hc
 ·rename_i h0;subst h0;obtain rfl:=iK hc;simp
 ·exact afE hc
theorem aaO{z n b o len:Nat}{cap:Cap}{c:List gE}(r:Rel ρ h w){i:Info}(hb:ρ b=some i)(hc:oL h z n (.sl (some (b,o)) len cap)=some c):c.all gE.one=true:=by
 simp only[oL]at hc
 split at hc
 ·obtain rfl:=iK hc;rfl
 ·exact(r.rd hb hc).1
theorem agS{e t tx ty:iA}{i:ES}{zu s' x':iU}{z n:Nat}{c:List gE}{news:List iU}{s v:gE}{h':Hp}(r:Rel ρ h w)(jm:P.underlying t=some (.slice e))(hi:P.info? e=some i)(uP:i.size=z)(j2:i.zero=some zu)(mY:∀u∈zu.cells.toList,u.oneCell'=true)(nZ:zu.cells.size=z)(c2:0<z)(c3:n≤2^30)(c5:i.bytes≤2^12)
  (c6:c.length=n*z) (vs:VR ρ s s') (g1:jc ρ c news) (g2:Hj P e i tx x' n news w) (hv:vS h z n c s=some (v,h')) :
  ∃ρ' w' u,(Dc #[t,tx] ty #[s',x']).run P w = .ok u w'∧VR ρ' v u∧Rel ρ' h' w'∧Ext ρ h w ρ' h' w':=by
 have lX:=Ext.drew ρ h w;subst uP;unfold vS at hv
 split at hv
 ·rename_i len cap
  split at hv
  ·obtain⟨_,_,rfl⟩:=Lp vs
   split at hv
   ·rename_i h0;subst h0;simp only[km,jT]at hv;obtain⟨rfl,rfl⟩:=hv;have xg:news=[]:=nK (by rw[g2.len];simp);subst xg;exact⟨ρ,w,_,Wt jm hi none 0 0 (jg _) g2,vs,r,Ext.refl _ _ _⟩
   ·have hg:=Qu (w:=w) jm hi j2 none 0 0 [] (ty:=ty) (by rfl) g2 c3 c5 (by omega) (by omega) (by omega);obtain⟨ρ',u,rfl,q1,q2,q3⟩:=Qz r.drew e zu.cells mY nZ (grownCap w (0+n) 0 e) (n0:=n) (by have:=JF w (0+n) 0 e;omega) c6 hv g1;refine⟨ρ',_,.slice (some ⟨w.heap.size,0,none⟩) n (grownCap w (0+n) 0 e),?_,q1,q2,lX.trans q3⟩;rw[hg];simp
  ·cases hv
 ·cases vs with
  |es =>
   split at hv
   ·rename_i h0;subst h0;simp only[km,jT]at hv;obtain⟨rfl,rfl⟩:=hv;have xg:news=[]:=nK (by rw[g2.len];simp);subst xg;exact⟨ρ,w,_,Wt jm hi _ 0 _ (ju _) g2,VR.es,r,Ext.refl _ _ _⟩
   ·cases hv
 ·rename_i b off len k;cases vs with
  | sk hb zd =>
   rename_i i'
   split at hv
   ·rename_i mM;obtain⟨h2,hw,hv⟩:=jR.1 hv;simp only[jT]at hv;obtain⟨rfl,rfl⟩:=hv;obtain⟨d1,d2,d3,d4,d5⟩:=r.p6 hb hw g1;have e0:i'.base+(off+len*i.size)=i'.base+off+len*i.size:=by omega
    rw[e0]at d1 d2 d4 d5;exact⟨ρ,_,_,Qv jm hi g2 c3 c5 mM d1 d2,VR.sk hb mM,d4,d5⟩
   ·rename_i mM
    split at hv
    ·rename_i hlen;rw[iO]at hv;obtain⟨d,hd,hv⟩:=hv;have uJ:=T7 hd;obtain⟨olds,f1,f2,f3⟩:=L8 (P:=P) r (VR.sk hb zd) hd (λs e=>by cases e) uJ;have hg:=Qu (w:=w) jm hi j2 (some ⟨i'.g,i'.base+off,none⟩) len k olds (ty:=ty) (f3 w.drew rfl) g2 c3 c5 hlen.2 (by omega) (by omega);obtain⟨ρ',u,rfl,q1,q2,q3⟩:=Qz r.drew e zu.cells mY nZ (grownCap w (len+n) k e) (n0:=len+n) (JF w (len+n) k e) (by rw[kU,uJ,c6,lQ]) hv (f1.append g1);exact⟨ρ',_,_,hg,q1,q2,lX.trans q3⟩
    ·cases hv
 ·rename_i b off len zo;cases vs with
  | so hb zd p1 p2 =>
   rename_i cc i'
   split at hv
   ·rename_i z' d uK;have hB:=r.kG _ _ _ hb uK;obtain⟨b1,b2,b3,b4,b5,b6⟩:=hB
    split at hv
    ·rename_i tf;obtain⟨rfl,acq,oW⟩:=tf;rw[b1]at p1 p2
     split at hv
     ·rename_i sV;obtain⟨h2,hw,hv⟩:=jR.1 hv;simp only[jT]at hv;obtain⟨rfl,rfl⟩:=hv;obtain⟨d1,d2,d3,d4,d5⟩:=r.p6 hb hw g1;have e0:i'.base+(off+len*i.size)=i'.base+off+len*i.size:=by omega
      rw[e0]at d1 d2 d4 d5;have mM:len+n≤cc:=by
       have:(len+n)*i.size≤cc*i.size:=by omega
       exact Nat.le_of_mul_le_mul_right this c2
      refine⟨ρ,_,_,Qv jm hi g2 c3 c5 mM d1 d2,b1▸VR.so hb mM (by rw[b1];exact p1) (by rw[b1];exact p2),d4,d5⟩
     ·rename_i sV;rw[iO]at hv;obtain⟨dd,hd,hv⟩:=hv;have uJ:=T7 hd;have rl:=aaO r hb hd;obtain⟨olds,f1,f2,f3⟩:=L8 (P:=P) r (VR.so hb zd (by rw[b1];exact p1) (by rw[b1];exact p2)) hd (λs e=>by cases e) uJ;have xf:0<n:=by
       rcases JO n with q|q
       ·subst q;simp at sV;omega
       ·exact q
      by_cases mM:len+n≤cc
      ·
       have hlen:news.length=n*i.size:=g2.len;have hmul:(len+n)*i.size≤cc*i.size:=nL _ mM;rw[lQ]at hmul;have d1:∀j,j<news.length→(w.cell? ⟨i'.g,i'.base+off+len*i.size+j,none⟩).isSome=true:=λj hj=>(b5.1 _ (by omega)).1;have d2:∀j,j<news.length→w.frozen? ⟨i'.g,i'.base+off+len*i.size+j,none⟩=false:=λj hj=>(b5.1 _ (by omega)).2;have hg:=Qv (ty:=ty) jm hi g2 c3 c5 mM d1 d2;unfold ru at hv
       split at hv
       ·rename_i h1;simp only[km,jT]at hv;obtain⟨rfl,rfl⟩:=hv;have lT:(dd++c).length=(len+n)*i.size:=by rw[kU,uJ,c6,lQ]
        obtain⟨q2,q3⟩:=r.VI (p:=i'.base+off+len*i.size) (z:=i.size) (n:=0) (N:=i'.base+off+cc*i.size) (base:=i'.base+off) (c:=dd++c) (us:=news) hb uK h1 (by rw[lT,lQ];omega) g2.one b5.2 (λo ho=>⟨isSome_setCells _ _ _ _ _ (b5.1 o (by omega)).1,by rw[World.frozen?_setCells];exact(b5.1 o (by omega)).2⟩) (λj u hj=>by
         by_cases nT:j<dd.length
         ·rw[mU nT]at hj;have Im:rd h b off (len*i.size)=some dd∨dd=[]:=by
           simp only[oL]at hd
           split at hd
           ·exact .inr (iK hd).symm
           ·exact .inl hd
          rcases Im with Im|Im
          ·obtain⟨_,us2,v1,v2,v3⟩:=r.rd hb Im;obtain⟨u2,a1,a2⟩:=v1.at hj;refine⟨u2,?_,a2⟩;rw[World.cell?_setCells_out _ _ _ _ _ (λ_ _=>by simp only;omega)];exact v3 j u2 a1
          ·rw[Im]at nT;simp at nT
         ·rw[nq (by omega)]at hj;obtain⟨u',a1,a2⟩:=g1.at hj;refine⟨u',?_,a2⟩;have jB:=(kI.1 a1).1;have:=World.cell?_setCells_in i'.g news (i'.base+off+len*i.size) w d1 (j-dd.length) jB;rw[show i'.base+off+j=i'.base+off+len*i.size+(j-dd.length) by omega,this];exact(jx jB).symm.trans a1)
        refine⟨_,_,_,hg,?_,q2,q3⟩;have:=VR.so (ρ:=ρ.put h.next ⟨i'.g,i'.base+off,i.size,(dd++c).length,i'.base+off+cc*i.size⟩) (b:=h.next) (o:=0) (len:=len+n) (c:=cc) (BT _ _) mM (by
         show(dd++c).length≤0+cc*i.size;rw[lT,lQ];omega) (by
         show i'.base+off+0+cc*i.size≤i'.base+off+cc*i.size;omega)
        have hh:(h.set b .dead).next=h.next:=rfl;rw[hh];simpa using this
       ·cases hv
      ·have hg:=Qu (w:=w) jm hi j2 (some ⟨i'.g,i'.base+off,none⟩) len cc olds (ty:=ty) (f3 w.drew rfl) g2 c3 c5 acq xf (by omega);obtain⟨k1,k2⟩:=r.drew.kill hb;obtain⟨ρ',u,rfl,q1,q2,q3⟩:=Qz k1 e zu.cells mY nZ (grownCap w (len+n) cc e) (n0:=len+n) (JF w (len+n) cc e) (by rw[kU,uJ,c6,lQ]) hv (f1.append g1);exact⟨ρ',_,_,hg,q1,q2,(lX.trans k2).trans q3⟩
    ·cases hv
   ·cases hv
 ·cases hv
theorem VD{xs:Array iT}{s x:gE}(hE:mj ρ env a)(hl:pN env xs.toList=some [s,x]):∃s' x',xs.map a.eval = #[s',x']∧VR ρ s s'∧VR ρ x x':=by
 have hr:=HI hE hl;have D4:(xs.map a.eval).toList=xs.toList.map a.eval:=by simp
 generalize Am:xs.toList.map a.eval=us at hr;obtain⟨s',x',rfl⟩:∃s' x',us=[s',x']:=by
  have:=hr.1
  match us,this with
  |[s',x'],_=>exact⟨s',x',rfl⟩
 exact⟨s',x',by apply wC;rw[D4,Am],hr.head,hr.tail.head⟩
theorem PH{xs:Array iT}{s:gE}(hE:mj ρ env a)(hl:pN env xs.toList=some [s]):∃s',xs.map a.eval = #[s']∧VR ρ s s':=by
 have hr:=HI hE hl;have D4:(xs.map a.eval).toList=xs.toList.map a.eval:=by simp
 generalize Am:xs.toList.map a.eval=us at hr;obtain⟨s',rfl⟩:∃s',us=[s']:=by
  have:=hr.1
  match us,this with
  |[s'],_=>exact⟨s',rfl⟩
 exact⟨s',by apply wC;rw[D4,Am],hr.head⟩
theorem GB{o:Oper}{b:Builtin}{xs:Array iT}{nt:Array iA}{u:Next}{w':jb}(ho:o.op = .call { callee:=.builtin b,args:=xs,argTypes:=nt })(h2:(builtin b nt o.type (xs.map λ | .const _=>true|_=>false) (xs.map a.eval)).run P w = .ok u w') :
  (execOp a.eval o).run P w = .ok u w':=by
 simp only[execOp,ho,resolve,invoke,jq,jP,jA];exact h2
theorem agT{o:Oper}{xs:Array iT}{nt:Array iA}{s x:gE}{v:gE}{h':Hp}(ho:o.op = .call { callee:=.builtin .append,args:=xs,argTypes:=nt })(r:Rel ρ h w)(hE:mj ρ env a)(hl:pN env xs.toList=some [s,x])(hv:Co P h nt.toList s x=some (v,h')) :
  jQ P ρ h w a o v h':=by
 obtain⟨s',x',Ai,vs,vx⟩:=VD hE hl;unfold Co at hv
 split at hv
 ·rename_i t tx tV
  split at hv
  ·rename_i e jm;rw[iO]at hv;obtain⟨z,hz,hv⟩:=hv;rw[iO]at hv;obtain⟨i,hi,hv⟩:=hv;rw[iO]at hv;obtain⟨zero,hzero,hv⟩:=hv;rw[iO]at hv;obtain⟨zk,vB,hv⟩:=hv;rw[iO]at hv;obtain⟨⟨n,c⟩,hm,hv⟩:=hv
   split at hv
   ·rename_i hc;obtain⟨c1,c2,c3,c4,c5,c6,c7⟩:=hc;simp only at c3 c6 c7 hv;obtain⟨i',lY,uP⟩:=W9 hz;have:i'=i:=by rw[lY]at hi;exact iK hi
    subst this;obtain⟨news,g1,g2⟩:=ahf r hi uP hzero c1 c2 vB vx hm c6 c7;have abp:nt = #[t,tx]:=by apply wC;simpa using tV
    obtain⟨i2,zu,j1,j2,j3⟩:=yD hzero;have:i2=i':=by rw[j1]at hi;exact iK hi
    subst this;have nZ:zu.cells.size=z:=by have:=(yd (ρ:=ρ) j3).cells.1;simp at this;omega
    obtain⟨ρ',w',u,e1,e2,e3,e4⟩:=agS (ty:=o.type) r jm hi uP j2 (aav j3) nZ c2 c3 c5 c6 vs g1 g2 hv;refine⟨ρ',w',_,u,GB ho ?_,.inl rfl,e2,e3,e4⟩;rw[Ai,abp];simp only[builtin,jq,e1,jA,jP]
   ·cases hv
  ·cases hv
 ·cases hv
theorem ag1{o:Oper}{xs:Array iT}{nt:Array iA}{d s:gE}{v:gE}{h':Hp}(ho:o.op = .call { callee:=.builtin .copy,args:=xs,argTypes:=nt })(r:Rel ρ h w)(hE:mj ρ env a)(hl:pN env xs.toList=some [d,s])(hv:copyV P h nt.toList d s=some (v,h')) :
  jQ P ρ h w a o v h':=by
 obtain⟨d',s',Ai,vd,vs⟩:=VD hE hl;unfold copyV at hv;rw[iO]at hv;obtain⟨t,ht,hv⟩:=hv
 split at hv
 ·rename_i e jm;rw[iO]at hv;obtain⟨z,hz,hv⟩:=hv;rw[iO]at hv;obtain⟨m,hm,hv⟩:=hv;have hlen:=WI (P:=P) vs hm w;have tj:nt[0]? =some t:=by simpa using ht
  have done:∀{u:iU}{w':jb}{ρ':Ren}{v':gE},(MA nt o.type #[d',s']).run P w = .ok u w'→VR ρ' v' u→Rel ρ' h' w'→Ext ρ h w ρ' h' w'→jQ P ρ h w a o v' h':=λe1 e2 e3 e4=>by
   refine⟨_,_,_,_,GB ho ?_,.inl rfl,e2,e3,e4⟩;rw[Ai];simp only[builtin,jq,e1,jA,jP]
  have main:∀(b off len:Nat)(cap:Cap)(cc:Nat)(i:Info),d = .sl (some (b,off)) len cap→d' = .slice (some ⟨i.g,i.base+off,none⟩) len cc→ρ b=some i →
    ((oL h z (min m len) s).bind λc=>if c.length=min m len*z then(p6 h b off c).map λh'=>(gE.i .i64 ((min m len:Nat):Int),h')else none)=some (v,h')→jQ P ρ h w a o v h':=λb off len cap cc i e1 e2 hb hv=>by
   rw[iO]at hv;obtain⟨c,hc,hv⟩:=hv
   split at hv
   ·rename_i lT;obtain⟨h2,hw,hv⟩:=jR.1 hv;simp only[jT]at hv;obtain⟨rfl,rfl⟩:=hv;obtain⟨us,f1,f2,f3⟩:∃us,jc ρ c us∧us.length=min m len*z∧(wE z (min m len) s').run P w = .ok us.toArray w:=by
     cases s with
     | s x =>
      cases vs;obtain rfl:=iK hc;obtain rfl:=iK hm;refine⟨(x.take (min x.length len)).map λc=>.int .u8 c.toNat,⟨by simp,λj u u' p q=>?_⟩,by simpa using lT,?_⟩
      ·simp only[sF,jR]at p q;obtain⟨b,p1,rfl⟩:=p;obtain⟨b',q1,rfl⟩:=q;rw[p1]at q1;obtain rfl:=iK q1;exact .i _ _
      ·simp only[wE,oF,jP]
       congr 1
       apply wC;simp
     |_ =>
      obtain⟨us,f1,f2,f3⟩:=L8 (P:=P) r vs hc (λs e=>by cases e) lT;exact⟨us,f1,f2,f3 w rfl⟩
    obtain⟨d1,d2,d3,d4,d5⟩:=r.p6 hb hw f1;have qS:=MM (P:=P) i.g (i.base+off) us 0 w (by simpa using d1) (by simpa using d2) d3;simp only[sZ]at qS;refine done (u:=.int .i64 ((min m len:Nat):Int)) (ρ':=ρ) ?_ (VR.i _ _) d4 d5;subst e2;simp only[MA,tj,AT,E1,RT,jq,j7 jm w,jA,hlen,qE hz w];have e3:R4 m len=min m len:=rfl;rw[e3,f3];simp only[jA,jq,qS,jP,goInt]
   ·cases hv
  split at hv
  ·rename_i b off len cap;cases vd with
   |sk hb hk=>exact main b off len _ _ _ rfl rfl hb hv
   |so hb hk q1 q2=>exact main b off len _ _ _ rfl rfl hb hv
  ·rename_i len cap;obtain⟨rfl,rfl,rfl⟩:=Lp vd;simp only[if_true,km,jT]at hv;obtain⟨rfl,rfl⟩:=hv;refine done (u:=.int .i64 0) (w':=w) (ρ':=ρ) ?_ (VR.i _ _) r (Ext.refl _ _ _);have e3:R4 m 0=0:=Nat.min_zero m;have hf:(wE z 0 s').run P w = .ok #[] w:=by
    cases vs<;>simp[As]at hm<;>simp[wE,loadCells,loadCellsFrom,oF]
   simp only[MA,tj,AT,E1,RT,jq,j7 jm w,jA,hlen,qE hz w,e3,hf,jP,goInt];rfl
  ·simp only[km,jT]at hv;obtain⟨rfl,rfl⟩:=hv;cases vd;refine done (u:=.int .i64 0) (w':=w) (ρ':=ρ) ?_ (VR.i _ _) r (Ext.refl _ _ _);have e3:R4 m 0=0:=Nat.min_zero m;have hf:(wE z 0 s').run P w = .ok #[] w:=by
    cases vs<;>simp[As]at hm<;>simp[wE,loadCells,loadCellsFrom,oF]
   simp only[MA,tj,AT,E1,RT,jq,j7 jm w,jA,hlen,qE hz w,e3,hf,jP,goInt];rfl
  ·cases hv
 ·cases hv
end
end Go.V
end
section
namespace Go.V
section
variable{P:iY}{ρ:Ren}{h:Hp}{w:jb}{env:Env}{a:Act}
theorem VR.Gl{ρ:Ren}:VR ρ (.kx []) (.tuple #[]):=VR.kx (vs:=[]) rfl (λj u u' h=>by simp at h)
theorem agZ{o:Oper}{xs:Array iT}{nt:Array iA}{d:gE}{v:gE}{h':Hp}(ho:o.op = .call { callee:=.builtin .clear,args:=xs,argTypes:=nt })(r:Rel ρ h w)(hE:mj ρ env a)(hl:pN env xs.toList=some [d])(hv:Cs P h nt.toList d=some (v,h')) :
  jQ P ρ h w a o v h':=by
 obtain⟨d',Ai,vd⟩:=PH hE hl;unfold Cs at hv;rw[iO]at hv;obtain⟨t,ht,hv⟩:=hv;have tj:nt[0]? =some t:=by simpa using ht
 have done:∀{w':jb}{ρ':Ren},(Ju nt o.type #[d']).run P w = .ok (.tuple #[]) w'→Rel ρ' h' w'→Ext ρ h w ρ' h' w'→jQ P ρ h w a o (.kx []) h':=λe1 e3 e4=>by
  refine⟨_,_,_,_,GB ho ?_,.inl rfl,VR.Gl,e3,e4⟩;rw[Ai];simp only[builtin,jq,e1,jA,jP]
 split at hv
 ·rename_i e jm;rw[iO]at hv;obtain⟨zero,hz,hv⟩:=hv;obtain⟨i,zu,i1,i2,i3⟩:=yD hz;have rQ:=(yd (ρ:=ρ) i3).cells;have main:∀(b off len:Nat)(cc:Nat)(i':Info),d' = .slice (some ⟨i'.g,i'.base+off,none⟩) len cc→ρ b=some i' →
    (if len=0 then some (gE.kx [],h)else if 0<zero.cells.length then(p6 h b off (mT zero.cells len)).map λh'=>(gE.kx [],h')else none)=some (v,h')→jQ P ρ h w a o v h':=λb off len cc i' e2 hb hv=>by
   subst e2
   split at hv
   ·rename_i h0;subst h0;simp only[km,jT]at hv;obtain⟨rfl,rfl⟩:=hv;refine done (w':=w) (ρ':=ρ) ?_ r (Ext.refl _ _ _);simp[Ju,tj,j7 jm]
   ·rename_i h0
    split at hv
    ·rename_i BF;obtain⟨h2,hw,hv⟩:=jR.1 hv;simp only[jT]at hv;obtain⟨rfl,rfl⟩:=hv;have qU:=GO rQ BF len;obtain⟨d1,d2,d3,d4,d5⟩:=r.p6 hb hw qU;have qS:=MM (P:=P) i'.g (i'.base+off) _ 0 w (by simpa using d1) (by simpa using d2) d3;simp only[sZ]at qS;refine done (ρ':=ρ) ?_ d4 d5;cases len with
     |zero=>exact absurd rfl h0
     |succ len =>
      simp only[Ju,tj,AT,E1,jq,j7 jm w,jA,AH i1 i2 w,XB,qS,jP]
    ·cases hv
  split at hv
  ·rename_i b off len cap;cases vd with
   |sk hb hk=>exact main b off len _ _ rfl hb hv
   |so hb hk q1 q2=>exact main b off len _ _ rfl hb hv
  ·obtain⟨rfl,rfl,rfl⟩:=Lp vd;simp only[km,jT]at hv;obtain⟨rfl,rfl⟩:=hv;refine done (w':=w) (ρ':=ρ) ?_ r (Ext.refl _ _ _);simp[Ju,tj,j7 jm]
  ·simp only[km,jT]at hv;obtain⟨rfl,rfl⟩:=hv;cases vd;refine done (w':=w) (ρ':=ρ) ?_ r (Ext.refl _ _ _);simp[Ju,tj,j7 jm]
  ·cases hv
 ·cases hv
theorem ag8{o:Oper}{xs:Array iT}{nt:Array iA}{d:gE}{v:gE}(ho:o.op = .call { callee:=.builtin .len,args:=xs,argTypes:=nt })(r:Rel ρ h w)(hE:mj ρ env a)(hl:pN env xs.toList=some [d])(hv:Ar P h nt.toList d=some v) :
  jQ P ρ h w a o v h:=by
 obtain⟨d',Ai,vd⟩:=PH hE hl;unfold Ar at hv;rw[iO]at hv;obtain⟨t,ht,hv⟩:=hv;have tj:nt[0]? =some t:=by simpa using ht
 have done:∀{n:Int},(Dd nt o.type #[d']).run P w = .ok (.int .i64 n) w→jQ P ρ h w a o (.i .i64 n) h:=λe1=>by
  refine jQ.val r (GB ho ?_) (VR.i _ _);rw[Ai];simp only[builtin,jq,e1,jA,jP]
 have pre:∀{d:tF},P.underlying t=some d→(underlying t).run P w = .ok d w:=λhd=>j7 hd w
 split at hv
 ·rename_i s jm;obtain rfl:=iK hv;cases vd;refine done ?_;have e9:(⟨s.toArray⟩:ByteArray).size=s.length:=by simp[AP]
  simp only[Dd,tj,oF,AT,E1,jq,j7 jm w,jA,jP,goInt,e9]
 ·rename_i n e jm;obtain rfl:=iK hv;refine done ?_;cases vd<;>simp[Dd,tj,j7 jm,goInt]
 ·rename_i e b n c jm;obtain rfl:=iK hv;refine done ?_;cases vd<;>simp[Dd,tj,j7 jm,goInt]
 ·rename_i e jm;obtain rfl:=iK hv;refine done ?_;cases vd;simp[Dd,tj,j7 jm,goInt]
 ·rename_i jm;obtain rfl:=iK hv;refine done ?_;cases vd;simp[Dd,tj,j7 jm,goInt]
 ·rename_i rr jm
  split at hv
  ·rename_i es hg;obtain rfl:=iK hv;cases vd with
   |m hb =>
    obtain⟨en,ck,m1,m2,m3⟩:=r.kG _ _ _ hb hg;refine done ?_;simp[Dd,tj,j7 jm,goInt,getObj,Dm,m1,m2]
  ·cases hv
 ·rename_i ad jm
  split at hv
  ·rename_i n e qS;obtain rfl:=iK hv;refine done ?_;cases vd;simp[Dd,tj,j7 jm,j7 qS,goInt]
  ·cases hv
 ·cases hv
theorem agY{o:Oper}{xs:Array iT}{nt:Array iA}{d:gE}{v:gE}(ho:o.op = .call { callee:=.builtin .cap,args:=xs,argTypes:=nt })(r:Rel ρ h w)(hE:mj ρ env a)(hl:pN env xs.toList=some [d])(hv:Kb P nt.toList d=some v) :
  jQ P ρ h w a o v h:=by
 obtain⟨d',Ai,vd⟩:=PH hE hl;unfold Kb at hv;rw[iO]at hv;obtain⟨t,ht,hv⟩:=hv;have tj:nt[0]? =some t:=by simpa using ht
 split at hv
 ·rename_i e b n k jm;obtain rfl:=iK hv;have e1:(Builtin.cap_ nt o.type #[d']).run P w = .ok (.int .i64 k) w:=by
   cases vd<;>simp[Builtin.cap_,tj,j7 jm,goInt]
  refine jQ.val r (GB ho (u:=.value (.int .i64 k)) ?_) (VR.i _ _);rw[Ai];simp only[builtin,jq,e1,jA,jP]
 ·cases hv
theorem WJ{mx:Bool}:∀{l:List gE}{us:List iU}{x:gE}{u:iU}{v:gE},l.foldlM (PN mx) x=some v→jc ρ l us→VR ρ x u → ∃u',(us.foldlM (if mx then Builtin.max2 else Builtin.min2) u:Sem iU).run P w = .ok u' w∧VR ρ v u'
 |[],us,x,u,v,hf,hr,hx=>by
  have:us=[]:=nK hr.1.symm;subst this;simp at hf;subst hf;exact⟨u,by simp,hx⟩
 |y::l,[],x,u,v,hf,hr,hx=>by have:=hr.1;simp at this
 | y::l,u2::us,x,u,v,hf,hr,hx=>by
  simp only[List.foldlM_cons,wN,iO]at hf;obtain⟨m,h1,h2⟩:=hf;unfold PN at h1
  split at h1
  ·split at h1
   ·rename_i hk;subst hk;obtain rfl:=iK h1;have hy:=hr.head;cases hx;cases hy;obtain⟨u',e1,e2⟩:=WJ h2 hr.tail (VR.i _ _);refine⟨u',?_,e2⟩;cases mx<;>simpa[Builtin.max2,Builtin.min2]using e1
   ·cases h1
  ·cases h1
theorem WK{o:Oper}{xs:Array iT}{nt:Array iA}{vs:List gE}{v:gE}{mx:Bool}(ho:o.op = .call { callee:=.builtin (if mx then .max else .min),args:=xs,argTypes:=nt })(r:Rel ρ h w)(hE:mj ρ env a)(hl:pN env xs.toList=some vs)(hv:Ly mx vs=some v) :
  jQ P ρ h w a o v h:=by
 have hr:=HI hE hl;have D4:(xs.map a.eval).toList=xs.toList.map a.eval:=by simp
 generalize xs.toList.map a.eval=us at hr D4;unfold Ly at hv;cases vs with
 |nil=>cases hv
 | cons x l =>
  cases us with
  |nil=>have:=hr.1;simp at this
  |cons u us =>
   obtain⟨u',e1,e2⟩:=WJ (P:=P) (w:=w) hv hr.tail hr.head;refine jQ.val r (GB ho (u:=.value u') ?_) e2;cases mx
   ·simp only[sY,if_false]at e1 ⊢;simp only[builtin,Builtin.min_,D4,jq,e1,jA,jP]
   ·simp only[if_true]at e1 ⊢;simp only[builtin,Builtin.max_,D4,jq,e1,jA,jP]
end
end Go.V
end
section
namespace Go.V
section
variable{P:iY}{ρ:Ren}{h:Hp}{w:jb}{env:Env}{a:Act}
theorem Rel.aeG(r:Rel ρ h w):Rel (ρ.put h.next ⟨w.heap.size,0,0,0,0⟩) (h.new (.map [])) (w.alloc (.map #[] 0))∧Ext ρ h w (ρ.put h.next ⟨w.heap.size,0,0,0,0⟩) (h.new (.map [])) (w.alloc (.map #[] 0)):=by
 have FR:=r.free;have hle:=Ren.Ed (ρ:=ρ) (b:=h.next) ⟨w.heap.size,0,0,0,0⟩ FR;have mE:∀b i,(ρ.put h.next ⟨w.heap.size,0,0,0,0⟩) b=some i→(b=h.next∧i=⟨w.heap.size,0,0,0,0⟩)∨(b≠h.next∧ρ b=some i):=λb i e=>by
  unfold Ren.put at e
  split at e
  ·rename_i hb;exact .inl ⟨hb,(iK e).symm⟩
  ·rename_i hb;exact .inr ⟨hb,e⟩
 have hold:∀g,g<w.heap.size→(w.alloc (.map #[] 0)).heap[g]? =w.heap[g]?:=λg hg=>by
  show(w.heap.push _)[g]? =_;rw[Db,if_neg (R7 hg)]
 have pj:(w.alloc (.map #[] 0)).heap[w.heap.size]? =some (.map #[] 0):=by
  show(w.heap.push _)[w.heap.size]? =_;rw[Db,if_pos rfl]
 refine⟨⟨λb i e=>?_,λb i B e f=>?_,λb b' i i' e e' l l' hg=>?_,λk hk=>by
   have om:h.next+1≤k:=hk;rw[Hp.lI,if_neg (by omega)];exact r.wf k (by omega)⟩,hle,vN _,λb hb hl=>⟨?_,?_⟩,by simp,λg hg hn=>⟨hold g hg,λb i e q=>?_⟩,rfl,rfl,rfl,jg _⟩
 ·rcases mE b i e with⟨rfl,rfl⟩|⟨_,e⟩
  ·exact⟨xF _,by simp⟩
  ·have:=r.nv b i e;exact⟨E9 this.1,by simp;omega⟩
 ·rcases mE b i e with⟨rfl,rfl⟩|⟨hb,e⟩
  ·rw[Hp.lI,if_pos rfl]at f;obtain rfl:=iK f;exact⟨#[],0,pj,rfl,λj k v hj=>by simp at hj⟩
  ·rw[Hp.lI,if_neg hb]at f;exact(r.kG b i B e f).congr hle (hold _ (r.nv b i e).2)
 ·have lv:∀(p:mA→Bool)b,b≠h.next→has p (h.new (.map [])) b→has p h b:=λp b hb ⟨B,a,q⟩=>⟨B,by rw[Hp.lI,if_neg hb]at a;exact a,q⟩
  rcases mE b i e with⟨rfl,rfl⟩|⟨hb,e⟩<;>rcases mE b' i' e' with⟨rfl,rfl⟩|⟨jM,e'⟩
  ·rfl
  ·have:=(r.nv b' i' e').2;simp only at hg;omega
  ·have:=(r.nv b i e).2;simp only at hg;omega
  ·exact r.inj b b' i i' e e' (lv _ b hb l) (lv _ b' jM l') hg
 ·unfold Ren.put;rw[if_neg (by omega)];exact hb
 ·rw[Hp.lI,if_neg (by omega)]
 ·rcases mE b i e with⟨rfl,rfl⟩|⟨hb,e⟩
  ·simp;omega
  ·obtain⟨B,q1,q2⟩:=q;exact hn b i e ⟨B,by rw[Hp.lI,if_neg hb]at q1;exact q1,q2⟩
theorem Rel.Wz(r:Rel ρ h w){b:Nat}{i:Info}{es es':List (gE×gE)}{en':Array B7}{ck':Nat}(hb:ρ b=some i)(hg:h.get b=some (.map es))(hlen:en'.size=es'.length)(hr:∀(j:Nat)(k v:gE),es'[j]? =some (k,v) → ∃e:B7,en'[j]? =some e∧VR ρ k e.key∧VR ρ v e.val) :
  Rel ρ (h.set b (.map es')) { w with heap:=w.heap.setIfInBounds i.g (.map en' ck') }∧Ext ρ h w ρ (h.set b (.map es')) { w with heap:=w.heap.setIfInBounds i.g (.map en' ck') }:=by
 have hd:=r.nv b i hb;have hold:∀g,g≠i.g→(w.heap.setIfInBounds i.g (.map en' ck'))[g]? =w.heap[g]?:=λg hg=>by
  rw[zH,if_neg (λe=>hg e.symm)]
 have pj:(w.heap.setIfInBounds i.g (.map en' ck'))[i.g]? =some (.map en' ck'):=by
  rw[zH,if_pos rfl,if_pos hd.2]
 have lv:∀(p:mA→Bool),p (.map es')=p (.map es) → ∀k,has p (h.set b (.map es')) k→has p h k:=λp hp k ⟨B,q1,q2⟩=>by
  rw[Hp.jv]at q1
  split at q1
  ·rename_i e;subst e;obtain rfl:=iK q1;exact⟨_,hg,by rw[←hp];exact q2⟩
  ·exact⟨B,q1,q2⟩
 refine⟨⟨λb' i' e=>by have:=r.nv b' i' e;exact⟨this.1,by simpa using this.2⟩,λb' i' B' e f=>?_,λb1 b2 i1 i2 e1 e2 l1 l2=>r.inj b1 b2 i1 i2 e1 e2 (lv _ rfl _ l1) (lv _ rfl _ l2),λk hk=>by
   have om:h.next≤k:=hk;rw[Hp.jv,if_neg (by omega)];exact r.wf k om⟩,Ren.le.refl _,jg _,λb' jM hl=>⟨jM,?_⟩,by simp,λg pV hn=>⟨hold g (λe=>hn b i hb ⟨_,hg,rfl⟩ e.symm),λb' i' e q=>hn b' i' e (lv _ rfl _ q)⟩,rfl,rfl,rfl,jg _⟩
 ·rw[Hp.jv]at f
  split at f
  ·rename_i e2;subst e2;rw[hb]at e;obtain rfl:=iK e;obtain rfl:=iK f;exact⟨en',ck',pj,hlen,hr⟩
  ·rename_i pU;have hB:=r.kG b' i' B' e f;cases B' with
   |dead=>trivial
   |cells z c=>exact hB.congr (Ren.le.refl _) (hold _ (λeg=>pU (r.inj b' b i' i e hb ⟨_,f,by simp⟩ ⟨_,hg,by simp⟩ eg)))
   |ro c=>exact hB.congr (Ren.le.refl _) (hold _ (λeg=>pU (r.inj b' b i' i e hb ⟨_,f,by simp⟩ ⟨_,hg,by simp⟩ eg)))
   |map es=>exact hB.congr (Ren.le.refl _) (hold _ (λeg=>pU (r.inj b' b i' i e hb ⟨_,f,by simp⟩ ⟨_,hg,by simp⟩ eg)))
 ·rw[Hp.jv,if_neg (λe=>by rw[e,hb]at jM;cases jM)]
theorem agI{kt:iA}{d:tF}{k k':gE}{u u':iU}(hd:P.underlying kt=some d)(h1:pO P kt k=true)(h2:pO P kt k'=true)(v1:VR ρ k u)(v2:VR ρ k' u'):Rr d u u'=some (uQ k k'):=by
 unfold pO at h1
 split at h1
 ·rename_i j q n hu;rw[hu]at hd;obtain rfl:=iK hd;unfold pO at h2;rw[hu]at h2
  split at h2
  ·rename_i j2 q2 n2 e1;obtain rfl:j=j2:=by injection e1 with e1;injection e1
   cases v1;cases v2;have a1:q=j:=by simpa using h1
   have a2:q2=j:=by simpa using h2
   subst a1;subst a2;simp[Rr,uQ,uG]
  ·rename_i e1;cases e1
  ·rename_i e1;cases e1
  ·cases h2
 ·rename_i s hu;rw[hu]at hd;obtain rfl:=iK hd;unfold pO at h2;rw[hu]at h2
  split at h2
  ·rename_i e1;cases e1
  ·cases v1;cases v2;simp only[Rr,oF,uQ,uG,beq_toListBytes,Me]
  ·rename_i e1;cases e1
  ·cases h2
 ·rename_i s hu;rw[hu]at hd;obtain rfl:=iK hd;unfold pO at h2;rw[hu]at h2
  split at h2
  ·rename_i e1;cases e1
  ·rename_i e1;cases e1
  ·cases v1;cases v2;rfl
  ·cases h2
 ·cases h1
theorem agH{kt:iA}{k k':gE}{u u':iU}(h1:pO P kt k=true)(h2:pO P kt k'=true)(v1:VR ρ k u)(v2:VR ρ k' u')(he:uQ k k'=true)(n:Nat):MF n u' u=true:=by
 cases v1<;>first|(simp[uQ,uG]at he;done)|skip
 all_goals(cases v2<;>first|(simp[uQ,uG]at he;done)|skip)
 ·simp only[uQ,uG,beq_iff_eq]at he;subst he;simp[MF]
 ·simp only[uQ,uG,jK,beq_iff_eq]at he;obtain⟨rfl,rfl⟩:=he;simp[MF]
 ·simp only[uQ,uG,beq_iff_eq]at he;subst he;simp only[MF,oF,beq_toListBytes];simp
theorem TB{kt:iA}{k:gE}{u:iU}(h1:pO P kt k=true)(v1:VR ρ k u)(e:Bool)(n:Nat)(w:jb):(Jv e (n+1) kt u).run P w = .ok () w:=by
 unfold pO at h1
 split at h1
 ·cases v1;rw[Jv];simp[j7 (by assumption)]
 ·cases v1;rw[Jv];simp[j7 (by assumption),oF]
 ·cases v1;rw[Jv];simp[j7 (by assumption)]
 ·cases h1
theorem T1{kt:iA}{d:tF}{k:gE}{u:iU}(hd:P.underlying kt=some d)(h1:pO P kt k=true)(v1:VR ρ k u):∀(es:List (gE×gE))(en:List B7)(i:Nat),en.length=es.length→(es.all λe=>pO P kt e.1)=true →
  (∀(j:Nat)(k v:gE),es[j]? =some (k,v) → ∃e:B7,en[j]? =some e∧VR ρ k e.key∧VR ρ v e.val) →
  (td k es=none∧Jx d u en i=some none ∧ ∀x,uW k x es=es++[(k,x)]) ∨ ∃j e v k',td k es=some v∧en[j]? =some e∧VR ρ v e.val∧Jx d u en i=some (some (i+j,e.val))∧es[j]? =some (k',v)∧uQ k k'=true∧pO P kt k'=true∧VR ρ k' e.key ∧ ∀x,uW k x es=es.set j (k,x):=by
 intro es
 induction es with
 |nil =>
  intro en i hl hk hr;have:en=[]:=nK hl;subst this;exact .inl ⟨rfl,rfl,λx=>rfl⟩
 | cons e es ih =>
  intro en i hl hk hr;obtain⟨k',v⟩:=e;cases en with
  |nil=>simp at hl
  | cons m en =>
   simp only[nJ,jK]at hk;obtain⟨m',hm,r1,r2⟩:=hr 0 k' v rfl;simp at hm;subst hm;have hs:=agI hd h1 hk.1 v1 r1;cases he:uQ k k' with
   |true =>
    refine .inr ⟨0,m,v,k',by simp[td,he],rfl,r2,by simp[Jx,hs,he],rfl,he,hk.1,r1,λx=>by simp[uW,he]⟩
   |false =>
    rcases ih en (i+1) (by simpa using hl) hk.2 (λj k v hj=>hr (j+1) k v (by simpa using hj))with⟨q1,q2,q3⟩|⟨j,e,v',k2,q1,q2,q3,q4,q5,q6,q7,q8,q9⟩
    ·exact .inl ⟨by simp[td,he,q1],by simp[Jx,hs,he,q2],λx=>by simp[uW,he,q3]⟩
    ·exact .inr ⟨j+1,e,v',k2,by simp[td,he,q1],by simpa using q2,q3,by simp[Jx,hs,he,q4];omega,by simpa using q5,q6,q7,q8,λx=>by simp[uW,he,q9]⟩
theorem Vq{kt:iA}{k:gE}(h1:pO P kt k=true):∃d,P.underlying kt=some d:=by
 unfold pO at h1
 split at h1<;>first|exact⟨_,by assumption⟩|cases h1
theorem aha{o:Oper}{t:iA}{x y:iT}{ok:Bool}{m k v:gE}(ho:o.op = .lookup t x y ok)(r:Rel ρ h w)(hE:mj ρ env a)(hx:jI env x=some m)(hy:jI env y=some k)(hv:CM P h t m k ok=some v):jQ P ρ h w a o v h:=by
 have v1:=mS hE hx;have v2:=mS hE hy;generalize qT:a.eval x=u1 at v1;generalize tk:a.eval y=u2 at v2;have lJ:∀{u:iU},(Rp t u1 u2 ok).run P w = .ok u w→(execOp a.eval o).run P w = .ok (.value u) w:=λh2=>by
  simp only[execOp,ho,qT,tk,jq,jA,h2,jP]
 unfold CM at hv
 split at hv
 ·rename_i kt vt jm
  split at hv
  ·rename_i hk;rw[iO]at hv;obtain⟨es,we,hv⟩:=hv;rw[iO]at hv;obtain⟨zero,hz,hv⟩:=hv;obtain⟨i,zu,i1,i2,i3⟩:=yD hz;have rQ:=yd (ρ:=ρ) i3;obtain⟨d,hd⟩:=Vq hk;have HX:=λe=>TB (P:=P) hk v2 e 9999 w;obtain⟨en,g1,g2,g3,g4⟩:∃en:Array B7,(u1 = .map none∧en = #[] ∨ ∃g ck,u1 = .map (some g)∧(getObj g).run P w = .ok (.map en ck) w)∧en.size=es.length∧(es.all λe=>pO P kt e.1)=true ∧
     (∀(j:Nat)(k v:gE),es[j]? =some (k,v) → ∃e:B7,en[j]? =some e∧VR ρ k e.key∧VR ρ v e.val):=by
    cases v1<;>simp only[km,reduceCtorEq]at we
    ·subst we;exact⟨#[],.inl ⟨rfl,rfl⟩,rfl,rfl,λj k v h=>by simp at h⟩
    ·rename_i r' i' hb
     split at we
     ·rename_i es' hg
      split at we
      ·rename_i nS;obtain rfl:=iK we;obtain⟨en,ck,m1,m2,m3⟩:=r.kG _ _ _ hb hg;exact⟨en,.inr ⟨_,ck,rfl,by simp[getObj,Dm,m1]⟩,m2,nS,m3⟩
      ·cases we
     ·cases we
   have OO:=T1 hd hk v2 es en.toList 0 (by simpa using g2) g3 (λj k v hj=>by obtain⟨e,a1,a2⟩:=g4 j k v hj;exact⟨e,by simpa using a1,a2⟩);obtain⟨q,hq⟩:∃q:gE×Bool,q=(match td k es with|some v=>(v,true)|none=>(zero,false)):=⟨_,rfl⟩
   have Io:∃u:iU,VR ρ q.1 u∧(do
     let es ←pure en
     Jv es.isEmpty 10000 kt u2
     let(v,ok') ←match←Jw kt u2 es.toList with
      |some (_,v)=>pure (v,true)
      |none=>pure (←zeroValue vt,false)
     pure (if ok then RE #[v,.bool ok']else v):Sem iU).run P w = .ok (if ok then RE #[u,.bool q.2]else u) w:=by
    rcases OO with⟨q1,q2,q3⟩|⟨j,e,v',k2,q1,q2,q3,q4,q5,q6,q7,q8,q9⟩
    ·rw[q1]at hq;subst hq;refine⟨zu,rQ,?_⟩;simp only[jq,jP,jA,HX,Jw,j7 hd w,q2,AH i1 i2 w]
    ·rw[q1]at hq;subst hq;refine⟨e.val,q3,?_⟩;simp only[jq,jP,jA,HX,Jw,j7 hd w,q4]
   obtain⟨u,hu,Io⟩:=Io;have BB:v=if ok then .kx [q.1,.b q.2]else q.1:=by rw[hq];exact(iK hv).symm
   refine jQ.val r (lJ (u:=if ok then RE #[u,.bool q.2]else u) ?_) ?_
   ·simp only[jq,jP,jA]at Io;rcases g1 with⟨rfl,rfl⟩|⟨g,ck,rfl,g1⟩
    ·simp only[Rp,jq,j7 jm w,jA,jP];exact Io
    ·simp only[Rp,jq,j7 jm w,jA,g1,jP];exact Io
   ·rw[BB];cases ok
    ·exact hu
    ·have h3:=(jc.nil (ρ:=ρ).cons (VR.b q.2)).cons hu;exact VR.kx h3.1 h3.2
  ·cases hv
 ·cases hv
end
end Go.V
end
section
namespace Go.V
section
variable{P:iY}{ρ:Ren}{h:Hp}{w:jb}{env:Env}{a:Act}
theorem ahe{o:Oper}{t:iA}{x y z:iT}{m k v:gE}{h':Hp}(ho:o.op = .mapUpdate t x y z)(r:Rel ρ h w)(hE:mj ρ env a)(hx:jI env x=some m)(hy:jI env y=some k)(hz:jI env z=some v)(hv:ID P h t m k v=some h'):jQ P ρ h w a o .no h':=by
 have v1:=mS hE hx;have v2:=mS hE hy;have v3:=mS hE hz;generalize qT:a.eval x=u1 at v1;generalize tk:a.eval y=u2 at v2;generalize hu3:a.eval z=u3 at v3;have lJ:∀{w':jb},(Rq t u1 u2 u3).run P w = .ok () w'→(execOp a.eval o).run P w = .ok .skip w':=λh2=>by
  simp only[execOp,ho,qT,tk,hu3,jq,jA,h2,jP]
 unfold ID at hv
 split at hv
 ·rename_i kt vt r' jm
  split at hv
  ·rename_i es hg
   split at hv
   ·rename_i hc;obtain⟨hk,nS⟩:=hc;obtain rfl:=iK hv;cases v1 with
    | m hb =>
     rename_i i';obtain⟨en,ck,m1,m2,m3⟩:=r.kG _ _ _ hb hg;obtain⟨d,hd⟩:=Vq hk;have HX:=λe=>TB (P:=P) hk v2 e 9999 w;have CD:(getObj i'.g).run P w = .ok (.map en ck) w:=by simp[getObj,Dm,m1]
     have Ir:∀(es:Array B7)(c:Nat),(setObj i'.g (.map es c)).run P w = .ok () { w with heap:=w.heap.setIfInBounds i'.g (.map es c) }:=λes c=>by simp[setObj,Dm,m1]
     rcases T1 hd hk v2 es en.toList 0 (by simpa using m2) nS (λj k v hj=>by obtain⟨e,a1,a2⟩:=m3 j k v hj;exact⟨e,by simpa using a1,a2⟩)with⟨q1,q2,q3⟩|⟨j,e,v',k2,q1,q2,q3,q4,q5,q6,q7,q8,q9⟩
     ·obtain⟨s1,s2⟩:=r.Wz (es':=uW k v es) (en':=en.push { key:=u2,val:=u3,born:=ck }) (ck':=ck+1) hb hg (by rw[q3];simp[m2]) (λj k' v' hj=>by
       rw[q3]at hj
       by_cases nT:j<es.length
       ·rw[mU nT]at hj;obtain⟨e,a1,a2⟩:=m3 j k' v' hj;exact⟨e,by rw[Db,if_neg (by omega)];exact a1,a2⟩
       ·rw[nq (by omega)]at hj;have hj0:j=es.length:=by
         have:=(kI.1 hj).1;simp at this;omega
        subst hj0;simp at hj;obtain⟨rfl,rfl⟩:=hj;exact⟨_,by rw[Db,if_pos m2.symm],v2,v3⟩)
      refine⟨ρ,_,_,undef,lJ ?_,.inr ⟨rfl,rfl⟩,VR.Gl,s1,s2⟩;simp only[Rq,jq,j7 jm w,jA,CD,HX,Jw,j7 hd w,q2,jP,Ir]
     ·rw[jn]at q4;have nT:=(kI.1 q5).1;have IT:en[j]? =some e:=by simpa using q2
      obtain⟨s1,s2⟩:=r.Wz (es':=uW k v es) (en':=en.modify j λe=>{ e with key:=u2,val:=u3 }) (ck':=ck) hb hg (by rw[q9];simp[m2]) (λj' k' v' hj=>by
       rw[q9,List.getElem?_set]at hj
       split at hj
       ·rename_i ej;subst ej;simp only[nT,if_true,km,jT]at hj;obtain⟨rfl,rfl⟩:=hj;exact⟨{ e with key:=u2,val:=u3 },by rw[zG,if_pos rfl,IT];rfl,v2,v3⟩
       ·rename_i ej;obtain⟨e',a1,a2⟩:=m3 j' k' v' hj;exact⟨e',by rw[zG,if_neg ej];exact a1,a2⟩)
      refine⟨ρ,_,_,undef,lJ ?_,.inr ⟨rfl,rfl⟩,VR.Gl,s1,s2⟩;have aco:(Instr.keyThatStays (((en[j]?).map (·.key)).getD u2) u2).run P w = .ok u2 w:=by
       simp only[IT,lE,sd,Instr.keyThatStays];rw[if_pos (agH hk q7 v2 q8 q6 10000)];rfl
      simp only[Rq,jq,j7 jm w,jA,CD,HX,Jw,j7 hd w,q4,jP,aco,Ir]
   ·cases hv
  ·cases hv
 ·cases hv
theorem ahc{o:Oper}{t:iA}{x:Option iT}{v:gE}{h':Hp}(ho:o.op = .makeMap t x)(r:Rel ρ h w)(hE:mj ρ env a)(hv:jz P env h o.op=some (v,h')):jQ P ρ h w a o v h':=by
 rw[ho]at hv;obtain⟨s1,s2⟩:=r.aeG;have pj:(newObj (.map #[] 0)).run P w = .ok w.heap.size (w.alloc (.map #[] 0)):=rfl;cases x with
 |none =>
  simp only[jz,km,jT]at hv;obtain⟨rfl,rfl⟩:=hv;refine⟨_,_,_,.map (some w.heap.size),?_,.inl rfl,VR.m (BT _ _),s1,s2⟩;simp only[execOp,ho,ME,Option.map_none,jq,jP,jA,pj]
 |some x =>
  simp only[jz]at hv;rw[iO]at hv;obtain⟨p,hp,hv⟩:=hv
  split at hv
  ·rename_i kt vt k n jm;simp only[km,jT]at hv;obtain⟨rfl,rfl⟩:=hv;have v1:=mS hE hp;generalize qT:a.eval x=u1 at v1;cases v1;refine⟨_,_,_,.map (some w.heap.size),?_,.inl rfl,VR.m (BT _ _),s1,s2⟩;simp only[execOp,ho,ME,lE,qT,asInt,asIntOf,jq,j7 jm w,jP,jA,pj]
  ·cases hv
theorem NG:∀{c:List gE}{us:List iU}{s:List UInt8},yO c=some s→jc ρ c us → ∃ns:List Int,us=ns.map (RC .u8)∧s=ns.map λn=>Fb n.toNat
 |[],us,s,hb,hr=>by
  have:us=[]:=nK hr.1.symm;subst this;simp[yO]at hb;subst hb;exact⟨[],rfl,rfl⟩
 |c::cs,[],s,hb,hr=>by have:=hr.1;simp at this
 |c::cs,u::us,s,hb,hr=>by
  unfold yO at hb
  split at hb
  ·cases‹c::cs=[]›
  ·rename_i n r' e1;injection e1 with e1 e2;subst e1;subst e2;obtain⟨l,h1,rfl⟩:=jR.1 hb;have h2:=hr.head;cases h2;obtain⟨ns,rfl,rfl⟩:=NG h1 hr.tail;exact⟨n::ns,rfl,rfl⟩
  ·cases hb
theorem Ue(g C1:Nat)(w:jb)(k:Nat)(hk:k≠g):(w.freeze ⟨g,C1,none⟩ 1).heap[k]? =w.heap[k]?:=by
 unfold ML;rw[if_neg (by decide)];simp only[zG];rw[if_neg (λe=>hk e.symm)]
theorem Ud{g lo hi:Nat}{C:Array iU}{e:iA}{w:jb}(hc:w.heap[g]? =some (.cells C e (lo,hi))):(w.freeze ⟨g,C.size,none⟩ 1).heap[g]? =some (.cells C e (if lo==hi then(C.size,C.size+1)else(min lo C.size,max hi (C.size+1)))):=by
 unfold ML;rw[if_neg (by decide)];simp only[zG,if_true,hc,lE]
theorem Uf(g C1:Nat)(w:jb):(w.freeze ⟨g,C1,none⟩ 1).heap.size=w.heap.size:=by
 unfold ML;rw[if_neg (by decide)];simp
theorem aaT(g C1:Nat)(w:jb):(w.freeze ⟨g,C1,none⟩ 1).os=w.os∧(w.freeze ⟨g,C1,none⟩ 1).tape=w.tape∧(w.freeze ⟨g,C1,none⟩ 1).output=w.output∧(w.freeze ⟨g,C1,none⟩ 1).drawn=w.drawn:=by
 unfold ML;rw[if_neg (by decide)];exact⟨rfl,rfl,rfl,rfl⟩
theorem Rel.mark(r:Rel ρ h w){b:Nat}{i:Info}(hb:ρ b=some i)(Bx:own h b)(mY:∀z c,h.get b=some (.cells z c)→z=1)(C:Array iU)(e:iA)(lo hi:Nat)(hc:w.heap[i.g]? =some (.cells C e (lo,hi))) :
  Rel ρ h (w.freeze ⟨i.g,C.size,none⟩ 1)∧Ext ρ h w ρ h (w.freeze ⟨i.g,C.size,none⟩ 1):=by
 obtain⟨o1,o2,o3,o4⟩:=aaT i.g C.size w;refine⟨⟨λb' i' e'=>by rw[Uf];exact r.nv b' i' e',λb' i' B' e' f=>?_,r.inj,r.wf⟩,Ren.le.refl _,jg _,λb' jM hl=>⟨jM,rfl⟩,by rw[Uf];exact jg _,λg hg hn=>⟨Ue _ _ _ _ (λe=>hn b i hb Bx e.symm),hn⟩,o1,o2,o3,by rw[o4];exact jg _⟩;have hB:=r.kG b' i' B' e' f
 by_cases hg:i'.g=i.g
 ·cases B' with
  |dead=>trivial
  | ro c =>
   obtain⟨h4,h6⟩:=hB;have y4:=Ud hc;have lP:∀o,(w.freeze ⟨i.g,C.size,none⟩ 1).cell? ⟨i'.g,o,none⟩=w.cell? ⟨i'.g,o,none⟩:=λo=>by
    simp only[uq,hg,y4,hc]
   exact⟨h4,λj u hj=>by rw[lP];exact h6 j u hj⟩
  |map es =>
   obtain⟨en,ck,h1,_⟩:=hB;rw[hg,hc]at h1;cases h1
  | cells z c =>
   obtain⟨h1,h2,h3,h4,h5,h6⟩:=hB;have y4:=Ud hc;have lP:∀o,(w.freeze ⟨i.g,C.size,none⟩ 1).cell? ⟨i'.g,o,none⟩=w.cell? ⟨i'.g,o,none⟩:=λo=>by
    simp only[uq,hg,y4,hc]
   have hN:∀o,o<i'.N→o<C.size:=λo ho=>by
    have:=(h5.1 o ho).1;simp only[uq,hg,hc]at this;simpa using this
   have H4:=h5.2.1 C e (lo,hi) (by rw[hg];exact hc);refine⟨h1,h2,h3,h4,⟨λo ho=>⟨by rw[lP];exact(h5.1 o ho).1,?_⟩,⟨λc' e2 fz hf=>?_,λo u hq=>by rw[lP]at hq;exact h5.2.2.1 o u hq,λqU=>absurd (mY z c (by rw[←r.inj b' b i' i e' hb ⟨_,f,by simp⟩ Bx hg];exact f)) qU⟩⟩,λj u hj=>by rw[lP];exact h6 j u hj⟩
   ·have kK:=(h5.1 o ho).2;have hos:=hN o ho;simp only[ET,hg,y4]
    by_cases UO:lo=hi
    ·simp[UO];omega
    ·have jB:lo<hi:=by simp only at H4;omega
     have aja:¬lo<i'.N:=λhq=>by
      have:=(h5.1 lo hq).2;simp[ET,hg,hc,jB]at this
     have:(lo==hi)=false:=by simpa using UO
     rw[this];simp;omega
   ·rw[hg,y4]at hf;obtain⟨_,_,rfl⟩:=JA (iK hf);simp only at H4
    split
    ·simp
    ·simp only;omega
 ·exact hB.congr (Ren.le.refl _) (Ue _ _ _ _ hg)
theorem Xo{e:iA}(hq:GK P e=true):P.underlying e=some (.int .u8):=by
 unfold GK at hq
 split at hq
 ·assumption
 ·cases hq
theorem ag0{o:Oper}{s d:iA}{x:iT}{p v:gE}{h':Hp}(ho:o.op = .convert s d x)(r:Rel ρ h w)(hE:mj ρ env a)(hx:jI env x=some p)(hv:qQ P h s d p=some (v,h')):jQ P ρ h w a o v h':=by
 have v1:=mS hE hx;generalize qT:a.eval x=u1 at v1;have lJ:∀{u:iU}{w':jb},(convert s d u1).run P w = .ok u w'→(execOp a.eval o).run P w = .ok (.value u) w':=λh2=>by
  simp only[execOp,ho,qT,jq,jA,h2,jP]
 unfold qQ at hv
 split at hv
 ·rename_i ds k k' n hs hd;simp only[km,jT]at hv;obtain⟨rfl,rfl⟩:=hv;cases v1;refine jQ.val r (lJ (u:=.int k (k.wrap n)) ?_) (VR.i _ _);cases ds<;>simp[convert,j7 hs,j7 hd,Conv.intToInt]
 ·rename_i ds sx hs hd;simp only[km,jT]at hv;obtain⟨rfl,rfl⟩:=hv;cases v1;refine jQ.val r (lJ (u:=oF sx) ?_) (VR.s _);cases ds<;>simp[convert,j7 hs,j7 hd,oF]
 ·rename_i e sx hs hd
  split at hv
  ·rename_i he
   split at hv
   ·cases hv
   ·rename_i jw;cases v1;have Il:=run_bytes_of_string (P:=P) w s d e ⟨sx.toArray⟩ hs hd he;have uP:(⟨sx.toArray⟩:ByteArray).size=sx.length:=by simp[AP]
    have te:=JF w sx.length 0 e;unfold ru at hv
    split at hv
    ·rename_i h1;simp only[km,jT]at hv;obtain⟨rfl,rfl⟩:=hv;rw[uP]at Il;have vA:(bytesRow ⟨sx.toArray⟩ (grownCap w sx.length 0 e)).toList=sx.map (λc=>RC .u8 c.toNat)++iV (grownCap w sx.length 0 e-sx.length) (.int .u8 0):=by
      simp[bytesRow,uP]
     have hlen:(bytesRow ⟨sx.toArray⟩ (grownCap w sx.length 0 e)).size=grownCap w sx.length 0 e:=by
      rw[←Mv,vA];simp;omega
     obtain⟨s1,s2⟩:=r.drew.PT (z:=1) (cs:=(bytesRow ⟨sx.toArray⟩ (grownCap w sx.length 0 e)).toList) (e:=e) (fz:=((bytesRow ⟨sx.toArray⟩ (grownCap w sx.length 0 e)).size,(bytesRow ⟨sx.toArray⟩ (grownCap w sx.length 0 e)).size+1)) (by simp) (by simp) (λq=>absurd rfl q) h1 Tc (by have q:=hlen;rw[←Mv]at q;rw[q];simpa using te) (by
      rw[vA,sH,E7 (by simp)];refine⟨by simp,λj u u' p q=>?_⟩;simp only[sF,jR]at p q;obtain⟨b,p1,rfl⟩:=p;obtain⟨b',q1,rfl⟩:=q;rw[p1]at q1;obtain rfl:=iK q1;exact .i _ _)
     rw[xy]at s1 s2;refine⟨_,_,_,_,lJ Il,.inl rfl,?_,s1,(Ext.drew ρ h w).trans s2⟩;have:=VR.so (ρ:=ρ.put h.next ⟨w.heap.size,0,1,(sx.map λc=>gE.i .u8 c.toNat).length,(bytesRow ⟨sx.toArray⟩ (grownCap w sx.length 0 e)).toList.length⟩) (b:=h.next) (o:=0) (len:=sx.length) (c:=grownCap w sx.length 0 e) (BT _ _) te (by simp;exact te) (by simp[hlen]);simpa using this
    ·cases hv
  ·cases hv
 ·rename_i e1 e2 ad n c hs hd
  split at hv
  ·rename_i cc0 he1 H0 uK;simp only[km,jT]at hv;obtain⟨rfl,rfl⟩:=hv;have key:∀(b off cc:Nat)(i':Info),ρ b=some i'→own h b→(∀z c,h.get b=some (.cells z c)→z=1)→u1 = .slice (some ⟨i'.g,i'.base+off,none⟩) n cc→VR ρ (.sl (some ad) n c) u1→jQ P ρ h w a o (.sl (some ad) n c) h:=λb off cc i' hb Bx mY e1 Pg=>by
    subst e1;have hc:∀{w':jb},(markStringish ⟨i'.g,i'.base+off,none⟩).run P w = .ok () w'→(convert s d (.slice (some ⟨i'.g,i'.base+off,none⟩) n cc)).run P w = .ok (.slice (some ⟨i'.g,i'.base+off,none⟩) n cc) w':=λhm=>by
     simp only[convert,jq,j7 hs w,j7 hd w,jA,j7 H0 w,he1,hm,jP]
    cases hw:w.heap[i'.g]? with
    |none =>
     refine jQ.val r (lJ (hc ?_)) Pg;simp[markStringish,shape,Dm,JE,hw]
    | some ob =>
     cases ob with
     |cells C e fz =>
      obtain⟨lo,hi⟩:=fz;obtain⟨s1,s2⟩:=r.mark hb Bx mY C e lo hi hw;refine⟨ρ,_,_,_,lJ (hc (w':=w.freeze ⟨i'.g,C.size,none⟩ 1) ?_),.inl rfl,Pg,s1,s2⟩;simp[markStringish,shape,Dm,JE,hw,freeze]
     |_ =>
      refine jQ.val r (lJ (hc ?_)) Pg;simp[markStringish,shape,Dm,JE,hw]
   have La:=v1;cases v1 with
   |sk hb hk=>exact key _ _ _ _ hb ⟨_,uK,rfl⟩ (λz c q=>by rw[uK]at q;cases q;rfl) rfl La
   |so hb hk q1 q2=>exact key _ _ _ _ hb ⟨_,uK,rfl⟩ (λz c q=>by rw[uK]at q;cases q;rfl) rfl La
  ·cases hv
 ·rename_i e1 n c hs hd
  split at hv
  case isFalse=>cases hv
  rename_i Pd;have he:=Xo Pd;simp only[km,jT]at hv;obtain⟨rfl,rfl⟩:=hv;obtain⟨rfl,rfl,rfl⟩:=Lp v1;refine jQ.val r (lJ (u:=oF []) ?_) (VR.s _);rw[RF w s d _ _ 0 0 hs he hd];rfl
 ·rename_i e1 hs hd
  split at hv
  case isFalse=>cases hv
  rename_i Pd;have he:=Xo Pd;simp only[km,jT]at hv;obtain⟨rfl,rfl⟩:=hv;cases v1;rename_i ad c;refine jQ.val r (lJ (u:=oF []) ?_) (VR.s _);rw[RF w s d _ _ 0 c hs he hd,run_bytesToString w ad 0 c [] (by simp[loadCells,loadCellsFrom])];rfl
 ·rename_i e1 b off n c hs hd
  split at hv
  ·rename_i he;rw[iO]at hv;obtain⟨cs,mX,hv⟩:=hv;obtain⟨bs,Uv,hv⟩:=jR.1 hv;simp only[jT]at hv;obtain⟨rfl,rfl⟩:=hv;have key:∀(cc:Nat)(i':Info),ρ b=some i'→u1 = .slice (some ⟨i'.g,i'.base+off,none⟩) n cc→jQ P ρ h w a o (.s bs) h:=λcc i' hb e1=>by
    subst e1;obtain⟨us,f1,f2⟩:∃us,jc ρ cs us∧(loadCells ⟨i'.g,i'.base+off,none⟩ n).run P w = .ok us.toArray w:=by
     split at mX
     ·rename_i h0;obtain rfl:=iK mX;subst h0;exact⟨[],jc.nil,by simp[loadCells,loadCellsFrom]⟩
     ·obtain⟨_,us,g1,g2,g3⟩:=r.rd hb mX;exact⟨us,g1,by rw[←g2];exact L3 g3⟩
    obtain⟨ns,rfl,rfl⟩:=NG Uv f1;refine jQ.val r (lJ (u:=oF (ns.map λn=>Fb n.toNat)) ?_) (VR.s _);rw[RF w s d _ _ n cc hs he hd,run_bytesToString w _ n cc ns f2,foldl_push_bytes];simp[oF,ByteArray.empty,ByteArray.emptyWithCapacity];rfl
   cases v1 with
   |sk hb hk=>exact key _ _ hb rfl
   |so hb hk q1 q2=>exact key _ _ hb rfl
  ·cases hv
 ·cases hv
theorem WM{o:Oper}{v:gE}{h':Hp}(r:Rel ρ h w)(hE:mj ρ env a)(hv:jz P env h o.op=some (v,h')):jQ P ρ h w a o v h':=by
 have lK:=hv;generalize ho:o.op=op at hv;cases op<;>simp only[jz,reduceCtorEq]at hv
 case move x =>
  obtain⟨u,h1,h2⟩:=jR.1 hv;simp only[jT]at h2;obtain⟨rfl,rfl⟩:=h2;exact WL (.inl ho) r hE h1
 case assign x =>
  obtain⟨u,h1,h2⟩:=jR.1 hv;simp only[jT]at h2;obtain⟨rfl,rfl⟩:=h2;exact WL (.inr ho) r hE h1
 case pick c x y =>
  rw[iO]at hv;obtain⟨p,hp,hv⟩:=hv
  split at hv
  ·obtain⟨u,h1,h2⟩:=jR.1 hv;simp only[jT]at h2;obtain⟨rfl,rfl⟩:=h2;exact WO (t:=true) ho r hE hp h1
  ·obtain⟨u,h1,h2⟩:=jR.1 hv;simp only[jT]at h2;obtain⟨rfl,rfl⟩:=h2;exact WO (t:=false) ho r hE hp h1
  ·cases hv
 case alloc e =>
  rw[iO]at hv;obtain⟨z,hz,hv⟩:=hv;exact agR ho r hz hv
 case box e x =>
  rw[iO]at hv;obtain⟨z,hz,hv⟩:=hv;exact agV ho r hE hz hv
 case build t ps =>
  rw[iO]at hv;obtain⟨qs,hq,hv⟩:=hv;obtain⟨u,h1,h2⟩:=jR.1 hv;simp only[jT]at h2;obtain⟨rfl,rfl⟩:=h2;exact agW ho r hE hq h1
 case buildSlice t n ps =>
  rw[iO]at hv;obtain⟨qs,hq,hv⟩:=hv;exact agX ho r hE hq hv
 case load t x =>
  rw[iO]at hv;obtain⟨p,hp,hv⟩:=hv;obtain⟨u,h1,h2⟩:=jR.1 hv;simp only[jT]at h2;obtain⟨rfl,rfl⟩:=h2;exact ag9 ho r hE hp h1
 case store t x y =>
  rw[iO]at hv;obtain⟨p,hp,hv⟩:=hv;rw[iO]at hv;obtain⟨q,hq,hv⟩:=hv;obtain⟨u,h1,h2⟩:=jR.1 hv;simp only[jT]at h2;obtain⟨rfl,rfl⟩:=h2;exact ahi ho r hE hp hq h1
 case nilCheck x =>
  rw[iO]at hv;obtain⟨p,hp,hv⟩:=hv
  split at hv
  ·cases hv
  ·cases hv
  ·cases hv
  ·rename_i n1 n2 n3;simp only[km,jT]at hv;obtain⟨rfl,rfl⟩:=hv;exact ahg ho r hE hp n1 n2 n3
 case binOp op t x y t2 =>
  rw[iO]at hv;obtain⟨p,hp,hv⟩:=hv;rw[iO]at hv;obtain⟨q,hq,hv⟩:=hv;obtain⟨u,h1,h2⟩:=jR.1 hv;simp only[jT]at h2;obtain⟨rfl,rfl⟩:=h2;exact agU ho r hE hp hq h1
 case unOp op t x =>
  rw[iO]at hv;obtain⟨p,hp,hv⟩:=hv;obtain⟨u,h1,h2⟩:=jR.1 hv;simp only[jT]at h2;obtain⟨rfl,rfl⟩:=h2;exact ahm ho r hE hp h1
 case convert s d x =>
  rw[iO]at hv;obtain⟨p,hp,hv⟩:=hv;exact ag0 ho r hE hp hv
 case sliceToArrayPointer t x =>
  rw[iO]at hv;obtain⟨p,hp,hv⟩:=hv
  split at hv
  ·split at hv
   ·split at hv
    ·rename_i hk;simp only[km,jT]at hv;obtain⟨rfl,rfl⟩:=hv;exact ahl ho r hE hp (by assumption) hk
    ·cases hv
   ·cases hv
  ·cases hv
 case makeFunc f first rH =>
  cases f with
  |func f =>
   simp only at hv
   split at hv
   ·rename_i hf;obtain⟨u,h1,h2⟩:=jR.1 hv;simp only[jT]at h2;obtain⟨rfl,rfl⟩:=h2;exact ahb ho r hE hf h1
   ·cases hv
  |_=>simp at hv
 case makeMap t x=>exact ahc ho r hE lK
 case makeSlice t x y =>
  rw[iO]at hv;obtain⟨p,hp,hv⟩:=hv;rw[iO]at hv;obtain⟨q,hq,hv⟩:=hv;exact ahd ho r hE hp hq hv
 case slice t x lo hi mx =>
  rw[iO]at hv;obtain⟨p,hp,hv⟩:=hv;rw[iO]at hv;obtain⟨q1,O3,hv⟩:=hv;rw[iO]at hv;obtain⟨q2,By,hv⟩:=hv;rw[iO]at hv;obtain⟨q3,O4,hv⟩:=hv;obtain⟨u,h1,h2⟩:=jR.1 hv;simp only[jT]at h2;obtain⟨rfl,rfl⟩:=h2;exact ahh ho r hE hp O3 By O4 h1
 case fieldAddr s x f =>
  rw[iO]at hv;obtain⟨p,hp,hv⟩:=hv
  split at hv
  ·rw[iO]at hv;obtain⟨fd,hf,hv⟩:=hv;rw[iO]at hv;obtain⟨n,hn,hv⟩:=hv
   split at hv
   ·rename_i h0;simp only[km,jT]at hv;obtain⟨rfl,rfl⟩:=hv;exact ag4 ho r hE hp hf hn h0
   ·cases hv
  ·cases hv
 case field s x f =>
  rw[iO]at hv;obtain⟨p,hp,hv⟩:=hv
  split at hv
  ·rw[iO]at hv;obtain⟨fd,hf,hv⟩:=hv;obtain⟨u,h1,h2⟩:=jR.1 hv;simp only[jT]at h2;obtain⟨rfl,rfl⟩:=h2;exact ag3 ho r hE hp hf h1
  ·cases hv
 case indexAddr t x y =>
  rw[iO]at hv;obtain⟨p,hp,hv⟩:=hv;rw[iO]at hv;obtain⟨q,hq,hv⟩:=hv;obtain⟨u,h1,h2⟩:=jR.1 hv;simp only[jT]at h2;obtain⟨rfl,rfl⟩:=h2;exact ag7 ho r hE hp hq h1
 case index t x y =>
  rw[iO]at hv;obtain⟨p,hp,hv⟩:=hv;rw[iO]at hv;obtain⟨q,hq,hv⟩:=hv;obtain⟨u,h1,h2⟩:=jR.1 hv;simp only[jT]at h2;obtain⟨rfl,rfl⟩:=h2;exact ag6 ho r hE hp hq h1
 case lookup t m k ok =>
  rw[iO]at hv;obtain⟨p,hp,hv⟩:=hv;rw[iO]at hv;obtain⟨q,hq,hv⟩:=hv;obtain⟨u,h1,h2⟩:=jR.1 hv;simp only[jT]at h2;obtain⟨rfl,rfl⟩:=h2;exact aha ho r hE hp hq h1
 case mapUpdate t m k x =>
  rw[iO]at hv;obtain⟨p,hp,hv⟩:=hv;rw[iO]at hv;obtain⟨q,hq,hv⟩:=hv;rw[iO]at hv;obtain⟨s,hs,hv⟩:=hv;obtain⟨u,h1,h2⟩:=jR.1 hv;simp only[jT]at h2;obtain⟨rfl,rfl⟩:=h2;exact ahe ho r hE hp hq hs h1
 case extract x i =>
  rw[iO]at hv;obtain⟨p,hp,hv⟩:=hv
  split at hv
  ·obtain⟨u,h1,h2⟩:=jR.1 hv;simp only[jT]at h2;obtain⟨rfl,rfl⟩:=h2;exact ag2 ho r hE hp h1
  ·cases hv
 case call c =>
  obtain⟨Bb,args,nt⟩:=c;cases Bb with
  |builtin b =>
   simp only at hv;rw[iO]at hv;obtain⟨l,hl,hv⟩:=hv;unfold qO at hv
   split at hv
   ·exact agT ho r hE hl hv
   ·exact ag1 ho r hE hl hv
   ·exact agZ ho r hE hl hv
   ·obtain⟨u,h1,h2⟩:=jR.1 hv;simp only[jT]at h2;obtain⟨rfl,rfl⟩:=h2;exact ag8 ho r hE hl h1
   ·obtain⟨u,h1,h2⟩:=jR.1 hv;simp only[jT]at h2;obtain⟨rfl,rfl⟩:=h2;exact agY ho r hE hl h1
   ·obtain⟨u,h1,h2⟩:=jR.1 hv;simp only[jT]at h2;obtain⟨rfl,rfl⟩:=h2;exact WK (mx:=true) ho r hE hl h1
   ·obtain⟨u,h1,h2⟩:=jR.1 hv;simp only[jT]at h2;obtain⟨rfl,rfl⟩:=h2;exact WK (mx:=false) ho r hE hl h1
   ·cases hv
  |_=>simp at hv
end
end Go.V
end
section
namespace Go.V
def FK:Ex→Exit
 | .mZ=>.normal
 | .ext i=>.exit i
 | .ret=>.ret
def LU(R:iU→jb→Prop):Ending→jb→Prop
 | .returned v,w=>R v w
 |_,_=>False
def M3(P:iY)(f:nI)(args:Array iU)(w:jb)(R:iU→jb→Prop):Prop :=
 ((callFunc f args).run P w = .ok (.enter f args) w∧GS P f args w (LU R)) ∨ ∃v w',(callFunc f args).run P w = .ok (.value v) w'∧R v w'
def vO(P:iY)(K:Tb):Prop:=∀f args h M,K f args h M → ∀ρ w nP,Rel ρ h w→jc ρ args nP→M3 P f nP.toArray w λv' w'=>∃v h' ρ',M v h'∧VR ρ' v v'∧Rel ρ' h' w'∧Ext ρ h w ρ' h' w'
structure rD(Q:Out→Prop)(ρ:Ren)(h:Hp)(w:jb)(n:Nat)(e:Exit)(a':Act)(w':jb):Prop where
 ex:∃e0 lr h' ρ',e=FK e0∧Q (.code e0 lr h')∧Rel ρ' h' w'∧mj ρ' lr a'∧Ext ρ h w ρ' h' w'
 defers:a'.defers=[]
 size:a'.tmps.size=n
structure rE(ρ:Ren)(env:Env)(h:Hp)(n:Nat)(a:Act)(w:jb):Prop where
 rel:Rel ρ h w
 env:mj ρ env a
 defers:a.defers=[]
 size:a.tmps.size=n
theorem rE.put{ρ env h n a w}(s:rE ρ env h n a w){d:Option Tmp}(hd:∀x,d=some x→x<n){v:gE}{u:iU}(hv:VR ρ v u):rE ρ (uU env d v) h n (a.put d u) w:=by
 cases d with
 |none=>exact s
 | some d =>
  have hd:=hd d rfl;refine⟨s.rel,λt x hx=>?_,s.defers,by simp[AQ,s.size]⟩;simp only[uU,T.jv]at hx;simp only[AQ,tC,zH]
  split at hx
  ·rename_i e;subst e;obtain rfl:=iK hx;rw[if_pos rfl,if_pos (by rw[s.size];exact hd)];exact hv
  ·rename_i e;rw[if_neg (λq=>e q.symm)];have:=s.env t x hx
   rwa[tC]at this
theorem rE.pE{ρ env h n a w ρ' h' w'}(s:rE ρ env h n a w)(r:Rel ρ' h' w')(e:Ext ρ h w ρ' h' w'):rE ρ' env h' n a w':=⟨r,s.env.mono e.le,s.defers,s.size⟩
theorem FI{n:Nat}{A:List Oper}(h:uF n A=true){i:Nat}(hi:i<A.length):∀x,(ir A i).dst=some x→x<n:=by
 intro x hx;have hm:ir A i∈A:=by
  unfold ir;rw[pR,jx hi];exact jF hi
 have:=j9.1 h _ hm;rw[hx]at this;simpa using this
theorem CU{A:List Oper}{i:Nat}(hi:i<A.length):A[i]? =some (ir A i):=by
 unfold ir;rw[pR,jx hi];rfl
theorem ED{ρ env h n a w}{A:List Oper}{o:Oper}{t:Bool}(s:rE ρ env h n a w)(hd:uF n A=true)(hw:sE A env o=some t):Region.wanted o (yielded A.toArray a.tmps)=t:=by
 unfold sE at hw;unfold Region.wanted
 split at hw
 ·rename_i hg;rw[hg];exact iK hw
 ·rename_i j want hg;rw[hg];simp only;cases hA:A[j]? with
  |none=>simp[hA]at hw
  | some oj =>
   cases tR:oj.dst with
   |none=>simp[hA,tR]at hw
   | some d =>
    simp only[hA,jy,tR]at hw;have hj:j<A.length:=(kI.1 hA).1;have jB:d<a.tmps.size:=by
     rw[s.size];refine FI hd hj d ?_;rw[←tR];congr 1;have:=CU hj;rw[hA]at this;exact(iK this).symm
    have hy:∀u,a.tmps.getD d undef=u→a.tmps[d]? =some u:=λu hu=>by
     rw[tC,Rb jB]at hu;rw[Rb jB];simpa using hu
    unfold yielded;simp only[AT,hA,jy,tR]
    split at hw
    ·rename_i x hx;have hv:=s.env d _ hx;obtain rfl:=iK hw;generalize hq:a.tmps.getD d undef=q at hv;cases hv;rw[hy _ hq];cases x<;>cases want<;>rfl
    ·rename_i hx;have hv:=s.env d _ hx;obtain rfl:=iK hw;generalize hq:a.tmps.getD d undef=q at hv;cases hv;rw[hy _ hq];cases want<;>rfl
    ·cases hw
theorem VX(o:Oper)(a:Act){r:Next}{u:iU}(h:r = .value u∨(r = .skip∧u=undef)){P:iY}{K:Act→jb→Prop}{Q:Exit→Act→jb→Prop}{w':jb}(hk:K (a.put o.dst u) w'):o.upon P a K Q (.ok r w'):=by
 rcases h with rfl|⟨rfl,rfl⟩<;>exact hk
section
variable{P:iY}{K:Tb}{ρ:Ren}{h:Hp}{w:jb}{env:Env}{a:Act}{n:Nat}
theorem ahk{o:Oper}{f:nI}{vs:List gE}(s:rE ρ env h n a w)(ht:uk env o.op=some (f,vs)):∃nP,jc ρ vs nP∧(execOp a.eval o).run P w=(callFunc f nP.toArray).run P w:=by
 unfold uk at ht
 split at ht
 ·rename_i x args nt ho;rw[iO]at ht;obtain⟨p,hp,ht⟩:=ht;have hv:=mS s.env hp
  split at ht
  ·rename_i g rH;obtain⟨l,hl,ht⟩:=jR.1 ht;simp only[jT]at ht;obtain⟨rfl,rfl⟩:=ht;have hr:=HI s.env hl;generalize hu:a.eval x=u at hv;cases hv with
   |f h1 h2 =>
    rename_i us;refine⟨args.toList.map a.eval++us,hr.append ⟨h1,h2⟩,?_⟩;have e1:(args.toList.map a.eval++us).toArray=args.map a.eval++us.toArray:=by apply wC;simp
    rw[e1];simp only[execOp,ho,resolve,hu,Deferred.ofValue,jq,jP,jA,invoke]
    congr 3
    simp
  ·cases ht
 ·cases ht
theorem L4{f:nI}{fn:Func}{c:Code}(hf:P.funcs[f]? =some fn)(hb:fn.body=some c)(hn:fn.name ≠ "runtime.NumGoroutine")(args:Array iU)(w:jb):(callFunc f args).run P w = .ok (.enter f args) w:=by
 unfold callFunc;simp only[jq,RG,jA,hf];rw[if_neg (by simpa using hn),if_neg (by simp[hb])];rfl
theorem Yv:∀(vs:List gE)(i:Nat)(env:Env)(t:Nat)(v:gE),(DC i vs env).get t=some v→(i≤t∧vs[t-i]? =some v)∨env.get t=some v:=by
 intro vs
 induction vs with
 |nil=>intro i env t v h;exact .inr h
 | cons u us ih =>
  intro i env t v h;rcases ih (i+1) (env.set i u) t v h with⟨h1,h2⟩|h1
  ·exact .inl ⟨by omega,by rw[show t-i=(t-(i+1))+1 by omega];simpa using h2⟩
  ·rw[T.jv]at h1
   split at h1
   ·rename_i e;subst e;exact .inl ⟨jg _,by simpa using h1⟩
   ·exact .inr h1
theorem aaD{args:List gE}{nP:List iU}(r:Rel ρ h w)(hr:jc ρ args nP)(hl:args.length≤n):rE ρ (DC 0 args .lf) h n { tmps:=nP.toArray++Mw (n-nP.toArray.size) undef,defers:=[] } w:=by
 have Ak:=hr.1;refine⟨r,λt v hv=>?_,rfl,by simp;omega⟩;rcases Yv args 0 .lf t v hv with⟨_,h1⟩|h1
 ·obtain⟨u,a1,a2⟩:=hr.at h1;have jB:=(kI.1 a1).1;simp only[zS]at a1 jB;rw[tC,Array.getElem?_append_left (by simpa using jB)];simp[a1,a2]
 ·simp[T.get]at h1
theorem agF(s:rE ρ env h n a w)(f:Dl→Sem iU)(CB:∀t,f (.tmp t)=pure (a.tmps.getD t undef))(FQ:∀x t,f (.cell x t)=(do loadVar t (←asAddr (a.tmps.getD x undef)))):∀{rs:List Dl}{vs:List gE},wy P env h rs=some vs → ∃us,jc ρ vs us∧(rs.mapM f).run P w = .ok us w:=by
 intro rs
 induction rs with
 |nil=>intro vs hv;simp[wy]at hv;subst hv;exact⟨[],jc.nil,by simp⟩
 | cons r rs ih =>
  intro vs hv;cases r with
  |tmp t =>
   simp only[wy]at hv;rw[iO]at hv;obtain⟨v,h1,hv⟩:=hv;obtain⟨l,h2,rfl⟩:=jR.1 hv;obtain⟨us,g1,g2⟩:=ih h2;exact⟨_,g1.cons (s.env t v h1),by simp only[qa,CB,jq,jP,jA,g2]⟩
  | cell x t =>
   simp only[wy]at hv;rw[iO]at hv;obtain⟨p,h1,hv⟩:=hv;rw[iO]at hv;obtain⟨v,h3,hv⟩:=hv;obtain⟨l,h2,rfl⟩:=jR.1 hv;obtain⟨us,g1,g2⟩:=ih h2;have hp:=s.env x p h1;generalize hu:a.tmps.getD x undef=q at hp;cases hp with
   |p hb =>
    obtain⟨u,e1,e2⟩:=Vv s.rel h3 hb;exact⟨_,g1.cons e2,by simp only[qa,FQ,jq,jP,jA,hu,asAddr,e1,g2]⟩
   |_=>simp[tt]at h3
def Gr:List iU→iU
 |[v]=>v
 |vs=>.tuple vs.toArray
theorem VO{vs:List gE}{us:List iU}(hr:jc ρ vs us):VR ρ (zq vs) (Gr us):=by
 match vs,us,hr with
 |[v],[u],hr=>exact hr.head
 |[],[],hr=>exact VR.Gl
 |_::_::_,_::_::_,hr=>exact VR.kx hr.1 hr.2
 |[],_::_,hr=>exact absurd hr.1 (by simp)
 |_::_,[],hr=>exact absurd hr.1 (by simp)
 |[_],_::_::_,hr=>exact absurd hr.1 (by simp)
 |_::_::_,[_],hr=>exact absurd hr.1 (by simp)
theorem agE{fn:Func}(s:rE ρ env h n a w){vs:List gE}(hv:wy P env h fn.results.toList=some vs):∃us,jc ρ vs us∧(results fn a.tmps).run P w = .ok (Gr us) w:=by
 have key:∀f:Dl→Sem iU,(∀t,f (.tmp t)=pure (a.tmps.getD t undef))→(∀x t,f (.cell x t)=(do loadVar t (←asAddr (a.tmps.getD x undef)))) →
   ∃us,jc ρ vs us∧(do let vs ←fn.results.mapM f;pure (if h:vs.size=1 then vs[0]else .tuple vs):Sem iU).run P w = .ok (Gr us) w:=λf h1 h2=>by
  obtain⟨us,g1,g2⟩:=agF s f h1 h2 hv;refine⟨us,g1,?_⟩;rw[jq,←xy (xs:=fn.results),List.mapM_toArray,Sem.run_map,g2];simp only[jA,jP]
  match us with
  |[]=>simp[Gr]
  |[v]=>simp[Gr]
  |v::u::r=>simp[Gr]
 unfold results;exact key _ (λt=>rfl) (λx t=>rfl)
end
end Go.V
end
section
namespace Go.V
def vl(A:List Oper)(j i:Nat):Prop:=∃e∈(ir A j).after.toList,Dk .any e=true∧e.on=i
def sQ(A:List Oper)(j i:Nat):Prop:=((qN A []).getD j 0).testBit i=true
def bitsOf(o:Oper)(acc:List Nat):Nat:=o.after.toList.foldl (λs e=>if Dk .any e then s ||| 2^e.on ||| acc.getD e.on 0 else s) 0
theorem Y1(acc:List Nat)(i:Nat):∀(l:List Edge)(s:Nat),(l.foldl (λs e=>if Dk .any e then s ||| 2^e.on ||| acc.getD e.on 0 else s) s).testBit i=true→s.testBit i=true ∨ ∃e∈l,Dk .any e=true∧(e.on=i∨(acc.getD e.on 0).testBit i=true):=by
 intro l
 induction l with
 |nil=>intro s h;exact .inl h
 | cons e l ih =>
  intro s h;rcases ih _ h with h|⟨e',he,hb⟩
  ·simp only at h
   split at h
   ·rename_i hb;rw[Nat.testBit_or,Nat.testBit_or,rW,rW,Nat.testBit_two_pow]at h;rcases h with(h|h)|h
    ·exact .inl h
    ·exact .inr ⟨e,by simp,hb,.inl (by simpa using h)⟩
    ·exact .inr ⟨e,by simp,hb,.inr h⟩
   ·exact .inl h
  ·exact .inr ⟨e',by simp[he],hb⟩
theorem Yr:∀(A:List Oper)(acc:List Nat),(qN A acc).take acc.length=acc∧(qN A acc).length=acc.length+A.length ∧ ∀k o,A[k]? =some o→(qN A acc).getD (acc.length+k) 0=bitsOf o ((qN A acc).take (acc.length+k)):=by
 intro A
 induction A with
 |nil=>intro acc;exact⟨by simp[qN],by simp[qN],λk o h=>by simp at h⟩
 | cons o A ih =>
  intro acc;obtain⟨h1,h2,h3⟩:=ih (acc++[bitsOf o acc]);have e0:qN (o::A) acc=qN A (acc++[bitsOf o acc]):=rfl;rw[e0];have hlen:(acc++[bitsOf o acc]).length=acc.length+1:=by simp
  rw[hlen]at h1 h2 h3;have ht:(qN A (acc++[bitsOf o acc])).take acc.length=acc:=by
   have:=congrArg (List.take acc.length) h1;rw[List.take_take,Nat.min_eq_left (by omega),E7]at this
   ·exact this
   ·rfl
  refine⟨ht,by simp at h2 ⊢;omega,λk x hk=>?_⟩;cases k with
  | zero =>
   simp at hk;subst hk;rw[sZ,ht];have:(qN A (acc++[bitsOf o acc]))[acc.length]? =some (bitsOf o acc):=by
    have h:=congrArg (·[acc.length]?) h1;simp only[oc]at h;rw[if_pos (by omega)]at h;rw[h];simp
   rw[pR,this];rfl
  |succ k =>
   have:=h3 k x (by simpa using hk);rw[show acc.length+(k+1)=acc.length+1+k by omega];exact this
theorem Yq{A:List Oper}{j i:Nat}(h:sQ A j i):j<A.length ∧ ∃k,vl A j k∧(k=i∨(k<j∧sQ A k i)):=by
 obtain⟨_,h2,h3⟩:=Yr A [];unfold sQ at h;have hj:j<A.length:=by
  rcases G7 j A.length with q|q
  ·exact q
  ·rw[pR,zN (by rw[h2];simpa using q)]at h;simp at h
 refine⟨hj,?_⟩;have h4:=h3 j _ (CU hj);simp only[List.length_nil,jn]at h4;rw[h4]at h;rcases Y1 _ i _ 0 h with h|⟨e,he,hb,h⟩
 ·simp at h
 ·refine⟨e.on,⟨e,he,hb,rfl⟩,?_⟩;rcases h with h|h
  ·exact .inl h
  ·right
   rw[pR,oc]at h
   split at h
   ·rename_i jB;exact⟨jB,by unfold sQ;rw[pR];exact h⟩
   ·simp at h
theorem Ba{A:List Oper}{D:Nat→Prop}(hc:∀j,D j → ∀k,vl A j k→D k):∀(j i:Nat),(∀k,vl A j k→D k)→sQ A j i→D i:=by
 intro j
 induction j using Nat.strongRecOn with
 |_ j ih =>
  intro i hr h;obtain⟨_,k,h1,h2⟩:=Yq h;rcases h2 with rfl|⟨h2,h3⟩
  ·exact hr k h1
  ·exact ih k h2 i (λk' h'=>hc k (hr k h1) k' h') h3
structure zT(A:List Oper)(n:Nat):Prop where
 dst:uF n A=true
 uniq:∀i j d,i<A.length→j<A.length→i≠j→(ir A i).dst=some d→(ir A j).dst≠some d
 self:∀i d,i<A.length→(ir A i).dst=some d→d∉looks A (ir A i)
 rw:∀i j d,i<A.length→j<A.length→i≠j→(ir A i).dst=some d→d∈looks A (ir A j)→sQ A j i∨sQ A i j
structure At(P:iY)(A:List Oper)(dn:List Nat)(i:Nat)(rest:List Nat):Prop where
 lt:i<A.length
 out:i∉dn
 ajz:i∉rest
 DP:∀k,vl A i k→k∈dn
 guard:∀g w,(ir A i).guard=some (g,w)→g∈dn∧sQ A i g
 mL:kz P (ir A i).op = .mL → ∀r∈rest,sQ A r i
theorem El{P:iY}{A:List Oper}{dn:List Nat}{i:Nat}{rest:List Nat}(h:CS P A (qN A []) dn (i::rest)=true):At P A dn i rest∧CS P A (qN A []) (i::dn) rest=true ∧
  ∀d,(ir A i).dst=some d→d∉looks A (ir A i) ∧ ∀j,j∈rest∨j∈dn→(ir A j).dst≠some d∧(d∈looks A (ir A j)→sQ A j i∨sQ A i j):=by
 simp only[CS,jK]at h;obtain⟨⟨⟨⟨⟨⟨⟨h1,h2⟩,h3⟩,h4⟩,h5⟩,h6⟩,h7⟩,h8⟩:=h;refine⟨⟨by simpa using h3,by simpa using h1,by simpa using h2,λk ⟨e,he,hb,hk⟩=>?_,λg w hg=>?_,λhk r hr=>?_⟩,h8,λd hd=>?_⟩
 ·have:=j9.1 h4 e he;rw[hb]at this;simp at this;rw[←hk];exact this
 ·rw[hg]at h5;simp only[jK]at h5;exact⟨by simpa using h5.1,h5.2⟩
 ·simp only[hk,decide_true,nH,nG]at h6;exact j9.1 h6 r hr
 ·rw[hd]at h7;simp only[jK]at h7;refine⟨by simpa using h7.1,λj hj=>?_⟩;have:=j9.1 h7.2 j (by simpa using hj);simp only[jK,rW,tE]at this;refine⟨by simpa using this.1,λhl=>?_⟩;rcases this.2 with(h|h)|h
  ·simp at h;exact absurd hl h
  ·exact .inl h
  ·exact .inr h
theorem aeY{P:iY}{A:List Oper}:∀(L dn:List Nat),CS P A (qN A []) dn L=true→(∀i,i<A.length→i∈L∨i∈dn) → ∀i,i∈L→i<A.length ∧ ∀d,(ir A i).dst=some d→d∉looks A (ir A i) ∧ ∀j,j<A.length→j≠i→(ir A j).dst≠some d∧(d∈looks A (ir A j)→sQ A j i∨sQ A i j):=by
 intro L
 induction L with
 |nil=>intro dn _ _ i hi;cases hi
 | cons x L ih =>
  intro dn h hc i hi;obtain⟨h1,h2,h3⟩:=El h;rcases lM.1 hi with rfl|hi
  ·refine⟨h1.lt,λd hd=>⟨(h3 d hd).1,λj hj jw=>(h3 d hd).2 j ?_⟩⟩;rcases hc j hj with q|q
   ·rcases lM.1 q with rfl|q
    ·exact absurd rfl jw
    ·exact .inl q
   ·exact .inr q
  ·exact ih (x::dn) h2 (λj hj=>by
    rcases hc j hj with q|q
    ·rcases lM.1 q with rfl|q
     ·exact .inr (by simp)
     ·exact .inl q
    ·exact .inr (by simp[q])) i hi
theorem aeZ{P:iY}{A:List Oper}{L:List Nat}{n:Nat}(hd:uF n A=true)(h:CT P A L=true):zT A n∧CS P A (qN A []) [] L=true ∧ ∀i,i<A.length→i∈L:=by
 unfold CT at h;simp only[jK]at h;obtain⟨h1,h2⟩:=h;have DX:∀i,i<A.length→i∈L:=λi hi=>by
  have:=j9.1 h1 i (MV.2 hi);simpa using this
 have hg:=aeY L [] h2 (λi hi=>.inl (DX i hi));refine⟨⟨hd,λi j d hi hj jw tR=>?_,λi d hi tR=>((hg i (DX i hi)).2 d tR).1,λi j d hi hj jw tR hl=>?_⟩,h2,DX⟩
 ·exact(((hg i (DX i hi)).2 d tR).2 j hj (λe=>jw e.symm)).1
 ·exact(((hg i (DX i hi)).2 d tR).2 j hj (λe=>jw e.symm)).2 hl
end Go.V
end
section
namespace Go.V
section
variable{P:iY}{ρ:Ren}{h h':Hp}{w:jb}{env:Env}{a:Act}
theorem qW{α:Type}{x:Option α}{v:α}(hv:x.map (λv=>(v,h))=some (v,h')):x=some v∧h'=h:=by
 obtain⟨u,h1,h2⟩:=jR.1 hv;simp only[jT]at h2;obtain⟨rfl,rfl⟩:=h2;exact⟨h1,rfl⟩
theorem aas{s d:iA}{p v:gE}(hk:Bi P s d = .pure)(hv:qQ P h s d p=some (v,h')):h'=h ∧ ∀h2,qQ P h2 s d p=some (v,h2):=by
 unfold Bi at hk;unfold qQ at hv
 split at hv
 ·rename_i ds k k' n hs hd;simp only[km,jT]at hv;obtain⟨rfl,rfl⟩:=hv;exact⟨rfl,λh2=>by simp only[qQ,hs,hd]⟩
 ·rename_i ds sx hs hd;simp only[km,jT]at hv;obtain⟨rfl,rfl⟩:=hv;exact⟨rfl,λh2=>by simp only[qQ,hs,hd]⟩
 ·rename_i hs hd;simp[hs,hd]at hk
 ·rename_i hs hd;simp[hs,hd]at hk
 ·rename_i hs hd;simp[hs,hd]at hk
 ·rename_i hs hd;simp[hs,hd]at hk
 ·rename_i hs hd;simp[hs,hd]at hk
 ·cases hv
theorem aef{ts:List iA}{x v:gE}(hk:Gi P ts = .pure)(hv:Ar P h ts x=some v)(h2:Hp):Ar P h2 ts x=some v:=by
 unfold Ar at hv ⊢;rw[iO]at hv ⊢;obtain⟨t,ht,hv⟩:=hv;refine⟨t,ht,?_⟩
 split at hv<;>first|(cases hv;done)|skip
 all_goals(try rename_i jm)
 all_goals first
  |(simp only[jm];exact hv)
  |skip
 all_goals(
  cases ts with
  |nil=>simp at ht
  |cons t0 ts =>
   simp at ht;subst ht;simp[Gi]at hk;simp_all)
theorem Ps{op:Op}{v:gE}(hk:kz P op = .pure)(hv:jz P env h op=some (v,h')):h'=h ∧ ∀h2,jz P env h2 op=some (v,h2):=by
 cases op<;>simp only[jz,reduceCtorEq]at hv<;>simp only[kz,reduceCtorEq]at hk
 case move x =>
  obtain⟨hw,rfl⟩:=qW hv;exact⟨rfl,λh2=>by simp only[jz,hw,lE]⟩
 case assign x =>
  obtain⟨hw,rfl⟩:=qW hv;exact⟨rfl,λh2=>by simp only[jz,hw,lE]⟩
 case pick c x y =>
  rw[iO]at hv;obtain⟨p,hp,hv⟩:=hv
  split at hv
  ·obtain⟨hw,rfl⟩:=qW hv;exact⟨rfl,λh2=>by simp only[jz,hp,jy,hw,lE]⟩
  ·obtain⟨hw,rfl⟩:=qW hv;exact⟨rfl,λh2=>by simp only[jz,hp,jy,hw,lE]⟩
  ·cases hv
 case build t ps =>
  rw[iO]at hv;obtain⟨q,hq,hv⟩:=hv;obtain⟨hw,rfl⟩:=qW hv;exact⟨rfl,λh2=>by simp only[jz,hq,jy,hw,lE]⟩
 case nilCheck x =>
  rw[iO]at hv;obtain⟨p,hp,hv⟩:=hv
  split at hv
  ·cases hv
  ·cases hv
  ·cases hv
  ·rename_i n1 n2 n3;simp only[km,jT]at hv;obtain⟨rfl,rfl⟩:=hv;refine⟨rfl,λh2=>?_⟩;simp only[jz,hp,jy]
 case binOp op t x y t2 =>
  rw[iO]at hv;obtain⟨p,hp,hv⟩:=hv;rw[iO]at hv;obtain⟨q,hq,hv⟩:=hv;obtain⟨hw,rfl⟩:=qW hv;exact⟨rfl,λh2=>by simp only[jz,hp,hq,jy,hw,lE]⟩
 case unOp op t x =>
  rw[iO]at hv;obtain⟨p,hp,hv⟩:=hv;obtain⟨hw,rfl⟩:=qW hv;exact⟨rfl,λh2=>by simp only[jz,hp,jy,hw,lE]⟩
 case convert s d x =>
  rw[iO]at hv;obtain⟨p,hp,hv⟩:=hv;obtain⟨rfl,hq⟩:=aas hk hv;exact⟨rfl,λh2=>by simp only[jz,hp,jy,hq h2]⟩
 case sliceToArrayPointer t x =>
  rw[iO]at hv;obtain⟨p,hp,hv⟩:=hv
  split at hv
  ·split at hv
   ·rename_i jm
    split at hv
    ·rename_i DY;simp only[km,jT]at hv;obtain⟨rfl,rfl⟩:=hv;exact⟨rfl,λh2=>by simp only[jz,hp,jy,jm,DY,if_true]⟩
    ·cases hv
   ·cases hv
  ·cases hv
 case makeFunc f first rH =>
  cases f with
  |func f =>
   simp only at hv
   split at hv
   ·rename_i hf;obtain⟨l,h1,h2⟩:=jR.1 hv;simp only[jT]at h2;obtain⟨rfl,rfl⟩:=h2;exact⟨rfl,λh2=>by simp only[jz,hf,if_true,h1,lE]⟩
   ·cases hv
  |_=>simp at hv
 case fieldAddr s x f =>
  rw[iO]at hv;obtain⟨p,hp,hv⟩:=hv
  split at hv
  ·rw[iO]at hv;obtain⟨fd,hf,hv⟩:=hv;rw[iO]at hv;obtain⟨m,hm,hv⟩:=hv
   split at hv
   ·rename_i h0;simp only[km,jT]at hv;obtain⟨rfl,rfl⟩:=hv;exact⟨rfl,λh2=>by simp only[jz,hp,jy,hf,hm,h0,if_true]⟩
   ·cases hv
  ·cases hv
 case field s x f =>
  rw[iO]at hv;obtain⟨p,hp,hv⟩:=hv
  split at hv
  ·rw[iO]at hv;obtain⟨fd,hf,hv⟩:=hv;obtain⟨hw,rfl⟩:=qW hv;exact⟨rfl,λh2=>by simp only[jz,hp,jy,hf,hw,lE]⟩
  ·cases hv
 case indexAddr t x y =>
  rw[iO]at hv;obtain⟨p,hp,hv⟩:=hv;rw[iO]at hv;obtain⟨q,hq,hv⟩:=hv;obtain⟨hw,rfl⟩:=qW hv;exact⟨rfl,λh2=>by simp only[jz,hp,hq,jy,hw,lE]⟩
 case index t x y =>
  rw[iO]at hv;obtain⟨p,hp,hv⟩:=hv;rw[iO]at hv;obtain⟨q,hq,hv⟩:=hv;obtain⟨hw,rfl⟩:=qW hv;exact⟨rfl,λh2=>by simp only[jz,hp,hq,jy,hw,lE]⟩
 case extract x i =>
  rw[iO]at hv;obtain⟨p,hp,hv⟩:=hv
  split at hv
  ·obtain⟨hw,rfl⟩:=qW hv;exact⟨rfl,λh2=>by simp only[jz,hp,jy,hw,lE]⟩
  ·cases hv
 case slice t x lo hi mx =>
  rw[iO]at hv;obtain⟨p,hp,hv⟩:=hv;rw[iO]at hv;obtain⟨q1,O3,hv⟩:=hv;rw[iO]at hv;obtain⟨q2,By,hv⟩:=hv;rw[iO]at hv;obtain⟨q3,O4,hv⟩:=hv;obtain⟨hl,rfl⟩:=qW hv;exact⟨rfl,λh2=>by simp only[jz,hp,O3,By,O4,jy,hl,lE]⟩
 case call c =>
  obtain⟨Bb,args,nt⟩:=c;cases Bb with
  |builtin b =>
   simp only at hv;rw[iO]at hv;obtain⟨l,hl,hv⟩:=hv;unfold qO at hv
   split at hv
   ·simp[kz]at hk
   ·simp[kz]at hk
   ·simp[kz]at hk
   ·obtain⟨hw,rfl⟩:=qW hv;simp only[kz]at hk;exact⟨rfl,λh2=>by simp only[jz,hl,jy,qO,aef hk hw h2,lE]⟩
   ·obtain⟨hw,rfl⟩:=qW hv;exact⟨rfl,λh2=>by simp only[jz,hl,jy,qO,hw,lE]⟩
   ·obtain⟨hw,rfl⟩:=qW hv;exact⟨rfl,λh2=>by simp only[jz,hl,jy,qO,hw,lE]⟩
   ·obtain⟨hw,rfl⟩:=qW hv;exact⟨rfl,λh2=>by simp only[jz,hl,jy,qO,hw,lE]⟩
   ·cases hv
  |_=>simp at hv
def Hp.wf(h:Hp):Prop:=∀b,h.next≤b→h.get b=none
theorem KM(hw:h.wf){b:Nat}{X B:mA}(hb:h.get b=some X):(h.new B).get b=some X:=by
 rw[Hp.lI,if_neg]
 ·exact hb
 ·intro e;rw[e,hw _ (jg _)]at hb;cases hb
theorem Ql(hw:h.wf){B:mA}{b o m:Nat}{c:List gE}(hr:rd h b o m=some c):rd (h.new B) b o m=some c:=by
 unfold rd at hr ⊢
 split at hr
 ·rename_i hg;rw[KM hw hg];exact hr
 ·rename_i hg;rw[KM hw hg];exact hr
 ·cases hr
theorem aed(hw:h.wf){B:mA}{t:iA}{p v:gE}(hr:tt P h t p=some v):tt P (h.new B) t p=some v:=by
 unfold tt at hr ⊢
 split at hr
 ·rename_i b o;rw[iO]at hr ⊢;obtain⟨g,hg,hr⟩:=hr;refine⟨g,hg,?_⟩;cases g with
  |true =>
   simp only[cond_true]at hr ⊢;rw[iO]at hr ⊢;obtain⟨m,hm,hr⟩:=hr;obtain⟨c,h1,h2⟩:=jR.1 hr;exact⟨m,hm,by rw[Ql hw h1];simpa using h2⟩
  |false =>
   simp only[cond_false]at hr ⊢;rw[iO]at hr ⊢;obtain⟨c,h1,h2⟩:=hr;exact⟨c,Ql hw h1,h2⟩
 ·cases hr
end
end Go.V
end
section
namespace Go.V
section
variable{P:iY}{ρ:Ren}{h h':Hp}{w:jb}{env env2:Env}{a:Act}
theorem aei(hw:h.wf){B:mA}{t:iA}{m k v:gE}{ok:Bool}(hr:CM P h t m k ok=some v):CM P (h.new B) t m k ok=some v:=by
 unfold CM at hr ⊢
 split at hr
 ·rename_i kt vt jm
  split at hr
  ·rename_i hk;simp only[hk,if_true];rw[iO]at hr ⊢;obtain⟨es,we,hr⟩:=hr;refine⟨es,?_,hr⟩
   split at we
   ·exact we
   ·split at we
    ·rename_i hg;simp only[KM hw hg];exact we
    ·cases we
   ·cases we
  ·cases hr
 ·cases hr
theorem Pt{op:Op}{v:gE}(hk:kz P op = .read)(hv:jz P env h op=some (v,h')):h'=h ∧ ∀B,h.wf→jz P env (h.new B) op=some (v,h.new B):=by
  cases op<;>simp only[jz,reduceCtorEq]at hv<;>simp only[kz,reduceCtorEq]at hk
  case load t x =>
    rw[iO]at hv;obtain⟨p,hp,hv⟩:=hv;obtain⟨hl,rfl⟩:=qW hv;exact⟨rfl,λB hw=>by simp only[jz,hp,jy,aed hw hl,lE]⟩
  case lookup t m k ok =>
    rw[iO]at hv;obtain⟨p,hp,hv⟩:=hv;rw[iO]at hv;obtain⟨q,hq,hv⟩:=hv;obtain⟨hl,rfl⟩:=qW hv;exact⟨rfl,λB hw=>by simp only[jz,hp,hq,jy,aei hw hl,lE]⟩
  case convert s d x =>
    rw[iO]at hv;obtain⟨p,hp,hv⟩:=hv;have key:h'=h ∧ ∀B,h.wf→qQ P (h.new B) s d p=some (v,h.new B):=by
      unfold Bi at hk;unfold qQ at hv
      split at hv
      · rename_i ds k k' n hs hd
        simp only[km,jT]at hv;obtain⟨rfl,rfl⟩:=hv;exact⟨rfl,λB hw=>by simp only[qQ,hs,hd]⟩
      · rename_i ds sx hs hd
        simp only[km,jT]at hv;obtain⟨rfl,rfl⟩:=hv;exact⟨rfl,λB hw=>by simp only[qQ,hs,hd]⟩
      · rename_i hs hd;simp[hs,hd]at hk
      · rename_i hs hd;simp[hs,hd]at hk
      · rename_i hs hd
        split at hv
        · rename_i hu
          simp only[km,jT]at hv;obtain⟨rfl,rfl⟩:=hv;exact⟨rfl,λB hw=>by simp only[qQ,hs,hd,hu,if_true]⟩
        · cases hv
      · rename_i hs hd
        split at hv
        · rename_i hu
          simp only[km,jT]at hv;obtain⟨rfl,rfl⟩:=hv;exact⟨rfl,λB hw=>by simp only[qQ,hs,hd,hu,if_true]⟩
        · cases hv
      · rename_i e b o n c hs hd
        split at hv
        · rename_i he
          rw[iO]at hv;obtain⟨cs,mX,hv⟩:=hv;obtain⟨hb,rfl⟩:=qW (v:=v) (by
            obtain⟨u,h1,h2⟩:=jR.1 hv;show((yO cs).map gE.s).map (λv=>(v,h))=some (v,h');rw[h1];simpa using h2)
          refine⟨rfl,λB hw=>?_⟩;simp only[qQ,hs,hd,he];rw[iO];refine⟨cs,?_,?_⟩
          · split at mX
            · rename_i h0;rw[if_pos h0];exact mX
            · rename_i h0;rw[if_neg h0];exact Ql hw mX
          · obtain⟨u,h1,rfl⟩:=jR.1 hb
            rw[h1];rfl
        · cases hv
      · cases hv
    exact⟨key.1,λB hw=>by simp only[jz,hp,jy,key.2 B hw]⟩
  case call c =>
    obtain⟨Bb,args,nt⟩:=c;cases Bb with
    | builtin b =>
      simp only at hv;rw[iO]at hv;obtain⟨l,hl,hv⟩:=hv;unfold qO at hv
      split at hv
      · simp[kz]at hk
      · simp[kz]at hk
      · simp[kz]at hk
      · obtain⟨hq,rfl⟩:=qW hv
        rename_i x;refine⟨rfl,λB hw=>?_⟩;have:Ar P (h'.new B) nt.toList x=some v:=by
          unfold Ar at hq ⊢;rw[iO]at hq ⊢;obtain⟨t,ht,hq⟩:=hq;refine⟨t,ht,?_⟩
          split at hq<;>first|(cases hq;done)|skip
          all_goals first
            |(simp_all;done)
            | (split at hq
               · rename_i hg
                 have pV:=KM (B:=B) hw hg;simp_all
               · cases hq)
            | (split at hq
               · simp_all
               · cases hq)
        simp only[jz,hl,jy,qO,this,lE]
      · obtain⟨hq,rfl⟩:=qW hv
        exact⟨rfl,λB hw=>by simp only[jz,hl,jy,qO,hq,lE]⟩
      · obtain⟨hq,rfl⟩:=qW hv
        exact⟨rfl,λB hw=>by simp only[jz,hl,jy,qO,hq,lE]⟩
      · obtain⟨hq,rfl⟩:=qW hv
        exact⟨rfl,λB hw=>by simp only[jz,hl,jy,qO,hq,lE]⟩
      · cases hv
    |_=>simp at hv
def tmpsOf(op:Op):List Tmp:=op.operands.toList.filterMap λ | .tmp t=>some t|_=>none
theorem HJ{x:iT}(he:∀t,x = .tmp t→env.get t=env2.get t):jI env x=jI env2 x:=by
 cases x with
 |tmp t=>exact he t rfl
 |_=>rfl
theorem TX{l:List iT}(he:∀t,Operand.tmp t∈l→env.get t=env2.get t):pN env l=pN env2 l:=by
 unfold pN
 induction l with
 |nil=>rfl
 |cons x l ih =>
  rw[qa,qa,HJ (env2:=env2) λt e=>he t (by simp[e]),ih λt ht=>he t (by simp[ht])]
theorem aaE{l:List (Nat×iT)}(he:∀t,Operand.tmp t∈l.map (·.2)→env.get t=env2.get t):uH env l=uH env2 l:=by
 unfold uH
 induction l with
 |nil=>rfl
 |cons x l ih =>
  rw[qa,qa,HJ (env2:=env2) λt e=>he t (by simp[e]),ih λt ht=>he t (by simp at ht ⊢;exact .inr ht)]
theorem aaF{x:Option iT}(he:∀t,x=some (.tmp t)→env.get t=env2.get t):vp env x=vp env2 x:=by
 cases x with
 |none=>rfl
 |some x=>simp only[vp];rw[HJ (env2:=env2) λt e=>he t (by rw[e])]
theorem IE{op:Op}{t:Tmp}(h:Operand.tmp t∈op.operands.toList):t∈tmpsOf op:=by
 unfold tmpsOf;rw[List.mem_filterMap];exact⟨_,h,rfl⟩
theorem ae1{op:Op}(he:∀t,t∈tmpsOf op→env.get t=env2.get t):jz P env h op=jz P env2 h op:=by
 have h1:∀x:iT,x∈op.operands.toList→jI env x=jI env2 x:=λx hx=>HJ λt e=>he t (IE (by rw[←e];exact hx));have h2:∀l:List iT,(∀x∈l,x∈op.operands.toList)→pN env l=pN env2 l:=λl hl=>TX λt ht=>he t (IE (hl _ ht));have h3:∀l:List (Nat×iT),(∀x∈l.map (·.2),x∈op.operands.toList)→uH env l=uH env2 l:=λl hl=>aaE λt ht=>he t (IE (hl _ ht));have h4:∀x:Option iT,(∀y,x=some y→y∈op.operands.toList)→vp env x=vp env2 x:=λx hx=>aaF λt e=>he t (IE (hx _ e));cases op
 case move x=>simp only[jz];rw[h1 x (by simp[nn])]
 case assign x=>simp only[jz];rw[h1 x (by simp[nn])]
 case pick c x y=>simp only[jz];rw[h1 c (by simp[nn]),h1 x (by simp[nn]),h1 y (by simp[nn])]
 case box e x=>simp only[jz];rw[h1 x (by simp[nn])]
 case build t ps=>simp only[jz];rw[h3 ps.toList (λx hx=>by simpa[nn]using hx)]
 case buildSlice t n ps=>simp only[jz];rw[h3 ps.toList (λx hx=>by simpa[nn]using hx)]
 case load t x=>simp only[jz];rw[h1 x (by simp[nn])]
 case store t x y=>simp only[jz];rw[h1 x (by simp[nn]),h1 y (by simp[nn])]
 case nilCheck x=>simp only[jz];rw[h1 x (by simp[nn])]
 case binOp o t x y t2=>simp only[jz];rw[h1 x (by simp[nn]),h1 y (by simp[nn])]
 case unOp o t x=>simp only[jz];rw[h1 x (by simp[nn])]
 case convert s d x=>simp only[jz];rw[h1 x (by simp[nn])]
 case sliceToArrayPointer t x=>simp only[jz];rw[h1 x (by simp[nn])]
 case makeFunc f first rH =>
  cases f with
  |func f=>simp only[jz];rw[h2 rH.toList (λx hx=>by simp[nn];exact .inr (by simpa using hx))]
  |_=>rfl
 case makeMap t r =>
  cases r with
  |none=>rfl
  |some x=>simp only[jz];rw[h1 x (by simp[nn])]
 case makeSlice t x y=>simp only[jz];rw[h1 x (by simp[nn]),h1 y (by simp[nn])]
 case slice t x lo hi mx =>
  simp only[jz];rw[h1 x (by simp[nn]),h4 lo (λy e=>by simp[nn,e]),h4 hi (λy e=>by simp[nn,e]),h4 mx (λy e=>by simp[nn,e])]
 case fieldAddr s x f=>simp only[jz];rw[h1 x (by simp[nn])]
 case field s x f=>simp only[jz];rw[h1 x (by simp[nn])]
 case indexAddr t x y=>simp only[jz];rw[h1 x (by simp[nn]),h1 y (by simp[nn])]
 case index t x y=>simp only[jz];rw[h1 x (by simp[nn]),h1 y (by simp[nn])]
 case lookup t x y ok=>simp only[jz];rw[h1 x (by simp[nn]),h1 y (by simp[nn])]
 case mapUpdate t x y z=>simp only[jz];rw[h1 x (by simp[nn]),h1 y (by simp[nn]),h1 z (by simp[nn])]
 case extract x i=>simp only[jz];rw[h1 x (by simp[nn])]
 case call c =>
  obtain⟨Bb,args,nt⟩:=c;cases Bb with
  |builtin b=>simp only[jz];rw[h2 args.toList (λx hx=>by simp[nn,MB];simpa using hx)]
  |_=>rfl
 all_goals rfl
def uf(E:Env):List Tmp→Env
 |[]=>.lf
 |t::r=>match E.get t with
  |some v=>(uf E r).set t v
  |none=>uf E r
theorem LS(E:Env)(l:List Tmp)(t:Tmp):(uf E l).get t=if t∈l then E.get t else none:=by
 induction l with
 |nil=>simp[uf,T.get]
 | cons x l ih =>
  unfold uf;cases hx:E.get x with
  |none =>
   simp only;rw[ih]
   by_cases h1:t=x
   ·subst h1;simp[hx]
   ·simp[h1]
  |some v =>
   simp only[T.jv]
   by_cases h1:t=x
   ·subst h1;simp[hx]
   ·rw[if_neg h1,ih];simp[h1]
end
end Go.V
end
section
namespace Go.V
section
variable{P:iY}{ρ:Ren}{h h':Hp}{w:jb}{env:Env}{a:Act}
structure yL(w w':jb):Prop where
 size:w'.heap.size=w.heap.size+1
 old:∀g,g<w.heap.size→w'.heap[g]? =w.heap[g]?
 os:w'.os=w.os
 tape:w'.tape=w.tape
 output:w'.output=w.output
 drawn:w.drawn≤w'.drawn
theorem yL.alloc(w:jb)(o:Obj):yL w (w.alloc o):=⟨by simp,λg hg=>by
 show(w.heap.push _)[g]? =_;rw[Db,if_neg (R7 hg)],rfl,rfl,rfl,jg _⟩
theorem yL.drew(w:jb)(o:Obj):yL w (w.drew.alloc o):=by
 have:=yL.alloc w.drew o;exact⟨this.size,this.old,this.os,this.tape,this.output,vN _⟩
def Cd(P:iY)(ρ:Ren)(w:jb)(a:Act)(o:Oper)(oO:Nat→gE)(B:mA):Prop :=
 ∃w' u i,(execOp a.eval o).run P w = .ok (.value u) w'∧yL w w'∧i.g=w.heap.size∧(∀σ b,σ b=some i→VR σ (oO b) u) ∧ ∀σ,ρ.le σ→Dw σ i w' B
theorem Tz{z:Nat}{c:List gE}{cs:List iU}{e:iA}{fz:Nat×Nat}(hf:fz.1<fz.2→cs.length≤fz.1)(hz:fz.1≤fz.2)(Pj:z≠1→fz.2≤fz.1)(h1:c.all gE.one=true)(Bv:∀u∈cs,u.oneCell'=true)(hlen:c.length≤cs.length)(hv:jc ρ c (cs.take c.length)){w2:jb}(pj:w2.heap[w.heap.size]? =some (.cells cs.toArray e fz)) :
  Dw ρ ⟨w.heap.size,0,z,c.length,cs.length⟩ w2 (.cells z c):=by
 refine⟨rfl,rfl,by simpa using hlen,h1,⟨λo ho=>⟨?_,?_⟩,⟨λc' e' Oj y6=>by rw[pj]at y6;obtain⟨_,_,rfl⟩:=(JA (iK y6));exact hz,λo u q=>by simp only[uq,pj]at q;exact Bv u (pH (by simpa using q)),λmY c' e' Oj y6=>by rw[pj]at y6;obtain⟨_,_,rfl⟩:=(JA (iK y6));exact Pj mY⟩⟩,λj u hj=>?_⟩
 ·simp only[uq,pj];simp;exact ho
 ·simp only[ET,pj];simp;intro a;rcases G7 fz.1 fz.2 with q|q
  ·have:=hf q;simp at ho;omega
  ·omega
 ·have nT:=(kI.1 hj).1;obtain⟨u',a,q⟩:=hv.at hj;refine⟨u',?_,q⟩;simp only[uq,pj];rw[oc,if_pos nT]at a;simpa using a
theorem Nq(w:jb)(o:Obj):(w.alloc o).heap[w.heap.size]? =some o:=by
 show(w.heap.push _)[w.heap.size]? =_;rw[Db,if_pos rfl]
theorem Cd.row{o:Oper}{z:Nat}{c:List gE}{us:List iU}{e:iA}{u:iU}{oO:Nat→gE}(h1:c.all gE.one=true)(hv:jc ρ c us)(hr:(execOp a.eval o).run P w = .ok (.value u) (w.alloc (.cells us.toArray e)))
  (hu:∀σ b,σ b=some ⟨w.heap.size,0,z,c.length,us.length⟩→VR σ (oO b) u):Cd P ρ w a o oO (.cells z c) :=
 ⟨_,u,⟨w.heap.size,0,z,c.length,us.length⟩,hr,yL.alloc _ _,rfl,hu,λσ hl=>Tz (fz:=(0,0)) (by simp) (by simp) (λ_=>jg _) h1 (hv.one h1) (by rw[hv.1];exact jg _) (by rw[hv.1,ow];exact hv.mono hl) (Nq _ _)⟩
structure Cc(P:iY)(env:Env)(h:Hp)(o:Oper)(v:gE)(h':Hp)(oO:Nat→gE)(B:mA):Prop where
 dead:B ≠ .dead
 val:v=oO h.next
 heap:h'=h.new B
 ptr:∀σ b u,VR σ (oO b) u→σ b≠none
 run:∀ρ w a,mj ρ env a→Cd P ρ w a o oO B
theorem Yk{o:Oper}{e:iA}{z v:gE}(ho:o.op = .alloc e)(hz:zeroV P e=some z)(hv:vR h z.cells.length z.cells=some (v,h')):Cc P env h o v h' (λb=>.p (some (b,0))) (.cells z.cells.length z.cells):=by
 unfold vR at hv
 split at hv
 ·rename_i h1;simp only[km,jT]at hv;obtain⟨rfl,rfl⟩:=hv;refine⟨by simp,rfl,rfl,λσ b u hu=>by cases hu;simp_all,λρ w a hE=>?_⟩;obtain⟨i,u,h2,h3,h4⟩:=yD hz;have hr:=(yd (ρ:=ρ) h4).cells;refine Cd.row (e:=e) (u:=.pointer (some ⟨w.heap.size,0,none⟩)) h1 hr ?_ (λσ b hb=>VR.p hb);simp only[execOp,ho,Instr.alloc,jq,AH h2 h3 w,jA,newVar,yu,jP,xy]
 ·cases hv
theorem Yl{o:Oper}{e:iA}{x:iT}{z v:gE}(ho:o.op = .box e x)(hz:jI env x=some z)(hv:vR h z.cells.length z.cells=some (v,h')):Cc P env h o v h' (λb=>.p (some (b,0))) (.cells z.cells.length z.cells):=by
 unfold vR at hv
 split at hv
 ·rename_i h1;simp only[km,jT]at hv;obtain⟨rfl,rfl⟩:=hv;refine⟨by simp,rfl,rfl,λσ b u hu=>by cases hu;simp_all,λρ w a hE=>?_⟩;have hr:=(mS hE hz).cells;refine Cd.row (e:=e) (u:=.pointer (some ⟨w.heap.size,0,none⟩)) h1 hr ?_ (λσ b hb=>VR.p hb);simp only[execOp,ho,Instr.box,jq,jA,newVar,yu,jP,xy]
 ·cases hv
theorem Yp{o:Oper}{t:iA}{x:Option iT}{v:gE}(ho:o.op = .makeMap t x)(hv:jz P env h o.op=some (v,h')):Cc P env h o v h' (λb=>.m (some b)) (.map []):=by
 rw[ho]at hv;have pj:∀w:jb,(newObj (.map #[] 0)).run P w = .ok w.heap.size (w.alloc (.map #[] 0)):=λw=>rfl;have CC:∀(ρ:Ren)(w:jb)(a:Act),(execOp a.eval o).run P w = .ok (.value (.map (some w.heap.size))) (w.alloc (.map #[] 0))→Cd P ρ w a o (λb=>.m (some b)) (.map []):=λρ w a hr =>
  ⟨_,_,⟨w.heap.size,0,0,0,0⟩,hr,yL.alloc _ _,rfl,λσ b hb=>VR.m hb,λσ _=>⟨#[],0,Nq _ _,rfl,λj k v hj=>by simp at hj⟩⟩
 cases x with
 |none =>
  simp only[jz,km,jT]at hv;obtain⟨rfl,rfl⟩:=hv;refine⟨by simp,rfl,rfl,λσ b u hu=>by cases hu;simp_all,λρ w a hE=>CC ρ w a ?_⟩;simp only[execOp,ho,ME,Option.map_none,jq,jP,jA,pj]
 |some x =>
  simp only[jz]at hv;rw[iO]at hv;obtain⟨p,hp,hv⟩:=hv
  split at hv
  ·rename_i kt vt k n jm;simp only[km,jT]at hv;obtain⟨rfl,rfl⟩:=hv;refine⟨by simp,rfl,rfl,λσ b u hu=>by cases hu;simp_all,λρ w a hE=>CC ρ w a ?_⟩;have v1:=mS hE hp;generalize qT:a.eval x=u1 at v1;cases v1;simp only[execOp,ho,ME,lE,qT,asInt,asIntOf,jq,j7 jm w,jP,jA,pj]
  ·cases hv
theorem Ym{o:Oper}{t:iA}{n:Nat}{ps:Array (Nat×iT)}{qs:List (Nat×gE)}{v:gE}(ho:o.op = .buildSlice t n ps)(hp:uH env ps.toList=some qs)(hv:Cq P h t n qs=some (v,h')) :
  ∃oO B,Cc P env h o v h' oO B:=by
 unfold Cq at hv
 split at hv
 ·rename_i e jm;rw[iO]at hv;obtain⟨z,hs,hv⟩:=hv;rw[iO]at hv;obtain⟨zv,hz,hv⟩:=hv
  split at hv
  ·rename_i hc;obtain⟨c1,c2,c3⟩:=hc;rw[iO]at hv;obtain⟨cs,hf,hv⟩:=hv;unfold ru at hv
   split at hv
   case isFalse=>cases hv
   rename_i rl;simp only[km,jT]at hv;obtain⟨rfl,rfl⟩:=hv;refine⟨λb=>.sl (some (b,0)) n (.k n),.cells z cs,by simp,rfl,rfl,λσ b u hu=>by cases hu;simp_all,λρ w a hE=>?_⟩;obtain⟨g1,g2⟩:=NY hE hp;obtain⟨i,zu,i1,i2,i3⟩:=yD hz;have rQ:=(yd (ρ:=ρ) i3).cells;have nZ:zu.cells.size=z:=by have:=rQ.1;simp at this;omega
   have qU:=GO rQ (by omega) n;rw[nZ]at qU;obtain⟨us,e1,e2⟩:=Je hf qU g1 g2;refine Cd.row (e:=e) (u:=.slice (some ⟨w.heap.size,0,none⟩) n n) rl e2 ?_ (λσ b hb=>VR.sk hb (jg _));have CI:(ps.map λ(i,x)=>(i,a.eval x)).toList=ps.toList.map λ(i,x)=>(i,a.eval x):=by simp
   have e3:∀zero:Array iU,(n*z≠0→zero=zu.cells)→GU (λi=>some (i*z,z)) ((B4 (n*z)).map λx=>zero[x%zero.size]!) (ps.toList.map λ(i,x)=>(i,a.eval x))=some us.toArray:=λzero h0=>by
    rw[←e1]
    congr 1
    by_cases hn:n*z=0
    ·rw[hn];apply wC;simp
    ·rw[h0 hn,nZ,xy]
   simp only[execOp,ho,Instr.buildSlice,jq,j7 jm w,jA,qE hs w];rw[if_neg (by omega)]
   by_cases h0:n*z=0
   ·rw[if_pos h0];simp only[jq,jP,jA,CI,e3 #[] (λq=>absurd h0 q),yu]
   ·rw[if_neg h0];simp only[jq,jP,jA,CI,AH i1 i2 w,e3 zu.cells (λ_=>rfl),yu]
  ·cases hv
 ·cases hv
theorem Yo{o:Oper}{t:iA}{x y:iT}{p q v:gE}(ho:o.op = .makeSlice t x y)(hx:jI env x=some p)(hy:jI env y=some q)(hv:Ei P h t p q=some (v,h')):∃oO B,Cc P env h o v h' oO B:=by
 unfold Ei at hv
 split at hv
 ·rename_i e jm;rw[iO]at hv;obtain⟨z,hs,hv⟩:=hv;rw[iO]at hv;obtain⟨zv,hz,hv⟩:=hv;rw[iO]at hv;obtain⟨l,hl,hv⟩:=hv;rw[iO]at hv;obtain⟨c,hc,hv⟩:=hv;rw[iO]at hv;obtain⟨inf,hi,hv⟩:=hv;obtain⟨k1,rfl,l1⟩:=IF hl;obtain⟨k2,rfl,l2⟩:=IF hc
  split at hv
  ·rename_i tf;obtain⟨c1,c2,c3,c4⟩:=tf;unfold ru at hv
   split at hv
   case isFalse=>cases hv
   rename_i rl;simp only[km,jT]at hv;obtain⟨rfl,rfl⟩:=hv;refine⟨λb=>.sl (some (b,0)) l (.k c),.cells z (mT zv.cells c),by simp,rfl,rfl,λσ b u hu=>by cases hu;simp_all,λρ w a hE=>?_⟩;have v1:=mS hE hx;have v2:=mS hE hy;generalize qT:a.eval x=u1 at v1;generalize tk:a.eval y=u2 at v2;cases v1;cases v2;obtain⟨i,zu,i1,i2,i3⟩:=yD hz;have H6:i=inf:=by rw[i1]at hi;exact iK hi
   subst H6;have rQ:=(yd (ρ:=ρ) i3).cells;have nZ:zu.cells.size=z:=by have:=rQ.1;simp at this;omega
   have qU:=GO rQ (by omega) c;rw[nZ]at qU;refine Cd.row (e:=e) (u:=.slice (some ⟨w.heap.size,0,none⟩) l c) rl qU ?_ (λσ b hb=>VR.sk hb c1);have mM:∀b,(askRoom b).run P w = .ok () w:=λb=>by
    unfold askRoom;split<;>rfl
   have t1:¬(((c:Int)<0||(i.bytes:Int)*c>2^48)||(l:Int)<0||(l:Int)>c)=true:=by
    have:((i.bytes:Int)*c)=((i.bytes*c:Nat):Int):=by simp
    simp only[rW,decide_eq_true_eq,this];omega
   simp only[execOp,ho,qT,tk,Instr.makeSlice,asInt,asIntOf,jq,j7 jm w,jA,jP,typeInfo,RG,hi,C9 l1,C9 l2];rw[if_neg t1];have e3:∀zero:Array iU,(c*z≠0→zero=zu.cells)→((B4 (c*z)).map λx=>zero[x%zero.size]!)=(((B4 (c*z)).map λi=>zu.cells[i%z]!).toList).toArray:=λzero h0=>by
    rw[xy]
    by_cases hn:c*z=0
    ·rw[hn];apply wC;simp
    ·rw[h0 hn,nZ]
   simp only[jq,jP,jA,mM,qE hs w,ly]
   by_cases h0:c*z=0
   ·rw[if_pos h0];simp only[jq,jP,jA,e3 #[] (λq=>absurd h0 q),yu]
   ·rw[if_neg h0];simp only[jq,jP,jA,AH i1 i2 w,e3 zu.cells (λ_=>rfl),yu]
  ·cases hv
 ·cases hv
theorem Yn{o:Oper}{s d:iA}{x:iT}{p v:gE}(ho:o.op = .convert s d x)(hk:Bi P s d = .alloc)(hx:jI env x=some p)(hv:qQ P h s d p=some (v,h')):∃oO B,Cc P env h o v h' oO B:=by
 unfold Bi at hk;unfold qQ at hv
 split at hv
 ·rename_i ds k k' n hs hd;simp[hd]at hk
 ·rename_i ds sx hs hd;cases ds<;>simp[hs,hd]at hk
 ·rename_i e sx hs hd
  split at hv
  ·rename_i he
   split at hv
   ·cases hv
   ·rename_i jw;unfold ru at hv
    split at hv
    ·rename_i h1;simp only[km,jT]at hv;obtain⟨rfl,rfl⟩:=hv;refine⟨λb=>.sl (some (b,0)) sx.length (.op 1),.cells 1 (sx.map λc=>.i .u8 c.toNat),by simp,rfl,rfl,λσ b u hu=>by generalize Cap.op 1=cp at hu;cases hu<;>simp_all,λρ w a hE=>?_⟩;have v1:=mS hE hx;generalize qT:a.eval x=u1 at v1;cases v1;have Il:=run_bytes_of_string (P:=P) w s d e ⟨sx.toArray⟩ hs hd he;have uP:(⟨sx.toArray⟩:ByteArray).size=sx.length:=by simp[AP]
     have te:=JF w sx.length 0 e;rw[uP]at Il;have vA:(bytesRow ⟨sx.toArray⟩ (grownCap w sx.length 0 e)).toList=sx.map (λc=>RC .u8 c.toNat)++iV (grownCap w sx.length 0 e-sx.length) (.int .u8 0):=by
      simp[bytesRow,uP]
     have hlen:(bytesRow ⟨sx.toArray⟩ (grownCap w sx.length 0 e)).size=grownCap w sx.length 0 e:=by
      rw[←Mv,vA];simp;omega
     have Gc:jc ρ (sx.map λc=>gE.i .u8 c.toNat) ((bytesRow ⟨sx.toArray⟩ (grownCap w sx.length 0 e)).toList.take (sx.map λc=>gE.i .u8 c.toNat).length):=by
      rw[vA,sH,E7 (by simp)];refine⟨by simp,λj u u' p q=>?_⟩;simp only[sF,jR]at p q;obtain⟨b,p1,rfl⟩:=p;obtain⟨b',q1,rfl⟩:=q;rw[p1]at q1;obtain rfl:=iK q1;exact .i _ _
     refine⟨_,.slice (some ⟨w.heap.size,0,none⟩) sx.length (grownCap w sx.length 0 e),⟨w.heap.size,0,1,(sx.map λc=>gE.i .u8 c.toNat).length,(bytesRow ⟨sx.toArray⟩ (grownCap w sx.length 0 e)).toList.length⟩,?_,yL.drew _ _,rfl,λσ b hb=>?_,λσ hl=>Tz (w:=w.drew) (e:=e) (fz:=((bytesRow ⟨sx.toArray⟩ (grownCap w sx.length 0 e)).size,(bytesRow ⟨sx.toArray⟩ (grownCap w sx.length 0 e)).size+1)) (by simp) (by simp) (λq=>absurd rfl q) h1 Tc (by have q:=hlen;rw[←Mv]at q;rw[q];simpa using te) (Gc.mono hl) (by rw[xy];exact Nq w.drew _)⟩
     ·simp only[execOp,ho,qT,oF,jq,Il,jA,jP]
     ·have:=VR.so (ρ:=σ) (b:=b) (o:=0) (len:=sx.length) (c:=grownCap w sx.length 0 e) hb te (by simp;exact te) (by simp[hlen]);simpa using this
    ·cases hv
  ·cases hv
 ·rename_i hs hd;simp[hs,hd]at hk
 ·rename_i hs hd;simp[hs,hd]at hk
 ·rename_i hs hd;simp[hs,hd]at hk
 ·rename_i hs hd;simp[hs,hd]at hk
 ·cases hv
theorem Vs{o:Oper}{v:gE}(hk:kz P o.op = .alloc)(hv:jz P env h o.op=some (v,h')):∃oO B,Cc P env h o v h' oO B:=by
 have lK:=hv;generalize ho:o.op=op at hv hk;cases op<;>simp only[jz,reduceCtorEq]at hv<;>simp only[kz,reduceCtorEq]at hk
 case alloc e =>
  rw[iO]at hv;obtain⟨z,hz,hv⟩:=hv;exact⟨_,_,Yk ho hz hv⟩
 case box e x =>
  rw[iO]at hv;obtain⟨z,hz,hv⟩:=hv;exact⟨_,_,Yl ho hz hv⟩
 case buildSlice t n ps =>
  rw[iO]at hv;obtain⟨qs,hq,hv⟩:=hv;exact Ym ho hq hv
 case convert s d x =>
  rw[iO]at hv;obtain⟨p,hp,hv⟩:=hv;exact Yn ho hk hp hv
 case makeMap t x=>exact⟨_,_,Yp ho lK⟩
 case makeSlice t x y =>
  rw[iO]at hv;obtain⟨p,hp,hv⟩:=hv;rw[iO]at hv;obtain⟨q,hq,hv⟩:=hv;exact Yo ho hp hq hv
 case call c =>
  obtain⟨Bb,args,nt⟩:=c;cases Bb with
  |builtin b=>cases b<;>simp[kz]at hk;unfold Gi at hk;split at hk<;>(try split at hk)<;>simp at hk
  |_=>simp at hv
end
end Go.V
end
section
namespace Go.V
def Dn(listed:Array Bool)(i:Nat):Prop:=listed.getD i false=true
inductive JV(P:iY)(A:List Oper)(hs:Hp)(h:Hp)(pd:List sO)(ρ:Ren)(i:Nat)(E:Env)(v:gE)(b:Nat):Prop where
 |pure:kz P (ir A i).op = .pure→jz P E h (ir A i).op=some (v,h)→JV P A hs h pd ρ i E v b
 |read:kz P (ir A i).op = .read→jz P E h (ir A i).op=some (v,h)→(⟨i,(ir A i).op,E,v⟩:sO)∈pd→JV P A hs h pd ρ i E v b
 |alloc (oO:Nat→gE) (B:mA) (h0 kP:Hp):kz P (ir A i).op = .alloc→Cc P (uf E (looks A (ir A i))) h0 (ir A i) v kP oO B→v=oO b→h.get b=some B→ρ b=none→hs.next≤b→b<h.next→JV P A hs h pd ρ i E v b
structure DI(P:iY)(A:List Oper)(n:Nat)(dn L:List Nat)(pd:List sO)(env:Env)(h:Hp)(listed:Array Bool)(a:Act)(w:jb)(ρ:Ren)(ρs:Ren)(hs:Hp)(ws:jb)(e0:Env)(V:Nat→gE)(EV:Nat→Env)(BL:Nat→Nat):Prop where
 size:listed.size=A.length
 cover:∀i,i<A.length→i∈dn∨i∈L
 ord:CS P A (qN A []) dn L=true
 tO:∀i,i∈dn→i<A.length
 sub:∀i,Dn listed i→i∈dn
 closed:∀j,Dn listed j → ∀k,vl A j k→Dn listed k
 yP:∀j,j∈dn → ∀k,vl A j k→k∈dn
 tail:∀pre j post,dn=pre++j::post → ∀k,vl A j k→k∈post
 rel:Rel ρ h w
 defers:a.defers=[]
 DG:a.tmps.size=n
 ext:Ext ρs hs ws ρ h w
 cv:∀i,i∈dn → ∀t,(ir A i).dst=some t→env.get t=some (V i)
 ce:∀t,(∀i,i∈dn→(ir A i).dst≠some t)→env.get t=e0.get t
 av:∀i,Dn listed i → ∀t,(ir A i).dst=some t→VR ρ (V i) (a.tmps.getD t undef)
 ae:∀t v,(∀i,Dn listed i→(ir A i).dst≠some t)→e0.get t=some v→VR ρ v (a.tmps.getD t undef)
 sv:∀i,i∈dn → ¬Dn listed i → ∀j t,j<A.length→(ir A j).dst=some t→t∈looks A (ir A i)→(sQ A i j→(EV i).get t=some (V j))∧(¬sQ A i j→(EV i).get t=e0.get t)
 se:∀i,i∈dn → ¬Dn listed i → ∀t,t∈looks A (ir A i)→(∀j,j<A.length→(ir A j).dst≠some t)→(EV i).get t=e0.get t
 again:∀i,i∈dn → ¬Dn listed i→(sE A (EV i) (ir A i)=some false∧V i = .no)∨(sE A (EV i) (ir A i)=some true∧JV P A hs h pd ρ i (EV i) (V i) (BL i))
 inj:∀i j,i∈dn→j∈dn → ¬Dn listed i → ¬Dn listed j→sE A (EV i) (ir A i)=some true→sE A (EV j) (ir A j)=some true→kz P (ir A i).op = .alloc→kz P (ir A j).op = .alloc→BL i=BL j→i=j
section
variable{P:iY}{A:List Oper}{n:Nat}{dn L:List Nat}{pd:List sO}{env:Env}{h:Hp}{listed:Array Bool}{a:Act}{w:jb}{ρ ρs:Ren}{hs:Hp}{ws:jb}{e0:Env}{V:Nat→gE}{EV:Nat→Env}{BL:Nat→Nat}
theorem Rel.extend(r:Rel ρ h w)(B:mA):Rel ρ (h.new B) w:=by
 have tg:∀b i,ρ b=some i→(h.new B).get b=h.get b:=λb i e=>by
  rw[Hp.lI,if_neg];intro q;have:=(r.nv b i e).1;omega
 refine⟨λb i e=>⟨E9 (r.nv b i e).1,(r.nv b i e).2⟩,λb i X e f=>r.kG b i X e (by rw[←tg b i e];exact f),λb b' i i' e e' l l' hg=>?_,λk hk=>?_⟩
 ·refine r.inj b b' i i' e e' ?_ ?_ hg
  ·obtain⟨X,q1,q2⟩:=l;exact⟨X,by rw[←tg b i e];exact q1,q2⟩
  ·obtain⟨X,q1,q2⟩:=l';exact⟨X,by rw[←tg b' i' e'];exact q1,q2⟩
 ·have om:h.next+1≤k:=hk;rw[Hp.lI,if_neg (by omega)];exact r.wf k (by omega)
theorem Ext.extend(x:Ext ρs hs ws ρ h w)(r:Rel ρ h w)(B:mA):Ext ρs hs ws ρ (h.new B) w :=
 ⟨x.le,Nat.le_succ_of_le x.next,λb hb hl=>by
  obtain⟨p,q⟩:=x.other b hb hl;refine⟨p,?_⟩;rw[Hp.lI,if_neg (by have:=x.next;omega)];exact q,x.size,λg hg hn=>by
   obtain⟨p,q⟩:=x.frame g hg hn;refine⟨p,λb i e ho=>q b i e ?_⟩;obtain⟨X,q1,q2⟩:=ho;rw[Hp.lI,if_neg (λe'=>by have:=(r.nv b i e).1;omega)]at q1;exact⟨X,q1,q2⟩,x.os,x.tape,x.output,x.drawn⟩
theorem Rel.late(r:Rel ρ h w){b:Nat}{i:Info}{B:mA}{w':jb}(hb:ρ b=none)(hl:b<h.next)(hg:h.get b=some B)(hn:yL w w')(hi:i.g=w.heap.size)(hB:Dw (ρ.put b i) i w' B):Rel (ρ.put b i) h w':=by
 have hle:=Ren.Ed (ρ:=ρ) (b:=b) i hb;have mE:∀b' i',(ρ.put b i) b'=some i'→(b'=b∧i'=i)∨(b'≠b∧ρ b'=some i'):=λb' i' e=>by
  unfold Ren.put at e
  split at e
  ·rename_i q;exact .inl ⟨q,(iK e).symm⟩
  ·rename_i q;exact .inr ⟨q,e⟩
 refine⟨λb' i' e=>?_,λb' i' X e f=>?_,λb1 b2 i1 i2 e1 e2 l1 l2 FU=>?_,r.wf⟩
 ·rw[hn.size];rcases mE b' i' e with⟨rfl,rfl⟩|⟨_,e⟩
  ·exact⟨hl,by omega⟩
  ·have:=r.nv b' i' e;exact⟨this.1,by omega⟩
 ·rcases mE b' i' e with⟨rfl,rfl⟩|⟨_,e⟩
  ·rw[hg]at f;obtain rfl:=iK f;exact hB
  ·exact(r.kG b' i' X e f).congr hle (hn.old _ (r.nv b' i' e).2)
 ·rcases mE b1 i1 e1 with⟨q1,q2⟩|⟨q1,f1⟩<;>rcases mE b2 i2 e2 with⟨q3,q4⟩|⟨q3,f2⟩
  ·rw[q1,q3]
  ·have:=(r.nv b2 i2 f2).2;rw[q2]at FU;omega
  ·have:=(r.nv b1 i1 f1).2;rw[q4]at FU;omega
  ·exact r.inj b1 b2 i1 i2 f1 f2 l1 l2 FU
theorem Ext.late(x:Ext ρs hs ws ρ h w){b:Nat}{i:Info}{w':jb}(hb:ρ b=none)(hl:hs.next≤b)(hn:yL w w')(hi:i.g=w.heap.size):Ext ρs hs ws (ρ.put b i) h w':=by
 have hle:=Ren.Ed (ρ:=ρ) (b:=b) i hb;refine⟨x.le.trans hle,x.next,λb' jM Ak=>?_,by rw[hn.size];have:=x.size;omega,λg hg kK=>?_,hn.os.trans x.os,hn.tape.trans x.tape,hn.output.trans x.output,nY x.drawn hn.drawn⟩
 ·obtain⟨p,q⟩:=x.other b' jM Ak;refine⟨?_,q⟩;unfold Ren.put;rw[if_neg (by omega)];exact p
 ·obtain⟨p,q⟩:=x.frame g hg kK;refine⟨(hn.old g (sa hg x.size)).trans p,λb' i' e ho=>?_⟩;unfold Ren.put at e
  split at e
  ·obtain rfl:=iK e;have:=x.size;omega
  ·exact q b' i' e ho
theorem qK{i j:Nat}(hi:i<listed.size):Dn (listed.setIfInBounds i true) j↔j=i∨Dn listed j:=by
 unfold Dn;rw[tC,zH,tC]
 split
 ·rename_i e;subst e;simp[hi]
 ·rename_i e;constructor
  ·exact λq=>.inr q
  ·rintro(rfl|q)
   ·exact absurd rfl e
   ·exact q
theorem DI.done(d:DI P A n dn L pd env h listed a w ρ ρs hs ws e0 V EV BL)(G:zT A n){i:Nat}(hi:i∈dn)(kV:¬Dn listed i)(hr:∀k,vl A i k→Dn listed k){w':jb}{ρ':Ren}{u:iU}(hle:ρ.le ρ')(nE:Rel ρ' h w')(H2:Ext ρs hs ws ρ' h w')(hv:VR ρ' (V i) u)
  (hb:∀j,j∈dn → ¬Dn listed j→j≠i→sE A (EV j) (ir A j)=some true→kz P (ir A j).op = .alloc→ρ (BL j)=none→BL j<h.next→ρ' (BL j)=none) :
  DI P A n dn L pd env h (listed.setIfInBounds i true) (a.put (ir A i).dst u) w' ρ' ρs hs ws e0 V EV BL:=by
 have jU:i<listed.size:=by rw[d.size];exact d.tO i hi
 have mE:∀t,(ir A i).dst≠some t→(a.put (ir A i).dst u).tmps.getD t undef=a.tmps.getD t undef:=λt ht=>by
  cases hd:(ir A i).dst with
  |none=>rfl
  |some x =>
   simp only[AQ,tC,zH];rw[if_neg (λe=>ht (by rw[hd,e]))]
 have Pa:∀t,(ir A i).dst=some t→(a.put (ir A i).dst u).tmps.getD t undef=u:=λt ht=>by
  rw[ht];simp only[AQ,tC,zH];simp only[if_true];rw[if_pos (by rw[d.DG];exact FI G.dst (d.tO i hi) t ht)];rfl
 refine⟨by simp[d.size],d.cover,d.ord,d.tO,λj hj=>?_,λj hj k hk=>?_,d.yP,d.tail,nE,?_,?_,H2,d.cv,d.ce,λj hj t ht=>?_,λt v kK lK=>?_,λj hj mD=>d.sv j hj (λq=>mD ((qK jU).2 (.inr q))),λj hj mD=>d.se j hj (λq=>mD ((qK jU).2 (.inr q))),λj hj mD=>?_,λj k hj hk mD tT=>d.inj j k hj hk (λq=>mD ((qK jU).2 (.inr q))) (λq=>tT ((qK jU).2 (.inr q)))⟩
 ·rcases(qK jU).1 hj with rfl|hj
  ·exact hi
  ·exact d.sub j hj
 ·rcases(qK jU).1 hj with rfl|hj
  ·exact(qK jU).2 (.inr (hr k hk))
  ·exact(qK jU).2 (.inr (d.closed j hj k hk))
 ·cases(ir A i).dst<;>simp[AQ,d.defers]
 ·cases(ir A i).dst<;>simp[AQ,d.DG]
 ·rcases(qK jU).1 hj with rfl|hj
  ·rw[Pa t ht];exact hv
  ·have jw:j≠i:=λe=>kV (e▸hj);rw[mE t (λe=>G.uniq i j t (d.tO i hi) (d.tO j (d.sub j hj)) (λq=>jw q.symm) e ht)];exact(d.av j hj t ht).mono hle
 ·rw[mE t (kK i ((qK jU).2 (.inl rfl)))];exact(d.ae t v (λj hj=>kK j ((qK jU).2 (.inr hj))) lK).mono hle
 ·have y9:¬Dn listed j:=λq=>mD ((qK jU).2 (.inr q));have jw:j≠i:=λe=>mD ((qK jU).2 (.inl e));rcases d.again j hj y9 with q|⟨q,l⟩
  ·exact .inl q
  ·refine .inr ⟨q,?_⟩;cases l with
   |pure k1 k2=>exact .pure k1 k2
   |read k1 k2 k3=>exact .read k1 k2 k3
   |alloc oO B h0 kP k1 k2 k3 k4 k5 k6 k7=>exact .alloc oO B h0 kP k1 k2 k3 k4 (hb j hj y9 jw q k1 k5 k7) k6 k7
end
end Go.V
end
section
namespace Go.V
section
variable{P:iY}{A:List Oper}{n:Nat}{dn L:List Nat}{pd:List sO}{env:Env}{h:Hp}{listed:Array Bool}{a:Act}{w:jb}{ρ ρs:Ren}{hs:Hp}{ws:jb}{e0:Env}{V:Nat→gE}{EV:Nat→Env}{BL:Nat→Nat}
structure ie(A:List Oper)(e0:Env)(V:Nat→gE)(i:Nat)(E:Env):Prop where
 sv:∀j t,j<A.length→(ir A j).dst=some t→t∈looks A (ir A i)→(sQ A i j→E.get t=some (V j))∧(¬sQ A i j→E.get t=e0.get t)
 se:∀t,t∈looks A (ir A i)→(∀j,j<A.length→(ir A j).dst≠some t)→E.get t=e0.get t
theorem DI.ahM(d:DI P A n dn L pd env h listed a w ρ ρs hs ws e0 V EV BL)(G:zT A n){i:Nat}(hi:i<A.length)(kV:¬Dn listed i)(hr:∀k,vl A i k→Dn listed k){E:Env}(S:ie A e0 V i E) :
  ∀t,t∈looks A (ir A i) → ∀v,E.get t=some v→VR ρ v (a.tmps.getD t undef):=by
 intro t ht v hv
 by_cases hj:∃j,j<A.length∧(ir A j).dst=some t
 ·obtain⟨j,hj,mD⟩:=hj;have jw:j≠i:=λe=>G.self j t hj mD (by rw[e];exact ht);obtain⟨s1,s2⟩:=S.sv j t hj mD ht
  by_cases hb:sQ A i j
  ·have hD:=Ba d.closed i j hr hb;rw[s1 hb]at hv;obtain rfl:=iK hv;exact d.av j hD t mD
  ·rw[s2 hb]at hv;refine d.ae t v (λk hk tT=>?_) hv;have Ia:k=j:=by
    apply Js;intro OW;exact G.uniq k j t (d.tO k (d.sub k hk)) hj OW tT mD
   subst Ia;rcases G.rw k i t hj hi jw mD ht with q|q
   ·exact hb q
   ·exact kV (Ba d.closed k i (d.closed k hk) q)
 ·rw[S.se t ht (λj nT mD=>hj ⟨j,nT,mD⟩)]at hv;exact d.ae t v (λk hk tT=>hj ⟨k,d.tO k (d.sub k hk),tT⟩) hv
theorem DI.ahO(d:DI P A n dn L pd env h listed a w ρ ρs hs ws e0 V EV BL){i:Nat}(hi:i∈dn)(kV:¬Dn listed i):ie A e0 V i (EV i):=⟨d.sv i hi kV,d.se i hi kV⟩
theorem DI.QL{i:Nat}{L':List Nat}(d:DI P A n dn (i::L') pd env h listed a w ρ ρs hs ws e0 V EV BL)(G:zT A n)(T:At P A dn i L'):ie A e0 V i env:=by
 refine⟨λj t hj mD ht=>⟨λhb=>?_,λhb=>?_⟩,λt ht kK=>d.ce t λk hk=>kK k (d.tO k hk)⟩
 ·exact d.cv j (Ba (D:=(· ∈dn)) d.yP i j T.DP hb) t mD
 ·refine d.ce t λk hk tT=>?_;have Ia:k=j:=by
   apply Js;intro OW;exact G.uniq k j t (d.tO k hk) hj OW tT mD
  subst Ia;have jw:k≠i:=λe=>T.out (e▸hk);rcases G.rw k i t hj T.lt jw mD ht with q|q
  ·exact hb q
  ·exact T.out (Ba (D:=(· ∈dn)) d.yP k i (d.yP k hk) q)
theorem Xe{A:List Oper}{o:Oper}{t:Tmp}(h:t∈tmpsOf o.op):t∈looks A o:=by
 unfold looks;exact mF.2 (.inl h)
theorem aa0{A:List Oper}{o:Oper}{g:Nat}{wt:Bool}{x:Tmp}(h:o.guard=some (g,wt))(hx:((A[g]?).bind (·.dst))=some x):x∈looks A o:=by
 unfold looks;refine mF.2 (.inr ?_);rw[h];simp only;rw[hx];simp
theorem Mo{A:List Oper}{o:Oper}{E:Env}:sE A (uf E (looks A o)) o=sE A E o:=by
 unfold sE;cases hg:o.guard with
 |none=>rfl
 | some q =>
  obtain⟨g,wt⟩:=q;simp only;cases hx:(A[g]?).bind (·.dst)with
  |none=>rfl
  |some x =>
   simp only[jy];rw[LS,if_pos (aa0 hg hx)]
theorem P0{A:List Oper}{o:Oper}{E:Env}:jz P (uf E (looks A o)) h o.op=jz P E h o.op :=
 ae1 λt ht=>by rw[LS,if_pos (Xe ht)]
theorem rE.uf(d:DI P A n dn L pd env h listed a w ρ ρs hs ws e0 V EV BL)(G:zT A n){i:Nat}(hi:i<A.length)(kV:¬Dn listed i)(hr:∀k,vl A i k→Dn listed k){E:Env}(S:ie A e0 V i E):rE ρ (Go.V.uf E (looks A (ir A i))) h n a w:=by
 refine⟨d.rel,λt v hv=>?_,d.defers,d.DG⟩;rw[LS]at hv
 split at hv
 ·rename_i ht;exact d.ahM G hi kV hr S t ht v hv
 ·cases hv
theorem DI.late(d:DI P A n dn L pd env h listed a w ρ ρs hs ws e0 V EV BL)(G:zT A n){i:Nat}(hi:i∈dn)(kV:¬Dn listed i)(hr:∀k,vl A i k→Dn listed k){K:Act→jb→Prop}{Q:Exit→Act→jb→Prop}
  (hK:∀a' w' ρ',DI P A n dn L pd env h (listed.setIfInBounds i true) a' w' ρ' ρs hs ws e0 V EV BL→K a' w'):wpOp P A.toArray Q i K a w:=by
 have jU:=d.tO i hi;have s:=rE.uf d G jU kV hr (d.ahO hi kV);unfold wpOp;simp only[AT,CU jU];rcases d.again i hi kV with⟨q1,q2⟩|⟨q1,l⟩
 ·rw[ED s G.dst (by rw[Mo];exact q1)];simp only[sY,if_false];exact hK _ _ ρ (d.done G hi kV hr (Ren.le.refl _) d.rel d.ext (by rw[q2];exact VR.Gl) (λj _ _ _ _ _ q _=>q))
 ·have En:=q1;rw[ED s G.dst (by rw[Mo];exact q1)];simp only[if_true]
  left
  have two:∀{v:gE},jz P (EV i) h (ir A i).op=some (v,h)→V i=v→Oper.wp P (ir A i) a w K Q:=λ{v} ho hv=>by
   rw[←P0 (A:=A)]at ho;obtain⟨ρ',w',r,u,e1,e2,e3,e4,e5⟩:=WM (a:=a) d.rel s.env ho;unfold Oper.wp;rw[e1];refine VX _ _ e2 (hK _ _ ρ' (d.done G hi kV hr e5.le e4 (d.ext.trans e5) (by rw[hv];exact e3) (λj _ _ _ _ _ q1 q2=>(e5.other _ q1 q2).1)))
  cases l with
  |pure k1 k2=>exact two k2 rfl
  |read k1 k2 k3=>exact two k2 rfl
  |alloc oO B h0 kP k1 k2 k3 k4 k5 k6 k7 =>
   obtain⟨w',u,f,r1,r2,r3,r4,r5⟩:=k2.run ρ w a s.env;have hle:=Ren.Ed (ρ:=ρ) (b:=BL i) f k5;have nE:=d.rel.late k5 k7 k4 r2 r3 (r5 _ hle);have H2:=d.ext.late k5 k6 r2 r3;unfold Oper.wp;rw[r1];refine hK _ _ (ρ.put (BL i) f) (d.done G hi kV hr hle nE H2 (by rw[k3];exact r4 _ _ (BT _ _)) (λj hj mD jw hw hka q1 q2=>?_));unfold Ren.put;rw[if_neg]
   ·exact q1
   ·intro e;exact jw (d.inj j i hj hi mD kV hw En hka k1 e)
def C7{α:Type}(f:Nat→α)(i:Nat)(x:α):Nat→α:=λj=>if j=i then x else f j
theorem AO{α:Type}(f:Nat→α)(i:Nat)(x:α):C7 f i x i=x:=by simp[C7]
theorem rU{α:Type}(f:Nat→α){i j:Nat}(x:α)(h:j≠i):C7 f i x j=f j:=by simp[C7,h]
theorem DI.step{i:Nat}{L':List Nat}(d:DI P A n dn (i::L') pd env h listed a w ρ ρs hs ws e0 V EV BL)(G:zT A n){v:gE}{h':Hp}{pd':List sO}(hh:h'=h ∨ ∃B,h'=h.new B)(O1:∀q,q∈pd→q∈pd')
  (pj:(sE A env (ir A i)=some false∧v = .no∧h'=h)∨(sE A env (ir A i)=some true∧((kz P (ir A i).op = .pure∧jz P env h' (ir A i).op=some (v,h'))∨(kz P (ir A i).op = .read∧jz P env h' (ir A i).op=some (v,h')∧(⟨i,(ir A i).op,env,v⟩:sO)∈pd') ∨
   (kz P (ir A i).op = .alloc∧jz P env h (ir A i).op=some (v,h'))))) :
  ∃V' A3 A0,DI P A n (i::dn) L' pd' (uU env (ir A i).dst v) h' listed a w ρ ρs hs ws e0 V' A3 A0:=by
 obtain⟨T,CH,_⟩:=El d.ord;have kV:¬Dn listed i:=λq=>T.out (d.sub i q);have jw:∀j,j∈dn→j≠i:=λj hj e=>T.out (e▸hj);have It:h.wf:=d.rel.wf;have nE:Rel ρ h' w:=by rcases hh with rfl|⟨B,rfl⟩;exact d.rel;exact d.rel.extend B
 have H2:Ext ρs hs ws ρ h' w:=by rcases hh with rfl|⟨B,rfl⟩;exact d.ext;exact d.ext.extend d.rel B
 have CE:∀t,(uU env (ir A i).dst v).get t=if(ir A i).dst=some t then some v else env.get t:=λt=>by
  cases hd:(ir A i).dst with
  |none=>simp[uU]
  |some x =>
   simp only[uU,Go.V.T.jv]
   by_cases e:t=x
   ·subst e;simp
   ·rw[if_neg e,if_neg (λq=>e (iK q).symm)]
 have S:=d.QL G T;refine⟨C7 V i v,C7 EV i env,C7 BL i h.next,d.size,λj hj=>?_,CH,λj hj=>?_,λj hj=>mV _ (d.sub j hj),d.closed,λj hj k hk=>?_,λpre j post hq k hk=>?_,nE,d.defers,d.DG,H2,λj hj t ht=>?_,λt kK=>?_,λj hj t ht=>?_,d.ae,λj hj mD k t hk tT ht=>?_,λj hj mD t ht kK=>?_,λj hj mD=>?_,λj k hj hk mD tT Lb Lc kj kk e=>?_⟩
 ·rcases d.cover j hj with q|q
  ·exact .inl (mV _ q)
  ·rcases lM.1 q with rfl|q
   ·exact .inl (by simp)
   ·exact .inr q
 ·rcases lM.1 hj with rfl|hj
  ·exact T.lt
  ·exact d.tO j hj
 ·rcases lM.1 hj with rfl|hj
  ·exact mV _ (T.DP k hk)
  ·exact mV _ (d.yP j hj k hk)
 ·cases pre with
  |nil =>
   simp at hq;obtain⟨rfl,rfl⟩:=hq;exact T.DP k hk
  |cons x pre =>
   simp at hq;exact d.tail pre j post hq.2 k hk
 ·rw[CE];rcases lM.1 hj with rfl|hj
  ·rw[if_pos ht,AO]
  ·rw[if_neg (G.uniq j i t (d.tO j hj) T.lt (jw j hj) ht),rU _ _ (jw j hj)];exact d.cv j hj t ht
 ·rw[CE,if_neg (kK i (by simp))];exact d.ce t λj hj=>kK j (mV _ hj)
 ·have:=jw j (d.sub j hj);rw[rU _ _ this];exact d.av j hj t ht
 ·rcases lM.1 hj with rfl|hj
  ·rw[AO];obtain⟨s1,s2⟩:=S.sv k t hk tT ht;refine⟨λhb=>?_,s2⟩;have vy:k≠j:=λe=>T.out (Ba (D:=(· ∈dn)) d.yP j j T.DP (e▸hb));rw[rU _ _ vy];exact s1 hb
  ·rw[rU EV _ (jw j hj)];obtain⟨s1,s2⟩:=d.sv j hj mD k t hk tT ht;refine⟨λhb=>?_,s2⟩;have vy:k≠i:=λe=>T.out (Ba (D:=(· ∈dn)) d.yP j i (d.yP j hj) (e▸hb));rw[rU _ _ vy];exact s1 hb
 ·rcases lM.1 hj with rfl|hj
  ·rw[AO];exact S.se t ht kK
  ·rw[rU _ _ (jw j hj)];exact d.se j hj mD t ht kK
 ·rcases lM.1 hj with rfl|hj
  ·rw[AO,AO,AO];rcases pj with⟨q1,q2,_⟩|⟨q1,q2⟩
   ·exact .inl ⟨q1,q2⟩
   ·refine .inr ⟨q1,?_⟩;rcases q2 with⟨k1,k2⟩|⟨k1,k2,k3⟩|⟨k1,k2⟩
    ·exact .pure k1 k2
    ·exact .read k1 k2 k3
    ·obtain⟨oO,B,k⟩:=Vs (env:=uf env (looks A (ir A j))) k1 (by rw[P0];exact k2);refine .alloc oO B h h' k1 k k.val ?_ d.rel.free d.ext.next ?_
     ·rw[k.heap,Hp.lI,if_pos rfl]
     ·rw[k.heap];exact xF _
  ·rw[rU _ _ (jw j hj),rU _ _ (jw j hj),rU _ _ (jw j hj)];rcases d.again j hj mD with q|⟨q,l⟩
   ·exact .inl q
   ·refine .inr ⟨q,?_⟩;cases l with
    |pure k1 k2=>exact .pure k1 ((Ps k1 k2).2 h')
    |read k1 k2 k3 =>
     refine .read k1 ?_ (O1 _ k3);rcases hh with rfl|⟨B,rfl⟩
     ·exact k2
     ·exact(Pt k1 k2).2 B It
    | alloc oO B h0 kP k1 k2 k3 k4 k5 k6 k7 =>
     refine .alloc oO B h0 kP k1 k2 k3 ?_ k5 k6 ?_
     ·rcases hh with rfl|⟨B,rfl⟩
      ·exact k4
      ·rw[Hp.lI,if_neg (by omega)];exact k4
     ·rcases hh with rfl|⟨B,rfl⟩
      ·exact k7
      ·exact E9 k7
 ·have old:∀m,m∈dn → ¬Dn listed m→sE A (EV m) (ir A m)=some true→kz P (ir A m).op = .alloc→BL m<h.next:=λm hm hmd pq UN=>by
   rcases d.again m hm hmd with⟨q,_⟩|⟨q,l⟩
   ·rw[q]at pq;cases pq
   ·cases l with
    |pure k1 _=>rw[UN]at k1;cases k1
    |read k1 _ _=>rw[UN]at k1;cases k1
    |alloc oO B h0 kP k1 k2 k3 k4 k5 k6 k7=>exact k7
  rcases lM.1 hj with q1|ph<;>rcases lM.1 hk with q2|om
  ·rw[q1,q2]
  ·rw[q1,AO,rU _ _ (jw k om)]at e;rw[rU _ _ (jw k om)]at Lc;have:=old k om tT Lc kk;omega
  ·rw[q2,AO,rU _ _ (jw j ph)]at e;rw[rU _ _ (jw j ph)]at Lb;have:=old j ph mD Lb kj;omega
  ·rw[rU _ _ (jw j ph),rU _ _ (jw k om)]at e;rw[rU _ _ (jw j ph)]at Lb;rw[rU _ _ (jw k om)]at Lc;exact d.inj j k ph om mD tT Lb Lc kj kk e
end
end Go.V
end
section
namespace Go.V
section
variable{P:iY}{A:List Oper}{n:Nat}{dn L:List Nat}{pd:List sO}{env:Env}{h:Hp}{listed:Array Bool}{a:Act}{w:jb}{ρ ρs:Ren}{hs:Hp}{ws:jb}{e0:Env}{V:Nat→gE}{EV:Nat→Env}{BL:Nat→Nat}
theorem DI.mL{i:Nat}{L':List Nat}(d:DI P A n dn (i::L') pd env h listed a w ρ ρs hs ws e0 V EV BL)(G:zT A n)(hr:∀k,vl A i k→Dn listed k){v:gE}{u:iU}{h':Hp}{w':jb}{ρ':Ren}(jm:Hm P A true i pd h')(nE:Rel ρ' h' w')(hx:Ext ρ h w ρ' h' w')(hv:VR ρ' v u) :
  ∃V',DI P A n (i::dn) L' pd (uU env (ir A i).dst v) h' (listed.setIfInBounds i true) (a.put (ir A i).dst u) w' ρ' ρs hs ws e0 V' EV BL:=by
 obtain⟨T,CH,_⟩:=El d.ord;have kV:¬Dn listed i:=λq=>T.out (d.sub i q);have jw:∀j,j∈dn→j≠i:=λj hj e=>T.out (e▸hj);have jU:i<listed.size:=by rw[d.size];exact T.lt
 have CE:∀t,(uU env (ir A i).dst v).get t=if(ir A i).dst=some t then some v else env.get t:=λt=>by
  cases hd:(ir A i).dst with
  |none=>simp[uU]
  |some x =>
   simp only[uU,Go.V.T.jv]
   by_cases e:t=x
   ·subst e;simp
   ·rw[if_neg e,if_neg (λq=>e (iK q).symm)]
 have mE:∀t,(ir A i).dst≠some t→(a.put (ir A i).dst u).tmps.getD t undef=a.tmps.getD t undef:=λt ht=>by
  cases hd:(ir A i).dst with
  |none=>rfl
  |some x =>
   simp only[AQ,tC,zH];rw[if_neg (λe=>ht (by rw[hd,e]))]
 have Pa:∀t,(ir A i).dst=some t→(a.put (ir A i).dst u).tmps.getD t undef=u:=λt ht=>by
  rw[ht];simp only[AQ,tC,zH];simp only[if_true];rw[if_pos (by rw[d.DG];exact FI G.dst T.lt t ht)];rfl
 have HV:∀j,j∈i::dn → ¬Dn (listed.setIfInBounds i true) j→j∈dn ∧ ¬Dn listed j:=λj hj mD=>by
  have h1:j≠i:=λe=>mD ((qK jU).2 (.inl e));rcases lM.1 hj with q|q
  ·exact absurd q h1
  ·exact⟨q,λx=>mD ((qK jU).2 (.inr x))⟩
 refine⟨C7 V i v,by simp[d.size],λj hj=>?_,CH,λj hj=>?_,λj hj=>?_,λj hj k hk=>?_,λj hj k hk=>?_,λpre j post hq k hk=>?_,nE,?_,?_,d.ext.trans hx,λj hj t ht=>?_,λt kK=>?_,λj hj t ht=>?_,λt x kK BE=>?_,λj hj mD k t hk tT ht=>?_,λj hj mD t ht kK=>?_,λj hj mD=>?_,λj k hj hk mD tT=>?_⟩
 ·rcases d.cover j hj with q|q
  ·exact .inl (mV _ q)
  ·rcases lM.1 q with rfl|q
   ·exact .inl (by simp)
   ·exact .inr q
 ·rcases lM.1 hj with rfl|hj
  ·exact T.lt
  ·exact d.tO j hj
 ·rcases(qK jU).1 hj with rfl|hj
  ·simp
  ·exact mV _ (d.sub j hj)
 ·rcases(qK jU).1 hj with rfl|hj
  ·exact(qK jU).2 (.inr (hr k hk))
  ·exact(qK jU).2 (.inr (d.closed j hj k hk))
 ·rcases lM.1 hj with rfl|hj
  ·exact mV _ (T.DP k hk)
  ·exact mV _ (d.yP j hj k hk)
 ·cases pre with
  |nil =>
   simp at hq;obtain⟨rfl,rfl⟩:=hq;exact T.DP k hk
  |cons x pre =>
   simp at hq;exact d.tail pre j post hq.2 k hk
 ·cases(ir A i).dst<;>simp[AQ,d.defers]
 ·cases(ir A i).dst<;>simp[AQ,d.DG]
 ·rw[CE];rcases lM.1 hj with rfl|hj
  ·rw[if_pos ht,AO]
  ·rw[if_neg (G.uniq j i t (d.tO j hj) T.lt (jw j hj) ht),rU _ _ (jw j hj)];exact d.cv j hj t ht
 ·rw[CE,if_neg (kK i (by simp))];exact d.ce t λj hj=>kK j (mV _ hj)
 ·rcases(qK jU).1 hj with rfl|hj
  ·rw[Pa t ht,AO];exact hv
  ·have hn:=jw j (d.sub j hj);rw[mE t (λe=>G.uniq i j t T.lt (d.tO j (d.sub j hj)) (λq=>hn q.symm) e ht),rU _ _ hn];exact(d.av j hj t ht).mono hx.le
 ·rw[mE t (kK i ((qK jU).2 (.inl rfl)))];exact(d.ae t x (λj hj=>kK j ((qK jU).2 (.inr hj))) BE).mono hx.le
 ·obtain⟨ph,y9⟩:=HV j hj mD;obtain⟨s1,s2⟩:=d.sv j ph y9 k t hk tT ht;refine⟨λhb=>?_,s2⟩;have vy:k≠i:=λe=>T.out (Ba (D:=(· ∈dn)) d.yP j i (d.yP j ph) (e▸hb));rw[rU _ _ vy];exact s1 hb
 ·obtain⟨ph,y9⟩:=HV j hj mD;exact d.se j ph y9 t ht kK
 ·obtain⟨ph,y9⟩:=HV j hj mD;rw[rU _ _ (jw j ph)];rcases d.again j ph y9 with q|⟨q,l⟩
  ·exact .inl q
  ·refine .inr ⟨q,?_⟩;cases l with
   |pure k1 k2=>exact .pure k1 ((Ps k1 k2).2 h')
   |read k1 k2 k3 =>
    refine .read k1 (jm rfl _ k3 ?_) k3;cases hb:((qN A []).getD i 0).testBit j with
    |false=>rfl
    |true=>exact absurd (Ba d.closed i j hr hb) y9
   |alloc oO B h0 kP k1 k2 k3 k4 k5 k6 k7 =>
    obtain⟨p,q'⟩:=hx.other _ k5 k7;exact .alloc oO B h0 kP k1 k2 k3 (q'.trans k4) p k6 (sa k7 hx.next)
 ·obtain⟨ph,y9⟩:=HV j hj mD;obtain⟨om,acn⟩:=HV k hk tT;exact d.inj j k ph om y9 acn
def vI(listed:Array Bool):Nat→Nat
 |0=>0
 |m+1=>vI listed m+if listed.getD m false then 0 else 1
theorem ait:∀m,vI listed m=0 → ∀i,i<m→Dn listed i:=by
 intro m
 induction m with
 |zero=>intro _ i h;omega
 | succ m ih =>
  intro h i hi;simp only[vI]at h
  by_cases he:i=m
  ·subst he;unfold Dn;cases hq:listed.getD i false with
   |true=>rfl
   |false=>rw[hq]at h;simp at h
  ·exact ih (by omega) i (by omega)
theorem air{i:Nat}(hi:i<listed.size):∀m,m≤i→vI (listed.setIfInBounds i true) m=vI listed m:=by
 intro m
 induction m with
 |zero=>intro _;rfl
 | succ m ih =>
  intro h;simp only[vI,ih (by omega)]
  congr 1
  have:(listed.setIfInBounds i true).getD m false=listed.getD m false:=by
   rw[tC,zH,if_neg (by omega),tC]
  rw[this]
theorem ais{i:Nat}(hi:i<listed.size)(hn:¬Dn listed i):∀m,i<m→vI (listed.setIfInBounds i true) m+1=vI listed m:=by
 intro m
 induction m with
 |zero=>intro h;omega
 | succ m ih =>
  intro h;simp only[vI]
  by_cases he:i=m
  ·subst he;rw[air hi i (jg _)];have h1:(listed.setIfInBounds i true).getD i false=true:=(qK hi).2 (.inl rfl);have h2:listed.getD i false=false:=by
    cases hq:listed.getD i false with
    |false=>rfl
    |true=>exact absurd hq hn
   rw[h1,h2];simp
  ·have:(listed.setIfInBounds i true).getD m false=listed.getD m false:=by
    rw[tC,zH,if_neg he,tC]
   rw[this,←ih (by omega)];omega
theorem Qm{i:Nat}(hs:listed.size=A.length):i∈JC .any A.toArray listed↔i<A.length ∧ ¬Dn listed i ∧ ∀k,vl A i k→Dn listed k:=by
 unfold JC;rw[List.mem_filter,MV];simp only[List.size_toArray,AT];constructor
 ·rintro⟨h1,h2⟩;rw[CU h1]at h2;simp only[lE,sd,jK,tE]at h2;refine⟨h1,λq=>?_,λk ⟨e,he,hb,hk⟩=>?_⟩
  ·have:listed.getD i true=listed.getD i false:=by
    simp[tC,hs,h1]
   unfold Dn at q;rw[←this,h2.1]at q;cases q
  ·have:=(Array.all_eq_true_iff_forall_mem.1 h2.2) e (by simpa using he);rw[hb]at this;simp at this;rw[←hk];unfold Dn;rw[tC];simpa using this
 ·rintro⟨h1,h2,h3⟩;refine⟨h1,?_⟩;rw[CU h1];simp only[lE,sd,jK,tE];refine⟨?_,Array.all_eq_true_iff_forall_mem.2 λe he=>?_⟩
  ·have:listed.getD i true=listed.getD i false:=by
    simp[tC,hs,h1]
   rw[this];cases hq:listed.getD i false with
   |false=>rfl
   |true=>exact absurd hq h2
  ·cases hb:Dk .any e with
   |false=>rfl
   |true =>
    have:=h3 e.on ⟨e,by simpa using he,hb,rfl⟩;unfold Dn at this;simpa using this
theorem DI.all(d:DI P A n dn L pd env h listed a w ρ ρs hs ws e0 V EV BL)(kK:∀i,i<A.length → ¬Dn listed i → ¬∀k,vl A i k→Dn listed k):L=[] ∧ ∀i,i<A.length→Dn listed i:=by
 have h1:∀(post pre:List Nat),dn=pre++post → ∀j,j∈post→Dn listed j:=by
  intro post
  induction post with
  |nil=>intro pre _ j hj;cases hj
  |cons x post ih =>
   intro pre hq j hj;have Vc:=ih (pre++[x]) (by rw[hq];simp);rcases lM.1 hj with e|hj
   ·subst e;apply Js;intro kV;exact kK j (d.tO j (by rw[hq];simp)) kV λk hk=>Vc k (d.tail pre j post hq k hk)
   ·exact Vc j hj
 have h2:=h1 dn [] rfl;have hL:L=[]:=by
  cases L with
  |nil=>rfl
  |cons i L =>
   obtain⟨T,_,_⟩:=El d.ord;exact absurd (λk hk=>h2 k (T.DP k hk)) (kK i T.lt (λq=>T.out (d.sub i q)))
 refine⟨hL,λi hi=>?_⟩;rcases d.cover i hi with q|q
 ·exact h2 i q
 ·rw[hL]at q;cases q
theorem DI.run(G:zT A n){Q':Exit→Act→jb→Prop}(oB:L=[] → ∀listed a w ρ,DI P A n dn L pd env h listed a w ρ ρs hs ws e0 V EV BL→(∀i,i<A.length→Dn listed i)→Q' .normal a w)
  (aca:∀i L',L=i::L' → ∀listed a w ρ fuel,DI P A n dn L pd env h listed a w ρ ρs hs ws e0 V EV BL→vI (listed.setIfInBounds i true) A.length≤fuel→(∀k,vl A i k→Dn listed k)→wpOp P A.toArray Q' i (wpAny P .any A.toArray Q' fuel (listed.setIfInBounds i true)) a w)
  (abl:∀i L',L=i::L' → ∀r,r∈L'→sQ A r i) :
  ∀(fuel:Nat)listed a w ρ,DI P A n dn L pd env h listed a w ρ ρs hs ws e0 V EV BL→vI listed A.length≤fuel→wpAny P .any A.toArray Q' fuel listed a w:=by
 have CC:∀listed a w ρ,DI P A n dn L pd env h listed a w ρ ρs hs ws e0 V EV BL→JC .any A.toArray listed=[]→Q' .normal a w:=λlisted a w ρ d hr=>by
  obtain⟨q1,q2⟩:=d.all λi hi kV hk=>by
   have:i∈JC .any A.toArray listed:=(Qm d.size).2 ⟨hi,kV,hk⟩;rw[hr]at this;cases this
  exact oB q1 listed a w ρ d q2
 intro fuel
 induction fuel with
 | zero =>
  intro listed a w ρ d hu;have nS:=ait (listed:=listed) A.length (by omega);have hr:JC .any A.toArray listed=[]:=by
   apply List.eq_nil_iff_forall_not_mem.2;intro i hi;obtain⟨h1,h2,_⟩:=(Qm d.size).1 hi;exact h2 (nS i h1)
  exact⟨hr,CC listed a w ρ d hr⟩
 | succ fuel ih =>
  intro listed a w ρ d hu;refine⟨CC listed a w ρ d,λi hi=>?_⟩;obtain⟨h1,h2,h3⟩:=(Qm d.size).1 hi;have ze:vI (listed.setIfInBounds i true) A.length≤fuel:=by
   have:=ais (by rw[d.size];exact h1) h2 A.length h1;omega
  rcases d.cover i h1 with q|q
  ·exact d.late G q h2 h3 λa' w' ρ' d'=>ih _ a' w' ρ' d' ze
  ·cases hL:L with
   |nil=>rw[hL]at q;cases q
   |cons i0 L' =>
    rw[hL]at q;rcases lM.1 q with rfl|q
    ·exact aca i L' hL listed a w ρ fuel d ze h3
    ·have hb:=abl i0 L' hL i q;have hD:=Ba d.closed i i0 h3 hb;have CH:=d.ord;rw[hL]at CH;exact absurd (d.sub i0 hD) (El CH).1.out
end
end Go.V
end
section
namespace Go.V
section
variable{P:iY}{K:Tb}
inductive Dx(P:iY)(c:Code)(Q:Exit→Act→jb→Prop):Act→jb→Prop where
 |mk {a:Act} {w:jb} (M:Exit→Act→jb→Prop):c.wp P M a w→(∀a' w',M .normal a' w'→Dx P c Q a' w')→(∀e a' w',e ≠ .normal→M e a' w'→Q e a' w')→Dx P c Q a w
theorem Dx.wp{c:Code}{Q:Exit→Act→jb→Prop}{a:Act}{w:jb}(h:Dx P c Q a w):(Code.loop c).wp P Q a w:=by
 intro b k cs;have key:∃e a' w',Q e a' w'∧Arrives P (lone (b.at a (.code c :: .inLoop c::k)) cs w) b k cs e a' w':=by
  induction h with
  | mk M hc hn hq ih =>
   obtain⟨e,Fu,GM,hm,Cy⟩:=hc b (.inLoop c::k) cs;cases e with
   |normal =>
    obtain⟨aaK,Yz,aiV,acV,abn⟩:=ih Fu GM hm;exact⟨aaK,Yz,aiV,acV,.of_steps (Steps.trans Cy (.one step_inLoop)) abn⟩
   |exit id=>exact⟨_,Fu,GM,hq _ _ _ (by simp) hm,.pass (x:=.inLoop c) rfl (λ_ _=>.inl (by simp)) Cy⟩
   |goto l=>exact⟨_,Fu,GM,hq _ _ _ (by simp) hm,.pass (x:=.inLoop c) rfl (λ_ _=>.inl (by simp)) Cy⟩
   |ret=>exact⟨_,Fu,GM,hq _ _ _ (by simp) hm,.pass (x:=.inLoop c) rfl (λ_ _=>.inl (by simp)) Cy⟩
   |panic ch=>exact⟨_,Fu,GM,hq _ _ _ (by simp) hm,.pass (x:=.inLoop c) rfl (λ_ _=>.inl (by simp)) Cy⟩
   |outgrown=>exact⟨_,Fu,GM,hq _ _ _ (by simp) hm,.pass (x:=.inLoop c) rfl (λ_ _=>.inl (by simp)) Cy⟩
 obtain⟨e,a',w',hq,Cy⟩:=key;exact⟨e,a',w',hq,.of_steps (.one step_loop) Cy⟩
def Q1(P:iY):Code→(Exit→Act→jb→Prop)→Act→jb→Prop
 | .loop c,Q,a,w=>Dx P c Q a w
 |c,Q,a,w=>c.wp P Q a w
theorem Q1.wp{c:Code}{Q:Exit→Act→jb→Prop}{a:Act}{w:jb}(h:Q1 P c Q a w):c.wp P Q a w:=by
 cases c<;>first|exact h|exact Dx.wp h
def Sn(P:iY):Fg→(Out→Prop)→Prop
 | .code n c env h,Q=>∀ρ w a ρs hs ws,rE ρ env h n a w→Ext ρs hs ws ρ h w→Q1 P c (rD Q ρs hs ws n) a w
 | .ops n A dr L pd env h,Q=>uF n A=true →
   (dr=false → ∀ρ w a ρs hs ws,rE ρ env h n a w→Ext ρs hs ws ρ h w→wpList P A.toArray (rD Q ρs hs ws n) (L.map (ir A)) a w) ∧
   (dr=true→zT A n → ∀dn listed a w ρ ρs hs ws e0 V EV BL,DI P A n dn L pd env h listed a w ρ ρs hs ws e0 V EV BL → ∀fuel,vI listed A.length≤fuel→wpAny P .any A.toArray (rD Q ρs hs ws n) fuel listed a w)
 | .call f args h,Q=>∀ρ w nP,Rel ρ h w→jc ρ args nP→M3 P f nP.toArray w λv' w'=>∃v h' ρ',Q (.call v h')∧VR ρ' v v'∧Rel ρ' h' w'∧Ext ρ h w ρ' h' w'
theorem rD.pE{Q:Out→Prop}{ρs hs ws n a w ρ h env}{e0:Ex}(s:rE ρ env h n a w)(x:Ext ρs hs ws ρ h w)(q:Q (.code e0 env h)):rD Q ρs hs ws n (FK e0) a w :=
 ⟨⟨e0,env,h,ρ,rfl,q,s.rel,s.env,x⟩,s.defers,s.size⟩
theorem aaG{e:Ex}(h:Exit.normal=FK e):e = .mZ:=by cases e<;>simp[FK]at h ⊢
theorem rD.st{Q:Out→Prop}{ρs hs ws n a w}{e:Exit}(p:rD Q ρs hs ws n e a w):∃e0 env h ρ,e=FK e0∧Q (.code e0 env h)∧rE ρ env h n a w∧Ext ρs hs ws ρ h w:=by
 obtain⟨⟨e0,env,h,ρ,h1,h2,h3,h4,h5⟩,h6,h7⟩:=p;exact⟨e0,env,h,ρ,h1,h2,⟨h3,h4,h6,h7⟩,h5⟩
theorem Xy{o:Oper}{env:Env}{h h':Hp}{n:Nat}{a:Act}{w:jb}{ρ:Ren}{v:gE}{Kk:Act→jb→Prop}{Q:Exit→Act→jb→Prop}(r:Rel ρ h w){E:Env}(hE:mj ρ E a)(hv:jz P E h o.op=some (v,h'))
  (hK:∀ρ' w' u,VR ρ' v u→Rel ρ' h' w'→Ext ρ h w ρ' h' w'→Kk (a.put o.dst u) w'):o.wp P a w Kk Q:=by
 obtain⟨ρ',w',r',u,e1,e2,e3,e4,e5⟩:=WM (a:=a) r hE hv;unfold Oper.wp;rw[e1];exact VX _ _ e2 (hK ρ' w' u e3 e4 e5)
theorem Xx{o:Oper}{f:nI}{vs:List gE}{E:Env}{h:Hp}{n:Nat}{a:Act}{w:jb}{ρ:Ren}{Q0:Out→Prop}{Kk:Act→jb→Prop}{Q:Exit→Act→jb→Prop}(s:rE ρ E h n a w)(ht:uk E o.op=some (f,vs))(hc:Sn P (.call f vs h) Q0)
  (hK:∀v h' ρ' w' u,Q0 (.call v h')→VR ρ' v u→Rel ρ' h' w'→Ext ρ h w ρ' h' w'→Kk (a.put o.dst u) w'):o.wp P a w Kk Q:=by
 obtain⟨nP,h1,h2⟩:=ahk s ht;unfold Oper.wp;rw[h2];rcases hc ρ w nP s.rel h1 with⟨e1,e2⟩|⟨v',w',e1,v,h',ρ',e2,e3,e4,e5⟩
 ·rw[e1];simp only[Oper.upon];refine De e2 λe w' q=>?_;cases e with
  |returned v' =>
   obtain⟨v,h',ρ',q1,q2,q3,q4⟩:=q;exact hK v h' ρ' w' v' q1 q2 q3 q4
  |panicked c=>exact q.elim
  |outgrown=>exact q.elim
 ·rw[e1];exact hK v h' ρ' w' v' e2 e3 e4 e5
theorem aib{A:List Oper}{o:Oper}{E:Env}:uk (uf E (looks A o)) o.op=uk E o.op:=by
 have he:∀t,t∈tmpsOf o.op→(uf E (looks A o)).get t=E.get t:=λt ht=>by rw[LS,if_pos (Xe ht)]
 unfold uk
 split
 ·rename_i x args nt ho;have hm:∀y:iT,y∈(MB ⟨.value x,args,nt⟩).toList → ∀t,y = .tmp t→(uf E (looks A o)).get t=E.get t:=λy hy t e=>he t (IE (by rw[ho,←e];exact hy));rw[HJ (env2:=E) (hm x (by simp[MB])),TX (env2:=E) λt ht=>hm _ (by simp[MB];exact .inr (by simpa using ht)) t rfl]
 ·rfl
theorem afz(A:List Oper):(mI A.length).map (ir A)=A:=by
 apply Ca;intro i;simp only[sF]
 by_cases h:i<A.length
 ·rw[List.getElem?_range h,CU h];rfl
 ·rw[zN (by simpa using h),zN (by simpa using h)];rfl
theorem afi{i:Nat}{A:List Oper}{env:Env}{v:gE}{pd:List sO}(h:kz P (ir A i).op = .mL):uT P A i env v pd=pd:=by
 unfold uT;rw[if_neg];rw[h];intro e;cases e
theorem QX{env:Env}{op:Op}{f:nI}{vs:List gE}(h:uk env op=some (f,vs)):kz P op = .mL:=by
 unfold uk at h
 split at h
 ·rfl
 ·cases h
theorem WD(hK:vO P K){j:Fg}{Q:Out→Prop}(x:XW P K j Q):Sn P j Q:=by
 induction x with
 |skip q=>intro ρ w a ρs hs ws s x;exact wp_skip (rD.pE s x q)
 |label q=>intro ρ w a ρs hs ws s x;exact wp_label (rD.pE s x q)
 |exit q=>intro ρ w a ρs hs ws s x;exact wp_exit (rD.pE s x q)
 |ret q=>intro ρ w a ρs hs ws s x;exact wp_ret (rD.pE s x q)
 |seq _ _ kK tY qB =>
  intro ρ w a ρs hs ws s x;refine wp_seq (RH (tY ρ w a ρs hs ws s x).wp λe a' w' p=>?_);obtain⟨e0,lr,h',ρ',rfl,q,s',x'⟩:=p.st;cases e0 with
  |mZ=>exact(qB lr h' q ρ' w' a' ρs hs ws s' x').wp
  |ext i=>exact rD.pE s' x' (kK _ _ _ (by simp) q)
  |ret=>exact rD.pE s' x' (kK _ _ _ (by simp) q)
 |cond hx _ ih =>
  rename_i n x a' b' env h Q t _;intro ρ w a ρs hs ws s x;have hv:=mS s.env hx;generalize hu:a.eval _=u at hv;cases hv;refine wp_cond hu ?_;cases t
  ·exact(ih ρ w a ρs hs ws s x).wp
  ·exact(ih ρ w a ρs hs ws s x).wp
 | block _ hq ih =>
  rename_i id c env h M Q;intro ρ w a ρs hs ws s x;refine wp_block (RH (ih ρ w a ρs hs ws s x).wp λe a' w' p=>?_);obtain⟨e0,lr,h',ρ',rfl,q,s',x'⟩:=p.st;have q':=hq _ _ _ q;cases e0 with
  |mZ=>exact rD.pE s' x' q'
  |ret=>exact rD.pE s' x' q'
  |ext i =>
   simp only[FK,Exit.inBlock];simp only at q'
   split
   ·rename_i e;rw[if_pos e]at q';exact rD.pE s' x' q'
   ·rename_i e;rw[if_neg e]at q';exact rD.pE s' x' q'
 |loop _ _ kK tY qB =>
  rename_i n c env h M Q _ _;intro ρ w a ρs hs ws s x;refine Dx.mk (rD M ρs hs ws n) (tY ρ w a ρs hs ws s x).wp (λa' w' p=>?_) (λe a' w' ne p=>?_)
  ·obtain⟨e0,lr,h',ρ',he,q,s',x'⟩:=p.st;obtain rfl:=aaG he;exact qB lr h' q ρ' w' a' ρs hs ws s' x'
  ·obtain⟨e0,lr,h',ρ',rfl,q,s',x'⟩:=p.st;exact rD.pE s' x' (kK _ _ _ (λe=>ne (by rw[e];rfl)) q)
 | region hd hL _ ih =>
  rename_i n id A dr L env h Q _;intro ρ w a ρs hs ws s x;obtain⟨tY,qB⟩:=ih hd;cases dr with
  |false =>
   simp only[sY,if_false]at hL;refine wp_region_lit ?_;have:=tY rfl ρ w a ρs hs ws s x;rw[hL,afz]at this;exact this
  | true =>
   simp only[if_true]at hL;obtain⟨G,CH,DX⟩:=aeZ hd hL.2;refine wp_region_any hL.1 ?_;have kK:∀i,¬Dn (Mw A.length false) i:=λi q=>by
    unfold Dn at q;rw[tC,Array.getElem?_replicate]at q
    split at q<;>simp at q
   have hx:=x.trans (Ext.drew ρ h w);have d:DI P A n [] L [] env h (Mw A.length false) a w.drew ρ ρs hs ws env (λ_=>.no) (λ_=>.lf) (λ_=>0) :=
    ⟨by simp,λi hi=>.inr (DX i hi),CH,λi hi=>(by cases hi),λi hi=>absurd hi (kK i),λi hi=>absurd hi (kK i),λi hi=>(by cases hi),λpre j post hq=>(by simp at hq),s.rel.drew,s.defers,s.size,hx,λi hi=>(by cases hi),λt _=>rfl,λi hi=>absurd hi (kK i),λt v _ hv=>s.env t v hv,λi hi=>(by cases hi),λi hi=>(by cases hi),λi hi=>(by cases hi),λi j hi=>(by cases hi)⟩
   have BA:∀m,vI (Mw A.length false) m≤m:=λm=>by
    induction m with
    |zero=>exact jg _
    |succ m ih=>simp only[vI];split<;>omega
   have:=qB rfl G _ _ _ _ _ _ _ _ _ _ _ _ d A.length (BA _);simpa using this
 |IK q =>
  rename_i n A dr pd env h Q;intro hd;refine⟨λ_ ρ w a ρs hs ws s x=>wpList_nil (rD.pE (e0:=.mZ) s x q),λ_ G dn listed a w ρ ρs hs ws e0 V EV BL d fuel hu=>?_⟩;refine DI.run (ρs:=ρs) (hs:=hs) (ws:=ws) (e0:=e0) (V:=V) (EV:=EV) (BL:=BL) (dn:=dn) G (λ_ listed a w ρ d nS=>?_) (λi L' e=>by cases e) (λi L' e=>by cases e) fuel listed a w ρ d hu;refine rD.pE (e0:=.mZ) ⟨d.rel,λt v hv=>?_,d.defers,d.DG⟩ d.ext q
  by_cases hx:∃i,i∈dn∧(ir A i).dst=some t
  ·obtain⟨i,hi,ht⟩:=hx;have FP:=d.cv i hi t ht;rw[hv]at FP;obtain rfl:=iK FP;exact d.av i (nS i (d.tO i hi)) t ht
  ·have kK:∀i,i∈dn→(ir A i).dst≠some t:=λi hi ht=>hx ⟨i,hi,ht⟩;exact d.ae t v (λi hi=>kK i (d.sub i hi)) (by rw[←d.ce t kK];exact hv)
 |IL hi hw _ ih =>
  intro hd;obtain⟨tY,qB⟩:=ih hd;refine⟨λlX ρ w a ρs hs ws s x=>?_,λlX G dn listed a w ρ ρs hs ws e0 V EV BL d fuel hu=>?_⟩
  ·rw[qI];unfold wpList;rw[ED s hd hw];simp only[sY,if_false];exact tY lX ρ w _ ρs hs ws (s.put (FI hd hi) VR.Gl) x
  ·obtain⟨V',A3,A0,d'⟩:=d.step G (v:=.no) (.inl rfl) (λq h=>h) (.inl ⟨hw,rfl,rfl⟩);exact qB lX G _ listed a w ρ ρs hs ws e0 V' A3 A0 d' fuel hu
 | BQ hi hw hv jm _ ih =>
  rename_i n A dr i L pd env h Q v h' _;intro hd;obtain⟨tY,qB⟩:=ih hd;refine⟨λlX ρ w a ρs hs ws s x=>?_,λlX G dn listed a w ρ ρs hs ws e0 V EV BL d fuel hu=>?_⟩
  ·rw[qI];unfold wpList;rw[ED s hd hw];simp only[if_true];exact .inl (Xy (env:=env) (n:=n) s.rel s.env hv λρ' w' u q1 q2 q3=>tY lX ρ' w' _ ρs hs ws ((s.pE q2 q3).put (FI hd hi) q1) (x.trans q3))
  ·subst lX;cases hk:kz P (ir A i).op with
   |mL =>
    obtain⟨T,_,_⟩:=El d.ord;have O1:=afi (env:=env) (v:=v) (pd:=pd) hk;rw[O1]at qB;refine DI.run G (λe=>by cases e) (λi0 L' e listed a w ρ fuel d hu hr=>?_) (λi0 L' e r hr=>?_) fuel listed a w ρ d hu
    ·injection e with e1 e2;subst e1;subst e2;have kV:¬Dn listed i:=λq=>T.out (d.sub i q);have S:=d.QL G T;have s:=rE.uf d G hi kV hr S;unfold wpOp;simp only[AT,CU hi];rw[ED s hd (by rw[Mo];exact hw)];simp only[if_true];refine .inl (Xy (env:=env) (n:=n) d.rel s.env (by rw[P0];exact hv) λρ' w' u q1 q2 q3=>?_);obtain⟨V',d'⟩:=d.mL G hr (jm hk) q2 q3 q1;exact qB rfl G _ _ _ _ _ _ _ _ _ _ _ _ d' fuel hu
    ·injection e with e1 e2;subst e1;subst e2;exact T.mL hk r hr
   |pure =>
    obtain⟨rfl,hq⟩:=Ps hk hv;obtain⟨V',A3,A0,d'⟩:=d.step G (v:=v) (.inl rfl) (pd':=uT P A i env v pd) (λq h=>by unfold uT;split<;>simp[h]) (.inr ⟨hw,.inl ⟨hk,hv⟩⟩);exact qB rfl G _ listed a w ρ ρs hs ws e0 V' A3 A0 d' fuel hu
   |read =>
    obtain⟨rfl,hq⟩:=Pt hk hv;obtain⟨V',A3,A0,d'⟩:=d.step G (v:=v) (.inl rfl) (pd':=uT P A i env v pd) (λq h=>by unfold uT;split<;>simp[h]) (.inr ⟨hw,.inr (.inl ⟨hk,hv,by unfold uT;rw[if_pos hk];simp⟩)⟩);exact qB rfl G _ listed a w ρ ρs hs ws e0 V' A3 A0 d' fuel hu
   |alloc =>
    obtain⟨oO,B,k⟩:=Vs hk hv;obtain⟨V',A3,A0,d'⟩:=d.step G (v:=v) (.inr ⟨B,k.heap⟩) (pd':=uT P A i env v pd) (λq h=>by unfold uT;split<;>simp[h]) (.inr ⟨hw,.inr (.inr ⟨hk,hv⟩)⟩);exact qB rfl G _ listed a w ρ ρs hs ws e0 V' A3 A0 d' fuel hu
 | Gp hi hw ht _ jm _ tY qB =>
  rename_i n A dr i L pd env h M Q f args _ _;intro hd;refine⟨λlX ρ w a ρs hs ws s x=>?_,λlX G dn listed a w ρ ρs hs ws e0 V EV BL d fuel hu=>?_⟩
  ·rw[qI];unfold wpList;rw[ED s hd hw];simp only[if_true];exact .inl (Xx s ht tY λv h' ρ' w' u q0 q1 q2 q3=>(qB v h' q0 hd).1 lX ρ' w' _ ρs hs ws ((s.pE q2 q3).put (FI hd hi) q1) (x.trans q3))
  ·subst lX;obtain⟨T,_,_⟩:=El d.ord;refine DI.run G (λe=>by cases e) (λi0 L' e listed a w ρ fuel d hu hr=>?_) (λi0 L' e r hr=>?_) fuel listed a w ρ d hu
   ·injection e with e1 e2;subst e1;subst e2;have kV:¬Dn listed i:=λq=>T.out (d.sub i q);have S:=d.QL G T;have s:=rE.uf d G hi kV hr S;unfold wpOp;simp only[AT,CU hi];rw[ED s hd (by rw[Mo];exact hw)];simp only[if_true];refine .inl (Xx s (by rw[aib];exact ht) tY λv h' ρ' w' u q0 q1 q2 q3=>?_);obtain⟨V',d'⟩:=d.mL G hr (jm v h' q0) q2 q3 q1;exact(qB v h' q0 hd).2 rfl G _ _ _ _ _ _ _ _ _ _ _ _ d' fuel hu
   ·injection e with e1 e2;subst e1;subst e2;exact T.mL (QX ht) r hr
 |call hf hb hn hl _ hq ih =>
  rename_i f args h M Q fn c _;intro ρ w nP r hr;refine .inl ⟨L4 hf hb hn _ w,?_⟩;refine calls_of_wp hf hb (RH (ih ρ w _ ρ h w (aaD r hr hl) (Ext.refl _ _ _)).wp λe a' w' p=>?_);obtain⟨e0,lr,h',ρ',rfl,q,s',x'⟩:=p.st;obtain⟨q1,vs,q2,q3⟩:=hq _ _ _ q;obtain⟨us,g1,g2⟩:=agE s' q2;rcases q1 with rfl|rfl
  ·exact⟨s'.defers,_,g2,_,_,_,q3,VO g1,s'.rel,x'⟩
  ·exact⟨s'.defers,_,g2,_,_,_,q3,VO g1,s'.rel,x'⟩
 | known hk hq =>
  intro ρ w nP r hr;rcases hK _ _ _ _ hk ρ w nP r hr with⟨e1,e2⟩|⟨v',w',e1,v,h',ρ',e2,e3⟩
  ·refine .inl ⟨e1,De e2 λe w' q=>?_⟩;cases e with
   |returned v'=>obtain⟨v,h',ρ',q1,q2⟩:=q;exact⟨v,h',ρ',hq v h' q1,q2⟩
   |panicked c=>exact q.elim
   |outgrown=>exact q.elim
  ·exact .inr ⟨v',w',e1,v,h',ρ',hq v h' e2,e3⟩
end
end Go.V
end
section
namespace Go.V
section
variable{P:iY}{K:Tb}{ρ:Ren}{h:Hp}{w:jb}
def XG:Ren:=λ_=>none
theorem Rel.nothing(w:jb):Rel XG Hp.empty w :=
 ⟨λb i e=>(by cases e),λb i B e=>(by cases e),λb b' i i' e=>(by cases e),λb _=>rfl⟩
def sf(h:Hp):Prop:=∀b,¬own h b
theorem sf.empty:sf Hp.empty:=λb ⟨B,q,_⟩=>by cases q
def Rel.pZ(ρ:Ren)(h:Hp)(g off:Nat):Ren:=ρ.put h.next ⟨g,off,0,0,0⟩
theorem sf.pZ(hb:sf h)(vs:List gE):sf (h.new (.ro vs)):=λb ⟨B,q1,q2⟩=>by
 rw[Hp.lI]at q1
 split at q1
 ·obtain rfl:=iK q1;cases q2
 ·exact hb b ⟨B,q1,q2⟩
theorem Rel.view(r:Rel ρ h w)(hb:sf h){g off:Nat}{vs:List gE}{us:List iU}(h1:vs.all gE.one=true)(hv:jc ρ vs us)(hr:∀j u,us[j]? =some u→w.cell? ⟨g,off+j,none⟩=some u)(hg:g<w.heap.size) :
  Rel (Rel.pZ ρ h g off) (h.new (.ro vs)) w∧ρ.le (Rel.pZ ρ h g off)∧(Rel.pZ ρ h g off) h.next=some ⟨g,off,0,0,0⟩:=by
 have hle:=Ren.Ed (ρ:=ρ) (b:=h.next) ⟨g,off,0,0,0⟩ r.free;have mE:∀b i,(Rel.pZ ρ h g off) b=some i→(b=h.next∧i=⟨g,off,0,0,0⟩)∨(b≠h.next∧ρ b=some i):=λb i e=>by
  unfold Rel.pZ Ren.put at e
  split at e
  ·rename_i q;exact .inl ⟨q,(iK e).symm⟩
  ·rename_i q;exact .inr ⟨q,e⟩
 refine⟨⟨λb i e=>?_,λb i B e f=>?_,λb b' i i' e e' l l' _=>absurd l' (hb.pZ vs b'),λk hk=>?_⟩,hle,by simp[Rel.pZ,Ren.put]⟩
 ·rcases mE b i e with⟨rfl,rfl⟩|⟨_,e⟩
  ·exact⟨xF _,hg⟩
  ·have:=r.nv b i e;exact⟨E9 this.1,this.2⟩
 ·rcases mE b i e with⟨rfl,rfl⟩|⟨hk,e⟩
  ·rw[Hp.lI,if_pos rfl]at f;obtain rfl:=iK f;refine⟨h1,λj u hj=>?_⟩;obtain⟨u',q1,q2⟩:=hv.at hj;exact⟨u',hr j u' q1,q2.mono hle⟩
  ·rw[Hp.lI,if_neg hk]at f;exact(r.kG b i B e f).congr hle rfl
 ·have om:h.next+1≤k:=hk;rw[Hp.lI,if_neg (by omega)];exact r.wf k (by omega)
theorem XW.back{f:nI}{fn:Func}{c:Code}{args:List gE}{nP:List iU}{M:gE→Hp→Prop}(hK:vO P K)(hf:P.funcs[f]? =some fn)(hb:fn.body=some c)(hn:fn.name ≠ "runtime.NumGoroutine")(r:Rel ρ h w)(hv:jc ρ args nP)(x:XW P K (.call f args h) λo=>∃v h',o = .call v h'∧M v h') :
  GS P f nP.toArray w (LU λv' w'=>∃v h' ρ',M v h'∧VR ρ' v v'∧Rel ρ' h' w'∧Ext ρ h w ρ' h' w'):=by
 rcases WD hK x ρ w nP r hv with⟨_,e2⟩|⟨v',w',e1,_⟩
 ·refine De e2 λe w' q=>?_;cases e with
  |returned v' =>
   obtain⟨v,h',ρ',⟨v2,h2,e,q1⟩,q2⟩:=q;obtain⟨rfl,rfl⟩:=Out.call.inj e;exact⟨_,_,ρ',q1,q2⟩
  |panicked c=>exact q.elim
  |outgrown=>exact q.elim
 ·rw[L4 hf hb hn nP.toArray w]at e1;cases e1
structure Kept(w w':jb):Prop where
 os:w'.os=w.os
 tape:w'.tape=w.tape
 output:w'.output=w.output
 size:w.heap.size≤w'.heap.size
 block:∀k,k<w.heap.size→w'.heap[k]? =w.heap[k]?
 drawn:w.drawn≤w'.drawn
theorem Ext.kept{ρ':Ren}{h':Hp}{w':jb}(x:Ext ρ h w ρ' h' w')(hb:sf h):Kept w w' :=
 ⟨x.os,x.tape,x.output,x.size,λk hk=>(x.frame k hk λb i _ q=>absurd q (hb b)).1,x.drawn⟩
theorem XW.law{f:nI}{fn:Func}{c:Code}{args:List gE}{nP:List iU}(hK:vO P K)(hf:P.funcs[f]? =some fn)(hb:fn.body=some c)(hn:fn.name ≠ "runtime.NumGoroutine")(r:Rel ρ h w)(hh:sf h)(hv:jc ρ args nP)(x:XW P K (.call f args h) λo=>∃v h',o = .call v h'∧v = .b true) :
  GS P f nP.toArray w (LU λv' w'=>v' = .bool true∧Kept w w'):=by
 refine De (XW.back hK hf hb hn r hv (M:=λv _=>v = .b true) x) λe w' q=>?_;cases e with
 |returned v' =>
  obtain⟨v,h',ρ',rfl,q2,q3,q4⟩:=q;cases q2;exact⟨rfl,q4.kept hh⟩
 |panicked c=>exact q.elim
 |outgrown=>exact q.elim
end
end Go.V
end
section
namespace Go.V
mutual
def gE.Kz:gE→gE→Bool
 | .b x,.b y=>x==y
 | .i k n,.i j m=>decide (k=j)&&decide (n=m)
 | .s x,.s y=>decide (x=y)
 | .p a,.p b=>decide (a=b)
 | .sl a n c,.sl b m d=>decide (a=b)&&decide (n=m)&&decide (c=d)
 | .es,.es=>true
 | .m a,.m b=>decide (a=b)
 | .f g cs,.f g' ds=>decide (g=g')&&Ct cs ds
 | .nf,.nf=>true
 | .agg cs,.agg ds=>Ct cs ds
 | .kx cs,.kx ds=>Ct cs ds
 |_,_=>false
def Ct:List gE→List gE→Bool
 |[],[]=>true
 |x::r,y::s=>gE.Kz x y&&Ct r s
 |_,_=>false
end
mutual
theorem gE.TS:∀{x y:gE},gE.Kz x y=true→x=y:=by
 intro x y h;cases x<;>cases y<;>simp only[gE.Kz,jK,decide_eq_true_eq,beq_iff_eq,sY]at h
 ·rw[h]
 ·rw[h.1,h.2]
 ·rw[h]
 ·rw[h]
 ·rw[h.1.1,h.1.2,h.2]
 ·rfl
 ·rw[h]
 ·rw[h.1,KA h.2]
 ·rfl
 ·rw[KA h]
 ·rw[KA h]
theorem KA:∀{x y:List gE},Ct x y=true→x=y:=by
 intro x y h;cases x with
 |nil=>cases y with
  |nil=>rfl
  |cons _ _=>simp[Ct]at h
 | cons a r=>cases y with
  |nil=>simp[Ct]at h
  |cons b s =>
   simp only[Ct,jK]at h;rw[gE.TS h.1,KA h.2]
end
section
variable(P:iY)
def GJ(A:List Oper)(dr:Bool)(i:Nat)(pd:List sO)(h:Hp):Bool :=
 !dr||pd.all λq=>((qN A []).getD i 0).testBit q.idx||(match kz P q.op,jz P q.env h q.op with
  | .read,some (v,_)=>gE.Kz v q.v
  |_,_=>false)
def VQ(A:List Oper):Nat→List Nat→List Nat→List Nat
 |0,_,acc=>acc.reverse
 |n+1,todo,acc =>
  let ready:=todo.filter λi=>(ir A i).after.toList.all λe=>!Dk .any e||acc.contains e.on
  match(ready.find? λi=>decide (kz P (ir A i).op ≠ .mL)).or ready.head? with
  |some i=>VQ A n (todo.filter (· !=i)) (i::acc)
  |none=>acc.reverse
def afc(A:List Oper):List Nat:=VQ P A A.length (mI A.length) []
def pz:Nat→Fg→Option Out
 |0,_=>none
 | k+1,.code n c env h=>match c with
  | .skip=>some (.code .mZ env h)
  | .label _=>some (.code .mZ env h)
  | .exit i=>some (.code (.ext i) env h)
  | .ret=>some (.code .ret env h)
  | .seq a b=>(pz k (.code n a env h)).bind λo=>match o with
   | .code .mZ lr h'=>pz k (.code n b lr h')
   |o=>some o
  | .cond x a b=>match jI env x with
   |some (.b t)=>pz k (.code n (bif t then a else b) env h)
   |_=>none
  | .block id a=>(pz k (.code n a env h)).map λo=>match o with
   | .code (.ext i) lr h'=>.code (if i=id then .mZ else .ext i) lr h'
   |o=>o
  | .loop a=>(pz k (.code n a env h)).bind λo=>match o with
   | .code .mZ lr h'=>pz k (.code n (.loop a) lr h')
   |o=>some o
  | .region id A dr =>
   let L:=bif dr then afc P A.toList else mI A.toList.length
   if uF n A.toList=true∧(dr=true→P.follows .mixedOrders=true∧CT P A.toList L=true)then pz k (.ops n A.toList dr L [] env h)else none
  |_=>none
 | k+1,.ops n A dr L pd env h=>match L with
  |[]=>some (.code .mZ env h)
  | i::L=>if i < A.length then match sE A env (ir A i) with
   |some false=>pz k (.ops n A dr L pd (uU env (ir A i).dst .no) h)
   | some true=>match uk env (ir A i).op with
    |some (f,args)=>(pz k (.call f args h)).bind λo=>match o with
     | .call v h'=>bif GJ P A dr i pd h' then pz k (.ops n A dr L pd (uU env (ir A i).dst v) h')else none
     |_=>none
    |none=>(jz P env h (ir A i).op).bind λq =>
     if kz P (ir A i).op = .mL→GJ P A dr i pd q.2=true then pz k (.ops n A dr L (uT P A i env q.1 pd) (uU env (ir A i).dst q.1) q.2)else none
   |none=>none
   else none
 | k+1,.call f args h=>match P.funcs[f]? with
  | some fn=>match fn.body with
   |some c=>if fn.name ≠ "runtime.NumGoroutine" ∧args.length≤fn.ntmps then(pz k (.code fn.ntmps c (DC 0 args .lf) h)).bind λo=>match o with
    | .code .mZ lr h'=>(wy P lr h' fn.results.toList).map λvs=>.call (zq vs) h'
    | .code .ret lr h'=>(wy P lr h' fn.results.toList).map λvs=>.call (zq vs) h'
    |_=>none
    else none
   |none=>none
  |none=>none
end
theorem W6{P:iY}{A:List Oper}{dr:Bool}{i:Nat}{pd:List sO}{h:Hp}(hb:GJ P A dr i pd h=true):Hm P A dr i pd h:=by
 intro hd q hq abt;subst hd;simp only[GJ,nH,nG]at hb;have:=j9.1 hb q hq;rw[abt,nG]at this
 split at this
 ·rename_i v h' hk ho;rw[ho];obtain⟨rfl,_⟩:=Pt hk ho;rw[gE.TS this]
 ·cases this
theorem TW{P:iY}{K:Tb}:∀(k:Nat)(j:Fg)(o:Out),pz P k j=some o→XW P K j (· =o):=by
 intro k
 induction k with
 |zero=>intro j o h;simp[pz]at h
 | succ k ih =>
  intro j o hj;cases j with
  | code n c env h =>
   cases c with
   |skip=>simp only[pz,km]at hj;exact .skip hj
   |label i=>simp only[pz,km]at hj;exact .label hj
   |exit i=>simp only[pz,km]at hj;exact .exit hj
   |ret=>simp only[pz,km]at hj;exact .ret hj
   | seq a b =>
    simp only[pz]at hj;rw[iO]at hj;obtain⟨o1,h1,h2⟩:=hj;refine .seq (ih _ _ h1) (λlr h' e=>?_) (λe lr h' ne he=>?_)
    ·subst e;exact ih _ _ h2
    ·subst he;cases e with
     |mZ=>exact absurd rfl ne
     |ext i=>exact iK h2
     |ret=>exact iK h2
   |cond x a b =>
    simp only[pz]at hj
    split at hj
    ·rename_i t hx;exact .cond hx (ih _ _ hj)
    ·cases hj
   |block id a =>
    simp only[pz]at hj;obtain⟨o1,h1,h2⟩:=jR.1 hj;refine .block (ih _ _ h1) λe lr h' he=>?_;subst he;cases e<;>exact h2
   | loop a =>
    simp only[pz]at hj;rw[iO]at hj;obtain⟨o1,h1,h2⟩:=hj;refine .loop (ih _ _ h1) (λlr h' e=>?_) (λe lr h' ne he=>?_)
    ·subst e;exact ih _ _ h2
    ·subst he;cases e with
     |mZ=>exact absurd rfl ne
     |ext i=>exact iK h2
     |ret=>exact iK h2
   | region id A dr =>
    simp only[pz]at hj
    split at hj
    ·rename_i hc;have:=XW.region (P:=P) (K:=K) (id:=id) (dr:=dr) hc.1 (by
      cases dr with
      |true=>simp only[if_true];exact hc.2 rfl
      |false=>simp) (ih _ _ hj)
     simpa using this
    ·cases hj
   |_=>simp[pz]at hj
  | ops n A dr L pd env h =>
   cases L with
   |nil=>simp only[pz,km]at hj;exact .IK hj
   | cons i L =>
    simp only[pz]at hj
    split at hj
    ·rename_i hi
     split at hj
     ·rename_i hw;exact .IL hi hw (ih _ _ hj)
     ·rename_i hw
      split at hj
      ·rename_i f args ht;rw[iO]at hj;obtain⟨o1,h1,h2⟩:=hj;refine .Gp hi hw ht (ih _ _ h1) (λv h' e=>?_) (λv h' e=>?_)
       ·subst e;simp only at h2;cases hs:GJ P A dr i pd h' with
        |true=>exact W6 hs
        |false=>rw[hs]at h2;cases h2
       ·subst e;simp only at h2;cases hs:GJ P A dr i pd h' with
        |true=>rw[hs]at h2;exact ih _ _ h2
        |false=>rw[hs]at h2;cases h2
      ·rename_i ht;rw[iO]at hj;obtain⟨q,h1,h2⟩:=hj
       split at h2
       ·rename_i hs;exact .BQ hi hw h1 (λhk=>W6 (hs hk)) (ih _ _ h2)
       ·cases h2
     ·cases hj
    ·cases hj
  | call f args h =>
   simp only[pz]at hj
   split at hj
   ·rename_i fn hf
    split at hj
    ·rename_i c hb
     split at hj
     ·rename_i hc;rw[iO]at hj;obtain⟨o1,h1,h2⟩:=hj;refine .call hf hb hc.1 hc.2 (ih _ _ h1) λe lr h' he=>?_;subst he;cases e with
      |mZ =>
       obtain⟨vs,q1,q2⟩:=jR.1 h2;exact⟨.inl rfl,vs,q1,q2⟩
      |ret =>
       obtain⟨vs,q1,q2⟩:=jR.1 h2;exact⟨.inr rfl,vs,q1,q2⟩
      |ext i=>cases h2
     ·cases hj
    ·cases hj
   ·cases hj
end Go.V
end
section
namespace Go.V
def Jf(h:Hp):gE→Option (List UInt8)
 | .sl (some a) n c=>(oL h 1 n (.sl (some a) n c)).bind yO
 | .sl none _ _=>some []
 | .es=>some []
 |_=>none
section
variable{P:iY}{ρ:Ren}{h:Hp}{w:jb}
theorem Ws:∀(ns:List Int)(w:jb)(a:Addr)(acc:ByteArray),(∀j n,ns[j]? =some n→w.cell? (a.add j)=some (.int .u8 n)) →
  (MD a ns.length acc).run P w = .ok ⟨acc.data++(ns.map λn=>Fb n.toNat).toArray⟩ w
 |[],w,a,acc,_=>by simp[MD]
 | x::xs,w,a,acc,h=>by
  have h0:=h 0 x rfl;have ha:a.add 0=a:=by simp[EG]
  rw[ha]at h0;have ih:=Ws xs w (a.add 1) (acc.push x.toNat.toUInt8) λj b hj=>by
   have e:(a.add 1).add j=a.add (j+1):=by simp[EG,sK,Nat.add_comm 1 j]
   rw[e];exact h (j+1) b (by simpa using hj)
  have hl:(load a).run P w = .ok (.int .u8 x) w:=by simp[run_load,h0]
  simp only[tG,MD,jq,hl,jA];rw[ih];simp[ByteArray.push]
theorem WS{v:gE}{u:iU}{xs:List UInt8}(r:Rel ρ h w)(hv:VR ρ v u)(hs:Jf h v=some xs):(EH u).run P w = .ok ⟨xs.toArray⟩ w:=by
 have key:∀(b o n cc:Nat)(i:Info),ρ b=some i→((if n=0 then some []else rd h b o (n*1)).bind yO)=some xs→(EH (.slice (some ⟨i.g,i.base+o,none⟩) n cc)).run P w = .ok ⟨xs.toArray⟩ w:=λb o n cc i hb hq=>by
  rw[iO]at hq;obtain⟨c,h1,h2⟩:=hq;have hx:∃us,jc ρ c us∧us.length=n∧w.rangeAt i.g (i.base+o) us:=by
   split at h1
   ·rename_i h0;obtain rfl:=iK h1;exact⟨[],jc.nil,by simp[h0],λj v hv=>by simp at hv⟩
   ·obtain⟨_,us,g1,g2,g3⟩:=r.rd hb h1;exact⟨us,g1,by rw[g2];simp,g3⟩
  obtain⟨us,g1,g2,g3⟩:=hx;obtain⟨ns,rfl,rfl⟩:=NG h2 g1;have:=Ws (P:=P) ns w ⟨i.g,i.base+o,none⟩ .empty λj n hj=>by
   have:=g3 j (.int .u8 n) (by simp[hj]);have e:EG ⟨i.g,i.base+o,none⟩ j=⟨i.g,i.base+o+j,none⟩:=by
    unfold EG
    split
    ·rename_i q;subst q;rfl
    ·rfl
   rw[e];exact this
  have hl:ns.length=n:=by simpa using g2
  subst hl;simp only[EH,this]
  congr 2
  simp[ByteArray.empty,ByteArray.emptyWithCapacity];rfl
 cases hv with
 |sn=>obtain rfl:=iK hs;simp[EH];rfl
 |es=>obtain rfl:=iK hs;simp[EH,MD];rfl
 |sk hb hk=>exact key _ _ _ _ _ hb hs
 |so hb hk q1 q2=>exact key _ _ _ _ _ hb hs
 |_=>simp[Jf]at hs
def sN(P:iY):Tb:=λf args h M=>∃g u v a b,P.funcs[f]? =some g∧(g.name == "runtime.NumGoroutine")=false∧g.body.isNone=true∧Extern.findNext g=none∧Extern.find g=some Extern.BytealgCompare.compare ∧
 args=[u,v]∧Jf h u=some a∧Jf h v=some b∧M (.i .i64 (Lib.compareBytes a b)) h
theorem Sl:vO P (sN P):=by
 rintro f args h M ⟨g,u,v,a,b,hf,OV,hb,hn,he,rfl,hu,hv,hM⟩ ρ w nP r hr
 match nP,hr with
 | [u',v'],hr =>
  have h1:=run_callFunc_extern (P:=P) hf OV hb hn he #[u',v'] w;have h2:(Extern.BytealgCompare.compare #[u',v']).run P w = .ok (.int .i64 (Lib.compareBytes a b)) w:=by
   change((EH u')>>=λa=>(EH v')>>=λb=>pure (goInt (Extern.BytealgCompare.cmp a b))).run P w=_;simp only[jq,WS r hr.head hu,WS r hr.tail.head hv,jA,jP,goInt];rw[Lib.cmp_eq]
  rw[h2]at h1;exact .inr ⟨_,w,h1,_,h,ρ,hM,.i _ _,r,Ext.refl _ _ _⟩
 |[],hr=>exact absurd hr.1 (by simp)
 |[_],hr=>exact absurd hr.1 (by simp)
 |_::_::_::_,hr=>exact absurd hr.1 (by simp)
end
end Go.V
end
section
namespace Go.V
section
variable{P:iY}{K K':Tb}{ρ:Ren}{h:Hp}{w w':jb}
theorem Tb.or(hK:vO P K)(hK':vO P K'):vO P (λf args h M=>K f args h M∨K' f args h M):=by
 rintro f args h M (q|q)
 ·exact hK f args h M q
 ·exact hK' f args h M q
end
end Go.V
end
section
namespace Go.V
def lP(h:Hp)(b o:Nat):Option gE:=match h.get b with
 |some (.cells _ c)=>c[o]?
 |some (.ro c)=>c[o]?
 |_=>none
abbrev gL:=Nat→Nat→Option gE
def gL.le(F G:gL):Prop:=∀b o u,F b o=some u→G b o=some u
theorem gL.le.refl(F:gL):F.le F:=λ_ _ _ h=>h
theorem gL.le.trans{F G H:gL}(a:F.le G)(b:G.le H):F.le H:=λx o u h=>b x o u (a x o u h)
def Agree(F:gL)(h:Hp):Prop:=∀b o u,F b o=some u→lP h b o=some u
theorem Agree.le{F G:gL}{h:Hp}(a:Agree G h)(l:F.le G):Agree F h:=λx o u e=>a x o u (l x o u e)
def kq(h:Hp):gL:=lP h
theorem Gm(h:Hp):Agree (kq h) h:=λ_ _ _ e=>e
theorem Eo{h:Hp}{b o n:Nat}{c:List gE}(hc:c.length=n)(hn:0<n)(hq:∀j u,c[j]? =some u→lP h b (o+j)=some u):rd h b o n=some c:=by
 have key:∀d:List gE,(∀j u,c[j]? =some u→d[o+j]? =some u)→(if o+n≤d.length then some ((d.drop o).take n)else none)=some c:=λd hd=>by
  have hl:o+n≤d.length:=by
   have h1:=hd (n-1) (c[n-1]'(by omega)) (jx _);have:=(kI.1 h1).1;omega
  rw[if_pos hl]
  congr 1
  apply Ca;intro j;rw[oc]
  split
  ·rename_i hj;rw[pS,jx (by omega:j<c.length)];exact hd j _ (jx _)
  ·rename_i hj;rw[zN (by omega)]
 have h0:=hq 0 (c[0]'(by omega)) (jx _);unfold rd;cases hg:h.get b with
 |none=>simp[lP,hg]at h0
 |some B =>
  cases B with
  |cells z d=>exact key d λj u hj=>by have:=hq j u hj;simpa[lP,hg]using this
  |ro d=>exact key d λj u hj=>by have:=hq j u hj;simpa[lP,hg]using this
  |map es=>simp[lP,hg]at h0
  |dead=>simp[lP,hg]at h0
abbrev Cl(s:Nat):={ l:List gE //l.length=s }
structure Tr(α:Type)where
 size:Nat
 rel:gL→List gE→α→Prop
 pos:0<size
 len:∀{F cs x},rel F cs x→cs.length=size
 one:∀{F cs x},rel F cs x→cs.all gE.one=true
 mono:∀{F G cs x},F.le G→rel F cs x→rel G cs x
def DA(F:gL)(v:gE)(s:Nat)(css:List (Cl s)):Prop :=
 (v = .es∧css=[]) ∨ ∃a c,v = .sl a css.length (.of s c)∧css.length≤maxLen∧(∀k,c=some k→css.length≤k)∧(a=none→css=[]∧c=some 0) ∧
  ∀b o,a=some (b,o) → ∀(i:Nat)(d:Cl s)(j:Nat)(u:gE),css[i]? =some d→d.1[j]? =some u→F b (o+(i*s+j))=some u
def qL{α:Type}(t:Tr α)(F:gL)(css:List (Cl t.size))(xs:List α):Prop:=css.length=xs.length ∧ ∀(i:Nat)(d:Cl t.size)(x:α),css[i]? =some d→xs[i]? =some x→t.rel F d.1 x
def iq{α:Type}(t:Tr α)(F:gL)(v:gE)(xs:List α):Prop:=∃css,qL t F css xs∧DA F v t.size css
section
variable{α:Type}{t:Tr α}{F G:gL}{v:gE}{xs:List α}{s:Nat}{css:List (Cl s)}
theorem DA.mono(h:DA F v s css)(l:F.le G):DA G v s css:=by
 rcases h with h|⟨a,c,e1,e2,e3,e4,e5⟩
 ·exact .inl h
 ·exact .inr ⟨a,c,e1,e2,e3,e4,λb o pA i d j u h1 h2=>l _ _ _ (e5 b o pA i d j u h1 h2)⟩
theorem qL.mono{css:List (Cl t.size)}(h:qL t F css xs)(l:F.le G):qL t G css xs:=⟨h.1,λi d x h1 h2=>t.mono l (h.2 i d x h1 h2)⟩
theorem iq.mono(h:iq t F v xs)(l:F.le G):iq t G v xs:=by
 obtain⟨css,h1,h2⟩:=h;exact⟨css,h1.mono l,h2.mono l⟩
theorem iq.nil(F:gL):iq t F (.sl none 0 (.k 0)) []:=⟨[],⟨rfl,λi d x h _=>by simp at h⟩,.inr ⟨none,some 0,rfl,by simp,λk hk=>by simp,λ_=>⟨rfl,rfl⟩,λb o h=>by cases h⟩⟩
theorem iq.one(h:iq t F v xs):v.one=true:=by
 obtain⟨css,h1,h2⟩:=h;rcases h2 with⟨rfl,rfl⟩|⟨a,c,rfl,e2,_⟩<;>rfl
theorem iq.at_(h:iq t F v xs){i:Nat}{x:α}(hi:xs[i]? =some x):∃cs b o c,v = .sl (some (b,o)) xs.length (.of t.size c)∧t.rel F cs x ∧ ∀j u,cs[j]? =some u→F b (o+i*t.size+j)=some u:=by
 obtain⟨css,h1,h2⟩:=h;have hl:=(kI.1 hi).1;have hd:=jx (l:=css) (i:=i) (by rw[h1.1];exact hl);have hr:=h1.2 _ _ _ hd hi;rcases h2 with⟨rfl,rfl⟩|⟨a,c,rfl,e2,e3,e4,e5⟩
 ·exact absurd h1.1 (by simp;omega)
 ·cases a with
  |none=>have:=(e4 rfl).1;have:=h1.1;simp_all
  |some ad=>exact⟨_,ad.1,ad.2,c,by rw[h1.1],hr,λj u hj=>by rw[sK];exact e5 _ _ rfl i _ j u hd hj⟩
end
def tI:Tr Int:=⟨1,λ_ cs n=>cs=[.i .i64 n],by decide,λh=>by rw[h];rfl,λh=>by rw[h];rfl,λ_ h=>h⟩
def tB:Tr UInt8:=⟨1,λ_ cs n=>cs=[.i .u8 n.toNat],by decide,λh=>by rw[h];rfl,λh=>by rw[h];rfl,λ_ h=>h⟩
def QT:Tr Bool:=⟨1,λ_ cs b=>cs=[.b b],by decide,λh=>by rw[h];rfl,λh=>by rw[h];rfl,λ_ h=>h⟩
def tS:Tr (List UInt8):=⟨1,λ_ cs s=>cs=[.s s],by decide,λh=>by rw[h];rfl,λh=>by rw[h];rfl,λ_ h=>h⟩
def o6{α:Type}(t:Tr α):Tr (List α) :=
 ⟨1,λF cs xs=>∃v,cs=[v]∧iq t F v xs,by decide,λ⟨v,h,_⟩=>by rw[h];rfl,λ⟨v,h,k⟩=>by rw[h];simp[k.one],λl ⟨v,h,k⟩=>⟨v,h,k.mono l⟩⟩
end Go.V
end
section
namespace Go.V
open Go.RowKit Go.ChangeShapes Go.WideShapes Go.Deep
theorem FO{s:Nat}:∀{css:List (Cl s)}{i:Nat}{d:Cl s}{j:Nat}{u:gE},css[i]? =some d→d.1[j]? =some u→(css.map kg).flatten[i*s+j]? =some u
 |[],i,d,j,u,h,_=>by simp at h
 |c::css,0,d,j,u,h,hj=>by
  simp at h;subst h;have:=(kI.1 hj).1;rw[qI,o7,Nat.zero_mul,jn,mU this];exact hj
 |c::css,i+1,d,j,u,h,hj=>by
  have ih:=FO (css:=css) (i:=i) (by simpa using h) hj;rw[qI,o7,lQ,nq (by rw[c.2];omega),c.2,←ih]
  congr 1;omega
section
variable{H:Type}{enc:iA×iU→H}{P:iY}{w:jb}
def vQ{H:Type}(enc:iA×iU→H)(P:iY)(w:jb)(T:iA){α:Type}(t:Tr α)(ok:α→Prop):Prop :=
 ∀fuel cs x,AR enc P w 0 (λ_=>true) true fuel T cs=some x → ∀ρ h,Rel ρ h w→sf h → ∃ρ' h' vs a,Rel ρ' h' w∧sf h'∧ρ.le ρ'∧gL.le (kq h) (kq h')∧jc ρ' vs cs∧t.rel (kq h') vs a∧ok a
def Ax(n:Int):Prop:=-9223372036854775808≤n∧n≤9223372036854775807
def Ay{α:Type}(ok:α→Prop)(xs:List α):Prop:=xs.length≤maxLen ∧ ∀x∈xs,ok x
def LD{α:Type}(_:α):Prop:=True
theorem Gs{T:iA}(ht:P.underlying T=some (.int .i64)):vQ enc P w T tI Ax:=by
 intro fuel cs x h ρ hp r hb;have:∃n,cs=[.int .i64 n]∧(Lit.int .i64 n).wf=true:=by
  cases fuel with
  |zero=>simp[AR]at h
  |succ m =>
   unfold AR at h;rw[ht]at h
   split at h<;>simp_all
 obtain⟨n,rfl,hw⟩:=this;exact⟨ρ,hp,[.i .i64 n],n,r,hb,Ren.le.refl _,gL.le.refl _,jc.nil.cons (.i _ _),rfl,by simpa[Ax,Lit.wf,IntKind.min,IntKind.max,EJ,EI]using hw⟩
theorem ae6{T:iA}(ht:P.underlying T=some (.int .u8)):vQ enc P w T tB LD:=by
 intro fuel cs x h ρ hp r hb;have:∃n,cs=[.int .u8 n]∧(Lit.int .u8 n).wf=true:=by
  cases fuel with
  |zero=>simp[AR]at h
  |succ m =>
   unfold AR at h;rw[ht]at h
   split at h<;>simp_all
 obtain⟨n,rfl,hw⟩:=this;have hx:0≤n∧n≤255:=by simpa[Lit.wf,IntKind.min,IntKind.max,EJ,EI]using hw
 refine⟨ρ,hp,[.i .u8 n],Fb n.toNat,r,hb,Ren.le.refl _,gL.le.refl _,jc.nil.cons (.i _ _),?_,trivial⟩;show[gE.i .u8 n]=[.i .u8 ((Fb n.toNat).toNat:Int)]
 simp only[UInt8.toNat_ofNat']
 congr 2
 omega
theorem ae4{T:iA}(ht:P.underlying T=some .bool):vQ enc P w T QT LD:=by
 intro fuel cs x h ρ hp r hb;have:∃b,cs=[.bool b]:=by
  cases fuel with
  |zero=>simp[AR]at h
  |succ m =>
   unfold AR at h;rw[ht]at h
   split at h<;>simp_all
 obtain⟨b,rfl⟩:=this;exact⟨ρ,hp,[.b b],b,r,hb,Ren.le.refl _,gL.le.refl _,jc.nil.cons (.b _),rfl,trivial⟩
theorem ae5{T:iA}(ht:P.underlying T=some .string):vQ enc P w T tS (λs=>s.length≤maxLen):=by
 intro fuel cs x h ρ hp r hb;have:∃s:ByteArray,cs=[.string s]∧s.size≤maxLen:=by
  cases fuel with
  |zero=>simp[AR]at h
  |succ m =>
   unfold AR at h;rw[ht]at h
   split at h<;>simp_all
 obtain⟨s,rfl,hs⟩:=this;exact⟨ρ,hp,[.s s.data.toList],s.data.toList,r,hb,Ren.le.refl _,gL.le.refl _,jc.nil.cons (.s s.data.toList),rfl,hs⟩
theorem aeS{h:Hp}{B:mA}(hw:∀b,h.next≤b→h.get b=none):gL.le (kq h) (kq (h.new B)):=λb o u e=>by
 unfold kq lP at e ⊢;rw[Hp.lI,if_neg]
 ·exact e
 ·intro q;rw[q,hw _ (jg _)]at e;cases e
theorem Gt{T e:iA}{α:Type}{t:Tr α}{ok:α→Prop}(ht:P.underlying T=some (.slice e))(hc:P.cellsOf e=t.size)(he:vQ enc P w e t ok):vQ enc P w T (o6 t) (Ay ok):=by
 intro fuel cs x h ρ hp r hb;rcases open_slice ht h with⟨rfl,_⟩|⟨a,len,cap,m,n,D,Pl,rfl,_,hl,hm,hmm,_,hx⟩
 ·exact⟨ρ,hp,[.sl none 0 (.k 0)],[],r,hb,Ren.le.refl _,gL.le.refl _,jc.nil.cons .sn,⟨_,rfl,iq.nil _⟩,by simp[Ay]⟩
 ·rw[if_pos rfl]at hmm;rw[hc]at hx;have key:∀k,k≤len → ∃ρ' h' us xs,∃css:List (Cl t.size),Rel ρ' h' w∧sf h'∧ρ.le ρ'∧gL.le (kq hp) (kq h')∧css.length=k∧qL t (kq h') css xs∧(∀x∈xs,ok x)∧jc ρ' (css.map kg).flatten us∧us.length=k*t.size ∧ ∀j u,us[j]? =some u→w.cell? ⟨a.block,a.off+j,none⟩=some u∧a.spot=none:=by
   intro k
   induction k with
   |zero=>intro _;exact⟨ρ,hp,[],[],[],r,hb,Ren.le.refl _,gL.le.refl _,rfl,⟨rfl,λi d x h _=>by simp at h⟩,by simp,jc.nil,by simp,λj u h=>by simp at h⟩
   | succ k ih =>
    intro hk;obtain⟨B3,h1,us,xs,css,r1,b1,l1,f1,c1,c2,c3,c4,c5,c6⟩:=ih (by omega);obtain⟨cs',g1,g2⟩:=hx k (by omega);obtain⟨_,g3,g4⟩:=World.cells?_some g1;obtain⟨Da,h2,vs,y,r2,b2,l2,f2,d1,d2,d3⟩:=he _ _ _ g2 B3 h1 r1 b1;have hlen:=t.len d2;have abD:∀j u,cs'[j]? =some u→w.cell? ⟨a.block,a.off+(k*t.size+j),none⟩=some u∧(k=0→a.spot=none):=λj u hj=>by
     have nT:j<t.size:=by have:=(kI.1 hj).1;omega
     have:=g4 j nT;rw[hj]at this
     by_cases za:k=0
     ·subst za;have KO:=g4 0 t.pos;have Pb:a.spot=none:=by
       cases hs:a.spot with
       |none=>rfl
       |some sp =>
        have hz:cs'[0]? =some (cs'[0]'(by rw[g3];exact t.pos)):=jx _;rw[hz]at KO;simp[EG,uq,hs]at KO
        split at KO<;>cases KO
      refine⟨?_,λ_=>Pb⟩;rw[←this]
      congr 1
      cases a;simp at Pb;subst Pb;unfold EG
      split<;>simp_all
     ·refine⟨?_,λq=>absurd q za⟩;rw[←this]
      congr 1
      unfold EG;have h0:¬(k*t.size=0):=by
       intro q;rcases Nat.mul_eq_zero.1 q with q|q
       ·exact za q
       ·have:=t.pos;omega
      rw[if_neg h0]
      split<;>simp_all [sK]
    refine⟨Da,h2,us++cs',xs++[y],css++[⟨vs,hlen⟩],r2,b2,l1.trans l2,f1.trans f2,by simp[c1],⟨by simp[c2.1],λi d x hi tm=>?_⟩,λx tm=>?_,?_,by simp[c5,g3,Nat.succ_mul],λj u hj=>?_⟩
    ·by_cases H7:i<css.length
     ·rw[mU H7]at hi;rw[mU (by rw[←c2.1];exact H7)]at tm;exact t.mono f2 (c2.2 i d x hi tm)
     ·rw[nq (by omega)]at hi;rw[nq (by rw[←c2.1];omega),←c2.1]at tm;have:i-css.length=0:=by have:=(kI.1 hi).1;simp at this;omega
      rw[this]at hi tm;simp at hi tm;subst hi;subst tm;exact d2
    ·rcases mF.1 tm with q|q
     ·exact c3 x q
     ·simp at q;subst q;exact d3
    ·rw[List.map_append,List.flatten_append];simp only[qI,List.map_nil,o7,List.flatten_nil,rY];exact(c4.mono l2).append d1
    ·by_cases nT:j<us.length
     ·rw[mU nT]at hj;exact c6 j u hj
     ·rw[nq (by omega)]at hj;obtain⟨q1,q2⟩:=abD _ u hj;rw[c5]at q1 nT;refine⟨by rw[←q1];congr 2;omega,?_⟩
      by_cases za:k=0
      ·exact q2 za
      ·have po:=t.pos;have hu0:us[0]? =some (us[0]'(by rw[c5];exact Fa (by omega) po)):=jx _;exact(c6 0 _ hu0).2
  obtain⟨B3,h1,us,xs,css,r1,b1,l1,f1,c1,c2,c3,c4,c5,c6⟩:=key len (jg _);have Ld:xs.length=len:=by rw[←c2.1];exact c1
  by_cases hl0:len=0
  ·subst hl0;refine⟨B3,h1,[.es],xs,r1,b1,l1,f1,jc.nil.cons .es,⟨.es,rfl,css,c2,.inl ⟨rfl,nK c1⟩⟩,by omega,c3⟩
  ·have po:0<us.length:=by rw[c5];exact Fa (by omega) t.pos
   obtain⟨q1,q2⟩:=c6 0 _ (jx po);have hg:a.block<w.heap.size:=by
    unfold uq at q1;cases hq:w.heap[a.block]? with
    |none=>simp[hq]at q1
    |some ob=>exact(Array.getElem?_eq_some_iff.1 hq).1
   have rl:(css.map kg).flatten.all gE.one=true:=j9.2 λv hv=>by
    obtain⟨l,pW,yg⟩:=ny.1 hv;obtain⟨d,qR,rfl⟩:=qJ.1 pW;obtain⟨i,hi,rfl⟩:=my qR;have hxi:i<xs.length:=by rw[←c2.1];exact hi
    exact j9.1 (t.one (c2.2 i _ _ (jx hi) (jx hxi))) v yg
   obtain⟨r2,l2,hs⟩:=r1.view b1 (g:=a.block) (off:=a.off) rl c4 (λj u hj=>(c6 j u hj).1) hg;have f2:gL.le (kq h1) (kq (h1.new (.ro (css.map kg).flatten))):=aeS r1.wf;refine⟨_,_,[.sl (some (h1.next,0)) len (.k cap)],xs,r2,b1.pZ _,l1.trans l2,f1.trans f2,jc.nil.cons ?_,⟨_,rfl,css,c2.mono f2,.inr ⟨some (h1.next,0),some cap,by rw[c1];rfl,by rw[c1];omega,λk hk=>?_,λq=>(by cases q),λb o pA i d j u hi hj=>?_⟩⟩,by omega,c3⟩
   ·have:=VR.sk (ρ:=Rel.pZ B3 h1 a.block a.off) (o:=0) hs hl;have ea:a=⟨a.block,a.off+0,none⟩:=by cases a;simp at q2;subst q2;rfl
    rw[ea];exact this
   ·obtain rfl:=iK hk;rw[c1];exact hl
   ·simp only[km,jT]at pA;obtain⟨rfl,rfl⟩:=pA;unfold kq lP;rw[Hp.lI,if_pos rfl,jn];exact FO hi hj
end
end Go.V
end
section
namespace Go.V
open Go.RowKit Go.ChangeShapes Go.WideShapes Go.Deep
section
variable{H:Type}{enc:iA×iU→H}{P:iY}{w:jb}
theorem Kept.Vt{w w':jb}(h:Kept w w'):Go.RowKit.Below w.heap.size w w':=⟨h.os,h.tape,h.output,h.size,h.block⟩
theorem Xj{base:Nat}{sp:Nat→Bool}{held:Bool}:∀(ts:List iA)(vs:List iU)(ds:List (B6 H))(ps:List Dh),MC enc P w base sp held ts vs ds ps→ds.length=ts.length
 |[],[],[],_,_=>rfl
 |t::ts,v::vs,d::ds,ps,h=>by
  obtain⟨p,q,_,h2,_⟩:=h;simp[Xj ts vs ds q h2]
 |[],_::_,_,_,h=>h.elim
 |[],[],_::_,_,h=>h.elim
 |_::_,[],_,_,h=>h.elim
 |_::_,_::_,[],_,h=>h.elim
theorem Xi{w':jb}(hl:laidOutB P=true)(hb:Kept w w'):∀(ts:List iA)(vs:List iU)(ds:List (B6 H))(ps:List Dh),(ts.all λt=>P.readableRec t&&decide (t<P.types.size))=true →
  MC enc P w 0 (λ_=>true) true ts vs ds ps→(∀x∈ps,x.block<w.heap.size)→MC enc P w' 0 (λb=>decide (b<w.heap.size)) true ts vs ds ps
 |[],[],[],_,_,h,_=>h
 |t::ts,v::vs,d::ds,ps,tV,h,jB=>by
  obtain⟨p,q,h1,h2,rfl⟩:=h;simp only[nJ,jK,decide_eq_true_eq]at tV;exact⟨p,q,RowKit.Below.trod hl tV.1.1 tV.1.2 h1 hb.Vt (λx hx=>jB x (by simp[hx])),Xi hl hb ts vs ds q tV.2 h2 (λx hx=>jB x (by simp[hx])),rfl⟩
 |[],_::_,_,_,_,h,_=>h.elim
 |[],[],_::_,_,_,h,_=>h.elim
 |_::_,[],_,_,_,h,_=>h.elim
 |_::_,_::_,[],_,_,h,_=>h.elim
theorem aec{f:Func}{F:nI}{s:ChangeSpec}{tb:iA}{k:Nat}(hl:laidOutB P=true)(tV:(f.params.toList.all λt=>P.readableRec t&&decide (t<P.types.size))=true)(hk:f.params.toList.length=k)(hrt:f.resultTypes = #[tb])(htb:P.underlying tb=some .bool)
  (U6:s.vars=[]) (hfn:∀ds:List (B6 H),ds.length=k→(s.fn H ds).results=[.lit (.bool true)]∧(s.fn H ds).args=ds∧(s.fn H ds).vars=[])
  (W:jb) (base:Nat) (args:Array iU) (ds gs:List (B6 H)) (before:List Dh)
  (abC:∀p,MC enc P W 0 (λ_=>true) true f.params.toList args.toList ds p→GS P F args W (LU λv w'=>v = .bool true∧Kept W w'))
  (hW:DataW.Whole enc P f.params.toList s.vars false W args.toList ds gs before) :
  GS P F args W λe W'=>∃v,e = .returned v∧s.post enc P f false true false false W args v W':=by
 have Up:=hW;obtain⟨p,q,hA,hV,rfl,H4,kV⟩:=hW;rw[U6]at hV;obtain⟨rfl,rfl⟩:=trodVars_none hV;refine De (abC p hA) λe W' hq=>?_;cases e with
 |returned v =>
  obtain⟨rfl,hb⟩:=hq;obtain⟨h1,h2,h3⟩:=hfn (ds++[]) (by rw[rY,Xj _ _ _ _ hA,hk]);refine⟨_,rfl,ds,[],_,[],p,[],Up,?_,?_,?_,hb.Vt.frame _,λh=>by cases h⟩
  ·rw[h1,hrt];exact trodAll_cons_mk (shut_bool htb _) trodAll_mk0
  ·rw[h2,rY];exact Xi hl hb _ _ _ _ tV hA (λx hx=>Up.lt x (by simpa using hx))
  ·rw[h3,U6];rfl
 |_=>exact hq.elim
theorem SO{base:Nat}{T:iA}{α:Type}{t:Tr α}{ok:α→Prop}{v:iU}{d:B6 H}{ps:List Dh}(ho:vQ enc P w T t ok)(h:Rh enc P w 0 (λ_=>true) true T v d ps){ρ:Ren}{hp:Hp}(r:Rel ρ hp w)(hb:sf hp) :
  ∃ρ' h' vs a,Rel ρ' h' w∧sf h'∧ρ.le ρ'∧gL.le (kq hp) (kq h')∧jc ρ' vs v.cells.toList∧t.rel (kq h') vs a∧ok a:=by
 obtain⟨fuel,hf⟩:=h;exact ho _ _ _ hf ρ hp r hb
theorem cells_one{v:iU}{a:Option Addr}{len cap:Nat}(h:v = .slice a len cap):v.cells.toList=[v]:=by subst h;rfl
theorem SP{base:Nat}{T e:iA}{α:Type}{t:Tr α}{ok:List α→Prop}{v:iU}{d:B6 H}{ps:List Dh}(ht:P.underlying T=some (.slice e))(An:RD P w .any base T v)(ho:vQ enc P w T (o6 t) ok)(h:Rh enc P w 0 (λ_=>true) true T v d ps){ρ:Ren}{hp:Hp}(r:Rel ρ hp w)(hb:sf hp) :
  ∃ρ' h' u a,Rel ρ' h' w∧sf h'∧ρ.le ρ'∧gL.le (kq hp) (kq h')∧VR ρ' u v∧iq t (kq h') u a∧ok a:=by
 obtain⟨a,len,cap,hv⟩:=okWide_slice ht An;obtain⟨ρ',h',vs,x,h1,h2,h3,h4,h5,⟨u,rfl,hs⟩,Bw⟩:=SO (base:=base) ho h r hb;rw[cells_one hv]at h5;exact⟨ρ',h',u,x,h1,h2,h3,h4,h5.head,hs,Bw⟩
theorem Yw{base:Nat}{T:iA}{v:iU}{d:B6 H}{ps:List Dh}(ht:P.underlying T=some (.int .i64))(An:RD P w .any base T v)(h:Rh enc P w 0 (λ_=>true) true T v d ps):∃n:Int,v = .int .i64 n∧Ax n:=by
 obtain⟨n,rfl⟩:=okWide_int ht An;obtain⟨ρ',h',vs,x,h1,h2,h3,h4,h5,rfl,Bw⟩:=SO (base:=base) (Gs ht) h (Rel.nothing w) sf.empty;have:=h5.head;cases this;exact⟨_,rfl,Bw⟩
end
end Go.V
end
section
namespace Go.V
structure To(α:Type)where
 size:Nat
 rel:gL→Hp→List Nat→List gE→α→Prop
 len:∀{F h bs cs x},rel F h bs cs x→cs.length=size
 one:∀{F h bs cs x},rel F h bs cs x→cs.all gE.one=true
 lt:∀{F h bs cs x},rel F h bs cs x → ∀b∈bs,b<h.next
 nodup:∀{F h bs cs x},rel F h bs cs x→bs.Nodup
 mono:∀{F G h bs cs x},F.le G→rel F h bs cs x→rel G h bs cs x
 frame:∀{F h h' bs cs x},rel F h bs cs x→h.next≤h'.next→(∀b∈bs,h'.get b=h.get b)→rel F h' bs cs x
structure Ob:Type 1 where
 {α:Type}
 t:To α
 bs:List Nat
 cs:List gE
 x:α
def Ob.ok(F:gL)(h:Hp)(o:Ob):Prop:=o.t.rel F h o.bs o.cs o.x
structure St(X:List Nat)(h0:Hp)(F0 F:gL)(L:List Ob)(h:Hp):Prop where
 next:h0.next≤h.next
 wf:∀b,h.next≤b→h.get b=none
 ua:∀b,b<h0.next→b∉X→h.get b=h0.get b
 agree:Agree F h
 ext:F0.le F
 new:∀b o u,F b o=some u→F0 b o=some u∨h0.next≤b∨b∈X
 own:∀(i:Nat)(o:Ob),L[i]? =some o→o.ok F h ∧ ∀b,b∈o.bs→(∀k,F b k=none)∧(h0.next≤b∨b∈X)
 apart:∀(i j:Nat)(o o':Ob)(b:Nat),L[i]? =some o→L[j]? =some o'→b∈o.bs→b∈o'.bs→i=j
theorem HW{h:Hp}(hw:∀b,h.next≤b→h.get b=none){b o:Nat}{u:gE}(e:lP h b o=some u):b<h.next:=by
 apply Js;intro q;unfold lP at e;rw[hw b (by omega)]at e;cases e
section
variable{X:List Nat}{h0 h h':Hp}{F0 F F':gL}{L Lr:List Ob}
theorem St.entry(hw:∀b,h.next≤b→h.get b=none)(ha:Agree F h):St [] h F F [] h :=
 ⟨jg _,hw,λ_ _ _=>rfl,ha,gL.le.refl _,λ_ _ _ h=>.inl h,λi o h=>by simp at h,λi j o o' b h=>by simp at h⟩
theorem St.ok(s:St X h0 F0 F L h){i:Nat}{o:Ob}(hi:L[i]? =some o):o.ok F h:=(s.own i o hi).1
theorem St.call(s:St X h0 F0 F L h)(k:St [] h F F' Lr h'):St X h0 F0 F' (Lr++L) h':=by
 have Bt:∀b,b<h.next→h'.get b=h.get b:=λb hb=>k.ua b hb (by simp);have hL:∀(i:Nat)(o:Ob),L[i]? =some o→o.ok F' h' ∧ ∀b,b∈o.bs→(∀q,F' b q=none)∧(h0.next≤b∨b∈X):=by
  intro i o hi;obtain⟨h1,h2⟩:=s.own i o hi;refine⟨o.t.mono k.ext (o.t.frame h1 k.next λb hb=>Bt b (o.t.lt h1 b hb)),λb hb=>⟨λq=>?_,(h2 b hb).2⟩⟩;cases hF:F' b q with
  |none=>rfl
  |some u =>
   rcases k.new b q u hF with h3|h3|h3
   ·rw[(h2 b hb).1 q]at h3;cases h3
   ·have:=o.t.lt h1 b hb;omega
   ·simp at h3
 have hR:∀(i:Nat)(o:Ob),Lr[i]? =some o → ∀b,b∈o.bs→h.next≤b:=λi o hi b hb=>by
  rcases((k.own i o hi).2 b hb).2 with h3|h3
  ·exact h3
  ·simp at h3
 refine⟨nY s.next k.next,k.wf,λb hb hx=>(Bt b (sa hb s.next)).trans (s.ua b hb hx),k.agree,s.ext.trans k.ext,λb o u e=>?_,λi o hi=>?_,λi j o o' b hi hj ho pX=>?_⟩
 ·rcases k.new b o u e with h3|h3|h3
  ·exact s.new b o u h3
  ·exact .inr (.inl (nY s.next h3))
  ·simp at h3
 ·by_cases hl:i<Lr.length
  ·rw[mU hl]at hi;obtain⟨h1,h2⟩:=k.own i o hi;exact⟨h1,λb hb=>⟨(h2 b hb).1,.inl (nY s.next (hR i o hi b hb))⟩⟩
  ·rw[nq (by omega)]at hi;exact hL _ o hi
 ·by_cases hl:i<Lr.length<;>by_cases hm:j<Lr.length
  ·rw[mU hl]at hi;rw[mU hm]at hj;exact k.apart i j o o' b hi hj ho pX
  ·rw[mU hl]at hi;rw[nq (by omega)]at hj;have h1:=hR i o hi b ho;have h2:=o'.t.lt (s.ok hj) b pX;omega
  ·rw[nq (by omega)]at hi;rw[mU hm]at hj;have h1:=hR j o' hj b pX;have h2:=o.t.lt (s.ok hi) b ho;omega
  ·rw[nq (by omega)]at hi hj;have:=s.apart _ _ o o' b hi hj ho pX;omega
structure JP(h h':Hp):Prop where
 next:h.next≤h'.next
 wf:∀b,h'.next≤b→h'.get b=none
 ua:∀b,b<h.next→h'.get b=h.get b
theorem JP.agree(a:JP h h')(hw:∀b,h.next≤b→h.get b=none)(g:Agree F h):Agree F h':=λb o u e=>by
 have h1:=g b o u e;have:=HW hw h1;unfold lP at h1 ⊢;rw[a.ua b this];exact h1
theorem St.fresh(s:St X h0 F0 F L h){o:Ob}(a:JP h h')(ho:o.ok F h')(hg:∀b,b∈o.bs→h.next≤b):St X h0 F0 F (o::L) h':=by
 have e:St [] h F F [o] h':=⟨a.next,a.wf,λb hb _=>a.ua b hb,a.agree s.wf s.agree,gL.le.refl _,λ_ _ _ q=>.inl q,λi o' hi=>by
   have:i=0:=by have:=(kI.1 hi).1;simpa using this
   subst this;simp at hi;subst hi;refine⟨ho,λb hb=>⟨λq=>?_,.inl (hg b hb)⟩⟩;cases hF:F b q with
   |none=>rfl
   |some u=>have:=HW s.wf (s.agree b q u hF);have:=hg b hb;omega,λi j o1 o2 b hi hj _ _=>by
   have:=(kI.1 hi).1;have:=(kI.1 hj).1;simp at *;omega⟩
 simpa using s.call e
theorem St.pE(s:St X h0 F0 F L h){i:Nat}{o o':Ob}(hi:L[i]? =some o)(ho:o'.ok F h')(hn:h.next≤h'.next)(hw:∀b,h'.next≤b→h'.get b=none)(hk:∀b,b<h.next→b∉o.bs→h'.get b=h.get b)(hb:∀b,b∈o'.bs→b∈o.bs∨h.next≤b):St X h0 F0 F (L.set i o') h':=by
 obtain⟨s1,s2⟩:=s.own i o hi;have jU:=(kI.1 hi).1;have DW:∀b k u,F b k=some u→b<h.next∧b∉o.bs:=λb k u e=>⟨HW s.wf (s.agree b k u e),λq=>by rw[(s2 b q).1 k]at e;cases e⟩
 have FZ:∀(j:Nat)(p:Ob),(L.set i o')[j]? =some p→(j=i∧p=o')∨(j≠i∧L[j]? =some p):=λj p hj=>by
  by_cases e:j=i
  ·subst e;rw[uv jU]at hj;exact .inl ⟨rfl,(iK hj).symm⟩
  ·rw[List.getElem?_set_ne (λq=>e q.symm)]at hj;exact .inr ⟨e,hj⟩
 have xh:∀(j:Nat)(p:Ob),j≠i→L[j]? =some p → ∀b,b∈p.bs→b<h.next∧b∉o.bs:=λj p hj hp b hb=>⟨p.t.lt (s.ok hp) b hb,λq=>hj (s.apart j i p o b hp hi hb q)⟩
 refine⟨nY s.next hn,hw,λb jM hx=>?_,λb k u e=>?_,s.ext,s.new,λj p hj=>?_,λj k p p' b hj om hp ti=>?_⟩
 ·rw[hk b (sa jM s.next) (λq=>by rcases(s2 b q).2 with h3|h3;omega;exact hx h3)];exact s.ua b jM hx
 ·obtain⟨q1,q2⟩:=DW b k u e;have:=s.agree b k u e;unfold lP at this ⊢;rw[hk b q1 q2];exact this
 ·rcases FZ j p hj with⟨rfl,rfl⟩|⟨jw,hp⟩
  ·refine⟨ho,λb jM=>?_⟩;rcases hb b jM with q|q
   ·exact s2 b q
   ·refine⟨λk=>?_,.inl (nY s.next q)⟩;cases hF:F b k with
    |none=>rfl
    |some u=>have:=(DW b k u hF).1;omega
  ·obtain⟨t1,t2⟩:=s.own j p hp;exact⟨p.t.frame t1 hn λb jM=>hk b (xh j p jw hp b jM).1 (xh j p jw hp b jM).2,t2⟩
 ·rcases FZ j p hj with⟨rfl,rfl⟩|⟨jw,hq⟩<;>rcases FZ k p' om with⟨rfl,rfl⟩|⟨acA,ss⟩
  ·rfl
  ·obtain⟨t1,t2⟩:=xh k p' acA ss b ti;rcases hb b hp with q|q
   ·exact absurd q t2
   ·omega
  ·obtain⟨t1,t2⟩:=xh j p jw hq b hp;rcases hb b ti with q|q
   ·exact absurd q t2
   ·omega
  ·exact s.apart j k p p' b hq ss hp ti
end
end Go.V
end
section
namespace Go.V
def To.ma{α:Type}(t:Tr α):To α :=
 ⟨t.size,λF h bs cs x=>bs=[]∧t.rel F cs x,λq=>t.len q.2,λq=>t.one q.2,λq b hb=>by(rw[q.1]at hb;cases hb),λq=>by rw[q.1];exact AY,λl q=>⟨q.1,t.mono l q.2⟩,λq _ _=>q⟩
structure Ci{α:Type}(t:To α)(F:gL)(h:Hp)(bs:List Nat)(v:gE)(xs:List α)(b:Nat)(c:List gE)(k:Option Nat)(css:List (Cl t.size))(bss:List (List Nat)):Prop where
 form:v = .sl (some (b,0)) xs.length (.of t.size k)
 kG:h.get b=some (.cells t.size c)
 lt:b<h.next
 mr:css.length=xs.length
 og:bss.length=xs.length
 rel:∀(i:Nat)(d:Cl t.size)(x:α)(e:List Nat),css[i]? =some d→xs[i]? =some x→bss[i]? =some e→t.rel F h e d.1 x
 cells:c.take (xs.length*t.size)=(css.map kg).flatten
 Az:k=none→xs.length*t.size≤c.length
 cap:∀m,k=some m→c.length=m*t.size∧xs.length≤m
 tc:xs.length≤2^30
 one:c.all gE.one=true
 vr:bs=b::bss.flatten
 nodup:bs.Nodup
def To.row{α:Type}(t:To α):To (List α)where
 size:=1
 rel F h bs cs xs:=∃v,cs=[v]∧((v = .sl none 0 (.k 0)∧xs=[]∧bs=[]) ∨ ∃b c k css bss,Ci t F h bs v xs b c k css bss)
 len:=λ⟨v,q,_⟩=>by rw[q];rfl
 one:=λ⟨v,q,r⟩=>by
  rw[q];rcases r with⟨rfl,_⟩|⟨b,c,k,css,bss,r⟩
  ·rfl
  ·rw[r.form];rfl
 lt:=λ⟨v,q,r⟩ g hg=>by
  rcases r with⟨_,_,rfl⟩|⟨b,c,k,css,bss,r⟩
  ·cases hg
  ·rw[r.vr]at hg;rcases lM.1 hg with rfl|hg
   ·exact r.lt
   ·obtain⟨e,he,hg⟩:=ny.1 hg;obtain⟨i,hi,rfl⟩:=my he;have h1:i<css.length:=by rw[r.mr,←r.og];exact hi
    exact t.lt (r.rel i _ _ _ (jx h1) (jx (by rw[←r.og];exact hi)) (jx hi)) g hg
 nodup:=λ⟨v,q,r⟩=>by
  rcases r with⟨_,_,rfl⟩|⟨b,c,k,css,bss,r⟩
  ·exact AY
  ·exact r.nodup
 mono:=λl ⟨v,q,r⟩=>by
  refine⟨v,q,?_⟩;rcases r with r|⟨b,c,k,css,bss,r⟩
  ·exact .inl r
  ·exact .inr ⟨b,c,k,css,bss,{ r with rel:=λi d x e h1 h2 h3=>t.mono l (r.rel i d x e h1 h2 h3) }⟩
 frame:=λ⟨v,q,r⟩ hn hk=>by
  refine⟨v,q,?_⟩;rcases r with r|⟨b,c,k,css,bss,r⟩
  ·exact .inl r
  ·refine .inr ⟨b,c,k,css,bss,{ r with kG:=(hk b (by rw[r.vr];simp)).trans r.kG,lt:=sa r.lt hn,rel:=λi d x e h1 h2 h3=>t.frame (r.rel i d x e h1 h2 h3) hn λg hg=>hk g ?_ }⟩;rw[r.vr];exact mV _ (ny.2 ⟨e,pH h3,hg⟩)
end Go.V
end
section
namespace Go.V
section
variable{α:Type}{t:To α}{F:gL}{h h1:Hp}{bs:List Nat}{v:gE}{xs:List α}{b:Nat}{c:List gE}{k:Option Nat}{css:List (Cl t.size)}{bss:List (List Nat)}
theorem vq{s:Nat}:∀(css:List (Cl s)),(css.map kg).flatten.length=css.length*s
 |[]=>by simp
 |d::r=>by rw[qI,o7,kU,vq r,d.2,tG,lQ];omega
end
end Go.V
end
