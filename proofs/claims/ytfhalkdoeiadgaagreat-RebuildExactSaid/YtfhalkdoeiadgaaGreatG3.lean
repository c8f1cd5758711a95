/- A run of steps that find all by themselves. Shorter still: returns, joins, loops, guards, that find what they need. Deep rows apart: the row of cells, and what its elements own; and in one again, with an element more. Rows whose elements turn, one by one, from frozen ones to ones that own a row; a call that turns the row of an element. The types, found by themselves. Plain lemmas on the words of lifted functions. -/
import Derived.Test.YtfhalkdoeiadgaaGreatG2
import Derived.Test.YtfhalkdoeiadgaaGreatProg
set_option linter.unusedVariables false
set_option linter.unusedSimpArgs false
open Go.Proofs.Tryz renaming prog→aac, underlying109→acv, underlying22→adB, underlying23→adH, underlying24→aam, underlying25→aaE, underlying26→aaF, underlying31→aba, underlying56→adz, underlying59→aaT, underlying9→acZ
open List renaming all_append→rC, all_cons→tZ, all_nil→uR, append_assoc→tF, append_nil→vM, ext_getElem?→CR, flatten_append→yv, getElem?_eq_getElem→pF, getElem?_eq_none→zr, getElem?_eq_some_iff→qO, getElem?_set_ne→yb, getElem?_set_self→vN, head_eq_of_cons_eq→wS, mem_cons→sg, mem_singleton→yT, nodup_cons→xL, range'→MZ, take_append_drop→z8
open Option.some renaming inj→oQ
section
namespace Go.V
open Go.Wk
class sO (P:Program) (s f:Nat) (off:outParam Nat):Prop where
 out:uj P s f=some off
class tw (P:Program) (t:Nat) (b:outParam Bool):Prop where
 out:rY P t=some b
class B7 (P:Program) (t:Nat) (cs:outParam (List jD)):Prop where
 out:(zeroV P t).map jD.cells=some cs
class tH (P:Program) (t:Nat) (n:outParam Nat):Prop where
 out:sz P t=some n
class zy (P:Program) (t:Nat) (e:outParam Nat):Prop where
 out:P.underlying t=some (.slice e)
class Vq (P:Program) (t:Nat):Prop where
 out:P.underlying t=some .string
class AP (P:Program) (t:Nat) (n:outParam Nat):Prop where
 out:vV P t n=true
class C4 (P:Program) (t:Nat):Prop where
 out:yP P t=some false
theorem jL.tr {a b c:jL} (h2:b.le c) (h1:a.le b):a.le c:=h1.trans h2
theorem pc {a b:jL} (h:a.le b:=by first | exact jL.le.refl _ | assumption | (refine jL.tr (by assumption) ?_;first | exact jL.le.refl _ | assumption | (refine jL.tr (by assumption) ?_;first | exact jL.le.refl _ | assumption | (refine jL.tr (by assumption) ?_;first | exact jL.le.refl _ | assumption | (refine jL.tr (by assumption) ?_;first | exact jL.le.refl _ | assumption | (refine jL.tr (by assumption) ?_;first | exact jL.le.refl _ | assumption | (refine jL.tr (by assumption) ?_;first | exact jL.le.refl _ | assumption | (refine jL.tr (by assumption) ?_;first | exact jL.le.refl _ | assumption | (refine jL.tr (by assumption) ?_;first | exact jL.le.refl _ | assumption))))))))):a.le b:=h
def ac0:Op→Bool
 | .move _=>true
 | .assign _=>true
 | .unOp .not _ _=>true
 | .extract _ _=>true
 | .pick _ _ _=>true
 | .nilCheck _=>true
 | .unOp .neg _ _=>true
 | .makeFunc ..=>true
 | .call { callee:=.builtin .max,.. }=>true
 | .call { callee:=.builtin .min,.. }=>true
 | _=>false
section
variable {P:Program} {K:Tb} {fn:Func} {k:ua} {E:EL} {h:Hp} {A:List Oper} {dr:Bool} {G:jL} {L:List Nat} {i d:Nat}
theorem ac {v:jD} (x:W P K fn k A dr G L ((d,v)::E) h) (he:ac0 (oE A i).op=true:=by exact rfl) (hq:sE A E i d:=by exact ⟨rfl,rfl,rfl⟩) (hk:decide (qT P (oE A i).op = .sQ)=false:=by exact rfl) (ho:∀ h,pW P E h (oE A i).op=some (v,h):=by exact fun _=>rfl):W P K fn k A dr G (i::L) E h:=qM hq.1 hq.2.1 hq.2.2 hk ho x
def wide:IntKind→Bool
 | .i64=>true
 | .u64=>true
 | _=>false
theorem aA {op:BinOp} {t t2:TypeId} {x y:Operand} {kk:IntKind} {a:Int} {v:jD} (z:W P K fn k A dr G L ((d,v)::E) h) (py:(oE A i).op = .binOp op t x y t2:=by exact rfl) (hx:oS E x=some (.i kk a):=by exact rfl) (hk:wide kk=true:=by exact rfl) (hA:(op == .add||op == .sub||op == .mul)=true:=by exact rfl) (hq:sE A E i d:=by exact ⟨rfl,rfl,rfl⟩) (he:decide (qT P (oE A i).op = .sQ)=false:=by exact rfl) (ho:∀ h,pW P E h (oE A i).op=some (v,h):=by exact fun _=>rfl):W P K fn k A dr G (i::L) E h:=qM hq.1 hq.2.1 hq.2.2 he ho z
theorem an (x:W P K fn k A dr G L ((d,.no)::E) h) (hi:Nat.blt i A.length=true:=by exact rfl) (hw:sr A E (oE A i)=some false:=by exact rfl) (hd:(oE A i).dst=some d:=by exact rfl):W P K fn k A dr G (i::L) E h:=IP hi hw hd x
theorem ab {op:BinOp} {t t2:TypeId} {x y:Operand} {a b v:jD} (z:W P K fn k A dr G L ((d,v)::E) h) (py:(oE A i).op = .binOp op t x y t2:=by exact rfl) (hq:sE A E i d:=by exact ⟨rfl,rfl,rfl⟩) (hx:oS E x=some a:=by exact rfl) (hy:oS E y=some b:=by exact rfl) (hv:ru P op t a b=some v:=by first | exact uD | exact Br | exact yV | exact abd | exact Bq | exact VJ | exact VK | exact abi | exact abh | exact abg | exact abf | exact abe):W P K fn k A dr G (i::L) E h :=
 xr hq.1 hq.2.1 hq.2.2 (by rw [py];exact oO hx hy hv) z
theorem af {s f g o off:Nat} {x:Operand} (q:W P K fn k A dr G L ((d,pl g (o+off))::E) h) (py:(oE A i).op = .fieldAddr s x f:=by exact rfl) (hx:oS E x=some (pl g o):=by exact rfl) (hq:sE A E i d:=by exact ⟨rfl,rfl,rfl⟩) (hf:uj P s f=some off:=by exact sO.out):W P K fn k A dr G (i::L) E h :=
 xr hq.1 hq.2.1 hq.2.2 (py ▸ Vk off hf hx) q
theorem aF {s f o off j:Nat} {v:jD} {x:Operand} (q:W P K fn k A dr G L ((d,uF v (o+off))::E) h) (py:(oE A i).op = .fieldAddr s x f:=by exact rfl) (hx:oS E x=some (uF v o):=by exact rfl) (hq:sE A E i d:=by exact ⟨rfl,rfl,rfl⟩) (hj:DM v j:=by first | assumption | exact tj.rq (by assumption)) (hf:uj P s f=some off:=by exact sO.out):W P K fn k A dr G (i::L) E h :=
 xr hq.1 hq.2.1 hq.2.2 (py ▸ uU off hf hx hj) q
theorem aN {o j:Nat} {v:jD} {x:Operand} (q:W P K fn k A dr G L ((d,uF v o)::E) h) (py:(oE A i).op = .nilCheck x:=by exact rfl) (hx:oS E x=some (uF v o):=by exact rfl) (hq:sE A E i d:=by exact ⟨rfl,rfl,rfl⟩) (hj:DM v j:=by first | assumption | exact tj.rq (by assumption)):W P K fn k A dr G (i::L) E h :=
 xr hq.1 hq.2.1 hq.2.2 (py ▸ aay hx hj) q
theorem aL {T e:TypeId} {x:Operand} {v:jD} {n:Nat} (q:W P K fn k A dr G L ((d,.i .i64 n)::E) h) (py:(oE A i).op = .call { callee:=.builtin .len,args:=#[x],argTypes:=#[T] }:=by exact rfl) (hx:oS E x=some v:=by exact rfl) (hq:sE A E i d:=by exact ⟨rfl,rfl,rfl⟩) (hn:Ln v n:=by first | exact EF.ln (by assumption) | exact oF.ln (by assumption)) (ht:P.underlying T=some (.slice e):=by exact zy.out):W P K fn k A dr G (i::L) E h :=
 xr hq.1 hq.2.1 hq.2.2 (py ▸ qD ht hx hn) q
theorem aS {T:TypeId} {x:Operand} {s:List UInt8} (q:W P K fn k A dr G L ((d,.i .i64 s.length)::E) h) (py:(oE A i).op = .call { callee:=.builtin .len,args:=#[x],argTypes:=#[T] }:=by exact rfl) (hx:oS E x=some (.s s):=by exact rfl) (hq:sE A E i d:=by exact ⟨rfl,rfl,rfl⟩) (ht:P.underlying T=some .string:=by exact Vq.out):W P K fn k A dr G (i::L) E h :=
 xr hq.1 hq.2.1 hq.2.2 (py ▸ Qp ht hx) q
theorem aB {X:List Nat} {h0:Hp} {F0 F:jL} {Ls:List Ob} {g o:Nat} {cs:List jD} {t:TypeId} {x:Operand} {u:jD} (q:W P K fn k A dr (qH h) L ((d,u)::E) h) (py:(oE A i).op = .load t x:=by exact rfl) (hx:oS E x=some (pl g o):=by exact rfl) (hS:St X h0 F0 F Ls h:=by assumption) (hk:∃ n:Nat,Ls[n]? = some (.box g cs):=by first | exact ⟨0,rfl⟩ | exact ⟨1,rfl⟩ | exact ⟨2,rfl⟩ | exact ⟨3,rfl⟩ | exact ⟨4,rfl⟩ | exact ⟨5,rfl⟩ | exact ⟨6,rfl⟩ | exact ⟨7,rfl⟩ | exact ⟨8,rfl⟩) (hq:sE A E i d:=by exact ⟨rfl,rfl,rfl⟩) (hu:cs[o]? = some u:=by exact rfl) (ht:rY P t=some false:=by exact tw.out):W P K fn k A dr (qH h) (i::L) E h :=
 hk.elim fun n hk=>xr hq.1 hq.2.1 hq.2.2 (py ▸ rR n ht hx hS hk hu) q
theorem aE {F1:jL} {t:TypeId} {s j f:Nat} {v u:jD} {cs:List jD} {x:Operand} (q:W P K fn k A dr G L ((d,u)::E) h) (py:(oE A i).op = .load t x:=by exact rfl) (hx:oS E x=some (uF v (j*s+f)):=by exact rfl) (hq:sE A E i d:=by exact ⟨rfl,rfl,rfl⟩) (ht:rY P t=some false:=by exact tw.out) (hE:tj F1 v s j cs:=by assumption) (hm:F1.le G:=by first | exact jL.le.refl _ | exact St.agree (by assumption) | exact Agree.le (St.agree (by assumption)) pc | exact pc | exact jL.tr (jL.Ou _ _ _) pc) (hu:cs[f]? = some u:=by exact rfl):W P K fn k A dr G (i::L) E h :=
 xr hq.1 hq.2.1 hq.2.2 (py ▸ su f ht hx (hE.mono hm) rfl hu) q
theorem Nh {F1:jL} {t:TypeId} {s j:Nat} {v u:jD} {cs:List jD} {x:Operand} (q:W P K fn k A dr G L ((d,u)::E) h) (py:(oE A i).op = .load t x:=by exact rfl) (hx:oS E x=some (uF v (j*s)):=by exact rfl) (hq:sE A E i d:=by exact ⟨rfl,rfl,rfl⟩) (ht:rY P t=some false:=by exact tw.out) (hE:tj F1 v s j cs:=by assumption) (hm:F1.le G:=by first | exact jL.le.refl _ | exact St.agree (by assumption) | exact Agree.le (St.agree (by assumption)) pc | exact pc | exact jL.tr (jL.Ou _ _ _) pc) (hu:cs[0]? = some u:=by exact rfl):W P K fn k A dr G (i::L) E h :=
 xr hq.1 hq.2.1 hq.2.2 (py ▸ su 0 ht hx (hE.mono hm) rfl hu) q
theorem Ni {F1:jL} {t:TypeId} {s j f e:Nat} {v u:jD} {cs:List jD} {x:Operand} (q:W P K fn k A dr G L ((d,u)::E) h) (py:(oE A i).op = .load t x:=by exact rfl) (hx:oS E x=some (uF v (j*s+f+e)):=by exact rfl) (hq:sE A E i d:=by exact ⟨rfl,rfl,rfl⟩) (ht:rY P t=some false:=by exact tw.out) (hE:tj F1 v s j cs:=by assumption) (hm:F1.le G:=by first | exact jL.le.refl _ | exact St.agree (by assumption) | exact Agree.le (St.agree (by assumption)) pc | exact pc | exact jL.tr (jL.Ou _ _ _) pc) (hu:cs[f+e]? = some u:=by exact rfl):W P K fn k A dr G (i::L) E h :=
 xr hq.1 hq.2.1 hq.2.2 (py ▸ su (f+e) ht hx (hE.mono hm) (Nat.add_assoc _ _ _) hu) q
theorem aG {F1:jL} {t:TypeId} {s j:Nat} {v:jD} {cs:List jD} {x:Operand} (q:W P K fn k A dr G L ((d,.agg cs)::E) h) (py:(oE A i).op = .load t x:=by exact rfl) (hx:oS E x=some (uF v (j*s)):=by exact rfl) (hq:sE A E i d:=by exact ⟨rfl,rfl,rfl⟩) (ht:rY P t=some true:=by exact tw.out) (hz:sz P t=some s:=by exact tH.out) (hE:tj F1 v s j cs:=by assumption) (hm:F1.le G:=by first | exact jL.le.refl _ | exact St.agree (by assumption) | exact Agree.le (St.agree (by assumption)) pc | exact pc | exact jL.tr (jL.Ou _ _ _) pc):W P K fn k A dr G (i::L) E h :=
 xr hq.1 hq.2.1 hq.2.2 (py ▸ tD 0 cs ht (by rw [hE.1];exact hz) hx (hE.mono hm) rfl (by rw [hE.1,List.drop_zero,List.take_of_length_le (Nat.le_of_eq hE.1)]) (by rw [hE.1,Nat.zero_add];exact Nat.le_refl _)) q
theorem aI {T e:TypeId} {F1:jL} {s:Nat} {kk:IntKind} {n:Int} {v:jD} {cs:List jD} {x y:Operand} {α:Type} {xs:List α} {z:α} (q:W P K fn k A dr G L ((d,uF v (n.toNat*s))::E) h) (py:(oE A i).op = .indexAddr T x y:=by exact rfl) (hx:oS E x=some v:=by exact rfl) (hy:oS E y=some (.i kk n):=by exact rfl) (hq:sE A E i d:=by exact ⟨rfl,rfl,rfl⟩) (ht:P.underlying T=some (.slice e):=by exact zy.out) (hz:sz P e=some s:=by exact tH.out) (hE:tj F1 v s n.toNat cs:=by assumption) (hn:ix xs n=some z:=by assumption):W P K fn k A dr G (i::L) E h :=
 xr hq.1 hq.2.1 hq.2.2 (py ▸ Vl ht hz hx hy hE.rq (oM hn).1 rfl) q
theorem aW {X:List Nat} {h0:Hp} {F0 F:jL} {Ls:List Ob} {g:Nat} {cs:List jD} {t:TypeId} {x:Operand} (q:W P K fn k A dr (qH h) L ((d,.agg cs)::E) h) (py:(oE A i).op = .load t x:=by exact rfl) (hx:oS E x=some (pl g 0):=by exact rfl) (hq:sE A E i d:=by exact ⟨rfl,rfl,rfl⟩) (ht:rY P t=some true:=by exact tw.out) (hS:St X h0 F0 F Ls h:=by assumption) (hk:∃ n:Nat,Ls[n]? = some (.box g cs):=by first | exact ⟨0,rfl⟩ | exact ⟨1,rfl⟩ | exact ⟨2,rfl⟩ | exact ⟨3,rfl⟩ | exact ⟨4,rfl⟩ | exact ⟨5,rfl⟩ | exact ⟨6,rfl⟩ | exact ⟨7,rfl⟩ | exact ⟨8,rfl⟩) (hz:sz P t=some cs.length:=by exact tH.out) (hp:0 < cs.length:=by exact Nat.zero_lt_succ _):W P K fn k A dr (qH h) (i::L) E h :=
 hk.elim fun n hk=>xr hq.1 hq.2.1 hq.2.2 (py ▸ yy n cs ht hz hp hx hS hk (fun q u h=>by rw [Nat.zero_add];exact h)) q
theorem qa {α:Type} {t:Tr α} {F:jL} {v:jD} {xs:List α} {i:Int} {x:α} (n:Nat) (s:oF t F v xs) (hx:ix xs i=some x) (hz:t.size=n:=by exact rfl):∃ cs,t.rel F cs x∧tj F v n i.toNat cs:=by
 subst hz;exact s.el (oM hx).2
theorem tt {α:Type} {t:Tr α} {X:List Nat} {h0:Hp} {F0 F:jL} {Ls:List Ob} {v:jD} {xs:List α} {i:Int} {x:α} (n k:Nat) (hS:St X h0 F0 F Ls h) (hx:ix xs i=some x) (hk:Ls[k]? = some (.row t v xs):=by exact rfl) (hz:t.size=n:=by exact rfl):∃ cs,t.rel F cs x∧tj (qH h) v n i.toNat cs:=by
 subst hz;exact hS.rowAt hk (oM hx).2
theorem lp {X:List Nat} {h0:Hp} {F0 F F1:jL} {Ls:List Ob} {f:FuncId} {args:List jD} {u:jD} (hc:pa P K f args h fun v w'=>∃ F',v=u∧St [] h F1 F' [] w') (hS:St X h0 F0 F Ls h) (x:∀ w',St X h0 F0 F Ls w' → W P K fn k A false (qH w') L ((d,u)::E) w') (hq:sE A E i d:=by exact ⟨rfl,rfl,rfl⟩) (ht:Eo E (oE A i).op=some (f,args):=by exact rfl):W P K fn k A false G (i::L) E h :=
 lm hc (by rintro v w' ⟨F',rfl,hT⟩;exact x w' (hS.vw hT)) hq ht
theorem aQ {X:List Nat} {h0:Hp} {F0 F:jL} {Ls:List Ob} {g o:Nat} {cs:List jD} {t:TypeId} {x:Operand} {u:jD} (q:W P K fn k A dr G L ((d,u)::E) h) (py:(oE A i).op = .load t x:=by exact rfl) (hx:oS E x=some (pl g o):=by exact rfl) (hS:St X h0 F0 F Ls h:=by assumption) (hk:∃ n:Nat,Ls[n]? = some (.box g cs):=by first | exact ⟨0,rfl⟩ | exact ⟨1,rfl⟩ | exact ⟨2,rfl⟩ | exact ⟨3,rfl⟩ | exact ⟨4,rfl⟩) (hq:sE A E i d:=by exact ⟨rfl,rfl,rfl⟩) (hu:cs[o]? = some u:=by exact rfl) (ht:rY P t=some false:=by exact tw.out) (hb:ahead P A i L=true:=by decide +kernel):W P K fn k A dr G (i::L) E h :=
 hk.elim fun n hk=>Nf hb hq.1 hq.2.1 hq.2.2 (py ▸ rR n ht hx hS hk hu) q
theorem ao {c x y:Operand} {b p:Bool} (z:W P K fn k A dr G L ((d,.b (b||p))::E) h) (py:(oE A i).op = .pick c x y:=by exact rfl) (hx:oS E x=some (.b true):=by exact rfl) (hq:sE A E i d:=by exact ⟨rfl,rfl,rfl⟩) (hc:oS E c=some (.b b):=by exact rfl) (hy:b=false→oS E y=some (.b p):=by first | exact fun _=>rfl | exact fun hc=>by rw [hc];rfl):W P K fn k A dr G (i::L) E h:=aaH hq.1 hq.2.1 hq.2.2 py hc hx hy z
theorem aa {c x y:Operand} {b p:Bool} (z:W P K fn k A dr G L ((d,.b (b&&p))::E) h) (py:(oE A i).op = .pick c x y:=by exact rfl) (hy:oS E y=some (.b false):=by exact rfl) (hq:sE A E i d:=by exact ⟨rfl,rfl,rfl⟩) (hc:oS E c=some (.b b):=by exact rfl) (hx:b=true→oS E x=some (.b p):=by first | exact fun _=>rfl | exact fun hc=>by rw [hc];rfl):W P K fn k A dr G (i::L) E h:=aaG hq.1 hq.2.1 hq.2.2 py hc hx hy z
structure Left (S:Prop):Prop where
 out:S
theorem a0 {S Q:Prop} (hp:S) (hq:Left S→Q:=by
  intro hp
  first | refine ac ?_ | refine aA ?_ | refine af ?_ | refine ab ?_ | refine aF ?_ | refine aL ?_ | refine aS ?_ | refine aB ?_ | refine aN ?_ | refine aa ?_ | refine ao ?_ | refine aW ?_ | refine aQ ?_
  exact hp.out):Q:=hq ⟨hp⟩
theorem a1 {S Q:Prop} (hp:S) (hq:Left S→Q:=by
  intro hp
  first | refine ac ?_ | refine qn ?_ | refine aA ?_ | refine af ?_ | refine ab ?_ | refine aF ?_ | refine aL ?_ | refine aB ?_ | refine aI ?_ | refine aE ?_ | refine aQ ?_ | refine Nh ?_ | refine aG ?_ | refine aW ?_ | refine Ni ?_ | refine aS ?_ | refine aN ?_
  exact hp.out):Q:=hq ⟨hp⟩
theorem alB {j:Nat} {cs:List (Bool × Bool)} {b want:Bool} (hg:(oE A i).guard=some (j,want)) (hy:zY A E j=some (uZ cs (.b b))) (hn:vD (cs++[(b,want)])):sr A E (oE A i)=some true:=by
 obtain ⟨h1,h2⟩:=Kr.1 hn;unfold sr;simp only [hg];unfold zY at hy;rw [hy,I6 h1];simp [h2]
theorem VB {j:Nat} {cs:List (Bool × Bool)} {b want:Bool} {u:jD} {x:Operand} (q:W P K fn k A dr G L ((d,uZ (cs++[(b,want)]) u)::E) h) (py:(oE A i).op = .move x:=by exact rfl) (hg:(oE A i).guard=some (j,want):=by exact rfl) (hy:zY A E j=some (uZ cs (.b b)):=by exact rfl) (hi:Nat.blt i A.length=true:=by exact rfl) (hd:(oE A i).dst=some d:=by exact rfl) (hx:oS E x=some (uZ (cs++[(b,want)]) u):=by exact rfl):W P K fn k A dr G (i::L) E h :=
 KC hg hy hi hd (fun ha hK=>qM hi (alB hg hy ha) hd (by rw [py];rfl) (fun h=>by rw [py];simp only [pW,hx,I6 ha,Option.map_some]) hK) q
theorem aaV {j:Nat} {b want:Bool} {u:jD} {x:Operand} (q:W P K fn k A dr G L ((d,uZ [(b,want)] u)::E) h) (py:(oE A i).op = .move x:=by exact rfl) (hg:(oE A i).guard=some (j,want):=by exact rfl) (hy:zY A E j=some (.b b):=by exact rfl) (hi:Nat.blt i A.length=true:=by exact rfl) (hd:(oE A i).dst=some d:=by exact rfl) (hx:oS E x=some (uZ [(b,want)] u):=by exact rfl):W P K fn k A dr G (i::L) E h :=
 VB (cs:=[]) q py hg hy hi hd hx
theorem ag {j:Nat} {b want:Bool} {v:jD} (q:W P K fn k A dr G L ((d,uZ [(b,want)] v)::E) h) (hg:(oE A i).guard=some (j,want):=by exact rfl) (hy:zY A E j=some (.b b):=by exact rfl) (hi:Nat.blt i A.length=true:=by exact rfl) (hd:(oE A i).dst=some d:=by exact rfl) (py:vD [(b,want)]→W P K fn k A dr G L ((d,v)::E) h→W P K fn k A dr G (i::L) E h:=by
  rintro ⟨hb,_⟩
  try rw [hb]
  intro hK;refine a0 ?_;exact hK):W P K fn k A dr G (i::L) E h:=uC hg hy hi hd py q
theorem agc {j:Nat} {cs:List (Bool × Bool)} {b want:Bool} {v:jD} (q:W P K fn k A dr G L ((d,uZ (cs++[(b,want)]) v)::E) h) (hg:(oE A i).guard=some (j,want):=by exact rfl) (hy:zY A E j=some (uZ cs (.b b)):=by exact rfl) (hi:Nat.blt i A.length=true:=by exact rfl) (hd:(oE A i).dst=some d:=by exact rfl) (py:vD (cs++[(b,want)])→W P K fn k A dr G L ((d,v)::E) h→W P K fn k A dr G (i::L) E h:=by
  first | ((first | (rintro ⟨h1,h2,(_:True)⟩;try rw [h2];try rw [h1]) | (rintro ⟨h1,h2,h3,(_:True)⟩;try rw [h3];try rw [h2];try rw [h1]) | (rintro ⟨h1,h2,h3,h4,(_:True)⟩;try rw [h4];try rw [h3];try rw [h2];try rw [h1]) | (rintro ⟨h1,h2,h3,h4,h5,(_:True)⟩;try rw [h5];try rw [h4];try rw [h3];try rw [h2];try rw [h1]));intro hK;refine a0 ?_;exact hK) | ((first | (rintro ⟨h1,h2,(_:True)⟩;try rw [h1];try rw [h2]) | (rintro ⟨h1,h2,h3,(_:True)⟩;try rw [h1];try rw [h2];try rw [h3]) | (rintro ⟨h1,h2,h3,h4,(_:True)⟩;try rw [h1];try rw [h2];try rw [h3];try rw [h4]) | (rintro ⟨h1,h2,h3,h4,h5,(_:True)⟩;try rw [h1];try rw [h2];try rw [h3];try rw [h4];try rw [h5]));intro hK;refine a0 ?_;exact hK)):W P K fn k A dr G (i::L) E h:=KC hg hy hi hd py q
theorem jD.Wj {v:jD} (h:v.one=true):v.cells=[v]:=by cases v <;> first | rfl | cases h
theorem o1 {v:jD} (h:v.one=true:=by first | exact rfl | exact (oF.ln (by assumption)).one | exact (St.rB (k:=0) (by assumption) rfl).one | exact (St.rB (k:=1) (by assumption) rfl).one | exact (St.rB (k:=2) (by assumption) rfl).one | exact (St.rB (k:=3) (by assumption) rfl).one | exact (St.rB (k:=4) (by assumption) rfl).one | exact (St.rB (k:=5) (by assumption) rfl).one | exact (St.rB (k:=6) (by assumption) rfl).one | exact (St.rB (k:=7) (by assumption) rfl).one | exact (St.ub (k:=0) (by assumption) rfl).one | exact (St.ub (k:=1) (by assumption) rfl).one | exact (St.ub (k:=2) (by assumption) rfl).one | exact (St.ub (k:=3) (by assumption) rfl).one | exact (St.ub (k:=4) (by assumption) rfl).one | exact (St.ub (k:=5) (by assumption) rfl).one | exact (St.ub (k:=6) (by assumption) rfl).one | exact (St.ub (k:=7) (by assumption) rfl).one):v.one=true:=h
theorem Qy {v:jD} {l:List jD} (h2:l.all jD.one=true) (h1:v.one=true):(v::l).all jD.one=true:=by rw [List.all_cons,h1,h2];rfl
theorem Qx {a b:List jD} (h2:b.all jD.one=true) (h1:a.all jD.one=true):(a++b).all jD.one=true:=by rw [List.all_append,h1,h2];rfl
theorem sc {X:List Nat} {h0:Hp} {F0 F:jL} {Ls:List Ob} {g o:Nat} {cs:List jD} {t:TypeId} {x y:Operand} {v:jD} (n:Nat) (cs':List jD) (q:∀ w',St X h0 F0 F (Ls.set n (.box g cs')) w' → W P K fn k A false (qH w') L E w') (py:(oE A i).op = .store t x y:=by exact rfl) (hx:oS E x=some (pl g o):=by exact rfl) (hy:oS E y=some v:=by exact rfl) (hS:St X h0 F0 F Ls h:=by assumption) (hk:Ls[n]? = some (.box g cs):=by exact rfl) (hq:IM A E i:=by exact ⟨rfl,rfl,rfl⟩) (h1:v.one=true:=by exact o1) (hz:sz P t=some 1:=by exact tH.out) (tU:Nat.ble (o+1) cs.length=true:=by exact rfl) (tu:p6 cs o [v]=cs':=by exact rfl):W P K fn k A false G (i::L) E h :=
 um (Q:=fun _ h'=>St X h0 F0 F (Ls.set n (.box g cs')) h') (py ▸ CY (c:=[v]) n cs' hx hy hS hk (jD.Wj h1) hz (by simp [h1]) tU tu) (fun _ w' ux=>q w' ux) hq
theorem sC {X:List Nat} {h0:Hp} {F0 F:jL} {Ls:List Ob} {g o:Nat} {cs:List jD} {t:TypeId} {x y:Operand} {v:jD} (n:Nat) (cs':List jD) (q:∀ w',St X h0 F0 F (Ls.set n (.box g cs')) w' → W P K fn k A dr F L E w') (py:(oE A i).op = .store t x y:=by exact rfl) (hx:oS E x=some (pl g o):=by exact rfl) (hy:oS E y=some v:=by exact rfl) (hS:St X h0 F0 F Ls h:=by assumption) (hk:Ls[n]? = some (.box g cs):=by exact rfl) (hq:IM A E i:=by exact ⟨rfl,rfl,rfl⟩) (h1:v.one=true:=by exact o1) (hz:sz P t=some 1:=by exact tH.out) (tU:Nat.ble (o+1) cs.length=true:=by exact rfl) (tu:p6 cs o [v]=cs':=by exact rfl):W P K fn k A dr F (i::L) E h :=
 qu (Q:=fun _ h'=>St X h0 F0 F (Ls.set n (.box g cs')) h') (py ▸ CY (c:=[v]) n cs' hx hy hS hk (jD.Wj h1) hz (by simp [h1]) tU tu) (fun _ w' ux=>qw ux (q w' ux)) hq
theorem sb {X:List Nat} {h0:Hp} {F0 F:jL} {Ls:List Ob} {g o:Nat} {cs:List jD} {t:TypeId} {x y:Operand} {v:jD} (n:Nat) (cs':List jD) (q:∀ w',St X h0 F0 F (Ls.set n (.box g cs')) w' → W P K fn k A false (qH w') L E w') (py:(oE A i).op = .store t x y:=by exact rfl) (hx:oS E x=some (pl g o):=by exact rfl) (hy:oS E y=some v:=by exact rfl) (hS:St X h0 F0 F Ls h:=by assumption) (hk:Ls[n]? = some (.box g cs):=by exact rfl) (hq:IM A E i:=by exact ⟨rfl,rfl,rfl⟩) (h1:v.cells.all jD.one=true:=by repeat (first | exact rfl | refine Qx ?_ rfl | refine Qy ?_ (by exact o1))) (hz:sz P t=some v.cells.length:=by exact tH.out) (tU:Nat.ble (o+v.cells.length) cs.length=true:=by exact rfl) (tu:p6 cs o v.cells=cs':=by exact rfl):W P K fn k A false G (i::L) E h :=
 um (Q:=fun _ h'=>St X h0 F0 F (Ls.set n (.box g cs')) h') (py ▸ CY (c:=v.cells) n cs' hx hy hS hk rfl hz h1 tU tu) (fun _ w' ux=>q w' ux) hq
theorem sB {X:List Nat} {h0:Hp} {F0 F:jL} {Ls:List Ob} {g o:Nat} {cs:List jD} {t:TypeId} {x y:Operand} {v:jD} (n:Nat) (cs':List jD) (q:∀ w',St X h0 F0 F (Ls.set n (.box g cs')) w' → W P K fn k A dr F L E w') (py:(oE A i).op = .store t x y:=by exact rfl) (hx:oS E x=some (pl g o):=by exact rfl) (hy:oS E y=some v:=by exact rfl) (hS:St X h0 F0 F Ls h:=by assumption) (hk:Ls[n]? = some (.box g cs):=by exact rfl) (hq:IM A E i:=by exact ⟨rfl,rfl,rfl⟩) (h1:v.cells.all jD.one=true:=by repeat (first | exact rfl | refine Qx ?_ rfl | refine Qy ?_ (by exact o1))) (hz:sz P t=some v.cells.length:=by exact tH.out) (tU:Nat.ble (o+v.cells.length) cs.length=true:=by exact rfl) (tu:p6 cs o v.cells=cs':=by exact rfl):W P K fn k A dr F (i::L) E h :=
 qu (Q:=fun _ h'=>St X h0 F0 F (Ls.set n (.box g cs')) h') (py ▸ CY (c:=v.cells) n cs' hx hy hS hk rfl hz h1 tU tu) (fun _ w' ux=>qw ux (q w' ux)) hq
theorem al {X:List Nat} {h0:Hp} {F0 F:jL} {Ls:List Ob} {t:TypeId} {cs:List jD} (q:∀ g w',St X h0 F0 F (.box g cs::Ls) w' → W P K fn k A false (qH w') L ((d,pl g 0)::E) w') (py:(oE A i).op = .alloc t:=by exact rfl) (hq:sE A E i d:=by exact ⟨rfl,rfl,rfl⟩) (hz:(zeroV P t).map jD.cells=some cs:=by exact B7.out) (h1:cs.all jD.one=true:=by exact rfl) (hS:St X h0 F0 F Ls h:=by assumption):W P K fn k A false G (i::L) E h :=
 xm (py ▸ vF hz h1 hS) (by rintro _ w' ⟨g,rfl,ux⟩;exact q g w' ux) hq
theorem aM {X:List Nat} {h0:Hp} {F0 F:jL} {Ls:List Ob} {t:TypeId} {cs:List jD} (q:∀ g w',St X h0 F0 F (.box g cs::Ls) w' → W P K fn k A dr F L ((d,pl g 0)::E) w') (py:(oE A i).op = .alloc t:=by exact rfl) (hq:sE A E i d:=by exact ⟨rfl,rfl,rfl⟩) (hz:(zeroV P t).map jD.cells=some cs:=by exact B7.out) (h1:cs.all jD.one=true:=by exact rfl) (hS:St X h0 F0 F Ls h:=by assumption):W P K fn k A dr F (i::L) E h :=
 qx (py ▸ vF hz h1 hS) (by rintro _ w' ⟨g,rfl,ux⟩;exact qw ux (q g w' ux)) hq
theorem bx {X:List Nat} {h0:Hp} {F0 F:jL} {Ls:List Ob} {t:TypeId} {x:Operand} {v:jD} (cs:List jD) (q:∀ g w',St X h0 F0 F (.box g cs::Ls) w' → W P K fn k A false (qH w') L ((d,pl g 0)::E) w') (py:(oE A i).op = .box t x:=by exact rfl) (hq:sE A E i d:=by exact ⟨rfl,rfl,rfl⟩) (hx:oS E x=some v:=by exact rfl) (hc:v.cells=cs:=by exact rfl) (h1:cs.all jD.one=true:=by repeat (first | exact rfl | refine Qx ?_ rfl | refine Qy ?_ (by exact o1))) (hS:St X h0 F0 F Ls h:=by assumption):W P K fn k A false G (i::L) E h :=
 xm (py ▸ aap hx hc h1 hS) (by rintro _ w' ⟨g,rfl,ux⟩;exact q g w' ux) hq
theorem lq {X:List Nat} {h0:Hp} {F0 F F1:jL} {Ls:List Ob} {f:FuncId} {args:List jD} {u:jD} (hc:pa P K f args h fun v w'=>∃ F',v=u∧St [] h F1 F' [] w') (hS:St X h0 F0 F Ls h) (x:∀ w',St X h0 F0 F Ls w' → W P K fn k A dr F L ((d,u)::E) w') (hq:sE A E i d:=by exact ⟨rfl,rfl,rfl⟩) (ht:Eo E (oE A i).op=some (f,args):=by exact rfl):W P K fn k A dr F (i::L) E h :=
 ql hc (by rintro v w' ⟨F',rfl,hT⟩;exact qw (hS.vw hT) (x w' (hS.vw hT))) hq ht
theorem rn {id:Nat} (x:W P K fn k A true (qH h) (List.range A.length) E h) (hd:zC fn.ntmps A=true:=by exact rfl) (hf:P.follows .mixedOrders=true:=by kernel_rfl) (hL:Gx P A (List.range A.length)=true:=by kernel_rfl):C P K fn k (.region id A.toArray true) E h:=uT _ hd hf hL (JE h) x
theorem rf {id:Nat} {X:List Nat} {h0:Hp} {F0 F:jL} {Ls:List Ob} (hS:St X h0 F0 F Ls h) (x:W P K fn k A true F (List.range A.length) E h) (hd:zC fn.ntmps A=true:=by exact rfl) (hf:P.follows .mixedOrders=true:=by kernel_rfl) (hL:Gx P A (List.range A.length)=true:=by kernel_rfl):C P K fn k (.region id A.toArray true) E h:=uT _ hd hf hL hS.agree x
theorem nj {J:EL→Hp→Prop} {l':EL} (hJ:J l' h) (hs:Sub l' E:=by repeat (first | exact trivial | refine ⟨rfl,?_⟩)):N P K fn (.loop (M8 J) k) E h:=sj l' hJ hs
theorem nm {S B:Type} {Inv:S→EL→Hp→Prop} {rec:S→Option B} {a:B} {s:S} {E':EL} (H:rec s=some a) (hI:Inv s E' h) (hE:Sub E' E:=by repeat (first | exact trivial | refine ⟨rfl,?_⟩)):N P K fn (.loop (M6 Inv rec a) k) E h:=aav s E' H hI hE
theorem lo {Q:EL→Prop} {E':EL} (hI:Q E') (hE:Sub E' E:=by repeat (first | exact trivial | refine ⟨rfl,?_⟩)):∃ E',Q E' ∧ Sub E' E:=⟨E',hI,hE⟩
theorem a2 {S Q:Prop} (hp:S) (hq:Left S→Q:=by
  intro hp
  first | refine aaV ?_ | refine VB ?_ | refine ag ?_ | refine ao ?_ | refine aa ?_ | refine agc ?_
  exact hp.out):Q:=hq ⟨hp⟩
theorem au {S Q:Prop} (hp:S) (hq:Left S→Q:=by
  intro hp
  repeat (refine a1 ?_)
  exact hp.out):Q:=hq ⟨hp⟩
theorem aq {S Q:Prop} (hp:S) (hq:Left S→Q:=by
  intro hp;refine qs ?_
  repeat (refine a1 ?_)
  exact hp.out):Q:=hq ⟨hp⟩
theorem aw {S Q:Prop} (hp:S) (hq:Left S→Q:=by
  intro hp
  repeat (first | refine a1 ?_ | refine a2 ?_)
  exact hp.out):Q:=hq ⟨hp⟩
theorem av {S Q:Prop} (hp:S) (hq:Left S→Q:=by
  intro hp;refine qs ?_
  repeat (first | refine a1 ?_ | refine a2 ?_)
  exact hp.out):Q:=hq ⟨hp⟩
end
end Go.V
end
section
namespace Go.V
open Go.Wk
def wV:List UInt32→List jD
 | []=>[]
 | x::r=>.i .u32 (x.toNat:Int)::wV r
def nW:Nat→List UInt32→List (Nat × jD)
 | _,[]=>[]
 | i,x::r=>(i,.i .u32 (x.toNat:Int))::nW (i+1) r
theorem jF {F:jL}:∀ l:List UInt32,IK tW F ((wV l).map jD.cells) l
 | []=>trivial
 | _::r=>⟨rfl,jF r⟩
theorem ot {α:Type} {c:Bool} {o:Option α} {d r:α} (h:only c o d=some r) (hc:c=true):o=some r:=by rwa [qA hc] at h
abbrev jE {X:List Nat} {h0 h:Hp} {F0 F:jL} {Ls:List Ob} (E0:EL) (_:St X h0 F0 F Ls h):EL→Hp→Prop:=fun E w=>∃ F':jL,E=E0∧F.le F' ∧ St X h0 F0 F' Ls w
abbrev jN {X:List Nat} {h0 h:Hp} {F0 F:jL} {Ls:List Ob} (p:Prop) (E0:EL) (_:St X h0 F0 F Ls h):EL→Hp→Prop:=fun E w=>p ∧ ∃ F':jL,E=E0∧F.le F' ∧ St X h0 F0 F' Ls w
abbrev jO {X:List Nat} {h0 h:Hp} {F0 F:jL} {Ls:List Ob} (p:Prop) (E0:EL) (_:St X h0 F0 F Ls h) (Lt:List Ob):EL→Hp→Prop:=fun E w=>p ∧ ∃ F':jL,E=E0∧F.le F' ∧ St X h0 F0 F' Lt w
theorem jj {X:List Nat} {h0 h:Hp} {F0 F F1:jL} {Ls:List Ob} {E0:EL} (hS:St X h0 F0 F Ls h) (l:F1.le F:=by exact pc):∃ F':jL,E0=E0∧F1.le F' ∧ St X h0 F0 F' Ls h:=⟨F,rfl,l,hS⟩
theorem pk {X:List Nat} {h0 h:Hp} {F0 F:jL} {Ls:List Ob} (is:List Nat) (hS:St X h0 F0 F Ls h) (hn:is.Nodup:=by decide):St X h0 F0 F (is.filterMap fun i=>Ls[i]?) h:=hS.pick is hn
theorem mo {α:Type} {t:Tr α} {F G:jL} {v:jD} {xs:List α} (h:oF t F v xs) (l:F.le G:=by exact pc):oF t G v xs:=h.mono l
section
variable {P:Program} {K:Tb} {fn:Func} {k:ua} {E:EL} {h:Hp} {A:List Oper} {dr:Bool} {G:jL} {L:List Nat} {i d:Nat} {X:List Nat} {h0:Hp} {F0 F F1:jL} {Ls:List Ob}
theorem lj {S T:Type} {a:T} {c:Code} {n:Nat} {Fn:(S→Option T)→S→Option T} {s0:S} (hS:St X h0 F0 F1 Ls h) (e:S→EL) (H:iter Fn n s0=some a)
  (round:∀ (rec:S→Option T) s F w',F1.le F→St X h0 F0 F Ls w' → Fn rec s=some a→C P K fn (.loop (M6 (fun s=>jE (e s) hS) rec a) k) c (e s) w') (hE:Sub (e s0) E:=by repeat (first | exact trivial | refine ⟨rfl,?_⟩)):C P K fn k (.loop c) E h :=
 qC (fun s=>jE (e s) hS) H ⟨_,⟨F1,rfl,jL.le.refl _,hS⟩,hE⟩ (by
  rintro rec s E w' ⟨F,rfl,le,ux⟩ H;exact round rec s F w' le ux H)
theorem gw {α:Type} {c:Bool} {o:Option α} {z r:α} {j:Nat} {b want:Bool} {f:FuncId} {args:List jD} {u:jD} {F2:jL} (hS:St X h0 F0 F Ls h) (hr:only c o z=some r) (hc:o=some r→pa P K f args h fun v w'=>∃ F',v=u∧St [] h F2 F' [] w')
  (x:∀ w',St X h0 F0 F Ls w' → pQ P K fn k A dr G L ((d,uZ [(b,want)] u)::E) w') (hg:(oE A i).guard=some (j,want):=by exact rfl) (hy:zY A E j=some (.b b):=by exact rfl) (hi:Nat.blt i A.length=true:=by exact rfl) (hd:(oE A i).dst=some d:=by exact rfl)
  (Ak:vD [(b,want)]→c=true:=by
   rintro ⟨h1,_⟩
   first | exact h1 | (rw [h1];first | done | rfl) | simp [h1])
  (ht:vD [(b,want)]→Eo E (oE A i).op=some (f,args):=by
   rintro ⟨h1,_⟩
   first | exact rfl | (rw [h1];exact rfl))
  (hw:vD [(b,want)]→sr A E (oE A i)=some true:=by
   rintro ⟨h1,_⟩;rw [h1];exact rfl):W P K fn k A dr G (i::L) E h :=
 aaD (v:=u) (Q:=St X h0 F0 F Ls) hS hg hy hi hd (fun ha hK=>ql (hc (ot hr (Ak ha))) (by rintro v w' ⟨F',rfl,hT⟩;exact hK _ (hS.vw hT)) ⟨hi,hw ha,hd⟩ (ht ha)) x
theorem Rs {α:Type} {c:Bool} {o:Option α} {z r:α} {j:Nat} {cs:List (Bool × Bool)} {b want:Bool} {f:FuncId} {args:List jD} {u:jD} {F2:jL} (hS:St X h0 F0 F Ls h) (hr:only c o z=some r) (hc:o=some r→pa P K f args h fun v w'=>∃ F',v=u∧St [] h F2 F' [] w')
  (x:∀ w',St X h0 F0 F Ls w' → pQ P K fn k A dr G L ((d,uZ (cs++[(b,want)]) u)::E) w') (hg:(oE A i).guard=some (j,want):=by exact rfl) (hy:zY A E j=some (uZ cs (.b b)):=by exact rfl) (hi:Nat.blt i A.length=true:=by exact rfl) (hd:(oE A i).dst=some d:=by exact rfl)
  (Ak:vD (cs++[(b,want)])→c=true:=by
   first | (rintro ⟨h1,h2,(_:True)⟩;first | rfl | (rw [h1,h2];rfl) | (rw [h2,h1];rfl) | simp [h1,h2]) | (rintro ⟨h1,h2,h3,(_:True)⟩;first | rfl | (rw [h1,h2,h3];rfl) | (rw [h3,h2,h1];rfl) | simp [h1,h2,h3]) | (rintro ⟨h1,h2,h3,h4,(_:True)⟩;first | rfl | (rw [h1,h2,h3,h4];rfl) | (rw [h4,h3,h2,h1];rfl) | simp [h1,h2,h3,h4]) | (rintro ⟨h1,h2,h3,h4,h5,(_:True)⟩;first | rfl | (rw [h1,h2,h3,h4,h5];rfl) | (rw [h5,h4,h3,h2,h1];rfl) | simp [h1,h2,h3,h4,h5]))
  (ht:vD (cs++[(b,want)])→Eo E (oE A i).op=some (f,args):=by
   first | exact fun _=>rfl | ((first | (rintro ⟨h1,h2,(_:True)⟩;try rw [h2];try rw [h1]) | (rintro ⟨h1,h2,h3,(_:True)⟩;try rw [h3];try rw [h2];try rw [h1]) | (rintro ⟨h1,h2,h3,h4,(_:True)⟩;try rw [h4];try rw [h3];try rw [h2];try rw [h1]) | (rintro ⟨h1,h2,h3,h4,h5,(_:True)⟩;try rw [h5];try rw [h4];try rw [h3];try rw [h2];try rw [h1]));exact rfl) | ((first | (rintro ⟨h1,h2,(_:True)⟩;try rw [h1];try rw [h2]) | (rintro ⟨h1,h2,h3,(_:True)⟩;try rw [h1];try rw [h2];try rw [h3]) | (rintro ⟨h1,h2,h3,h4,(_:True)⟩;try rw [h1];try rw [h2];try rw [h3];try rw [h4]) | (rintro ⟨h1,h2,h3,h4,h5,(_:True)⟩;try rw [h1];try rw [h2];try rw [h3];try rw [h4];try rw [h5]));exact rfl))
  (hw:vD (cs++[(b,want)])→sr A E (oE A i)=some true:=by
   first | ((first | (rintro ⟨h1,h2,(_:True)⟩;try rw [h2];try rw [h1]) | (rintro ⟨h1,h2,h3,(_:True)⟩;try rw [h3];try rw [h2];try rw [h1]) | (rintro ⟨h1,h2,h3,h4,(_:True)⟩;try rw [h4];try rw [h3];try rw [h2];try rw [h1]) | (rintro ⟨h1,h2,h3,h4,h5,(_:True)⟩;try rw [h5];try rw [h4];try rw [h3];try rw [h2];try rw [h1]));exact rfl) | ((first | (rintro ⟨h1,h2,(_:True)⟩;try rw [h1];try rw [h2]) | (rintro ⟨h1,h2,h3,(_:True)⟩;try rw [h1];try rw [h2];try rw [h3]) | (rintro ⟨h1,h2,h3,h4,(_:True)⟩;try rw [h1];try rw [h2];try rw [h3];try rw [h4]) | (rintro ⟨h1,h2,h3,h4,h5,(_:True)⟩;try rw [h1];try rw [h2];try rw [h3];try rw [h4];try rw [h5]));exact rfl)):W P K fn k A dr G (i::L) E h :=
 Vr (v:=u) (Q:=St X h0 F0 F Ls) hS hg hy hi hd (fun ha hK=>ql (hc (ot hr (Ak ha))) (by rintro v w' ⟨F',rfl,hT⟩;exact hK _ (hS.vw hT)) ⟨hi,hw ha,hd⟩ (ht ha)) x
theorem ge {α:Type} {t:Tr α} {xs:List α} {n:Int} {c:Bool} {z x:α} {y v:jD} {j:Nat} {b want:Bool} (hE:oF t F1 y xs) (hx:only c (ix xs n) z=some x)
  (q:W P K fn k A dr G L ((d,uZ [(b,want)] v)::E) h) (hg:(oE A i).guard=some (j,want):=by exact rfl) (hy:zY A E j=some (.b b):=by exact rfl) (hi:Nat.blt i A.length=true:=by exact rfl) (hd:(oE A i).dst=some d:=by exact rfl)
  (Ak:vD [(b,want)]→c=true:=by
   rintro ⟨h1,_⟩
   first | exact h1 | (rw [h1];first | done | rfl) | simp [h1])
  (py:vD [(b,want)]→ix xs n=some x→(∃ cs,t.rel F1 cs x∧tj F1 y t.size n.toNat cs)→W P K fn k A dr G L ((d,v)::E) h→W P K fn k A dr G (i::L) E h:=by
   rintro ⟨hb,_⟩ hX ⟨_,hr,he⟩;replace he:=qj _ he
   try rw [hb]
   intro hK
   first | exact aI hK | exact aF hK | (first | obtain rfl:=hr | obtain ⟨rfl,_⟩:=hr | obtain ⟨_,rfl,_⟩:=hr | obtain ⟨_,_,rfl,_⟩:=hr | obtain ⟨_,_,_,rfl,_⟩:=hr | obtain ⟨_,_,_,_,rfl,_⟩:=hr);first | exact aE hK | exact Nh hK | exact aG hK | exact Ni hK):W P K fn k A dr G (i::L) E h :=
 uC hg hy hi hd (fun ha hK=>py ha (ot hx (Ak ha)) (hE.el (oM (ot hx (Ak ha))).2) hK) q
theorem xS {α:Type} {t:Tr α} {xs:List α} {n:Int} {c:Bool} {z x:α} {y v:jD} {j:Nat} {cs:List (Bool × Bool)} {b want:Bool} (hE:oF t F1 y xs) (hx:only c (ix xs n) z=some x)
  (q:W P K fn k A dr G L ((d,uZ (cs++[(b,want)]) v)::E) h) (hg:(oE A i).guard=some (j,want):=by exact rfl) (hy:zY A E j=some (uZ cs (.b b)):=by exact rfl) (hi:Nat.blt i A.length=true:=by exact rfl) (hd:(oE A i).dst=some d:=by exact rfl)
  (Ak:vD (cs++[(b,want)])→c=true:=by
   first | (rintro ⟨h1,h2,(_:True)⟩;first | rfl | (rw [h1,h2];rfl) | (rw [h2,h1];rfl) | simp [h1,h2]) | (rintro ⟨h1,h2,h3,(_:True)⟩;first | rfl | (rw [h1,h2,h3];rfl) | (rw [h3,h2,h1];rfl) | simp [h1,h2,h3]) | (rintro ⟨h1,h2,h3,h4,(_:True)⟩;first | rfl | (rw [h1,h2,h3,h4];rfl) | (rw [h4,h3,h2,h1];rfl) | simp [h1,h2,h3,h4]) | (rintro ⟨h1,h2,h3,h4,h5,(_:True)⟩;first | rfl | (rw [h1,h2,h3,h4,h5];rfl) | (rw [h5,h4,h3,h2,h1];rfl) | simp [h1,h2,h3,h4,h5]))
  (py:vD (cs++[(b,want)])→ix xs n=some x→(∃ cs,t.rel F1 cs x∧tj F1 y t.size n.toNat cs)→W P K fn k A dr G L ((d,v)::E) h→W P K fn k A dr G (i::L) E h:=by
   first | ((first | (rintro ⟨h1,h2,(_:True)⟩;try rw [h2];try rw [h1]) | (rintro ⟨h1,h2,h3,(_:True)⟩;try rw [h3];try rw [h2];try rw [h1]) | (rintro ⟨h1,h2,h3,h4,(_:True)⟩;try rw [h4];try rw [h3];try rw [h2];try rw [h1]) | (rintro ⟨h1,h2,h3,h4,h5,(_:True)⟩;try rw [h5];try rw [h4];try rw [h3];try rw [h2];try rw [h1]));rintro hX ⟨_,hr,he⟩ hK;replace he:=qj _ he;first | exact aI hK | exact aF hK | (first | obtain rfl:=hr | obtain ⟨rfl,_⟩:=hr | obtain ⟨_,rfl,_⟩:=hr | obtain ⟨_,_,rfl,_⟩:=hr | obtain ⟨_,_,_,rfl,_⟩:=hr | obtain ⟨_,_,_,_,rfl,_⟩:=hr);first | exact aE hK | exact Nh hK | exact aG hK | exact Ni hK) | ((first | (rintro ⟨h1,h2,(_:True)⟩;try rw [h1];try rw [h2]) | (rintro ⟨h1,h2,h3,(_:True)⟩;try rw [h1];try rw [h2];try rw [h3]) | (rintro ⟨h1,h2,h3,h4,(_:True)⟩;try rw [h1];try rw [h2];try rw [h3];try rw [h4]) | (rintro ⟨h1,h2,h3,h4,h5,(_:True)⟩;try rw [h1];try rw [h2];try rw [h3];try rw [h4];try rw [h5]));rintro hX ⟨_,hr,he⟩ hK;replace he:=qj _ he;first | exact aI hK | exact aF hK | (first | obtain rfl:=hr | obtain ⟨rfl,_⟩:=hr | obtain ⟨_,rfl,_⟩:=hr | obtain ⟨_,_,rfl,_⟩:=hr | obtain ⟨_,_,_,rfl,_⟩:=hr | obtain ⟨_,_,_,_,rfl,_⟩:=hr);first | exact aE hK | exact Nh hK | exact aG hK | exact Ni hK)):W P K fn k A dr G (i::L) E h :=
 KC hg hy hi hd (fun ha hK=>py ha (ot hx (Ak ha)) (hE.el (oM (ot hx (Ak ha))).2) hK) q
theorem bl {g o:Nat} {cs:List jD} {t:TypeId} {x:Operand} (hS:St X h0 F0 F Ls h) (n:Nat) (c post:List jD) (q:W P K fn k A dr (qH h) L ((d,.agg c)::E) h) (py:(oE A i).op = .load t x:=by exact rfl) (hx:oS E x=some (pl g o):=by exact rfl) (hk:Ls[n]? = some (.box g cs):=by exact rfl) (hq:sE A E i d:=by exact ⟨rfl,rfl,rfl⟩) (ht:rY P t=some true:=by exact tw.out) (hz:sz P t=some c.length:=by exact tH.out) (hp:0 < c.length:=by exact Nat.zero_lt_succ _) (hs:cs.drop o=c++post:=by exact rfl):W P K fn k A dr (qH h) (i::L) E h :=
 xr hq.1 hq.2.1 hq.2.2 (py ▸ yy n c ht hz hp hx hS hk fun q u h=>xd hs h) q
theorem bL {g o:Nat} {cs:List jD} {t:TypeId} {x:Operand} (hS:St X h0 F0 F Ls h) (n:Nat) (c post:List jD) (q:W P K fn k A dr G L ((d,.agg c)::E) h) (hb:ahead P A i L=true:=by kernel_rfl) (py:(oE A i).op = .load t x:=by exact rfl) (hx:oS E x=some (pl g o):=by exact rfl) (hk:Ls[n]? = some (.box g cs):=by exact rfl) (hq:sE A E i d:=by exact ⟨rfl,rfl,rfl⟩) (ht:rY P t=some true:=by exact tw.out) (hz:sz P t=some c.length:=by exact tH.out) (hp:0 < c.length:=by exact Nat.zero_lt_succ _) (hs:cs.drop o=c++post:=by exact rfl):W P K fn k A dr G (i::L) E h :=
 Nf hb hq.1 hq.2.1 hq.2.2 (py ▸ yy n c ht hz hp hx hS hk fun q u h=>xd hs h) q
theorem ap {α:Type} {t:Tr α} {ts tx e:TypeId} {sx xx:Operand} {v x:jD} {xs ys zs:List α} (n:Nat) (hS:St X h0 F0 F Ls h) (hx:Src t F h x ys) (hz:app xs ys=some zs) (q:∀ v' w',St X h0 F0 F (Ls.set n (.row t v' zs)) w' → W P K fn k A false (qH w') L ((d,v')::E) w') (py:(oE A i).op = .call { callee:=.builtin .append,args:=#[sx,xx],argTypes:=#[ts,tx] }:=by exact rfl) (hs:oS E sx=some v:=by exact rfl) (Dr:oS E xx=some x:=by exact rfl) (hk:Ls[n]? = some (.row t v xs):=by exact rfl) (hq:sE A E i d:=by exact ⟨rfl,rfl,rfl⟩) (ht:P.underlying ts=some (.slice e):=by exact zy.out) (hr:vV P e t.size=true:=by exact AP.out) (BF:yP P tx=some false:=by exact C4.out):W P K fn k A false G (i::L) E h :=
 xm (py ▸ xl n ht hr BF hs Dr hS hk hx hz) q hq
theorem aP {α:Type} {t:Tr α} {ts tx e:TypeId} {sx xx:Operand} {v x:jD} {xs ys zs:List α} (n:Nat) (hS:St X h0 F0 F Ls h) (hx:Src t F h x ys) (hz:app xs ys=some zs) (q:∀ v' w',St X h0 F0 F (Ls.set n (.row t v' zs)) w' → W P K fn k A dr F L ((d,v')::E) w') (py:(oE A i).op = .call { callee:=.builtin .append,args:=#[sx,xx],argTypes:=#[ts,tx] }:=by exact rfl) (hs:oS E sx=some v:=by exact rfl) (Dr:oS E xx=some x:=by exact rfl) (hk:Ls[n]? = some (.row t v xs):=by exact rfl) (hq:sE A E i d:=by exact ⟨rfl,rfl,rfl⟩) (ht:P.underlying ts=some (.slice e):=by exact zy.out) (hr:vV P e t.size=true:=by exact AP.out) (BF:yP P tx=some false:=by exact C4.out):W P K fn k A dr F (i::L) E h :=
 qx (py ▸ xl n ht hr BF hs Dr hS hk hx hz) (fun v' w' ux=>qw ux (q v' w' ux)) hq
theorem rh {id g:Nat} {w0:Hp} {cs:List jD} (n:Nat) (b:ED w0 g cs) (hS:St X h0 F0 F Ls h) (x:W P K fn k A true (F.hold w0 [g]) (List.range A.length) E h) (hk:Ls[n]? = some (.box g cs):=by exact rfl) (hd:zC fn.ntmps A=true:=by exact rfl) (hf:P.follows .mixedOrders=true:=by kernel_rfl) (hL:Gx P A (List.range A.length)=true:=by kernel_rfl):C P K fn k (.region id A.toArray true) E h :=
 uT _ hd hf hL (HB.agree (HB.cons n b hS hk HB.nil) hS.agree) x
theorem hl {g o:Nat} {w0:Hp} {cs:List jD} {t:TypeId} {x:Operand} {u:jD} (n:Nat) (b:ED w0 g cs) (hS:St X h0 F0 F Ls h) (q:W P K fn k A dr (F.hold w0 [g]) L ((d,u)::E) h) (hk:Ls[n]? = some (.box g cs):=by exact rfl) (py:(oE A i).op = .load t x:=by exact rfl) (hx:oS E x=some (pl g o):=by exact rfl) (hq:sE A E i d:=by exact ⟨rfl,rfl,rfl⟩) (hu:cs[o]? = some u:=by exact rfl) (ht:rY P t=some false:=by exact tw.out):W P K fn k A dr (F.hold w0 [g]) (i::L) E h :=
 xr hq.1 hq.2.1 hq.2.2 (py ▸ wB ht hx (b.held (HB.cons n b hS hk HB.nil) (List.mem_cons_self ..)) hu) q
theorem nf {g:Nat} {w0:Hp} {cs:List jD} {F':jL} (n:Nat) (b:ED w0 g cs) (hS:St X h0 F0 F' Ls h) (l:F.le F') (q:W P K fn k A dr (F'.hold w0 [g]) L E h) (hk:Ls[n]? = some (.box g cs):=by exact rfl):pQ P K fn k A dr (F.hold w0 [g]) L E h :=
 pQ.tT (HB.le (HB.cons n b hS hk HB.nil) l) (HB.agree (HB.cons n b hS hk HB.nil) hS.agree) q
theorem wg {g:Nat} {w0:Hp} {cs:List jD} {F':jL} (n:Nat) (b:ED w0 g cs) (hS:St X h0 F0 F' Ls h) (l:F.le F') (q:W P K fn k A dr (F'.hold w0 [g]) L E h) (hk:Ls[n]? = some (.box g cs):=by exact rfl):W P K fn k A dr (F.hold w0 [g]) L E h :=
 Vu (HB.le (HB.cons n b hS hk HB.nil) l) (HB.agree (HB.cons n b hS hk HB.nil) hS.agree) q
end
theorem a3 {S Q:Prop} (hp:S) (hq:Left S→Q:=by
  intro hp
  first | with_reducible refine Bo ?_ | with_reducible refine xP ?_ | with_reducible refine Vh ?_ | with_reducible refine tR ?_ | with_reducible refine qN ?_ | refine qd ?_ | refine qs ?_ | refine pw _ rfl ?_
  exact hp.out):Q:=hq ⟨hp⟩
theorem ax {S Q:Prop} (hp:S) (hq:Left S→Q:=by
  intro hp
  repeat (first | refine a3 ?_ | refine a1 ?_)
  exact hp.out):Q:=hq ⟨hp⟩
theorem az {S Q:Prop} (hp:S) (hq:Left S→Q:=by
  intro hp
  repeat (first | refine a3 ?_ | refine a1 ?_ | refine a2 ?_)
  exact hp.out):Q:=hq ⟨hp⟩
theorem ay {S Q:Prop} (hp:S) (hq:Left S→Q:=by
  intro hp
  repeat (first | refine qs ?_ | with_reducible refine qU ?_ | refine a3 ?_ | refine a1 ?_)
  exact hp.out):Q:=hq ⟨hp⟩
theorem aZ {S Q:Prop} (hp:S) (hq:Left S→Q:=by
  intro hp
  repeat (first | refine qs ?_ | with_reducible refine qU ?_ | refine a3 ?_ | refine a1 ?_ | refine a2 ?_)
  exact hp.out):Q:=hq ⟨hp⟩
theorem rz {α:Type} {a r:α} {Q:Prop} {X:List Nat} {h0 h:Hp} {F0 F:jL} {Ls:List Ob} (H:some a=some r) (hS:St X h0 F0 F Ls h) (hq:some a=some r→St X h0 F0 F Ls h→Q:=by
  intro H hS;obtain rfl:=oi H
  try refine qs ?_
  repeat (refine a1 ?_)
  refine qt ?_
  first | exact ⟨_,rfl,hS⟩ | exact ⟨_,rfl,hS.pick [] (by decide)⟩):Q:=hq H hS
theorem rx {α:Type} {a r:α} {Q:Prop} {X:List Nat} {h0 h:Hp} {F0 F:jL} {Ls:List Ob} (H:some a=some r) (hS:St X h0 F0 F Ls h) (hq:some a=some r→St X h0 F0 F Ls h→Q:=by
  intro H hS;obtain rfl:=oi H
  try refine qs ?_
  repeat (refine a1 ?_)
  refine qt ?_
  first | exact ⟨_,rfl,hS⟩ | exact ⟨_,_,rfl,hS⟩ | exact ⟨_,_,_,rfl,hS⟩ | exact ⟨_,_,_,_,rfl,hS⟩):Q:=hq H hS
end Go.V
end
section
namespace Go.V
open Go.Wk
def xe (s:Nat) (hp:0 < s):Tr (Cl s):=⟨s,fun _ cs x=>cs=x.1∧x.1.all jD.one=true,hp,fun {F cs x} q=>by rw [q.1];exact x.2,fun q=>by rw [q.1];exact q.2,fun _ q=>q⟩
def To.Hf {α:Type} (t:To α):To (List (Cl t.size) × List α) where
 size:=0
 rel F h bs cs p:=cs=[] ∧ ∃ bss,rI t F h p.1 bss p.2∧bs=bss.flatten∧bs.Nodup
 len:=fun q=>by rw [q.1];rfl
 one:=fun q=>by rw [q.1];rfl
 lt:=fun ⟨_,bss,r,e,_⟩ b hb=>r.lt b (by rw [← e];exact hb)
 nodup:=fun ⟨_,bss,r,e,n⟩=>n
 mono:=fun l ⟨a,bss,r,e,n⟩=>⟨a,bss,⟨r.rm,r.tn,fun i d x g q1 q2 q3=>t.mono l (r.rel i d x g q1 q2 q3)⟩,e,n⟩
 frame:=fun ⟨a,bss,r,e,n⟩ hn hk=>⟨a,bss,r.frame hn fun g hg=>hk g (by rw [e];exact hg),e,n⟩
def Ob.Hf {α:Type} (t:To α) (bs:List Nat) (css:List (Cl t.size)) (xs:List α):Ob:=⟨To.Hf t,bs,[],(css,xs)⟩
section
variable {α:Type} {t:To α} {X:List Nat} {h0 h:Hp} {F0 F:jL} {L:List Ob} {bs:List Nat} {v u:jD} {xs ys:List α}
theorem rI.raw {css:List (Cl t.size)} {bss:List (List Nat)} (a:rI t F h css bss xs) (hp:0 < t.size):wW (xe t.size hp) F css css:=⟨rfl,fun i d x h1 h2=>by
 obtain rfl:d=x:=oQ (h1.symm.trans h2);have hi:=(qO.1 h1).1;have hx:i < xs.length:=by rw [← a.rm];exact hi
 exact ⟨rfl,t.one (a.rel i d _ _ h1 (pF hx) (pF (by rw [a.tn];exact hx)))⟩⟩
theorem St.QA (s:St X h0 F0 F L h) {i:Nat} (hp:0 < t.size) (hi:L[i]? = some (.dp t bs v xs)):∃ css bs1,css.length=xs.length∧St X h0 F0 F (.Hf t bs1 css xs::L.set i (.row (xe t.size hp) v css)) h:=by
 obtain ⟨v0,rj,r⟩:=s.ok hi;obtain rfl:=wS rj;rcases r with ⟨e1,e2,e3⟩ | ⟨b,c,k,css,bss,r⟩
 ·have Q7:xs=[]:=e2;have e1':v = .sl none 0 (.k 0):=e1;subst Q7 e1';refine ⟨[],[],rfl,s.part (.Hf t [] [] []) (.row (xe t.size hp) _ []) hi ⟨rfl,[],rI.nil,rfl,List.nodup_nil⟩ ⟨_,rfl,.inl ⟨rfl,rfl,rfl⟩⟩ (fun g hg=>by cases hg) (fun g hg=>by cases hg) fun g hg=>by cases hg⟩
 ·have e:rI t F h css bss xs:=⟨r.rm,r.tn,r.rel⟩
  have qZ:(b::bss.flatten).Nodup:=by have:=r.nodup;rwa [r.yF] at this
  have y4:v = .sl (some (b,0)) xs.length (.of t.size k):=r.form;have A0:bs=b::bss.flatten:=r.yF;have R:C3 (To.rQ (xe t.size hp)) F h [b] v css b c k css (css.map fun _=>[]) :=
   ⟨by rw [y4,r.rm];rfl,r.qS,r.lt,rfl,by simp,fun j d x q q1 q2 q3=>(rI.flat (h:=h) (e.raw hp)).rel j d x q q1 q2 q3,by rw [r.rm];exact r.cells,fun q=>by rw [r.rm];exact r.CC q,fun m q=>by rw [r.rm];exact r.cap m q,by rw [r.rm];exact r.zG,r.one,by rw [Aj],by simp⟩
  have zM:v.own=[b]:=by rw [y4];rfl
  refine ⟨css,bss.flatten,r.rm,s.part (.Hf t bss.flatten css xs) (.row (xe t.size hp) v css) hi ⟨rfl,bss,e,rfl,(xL.1 qZ).2⟩ ⟨v,rfl,.inr ⟨b,c,k,css,css.map fun _=>[],by show C3 (To.rQ (xe t.size hp)) F h v.own v css b c k css (css.map fun _=>[]);rw [zM];exact R⟩⟩ (fun g hg=>?_) (fun g hg=>?_) fun g hg tE=>?_⟩
  ·show g∈bs;rw [A0];exact List.mem_cons_of_mem _ hg
  ·have hg:g∈v.own:=hg;rw [zM] at hg;show g∈bs;rw [A0,yT.1 hg];simp
  ·have tE:g∈v.own:=tE;rw [zM] at tE;rw [yT.1 tE] at hg;exact (xL.1 qZ).1 hg
theorem St.ak6 (hp:0 < t.size) {css I8:List (Cl t.size)} (s:St X h0 F0 F (.row (xe t.size hp) u I8 :: .Hf t bs css xs::L) h) (n:Nat) (d:Cl t.size) (y:α) (hc:I8=css.take n++[d]++css.drop n) (hd:t.rel F h [] d.1 y):∃ qv,St X h0 F0 F (.dp t qv u (xs.take n++[y]++xs.drop n)::L) h:=by
 obtain ⟨_,bss,e,Gc,hnb⟩:=s.ok (i:=1) rfl;have e:rI t F h css bss xs:=e;have Gc:bs=bss.flatten:=Gc;obtain ⟨v0,rj,r⟩:=s.ok (i:=0) rfl;obtain rfl:=wS rj;rcases r with ⟨_,e2,_⟩ | ⟨b,c,k,cs2,rE,r⟩
 ·have Q7:I8=[]:=e2;rw [Q7] at hc;simp at hc
 ·have eA:rI t F h (css.take n++[d]++css.drop n) (bss.take n++[[]]++bss.drop n) (xs.take n++[y]++xs.drop n):=((e.take n).cat (rI.one hd)).cat (e.drop n);have sG:(bss.take n++[[]]++bss.drop n).flatten=bss.flatten:=by
   rw [yv,yv,List.flatten_cons,List.flatten_nil,vM,vM,← yv,z8]
  have tu:cs2=I8:=by
   have q:=r.rel;refine List.ext_getElem r.rm fun i h1 h2=>?_;have wJ:i < rE.length:=by rw [r.tn];exact h2
   have:=(q i _ _ _ (pF h1) (pF h2) (pF wJ)).2.1;exact Subtype.ext this
  have hlen:(xs.take n++[y]++xs.drop n).length=I8.length:=by rw [hc,← eA.rm]
  have y4:u = .sl (some (b,0)) I8.length (.of t.size k):=r.form;have zM:u.own=[b]:=by rw [y4];rfl
  have vu:b ∉ bss.flatten:=fun q=>by
   have:=s.apart 0 1 _ _ b rfl rfl (by show b∈u.own;rw [zM];simp) (by show b∈bs;rw [Gc];exact q);omega
  have R:C3 t F h (b::bss.flatten) u (xs.take n++[y]++xs.drop n) b c k (css.take n++[d]++css.drop n) (bss.take n++[[]]++bss.drop n) :=
   ⟨by rw [y4,hlen],r.qS,r.lt,eA.rm,eA.tn,eA.rel,by rw [hlen,← hc];have:=r.cells;rw [tu] at this;exact this,fun q=>by rw [hlen];exact r.CC q,fun m q=>by rw [hlen];exact r.cap m q,by rw [hlen];exact r.zG,r.one,by rw [sG],xL.2 ⟨vu,by rw [← Gc];exact hnb⟩⟩
  refine ⟨b::bss.flatten,s.join (.dp t _ _ _) ⟨_,rfl,.inr ⟨_,_,_,_,_,R⟩⟩ (Nat.le_refl _) s.wf (fun _ _ _ _=>rfl) fun g hg=>?_⟩;rcases sg.1 hg with rfl | hg
  ·exact .inl (by show g∈u.own;rw [zM];simp)
  ·exact .inr (.inl (by show g∈bs;rw [Gc];exact hg))
theorem St.TW {hp:0 < t.size} {css:List (Cl t.size)} {d:Cl t.size} {y:α} {i:Int} {r:List α} (s:St X h0 F0 F (.row (xe t.size hp) u (css.take i.toNat++[d]++css.drop i.toNat) :: .Hf t bs css xs::L) h) (hd:∀ h,t.rel F h [] d.1 y) (hi:wZ xs i [y]=some r):∃ qv,St X h0 F0 F (.dp t qv u r::L) h:=by
 obtain ⟨_,_,_,_,rfl⟩:=HQ hi;exact s.ak6 hp _ d y rfl (hd h)
end
section
variable {α β:Type} {xs ys r:List α} {css:List β} {d:β} {i:Int}
theorem Jt (hl:css.length=xs.length) (h:wZ xs i ys=some r):cut css 0 i=some (css.take i.toNat):=by
 obtain ⟨h1,h2,_⟩:=HQ h;unfold cut;rw [if_pos ⟨Int.le_refl _,h1,by omega⟩];simp
theorem Sq (hl:css.length=xs.length) (h:wZ xs i ys=some r):cut css i (css.length:Int)=some (css.drop i.toNat):=by
 obtain ⟨h1,h2,_⟩:=HQ h;unfold cut;rw [if_pos ⟨h1,by omega,Int.le_refl _⟩];simp
theorem Sm (hl:css.length=xs.length) (h:wZ xs i ys=some r):app [] (css.take i.toNat)=some (css.take i.toNat):=by
 obtain ⟨_,_,_,h3,_⟩:=HQ h;unfold app;rw [if_pos (by simp;omega)];rfl
theorem Sn (hl:css.length=xs.length) (h:wZ xs i ys=some r):app (css.take i.toNat) [d]=some (css.take i.toNat++[d]):=by
 obtain ⟨_,_,h0,h3,_⟩:=HQ h;unfold app;rw [if_pos (by simp;omega)]
theorem Sp (hl:css.length=xs.length) (h:wZ xs i ys=some r):app (css.take i.toNat++[d]) (css.drop i.toNat)=some (css.take i.toNat++[d]++css.drop i.toNat):=by
 obtain ⟨_,_,h0,h3,_⟩:=HQ h;unfold app;rw [if_pos (by simp;omega)]
end
theorem Qk {P:Program} {E:EL} {h h0:Hp} {X:List Nat} {F F0:jL} {L:List Ob} {α:Type} {t:To α} {ts e:TypeId} {n:Nat} {ps:Array (Nat × Operand)} {u:jD} {x:α} (Xd:0 < t.size) (ht:P.underlying ts=some (.slice e)) (wi:vV P e t.size=true) (hp:FW E ps.toList=some (HY 0 [u])) (hr:∀ h,t.rel F h [] u.cells x) (hn:n=1) (hle:Nat.ble (n*t.size) 16777216=true) (hS:St X h0 F0 F L h) :
  Ef P E h (.buildSlice ts n ps) (fun v' h'=>∃ d:Cl t.size,(∀ h,t.rel F h [] d.1 x)∧St X h0 F0 F (.row (xe t.size Xd) v' [d]::L) h'):=by
 obtain ⟨a,v,h',q,s⟩:=sh (t:=xe t.size Xd) (vs:=[u]) (xs:=[⟨u.cells,t.len (hr h)⟩]) ht wi hp ⟨⟨rfl,t.one (hr h)⟩,trivial⟩ hn hle hS;exact ⟨a,v,h',q,_,hr,s⟩
end Go.V
end
section
namespace Go.V
open Go.Wk
abbrev To.mix {α:Type} (t:To α) (tr:Tr α) (hs:tr.size=t.size):To (α × Bool):=To.tag t (.rQ tr) hs
def ud {α:Type} (i:Nat) (l:List α):List (α × Bool):=l.mapIdx fun j x=>(x,decide (j < i))
section
variable {α β:Type} {t:To α} {tr:Tr α} {hs:tr.size=t.size} {X:List Nat} {h0 h:Hp} {F0 F:jL} {L:List Ob} {bs:List Nat} {v:jD} {xs:List α} {x:α} {i:Nat}
theorem My {l:List α} {j:Nat} {x:α} (h:l[j]? = some x):(ud i l)[j]? = some (x,decide (j < i)):=by simp [ud,h]
theorem akO (x:α):(ud i xs).set i (x,true)=ud (i+1) (xs.set i x):=by
 apply CR;intro j
 by_cases hj:j=i
 ·subst hj
  by_cases hl:j < xs.length
  ·rw [vN (by simpa [ud] using hl)];simp [ud,hl]
  ·rw [zr (by simp [ud];omega),zr (by simp [ud];omega)]
 ·rw [yb (fun q=>hj q.symm)];simp only [ud,List.getElem?_mapIdx];rw [yb (fun q=>hj q.symm)];cases xs[j]? with
  | none=>rfl
  | some y=>simp;omega
theorem akN (x:α):(ud i xs).set i (x,false)=ud i (xs.set i x):=by
 apply CR;intro j
 by_cases hj:j=i
 ·subst hj
  by_cases hl:j < xs.length
  ·rw [vN (by simpa [ud] using hl)];simp [ud,hl]
  ·rw [zr (by simp [ud];omega),zr (by simp [ud];omega)]
 ·rw [yb (fun q=>hj q.symm)];simp only [ud,List.getElem?_mapIdx];rw [yb (fun q=>hj q.symm)]
theorem St.SM (hs:tr.size=t.size) (k:Nat) (s:St X h0 F0 F L h) (hk:L[k]? = some (.row tr v xs)):St X h0 F0 F (L.set k (.dp (To.mix t tr hs) v.own v (ud 0 xs))) h :=
 s.vy (o':=.dp (To.mix t tr hs) v.own v (ud 0 xs)) hk (To.Ts (t:=.rQ tr) (s:=To.mix t tr hs) (xs:=xs) (ys:=ud 0 xs) hs (s.ok hk) (by simp [ud]) fun i x y e cs h1 h2 h3=>by
  rw [My h1] at h2;obtain rfl:=oQ h2;exact .inr ⟨by simp,h3⟩) fun b q=>q
theorem St.SN (k:Nat) (s:St X h0 F0 F L h) (hk:L[k]? = some (.dp (To.mix t tr hs) bs v (ud i xs))) (hn:xs.length≤i):St X h0 F0 F (L.set k (.dp t bs v xs)) h :=
 s.vy (o':=.dp t bs v xs) hk (To.Ts (t:=To.mix t tr hs) (s:=t) (xs:=ud i xs) (ys:=xs) rfl (s.ok hk) (by simp [ud]) fun j x y e cs h1 h2 h3=>by
  rw [My h2] at h1;obtain rfl:=oQ h1;have hi:=(qO.1 h2).1;rcases h3 with ⟨_,h3⟩ | ⟨h3,_⟩
  ·exact h3
  ·simp at h3;omega) fun b q=>q
theorem St.SO {k:Nat} (sL:0 < t.size) (s:St X h0 F0 F L h) (hk:L[k]? = some (.dp (To.mix t tr hs) bs v (ud i xs))) (hi:xs[i]? = some x):∃ cs,tr.rel F cs x∧tj (qH h) v t.size i cs:=by
 obtain ⟨cs,e,hr,_,he⟩:=s.Q6 (t:=To.mix t tr hs) (k:=k) sL hk (My hi);exact ⟨cs,hr.elim (fun q=>by have:=q.1;simp at this) fun q=>q.2.2,he⟩
theorem To.H8 (r:(To.row t).rel F h bs [v] xs):xs.length≤1073741824:=by
 obtain ⟨v0,rj,r⟩:=r;rcases r with ⟨_,e,_⟩ | ⟨b,c,k,css,bss,r⟩
 ·have e:xs=[]:=e;subst e;simp
 ·exact r.zG
theorem To.aiS {u:jD} (r:(To.row t).rel F h bs [u] xs):∀ g,g∈u.own→g∈bs:=by
 obtain ⟨v0,rj,r⟩:=r;obtain rfl:=wS rj;rcases r with ⟨e,_⟩ | ⟨b,c,k,css,bss,r⟩
 ·have e:u = .sl none 0 (.k 0):=e;subst e;intro g hg;cases hg
 ·intro g hg;have f1:u = .sl (some (b,0)) xs.length (.of t.size k):=r.form;have f2:bs=b::bss.flatten:=r.yF;rw [f1] at hg;rw [f2];exact sg.2 (.inl (yT.1 hg))
theorem St.N7 {j:Nat} {rs:List Nat} (s:St X h0 F0 F L h) (hj:j∈rs) (hL:L[j]? = some (.dp t bs v xs)):∀ g,g∈v.own→g∈RI L rs:=fun g hg=>aek (o:=.dp t bs v xs) hj hL g (To.aiS (s.ok hL) g hg)
end
section
variable {P:Program} {E:EL} {α β:Type} {t:To α} {tr:Tr α} {hs:tr.size=t.size} {tb:Tr β} {X:List Nat} {h0 h:Hp} {F0 F:jL} {L:List Ob} {bs:List Nat} {v u:jD} {xs:List α} {x x':α} {ys:List β} {ty:TypeId} {xo yo:Operand} {o i f:Nat}
theorem Va (k:Nat) (x':α) (c:List jD) (sL:0 < t.size) (hx:oS E xo=some (uF v o)) (hy:oS E yo=some u) (hS:St X h0 F0 F L h) (hk:L[k]? = some (.dp (To.mix t tr hs) bs v (ud i xs))) (hj:xs[i]? = some x) (ho:o=i*t.size+f)
  (hc:u.cells=c) (hz:sz P ty=some c.length) (h1:c.all jD.one=true) (tU:f+c.length≤t.size) (sM:∀ cs,tr.rel F cs x→tr.rel F (p6 cs f c) x'):Ef P E h (.store ty xo yo) (fun _ h'=>∃ qv,St X h0 F0 F (L.set k (.dp (To.mix t tr hs) qv v (ud i (xs.set i x')))) h'):=by
 have:=Qm (P:=P) (E:=E) (t:=To.mix t tr hs) (ty:=ty) k i f (x,decide (i < i)) (x',false) c sL hx hy hS hk (My hj) ho hc hz h1 tU (fun h cs e r=>by
  rcases r with ⟨r,_⟩ | ⟨_,r0,r⟩
  ·simp at r
  ·exact .inr ⟨rfl,r0,sM _ r⟩)
 rw [akN] at this;exact this
theorem Ql (x':α) (sL:0 < t.size) (hx:oS E xo=some (uF v o)) (hy:oS E yo=some u) (hS:St X h0 F0 F (.row tb u ys :: .dp (To.mix t tr hs) bs v (ud i xs)::L) h) (hj:xs[i]? = some x) (ho:o=i*t.size+f)
  (hz:sz P ty=some 1) (tU:f+1≤t.size) (sM:∀ h cs,tr.rel F cs x→(To.row (.rQ tb)).rel F h u.own [u] ys→t.rel F h u.own (p6 cs f [u]) x'):Ef P E h (.store ty xo yo) (fun _ h'=>∃ qv,St X h0 F0 F (.dp (To.mix t tr hs) qv v (ud (i+1) (xs.set i x'))::L) h'):=by
 have hc:u.cells=[u]:=(hS.rB (k:=0) rfl).cells;have ux:St X h0 F0 F (⟨To.row (To.rQ tb),u.own,[u],ys⟩ :: .dp (To.mix t tr hs) bs v (ud i xs)::L) h:=hS;have:=Vc (P:=P) (E:=E) (t:=To.mix t tr hs) (ty:=ty) i f (x,decide (i < i)) (x',true) sL hx hy ux (My hj) ho hc hz tU (fun h cs e r k=>by
  rcases r with ⟨r,_⟩ | ⟨_,_,r⟩
  ·simp at r
  ·exact .inl ⟨rfl,sM h _ r k⟩)
 rw [akO] at this;exact this
end
section
variable {α β:Type} {t:To α} {tr:Tr β} {f:Nat} {get:α→List β} {set:α→List β→α} {X:List Nat} {h0 h:Hp} {F0 F:jL} {L:List Ob} {bs:List Nat} {v:jD} {xs:List α} {x:α} {i:Nat}
theorem ahT (a:Ob) (l:List Ob):((MZ 1 l.length).filterMap fun i=>(a::l)[i]?)=l:=by
 suffices q:∀ (l p:List Ob),((MZ p.length l.length).filterMap fun i=>(p++l)[i]?)=l from q l [a]
 intro l
 induction l with
 | nil=>intro p;rfl
 | cons b l ih =>
  intro p;rw [List.length_cons,List.range'_succ,List.filterMap_cons,List.getElem?_append_right (Nat.le_refl _),Nat.sub_self];simp only [List.getElem?_cons_zero];have:=ih (p++[b]);rw [List.length_append,tF] at this;exact congrArg (b :: ·) this
theorem St.within (fo:ID t tr f get set) (s:St X h0 F0 F (.dp t bs v xs::L) h) (hi:xs[i]? = some x):∃ u cs,tj (qH h) v t.size i cs∧cs[f]? = some u∧St u.own h F F [.row tr u (get x)] h ∧
  ∀ F' h' l',St u.own h F F' [.row tr u l'] h' → ∃ qv,St X h0 F0 F' (.dp t qv v (xs.set i (set x l'))::L) h':=by
 obtain ⟨u,rE,cs,he,hu,s2⟩:=s.focus fo 0 rfl hi;refine ⟨u,cs,he,hu,s2.Gq 0 rfl,fun F' h' l' k=>?_⟩;have s3:=s2.FP 0 (MZ 1 (Ob.dp (t.A1 f u) rE v (yk i xs)::L).length) rfl List.nodup_range' (fun q=>by rw [List.mem_range'_1] at q;omega) k;have e:=ahT (.row tr u (get x)) (.dp (t.A1 f u) rE v (yk i xs)::L);have s4:St X h0 F0 F' (.row tr u l' :: .dp (t.A1 f u) rE v (yk i xs)::L) h':=by
  have s5:St X h0 F0 F' ([.row tr u l']++(MZ 1 (Ob.dp (t.A1 f u) rE v (yk i xs)::L).length).filterMap fun j=>(Ob.row tr u (get x) :: .dp (t.A1 f u) rE v (yk i xs)::L)[j]?) h':=s3;rw [e] at s5;exact s5
 obtain ⟨Q3,e9,hr9,_,_,afN⟩:=To.Za (t:=t.A1 f u) (xs:=yk i xs) (s4.ok (i:=1) rfl) (i:=i) (x:=(x,false)) (by rw [wc hi];simp);have wi:(To.row (To.rQ tr)).rel F' h' u.own [u] l':=s4.ok (i:=0) rfl;obtain ⟨he9,h9,e8,hr8,hu9⟩:(t.hu f u).rel F' h' e9 Q3 x:=hr9.elim (fun q=>by have:=q.1;simp at this) fun q=>q.2;have qJ:=(qO.1 hi).1;have sX:p6 Q3 f [u]=Q3:=by
  obtain ⟨pv,rfl⟩:=qO.1 hu9;unfold p6;rw [tF,List.singleton_append,List.length_singleton,List.getElem_cons_drop,z8]
 obtain ⟨VU,hh4,hm4⟩:=afN t (xs.set i (set x l')) (set x l') u.own rfl (by simp [yk]) (by rw [vN qJ]) (fun j x y e cs hj h1 h2 h3=>by
  rw [yb (fun q=>hj q.symm)] at h2;rw [wc h2] at h1;obtain rfl:=oQ h1;rcases h3 with ⟨_,h3⟩ | ⟨h3,_⟩
  ·exact h3
  ·exact absurd h3 (by simpa using hj)) (by rw [← sX];exact fo.cl hr8 (jL.le.refl _) wi) (fun g hg=>.inl fun tE=>by
  have:=s4.apart 0 1 _ _ g rfl rfl hg tE;omega)
 exact ⟨VU,s4.join (.dp t VU v (xs.set i (set x l'))) hh4 (Nat.le_refl _) s4.wf (fun _ _ _ _=>rfl) fun g hg=>((hm4 g).1 hg).elim (fun q=>.inr (.inl q.1)) fun q=>.inl q⟩
end
end Go.V
end
section
namespace Go.Wk.Lf.Ty
open Go.V Go.Proofs
theorem Vz:rY aac 164=some true:=by kernel_rfl
theorem yU:rY aac 28=some true:=by kernel_rfl
theorem Nn:rY aac 33=some true:=by kernel_rfl
theorem AQ:rY aac 35=some true:=by kernel_rfl
theorem zA:rY aac 58=some true:=by kernel_rfl
theorem KD:rY aac 61=some true:=by kernel_rfl
theorem yg:rY aac 82=some true:=by kernel_rfl
theorem Qw:rY aac 84=some true:=by kernel_rfl
theorem VA:rY aac 92=some true:=by kernel_rfl
theorem abx:FR aac 172=some ([(0,1),(1,1),(2,1)],[.sl none 0 (.k 0),.i .i64 0,.b false]):=by kernel_rfl
theorem aby:FR aac 202=some ([(0,1),(1,1)],[.sl none 0 (.k 0),.b false]):=by kernel_rfl
theorem VP:FR aac 28=some ([(0,1),(1,1),(2,1),(3,1),(4,1)],[.i .i64 0,.sl none 0 (.k 0),.sl none 0 (.k 0),.sl none 0 (.k 0),.sl none 0 (.k 0)]):=by kernel_rfl
theorem abz:FR aac 33=some ([(0,1),(1,1),(2,1)],[.i .i64 0,.i .i64 0,.sl none 0 (.k 0)]):=by kernel_rfl
theorem abA:FR aac 37=some ([(0,3),(3,4)],[.i .i64 0,.i .i64 0,.sl none 0 (.k 0),.i .i64 0,.i .i64 0,.i .i64 0,.i .i64 0]):=by kernel_rfl
theorem VQ:FR aac 61=some ([(0,1),(1,2),(3,1)],[.i .i64 0,.s [],.sl none 0 (.k 0),.sl none 0 (.k 0)]):=by kernel_rfl
theorem QR:rY aac 109=some false:=by kernel_rfl
theorem rS:rY aac 163=some false:=by kernel_rfl
theorem Bt:rY aac 24=some false:=by kernel_rfl
theorem AV:rY aac 25=some false:=by kernel_rfl
theorem Bu:rY aac 26=some false:=by kernel_rfl
theorem uW:rY aac 3=some false:=by kernel_rfl
theorem IY:rY aac 31=some false:=by kernel_rfl
theorem EK:rY aac 4=some false:=by kernel_rfl
theorem DQ:rY aac 5=some false:=by kernel_rfl
theorem Ny:rY aac 56=some false:=by kernel_rfl
theorem wX:rY aac 59=some false:=by kernel_rfl
theorem IZ:rY aac 9=some false:=by kernel_rfl
theorem Ra:uj aac 136 0=some 0:=by kernel_rfl
theorem WM:uj aac 136 2=some 2:=by kernel_rfl
theorem Rb:uj aac 172 1=some 1:=by kernel_rfl
theorem NN:uj aac 172 2=some 2:=by kernel_rfl
theorem Rc:uj aac 202 0=some 0:=by kernel_rfl
theorem NO:uj aac 202 1=some 1:=by kernel_rfl
theorem KV:uj aac 28 0=some 0:=by kernel_rfl
theorem DV:uj aac 28 1=some 1:=by kernel_rfl
theorem DW:uj aac 28 2=some 2:=by kernel_rfl
theorem FZ:uj aac 28 3=some 3:=by kernel_rfl
theorem KW:uj aac 33 1=some 1:=by kernel_rfl
theorem Re:uj aac 58 0=some 0:=by kernel_rfl
theorem NP:uj aac 58 1=some 1:=by kernel_rfl
theorem KX:uj aac 61 0=some 0:=by kernel_rfl
theorem KY:uj aac 61 1=some 1:=by kernel_rfl
theorem Rf:uj aac 61 2=some 3:=by kernel_rfl
theorem WN:uj aac 84 1=some 32:=by kernel_rfl
theorem NQ:uj aac 84 2=some 33:=by kernel_rfl
theorem KZ:uj aac 84 3=some 34:=by kernel_rfl
theorem WO:uj aac 90 3=some 3:=by kernel_rfl
theorem Rg:uj aac 92 0=some 0:=by kernel_rfl
theorem WQ:uj aac 92 1=some 1:=by kernel_rfl
theorem WR:uj aac 92 2=some 2:=by kernel_rfl
theorem mixed:aac.follows .mixedOrders=true:=by kernel_rfl
theorem Ml:vV aac 136 3=true:=by kernel_rfl
theorem Y6:vV aac 163 1=true:=by kernel_rfl
theorem Y7:vV aac 3 1=true:=by kernel_rfl
theorem Y8:vV aac 31 1=true:=by kernel_rfl
theorem AF:vV aac 35 4=true:=by kernel_rfl
theorem Tp:vV aac 37 7=true:=by kernel_rfl
theorem BN:vV aac 5 1=true:=by kernel_rfl
theorem Bb:vV aac 61 4=true:=by kernel_rfl
theorem Fg:vV aac 82 32=true:=by kernel_rfl
theorem Dy:vV aac 84 35=true:=by kernel_rfl
theorem OY:vV aac 90 4=true:=by kernel_rfl
theorem Ei:vV aac 92 3=true:=by kernel_rfl
theorem ZB:sz aac 109=some 1:=by kernel_rfl
theorem JX:sz aac 136=some 3:=by kernel_rfl
theorem qX:sz aac 163=some 1:=by kernel_rfl
theorem ZC:sz aac 164=some 64:=by kernel_rfl
theorem ZD:sz aac 24=some 1:=by kernel_rfl
theorem ZE:sz aac 25=some 1:=by kernel_rfl
theorem ZF:sz aac 26=some 1:=by kernel_rfl
theorem zh:sz aac 28=some 5:=by kernel_rfl
theorem Mt:sz aac 3=some 1:=by kernel_rfl
theorem O7:sz aac 31=some 1:=by kernel_rfl
theorem O8:sz aac 33=some 3:=by kernel_rfl
theorem vz:sz aac 35=some 4:=by kernel_rfl
theorem O9:sz aac 4=some 1:=by kernel_rfl
theorem vA:sz aac 5=some 1:=by kernel_rfl
theorem zj:sz aac 58=some 2:=by kernel_rfl
theorem AG:sz aac 59=some 1:=by kernel_rfl
theorem sJ:sz aac 61=some 4:=by kernel_rfl
theorem uL:sz aac 82=some 32:=by kernel_rfl
theorem tg:sz aac 84=some 35:=by kernel_rfl
theorem ZG:sz aac 90=some 4:=by kernel_rfl
theorem uu:sz aac 92=some 3:=by kernel_rfl
theorem T1:(zeroV aac 136).map jD.cells=some [.s [],.i .i64 0,.sl none 0 (.k 0)]:=by kernel_rfl
theorem Pr:(zeroV aac 164).map jD.cells=some [.i .u32 0,.i .u32 0,.i .u32 0,.i .u32 0,.i .u32 0,.i .u32 0,.i .u32 0,.i .u32 0,.i .u32 0,.i .u32 0,.i .u32 0,.i .u32 0,.i .u32 0,.i .u32 0,.i .u32 0,.i .u32 0,.i .u32 0,.i .u32 0,.i .u32 0,.i .u32 0,.i .u32 0,.i .u32 0,.i .u32 0,.i .u32 0,.i .u32 0,.i .u32 0,.i .u32 0,.i .u32 0,.i .u32 0,.i .u32 0,.i .u32 0,.i .u32 0,.i .u32 0,.i .u32 0,.i .u32 0,.i .u32 0,.i .u32 0,.i .u32 0,.i .u32 0,.i .u32 0,.i .u32 0,.i .u32 0,.i .u32 0,.i .u32 0,.i .u32 0,.i .u32 0,.i .u32 0,.i .u32 0,.i .u32 0,.i .u32 0,.i .u32 0,.i .u32 0,.i .u32 0,.i .u32 0,.i .u32 0,.i .u32 0,.i .u32 0,.i .u32 0,.i .u32 0,.i .u32 0,.i .u32 0,.i .u32 0,.i .u32 0,.i .u32 0]:=by kernel_rfl
theorem Ps:(zeroV aac 166).map jD.cells=some [.i .u32 0,.i .u32 0,.i .u32 0,.i .u32 0,.i .u32 0,.i .u32 0,.i .u32 0,.i .u32 0]:=by kernel_rfl
theorem aai:(zeroV aac 35).map jD.cells=some [.i .i64 0,.i .i64 0,.i .i64 0,.i .i64 0]:=by kernel_rfl
theorem Pu:(zeroV aac 5).map jD.cells=some [.i .u8 0]:=by kernel_rfl
theorem T2:(zeroV aac 61).map jD.cells=some [.i .i64 0,.s [],.sl none 0 (.k 0),.sl none 0 (.k 0)]:=by kernel_rfl
theorem Fm:(zeroV aac 82).map jD.cells=some [.i .u8 0,.i .u8 0,.i .u8 0,.i .u8 0,.i .u8 0,.i .u8 0,.i .u8 0,.i .u8 0,.i .u8 0,.i .u8 0,.i .u8 0,.i .u8 0,.i .u8 0,.i .u8 0,.i .u8 0,.i .u8 0,.i .u8 0,.i .u8 0,.i .u8 0,.i .u8 0,.i .u8 0,.i .u8 0,.i .u8 0,.i .u8 0,.i .u8 0,.i .u8 0,.i .u8 0,.i .u8 0,.i .u8 0,.i .u8 0,.i .u8 0,.i .u8 0]:=by kernel_rfl
theorem MD:(zeroV aac 84).map jD.cells=some [.i .u8 0,.i .u8 0,.i .u8 0,.i .u8 0,.i .u8 0,.i .u8 0,.i .u8 0,.i .u8 0,.i .u8 0,.i .u8 0,.i .u8 0,.i .u8 0,.i .u8 0,.i .u8 0,.i .u8 0,.i .u8 0,.i .u8 0,.i .u8 0,.i .u8 0,.i .u8 0,.i .u8 0,.i .u8 0,.i .u8 0,.i .u8 0,.i .u8 0,.i .u8 0,.i .u8 0,.i .u8 0,.i .u8 0,.i .u8 0,.i .u8 0,.i .u8 0,.b false,.sl none 0 (.k 0),.sl none 0 (.k 0)]:=by kernel_rfl
theorem T3:(zeroV aac 92).map jD.cells=some [.i .i64 0,.i .i64 0,.sl none 0 (.k 0)]:=by kernel_rfl
theorem Pv:yP aac 109=some false:=by kernel_rfl
theorem aal:yP aac 22=some false:=by kernel_rfl
theorem Pw:yP aac 24=some false:=by kernel_rfl
theorem Px:yP aac 25=some false:=by kernel_rfl
theorem Py:yP aac 26=some false:=by kernel_rfl
theorem Il:yP aac 59=some false:=by kernel_rfl
theorem abB:Nt aac 164=some (1,[.i .u32 0,.i .u32 0,.i .u32 0,.i .u32 0,.i .u32 0,.i .u32 0,.i .u32 0,.i .u32 0,.i .u32 0,.i .u32 0,.i .u32 0,.i .u32 0,.i .u32 0,.i .u32 0,.i .u32 0,.i .u32 0,.i .u32 0,.i .u32 0,.i .u32 0,.i .u32 0,.i .u32 0,.i .u32 0,.i .u32 0,.i .u32 0,.i .u32 0,.i .u32 0,.i .u32 0,.i .u32 0,.i .u32 0,.i .u32 0,.i .u32 0,.i .u32 0,.i .u32 0,.i .u32 0,.i .u32 0,.i .u32 0,.i .u32 0,.i .u32 0,.i .u32 0,.i .u32 0,.i .u32 0,.i .u32 0,.i .u32 0,.i .u32 0,.i .u32 0,.i .u32 0,.i .u32 0,.i .u32 0,.i .u32 0,.i .u32 0,.i .u32 0,.i .u32 0,.i .u32 0,.i .u32 0,.i .u32 0,.i .u32 0,.i .u32 0,.i .u32 0,.i .u32 0,.i .u32 0,.i .u32 0,.i .u32 0,.i .u32 0,.i .u32 0]):=by kernel_rfl
theorem Nq:Nt aac 166=some (1,[.i .u32 0,.i .u32 0,.i .u32 0,.i .u32 0,.i .u32 0,.i .u32 0,.i .u32 0,.i .u32 0]):=by kernel_rfl
theorem WJ:KS aac 35=some [.int .i64,.int .i64,.int .i64,.int .i64]:=by kernel_rfl
theorem Jc:KS aac 82=some [.int .u8,.int .u8,.int .u8,.int .u8,.int .u8,.int .u8,.int .u8,.int .u8,.int .u8,.int .u8,.int .u8,.int .u8,.int .u8,.int .u8,.int .u8,.int .u8,.int .u8,.int .u8,.int .u8,.int .u8,.int .u8,.int .u8,.int .u8,.int .u8,.int .u8,.int .u8,.int .u8,.int .u8,.int .u8,.int .u8,.int .u8,.int .u8]:=by kernel_rfl
theorem alR:yP aac 3=some true:=by kernel_rfl
theorem zv4:zeroV aac 4=some (.b false):=by kernel_rfl
end Go.Wk.Lf.Ty
end
section
namespace Go.Wk.Lf
open Go.V
instance : tw aac 136 true := ⟨by kernel_rfl⟩
instance : tw aac 164 true := ⟨Ty.Vz⟩
instance : tw aac 166 true := ⟨by kernel_rfl⟩
instance : tw aac 28 true := ⟨Ty.yU⟩
instance : tw aac 33 true := ⟨Ty.Nn⟩
instance : tw aac 35 true := ⟨Ty.AQ⟩
instance : tw aac 37 true := ⟨by kernel_rfl⟩
instance : tw aac 58 true := ⟨Ty.zA⟩
instance : tw aac 61 true := ⟨Ty.KD⟩
instance : tw aac 82 true := ⟨Ty.yg⟩
instance : tw aac 84 true := ⟨Ty.Qw⟩
instance : tw aac 90 true := ⟨by kernel_rfl⟩
instance : tw aac 92 true := ⟨Ty.VA⟩
instance : tw aac 109 false := ⟨Ty.QR⟩
instance : tw aac 163 false := ⟨Ty.rS⟩
instance : tw aac 22 false := ⟨by kernel_rfl⟩
instance : tw aac 24 false := ⟨Ty.Bt⟩
instance : tw aac 25 false := ⟨Ty.AV⟩
instance : tw aac 26 false := ⟨Ty.Bu⟩
instance : tw aac 3 false := ⟨Ty.uW⟩
instance : tw aac 31 false := ⟨Ty.IY⟩
instance : tw aac 4 false := ⟨Ty.EK⟩
instance : tw aac 5 false := ⟨Ty.DQ⟩
instance : tw aac 56 false := ⟨Ty.Ny⟩
instance : tw aac 59 false := ⟨Ty.wX⟩
instance : tw aac 9 false := ⟨Ty.IZ⟩
instance : sO aac 136 0 0 := ⟨Ty.Ra⟩
instance : sO aac 136 1 1 := ⟨by kernel_rfl⟩
instance : sO aac 136 2 2 := ⟨Ty.WM⟩
instance : sO aac 172 0 0 := ⟨by kernel_rfl⟩
instance : sO aac 172 1 1 := ⟨Ty.Rb⟩
instance : sO aac 172 2 2 := ⟨Ty.NN⟩
instance : sO aac 202 0 0 := ⟨Ty.Rc⟩
instance : sO aac 202 1 1 := ⟨Ty.NO⟩
instance : sO aac 28 0 0 := ⟨Ty.KV⟩
instance : sO aac 28 1 1 := ⟨Ty.DV⟩
instance : sO aac 28 2 2 := ⟨Ty.DW⟩
instance : sO aac 28 3 3 := ⟨Ty.FZ⟩
instance : sO aac 28 4 4 := ⟨by kernel_rfl⟩
instance : sO aac 33 0 0 := ⟨by kernel_rfl⟩
instance : sO aac 33 1 1 := ⟨Ty.KW⟩
instance : sO aac 33 2 2 := ⟨by kernel_rfl⟩
instance : sO aac 35 0 0 := ⟨by kernel_rfl⟩
instance : sO aac 35 1 1 := ⟨by kernel_rfl⟩
instance : sO aac 35 2 2 := ⟨by kernel_rfl⟩
instance : sO aac 35 3 3 := ⟨by kernel_rfl⟩
instance : sO aac 37 0 0 := ⟨by kernel_rfl⟩
instance : sO aac 37 1 3 := ⟨by kernel_rfl⟩
instance : sO aac 58 0 0 := ⟨Ty.Re⟩
instance : sO aac 58 1 1 := ⟨Ty.NP⟩
instance : sO aac 61 0 0 := ⟨Ty.KX⟩
instance : sO aac 61 1 1 := ⟨Ty.KY⟩
instance : sO aac 61 2 3 := ⟨Ty.Rf⟩
instance : sO aac 84 0 0 := ⟨by kernel_rfl⟩
instance : sO aac 84 1 32 := ⟨Ty.WN⟩
instance : sO aac 84 2 33 := ⟨Ty.NQ⟩
instance : sO aac 84 3 34 := ⟨Ty.KZ⟩
instance : sO aac 90 0 0 := ⟨by kernel_rfl⟩
instance : sO aac 90 1 1 := ⟨by kernel_rfl⟩
instance : sO aac 90 2 2 := ⟨by kernel_rfl⟩
instance : sO aac 90 3 3 := ⟨Ty.WO⟩
instance : sO aac 92 0 0 := ⟨Ty.Rg⟩
instance : sO aac 92 1 1 := ⟨Ty.WQ⟩
instance : sO aac 92 2 2 := ⟨Ty.WR⟩
instance : tH aac 109 1 := ⟨Ty.ZB⟩
instance : tH aac 136 3 := ⟨Ty.JX⟩
instance : tH aac 163 1 := ⟨Ty.qX⟩
instance : tH aac 164 64 := ⟨Ty.ZC⟩
instance : tH aac 166 8 := ⟨by kernel_rfl⟩
instance : tH aac 22 1 := ⟨by kernel_rfl⟩
instance : tH aac 24 1 := ⟨Ty.ZD⟩
instance : tH aac 25 1 := ⟨Ty.ZE⟩
instance : tH aac 26 1 := ⟨Ty.ZF⟩
instance : tH aac 28 5 := ⟨Ty.zh⟩
instance : tH aac 3 1 := ⟨Ty.Mt⟩
instance : tH aac 31 1 := ⟨Ty.O7⟩
instance : tH aac 33 3 := ⟨Ty.O8⟩
instance : tH aac 35 4 := ⟨Ty.vz⟩
instance : tH aac 37 7 := ⟨by kernel_rfl⟩
instance : tH aac 4 1 := ⟨Ty.O9⟩
instance : tH aac 5 1 := ⟨Ty.vA⟩
instance : tH aac 56 1 := ⟨by kernel_rfl⟩
instance : tH aac 58 2 := ⟨Ty.zj⟩
instance : tH aac 59 1 := ⟨Ty.AG⟩
instance : tH aac 61 4 := ⟨Ty.sJ⟩
instance : tH aac 82 32 := ⟨Ty.uL⟩
instance : tH aac 84 35 := ⟨Ty.tg⟩
instance : tH aac 90 4 := ⟨Ty.ZG⟩
instance : tH aac 92 3 := ⟨Ty.uu⟩
instance : AP aac 136 3 := ⟨Ty.Ml⟩
instance : AP aac 163 1 := ⟨Ty.Y6⟩
instance : AP aac 3 1 := ⟨Ty.Y7⟩
instance : AP aac 31 1 := ⟨Ty.Y8⟩
instance : AP aac 35 4 := ⟨Ty.AF⟩
instance : AP aac 37 7 := ⟨Ty.Tp⟩
instance : AP aac 5 1 := ⟨Ty.BN⟩
instance : AP aac 61 4 := ⟨Ty.Bb⟩
instance : AP aac 82 32 := ⟨Ty.Fg⟩
instance : AP aac 84 35 := ⟨Ty.Dy⟩
instance : AP aac 90 4 := ⟨Ty.OY⟩
instance : AP aac 92 3 := ⟨Ty.Ei⟩
instance : C4 aac 109 := ⟨Ty.Pv⟩
instance : C4 aac 22 := ⟨Ty.aal⟩
instance : C4 aac 23 := ⟨by kernel_rfl⟩
instance : C4 aac 24 := ⟨Ty.Pw⟩
instance : C4 aac 25 := ⟨Ty.Px⟩
instance : C4 aac 26 := ⟨Ty.Py⟩
instance : C4 aac 31 := ⟨by kernel_rfl⟩
instance : C4 aac 56 := ⟨by kernel_rfl⟩
instance : C4 aac 59 := ⟨Ty.Il⟩
instance : B7 aac 136 [.s [], .i .i64 0, .sl none 0 (.k 0)] := ⟨Ty.T1⟩
instance : B7 aac 28 [.i .i64 0, .sl none 0 (.k 0), .sl none 0 (.k 0), .sl none 0 (.k 0), .sl none 0 (.k 0)] := ⟨by kernel_rfl⟩
instance : B7 aac 33 [.i .i64 0, .i .i64 0, .sl none 0 (.k 0)] := ⟨by kernel_rfl⟩
instance : B7 aac 35 [.i .i64 0, .i .i64 0, .i .i64 0, .i .i64 0] := ⟨Ty.aai⟩
instance : B7 aac 37 [.i .i64 0, .i .i64 0, .sl none 0 (.k 0), .i .i64 0, .i .i64 0, .i .i64 0, .i .i64 0] := ⟨by kernel_rfl⟩
instance : B7 aac 5 [.i .u8 0] := ⟨Ty.Pu⟩
instance : B7 aac 58 [.s [], .sl none 0 (.k 0)] := ⟨by kernel_rfl⟩
instance : B7 aac 61 [.i .i64 0, .s [], .sl none 0 (.k 0), .sl none 0 (.k 0)] := ⟨Ty.T2⟩
instance : B7 aac 90 [.i .i64 0, .i .i64 0, .i .i64 0, .i .i64 0] := ⟨by kernel_rfl⟩
instance : B7 aac 92 [.i .i64 0, .i .i64 0, .sl none 0 (.k 0)] := ⟨Ty.T3⟩
instance : Vq aac 9 := ⟨acZ⟩
instance : zy aac 22 90 := ⟨adB⟩
instance : zy aac 23 37 := ⟨adH⟩
instance : zy aac 24 61 := ⟨aam⟩
instance : zy aac 25 84 := ⟨aaE⟩
instance : zy aac 26 92 := ⟨aaF⟩
instance : zy aac 31 5 := ⟨aba⟩
instance : zy aac 51 3 := ⟨Go.Proofs.Tryz.underlying51⟩
instance : zy aac 56 136 := ⟨adz⟩
instance : zy aac 59 35 := ⟨aaT⟩
instance : zy aac 95 31 := ⟨Go.Proofs.Tryz.underlying95⟩
instance : zy aac 109 82 := ⟨acv⟩
instance : zy aac 192 163 := ⟨Go.Proofs.Tryz.underlying192⟩
end Go.Wk.Lf
end
section
namespace Go.Wk
theorem agr {S A:Type} {F:(S→Option A)→S→Option A} (Inv:S→Prop) (m:S→Nat) (g:S→Option A) (h:∀ rec s,Inv s→(∀ s',Inv s' → m s' < m s→rec s' = g s')→F rec s=g s):∀ n s,Inv s→m s < n→iter F n s=g s:=by
 intro n
 induction n with
 | zero=>intro s _ hm;omega
 | succ n ih=>intro s hs hm;exact h (iter F n) s hs fun s' E4 pv=>ih s' E4 (by omega)
theorem ag3 {S A:Type} {F:(S→Option A)→S→Option A} {s0:S} (Inv:S→Prop) (m:S→Nat) (g:S→Option A) (h0:Inv s0) (hm:m s0 < 4611686018427387904) (h:∀ rec s,Inv s→(∀ s',Inv s' → m s' < m s→rec s' = g s')→F rec s=g s):loop F s0=g s0 :=
 agr Inv m g h _ s0 h0 (Nat.lt_trans hm (by decide))
theorem Yn {S A:Type} {F:(S→Option A)→S→Option A} {s0:S} {a:Option A} (Inv:S→Prop) (m:S→Nat) (h0:Inv s0) (hm:m s0 < 4611686018427387904) (h:∀ rec s,Inv s→(∀ s',Inv s' → m s' < m s→rec s' = a)→F rec s=a):loop F s0=a :=
 ag3 Inv m (fun _=>a) h0 hm h
@[simp] theorem oA {α β:Type} (x:α) (f:α→Option β):bd (some x) f=f x:=rfl
theorem alU {α β:Type} {o:Option α} {x:α} (h:o=some x) (f:α→Option β):bd o f=f x:=by rw [h];rfl
theorem agu {α:Type} (l:List α) (n:Nat):ix l (n:Int)=l[n]?:=rfl
theorem ags {α:Type} {l:List α} {i:Int} {n:Nat} (hi:i=(n:Int)) (h:n < l.length):ix l i=some l[n]:=by subst hi;rw [agu];exact pF h
theorem rU {x:Int} (h0:-9223372036854775808≤x) (h1:x≤9223372036854775807):wr x=x:=LN h0 h1
theorem rl {α:Type} {xs ys:List α} (h:xs.length+ys.length≤1073741824):app xs ys=some (xs++ys):=if_pos h
theorem xC {α:Type} {l:List α} {a b:Int} (h0:0≤a) (h1:a≤b) (h2:b≤(l.length:Int)):cut l a b=some ((l.take b.toNat).drop a.toNat):=if_pos ⟨h0,h1,h2⟩
theorem Y0 {α:Type} {n:Int} {x:α} (h0:0≤n) (h1:n≤1073741824):rep n x=some (List.replicate n.toNat x):=if_pos ⟨h0,h1⟩
theorem pH {n m:Nat} (h:n < m):decide ((n:Int) < (m:Int))=true:=decide_eq_true (by omega)
theorem pL {n m:Nat} (h:¬ n < m):decide ((n:Int) < (m:Int))=false:=decide_eq_false (by omega)
theorem pr {α:Type} {l:List α} {n:Nat} (h:n < l.length):ix l (n:Int)=some l[n]:=pF h
theorem pt {n:Nat} (h:n < 4611686018427387904):wr ((n:Int)+1)=((n+1:Nat):Int):=by rw [rU (by omega) (by omega)];rfl
theorem BR {n:Nat} (h0:0 < n) (h:n < 4611686018427387904):wr ((n:Int) - 1)=((n - 1:Nat):Int):=by rw [rU (by omega) (by omega)];omega
theorem X8 {S σ A:Type} {F:(S→Option A)→S→Option A} (mk:Nat→σ→S) (n:Nat) (Inv:Nat→σ→Prop) (DN:Option A→Prop)
  (sw:∀ rec i s,i < n→Inv i s→(∀ s',Inv (i+1) s' → DN (rec (mk (i+1) s')))→DN (F rec (mk i s))) (tv:∀ rec s,Inv n s→DN (F rec (mk n s))):∀ k i s,i≤n→n - i < k→Inv i s→DN (iter F k (mk i s)):=by
 intro k
 induction k with
 | zero=>intro i s _ h _;omega
 | succ k ih =>
  intro i s hi hk hI
  by_cases h:i=n
  ·subst h;exact tv (iter F k) s hI
  ·exact sw (iter F k) i s (by omega) hI fun s' E4=>ih (i+1) s' (by omega) (by omega) E4
theorem SI {S σ A:Type} {F:(S→Option A)→S→Option A} (mk:Nat→σ→S) (n:Nat) (Inv:Nat→σ→Prop) (DN:Option A→Prop) {i0:Nat} {s0:σ} {x0:S} (hx:x0=mk i0 s0) (uy:i0≤n) (h0:Inv i0 s0) (hn:n < 4611686018427387904)
  (sw:∀ rec i s,i < n→Inv i s→(∀ s',Inv (i+1) s' → DN (rec (mk (i+1) s')))→DN (F rec (mk i s))) (tv:∀ rec s,Inv n s→DN (F rec (mk n s))):DN (loop F x0) :=
 hx ▸ X8 mk n Inv DN sw tv _ i0 s0 uy (by omega) h0
theorem sy {S σ A:Type} {F:(S→Option A)→S→Option A} (mk:Nat→σ→S) (n:Nat) (Inv:Nat→σ→Prop) (a:Option A) {i0:Nat} {s0:σ} {x0:S} (hx:x0=mk i0 s0) (uy:i0≤n) (h0:Inv i0 s0) (hn:n < 4611686018427387904)
  (sw:∀ rec i s,i < n→Inv i s→(∀ s',Inv (i+1) s' → rec (mk (i+1) s')=a)→F rec (mk i s)=a) (tv:∀ rec s,Inv n s→F rec (mk n s)=a):loop F x0=a:=by
 exact SI mk n Inv (fun o=>o=a) hx uy h0 hn sw tv
theorem Ay {S σ α A:Type} {F:(S→Option A)→S→Option A} (mk:Nat→σ→S) (l:List α) (f:σ→α→σ) (K:σ→Option A) (Inv:Nat→σ→Prop) {i0:Nat} {s0:σ} {x0:S} (hx:x0=mk i0 s0) (uy:i0≤l.length) (h0:Inv i0 s0) (hn:l.length < 4611686018427387904)
  (sw:∀ rec i s (h:i < l.length),Inv i s→Inv (i+1) (f s l[i])∧F rec (mk i s)=rec (mk (i+1) (f s l[i]))) (tv:∀ rec s,Inv l.length s→F rec (mk l.length s)=K s):loop F x0=K ((l.drop i0).foldl f s0):=by
 refine sy mk l.length (fun i s=>i≤l.length∧Inv i s∧K ((l.drop i).foldl f s)=K ((l.drop i0).foldl f s0)) _ hx uy ⟨uy,h0,rfl⟩ hn ?_ ?_
 ·intro rec i s hi hI pq;obtain ⟨h1,h2⟩:=sw rec i s hi hI.2.1;rw [h2];refine pq _ ⟨by omega,h1,?_⟩;rw [← hI.2.2,List.drop_eq_getElem_cons hi];rfl
 ·intro rec s hI;rw [tv rec s hI.2.1,← hI.2.2,List.drop_length];rfl
theorem tN {α:Type} {l:List α} {i:Nat} (h:i < l.length):l.take (i+1)=l.take i++[l[i]]:=List.take_succ_eq_append_getElem h
end Go.Wk
end
section
namespace Go.Wk.Lf
open Go.V
structure Loc where
  pE:Int
  file:Int
  off:Int
  len:Int
  deriving DecidableEq,Inhabited
def Loc.cells (x:Loc):List jD:=[.i .i64 x.pE,.i .i64 x.file,.i .i64 x.off,.i .i64 x.len]
def Loc.t:Tr Loc where
  size:=4
  rel F cs x:=cs=Loc.cells x
  pos:=by decide
  len:=by rintro F cs x rfl;simp [Loc.cells]
  one:=by rintro F cs x rfl;rfl
  mono:=by rintro F G cs x l rfl;exact rfl
structure oH where
  AD:Int
  Af:Int
  state:Int
  files:Int
  deriving DecidableEq,Inhabited
def oH.cells (x:oH):List jD:=[.i .i64 x.AD,.i .i64 x.Af,.i .i64 x.state,.i .i64 x.files]
def oH.t:Tr oH where
  size:=4
  rel F cs x:=cs=oH.cells x
  pos:=by decide
  len:=by rintro F cs x rfl;simp [oH.cells]
  one:=by rintro F cs x rfl;rfl
  mono:=by rintro F G cs x l rfl;exact rfl
structure tk where
  kind:Int
  seq:Int
  data:List UInt8
  deriving DecidableEq,Inhabited
def tk.cells (x:tk) (u0:jD):List jD:=[.i .i64 x.kind,.i .i64 x.seq,u0]
def tk.t:Tr tk where
  size:=3
  rel F cs x:=∃ u0,cs=tk.cells x u0∧oF tB F u0 (x.data)
  pos:=by decide
  len:=by rintro F cs x ⟨u0,rfl,h0⟩;simp [tk.cells]
  one:=by rintro F cs x ⟨u0,rfl,h0⟩;simp only [tk.cells,tZ,uR,rC,h0.one];rfl
  mono:=by rintro F G cs x l ⟨u0,rfl,h0⟩;exact ⟨u0,rfl,h0.mono l⟩
structure Found where
  oG:tk
  loc:Loc
  deriving DecidableEq,Inhabited
def Found.cells (x:Found) (u0:jD):List jD:=[.i .i64 x.oG.kind,.i .i64 x.oG.seq,u0,.i .i64 x.loc.pE,.i .i64 x.loc.file,.i .i64 x.loc.off,.i .i64 x.loc.len]
def Found.t:Tr Found where
  size:=7
  rel F cs x:=∃ u0,cs=Found.cells x u0∧oF tB F u0 (x.oG.data)
  pos:=by decide
  len:=by rintro F cs x ⟨u0,rfl,h0⟩;simp [Found.cells]
  one:=by rintro F cs x ⟨u0,rfl,h0⟩;simp only [Found.cells,tZ,uR,rC,h0.one];rfl
  mono:=by rintro F G cs x l ⟨u0,rfl,h0⟩;exact ⟨u0,rfl,h0.mono l⟩
structure Part where
  path:List UInt8
  size:Int
  ids:List (List UInt8)
  deriving DecidableEq,Inhabited
def Part.cells (x:Part) (u0:jD):List jD:=[.s x.path,.i .i64 x.size,u0]
def Part.t:Tr Part where
  size:=3
  rel F cs x:=∃ u0,cs=Part.cells x u0∧oF rX F u0 (x.ids)
  pos:=by decide
  len:=by rintro F cs x ⟨u0,rfl,h0⟩;simp [Part.cells]
  one:=by rintro F cs x ⟨u0,rfl,h0⟩;simp only [Part.cells,tZ,uR,rC,h0.one];rfl
  mono:=by rintro F G cs x l ⟨u0,rfl,h0⟩;exact ⟨u0,rfl,h0.mono l⟩
structure oP where
  name:List UInt8
  parts:List Part
  deriving DecidableEq,Inhabited
def oP.cells (x:oP) (u0:jD):List jD:=[.s x.name,u0]
def oP.t:Tr oP where
  size:=2
  rel F cs x:=∃ u0,cs=oP.cells x u0∧oF Part.t F u0 (x.parts)
  pos:=by decide
  len:=by rintro F cs x ⟨u0,rfl,h0⟩;simp [oP.cells]
  one:=by rintro F cs x ⟨u0,rfl,h0⟩;simp only [oP.cells,tZ,uR,rC,h0.one];rfl
  mono:=by rintro F G cs x l ⟨u0,rfl,h0⟩;exact ⟨u0,rfl,h0.mono l⟩
structure lU where
  seq:Int
  oJ:oP
  oN:List Loc
  deriving DecidableEq,Inhabited
def lU.cells (x:lU) (u0 u1:jD):List jD:=[.i .i64 x.seq,.s x.oJ.name,u0,u1]
def lU.t:Tr lU where
  size:=4
  rel F cs x:=∃ u0 u1,cs=lU.cells x u0 u1∧oF Part.t F u0 (x.oJ.parts)∧oF Loc.t F u1 (x.oN)
  pos:=by decide
  len:=by rintro F cs x ⟨u0,u1,rfl,h0,h1⟩;simp [lU.cells]
  one:=by rintro F cs x ⟨u0,u1,rfl,h0,h1⟩;simp only [lU.cells,tZ,uR,rC,h0.one,h1.one];rfl
  mono:=by rintro F G cs x l ⟨u0,u1,rfl,h0,h1⟩;exact ⟨u0,u1,rfl,h0.mono l,h1.mono l⟩
structure Chunk where
  id:List UInt8
  pX:Bool
  data:List UInt8
  oN:List Loc
  deriving DecidableEq,Inhabited
def Chunk.cells (x:Chunk) (u0 u1:jD):List jD:=pb x.id++[.b x.pX,u0,u1]
def Chunk.t:Tr Chunk where
  size:=35
  rel F cs x:=∃ u0 u1,cs=Chunk.cells x u0 u1∧(x.id).length=32∧oF tB F u0 (x.data)∧oF Loc.t F u1 (x.oN)
  pos:=by decide
  len:=by rintro F cs x ⟨u0,u1,rfl,h0,h1,h2⟩;simp [Chunk.cells,Cy]
  one:=by rintro F cs x ⟨u0,u1,rfl,h0,h1,h2⟩;simp only [Chunk.cells,tZ,uR,rC,LO,h1.one,h2.one];rfl
  mono:=by rintro F G cs x l ⟨u0,u1,rfl,h0,h1,h2⟩;exact ⟨u0,u1,rfl,h0,h1.mono l,h2.mono l⟩
structure oC where
  seq:Int
  of:Int
  oN:List Loc
  deriving DecidableEq,Inhabited
def oC.cells (x:oC) (u0:jD):List jD:=[.i .i64 x.seq,.i .i64 x.of,u0]
def oC.t:Tr oC where
  size:=3
  rel F cs x:=∃ u0,cs=oC.cells x u0∧oF Loc.t F u0 (x.oN)
  pos:=by decide
  len:=by rintro F cs x ⟨u0,rfl,h0⟩;simp [oC.cells]
  one:=by rintro F cs x ⟨u0,rfl,h0⟩;simp only [oC.cells,tZ,uR,rC,h0.one];rfl
  mono:=by rintro F G cs x l ⟨u0,rfl,h0⟩;exact ⟨u0,rfl,h0.mono l⟩
structure mZ where
  seq:Int
  oB:List lU
  chunks:List Chunk
  oD:List oC
  oK:List oH
  deriving DecidableEq,Inhabited
def mZ.cells (x:mZ) (u0 u1 u2 u3:jD):List jD:=[.i .i64 x.seq,u0,u1,u2,u3]
def mZ.t:Tr mZ where
  size:=5
  rel F cs x:=∃ u0 u1 u2 u3,cs=mZ.cells x u0 u1 u2 u3∧oF lU.t F u0 (x.oB)∧oF Chunk.t F u1 (x.chunks)∧oF oC.t F u2 (x.oD)∧oF oH.t F u3 (x.oK)
  pos:=by decide
  len:=by rintro F cs x ⟨u0,u1,u2,u3,rfl,h0,h1,h2,h3⟩;simp [mZ.cells]
  one:=by rintro F cs x ⟨u0,u1,u2,u3,rfl,h0,h1,h2,h3⟩;simp only [mZ.cells,tZ,uR,rC,h0.one,h1.one,h2.one,h3.one];rfl
  mono:=by rintro F G cs x l ⟨u0,u1,u2,u3,rfl,h0,h1,h2,h3⟩;exact ⟨u0,u1,u2,u3,rfl,h0.mono l,h1.mono l,h2.mono l,h3.mono l⟩
structure si where
  b:List UInt8
  bad:Bool
  deriving DecidableEq,Inhabited
def si.cells (x:si) (u0:jD):List jD:=[u0,.b x.bad]
structure vE where
  b:List UInt8
  at_:Int
  bad:Bool
  deriving DecidableEq,Inhabited
def vE.cells (x:vE) (u0:jD):List jD:=[u0,.i .i64 x.at_,.b x.bad]
theorem Loc.WI (a b:Loc):ym a.cells b.cells=decide (a=b):=by
  obtain ⟨a0,a1,a2,a3⟩:=a
  obtain ⟨b0,b1,b2,b3⟩:=b
  rw [Bool.eq_iff_iff]
  simp [Loc.cells,ym,zD]
def lU.o:To lU where
  size:=4
  rel F h bs cs x:=∃ u0 u1,cs=lU.cells x u0 u1∧oF Part.t F u0 (x.oJ.parts)∧(To.row (.rQ Loc.t)).rel F h bs [u1] x.oN
  len:=by rintro F h bs cs x ⟨u0,u1,rfl,h0,k⟩;simp [lU.cells,Cy]
  one:=by rintro F h bs cs x ⟨u0,u1,rfl,h0,k⟩;simp only [lU.cells,tZ,uR,rC,LO,h0.one,(To.JQ k).one];rfl
  lt:=by rintro F h bs cs x ⟨u0,u1,rfl,h0,k⟩;exact (To.row (.rQ Loc.t)).lt k
  nodup:=by rintro F h bs cs x ⟨u0,u1,rfl,h0,k⟩;exact (To.row (.rQ Loc.t)).nodup k
  mono:=by rintro F G h bs cs x l ⟨u0,u1,rfl,h0,k⟩;exact ⟨u0,u1,rfl,h0.mono l,(To.row (.rQ Loc.t)).mono l k⟩
  frame:=by rintro F h h2 bs cs x ⟨u0,u1,rfl,h0,k⟩ hn hk;exact ⟨u0,u1,rfl,h0,(To.row (.rQ Loc.t)).frame k hn hk⟩
theorem lU.sf:DO lU.o lU.t:=⟨rfl,by rintro F G h bs cs x ⟨u0,u1,rfl,h0,k⟩ l hg;exact ⟨u0,u1,rfl,h0.mono l,Mo k l hg⟩⟩
theorem lU.yZ:ID lU.o Loc.t 3 lU.oN (fun x l=>lU.mk x.seq x.oJ l):=⟨by decide,by rintro F h e cs x ⟨u0,u1,rfl,h0,k⟩;exact ⟨u1,rfl,k⟩,by rintro F h e cs x F2 h2 e2 u' l2 ⟨u0,u1,rfl,h0,k⟩ l k2;exact ⟨u0,u',rfl,h0.mono l,k2⟩⟩
def Chunk.o:To Chunk where
  size:=35
  rel F h bs cs x:=∃ u0 u1,cs=Chunk.cells x u0 u1∧(x.id).length=32∧oF tB F u0 (x.data)∧(To.row (.rQ Loc.t)).rel F h bs [u1] x.oN
  len:=by rintro F h bs cs x ⟨u0,u1,rfl,h0,h1,k⟩;simp [Chunk.cells,Cy]
  one:=by rintro F h bs cs x ⟨u0,u1,rfl,h0,h1,k⟩;simp only [Chunk.cells,tZ,uR,rC,LO,h1.one,(To.JQ k).one];rfl
  lt:=by rintro F h bs cs x ⟨u0,u1,rfl,h0,h1,k⟩;exact (To.row (.rQ Loc.t)).lt k
  nodup:=by rintro F h bs cs x ⟨u0,u1,rfl,h0,h1,k⟩;exact (To.row (.rQ Loc.t)).nodup k
  mono:=by rintro F G h bs cs x l ⟨u0,u1,rfl,h0,h1,k⟩;exact ⟨u0,u1,rfl,h0,h1.mono l,(To.row (.rQ Loc.t)).mono l k⟩
  frame:=by rintro F h h2 bs cs x ⟨u0,u1,rfl,h0,h1,k⟩ hn hk;exact ⟨u0,u1,rfl,h0,h1,(To.row (.rQ Loc.t)).frame k hn hk⟩
theorem Chunk.sf:DO Chunk.o Chunk.t:=⟨rfl,by rintro F G h bs cs x ⟨u0,u1,rfl,h0,h1,k⟩ l hg;exact ⟨u0,u1,rfl,h0,h1.mono l,Mo k l hg⟩⟩
theorem Chunk.yZ:ID Chunk.o Loc.t 34 Chunk.oN (fun x l=>Chunk.mk x.id x.pX x.data l):=⟨by decide,by rintro F h e cs x ⟨u0,u1,rfl,h0,h1,k⟩;exact ⟨u1,rfl,k⟩,by rintro F h e cs x F2 h2 e2 u' l2 ⟨u0,u1,rfl,h0,h1,k⟩ l k2;exact ⟨u0,u',rfl,h0,h1.mono l,k2⟩⟩
def oC.o:To oC where
  size:=3
  rel F h bs cs x:=∃ u0,cs=oC.cells x u0∧(To.row (.rQ Loc.t)).rel F h bs [u0] x.oN
  len:=by rintro F h bs cs x ⟨u0,rfl,k⟩;simp [oC.cells,Cy]
  one:=by rintro F h bs cs x ⟨u0,rfl,k⟩;simp only [oC.cells,tZ,uR,rC,LO,(To.JQ k).one];rfl
  lt:=by rintro F h bs cs x ⟨u0,rfl,k⟩;exact (To.row (.rQ Loc.t)).lt k
  nodup:=by rintro F h bs cs x ⟨u0,rfl,k⟩;exact (To.row (.rQ Loc.t)).nodup k
  mono:=by rintro F G h bs cs x l ⟨u0,rfl,k⟩;exact ⟨u0,rfl,(To.row (.rQ Loc.t)).mono l k⟩
  frame:=by rintro F h h2 bs cs x ⟨u0,rfl,k⟩ hn hk;exact ⟨u0,rfl,(To.row (.rQ Loc.t)).frame k hn hk⟩
theorem oC.sf:DO oC.o oC.t:=⟨rfl,by rintro F G h bs cs x ⟨u0,rfl,k⟩ l hg;exact ⟨u0,rfl,Mo k l hg⟩⟩
theorem oC.yZ:ID oC.o Loc.t 2 oC.oN (fun x l=>oC.mk x.seq x.of l):=⟨by decide,by rintro F h e cs x ⟨u0,rfl,k⟩;exact ⟨u0,rfl,k⟩,by rintro F h e cs x F2 h2 e2 u' l2 ⟨u0,rfl,k⟩ l k2;exact ⟨u',rfl,k2⟩⟩
end Go.Wk.Lf
end
