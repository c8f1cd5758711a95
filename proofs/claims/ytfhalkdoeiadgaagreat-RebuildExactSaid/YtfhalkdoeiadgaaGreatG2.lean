/- A call's state over the plain heap: what it owns, what is frozen, what stays. Values that own memory: flat ones, rows of such. An element more: append to an own row, deep. Own rows: an element is read, is written. What is owned is frozen: a result, or what is lent to readers. Rules for walks: what comes behind stands in the post. Operations that look into memory, in regions in the text's order. More slots filled: operations tell the same. More slots filled: what XW shows stays. Walks over lists of slots: continuations as data, rules for code and operations. The words of lifted functions; loops -/
import Derived.Test.YtfhalkdoeiadgaaGreatG1
import Derived.Shelf.SlSortCmp.WholeK
import Derived.Lib.Overlaps
set_option linter.unusedVariables false
set_option linter.unusedSimpArgs false
open Array renaming getElem?_append_left→ME, getElem?_eq_some_iff→Pz, getElem?_modify→DD
open BitVec renaming ofInt→wy
open Bool renaming and_eq_true→rk, false_or→uB, true_and→uQ
open Eq renaming symm→PF, trans→MF
open Go renaming FuncId→tO, IntKind→vW, Operand→oY, Program→oZ, ResultVar→GW, TypeDesc→yR, TypeId→oI, Value→oT
open Go.IntKind renaming bits→GS, i64→Eu, signed→GU, u32→Fu, u64→Is, u8→Ul, wrap→ML
open Go.Op renaming bytesLess→Bh
open Go.Sort renaming ahead→BU
open Go.World renaming cell?→zq, frozen?→Iu, shape?→MQ
open Int renaming natCast_mul→PU, natCast_nonneg→UD, natCast_pow→UE, toNat_natCast→ry
open List renaming all_append→rC, all_eq_true→qB, append_assoc→tF, append_nil→vM, drop_drop→Bj, drop_eq_nil_of_le→Fy, drop_take→UH, drop_zero→yu, eq_nil_of_length_eq_zero→tP, eq_of_mem_replicate→MT, ext_getElem→Ke, ext_getElem?→CR, filterMap_cons→UI, flatten_append→yv, flatten_cons→vh, flatten_nil→PZ, getElem?_append_left→s6, getElem?_append_right→s7, getElem?_cons_zero→FB, getElem?_drop→vi, getElem?_eq_getElem→pF, getElem?_eq_none→zr, getElem?_eq_none_iff→UM, getElem?_eq_some_iff→qO, getElem?_map→xh, getElem?_set_ne→yb, getElem?_set_self→vN, getElem?_take→tQ, getElem_of_mem→vX, head_eq_of_cons_eq→wS, length_append→rH, length_cons→Ew, length_drop→ue, length_map→wz, length_replicate→AM, length_set→Ey, length_take→rb, mapM_cons→vY, mapM_nil→Ez, map_append→z6, map_cons→xi, map_map→CT, map_nil→Kg, mem_append→vj, mem_cons→sg, mem_cons_of_mem→ti, mem_filterMap→G0, mem_flatMap→G1, mem_flatten→tC, mem_map→z7, mem_map_of_mem→UQ, mem_of_getElem?→vC, mem_of_mem_drop→yS, mem_of_mem_take→zt, mem_or_eq_of_mem_set→P6, mem_replicate→MY, nil_append→zw, nodup_append→FC, nodup_cons→xL, nodup_nil→EA, pairwise_cons→G2, pairwise_map→UR, range→sN, replicate→ph, size_toArray→UU, take→UW, take_append_drop→z8, take_append_of_le_length→M1, take_left→P9, take_left'→G4, take_of_length_le→Bl, take_take→Ix
open List.Perm renaming refl→MS
open List.cons renaming injEq→Iv
open Nat renaming add_assoc→yc, add_mul→rV, add_zero→xM, beq→xN, ble→BW, blt→rM, div_eq_of_lt→UY, eq_of_beq_eq_true→BX, le_of_ble_eq_true→qY, le_of_lt→zx, le_refl→px, le_succ→AN, le_trans→wT, lt_of_le_of_lt→UZ, lt_of_lt_of_le→xO, lt_succ_self→BY, min_eq_left→Bm, mod_eq_of_lt→FD, mod_eq_sub_mod→U1, mul_comm→U2, mul_le_mul_right→tG, mul_one→Ki, mul_pos→IA, ne_of_beq_eq_false→Kj, sub_mul→CW, zero_add→pA, zero_le→pY
open Option renaming bind_eq_bind→Bn, bind_eq_some_iff→oV, bind_some→pG, isSome_iff_exists→Km, map_eq_some_iff→pU, map_some→rN
open Option.some renaming inj→oQ, injEq→qL
open Prod.mk renaming injEq→pZ
open Subtype renaming val→qK
open UInt32 renaming ofNat→rD, toNat_ofNat'→Kq
section
namespace Go.V
structure To (α:Type) where
 size:Nat
 rel:jL→Hp→List Nat→List jD→α→Prop
 len:∀ {F h bs cs x},rel F h bs cs x→cs.length=size
 one:∀ {F h bs cs x},rel F h bs cs x→cs.all jD.one=true
 lt:∀ {F h bs cs x},rel F h bs cs x → ∀ b∈bs,b < h.next
 nodup:∀ {F h bs cs x},rel F h bs cs x→bs.Nodup
 mono:∀ {F G h bs cs x},F.le G→rel F h bs cs x→rel G h bs cs x
 frame:∀ {F h h' bs cs x},rel F h bs cs x→h.next≤h'.next→(∀ b∈bs,h'.get b=h.get b)→rel F h' bs cs x
structure Ob:Type 1 where
 {α:Type}
 t:To α
 bs:List Nat
 cs:List jD
 x:α
def Ob.ok (F:jL) (h:Hp) (o:Ob):Prop:=o.t.rel F h o.bs o.cs o.x
structure St (X:List Nat) (h0:Hp) (F0 F:jL) (L:List Ob) (h:Hp):Prop where
 next:h0.next≤h.next
 wf:∀ b,h.next≤b→h.get b=none
 zd:∀ b,b < h0.next→b ∉ X→h.get b=h0.get b
 agree:Agree F h
 ext:F0.le F
 new:∀ b o u,F b o=some u→F0 b o=some u∨h0.next≤b∨b∈X
 own:∀ (i:Nat) (o:Ob),L[i]? = some o→o.ok F h ∧ ∀ b,b∈o.bs→(∀ k,F b k=none)∧(h0.next≤b∨b∈X)
 apart:∀ (i j:Nat) (o o':Ob) (b:Nat),L[i]? = some o→L[j]? = some o' → b∈o.bs→b∈o'.bs→i=j
theorem Lb {h:Hp} (hw:∀ b,h.next≤b→h.get b=none) {b o:Nat} {u:jD} (e:rJ h b o=some u):b < h.next:=by
 apply Classical.byContradiction;intro q;unfold rJ at e;rw [hw b (by omega)] at e;cases e
section
variable {X:List Nat} {h0 h h':Hp} {F0 F F':jL} {L Lr:List Ob}
theorem St.entry (hw:∀ b,h.next≤b→h.get b=none) (ha:Agree F h):St [] h F F [] h :=
 ⟨px _,hw,fun _ _ _=>rfl,ha,jL.le.refl _,fun _ _ _ h=>.inl h,fun i o h=>by simp at h,fun i j o o' b h=>by simp at h⟩
theorem St.ok (s:St X h0 F0 F L h) {i:Nat} {o:Ob} (hi:L[i]? = some o):o.ok F h:=(s.own i o hi).1
theorem St.call (s:St X h0 F0 F L h) (k:St [] h F F' Lr h'):St X h0 F0 F' (Lr++L) h':=by
 have Hz:∀ b,b < h.next→h'.get b=h.get b:=fun b hb=>k.zd b hb (by simp);have hL:∀ (i:Nat) (o:Ob),L[i]? = some o→o.ok F' h' ∧ ∀ b,b∈o.bs→(∀ q,F' b q=none)∧(h0.next≤b∨b∈X):=by
  intro i o hi;obtain ⟨h1,h2⟩:=s.own i o hi;refine ⟨o.t.mono k.ext (o.t.frame h1 k.next fun b hb=>Hz b (o.t.lt h1 b hb)),fun b hb=>⟨fun q=>?_,(h2 b hb).2⟩⟩;cases hF:F' b q with
  | none=>rfl
  | some u =>
   rcases k.new b q u hF with h3 | h3 | h3
   ·rw [(h2 b hb).1 q] at h3;cases h3
   ·have:=o.t.lt h1 b hb;omega
   ·simp at h3
 have hR:∀ (i:Nat) (o:Ob),Lr[i]? = some o → ∀ b,b∈o.bs→h.next≤b:=fun i o hi b hb=>by
  rcases ((k.own i o hi).2 b hb).2 with h3 | h3
  ·exact h3
  ·simp at h3
 refine ⟨wT s.next k.next,k.wf,fun b hb hx=>(Hz b (xO hb s.next)).trans (s.zd b hb hx),k.agree,s.ext.trans k.ext,fun b o u e=>?_,fun i o hi=>?_,fun i j o o' b hi hj ho vR=>?_⟩
 ·rcases k.new b o u e with h3 | h3 | h3
  ·exact s.new b o u h3
  ·exact .inr (.inl (wT s.next h3))
  ·simp at h3
 ·by_cases hl:i < Lr.length
  ·rw [s6 hl] at hi;obtain ⟨h1,h2⟩:=k.own i o hi;exact ⟨h1,fun b hb=>⟨(h2 b hb).1,.inl (wT s.next (hR i o hi b hb))⟩⟩
  ·rw [s7 (by omega)] at hi;exact hL _ o hi
 ·by_cases hl:i < Lr.length <;> by_cases hm:j < Lr.length
  ·rw [s6 hl] at hi;rw [s6 hm] at hj;exact k.apart i j o o' b hi hj ho vR
  ·rw [s6 hl] at hi;rw [s7 (by omega)] at hj;have h1:=hR i o hi b ho;have h2:=o'.t.lt (s.ok hj) b vR;omega
  ·rw [s7 (by omega)] at hi;rw [s6 hm] at hj;have h1:=hR j o' hj b vR;have h2:=o.t.lt (s.ok hi) b ho;omega
  ·rw [s7 (by omega)] at hi hj;have:=s.apart _ _ o o' b hi hj ho vR;omega
structure M5 (h h':Hp):Prop where
 next:h.next≤h'.next
 wf:∀ b,h'.next≤b→h'.get b=none
 zd:∀ b,b < h.next→h'.get b=h.get b
theorem M5.agree (a:M5 h h') (hw:∀ b,h.next≤b→h.get b=none) (g:Agree F h):Agree F h':=fun b o u e=>by
 have h1:=g b o u e;have:=Lb hw h1;unfold rJ at h1 ⊢;rw [a.zd b this];exact h1
theorem St.fresh (s:St X h0 F0 F L h) {o:Ob} (a:M5 h h') (ho:o.ok F h') (hg:∀ b,b∈o.bs→h.next≤b):St X h0 F0 F (o::L) h':=by
 have e:St [] h F F [o] h':=⟨a.next,a.wf,fun b hb _=>a.zd b hb,a.agree s.wf s.agree,jL.le.refl _,fun _ _ _ q=>.inl q,fun i o' hi=>by
   have:i=0:=by have:=(qO.1 hi).1;simpa using this
   subst this;simp at hi;subst hi;refine ⟨ho,fun b hb=>⟨fun q=>?_,.inl (hg b hb)⟩⟩;cases hF:F b q with
   | none=>rfl
   | some u=>have:=Lb s.wf (s.agree b q u hF);have:=hg b hb;omega,fun i j o1 o2 b hi hj _ _=>by
   have:=(qO.1 hi).1;have:=(qO.1 hj).1;simp at *;omega⟩
 simpa using s.call e
theorem St.vf (s:St X h0 F0 F L h) {i:Nat} {o o':Ob} (hi:L[i]? = some o) (ho:o'.ok F h') (hn:h.next≤h'.next) (hw:∀ b,h'.next≤b→h'.get b=none) (hk:∀ b,b < h.next→b ∉ o.bs→h'.get b=h.get b) (hb:∀ b,b∈o'.bs→b∈o.bs∨h.next≤b):St X h0 F0 F (L.set i o') h':=by
 obtain ⟨s1,s2⟩:=s.own i o hi;have qJ:=(qO.1 hi).1;have Hv:∀ b k u,F b k=some u→b < h.next∧b ∉ o.bs:=fun b k u e=>⟨Lb s.wf (s.agree b k u e),fun q=>by rw [(s2 b q).1 k] at e;cases e⟩
 have Jm:∀ (j:Nat) (p:Ob),(L.set i o')[j]? = some p→(j=i∧p=o')∨(j≠i∧L[j]? = some p):=fun j p hj=>by
  by_cases e:j=i
  ·subst e;rw [vN qJ] at hj;exact .inl ⟨rfl,(oQ hj).symm⟩
  ·rw [yb (fun q=>e q.symm)] at hj;exact .inr ⟨e,hj⟩
 have Aq:∀ (j:Nat) (p:Ob),j≠i→L[j]? = some p → ∀ b,b∈p.bs→b < h.next∧b ∉ o.bs:=fun j p hj hp b hb=>⟨p.t.lt (s.ok hp) b hb,fun q=>hj (s.apart j i p o b hp hi hb q)⟩
 refine ⟨wT s.next hn,hw,fun b pP hx=>?_,fun b k u e=>?_,s.ext,s.new,fun j p hj=>?_,fun j k p p' b hj uI hp zN=>?_⟩
 ·rw [hk b (xO pP s.next) (fun q=>by rcases (s2 b q).2 with h3 | h3;omega;exact hx h3)];exact s.zd b pP hx
 ·obtain ⟨q1,q2⟩:=Hv b k u e;have:=s.agree b k u e;unfold rJ at this ⊢;rw [hk b q1 q2];exact this
 ·rcases Jm j p hj with ⟨rfl,rfl⟩ | ⟨pM,hp⟩
  ·refine ⟨ho,fun b pP=>?_⟩;rcases hb b pP with q | q
   ·exact s2 b q
   ·refine ⟨fun k=>?_,.inl (wT s.next q)⟩;cases hF:F b k with
    | none=>rfl
    | some u=>have:=(Hv b k u hF).1;omega
  ·obtain ⟨t1,t2⟩:=s.own j p hp;exact ⟨p.t.frame t1 hn fun b pP=>hk b (Aq j p pM hp b pP).1 (Aq j p pM hp b pP).2,t2⟩
 ·rcases Jm j p hj with ⟨rfl,rfl⟩ | ⟨pM,hq⟩ <;> rcases Jm k p' uI with ⟨rfl,rfl⟩ | ⟨afg,xT⟩
  ·rfl
  ·obtain ⟨t1,t2⟩:=Aq k p' afg xT b zN;rcases hb b hp with q | q
   ·exact absurd q t2
   ·omega
  ·obtain ⟨t1,t2⟩:=Aq j p pM hq b hp;rcases hb b zN with q | q
   ·exact absurd q t2
   ·omega
  ·exact s.apart j k p p' b hq xT hp zN
end
end Go.V
end
section
namespace Go.V
def To.rQ {α:Type} (t:Tr α):To α :=
 ⟨t.size,fun F h bs cs x=>bs=[]∧t.rel F cs x,fun q=>t.len q.2,fun q=>t.one q.2,fun q b hb=>by (rw [q.1] at hb;cases hb),fun q=>by rw [q.1];exact EA,fun l q=>⟨q.1,t.mono l q.2⟩,fun q _ _=>q⟩
structure C3 {α:Type} (t:To α) (F:jL) (h:Hp) (bs:List Nat) (v:jD) (xs:List α) (b:Nat) (c:List jD) (k:Option Nat) (css:List (Cl t.size)) (bss:List (List Nat)):Prop where
 form:v = .sl (some (b,0)) xs.length (.of t.size k)
 qS:h.get b=some (.cells t.size c)
 lt:b < h.next
 rm:css.length=xs.length
 tn:bss.length=xs.length
 rel:∀ (i:Nat) (d:Cl t.size) (x:α) (e:List Nat),css[i]? = some d→xs[i]? = some x→bss[i]? = some e→t.rel F h e d.1 x
 cells:c.take (xs.length*t.size)=(css.map qK).flatten
 CC:k=none→xs.length*t.size≤c.length
 cap:∀ m,k=some m→c.length=m*t.size∧xs.length≤m
 zG:xs.length≤2 ^ 30
 one:c.all jD.one=true
 yF:bs=b::bss.flatten
 nodup:bs.Nodup
def To.row {α:Type} (t:To α):To (List α) where
 size:=1
 rel F h bs cs xs:=∃ v,cs=[v]∧((v = .sl none 0 (.k 0)∧xs=[]∧bs=[]) ∨ ∃ b c k css bss,C3 t F h bs v xs b c k css bss)
 len:=fun ⟨v,q,_⟩=>by rw [q];rfl
 one:=fun ⟨v,q,r⟩=>by
  rw [q];rcases r with ⟨rfl,_⟩ | ⟨b,c,k,css,bss,r⟩
  ·rfl
  ·rw [r.form];rfl
 lt:=fun ⟨v,q,r⟩ g hg=>by
  rcases r with ⟨_,_,rfl⟩ | ⟨b,c,k,css,bss,r⟩
  ·cases hg
  ·rw [r.yF] at hg;rcases sg.1 hg with rfl | hg
   ·exact r.lt
   ·obtain ⟨e,he,hg⟩:=tC.1 hg;obtain ⟨i,hi,rfl⟩:=vX he;have h1:i < css.length:=by rw [r.rm,← r.tn];exact hi
    exact t.lt (r.rel i _ _ _ (pF h1) (pF (by rw [← r.tn];exact hi)) (pF hi)) g hg
 nodup:=fun ⟨v,q,r⟩=>by
  rcases r with ⟨_,_,rfl⟩ | ⟨b,c,k,css,bss,r⟩
  ·exact EA
  ·exact r.nodup
 mono:=fun l ⟨v,q,r⟩=>by
  refine ⟨v,q,?_⟩;rcases r with r | ⟨b,c,k,css,bss,r⟩
  ·exact .inl r
  ·exact .inr ⟨b,c,k,css,bss,{ r with rel:=fun i d x e h1 h2 h3=>t.mono l (r.rel i d x e h1 h2 h3) }⟩
 frame:=fun ⟨v,q,r⟩ hn hk=>by
  refine ⟨v,q,?_⟩;rcases r with r | ⟨b,c,k,css,bss,r⟩
  ·exact .inl r
  ·refine .inr ⟨b,c,k,css,bss,{ r with qS:=(hk b (by rw [r.yF];simp)).trans r.qS,lt:=xO r.lt hn,rel:=fun i d x e h1 h2 h3=>t.frame (r.rel i d x e h1 h2 h3) hn fun g hg=>hk g ?_ }⟩;rw [r.yF];exact ti _ (tC.2 ⟨e,vC h3,hg⟩)
end Go.V
end
section
namespace Go.V
section
variable {α:Type} {t:To α} {F:jL} {h h1:Hp} {bs:List Nat} {v:jD} {xs:List α} {b:Nat} {c:List jD} {k:Option Nat} {css:List (Cl t.size)} {bss:List (List Nat)}
theorem Ai {s:Nat}:∀ (css:List (Cl s)),(css.map qK).flatten.length=css.length*s
 | []=>by simp
 | d::r=>by rw [xi,vh,rH,Ai r,d.2,Ew,rV];omega
end
end Go.V
end
section
namespace Go.V
theorem NS {s:Nat} (hs:0 < s):∀ (css:List (Cl s)) (p:Nat),(css.map qK).flatten[p]? = (css[p / s]?).bind fun d=>d.1[p % s]?
 | [],p=>by simp
 | d::r,p=>by
  rw [xi,vh]
  by_cases hp:p < s
  ·rw [s6 (by rw [d.2];exact hp),UY hp,FD hp];rfl
  ·have e1:p / s=(p - s) / s+1:=Nat.div_eq_sub_div hs (by omega);have e2:p % s=(p - s) % s:=U1 (by omega);rw [s7 (by rw [d.2];omega),d.2,NS hs r (p - s),e1,e2];rfl
theorem Rm {β:Type}:∀ (l:List (List β)) (i:Nat) (e':List β),l.flatten.Nodup→e'.Nodup→(∀ g,g∈e' → ∀ j e2,j≠i→l[j]? = some e2→g ∉ e2)→(l.set i e').flatten.Nodup
 | [],i,e',_,_,_=>by simp
 | a::l,0,e',h,he,hd=>by
  rw [vh] at h;obtain ⟨_,h2,_⟩:=FC.1 h;rw [List.set_cons_zero,vh];refine FC.2 ⟨he,h2,fun x hx y hy q=>?_⟩;subst q;obtain ⟨e2,q1,q2⟩:=tC.1 hy;obtain ⟨j,hj,rfl⟩:=vX q1;exact hd x hx (j+1) _ (by omega) (by simp [hj]) q2
 | a::l,i+1,e',h,he,hd=>by
  rw [vh] at h;obtain ⟨h1,h2,h3⟩:=FC.1 h;rw [List.set_cons_succ,vh];refine FC.2 ⟨h1,Rm l i e' h2 he fun g hg j e2 hj h2=>hd g hg (j+1) e2 (by omega) (by simpa using h2),fun x hx y hy q=>?_⟩;subst q;obtain ⟨e2,q1,q2⟩:=tC.1 hy;rcases P6 q1 with q | q
  ·exact h3 x hx x (tC.2 ⟨e2,q,q2⟩) rfl
  ·subst q;exact hd x q2 0 a (by omega) rfl hx
theorem NR {β:Type}:∀ (l:List (List β)) {i j:Nat} {e e2:List β} {g:β},l.flatten.Nodup→j≠i→l[j]? = some e2→l[i]? = some e→g∈e2→g∈e→False
 | [],i,j,e,e2,g,_,_,h,_,_,_=>by simp at h
 | a::l,0,0,e,e2,g,_,hj,_,_,_,_=>hj rfl
 | a::l,0,j+1,e,e2,g,h,_,h2,h1,g2,g1=>by
  rw [vh] at h;simp at h1 h2;subst h1;exact (FC.1 h).2.2 g g1 g (tC.2 ⟨e2,vC h2,g2⟩) rfl
 | a::l,i+1,0,e,e2,g,h,_,h2,h1,g2,g1=>by
  rw [vh] at h;simp at h1 h2;subst h2;exact (FC.1 h).2.2 g g2 g (tC.2 ⟨e,vC h1,g1⟩) rfl
 | a::l,i+1,j+1,e,e2,g,h,hj,h2,h1,g2,g1=>by
  rw [vh] at h;exact NR l (i:=i) (j:=j) (FC.1 h).2.1 (by omega) (by simpa using h2) (by simpa using h1) g2 g1
section
variable {α:Type} {t:To α} {F:jL} {h:Hp} {bs:List Nat} {v:jD} {xs:List α}
theorem To.OZ (sL:0 < t.size) (r:(To.row t).rel F h bs [v] xs) {i:Nat} {x:α} (hi:xs[i]? = some x) :
  ∃ b k cs e,v = .sl (some (b,0)) xs.length (.of t.size k)∧b∈bs∧b < h.next∧(∀ g,g∈e→g∈bs∧g≠b)∧t.rel F h e cs x∧rd h b (i*t.size) t.size=some cs ∧
   ∀ (us:List jD) (q:Nat) (ds:List jD) (y:α) (e':List Nat),us.all jD.one=true→q+us.length≤t.size→ds=p6 cs q us→(∀ h',h'.next=h.next→(∀ g,g≠b→h'.get g=h.get g)→t.rel F h' e' ds y)→(∀ g,g∈e' → g ∉ bs∨g∈e)→(∀ g,g∈e' → g < h.next)→e'.Nodup →
    ∃ h' qv,vB h b (i*t.size+q) us=some h' ∧ (To.row t).rel F h' qv [v] (xs.set i y)∧h'.next=h.next∧(∀ g,g≠b→h'.get g=h.get g) ∧ ∀ g,g∈qv→g∈bs∨g∈e':=by
 obtain ⟨v0,rj,r⟩:=r;obtain rfl:=wS rj;have qJ:=(qO.1 hi).1;rcases r with ⟨rfl,rfl,rfl⟩ | ⟨b,c,k,css,bss,r⟩
 ·simp at hi
 ·obtain ⟨y4,hblk,Gb,EX,K9,sM,Al,LB,zH,BC,Hs,A0,zL⟩:=r;subst y4;subst A0;obtain ⟨wh,wJ⟩:=xL.1 zL;have sG:=Ai css;have Xq:xs.length*t.size≤c.length:=by
   have:(c.take (xs.length*t.size)).length=xs.length*t.size:=by rw [Al,sG,EX]
   rw [rb] at this;omega
  have hd:=pF (l:=css) (i:=i) (by omega);have he:=pF (l:=bss) (i:=i) (by omega);generalize y3:css[i]=d at hd;generalize hee:bss[i]=e at he;have hr:=sM i d x e hd hi he;have yp:∀ g,g∈e→g∈bss.flatten:=fun g hg=>tC.2 ⟨e,vC he,hg⟩;have hiz:i*t.size+t.size≤xs.length*t.size:=by
   have:=tG t.size (show i+1≤xs.length from qJ);rw [rV] at this;omega
  have Xp:∀ p,p < xs.length*t.size→c[p]? = (css[p / t.size]?).bind fun d=>d.1[p % t.size]?:=fun p hp=>by
   rw [← NS sL,← Al,tQ,if_pos hp]
  have Xt:∀ j,j < t.size→c[i*t.size+j]? = d.1[j]?:=fun j hj=>by
   rw [Xp _ (by omega),U2 i,Nat.mul_add_div sL,Nat.mul_add_mod,UY hj,FD hj,xM,hd];rfl
  refine ⟨b,k,d.1,e,rfl,by simp,Gb,fun g hg=>⟨ti _ (yp g hg),fun q=>wh (q ▸ yp g hg)⟩,hr,?_,?_⟩
  ·unfold rd;rw [hblk];simp only;rw [if_pos (by omega)]
   congr 1
   apply CR;intro j;rw [tQ]
   split
   ·rename_i hj;rw [vi];exact Xt j hj
   ·rw [zr (by rw [d.2];omega)]
  ·intro us q ds y e' D1 hq Xv hy N5 Od aff;have hle:i*t.size+q+us.length≤c.length:=by omega
   have aea:ds.length=t.size:=by rw [Xv,yt (by rw [d.2];exact hq)];exact d.2
   refine ⟨h.set b (.cells t.size (p6 c (i*t.size+q) us)),b::(bss.set i e').flatten,?_,⟨_,rfl,.inr ⟨b,p6 c (i*t.size+q) us,k,css.set i ⟨ds,aea⟩,bss.set i e',?_⟩⟩,rfl,fun g hg=>by rw [Hp.pD,if_neg hg],fun g hg=>?_⟩
   ·unfold vB;rw [hblk];simp only;rw [if_pos ⟨hle,D1⟩]
   ·have LC:∀ (j:Nat) (e2:List Nat),bss[j]? = some e2 → ∀ g,g∈e2→g≠b:=fun j e2 h2 g hg q=>wh (q ▸ tC.2 ⟨e2,vC h2,hg⟩);refine ⟨by simp,by rw [Hp.pD,if_pos rfl],Gb,by simp [EX],by simp [K9],fun j d2 x2 e2 q1 q2 q3=>?_,?_,fun q=>by rw [yt hle];simpa using LB q,fun m q=>by rw [yt hle];simpa using zH m q,by simpa using BC,?_,rfl,?_⟩
    ·by_cases hj:j=i
     ·subst hj;rw [vN (by omega)] at q1 q2 q3;obtain rfl:=oQ q1;obtain rfl:=oQ q2;obtain rfl:=oQ q3;exact hy _ rfl fun g hg=>by rw [Hp.pD,if_neg hg]
     ·rw [yb (fun q=>hj q.symm)] at q1 q2 q3;exact t.frame (sM j d2 x2 e2 q1 q2 q3) (px _) fun g hg=>by rw [Hp.pD,if_neg (LC j e2 q3 g hg)]
    ·apply CR;intro p;rw [NS sL,tQ,Ey]
     split
     ·rename_i hp;rw [Ed hle]
      by_cases Og:p / t.size=i
      ·have hpe:p=i*t.size+p % t.size:=by rw [← Og,U2];exact (Nat.div_add_mod p t.size).symm
       have hpm:=Nat.mod_lt p sL;rw [Og,vN (by omega)];show _=ds[p % t.size]?;rw [Xv,Ed (by rw [d.2];exact hq)]
       by_cases hw:q≤p % t.size∧p % t.size < q+us.length
       ·rw [if_pos hw,if_pos (by omega),show p - (i*t.size+q)=p % t.size - q by omega]
       ·rw [if_neg hw,if_neg (by omega),← Xt _ hpm,← hpe]
      ·rw [yb (fun q=>Og q.symm),if_neg,Xp p hp];intro hw;apply Og;have yn:i*t.size≤p:=by omega
       have xF:p < (i+1)*t.size:=by rw [rV];omega
       exact Nat.div_eq_of_lt_le yn xF
     ·rename_i hp;rw [zr]
      ·rfl
      ·rw [Ey,EX];exact (Nat.le_div_iff_mul_le sL).2 (by omega)
    ·unfold p6;rw [rC,rC,D1];have q1:(c.take (i*t.size+q)).all jD.one=true:=qB.2 fun x hx=>qB.1 Hs x (zt hx);have q2:(c.drop (i*t.size+q+us.length)).all jD.one=true:=qB.2 fun x hx=>qB.1 Hs x (yS hx);rw [q1,q2];rfl
    ·refine xL.2 ⟨fun q=>?_,Rm bss i e' wJ aff fun g hg j e2 hj h2 tE=>?_⟩
     ·obtain ⟨e2,q1,q2⟩:=tC.1 q;rcases P6 q1 with q3 | q3
      ·exact wh (tC.2 ⟨e2,q3,q2⟩)
      ·subst q3;rcases N5 b q2 with q4 | q4
       ·exact q4 (by simp)
       ·exact wh (yp b q4)
     ·rcases N5 g hg with q4 | q4
      ·exact q4 (ti _ (tC.2 ⟨e2,vC h2,tE⟩))
      ·exact NR bss wJ hj h2 he tE q4
   ·rcases sg.1 hg with rfl | hg
    ·exact .inl (by simp)
    ·obtain ⟨e2,h2,tE⟩:=tC.1 hg;rcases P6 h2 with q | q
     ·exact .inl (ti _ (tC.2 ⟨e2,q,tE⟩))
     ·exact .inr (q ▸ tE)
end
end Go.V
end
section
namespace Go.V
def jL.plus (F:jL) (h:Hp) (bs:List Nat):jL:=fun b o=>if b∈bs then rJ h b o else F b o
theorem jL.OQ {F:jL} {h:Hp} {bs:List Nat} (hn:∀ b,b∈bs → ∀ k,F b k=none):F.le (F.plus h bs):=fun b o u e=>by
 unfold jL.plus;rw [if_neg]
 ·exact e
 ·intro q;rw [hn b q o] at e;cases e
section
variable {X:List Nat} {h0 h:Hp} {F0 F:jL} {L:List Ob}
theorem St.SV (s:St X h0 F0 F L h) {i:Nat} {o:Ob} (hi:L[i]? = some o):∀ b,b∈o.bs → ∀ k,F b k=none:=fun b hb=>((s.own i o hi).2 b hb).1
theorem St.freeze (s:St X h0 F0 F L h) {i:Nat} {o:Ob} (hi:L[i]? = some o):St X h0 F0 (F.plus h o.bs) (L.eraseIdx i) h:=by
 have hle:=jL.OQ (h:=h) (s.SV hi);have yG:∀ (j:Nat) (p:Ob),(L.eraseIdx i)[j]? = some p → ∃ j',j' ≠ i∧L[j']? = some p∧(j' = if j < i then j else j+1):=fun j p hj=>by
  rw [List.getElem?_eraseIdx] at hj
  split at hj
  ·rename_i q;exact ⟨j,by omega,hj,by rw [if_pos q]⟩
  ·rename_i q;exact ⟨j+1,by omega,hj,by rw [if_neg q]⟩
 refine ⟨s.next,s.wf,s.zd,fun b k u e=>?_,s.ext.trans hle,fun b k u e=>?_,fun j p hj=>?_,fun j k p p' b hj hk hp zN=>?_⟩
 ·unfold jL.plus at e
  split at e
  ·exact e
  ·exact s.agree b k u e
 ·unfold jL.plus at e
  split at e
  ·rename_i q;exact .inr ((s.own i o hi).2 b q).2
  ·exact s.new b k u e
 ·obtain ⟨j',q1,q2,_⟩:=yG j p hj;obtain ⟨t1,t2⟩:=s.own j' p q2;refine ⟨p.t.mono hle t1,fun b hb=>⟨fun k=>?_,(t2 b hb).2⟩⟩;unfold jL.plus;rw [if_neg fun q=>q1 (s.apart j' i p o b q2 hi hb q)];exact (t2 b hb).1 k
 ·obtain ⟨j',q1,q2,q3⟩:=yG j p hj;obtain ⟨k',r1,r2,r3⟩:=yG k p' hk;have:=s.apart j' k' p p' b q2 r2 hp zN
  split at q3 <;> split at r3 <;> omega
end
theorem Mo {α:Type} {t:Tr α} {F G:jL} {h:Hp} {bs:List Nat} {v:jD} {xs:List α} (r:(To.row (To.rQ t)).rel F h bs [v] xs) (hl:F.le G) (hg:∀ b,b∈bs → ∀ o u,rJ h b o=some u→G b o=some u):oF t G v xs:=by
 obtain ⟨v0,rj,r⟩:=r;obtain rfl:=wS rj;rcases r with ⟨rfl,rfl,_⟩ | ⟨b,c,k,css,bss,r⟩
 ·exact oF.nil _
 ·have BC:xs.length≤maxLen:=wT r.zG (by unfold maxLen;decide);have key:∀ css:List (Cl t.size),css.length=xs.length→(∀ (i:Nat) (d:Cl t.size) (x:α),css[i]? = some d→xs[i]? = some x→t.rel F d.1 x)→c.take (xs.length*t.size)=(css.map qK).flatten→oF t G v xs:=fun css rT sM hc=>by
   refine ⟨css,⟨rT,fun i d x h1 h2=>t.mono hl (sM i d x h1 h2)⟩,.inr ⟨some (b,0),k,by rw [r.form,rT];rfl,by rw [rT];exact BC,fun m hm=>by rw [rT];exact (r.cap m hm).2,fun q=>(by cases q),fun b' o' vq i d j u h1 h2=>?_⟩⟩;simp only [qL,pZ] at vq;obtain ⟨rfl,rfl⟩:=vq;refine hg b (by rw [r.yF];simp) _ _ ?_;unfold rJ;rw [r.qS,pA];have qJ:=(qO.1 h1).1;have ta:j < t.size:=by have:=(qO.1 h2).1;rw [d.2] at this;exact this
   have pv:i*t.size+j < xs.length*t.size:=by
    have:=tG t.size (show i+1≤xs.length by rw [← rT];exact qJ);rw [rV] at this;omega
   have:=Je h1 h2;show c[i*t.size+j]? = some u;rw [← hc,tQ,if_pos pv] at this;exact this
  refine key css r.rm (fun i d x h1 h2=>?_) r.cells;have hi:=(qO.1 h2).1;exact (r.rel i d x _ h1 h2 (pF (by rw [r.tn];exact hi))).2
end Go.V
end
section
namespace Go.V
section
variable {P:oZ} {K:Tb}
def Qs (P:oZ) (K:Tb) (n:Nat) (b:Code) (Q:Out→Prop):Out→Prop
 | .code .td env h=>XW P K (.code n b env h) Q
 | o=>Q o
def U5 (id:Nat) (Q:Out→Prop):Out→Prop
 | .code (.ext i) env h=>Q (.code (if i=id then .td else .ext i) env h)
 | o=>Q o
def U8 (P:oZ) (rs:List GW) (Q:Out→Prop):Out→Prop
 | .code .td env h=>∃ vs,Ba P env h rs=some vs∧Q (.call (Du vs) h)
 | .code .ret env h=>∃ vs,Ba P env h rs=some vs∧Q (.call (Du vs) h)
 | _=>False
theorem XW.Zi {n:Nat} {a b:Code} {env:Env} {h:Hp} {Q:Out→Prop} (x:XW P K (.code n a env h) (Qs P K n b Q)):XW P K (.code n (.seq a b) env h) Q :=
 .seq x (fun rF h' q=>q) fun e rF h' ne q=>by cases e <;> first | exact absurd rfl ne | exact q
theorem XW.abC {n id:Nat} {a:Code} {env:Env} {h:Hp} {Q:Out→Prop} (x:XW P K (.code n a env h) (U5 id Q)):XW P K (.code n (.block id a) env h) Q :=
 .block x fun e rF h' q=>by cases e <;> exact q
theorem XW.abV {f:tO} {args:List jD} {h:Hp} {Q:Out→Prop} {fn:Func} {c:Code} (hf:P.funcs[f]? = some fn) (hb:fn.body=some c) (hn:fn.name ≠ "runtime.NumGoroutine") (hl:args.length≤fn.ntmps) (x:XW P K (.code fn.ntmps c (Ha 0 args .lf) h) (U8 P fn.results.toList Q)):XW P K (.call f args h) Q :=
 .call hf hb hn hl x fun e rF h' q=>by
  cases e with
  | td=>exact ⟨.inl rfl,q⟩
  | ret=>exact ⟨.inr rfl,q⟩
  | ext i=>exact q.elim
theorem XW.Wy {n:Nat} {x:oY} {a b:Code} {env:Env} {h:Hp} {Q:Out→Prop} (hx:pO env x=some (.b true)) (q:XW P K (.code n a env h) Q):XW P K (.code n (.cond x a b) env h) Q:=.cond (t:=true) hx q
theorem XW.Wx {n:Nat} {x:oY} {a b:Code} {env:Env} {h:Hp} {Q:Out→Prop} (hx:pO env x=some (.b false)) (q:XW P K (.code n b env h) Q):XW P K (.code n (.cond x a b) env h) Q:=.cond (t:=false) hx q
theorem XW.acL {n:Nat} {x:oY} {a b:Code} {env:Env} {h:Hp} {Q:Out→Prop} {t:Bool} (hx:pO env x=some (.b t)) (q1:t=true→XW P K (.code n a env h) Q) (q2:t=false→XW P K (.code n b env h) Q):XW P K (.code n (.cond x a b) env h) Q:=by
 cases t
 ·exact .Wx hx (q2 rfl)
 ·exact .Wy hx (q1 rfl)
end
end Go.V
end
section
namespace Go.V
section
variable {P:oZ} {K:Tb}
def aaB (I:Nat→Env→Hp→Prop) (k:Nat) (Q:Out→Prop):Out→Prop
 | .code .td env h=>∃ j,j < k∧I j env h
 | o=>Q o
theorem XW.ag1 {n:Nat} {a:Code} {Q:Out→Prop} (I:Nat→Env→Hp→Prop) (step:∀ k env h,I k env h→XW P K (.code n a env h) (aaB I k Q)):∀ (k:Nat) (env:Env) (h:Hp),I k env h→XW P K (.code n (.loop a) env h) Q:=by
 intro k
 induction k using Nat.strongRecOn with
 | _ k ih =>
  intro env h hI;refine .loop (step k env h hI) (fun rF h' q=>?_) (fun e rF h' ne q=>?_)
  ·obtain ⟨j,hj,K6⟩:=q;exact ih j hj rF h' K6
  ·cases e with
   | td=>exact absurd rfl ne
   | ext i=>exact q
   | ret=>exact q
theorem Th {h:Hp} {b o z off n:Nat} {cs:List jD} (hr:rd h b o z=some cs) (hn:off+n≤z):rd h b (o+off) n=some ((cs.drop off).take n):=by
 have key:∀ c:List jD,(if o+z≤c.length then some ((c.drop o).take z) else none)=some cs→(if o+off+n≤c.length then some ((c.drop (o+off)).take n) else none)=some ((cs.drop off).take n):=fun c hq=>by
  split at hq
  ·obtain rfl:=oQ hq;rw [if_pos (by omega),UH,Bj,Ix,Bm (by omega)]
  ·cases hq
 unfold rd at hr ⊢
 split at hr
 ·exact key _ hr
 ·exact key _ hr
 ·cases hr
theorem af6 {t e:oI} {z b o len i:Nat} {c:Cap} {k:vW} (ht:P.underlying t=some (.slice e)) (hz:sz P e=some z) (hi:i < len):HP P t (.sl (some (b,o)) len c) (.i k i)=some (.p (some (b,o+i*z))):=by
 unfold HP ze;simp only;rw [if_pos (by omega)];simp [ht,hz,hi]
theorem SC {h:Hp} {t:oI} {b o:Nat} {v:jD} (ht:rY P t=some false) (hr:rd h b o 1=some [v]):yL P h t (.p (some (b,o)))=some v:=by
 simp [yL,ht,hr]
theorem LV {h:Hp} {t:oI} {b o n:Nat} {cs:List jD} (ht:rY P t=some true) (hz:sz P t=some n) (hr:rd h b o n=some cs):yL P h t (.p (some (b,o)))=some (.agg cs):=by
 simp [yL,ht,hz,hr]
end
end Go.V
end
section
namespace Go.V
def Le {α:Type} (o o':Option α):Prop:=∀ a,o=some a→o' = some a
theorem Le.refl {α:Type} (o:Option α):Le o o:=fun _ h=>h
theorem Le.bind {α β:Type} {o o':Option α} {f g:α→Option β} (h:Le o o') (k:∀ a,Le (f a) (g a)):Le (o.bind f) (o'.bind g):=fun b e=>by
 rw [oV] at e ⊢;obtain ⟨a,e1,e2⟩:=e;exact ⟨a,h a e1,k a b e2⟩
theorem Le.map {α β:Type} {o o':Option α} {f:α→β} (h:Le o o'):Le (o.map f) (o'.map f):=fun b e=>by
 obtain ⟨a,e1,e2⟩:=pU.1 e;exact pU.2 ⟨a,h a e1,e2⟩
theorem Le.mapM {α β:Type} {f g:α→Option β} (h:∀ a,Le (f a) (g a)):∀ l:List α,Le (l.mapM f) (l.mapM g)
 | []=>Le.refl _
 | a::l=>by
  rw [vY,vY];exact Le.bind (h a) fun _=>Le.bind (Le.mapM h l) fun _=>Le.refl _
end Go.V
end
section
namespace Go.V
end Go.V
end
section
namespace Go.V
abbrev EL:=List (Nat × jD)
def look:EL→Nat→Option jD
 | [],_=>none
 | (k,v)::l,t=>match xN k t with | true=>some v | false=>look l t
def Has (E:EL) (env:Env):Prop:=∀ t v,look E t=some v→env.get t=some v
def oS (E:EL):oY→Option jD
 | .tmp t=>look E t
 | .const v=>cv v
 | .global _=>none
 | .func f=>some (.f f [])
def yY (E:EL) (l:List oY):Option (List jD):=l.mapM (oS E)
def FW (E:EL) (l:List (Nat × oY)):Option (List (Nat × jD)):=l.mapM fun q=>(oS E q.2).map fun v=>(q.1,v)
def BB (E:EL):Option oY→Option (Option jD)
 | none=>some none
 | some x=>(oS E x).map some
def pW (P:oZ) (env:EL) (h:Hp):Op→Option (jD × Hp)
 | .move x | .assign x=>(oS env x).map fun v=>(v,h)
 | .pick c a b=>(oS env c).bind fun | .b true=>(oS env a).map fun v=>(v,h) | .b false=>(oS env b).map fun v=>(v,h) | _=>none
 | .alloc e=>(zeroV P e).bind fun v=>AR h v.cells.length v.cells
 | .box e x=>(oS env x).bind fun v=>AR h v.cells.length v.cells
 | .build t ps=>(FW env ps.toList).bind fun ps=>(IW P t ps).map fun v=>(v,h)
 | .buildSlice t n ps=>(FW env ps.toList).bind fun ps=>FQ P h t n ps
 | .load t a=>(oS env a).bind fun a=>(yL P h t a).map fun v=>(v,h)
 | .store t a x=>(oS env a).bind fun a=>(oS env x).bind fun x=>(En P h t a x).map fun h=>(.no,h)
 | .nilCheck x=>(oS env x).bind fun | .p none=>none | .nf=>none | .un=>none | v=>some (v,h)
 | .binOp op t x y _=>(oS env x).bind fun x=>(oS env y).bind fun y=>(ru P op t x y).map fun v=>(v,h)
 | .unOp op _ x=>(oS env x).bind fun x=>(J4 op x).map fun v=>(v,h)
 | .convert s d x=>(oS env x).bind fun x=>wH P h s d x
 | .sliceToArrayPointer t x=>(oS env x).bind fun | .sl (some a) n _=>(match P.underlying t with | some (.array k _)=>if k≤n then some (.p (some a),h) else none | _=>none) | _=>none
 | .makeFunc (.func f) first xv=>if first.size=0 then (yY env xv.toList).map fun l=>(.f f l,h) else none
 | .makeMap t r=>match r with
  | none=>some (.m (some h.next),h.new (.map []))
  | some x=>(oS env x).bind fun v=>match P.underlying t,v with | some (.map _ _),.i _ _=>some (.m (some h.next),h.new (.map [])) | _,_=>none
 | .makeSlice t l c=>(oS env l).bind fun l=>(oS env c).bind fun c=>HW P h t l c
 | .slice t x lo hi mx=>(oS env x).bind fun x=>(BB env lo).bind fun lo=>(BB env hi).bind fun hi=>(BB env mx).bind fun mx=>(xb P t x lo hi mx).map fun v=>(v,h)
 | .fieldAddr s x f=>(oS env x).bind fun | .p (some (b,o))=>((ET P s f).bind fun q=>(sz P q.type).bind fun n=>if 0 < n then some (.p (some (b,o+q.offset)),h) else none) | _=>none
 | .field s x f=>(oS env x).bind fun | .agg cs=>((ET P s f).bind fun q=>(JL P q.type cs q.offset).map fun v=>(v,h)) | _=>none
 | .indexAddr t x i=>(oS env x).bind fun x=>(oS env i).bind fun i=>(HP P t x i).map fun v=>(v,h)
 | .index t x i=>(oS env x).bind fun x=>(oS env i).bind fun i=>(LP P t x i).map fun v=>(v,h)
 | .lookup t m k ok=>(oS env m).bind fun m=>(oS env k).bind fun k=>(Gr P h t m k ok).map fun v=>(v,h)
 | .mapUpdate t m k x=>(oS env m).bind fun m=>(oS env k).bind fun k=>(oS env x).bind fun x=>(LZ P h t m k x).map fun h=>(.no,h)
 | .extract x i=>(oS env x).bind fun | .qR vs=>(vs[i]?).map fun v=>(v,h) | _=>none
 | .call { callee:=.builtin b,args,argTypes }=>(yY env args.toList).bind fun l=>wD P h b argTypes.toList l
 | _=>none
def Eo (env:EL):Op→Option (tO × List jD)
 | .call { callee:=.value f,args,.. }=>(oS env f).bind fun | .f g xv=>(yY env args.toList).map fun l=>(g,l++xv) | _=>none
 | _=>none
def sr (A:List Oper) (env:EL) (o:Oper):Option Bool:=match o.guard with
 | none=>some true
 | some (j,want)=>match ((A[j]?).bind (·.dst)).bind (look env) with
  | some (.b x)=>some (x == want)
  | some (.qR [])=>some false
  | _=>none
section
variable {E:EL} {env:Env}
theorem Has.nil (env:Env):Has [] env:=fun t v h=>by simp [look] at h
theorem Has.pO (l:Has E env) (x:oY):Le (oS E x) (pO env x):=by
 cases x with
 | tmp t=>exact l t
 | const v=>exact Le.refl _
 | global g=>exact Le.refl _
 | func f=>exact Le.refl _
theorem Has.vH (l:Has E env) (xs:List oY):Le (yY E xs) (vH env xs):=Le.mapM l.pO xs
theorem Has.zF (l:Has E env) (xs:List (Nat × oY)):Le (FW E xs) (zF env xs):=Le.mapM (f:=fun q:Nat × oY=>(oS E q.2).map fun v=>(q.1,v)) (g:=fun q=>(Go.V.pO env q.2).map fun v=>(q.1,v)) (fun q=>(l.pO q.2).map) xs
theorem Has.Ah (l:Has E env) (x:Option oY):Le (BB E x) (Ah env x):=by
 cases x with
 | none=>exact Le.refl _
 | some x=>exact (l.pO x).map
theorem Has.put (l:Has E env) (d:Nat) (v:jD):Has ((d,v)::E) (env.set d v):=fun t u h=>by
 simp only [look] at h;rw [T.pD];cases hb:xN d t with
 | true=>rw [hb] at h;rw [if_pos (BX hb).symm];exact h
 | false=>rw [hb] at h;rw [if_neg (fun e=>Kj hb e.symm)];exact l t u h
theorem Has.pJ {P:oZ} (l:Has E env) (h:Hp) (op:Op):Le (pW P E h op) (pJ P env h op):=by
 cases op
 case pick c a b =>
  simp only [pW,Go.V.pJ];exact Le.bind (l.pO _) fun c=>by
   cases c with
   | b x=>cases x <;> exact (l.pO _).map
   | _=>exact fun _ h=>by cases h
 case makeFunc f first xv =>
  cases f with
  | func f =>
   simp only [pW,Go.V.pJ]
   split
   ·exact (l.vH _).map
   ·exact Le.refl _
  | _=>exact fun _ h=>by cases h
 case call c =>
  obtain ⟨callee,args,ts⟩:=c;cases callee with
  | builtin b=>exact Le.bind (l.vH _) fun _=>Le.refl _
  | _=>exact fun _ h=>by cases h
 case makeMap t r =>
  cases r with
  | none=>exact Le.refl _
  | some x =>
   simp only [pW,Go.V.pJ];exact Le.bind (l.pO _) fun v=>Le.refl _
 all_goals first
  | exact fun _ h=>by cases h
  | exact Le.refl _
  | (simp only [pW,Go.V.pJ];repeat' first | exact Le.refl _ | exact l.pO _ | exact l.vH _ | exact l.zF _ | exact l.Ah _ | (refine Le.bind ?_ fun _=>?_) | refine Le.map ?_)
theorem Has.zp (l:Has E env) (op:Op):Le (Eo E op) (zp env op):=by
 cases op
 case call c =>
  obtain ⟨callee,args,ts⟩:=c;cases callee with
  | value f =>
   simp only [Eo,Go.V.zp];exact Le.bind (l.pO _) fun v=>by
    cases v with
    | f g xv=>exact (l.vH _).map
    | _=>exact fun _ h=>by cases h
  | _=>exact fun _ h=>by cases h
 all_goals exact fun _ h=>by cases h
theorem Has.want (l:Has E env) (A:List Oper) (o:Oper):Le (sr A E o) (xZ A env o):=fun b e=>by
 cases hg:o.guard with
 | none=>simp only [sr,xZ,hg] at e ⊢;exact e
 | some q =>
  obtain ⟨j,want⟩:=q;simp only [sr,xZ,hg] at e ⊢;cases hA:(A[j]?).bind (·.dst) with
  | none=>rw [hA] at e;simp at e
  | some d =>
   rw [hA] at e;simp only [pG] at e ⊢;cases hq:look E d with
   | none=>rw [hq] at e;simp at e
   | some x=>rw [hq] at e;rw [l d x hq];exact e
def Sub:EL→EL→Prop
 | [],_=>True
 | (t,v)::r,l=>look l t=some v∧Sub r l
theorem Sub.look {r l:EL} (h:Sub r l):∀ t v,look r t=some v→look l t=some v:=by
 induction r with
 | nil=>intro t v h;simp [V.look] at h
 | cons x r ih =>
  obtain ⟨k,u⟩:=x;intro t v hv;simp only [V.look] at hv;cases hb:xN k t with
  | true =>
   rw [hb] at hv;have:k=t:=BX hb;subst this;have:u=v:=by simpa using hv
   subst this;exact h.1
  | false=>rw [hb] at hv;exact ih h.2 t v hv
theorem Has.sub {r l:EL} (hs:Has l env) (h:Sub r l):Has r env:=fun t v hv=>hs t v (h.look t v hv)
end
theorem sq {l:EL} {t:Nat} {x y:Bool} (h:look l t=some (.b x)) (e:x=y):look l t=some (.b y):=e ▸ h
inductive ua where
 | done (R:jD→Hp→Prop)
 | code (y:Code) (k:ua)
 | block (id:Nat) (k:ua)
 | loop (J:Env→Hp→Prop) (k:ua)
def pa (P:oZ) (K:Tb) (f:tO) (args:List jD) (h:Hp) (R:jD→Hp→Prop):Prop:=XW P K (.call f args h) fun o=>∃ v h',o = .call v h' ∧ R v h'
theorem pa.mono {P:oZ} {K:Tb} {f:tO} {args:List jD} {h:Hp} {R R':jD→Hp→Prop} (x:pa P K f args h R) (hr:∀ v h',R v h' → R' v h'):pa P K f args h R' :=
 XW.mono x fun o ⟨v,h',e,q⟩=>⟨v,h',e,hr _ _ q⟩
def ua.post (P:oZ) (K:Tb) (fn:Func):ua→Out→Prop
 | .done R=>U8 P fn.results.toList fun o=>∃ v h',o = .call v h' ∧ R v h'
 | .code y k=>Qs P K fn.ntmps y (k.post P K fn)
 | .block id k=>U5 id (k.post P K fn)
 | .loop J k=>fun o=>match o with
  | .code .td env h=>J env h
  | o=>k.post P K fn o
def ua.final:ua→jD→Hp→Prop
 | .done R=>R
 | .code _ k=>k.final
 | .block _ k=>k.final
 | .loop _ k=>k.final
def ua.Ig (id:Nat):ua→Option ua
 | .done _=>none
 | .code _ k=>k.Ig id
 | .block i k=>match xN id i with | true=>some k | false=>k.Ig id
 | .loop _ k=>k.Ig id
def EG (P:oZ) (A:List Oper) (dr:Bool) (G:jL) (L:List Nat) (pd:List yf):Prop:=dr=true → ∀ q,q∈pd→qT P (oE A q.idx).op = .read∧((∀ j,j∈L→qT P (oE A j).op = .sQ→((wC A []).getD j 0).testBit q.idx=true) ∨ ∀ h,Agree G h→pJ P q.env h q.op=some (q.v,h))
section
variable (P:oZ) (K:Tb) (fn:Func)
def C (k:ua) (c:Code) (E:EL) (h:Hp):Prop:=∀ env,Has E env→XW P K (.code fn.ntmps c env h) (k.post P K fn)
def N (k:ua) (E:EL) (h:Hp):Prop:=∀ env,Has E env→k.post P K fn (.code .td env h)
def W (k:ua) (A:List Oper) (dr:Bool) (G:jL) (L:List Nat) (E:EL) (h:Hp):Prop:=Agree G h → ∀ env pd,Has E env→EG P A dr G L pd→XW P K (.ops fn.ntmps A dr L pd env h) (k.post P K fn)
end
section rules
variable {P:oZ} {K:Tb} {fn:Func} {k:ua} {E:EL} {h:Hp}
theorem U6 {id:Nat} {A:List Oper} (hd:zC fn.ntmps A=true) (x:W P K fn k A false (qH h) (sN A.length) E h):C P K fn k (.region id A.toArray false) E h :=
 fun env he=>.region hd (by simp) (x (JE h) env [] he fun q=>by cases q)
theorem uT {id:Nat} {A:List Oper} {G:jL} (L:List Nat) (hd:zC fn.ntmps A=true) (hf:P.follows .mixedOrders=true) (hL:Gx P A L=true) (hG:Agree G h) (x:W P K fn k A true G L E h):C P K fn k (.region id A.toArray true) E h :=
 fun env he=>.region hd (by simp only [if_true];exact ⟨hf,hL⟩) (x hG env [] he fun _ q hq=>by cases hq)
theorem qU {x y:Code} (q:C P K fn (.code y k) x E h):C P K fn k (.seq x y) E h:=fun env he=>.Zi (q env he)
theorem Bo (q:N P K fn k E h):C P K fn k .skip E h:=fun env he=>.skip (q env he)
theorem xP {id:Nat} {c:Code} (q:C P K fn (.block id k) c E h):C P K fn k (.block id c) E h:=fun env he=>.abC (q env he)
theorem uS {x:oY} {c d:Code} {t:Bool} (hx:oS E x=some (.b t)) (ht:t=true→C P K fn k c E h) (hf:t=false→C P K fn k d E h):C P K fn k (.cond x c d) E h :=
 fun env he=>.acL (he.pO _ _ hx) (fun e=>ht e env he) (fun e=>hf e env he)
theorem Qf {x:oY} {c d:Code} (hx:oS E x=some (.b true)) (ht:C P K fn k c E h):C P K fn k (.cond x c d) E h:=fun env he=>.Wy (he.pO _ _ hx) (ht env he)
theorem aan {x:oY} {c d:Code} (hx:oS E x=some (.b false)) (hf:C P K fn k d E h):C P K fn k (.cond x c d) E h:=fun env he=>.Wx (he.pO _ _ hx) (hf env he)
theorem qN {A:List Oper} {dr:Bool} {G:jL} (q:N P K fn k E h):W P K fn k A dr G [] E h:=fun _ env pd he _=>.L7 (q env he)
theorem tR {y:Code} (q:C P K fn k y E h):N P K fn (.code y k) E h:=fun env he=>q env he
theorem Vh {id:Nat} (q:N P K fn k E h):N P K fn (.block id k) E h:=fun env he=>q env he
theorem Vi {J:Env→Hp→Prop} (q:∀ env,Has E env→J env h):N P K fn (.loop J k) E h:=fun env he=>q env he
theorem ala {id:Nat} {k k':ua} (e:k.Ig id=some k') {env:Env} {h:Hp} (hn:k'.post P K fn (.code .td env h)):k.post P K fn (.code (.ext id) env h):=by
 induction k with
 | done R=>simp [ua.Ig] at e
 | code y k ih=>exact ih e
 | loop J k ih=>exact ih e
 | block i k ih =>
  simp only [ua.Ig] at e;show k.post P K fn (.code (if id=i then .td else .ext id) env h);cases hb:xN id i with
  | true =>
   rw [hb] at e;have:k=k':=by simpa using e
   subst this;rw [if_pos (BX hb)];exact hn
  | false=>rw [hb] at e;rw [if_neg (Kj hb)];exact ih e
theorem pw {id:Nat} (k':ua) (e:k.Ig id=some k') (hn:N P K fn k' E h):C P K fn k (.exit id) E h:=fun env he=>.exit (ala e (hn env he))
theorem adk (k:ua) {env:Env} {h:Hp} {vs:List jD} (hr:Ba P env h fn.results.toList=some vs) (hR:k.final (Du vs) h):k.post P K fn (.code .ret env h):=by
 induction k with
 | done R=>exact ⟨vs,hr,_,_,rfl,hR⟩
 | code y k ih=>exact ih hR
 | loop J k ih=>exact ih hR
 | block i k ih=>exact ih hR
def outs (P:oZ) (E:EL) (h:Hp):List GW→Option (List jD)
 | []=>some []
 | .tmp t::r=>(look E t).bind fun v=>(outs P E h r).map (v :: ·)
 | .cell a t::r=>(look E a).bind fun p=>(yL P h t p).bind fun v=>(outs P E h r).map (v :: ·)
theorem OM {env:Env} (he:Has E env):∀ rs,Le (outs P E h rs) (Ba P env h rs)
 | []=>Le.refl _
 | .tmp t::r=>Le.bind (he t) fun _=>(OM he r).map
 | .cell a t::r=>Le.bind (he a) fun _=>Le.bind (Le.refl _) fun _=>(OM he r).map
theorem U7 {vs:List jD} {v:jD} (hv:outs P E h fn.results.toList=some vs) (ho:Du vs=v) (hR:k.final v h):C P K fn k .ret E h:=fun env he=>.ret (adk k (OM he _ _ hv) (ho ▸ hR))
theorem IH {R:jD→Hp→Prop} {vs:List jD} {v:jD} (hv:outs P E h fn.results.toList=some vs) (ho:Du vs=v) (hR:R v h):N P K fn (.done R) E h:=fun env he=>⟨vs,OM he _ _ hv,_,_,rfl,ho ▸ hR⟩
def M6 {S A:Type} (Inv:S→EL→Hp→Prop) (rec:S→Option A) (a:A):Env→Hp→Prop:=fun env h=>∃ s E,Inv s E h∧Has E env∧rec s=some a
def M8 (J:EL→Hp→Prop):Env→Hp→Prop:=fun env h=>∃ l,J l h∧Has l env
theorem aji {J:Env→Hp→Prop} {k:ua} {y:Code} (hy:∀ env h,J env h→XW P K (.code fn.ntmps y env h) (k.post P K fn)) (o:Out) (q:(ua.loop J k).post P K fn o):Qs P K fn.ntmps y (k.post P K fn) o:=by
 cases o with
 | code e env h=>cases e with
  | td=>exact hy env h q
  | ext i=>exact q
  | ret=>exact q
 | call v h=>exact q
theorem pe (J:EL→Hp→Prop) {x y:Code} (hx:C P K fn (.loop (M8 J) k) x E h) (hy:∀ l' h',J l' h' → C P K fn k y l' h'):C P K fn k (.seq x y) E h :=
 fun env he=>.Zi ((hx env he).mono (aji fun env h ⟨l,hJ,hl⟩=>hy l h hJ env hl))
theorem yd (J:EL→Hp→Prop) {c:Code} (hx:C P K fn (.loop (M8 J) k) c E h) (hn:∀ l' h',J l' h' → N P K fn k l' h'):C P K fn k c E h :=
 fun env he=>(hx env he).mono fun o q=>by
  cases o with
  | code e env h=>cases e with
   | td=>obtain ⟨l,hJ,hl⟩:=q;exact hn l h hJ env hl
   | ext i=>exact q
   | ret=>exact q
  | call v h=>exact q
theorem sj {J:EL→Hp→Prop} (l':EL) (hJ:J l' h) (hs:Sub l' E):N P K fn (.loop (M8 J) k) E h:=Vi fun _ he=>⟨l',hJ,he.sub hs⟩
def Hb:Nat→List jD→EL
 | _,[]=>[]
 | i,v::vs=>(i,v)::Hb (i+1) vs
theorem Xk:∀ (vs:List jD) (i:Nat) (E:EL) (env:Env),Has E env→(∀ t,i≤t→look E t=none)→Has (Hb i vs++E) (Ha i vs env)
 | [],i,E,env,he,_=>he
 | v::vs,i,E,env,he,hn=>by
  have h1:Has ((i,v)::E) (env.set i v):=he.put i v;have h2:=Xk vs (i+1) ((i,v)::E) (env.set i v) h1 fun t ht=>by
   simp only [look];rw [show xN i t=false from (by cases hb:xN i t with | false=>rfl | true=>have:=BX hb;omega)];exact hn t (by omega)
  intro t u hu;refine h2 t u ?_;have key:∀ (us:List jD) (j:Nat) (E:EL),i < j→look ((i,v)::(Hb j us++E)) t=look (Hb j us++(i,v)::E) t:=by
   intro us
   induction us with
   | nil=>intro j E hj;rfl
   | cons w ws ih =>
    intro j E hj;simp only [Hb,List.cons_append,look];cases hb:xN i t with
    | true =>
     have e:i=t:=BX hb;have:xN j t=false:=by cases hc:xN j t with | false=>rfl | true=>have:=BX hc;omega
     rw [this];simp only;rw [← ih (j+1) E (by omega)];simp [look,hb]
    | false =>
     cases hc:xN j t with
     | true=>rfl
     | false =>
      simp only;rw [← ih (j+1) E (by omega)];simp [look,hb]
  have Dq:look ((i,v)::(Hb (i+1) vs++E)) t=some u:=hu;rw [key vs (i+1) E (by omega)] at Dq;exact Dq
theorem IL {f:tO} {c:Code} {args:List jD} {R:jD→Hp→Prop} (hf:P.funcs[f]? = some fn) (hb:fn.body=some c) (hm:fn.name ≠ "runtime.NumGoroutine") (hn:BW args.length fn.ntmps=true) (q:C P K fn (.done R) c (Hb 0 args) h):pa P K f args h R:=by
 refine XW.abV hf hb hm (qY hn) (q _ ?_);have:=Xk args 0 [] .lf (Has.nil _) (fun _ _=>rfl);simpa using this
def Qr (P:oZ) (G:jL) (E:EL) (op:Op) (v:jD):Prop:=∀ h,Agree G h→pW P E h op=some (v,h)
section
variable {A:List Oper} {dr:Bool} {G:jL} {L:List Nat} {i d:Nat}
theorem EG.tail {pd:List yf} (hp:EG P A dr G (i::L) pd):EG P A dr G L pd:=fun sd q hq=>⟨(hp sd q hq).1,(hp sd q hq).2.imp (fun r j hj=>r j (ti _ hj)) id⟩
theorem EG.le {pd:List yf} {G':jL} (hp:EG P A dr G L pd) (l:dr=true→G.le G'):EG P A dr G' L pd:=fun sd q hq=>⟨(hp sd q hq).1,(hp sd q hq).2.imp id fun r h ha=>r h (ha.le (l sd))⟩
theorem EG.stays {pd:List yf} {h':Hp} (hp:EG P A dr G (i::L) pd) (he:qT P (oE A i).op = .sQ) (ha:dr=true→Agree G h'):KB P A dr i pd h':=fun sd q hq hb=>by
 rcases (hp sd q hq).2 with r | r
 ·have:=r i (by simp) he;rw [this] at hb;cases hb
 ·exact r h' (ha sd)
theorem Vs {v:jD} (hi:rM i A.length=true) (hw:sr A E (oE A i)=some true) (hd:(oE A i).dst=some d) (hk:decide (qT P (oE A i).op = .sQ)=false) (ho:Qr P G E (oE A i).op v) (x:W P K fn k A dr G L ((d,v)::E) h):W P K fn k A dr G (i::L) E h:=by
 intro ha env pd he hp;have py:∀ h,Agree G h→pJ P env h (oE A i).op=some (v,h):=fun h q=>he.pJ _ _ _ (ho h q);refine .Fa (by simpa using hi) (he.want _ _ _ hw) (py h ha) (fun e=>absurd e (by simpa using hk)) ?_;rw [hd];refine x ha _ _ (he.put d v) fun sd q hq=>?_;unfold zU at hq
 split at hq
 ·rename_i HC;rcases sg.1 hq with rfl | hq
  ·exact ⟨HC,.inr py⟩
  ·exact hp.tail sd q hq
 ·exact hp.tail sd q hq
def ahead (P:oZ) (A:List Oper) (i:Nat) (L:List Nat):Bool:=L.all fun j=>!decide (qT P (oE A j).op = .sQ)||((wC A []).getD j 0).testBit i
theorem W_n {v:jD} (hb:ahead P A i L=true) (hi:rM i A.length=true) (hw:sr A E (oE A i)=some true) (hd:(oE A i).dst=some d) (hk:decide (qT P (oE A i).op = .sQ)=false) (ho:Qr P (qH h) E (oE A i).op v) (x:W P K fn k A dr G L ((d,v)::E) h):W P K fn k A dr G (i::L) E h:=by
 intro ha env pd he hp;refine .Fa (by simpa using hi) (he.want _ _ _ hw) (he.pJ _ _ _ (ho h (JE h))) (fun e=>absurd e (by simpa using hk)) ?_;rw [hd];refine x ha _ _ (he.put d v) fun sd q hq=>?_;unfold zU at hq
 split at hq
 ·rename_i HC;rcases sg.1 hq with rfl | hq
  ·refine ⟨HC,.inl fun j hj hk=>?_⟩;have:=qB.1 hb j hj;simpa [hk] using this
  ·exact hp.tail sd q hq
 ·exact hp.tail sd q hq
theorem IP (hi:rM i A.length=true) (hw:sr A E (oE A i)=some false) (hd:(oE A i).dst=some d) (x:W P K fn k A dr G L ((d,.no)::E) h):W P K fn k A dr G (i::L) E h:=by
 intro ha env pd he hp;refine .L8 (by simpa using hi) (he.want _ _ _ hw) ?_;rw [hd];exact x ha _ _ (he.put d _) hp.tail
def pQ (P:oZ) (K:Tb) (fn:Func) (k:ua) (A:List Oper) (dr:Bool) (G:jL) (L:List Nat) (E:EL) (h:Hp):Prop:=∃ G',(dr=true→G.le G')∧Agree G' h∧W P K fn k A dr G' L E h
theorem pQ.now (x:W P K fn k A false (qH h) L E h):pQ P K fn k A false G L E h:=⟨_,fun e=>(by cases e),JE h,x⟩
theorem pQ.tT {G':jL} (l:G.le G') (ha:Agree G' h) (x:W P K fn k A dr G' L E h):pQ P K fn k A dr G L E h:=⟨G',fun _=>l,ha,x⟩
theorem Vu {G':jL} (l:G.le G') (ha:Agree G' h) (x:W P K fn k A dr G' L E h):W P K fn k A dr G L E h:=fun _ env pd he hp=>x ha env pd he (hp.le fun _=>l)
def settled (P:oZ) (A:List Oper) (L:List Nat):Bool:=(sN A.length).all fun i=>!decide (qT P (oE A i).op = .read)||ahead P A i L
theorem FK {G':jL} (hs:settled P A L=true) (ha:Agree G' h) (x:W P K fn k A dr G' L E h):W P K fn k A dr G L E h:=fun _ env pd he hp=>x ha env pd he fun sd q hq=>by
 obtain ⟨hk,_⟩:=hp sd q hq;refine ⟨hk,.inl fun j hj Lp=>?_⟩;have hl:q.idx < A.length:=by
  apply Classical.byContradiction;intro hn;have:oE A q.idx=⟨none,.panic (.func 0),0,"",#[],none⟩:=by
   unfold oE;rw [List.getD_eq_getElem?_getD,zr (by omega)];rfl
  rw [this] at hk;cases hk
 have h1:=qB.1 hs q.idx (List.mem_range.2 hl);simp only [hk,decide_true,Bool.not_true,uB] at h1;have h2:=qB.1 h1 j hj;simpa [Lp] using h2
def Ef (P:oZ) (E:EL) (h:Hp) (op:Op) (Q:jD→Hp→Prop):Prop:=decide (qT P op = .read)=false ∧ ∃ v h',pW P E h op=some (v,h')∧Q v h'
theorem Vv {Q:jD→Hp→Prop} (hi:rM i A.length=true) (hw:sr A E (oE A i)=some true) (hd:(oE A i).dst=some d) (ho:Ef P E h (oE A i).op Q) (x:∀ v h',Q v h' → pQ P K fn k A dr G L ((d,v)::E) h'):W P K fn k A dr G (i::L) E h:=by
 obtain ⟨hk,v,h',ho,hq⟩:=ho;obtain ⟨G',l,F6,x⟩:=x v h' hq;intro ha env pd he hp;refine .Fa (by simpa using hi) (he.want _ _ _ hw) (he.pJ _ _ _ ho) (fun Lp=>hp.stays Lp fun sd=>F6.le (l sd)) ?_;rw [hd];refine x F6 _ _ (he.put d v) ?_;unfold zU;rw [if_neg (by simpa using hk)];exact hp.tail.le l
theorem Vw {Q:jD→Hp→Prop} (hi:rM i A.length=true) (hw:sr A E (oE A i)=some true) (hd:(oE A i).dst=none) (ho:Ef P E h (oE A i).op Q) (x:∀ v h',Q v h' → pQ P K fn k A dr G L E h'):W P K fn k A dr G (i::L) E h:=by
 obtain ⟨hk,v,h',ho,hq⟩:=ho;obtain ⟨G',l,F6,x⟩:=x v h' hq;intro ha env pd he hp;refine .Fa (by simpa using hi) (he.want _ _ _ hw) (he.pJ _ _ _ ho) (fun Lp=>hp.stays Lp fun sd=>F6.le (l sd)) ?_;rw [hd];refine x F6 _ _ he ?_;unfold zU;rw [if_neg (by simpa using hk)];exact hp.tail.le l
theorem Bp {f:tO} {args:List jD} {R:jD→Hp→Prop} (hi:rM i A.length=true) (hw:sr A E (oE A i)=some true) (hd:(oE A i).dst=some d) (ht:Eo E (oE A i).op=some (f,args)) (hc:pa P K f args h R)
  (x:∀ v h',R v h' → pQ P K fn k A dr G L ((d,v)::E) h'):W P K fn k A dr G (i::L) E h:=by
 intro ha env pd he hp;refine .JF (by simpa using hi) (he.want _ _ _ hw) (he.zp _ _ ht) hc (fun v h' m=>?_) (fun v h' m=>?_)
 ·obtain ⟨v,h',e,m⟩:=m;obtain ⟨rfl,rfl⟩:=Out.call.inj e;obtain ⟨G',g1,g2,_⟩:=x _ _ m;exact hp.stays (TT (he.zp _ _ ht)) fun sd=>g2.le (g1 sd)
 ·obtain ⟨v,h',e,m⟩:=m;obtain ⟨rfl,rfl⟩:=Out.call.inj e;obtain ⟨G',g1,g2,g3⟩:=x _ _ m;rw [hd];exact g3 g2 _ _ (he.put d _) (hp.tail.le g1)
theorem alT {f:tO} {args:List jD} {R:jD→Hp→Prop} (hi:rM i A.length=true) (hw:sr A E (oE A i)=some true) (hd:(oE A i).dst=none) (ht:Eo E (oE A i).op=some (f,args)) (hc:pa P K f args h R)
  (x:∀ v h',R v h' → pQ P K fn k A dr G L E h'):W P K fn k A dr G (i::L) E h:=by
 intro ha env pd he hp;refine .JF (by simpa using hi) (he.want _ _ _ hw) (he.zp _ _ ht) hc (fun v h' m=>?_) (fun v h' m=>?_)
 ·obtain ⟨v,h',e,m⟩:=m;obtain ⟨rfl,rfl⟩:=Out.call.inj e;obtain ⟨G',g1,g2,_⟩:=x _ _ m;exact hp.stays (TT (he.zp _ _ ht)) fun sd=>g2.le (g1 sd)
 ·obtain ⟨v,h',e,m⟩:=m;obtain ⟨rfl,rfl⟩:=Out.call.inj e;obtain ⟨G',g1,g2,g3⟩:=x _ _ m;rw [hd];exact g3 g2 _ _ he (hp.tail.le g1)
theorem aaC {t:Nat} {v v':jD} (hl:look E t=some v) (e:v=v') (x:W P K fn k A dr G L ((t,v')::E) h):W P K fn k A dr G L E h:=by
 intro ha env pd he hp;refine x ha env pd (fun t' u hu=>?_) hp;simp only [look] at hu;cases hb:xN t t' with
 | true =>
  rw [hb] at hu;have e':t=t':=BX hb;subst e';have:v' = u:=by simpa using hu
  subst this;subst e;exact he t _ hl
 | false=>rw [hb] at hu;exact he t' u hu
end
end rules
end Go.V
end
section
namespace Go.Wk
def bd {α β:Type} (o:Option α) (f:α→Option β):Option β:=match o with | some x=>f x | none=>none
theorem oL {α β:Type} {o:Option α} {f:α→Option β} {r:β} (h:bd o f=some r):∃ x,o=some x∧f x=some r:=by
 cases o with
 | none=>cases h
 | some x=>exact ⟨x,rfl,h⟩
def ix {α:Type} (l:List α) (i:Int):Option α:=match i with | .ofNat n=>l[n]? | .negSucc _=>none
theorem oM {α:Type} {l:List α} {i:Int} {x:α} (h:ix l i=some x):0≤i∧l[i.toNat]? = some x:=by
 cases i with
 | ofNat n=>exact ⟨UD n,h⟩
 | negSucc n=>cases h
def cut {α:Type} (l:List α) (a b:Int):Option (List α):=if 0≤a∧a≤b∧b≤(l.length:Int) then some ((l.take b.toNat).drop a.toNat) else none
theorem NK {α:Type} {l r:List α} {a b:Int} (h:cut l a b=some r):0≤a∧a≤b∧b≤(l.length:Int)∧r=(l.take b.toNat).drop a.toNat:=by
 unfold cut at h
 split at h
 ·rename_i hc;exact ⟨hc.1,hc.2.1,hc.2.2,(oQ h).symm⟩
 ·cases h
def app {α:Type} (xs ys:List α):Option (List α):=if xs.length+ys.length≤1073741824 then some (xs++ys) else none
theorem FO {α:Type} {xs ys r:List α} (h:app xs ys=some r):xs.length+ys.length≤1073741824∧r=xs++ys:=by
 unfold app at h
 split at h
 ·rename_i hc;exact ⟨hc,(oQ h).symm⟩
 ·cases h
def rep {α:Type} (n:Int) (x:α):Option (List α):=if 0≤n∧n≤1073741824 then some (ph n.toNat x) else none
theorem aip {α:Type} {n:Int} {x:α} {r:List α} (h:rep n x=some r):0≤n∧n≤1073741824∧r=ph n.toNat x:=by
 unfold rep at h
 split at h
 ·rename_i hc;exact ⟨hc.1,hc.2,(oQ h).symm⟩
 ·cases h
abbrev wr (x:Int):Int:=Eu.wrap x
abbrev wu (x:Int):Int:=Is.wrap x
def only {α:Type} (b:Bool) (o:Option α) (z:α):Option α:=if b=true then o else some z
theorem qA {α:Type} {b:Bool} {o:Option α} {z:α} (h:b=true):only b o z=o:=if_pos h
def iter {S A:Type} (F:(S→Option A)→S→Option A):Nat→S→Option A
 | 0,_=>none
 | n+1,s=>F (iter F n) s
def loop {S A:Type} (F:(S→Option A)→S→Option A) (s:S):Option A:=iter F 18446744073709551616 s
theorem oW {α:Type} {b:Bool} {x y:α} (h:b=true):(if b=true then x else y)=x:=if_pos h
theorem oX {α:Type} {b:Bool} {x y:α} (h:b=false):(if b=true then x else y)=y:=if_neg (by rw [h];decide)
end Go.Wk
namespace Go.V
open Go.Wk
section
variable {P:oZ} {K:Tb} {fn:Func} {k:ua} {E:EL} {h:Hp}
theorem qC {S A:Type} {a:A} {c:Code} {n:Nat} {Fn:(S→Option A)→S→Option A} {s0:S} (Inv:S→EL→Hp→Prop) (H:iter Fn n s0=some a) (h0:∃ E',Inv s0 E' h∧Sub E' E)
  (round:∀ (rec:S→Option A) s E h',Inv s E h' → Fn rec s=some a→C P K fn (.loop (M6 Inv rec a) k) c E h'):C P K fn k (.loop c) E h:=by
 obtain ⟨E0,hI0,Jn⟩:=h0;intro env he;refine XW.ag1 (fun m env h=>∃ s E,Inv s E h∧Has E env∧iter Fn m s=some a) ?_ n env h ⟨s0,E0,hI0,he.sub Jn,H⟩;rintro m rF h' ⟨s,E',hI,hs,hm⟩;cases m with
 | zero=>cases hm
 | succ m =>
  refine (round (iter Fn m) s E' h' hI hm rF hs).mono fun o q=>?_;cases o with
  | code e env2 h2=>cases e with
   | td=>obtain ⟨s',E2,K6,E4,hr⟩:=q;exact ⟨m,BY m,s',E2,K6,E4,hr⟩
   | ext i=>exact q
   | ret=>exact q
  | call v h=>exact q
theorem aav {S A:Type} {Inv:S→EL→Hp→Prop} {rec:S→Option A} {a:A} (s:S) (E':EL) (H:rec s=some a) (hI:Inv s E' h) (hE:Sub E' E):N P K fn (.loop (M6 Inv rec a) k) E h :=
 Vi fun _ ha=>⟨s,E',hI,ha.sub hE,H⟩
end
def Wf (h:Hp):Prop:=∀ b,h.next≤b→h.get b=none
structure Gd (F:jL) (h:Hp):Prop where
 wf:Wf h
 agree:Agree F h
theorem Gd.now {h:Hp} (w:Wf h):Gd (qH h) h:=⟨w,JE h⟩
def jD.own:jD→List Nat
 | .sl (some a) _ _=>[a.1]
 | _=>[]
def Ob.row {α:Type} (t:Tr α) (v:jD) (xs:List α):Ob:=⟨To.row (To.rQ t),v.own,[v],xs⟩
def akL:To (List jD) where
 size:=1
 rel F h bs cs x:=∃ g,bs=[g]∧cs=[.p (some (g,0))]∧h.get g=some (.cells x.length x)∧g < h.next∧x.all jD.one=true
 len:=fun ⟨g,_,q,_⟩=>by rw [q];rfl
 one:=fun ⟨g,_,q,_⟩=>by rw [q];rfl
 lt:=fun ⟨g,q,_,_,h3,_⟩ b hb=>by rw [q] at hb;simp at hb;subst hb;exact h3
 nodup:=fun ⟨g,q,_⟩=>by rw [q];simp
 mono:=fun _ q=>q
 frame:=fun ⟨g,h1,h2,h3,h4,h5⟩ hn hk=>⟨g,h1,h2,(hk g (by rw [h1];simp)).trans h3,xO h4 hn,h5⟩
def Ob.box (g:Nat) (cs:List jD):Ob:=⟨akL,[g],[.p (some (g,0))],cs⟩
theorem JR {α:Type} {t:Tr α} {F:jL} {h:Hp} {bs:List Nat} {v:jD} {xs:List α} (r:(To.row (To.rQ t)).rel F h bs [v] xs):bs=v.own:=by
 obtain ⟨v0,rj,r⟩:=r;obtain rfl:=wS rj;rcases r with ⟨rfl,_,rfl⟩ | ⟨b,c,k,css,bss,r⟩
 ·rfl
 ·rw [r.form,r.yF];have:bss.flatten=[]:=by
   rw [List.flatten_eq_nil_iff];intro e he;obtain ⟨i,hi,rfl⟩:=vX he;have h1:i < css.length:=by rw [r.rm,← r.tn];exact hi
   exact (r.rel i _ _ _ (pF h1) (pF (by rw [← r.tn];exact hi)) (pF hi)).1
  rw [this];rfl
theorem Ob.Gu {α:Type} {t:Tr α} {F:jL} {h:Hp} {bs:List Nat} {v:jD} {xs:List α} (r:(To.row (To.rQ t)).rel F h bs [v] xs):(Ob.row t v xs).ok F h:=by
 have:=JR r;subst this;exact r
section
variable {X:List Nat} {h0 h h':Hp} {F0 F F':jL} {L Lr:List Ob}
theorem St.oR (s:St X h0 F0 F L h):Gd F h:=⟨s.wf,s.agree⟩
theorem St.start (g:Gd F h):St [] h F F [] h:=St.entry g.wf g.agree
theorem ahS (L:List Ob):∀ (is:List Nat),is.Nodup → ∃ f:Nat→Nat,(∀ j o,(is.filterMap fun i=>L[i]?)[j]? = some o→f j∈is∧L[f j]? = some o) ∧ ∀ j j' o o',(is.filterMap fun i=>L[i]?)[j]? = some o→(is.filterMap fun i=>L[i]?)[j']? = some o' → f j=f j' → j=j':=by
 intro is
 induction is with
 | nil=>intro _;exact ⟨id,fun j o h=>by simp at h,fun j j' o o' h=>by simp at h⟩
 | cons a r ih =>
  intro qZ;obtain ⟨Of,hnr⟩:=xL.1 qZ;obtain ⟨f,h1,h2⟩:=ih hnr;cases ha:L[a]? with
  | none=>simp only [UI,ha];exact ⟨f,fun j o hj=>⟨ti _ (h1 j o hj).1,(h1 j o hj).2⟩,h2⟩
  | some x =>
   simp only [UI,ha];refine ⟨fun j=>match j with | 0=>a | j+1=>f j,fun j o hj=>?_,fun j j' o o' hj u6 e=>?_⟩
   ·cases j with
    | zero=>simp at hj;subst hj;exact ⟨by simp,ha⟩
    | succ j=>have:=h1 j o (by simpa using hj);exact ⟨ti _ this.1,this.2⟩
   ·cases j with
    | zero=>cases j' with
     | zero=>rfl
     | succ j'=>have:=(h1 j' o' (by simpa using u6)).1;simp only at e;rw [← e] at this;exact absurd this Of
    | succ j=>cases j' with
     | zero=>have:=(h1 j o (by simpa using hj)).1;simp only at e;rw [e] at this;exact absurd this Of
     | succ j'=>simp only at e;rw [h2 j j' o o' (by simpa using hj) (by simpa using u6) e]
theorem St.pick (s:St X h0 F0 F L h) (is:List Nat) (qZ:is.Nodup):St X h0 F0 F (is.filterMap fun i=>L[i]?) h:=by
 obtain ⟨f,f1,f2⟩:=ahS L is qZ;exact ⟨s.next,s.wf,s.zd,s.agree,s.ext,s.new,fun i o hi=>s.own (f i) o (f1 i o hi).2,fun i j o o' g hi hj ho vR=>f2 i j o o' hi hj (s.apart _ _ o o' g (f1 i o hi).2 (f1 j o' hj).2 ho vR)⟩
theorem St.sY {α:Type} (s:St X h0 F0 F L h) (t:Tr α):St X h0 F0 F (.row t (.sl none 0 (.k 0)) []::L) h :=
 s.fresh ⟨px _,s.wf,fun _ _=>rfl⟩ ⟨_,rfl,.inl ⟨rfl,rfl,rfl⟩⟩ (fun b hb=>by cases hb)
theorem St.Vx {w:Hp} (s:St [] h F0 F L w):M5 h w:=⟨s.next,s.wf,fun b hb=>s.zd b hb (by simp)⟩
theorem St.vw {G G':jL} (s:St X h0 F0 F L h) (k:St [] h G G' Lr h'):St X h0 F0 F L h':=by
 have e:St [] h F F [] h':=⟨k.next,k.wf,fun b hb _=>k.zd b hb (by simp),k.Vx.agree s.wf s.agree,jL.le.refl _,fun _ _ _ q=>.inl q,fun i o hi=>by simp at hi,fun i j o o' g hi=>by simp at hi⟩
 simpa using s.call e
theorem St.Yk (s:St X h0 F0 F L h) (is:List Nat) (qZ:is.Nodup) (Y:List Nat) (hY:∀ (i:Nat) (o:Ob) (g:Nat),i∈is→L[i]? = some o→g∈o.bs→g∈Y):St Y h F F (is.filterMap fun i=>L[i]?) h:=by
 have hp:=s.pick is qZ;refine ⟨px _,s.wf,fun _ _ _=>rfl,s.agree,jL.le.refl _,fun _ _ _ e=>.inl e,fun i o hi=>?_,hp.apart⟩;obtain ⟨h1,h2⟩:=hp.own i o hi;refine ⟨h1,fun g hg=>⟨(h2 g hg).1,.inr ?_⟩⟩;have hm:o∈is.filterMap fun i=>L[i]?:=vC hi;obtain ⟨i',sK,hL⟩:=G0.1 hm;exact hY i' o g sK hL hg
theorem St.VZ (s:St X h0 F0 F L h) (is rs:List Nat) (Y:List Nat) (qZ:rs.Nodup) (hY:∀ g,g∈Y → ∃ i o,i∈is∧L[i]? = some o∧g∈o.bs) (hrs:∀ i,i∈rs→i ∉ is) (k:St Y h F F' Lr h'):St X h0 F0 F' (Lr++rs.filterMap fun i=>L[i]?) h':=by
 have hp:=s.pick rs qZ;have Rz:∀ g,g∈Y→(∀ k,F g k=none)∧(h0.next≤g∨g∈X)∧g < h.next:=fun g hg=>by
  obtain ⟨i,o,_,hL,ho⟩:=hY g hg;exact ⟨((s.own i o hL).2 g ho).1,((s.own i o hL).2 g ho).2,o.t.lt (s.ok hL) g ho⟩
 have Hz:∀ b,b < h.next→b ∉ Y→h'.get b=h.get b:=fun b hb hx=>k.zd b hb hx;have hP:∀ (i:Nat) (o:Ob),(rs.filterMap fun i=>L[i]?)[i]? = some o → ∀ g,g∈o.bs→g ∉ Y:=fun i o hi g hg hgY=>by
  have hm:o∈rs.filterMap fun i=>L[i]?:=vC hi;obtain ⟨i',sK,hL⟩:=G0.1 hm;obtain ⟨j,o2,hj,Rw,HI⟩:=hY g hgY;have:=s.apart i' j o o2 g hL Rw hg HI;exact hrs i' sK (this ▸ hj)
 have hL:∀ (i:Nat) (o:Ob),(rs.filterMap fun i=>L[i]?)[i]? = some o→o.ok F' h' ∧ ∀ g,g∈o.bs→(∀ q,F' g q=none)∧(h0.next≤g∨g∈X):=by
  intro i o hi;obtain ⟨h1,h2⟩:=hp.own i o hi;refine ⟨o.t.mono k.ext (o.t.frame h1 k.next fun g hg=>Hz g (o.t.lt h1 g hg) (hP i o hi g hg)),fun g hg=>⟨fun q=>?_,(h2 g hg).2⟩⟩;cases hF:F' g q with
  | none=>rfl
  | some u =>
   rcases k.new g q u hF with h3 | h3 | h3
   ·rw [(h2 g hg).1 q] at h3;cases h3
   ·have:=o.t.lt h1 g hg;omega
   ·exact absurd h3 (hP i o hi g hg)
 have hR:∀ (i:Nat) (o:Ob),Lr[i]? = some o → ∀ g,g∈o.bs→h.next≤g∨g∈Y:=fun i o hi g hg=>((k.own i o hi).2 g hg).2;refine ⟨wT s.next k.next,k.wf,fun b hb hx=>?_,k.agree,s.ext.trans k.ext,fun a q u e=>?_,fun i o hi=>?_,fun i j o o' g hi hj ho vR=>?_⟩
 ·rw [Hz b (xO hb s.next) (fun hy=>by
   rcases (Rz b hy).2.1 with h3 | h3
   ·omega
   ·exact hx h3)]
  exact s.zd b hb hx
 ·rcases k.new a q u e with h3 | h3 | h3
  ·exact s.new a q u h3
  ·exact .inr (.inl (wT s.next h3))
  ·exact .inr (Rz _ h3).2.1
 ·by_cases hl:i < Lr.length
  ·rw [s6 hl] at hi;obtain ⟨h1,h2⟩:=k.own i o hi;refine ⟨h1,fun g hg=>⟨(h2 g hg).1,?_⟩⟩;rcases hR i o hi g hg with h3 | h3
   ·exact .inl (wT s.next h3)
   ·exact (Rz g h3).2.1
  ·rw [s7 (by omega)] at hi;exact hL _ o hi
 ·have KR:∀ (i j:Nat) (o o':Ob),Lr[i]? = some o→(rs.filterMap fun i=>L[i]?)[j]? = some o' → g∈o.bs→g∈o'.bs→False:=by
   intro i j o o' hi hj ho vR;rcases hR i o hi g ho with h3 | h3
   ·have:=o'.t.lt (hp.ok hj) g vR;omega
   ·exact hP j o' hj g vR h3
  by_cases hl:i < Lr.length <;> by_cases hm:j < Lr.length
  ·rw [s6 hl] at hi;rw [s6 hm] at hj;exact k.apart i j o o' g hi hj ho vR
  ·rw [s6 hl] at hi;rw [s7 (by omega)] at hj;exact (KR i _ o o' hi hj ho vR).elim
  ·rw [s7 (by omega)] at hi;rw [s6 hm] at hj;exact (KR j _ o' o hj hi vR ho).elim
  ·rw [s7 (by omega)] at hi hj;have:=hp.apart _ _ o o' g hi hj ho vR;omega
theorem St.u9 (s:St X h0 F0 F L h) (is:List Nat) (qZ:is.Nodup):St ((is.filterMap fun i=>L[i]?).flatMap Ob.bs) h F F (is.filterMap fun i=>L[i]?) h :=
 s.Yk is qZ _ fun i o g hi hL hg=>G1.2 ⟨o,G0.2 ⟨i,hi,hL⟩,hg⟩
theorem St.uV (s:St X h0 F0 F L h) (is rs:List Nat) (qZ:rs.Nodup) (hd:∀ i,i∈rs→i ∉ is) (k:St ((is.filterMap fun i=>L[i]?).flatMap Ob.bs) h F F' Lr h'):St X h0 F0 F' (Lr++rs.filterMap fun i=>L[i]?) h' :=
 s.VZ is rs _ qZ (fun g hg=>by
  obtain ⟨o,ho,Gf⟩:=G1.1 hg;obtain ⟨i,hi,hL⟩:=G0.1 ho;exact ⟨i,o,hi,hL,Gf⟩) hd k
theorem St.Gq {α:Type} {t:Tr α} {v:jD} {xs:List α} (k:Nat) (s:St X h0 F0 F L h) (hk:L[k]? = some (.row t v xs)):St v.own h F F [.row t v xs] h:=by
 have:=s.Yk [k] (by simp) v.own fun i o g hi hL hg=>by
  simp at hi;subst hi;rw [hk] at hL;obtain rfl:=oQ hL;exact hg
 simpa [hk] using this
theorem St.FP {α:Type} {t:Tr α} {v:jD} {xs:List α} (k:Nat) (rs:List Nat) (s:St X h0 F0 F L h) (hk:L[k]? = some (.row t v xs)) (qZ:rs.Nodup) (HC:k ∉ rs) (hT:St v.own h F F' Lr h'):St X h0 F0 F' (Lr++rs.filterMap fun i=>L[i]?) h' :=
 s.VZ [k] rs _ qZ (fun g hg=>⟨k,_,by simp,hk,hg⟩) (fun i hi q=>HC (by simp at q;exact q ▸ hi)) hT
theorem St.rv {α:Type} {t:Tr α} {v:jD} {xs:List α} (k:Nat) (is:List Nat) (s:St X h0 F0 F L h) (hk:L[k]? = some (.row t v xs)) (qZ:is.Nodup) (Ct:k ∉ is) :
  ∃ F',F.le F' ∧ oF t F' v xs∧St X h0 F0 F' (is.filterMap fun i=>L[i]?) h:=by
 have hp:=s.pick (k::is) (xL.2 ⟨Ct,qZ⟩);have e:((k::is).filterMap fun i=>L[i]?)=Ob.row t v xs::is.filterMap fun i=>L[i]?:=by simp [hk]
 rw [e] at hp;have hf:=hp.freeze (i:=0) rfl;have hle:=jL.OQ (h:=h) (hp.SV (i:=0) rfl);exact ⟨_,hle,Mo (s.ok hk) hle (fun b hb o u q=>by unfold jL.plus;rw [if_pos hb];exact q),by simpa using hf⟩
theorem Tu {α:Type} {t:Tr α} {v:jD} {xs:List α} (r:(Ob.row t v xs).ok F h) (ag:Agree F h):oF t (qH h) v xs:=Mo r ag (fun b hb o u q=>q)
theorem St.uK {α:Type} {t:Tr α} {v:jD} {xs:List α} {k:Nat} (s:St X h0 F0 F L h) (hk:L[k]? = some (.row t v xs)):oF t (qH h) v xs:=Tu (s.ok hk) s.agree
end
end Go.V
end
section
namespace Go.V
open Go.Wk
def Rd (P:oZ) (G:jL) (E:EL) (op:Op) (v:jD):Prop:=decide (qT P op = .sQ)=false∧Qr P G E op v
def Ln (v:jD) (n:Nat):Prop:=(v = .es∧n=0) ∨ ∃ a c,v = .sl a n c∧(a=none→n=0)
theorem oF.ln {α:Type} {t:Tr α} {F:jL} {v:jD} {xs:List α} (s:oF t F v xs):Ln v xs.length:=by
 obtain ⟨css,h1,h2⟩:=s;rcases h2 with ⟨rfl,rfl⟩ | ⟨a,c,rfl,_,_,e4,_⟩
 ·exact .inl ⟨rfl,by rw [← h1.1];rfl⟩
 ·rw [← h1.1];exact .inr ⟨a,_,rfl,fun q=>by rw [(e4 q).1];rfl⟩
theorem To.JQ {α:Type} {t:To α} {F:jL} {h:Hp} {bs:List Nat} {v:jD} {xs:List α} (r:(To.row t).rel F h bs [v] xs):Ln v xs.length:=by
 obtain ⟨v0,rj,r⟩:=r;obtain rfl:=wS rj;rcases r with ⟨rfl,rfl,_⟩ | ⟨b,c,k,css,bss,r⟩
 ·exact .inr ⟨none,.k 0,rfl,fun _=>rfl⟩
 ·exact .inr ⟨_,_,r.form,fun q=>by cases q⟩
theorem Ln.one {v:jD} {n:Nat} (l:Ln v n):v.one=true:=by rcases l with ⟨rfl,_⟩ | ⟨a,c,rfl,_⟩ <;> rfl
theorem Ln.cells {v:jD} {n:Nat} (l:Ln v n):v.cells=[v]:=by rcases l with ⟨rfl,_⟩ | ⟨a,c,rfl,_⟩ <;> rfl
theorem St.rB {X:List Nat} {h0 h:Hp} {F0 F:jL} {L:List Ob} {α:Type} {t:Tr α} {v:jD} {xs:List α} {k:Nat} (s:St X h0 F0 F L h) (hk:L[k]? = some (.row t v xs)):Ln v xs.length:=To.JQ (s.ok hk)
def uF (v:jD) (o:Nat):jD:=match v with
 | .sl (some (b,q)) _ _=>.p (some (b,q+o))
 | _=>.p none
abbrev pl (g o:Nat):jD:=.p (some (g,o))
def tj (F:jL) (v:jD) (s i:Nat) (cs:List jD):Prop:=cs.length=s∧0 < s ∧ ∃ b q n c,v = .sl (some (b,q)) n c∧i < n ∧ ∀ j u,cs[j]? = some u→F b (q+i*s+j)=some u
theorem tj.mono {F G:jL} {v:jD} {s i:Nat} {cs:List jD} (e:tj F v s i cs) (l:F.le G):tj G v s i cs:=by
 obtain ⟨h0,h1,b,q,n,c,h2,h3,h4⟩:=e;exact ⟨h0,h1,b,q,n,c,h2,h3,fun j u hj=>l _ _ _ (h4 j u hj)⟩
theorem oF.el {α:Type} {t:Tr α} {F:jL} {v:jD} {xs:List α} (s:oF t F v xs) {i:Nat} {x:α} (hi:xs[i]? = some x):∃ cs,t.rel F cs x∧tj F v t.size i cs:=by
 obtain ⟨cs,b,o,c,e,hr,hq⟩:=s.at_ hi;exact ⟨cs,hr,t.len hr,t.pos,b,o,_,_,e,(qO.1 hi).1,hq⟩
theorem tj.rd {F:jL} {v:jD} {s i:Nat} {cs:List jD} (e:tj F v s i cs) {h:Hp} (a:Agree F h):∃ b q n c,v = .sl (some (b,q)) n c∧i < n∧V.rd h b (q+i*s) s=some cs:=by
 obtain ⟨h0,h1,b,q,n,c,h2,h3,h4⟩:=e;exact ⟨b,q,n,c,h2,h3,H5 h0 h1 fun j u hj=>a _ _ _ (h4 j u hj)⟩
def DM (v:jD) (i:Nat):Prop:=∃ b q n c,v = .sl (some (b,q)) n c∧i < n
theorem tj.rq {F:jL} {v:jD} {s i:Nat} {cs:List jD} (e:tj F v s i cs):DM v i:=by
 obtain ⟨h0,h1,b,q,n,c,h2,h3,h4⟩:=e;exact ⟨b,q,n,c,h2,h3⟩
theorem DM.form {v:jD} {i:Nat} (e:DM v i):∃ b q,∀ o,uF v o = .p (some (b,q+o)):=by
 obtain ⟨b,q,n,c,rfl,_⟩:=e;exact ⟨b,q,fun o=>rfl⟩
def uj (P:oZ) (s:oI) (f:Nat):Option Nat:=(ET P s f).bind fun q=>(sz P q.type).bind fun n=>if 0 < n then some q.offset else none
theorem xd {cs cs' post:List jD} {f:Nat} (h:cs.drop f=cs' ++ post) {q:Nat} {u:jD} (hq:cs'[q]? = some u):cs[f+q]? = some u:=by
 rw [← vi,h,s6 (qO.1 hq).1];exact hq
section
variable {P:oZ} {G:jL} {E:EL}
theorem qD {T e:oI} {x:oY} {v:jD} {n:Nat} (ht:P.underlying T=some (.slice e)) (hx:oS E x=some v) (hn:Ln v n):Rd P G E (.call { callee:=.builtin .len,args:=#[x],argTypes:=#[T] }) (.i .i64 n):=by
 refine ⟨?_,fun h _=>?_⟩
 ·simp [qT,Jy,ht]
 ·rcases hn with ⟨rfl,rfl⟩ | ⟨a,c,rfl,_⟩ <;> simp [pW,yY,hx,wD,D4,ht]
theorem Qp {T:oI} {x:oY} {s:List UInt8} (ht:P.underlying T=some .string) (hx:oS E x=some (.s s)):Rd P G E (.call { callee:=.builtin .len,args:=#[x],argTypes:=#[T] }) (.i .i64 s.length):=by
 refine ⟨?_,fun h _=>?_⟩
 ·simp [qT,Jy,ht]
 ·simp [pW,yY,hx,wD,D4,ht]
theorem Vl {t e:oI} {s i:Nat} {v:jD} {x y:oY} {kk:vW} {n:Int} (ht:P.underlying t=some (.slice e)) (hz:sz P e=some s) (hx:oS E x=some v) (hy:oS E y=some (.i kk n)) (hE:DM v i) (hn:0≤n) (XM:n.toNat=i):Rd P G E (.indexAddr t x y) (uF v (i*s)):=by
 refine ⟨rfl,fun h _=>?_⟩;obtain ⟨b,q,m,c,rfl,hi⟩:=hE;have y8:n=(i:Int):=by omega
 subst y8;simp only [pW,hx,hy,pG,af6 ht hz hi];rfl
theorem uU {s f:Nat} {v:jD} {x:oY} {o i:Nat} (off:Nat) (hf:uj P s f=some off) (hx:oS E x=some (uF v o)) (hE:DM v i):Rd P G E (.fieldAddr s x f) (uF v (o+off)):=by
 refine ⟨rfl,fun h _=>?_⟩;obtain ⟨b,q,hb⟩:=hE.form;rw [hb] at hx ⊢;unfold uj at hf;rw [oV] at hf;obtain ⟨fd,h1,hf⟩:=hf;rw [oV] at hf;obtain ⟨n,h2,hf⟩:=hf
 split at hf
 ·rename_i hp;obtain rfl:=oQ hf;simp [pW,hx,h1,h2,hp,yc]
 ·cases hf
theorem Vk {s f g o:Nat} {x:oY} (off:Nat) (hf:uj P s f=some off) (hx:oS E x=some (pl g o)):Rd P G E (.fieldAddr s x f) (pl g (o+off)):=by
 refine ⟨rfl,fun h _=>?_⟩;unfold uj at hf;rw [oV] at hf;obtain ⟨fd,h1,hf⟩:=hf;rw [oV] at hf;obtain ⟨n,h2,hf⟩:=hf
 split at hf
 ·rename_i hp;obtain rfl:=oQ hf;simp [pW,hx,h1,h2,hp]
 ·cases hf
theorem aia {h:Hp} {b o z f:Nat} {cs:List jD} {u:jD} (hr:rd h b o z=some cs) (hl:cs.length=z) (hu:cs[f]? = some u):rd h b (o+f) 1=some [u]:=by
 have hf:=(qO.1 hu).1;rw [Th hr (by omega)]
 congr 1
 apply CR;intro j;rw [tQ]
 split
 ·rename_i hj;have:j=0:=by omega
  subst this;rw [vi];simpa using hu
 ·rw [zr (by simp;omega)]
theorem su {t:oI} {s i:Nat} {v u:jD} {cs:List jD} {x:oY} {o:Nat} (f:Nat) (ht:rY P t=some false) (hx:oS E x=some (uF v o)) (hE:tj G v s i cs) (ho:o=i*s+f) (hu:cs[f]? = some u):Rd P G E (.load t x) u:=by
 refine ⟨rfl,fun h ha=>?_⟩;have hl:=hE.1;obtain ⟨b,q,n,c,rfl,hi,hr⟩:=hE.rd ha;subst ho;simp only [pW,hx,pG,uF];rw [SC ht (by rw [← yc];exact aia hr hl hu)];rfl
theorem tD {t:oI} {s i:Nat} {v:jD} {cs:List jD} {x:oY} {o:Nat} (f:Nat) (cs':List jD) (ht:rY P t=some true) (hz:sz P t=some cs'.length) (hx:oS E x=some (uF v o)) (hE:tj G v s i cs) (ho:o=i*s+f) (tu:(cs.drop f).take cs'.length=cs') (hf:f+cs'.length≤s):Rd P G E (.load t x) (.agg cs'):=by
 refine ⟨rfl,fun h ha=>?_⟩;obtain ⟨b,q,n,c,rfl,hi,hr⟩:=hE.rd ha;subst ho;simp only [pW,hx,pG,uF];rw [LV ht hz (by rw [← yc,Th hr hf,tu])];rfl
theorem aay {i:Nat} {v:jD} {x:oY} {o:Nat} (hx:oS E x=some (uF v o)) (hE:DM v i):Rd P G E (.nilCheck x) (uF v o):=by
 refine ⟨rfl,fun h _=>?_⟩;obtain ⟨b,q,hb⟩:=hE.form;rw [hb] at hx ⊢;simp [pW,hx]
theorem Nc {t:oI} {s:List UInt8} {c:UInt8} {x y:oY} {kk:vW} {n:Int} (ht:P.underlying t=some .string) (hx:oS E x=some (.s s)) (hy:oS E y=some (.i kk n)) (hn:0≤n) (hc:s[n.toNat]? = some c):Rd P G E (.index t x y) (.i .u8 c.toNat):=by
 refine ⟨rfl,fun h _=>?_⟩;have y8:n=((n.toNat:Nat):Int):=by omega
 rw [y8] at hy;simp only [pW,hx,hy,pG,LP,ze];rw [if_pos (by omega)];simp only [pG,ht,ry,hc,rN]
theorem vZ {s t:oI} {a:yR} {k k0:vW} {n m:Int} {x:oY} (h1:P.underlying s=some a) (h2:P.underlying t=some (.int k)) (hx:oS E x=some (.i k0 n)) (hm:k.wrap n=m):Rd P G E (.convert s t x) (.i k m):=by
 refine ⟨?_,fun h _=>?_⟩
 ·simp only [qT,EP,h1,h2];cases a <;> rfl
 ·simp only [pW,hx,pG,wH,h1,h2,hm]
theorem oO {op:BinOp} {t t2:oI} {x y:oY} {a b v:jD} (hx:oS E x=some a) (hy:oS E y=some b) (hv:ru P op t a b=some v):Rd P G E (.binOp op t x y t2) v:=by
 refine ⟨rfl,fun h _=>?_⟩;simp [pW,hx,hy,hv]
theorem aaz {t t2 e:oI} {x y:oY} {v:jD} {n:Nat} (ht:P.underlying t=some (.slice e)) (hx:oS E x=some v) (hy:oS E y=some (.sl none 0 (.k 0))) (hn:Ln v n):∃ b:Bool,(b=true→n=0)∧Rd P G E (.binOp .eql t x y t2) (.b b):=by
 rcases hn with ⟨rfl,rfl⟩ | ⟨a,c,rfl,ha⟩
 ·exact ⟨false,(fun q=>by cases q),oO hx hy (by simp [ru,Ag,ht])⟩
 ·cases a with
  | none=>exact ⟨true,fun _=>ha rfl,oO hx hy (by simp [ru,Ag,ht])⟩
  | some a=>exact ⟨false,(fun q=>by cases q),oO hx hy (by simp [ru,Ag,ht])⟩
end
section
variable {P:oZ} {K:Tb} {fn:Func} {k:ua} {E:EL} {h:Hp} {A:List Oper} {dr:Bool} {G:jL} {L:List Nat} {i d:Nat}
theorem xr {v:jD} (hi:rM i A.length=true) (hw:sr A E (oE A i)=some true) (hd:(oE A i).dst=some d) (ho:Rd P G E (oE A i).op v) (x:W P K fn k A dr G L ((d,v)::E) h):W P K fn k A dr G (i::L) E h:=Vs hi hw hd ho.1 ho.2 x
theorem Nf {v:jD} (hb:ahead P A i L=true) (hi:rM i A.length=true) (hw:sr A E (oE A i)=some true) (hd:(oE A i).dst=some d) (ho:Rd P (qH h) E (oE A i).op v) (x:W P K fn k A dr G L ((d,v)::E) h):W P K fn k A dr G (i::L) E h:=W_n hb hi hw hd ho.1 ho.2 x
theorem FL {t t2 e:oI} {x y:oY} {v:jD} {n:Nat} (hi:rM i A.length=true) (hw:sr A E (oE A i)=some true) (hd:(oE A i).dst=some d) (py:(oE A i).op = .binOp .eql t x y t2) (ht:P.underlying t=some (.slice e)) (hx:oS E x=some v) (hy:oS E y=some (.sl none 0 (.k 0))) (hn:Ln v n)
  (q:∀ b:Bool,(b=true→n=0)→W P K fn k A dr G L ((d,.b b)::E) h):W P K fn k A dr G (i::L) E h:=by
 obtain ⟨b,h1,h2⟩:=aaz (P:=P) (G:=G) (t2:=t2) ht hx hy hn;exact xr hi hw hd (by rw [py];exact h2) (q b h1)
theorem qM {v:jD} (hi:rM i A.length=true) (hw:sr A E (oE A i)=some true) (hd:(oE A i).dst=some d) (hk:decide (qT P (oE A i).op = .sQ)=false) (ho:∀ h,pW P E h (oE A i).op=some (v,h)) (x:W P K fn k A dr G L ((d,v)::E) h):W P K fn k A dr G (i::L) E h:=Vs hi hw hd hk (fun h _=>ho h) x
end
end Go.V
end
section
namespace Go.V
open Go.Wk
structure rI {α:Type} (t:To α) (F:jL) (h:Hp) (css:List (Cl t.size)) (bss:List (List Nat)) (xs:List α):Prop where
 rm:css.length=xs.length
 tn:bss.length=xs.length
 rel:∀ (i:Nat) (d:Cl t.size) (x:α) (e:List Nat),css[i]? = some d→xs[i]? = some x→bss[i]? = some e→t.rel F h e d.1 x
section
variable {α:Type} {t:To α} {F:jL} {h h1:Hp} {bs:List Nat} {v:jD} {xs ys:List α} {b:Nat} {c:List jD} {k:Option Nat} {css sP:List (Cl t.size)} {bss vk:List (List Nat)}
theorem rI.nil:rI t F h [] [] []:=⟨rfl,rfl,fun i d x e q=>by simp at q⟩
theorem rI.cat (a:rI t F h css bss xs) (b:rI t F h sP vk ys):rI t F h (css++sP) (bss++vk) (xs++ys):=by
 refine ⟨by simp [a.rm,b.rm],by simp [a.tn,b.tn],fun i d x e q1 q2 q3=>?_⟩
 by_cases hi:i < css.length
 ·rw [s6 hi] at q1;rw [s6 (by rw [← a.rm];exact hi)] at q2;rw [s6 (by rw [a.tn,← a.rm];exact hi)] at q3;exact a.rel i d x e q1 q2 q3
 ·rw [s7 (by omega)] at q1;rw [s7 (by rw [← a.rm];omega),← a.rm] at q2;rw [s7 (by rw [a.tn,← a.rm];omega),a.tn,← a.rm] at q3;exact b.rel _ d x e q1 q2 q3
theorem rI.one {cs:List jD} {e:List Nat} {x:α} (r:t.rel F h e cs x):rI t F h [⟨cs,t.len r⟩] [e] [x]:=by
 refine ⟨rfl,rfl,fun i d y e' q1 q2 q3=>?_⟩;cases i with
 | zero=>simp at q1 q2 q3;subst q1;subst q2;subst q3;exact r
 | succ i=>simp at q1
theorem rI.frame (a:rI t F h css bss xs) (hn:h.next≤h1.next) (hk:∀ g,g∈bss.flatten→h1.get g=h.get g):rI t F h1 css bss xs :=
 ⟨a.rm,a.tn,fun i d x e q1 q2 q3=>t.frame (a.rel i d x e q1 q2 q3) hn fun g hg=>hk g (tC.2 ⟨e,vC q3,hg⟩)⟩
theorem rI.lt (a:rI t F h css bss xs):∀ g,g∈bss.flatten→g < h.next:=fun g hg=>by
 obtain ⟨e,N5,hg⟩:=tC.1 hg;obtain ⟨i,hi,rfl⟩:=vX N5;have sK:i < xs.length:=by rw [← a.tn];exact hi
 exact t.lt (a.rel i _ _ _ (pF (by rw [a.rm];exact sK)) (pF sK) (pF hi)) g hg
theorem rI.B8 (a:rI t F h css bss xs):(css.map qK).flatten.all jD.one=true:=by
 refine qB.2 fun u hu=>?_;obtain ⟨l,hl,hu⟩:=tC.1 hu;obtain ⟨d,hd,rfl⟩:=z7.1 hl;obtain ⟨i,hi,rfl⟩:=vX hd;have sK:i < xs.length:=by rw [← a.rm];exact hi
 exact qB.1 (t.one (a.rel i _ _ _ (pF hi) (pF sK) (pF (by rw [a.tn];exact sK)))) u hu
theorem rI.flat {tr:Tr α} {css:List (Cl tr.size)} (r:wW tr F css xs):rI (To.rQ tr) F h css (xs.map fun _=>[]) xs:=by
 refine ⟨r.1,by simp,fun i d x e q1 q2 q3=>⟨?_,r.2 i d x q1 q2⟩⟩;rw [xh] at q3;cases hx:xs[i]? with
 | none=>rw [hx] at q3;cases q3
 | some y=>rw [hx] at q3;exact (oQ q3).symm
theorem Aj {β γ:Type}:∀ xs:List β,(xs.map fun _=>([]:List γ)).flatten=[]
 | []=>rfl
 | _::r=>by rw [xi,vh,Aj r];rfl
theorem Mn (a:rI t F h1 css bss xs) (hb:b < h1.next) (hg:h1.get b=some (.cells t.size c)) (hc:c.take (xs.length*t.size)=(css.map qK).flatten) (ho:k=none→xs.length*t.size≤c.length) (hk:∀ m,k=some m→c.length=m*t.size∧xs.length≤m) (hf:xs.length≤2 ^ 30) (DX:c.all jD.one=true) (qZ:(b::bss.flatten).Nodup) :
  C3 t F h1 (b::bss.flatten) (.sl (some (b,0)) xs.length (.of t.size k)) xs b c k css bss:=⟨rfl,hg,hb,a.rm,a.tn,a.rel,hc,ho,hk,hf,DX,rfl,qZ⟩
theorem Mm (a:rI t F h css bss xs) (hn:h1.next=h.next) (hk:∀ g,g∈bss.flatten→h1.get g=h.get g) (qZ:bss.flatten.Nodup) (hf:xs.length≤2 ^ 30) {m:Option Nat} {post:List jD} (hp:m=none→post=[]) (hm:∀ q,m=some q→xs.length*t.size+post.length=q*t.size∧xs.length≤q) (DX:post.all jD.one=true) :
  C3 t F (h1.new (.cells t.size ((css.map qK).flatten++post))) (h.next::bss.flatten) (.sl (some (h.next,0)) xs.length (.of t.size m)) xs h.next ((css.map qK).flatten++post) m css bss:=by
 have sG:(css.map qK).flatten.length=xs.length*t.size:=by rw [Ai,a.rm]
 have pv:=a.lt;refine Mn (a.frame (by show h.next≤h1.next+1;omega) fun g hg=>?_) (by show h.next < h1.next+1;omega) (by rw [Hp.rO,hn,if_pos rfl]) (by rw [← sG,P9]) (fun q=>by rw [hp q,vM];exact Nat.le_of_eq sG.symm) (fun q hq=>⟨by rw [rH,sG];exact (hm q hq).1,(hm q hq).2⟩) hf (by rw [rC,a.B8,DX];rfl) (xL.2 ⟨fun q=>by have:=pv _ q;omega,qZ⟩);rw [Hp.rO,hn,if_neg (by have:=pv g hg;omega)];exact hk g hg
theorem Ij {B:sD} (hn:h1.next=h.next) (hw:∀ g,h.next≤g→h1.get g=none):∀ g,(h1.new B).next≤g→(h1.new B).get g=none:=fun g hg=>by
 have vv:h1.next+1≤g:=hg;rw [Hp.rO,if_neg (by omega)];exact hw g (by omega)
theorem To.Tq (sL:0 < t.size) (r:(To.row t).rel F h bs [v] xs) (r2:rI t F h sP vk ys) (XK:vk.flatten.Nodup) (hd:∀ g,g∈vk.flatten→g ∉ bs) (hw:∀ g,h.next≤g→h.get g=none) (vP:xs.length+ys.length≤2 ^ 30) :
  ∃ v' h' qv,AS h t.size ys.length (sP.map qK).flatten v=some (v',h')∧(To.row t).rel F h' qv [v'] (xs++ys)∧h.next≤h'.next∧(∀ g,h'.next≤g→h'.get g=none)∧(∀ g,g < h.next→g ∉ bs→h'.get g=h.get g) ∧ ∀ g,g∈qv→g∈bs∨g∈vk.flatten∨h.next≤g:=by
 obtain ⟨v0,rj,r⟩:=r;obtain rfl:=wS rj;have Xf:(sP.map qK).flatten.length=ys.length*t.size:=by rw [Ai,r2.rm]
 rcases r with ⟨rfl,rfl,rfl⟩ | ⟨b,c,k,css,bss,r⟩
 ·by_cases hy:ys.length=0
  ·have:ys=[]:=tP hy;subst this;exact ⟨.sl none 0 (.k 0),h,[],by simp [AS],⟨_,rfl,.inl ⟨rfl,rfl,rfl⟩⟩,px _,hw,fun g _ _=>rfl,fun g hg=>by simp at hg⟩
  ·have R:=Mm (h1:=h) (m:=none) (post:=[]) r2 rfl (fun g q=>rfl) XK (by omega) (fun _=>rfl) (fun q e=>by cases e) rfl;rw [vM] at R;refine ⟨_,_,_,?_,⟨_,rfl,.inr ⟨_,_,_,_,_,R⟩⟩,AN _,Ij rfl hw,fun g hg _=>?_,fun g hg=>?_⟩
   ·simp only [Cap.D9,Cap.Gv,AS];rw [if_pos ⟨trivial,trivial⟩,if_neg hy];unfold xa;rw [if_pos r2.B8];rfl
   ·rw [Hp.rO,if_neg (by omega)]
   ·rcases sg.1 hg with rfl | hg
    ·exact .inr (.inr (px _))
    ·exact .inr (.inl hg)
 ·obtain ⟨y4,hblk,Gb,EX,K9,sM,Al,LB,zH,BC,Hs,A0,zL⟩:=r;have hr:rI t F h css bss xs:=⟨EX,K9,sM⟩
  subst y4;subst A0;obtain ⟨wh,wJ⟩:=xL.1 zL;have sG:=Ai css;have Xq:xs.length*t.size≤c.length:=by
   have:(c.take (xs.length*t.size)).length=xs.length*t.size:=by rw [Al,sG,EX]
   rw [rb] at this;omega
  have hR:=hr.cat r2;have qZ:(bss++vk).flatten.Nodup:=by
   rw [yv];exact FC.2 ⟨wJ,XK,fun x hx y hy e=>hd y hy (e ▸ ti _ hx)⟩
  have RD:∀ g,g∈(bss++vk).flatten→g≠b:=fun g hg e=>by
   subst e;rw [yv] at hg;rcases vj.1 hg with q | q
   ·exact wh q
   ·exact hd _ q (by simp)
  have Aq:∀ g,g∈(bss++vk).flatten→g∈b::bss.flatten∨g∈vk.flatten:=fun g hg=>by
   rw [yv] at hg;rcases vj.1 hg with q | q
   ·exact .inl (ti _ q)
   ·exact .inr q
  have HO:(xs++ys).length*t.size=xs.length*t.size+ys.length*t.size:=by rw [rH,rV]
  have N8:∀ cap,ui h t.size xs.length (.sl (some (b,0)) xs.length cap)=some (css.map qK).flatten:=fun cap=>by
   simp only [ui]
   split
   ·rename_i h0;have:css=[]:=tP (by omega);rw [this];rfl
   ·unfold rd;rw [hblk];simp only [pA,yu];rw [if_pos Xq,Al]
  have X2:∀ (k:Option Nat),0+(xs.length+ys.length)*t.size≤c.length→(k=none→(xs++ys).length*t.size≤c.length)→(∀ m,k=some m→c.length=m*t.size∧(xs++ys).length≤m) →
    ∃ h',vB h b (0+xs.length*t.size) (sP.map qK).flatten=some h' ∧ (To.row t).rel F h' (b::(bss++vk).flatten) [.sl (some (b,0)) (xs.length+ys.length) (.of t.size k)] (xs++ys)∧h'.next=h.next ∧ ∀ g,g≠b→h'.get g=h.get g:=fun k sR ho hm=>by
   have hle:0+xs.length*t.size+(sP.map qK).flatten.length≤c.length:=by rw [Xf];rw [rV] at sR;omega
   refine ⟨h.set b (.cells t.size (p6 c (0+xs.length*t.size) (sP.map qK).flatten)),?_,⟨_,rfl,.inr ⟨b,p6 c (0+xs.length*t.size) (sP.map qK).flatten,k,css++sP,bss++vk,?_⟩⟩,rfl,fun g hg=>by rw [Hp.pD,if_neg hg]⟩
   ·unfold vB;rw [hblk];simp only;rw [if_pos ⟨hle,r2.B8⟩]
   ·have:=Mn (b:=b) (k:=k) (c:=p6 c (0+xs.length*t.size) (sP.map qK).flatten) (hR.frame (h1:=h.set b (.cells t.size (p6 c (0+xs.length*t.size) (sP.map qK).flatten))) (px _) fun g hg=>by rw [Hp.pD,if_neg (RD g hg)]) Gb (by rw [Hp.pD,if_pos rfl]) ?_ (fun q=>by rw [yt hle];exact ho q) (fun m q=>by rw [yt hle];exact hm m q) (by rw [rH];exact vP) ?_ (xL.2 ⟨fun q=>RD b q rfl,qZ⟩)
    ·rw [rH] at this;exact this
    ·rw [z6,yv,HO];unfold p6;have hL:((css.map qK).flatten++(sP.map qK).flatten).length=xs.length*t.size+ys.length*t.size:=by rw [rH,sG,Xf,EX]
     rw [pA,Al,M1 (by rw [hL];exact px _),Bl (by rw [hL];exact px _)]
    ·unfold p6;rw [rC,rC,r2.B8];have q1:(c.take (0+xs.length*t.size)).all jD.one=true:=qB.2 fun x hx=>qB.1 Hs x (zt hx);have q2:(c.drop (0+xs.length*t.size+(sP.map qK).flatten.length)).all jD.one=true:=qB.2 fun x hx=>qB.1 Hs x (yS hx);rw [q1,q2];rfl
  have fin:∀ (h1:Hp),h1.next=h.next→(∀ g,g≠b→h1.get g=h.get g)→(∀ g,h.next≤g→h1.get g=none) → ∀ cap,AS h t.size ys.length (sP.map qK).flatten (.sl (some (b,0)) xs.length (.of t.size cap))=xa h1 t.size ((css.map qK).flatten++(sP.map qK).flatten) (xs.length+ys.length) none →
    ∃ v' h' qv,AS h t.size ys.length (sP.map qK).flatten (.sl (some (b,0)) xs.length (.of t.size cap))=some (v',h')∧(To.row t).rel F h' qv [v'] (xs++ys)∧h.next≤h'.next∧(∀ g,h'.next≤g→h'.get g=none)∧(∀ g,g < h.next→g ∉ b::bss.flatten→h'.get g=h.get g) ∧ ∀ g,g∈qv→g∈b::bss.flatten∨g∈vk.flatten∨h.next≤g:=fun h1 Ap Cs BE cap he=>by
   have R:=Mm (h1:=h1) (m:=none) (post:=[]) hR Ap (fun g q=>Cs g (RD g q)) qZ (by rw [rH];exact vP) (fun _=>rfl) (fun q e=>by cases e) rfl;rw [vM,z6,yv] at R;have uH:=hR.B8;rw [z6,yv] at uH;refine ⟨_,_,_,?_,⟨_,rfl,.inr ⟨_,_,_,_,_,R⟩⟩,by show h.next≤h1.next+1;omega,Ij Ap BE,fun g hg rK=>?_,fun g hg=>?_⟩
   ·rw [he];unfold xa;rw [uH,if_pos rfl,Ap,rH]
   ·rw [Hp.rO,Ap,if_neg (by omega)];exact Cs g fun e=>rK (by rw [e];simp)
   ·rcases sg.1 hg with rfl | hg
    ·exact .inr (.inr (px _))
    ·exact (Aq g hg).imp id .inl
  cases k with
  | none =>
   have hl:=LB rfl
   by_cases hy:0+(xs.length+ys.length)*t.size≤c.length
   ·obtain ⟨h',q1,q2,q3,q4⟩:=X2 none hy (fun _=>by rw [rH];omega) (fun m e=>by cases e);refine ⟨_,h',_,?_,q2,by rw [q3];exact px _,fun g hg=>?_,fun g _ rK=>q4 g fun e=>rK (by rw [e];simp),fun g hg=>?_⟩
    ·simp only [Cap.D9,Cap.Gv,AS,hblk];rw [if_pos ⟨trivial,BC,by omega⟩,if_pos hy,q1];rfl
    ·rw [q3] at hg;rw [q4 g (by omega)];exact hw g hg
    ·rcases sg.1 hg with rfl | hg
     ·exact .inl (by simp)
     ·exact (Aq g hg).imp id .inl
   ·refine fin (h.set b .dead) rfl (fun g hg=>by rw [Hp.pD,if_neg hg]) (fun g hg=>by rw [Hp.pD,if_neg (by omega)];exact hw g hg) none ?_;simp only [Cap.D9,Cap.Gv,AS,hblk];rw [if_pos ⟨trivial,BC,by omega⟩,if_neg hy,N8];rfl
  | some m =>
   obtain ⟨Oe,HE⟩:=zH m rfl
   by_cases sR:xs.length+ys.length≤m
   ·have hrm:=tG t.size sR;obtain ⟨h',q1,q2,q3,q4⟩:=X2 (some m) (by rw [Oe];omega) (fun q=>by cases q) (fun m' e=>by obtain rfl:=oQ e;exact ⟨Oe,by rw [rH];exact sR⟩);refine ⟨_,h',_,?_,q2,by rw [q3];exact px _,fun g hg=>?_,fun g _ rK=>q4 g fun e=>rK (by rw [e];simp),fun g hg=>?_⟩
    ·simp only [Cap.D9,Cap.Gv,AS];rw [if_pos sR,q1];rfl
    ·rw [q3] at hg;rw [q4 g (by omega)];exact hw g hg
    ·rcases sg.1 hg with rfl | hg
     ·exact .inl (by simp)
     ·exact (Aq g hg).imp id .inl
   ·refine fin h rfl (fun g hg=>rfl) hw (some m) ?_;simp only [Cap.D9,Cap.Gv,AS];rw [if_neg sR,if_pos ⟨HE,BC⟩,N8];rfl
end
end Go.V
end
section
namespace Go.V
open Go.Wk
def vV (P:oZ) (e:oI) (s:Nat):Bool:=match sz P e,P.info? e,zeroV P e with
 | some z,some inf,some zero=>xN z s&&xN zero.cells.length z&&rM 0 z&&rM 0 inf.bytes&&BW inf.bytes 4096
 | _,_,_=>false
theorem H7 {P:oZ} {e:oI} {s:Nat} (h:vV P e s=true):∃ inf zero,sz P e=some s∧P.info? e=some inf∧zeroV P e=some zero∧zero.cells.length=s∧0 < s∧0 < inf.bytes∧inf.bytes≤2 ^ 12:=by
 unfold vV at h
 split at h
 ·rename_i z inf zero h1 h2 h3;simp only [rk] at h;obtain ⟨⟨⟨⟨a1,a2⟩,a3⟩,a4⟩,a5⟩:=h;have b1:=BX a1;have b2:=BX a2;have b5:=qY a5;subst b1;exact ⟨inf,zero,h1,h2,h3,b2,by simpa using a3,by simpa using a4,by omega⟩
 ·cases h
def Src {α:Type} (t:Tr α) (F:jL) (h:Hp) (x:jD) (ys:List α):Prop:=∃ css:List (Cl t.size),wW t F css ys∧G8 (qH h) x t.size css
theorem oF.src {α:Type} {t:Tr α} {F:jL} {h:Hp} {x:jD} {ys:List α} (s:oF t F x ys) (a:Agree F h):Src t F h x ys:=by
 obtain ⟨css,h1,h2⟩:=s;exact ⟨css,h1,h2.mono a⟩
theorem aiU {α:Type} {t:Tr α} {F:jL} {h:Hp} {bs:List Nat} {v:jD} {xs:List α} (r:(To.row (To.rQ t)).rel F h bs [v] xs):Src t F h v xs:=by
 obtain ⟨v0,rj,r⟩:=r;obtain rfl:=wS rj;rcases r with ⟨rfl,rfl,_⟩ | ⟨b,c,k,css,bss,r⟩
 ·exact ⟨[],⟨rfl,fun i d x h _=>by simp at h⟩,.inr ⟨none,some 0,rfl,by simp,fun k hk=>by simp,fun _=>⟨rfl,rfl⟩,fun b o h=>by cases h⟩⟩
 ·have BC:xs.length≤maxLen:=wT r.zG (by unfold maxLen;decide);have key:∀ css:List (Cl t.size),css.length=xs.length→(∀ (i:Nat) (d:Cl t.size) (x:α),css[i]? = some d→xs[i]? = some x→t.rel F d.1 x)→c.take (xs.length*t.size)=(css.map qK).flatten→Src t F h v xs:=fun css rT sM hc=>by
   refine ⟨css,⟨rT,sM⟩,.inr ⟨some (b,0),k,by rw [r.form,rT];rfl,by rw [rT];exact BC,fun m hm=>by rw [rT];exact (r.cap m hm).2,fun q=>(by cases q),fun b' o' vq i d j u h1 h2=>?_⟩⟩;simp only [qL,pZ] at vq;obtain ⟨rfl,rfl⟩:=vq;show rJ h b _=some u;unfold rJ;rw [r.qS,pA];have qJ:=(qO.1 h1).1;have ta:j < t.size:=by have:=(qO.1 h2).1;rw [d.2] at this;exact this
   have pv:i*t.size+j < xs.length*t.size:=by
    have:=tG t.size (show i+1≤xs.length by rw [← rT];exact qJ);rw [rV] at this;omega
   have:=Je h1 h2;show c[i*t.size+j]? = some u;rw [← hc,tQ,if_pos pv] at this;exact this
  refine key css r.rm (fun i d x h1 h2=>?_) r.cells;have hi:=(qO.1 h2).1;exact (r.rel i d x _ h1 h2 (pF (by rw [r.tn];exact hi))).2
theorem G8.first {h:Hp} {x:jD} {s:Nat} {css:List (Cl s)} (hs:0 < s) (c:G8 (qH h) x s css):D5 x=some css.length∧ui h s css.length x=some (css.map qK).flatten:=by
 rcases c with ⟨rfl,rfl⟩ | ⟨a,k,rfl,e2,e3,e4,e5⟩
 ·exact ⟨rfl,rfl⟩
 ·refine ⟨rfl,?_⟩;cases a with
  | none=>rw [(e4 rfl).1];rfl
  | some a =>
   obtain ⟨b,o⟩:=a;simp only [ui]
   split
   ·rename_i h0;rw [tP h0];rfl
   ·rename_i h0;refine H5 (Ai css) (IA (Nat.pos_of_ne_zero h0) hs) fun p u hp=>?_;rw [NS hs,oV] at hp;obtain ⟨d,q1,q2⟩:=hp;have:=e5 b o rfl _ d _ u q1 q2;rw [U2,Nat.div_add_mod] at this;exact this
def IK {α:Type} (t:Tr α) (F:jL):List (List jD)→List α→Prop
 | [],[]=>True
 | c::cs,x::xs=>t.rel F c x∧IK t F cs xs
 | _,_=>False
theorem IK.mk {α:Type} {t:Tr α} {F:jL}:∀ {cs:List (List jD)} {xs:List α},IK t F cs xs → ∃ css:List (Cl t.size),css.map qK=cs∧wW t F css xs
 | [],[],_=>⟨[],rfl,rfl,fun i d x h _=>by simp at h⟩
 | c::cs,x::xs,⟨h1,h2⟩=>by
  obtain ⟨css,h3,h4,h5⟩:=IK.mk h2;refine ⟨⟨c,t.len h1⟩::css,by simp [h3],by simp [h4],fun i d y hi hy=>?_⟩;cases i with
  | zero=>simp at hi hy;subst hi;subst hy;exact h1
  | succ i=>exact h5 i d y (by simpa using hi) (by simpa using hy)
 | [],_::_,h=>h.elim
 | _::_,[],h=>h.elim
def HY:Nat→List jD→List (Nat × jD)
 | _,[]=>[]
 | k,v::r=>(k,v)::HY (k+1) r
theorem Rh {z:Nat} {zero:List jD} (hz:zero.length=z):∀ (vs:List jD) (k:Nat) (pre:List jD),(∀ v,v∈vs→v.cells.length=z)→pre.length=k*z→xR (fun i=>some (i*z,z)) (pre++sZ zero vs.length) (HY k vs)=some (pre++(vs.map jD.cells).flatten)
 | [],k,pre,_,_=>by simp [xR,HY,sZ]
 | v::r,k,pre,hv,hp=>by
  have h1:=hv v (by simp);have Cx:sZ zero (v::r).length=zero++sZ zero r.length:=by
   simp [sZ,List.replicate_succ]
  have ih:=Rh hz r (k+1) (pre++v.cells) (fun w hw=>hv w (ti _ hw)) (by rw [rH,hp,h1,rV];omega);simp only [HY,xR,pG];rw [if_pos ⟨h1,by rw [Cx];simp only [rH];omega⟩];have:p6 (pre++sZ zero (v::r).length) (k*z) v.cells=pre++v.cells++sZ zero r.length:=by
   unfold p6;rw [Cx,← hp,P9,← Bj,List.drop_left,h1,← hz,List.drop_left]
  rw [this,ih];simp
section
variable {P:oZ} {E:EL} {X:List Nat} {h0 h:Hp} {F0 F:jL} {L:List Ob}
theorem St.tf {α:Type} {t:Tr α} {v:jD} {xs:List α} {k:Nat} (s:St X h0 F0 F L h) (hk:L[k]? = some (.row t v xs)):Src t F h v xs:=aiU (s.ok hk)
theorem Src.el {α:Type} {t:Tr α} {F:jL} {h:Hp} {x:jD} {ys:List α} (s:Src t F h x ys) {i:Nat} {y:α} (hi:ys[i]? = some y):∃ cs,t.rel F cs y∧tj (qH h) x t.size i cs:=by
 obtain ⟨css,h1,h2⟩:=s;have hl:=(qO.1 hi).1;obtain ⟨d,hd⟩:∃ d,css[i]? = some d:=⟨_,pF (by rw [h1.1];exact hl)⟩
 rcases h2 with ⟨rfl,rfl⟩ | ⟨a,c,rfl,e2,e3,e4,e5⟩
 ·simp at hd
 ·cases a with
  | none=>rw [(e4 rfl).1] at hd;simp at hd
  | some a=>exact ⟨_,h1.2 _ _ _ hd hi,d.2,t.pos,a.1,a.2,_,_,rfl,by rw [h1.1];exact hl,fun j u hj=>by rw [yc];exact e5 _ _ rfl i _ j u hd hj⟩
theorem St.rowAt {α:Type} {t:Tr α} {v:jD} {xs:List α} {k i:Nat} {x:α} (s:St X h0 F0 F L h) (hk:L[k]? = some (.row t v xs)) (hi:xs[i]? = some x):∃ cs,t.rel F cs x∧tj (qH h) v t.size i cs:=(s.tf hk).el hi
theorem xl {α:Type} {t:Tr α} {ts tx e:oI} {sx xx:oY} {v x:jD} {xs ys zs:List α} (k:Nat) (ht:P.underlying ts=some (.slice e)) (wi:vV P e t.size=true) (BF:yP P tx=some false) (hs:oS E sx=some v) (Dr:oS E xx=some x) (hS:St X h0 F0 F L h) (hk:L[k]? = some (.row t v xs))
  (hx:Src t F h x ys) (hz:app xs ys=some zs):Ef P E h (.call { callee:=.builtin .append,args:=#[sx,xx],argTypes:=#[ts,tx] }) (fun v' h'=>St X h0 F0 F (L.set k (.row t v' zs)) h'):=by
 obtain ⟨vP,rfl⟩:=FO hz;obtain ⟨inf,zero,r1,r2,r3,r4,r5,r6,r7⟩:=H7 wi;obtain ⟨css,c1,c2⟩:=hx;obtain ⟨c3,c4⟩:=c2.first r5
 have hE:rI (To.rQ t) F h css (ys.map fun _=>[]) ys:=.flat c1;obtain ⟨v',h',qv,q1,q2,q3,q4,q5,q6⟩:=To.Tq r5 (hS.ok hk) hE (by rw [Aj];exact EA) (fun g hg=>by rw [Aj] at hg;cases hg) hS.wf vP;refine ⟨rfl,v',h',?_,hS.vf hk (Ob.Gu q2) q3 q4 q5 fun b hb=>?_⟩
 ·simp only [pW,yY,vY,Ez,hs,Dr,wD,G9,ht,r1,r2,r3,BF,HX,c3,c4,pG,rN,cond_false,pure,Bn];rw [if_pos ⟨r4,r5,by rw [c1.1];omega,r6,r7,Ai css,hE.B8⟩,c1.1];exact q1
 ·have:=JR q2;have pP:b∈v'.own:=hb;rw [← this] at pP;rcases q6 b pP with q | q | q
  ·exact .inl q
  ·rw [Aj] at q;cases q
  ·exact .inr q
theorem sh {α:Type} {t:Tr α} {ts e:oI} {n:Nat} {ps:Array (Nat × oY)} {vs:List jD} {xs:List α} (ht:P.underlying ts=some (.slice e)) (wi:vV P e t.size=true) (hp:FW E ps.toList=some (HY 0 vs)) (hr:IK t F (vs.map jD.cells) xs) (hn:n=vs.length) (hle:BW (n*t.size) 16777216=true) (hS:St X h0 F0 F L h) :
  Ef P E h (.buildSlice ts n ps) (fun v' h'=>St X h0 F0 F (.row t v' xs::L) h'):=by
 obtain ⟨inf,zero,r1,r2,r3,r4,r5,r6,r7⟩:=H7 wi;obtain ⟨css,c1,c2⟩:=hr.mk;have hE:rI (To.rQ t) F h css (xs.map fun _=>[]) xs:=.flat c2;have XT:vs.length=xs.length:=by
  have q:(css.map qK).length=css.length:=wz _;rw [← c2.1,← q,c1,wz]
 have uH:(css.map qK).flatten.all jD.one=true:=hE.B8;have afk:=qY hle;have Li:=Rh (z:=t.size) r4 vs 0 [] (fun w hw=>by
  have:w.cells∈css.map qK:=by rw [c1];exact UQ hw
  obtain ⟨d,_,q⟩:=z7.1 this;rw [← q];exact d.2) (by simp)
 simp only [zw] at Li;have R:=Mm (h1:=h) (m:=some xs.length) (post:=[]) hE rfl (fun g q=>rfl) (by rw [Aj];exact EA) (by
  have:=Nat.le_mul_of_pos_right n r5;rw [← XT,← hn];omega) (fun _=>rfl) (fun q e=>by obtain rfl:=oQ e;exact ⟨by simp,px _⟩) rfl
 rw [vM,Aj] at R;refine ⟨rfl,.sl (some (h.next,0)) xs.length (.k xs.length),_,?_,hS.fresh ⟨AN _,Ij rfl hS.wf,fun b hb=>?_⟩ (Ob.Gu ⟨_,rfl,.inr ⟨_,_,_,_,_,R⟩⟩) (fun b hb=>?_)⟩
 ·simp only [pW,hp,pG,FQ,ht,r1,r3];rw [if_pos ⟨by omega,r4,r5⟩,hn,Li,← c1];simp only [pG,xa];rw [if_pos uH,XT];rfl
 ·rw [Hp.rO,if_neg (by omega)]
 ·have:b=h.next:=by simpa [Ob.row,jD.own] using hb
  omega
theorem Vb {α:Type} {t:Tr α} {ts e:oI} {x y:oY} {kl kc:vW} {n:Int} {x0:α} {zs:List α} (ht:P.underlying ts=some (.slice e)) (wi:vV P e t.size=true) (hx:oS E x=some (.i kl n)) (hy:oS E y=some (.i kc n)) (E6:∀ z,zeroV P e=some z→t.rel F z.cells x0) (hz:rep n x0=some zs) (hS:St X h0 F0 F L h) :
  Ef P E h (.makeSlice ts x y) (fun v' h'=>St X h0 F0 F (.row t v' zs::L) h'):=by
 obtain ⟨inf,zero,r1,r2,r3,r4,r5,r6,r7⟩:=H7 wi;obtain ⟨n0,n1,rfl⟩:=aip hz;have sS:=E6 _ r3;obtain ⟨css,c2,Al⟩:∃ css:List (Cl t.size),wW t F css (ph n.toNat x0)∧(css.map qK).flatten=sZ zero.cells n.toNat :=
  ⟨ph n.toNat ⟨zero.cells,r4⟩,⟨by simp,fun i d x q1 q2=>by
   rw [List.getElem?_replicate] at q1 q2
   split at q1
   ·rw [if_pos (by assumption)] at q2;obtain rfl:=oQ q1;obtain rfl:=oQ q2;exact sS
   ·cases q1⟩,by simp [sZ]⟩
 have hE:rI (To.rQ t) F h css ((ph n.toNat x0).map fun _=>[]) (ph n.toNat x0):=.flat c2;have uH:(css.map qK).flatten.all jD.one=true:=hE.B8;have R:=Mm (h1:=h) (m:=some n.toNat) (post:=[]) hE rfl (fun g q=>rfl) (by rw [Aj];exact EA) (by simp;omega) (fun _=>rfl) (fun q e=>by obtain rfl:=oQ e;exact ⟨by simp,by simp⟩) rfl;rw [vM,Aj,AM] at R;refine ⟨rfl,.sl (some (h.next,0)) n.toNat (.k n.toNat),_,?_,hS.fresh ⟨AN _,Ij rfl hS.wf,fun b hb=>?_⟩ (Ob.Gu ⟨_,rfl,.inr ⟨_,_,_,_,_,R⟩⟩) (fun b hb=>?_)⟩
 ·have Ly:BK (.i kl n)=some n.toNat:=by unfold BK;simp only;rw [if_pos ⟨n0,by omega⟩]
  have afm:BK (.i kc n)=some n.toNat:=by unfold BK;simp only;rw [if_pos ⟨n0,by omega⟩]
  have hb:inf.bytes*n.toNat≤2 ^ 48:=by
   have:=Nat.mul_le_mul r7 (show n.toNat≤1073741824 by omega);omega
  simp only [pW,hx,hy,pG,HW,ht,r1,r2,r3,Ly,afm];rw [if_pos ⟨px _,hb,r4,r5⟩,← Al];simp only [xa];rw [if_pos uH];rfl
 ·rw [Hp.rO,if_neg (by omega)]
 ·have:b=h.next:=by simpa [Ob.row,jD.own] using hb
  omega
theorem Nr {g:Nat} {cs:List jD} {h1:Hp} (hg:h1.get g=some (.cells cs.length cs)) (hl:g < h1.next) (DX:cs.all jD.one=true):(Ob.box g cs).ok F h1:=⟨g,rfl,rfl,hg,hl,DX⟩
theorem VE {cs:List jD} (h1:cs.all jD.one=true) (hS:St X h0 F0 F L h):∃ h',AR h cs.length cs=some (pl h.next 0,h')∧St X h0 F0 F (.box h.next cs::L) h':=by
 refine ⟨_,by unfold AR;rw [if_pos h1],hS.fresh ⟨AN _,Ij rfl hS.wf,fun b hb=>by rw [Hp.rO,if_neg (by omega)]⟩ (Nr (by rw [Hp.rO,if_pos rfl]) (BY _) h1) fun b hb=>?_⟩;have:b=h.next:=by simpa [Ob.box] using hb
 omega
theorem vF {t:oI} {cs:List jD} (hz:(zeroV P t).map jD.cells=some cs) (h1:cs.all jD.one=true) (hS:St X h0 F0 F L h):Ef P E h (.alloc t) (fun v' h'=>∃ g,v' = pl g 0∧St X h0 F0 F (.box g cs::L) h'):=by
 obtain ⟨z,wM,rfl⟩:=pU.1 hz;obtain ⟨h',q1,q2⟩:=VE h1 hS;exact ⟨rfl,_,h',by simp only [pW];rw [wM];exact q1,_,rfl,q2⟩
theorem aap {t:oI} {x:oY} {v:jD} {cs:List jD} (hx:oS E x=some v) (hc:v.cells=cs) (h1:cs.all jD.one=true) (hS:St X h0 F0 F L h):Ef P E h (.box t x) (fun v' h'=>∃ g,v' = pl g 0∧St X h0 F0 F (.box g cs::L) h'):=by
 subst hc;obtain ⟨h',q1,q2⟩:=VE h1 hS;exact ⟨rfl,_,h',by simp only [pW,hx,pG];exact q1,_,rfl,q2⟩
theorem St.Hh {g:Nat} {cs:List jD} (k:Nat) (s:St X h0 F0 F L h) (hk:L[k]? = some (.box g cs)):h.get g=some (.cells cs.length cs)∧g < h.next∧cs.all jD.one=true:=by
 obtain ⟨g',q1,q2,q3,q4,q5⟩:=s.ok hk;simp only [Ob.box,Iv,and_true] at q1;subst q1;exact ⟨q3,q4,q5⟩
theorem QK {g:Nat} {cs:List jD} {k:Nat} (s:St X h0 F0 F L h) (hk:L[k]? = some (.box g cs)) {o:Nat} {u:jD} (hu:cs[o]? = some u):qH h g o=some u:=by
 have:=(s.Hh k hk).1;show rJ h g o=some u;unfold rJ;rw [this];exact hu
theorem rR {t:oI} {x:oY} {g o:Nat} {cs:List jD} {u:jD} (k:Nat) (ht:rY P t=some false) (hx:oS E x=some (pl g o)) (hS:St X h0 F0 F L h) (hk:L[k]? = some (.box g cs)) (hu:cs[o]? = some u):Rd P (qH h) E (.load t x) u:=by
 refine ⟨rfl,fun h2 ha=>?_⟩;have:=ha _ _ _ (QK hS hk hu);simp only [pW,hx,pG];rw [SC ht (H5 (c:=[u]) rfl (by decide) fun j w hj=>by
  cases j with
  | zero=>simp at hj;subst hj;exact this
  | succ j=>simp at hj)]
 rfl
theorem yy {t:oI} {x:oY} {g o:Nat} {cs:List jD} (k:Nat) (cs':List jD) (ht:rY P t=some true) (hz:sz P t=some cs'.length) (hp:0 < cs'.length) (hx:oS E x=some (pl g o)) (hS:St X h0 F0 F L h) (hk:L[k]? = some (.box g cs)) (tu:∀ (q:Nat) (u:jD),cs'[q]? = some u→cs[o+q]? = some u):Rd P (qH h) E (.load t x) (.agg cs'):=by
 refine ⟨rfl,fun h2 ha=>?_⟩;simp only [pW,hx,pG];rw [LV ht hz (H5 (c:=cs') rfl hp fun j w hj=>ha _ _ _ (QK hS hk (tu j w hj)))];rfl
theorem CY {t:oI} {x y:oY} {g o:Nat} {cs c:List jD} {v:jD} (k:Nat) (cs':List jD) (hx:oS E x=some (pl g o)) (hy:oS E y=some v) (hS:St X h0 F0 F L h) (hk:L[k]? = some (.box g cs)) (hc:v.cells=c) (hz:sz P t=some c.length) (h1:c.all jD.one=true) (tU:BW (o+c.length) cs.length=true) (tu:p6 cs o c=cs') :
  Ef P E h (.store t x y) (fun _ h'=>St X h0 F0 F (L.set k (.box g cs')) h'):=by
 obtain ⟨q1,q2,q3⟩:=hS.Hh k hk;have hf:=qY tU;subst tu;subst hc;have uH:(p6 cs o v.cells).all jD.one=true:=by
  unfold p6;rw [rC,rC,h1];have p1:(cs.take o).all jD.one=true:=qB.2 fun x hx=>qB.1 q3 x (zt hx);have p2:(cs.drop (o+v.cells.length)).all jD.one=true:=qB.2 fun x hx=>qB.1 q3 x (yS hx);rw [p1,p2];rfl
 have hlen:=yt (c:=cs) (o:=o) (vs:=v.cells) hf;refine ⟨rfl,.no,h.set g (.cells cs.length (p6 cs o v.cells)),?_,hS.vf hk (Nr (by rw [Hp.pD,if_pos rfl,hlen]) q2 uH) (px _) (fun b hb=>?_) (fun b hb hn=>?_) fun b hb=>.inl hb⟩
 ·simp only [pW,hx,hy,pG,En,hz];rw [if_pos trivial];unfold vB;rw [q1];simp only;rw [if_pos ⟨hf,h1⟩];rfl
 ·have pP:h.next≤b:=hb;rw [Hp.pD,if_neg (by omega)];exact hS.wf b pP
 ·rw [Hp.pD,if_neg (fun e=>hn (by rw [e];simp [Ob.box]))]
theorem yx {α:Type} {tr:Tr α} {t:oI} {v u:jD} {xs:List α} {xo yo:oY} {o:Nat} (i j f:Nat) (x x':α) (c:List jD) (hx:oS E xo=some (uF v o)) (hy:oS E yo=some u) (hS:St X h0 F0 F L h) (hk:L[i]? = some (.row tr v xs)) (hj:xs[j]? = some x) (ho:o=j*tr.size+f)
  (hc:u.cells=c) (hz:sz P t=some c.length) (h1:c.all jD.one=true) (tU:f+c.length≤tr.size) (sM:∀ cs,tr.rel F cs x→tr.rel F (p6 cs f c) x'):Ef P E h (.store t xo yo) (fun _ h'=>St X h0 F0 F (L.set i (.row tr v (xs.set j x'))) h'):=by
 subst hc;obtain ⟨b,k,cs,e,q1,q2,q3,q4,q5,q6,q7⟩:=To.OZ (t:=To.rQ tr) tr.pos (hS.ok hk) hj;obtain ⟨h',qv,w1,w2,w3,w4,w5⟩:=q7 u.cells f (p6 cs f u.cells) x' [] h1 tU rfl (fun h' _ _=>⟨rfl,sM _ q5.2⟩) (fun g hg=>by cases hg) (fun g hg=>by cases hg) EA;refine ⟨rfl,.no,h',?_,hS.vf hk (Ob.Gu w2) (by rw [w3];exact px _) (fun b' hb=>?_) (fun b' hb hn=>w4 b' fun e'=>hn (by rw [e'];exact q2)) fun b' hb=>.inl (by
  have:=JR w2;exact hb)⟩
 ·rw [q1] at hx;subst ho;have A2:oS E xo=some (.p (some (b,j*tr.size+f))):=by rw [hx];simp [uF]
  simp only [pW,A2,hy,pG,En,hz];rw [if_pos trivial];have MA:vB h b (j*tr.size+f) u.cells=some h':=w1;rw [MA];rfl
 ·rw [w3] at hb;rw [w4 b' (by omega)];exact hS.wf b' hb
end
end Go.V
end
section
namespace Go.Wk
def tA (x:Int):UInt8:=UInt8.ofNat (x % 256).toNat
def qI (a b:List UInt8):Bool:=Bh a b
def uE (a b:List UInt8):Int:=if qI a b then -1 else if qI b a then 1 else 0
end Go.Wk
namespace Go.V
open Go.Wk
theorem XY (x:Int):Ul.wrap x=((tA x).toNat:Int):=by
 simp [ML,GS,GU,tA];omega
theorem J3 (x:UInt8):Eu.wrap (x.toNat:Int)=(x.toNat:Int):=by
 have:=x.toNat_lt;simp [ML,GS,GU];omega
section
variable {P:oZ} {t:oI} {k:vW} {a b:Int} {x y:List UInt8}
theorem uD:ru P .eql t (.i k a) (.i k b)=some (.b (decide (a=b))):=by simp only [ru,if_pos];rfl
theorem Br:ru P .neq t (.i k a) (.i k b)=some (.b (decide (a≠b))):=by
 simp only [ru,if_pos];show some (jD.b (!(a == b)))=_
 by_cases h:a=b
 ·subst h;simp
 ·simp [h]
theorem yV:ru P .lss t (.i k a) (.i k b)=some (.b (decide (a < b))):=by simp only [ru,if_pos];rfl
theorem abd:ru P .leq t (.i k a) (.i k b)=some (.b (decide (a≤b))):=by simp only [ru,if_pos];rfl
theorem Bq:ru P .gtr t (.i k a) (.i k b)=some (.b (decide (b < a))):=by simp only [ru,if_pos];rfl
theorem VJ:ru P .geq t (.i k a) (.i k b)=some (.b (decide (b≤a))):=by simp only [ru,if_pos];rfl
theorem VI {x y:Bool} (ht:P.underlying t=some .bool):ru P .eql t (.b x) (.b y)=some (.b (x == y)):=by simp only [ru,Ag,ht];rfl
theorem abc {x y:Bool} (ht:P.underlying t=some .bool):ru P .neq t (.b x) (.b y)=some (.b (x != y)):=by simp only [ru,Ag,ht];rfl
theorem VK:ru P .eql t (.s x) (.s y)=some (.b (x == y)):=rfl
theorem abi:ru P .neq t (.s x) (.s y)=some (.b (!(x == y))):=rfl
theorem abh:ru P .lss t (.s x) (.s y)=some (.b (qI x y)):=rfl
theorem abg:ru P .leq t (.s x) (.s y)=some (.b (qI x y||x == y)):=rfl
theorem abf:ru P .gtr t (.s x) (.s y)=some (.b (!(qI x y||x == y))):=rfl
theorem abe:ru P .geq t (.s x) (.s y)=some (.b (!qI x y)):=rfl
end
def FR (P:oZ) (t:oI):Option (List (Nat × Nat) × List jD):=(zeroV P t).bind fun zero=>match P.underlying t with
 | some (.struct fs)=>(fs.toList.mapM fun f=>(sz P f.type).map fun n=>(f.offset,n)).map fun pl=>(pl,zero.cells)
 | _=>none
section
variable {P:oZ} {G:jL} {E:EL}
theorem FI {t:oI} {ps:Array (Nat × oY)} {pl:List (Nat × Nat)} {zc:List jD} {vs:List (Nat × jD)} {v:jD} (ht:FR P t=some (pl,zc)) (hp:FW E ps.toList=some vs) (hf:(xR (fun i=>pl[i]?) zc vs).map jD.agg=some v):Rd P G E (.build t ps) v:=by
 refine ⟨rfl,fun h _=>?_⟩;unfold FR at ht;rw [oV] at ht;obtain ⟨zero,h1,ht⟩:=ht
 split at ht
 ·rename_i fs hu;obtain ⟨pl',h2,e⟩:=pU.1 ht;obtain ⟨rfl,rfl⟩:=Prod.mk.inj e;simp only [pW,hp,pG,IW,h1,hu,h2,hf,rN]
 ·cases ht
end
end Go.V
end
section
namespace Go.Wk
theorem LN {x:Int} (h0:-9223372036854775808≤x) (h1:x≤9223372036854775807):Eu.wrap x=x:=IntWalk.i64_in x ⟨h0,h1⟩
theorem ak2 (x:Int):Ul.wrap x=x % 256:=by
 simp [ML,GS,GU]
theorem J1 (x:Int):Fu.wrap x=x % 4294967296:=by
 simp [ML,GS,GU]
theorem TV (x:Int):Is.wrap x=x % 18446744073709551616:=by
 simp [ML,GS,GU]
theorem xf (x y:UInt32):Fu.wrap ((x.toNat:Int)+(y.toNat:Int))=((x+y).toNat:Int):=by
 rw [J1,UInt32.toNat_add];omega
theorem ofInt_natCast (n x:Nat):wy n (x:Int)=BitVec.ofNat n x:=by
 apply BitVec.eq_of_toNat_eq;simp
theorem JG (x:UInt32):wy 32 (x.toNat:Int)=x.toBitVec:=by
 rw [ofInt_natCast];simp
theorem T0 (b:BitVec 32):Fu.wrap (b.toNat:Int)=(b.toNat:Int):=by
 rw [J1];have:=b.isLt;omega
theorem u32_and (x y:UInt32):bits .and .u32 (x.toNat:Int) (y.toNat:Int)=((x &&& y).toNat:Int):=by
 show Fu.wrap ((wy 32 (x.toNat:Int) &&& wy 32 (y.toNat:Int)).toNat:Int)=_;rw [T0,JG,JG];rfl
theorem u32_or (x y:UInt32):bits .or .u32 (x.toNat:Int) (y.toNat:Int)=((x ||| y).toNat:Int):=by
 show Fu.wrap ((wy 32 (x.toNat:Int) ||| wy 32 (y.toNat:Int)).toNat:Int)=_;rw [T0,JG,JG];rfl
theorem u32_xor (x y:UInt32):bits .xor .u32 (x.toNat:Int) (y.toNat:Int)=((x ^^^ y).toNat:Int):=by
 show Fu.wrap ((wy 32 (x.toNat:Int) ^^^ wy 32 (y.toNat:Int)).toNat:Int)=_;rw [T0,JG,JG];rfl
theorem akY (x:UInt32) (n:Int) (c:Nat) (hn:n.toNat=c) (hc:c < 32):Fu.wrap ((x.toNat:Int)*2 ^ n.toNat)=((x <<< (rD c)).toNat:Int):=by
 rw [J1,UInt32.toNat_shiftLeft,hn];have:(rD c).toNat % 32=c:=by simp;omega
 rw [this,Nat.shiftLeft_eq,Int.natCast_emod,PU,UE];rfl
theorem Po (x:UInt32) (n:Int) (c:Nat) (hn:n.toNat=c) (hc:c < 32):(x.toNat:Int) / 2 ^ n.toNat=((x >>> (rD c)).toNat:Int):=by
 rw [UInt32.toNat_shiftRight,hn];have:(rD c).toNat % 32=c:=by simp;omega
 rw [this,Nat.shiftRight_eq_div_pow]
 norm_cast
theorem ak1 (b:UInt8):Is.wrap (b.toNat:Int)=(b.toUInt64.toNat:Int):=by
 rw [TV,UInt8.toNat_toUInt64];have:=b.toNat_lt;omega
theorem ak0 (b:UInt8):Fu.wrap (b.toNat:Int)=(b.toUInt32.toNat:Int):=by
 rw [J1,UInt8.toNat_toUInt32];have:=b.toNat_lt;omega
theorem Z8 (x:UInt32):Ul.wrap (x.toNat:Int)=(x.toUInt8.toNat:Int):=by
 rw [ak2,UInt32.toNat_toUInt8];omega
end Go.Wk
end
section
namespace Go.V
open Go.Wk
def EF (v v':jD) (z a n:Nat):Prop:=(v' = .es∧n=0 ∧ ∃ b len k,v = .sl (some (b,0)) len k∧len≤a)∨(v' = .sl none 0 (.k 0)∧n=0∧v = .sl none 0 (.k 0)) ∨ ∃ b o len k k',v = .sl (some (b,0)) len (.of z k)∧v' = .sl (some (b,o)) n (.of z k')∧(o=a*z∨n=0∧o=0)∧(∀ m,k' = some m→n≤m)∧k' = k.map (· - a)
theorem EF.ln {v v':jD} {z a n:Nat} (p:EF v v' z a n):Ln v' n:=by
 rcases p with ⟨rfl,rfl,_⟩ | ⟨rfl,rfl,_⟩ | ⟨b,o,len,k,k',_,rfl,_⟩
 ·exact .inl ⟨rfl,rfl⟩
 ·exact .inr ⟨none,.k 0,rfl,fun _=>rfl⟩
 ·exact .inr ⟨_,_,rfl,fun q=>by cases q⟩
theorem Src.piece {α:Type} {t:Tr α} {F:jL} {h:Hp} {v v':jD} {xs zs:List α} {a b:Int} (s:Src t F h v xs) (p:EF v v' t.size a.toNat (b.toNat - a.toNat)) (hc:cut xs a b=some zs):Src t F h v' zs:=by
 obtain ⟨c0,c1,c2,rfl⟩:=NK hc;obtain ⟨css,h1,h2⟩:=s;have hl:((css.take b.toNat).drop a.toNat).length=b.toNat - a.toNat:=by
  have:=h1.1;simp;omega
 have sM:wW t F ((css.take b.toNat).drop a.toNat) ((xs.take b.toNat).drop a.toNat):=by
  refine ⟨by simp [h1.1],fun i d x q1 q2=>?_⟩;rw [vi,tQ] at q1 q2
  split at q1
  ·rw [if_pos (by assumption)] at q2;exact h1.2 _ d x q1 q2
  ·cases q1
 have ae9:b.toNat - a.toNat≤maxLen∨css=[]:=by
  rcases h2 with ⟨_,rfl⟩ | ⟨_,_,_,e2,_⟩
  ·exact .inr rfl
  ·have:=h1.1;exact .inl (by omega)
 refine ⟨_,sM,?_⟩;rcases p with ⟨rfl,hn,_⟩ | ⟨rfl,hn,_⟩ | ⟨g,o,len,k,k',rfl,rfl,ho,hk,_⟩
 ·exact .inl ⟨rfl,tP (by omega)⟩
 ·have:(css.take b.toNat).drop a.toNat=[]:=tP (by omega);rw [this];exact .inr ⟨none,some 0,rfl,by simp,fun k hk=>by simp,fun _=>⟨rfl,rfl⟩,fun b o h=>by cases h⟩
 ·refine .inr ⟨some (g,o),k',by rw [hl],?_,fun m hm=>by rw [hl];exact hk m hm,fun q=>(by cases q),fun b' o' vq i d j u q1 q2=>?_⟩
  ·rw [hl];rcases ae9 with q | q
   ·exact q
   ·have:=h1.1;rw [q] at this;simp at this;rw [show b.toNat - a.toNat=0 by omega];exact pY _
  ·simp only [qL,pZ] at vq;obtain ⟨rfl,rfl⟩:=vq;have hi:=(qO.1 q1).1;have vR:o=a.toNat*t.size:=ho.elim id fun q=>by omega
   rw [vR];rw [vi,tQ] at q1
   split at q1
   ·rcases h2 with ⟨e,_⟩ | ⟨a',c',e1,e2,e3,e4,e5⟩
    ·cases e
    ·simp only [jD.sl.injEq] at e1;obtain ⟨rfl,_,_⟩:=e1;have:=e5 g 0 rfl _ d j u q1 q2;rw [show 0+((a.toNat+i)*t.size+j)=a.toNat*t.size+(i*t.size+j) by rw [rV];omega] at this;exact this
   ·cases q1
theorem tj.piece {F:jL} {v v':jD} {s i a n:Nat} {cs:List jD} (e:tj F v s (a+i) cs) (p:EF v v' s a n) (hi:i < n):tj F v' s i cs:=by
 obtain ⟨h0,h1,b,q,m,c,rfl,h3,h4⟩:=e;rcases p with ⟨rfl,hn,_⟩ | ⟨rfl,hn,_⟩ | ⟨g,o,len,k,k',hv,rfl,ho,_⟩
 ·omega
 ·omega
 ·simp only [jD.sl.injEq,qL,pZ] at hv;obtain ⟨⟨rfl,rfl⟩,_,_⟩:=hv;have vR:o=a*s:=ho.elim id fun q=>by omega
  refine ⟨h0,h1,b,o,n,_,rfl,hi,fun j u hj=>?_⟩;have:=h4 j u hj;rw [show 0+(a+i)*s+j=o+i*s+j by rw [vR,rV];omega] at this;exact this
def CX (r:Option jD) (z n:Int):Prop:=(r=none∧n=z) ∨ ∃ kk,r=some (.i kk n)
def Bd (E:EL) (o:Option oY) (z n:Int):Prop:=(o=none∧n=z) ∨ ∃ y kk,o=some y∧oS E y=some (.i kk n)
theorem Bd.val {E:EL} {o:Option oY} {z n:Int} (b:Bd E o z n):∃ r,BB E o=some r∧CX r z n:=by
 rcases b with ⟨rfl,h⟩ | ⟨y,kk,rfl,h⟩
 ·exact ⟨none,rfl,.inl ⟨rfl,h⟩⟩
 ·exact ⟨some (.i kk n),by simp [BB,h],.inr ⟨kk,rfl⟩⟩
theorem Ca {len cap:Nat} {lo hi:Option jD} {a b:Int} (yn:CX lo 0 a) (xF:CX hi len b) (h0:0≤a) (h1:a≤b) (h2:b≤(len:Int)) (hc:len≤cap):zB len cap lo hi none=some (a.toNat,b.toNat,cap):=by
 have na:∀ kk,ze (.i kk a)=some a.toNat:=fun kk=>by unfold ze;simp only;rw [if_pos h0]
 have nb:∀ kk,ze (.i kk b)=some b.toNat:=fun kk=>by unfold ze;simp only;rw [if_pos (by omega)]
 have e1:CD hi len=some b.toNat:=by
  rcases xF with ⟨rfl,rfl⟩ | ⟨kk,rfl⟩
  ·simp [CD]
  ·exact nb kk
 have e2:CD lo 0=some a.toNat:=by
  rcases yn with ⟨rfl,rfl⟩ | ⟨kk,rfl⟩
  ·rfl
  ·exact na kk
 unfold zB;rw [e1,e2];simp only [CD,pG];rw [if_pos ⟨px _,by omega,by omega,fun q=>by cases q⟩]
section
variable {P:oZ} {h:Hp} {X:List Nat} {h0:Hp} {F0 F:jL} {Lo:List Ob}
theorem ajW {α:Type} {tr:Tr α} {t e:oI} {v:jD} {xs zs:List α} {lo hi:Option jD} {j:Nat} {a b:Int} (ht:P.underlying t=some (.slice e)) (hz:sz P e=some tr.size) (yn:CX lo 0 a) (xF:CX hi xs.length b) (hS:St X h0 F0 F Lo h) (hj:Lo[j]? = some (.row tr v xs)) (hc:cut xs a b=some zs) :
  ∃ v',xb P t v lo hi none=some v' ∧ EF v v' tr.size a.toNat (b.toNat - a.toNat):=by
 obtain ⟨c0,c1,c2,_⟩:=NK hc;obtain ⟨v0,rj,r⟩:=hS.ok hj;obtain rfl:=wS rj;rcases r with ⟨rfl,Cw,_⟩ | ⟨g,c,m,css,bss,r⟩
 ·have LM:xs.length=0:=by rw [show xs=[] from Cw];rfl
  rw [LM] at xF c2;refine ⟨.sl none 0 (.k 0),?_,.inr (.inl ⟨rfl,by omega,rfl⟩)⟩;unfold xb;simp only [ht,hz,pG];rw [Ca yn xF c0 c1 c2 (px _)];have e1:a.toNat=0:=by omega
  have e2:b.toNat=0:=by omega
  simp [e1,e2]
 ·have hf:v = .sl (some (g,0)) xs.length (.of tr.size m):=r.form;subst hf;cases m with
  | some m =>
   have hm:xs.length≤m:=(r.cap m rfl).2;refine ⟨_,by unfold xb;simp only [Cap.Gv,ht,hz,pG];rw [Ca yn xF c0 c1 c2 hm];rfl,?_⟩;dsimp only
   by_cases he:m=a.toNat
   ·rw [if_pos he];exact .inr (.inr ⟨g,_,_,some m,some (m - a.toNat),rfl,rfl,.inr ⟨by omega,rfl⟩,fun q hq=>by obtain rfl:=oQ hq;omega,rfl⟩)
   ·rw [if_neg he];exact .inr (.inr ⟨g,_,_,some m,some (m - a.toNat),rfl,rfl,.inl (pA _),fun q hq=>by obtain rfl:=oQ hq;omega,rfl⟩)
  | none =>
   by_cases pv:a.toNat < xs.length
   ·refine ⟨.sl (some (g,0+a.toNat*tr.size)) (b.toNat - a.toNat) (.op tr.size),?_,.inr (.inr ⟨g,_,_,none,none,rfl,rfl,.inl (pA _),fun q hq=>(by cases hq),rfl⟩)⟩;unfold xb;simp only [Cap.D9,ht,hz,pG,if_true];rw [Ca yn xF c0 c1 c2 (px _)];simp [pv]
   ·refine ⟨.es,?_,.inl ⟨rfl,by omega,g,_,_,rfl,by omega⟩⟩;unfold xb;simp only [Cap.D9,ht,hz,pG,if_true];rw [Ca yn xF c0 c1 c2 (px _)];simp [pv]
end
section
variable {P:oZ} {K:Tb} {fn:Func} {k:ua} {E:EL} {h:Hp} {A:List Oper} {dr:Bool} {G:jL} {L:List Nat} {i d:Nat} {X:List Nat} {h0:Hp} {F0 F:jL} {Lo:List Ob}
theorem xq {α:Type} {tr:Tr α} {t e:oI} {v:jD} {xs zs:List α} {x:oY} {ol oh:Option oY} (j:Nat) (a b:Int) (hi:rM i A.length=true) (hw:sr A E (oE A i)=some true) (hd:(oE A i).dst=some d) (py:(oE A i).op = .slice t x ol oh none)
  (ht:P.underlying t=some (.slice e)) (hz:sz P e=some tr.size) (hx:oS E x=some v) (hl:Bd E ol 0 a) (hh:Bd E oh xs.length b) (hS:St X h0 F0 F Lo h) (hj:Lo[j]? = some (.row tr v xs)) (hc:cut xs a b=some zs)
  (q:∀ v',Src tr F h v' zs→EF v v' tr.size a.toNat (b.toNat - a.toNat)→W P K fn k A dr G L ((d,v')::E) h):W P K fn k A dr G (i::L) E h:=by
 obtain ⟨lo,l1,l2⟩:=hl.val;obtain ⟨sK,r1,r2⟩:=hh.val;obtain ⟨v',k1,k2⟩:=ajW (P:=P) ht hz l2 r2 hS hj hc;refine qM hi hw hd (by rw [py];rfl) (fun h=>?_) (q v' ((hS.tf hj).piece k2 hc) k2);rw [py];have n0:BB E none=some none:=rfl;simp only [pW,hx,l1,r1,n0,pG,k1,rN]
theorem oF.cut {α:Type} {tr:Tr α} {t e:oI} {v:jD} {xs zs:List α} {lo hi:Option jD} {a b:Int} (ht:P.underlying t=some (.slice e)) (hz:sz P e=some tr.size) (yn:CX lo 0 a) (xF:CX hi xs.length b) (hs:oF tr F v xs) (hc:Go.Wk.cut xs a b=some zs) :
  ∃ v',xb P t v lo hi none=some v' ∧ oF tr F v' zs:=by
 obtain ⟨c0,c1,c2,rfl⟩:=NK hc;obtain ⟨css,h1,h2⟩:=hs;have hl:((css.take b.toNat).drop a.toNat).length=b.toNat - a.toNat:=by
  have:=h1.1;simp;omega
 have sM:wW tr F ((css.take b.toNat).drop a.toNat) ((xs.take b.toNat).drop a.toNat):=by
  refine ⟨by simp [h1.1],fun i d x q1 q2=>?_⟩;rw [vi,tQ] at q1 q2
  split at q1
  ·rw [if_pos (by assumption)] at q2;exact h1.2 _ d x q1 q2
  ·cases q1
 rcases h2 with ⟨rfl,rfl⟩ | ⟨ad,c,rfl,e2,e3,e4,e5⟩
 ·have LM:xs.length=0:=h1.1.symm;rw [LM] at xF c2;refine ⟨.es,?_,_,sM,.inl ⟨rfl,by simp⟩⟩;unfold xb;simp only [ht,hz,pG];rw [Ca yn xF c0 c1 c2 (px _)];rfl
 ·have Jq:=h1.1;cases c with
  | some m =>
   have hm:=e3 m rfl;refine ⟨_,by unfold xb;simp only [Cap.Gv,ht,hz,pG];rw [Ca yn (by rw [Jq];exact xF) c0 c1 (by omega) hm];rfl,_,sM,?_⟩;dsimp only;refine .inr ⟨_,some (m - a.toNat),by rw [hl];rfl,by rw [hl];omega,fun q hq=>by obtain rfl:=oQ hq;rw [hl];omega,fun q=>?_,fun b' o' vq i d j u q1 q2=>?_⟩
   ·have hn:ad=none:=by
     split at q
     ·exact q
     ·cases ad with
      | none=>rfl
      | some _=>cases q
    obtain ⟨z1,z2⟩:=e4 hn;obtain rfl:=oQ z2;exact ⟨by rw [z1];simp,by simp⟩
   ·have hi:=(qO.1 q1).1;have pM:¬ m=a.toNat:=by omega
    split at vq
    ·contradiction
    obtain ⟨⟨b0,o0⟩,rfl,vq⟩:=pU.1 vq;cases vq;rw [vi,tQ] at q1
    split at q1
    ·have:=e5 _ _ rfl _ d j u q1 q2;rw [show o0+((a.toNat+i)*tr.size+j)=o0+a.toNat*tr.size+(i*tr.size+j) by rw [rV];omega] at this;exact this
    ·cases q1
  | none =>
   cases ad with
   | none=>exact absurd (e4 rfl).2 (by simp)
   | some ad =>
    obtain ⟨b0,o0⟩:=ad
    by_cases pv:a.toNat < css.length
    ·refine ⟨.sl (some (b0,o0+a.toNat*tr.size)) (b.toNat - a.toNat) (.op tr.size),?_,_,sM,.inr ⟨some (b0,o0+a.toNat*tr.size),none,by rw [hl];rfl,by rw [hl];omega,fun q hq=>(by cases hq),fun q=>(by cases q),fun b' o' vq i d j u q1 q2=>?_⟩⟩
     ·unfold xb;simp only [Cap.D9,ht,hz,pG,if_true];rw [Ca yn (by rw [Jq];exact xF) c0 c1 (by omega) (px _)];simp [pv]
     ·simp only [qL,pZ] at vq;obtain ⟨rfl,rfl⟩:=vq;rw [vi,tQ] at q1
      split at q1
      ·have:=e5 _ _ rfl _ d j u q1 q2;rw [show o0+((a.toNat+i)*tr.size+j)=o0+a.toNat*tr.size+(i*tr.size+j) by rw [rV];omega] at this;exact this
      ·cases q1
    ·refine ⟨.es,?_,_,sM,.inl ⟨rfl,tP (by omega)⟩⟩;unfold xb;simp only [Cap.D9,ht,hz,pG,if_true];rw [Ca yn (by rw [Jq];exact xF) c0 c1 (by omega) (px _)];simp [pv]
theorem FJ {α:Type} {tr:Tr α} {t e:oI} {v:jD} {xs zs:List α} {x:oY} {ol oh:Option oY} (a b:Int) (hi:rM i A.length=true) (hw:sr A E (oE A i)=some true) (hd:(oE A i).dst=some d) (py:(oE A i).op = .slice t x ol oh none)
  (ht:P.underlying t=some (.slice e)) (hz:sz P e=some tr.size) (hx:oS E x=some v) (hl:Bd E ol 0 a) (hh:Bd E oh xs.length b) (hs:oF tr F v xs) (hc:cut xs a b=some zs)
  (q:∀ v',oF tr F v' zs→W P K fn k A dr G L ((d,v')::E) h):W P K fn k A dr G (i::L) E h:=by
 obtain ⟨lo,l1,l2⟩:=hl.val;obtain ⟨sK,r1,r2⟩:=hh.val;obtain ⟨v',k1,k2⟩:=hs.cut (P:=P) ht hz l2 r2 hc;refine qM hi hw hd (by rw [py];rfl) (fun h=>?_) (q v' k2);rw [py];have n0:BB E none=some none:=rfl;simp only [pW,hx,l1,r1,n0,pG,k1,rN]
end
end Go.V
end
section
namespace Go.V
open Go.Wk
def Ob.dp {α:Type} (t:To α) (bs:List Nat) (v:jD) (xs:List α):Ob:=⟨To.row t,bs,[v],xs⟩
structure DO {α:Type} (t:To α) (tr:Tr α):Prop where
 size:t.size=tr.size
 rel:∀ {F G h bs cs x},t.rel F h bs cs x→F.le G→(∀ b,b∈bs → ∀ o u,rJ h b o=some u→G b o=some u)→tr.rel G cs x
theorem DO.flat {α:Type} (tr:Tr α):DO (To.rQ tr) tr:=⟨rfl,fun q l _=>tr.mono l q.2⟩
section
variable {α:Type} {t t':To α} {F:jL} {h:Hp} {bs:List Nat} {v:jD} {xs:List α}
theorem To.Tu {tr:Tr α} (s:DO t tr) (r:(To.row t).rel F h bs [v] xs) (ag:Agree F h):oF tr (qH h) v xs:=by
 obtain ⟨v0,rj,r⟩:=r;obtain rfl:=wS rj;rcases r with ⟨rfl,rfl,_⟩ | ⟨b,c,k,css,bss,r⟩
 ·exact oF.nil _
 ·have BC:xs.length≤maxLen:=wT r.zG (by unfold maxLen;decide);have hs:=s.size;refine ⟨css.map fun d=>⟨d.1,hs ▸ d.2⟩,⟨by simp [r.rm],fun i d x h1 h2=>?_⟩,.inr ⟨some (b,0),k,by rw [r.form,wz,r.rm,hs],by rw [wz,r.rm];exact BC,fun m hm=>by rw [wz,r.rm];exact (r.cap m hm).2,fun q=>(by cases q),fun b' o' vq i d j u h1 h2=>?_⟩⟩
  ·rw [xh] at h1;obtain ⟨d0,xE,rfl⟩:=pU.1 h1;have hi:=(qO.1 h2).1;exact s.rel (r.rel i d0 x _ xE h2 (pF (by rw [r.tn];exact hi))) ag fun _ _ _ _ q=>q
  ·simp only [qL,pZ] at vq;obtain ⟨rfl,rfl⟩:=vq;rw [xh] at h1;obtain ⟨d0,xE,rfl⟩:=pU.1 h1;show rJ h b _=some u;unfold rJ;rw [r.qS,pA,← hs];have qJ:=(qO.1 xE).1;have ta:j < t.size:=by
    have e1:j < d0.1.length:=(qO.1 h2).1;have e:d0.1.length=t.size:=d0.2;omega
   have pv:i*t.size+j < xs.length*t.size:=by
    have:=tG t.size (show i+1≤xs.length by rw [← r.rm];exact qJ);rw [rV] at this;omega
   have:=Je xE h2;show c[i*t.size+j]? = some u;rw [← r.cells,tQ,if_pos pv] at this;exact this
theorem To.Ts {β:Type} {s:To β} {ys:List β} (hs:t.size=s.size) (r:(To.row t).rel F h bs [v] xs) (hl:ys.length=xs.length) (hr:∀ (i:Nat) x y e cs,xs[i]? = some x→ys[i]? = some y→t.rel F h e cs x→s.rel F h e cs y):(To.row s).rel F h bs [v] ys:=by
 obtain ⟨v0,rj,r⟩:=r;refine ⟨v0,rj,?_⟩;obtain rfl:=wS rj;rcases r with ⟨rfl,rfl,h3⟩ | ⟨b,c,k,css,bss,r⟩
 ·exact .inl ⟨rfl,tP (by rw [hl];rfl),h3⟩
 ·have Jf:c.take (ys.length*s.size)=((css.map fun d=>(⟨d.1,hs ▸ d.2⟩:Cl s.size)).map qK).flatten:=by
   have e:(css.map fun d=>(⟨d.1,hs ▸ d.2⟩:Cl s.size)).map qK=css.map qK:=by rw [CT];rfl
   rw [e,hl,← r.cells,hs]
  refine .inr ⟨b,c,k,css.map fun d=>⟨d.1,hs ▸ d.2⟩,bss,?_⟩;refine ⟨by rw [hl,← hs];exact r.form,by rw [← hs];exact r.qS,r.lt,by rw [wz,r.rm,hl],by rw [r.tn,hl],fun i d y e q1 q2 q3=>?_,Jf,fun q=>by rw [hl,← hs];exact r.CC q,fun m q=>by rw [hl,← hs];exact r.cap m q,by rw [hl];exact r.zG,r.one,r.yF,r.nodup⟩;rw [xh] at q1;obtain ⟨d0,xE,rfl⟩:=pU.1 q1;have hi:i < xs.length:=by rw [← hl];exact (qO.1 q2).1
  exact hr i _ y e _ (pF hi) q2 (r.rel i d0 _ e xE (pF hi) q3)
theorem To.Za (r:(To.row t).rel F h bs [v] xs) {i:Nat} {x:α} (hi:xs[i]? = some x):∃ cs e,t.rel F h e cs x∧(∀ g,g∈e→g∈bs)∧(0 < t.size→tj (qH h) v t.size i cs) ∧
  ∀ {β:Type} (t':To β) (ys:List β) (y:β) (e':List Nat),t.size=t'.size→ys.length=xs.length→ys[i]? = some y→(∀ j x y e cs,j≠i→xs[j]? = some x→ys[j]? = some y→t.rel F h e cs x→t'.rel F h e cs y)→t'.rel F h e' cs y→(∀ g,g∈e' → g ∉ bs∨g∈e) → ∃ qv,(To.row t').rel F h qv [v] ys ∧ ∀ g,g∈qv ↔ (g∈bs∧g ∉ e)∨g∈e':=by
 obtain ⟨v0,rj,r⟩:=r;obtain rfl:=wS rj;have qJ:=(qO.1 hi).1;rcases r with ⟨rfl,rfl,rfl⟩ | ⟨b,c,k,css,bss,r⟩
 ·simp at hi
 ·obtain ⟨y4,hblk,Gb,EX,K9,sM,Al,LB,zH,BC,Hs,A0,zL⟩:=r;subst y4;subst A0;obtain ⟨wh,wJ⟩:=xL.1 zL;obtain ⟨d,hd⟩:∃ d,css[i]? = some d:=⟨_,pF (by omega)⟩
  obtain ⟨e,he⟩:∃ e,bss[i]? = some e:=⟨_,pF (by omega)⟩
  have hr:=sM i d x e hd hi he;have yp:∀ g,g∈e→g∈bss.flatten:=fun g hg=>tC.2 ⟨e,vC he,hg⟩;refine ⟨d.1,e,hr,fun g hg=>ti _ (yp g hg),fun sL=>⟨d.2,sL,b,0,_,_,rfl,qJ,fun j u hj=>?_⟩,fun t' ys y e' hs hl hy ho XV Df=>?_⟩
  ·show rJ h b _=some u;unfold rJ;rw [hblk,pA];have ta:j < t.size:=by
    have e1:j < d.1.length:=(qO.1 hj).1;have e2:d.1.length=t.size:=d.2;omega
   have pv:i*t.size+j < xs.length*t.size:=by
    have:=tG t.size (show i+1≤xs.length from qJ);rw [rV] at this;omega
   have:=Je hd hj;rw [← Al,tQ,if_pos pv] at this;exact this
  have LC:∀ j e2,j≠i→bss[j]? = some e2 → ∀ g,g∈e' → g ∉ e2:=fun j e2 hj h2 g hg tE=>by
   rcases Df g hg with q | q
   ·exact q (ti _ (tC.2 ⟨e2,vC h2,tE⟩))
   ·exact NR bss wJ hj h2 he tE q
  have qZ:(bss.set i e').flatten.Nodup:=Rm bss i e' wJ (t'.nodup XV) fun g hg j e2 hj h2=>LC j e2 hj h2 g hg;have XG:∀ g,g∈(bss.set i e').flatten ↔ (g∈bss.flatten∧g ∉ e)∨g∈e':=fun g=>by
   constructor
   ·intro hg;obtain ⟨e2,q1,q2⟩:=tC.1 hg;obtain ⟨j,hj,rfl⟩:=vX q1
    by_cases Hy:j=i
    ·subst Hy;simp at q2;exact .inr q2
    ·have u6:j < bss.length:=by simpa using hj
     have hb:(bss.set i e')[j]'hj=bss[j]:=by rw [List.getElem_set_ne (fun q=>Hy q.symm)]
     rw [hb] at q2;have h2:bss[j]? = some bss[j]:=pF u6;exact .inl ⟨tC.2 ⟨_,vC h2,q2⟩,fun q=>NR bss wJ Hy h2 he q2 q⟩
   ·rintro (⟨q1,q2⟩ | q)
    ·obtain ⟨e2,p1,p2⟩:=tC.1 q1;obtain ⟨j,hj,rfl⟩:=vX p1;have Hy:j≠i:=fun q=>by
      subst q;rw [pF hj] at he;obtain rfl:=oQ he;exact q2 p2
     refine tC.2 ⟨bss[j],?_,p2⟩;refine vC (i:=j) ?_;rw [yb (fun q=>Hy q.symm),pF hj]
    ·refine tC.2 ⟨e',vC (i:=i) (vN (by omega)),q⟩
  have Jf:c.take (ys.length*t'.size)=((css.map fun d=>(⟨d.1,hs ▸ d.2⟩:Cl t'.size)).map qK).flatten:=by
   have e:(css.map fun d=>(⟨d.1,hs ▸ d.2⟩:Cl t'.size)).map qK=css.map qK:=by rw [CT];rfl
   rw [e,hl,← Al,hs]
  refine ⟨b::(bss.set i e').flatten,⟨_,rfl,.inr ⟨b,c,k,css.map fun d=>⟨d.1,hs ▸ d.2⟩,bss.set i e',?_⟩⟩,fun g=>?_⟩
  ·refine ⟨by rw [hl,hs],by rw [← hs];exact hblk,Gb,by simp [EX,hl],by simp [K9,hl],fun j d2 x2 e2 q1 q2 q3=>?_,Jf,fun q=>by rw [hl,← hs];exact LB q,fun m q=>by rw [hl,← hs];exact zH m q,by rw [hl];exact BC,Hs,rfl,xL.2 ⟨fun q=>?_,qZ⟩⟩
   ·rw [xh] at q1;obtain ⟨d0,xE,rfl⟩:=pU.1 q1
    by_cases hj:j=i
    ·subst hj;rw [vN (by omega)] at q3;rw [hd] at xE;rw [hy] at q2;obtain rfl:=oQ xE;obtain rfl:=oQ q2;obtain rfl:=oQ q3;exact XV
    ·rw [yb (fun q=>hj q.symm)] at q3;have XC:j < xs.length:=by rw [← hl];exact (qO.1 q2).1
     exact ho j _ x2 e2 _ hj (pF XC) q2 (sM j d0 _ e2 xE (pF XC) q3)
   ·rcases (XG b).1 q with ⟨q1,_⟩ | q1
    ·exact wh q1
    ·rcases Df b q1 with q2 | q2
     ·exact q2 (by simp)
     ·exact wh (yp b q2)
  ·rw [sg,sg,XG];constructor
   ·rintro (rfl | q)
    ·exact .inl ⟨.inl rfl,fun q=>wh (yp g q)⟩
    ·rcases q with ⟨q1,q2⟩ | q
     ·exact .inl ⟨.inr q1,q2⟩
     ·exact .inr q
   ·rintro (⟨q1 | q1,q2⟩ | q)
    ·exact .inl q1
    ·exact .inr (.inl ⟨q1,q2⟩)
    ·exact .inr (.inr q)
end
section
variable {X:List Nat} {h0 h h':Hp} {F0 F F':jL} {L Lr:List Ob}
theorem St.wk {α:Type} (s:St X h0 F0 F L h) (t:To α):St X h0 F0 F (.dp t [] (.sl none 0 (.k 0)) []::L) h :=
 s.fresh ⟨px _,s.wf,fun _ _=>rfl⟩ ⟨_,rfl,.inl ⟨rfl,rfl,rfl⟩⟩ (fun b hb=>by cases hb)
theorem St.ub {α:Type} {t:To α} {bs:List Nat} {v:jD} {xs:List α} {k:Nat} (s:St X h0 F0 F L h) (hk:L[k]? = some (.dp t bs v xs)):Ln v xs.length:=To.JQ (s.ok hk)
theorem St.wI {α:Type} {t:To α} {tr:Tr α} {bs:List Nat} {v:jD} {xs:List α} {k:Nat} (s:St X h0 F0 F L h) (hk:L[k]? = some (.dp t bs v xs)) (hs:DO t tr):oF tr (qH h) v xs:=To.Tu hs (s.ok hk) s.agree
theorem St.vy (s:St X h0 F0 F L h) {i:Nat} {o o':Ob} (hi:L[i]? = some o) (ho:o'.ok F h) (hb:∀ b,b∈o'.bs→b∈o.bs):St X h0 F0 F (L.set i o') h :=
 s.vf hi ho (px _) s.wf (fun _ _ _=>rfl) fun b q=>.inl (hb b q)
theorem St.part (s:St X h0 F0 F L h) {i:Nat} {o:Ob} (o1 o2:Ob) (hi:L[i]? = some o) (h1:o1.ok F h) (h2:o2.ok F h) (wh:∀ g,g∈o1.bs→g∈o.bs) (wJ:∀ g,g∈o2.bs→g∈o.bs) (hd:∀ g,g∈o1.bs→g ∉ o2.bs):St X h0 F0 F (o1::L.set i o2) h:=by
 have hp:=s.vy hi h2 wJ;obtain ⟨ho,hog⟩:=s.own i o hi;have qJ:=(qO.1 hi).1;have hx:∀ (q:Nat) (p:Ob) (g:Nat),(L.set i o2)[q]? = some p→g∈o1.bs→g∈p.bs→False:=fun q p g hq hg Gg=>by
  by_cases e:q=i
  ·subst e;rw [vN qJ] at hq;obtain rfl:=oQ hq;exact hd g hg Gg
  ·rw [yb (fun z=>e z.symm)] at hq;exact e (s.apart i q o p g hi hq (wh g hg) Gg).symm
 refine ⟨hp.next,hp.wf,hp.zd,hp.agree,hp.ext,hp.new,fun q p hq=>?_,fun q q' p p' g hq xT hg vv=>?_⟩
 ·cases q with
  | zero=>simp at hq;subst hq;exact ⟨h1,fun g hg=>hog g (wh g hg)⟩
  | succ q=>exact hp.own q p (by simpa using hq)
 ·cases q with
  | zero =>
   simp at hq;subst hq;cases q' with
   | zero=>rfl
   | succ q'=>exact (hx q' p' g (by simpa using xT) hg vv).elim
  | succ q =>
   cases q' with
   | zero=>simp at xT;subst xT;exact (hx q p g (by simpa using hq) vv hg).elim
   | succ q'=>rw [hp.apart q q' p p' g (by simpa using hq) (by simpa using xT) hg vv]
theorem St.join {o1 o2:Ob} (s:St X h0 F0 F (o1::o2::L) h) (o:Ob) (ho:o.ok F h') (hn:h.next≤h'.next) (hw:Wf h') (hk:∀ b,b < h.next→b ∉ o1.bs→b ∉ o2.bs→h'.get b=h.get b) (hb:∀ b,b∈o.bs→b∈o1.bs∨b∈o2.bs∨h.next≤b):St X h0 F0 F (o::L) h':=by
 obtain ⟨a1,a2⟩:=s.own 0 o1 rfl;obtain ⟨b1,b2⟩:=s.own 1 o2 rfl;have hL:∀ (i:Nat) (p:Ob),L[i]? = some p→(o1::o2::L)[i+2]? = some p:=fun i p hp=>hp;have Hv:∀ b k u,F b k=some u→b < h.next∧b ∉ o1.bs∧b ∉ o2.bs:=fun b k u e=>⟨Lb s.wf (s.agree b k u e),(fun q=>by rw [(a2 b q).1 k] at e;cases e),(fun q=>by rw [(b2 b q).1 k] at e;cases e)⟩
 have Aq:∀ (i:Nat) (p:Ob),L[i]? = some p → ∀ b,b∈p.bs→b < h.next∧b ∉ o1.bs∧b ∉ o2.bs:=fun i p hp b hb=>by
  refine ⟨p.t.lt (s.ok (hL i p hp)) b hb,fun q=>?_,fun q=>?_⟩
  ·have:=s.apart 0 (i+2) o1 p b rfl (hL i p hp) q hb;omega
  ·have:=s.apart 1 (i+2) o2 p b rfl (hL i p hp) q hb;omega
 refine ⟨wT s.next hn,hw,fun b pP hx=>?_,fun b k u e=>?_,s.ext,s.new,fun i p hp=>?_,fun i j p p' b hi hj hp zN=>?_⟩
 ·rw [hk b (xO pP s.next) (fun q=>(a2 b q).2.elim (fun h3=>by omega) hx) (fun q=>(b2 b q).2.elim (fun h3=>by omega) hx)];exact s.zd b pP hx
 ·obtain ⟨q1,q2,q3⟩:=Hv b k u e;have:=s.agree b k u e;unfold rJ at this ⊢;rw [hk b q1 q2 q3];exact this
 ·cases i with
  | zero =>
   simp at hp;subst hp;refine ⟨ho,fun b pP=>?_⟩;rcases hb b pP with q | q | q
   ·exact a2 b q
   ·exact b2 b q
   ·refine ⟨fun k=>?_,.inl (wT s.next q)⟩;cases hF:F b k with
    | none=>rfl
    | some u=>have:=(Hv b k u hF).1;omega
  | succ i =>
   have zN:L[i]? = some p:=by simpa using hp
   obtain ⟨t1,t2⟩:=s.own (i+2) p (hL i p zN);exact ⟨p.t.frame t1 hn fun b pP=>hk b (Aq i p zN b pP).1 (Aq i p zN b pP).2.1 (Aq i p zN b pP).2.2,t2⟩
 ·have KR:∀ (i:Nat) (p:Ob),L[i]? = some p→b∈o.bs→b∈p.bs→False:=fun i p hi h1 h2=>by
   obtain ⟨t1,t2,t3⟩:=Aq i p hi b h2;rcases hb b h1 with q | q | q
   ·exact t2 q
   ·exact t3 q
   ·omega
  cases i with
  | zero =>
   simp at hi;subst hi;cases j with
   | zero=>rfl
   | succ j=>exact (KR j p' (by simpa using hj) hp zN).elim
  | succ i =>
   cases j with
   | zero=>simp at hj;subst hj;exact (KR i p (by simpa using hi) zN hp).elim
   | succ j =>
    have:=s.apart (i+2) (j+2) p p' b (hL i p (by simpa using hi)) (hL j p' (by simpa using hj)) hp zN;omega
end
end Go.V
end
section
namespace Go.V
open Go.Wk
def To.tag {α:Type} (a b:To α) (hs:b.size=a.size):To (α × Bool) where
 size:=a.size
 rel F h bs cs x:=(x.2=true∧a.rel F h bs cs x.1)∨(x.2=false∧b.rel F h bs cs x.1)
 len:=fun q=>q.elim (fun q=>a.len q.2) fun q=>(b.len q.2).trans hs
 one:=fun q=>q.elim (fun q=>a.one q.2) fun q=>b.one q.2
 lt:=fun q=>q.elim (fun q=>a.lt q.2) fun q=>b.lt q.2
 nodup:=fun q=>q.elim (fun q=>a.nodup q.2) fun q=>b.nodup q.2
 mono:=fun l q=>q.imp (fun q=>⟨q.1,a.mono l q.2⟩) fun q=>⟨q.1,b.mono l q.2⟩
 frame:=fun q hn hk=>q.imp (fun q=>⟨q.1,a.frame q.2 hn hk⟩) fun q=>⟨q.1,b.frame q.2 hn hk⟩
section
variable {α:Type} {t:To α} {F:jL} {h:Hp} {bs:List Nat} {v:jD} {xs:List α}
theorem To.aiQ (sL:0 < t.size) (r:(To.row t).rel F h bs [v] xs) {i:Nat} {x:α} (hi:xs[i]? = some x):∃ cs e,t.rel F h e cs x∧(∀ g,g∈e→g∈bs)∧tj (qH h) v t.size i cs:=by
 obtain ⟨b,k,cs,e,q1,q2,q3,q4,q5,q6,_⟩:=To.OZ sL r hi;refine ⟨cs,e,q5,fun g hg=>(q4 g hg).1,t.len q5,sL,b,0,_,_,q1,(qO.1 hi).1,fun j u hj=>?_⟩;rw [pA];have hl:j < t.size:=by rw [← t.len q5];exact (qO.1 hj).1
 show rJ h b _=some u;unfold rd at q6;unfold rJ
 split at q6
 ·rename_i z c hg
  try rw [hg]
  split at q6
  ·obtain rfl:=oQ q6;rw [tQ,if_pos hl,vi] at hj;exact hj
  ·cases q6
 ·rename_i c hg
  try rw [hg]
  split at q6
  ·obtain rfl:=oQ q6;rw [tQ,if_pos hl,vi] at hj;exact hj
  ·cases q6
 ·cases q6
end
section
variable {P:oZ} {E:EL} {X:List Nat} {h0 h:Hp} {F0 F:jL} {L:List Ob}
theorem St.Q6 {α:Type} {t:To α} {bs:List Nat} {v:jD} {xs:List α} {k i:Nat} {x:α} (sL:0 < t.size) (s:St X h0 F0 F L h) (hk:L[k]? = some (.dp t bs v xs)) (hi:xs[i]? = some x):∃ cs e,t.rel F h e cs x∧(∀ g,g∈e→g∈bs)∧tj (qH h) v t.size i cs:=To.aiQ sL (s.ok hk) hi
theorem Qm {α:Type} {t:To α} {ty:oI} {v u:jD} {bs:List Nat} {xs:List α} {xo yo:oY} {o:Nat} (i j f:Nat) (x x':α) (c:List jD) (sL:0 < t.size) (hx:oS E xo=some (uF v o)) (hy:oS E yo=some u) (hS:St X h0 F0 F L h) (hk:L[i]? = some (.dp t bs v xs)) (hj:xs[j]? = some x) (ho:o=j*t.size+f)
  (hc:u.cells=c) (hz:sz P ty=some c.length) (h1:c.all jD.one=true) (tU:f+c.length≤t.size) (sM:∀ h cs e,t.rel F h e cs x→t.rel F h e (p6 cs f c) x'):Ef P E h (.store ty xo yo) (fun _ h'=>∃ qv,St X h0 F0 F (L.set i (.dp t qv v (xs.set j x'))) h'):=by
 subst hc;obtain ⟨b,k,cs,e,q1,q2,q3,q4,q5,q6,q7⟩:=To.OZ sL (hS.ok hk) hj;have hq5:∀ h',h'.next=h.next→(∀ g,g≠b→h'.get g=h.get g)→t.rel F h' e (p6 cs f u.cells) x':=fun h' hn hg=>sM _ _ _ (t.frame q5 (by rw [hn];exact px _) fun g vv=>hg g (q4 g vv).2);obtain ⟨h',qv,w1,w2,w3,w4,w5⟩:=q7 u.cells f (p6 cs f u.cells) x' e h1 tU rfl hq5 (fun g hg=>.inr hg) (fun g hg=>t.lt q5 g hg) (t.nodup q5);refine ⟨rfl,.no,h',?_,qv,hS.vf hk w2 (by rw [w3];exact px _) (fun b' hb=>?_) (fun b' hb hn=>w4 b' fun e'=>hn (by rw [e'];exact q2)) fun b' hb=>.inl ((w5 b' hb).elim id fun q=>(q4 b' q).1)⟩
 ·rw [q1] at hx;subst ho;have A2:oS E xo=some (.p (some (b,j*t.size+f))):=by rw [hx];simp [uF]
  simp only [pW,A2,hy,pG,En,hz];rw [if_pos trivial];have MA:vB h b (j*t.size+f) u.cells=some h':=w1;rw [MA];rfl
 ·rw [w3] at hb;rw [w4 b' (by omega)];exact hS.wf b' hb
theorem Vc {α β:Type} {t:To α} {s:To β} {ty:oI} {v u:jD} {bs rE:List Nat} {xs:List α} {y:β} {xo yo:oY} {o:Nat} (j f:Nat) (x x':α) (sL:0 < t.size) (hx:oS E xo=some (uF v o)) (hy:oS E yo=some u) (hS:St X h0 F0 F (⟨s,rE,[u],y⟩ :: .dp t bs v xs::L) h) (hj:xs[j]? = some x) (ho:o=j*t.size+f)
  (hc:u.cells=[u]) (hz:sz P ty=some 1) (tU:f+1≤t.size) (sM:∀ h cs e,t.rel F h e cs x→s.rel F h rE [u] y→t.rel F h rE (p6 cs f [u]) x'):Ef P E h (.store ty xo yo) (fun _ h'=>∃ qv,St X h0 F0 F (.dp t qv v (xs.set j x')::L) h'):=by
 have hk:(⟨s,rE,[u],y⟩ :: .dp t bs v xs::L:List Ob)[1]? = some (.dp t bs v xs):=rfl;have OJ:s.rel F h rE [u] y:=hS.ok (i:=0) rfl;have Hq:∀ g,g∈rE→g ∉ bs:=fun g h1 h2=>by
  have:=hS.apart 0 1 _ _ g rfl hk h1 h2;omega
 obtain ⟨b,k,cs,e,q1,q2,q3,q4,q5,q6,q7⟩:=To.OZ sL (hS.ok hk) hj;have Hv:∀ h',h'.next=h.next→(∀ g,g≠b→h'.get g=h.get g)→t.rel F h' rE (p6 cs f [u]) x':=fun h' hn hg =>
  sM _ _ _ (t.frame q5 (by rw [hn];exact px _) fun g vv=>hg g (q4 g vv).2) (s.frame OJ (by rw [hn];exact px _) fun g vv=>hg g fun e=>Hq g vv (e ▸ q2))
 obtain ⟨h',qv,w1,w2,w3,w4,w5⟩:=q7 [u] f (p6 cs f [u]) x' rE (s.one OJ) tU rfl Hv (fun g hg=>.inl (Hq g hg)) (fun g hg=>s.lt OJ g hg) (s.nodup OJ);refine ⟨rfl,.no,h',?_,qv,hS.join _ w2 (by rw [w3];exact px _) (fun b' hb=>?_) (fun b' hb _ hn=>w4 b' fun e'=>hn (by rw [e'];exact q2)) fun b' hb=>(w5 b' hb).elim (fun q=>.inr (.inl q)) fun q=>.inl q⟩
 ·rw [q1] at hx;subst ho;have A2:oS E xo=some (.p (some (b,j*t.size+f))):=by rw [hx];simp [uF]
  simp only [pW,A2,hy,pG,En,hz,hc];rw [if_pos (show [u].length=1 from rfl)];have MA:vB h b (j*t.size+f) [u]=some h':=w1;rw [MA];rfl
 ·rw [w3] at hb;rw [w4 b' (by omega)];exact hS.wf b' hb
end
end Go.V
end
section
namespace Go.V
open Go.Wk
def T.mp {α β:Type} (f:α→β):T α→T β
 | .lf=>.lf
 | .nd v l r=>.nd (v.map f) (T.mp f l) (T.mp f r)
theorem T.adt {α β:Type} (f:α→β) (t:T α):∀ n,(t.mp f).get n=(t.get n).map f:=by
 induction t with
 | lf=>intro n;rfl
 | nd v l r ihl ihr =>
  intro n;cases n with
  | zero=>rfl
  | succ m =>
   simp only [T.mp,T.get];cases xN (m % 2) 0
   ·exact ihr _
   ·exact ihl _
def sD.vy:sD→sD
 | .cells _ c=>.ro c
 | .ro c=>.ro c
 | _=>.dead
def Hp.vy (h:Hp):Hp:=⟨h.next,h.t.mp sD.vy⟩
theorem Hp.NV (h:Hp) (b:Nat):h.vy.get b=(h.get b).map sD.vy:=T.adt _ _ _
section
variable {P:oZ} {ρ:Ren} {h:Hp} {w W:World} {b:Nat} {i:Info}
theorem VM (h:Hp) (b:Nat):xj (h.vy.set b .dead):=fun b' ⟨B,q1,q2⟩=>by
 rw [Hp.pD] at q1
 split at q1
 ·obtain rfl:=oQ q1;cases q2
 ·rw [Hp.NV] at q1;obtain ⟨B',_,rfl⟩:=pU.1 q1;cases B' <;> cases q2
theorem Rel.seen (r:Rel ρ h w) (hb:ρ b=some i) (ho:own h b) (hs:w.heap.size≤W.heap.size) (hk:∀ g,g < w.heap.size→g≠i.g→W.heap[g]? = w.heap[g]?):Rel ρ (h.vy.set b .dead) W:=by
 refine ⟨fun b' i' e=>⟨(r.tq b' i' e).1,xO (r.tq b' i' e).2 hs⟩,fun b' i' B e f=>?_,fun b1 b2 i1 i2 _ _ _ q=>absurd q (VM h b b2),fun b' hn=>?_⟩
 ·rw [Hp.pD] at f
  split at f
  ·obtain rfl:=oQ f;trivial
  ·rename_i pM;rw [Hp.NV] at f;obtain ⟨B',hg,rfl⟩:=pU.1 f;have hB:=r.qS b' i' B' e hg;have Jl:∀ Qe ,B' = Qe→Qe.LX=true→i'.g≠i.g:=fun Qe eq hl q=>pM (r.inj b' b i' i e hb ⟨B',hg,eq ▸ hl⟩ ho q);cases B' with
   | cells z c =>
    have hn:=Jl _ rfl rfl;obtain ⟨_,_,_,h4,_,h6⟩:=hB;refine ⟨h4,fun j u hj=>?_⟩;obtain ⟨u',a,q⟩:=h6 j u hj;exact ⟨u',by rw [Hl (a:=⟨i'.g,i'.base+j,none⟩) (hk _ (r.tq b' i' e).2 hn)];exact a,q⟩
   | ro c =>
    have hn:=Jl _ rfl rfl;obtain ⟨h4,h6⟩:=hB;refine ⟨h4,fun j u hj=>?_⟩;obtain ⟨u',a,q⟩:=h6 j u hj;exact ⟨u',by rw [Hl (a:=⟨i'.g,i'.base+j,none⟩) (hk _ (r.tq b' i' e).2 hn)];exact a,q⟩
   | map es=>trivial
   | dead=>trivial
 ·have y8:h.next≤b':=hn;rw [Hp.pD,if_neg (by have:=(r.tq b i hb).1;omega),Hp.NV,r.wf b' y8];rfl
theorem ad1 {q o:Nat} {u:jD} (hq:q≠b) (e:rJ h q o=some u):rJ (h.vy.set b .dead) q o=some u:=by
 unfold rJ at e ⊢;rw [Hp.pD,if_neg hq,Hp.NV];cases hg:h.get q with
 | none=>rw [hg] at e;cases e
 | some B =>
  rw [hg] at e;cases B with
  | cells z c=>exact e
  | ro c=>exact e
  | map es=>cases e
  | dead=>cases e
theorem agy {W w':World} (h:Kept W w'):∃ q os,w' = Go.Sort.grow (W.drewN q) os:=by
 refine ⟨w'.drawn - W.drawn,w'.heap.extract W.heap.size w'.heap.size,?_⟩;have h1:=h.os;have h2:=h.tape;have h3:=h.output;have h4:=h.drawn;have h5:=h.block;have h6:=h.size;obtain ⟨hp,tp,dr,os,out⟩:=w';simp only at h1 h2 h3 h4 h5 h6;subst h1;subst h2;subst h3;simp only [Go.Sort.grow,World.drewN]
 congr 1
 ·apply Array.ext_getElem?;intro i
  by_cases hi:i < W.heap.size
  ·rw [ME hi,h5 i hi]
  ·rw [Array.getElem?_append_right (by omega)]
   by_cases hl:i < hp.size
   ·simp [hl,show i - W.heap.size < hp.size - W.heap.size by omega,show W.heap.size+(i - W.heap.size)=i by omega]
   ·rw [Array.getElem?_eq_none (by omega),Array.getElem?_eq_none (by simp;omega)]
 ·omega
end
def IG (P:oZ) (K0:Tb) (f z:Nat):Tb:=fun f' args h M=>f' = f ∧ ∃ (β:Type) (x0:β) (enc:β→Cl z) (cf:β→β→Int) (xs:List β) (g b:Nat) (k:Option Nat) (rest:List jD) (fn:Func) (c:Code),
 args=[.sl (some (b,0)) xs.length (.of z k),.f g []]∧h.get b=some (.cells z ((xs.map fun x=>(enc x).1).flatten++rest))∧0 < xs.length∧xs.length≤2 ^ 30∧0 < z∧Go.Sort.SWO (Go.Proofs.ltOf cf)∧(∀ x,(enc x).1.all jD.one=true) ∧
 P.funcs[g]? = some fn∧fn.body=some c∧fn.name ≠ "runtime.NumGoroutine" ∧
 (∀ x y h',Wf h' → (∀ q o u,q≠b→rJ h q o=some u→rJ h' q o=some u)→pa P K0 g [.agg (enc x).1,.agg (enc y).1] h' fun v _=>v = .i .i64 (cf x y)) ∧
 ∀ S:List β,S.Perm xs→S.Pairwise (fun x y=>¬ cf y x < 0)→M (.qR []) (h.set b (.cells z ((S.map fun x=>(enc x).1).flatten++rest)))
section
open Go.Sort Go.Shelf Go.Proofs
abbrev yz (ρ:Ren) {β:Type} {z:Nat} (enc:β→Cl z):={ p:β × List oT // p.2.length=z∧pj ρ (enc p.1).1 p.2 }
theorem YI {ρ:Ren} {β:Type} {z:Nat} (enc:β→Cl z):∀ (xs:List β) (us:List oT),pj ρ ((xs.map fun x=>(enc x).1).flatten) us → ∃ ds:List (yz ρ enc),ds.map (fun p=>p.1.1)=xs∧(ds.map fun p=>p.1.2).flatten=us
 | [],us,h=>⟨[],rfl,by have:us=[]:=tP (by rw [← h.1];rfl);rw [this];rfl⟩
 | x::xs,us,h=>by
  rw [xi,vh] at h;have hz:(enc x).1.length=z:=(enc x).2;have hlen:=h.1;rw [rH,hz] at hlen;have h1:pj ρ (enc x).1 (us.take z):=⟨by rw [rb,hz];omega,fun j u u' a b=>h.2 j u u' (by rw [s6 (qO.1 a).1];exact a) (by
   rw [tQ] at b
   split at b
   ·exact b
   ·cases b)⟩
  have h2:pj ρ (xs.map fun x=>(enc x).1).flatten (us.drop z):=⟨by rw [ue];omega,fun j u u' a b=>h.2 (z+j) u u' (by rw [s7 (by omega),hz,Nat.add_sub_cancel_left];exact a) (by rw [vi] at b;exact b)⟩
  obtain ⟨ds,q1,q2⟩:=YI enc xs _ h2;exact ⟨⟨(x,us.take z),by rw [rb];omega,h1⟩::ds,by simp [q1],by simp [q2]⟩
theorem Rk {ρ:Ren} {β:Type} {z:Nat} (enc:β→Cl z) (ds:List (yz ρ enc)):pj ρ ((ds.map fun p=>(enc p.1.1).1).flatten) (ds.map fun p=>p.1.2).flatten:=by
 induction ds with
 | nil=>exact pj.nil
 | cons p ds ih=>exact p.2.2.append ih
theorem Rl {α:Type} [Inhabited α] {enc:α→List oT} {k:Nat} (hk:∀ x,(enc x).length=k) (hp:0 < k) (ds:List α) {j:Nat} {u:oT} (hj:(ds.map enc).flatten[j]? = some u):j < ds.length*k∧(flatK enc k ds.toArray)[j]! = u:=by
 have hl:(ds.map enc).flatten.length=ds.length*k:=by
  induction ds with
  | nil=>simp
  | cons d r ih =>
   clear hj
   have:∀ r:List α,(r.map enc).flatten.length=r.length*k:=fun r=>by
    induction r with
    | nil=>simp
    | cons d r ih=>rw [xi,vh,rH,hk,ih,Ew,rV];omega
   exact this _
 have ta:j < ds.length*k:=by rw [← hl];exact (qO.1 hj).1
 refine ⟨ta,?_⟩;have key:∀ (ds:List α) (j:Nat),j < ds.length*k→(ds.map enc).flatten[j]? = (ds[j / k]?).bind fun d=>(enc d)[j % k]?:=fun ds=>by
  induction ds with
  | nil=>intro j h;simp at h
  | cons d r ih =>
   intro j h;rw [xi,vh]
   by_cases pv:j < k
   ·rw [s6 (by rw [hk];exact pv),UY pv,FD pv];rfl
   ·have e1:j / k=(j - k) / k+1:=Nat.div_eq_sub_div hp (by omega);have e2:j % k=(j - k) % k:=U1 (by omega);rw [s7 (by rw [hk];omega),hk,ih (j - k) (by rw [Ew,rV] at h;omega),e1,e2];rfl
 rw [key ds j ta,oV] at hj;obtain ⟨d,q1,q2⟩:=hj;rw [get_flatK _ _ _ _ (by simpa using ta)];have hi:=qO.1 q1;have hd:ds.toArray[j / k]! = d:=by rw [getElem!_pos ds.toArray (j / k) (by simpa using hi.1)];simpa using hi.2
 rw [hd];have hq:=qO.1 q2;rw [getElem!_pos (enc d) (j % k) hq.1];exact hq.2
section
variable {P:oZ} {K0:Tb} {ρs:Go.Shelf.Ren} {f z:Nat} {ff:Func} {cf0:Code}
theorem Vf (hK0:AO P K0) (L:SlLaysF0.n6 P ρs) (hf:ρs.f 6=f) (aE:∀ w,(isAgg (ρs.t 24)).run P w = .ok true w) (zE:∀ w,(Go.sizeOf (ρs.t 24)).run P w = .ok z w) (hff:P.funcs[f]? = some ff) (hbf:ff.body=some cf0) (hnf:ff.name ≠ "runtime.NumGoroutine"):AO P (IG P K0 f z):=by
 rintro f' args h M ⟨rfl,β,x0,enc,cf,xs,g,b,k,rest,fn,c,rfl,yG,sL,vP,hz,hO,h1,BD,tE,Ji,Lg,hM⟩ ρ w tJ r hr;have RY:own h b:=⟨_,yG,rfl⟩
 have main:∀ (i:Info) (c':Nat),ρ b=some i→Qg P f' #[.slice (some ⟨i.g,i.base+0,none⟩) xs.length c',.func (.func g) #[] #[]] w fun v' w'=>∃ v h' ρ',M v h' ∧ VR ρ' v v' ∧ Rel ρ' h' w' ∧ Ext ρ h w ρ' h' w':=by
  intro i c' hb;obtain ⟨b1,b2,b3,b4,⟨b5,b6⟩,b7⟩:=r.qS b i _ hb yG;obtain ⟨RF,Xz⟩:=r.tq b i hb;have rT:((xs.map fun x=>(enc x).1).flatten).length=xs.length*z:=by
   have:=Ai (xs.map enc);simpa [CT,Function.comp_def] using this
  let us:List oT:=(sN (xs.length*z)).map fun j=>(w.cell? ⟨i.g,i.base+j,none⟩).getD undef
  have D1:pj ρ ((xs.map fun x=>(enc x).1).flatten) us:=⟨by simp [us,rT],fun j u u' a q=>by
   have hj:j < xs.length*z:=by rw [← rT];exact (qO.1 a).1
   obtain ⟨u2,p1,p2⟩:=b7 j u (by rw [s6 (by rw [rT];exact hj)];exact a);simp [us,hj,p1] at q;subst q;exact p2⟩
  obtain ⟨ds,d1,d2⟩:=YI enc xs us D1;have zI:ds.length=xs.length:=by rw [← d1,wz]
  obtain ⟨d0,xE⟩:∃ d0,ds[0]? = some d0:=⟨_,pF (by omega)⟩
  haveI:Inhabited (yz ρ enc):=⟨d0⟩
  have hk:∀ p:yz ρ enc,p.1.2.length=z:=fun p=>p.2.1;have wY:∀ p:yz ρ enc,∀ v∈p.1.2,v.oneCell' = true:=fun p=>p.2.2.one (h1 _);have hO':SWO (ltOf fun p q:yz ρ enc=>cf p.1.1 q.1.1):=⟨fun x=>hO.irrefl _,fun x y z=>hO.trans _ _ _,fun x y z=>hO.ntrans _ _ _⟩
  have ad0:∀ j,j < ds.length*z→w.cell? ⟨i.g,i.base+j,none⟩=some ((flatK (fun p:yz ρ enc=>p.1.2) z ds.toArray)[j]!):=fun j hj=>by
   obtain ⟨u,hu⟩:∃ u,((ds.map fun p=>p.1.2).flatten)[j]? = some u:=by
    rw [d2];exact ⟨_,pF (by simp [us];rw [← zI];exact hj)⟩
   rw [(Rl hk hz ds hu).2];rw [d2] at hu;have u6:j < xs.length*z:=by rw [← zI];exact hj
   have hs:=(b5 (i.base+j) (by rw [b2,rH,rT] at b3;omega)).1;obtain ⟨u2,yJ⟩:=Km.1 hs;simp [us,u6,yJ] at hu;rw [yJ,hu]
  have adC:HoldsK (fun p:yz ρ enc=>p.1.2) z w i.g i.base ds.toArray:=by
   intro j hj;have u6:j < ds.length*z:=by simpa using hj
   refine ⟨ad0 j u6,(b5 (i.base+j) ?_).2⟩;rw [zI] at u6;rw [b2,rH,rT] at b3;omega
  have RH:=AnyQ.slices_SortFunc L z aE zE (fun p:yz ρ enc=>p.1.2) hk wY (fun p q=>cf p.1.1 q.1.1) hO' g #[] i.g i.base c' ds.toArray w (fun args w=>O2 BD tE Ji args w) (fun m os dk _ x y=>by
   have zO:w.heap.size≤(sortWorldK (fun p:yz ρ enc=>p.1.2) z w i.g i.base m dk os).heap.size:=by
    show w.heap.size≤((mapBlock (BU w m) i.g _).heap++os).size;simp [mapBlock,BU]
   have LC:∀ q,q < w.heap.size→q≠i.g→(sortWorldK (fun p:yz ρ enc=>p.1.2) z w i.g i.base m dk os).heap[q]? = w.heap[q]?:=fun q hq R7=>by
    show ((mapBlock (BU w m) i.g _).heap++os)[q]? = _;rw [ME (by simp [mapBlock,BU];omega)];simp [mapBlock,BU,DD];intro h;exact absurd h.symm R7
   have hR:=r.seen hb RY zO LC;have HN:Wf (h.vy.set b .dead):=hR.wf;have hx:=Lg x.1.1 y.1.1 _ HN (fun q o u hq e=>ad1 hq e);have hv:pj ρ [.agg (enc x.1.1).1,.agg (enc y.1.1).1] [.agg x.1.2.toArray,.agg y.1.2.toArray]:=pj.cons (.agg x.2.2.1 x.2.2.2) (pj.cons (.agg y.2.2.1 y.2.2.2) pj.nil);refine Calls.mono (XW.back (M:=fun v _=>v = .i .i64 (cf x.1.1 y.1.1)) hK0 BD tE Ji hR hv hx) fun e w' hq=>?_;cases e with
   | returned v' =>
    obtain ⟨v,h',ρ',rfl,q2,q3,q4⟩:=hq;cases q2;obtain ⟨q,os',e⟩:=agy (q4.kept (VM h b));exact ⟨rfl,q,os',e⟩
   | _=>exact hq.elim) adC Xz (by simp;omega)
  refine .inl ⟨by rw [← hf];rw [hf];exact O2 hff hbf hnf _ w,?_⟩;rw [hf] at RH;simp only [UU,zI] at RH;rw [xM];refine Calls.mono RH fun e w' hq=>?_;obtain ⟨rfl,d',n,os,hp,LK,rfl⟩:=hq;have HJ:d'.toList.Perm ds:=by
   have h3:=hp.2.2;have h4:d'.size=xs.length:=by have:=hp.1;simp at this;omega
   simp only [List.extract_toArray] at h3;rw [← h4] at h3;rw [Array.extract_size] at h3;have h5:d'.size=ds.length:=by omega
   simpa [h5] using h3
  have ad9:d'.toList.toArray=d':=by simp
  rw [← ad9] at LK ⊢;generalize d'.toList=S at *;have Ry:S.length=xs.length:=by rw [HJ.length_eq,zI]
  have afH:(S.map fun p=>p.1.1).Pairwise fun x y=>¬ cf y x < 0:=by
   rw [UR,List.pairwise_iff_getElem];intro a q ha hq haq;have h3:=LK a q (pY _) haq (by rw [← Ry];exact hq);rw [getElem!_pos S.toArray a (by simpa using ha),getElem!_pos S.toArray q (by simpa using hq)] at h3;simpa [ltOf] using h3
  have afv:(S.map fun p=>p.1.1).Perm xs:=by rw [← d1];exact HJ.map _
  have Xg:=hM _ afv afH;have hSf:((S.map fun p=>p.1.1).map fun x=>(enc x).1).flatten=(S.map fun p=>(enc p.1.1).1).flatten:=by rw [CT];rfl
  rw [hSf] at Xg;have K7:((S.map fun p=>(enc p.1.1).1).flatten).length=xs.length*z:=by
   have:=Ai ((S.map fun p=>p.1.1).map enc);simpa [CT,Function.comp_def,Ry] using this
  obtain ⟨RN,D0,hgf,zJ⟩:∃ c e fr,w.heap[i.g]? = some (.cells c e fr):=by
   have hs:=(b5 i.base (by rw [b2,rH,rT] at b3;have:=IA sL hz;omega)).1;obtain ⟨u,hu⟩:=Km.1 hs;obtain ⟨c,e,fr,q,_⟩:=cells_of_cell? hu;exact ⟨c,e,fr,q⟩
  have hW:∀ q,q < w.heap.size→q≠i.g→(sortWorldK (fun p:yz ρ enc=>p.1.2) z w i.g i.base n S.toArray os).heap[q]? = w.heap[q]?:=fun q hq R7=>by
   show ((mapBlock (BU w n) i.g _).heap++os)[q]? = _;rw [ME (by simp [mapBlock,BU];omega)];simp [mapBlock,BU,DD];intro h;exact absurd h.symm R7
  have NZ:(sortWorldK (fun p:yz ρ enc=>p.1.2) z w i.g i.base n S.toArray os).heap[i.g]? = some (.cells (Go.Sort.putCells id i.base (flatK (fun p:yz ρ enc=>p.1.2) z S.toArray) RN) D0 hgf):=by
   show ((mapBlock (BU w n) i.g _).heap++os)[i.g]? = _;rw [ME (by simp [mapBlock,BU];exact Xz)];simp [mapBlock,BU,DD,zJ,onCells]
  have RG:∀ o,(sortWorldK (fun p:yz ρ enc=>p.1.2) z w i.g i.base n S.toArray os).cell? ⟨i.g,o,none⟩=if i.base≤o∧o < i.base+xs.length*z then some ((flatK (fun p:yz ρ enc=>p.1.2) z S.toArray)[o - i.base]!) else w.cell? ⟨i.g,o,none⟩:=fun o=>by
   have pv:i.base+xs.length*z≤RN.size:=by
    have hs:=(b5 (i.base+xs.length*z - 1) (by rw [b2,rH,rT] at b3;have:=IA sL hz;omega)).1;obtain ⟨u,hu⟩:=Km.1 hs;simp only [zq,zJ] at hu;have:=(Pz.1 hu).1;have:=IA sL hz;omega
   simp only [zq,NZ,zJ,Go.Sort.putCells,Array.getElem?_mapIdx,size_flatK,UU,Ry]
   by_cases ho:i.base≤o∧o < i.base+xs.length*z
   ·rw [if_pos ho,Array.getElem?_eq_getElem (by omega)];simp [ho]
   ·rw [if_neg ho];cases RN[o]? with
    | none=>rfl
    | some v=>simp only [rN,if_neg ho]
  have hfW:∀ o,(sortWorldK (fun p:yz ρ enc=>p.1.2) z w i.g i.base n S.toArray os).frozen? ⟨i.g,o,none⟩=w.frozen? ⟨i.g,o,none⟩:=fun o=>by simp only [Iu,NZ,zJ]
  have XQ:w.heap.size≤(sortWorldK (fun p:yz ρ enc=>p.1.2) z w i.g i.base n S.toArray os).heap.size:=by
   show w.heap.size≤((mapBlock (BU w n) i.g _).heap++os).size;simp [mapBlock,BU]
  have aeN:∀ b' i',ρ b' = some i' → b' ≠ b → ∀ B,h.get b' = some B→B.LX=true→i'.g≠i.g:=fun b' i' e pM B hB hl q=>pM (r.inj b' b i' i e hb ⟨B,hB,hl⟩ RY q);refine ⟨.qR [],_,ρ,Xg,.qR rfl (fun j u u' a _=>by simp at a),⟨fun b' i' e=>⟨(r.tq b' i' e).1,xO (r.tq b' i' e).2 XQ⟩,fun b' i' B e q=>?_,fun b1' b2' i1 i2 e1 e2 l1 l2 q=>?_,fun b' hn=>?_⟩,⟨Ren.le.refl _,px _,fun b' pP _=>⟨pP,?_⟩,XQ,fun g' vv rK=>⟨hW g' vv fun q=>rK b i hb RY q.symm,fun b' i' e o=>?_⟩,rfl,rfl,rfl,?_⟩⟩
  ·rw [Hp.pD] at q
   split at q
   ·rename_i vu;subst vu;rw [hb] at e;obtain rfl:=oQ e;obtain rfl:=oQ q;refine ⟨b1,by rw [b2,rH,rH,rT,K7],b3,?_,⟨fun o ho=>?_,fun c2 e2 fz hq=>?_,fun o u hq=>?_,fun sS c2 e2 fz hq=>?_⟩,fun j u hj=>?_⟩
    ·rw [rC] at b4 ⊢;simp only [rk] at b4 ⊢;refine ⟨qB.2 fun u hu=>?_,b4.2⟩;obtain ⟨l,hl,hu⟩:=tC.1 hu;obtain ⟨p,_,rfl⟩:=z7.1 hl;exact qB.1 (h1 p.1.1) u hu
    ·rw [hfW,RG];refine ⟨?_,(b5 o ho).2⟩
     split
     ·rfl
     ·exact (b5 o ho).1
    ·rw [NZ] at hq;simp only [qL,Obj.cells.injEq] at hq;obtain ⟨_,_,rfl⟩:=hq;exact b6.1 _ _ _ zJ
    ·rw [RG] at hq
     split at hq
     ·obtain rfl:=oQ hq;rename_i ho;obtain ⟨u',Dq⟩:∃ u',((S.map fun p=>p.1.2).flatten)[o - i.base]? = some u':=by
       have:=(Rk enc S).1;rw [K7] at this;exact ⟨_,pF (by rw [← this];omega)⟩
      rw [(Rl hk hz S Dq).2];exact (Rk enc S).one (qB.2 fun x hx=>by
       obtain ⟨l,hl,hx⟩:=tC.1 hx;obtain ⟨p,_,rfl⟩:=z7.1 hl;exact qB.1 (h1 p.1.1) x hx) _ (vC Dq)
     ·exact b6.2.1 o u hq
    ·rw [NZ] at hq;simp only [qL,Obj.cells.injEq] at hq;obtain ⟨_,_,rfl⟩:=hq;exact b6.2.2 sS _ _ _ zJ
    ·rw [RG]
     by_cases ta:j < xs.length*z
     ·rw [s6 (by rw [K7];exact ta)] at hj;obtain ⟨u',p1,p2⟩:=(Rk enc S).at hj;rw [if_pos ⟨by omega,by omega⟩,Nat.add_sub_cancel_left,(Rl hk hz S p1).2];exact ⟨u',rfl,p2⟩
     ·rw [s7 (by rw [K7];omega),K7] at hj;rw [if_neg (by omega)];exact b7 j u (by rw [s7 (by rw [rT];omega),rT];exact hj)
   ·rename_i pM;cases hl:B.LX with
    | true=>exact (r.qS b' i' B e q).congr (Ren.le.refl _) (hW _ (r.tq b' i' e).2 (aeN b' i' e pM B q hl))
    | false=>cases B <;> first | trivial | cases hl
  ·have cv:∀ x,live (h.set b (.cells z ((S.map fun p=>(enc p.1.1).1).flatten++rest))) x→live h x:=fun x ⟨B,p1,p2⟩=>by
    rw [Hp.pD] at p1
    split at p1
    ·rename_i hx;exact ⟨_,hx ▸ yG,rfl⟩
    ·exact ⟨B,p1,p2⟩
   have co:∀ x,own (h.set b (.cells z ((S.map fun p=>(enc p.1.1).1).flatten++rest))) x→own h x:=fun x ⟨B,p1,p2⟩=>by
    rw [Hp.pD] at p1
    split at p1
    ·rename_i hx;exact ⟨_,hx ▸ yG,rfl⟩
    ·exact ⟨B,p1,p2⟩
   exact r.inj b1' b2' i1 i2 e1 e2 (cv _ l1) (co _ l2) q
  ·have y8:h.next≤b':=hn;rw [Hp.pD,if_neg (by omega)];exact r.wf b' y8
  ·rw [Hp.pD,if_neg (fun q=>by rw [q,hb] at pP;cases pP)]
  ·have:own h b':=by
    obtain ⟨B,p1,p2⟩:=o;rw [Hp.pD] at p1
    split at p1
    ·rename_i hx;exact ⟨_,hx ▸ yG,rfl⟩
    ·exact ⟨B,p1,p2⟩
   exact rK b' i' e this
  ·show w.drawn≤w.drawn+n;omega
 match tJ,hr with
 | [u,v],hr =>
  have hu:=hr.head;have hv:=hr.tail.head;cases hv with
  | @f _ _ vs hl _ =>
   have:vs=[]:=tP hl.symm;subst this;generalize Cap.of z k=cp at hu;cases hu with
   | sk hb _=>exact main _ _ hb
   | so hb _ _ _=>exact main _ _ hb
 | [],hr=>exact absurd hr.1 (by simp)
 | [_],hr=>exact absurd hr.1 (by simp)
 | _::_::_::_,hr=>exact absurd hr.1 (by simp)
end
end
end Go.V
end
section
namespace Go.Wk
open Go.Shelf Go.Sort Go.Lib Go.Proofs
section
variable {α:Type}
def ins (cf:α→α→Int) (x:α):List α→List α
 | []=>[x]
 | y::l=>if cf x y < 0 then x::y::l else y::ins cf x l
def A3 (cf:α→α→Int) (l:List α):List α:=l.foldr (ins cf) []
theorem X7 (cf:α→α→Int) (x:α) (l:List α):(ins cf x l).Perm (x::l):=by
 induction l with
 | nil=>exact MS _
 | cons y l ih =>
  unfold ins
  split
  ·exact MS _
  ·exact (List.Perm.cons y ih).trans (List.Perm.swap x y l)
theorem HR (cf:α→α→Int) (l:List α):(A3 cf l).Perm l:=by
 induction l with
 | nil=>exact MS _
 | cons x l ih=>exact (X7 cf x _).trans (List.Perm.cons x ih)
theorem agq (cf:α→α→Int) (l:List α):(A3 cf l).length=l.length:=(HR cf l).length_eq
theorem ahd {cf:α→α→Int} {l:List α} {x:α}:x∈A3 cf l ↔ x∈l:=(HR cf l).mem_iff
def B6 (cf:α→α→Int) (l:List α):Prop:=l.Pairwise fun x y=>¬ cf y x < 0
theorem agk {cf:α→α→Int} (hO:SWO (ltOf cf)) (x:α) (l:List α) (h:B6 cf l):B6 cf (ins cf x l):=by
 induction l with
 | nil=>simp [ins,B6]
 | cons y l ih =>
  have h':=G2.1 h;unfold ins
  split
  ·rename_i HO;refine G2.2 ⟨fun z hz hzx=>?_,h⟩;have e1:ltOf cf x y=true:=by simpa [ltOf] using HO
   have e2:ltOf cf z x=true:=by simpa [ltOf] using hzx
   have e3:=hO.trans z x y e2 e1;have e3':cf z y < 0:=by simpa [ltOf] using e3
   rcases sg.1 hz with rfl | hz
   ·have:=hO.irrefl z;rw [e3] at this;cases this
   ·exact h'.1 z hz e3'
  ·rename_i HO;refine G2.2 ⟨fun z hz=>?_,ih h'.2⟩;rcases sg.1 ((X7 cf x l).mem_iff.1 hz) with rfl | hz
   ·exact HO
   ·exact h'.1 z hz
theorem Sw {cf:α→α→Int} (hO:SWO (ltOf cf)) (l:List α):B6 cf (A3 cf l):=by
 induction l with
 | nil=>exact List.Pairwise.nil
 | cons x l ih=>exact agk hO x _ ih
theorem Y2 {cf:α→α→Int} (hT:∀ x y,ltOf cf x y=false→ltOf cf y x=false→x=y) {a b:List α} (h1:B6 cf a) (h2:B6 cf b) (hp:a.Perm b):a=b :=
 List.Perm.eq_of_pairwise (le:=fun x y=>¬ cf y x < 0) (fun x y _ _ h3 h4=>hT x y (by simpa [ltOf] using h4) (by simpa [ltOf] using h3)) h1 h2 hp
end
theorem Mq:∀ (x y:List UInt8),qI x y=decide (x < y)
 | [],[]=>by simp [qI,Bh]
 | _::_,[]=>by simp [qI,Bh]
 | [],_::_=>by simp [qI,Bh]
 | a::x,b::y=>by
  have h:=Mq x y;rw [qI] at h ⊢;rw [Bh,h];simp only [List.cons_lt_cons_iff]
  by_cases h1:a < b <;> by_cases h2:a=b <;> by_cases h3:x < y <;> simp [h1,h2,h3]
theorem Fj (x:List UInt8):qI x x=false:=by rw [Mq];simp [List.lt_irrefl]
theorem Fk {x y z:List UInt8} (h1:qI x y=true) (h2:qI y z=true):qI x z=true:=by
 rw [Mq,decide_eq_true_eq] at *;exact List.lt_trans h1 h2
theorem H9 {x y:List UInt8} (h1:qI x y=false) (h2:qI y x=false):x=y:=by
 rw [Mq,decide_eq_false_iff_not,List.not_lt] at *;exact List.le_antisymm h2 h1
theorem Zf {x y:List UInt8} (h1:qI x y=true):qI y x=false:=by
 cases h:qI y x with
 | false=>rfl
 | true=>have:=Fk h1 h;rw [Fj] at this;cases this
theorem I4 (a b:List UInt8):ltOf uE a b=qI a b:=by
 simp only [ltOf,uE]
 by_cases h:qI a b=true
 ·simp [h]
 ·by_cases h2:qI b a=true <;> simp [h,h2]
theorem TO:SWO qI:=⟨Fj,fun _ _ _=>Fk,fun x y z h1 h2=>by
 rw [Mq,decide_eq_false_iff_not,List.not_lt] at *;exact List.le_trans h2 h1⟩
theorem akJ {α:Type} {cf:α→α→Int} {f:α→List UInt8} (h:∀ x y,ltOf cf x y=qI (f x) (f y)):SWO (ltOf cf) :=
 ⟨fun x=>by rw [h];exact TO.irrefl _,fun x y z h1 h2=>by rw [h] at *;exact TO.trans _ _ _ h1 h2,fun x y z h1 h2=>by rw [h] at *;exact TO.ntrans _ _ _ h1 h2⟩
theorem Xb (a b:List UInt8):(!(qI a b||a == b))=qI b a:=by
 cases h:qI a b with
 | true=>rw [Zf h];rfl
 | false =>
  cases h2:qI b a with
  | true =>
   have:a≠b:=by intro e;subst e;rw [Fj] at h2;cases h2
   simp [this]
  | false=>have:=H9 h h2;simp [this]
end Go.Wk
end
section
namespace Go.V
open Go.Wk Go.Sort Go.Proofs
section
variable {α:Type} {t:To α} {F:jL} {h:Hp}
abbrev IC (t:To α) (F:jL) (h:Hp):={ p:Cl t.size × List Nat × α // t.rel F h p.2.1 p.1.1 p.2.2 }
theorem elems:∀ {css:List (Cl t.size)} {bss:List (List Nat)} {xs:List α},rI t F h css bss xs → ∃ ds:List (IC t F h),ds.map (fun p=>p.1.1)=css∧ds.map (fun p=>p.1.2.1)=bss∧ds.map (fun p=>p.1.2.2)=xs
 | [],[],[],_=>⟨[],rfl,rfl,rfl⟩
 | c::css,e::bss,x::xs,r=>by
  obtain ⟨ds,h1,h2,h3⟩:=elems (css:=css) (bss:=bss) (xs:=xs) ⟨by simpa using r.rm,by simpa using r.tn,fun i d x e q1 q2 q3=>r.rel (i+1) d x e (by simpa using q1) (by simpa using q2) (by simpa using q3)⟩;exact ⟨⟨(c,e,x),r.rel 0 c x e rfl rfl rfl⟩::ds,by simp [h1],by simp [h2],by simp [h3]⟩
 | [],_::_,_,r=>by have:=r.rm;have:=r.tn;simp at *;omega
 | [],[],_::_,r=>by have:=r.rm;simp at this
 | _::_,[],_,r=>by have:=r.rm;have:=r.tn;simp at *;omega
 | _::_,_::_,[],r=>by have:=r.rm;simp at this
theorem ac1 (ds:List (IC t F h)):rI t F h (ds.map fun p=>p.1.1) (ds.map fun p=>p.1.2.1) (ds.map fun p=>p.1.2.2) :=
 ⟨by simp,by simp,fun i d x e q1 q2 q3=>by
  simp only [xh,pU] at q1 q2 q3;obtain ⟨p,hp,rfl⟩:=q1;obtain ⟨p2,XN,rfl⟩:=q2;obtain ⟨p3,XO,rfl⟩:=q3;rw [hp] at XN XO;obtain rfl:=oQ XN;obtain rfl:=oQ XO;exact p.2⟩
theorem ahR {β:Type} {a b:List (List β)} (p:a.Perm b):a.flatten.Perm b.flatten:=by
 induction p with
 | nil=>exact MS _
 | cons x _ ih=>simpa using ih.append_left x
 | swap x y l=>simp only [vh,← tF];exact List.Perm.append_right _ List.perm_append_comm
 | trans _ _ za wj=>exact za.trans wj
end
theorem akA {P:oZ} {K K0:Tb} {α:Type} {t:To α} {tr:Tr α} {f g z:Nat} {cf:α→α→Int} {fn:Func} {c:Code} (hK:∀ args h M,IG P K0 f z f args h M→K f args h M) (hz:t.size=z) (sL:0 < z) (hs:DO t tr) (hO:SWO (ltOf cf)) (BD:P.funcs[g]? = some fn) (tE:fn.body=some c) (Ji:fn.name ≠ "runtime.NumGoroutine")
  (h0:∀ a k w,pa P K f [.sl a 0 k,.f g []] w fun u w'=>u = .qR []∧w' = w)
  (Lg:∀ G h' cs x ds y,Gd G h' → tr.rel G cs x→tr.rel G ds y→pa P K0 g [.agg cs,.agg ds] h' fun v _=>v = .i .i64 (cf x y))
  {F:jL} {w:Hp} {bs:List Nat} {v:jD} {xs:List α} (hS:St bs w F F [.dp t bs v xs] w):pa P K f [v,.f g []] w fun u w'=>u = .qR [] ∧ ∃ l' qv,l'.Perm xs∧B6 cf l' ∧ St bs w F F [.dp t qv v l'] w':=by
 subst hz;have Yb:∀ a k,v = .sl a 0 k→xs=[]→pa P K f [v,.f g []] w fun u w'=>u = .qR [] ∧ ∃ l' qv,l'.Perm xs∧B6 cf l' ∧ St bs w F F [.dp t qv v l'] w':=fun a k hv hx=>by
  subst hv;subst hx;refine (h0 a k w).mono fun u w' ⟨q1,q2⟩=>⟨q1,[],bs,MS _,List.Pairwise.nil,by rw [q2];exact hS⟩
 obtain ⟨v0,rj,r⟩:=hS.ok (i:=0) rfl;obtain rfl:=wS rj;rcases r with ⟨rfl,Cw,_⟩ | ⟨b,cl,k,css,bss,r⟩
 ·exact Yb _ _ rfl Cw
 ·have hf:v = .sl (some (b,0)) xs.length (.of t.size k):=r.form
  by_cases hx:xs.length=0
  ·exact Yb _ _ (by rw [hf,hx]) (tP hx)
  have hE:rI t F w css bss xs:=⟨r.rm,r.tn,r.rel⟩
  obtain ⟨ds,d1,d2,d3⟩:=elems hE;have zI:ds.length=xs.length:=by rw [← d3,wz]
  have Hu:bs=b::bss.flatten:=r.yF;have zL:bs.Nodup:=r.nodup;rw [Hu] at zL;obtain ⟨wh,wJ⟩:=xL.1 zL;have hblk:w.get b=some (.cells t.size cl):=r.qS;have rT:cl=((ds.map fun p=>p.1.1.1).flatten)++cl.drop (xs.length*t.size):=by
   have h1:cl.take (xs.length*t.size)=(ds.map fun p=>p.1.1.1).flatten:=by
    have:=r.cells;rw [← d1,CT] at this;exact this
   rw [← h1,z8]
  have hFb:∀ o,F b o=none:=(hS.own 0 _ rfl).2 b (by show b∈bs;rw [Hu];simp) |>.1;have hEb:∀ p:IC t F w,p∈ds → ∀ q,q∈p.1.2.1→q∈bss.flatten:=fun p hp q hq=>tC.2 ⟨p.1.2.1,by rw [← d2];exact UQ hp,hq⟩;rw [hf];obtain ⟨p0,hp0⟩:∃ p0,ds[0]? = some p0:=⟨_,pF (by omega)⟩
  let β:={ p:IC t F w // p∈ds }
  have Xl:(ds.attach.map fun p=>p.1)=ds:=List.attach_map_subtype_val ds;have RB:ds.attach.length=xs.length:=by rw [List.length_attach,zI]
  have hKs:IG P K0 f t.size f [.sl (some (b,0)) xs.length (.of t.size k),.f g []] w fun u w'=>u = .qR [] ∧ ∃ l' qv,l'.Perm xs∧B6 cf l' ∧ St bs w F F [.dp t qv (.sl (some (b,0)) xs.length (.of t.size k)) l'] w':=by
   refine ⟨rfl,β,⟨p0,vC hp0⟩,fun p=>p.1.1.1,fun p q=>cf p.1.1.2.2 q.1.1.2.2,ds.attach,g,b,k,cl.drop (xs.length*t.size),fn,c,by rw [RB],?_,by rw [RB];omega,by rw [RB];exact r.zG,sL,⟨fun x=>hO.irrefl _,fun x y z=>hO.trans _ _ _,fun x y z=>hO.ntrans _ _ _⟩,fun x=>t.one x.1.2,BD,tE,Ji,fun x y h' hw hh=>?_,fun S hp hr=>?_⟩
   ·rw [hblk];have e:(ds.attach.map fun x:β=>x.1.1.1.1).flatten=(ds.map fun p=>p.1.1.1).flatten:=by
     conv=>rhs;rw [← Xl]
     rw [CT];rfl
    rw [e,← rT]
   ·have hG:Gd (fun q o=>if q=b then none else rJ w q o) h':=⟨hw,fun q o u e=>by
     by_cases hq:q=b
     ·rw [if_pos hq] at e;cases e
     ·rw [if_neg hq] at e;exact hh q o u hq e⟩
    have hl:F.le fun q o=>if q=b then none else rJ w q o:=fun q o u e=>by
     by_cases hq:q=b
     ·rw [hq,hFb] at e;cases e
     ·show (if q=b then none else rJ w q o)=some u;rw [if_neg hq];exact hS.agree q o u e
    have sM:∀ p:β,tr.rel (fun q o=>if q=b then none else rJ w q o) p.1.1.1.1 p.1.1.2.2:=fun p=>hs.rel p.1.2 hl fun q hq o u e=>by
     show (if q=b then none else rJ w q o)=some u;have As:q≠b:=fun z=>wh (by rw [← z];exact hEb p.1 p.2 q hq);rw [if_neg As];exact e
    exact Lg _ _ _ _ _ _ hG (sM x) (sM y)
   ·have HJ:(S.map fun p=>p.1).Perm ds:=by have:=hp.map (fun p:β=>p.1);rw [Xl] at this;exact this
    generalize hT:(S.map fun p=>p.1)=T at HJ;have Xh:T.length=xs.length:=by rw [HJ.length_eq,zI]
    have hTr:(T.map fun p=>p.1.2.2).Pairwise fun x y=>¬ cf y x < 0:=by
     rw [← hT,CT,UR];exact hr
    have hTc:(S.map fun x:β=>x.1.1.1.1).flatten=(T.map fun p=>p.1.1.1).flatten:=by rw [← hT,CT];rfl
    rw [hTc];have NY:=ac1 T;have N1:(T.map fun p=>p.1.2.1).flatten.Perm bss.flatten:=by rw [← d2];exact ahR (HJ.map _)
    have Lu:(T.map fun p=>p.1.2.2).length=xs.length:=by rw [wz,Xh]
    have RK:((T.map fun p=>p.1.1).map qK).flatten=(T.map fun p=>p.1.1.1).flatten:=by rw [CT];rfl
    have sG:((T.map fun p=>p.1.1.1).flatten).length=xs.length*t.size:=by rw [← RK,Ai,wz,Xh]
    have Xr:cl.length=xs.length*t.size+(cl.drop (xs.length*t.size)).length:=by
     conv=>lhs;rw [rT]
     rw [rH]
     congr 1
     have:=Ai (ds.map fun p=>p.1.1);rw [CT,wz,zI] at this;exact this
    have RW:w.next≤(w.set b (.cells t.size ((T.map fun p=>p.1.1.1).flatten++cl.drop (xs.length*t.size)))).next:=px _;have Jm:∀ q,q≠b→(w.set b (.cells t.size ((T.map fun p=>p.1.1.1).flatten++cl.drop (xs.length*t.size)))).get q=w.get q:=fun q hq=>by rw [Hp.pD,if_neg hq]
    have hR:C3 t F (w.set b (.cells t.size ((T.map fun p=>p.1.1.1).flatten++cl.drop (xs.length*t.size)))) (b::(T.map fun p=>p.1.2.1).flatten) (.sl (some (b,0)) xs.length (.of t.size k)) (T.map fun p=>p.1.2.2) b ((T.map fun p=>p.1.1.1).flatten++cl.drop (xs.length*t.size)) k (T.map fun p=>p.1.1) (T.map fun p=>p.1.2.1):=by
     refine ⟨by rw [Lu],by rw [Hp.pD,if_pos rfl],r.lt,NY.rm,NY.tn,fun i d x e q1 q2 q3=>?_,?_,fun q=>?_,fun m q=>?_,by rw [Lu];exact r.zG,?_,rfl,?_⟩
     ·refine t.frame (NY.rel i d x e q1 q2 q3) RW fun q hq=>Jm q fun z=>wh ?_;rw [← z];exact N1.mem_iff.1 (tC.2 ⟨e,vC q3,hq⟩)
     ·rw [Lu,← sG,P9,RK]
     ·rw [Lu,rH,sG,← Xr];exact r.CC q
     ·rw [Lu,rH,sG,← Xr];exact r.cap m q
     ·have h1:=NY.B8;rw [RK] at h1;have h2:(cl.drop (xs.length*t.size)).all jD.one=true:=qB.2 fun x hx=>qB.1 r.one x (yS hx);rw [rC,h1,h2];rfl
     ·exact xL.2 ⟨fun q=>wh (N1.mem_iff.1 q),N1.nodup_iff.2 wJ⟩
    have hpx:(T.map fun p=>p.1.2.2).Perm xs:=by
     have:=HJ.map fun p:IC t F w=>p.1.2.2;rw [d3] at this;exact this
    refine ⟨rfl,(T.map fun p:IC t F w=>p.1.2.2:List α),b::(T.map fun p=>p.1.2.1).flatten,hpx,hTr,?_⟩;have ux:=hS;rw [hf] at ux;have:=ux.vf (i:=0) (o':=.dp t (b::(T.map fun p=>p.1.2.1).flatten) (.sl (some (b,0)) xs.length (.of t.size k)) (T.map fun p=>p.1.2.2)) rfl ⟨_,rfl,.inr ⟨_,_,_,_,_,hR⟩⟩ RW (fun q hq=>by rw [Hp.pD,if_neg (by have:=r.lt;have xT:w.next≤q:=hq;omega)];exact hS.wf q hq) (fun q hq hn=>Jm q fun z=>hn (by show q∈bs;rw [Hu,z];simp)) (fun q hq=>.inl (by
     show q∈bs;rw [Hu];rcases sg.1 hq with z | z
     ·rw [z];simp
     ·exact ti _ (N1.mem_iff.1 z)))
    simpa using this
  exact .known (hK _ _ _ hKs) fun u w' m=>⟨u,w',rfl,m⟩
end Go.V
end
section
namespace Go.Wk
def Cp (d s:List UInt8):List UInt8:=s.take d.length++d.drop s.length
theorem Wz {d s:List UInt8} {n:Nat} (h:d.length=n):(Cp d s).length=n:=by simp [Cp];omega
def Hc (xs:List UInt8):Option (List UInt8):=if 32≤xs.length∧xs.length≤1073741824 then some (xs.take 32) else none
theorem VH {xs r:List UInt8} (h:Hc xs=some r):32≤xs.length∧r=xs.take 32:=by
 unfold Hc at h;split at h
 ·rename_i hc;exact ⟨hc.1,(oQ h).symm⟩
 ·cases h
theorem aa8 {xs r:List UInt8} (h:Hc xs=some r):r.length=32:=by
 obtain ⟨h1,rfl⟩:=VH h;simp;omega
end Go.Wk
namespace Go.V
open Go.Wk
def cB (b:UInt8):jD:=.i .u8 b.toNat
def pb (x:List UInt8):List jD:=(sN 32).map fun i=>.i .u8 ((x.getD i 0).toNat:Int)
theorem Cy (x:List UInt8):(pb x).length=32:=by simp [pb]
theorem LO (x:List UInt8):(pb x).all jD.one=true:=by simp [pb,jD.one]
theorem Gk {x:List UInt8} (h:x.length=32):pb x=x.map cB:=by
 apply Ke
 ·simp [pb,h]
 ·intro i h1 h2;have hi:i < x.length:=by simpa [pb,h] using h1
  simp [pb,cB,hi]
theorem af2 {x:List UInt8} (h:x.length=32) {i:Nat} {b:UInt8} (hb:x[i]? = some b):(pb x)[i]? = some (.i .u8 (b.toNat:Int)):=by
 rw [Gk h];simp [hb,cB]
def rX:Tr (List UInt8):=⟨32,fun _ cs x=>cs=pb x∧x.length=32,by decide,fun h=>by rw [h.1,Cy],fun h=>by rw [h.1,LO],fun _ h=>h⟩
section
variable {P:oZ} {t:oI} {k:vW} {a b:Int} {x y:List UInt8}
theorem sF {op:BinOp} (h:op = .and∨op = .or∨op = .xor):ru P op t (.i k a) (.i k b)=some (.i k (bits op k a b)):=by
 rcases h with rfl | rfl | rfl <;> simp only [ru,if_pos] <;> rfl
theorem EI {j:vW} (h0:0≤b) (h1:b≤(k.bits:Nat)):ru P .shl t (.i k a) (.i j b)=some (.i k (k.wrap (a*2 ^ b.toNat))):=by
 simp only [ru,JV];rw [if_neg (by omega),Bm (by omega)]
theorem DP {j:vW} (h0:0≤b) (h1:b≤(k.bits:Nat)):ru P .shr t (.i k a) (.i j b)=some (.i k (a / 2 ^ b.toNat)):=by
 simp only [ru,JV];rw [if_neg (by omega),Bm (by omega),Int.fdiv_eq_ediv_of_nonneg _ (Int.le_of_lt (Int.pow_pos (by decide)))]
def KS (P:oZ) (t:oI):Option (List yR):=match P.underlying t with
 | some (.struct _) | some (.array _ _)=>if P.eqGuardType P.depth t then none else K3 P t
 | _=>none
theorem IT {l:List yR} {xs ys:List jD} {q:Bool} (h:KS P t=some l) (hx:vT l xs=true) (hy:vT l ys=true) (he:ym xs ys=q):ru P .eql t (.agg xs) (.agg ys)=some (.b q):=by
 subst he;unfold KS at h
 split at h
 ·rename_i hu
  split at h
  ·cases h
  ·rename_i hg;simp only [ru,Ag,hu,h];rw [if_pos (by simp [hx,hy,hg])];rfl
 ·rename_i hu
  split at h
  ·cases h
  ·rename_i hg;simp only [ru,Ag,hu,h];rw [if_pos (by simp [hx,hy,hg])];rfl
 ·cases h
theorem QC {l:List yR} {xs ys:List jD} {q:Bool} (h:KS P t=some l) (hx:vT l xs=true) (hy:vT l ys=true) (he:ym xs ys=q):ru P .neq t (.agg xs) (.agg ys)=some (.b (!q)):=by
 have h2:=IT h hx hy he;simp only [ru,pU] at h2 ⊢;obtain ⟨a,h3,h4⟩:=h2;exact ⟨a,h3,by cases h4;rfl⟩
theorem WH:∀ (x y:List UInt8),ym (x.map cB) (y.map cB)=decide (x=y)
 | [],[]=>rfl
 | [],_::_=>rfl
 | _::_,[]=>rfl
 | a::x,b::y=>by
  simp only [xi,ym,WH x y,cB,zD,Iv,Bool.decide_and]
  congr 1
  have:((a.toNat:Int) == (b.toNat:Int))=decide (a=b):=by
   by_cases h:a=b
   ·subst h;simp
   ·have:a.toNat≠b.toNat:=fun e=>h (UInt8.toNat_inj.1 e);simp [h];omega
  rw [this];simp
theorem Jb {x y:List UInt8} (hx:x.length=32) (hy:y.length=32):ym (pb x) (pb y)=decide (x=y):=by
 rw [Gk hx,Gk hy,WH]
end
def xk (F:jL) (g:Nat) (cs:List jD):Prop:=∀ (o:Nat) (u:jD),cs[o]? = some u→F g o=some u
theorem xk.mono {F G:jL} {g:Nat} {cs:List jD} (h:xk F g cs) (l:F.le G):xk G g cs:=fun o u hu=>l _ _ _ (h o u hu)
def jL.hold (F:jL) (w:Hp) (bs:List Nat):jL:=fun b o=>match F b o with | some u=>some u | none=>if b∈bs then rJ w b o else none
theorem jL.Ou (F:jL) (w:Hp) (bs:List Nat):F.le (F.hold w bs):=fun b o u e=>by unfold jL.hold;rw [e]
theorem jL.afs {F G:jL} {w:Hp} {bs:List Nat} (l:F.le G) (hn:∀ g,g∈bs → ∀ q,G g q=none):(F.hold w bs).le (G.hold w bs):=fun b o u e=>by
 unfold jL.hold at e ⊢;cases hF:F b o with
 | some u'=>rw [hF] at e;rw [l _ _ _ hF];exact e
 | none =>
  rw [hF] at e;simp only at e
  split at e
  ·rename_i hb;rw [hn b hb o];simp only;rw [if_pos hb];exact e
  ·cases e
def ED (w:Hp) (g:Nat) (cs:List jD):Prop:=w.get g=some (.cells cs.length cs)
def HB (F:jL) (w h:Hp) (bs:List Nat):Prop:=∀ g,g∈bs→(∀ q,F g q=none) ∧ ∀ o u,rJ w g o=some u→rJ h g o=some u
section
variable {X:List Nat} {h0 h w:Hp} {F0 F:jL} {L:List Ob} {g:Nat} {cs:List jD} {bs:List Nat}
theorem St.tK (k:Nat) (s:St X h0 F0 F L h) (hk:L[k]? = some (.box g cs)):ED h g cs:=(s.Hh k hk).1
theorem HB.nil:HB F w h []:=fun g hg=>by cases hg
theorem HB.cons (k:Nat) (b:ED w g cs) (s:St X h0 F0 F L h) (hk:L[k]? = some (.box g cs)) (r:HB F w h bs):HB F w h (g::bs):=fun g' vv=>by
 rcases sg.1 vv with rfl | vv
 ·refine ⟨fun q=>((s.own k _ hk).2 g' (by simp [Ob.box])).1 q,fun o u e=>?_⟩;have h1:=(s.Hh k hk).1;have b':w.get g' = _:=b;unfold rJ at e ⊢;rw [b'] at e;rw [h1];exact e
 ·exact r g' vv
theorem HB.agree (r:HB F w h bs) (a:Agree F h):Agree (F.hold w bs) h:=fun b o u e=>by
 unfold jL.hold at e;cases hF:F b o with
 | some u'=>rw [hF] at e;obtain rfl:=oQ e;exact a _ _ _ hF
 | none =>
  rw [hF] at e;simp only at e
  split at e
  ·rename_i hb;exact (r b hb).2 o u e
  ·cases e
theorem HB.le {F':jL} (r:HB F' w h bs) (l:F.le F'):(F.hold w bs).le (F'.hold w bs):=jL.afs l fun g hg q=>(r g hg).1 q
theorem ED.held (b:ED w g cs) (r:HB F w h bs) (hg:g∈bs):xk (F.hold w bs) g cs:=fun o u hu=>by
 unfold jL.hold;rw [(r g hg).1 o];simp only;rw [if_pos hg];have b':w.get g=_:=b;unfold rJ;rw [b'];exact hu
theorem St.F5 (k:Nat) (is:List Nat) (s:St X h0 F0 F L h) (hk:L[k]? = some (.box g cs)) (qZ:is.Nodup) (Ct:k ∉ is) :
  ∃ F',F.le F' ∧ xk F' g cs∧St X h0 F0 F' (is.filterMap fun i=>L[i]?) h:=by
 have hp:=s.pick (k::is) (xL.2 ⟨Ct,qZ⟩);have e:((k::is).filterMap fun i=>L[i]?)=Ob.box g cs::is.filterMap fun i=>L[i]?:=by simp [hk]
 rw [e] at hp;have hf:=hp.freeze (i:=0) rfl;have hle:=jL.OQ (h:=h) (hp.SV (i:=0) rfl);refine ⟨_,hle,fun o u hu=>?_,by simpa using hf⟩;unfold jL.plus;rw [if_pos (by simp [Ob.box])];exact QK s hk hu
end
section
variable {P:oZ} {G:jL} {E:EL}
theorem wB {t:oI} {x:oY} {g o:Nat} {cs:List jD} {u:jD} (ht:rY P t=some false) (hx:oS E x=some (pl g o)) (hb:xk G g cs) (hu:cs[o]? = some u):Rd P G E (.load t x) u:=by
 refine ⟨rfl,fun h2 ha=>?_⟩;have:=ha _ _ _ (hb _ _ hu);simp only [pW,hx,pG];rw [SC ht (H5 (c:=[u]) rfl (by decide) fun j w hj=>by
  cases j with
  | zero=>simp at hj;subst hj;exact this
  | succ j=>simp at hj)]
 rfl
theorem Ky {t:oI} {x:oY} {g o:Nat} {cs:List jD} (cs':List jD) (ht:rY P t=some true) (hz:sz P t=some cs'.length) (hp:0 < cs'.length) (hx:oS E x=some (pl g o)) (hb:xk G g cs) (tu:∀ (q:Nat) (u:jD),cs'[q]? = some u→cs[o+q]? = some u):Rd P G E (.load t x) (.agg cs'):=by
 refine ⟨rfl,fun h2 ha=>?_⟩;simp only [pW,hx,pG];rw [LV ht hz (H5 (c:=cs') rfl hp fun j w hj=>ha _ _ _ (hb _ _ (tu j w hj)))];rfl
theorem QM:∀ xs:List UInt8,C5 (xs.map cB)=some xs
 | []=>rfl
 | b::xs=>by simp [C5,cB,QM xs]
theorem Pj {F:jL}:∀ {css:List (Cl tB.size)} {xs:List UInt8},wW tB F css xs→(css.map qK).flatten=xs.map cB
 | [],[],_=>rfl
 | [],_::_,h=>by simp [wW] at h
 | _::_,[],h=>by simp [wW] at h
 | d::css,b::xs,⟨h1,h2⟩=>by
  have e:d.1=[cB b]:=h2 0 d b rfl rfl;have ih:=Pj (F:=F) (css:=css) (xs:=xs) ⟨by simpa using h1,fun i d x q1 q2=>h2 (i+1) d x (by simpa using q1) (by simpa using q2)⟩;simp only [xi,vh,ih,e];rfl
theorem Nb {src dst e:oI} {x:oY} {v:jD} {xs:List UInt8} (hs:P.underlying src=some (.slice e)) (he:P.underlying e=some (.int .u8)) (hd:P.underlying dst=some .string) (hx:oS E x=some v) (hv:oF tB G v xs):Rd P G E (.convert src dst x) (.s xs):=by
 refine ⟨by simp [qT,EP,hs,hd],fun h ha=>?_⟩;obtain ⟨css,h1,h2⟩:=hv;have h3:=(h2.mono (G:=qH h) ha)
 obtain ⟨_,h4⟩:=h3.first (by decide)
 have hc:=Pj h1;rw [hc] at h4;rcases h2 with ⟨rfl,rfl⟩ | ⟨a,c,rfl,_,_,e4,_⟩
 ·have:xs=[]:=tP h1.1.symm;subst this;simp only [pW,hx,pG,wH,hs,hd,J2,he,if_true]
 ·cases a with
  | none =>
   have h5:=(e4 rfl).1;have:xs=[]:=tP (by rw [← h1.1,h5];rfl);subst this;simp only [pW,hx,pG,wH,hs,hd,J2,he,if_true]
  | some a =>
   obtain ⟨b,o⟩:=a;have h6:(if css.length=0 then some [] else rd h b o css.length)=some (xs.map cB):=by
    have:tB.size=1:=rfl;simp only [ui,this,Ki] at h4;exact h4
   simp only [pW,hx,pG,wH,hs,hd,he];rw [h6];simp only [pG,QM,rN]
theorem ajV {F:jL} {b o:Nat} {x:List UInt8} (hl:x.length=32) (hc:∀ (q:Nat) (u:jD),(pb x)[q]? = some u→F b (o+q)=some u):oF tB F (.sl (some (b,o)) 32 (.k 32)) x:=by
 rw [Gk hl] at hc;refine ⟨x.map fun c=>⟨[cB c],rfl⟩,⟨by simp,fun i d y q1 q2=>?_⟩,.inr ⟨some (b,o),some 32,by simp [hl],by simp [hl,maxLen],fun k hk=>by obtain rfl:=oQ hk;simp [hl],fun q=>(by cases q),fun b' o' vq i d j u q1 q2=>?_⟩⟩
 ·rw [xh,q2] at q1;obtain rfl:=oQ q1;rfl
 ·simp only [qL,pZ] at vq;obtain ⟨rfl,rfl⟩:=vq;rw [xh] at q1;obtain ⟨c,h1,rfl⟩:=pU.1 q1;cases j with
  | succ j=>simp at q2
  | zero =>
   simp at q2;subst q2;have:=hc i (cB c) (by rw [xh,h1];rfl);simpa [tB] using this
theorem Vn {t e:oI} {x:oY} {b o:Nat} (ht:P.underlying t=some (.array 32 e)) (hz:sz P e=some 1) (hx:oS E x=some (pl b o)):Rd P G E (.slice t x none none none) (.sl (some (b,o)) 32 (.k 32)):=by
 refine ⟨rfl,fun h _=>?_⟩;have n0:BB E none=some none:=rfl;simp only [pW,hx,n0,pG,xb,ht,hz];rfl
theorem Gl {cs:List jD} {o i:Nat} {x:List UInt8} {c:UInt8} (tu:∀ (q:Nat) (u:jD),(pb x)[q]? = some u→cs[o+q]? = some u) (hl:x.length=32) (hc:x[i]? = some c):cs[o+i]? = some (.i .u8 (c.toNat:Int)):=tu _ _ (af2 hl hc)
theorem aaw {t:oI} {x:oY} {b o:Nat} {r:List UInt8} (ht:rY P t=some true) (hz:sz P t=some 32) (hx:oS E x=some (pl b o)) (hc:∀ (q:Nat) (u:jD),(pb r)[q]? = some u→G b (o+q)=some u):Rd P G E (.load t x) (.agg (pb r)):=by
 refine ⟨rfl,fun h2 ha=>?_⟩;simp only [pW,hx,pG];rw [LV ht hz (H5 (c:=pb r) (Cy r) (by decide) fun j w hj=>ha _ _ _ (hc j w hj))];rfl
end
section
variable {P:oZ} {E:EL} {X:List Nat} {h0 h:Hp} {F0 F:jL} {L:List Ob}
theorem aaq {t e:oI} {dx sx:oY} {g o:Nat} {cs cs':List jD} {xs ys:List UInt8} {v:jD} (k:Nat) (ht:P.underlying t=some (.slice e)) (hz:sz P e=some 1) (hd:oS E dx=some (.sl (some (g,o)) 32 (.k 32))) (hx:oS E sx=some v) (hS:St X h0 F0 F L h) (hk:L[k]? = some (.box g cs)) (hl:xs.length=32) (tu:(cs.drop o).take 32=pb xs) (hv:Src tB F h v ys) (hc':p6 cs o (pb (Cp xs ys))=cs') :
  Ef P E h (.call { callee:=.builtin .copy,args:=#[dx,sx],argTypes:=#[t,t] }) (fun u h'=>u = .i .i64 ((min ys.length 32:Nat):Int)∧St X h0 F0 F (L.set k (.box g cs')) h'):=by
 subst hc';obtain ⟨q1,q2,q3⟩:=hS.Hh k hk;obtain ⟨css,c1,c2⟩:=hv;obtain ⟨c3,c4⟩:=c2.first (by decide)
 have rT:=c1.1;have hcy:=Pj c1;have hol:o+32≤cs.length:=by
  have:=congrArg List.length tu;rw [Cy] at this;simp at this;omega
 have N8:ui h 1 (min ys.length 32) v=some ((ys.take 32).map cB):=by
  rw [hcy,rT] at c4;replace c4:ui h 1 ys.length v=some (ys.map cB):=c4;rcases c2 with ⟨rfl,rfl⟩ | ⟨a,c,rfl,e2,e3,e4,e5⟩
  ·have:ys=[]:=tP rT.symm;subst this;rfl
  ·cases a with
   | none =>
    have:ys=[]:=tP (by rw [← rT,(e4 rfl).1];rfl);subst this;rfl
   | some a =>
    obtain ⟨b,q⟩:=a;simp only [ui,Ki] at c4 ⊢
    by_cases h0:ys.length=0
    ·have:ys=[]:=tP h0;subst this;rfl
    ·rw [if_neg (by omega)] at c4;rw [if_neg (by omega)];have:=Th (off:=0) (n:=min ys.length 32) c4 (by omega);rw [xM] at this;rw [this];simp only [yu,← List.map_take]
     congr 2
     rw [List.take_eq_take_iff];omega
 have ad4:pb (Cp xs ys)=(ys.take 32).map cB++(pb xs).drop (min ys.length 32):=by
  rw [Gk (Wz hl),Gk hl,Cp,hl,z6,List.map_drop]
  congr 1
  by_cases hy:ys.length≤32
  ·rw [Bm hy]
  ·rw [Nat.min_eq_right (by omega),Fy (by simp;omega),Fy (by simp;omega)]
 have sX:p6 cs o (pb (Cp xs ys))=p6 cs o ((ys.take 32).map cB):=by
  unfold p6;rw [Cy,ad4,← tu,wz,rb,tF,tF,tF]
  congr 2
  rw [UH,Bj,show min 32 ys.length=min ys.length 32 from Nat.min_comm _ _];rw [show cs.drop (o+32)=(cs.drop (o+min ys.length 32)).drop (32 - min ys.length 32) by rw [Bj];congr 1;omega];exact z8 _ _
 have uH:((ys.take 32).map cB).all jD.one=true:=qB.2 fun x hx=>by
  obtain ⟨c,_,rfl⟩:=z7.1 hx;rfl
 have hlen:((ys.take 32).map cB).length=min ys.length 32:=by simp [Nat.min_comm]
 have hf:o+((ys.take 32).map cB).length≤cs.length:=by rw [hlen];omega
 rw [sX];have adP:(p6 cs o ((ys.take 32).map cB)).all jD.one=true:=by
  unfold p6;rw [rC,rC,uH];have p1:(cs.take o).all jD.one=true:=qB.2 fun x hx=>qB.1 q3 x (zt hx);have p2:(cs.drop (o+((ys.take 32).map cB).length)).all jD.one=true:=qB.2 fun x hx=>qB.1 q3 x (yS hx);rw [p1,p2];rfl
 have Ar:=yt (c:=cs) (o:=o) (vs:=(ys.take 32).map cB) hf;refine ⟨rfl,.i .i64 ((min ys.length 32:Nat):Int),h.set g (.cells cs.length (p6 cs o ((ys.take 32).map cB))),?_,rfl,hS.vf hk (Nr (by rw [Hp.pD,if_pos rfl,Ar]) q2 adP) (px _) (fun b hb=>?_) (fun b hb hn=>?_) fun b hb=>.inl hb⟩
 ·have hlv:D5 v=some ys.length:=by rw [c3,rT]
  simp only [pW,yY,vY,Ez,hd,hx,wD,copyV,pG,Bn,pure,FB,ht,hz,hlv,N8];rw [if_pos (by rw [hlen,Ki])];unfold vB;rw [q1];simp only;rw [if_pos ⟨hf,uH⟩];rfl
 ·have pP:h.next≤b:=hb;rw [Hp.pD,if_neg (by omega)];exact hS.wf b pP
 ·rw [Hp.pD,if_neg (fun e=>hn (by rw [e];simp [Ob.box]))]
end
end Go.V
end
section
namespace Go.Wk
def SQ {κ ν:Type}:κ→Option ν:=fun _=>none
def D8 {κ ν:Type} [DecidableEq κ] (m:κ→Option ν) (k:κ) (v:ν):κ→Option ν:=fun j=>if j=k then some v else m j
end Go.Wk
namespace Go.V
open Go.Wk
class Kn (A B:Tb):Prop where
 le:∀ f args h M,A f args h M→B f args h M
instance (A : Tb) : Kn A A := ⟨fun _ _ _ _ h => h⟩
def IE (F:jL) (b o:Nat) (r:List UInt8):Prop:=∀ (q:Nat) (u:jD),(pb r)[q]? = some u→F b (o+q)=some u
theorem IE.mono {F G:jL} {b o:Nat} {r:List UInt8} (h:IE F b o r) (l:F.le G):IE G b o r:=fun q u e=>l _ _ _ (h q u e)
theorem xk.at {F:jL} {g o:Nat} {cs:List jD} {x:List UInt8} (hb:xk F g cs) (tu:∀ (q:Nat) (u:jD),(pb x)[q]? = some u→cs[o+q]? = some u):IE F g o x:=fun q u h=>hb _ _ (tu q u h)
section
variable {P:oZ} {K:Tb} {fn:Func} {k:ua} {E:EL} {h:Hp} {A:List Oper} {dr:Bool} {G:jL} {L:List Nat} {i d:Nat}
def Rn (P:oZ) (h:Hp) (E:EL) (op:Op) (v:jD):Prop:=decide (qT P op = .sQ)=false∧pW P E h op=some (v,h)
theorem W_h {v:jD} (hb:dr=false∨ahead P A i L=true) (hi:rM i A.length=true) (hw:sr A E (oE A i)=some true) (hd:(oE A i).dst=some d) (ho:Rn P h E (oE A i).op v) (x:W P K fn k A dr G L ((d,v)::E) h):W P K fn k A dr G (i::L) E h:=by
 intro ha env pd he hp;refine .Fa (by simpa using hi) (he.want _ _ _ hw) (he.pJ _ _ _ ho.2) (fun e=>absurd e (by simpa using ho.1)) ?_;rw [hd];refine x ha _ _ (he.put d v) fun sd q hq=>?_;unfold zU at hq
 split at hq
 ·rename_i HC;rcases sg.1 hq with rfl | hq
  ·refine ⟨HC,.inl fun j hj hk=>?_⟩;rcases hb with hb | hb
   ·rw [hb] at sd;cases sd
   ·have:=qB.1 hb j hj;simpa [hk] using this
  ·exact hp.tail sd q hq
 ·exact hp.tail sd q hq
theorem Ng {F:jL} {t e:oI} {x:oY} {b o:Nat} {y:List UInt8} (hi:rM i A.length=true) (hw:sr A E (oE A i)=some true) (hd:(oE A i).dst=some d) (py:(oE A i).op = .slice t x none none none) (ht:P.underlying t=some (.array 32 e)) (hz:sz P e=some 1) (hx:oS E x=some (pl b o)) (ha:IE F b o y) (hl:y.length=32)
  (q:∀ v',oF tB F v' y→W P K fn k A dr G L ((d,v')::E) h):W P K fn k A dr G (i::L) E h :=
 xr hi hw hd (by rw [py];exact Vn ht hz hx) (q _ (ajV hl ha))
theorem aaI {F:jL} {t e:oI} {x:oY} {v:jD} {xs r:List UInt8} (hi:rM i A.length=true) (hw:sr A E (oE A i)=some true) (hd:(oE A i).dst=some d) (py:(oE A i).op = .sliceToArrayPointer t x) (ht:P.underlying t=some (.array 32 e)) (hx:oS E x=some v) (hv:oF tB F v xs) (hr:Hc xs=some r)
  (q:∀ b o,IE F b o r→W P K fn k A dr G L ((d,pl b o)::E) h):W P K fn k A dr G (i::L) E h:=by
 obtain ⟨h1,rfl⟩:=VH hr;obtain ⟨css,c1,c2⟩:=hv;have hl:=c1.1;rcases c2 with ⟨rfl,rfl⟩ | ⟨a,c,rfl,e2,e3,e4,e5⟩
 ·simp at hl;omega
 ·cases a with
  | none=>rw [(e4 rfl).1] at hl;simp at hl;omega
  | some a =>
   obtain ⟨b,o⟩:=a;refine qM (v:=pl b o) hi hw hd (by rw [py];rfl) (fun h=>?_) (q b o fun q u hq=>?_)
   ·rw [py];simp only [pW,hx,pG,ht];rw [if_pos (by omega)]
   ·rw [Gk (by simp;omega)] at hq;rw [xh] at hq;obtain ⟨y,hy,rfl⟩:=pU.1 hq;rw [tQ] at hy
    split at hy
    ·obtain ⟨d',Df⟩:∃ d,css[q]? = some d:=⟨_,pF (by have:=(qO.1 hy).1;omega)⟩
     have hdv:d'.1=[cB y]:=c1.2 q d' y Df hy;have:=e5 b o rfl q d' 0 (cB y) Df (by rw [hdv];rfl);have h1:tB.size=1:=rfl;rw [h1] at this;simpa using this
    ·cases hy
end
def Tr.Flat {α:Type} (t:Tr α):Prop:=∀ {F G:jL} {cs:List jD} {x:α},t.rel F cs x→t.rel G cs x
section
variable {X:List Nat} {h0 h h':Hp} {F0 F F':jL} {L Lr:List Ob}
theorem Y9 {α:Type} {t:Tr α} {v:jD} {xs:List α} {G:jL} (hf:t.Flat) (r:(Ob.row t v xs).ok F h):(Ob.row t v xs).ok G h:=by
 obtain ⟨v0,rj,r⟩:=r;refine ⟨v0,rj,?_⟩;rcases r with r | ⟨b,c,k,css,bss,r⟩
 ·exact .inl r
 ·exact .inr ⟨b,c,k,css,bss,⟨r.form,r.qS,r.lt,r.rm,r.tn,fun i d x e q1 q2 q3=>⟨(r.rel i d x e q1 q2 q3).1,hf (r.rel i d x e q1 q2 q3).2⟩,r.cells,r.CC,r.cap,r.zG,r.one,r.yF,r.nodup⟩⟩
def M7:List Ob→Prop
 | []=>True
 | o::r=>(∀ F G h,o.ok F h→o.ok G h)∧M7 r
theorem M7.get:∀ {Lr:List Ob},M7 Lr → ∀ (i:Nat) (o:Ob),Lr[i]? = some o → ∀ F G h,o.ok F h→o.ok G h
 | [],_,i,o,hi=>by simp at hi
 | a::r,hf,i,o,hi=>by
  cases i with
  | zero=>simp at hi;subst hi;exact hf.1
  | succ i=>exact hf.2.get i o (by simpa using hi)
theorem St.SE {G G':jL} (s:St X h0 F0 F L h) (k:St [] h G G' Lr h') (hf:M7 Lr):St X h0 F0 F (Lr++L) h':=by
 have e:St [] h F F Lr h':=⟨k.next,k.wf,fun b hb _=>k.zd b hb (by simp),k.Vx.agree s.wf s.agree,jL.le.refl _,fun _ _ _ q=>.inl q,fun i o hi=>by
   obtain ⟨h1,h2⟩:=k.own i o hi;refine ⟨hf.get i o hi _ _ _ h1,fun b hb=>⟨fun q=>?_,(h2 b hb).2⟩⟩;rcases (h2 b hb).2 with h3 | h3
   ·cases hF:F b q with
    | none=>rfl
    | some u=>have:=Lb s.wf (s.agree _ _ _ hF);omega
   ·simp at h3,k.apart⟩
 exact s.call e
end
theorem Ww:∀ a b:List UInt8,Lib.compareBytes a b=uE a b
 | [],[]=>rfl
 | [],_::_=>rfl
 | _::_,[]=>rfl
 | a::l,b::bs=>by
  have ih:=Ww l bs;simp only [Lib.compareBytes,uE,qI,Bh] at ih ⊢
  by_cases h1:a < b
  ·simp [h1]
  ·by_cases h2:b < a
   ·have:a≠b:=fun e=>by subst e;exact h1 h2
    simp [h1,h2,this]
   ·have:a=b:=UInt8.le_antisymm (UInt8.not_lt.1 h2) (UInt8.not_lt.1 h1);subst this;simp only [h1,if_false,ih,decide_false,uB,beq_self_eq_true,uQ]
    by_cases h3:Bh l bs=true
    ·exact MF (if_pos h3) (PF (if_pos h3))
    ·refine MF (if_neg h3) (MF ?_ (PF (if_neg h3)))
     by_cases h4:Bh bs l=true
     ·exact MF (if_pos h4) (PF (if_pos h4))
     ·exact MF (if_neg h4) (PF (if_neg h4))
theorem ZI {h:Hp} {v:jD} {xs:List UInt8} (s:oF tB (qH h) v xs):Mu h v=some xs:=by
 obtain ⟨css,c1,c2⟩:=s;obtain ⟨_,c4⟩:=c2.first (by decide)
 rw [Pj c1] at c4;have hl:=c1.1;rcases c2 with ⟨rfl,rfl⟩ | ⟨a,c,rfl,_,_,e4,_⟩
 ·have:xs=[]:=tP hl.symm;subst this;rfl
 ·cases a with
  | none =>
   have:xs=[]:=tP (by rw [← hl,(e4 rfl).1];rfl);subst this;rfl
  | some a =>
   have c5:ui h 1 css.length (.sl (some a) css.length (.of 1 c))=some (xs.map cB):=c4;show (ui h 1 css.length (.sl (some a) css.length (.of 1 c))).bind C5=_;rw [c5];exact QM xs
theorem acJ {P:oZ} {K:Tb} [hK:Kn (ye P) K] {f:tO} {g:Func} {h:Hp} {u v:jD} {xs ys:List UInt8} (hf:P.funcs[f]? = some g) (h1:(g.name == "runtime.NumGoroutine")=false) (h2:g.body.isNone=true) (h3:Extern.findNext g=none) (h4:Extern.find g=some Extern.BytealgCompare.compare) (hu:oF tB (qH h) u xs) (hv:oF tB (qH h) v ys):pa P K f [u,v] h fun r w'=>r = .i .i64 (uE xs ys)∧w' = h :=
 .known (M:=fun r w'=>r = .i .i64 (uE xs ys)∧w' = h) (hK.le _ _ _ _ ⟨g,u,v,xs,ys,hf,h1,h2,h3,h4,rfl,ZI hu,ZI hv,by rw [Ww],rfl⟩) fun v h' m=>⟨v,h',rfl,m⟩
section
variable {P:oZ} {E:EL} {X:List Nat} {h0 h:Hp} {F0 F:jL} {L:List Ob}
theorem T4 {α:Type} {tr:Tr α} {e:oI} {cs:List jD} {x:α} (hz:(zeroV P e).map jD.cells=some cs) (hr:tr.rel F cs x):∀ z,zeroV P e=some z→tr.rel F z.cells x:=fun z Jr=>by
 rw [Jr] at hz;obtain rfl:=oQ hz;exact hr
end
structure Kv (κ:Type) [DecidableEq κ] where
 enc:κ→jD
 eq:∀ a b,zQ (enc a) (enc b)=decide (a=b)
def kS:Kv (List UInt8):=⟨.s,fun a b=>by simp [zQ,zD];exact Bool.eq_iff_iff.2 (by simp)⟩
structure IN (ν:Type) where
 rel:jL→jD→ν→Prop
 mono:∀ {F G u v},F.le G→rel F u v→rel G u v
def IN.of {ν:Type} (enc:ν→jD):IN ν:=⟨fun _ u v=>u=enc v,fun _ h=>h⟩
def akM {κ ν:Type} [DecidableEq κ] (K:Kv κ) (t:IN ν):To (κ→Option ν) where
 size:=1
 rel F h bs cs m:=∃ g es,bs=[g]∧cs=[.m (some g)]∧h.get g=some (.map es)∧g < h.next∧(∀ e,e∈es → ∃ k,e.1=K.enc k) ∧ ∀ k,(m k=none∧yE (K.enc k) es=none) ∨ ∃ v u,m k=some v∧yE (K.enc k) es=some u∧t.rel F u v
 len:=fun ⟨g,es,_,q,_⟩=>by rw [q];rfl
 one:=fun ⟨g,es,_,q,_⟩=>by rw [q];rfl
 lt:=fun ⟨g,es,q,_,_,h3,_⟩ b hb=>by rw [q] at hb;simp at hb;subst hb;exact h3
 nodup:=fun ⟨g,es,q,_⟩=>by rw [q];simp
 mono:=fun l ⟨g,es,q1,q2,q3,q4,q5,q6⟩=>⟨g,es,q1,q2,q3,q4,q5,fun k=>(q6 k).imp id fun ⟨v,u,a,b,c⟩=>⟨v,u,a,b,t.mono l c⟩⟩
 frame:=fun ⟨g,es,h1,h2,h3,h4,h5⟩ hn hk=>⟨g,es,h1,h2,(hk g (by rw [h1];simp)).trans h3,xO h4 hn,h5⟩
def Ob.map {κ ν:Type} [DecidableEq κ] (K:Kv κ) (t:IN ν) (g:Nat) (m:κ→Option ν):Ob:=⟨akM K t,[g],[.m (some g)],m⟩
theorem Yc {P:oZ} {t:oI} (h:P.underlying t=some .string):∀ k,vK P t (kS.enc k)=true:=fun k=>by simp [vK,h,kS]
section
variable {P:oZ} {E:EL} {X:List Nat} {h0 h:Hp} {F0 F:jL} {L:List Ob} {κ ν:Type} [DecidableEq κ] {K:Kv κ} {tr:IN ν}
theorem aas {t:oI} (K:Kv κ) (tr:IN ν) (hS:St X h0 F0 F L h):Ef P E h (.makeMap t none) (fun v' h'=>∃ g,v' = .m (some g)∧St X h0 F0 F (.map K tr g (SQ:κ→Option ν)::L) h') :=
 ⟨rfl,_,_,rfl,_,rfl,hS.fresh ⟨AN _,Ij rfl hS.wf,fun b hb=>by rw [Hp.rO,if_neg (by omega)]⟩ ⟨_,[],rfl,rfl,by rw [Hp.rO,if_pos rfl],BY _,fun e he=>(by cases he),fun k=>.inl ⟨rfl,rfl⟩⟩ fun b hb=>by
  have:b=h.next:=by simpa [Ob.map] using hb
  omega⟩
theorem St.Ys {g:Nat} {m:κ→Option ν} (k:Nat) (s:St X h0 F0 F L h) (hk:L[k]? = some (.map K tr g m)):∃ es,h.get g=some (.map es)∧g < h.next∧(∀ e,e∈es → ∃ k,e.1=K.enc k) ∧ ∀ k,(m k=none∧yE (K.enc k) es=none) ∨ ∃ v u,m k=some v∧yE (K.enc k) es=some u∧tr.rel F u v:=by
 obtain ⟨g',es,q1,q2,q3⟩:=s.ok hk;simp only [Ob.map,Iv,and_true] at q1;subst q1;exact ⟨es,q3⟩
theorem Ye {kt:oI} {es:List (jD × jD)} (hk:∀ k,vK P kt (K.enc k)=true) (h:∀ e,e∈es → ∃ k,e.1=K.enc k):es.all (fun e=>vK P kt e.1)=true:=qB.2 fun e he=>by
 obtain ⟨k,q⟩:=h e he;rw [q];exact hk k
theorem aax {t kt vt:oI} {x y:oY} {g:Nat} {enc:ν→jD} {m:κ→Option ν} (k:Nat) (a:κ) (z0:ν) (ht:P.underlying t=some (.map kt vt)) (HD:∀ k,vK P kt (K.enc k)=true) (hz:zeroV P vt=some (enc z0)) (hx:oS E x=some (.m (some g))) (hy:oS E y=some (K.enc a)) (hS:St X h0 F0 F L h) (hk:L[k]? = some (.map K (.of enc) g m)) :
  Rn P h E (.lookup t x y false) (enc ((m a).getD z0)):=by
 obtain ⟨es,q1,q2,q3,q4⟩:=hS.Ys k hk;refine ⟨rfl,?_⟩;simp only [pW,hx,hy,pG,Gr,ht,HD,if_true,q1];rw [if_pos (Ye HD q3)];simp only [pG,hz];rcases q4 a with ⟨r1,r2⟩ | ⟨v,u,r1,r2,r3⟩
 ·rw [r1,r2];rfl
 ·rw [r1,r2];have r4:u=enc v:=r3;rw [r4];rfl
theorem WV {k j:κ} {u:jD}:∀ es:List (jD × jD),(∀ e,e∈es → ∃ k,e.1=K.enc k)→yE (K.enc j) (zX (K.enc k) u es)=if j=k then some u else yE (K.enc j) es
 | [],_=>by
  simp only [zX,yE,K.eq]
  by_cases h:j=k
  ·simp [h]
  ·simp [h,yE]
 | (k',w)::r,h=>by
  obtain ⟨a,ha⟩:=h (k',w) (by simp);simp only at ha;subst ha;have ih:=WV (k:=k) (j:=j) (u:=u) r fun e he=>h e (ti _ he);simp only [zX,K.eq]
  by_cases h1:k=a
  ·subst h1;simp only [decide_true,cond_true,yE,K.eq]
   by_cases h2:j=k
   ·simp [h2]
   ·simp [h2]
  ·simp only [h1,decide_false,cond_false,yE,K.eq]
   by_cases h2:j=a
   ·subst h2;have:¬ j=k:=fun e=>h1 e.symm;simp [this]
   ·simp only [h2,decide_false,cond_false,ih]
theorem aab {k:κ} {u:jD}:∀ es:List (jD × jD),(∀ e,e∈es → ∃ k,e.1=K.enc k) → ∀ e,e∈zX (K.enc k) u es → ∃ k,e.1=K.enc k
 | [],_,e,he=>by simp [zX] at he;subst he;exact ⟨k,rfl⟩
 | (k',w)::r,h,e,he=>by
  simp only [zX] at he;cases hb:zQ (K.enc k) k' with
  | true =>
   rw [hb] at he;rcases sg.1 he with rfl | he
   ·exact ⟨k,rfl⟩
   ·exact h e (ti _ he)
  | false =>
   rw [hb] at he;rcases sg.1 he with rfl | he
   ·exact h _ (by simp)
   ·exact aab r (fun e he=>h e (ti _ he)) e he
theorem aat {t kt vt:oI} {x y z:oY} {g:Nat} {m:κ→Option ν} {u:jD} (k:Nat) (a:κ) (v:ν) (ht:P.underlying t=some (.map kt vt)) (HD:∀ k,vK P kt (K.enc k)=true) (hx:oS E x=some (.m (some g))) (hy:oS E y=some (K.enc a)) (hz:oS E z=some u) (hr:tr.rel F u v) (hS:St X h0 F0 F L h) (hk:L[k]? = some (.map K tr g m)) :
  Ef P E h (.mapUpdate t x y z) (fun _ h'=>St X h0 F0 F (L.set k (.map K tr g (D8 m a v))) h'):=by
 obtain ⟨es,q1,q2,q3,q4⟩:=hS.Ys k hk;refine ⟨rfl,.no,h.set g (.map (zX (K.enc a) u es)),?_,hS.vf hk (o':=.map K tr g (D8 m a v)) ⟨g,_,rfl,rfl,by rw [Hp.pD,if_pos rfl],q2,aab es q3,fun j=>?_⟩ (px _) (fun b hb=>?_) (fun b hb hn=>?_) fun b hb=>.inl hb⟩
 ·simp only [pW,hx,hy,hz,pG,LZ,ht,q1];rw [if_pos ⟨HD a,Ye HD q3⟩];rfl
 ·show ((D8 m a v) j=none∧_) ∨ ∃ v' u',(D8 m a v) j=some v' ∧ _;rw [WV es q3];unfold D8
  by_cases h1:j=a
  ·rw [if_pos h1,if_pos h1];exact .inr ⟨v,u,rfl,rfl,hr⟩
  ·rw [if_neg h1,if_neg h1];exact q4 j
 ·have pP:h.next≤b:=hb;rw [Hp.pD,if_neg (by omega)];exact hS.wf b pP
 ·rw [Hp.pD,if_neg (fun e=>hn (by rw [e];simp [Ob.map]))]
end
end Go.V
end
section
namespace Go.V
open Go.Wk
def KA (P:oZ) (E:EL) (h:Hp):List GW→List jD→Prop
 | [],[]=>True
 | .tmp t::r,v::vs=>look E t=some v∧KA P E h r vs
 | .cell a t::r,v::vs=>(∃ p,look E a=some p∧yL P h t p=some v)∧KA P E h r vs
 | _,_=>False
section
variable {P:oZ} {K:Tb} {fn:Func} {k:ua} {E:EL} {h:Hp}
theorem KA.outs:∀ {rs:List GW} {vs:List jD},KA P E h rs vs→outs P E h rs=some vs
 | [],[],_=>rfl
 | .tmp t::r,v::vs,⟨h1,h2⟩=>by simp only [V.outs,h1,pG,h2.outs,rN]
 | .cell a t::r,v::vs,⟨⟨p,h0,h1⟩,h2⟩=>by simp only [V.outs,h0,h1,pG,h2.outs,rN]
 | [],_::_,h=>h.elim
 | .tmp _::_,[],h=>h.elim
 | .cell _ _::_,[],h=>h.elim
theorem yw {vs:List jD} {v:jD} (ho:Du vs=v) (hv:KA P E h fn.results.toList vs) (hR:k.final v h):C P K fn k .ret E h:=U7 hv.outs ho hR
theorem yB {X:List Nat} {h0:Hp} {F0 F:jL} {L:List Ob} {t:oI} {a g:Nat} {cs:List jD} (i:Nat) (ht:rY P t=some true) (hz:sz P t=some cs.length) (hS:St X h0 F0 F L h) (hi:L[i]? = some (.box g cs)) (hx:look E a=some (pl g 0)):∃ p,look E a=some p∧yL P h t p=some (.agg cs) :=
 ⟨_,hx,LV ht hz (by
  unfold rd;rw [(hS.Hh i hi).1];simp)⟩
end
end Go.V
end
section
namespace Go.Wk
theorem te {α:Type} {b:Bool} {o:Option α} {z:α} (h:b=false):only b o z=some z:=if_neg (by rw [h];decide)
end Go.Wk
namespace Go.V
open Go.Wk
def uZ:List (Bool × Bool)→jD→jD
 | [],v=>v
 | (b,w)::r,v=>match b,w with
  | true,true=>uZ r v
  | false,false=>uZ r v
  | _,_=>.no
def vD:List (Bool × Bool)→Prop
 | []=>True
 | (b,w)::r=>b=w∧vD r
theorem I6:∀ {cs:List (Bool × Bool)} {v:jD},vD cs→uZ cs v=v
 | [],_,_=>rfl
 | (b,w)::r,v,h=>by
  obtain ⟨h1,h2⟩:=h;replace h1:b=w:=h1;subst h1;have e:=I6 (v:=v) h2;cases b <;> exact e
theorem KO:∀ {cs:List (Bool × Bool)} {v:jD},¬ vD cs→uZ cs v = .no
 | [],_,h=>absurd trivial h
 | (b,w)::r,v,h=>by
  cases b <;> cases w
  ·have e:uZ r v = .no:=KO fun h2=>h ⟨rfl,h2⟩;exact e
  ·rfl
  ·rfl
  ·have e:uZ r v = .no:=KO fun h2=>h ⟨rfl,h2⟩;exact e
theorem Kr:∀ {cs:List (Bool × Bool)} {b w:Bool},vD (cs++[(b,w)]) ↔ vD cs∧b=w
 | [],b,w=>⟨fun h=>⟨trivial,h.1⟩,fun h=>⟨h.2,trivial⟩⟩
 | (_,_)::r,b,w=>⟨fun h=>⟨⟨h.1,(Kr.1 h.2).1⟩,(Kr.1 h.2).2⟩,fun h=>⟨h.1.1,Kr.2 ⟨h.1.2,h.2⟩⟩⟩
def zY (A:List Oper) (E:EL) (j:Nat):Option jD:=((A[j]?).bind (·.dst)).bind (look E)
section
variable {P:oZ} {K:Tb} {fn:Func} {k:ua} {E:EL} {h:Hp} {A:List Oper} {dr:Bool} {G:jL} {L:List Nat} {i d j:Nat} {b want:Bool} {v:jD} {cs:List (Bool × Bool)}
theorem aae (hg:(oE A i).guard=some (j,want)) (hy:zY A E j=some (uZ cs (.b b))) (hn:¬ vD (cs++[(b,want)])):sr A E (oE A i)=some false:=by
 unfold sr;simp only [hg];unfold zY at hy;rw [hy]
 by_cases hc:vD cs
 ·rw [I6 hc];have hb:b≠want:=fun e=>hn (Kr.2 ⟨hc,e⟩);simp [hb]
 ·rw [KO hc];rfl
theorem KC (hg:(oE A i).guard=some (j,want)) (hy:zY A E j=some (uZ cs (.b b))) (hi:rM i A.length=true) (hd:(oE A i).dst=some d)
  (py:vD (cs++[(b,want)])→W P K fn k A dr G L ((d,v)::E) h→W P K fn k A dr G (i::L) E h)
  (x:W P K fn k A dr G L ((d,uZ (cs++[(b,want)]) v)::E) h):W P K fn k A dr G (i::L) E h:=by
 by_cases ha:vD (cs++[(b,want)])
 ·rw [I6 ha] at x;exact py ha x
 ·rw [KO ha] at x;exact IP hi (aae hg hy ha) hd x
theorem uC (hg:(oE A i).guard=some (j,want)) (hy:zY A E j=some (.b b)) (hi:rM i A.length=true) (hd:(oE A i).dst=some d)
  (py:vD [(b,want)]→W P K fn k A dr G L ((d,v)::E) h→W P K fn k A dr G (i::L) E h)
  (x:W P K fn k A dr G L ((d,uZ [(b,want)] v)::E) h):W P K fn k A dr G (i::L) E h:=KC (cs:=[]) hg hy hi hd py x
theorem pQ.w (x:pQ P K fn k A dr G L E h):W P K fn k A dr G L E h:=by
 obtain ⟨G',l,ha,x⟩:=x;exact fun _ env pd he hp=>x ha env pd he (hp.le l)
theorem Vr {Q:Hp→Prop} (hQ:Q h) (hg:(oE A i).guard=some (j,want)) (hy:zY A E j=some (uZ cs (.b b))) (hi:rM i A.length=true) (hd:(oE A i).dst=some d)
  (py:vD (cs++[(b,want)])→(∀ w',Q w' → pQ P K fn k A dr G L ((d,v)::E) w')→W P K fn k A dr G (i::L) E h)
  (x:∀ w',Q w' → pQ P K fn k A dr G L ((d,uZ (cs++[(b,want)]) v)::E) w'):W P K fn k A dr G (i::L) E h:=by
 by_cases ha:vD (cs++[(b,want)])
 ·rw [I6 ha] at x;exact py ha x
 ·rw [KO ha] at x;exact IP hi (aae hg hy ha) hd (x h hQ).w
theorem aaD {Q:Hp→Prop} (hQ:Q h) (hg:(oE A i).guard=some (j,want)) (hy:zY A E j=some (.b b)) (hi:rM i A.length=true) (hd:(oE A i).dst=some d)
  (py:vD [(b,want)]→(∀ w',Q w' → pQ P K fn k A dr G L ((d,v)::E) w')→W P K fn k A dr G (i::L) E h)
  (x:∀ w',Q w' → pQ P K fn k A dr G L ((d,uZ [(b,want)] v)::E) w'):W P K fn k A dr G (i::L) E h:=Vr (cs:=[]) hQ hg hy hi hd py x
variable {c x y:oY} {p q:Bool}
theorem Vt {u:jD} (hi:rM i A.length=true) (hw:sr A E (oE A i)=some true) (hd:(oE A i).dst=some d) (py:(oE A i).op = .pick c x y) (hc:oS E c=some (.b b)) (hx:b=true→oS E x=some u) (hy:b=false→oS E y=some u) (z:W P K fn k A dr G L ((d,u)::E) h):W P K fn k A dr G (i::L) E h:=by
 refine qM hi hw hd (by rw [py];rfl) (fun h=>?_) z;rw [py];simp only [pW,hc,pG];cases b with
 | true=>simp only [hx rfl,rN]
 | false=>simp only [hy rfl,rN]
theorem aaG (hi:rM i A.length=true) (hw:sr A E (oE A i)=some true) (hd:(oE A i).dst=some d) (py:(oE A i).op = .pick c x y) (hc:oS E c=some (.b b)) (hx:b=true→oS E x=some (.b p)) (hy:oS E y=some (.b false)) (z:W P K fn k A dr G L ((d,.b (b&&p))::E) h):W P K fn k A dr G (i::L) E h :=
 Vt (u:=.b (b&&p)) hi hw hd py hc (fun e=>by rw [hx e,e];rfl) (fun e=>by rw [hy,e];rfl) z
theorem aaH (hi:rM i A.length=true) (hw:sr A E (oE A i)=some true) (hd:(oE A i).dst=some d) (py:(oE A i).op = .pick c x y) (hc:oS E c=some (.b b)) (hx:oS E x=some (.b true)) (hy:b=false→oS E y=some (.b q)) (z:W P K fn k A dr G L ((d,.b (b||q))::E) h):W P K fn k A dr G (i::L) E h :=
 Vt (u:=.b (b||q)) hi hw hd py hc (fun e=>by rw [hx,e];rfl) (fun e=>by rw [hy e,e];rfl) z
end
end Go.V
end
section
namespace Go.V
open Go.Wk
def RI (L:List Ob) (rs:List Nat):List Nat:=(rs.filterMap fun i=>L[i]?).flatMap Ob.bs
section
variable {X:List Nat} {h0 w h:Hp} {F0 F F':jL} {L L':List Ob} {bs:List Nat}
theorem aek {o:Ob} {j:Nat} {rs:List Nat} (hj:j∈rs) (hL:L[j]? = some o):∀ g,g∈o.bs→g∈RI L rs:=fun g hg=>G1.2 ⟨o,G0.2 ⟨j,hj,hL⟩,hg⟩
theorem St.AY (is rs:List Nat) (s:St X h0 F0 F L w) (hd:∀ i,i∈rs→i ∉ is) (k:St ((is.filterMap fun i=>L[i]?).flatMap Ob.bs) w F F' L' h):HB F' w h (RI L rs):=fun g hg=>by
 obtain ⟨o,ho,Gf⟩:=G1.1 hg;obtain ⟨j,hj,hL⟩:=G0.1 ho;have h1:=s.own j o hL;have pv:=o.t.lt h1.1 g Gf;have XJ:g ∉ (is.filterMap fun i=>L[i]?).flatMap Ob.bs:=fun q=>by
  obtain ⟨o2,HI,aeM⟩:=G1.1 q;obtain ⟨i,hi,Rw⟩:=G0.1 HI;have:=s.apart j i o o2 g hL Rw Gf aeM;exact hd j hj (this ▸ hi)
 refine ⟨fun q=>?_,fun p u e=>?_⟩
 ·cases hF:F' g q with
  | none=>rfl
  | some u =>
   rcases k.new g q u hF with h3 | h3 | h3
   ·rw [(h1.2 g Gf).1 q] at h3;cases h3
   ·omega
   ·exact absurd h3 XJ
 ·unfold rJ at e ⊢;rw [k.zd g pv XJ];exact e
theorem tj.held {v:jD} {s i:Nat} {cs:List jD} (e:tj (qH w) v s i cs) (b:HB F' w h bs) (hv:∀ g,g∈v.own→g∈bs):tj (F'.hold w bs) v s i cs:=by
 obtain ⟨h0,h1,g,q,n,c,rfl,h3,h4⟩:=e;have hg:g∈bs:=hv g (by simp [jD.own]);refine ⟨h0,h1,g,q,n,c,rfl,h3,fun j u hj=>?_⟩;unfold jL.hold;rw [(b g hg).1];simp only;rw [if_pos hg];exact h4 j u hj
end
end Go.V
end
section
namespace Go.Wk
def Co {α:Type} (l:List α) (a n:Nat) (z:α):Option (List α):=if a+n=l.length then some (l.take a++ph n z) else none
theorem acA {α:Type} {l r:List α} {a n:Nat} {z:α} (h:Co l a n z=some r):a+n=l.length∧r=l.take a++ph n z:=by
 unfold Co at h
 split at h
 ·rename_i hc;exact ⟨hc,(oQ h).symm⟩
 ·cases h
def nz {α:Type}:List α→Option Unit
 | []=>none
 | _::_=>some ()
def E7 {α:Type} (l:List α) (a n:Nat) (i:Int):Option α:=match i with | .ofNat k=>if k < n then l[a+k]? else none | .negSucc _=>none
theorem Jv {α:Type} {l:List α} {a n:Nat} {i:Int} {x:α} (h:E7 l a n i=some x):0≤i∧i.toNat < n∧l[a+i.toNat]? = some x:=by
 cases i with
 | ofNat k =>
  simp only [E7] at h
  split at h
  ·exact ⟨UD k,by assumption,h⟩
  ·cases h
 | negSucc k=>cases h
end Go.Wk
namespace Go.V
open Go.Wk
section
variable {α:Type} {tr:Tr α} {F:jL} {h:Hp} {bs:List Nat} {v:jD} {xs zs:List α} {b:Nat} {c:List jD} {k:Option Nat} {css:List (Cl (To.rQ tr).size)} {bss:List (List Nat)}
theorem adm {sP:List (Cl tr.size)} (hr:wW tr F sP zs):(sP.map qK).flatten.all jD.one=true:=(rI.flat (h:=Hp.empty) hr).B8
theorem Tt (r:C3 (To.rQ tr) F h bs v xs b c k css bss):xs.length*tr.size≤c.length:=by
 cases k with
 | none=>exact r.CC rfl
 | some m =>
  obtain ⟨q1,q2⟩:=r.cap m rfl;rw [q1];exact tG _ q2
theorem aiP (r:C3 (To.rQ tr) F h bs v xs b c k css bss) {sP:List (Cl tr.size)} (hr:wW tr F sP zs) (hl:zs.length=xs.length) :
  (Ob.row tr v zs).ok F (h.set b (.cells tr.size ((sP.map qK).flatten++c.drop (xs.length*tr.size)))):=by
 have sG:(sP.map qK).flatten.length=xs.length*tr.size:=by rw [Ai,hr.1,hl]
 have rT:=Tt r;have hlen:((sP.map qK).flatten++c.drop (xs.length*tr.size)).length=c.length:=by rw [rH,sG,ue];omega
 have hE:rI (To.rQ tr) F (h.set b (.cells tr.size ((sP.map qK).flatten++c.drop (xs.length*tr.size)))) sP (zs.map fun _=>[]) zs:=.flat hr;have wY:((sP.map qK).flatten++c.drop (xs.length*tr.size)).all jD.one=true:=by
  rw [rC,adm hr];exact qB.2 fun x hx=>qB.1 r.one x (yS hx)
 have R:=Mn (b:=b) (c:=(sP.map qK).flatten++c.drop (xs.length*tr.size)) (k:=k) hE r.lt (by rw [Hp.pD,if_pos rfl];rfl) (by rw [hl];exact G4 sG) (fun q=>by rw [hlen,hl];exact r.CC q) (fun m q=>by rw [hlen,hl];exact r.cap m q) (by rw [hl];exact r.zG) wY (by rw [Aj];simp);have hv:v = .sl (some (b,0)) zs.length (.of (To.rQ tr).size k):=by rw [hl];exact r.form
 rw [hv];exact Ob.Gu ⟨_,rfl,.inr ⟨_,_,_,_,_,R⟩⟩
end
theorem St.shrink {α:Type} {X:List Nat} {h0 h:Hp} {F0 F:jL} {L:List Ob} {t:Tr α} {v v':jD} {xs zs:List α} {b:Int} {u:Unit} (k:Nat) (s:St X h0 F0 F L h) (hk:L[k]? = some (.row t v xs)) (p:EF v v' t.size (0:Int).toNat (b.toNat - (0:Int).toNat)) (hc:cut xs 0 b=some zs) (hnz:nz xs=some u):St X h0 F0 F (L.set k (.row t v' zs)) h:=by
 obtain ⟨c0,c1,c2,hz⟩:=NK hc;have Jr:zs=xs.take b.toNat:=hz;subst Jr;have hlen:(xs.take b.toNat).length=b.toNat:=by simp;omega
 have sL:0 < xs.length:=by
  cases xs with
  | nil=>cases hnz
  | cons a l=>simp
 obtain ⟨v0,rj,r⟩:=s.ok hk;obtain rfl:=wS rj
 suffices h:(Ob.row t v' (xs.take b.toNat)).ok F h ∧ ∀ g,g∈v'.own→g∈v.own from s.vy hk h.1 h.2
 have y4:∃ b2 k2,v = .sl (some (b2,0)) xs.length (.of t.size k2):=by
  rcases r with ⟨rfl,Cw,_⟩ | ⟨b2,c,k2,css,bss,r⟩
  ·have:xs=[]:=Cw;rw [this] at sL;simp at sL
  ·exact ⟨b2,k2,r.form⟩
 rcases p with ⟨rfl,hn,b3,len,k3,hv,hle⟩ | ⟨rfl,hn,hv⟩ | ⟨g,o,len,k1,k',hv,rfl,ho,zH,uI⟩
 ·obtain ⟨b2,k2,hf⟩:=y4;rw [hf] at hv;simp only [jD.sl.injEq] at hv;simp at hle;omega
 ·obtain ⟨b2,k2,hf⟩:=y4;rw [hf] at hv;cases hv
 ·have vR:o=0:=ho.elim (fun q=>by simpa using q) fun q=>q.2;subst vR;rcases r with ⟨rfl,_,_⟩ | ⟨b2,c,k2,css,bss,r⟩
  ·cases hv
  ·have hf:v = .sl (some (b2,0)) xs.length (.of t.size k2):=r.form;rw [hf] at hv;simp only [jD.sl.injEq,qL,pZ,and_true] at hv;obtain ⟨rfl,_,XD⟩:=hv;have Cs:k1=k2:=by
    cases k1 <;> cases k2 <;> simp [Cap.of] at XD ⊢
    exact XD.symm
   subst Cs;have y5:k' = k1:=by rw [uI];cases k1 <;> simp
   subst y5;obtain ⟨xB,Av,Al⟩:∃ xB:List (Cl t.size),wW t F xB xs∧c.take (xs.length*t.size)=(xB.map qK).flatten:=⟨css,⟨r.rm,fun i d x q1 q2=>(r.rel i d x _ q1 q2 (pF (by rw [r.tn];exact (qO.1 q2).1))).2⟩,r.cells⟩
   have afI:wW t F (xB.take b.toNat) (xs.take b.toNat):=⟨by simp [Av.1],fun i d x q1 q2=>by
    rw [tQ] at q1 q2
    split at q1
    ·rw [if_pos (by assumption)] at q2;exact Av.2 i d x q1 q2
    ·cases q1⟩
   have sG:((xB.take b.toNat).map qK).flatten=c.take (b.toNat*t.size):=by
    have h1:((xB.take b.toNat).map qK).flatten.length=b.toNat*t.size:=by rw [Ai (s:=t.size),rb,Av.1];congr 1;omega
    have h2:c.take (xs.length*t.size)=((xB.take b.toNat).map qK).flatten++((xB.drop b.toNat).map qK).flatten:=by
     rw [Al,← yv,← z6,z8]
    have h3:=congrArg (UW (b.toNat*t.size)) h2;rw [G4 h1,Ix,Bm (tG _ (by omega))] at h3;exact h3.symm
   have hE:rI (To.rQ t) F h (xB.take b.toNat) ((xs.take b.toNat).map fun _=>[]) (xs.take b.toNat):=.flat afI;have tU:=Tt r;have hmul:b.toNat*t.size≤xs.length*t.size:=tG _ (by omega);have R:=Mn (b:=b2) (c:=c) (k:=k') hE r.lt r.qS (by rw [hlen];exact sG.symm) (fun q=>by rw [hlen];exact wT hmul tU) (fun m q=>⟨(r.cap m q).1,by have q2:xs.length≤m:=(r.cap m q).2;omega⟩) (by have q2:xs.length≤2 ^ 30:=r.zG;omega) r.one (by rw [Aj];simp);rw [hlen] at R;exact ⟨Ob.Gu ⟨_,rfl,.inr ⟨_,_,_,_,_,R⟩⟩,fun g hg=>by rw [hf];exact hg⟩
section
variable {P:oZ} {E:EL} {X:List Nat} {h0 h:Hp} {F0 F:jL} {L:List Ob}
theorem Ks {α:Type} {tr:Tr α} {t e:oI} {v v':jD} {xs zs:List α} {x:oY} {WA:List jD} {x0:α} {a n:Nat} (j:Nat) (ht:P.underlying t=some (.slice e)) (hz:(zeroV P e).map jD.cells=some WA) (E6:tr.rel F WA x0) (hx:oS E x=some v') (hS:St X h0 F0 F L h) (hj:L[j]? = some (.row tr v xs)) (hp:EF v v' tr.size a n) (hc:Co xs a n x0=some zs) :
  Ef P E h (.call { callee:=.builtin .clear,args:=#[x],argTypes:=#[t] }) (fun _ h'=>St X h0 F0 F (L.set j (.row tr v zs)) h'):=by
 obtain ⟨hn,rfl⟩:=acA hc;obtain ⟨z,sS,rfl⟩:=pU.1 hz;have same:∀ u,n=0→(op:Option (jD × Hp))→op=some (u,h) → ∃ v'' h',op=some (v'',h')∧St X h0 F0 F (L.set j (.row tr v (xs.take a++ph n x0))) h':=fun u rp op py=>by
  subst rp;refine ⟨u,h,py,?_⟩;have:xs.take a++ph 0 x0=xs:=by rw [List.replicate_zero,vM];exact Bl (by omega)
  rw [this];exact hS.vy hj (hS.ok hj) fun b q=>q
 refine ⟨rfl,?_⟩;have ev:∀ q:Option (jD × Hp),FU P h [t] v' = q→pW P E h (.call { callee:=.builtin .clear,args:=#[x],argTypes:=#[t] })=q:=fun q hq=>by
  simp only [pW,yY,vY,Ez,hx,wD,pG,Bn,pure];exact hq
 rcases hp with ⟨rfl,rp,_⟩ | ⟨rfl,rp,_⟩ | ⟨b,o,len,k,k',hv,rfl,ho,hk,_⟩
 ·exact same (.qR []) rp _ (ev _ (by simp [FU,ht,sS]))
 ·exact same (.qR []) rp _ (ev _ (by simp [FU,ht,sS]))
 ·by_cases rp:n=0
  ·exact same (.qR []) rp _ (ev _ (by simp [FU,ht,sS,rp]))
  ·obtain ⟨v0,rj,r⟩:=hS.ok hj;obtain rfl:=wS rj;rcases r with ⟨rfl,Cw,_⟩ | ⟨b2,c,k2,css,bss,r⟩
   ·cases hv
   ·have hf:v = .sl (some (b2,0)) xs.length (.of tr.size k2):=r.form;rw [hf] at hv;simp only [jD.sl.injEq,qL,pZ] at hv;obtain ⟨⟨rfl,_⟩,_,_⟩:=hv;have Cx:z.cells.length=tr.size:=tr.len E6;have vR:o=a*tr.size:=ho.elim id fun q=>by omega
    subst vR;obtain ⟨xB,Av,Al⟩:∃ xB:List (Cl tr.size),wW tr F xB xs∧c.take (xs.length*tr.size)=(xB.map qK).flatten:=⟨css,⟨r.rm,fun i d x q1 q2=>(r.rel i d x _ q1 q2 (pF (by rw [r.tn];exact (qO.1 q2).1))).2⟩,r.cells⟩
    have sM:wW tr F (xB.take a++ph n (⟨z.cells,Cx⟩:Cl tr.size)) (xs.take a++ph n x0):=⟨by simp [Av.1],fun q dd y hq hy=>by
     by_cases XP:q < a
     ·have vQ:q < (xB.take a).length:=by simp [Av.1];omega
      have Cv:q < (xs.take a).length:=by simp;omega
      rw [s6 vQ,List.getElem?_take_of_lt XP] at hq;rw [s6 Cv,List.getElem?_take_of_lt XP] at hy;exact Av.2 _ _ _ hq hy
     ·have vQ:(xB.take a).length=a:=by simp [Av.1];omega
      have Cv:(xs.take a).length=a:=by simp;omega
      rw [s7 (by omega),vQ] at hq;rw [s7 (by omega),Cv] at hy;rw [MT (vC hq),MT (vC hy)];exact E6⟩
    have Cv:(xs.take a++ph n x0).length=xs.length:=by simp;omega
    have RZ:=aiP r sM Cv;have rT:=Tt r;have sG:((xB.take a).map qK).flatten=c.take (a*tr.size):=by
     have h1:((xB.take a).map qK).flatten.length=a*tr.size:=by rw [Ai (s:=tr.size),rb,Av.1];congr 1;omega
     have h2:c.take (xs.length*tr.size)=((xB.take a).map qK).flatten++((xB.drop a).map qK).flatten:=by
      rw [Al,← yv,← z6,z8]
     have h3:=congrArg (UW (a*tr.size)) h2;rw [G4 h1,Ix,Bm (tG _ (by omega))] at h3;exact h3.symm
    have tV:((ph n (⟨z.cells,Cx⟩:Cl tr.size)).map qK).flatten=sZ z.cells n:=by simp [sZ]
    have sX:p6 c (a*tr.size) (sZ z.cells n)=((xB.take a++ph n (⟨z.cells,Cx⟩:Cl tr.size)).map qK).flatten++c.drop (xs.length*tr.size):=by
     unfold p6;rw [z6,yv,sG,tV]
     congr 2
     have:(sZ z.cells n).length=n*tr.size:=by simp [sZ,Cx]
     rw [this,← hn,rV]
    have afZ:(sZ z.cells n).length=n*tr.size:=by simp [sZ,Cx]
    have af0:(sZ z.cells n).all jD.one=true:=by
     refine qB.2 fun u hu=>?_;obtain ⟨l,hl,hu⟩:=tC.1 hu;rw [MT hl] at hu;exact qB.1 (tr.one E6) u hu
    have tU:a*tr.size+(sZ z.cells n).length≤c.length:=by
     rw [afZ,← rV,hn];exact rT
    have hblk:h.get b2=some (.cells tr.size c):=r.qS;refine ⟨.qR [],_,ev _ (by
     simp only [FU,FB,pG,ht,sS];rw [if_neg rp,if_pos (by rw [Cx];exact tr.pos)];unfold vB;rw [hblk];simp only;rw [if_pos ⟨tU,af0⟩,sX];rfl),hS.vf hj RZ (px _) (fun q hq=>?_) (fun q hq y8=>?_) fun q hq=>.inl hq⟩
    ·have xT:h.next≤q:=hq;have:=r.lt;rw [Hp.pD,if_neg (by omega)];exact hS.wf q xT
    ·rw [Hp.pD,if_neg (fun e'=>y8 (by rw [e',hf];simp [Ob.row,jD.own]))]
end
end Go.V
end
section
namespace Go.Wk
def GI {α:Type} (cf:α→α→Int) (xs:List α):Option (List α):=if xs.length≤1073741824 then some (A3 cf xs) else none
theorem akx {α:Type} {cf:α→α→Int} {xs r:List α} (h:GI cf xs=some r):xs.length≤1073741824∧r=A3 cf xs:=by
 unfold GI at h
 split at h
 ·rename_i hc;exact ⟨hc,(oQ h).symm⟩
 ·cases h
def C9 (a b:Int):Int:=if a < b then -1 else if b < a then 1 else 0
def JI:List Int→Int
 | []=>0
 | x::r=>if x≠0 then x else JI r
end Go.Wk
namespace Go.V
open Go.Wk Go.Sort Go.Proofs
def Qo:Tb:=fun _ _ _ _=>False
theorem aau {P:oZ}:AO P Qo:=fun _ _ _ _ h=>h.elim
theorem ZP {P:oZ} {K K0:Tb} {α:Type} {tr:Tr α} {f g z:Nat} {cf:α→α→Int} {fn:Func} {c:Code} (hK:∀ args h M,IG P K0 f z f args h M→K f args h M) (hz:tr.size=z) (hO:SWO (ltOf cf)) (hT:∀ x y,ltOf cf x y=false→ltOf cf y x=false→x=y) (BD:P.funcs[g]? = some fn) (tE:fn.body=some c) (Ji:fn.name ≠ "runtime.NumGoroutine")
  (h0:∀ a k w,pa P K f [.sl a 0 k,.f g []] w fun u w'=>u = .qR []∧w' = w)
  (Lg:∀ G h' cs x ds y,Gd G h' → tr.rel G cs x→tr.rel G ds y→pa P K0 g [.agg cs,.agg ds] h' fun v _=>v = .i .i64 (cf x y))
  {F:jL} {w:Hp} {v:jD} {xs r:List α} (hS:St v.own w F F [.row tr v xs] w) (H:GI cf xs=some r):pa P K f [v,.f g []] w fun u w'=>∃ F',u = .qR []∧St v.own w F F' [.row tr v r] w':=by
 obtain ⟨_,rfl⟩:=akx H;have ux:St v.own w F F [.dp (To.rQ tr) v.own v xs] w:=hS;refine (akA (t:=To.rQ tr) hK hz (by rw [← hz];exact tr.pos) (DO.flat tr) hO BD tE Ji h0 Lg ux).mono fun u w' ⟨q1,l',qv,q2,q3,q4⟩=>⟨F,q1,?_⟩
 have e:l' = A3 cf xs:=Y2 hT q3 (Sw hO xs) (q2.trans (HR cf xs).symm);subst e;have hb:qv=v.own:=JR (q4.ok (i:=0) rfl);subst hb;exact q4
end Go.V
end
section
namespace Go.Wk
def Ie (x:Int):UInt32:=rD (x % 4294967296).toNat
def O5 (x:UInt32) (n:Int):Option UInt32:=if 0≤n∧n≤32 then some (rD (x.toNat*2 ^ n.toNat)) else none
def GD (x:UInt32) (n:Int):Option UInt32:=if 0≤n∧n≤32 then some (rD (x.toNat / 2 ^ n.toNat)) else none
def JW (x n:Int):Option Int:=if 0≤n∧n≤64 then some (x / 2 ^ n.toNat) else none
theorem Zl {x n r:Int} (h:JW x n=some r):0≤n∧n≤((Is.bits:Nat):Int)∧r=x / 2 ^ n.toNat:=by
 unfold JW at h;split at h
 ·rename_i hc;exact ⟨hc.1,hc.2,(oQ h).symm⟩
 ·cases h
def KF {α:Type} (xs:List α) (n:Int) (d:α):Option (List α):=if 0≤n∧(xs.length:Int)+n≤1073741824 then some (xs++ph n.toNat d) else none
theorem aa5 {α:Type} {xs r:List α} {n:Int} {d:α} (h:KF xs n d=some r):0≤n∧(xs.length:Int)+n≤1073741824∧r=xs++ph n.toNat d:=by
 unfold KF at h;split at h
 ·rename_i hc;exact ⟨hc.1,hc.2,(oQ h).symm⟩
 ·cases h
end Go.Wk
namespace Go.V
open Go.Wk
def cW (x:UInt32):jD:=.i .u32 x.toNat
def tW:Tr UInt32:=⟨1,fun _ cs n=>cs=[cW n],by decide,fun h=>by rw [h];rfl,fun h=>by rw [h];rfl,fun _ h=>h⟩
def pR {α:Type} (n:Nat) (enc:α→jD) (d:α) (x:List α):List jD:=(sN n).map fun i=>enc (x.getD i d)
section
variable {α:Type} {n:Nat} {enc:α→jD} {d:α} {x:List α}
theorem IQ:(pR n enc d x).length=n:=by simp [pR]
theorem QB (h:x.length=n):pR n enc d x=x.map enc:=by
 apply Ke
 ·simp [pR,h]
 ·intro i h1 h2;have hi:i < x.length:=by simpa [pR,h] using h1
  simp [pR,hi]
theorem rW (h:x.length=n) {i:Nat} {b:α} (hb:x[i]? = some b):(pR n enc d x)[i]? = some (enc b):=by rw [QB h];simp [hb]
theorem Hd (h:x.length=n) {i:Nat} (hi:i < n) (b:α):p6 (pR n enc d x) (0+i) [enc b]=pR n enc d (x.set i b):=by
 rw [QB h,QB (by simpa using h),pA];apply CR;intro j;rw [Ed (by simp;omega)]
 by_cases hj:j=i
 ·subst hj;rw [if_pos (by simp),Nat.sub_self,List.map_set,vN (by simp;omega)];rfl
 ·rw [if_neg (by simp;omega)];simp only [xh];rw [yb (fun q=>hj q.symm)]
theorem p8 (h:x.length=n) {i:Nat} {b:α} (hb:x[i]? = some b):i < n:=by rw [← h];exact (qO.1 hb).1
theorem XZ (x:List UInt8):pb x=pR 32 cB 0 x:=rfl
theorem X0 {x:List UInt8} (h:x.length=32) {i:Nat} (hi:i < 32) (b:UInt8):p6 (pb x) (0+i) [cB b]=pb (x.set i b):=by
 rw [XZ,XZ];exact Hd h hi b
end
theorem VL {P:oZ} {t:oI} {j:vW} {x r:UInt32} {n:Int} (h:O5 x n=some r):ru P .shl t (.i .u32 (x.toNat:Int)) (.i j n)=some (.i .u32 (r.toNat:Int)):=by
 unfold O5 at h
 split at h
 ·rename_i hc;obtain rfl:=oQ h;rw [EI (k:=.u32) hc.1 hc.2,J1,Kq];have e:((x.toNat*2 ^ n.toNat:Nat):Int)=(x.toNat:Int)*2 ^ n.toNat:=by rw [PU,UE];rfl
  rw [← e]
  congr 2
 ·cases h
theorem No {P:oZ} {t:oI} {j:vW} {x r:UInt32} {n:Int} (h:GD x n=some r):ru P .shr t (.i .u32 (x.toNat:Int)) (.i j n)=some (.i .u32 (r.toNat:Int)):=by
 unfold GD at h
 split at h
 ·rename_i hc;obtain rfl:=oQ h;rw [DP (k:=.u32) hc.1 hc.2,Kq]
  congr 2
  have h1:x.toNat / 2 ^ n.toNat < 2 ^ 32:=UZ (Nat.div_le_self _ _) x.toNat_lt;rw [FD h1,Int.natCast_ediv,UE];rfl
 ·cases h
theorem akT (x:Int):Fu.wrap x=((Ie x).toNat:Int):=by
 rw [J1,Ie,Kq];omega
theorem aaa (x:UInt32):J4 .xor (.i .u32 (x.toNat:Int))=some (.i .u32 ((~~~x).toNat:Int)):=by
 have e:(4294967295:UInt32) ^^^ x = ~~~x:=by
  apply UInt32.toBitVec_inj.1;rw [UInt32.toBitVec_xor,UInt32.toBitVec_not,BitVec.xor_comm];exact BitVec.xor_allOnes
 have h:=Go.Wk.u32_xor (4294967295:UInt32) x;rw [e] at h;exact congrArg (fun z=>some (jD.i .u32 z)) h
section
variable {P:oZ} {G:jL} {E:EL}
theorem Vo {op:UnOp} {t:oI} {x:oY} {a v:jD} (hx:oS E x=some a) (hv:J4 op a=some v):Rd P G E (.unOp op t x) v:=by
 refine ⟨rfl,fun h _=>?_⟩;simp [pW,hx,hv]
theorem qV {t e:oI} {m:Nat} {x y:oY} {b o:Nat} {kk:vW} {n:Int} (ht:P.underlying t=some (.array m e)) (hz:sz P e=some 1) (hx:oS E x=some (pl b o)) (hy:oS E y=some (.i kk n)) (h0:0≤n) (h1:n.toNat < m):Rd P G E (.indexAddr t x y) (pl b (o+n.toNat)):=by
 refine ⟨rfl,fun h _=>?_⟩;simp only [pW,hx,hy,pG,HP,ze];rw [if_pos h0];simp only [pG,ht,hz];rw [if_pos h1,Ki];rfl
def Nt (P:oZ) (t:oI):Option (Nat × List jD):=(zeroV P t).bind fun zero=>match P.underlying t with
 | some (.array _ e)=>(sz P e).map fun z=>(z,zero.cells)
 | _=>none
theorem Kx {t:oI} {ps:Array (Nat × oY)} {z:Nat} {zc:List jD} {vs:List (Nat × jD)} {v:jD} (ht:Nt P t=some (z,zc)) (hp:FW E ps.toList=some vs) (hf:(xR (fun i=>some (i*z,z)) zc vs).map jD.agg=some v):Rd P G E (.build t ps) v:=by
 refine ⟨rfl,fun h _=>?_⟩;unfold Nt at ht;rw [oV] at ht;obtain ⟨zero,h1,ht⟩:=ht
 split at ht
 ·rename_i m e hu;obtain ⟨z',h2,e'⟩:=pU.1 ht;obtain ⟨rfl,rfl⟩:=Prod.mk.inj e';simp only [pW,hp,pG,IW,h1,hu,h2,hf,rN]
 ·cases ht
end
section
variable {P:oZ} {E:EL} {X:List Nat} {h0 h:Hp} {F0 F:jL} {L:List Ob}
theorem FG {t:oI} {x y:oY} {g o:Nat} {cs cs':List jD} {u:jD} (k:Nat) (hx:oS E x=some (pl g o)) (hy:oS E y=some u) (hS:St X h0 F0 F L h) (hk:L[k]? = some (.box g cs)) (h1:u.one=true) (hz:sz P t=some 1) (tU:o < cs.length) (tu:p6 cs o [u]=cs') :
  Ef P E h (.store t x y) (fun _ h'=>St X h0 F0 F (L.set k (.box g cs')) h'):=by
 obtain ⟨q1,q2,q3⟩:=hS.Hh k hk;have hc:u.cells=[u]:=by cases u <;> first | rfl | cases h1
 subst tu;have DX:[u].all jD.one=true:=by simp [h1]
 have hf:o+[u].length≤cs.length:=by simp;omega
 have uH:(p6 cs o [u]).all jD.one=true:=by
  unfold p6;rw [rC,rC,DX];have p1:(cs.take o).all jD.one=true:=qB.2 fun x hx=>qB.1 q3 x (zt hx);have p2:(cs.drop (o+[u].length)).all jD.one=true:=qB.2 fun x hx=>qB.1 q3 x (yS hx);rw [p1,p2];rfl
 have hlen:=yt (c:=cs) (o:=o) (vs:=[u]) hf;refine ⟨rfl,.no,h.set g (.cells cs.length (p6 cs o [u])),?_,hS.vf hk (Nr (by rw [Hp.pD,if_pos rfl,hlen]) q2 uH) (px _) (fun b hb=>?_) (fun b hb hn=>?_) fun b hb=>.inl hb⟩
 ·simp only [pW,hx,hy,pG,En,hz,hc];rw [if_pos (by simp)];unfold vB;rw [q1];simp only;rw [if_pos ⟨hf,DX⟩];rfl
 ·have pP:h.next≤b:=hb;rw [Hp.pD,if_neg (by omega)];exact hS.wf b pP
 ·rw [Hp.pD,if_neg (fun e=>hn (by rw [e];simp [Ob.box]))]
theorem aao {α:Type} {t:Tr α} {ts tx e:oI} {sx xx:oY} {v:jD} {xs zs:List α} {n:Int} {d:α} {kk:vW} (k:Nat) (ht:P.underlying ts=some (.slice e)) (wi:vV P e t.size=true) (BF:yP P tx=some true) (E6:∀ z,zeroV P e=some z→t.rel F z.cells d) (hs:oS E sx=some v) (Dr:oS E xx=some (.i kk n)) (hS:St X h0 F0 F L h) (hk:L[k]? = some (.row t v xs)) (hz:KF xs n d=some zs) :
  Ef P E h (.call { callee:=.builtin .append,args:=#[sx,xx],argTypes:=#[ts,tx] }) (fun v' h'=>St X h0 F0 F (L.set k (.row t v' zs)) h'):=by
 obtain ⟨n0,vP,rfl⟩:=aa5 hz;obtain ⟨inf,zero,r1,r2,r3,r4,r5,r6,r7⟩:=H7 wi;have sS:=E6 _ r3;have c1:wW t F (ph n.toNat (⟨zero.cells,r4⟩:Cl t.size)) (ph n.toNat d):=⟨by simp,fun i d' x q1 q2=>by
  rw [MT (vC q1),MT (vC q2)];exact sS⟩
 have hE:rI (To.rQ t) F h (ph n.toNat (⟨zero.cells,r4⟩:Cl t.size)) ((ph n.toNat d).map fun _=>[]) (ph n.toNat d):=.flat c1;obtain ⟨v',h',qv,q1,q2,q3,q4,q5,q6⟩:=To.Tq (t:=To.rQ t) r5 (hS.ok hk) hE (by rw [Aj];exact EA) (fun g hg=>by rw [Aj] at hg;cases hg) hS.wf (by simp only [AM];show xs.length+n.toNat≤2 ^ 30;omega);refine ⟨rfl,v',h',?_,hS.vf hk (Ob.Gu q2) q3 q4 q5 fun b hb=>?_⟩
 ·have Ly:BK (.i kk n)=some n.toNat:=by unfold BK;simp only;rw [if_pos ⟨n0,by omega⟩]
  have tV:((ph n.toNat (⟨zero.cells,r4⟩:Cl t.size)).map qK).flatten=sZ zero.cells n.toNat:=by simp [sZ]
  have hlen:(sZ zero.cells n.toNat).length=n.toNat*t.size:=by simp [sZ,r4]
  have wY:(sZ zero.cells n.toNat).all jD.one=true:=by rw [← tV];exact hE.B8
  simp only [pW,yY,vY,Ez,hs,Dr,wD,G9,ht,r1,r2,r3,BF,HX,Ly,pG,cond_true,pure,Bn];rw [if_pos r4];simp only [pG];rw [if_pos ⟨r4,r5,by omega,r6,r7,hlen,wY⟩];rw [AM] at q1;have OT:AS h t.size n.toNat ((ph n.toNat (⟨zero.cells,r4⟩:Cl t.size)).map qK).flatten v=some (v',h'):=q1;rw [tV] at OT;exact OT
 ·have:=JR q2;have pP:b∈v'.own:=hb;rw [← this] at pP;rcases q6 b pP with q | q | q
  ·exact .inl q
  ·rw [Aj] at q;cases q
  ·exact .inr q
theorem aaA {G:jL} {t e:oI} {z:Nat} {x:oY} {ol oh:Option oY} (ht:P.underlying t=some (.slice e)) (hz:sz P e=some z) (hx:oS E x=some (.sl none 0 (.k 0))) (hl:Bd E ol 0 0) (hh:Bd E oh 0 0):Rd P G E (.slice t x ol oh none) (.sl none 0 (.k 0)):=by
 refine ⟨rfl,fun h _=>?_⟩;obtain ⟨lo,l1,l2⟩:=hl.val;obtain ⟨sK,r1,r2⟩:=hh.val;have n0:BB E none=some none:=rfl;simp only [pW,hx,l1,r1,n0,pG,xb,ht,hz];rw [Ca (len:=0) l2 r2 (by omega) (by omega) (by omega) (px _)];rfl
theorem Vm {G:jL} {T e:oI} {x:oY} (ht:P.underlying T=some (.slice e)) (hx:oS E x=some (.sl none 0 (.k 0))):Rd P G E (.call { callee:=.builtin .len,args:=#[x],argTypes:=#[T] }) (.i .i64 0):=qD (n:=0) ht hx (.inr ⟨none,_,rfl,fun _=>rfl⟩)
theorem Vj {G:jL} {T e:oI} {x:oY} (ht:P.underlying T=some (.slice e)) (hx:oS E x=some (.sl none 0 (.k 0))):Rd P G E (.call { callee:=.builtin .cap,args:=#[x],argTypes:=#[T] }) (.i .i64 0):=by
 refine ⟨rfl,fun h _=>?_⟩;simp [pW,yY,hx,wD,Nv,ht]
end
end Go.V
end
section
namespace Go.V
open Go.Wk
structure ID {α β:Type} (t:To α) (tr:Tr β) (f:Nat) (get:α→List β) (set:α→List β→α):Prop where
 lt:f < t.size
 op:∀ {F h e cs x},t.rel F h e cs x → ∃ u,cs[f]? = some u∧(To.row (To.rQ tr)).rel F h e [u] (get x)
 cl:∀ {F h e cs x F' h' e' u' l'},t.rel F h e cs x→F.le F' → (To.row (To.rQ tr)).rel F' h' e' [u'] l' → t.rel F' h' e' (p6 cs f [u']) (set x l')
def To.hu {α:Type} (t:To α) (f:Nat) (u:jD):To α where
 size:=t.size
 rel F h bs cs x:=bs=[] ∧ ∃ h0 e0,t.rel F h0 e0 cs x∧cs[f]? = some u
 len:=fun ⟨_,_,_,q,_⟩=>t.len q
 one:=fun ⟨_,_,_,q,_⟩=>t.one q
 lt:=fun ⟨q,_⟩ b hb=>by rw [q] at hb;cases hb
 nodup:=fun ⟨q,_⟩=>by rw [q];exact EA
 mono:=fun l ⟨q,h0,e0,q1,q2⟩=>⟨q,h0,e0,t.mono l q1,q2⟩
 frame:=fun q _ _=>q
abbrev To.A1 {α:Type} (t:To α) (f:Nat) (u:jD):To (α × Bool):=To.tag t (t.hu f u) rfl
def yk {α:Type} (i:Nat) (l:List α):List (α × Bool):=l.mapIdx fun j x=>(x,decide (j≠i))
theorem VW {α:Type} (i:Nat) (l:List α):(yk i l).length=l.length:=by simp [yk]
theorem wc {α:Type} {i j:Nat} {l:List α} {x:α} (h:l[j]? = some x):(yk i l)[j]? = some (x,decide (j≠i)):=by simp [yk,h]
section
variable {α β:Type} {t:To α} {tr:Tr β} {f:Nat} {get:α→List β} {set:α→List β→α} {X:List Nat} {h0 h:Hp} {F0 F:jL} {L:List Ob} {bs rE:List Nat} {v:jD} {xs:List α} {x:α} {i:Nat}
theorem St.focus (fo:ID t tr f get set) (k:Nat) (s:St X h0 F0 F L h) (hk:L[k]? = some (.dp t bs v xs)) (hi:xs[i]? = some x):∃ u rE cs,tj (qH h) v t.size i cs∧cs[f]? = some u∧St X h0 F0 F (.row tr u (get x)::L.set k (.dp (t.A1 f u) rE v (yk i xs))) h:=by
 obtain ⟨cs,e,hr,Jn,he,hsw⟩:=To.Za (t:=t) (s.ok hk) hi;have sL:0 < t.size:=UZ (pY _) fo.lt;obtain ⟨u,hu,wi⟩:=fo.op hr;obtain ⟨rE,hh2,HE⟩:=hsw (t.A1 f u) (yk i xs) (x,false) [] rfl (VW _ _) (by rw [wc hi];simp) (fun j x y e cs hj h1 h2 h3=>by
  have DX:xs[j]? = some x:=h1;rw [wc DX] at h2;obtain rfl:=oQ h2;exact .inl ⟨by simpa using hj,h3⟩) (.inr ⟨rfl,rfl,h,e,hr,hu⟩) (fun g hg=>by cases hg)
 have zM:e=u.own:=JR wi;subst zM;have Rx:=s.part (i:=k) (.row tr u (get x)) (.dp (t.A1 f u) rE v (yk i xs)) hk wi hh2 Jn (fun g hg=>((HE g).1 hg).elim (fun q=>q.1) fun q=>by cases q) (fun g hg tE=>((HE g).1 tE).elim (fun q=>q.2 hg) fun q=>by cases q);exact ⟨u,rE,cs,he sL,hu,Rx⟩
theorem ak3 {u:jD} {y:α} (hi:i < xs.length) (r:(Ob.dp (t.A1 f u) bs v ((yk i xs).set i (y,true))).ok F h):(Ob.dp t bs v (xs.set i y)).ok F h :=
 To.Ts (t:=t.A1 f u) (s:=t) (xs:=(yk i xs).set i (y,true)) (ys:=xs.set i y) rfl r (by simp [yk]) fun j a b e cs h1 h2 h3=>by
  by_cases hj:j=i
  ·subst hj;rw [vN (by rw [VW];exact hi)] at h1;rw [vN hi] at h2;obtain rfl:=oQ h1;obtain rfl:=oQ h2;exact h3.elim (fun q=>q.2) fun q=>by cases q.1
  ·rw [yb (fun q=>hj q.symm)] at h1 h2;rw [wc h2] at h1;obtain rfl:=oQ h1;exact h3.elim (fun q=>q.2) fun q=>absurd q.1 (by simpa using hj)
end
section
variable {P:oZ} {E:EL} {α β:Type} {t:To α} {tr:Tr β} {f:Nat} {get:α→List β} {set:α→List β→α} {X:List Nat} {h0 h:Hp} {F0 F:jL} {L:List Ob} {bs rE:List Nat} {v:jD} {xs:List α} {x:α}
theorem IB {ty:oI} {u u':jD} {l':List β} {xo yo:oY} {o:Nat} (fo:ID t tr f get set) (i:Nat) (hx:oS E xo=some (uF v o)) (hy:oS E yo=some u') (hS:St X h0 F0 F (.row tr u' l' :: .dp (t.A1 f u) bs v (yk i xs)::L) h) (hi:xs[i]? = some x) (ho:o=i*t.size+f) (hz:sz P ty=some 1) :
  Ef P E h (.store ty xo yo) (fun _ h'=>∃ qv,St X h0 F0 F (.dp t qv v (xs.set i (set x l'))::L) h'):=by
 have sL:0 < t.size:=UZ (pY _) fo.lt;have wi:(To.row (To.rQ tr)).rel F h u'.own [u'] l':=hS.ok (i:=0) rfl;have wY:=(To.JQ wi).cells;have ux:St X h0 F0 F (⟨To.row (To.rQ tr),u'.own,[u'],l'⟩ :: .dp (t.A1 f u) bs v (yk i xs)::L) h:=hS;have qJ:=(qO.1 hi).1;obtain ⟨q0,v',h',q1,qv,q2⟩:=Vc (P:=P) (E:=E) (ty:=ty) (u:=u') (xo:=xo) (yo:=yo) (o:=o) i f (x,false) (set x l',true) (t:=t.A1 f u) sL hx hy ux (by rw [wc hi];simp) ho wY hz fo.lt (fun h cs e r1 r2=>by
  rcases r1 with ⟨r1,_⟩ | ⟨_,_,h1,e1,r1,_⟩
  ·cases r1
  ·exact .inl ⟨rfl,fo.cl r1 (jL.le.refl _) r2⟩)
 refine ⟨q0,v',h',q1,qv,?_⟩;have:=q2.vy (i:=0) (o':=.dp t qv v (xs.set i (set x l'))) rfl (ak3 qJ (q2.ok (i:=0) rfl)) (fun b q=>q);simpa using this
end
section
variable {α:Type} {t:To α} {tr:Tr α} {X:List Nat} {h0 h:Hp} {F0 F:jL} {L:List Ob} {bs:List Nat} {v:jD} {xs:List α}
theorem St.xD (s:DO t tr) (k:Nat) (hS:St X h0 F0 F L h) (hk:L[k]? = some (.dp t bs v xs)):∃ F',F.le F' ∧ St X h0 F0 F' (L.set k (.row tr v xs)) h:=by
 obtain ⟨v0,rj,r⟩:=hS.ok hk;obtain rfl:=wS rj;have Jk:=(qO.1 hk).1;rcases r with ⟨rfl,Cw,Gc⟩ | ⟨b,c,kk,css,bss,r⟩
 ·have afV:xs=[]:=Cw;subst afV;exact ⟨F,jL.le.refl _,hS.vy hk (o':=.row tr (.sl none 0 (.k 0)) []) ⟨_,rfl,.inl ⟨rfl,rfl,rfl⟩⟩ fun b hb=>by cases hb⟩
 ·have A0:bs=b::bss.flatten:=r.yF;have zL:bs.Nodup:=r.nodup;rw [A0] at zL;obtain ⟨wh,wJ⟩:=xL.1 zL;have zM:=(hS.own k _ hk).2;have zK:∀ g,g∈bss.flatten→(∀ q,F g q=none)∧(h0.next≤g∨g∈X):=fun g hg=>zM g (by show g∈bs;rw [A0];exact ti _ hg);have Xn:(∀ q,F b q=none)∧(h0.next≤b∨b∈X):=zM b (by show b∈bs;rw [A0];simp);have hle:=jL.OQ (h:=h) (F:=F) fun g hg=>(zK g hg).1;have y4:v = .sl (some (b,0)) xs.length (.of t.size kk):=r.form;have hs:=s.size;obtain ⟨sP,uk,EW,hc3⟩:∃ sP:List (Cl (To.rQ tr).size),sP.length=css.length∧sP.map qK=css.map qK ∧ ∀ (i:Nat) (d:Cl (To.rQ tr).size),sP[i]? = some d → ∃ d0,css[i]? = some d0∧d.1=d0.1 :=
   ⟨css.map (fun d=>(⟨d.1,d.2.trans hs⟩:Cl (To.rQ tr).size)),by simp,by rw [CT];rfl,fun i d q=>by
    rw [xh] at q;obtain ⟨d0,xE,rfl⟩:=pU.1 q;exact ⟨d0,xE,rfl⟩⟩
  have wi:(Ob.row tr v xs).ok (F.plus h bss.flatten) h:=by
   refine Ob.Gu (bs:=b::(xs.map fun _=>([]:List Nat)).flatten) ⟨_,rfl,.inr ⟨b,c,kk,sP,xs.map fun _=>[],?_⟩⟩;refine ⟨by rw [y4,hs];rfl,by rw [r.qS,hs];rfl,r.lt,by rw [uk];exact r.rm,by simp,fun i d x e q1 q2 q3=>?_,?_,fun q=>by have:=r.CC q;rw [hs] at this;exact this,fun m q=>by have:=r.cap m q;rw [hs] at this;exact this,r.zG,r.one,rfl,by rw [Aj];simp⟩
   ·rw [xh] at q3;obtain ⟨d0,xE,y3⟩:=hc3 i d q1;have qJ:=(qO.1 q2).1;have he:e=[]:=by
     rw [pF qJ] at q3;exact (oQ q3).symm
    have Xm:i < bss.length:=by rw [r.tn];exact qJ
    refine ⟨he,y3 ▸ s.rel (r.rel i d0 x _ xE q2 (pF Xm)) hle fun g hg o u hu=>?_⟩;unfold jL.plus;rw [if_pos (tC.2 ⟨_,List.getElem_mem Xm,hg⟩)];exact hu
   ·have h1:c.take (xs.length*tr.size)=(css.map qK).flatten:=by rw [← hs];exact r.cells
    exact h1.trans (congrArg List.flatten EW.symm)
  have Se:v.own=[b]:=by rw [y4];rfl
  have hnk:∀ (j:Nat) (p:Ob) (g:Nat),j≠k→L[j]? = some p→g∈p.bs→g ∉ bs:=fun j p g hj hp hg tE=>hj (hS.apart j k p _ g hp hk hg tE);refine ⟨F.plus h bss.flatten,hle,hS.next,hS.wf,hS.zd,fun g q u e=>?_,hS.ext.trans hle,fun g q u e=>?_,fun j p hj=>?_,fun j j' p p' g hj u6 hg vv=>?_⟩
  ·unfold jL.plus at e
   split at e
   ·exact e
   ·exact hS.agree g q u e
  ·unfold jL.plus at e
   split at e
   ·rename_i hg;exact .inr (zK g hg).2
   ·exact hS.new g q u e
  ·by_cases Cr:j=k
   ·subst Cr;rw [vN Jk] at hj;obtain rfl:=oQ hj;refine ⟨wi,fun g hg=>?_⟩;have vv:g∈v.own:=hg;rw [Se] at vv;have:g=b:=by simpa using vv
    subst this;refine ⟨fun q=>?_,Xn.2⟩;unfold jL.plus;rw [if_neg wh];exact Xn.1 q
   ·rw [yb (fun q=>Cr q.symm)] at hj;obtain ⟨t1,t2⟩:=hS.own j p hj;refine ⟨p.t.mono hle t1,fun g hg=>⟨fun q=>?_,(t2 g hg).2⟩⟩;unfold jL.plus;rw [if_neg fun z=>hnk j p g Cr hj hg (by rw [A0];exact ti _ z)];exact (t2 g hg).1 q
  ·have Z2:∀ (j:Nat) (p:Ob),(L.set k (.row tr v xs))[j]? = some p → ∃ p0,L[j]? = some p0 ∧ ∀ g,g∈p.bs→g∈p0.bs:=fun j p hj=>by
    by_cases Cr:j=k
    ·subst Cr;rw [vN Jk] at hj;obtain rfl:=oQ hj;refine ⟨_,hk,fun g hg=>?_⟩;have vv:g∈v.own:=hg;rw [Se] at vv;show g∈bs;rw [A0];have:g=b:=by simpa using vv
     simp [this]
    ·rw [yb (fun q=>Cr q.symm)] at hj;exact ⟨p,hj,fun g hg=>hg⟩
   obtain ⟨p0,e1,e2⟩:=Z2 j p hj;obtain ⟨p1,e3,e4⟩:=Z2 j' p' u6;exact hS.apart j j' p0 p1 g e1 e3 (e2 g hg) (e4 g vv)
end
section
variable {α:Type} {t:To α} {F:jL} {h:Hp} {bs:List Nat} {v:jD} {xs:List α}
theorem To.aiR (sL:0 < t.size) (r:(To.row t).rel F h bs [v] xs):∃ css bss,rI t F h css bss xs∧bss.flatten.Nodup∧(∀ g,g∈bss.flatten→g∈bs)∧D5 v=some xs.length∧ui h t.size xs.length v=some (css.map qK).flatten:=by
 obtain ⟨v0,rj,r⟩:=r;obtain rfl:=wS rj;rcases r with ⟨rfl,rfl,_⟩ | ⟨b,c,k,css,bss,r⟩
 ·exact ⟨[],[],.nil,EA,(fun g hg=>by simp at hg),rfl,rfl⟩
 ·have hf:=r.form;have zL:=r.nodup;rw [r.yF] at zL;have tU:xs.length*t.size≤c.length:=by
   cases k with
   | none=>exact r.CC rfl
   | some m=>obtain ⟨q1,q2⟩:=r.cap m rfl;rw [q1];exact tG _ q2
  refine ⟨css,bss,⟨r.rm,r.tn,r.rel⟩,(xL.1 zL).2,fun g hg=>by rw [r.yF];exact ti _ hg,by rw [hf];rfl,?_⟩;rw [hf];simp only [ui]
  split
  ·rename_i h0;have:css=[]:=tP (by rw [r.rm];exact h0);subst this;rfl
  ·unfold rd;rw [r.qS];simp only [pA,yu];rw [if_pos tU,r.cells]
theorem St.yD {X:List Nat} {h0:Hp} {F0:jL} {L:List Ob} {k i:Nat} {x:α} (hS:St X h0 F0 F L h) (hk:L[k]? = some (.dp t bs v xs)) (hi:xs[i]? = some x):DM v i:=by
 obtain ⟨v0,rj,r⟩:=hS.ok hk;obtain rfl:=wS rj;have qJ:=(qO.1 hi).1;rcases r with ⟨rfl,Cw,_⟩ | ⟨b,c,k,css,bss,r⟩
 ·have:xs=[]:=Cw;subst this;simp at qJ
 ·exact ⟨b,0,_,_,r.form,qJ⟩
theorem To.aiT {P:oZ} {ty e:oI} {lo hi:Option jD} {a b:Int} (r:(To.row t).rel F h bs [v] xs) (ht:P.underlying ty=some (.slice e)) (hz:sz P e=some t.size) (yn:CX lo 0 a) (xF:CX hi xs.length b) (h0:0≤a) (h1:a≤b) (h2:b≤(xs.length:Int)):∃ v',xb P ty v lo hi none=some v':=by
 obtain ⟨v0,rj,r⟩:=r;obtain rfl:=wS rj;rcases r with ⟨rfl,rfl,_⟩ | ⟨g,c,m,css,bss,r⟩
 ·refine ⟨_,by unfold xb;simp only [ht,hz,pG];rw [Ca (len:=0) yn xF h0 h1 h2 (px _)];rfl⟩
 ·have hf:=r.form;subst hf;cases m with
  | some m=>exact ⟨_,by unfold xb;simp only [Cap.Gv,ht,hz,pG];rw [Ca yn xF h0 h1 h2 (r.cap m rfl).2];rfl⟩
  | none=>exact ⟨_,by unfold xb;simp only [Cap.D9,ht,hz,pG,if_true];rw [Ca yn xF h0 h1 h2 (px _)];rfl⟩
end
section
variable {P:oZ} {K:Tb} {fn:Func} {k:ua} {E:EL} {h:Hp} {A:List Oper} {dr:Bool} {G:jL} {L:List Nat} {i d:Nat} {X:List Nat} {h0:Hp} {F0 F:jL} {Lo:List Ob}
theorem Qt {α:Type} {t:To α} {ty e:oI} {v:jD} {bs:List Nat} {xs:List α} {x:oY} {ol oh:Option oY} (j:Nat) (a b:Int) (hi:rM i A.length=true) (hw:sr A E (oE A i)=some true) (hd:(oE A i).dst=some d) (py:(oE A i).op = .slice ty x ol oh none)
  (ht:P.underlying ty=some (.slice e)) (hz:sz P e=some t.size) (hx:oS E x=some v) (hl:Bd E ol 0 a) (hh:Bd E oh xs.length b) (hS:St X h0 F0 F Lo h) (hj:Lo[j]? = some (.dp t bs v xs)) (q0:0≤a) (q1:a≤b) (q2:b≤(xs.length:Int))
  (q:∀ v',W P K fn k A dr G L ((d,v')::E) h):W P K fn k A dr G (i::L) E h:=by
 obtain ⟨lo,l1,l2⟩:=hl.val;obtain ⟨sK,r1,r2⟩:=hh.val;obtain ⟨v',k1⟩:=To.aiT (P:=P) (hS.ok hj) ht hz l2 r2 q0 q1 q2;refine qM (v:=v') hi hw hd (by rw [py];rfl) (fun h=>?_) (q v');rw [py];have n0:BB E none=some none:=rfl;simp only [pW,hx,l1,r1,n0,pG,k1,rN]
end
section
variable {P:oZ} {E:EL} {X:List Nat} {h0 h:Hp} {F0 F:jL} {L:List Ob}
theorem Qi {α:Type} {t:To α} {ts tx e:oI} {sx xx:oY} {v v2:jD} {bs rE:List Nat} {xs ys zs:List α} (ht:P.underlying ts=some (.slice e)) (wi:vV P e t.size=true) (BF:yP P tx=some false) (hs:oS E sx=some v) (Dr:oS E xx=some v2) (hS:St X h0 F0 F (.dp t rE v2 ys :: .dp t bs v xs::L) h) (hz:app xs ys=some zs) :
  Ef P E h (.call { callee:=.builtin .append,args:=#[sx,xx],argTypes:=#[ts,tx] }) (fun v' h'=>∃ qv,St X h0 F0 F (.dp t qv v' zs::L) h'):=by
 obtain ⟨vP,rfl⟩:=FO hz;obtain ⟨inf,zero,r1,r2,r3,r4,r5,r6,r7⟩:=H7 wi;have hk:(.dp t rE v2 ys :: .dp t bs v xs::L:List Ob)[1]? = some (.dp t bs v xs):=rfl;obtain ⟨css,bss,hE,qZ,Jn,c3,c4⟩:=To.aiR (t:=t) (bs:=rE) (v:=v2) (xs:=ys) r5 (hS.ok (i:=0) rfl);have Hq:∀ g,g∈rE→g ∉ bs:=fun g h1 h2=>by
  have:=hS.apart 0 1 _ _ g rfl hk h1 h2;omega
 obtain ⟨v',h',qv,q1,q2,q3,q4,q5,q6⟩:=To.Tq (t:=t) (bs:=bs) (v:=v) (xs:=xs) r5 (hS.ok hk) hE qZ (fun g hg=>Hq g (Jn g hg)) hS.wf vP;refine ⟨rfl,v',h',?_,qv,hS.join _ q2 q3 q4 (fun b hb _ hn=>q5 b hb hn) fun b hb=>?_⟩
 ·have rT:=hE.rm;simp only [pW,yY,vY,Ez,hs,Dr,wD,G9,ht,r1,r2,r3,BF,HX,c3,pG,rN,cond_false,pure,Bn];rw [c4];simp only [rN,pG];rw [if_pos ⟨r4,r5,by omega,r6,r7,by rw [Ai css,rT],hE.B8⟩];exact q1
 ·rcases q6 b hb with q | q | q
  ·exact .inr (.inl q)
  ·exact .inl (Jn b q)
  ·exact .inr (.inr q)
theorem Qj {α:Type} {t:To α} {ts e:oI} {n:Nat} {ps:Array (Nat × oY)} {u:jD} {x:α} (ht:P.underlying ts=some (.slice e)) (wi:vV P e t.size=true) (hp:FW E ps.toList=some (HY 0 [u])) (hr:t.rel F h [] u.cells x) (hn:n=1) (hle:BW t.size 16777216=true) (hS:St X h0 F0 F L h) :
  Ef P E h (.buildSlice ts n ps) (fun v' h'=>∃ qv,St X h0 F0 F (.dp t qv v' [x]::L) h'):=by
 subst hn;obtain ⟨inf,zero,r1,r2,r3,r4,r5,r6,r7⟩:=H7 wi;have hE:rI t F h [⟨u.cells,t.len hr⟩] [[]] [x]:=.one hr;have uH:u.cells.all jD.one=true:=t.one hr;have afk:=qY hle;have Li:=Rh (z:=t.size) r4 [u] 0 [] (fun w hw=>by simp at hw;subst hw;exact t.len hr) (by simp);simp only [zw,xi,Kg,vh,PZ,vM,List.length_singleton] at Li;have R:=Mm (h1:=h) (m:=some 1) (post:=[]) hE rfl (fun g q=>rfl) (by simp) (by simp) (fun _=>rfl) (fun q e=>by obtain rfl:=oQ e;exact ⟨by simp,by simp⟩) rfl;simp only [xi,Kg,vh,PZ,vM] at R;refine ⟨rfl,.sl (some (h.next,0)) 1 (.k 1),_,?_,[h.next],hS.fresh ⟨AN _,Ij rfl hS.wf,fun b hb=>?_⟩ ⟨_,rfl,.inr ⟨_,_,_,_,_,R⟩⟩ (fun b hb=>?_)⟩
 ·simp only [pW,hp,pG,FQ,ht,r1,r3];rw [if_pos ⟨by omega,r4,r5⟩,Li];simp only [pG,xa];rw [if_pos uH];rfl
 ·rw [Hp.rO,if_neg (by omega)]
 ·have:b=h.next:=by simpa [Ob.dp] using hb
  omega
end
end Go.V
end
section
namespace Go.V
open Go.Wk
section
variable {P:oZ} {K0:Tb}
def FH (P:oZ) (K0:Tb) (f:tO):Tb:=fun f' args h M=>f' = f ∧ ∃ b n z c rest,args = .sl (some (b,0)) n (.op z)::rest∧h.get b=some (.cells z c)∧n*z≤c.length ∧
 ∀ m,n≤m→c.length≤m*z→pa P K0 f (.sl (some (h.next,0)) n (.k m)::rest) ((h.set b .dead).new (.cells z (c++ph (m*z - c.length) .un))) M
theorem Qn (hK:AO P K0) {f:tO}:AO P (FH P K0 f):=by
 rintro f' args h M ⟨rfl,b,n,z,c,rest,rfl,hg,hn,hx⟩ ρ w tJ r hr;obtain ⟨a0,ar,rfl⟩:∃ a0 ar,tJ=a0::ar:=by
  cases tJ with
  | nil=>exact absurd hr.1 (by simp)
  | cons a r=>exact ⟨a,r,rfl⟩
 have h0:=hr.head;cases h0 with
 | so hb Dm p1 p2 =>
  rename_i m i;obtain ⟨b1,b2,b3,b4,b5,b6⟩:=r.qS _ _ _ hb hg;rw [pA,b2] at p1;rw [xM] at p2;have hc:c.length≤m*i.z:=p1;have uH:(c++ph (m*i.z - c.length) jD.un).all jD.one=true:=by
   rw [rC,b4,uQ];exact qB.2 fun u hu=>by rw [(MY.1 hu).2];rfl
  have hlen:(c++ph (m*i.z - c.length) jD.un).length=m*i.z:=by rw [rH,AM];omega
  obtain ⟨q2,q3⟩:=r.Yw (p:=0) (us:=[]) (z:=i.z) (n:=0) (N:=i.N) (base:=i.base) (c:=c++ph (m*i.z - c.length) jD.un) hb hg uH (by rw [hlen];exact p2) (fun u hu=>by cases hu) b5.2 b5.1 (fun j u hj=>by
   by_cases ta:j < c.length
   ·rw [s6 ta] at hj;exact b6 j u hj
   ·rw [s7 (by omega)] at hj;have hu:u = .un:=(MY.1 (vC hj)).2;have hjm:j < m*i.z:=by
     have:=(qO.1 hj).1;rw [AM] at this;omega
    subst hu;obtain ⟨u',Dq⟩:=Km.1 (b5.1 (i.base+j) (by omega)).1;exact ⟨u',Dq,.un (b5.2.2.1 _ _ Dq)⟩)
  have hv:pj (ρ.put h.next ⟨i.g,i.base,i.z,(c++ph (m*i.z - c.length) jD.un).length,i.N⟩) (.sl (some (h.next,0)) n (.k m)::rest) (.slice (some ⟨i.g,i.base+0,none⟩) n m::ar) :=
   pj.cons (VR.sk (i:=⟨i.g,i.base,i.z,(c++ph (m*i.z - c.length) jD.un).length,i.N⟩) (Fc _ _) Dm) (hr.tail.mono q3.le)
  have hm:=Zn hK (hx m Dm hc) _ _ _ q2 hv;have conv:∀ v' w',(∃ v h' ρ',(∃ v0 h0,Out.call v h' = .call v0 h0∧M v0 h0)∧VR ρ' v v' ∧ Rel ρ' h' w' ∧ Ext (ρ.put h.next ⟨i.g,i.base,i.z,(c++ph (m*i.z - c.length) jD.un).length,i.N⟩) ((h.set b .dead).new (.cells i.z (c++ph (m*i.z - c.length) .un))) w ρ' h' w') → ∃ v h' ρ',M v h' ∧ VR ρ' v v' ∧ Rel ρ' h' w' ∧ Ext ρ h w ρ' h' w':=by
   rintro v' w' ⟨v,h',ρ',⟨v0,h0,e,hM⟩,k1,k2,k3⟩;obtain ⟨rfl,rfl⟩:=Out.call.inj e;exact ⟨_,_,ρ',hM,k1,k2,q3.trans k3⟩
  rcases hm with ⟨e1,e2⟩ | ⟨v,w',e1,e2⟩
  ·refine .inl ⟨e1,Calls.mono e2 fun e w' q=>?_⟩;cases e with
   | returned v=>exact conv _ _ q
   | panicked c=>exact q.elim
   | outgrown=>exact q.elim
  ·exact .inr ⟨v,w',e1,conv _ _ e2⟩
def B4 (P:oZ):Tb:=fun f args h M=>∃ g t tr e z vb vo vn vc d1 z1 b o n c d2 z2,P.funcs[f]? = some g∧(g.name == "runtime.NumGoroutine")=false∧g.body.isNone=true∧Extern.findNext g=none∧Extern.find g=some (Extern.SlicesOverlaps.overlaps #[t,t] #[tr])∧P.underlying t=some (.slice e)∧sz P e=some z ∧
 args=[.sl (some (vb,vo)) vn vc,.sl (some (b,o)) n c]∧vb≠b∧h.get vb=some (.cells z1 d1)∧z1≠1∧vo < d1.length∧h.get b=some (.cells z2 d2)∧0 < d2.length∧M (.b false) h
theorem M9:AO P (B4 P):=by
 rintro f args h M ⟨g,t,tr,e,z,vb,vo,vn,vc,d1,z1,b,o,n,c,d2,z2,hf,Lv,hb,hn,he,ht,hz,rfl,pM,BD,sS,Se,tE,N4,hM⟩ ρ w tJ r hr
 match tJ,hr with
 | [u',v'],hr =>
  have ZH:∀ {b o n c u},VR ρ (.sl (some (b,o)) n c) u → ∃ i cc,ρ b=some i∧u = .slice (some ⟨i.g,i.base+o,none⟩) n cc:=fun h=>by
   cases h with
   | sk hb _=>exact ⟨_,_,hb,rfl⟩
   | so hb _ _ _=>exact ⟨_,_,hb,rfl⟩
  obtain ⟨i1,c1,e1,rfl⟩:=ZH hr.head;obtain ⟨i2,c2,e2,rfl⟩:=ZH hr.tail.head;obtain ⟨a1,a2,a3,a4,a5,a6⟩:=r.qS _ _ _ e1 BD;obtain ⟨b1,b2,b3,b4,b5,b6⟩:=r.qS _ _ _ e2 tE;have hg:i1.g≠i2.g:=fun q=>pM (r.inj vb b i1 i2 e1 e2 ⟨_,BD,rfl⟩ ⟨_,tE,rfl⟩ q);obtain ⟨u1,wL⟩:=Km.1 (a5.1 (i1.base+vo) (by omega)).1;obtain ⟨u2,yJ⟩:=Km.1 (b5.1 i2.base (by omega)).1;obtain ⟨C1,t1,f1,s1,s1'⟩:=Go.Sort.cells_of_cell? wL;obtain ⟨C2,t2,f2,s2,s2'⟩:=Go.Sort.cells_of_cell? yJ;have k2:C2.size≠0:=by
   simp only [zq,s2] at yJ;have:=(Pz.1 yJ).1;omega
  have h1:=run_callFunc_extern (P:=P) hf Lv hb hn he #[.slice (some ⟨i1.g,i1.base+vo,none⟩) vn c1,.slice (some ⟨i2.g,i2.base+o,none⟩) n c2] w;rw [Lib.run_overlaps_apart w t tr e ht z (wo hz) ⟨i1.g,i1.base+vo,none⟩ ⟨i2.g,i2.base+o,none⟩ vn c1 n c2 hg t1 t2 C1.size C2.size (by simp only [MQ,s1]) (by simp only [MQ,s2]) k2 (a5.1 _ (by omega)).2 (by
   have:=a5.2.2.2 (by rw [← a1] at sS;exact a1 ▸ sS) _ _ _ s1;simp only [Iu,s1];simp;omega)] at h1
  exact .inr ⟨_,w,h1,_,h,ρ,hM,.b _,r,Ext.refl _ _ _⟩
 | [],hr=>exact absurd hr.1 (by simp)
 | [_],hr=>exact absurd hr.1 (by simp)
 | _::_::_::_,hr=>exact absurd hr.1 (by simp)
end
section
variable {P:oZ} {E:EL} {X:List Nat} {h0 h:Hp} {F0 F:jL} {L:List Ob}
theorem aar {α:Type} {t:Tr α} {ty e:oI} {x:oY} {v:jD} {xs:List α} (k:Nat) (hs:P.underlying ty=some (.slice e)) (he:P.underlying e=some (.int .u8)) (hx:oS E x=some v) (hS:St X h0 F0 F L h) (hk:L[k]? = some (.row t v xs)) (hn:xs≠[]) (h1:t.size=1):Ef P E h (.convert ty ty x) (fun v' h'=>v=v' ∧ h=h'):=by
 refine ⟨by simp [qT,EP,hs],v,h,?_,rfl,rfl⟩;obtain ⟨v0,rj,r⟩:=hS.ok hk;obtain rfl:=wS rj;rcases r with ⟨rfl,Cw,_⟩ | ⟨b,c,kk,css,bss,r⟩
 ·exact absurd Cw hn
 ·have hf:v = .sl (some (b,0)) xs.length (.of t.size kk):=r.form;have hb:h.get b=some (.cells t.size c):=r.qS;rw [h1] at hb hf;subst hf;simp only [pW,hx,pG,wH,hs,he,hb,beq_self_eq_true]
end
end Go.V
end
section
namespace Go.V
open Go.Wk
theorem WD {u:oT} {v:jD} (h:Db u=some v):v.one=true:=by
 unfold Db at h
 split at h <;> first | (obtain rfl:=oQ h;rfl) | cases h
theorem ahc:∀ {l:List oT} {vs:List jD},l.mapM Db=some vs→vs.all jD.one=true:=by
 intro l
 induction l with
 | nil=>intro vs h;simp at h;subst h;rfl
 | cons x l ih =>
  intro vs h;simp only [vY,Bn,Option.pure_def,oV,qL] at h;obtain ⟨v,h1,us,h2,rfl⟩:=h;rw [List.all_cons,WD h1,ih h2];rfl
theorem acU {u:oT} {v:jD} (h:cv u=some v):v.cells.all jD.one=true:=by
 unfold cv at h
 split at h
 ·obtain ⟨vs,h1,rfl⟩:=pU.1 h;exact ahc h1
 ·have h1:=WD h;cases v <;> first | (simp [jD.cells,jD.one];done) | (simp [jD.one] at h1)
section
variable {P:oZ} {E:EL} {G:jL} {h:Hp}
theorem TZ {x:Int} {n:Nat} (hx:x=(n:Int)) (hn:n < 4611686018427387904):Eu.wrap x=(n:Int):=by
 subst hx;have h1:((n:Int) % (2 ^ 64:Int))=n:=Int.emod_eq_of_lt (by omega) (by omega);show (if (true&&decide ((n:Int) % (2 ^ 64:Int) ≥ (2 ^ 63:Int)))=true then (n:Int) % (2 ^ 64:Int) - (2 ^ 64:Int) else (n:Int) % (2 ^ 64:Int))=n;rw [h1,if_neg];simp only [uQ,decide_eq_true_eq];omega
theorem yA {t:oI} {a b:Nat} (h:a+b < 4611686018427387904):ru P .add t (.i .i64 (a:Int)) (.i .i64 (b:Int))=some (.i .i64 ((a+b:Nat):Int)):=by
 simp only [ru,BG,if_true];rw [TZ (n:=a+b) (by omega) h]
theorem QD {t:oI} {a b:Nat} (h:b≤a) (ha:a < 4611686018427387904):ru P .sub t (.i .i64 (a:Int)) (.i .i64 (b:Int))=some (.i .i64 ((a - b:Nat):Int)):=by
 simp only [ru,BG,if_true];rw [TZ (n:=a - b) (by omega) (by omega)]
theorem VT {len cap:Nat} {lo hi:Option jD} {a b:Nat} (yn:CX lo 0 (a:Int)) (xF:CX hi len (b:Int)) (h1:a≤b) (hc:b≤cap):zB len cap lo hi none=some (a,b,cap):=by
 have na:∀ kk,ze (.i kk (a:Int))=some a:=fun kk=>by unfold ze;simp only;rw [if_pos (by omega)];rfl
 have nb:∀ kk,ze (.i kk (b:Int))=some b:=fun kk=>by unfold ze;simp only;rw [if_pos (by omega)];rfl
 have e1:CD hi len=some b:=by
  rcases xF with ⟨rfl,e⟩ | ⟨kk,rfl⟩
  ·simp [CD];omega
  ·exact nb kk
 have e2:CD lo 0=some a:=by
  rcases yn with ⟨rfl,e⟩ | ⟨kk,rfl⟩
  ·simp [CD];omega
  ·exact na kk
 unfold zB;rw [e1,e2];simp only [CD,pG];rw [if_pos ⟨px _,by omega,by omega,fun q=>by cases q⟩]
theorem wa {t e:oI} {z b o len k:Nat} {x:oY} {ol oh:Option oY} (l u:Nat) (ht:P.underlying t=some (.slice e)) (hz:sz P e=some z) (hx:oS E x=some (.sl (some (b,o)) len (.k k))) (hl:Bd E ol 0 (l:Int)) (hh:Bd E oh len (u:Int)) (h1:l≤u) (h2:u≤k) (h3:l < k) (h:Hp) :
  pW P E h (.slice t x ol oh none)=some (.sl (some (b,o+l*z)) (u - l) (.k (k - l)),h):=by
 obtain ⟨lo,l1,l2⟩:=hl.val;obtain ⟨hi,r1,r2⟩:=hh.val;have n0:BB E none=some none:=rfl;simp only [pW,hx,l1,r1,n0,pG,xb,ht,hz];rw [VT l2 r2 h1 h2];simp only [rN];rw [if_neg (by omega)]
theorem II {t e:oI} {z b o len:Nat} {x:oY} {ol oh:Option oY} (l u:Nat) (ht:P.underlying t=some (.slice e)) (hz:sz P e=some z) (hx:oS E x=some (.sl (some (b,o)) len (.op z))) (hl:Bd E ol 0 (l:Int)) (hh:Bd E oh len (u:Int)) (h1:l≤u) (h2:u≤len) (h3:l < len) (h:Hp) :
  pW P E h (.slice t x ol oh none)=some (.sl (some (b,o+l*z)) (u - l) (.op z),h):=by
 obtain ⟨lo,l1,l2⟩:=hl.val;obtain ⟨hi,r1,r2⟩:=hh.val;have n0:BB E none=some none:=rfl;simp only [pW,hx,l1,r1,n0,pG,xb,ht,hz,if_true];rw [VT l2 r2 h1 h2];simp only [rN,Option.isSome_none,Bool.false_eq_true,if_false];rw [if_pos h3]
theorem B3 {t e:oI} {dx sx:oY} {b o n b2 o2 n2 z z1 z2 m:Nat} {k k2:Cap} {c d:List jD} (ht:P.underlying t=some (.slice e)) (hz:sz P e=some z) (hd:oS E dx=some (.sl (some (b,o)) n k)) (hx:oS E sx=some (.sl (some (b2,o2)) n2 k2)) (hm:min n2 n=m)
  (hg:h.get b=some (.cells z1 c)) (tE:h.get b2=some (.cells z2 d)) (h1:o2+m*z≤d.length) (h2:o+m*z≤c.length) (h3:d.all jD.one=true) (hm0:0 < m) :
  Ef P E h (.call { callee:=.builtin .copy,args:=#[dx,sx],argTypes:=#[t,t] }) (fun u h'=>h' = h.set b (.cells z1 (p6 c o ((d.drop o2).take (m*z))))):=by
 refine ⟨rfl,.i .i64 ((min n2 n:Nat):Int),_,?_,rfl⟩;have hf:ui h z m (.sl (some (b2,o2)) n2 k2)=some ((d.drop o2).take (m*z)):=by
  simp only [ui];rw [if_neg (by omega)];unfold rd;rw [tE];simp only;rw [if_pos h1]
 have hlen:((d.drop o2).take (m*z)).length=m*z:=by rw [rb,ue];omega
 have wY:((d.drop o2).take (m*z)).all jD.one=true:=qB.2 fun x hx=>qB.1 h3 x (yS (zt hx));simp only [pW,yY,vY,Ez,hd,hx,wD,copyV,pG,Bn,pure,FB,ht,hz,D5,hm,hf];rw [if_pos hlen];unfold vB;rw [hg];simp only;rw [if_pos ⟨by rw [hlen];exact h2,wY⟩];rfl
theorem Qh {ts tx e:oI} {sx xx:oY} {b o l k N z zb:Nat} {kk:vW} {c:List jD} (ht:P.underlying ts=some (.slice e)) (wi:vV P e z=true) (BF:yP P tx=some true) (hs:oS E sx=some (.sl (some (b,o)) l (.k k))) (Dr:oS E xx=some (.i kk (N:Int)))
  (Dm:l≤k) (sR:k < l+N) (hl:l≤2 ^ 30) (hN:N≤2 ^ 30) (hg:h.get b=some (.cells zb c)) (hc:o+l*z≤c.length) (h1:c.all jD.one=true) :
  Ef P E h (.call { callee:=.builtin .append,args:=#[sx,xx],argTypes:=#[ts,tx] }) (fun v' h'=>v' = .sl (some (h.next,0)) (l+N) (.op z) ∧ ∃ zs,zs.length=N*z∧zs.all jD.one=true∧h' = h.new (.cells z ((c.drop o).take (l*z)++zs))):=by
 obtain ⟨inf,zero,r1,r2,r3,r4,r5,r6,r7⟩:=H7 wi;have Ly:BK (.i kk (N:Int))=some N:=by unfold BK;simp only;rw [if_pos ⟨by omega,by omega⟩];rfl
 have hlen:(sZ zero.cells N).length=N*z:=by simp [sZ,r4]
 have sS:(sZ zero.cells N).all jD.one=true:=by
  refine qB.2 fun u hu=>?_;unfold sZ at hu;obtain ⟨q,hq,hu⟩:=tC.1 hu;rw [(MY.1 hq).2] at hu;obtain ⟨i,zz,e1,e2,e3⟩:=CO r3;have:=acU e3;exact qB.1 this u hu
 have wY:((c.drop o).take (l*z)).all jD.one=true:=qB.2 fun x hx=>qB.1 h1 x (yS (zt hx));refine ⟨rfl,.sl (some (h.next,0)) (l+N) (.op z),h.new (.cells z ((c.drop o).take (l*z)++sZ zero.cells N)),?_,rfl,_,hlen,sS,rfl⟩;simp only [pW,yY,vY,Ez,hs,Dr,wD,G9,ht,r1,r2,r3,BF,HX,Ly,pG,cond_true,pure,Bn];rw [if_pos r4];simp only [pG];rw [if_pos ⟨r4,r5,by omega,r6,r7,hlen,sS⟩];simp only [AS];rw [if_neg (by omega),if_pos ⟨Dm,by omega⟩];have hf:ui h z l (.sl (some (b,o)) l (.k k))=some ((c.drop o).take (l*z)):=by
  simp only [ui]
  split
  ·rename_i h0;subst h0;simp
  ·unfold rd;rw [hg];simp only;rw [if_pos hc]
 rw [hf];simp only [pG,xa];rw [if_pos (by rw [rC,wY,sS];rfl)];rfl
end
def Ku (z:Nat) (h:Hp) (b i n y:Nat) (c d:List jD) (u:jD) (h':Hp):Prop :=
 ∃ g k c',u = .sl (some (g,0)) (n+y) (.of z k)∧h'.get g=some (.cells z c')∧c'.take ((n+y)*z)=c.take (i*z)++d.take (y*z)++(c.take (n*z)).drop (i*z)∧(k=none→(n+y)*z≤c'.length)∧(∀ q,k=some q→c'.length=q*z∧n+y≤q) ∧
  c'.all jD.one=true∧g < h'.next∧h.next≤h'.next∧Wf h' ∧ (∀ q,q < h.next→q≠b→h'.get q=h.get q)∧(g=b∨h.next≤g)
theorem CE {c v:List jD} {o:Nat} (h1:c.all jD.one=true) (h2:v.all jD.one=true):(p6 c o v).all jD.one=true:=by
 unfold p6;rw [rC,rC,h2];have p1:(c.take o).all jD.one=true:=qB.2 fun x hx=>qB.1 h1 x (zt hx);have p2:(c.drop (o+v.length)).all jD.one=true:=qB.2 fun x hx=>qB.1 h1 x (yS hx);rw [p1,p2];rfl
theorem AB {c:List jD} {a b:Nat} (h1:c.all jD.one=true):((c.drop a).take b).all jD.one=true:=qB.2 fun x hx=>qB.1 h1 x (yS (zt hx))
section
variable {z i n y m:Nat} {c d:List jD}
theorem Ss (hi:i < n) (yq:n+y≤m) (Am:c.length=m*z) (xU:y*z≤d.length) :
  (p6 (p6 c ((i+y)*z) ((c.drop (i*z)).take ((n - i)*z))) (i*z) ((d.drop 0).take (y*z))).take ((n+y)*z)=c.take (i*z)++d.take (y*z)++(c.take (n*z)).drop (i*z) ∧
  (p6 (p6 c ((i+y)*z) ((c.drop (i*z)).take ((n - i)*z))) (i*z) ((d.drop 0).take (y*z))).length=m*z:=by
 have e1:(i+y)*z=i*z+y*z:=rV _ _ _;have e2:(n - i)*z=n*z - i*z:=CW _ _ _;have e3:(n+y)*z=n*z+y*z:=rV _ _ _;have e4:i*z≤n*z:=tG _ (zx hi);have e5:(n+y)*z≤m*z:=tG _ yq;generalize i*z=I at *;generalize n*z=N at *;generalize y*z=Y at *;generalize m*z=M at *;have lA:((c.drop I).take (N - I)).length=N - I:=by rw [rb,ue];omega
 have lD:((d.drop 0).take Y).length=Y:=by rw [rb,ue];omega
 rw [e1,e2,e3];have vQ:(p6 c (I+Y) ((c.drop I).take (N - I))).length=M:=by rw [yt (by rw [lA];omega)];exact Am
 have Cv:(p6 (p6 c (I+Y) ((c.drop I).take (N - I))) I ((d.drop 0).take Y)).length=M:=by rw [yt (by rw [lD,vQ];omega)];exact vQ
 refine ⟨?_,Cv⟩;apply CR;intro j;rw [tQ]
 by_cases hj:j < N+Y
 ·rw [if_pos hj,Ed (by rw [lD,vQ];omega),lD]
  by_cases h1:j < I
  ·rw [if_neg (by omega),Ed (by rw [lA];omega),lA,if_neg (by omega),tF,s6 (by rw [rb];omega),tQ,if_pos h1]
  ·by_cases h2:j < I+Y
   ·rw [if_pos ⟨by omega,h2⟩,s6 (by simp only [rH,rb];omega),s7 (by rw [rb];omega),yu,rb,Bm (by omega)]
   ·rw [if_neg (by omega),Ed (by rw [lA];omega),lA,if_pos (by omega),s7 (by simp only [rH,rb];omega),tQ,if_pos (by omega),vi,vi,tQ];simp only [rH,rb];rw [if_pos (by omega)]
    congr 1;omega
 ·rw [if_neg hj]
  symm
  rw [UM];simp only [rH,rb,ue];omega
theorem Su {zs:List jD} (hi:i < n) (yq:n≤m) (Am:c.length=m*z) (xU:y*z≤d.length) (tV:zs.length=(n+y - i)*z) :
  p6 (p6 ((c.drop 0).take (i*z)++zs) (i*z) ((d.drop 0).take (y*z))) ((i+y)*z) ((c.drop (i*z)).take ((n - i)*z))=c.take (i*z)++d.take (y*z)++(c.take (n*z)).drop (i*z) ∧
  (p6 (p6 ((c.drop 0).take (i*z)++zs) (i*z) ((d.drop 0).take (y*z))) ((i+y)*z) ((c.drop (i*z)).take ((n - i)*z))).length=(n+y)*z:=by
 have e1:(i+y)*z=i*z+y*z:=rV _ _ _;have e2:(n - i)*z=n*z - i*z:=CW _ _ _;have e3:(n+y)*z=n*z+y*z:=rV _ _ _;have e4:i*z≤n*z:=tG _ (zx hi);have e5:n*z≤m*z:=tG _ yq;have e6:(n+y - i)*z=n*z+y*z - i*z:=by rw [CW,rV]
 rw [e6] at tV;generalize i*z=I at *;generalize n*z=N at *;generalize y*z=Y at *;generalize m*z=M at *;have lA:((c.drop I).take (N - I)).length=N - I:=by rw [rb,ue];omega
 have lD:((d.drop 0).take Y).length=Y:=by rw [rb,ue];omega
 have lB:((c.drop 0).take I++zs).length=N+Y:=by rw [rH,rb,ue];omega
 rw [e1,e2,e3];have vQ:(p6 ((c.drop 0).take I++zs) I ((d.drop 0).take Y)).length=N+Y:=by rw [yt (by rw [lD,lB];omega)];exact lB
 have Cv:(p6 (p6 ((c.drop 0).take I++zs) I ((d.drop 0).take Y)) (I+Y) ((c.drop I).take (N - I))).length=N+Y:=by rw [yt (by rw [lA,vQ];omega)];exact vQ
 refine ⟨?_,Cv⟩;apply CR;intro j
 by_cases hj:j < N+Y
 ·rw [Ed (by rw [lA,vQ];omega),lA]
  by_cases h1:j < I
  ·rw [if_neg (by omega),Ed (by rw [lD,lB];omega),lD,if_neg (by omega),tF,s6 (by rw [rb,ue];omega),s6 (by rw [rb];omega),yu]
  ·by_cases h2:j < I+Y
   ·rw [if_neg (by omega),Ed (by rw [lD,lB];omega),lD,if_pos ⟨by omega,h2⟩,s6 (by simp only [rH,rb];omega),s7 (by rw [rb];omega),yu,rb,Bm (by omega)]
   ·rw [if_pos (by omega),s7 (by simp only [rH,rb];omega),tQ,if_pos (by omega),vi,vi,tQ];simp only [rH,rb];rw [if_pos (by omega)]
    congr 1;omega
 ·rw [UM.2 (by rw [Cv];omega)]
  symm
  rw [UM];simp only [rH,rb,ue];omega
end
end Go.V
end
section
namespace Go.Wk
def wZ {α:Type} (xs:List α) (i:Int) (ys:List α):Option (List α):=if 0≤i∧i≤(xs.length:Int)∧0 < ys.length∧xs.length+ys.length≤1073741824 then some (xs.take i.toNat++ys++xs.drop i.toNat) else none
theorem HQ {α:Type} {xs ys r:List α} {i:Int} (h:wZ xs i ys=some r):0≤i∧i≤(xs.length:Int)∧0 < ys.length∧xs.length+ys.length≤1073741824∧r=xs.take i.toNat++ys++xs.drop i.toNat:=by
 unfold wZ at h
 split at h
 ·rename_i hc;exact ⟨hc.1,hc.2.1,hc.2.2.1,hc.2.2.2,(oQ h).symm⟩
 ·cases h
end Go.Wk
namespace Go.V
open Go.Wk
section
variable {α:Type} {t:To α} {F:jL} {h h':Hp} {css:List (Cl t.size)} {bss:List (List Nat)} {xs:List α}
theorem rI.take (a:rI t F h css bss xs) (i:Nat):rI t F h (css.take i) (bss.take i) (xs.take i) :=
 ⟨by rw [rb,rb,a.rm],by rw [rb,rb,a.tn],fun j d x e h1 h2 h3=>by
  rw [tQ] at h1 h2 h3
  split at h1
  ·rename_i hj;rw [if_pos hj] at h2 h3;exact a.rel j d x e h1 h2 h3
  ·cases h1⟩
theorem rI.drop (a:rI t F h css bss xs) (i:Nat):rI t F h (css.drop i) (bss.drop i) (xs.drop i) :=
 ⟨by rw [ue,ue,a.rm],by rw [ue,ue,a.tn],fun j d x e h1 h2 h3=>by
  rw [vi] at h1 h2 h3;exact a.rel _ d x e h1 h2 h3⟩
theorem W4 {s:Nat}:∀ (css:List (Cl s)) (i:Nat),((css.take i).map qK).flatten=((css.map qK).flatten).take (i*s)
 | [],i=>by simp
 | d::r,0=>by simp
 | d::r,i+1=>by
  rw [List.take_succ_cons,xi,vh,xi,vh,W4 r i,List.take_append,d.2,rV,Nat.one_mul,Nat.add_sub_cancel,Bl (l:=d.1) (by rw [d.2];omega)]
theorem W3 {s:Nat}:∀ (css:List (Cl s)) (i:Nat),((css.drop i).map qK).flatten=((css.map qK).flatten).drop (i*s)
 | [],i=>by simp
 | d::r,0=>by simp
 | d::r,i+1=>by
  rw [List.drop_succ_cons,xi,vh,W3 r i,List.drop_append,d.2,rV,Nat.one_mul,Nat.add_sub_cancel,show d.1.drop (i*s+s)=[] from Fy (by rw [d.2];omega),zw]
def Vd (P:oZ) (K:Tb) (f:tO) (z:Nat):Prop:=∀ {h:Hp} {b n m i vb y:Nat} {ck:Cap} {c d:List jD} (hW:Wf h) (hb:b < h.next) (hg:h.get b=some (.cells z c)) (hv:h.get vb=some (.cells z d)) (pM:vb≠b) (hi:i < n) (yq:n≤m) (Am:c.length=m*z) (hy:0 < y) (xU:y*z≤d.length) (uk:c.all jD.one=true) (wK:d.all jD.one=true) (RE:n+y≤2 ^ 30) (Jp:vb < h.next),
  pa P K f [.sl (some (b,0)) n (.k m),.i .i64 (i:Int),.sl (some (vb,0)) y ck] h (Ku z h b i n y c d)
end
section
variable {α:Type} {t:To α} {F:jL} {w:Hp} {X:List Nat} {bs rE:List Nat} {v v2:jD} {i:Int} {xs ys r:List α} {P:oZ} {K K0:Tb} {f z:Nat}
theorem X6 (hz:t.size=z) {n:Nat} (hS:St X w F F [.dp t bs v xs,.dp t rE v2 ys] w) (hn:n < xs.length) (vP:xs.length+ys.length≤1073741824)
  {b:Nat} {c:List jD} {k:Option Nat} {css:List (Cl t.size)} {bss:List (List Nat)} (r1:C3 t F w bs v xs b c k css bss) {vb:Nat} {d:List jD} {k2:Option Nat} {sP:List (Cl t.size)} {vk:List (List Nat)} (r2:C3 t F w rE v2 ys vb d k2 sP vk)
  {h2:Hp} {b':Nat} {c2:List jD} (hn2:w.next≤h2.next) (y5:∀ q,q < w.next→q≠b→h2.get q=w.get q) (pP:b' = b∨w.next≤b') (EW:∃ post,c2=c++post) {u:jD} {h':Hp} (hI:Ku z h2 b' n xs.length ys.length c2 d u h'):∃ qv,St X w F F [.dp t qv u (xs.take n++ys++xs.drop n)] h':=by
 subst hz;obtain ⟨g,k',c',rfl,hg,tu,ho,zH,h1,hgl,RW,HN,Hz,zJ⟩:=hI;obtain ⟨post,rfl⟩:=EW;have Hq:∀ q,q∈bs→q ∉ rE:=fun q h1 h2=>by
  have:=hS.apart 0 1 _ _ q rfl rfl h1 h2;omega
 have Ge:=r1.yF;have Jg:=r2.yF;have Ap:=r1.nodup;have XI:=r2.nodup;rw [Ge] at Ap;rw [Jg] at XI;have e1:rI t F w css bss xs:=⟨r1.rm,r1.tn,r1.rel⟩
 have e2:rI t F w sP vk ys:=⟨r2.rm,r2.tn,r2.rel⟩
 have eA:rI t F w (css.take n++sP++css.drop n) (bss.take n++vk++bss.drop n) (xs.take n++ys++xs.drop n):=((e1.take n).cat e2).cat (e1.drop n);have yp:∀ q,q∈(bss.take n++vk++bss.drop n).flatten→q∈bss.flatten∨q∈vk.flatten:=fun q hq=>by
  simp only [yv,vj] at hq;rcases hq with (hq | hq) | hq
  ·obtain ⟨e,he,hq⟩:=tC.1 hq;exact .inl (tC.2 ⟨e,zt he,hq⟩)
  ·exact .inr hq
  ·obtain ⟨e,he,hq⟩:=tC.1 hq;exact .inl (tC.2 ⟨e,yS he,hq⟩)
 have pv:∀ q,q∈(bss.take n++vk++bss.drop n).flatten→q < w.next:=eA.lt;have XL:∀ q,q∈(bss.take n++vk++bss.drop n).flatten→q≠b:=fun q hq e=>by
  subst e;rcases yp q hq with h | h
  ·exact (xL.1 Ap).1 h
  ·exact Hq q (by rw [Ge];simp) (by rw [Jg];exact ti _ h)
 have u7:∀ q,q < w.next→q≠b→h'.get q=w.get q:=fun q hq As=>by
  rw [Hz q (by omega) (fun e=>by rcases pP with rfl | pP;exact As e;omega)];exact y5 q hq As
 have eB:=eA.frame (h1:=h') (by omega) fun q hq=>u7 q (pv q hq) (XL q hq);have Jj:g=b∨w.next≤g:=by
  rcases zJ with rfl | h
  ·exact pP
  ·exact .inr (by omega)
 have hlen:(xs.take n++ys++xs.drop n).length=xs.length+ys.length:=by simp only [rH,rb,ue];omega
 have amh:xs.length*t.size≤c.length:=by
  cases k with
  | none=>exact r1.CC rfl
  | some m=>obtain ⟨q1,q2⟩:=r1.cap m rfl;rw [q1];exact tG _ q2
 have zL:(bss.take n++vk++bss.drop n).flatten.Nodup:=by
  have p:((bss.take n++vk++bss.drop n).flatten).Perm (bss.flatten++vk.flatten):=by
   have q:bss.flatten=(bss.take n).flatten++(bss.drop n).flatten:=by rw [← yv,z8]
   rw [q,yv,yv,tF,tF];exact List.Perm.append_left _ List.perm_append_comm
  rw [p.nodup_iff];exact FC.2 ⟨(xL.1 Ap).2,(xL.1 XI).2,fun x hx y hy e=>by
   subst e;exact Hq x (by rw [Ge];exact ti _ hx) (by rw [Jg];exact ti _ hy)⟩
 have R:=Mn (b:=g) (c:=c') (k:=k') eB hgl hg (by
   rw [hlen,tu,z6,z6,yv,yv,W4,W3,← r1.cells,← r2.cells];have l1:n*t.size≤xs.length*t.size:=tG _ (zx hn);rw [Ix,Bm l1,M1 (by omega),M1 (by omega)])
  (by rw [hlen];exact ho) (by rw [hlen];exact zH) (by rw [hlen];omega) h1 (xL.2 ⟨fun hq=>by
   rcases Jj with e | e
   ·exact XL g hq e
   ·have:=pv g hq;omega,zL⟩)
 rw [hlen] at R;refine ⟨g::(bss.take n++vk++bss.drop n).flatten,hS.join (.dp t _ _ _) ⟨_,rfl,.inr ⟨_,_,_,_,_,R⟩⟩ (by omega) HN (fun q hq h1 h2=>u7 q hq (fun e=>h1 (by show q∈bs;rw [Ge,e];simp))) fun q hq=>?_⟩;rcases sg.1 hq with rfl | hq
 ·rcases Jj with e | e
  ·exact .inl (by show q∈bs;rw [Ge,e];simp)
  ·exact .inr (.inr e)
 ·rcases yp q hq with h | h
  ·exact .inl (by show q∈bs;rw [Ge];exact ti _ h)
  ·exact .inr (.inl (by show q∈rE;rw [Jg];exact ti _ h))
theorem Sr (hz:t.size=z) (sS:0 < z)
  (he:∀ {X:List Nat} {h0 h:Hp} {F0 F:jL} {L:List Ob} {bs rE:List Nat} {v v2:jD} {xs ys zs:List α} (hS:St X h0 F0 F (.dp t rE v2 ys :: .dp t bs v xs::L) h) (hy:0 < ys.length) (hz:app xs ys=some zs),pa P K f [v,.i .i64 (xs.length:Int),v2] h (fun u h'=>∃ qv,St X h0 F0 F (.dp t qv u zs::L) h'))
  (h1:Vd P K f z) (h0:Vd P K0 f z) (rT:∀ args h M,FH P K0 f f args h M→K f args h M)
  (hS:St X w F F [.dp t bs v xs,.dp t rE v2 ys] w) (H:wZ xs i ys=some r):pa P K f [v,.i .i64 i,v2] w fun u w'=>∃ qv,St X w F F [.dp t qv u r] w':=by
 obtain ⟨i0,i1,hy,vP,rfl⟩:=HQ H;obtain ⟨n,rfl⟩:∃ n:Nat,i=n:=⟨i.toNat,by omega⟩
 rw [ry]
 by_cases hn:n=xs.length
 ·subst hn;have Rx:St X w F F [.dp t rE v2 ys,.dp t bs v xs] w:=hS.pick [1,0] (by decide);have:=he Rx hy (zs:=xs++ys) (by unfold app;rw [if_pos vP]);rw [List.take_length,List.drop_length,vM];exact this
 ·have y8:n < xs.length:=by omega
  obtain ⟨v0,rj,q1⟩:=hS.ok (i:=0) rfl;obtain rfl:=wS rj;obtain ⟨v0,rj,q2⟩:=hS.ok (i:=1) rfl;obtain rfl:=wS rj;rcases q1 with ⟨_,e,_⟩ | ⟨b,c,k,css,bss,r1⟩
  ·have e':xs=[]:=e;subst e';simp at y8
  rcases q2 with ⟨_,e,_⟩ | ⟨vb,d,k2,sP,vk,r2⟩
  ·have e':ys=[]:=e;subst e';simp at hy
  have f1:v = .sl (some (b,0)) xs.length (.of t.size k):=r1.form;have f2:v2 = .sl (some (vb,0)) ys.length (.of t.size k2):=r2.form;have Xo:vb≠b:=fun e=>by
   have h1:b∈bs:=by have:=r1.yF;show b∈bs;rw [show bs=b::bss.flatten from this];simp
   have h2:vb∈rE:=by have:=r2.yF;show vb∈rE;rw [show rE=vb::vk.flatten from this];simp
   have:=hS.apart 0 1 _ _ b rfl rfl h1 (e ▸ h2);omega
  have g1:w.get b=some (.cells t.size c):=r1.qS;have g2:w.get vb=some (.cells t.size d):=r2.qS;have xU:ys.length*t.size≤d.length:=by
   cases k2 with
   | none=>exact r2.CC rfl
   | some m=>obtain ⟨q1,q2⟩:=r2.cap m rfl;rw [show d.length=m*t.size from q1];exact tG _ q2
  have Gb:b < w.next:=r1.lt;have Sd:vb < w.next:=r2.lt;subst hz;cases k with
  | some m =>
   obtain ⟨m1,m2⟩:=r1.cap m rfl;rw [f1,f2];exact (h1 (ck:=.of t.size k2) hS.wf Gb g1 g2 Xo y8 m2 m1 hy xU r1.one r2.one (by omega) Sd).mono fun u h' hI=>X6 rfl hS y8 vP r1 r2 (px _) (fun _ _ _=>rfl) (.inl rfl) ⟨[],by simp⟩ hI
  | none =>
   have tU:xs.length*t.size≤c.length:=r1.CC rfl;rw [f1];refine .known (M:=fun u w'=>∃ qv,St X w F F [.dp t qv u (xs.take n++ys++xs.drop n)] w') (rT _ _ _ ⟨rfl,b,xs.length,t.size,c,_,rfl,g1,tU,fun m Oe HE=>?_⟩) fun u w' q=>⟨u,w',rfl,q⟩
   rw [f2];have gw:∀ B q,q < w.next→q≠b→((w.set b .dead).new B).get q=w.get q:=fun B q hq As=>by
    rw [Hp.rO];have:(w.set b .dead).next=w.next:=rfl;rw [this,if_neg (by omega),Hp.pD,if_neg As]
   refine (h0 (h:=(w.set b .dead).new (.cells t.size (c++ph (m*t.size - c.length) .un))) (b:=w.next) (ck:=.of t.size k2) (c:=c++ph (m*t.size - c.length) .un) (fun q hq=>?_) (BY _) (by rw [Hp.rO];exact if_pos rfl) ((gw _ _ Sd Xo).trans g2) (by omega) y8 Oe (by rw [rH,AM];omega) hy xU ?_ r2.one (by omega) (Nat.lt_succ_of_lt Sd)).mono fun u h' hI=>X6 rfl hS y8 vP r1 r2 (AN _) (gw _) (.inr (px _)) ⟨_,rfl⟩ hI
   ·have xT:w.next+1≤q:=hq;rw [Hp.rO];have:(w.set b .dead).next=w.next:=rfl;rw [this,if_neg (by omega),Hp.pD,if_neg (by omega)];exact hS.wf q (by omega)
   ·rw [rC,r1.one,uQ];exact qB.2 fun u hu=>by rw [(MY.1 hu).2];rfl
end
end Go.V
end
section
namespace Go.V
open Go.Wk
abbrev sE (A:List Oper) (E:EL) (i d:Nat):Prop:=Nat.blt i A.length=true∧sr A E (oE A i)=some true∧(oE A i).dst=some d
abbrev IM (A:List Oper) (E:EL) (i:Nat):Prop:=Nat.blt i A.length=true∧sr A E (oE A i)=some true∧(oE A i).dst=none
abbrev ug {X:List Nat} {h0 h:Hp} {F0 F:jL} {L:List Ob} (_:St X h0 F0 F L h) (F':jL) (h':Hp):Prop:=St X h0 F0 F' L h'
abbrev po {X:List Nat} {h0 h:Hp} {F0 F:jL} {L:List Ob} (_:St X h0 F0 F L h) (L':List Ob) (F':jL) (h':Hp):Prop:=St X h0 F0 F' L' h'
section
variable {P:Program} {K:Tb} {fn:Func} {k:ua} {E:EL} {h:Hp} {A:List Oper} {dr:Bool} {G:jL} {L:List Nat} {i d:Nat}
theorem qc {v:jD} (x:W P K fn k A dr G L ((d,v)::E) h) (hq:sE A E i d:=by exact ⟨rfl,rfl,rfl⟩) (hk:decide (qT P (oE A i).op = .sQ)=false:=by exact rfl) (ho:∀ h,pW P E h (oE A i).op=some (v,h):=by exact fun _=>rfl):W P K fn k A dr G (i::L) E h:=qM hq.1 hq.2.1 hq.2.2 hk ho x
theorem q2 {j0 e0 j1 e1:Nat} {v0 v1:jD} (x:W P K fn k A dr G L ((e1,v1)::((e0,v0)::E)) h) (uy:Nat.blt j0 A.length=true:=by exact rfl) (E5:sr A E (oE A j0)=some true:=by exact rfl) (xE:(oE A j0).dst=some e0:=by exact rfl) (Dl:decide (qT P (oE A j0).op = .sQ)=false:=by exact rfl) (LA:∀ h,pW P E h (oE A j0).op=some (v0,h):=by exact fun _=>rfl) (Lk:Nat.blt j1 A.length=true:=by exact rfl) (BE:sr A ((e0,v0)::E) (oE A j1)=some true:=by exact rfl) (wK:(oE A j1).dst=some e1:=by exact rfl) (Cs:decide (qT P (oE A j1).op = .sQ)=false:=by exact rfl) (E1:∀ h,pW P ((e0,v0)::E) h (oE A j1).op=some (v1,h):=by exact fun _=>rfl):W P K fn k A dr G (j0::j1::L) E h:=qM uy E5 xE Dl LA (qM Lk BE wK Cs E1 x)
theorem q3 {j0 e0 j1 e1 j2 e2:Nat} {v0 v1 v2:jD} (x:W P K fn k A dr G L ((e2,v2)::((e1,v1)::((e0,v0)::E))) h) (uy:Nat.blt j0 A.length=true:=by exact rfl) (E5:sr A E (oE A j0)=some true:=by exact rfl) (xE:(oE A j0).dst=some e0:=by exact rfl) (Dl:decide (qT P (oE A j0).op = .sQ)=false:=by exact rfl) (LA:∀ h,pW P E h (oE A j0).op=some (v0,h):=by exact fun _=>rfl) (Lk:Nat.blt j1 A.length=true:=by exact rfl) (BE:sr A ((e0,v0)::E) (oE A j1)=some true:=by exact rfl) (wK:(oE A j1).dst=some e1:=by exact rfl) (Cs:decide (qT P (oE A j1).op = .sQ)=false:=by exact rfl) (E1:∀ h,pW P ((e0,v0)::E) h (oE A j1).op=some (v1,h):=by exact fun _=>rfl) (Ll:Nat.blt j2 A.length=true:=by exact rfl) (Sg:sr A ((e1,v1)::((e0,v0)::E)) (oE A j2)=some true:=by exact rfl) (N4:(oE A j2).dst=some e2:=by exact rfl) (y5:decide (qT P (oE A j2).op = .sQ)=false:=by exact rfl) (HI:∀ h,pW P ((e1,v1)::((e0,v0)::E)) h (oE A j2).op=some (v2,h):=by exact fun _=>rfl):W P K fn k A dr G (j0::j1::j2::L) E h:=qM uy E5 xE Dl LA (qM Lk BE wK Cs E1 (qM Ll Sg N4 y5 HI x))
theorem q4 {j0 e0 j1 e1 j2 e2 j3 e3:Nat} {v0 v1 v2 v3:jD} (x:W P K fn k A dr G L ((e3,v3)::((e2,v2)::((e1,v1)::((e0,v0)::E)))) h) (uy:Nat.blt j0 A.length=true:=by exact rfl) (E5:sr A E (oE A j0)=some true:=by exact rfl) (xE:(oE A j0).dst=some e0:=by exact rfl) (Dl:decide (qT P (oE A j0).op = .sQ)=false:=by exact rfl) (LA:∀ h,pW P E h (oE A j0).op=some (v0,h):=by exact fun _=>rfl) (Lk:Nat.blt j1 A.length=true:=by exact rfl) (BE:sr A ((e0,v0)::E) (oE A j1)=some true:=by exact rfl) (wK:(oE A j1).dst=some e1:=by exact rfl) (Cs:decide (qT P (oE A j1).op = .sQ)=false:=by exact rfl) (E1:∀ h,pW P ((e0,v0)::E) h (oE A j1).op=some (v1,h):=by exact fun _=>rfl) (Ll:Nat.blt j2 A.length=true:=by exact rfl) (Sg:sr A ((e1,v1)::((e0,v0)::E)) (oE A j2)=some true:=by exact rfl) (N4:(oE A j2).dst=some e2:=by exact rfl) (y5:decide (qT P (oE A j2).op = .sQ)=false:=by exact rfl) (HI:∀ h,pW P ((e1,v1)::((e0,v0)::E)) h (oE A j2).op=some (v2,h):=by exact fun _=>rfl) (hi3:Nat.blt j3 A.length=true:=by exact rfl) (hw3:sr A ((e2,v2)::((e1,v1)::((e0,v0)::E))) (oE A j3)=some true:=by exact rfl) (hd3:(oE A j3).dst=some e3:=by exact rfl) (hk3:decide (qT P (oE A j3).op = .sQ)=false:=by exact rfl) (ho3:∀ h,pW P ((e2,v2)::((e1,v1)::((e0,v0)::E))) h (oE A j3).op=some (v3,h):=by exact fun _=>rfl):W P K fn k A dr G (j0::j1::j2::j3::L) E h:=qM uy E5 xE Dl LA (qM Lk BE wK Cs E1 (qM Ll Sg N4 y5 HI (qM hi3 hw3 hd3 hk3 ho3 x)))
theorem qr {v:jD} (ho:Rd P G E (oE A i).op v) (x:W P K fn k A dr G L ((d,v)::E) h) (hq:sE A E i d:=by exact ⟨rfl,rfl,rfl⟩):W P K fn k A dr G (i::L) E h:=xr hq.1 hq.2.1 hq.2.2 ho x
theorem qq {v:jD} (ho:Rd P (qH h) E (oE A i).op v) (x:W P K fn k A dr G L ((d,v)::E) h) (hb:ahead P A i L=true:=by kernel_rfl) (hq:sE A E i d:=by exact ⟨rfl,rfl,rfl⟩):W P K fn k A dr G (i::L) E h:=Nf hb hq.1 hq.2.1 hq.2.2 ho x
theorem qx {Q:jD→Hp→Prop} (ho:Ef P E h (oE A i).op Q) (x:∀ v h',Q v h' → pQ P K fn k A dr G L ((d,v)::E) h') (hq:sE A E i d:=by exact ⟨rfl,rfl,rfl⟩):W P K fn k A dr G (i::L) E h:=Vv hq.1 hq.2.1 hq.2.2 ho x
theorem qu {Q:jD→Hp→Prop} (ho:Ef P E h (oE A i).op Q) (x:∀ v h',Q v h' → pQ P K fn k A dr G L E h') (hq:IM A E i:=by exact ⟨rfl,rfl,rfl⟩):W P K fn k A dr G (i::L) E h:=Vw hq.1 hq.2.1 hq.2.2 ho x
theorem ql {f:FuncId} {args:List jD} {R:jD→Hp→Prop} (hc:pa P K f args h R) (x:∀ v h',R v h' → pQ P K fn k A dr G L ((d,v)::E) h') (hq:sE A E i d:=by exact ⟨rfl,rfl,rfl⟩) (ht:Eo E (oE A i).op=some (f,args):=by exact rfl):W P K fn k A dr G (i::L) E h:=Bp hq.1 hq.2.1 hq.2.2 ht hc x
theorem qn {y:Code} (q:C P K fn k y E h):W P K fn (.code y k) A dr G [] E h:=qN (tR q)
theorem qs {id:Nat} {y:Code} (x:W P K fn (.code y k) A false (qH h) (List.range A.length) E h) (hd:zC fn.ntmps A=true:=by exact rfl):C P K fn k (.seq (.region id A.toArray false) y) E h:=qU (U6 hd x)
theorem qd {id:Nat} (x:W P K fn k A false (qH h) (List.range A.length) E h) (hd:zC fn.ntmps A=true:=by exact rfl):C P K fn k (.region id A.toArray false) E h:=U6 hd x
variable {y:Code} {X:List Nat} {h0 w:Hp} {F0 F' F:jL} {Ls:List Ob} {g o off s f:Nat} {cs:List jD} {v u:jD} {x y' z':Operand} {t e':TypeId}
theorem qm (q:C P K fn k y ((d,v)::E) h) (hq:sE A E i d:=by exact ⟨rfl,rfl,rfl⟩) (hk:decide (qT P (oE A i).op = .sQ)=false:=by exact rfl) (ho:∀ h,pW P E h (oE A i).op=some (v,h):=by exact fun _=>rfl):W P K fn (.code y k) A dr G [i] E h:=qM hq.1 hq.2.1 hq.2.2 hk ho (qN (tR q))
theorem qk (q:C P K fn k y E h):C P K fn (.code y k) .skip E h:=Bo (tR q)
theorem qz (q:W P K fn k A dr G L ((d,.no)::E) h) (hi:Nat.blt i A.length=true:=by exact rfl) (hw:sr A E (oE A i)=some false:=by exact rfl) (hd:(oE A i).dst=some d:=by exact rfl):W P K fn k A dr G (i::L) E h:=IP hi hw hd q
theorem qf (hf:uj P s f=some off) (q:W P K fn k A dr G L ((d,pl g (o+off))::E) h) (hq:sE A E i d:=by exact ⟨rfl,rfl,rfl⟩) (py:(oE A i).op = .fieldAddr s x f:=by exact rfl) (hx:oS E x=some (pl g o):=by exact rfl):W P K fn k A dr G (i::L) E h:=xr hq.1 hq.2.1 hq.2.2 (py ▸ Vk off hf hx) q
theorem qb (n:Nat) (ht:rY P t=some false) (hS:St X h0 F0 F Ls h) (q:W P K fn k A dr (qH h) L ((d,u)::E) h) (hq:sE A E i d:=by exact ⟨rfl,rfl,rfl⟩) (py:(oE A i).op = .load t x:=by exact rfl) (hx:oS E x=some (pl g o):=by exact rfl) (hk:Ls[n]? = some (.box g cs):=by exact rfl) (hu:cs[o]? = some u:=by exact rfl):W P K fn k A dr (qH h) (i::L) E h:=xr hq.1 hq.2.1 hq.2.2 (py ▸ rR n ht hx hS hk hu) q
theorem Dv (n:Nat) (ht:rY P t=some false) (hS:St X h0 F0 F Ls h) (q:W P K fn k A dr G L ((d,u)::E) h) (hb:ahead P A i L=true:=by kernel_rfl) (hq:sE A E i d:=by exact ⟨rfl,rfl,rfl⟩) (py:(oE A i).op = .load t x:=by exact rfl) (hx:oS E x=some (pl g o):=by exact rfl) (hk:Ls[n]? = some (.box g cs):=by exact rfl) (hu:cs[o]? = some u:=by exact rfl):W P K fn k A dr G (i::L) E h:=Nf hb hq.1 hq.2.1 hq.2.2 (py ▸ rR n ht hx hS hk hu) q
theorem qh (n:Nat) (b:ED w g cs) (hS:St X h0 F0 F Ls h) (q:W P K fn k A dr (F.hold w [g]) L E h) (hk:Ls[n]? = some (.box g cs):=by exact rfl):pQ P K fn k A dr (F.hold w [g]) L E h:=pQ.tT (HB.le (HB.cons n b hS hk HB.nil) (jL.le.refl _)) (HB.agree (HB.cons n b hS hk HB.nil) hS.agree) q
theorem qi {a b:Nat} {kk:IntKind} {n:Int} (ht:P.underlying t=some (.slice e')) (hz:sz P e' = some a) (hE:DM v b) (hn:0≤n) (q:W P K fn k A dr G L ((d,uF v (b*a))::E) h) (hq:sE A E i d:=by exact ⟨rfl,rfl,rfl⟩) (py:(oE A i).op = .indexAddr t x y':=by exact rfl) (hx:oS E x=some v:=by exact rfl) (hy:oS E y' = some (.i kk n):=by exact rfl) (XM:n.toNat=b:=by exact rfl):W P K fn k A dr G (i::L) E h:=xr hq.1 hq.2.1 hq.2.2 (py ▸ Vl ht hz hx hy hE hn XM) q
theorem lm {f:FuncId} {args:List jD} {R:jD→Hp→Prop} (hc:pa P K f args h R) (x:∀ v h',R v h' → W P K fn k A false (qH h') L ((d,v)::E) h') (hq:sE A E i d:=by exact ⟨rfl,rfl,rfl⟩) (ht:Eo E (oE A i).op=some (f,args):=by exact rfl):W P K fn k A false G (i::L) E h:=Bp hq.1 hq.2.1 hq.2.2 ht hc fun v h' r=>pQ.now (x v h' r)
theorem xm {Q:jD→Hp→Prop} (ho:Ef P E h (oE A i).op Q) (x:∀ v h',Q v h' → W P K fn k A false (qH h') L ((d,v)::E) h') (hq:sE A E i d:=by exact ⟨rfl,rfl,rfl⟩):W P K fn k A false G (i::L) E h:=Vv hq.1 hq.2.1 hq.2.2 ho fun v h' r=>pQ.now (x v h' r)
theorem um {Q:jD→Hp→Prop} (ho:Ef P E h (oE A i).op Q) (x:∀ v h',Q v h' → W P K fn k A false (qH h') L E h') (hq:IM A E i:=by exact ⟨rfl,rfl,rfl⟩):W P K fn k A false G (i::L) E h:=Vw hq.1 hq.2.1 hq.2.2 ho fun v h' r=>pQ.now (x v h' r)
theorem rA {f:FuncId} {c:Code} {a0:jD} {R:jD→Hp→Prop} (hf:P.funcs[f]? = some fn) (q:C P K fn (.done R) c [(0,a0)] h) (hb:fn.body=some c:=by exact rfl) (hm:fn.name ≠ "runtime.NumGoroutine":=by decide) (hn:Nat.ble 1 fn.ntmps=true:=by exact rfl):pa P K f [a0] h R:=IL (args:=[a0]) hf hb hm hn q
theorem ra {f:FuncId} {c:Code} {a0 a1:jD} {R:jD→Hp→Prop} (hf:P.funcs[f]? = some fn) (q:C P K fn (.done R) c [(0,a0),(1,a1)] h) (hb:fn.body=some c:=by exact rfl) (hm:fn.name ≠ "runtime.NumGoroutine":=by decide) (hn:Nat.ble 2 fn.ntmps=true:=by exact rfl):pa P K f [a0,a1] h R:=IL (args:=[a0,a1]) hf hb hm hn q
theorem BM {f:FuncId} {c:Code} {a0 a1 a2:jD} {R:jD→Hp→Prop} (hf:P.funcs[f]? = some fn) (q:C P K fn (.done R) c [(0,a0),(1,a1),(2,a2)] h) (hb:fn.body=some c:=by exact rfl) (hm:fn.name ≠ "runtime.NumGoroutine":=by decide) (hn:Nat.ble 3 fn.ntmps=true:=by exact rfl):pa P K f [a0,a1,a2] h R:=IL (args:=[a0,a1,a2]) hf hb hm hn q
theorem wm {id:Nat} {y:Code} {v:jD} (x:W P K fn (.code y k) A false (qH h) L ((d,v)::E) h) (Df:zC fn.ntmps A=true:=by exact rfl) (hl:List.range A.length=i::L:=by exact rfl) (hq:sE A E i d:=by exact ⟨rfl,rfl,rfl⟩) (hk:decide (qT P (oE A i).op = .sQ)=false:=by exact rfl) (ho:∀ h,pW P E h (oE A i).op=some (v,h):=by exact fun _=>rfl):C P K fn k (.seq (.region id A.toArray false) y) E h:=qs (hl ▸ qc x hq hk ho) Df
theorem JP {id:Nat} {y:Code} {v:jD} (x:C P K fn k y ((d,v)::E) h) (Df:zC fn.ntmps A=true:=by exact rfl) (hl:List.range A.length=[i]:=by exact rfl) (hq:sE A E i d:=by exact ⟨rfl,rfl,rfl⟩) (hk:decide (qT P (oE A i).op = .sQ)=false:=by exact rfl) (ho:∀ h,pW P E h (oE A i).op=some (v,h):=by exact fun _=>rfl):C P K fn k (.seq (.region id A.toArray false) y) E h:=qs (hl ▸ qm x hq hk ho) Df
theorem qw {h0:Hp} {X:List Nat} {F0 F:jL} {Ls:List Ob} (hS:St X h0 F0 F Ls h) (q:W P K fn k A dr F L E h):pQ P K fn k A dr F L E h:=pQ.tT (jL.le.refl _) hS.agree q
theorem ri {b b':Bool} (t:Nat) (e:b=b') (q:W P K fn k A dr G L ((t,.b b')::E) h) (hl:look E t=some (.b b):=by exact rfl):W P K fn k A dr G L E h:=aaC hl (congrArg jD.b e) q
theorem qt {vs:List jD} {v:jD} (hR:k.final v h) (hv:outs P E h fn.results.toList=some vs:=by exact rfl) (ho:Du vs=v:=by exact rfl):C P K fn k .ret E h:=U7 hv ho hR
theorem qj {G:jL} {v:jD} {i:Nat} {cs:List jD} (s:Nat) (q:tj G v s i cs):tj G v s i cs:=q
theorem qy {α:Type} {a b:Option α} {r:α} {t:Bool} {c d:Code} {x:Operand} (H:(if t=true then a else b)=some r) (p:t=true→a=some r→C P K fn k c E h) (q:t=false→b=some r→C P K fn k d E h) (hx:oS E x=some (.b t):=by exact rfl):C P K fn k (.cond x c d) E h:=uS hx (fun e=>p e ((oW e).symm.trans H)) (fun e=>q e ((oX e).symm.trans H))
theorem pI {j d':Nat} (q:W P K fn k A dr G L ((d',.no)::(d,.no)::E) h) (hi:Nat.blt i A.length=true:=by exact rfl) (hw:sr A E (oE A i)=some false:=by exact rfl) (hd:(oE A i).dst=some d:=by exact rfl) (sK:Nat.blt j A.length=true:=by exact rfl) (hw':sr A ((d,.no)::E) (oE A j)=some false:=by exact rfl) (Df:(oE A j).dst=some d':=by exact rfl):W P K fn k A dr G (i::j::L) E h:=IP hi hw hd (IP sK hw' Df q)
theorem oU {α β γ:Type} {o:Option α} {p:α→Option β} {f:α→β→Option γ} {r:γ} (H:(bd o fun x=>bd (p x) (f x))=some r):∃ x,o=some x ∧ ∃ y,p x=some y∧f x y=some r:=by
 obtain ⟨x,h1,H⟩:=oL H;obtain ⟨y,h2,H⟩:=oL H;exact ⟨x,h1,y,h2,H⟩
theorem oi {α:Type} {a b:α} (h:some a=some b):a=b:=Option.some.inj h
end
end Go.V
end
