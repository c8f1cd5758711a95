/- Arrays of bytes seen as slices; texts appended; calls lent rows with flat results; known calls by classes; maps. Results that lie in memory. Guarded operations told by their bools: no split into cases. Objects that are held while others turn: what they hold may be looked at beside effects. Pieces of own rows are written. slices.SortFunc over flat rows whose order tells all apart. Arrays of numbers; words of 32 bits. Deep rows: an element's row taken out, turned, put back; rows of elements whose rows are frozen. Open rows are closed for a call; slices.overlaps; bytes as bytes. Closed rows by their cells: slices, copies; what slices.Insert makes. slices.Insert at rows whose elements own memory. Rules that find what is known by themselves: shorter texts. -/
import Derived.Test.YtfphkkaifgnlgaaGreatG2
import Derived.Lib.Overlaps
import Derived.Test.YtfphkkaifgnlgaaGreatProg
set_option linter.unusedVariables false
set_option linter.unusedSimpArgs false
section
namespace Go.Wk
def mnil {κ ν : Type} : κ → Option ν := fun _ => none
def mput {κ ν : Type} [DecidableEq κ] (m : κ → Option ν) (k : κ) (v : ν) : κ → Option ν := fun j => if j = k then some v else m j
end Go.Wk
namespace Go.V
open Go.Wk
class Kn (A B : Tb) : Prop where
 le : ∀ f args h M, A f args h M → B f args h M
instance (A : Tb) : Kn A A := ⟨fun _ _ _ _ h => h⟩
def IdAt (F : Frz) (b o : Nat) (r : List UInt8) : Prop := ∀ (q : Nat) (u : Val), (idCells r)[q]? = some u → F b (o + q) = some u
theorem IdAt.mono {F G : Frz} {b o : Nat} {r : List UInt8} (h : IdAt F b o r) (l : F.le G) : IdAt G b o r := fun q u e => l _ _ _ (h q u e)
theorem BxF.at {F : Frz} {g o : Nat} {cs : List Val} {x : List UInt8} (hb : BxF F g cs) (hcs : ∀ (q : Nat) (u : Val), (idCells x)[q]? = some u → cs[o + q]? = some u) : IdAt F g o x := fun q u h => hb _ _ (hcs q u h)
section
variable {P : Program} {K : Tb} {fn : Func} {k : Kont} {E : EL} {h : Hp} {A : List Oper} {dr : Bool} {G : Frz} {L : List Nat} {i d : Nat}
def Rn (P : Program) (h : Hp) (E : EL) (op : Op) (v : Val) : Prop := decide (kindOf P op = .eff) = false ∧ opL P E h op = some (v, h)
theorem W_h {v : Val} (hb : dr = false ∨ ahead P A i L = true) (hi : Nat.blt i A.length = true) (hw : wantL A E (opAt A i) = some true) (hd : (opAt A i).dst = some d) (ho : Rn P h E (opAt A i).op v) (x : W P K fn k A dr G L ((d, v) :: E) h) : W P K fn k A dr G (i :: L) E h := by
 intro ha env pd he hp
 refine .oone (by simpa using hi) (he.want _ _ _ hw) (he.op1 _ _ _ ho.2) (fun e => absurd e (by simpa using ho.1)) ?_
 rw [hd]
 refine x ha _ _ (he.put d v) fun hdr q hq => ?_
 unfold pdPut at hq
 split at hq
 ·rename_i hkr
  rcases List.mem_cons.1 hq with rfl | hq
  ·refine ⟨hkr, .inl fun j hj hk => ?_⟩
   rcases hb with hb | hb
   ·rw [hb] at hdr; cases hdr
   ·have := List.all_eq_true.1 hb j hj
    simpa [hk] using this
  ·exact hp.tail hdr q hq
 ·exact hp.tail hdr q hq
theorem W_slB {F : Frz} {t e : TypeId} {x : Operand} {b o : Nat} {y : List UInt8} (hi : Nat.blt i A.length = true) (hw : wantL A E (opAt A i) = some true) (hd : (opAt A i).dst = some d) (hop : (opAt A i).op = .slice t x none none none) (ht : P.underlying t = some (.array 32 e)) (hz : sz P e = some 1) (hx : evLO E x = some (pl b o)) (ha : IdAt F b o y) (hl : y.length = 32)
  (q : ∀ v', SlF tB F v' y → W P K fn k A dr G L ((d, v') :: E) h) : W P K fn k A dr G (i :: L) E h :=
 W_r hi hw hd (by rw [hop]; exact O_slA ht hz hx) (q _ (sl_id hl ha))
theorem W_s2a {F : Frz} {t e : TypeId} {x : Operand} {v : Val} {xs r : List UInt8} (hi : Nat.blt i A.length = true) (hw : wantL A E (opAt A i) = some true) (hd : (opAt A i).dst = some d) (hop : (opAt A i).op = .sliceToArrayPointer t x) (ht : P.underlying t = some (.array 32 e)) (hx : evLO E x = some v) (hv : SlF tB F v xs) (hr : arr32 xs = some r)
  (q : ∀ b o, IdAt F b o r → W P K fn k A dr G L ((d, pl b o) :: E) h) : W P K fn k A dr G (i :: L) E h := by
 obtain ⟨h1, rfl⟩ := arr32_some hr
 obtain ⟨css, c1, c2⟩ := hv
 have hl := c1.1
 rcases c2 with ⟨rfl, rfl⟩ | ⟨a, c, rfl, e2, e3, e4, e5⟩
 ·simp at hl; omega
 ·cases a with
  | none => rw [(e4 rfl).1] at hl; simp at hl; omega
  | some a =>
   obtain ⟨b, o⟩ := a
   refine W_c (v := pl b o) hi hw hd (by rw [hop]; rfl) (fun h => ?_) (q b o fun q u hq => ?_)
   ·rw [hop]
    simp only [opL, hx, Option.bind_some, ht]
    rw [if_pos (by omega)]
   ·rw [idCells_map (by simp; omega)] at hq
    rw [List.getElem?_map] at hq
    obtain ⟨y, hy, rfl⟩ := Option.map_eq_some_iff.1 hq
    rw [List.getElem?_take] at hy
    split at hy
    ·obtain ⟨d', hd'⟩ : ∃ d, css[q]? = some d := ⟨_, List.getElem?_eq_getElem (by have := (List.getElem?_eq_some_iff.1 hy).1; omega)⟩
     have hdv : d'.1 = [cB y] := c1.2 q d' y hd' hy
     have := e5 b o rfl q d' 0 (cB y) hd' (by rw [hdv]; rfl)
     have h1 : tB.size = 1 := rfl
     rw [h1] at this
     simpa using this
    ·cases hy
end
def Tr.Flat {α : Type} (t : Tr α) : Prop := ∀ {F G : Frz} {cs : List Val} {x : α}, t.rel F cs x → t.rel G cs x
section
variable {X : List Nat} {h0 h h' : Hp} {F0 F F' : Frz} {L Lr : List Ob}
theorem row_flat {α : Type} {t : Tr α} {v : Val} {xs : List α} {G : Frz} (hf : t.Flat) (r : (Ob.row t v xs).ok F h) : (Ob.row t v xs).ok G h := by
 obtain ⟨v0, hv0, r⟩ := r
 refine ⟨v0, hv0, ?_⟩
 rcases r with r | ⟨b, c, k, css, bss, r⟩
 ·exact .inl r
 ·exact .inr ⟨b, c, k, css, bss, ⟨r.form, r.blk, r.lt, r.csl, r.bsl, fun i d x e q1 q2 q3 => ⟨(r.rel i d x e q1 q2 q3).1, hf (r.rel i d x e q1 q2 q3).2⟩, r.cells, r.opn, r.cap, r.few, r.one, r.foot, r.nodup⟩⟩
def Flats : List Ob → Prop
 | [] => True
 | o :: r => (∀ F G h, o.ok F h → o.ok G h) ∧ Flats r
theorem Flats.get : ∀ {Lr : List Ob}, Flats Lr → ∀ (i : Nat) (o : Ob), Lr[i]? = some o → ∀ F G h, o.ok F h → o.ok G h
 | [], _, i, o, hi => by simp at hi
 | a :: r, hf, i, o, hi => by
  cases i with
  | zero => simp at hi; subst hi; exact hf.1
  | succ i => exact hf.2.get i o (by simpa using hi)
theorem St.lentFlat {G G' : Frz} (s : St X h0 F0 F L h) (k : St [] h G G' Lr h') (hf : Flats Lr) : St X h0 F0 F (Lr ++ L) h' := by
 have e : St [] h F F Lr h' := ⟨k.next, k.wf, fun b hb _ => k.keep b hb (by simp), k.above.agree s.wf s.agree, Frz.le.refl _, fun _ _ _ q => .inl q, fun i o hi => by
   obtain ⟨h1, h2⟩ := k.own i o hi
   refine ⟨hf.get i o hi _ _ _ h1, fun b hb => ⟨fun q => ?_, (h2 b hb).2⟩⟩
   rcases (h2 b hb).2 with h3 | h3
   ·cases hF : F b q with
    | none => rfl
    | some u => have := hcell_lt s.wf (s.agree _ _ _ hF); omega
   ·simp at h3, k.apart⟩
 exact s.call e
end
theorem compareBytes_eq : ∀ a b : List UInt8, Lib.compareBytes a b = cmpT a b
 | [], [] => rfl
 | [], _ :: _ => rfl
 | _ :: _, [] => rfl
 | a :: l, b :: bs => by
  have ih := compareBytes_eq l bs
  simp only [Lib.compareBytes, cmpT, sLt, Op.bytesLess] at ih ⊢
  by_cases h1 : a < b
  ·simp [h1]
  ·by_cases h2 : b < a
   ·have : a ≠ b := fun e => by subst e; exact h1 h2
    simp [h1, h2, this]
   ·have : a = b := UInt8.le_antisymm (UInt8.not_lt.1 h2) (UInt8.not_lt.1 h1)
    subst this
    simp only [h1, if_false, ih, decide_false, Bool.false_or, beq_self_eq_true, Bool.true_and]
    by_cases h3 : Op.bytesLess l bs = true
    ·exact Eq.trans (if_pos h3) (Eq.symm (if_pos h3))
    ·refine Eq.trans (if_neg h3) (Eq.trans ?_ (Eq.symm (if_neg h3)))
     by_cases h4 : Op.bytesLess bs l = true
     ·exact Eq.trans (if_pos h4) (Eq.symm (if_pos h4))
     ·exact Eq.trans (if_neg h4) (Eq.symm (if_neg h4))
theorem sliceBytes_of {h : Hp} {v : Val} {xs : List UInt8} (s : SlF tB (nowF h) v xs) : sliceBytes h v = some xs := by
 obtain ⟨css, c1, c2⟩ := s
 obtain ⟨_, c4⟩ := c2.first (by decide)
 rw [tB_cells c1] at c4
 have hl := c1.1
 rcases c2 with ⟨rfl, rfl⟩ | ⟨a, c, rfl, _, _, e4, _⟩
 ·have : xs = [] := List.eq_nil_of_length_eq_zero hl.symm
  subst this; rfl
 ·cases a with
  | none =>
   have : xs = [] := List.eq_nil_of_length_eq_zero (by rw [← hl, (e4 rfl).1]; rfl)
   subst this; rfl
  | some a =>
   have c5 : firstV h 1 css.length (.sl (some a) css.length (.of 1 c)) = some (xs.map cB) := c4
   show (firstV h 1 css.length (.sl (some a) css.length (.of 1 c))).bind bytesV = _
   rw [c5]; exact bytesV_map xs
theorem compare_known {P : Program} {K : Tb} [hK : Kn (KExt P) K] {f : FuncId} {g : Func} {h : Hp} {u v : Val} {xs ys : List UInt8} (hf : P.funcs[f]? = some g) (h1 : (g.name == "runtime.NumGoroutine") = false) (h2 : g.body.isNone = true) (h3 : Extern.findNext g = none) (h4 : Extern.find g = some Extern.BytealgCompare.compare) (hu : SlF tB (nowF h) u xs) (hv : SlF tB (nowF h) v ys) : Ret P K f [u, v] h fun r w' => r = .i .i64 (cmpT xs ys) ∧ w' = h :=
 .known (M := fun r w' => r = .i .i64 (cmpT xs ys) ∧ w' = h) (hK.le _ _ _ _ ⟨g, u, v, xs, ys, hf, h1, h2, h3, h4, rfl, sliceBytes_of hu, sliceBytes_of hv, by rw [compareBytes_eq], rfl⟩) fun v h' m => ⟨v, h', rfl, m⟩
section
variable {P : Program} {E : EL} {X : List Nat} {h0 h : Hp} {F0 F : Frz} {L : List Ob}
theorem zero_rel {α : Type} {tr : Tr α} {e : TypeId} {cs : List Val} {x : α} (hz : (zeroV P e).map Val.cells = some cs) (hr : tr.rel F cs x) : ∀ z, zeroV P e = some z → tr.rel F z.cells x := fun z hz' => by
 rw [hz'] at hz
 obtain rfl := Option.some.inj hz
 exact hr
end
structure KeyE (κ : Type) [DecidableEq κ] where
 enc : κ → Val
 eq : ∀ a b, keyEq (enc a) (enc b) = decide (a = b)
def kS : KeyE (List UInt8) := ⟨.s, fun a b => by simp [keyEq, eq1]; exact Bool.eq_iff_iff.2 (by simp)⟩
structure TrV (ν : Type) where
 rel : Frz → Val → ν → Prop
 mono : ∀ {F G u v}, F.le G → rel F u v → rel G u v
def TrV.of {ν : Type} (enc : ν → Val) : TrV ν := ⟨fun _ u v => u = enc v, fun _ h => h⟩
def tMap {κ ν : Type} [DecidableEq κ] (K : KeyE κ) (t : TrV ν) : To (κ → Option ν) where
 size := 1
 rel F h bs cs m := ∃ g es, bs = [g] ∧ cs = [.m (some g)] ∧ h.get g = some (.map es) ∧ g < h.next ∧ (∀ e, e ∈ es → ∃ k, e.1 = K.enc k) ∧ ∀ k, (m k = none ∧ findV (K.enc k) es = none) ∨ ∃ v u, m k = some v ∧ findV (K.enc k) es = some u ∧ t.rel F u v
 len := fun ⟨g, es, _, q, _⟩ => by rw [q]; rfl
 one := fun ⟨g, es, _, q, _⟩ => by rw [q]; rfl
 lt := fun ⟨g, es, q, _, _, h3, _⟩ b hb => by rw [q] at hb; simp at hb; subst hb; exact h3
 nodup := fun ⟨g, es, q, _⟩ => by rw [q]; simp
 mono := fun l ⟨g, es, q1, q2, q3, q4, q5, q6⟩ => ⟨g, es, q1, q2, q3, q4, q5, fun k => (q6 k).imp id fun ⟨v, u, a, b, c⟩ => ⟨v, u, a, b, t.mono l c⟩⟩
 frame := fun ⟨g, es, h1, h2, h3, h4, h5⟩ hn hk => ⟨g, es, h1, h2, (hk g (by rw [h1]; simp)).trans h3, Nat.lt_of_lt_of_le h4 hn, h5⟩
def Ob.map {κ ν : Type} [DecidableEq κ] (K : KeyE κ) (t : TrV ν) (g : Nat) (m : κ → Option ν) : Ob := ⟨tMap K t, [g], [.m (some g)], m⟩
theorem keyS {P : Program} {t : TypeId} (h : P.underlying t = some .string) : ∀ k, keyT P t (kS.enc k) = true := fun k => by simp [keyT, h, kS]
section
variable {P : Program} {E : EL} {X : List Nat} {h0 h : Hp} {F0 F : Frz} {L : List Ob} {κ ν : Type} [DecidableEq κ] {K : KeyE κ} {tr : TrV ν}
theorem E_mkmap {t : TypeId} (K : KeyE κ) (tr : TrV ν) (hS : St X h0 F0 F L h) : Ef P E h (.makeMap t none) (fun v' h' => ∃ g, v' = .m (some g) ∧ St X h0 F0 F (.map K tr g (mnil : κ → Option ν) :: L) h') :=
 ⟨rfl, _, _, rfl, _, rfl, hS.fresh ⟨Nat.le_succ _, wf_new rfl hS.wf, fun b hb => by rw [Hp.get_new, if_neg (by omega)]⟩ ⟨_, [], rfl, rfl, by rw [Hp.get_new, if_pos rfl], Nat.lt_succ_self _, fun e he => (by cases he), fun k => .inl ⟨rfl, rfl⟩⟩ fun b hb => by
  have : b = h.next := by simpa [Ob.map] using hb
  omega⟩
theorem St.mapGet {g : Nat} {m : κ → Option ν} (k : Nat) (s : St X h0 F0 F L h) (hk : L[k]? = some (.map K tr g m)) : ∃ es, h.get g = some (.map es) ∧ g < h.next ∧ (∀ e, e ∈ es → ∃ k, e.1 = K.enc k) ∧ ∀ k, (m k = none ∧ findV (K.enc k) es = none) ∨ ∃ v u, m k = some v ∧ findV (K.enc k) es = some u ∧ tr.rel F u v := by
 obtain ⟨g', es, q1, q2, q3⟩ := s.ok hk
 simp only [Ob.map, List.cons.injEq, and_true] at q1
 subst q1
 exact ⟨es, q3⟩
theorem keys_ok {kt : TypeId} {es : List (Val × Val)} (hk : ∀ k, keyT P kt (K.enc k) = true) (h : ∀ e, e ∈ es → ∃ k, e.1 = K.enc k) : es.all (fun e => keyT P kt e.1) = true := List.all_eq_true.2 fun e he => by
 obtain ⟨k, q⟩ := h e he
 rw [q]; exact hk k
theorem O_look {t kt vt : TypeId} {x y : Operand} {g : Nat} {enc : ν → Val} {m : κ → Option ν} (k : Nat) (a : κ) (z0 : ν) (ht : P.underlying t = some (.map kt vt)) (hkt : ∀ k, keyT P kt (K.enc k) = true) (hz : zeroV P vt = some (enc z0)) (hx : evLO E x = some (.m (some g))) (hy : evLO E y = some (K.enc a)) (hS : St X h0 F0 F L h) (hk : L[k]? = some (.map K (.of enc) g m)) :
  Rn P h E (.lookup t x y false) (enc ((m a).getD z0)) := by
 obtain ⟨es, q1, q2, q3, q4⟩ := hS.mapGet k hk
 refine ⟨rfl, ?_⟩
 simp only [opL, hx, hy, Option.bind_some, lookV, ht, hkt, if_true, q1]
 rw [if_pos (keys_ok hkt q3)]
 simp only [Option.bind_some, hz]
 rcases q4 a with ⟨r1, r2⟩ | ⟨v, u, r1, r2, r3⟩
 ·rw [r1, r2]; rfl
 ·rw [r1, r2]
  have r4 : u = enc v := r3
  rw [r4]; rfl
theorem find_upd {k j : κ} {u : Val} : ∀ es : List (Val × Val), (∀ e, e ∈ es → ∃ k, e.1 = K.enc k) → findV (K.enc j) (updV (K.enc k) u es) = if j = k then some u else findV (K.enc j) es
 | [], _ => by
  simp only [updV, findV, K.eq]
  by_cases h : j = k
  ·simp [h]
  ·simp [h, findV]
 | (k', w) :: r, h => by
  obtain ⟨a, ha⟩ := h (k', w) (by simp)
  simp only at ha
  subst ha
  have ih := find_upd (k := k) (j := j) (u := u) r fun e he => h e (List.mem_cons_of_mem _ he)
  simp only [updV, K.eq]
  by_cases h1 : k = a
  ·subst h1
   simp only [decide_true, cond_true, findV, K.eq]
   by_cases h2 : j = k
   ·simp [h2]
   ·simp [h2]
  ·simp only [h1, decide_false, cond_false, findV, K.eq]
   by_cases h2 : j = a
   ·subst h2
    have : ¬ j = k := fun e => h1 e.symm
    simp [this]
   ·simp only [h2, decide_false, cond_false, ih]
theorem upd_keys {k : κ} {u : Val} : ∀ es : List (Val × Val), (∀ e, e ∈ es → ∃ k, e.1 = K.enc k) → ∀ e, e ∈ updV (K.enc k) u es → ∃ k, e.1 = K.enc k
 | [], _, e, he => by simp [updV] at he; subst he; exact ⟨k, rfl⟩
 | (k', w) :: r, h, e, he => by
  simp only [updV] at he
  cases hb : keyEq (K.enc k) k' with
  | true =>
   rw [hb] at he
   rcases List.mem_cons.1 he with rfl | he
   ·exact ⟨k, rfl⟩
   ·exact h e (List.mem_cons_of_mem _ he)
  | false =>
   rw [hb] at he
   rcases List.mem_cons.1 he with rfl | he
   ·exact h _ (by simp)
   ·exact upd_keys r (fun e he => h e (List.mem_cons_of_mem _ he)) e he
theorem E_mput {t kt vt : TypeId} {x y z : Operand} {g : Nat} {m : κ → Option ν} {u : Val} (k : Nat) (a : κ) (v : ν) (ht : P.underlying t = some (.map kt vt)) (hkt : ∀ k, keyT P kt (K.enc k) = true) (hx : evLO E x = some (.m (some g))) (hy : evLO E y = some (K.enc a)) (hz : evLO E z = some u) (hr : tr.rel F u v) (hS : St X h0 F0 F L h) (hk : L[k]? = some (.map K tr g m)) :
  Ef P E h (.mapUpdate t x y z) (fun _ h' => St X h0 F0 F (L.set k (.map K tr g (mput m a v))) h') := by
 obtain ⟨es, q1, q2, q3, q4⟩ := hS.mapGet k hk
 refine ⟨rfl, .no, h.set g (.map (updV (K.enc a) u es)), ?_, hS.turn hk (o' := .map K tr g (mput m a v)) ⟨g, _, rfl, rfl, by rw [Hp.get_set, if_pos rfl], q2, upd_keys es q3, fun j => ?_⟩ (Nat.le_refl _) (fun b hb => ?_) (fun b hb hn => ?_) fun b hb => .inl hb⟩
 ·simp only [opL, hx, hy, hz, Option.bind_some, mapUpdV, ht, q1]
  rw [if_pos ⟨hkt a, keys_ok hkt q3⟩]
  rfl
 ·show ((mput m a v) j = none ∧ _) ∨ ∃ v' u', (mput m a v) j = some v' ∧ _
  rw [find_upd es q3]
  unfold mput
  by_cases h1 : j = a
  ·rw [if_pos h1, if_pos h1]; exact .inr ⟨v, u, rfl, rfl, hr⟩
  ·rw [if_neg h1, if_neg h1]; exact q4 j
 ·have hb' : h.next ≤ b := hb
  rw [Hp.get_set, if_neg (by omega)]; exact hS.wf b hb'
 ·rw [Hp.get_set, if_neg (fun e => hn (by rw [e]; simp [Ob.map]))]
end
end Go.V
end
section
namespace Go.V
open Go.Wk
def OutsR (P : Program) (E : EL) (h : Hp) : List ResultVar → List Val → Prop
 | [], [] => True
 | .tmp t :: r, v :: vs => look E t = some v ∧ OutsR P E h r vs
 | .cell a t :: r, v :: vs => (∃ p, look E a = some p ∧ ldV P h t p = some v) ∧ OutsR P E h r vs
 | _, _ => False
section
variable {P : Program} {K : Tb} {fn : Func} {k : Kont} {E : EL} {h : Hp}
theorem OutsR.outs : ∀ {rs : List ResultVar} {vs : List Val}, OutsR P E h rs vs → outs P E h rs = some vs
 | [], [], _ => rfl
 | .tmp t :: r, v :: vs, ⟨h1, h2⟩ => by simp only [V.outs, h1, Option.bind_some, h2.outs, Option.map_some]
 | .cell a t :: r, v :: vs, ⟨⟨p, h0, h1⟩, h2⟩ => by simp only [V.outs, h0, h1, Option.bind_some, h2.outs, Option.map_some]
 | [], _ :: _, h => h.elim
 | .tmp _ :: _, [], h => h.elim
 | .cell _ _ :: _, [], h => h.elim
theorem C_retM {vs : List Val} {v : Val} (ho : oneV vs = v) (hv : OutsR P E h fn.results.toList vs) (hR : k.final v h) : C P K fn k .ret E h := C_ret hv.outs ho hR
theorem box_out {X : List Nat} {h0 : Hp} {F0 F : Frz} {L : List Ob} {t : TypeId} {a g : Nat} {cs : List Val} (i : Nat) (ht : aggT P t = some true) (hz : sz P t = some cs.length) (hS : St X h0 F0 F L h) (hi : L[i]? = some (.box g cs)) (hx : look E a = some (pl g 0)) : ∃ p, look E a = some p ∧ ldV P h t p = some (.agg cs) :=
 ⟨_, hx, ldV_agg ht hz (by
  unfold rd
  rw [(hS.boxGet i hi).1]
  simp)⟩
end
end Go.V
end
section
namespace Go.Wk
theorem only_f {α : Type} {b : Bool} {o : Option α} {z : α} (h : b = false) : only b o z = some z := if_neg (by rw [h]; decide)
end Go.Wk
namespace Go.V
open Go.Wk
def cnds : List (Bool × Bool) → Val → Val
 | [], v => v
 | (b, w) :: r, v => match b, w with
  | true, true => cnds r v
  | false, false => cnds r v
  | _, _ => .no
def Aeq : List (Bool × Bool) → Prop
 | [] => True
 | (b, w) :: r => b = w ∧ Aeq r
theorem cnds_t : ∀ {cs : List (Bool × Bool)} {v : Val}, Aeq cs → cnds cs v = v
 | [], _, _ => rfl
 | (b, w) :: r, v, h => by
  obtain ⟨h1, h2⟩ := h
  replace h1 : b = w := h1
  subst h1
  have e := cnds_t (v := v) h2
  cases b <;> exact e
theorem cnds_f : ∀ {cs : List (Bool × Bool)} {v : Val}, ¬ Aeq cs → cnds cs v = .no
 | [], _, h => absurd trivial h
 | (b, w) :: r, v, h => by
  cases b <;> cases w
  ·have e : cnds r v = .no := cnds_f fun h2 => h ⟨rfl, h2⟩
   exact e
  ·rfl
  ·rfl
  ·have e : cnds r v = .no := cnds_f fun h2 => h ⟨rfl, h2⟩
   exact e
theorem Aeq_snoc : ∀ {cs : List (Bool × Bool)} {b w : Bool}, Aeq (cs ++ [(b, w)]) ↔ Aeq cs ∧ b = w
 | [], b, w => ⟨fun h => ⟨trivial, h.1⟩, fun h => ⟨h.2, trivial⟩⟩
 | (_, _) :: r, b, w => ⟨fun h => ⟨⟨h.1, (Aeq_snoc.1 h.2).1⟩, (Aeq_snoc.1 h.2).2⟩, fun h => ⟨h.1.1, Aeq_snoc.2 ⟨h.1.2, h.2⟩⟩⟩
def ylL (A : List Oper) (E : EL) (j : Nat) : Option Val := ((A[j]?).bind (·.dst)).bind (look E)
section
variable {P : Program} {K : Tb} {fn : Func} {k : Kont} {E : EL} {h : Hp} {A : List Oper} {dr : Bool} {G : Frz} {L : List Nat} {i d j : Nat} {b want : Bool} {v : Val} {cs : List (Bool × Bool)}
theorem want_no (hg : (opAt A i).guard = some (j, want)) (hy : ylL A E j = some (cnds cs (.b b))) (hn : ¬ Aeq (cs ++ [(b, want)])) : wantL A E (opAt A i) = some false := by
 unfold wantL
 simp only [hg]
 unfold ylL at hy
 rw [hy]
 by_cases hc : Aeq cs
 ·rw [cnds_t hc]
  have hb : b ≠ want := fun e => hn (Aeq_snoc.2 ⟨hc, e⟩)
  simp [hb]
 ·rw [cnds_f hc]; rfl
theorem W_gsc (hg : (opAt A i).guard = some (j, want)) (hy : ylL A E j = some (cnds cs (.b b))) (hi : Nat.blt i A.length = true) (hd : (opAt A i).dst = some d)
  (hop : Aeq (cs ++ [(b, want)]) → W P K fn k A dr G L ((d, v) :: E) h → W P K fn k A dr G (i :: L) E h)
  (x : W P K fn k A dr G L ((d, cnds (cs ++ [(b, want)]) v) :: E) h) : W P K fn k A dr G (i :: L) E h := by
 by_cases ha : Aeq (cs ++ [(b, want)])
 ·rw [cnds_t ha] at x
  exact hop ha x
 ·rw [cnds_f ha] at x
  exact W_no hi (want_no hg hy ha) hd x
theorem W_gs (hg : (opAt A i).guard = some (j, want)) (hy : ylL A E j = some (.b b)) (hi : Nat.blt i A.length = true) (hd : (opAt A i).dst = some d)
  (hop : Aeq [(b, want)] → W P K fn k A dr G L ((d, v) :: E) h → W P K fn k A dr G (i :: L) E h)
  (x : W P K fn k A dr G L ((d, cnds [(b, want)] v) :: E) h) : W P K fn k A dr G (i :: L) E h := W_gsc (cs := []) hg hy hi hd hop x
theorem Nxt.w (x : Nxt P K fn k A dr G L E h) : W P K fn k A dr G L E h := by
 obtain ⟨G', l, ha, x⟩ := x
 exact fun _ env pd he hp => x ha env pd he (hp.le l)
theorem W_gwc {Q : Hp → Prop} (hQ : Q h) (hg : (opAt A i).guard = some (j, want)) (hy : ylL A E j = some (cnds cs (.b b))) (hi : Nat.blt i A.length = true) (hd : (opAt A i).dst = some d)
  (hop : Aeq (cs ++ [(b, want)]) → (∀ w', Q w' → Nxt P K fn k A dr G L ((d, v) :: E) w') → W P K fn k A dr G (i :: L) E h)
  (x : ∀ w', Q w' → Nxt P K fn k A dr G L ((d, cnds (cs ++ [(b, want)]) v) :: E) w') : W P K fn k A dr G (i :: L) E h := by
 by_cases ha : Aeq (cs ++ [(b, want)])
 ·rw [cnds_t ha] at x
  exact hop ha x
 ·rw [cnds_f ha] at x
  exact W_no hi (want_no hg hy ha) hd (x h hQ).w
theorem W_gw {Q : Hp → Prop} (hQ : Q h) (hg : (opAt A i).guard = some (j, want)) (hy : ylL A E j = some (.b b)) (hi : Nat.blt i A.length = true) (hd : (opAt A i).dst = some d)
  (hop : Aeq [(b, want)] → (∀ w', Q w' → Nxt P K fn k A dr G L ((d, v) :: E) w') → W P K fn k A dr G (i :: L) E h)
  (x : ∀ w', Q w' → Nxt P K fn k A dr G L ((d, cnds [(b, want)] v) :: E) w') : W P K fn k A dr G (i :: L) E h := W_gwc (cs := []) hQ hg hy hi hd hop x
variable {c x y : Operand} {p q : Bool}
theorem W_pk {u : Val} (hi : Nat.blt i A.length = true) (hw : wantL A E (opAt A i) = some true) (hd : (opAt A i).dst = some d) (hop : (opAt A i).op = .pick c x y) (hc : evLO E c = some (.b b)) (hx : b = true → evLO E x = some u) (hy : b = false → evLO E y = some u) (z : W P K fn k A dr G L ((d, u) :: E) h) : W P K fn k A dr G (i :: L) E h := by
 refine W_c hi hw hd (by rw [hop]; rfl) (fun h => ?_) z
 rw [hop]
 simp only [opL, hc, Option.bind_some]
 cases b with
 | true => simp only [hx rfl, Option.map_some]
 | false => simp only [hy rfl, Option.map_some]
theorem W_pkA (hi : Nat.blt i A.length = true) (hw : wantL A E (opAt A i) = some true) (hd : (opAt A i).dst = some d) (hop : (opAt A i).op = .pick c x y) (hc : evLO E c = some (.b b)) (hx : b = true → evLO E x = some (.b p)) (hy : evLO E y = some (.b false)) (z : W P K fn k A dr G L ((d, .b (b && p)) :: E) h) : W P K fn k A dr G (i :: L) E h :=
 W_pk (u := .b (b && p)) hi hw hd hop hc (fun e => by rw [hx e, e]; rfl) (fun e => by rw [hy, e]; rfl) z
theorem W_pkO (hi : Nat.blt i A.length = true) (hw : wantL A E (opAt A i) = some true) (hd : (opAt A i).dst = some d) (hop : (opAt A i).op = .pick c x y) (hc : evLO E c = some (.b b)) (hx : evLO E x = some (.b true)) (hy : b = false → evLO E y = some (.b q)) (z : W P K fn k A dr G L ((d, .b (b || q)) :: E) h) : W P K fn k A dr G (i :: L) E h :=
 W_pk (u := .b (b || q)) hi hw hd hop hc (fun e => by rw [hx, e]; rfl) (fun e => by rw [hy e, e]; rfl) z
end
end Go.V
end
section
namespace Go.V
open Go.Wk
def heldB (L : List Ob) (rs : List Nat) : List Nat := (rs.filterMap fun i => L[i]?).flatMap Ob.bs
section
variable {X : List Nat} {h0 w h : Hp} {F0 F F' : Frz} {L L' : List Ob} {bs : List Nat}
theorem held_in {o : Ob} {j : Nat} {rs : List Nat} (hj : j ∈ rs) (hL : L[j]? = some o) : ∀ g, g ∈ o.bs → g ∈ heldB L rs := fun g hg => List.mem_flatMap.2 ⟨o, List.mem_filterMap.2 ⟨j, hj, hL⟩, hg⟩
theorem St.heldHB (is rs : List Nat) (s : St X h0 F0 F L w) (hd : ∀ i, i ∈ rs → i ∉ is) (k : St ((is.filterMap fun i => L[i]?).flatMap Ob.bs) w F F' L' h) : HB F' w h (heldB L rs) := fun g hg => by
 obtain ⟨o, ho, hgo⟩ := List.mem_flatMap.1 hg
 obtain ⟨j, hj, hL⟩ := List.mem_filterMap.1 ho
 have h1 := s.own j o hL
 have hlt := o.t.lt h1.1 g hgo
 have hnY : g ∉ (is.filterMap fun i => L[i]?).flatMap Ob.bs := fun q => by
  obtain ⟨o2, ho2, hgo2⟩ := List.mem_flatMap.1 q
  obtain ⟨i, hi, hL2⟩ := List.mem_filterMap.1 ho2
  have := s.apart j i o o2 g hL hL2 hgo hgo2
  exact hd j hj (this ▸ hi)
 refine ⟨fun q => ?_, fun p u e => ?_⟩
 ·cases hF : F' g q with
  | none => rfl
  | some u =>
   rcases k.new g q u hF with h3 | h3 | h3
   ·rw [(h1.2 g hgo).1 q] at h3; cases h3
   ·omega
   ·exact absurd h3 hnY
 ·unfold hcell at e ⊢
  rw [k.keep g hlt hnY]; exact e
theorem St.heldRow {α : Type} {t : Tr α} {v : Val} {xs : List α} {j : Nat} {rs : List Nat} (s : St X h0 F0 F L w) (hj : j ∈ rs) (hL : L[j]? = some (.row t v xs)) : ∀ g, g ∈ v.own → g ∈ heldB L rs := held_in (o := .row t v xs) hj hL
theorem Elf.held {v : Val} {s i : Nat} {cs : List Val} (e : Elf (nowF w) v s i cs) (b : HB F' w h bs) (hv : ∀ g, g ∈ v.own → g ∈ bs) : Elf (F'.hold w bs) v s i cs := by
 obtain ⟨h0, h1, g, q, n, c, rfl, h3, h4⟩ := e
 have hg : g ∈ bs := hv g (by simp [Val.own])
 refine ⟨h0, h1, g, q, n, c, rfl, h3, fun j u hj => ?_⟩
 unfold Frz.hold
 rw [(b g hg).1]
 simp only
 rw [if_pos hg]
 exact h4 j u hj
end
end Go.V
end
section
namespace Go.Wk
def clr {α : Type} (l : List α) (a n : Nat) (z : α) : Option (List α) := if a + n = l.length then some (l.take a ++ List.replicate n z) else none
theorem clr_some {α : Type} {l r : List α} {a n : Nat} {z : α} (h : clr l a n z = some r) : a + n = l.length ∧ r = l.take a ++ List.replicate n z := by
 unfold clr at h
 split at h
 ·rename_i hc; exact ⟨hc, (Option.some.inj h).symm⟩
 ·cases h
def nz {α : Type} : List α → Option Unit
 | [] => none
 | _ :: _ => some ()
def ixp {α : Type} (l : List α) (a n : Nat) (i : Int) : Option α := match i with | .ofNat k => if k < n then l[a + k]? else none | .negSucc _ => none
theorem ixp_some {α : Type} {l : List α} {a n : Nat} {i : Int} {x : α} (h : ixp l a n i = some x) : 0 ≤ i ∧ i.toNat < n ∧ l[a + i.toNat]? = some x := by
 cases i with
 | ofNat k =>
  simp only [ixp] at h
  split at h
  ·exact ⟨Int.natCast_nonneg k, by assumption, h⟩
  ·cases h
 | negSucc k => cases h
end Go.Wk
namespace Go.V
open Go.Wk
section
variable {α : Type} {tr : Tr α} {F : Frz} {h : Hp} {bs : List Nat} {v : Val} {xs zs : List α} {b : Nat} {c : List Val} {k : Option Nat} {css : List (Cl (To.ofTr tr).size)} {bss : List (List Nat)}
theorem flatR_one {css2 : List (Cl tr.size)} (hr : RelL tr F css2 zs) : (css2.map Subtype.val).flatten.all Val.one = true := (RowE.flat (h := Hp.empty) hr).all1
theorem row_fits (r : RowO (To.ofTr tr) F h bs v xs b c k css bss) : xs.length * tr.size ≤ c.length := by
 cases k with
 | none => exact r.opn rfl
 | some m =>
  obtain ⟨q1, q2⟩ := r.cap m rfl
  rw [q1]; exact Nat.mul_le_mul_right _ q2
theorem rowO_put (r : RowO (To.ofTr tr) F h bs v xs b c k css bss) {css2 : List (Cl tr.size)} (hr : RelL tr F css2 zs) (hl : zs.length = xs.length) :
  (Ob.row tr v zs).ok F (h.set b (.cells tr.size ((css2.map Subtype.val).flatten ++ c.drop (xs.length * tr.size)))) := by
 have hfl : (css2.map Subtype.val).flatten.length = xs.length * tr.size := by rw [flat_len, hr.1, hl]
 have hcl := row_fits r
 have hlen : ((css2.map Subtype.val).flatten ++ c.drop (xs.length * tr.size)).length = c.length := by rw [List.length_append, hfl, List.length_drop]; omega
 have hE : RowE (To.ofTr tr) F (h.set b (.cells tr.size ((css2.map Subtype.val).flatten ++ c.drop (xs.length * tr.size)))) css2 (zs.map fun _ => []) zs := .flat hr
 have hone : ((css2.map Subtype.val).flatten ++ c.drop (xs.length * tr.size)).all Val.one = true := by
  rw [List.all_append, flatR_one hr]
  exact List.all_eq_true.2 fun x hx => List.all_eq_true.1 r.one x (List.mem_of_mem_drop hx)
 have R := rowO_mk (b := b) (c := (css2.map Subtype.val).flatten ++ c.drop (xs.length * tr.size)) (k := k) hE r.lt (by rw [Hp.get_set, if_pos rfl]; rfl) (by rw [hl]; exact List.take_left' hfl) (fun q => by rw [hlen, hl]; exact r.opn q) (fun m q => by rw [hlen, hl]; exact r.cap m q) (by rw [hl]; exact r.few) hone (by rw [flat_nils]; simp)
 have hv : v = .sl (some (b, 0)) zs.length (.of (To.ofTr tr).size k) := by rw [hl]; exact r.form
 rw [hv]
 exact Ob.mkRow ⟨_, rfl, .inr ⟨_, _, _, _, _, R⟩⟩
end
theorem St.shrink {α : Type} {X : List Nat} {h0 h : Hp} {F0 F : Frz} {L : List Ob} {t : Tr α} {v v' : Val} {xs zs : List α} {b : Int} {u : Unit} (k : Nat) (s : St X h0 F0 F L h) (hk : L[k]? = some (.row t v xs)) (p : Pce v v' t.size (0 : Int).toNat (b.toNat - (0 : Int).toNat)) (hc : cut xs 0 b = some zs) (hnz : nz xs = some u) : St X h0 F0 F (L.set k (.row t v' zs)) h := by
 obtain ⟨c0, c1, c2, hz⟩ := cut_some hc
 have hz' : zs = xs.take b.toNat := hz
 subst hz'
 have hlen : (xs.take b.toNat).length = b.toNat := by simp; omega
 have hpos : 0 < xs.length := by
  cases xs with
  | nil => cases hnz
  | cons a l => simp
 obtain ⟨v0, hv0, r⟩ := s.ok hk
 obtain rfl := List.head_eq_of_cons_eq hv0
 suffices h : (Ob.row t v' (xs.take b.toNat)).ok F h ∧ ∀ g, g ∈ v'.own → g ∈ v.own from s.see hk h.1 h.2
 have hform : ∃ b2 k2, v = .sl (some (b2, 0)) xs.length (.of t.size k2) := by
  rcases r with ⟨rfl, hxs, _⟩ | ⟨b2, c, k2, css, bss, r⟩
  ·have : xs = [] := hxs
   rw [this] at hpos; simp at hpos
  ·exact ⟨b2, k2, r.form⟩
 rcases p with ⟨rfl, hn, b3, len, k3, hv, hle⟩ | ⟨rfl, hn, hv⟩ | ⟨g, o, len, k1, k', hv, rfl, ho, hcap, hk'⟩
 ·obtain ⟨b2, k2, hf⟩ := hform
  rw [hf] at hv
  simp only [Val.sl.injEq] at hv
  simp at hle; omega
 ·obtain ⟨b2, k2, hf⟩ := hform
  rw [hf] at hv; cases hv
 ·have ho' : o = 0 := ho.elim (fun q => by simpa using q) fun q => q.2
  subst ho'
  rcases r with ⟨rfl, _, _⟩ | ⟨b2, c, k2, css, bss, r⟩
  ·cases hv
  ·have hf : v = .sl (some (b2, 0)) xs.length (.of t.size k2) := r.form
   rw [hf] at hv
   simp only [Val.sl.injEq, Option.some.injEq, Prod.mk.injEq, and_true] at hv
   obtain ⟨rfl, _, hkk⟩ := hv
   have hk1 : k1 = k2 := by
    cases k1 <;> cases k2 <;> simp [Cap.of] at hkk ⊢
    exact hkk.symm
   subst hk1
   have hk2 : k' = k1 := by rw [hk']; cases k1 <;> simp
   subst hk2
   obtain ⟨cs1, hrl, hcells⟩ : ∃ cs1 : List (Cl t.size), RelL t F cs1 xs ∧ c.take (xs.length * t.size) = (cs1.map Subtype.val).flatten := ⟨css, ⟨r.csl, fun i d x q1 q2 => (r.rel i d x _ q1 q2 (List.getElem?_eq_getElem (by rw [r.bsl]; exact (List.getElem?_eq_some_iff.1 q2).1))).2⟩, r.cells⟩
   have hrl2 : RelL t F (cs1.take b.toNat) (xs.take b.toNat) := ⟨by simp [hrl.1], fun i d x q1 q2 => by
    rw [List.getElem?_take] at q1 q2
    split at q1
    ·rw [if_pos (by assumption)] at q2; exact hrl.2 i d x q1 q2
    ·cases q1⟩
   have hfl : ((cs1.take b.toNat).map Subtype.val).flatten = c.take (b.toNat * t.size) := by
    have h1 : ((cs1.take b.toNat).map Subtype.val).flatten.length = b.toNat * t.size := by rw [flat_len (s := t.size), List.length_take, hrl.1]; congr 1; omega
    have h2 : c.take (xs.length * t.size) = ((cs1.take b.toNat).map Subtype.val).flatten ++ ((cs1.drop b.toNat).map Subtype.val).flatten := by
     rw [hcells, ← List.flatten_append, ← List.map_append, List.take_append_drop]
    have h3 := congrArg (List.take (b.toNat * t.size)) h2
    rw [List.take_left' h1, List.take_take, Nat.min_eq_left (Nat.mul_le_mul_right _ (by omega))] at h3
    exact h3.symm
   have hE : RowE (To.ofTr t) F h (cs1.take b.toNat) ((xs.take b.toNat).map fun _ => []) (xs.take b.toNat) := .flat hrl2
   have hfit := row_fits r
   have hmul : b.toNat * t.size ≤ xs.length * t.size := Nat.mul_le_mul_right _ (by omega)
   have R := rowO_mk (b := b2) (c := c) (k := k') hE r.lt r.blk (by rw [hlen]; exact hfl.symm) (fun q => by rw [hlen]; exact Nat.le_trans hmul hfit) (fun m q => ⟨(r.cap m q).1, by have q2 : xs.length ≤ m := (r.cap m q).2; omega⟩) (by have q2 : xs.length ≤ 2 ^ 30 := r.few; omega) r.one (by rw [flat_nils]; simp)
   rw [hlen] at R
   exact ⟨Ob.mkRow ⟨_, rfl, .inr ⟨_, _, _, _, _, R⟩⟩, fun g hg => by rw [hf]; exact hg⟩
section
variable {P : Program} {E : EL} {X : List Nat} {h0 h : Hp} {F0 F : Frz} {L : List Ob}
theorem E_clr {α : Type} {tr : Tr α} {t e : TypeId} {v v' : Val} {xs zs : List α} {x : Operand} {cs0 : List Val} {x0 : α} {a n : Nat} (j : Nat) (ht : P.underlying t = some (.slice e)) (hz : (zeroV P e).map Val.cells = some cs0) (hz0 : tr.rel F cs0 x0) (hx : evLO E x = some v') (hS : St X h0 F0 F L h) (hj : L[j]? = some (.row tr v xs)) (hp : Pce v v' tr.size a n) (hc : clr xs a n x0 = some zs) :
  Ef P E h (.call { callee := .builtin .clear, args := #[x], argTypes := #[t] }) (fun _ h' => St X h0 F0 F (L.set j (.row tr v zs)) h') := by
 obtain ⟨hn, rfl⟩ := clr_some hc
 obtain ⟨z, hz1, rfl⟩ := Option.map_eq_some_iff.1 hz
 have same : ∀ u, n = 0 → (op : Option (Val × Hp)) → op = some (u, h) → ∃ v'' h', op = some (v'', h') ∧ St X h0 F0 F (L.set j (.row tr v (xs.take a ++ List.replicate n x0))) h' := fun u h0' op hop => by
  subst h0'
  refine ⟨u, h, hop, ?_⟩
  have : xs.take a ++ List.replicate 0 x0 = xs := by rw [List.replicate_zero, List.append_nil]; exact List.take_of_length_le (by omega)
  rw [this]
  exact hS.see hj (hS.ok hj) fun b q => q
 refine ⟨rfl, ?_⟩
 have ev : ∀ q : Option (Val × Hp), clearV P h [t] v' = q → opL P E h (.call { callee := .builtin .clear, args := #[x], argTypes := #[t] }) = q := fun q hq => by
  simp only [opL, evLL, List.mapM_cons, List.mapM_nil, hx, bltV, Option.bind_some, Option.bind_eq_bind, pure]
  exact hq
 rcases hp with ⟨rfl, h0', _⟩ | ⟨rfl, h0', _⟩ | ⟨b, o, len, k, k', hv, rfl, ho, hk, _⟩
 ·exact same (.tup []) h0' _ (ev _ (by simp [clearV, ht, hz1]))
 ·exact same (.tup []) h0' _ (ev _ (by simp [clearV, ht, hz1]))
 ·by_cases h0' : n = 0
  ·exact same (.tup []) h0' _ (ev _ (by simp [clearV, ht, hz1, h0']))
  ·obtain ⟨v0, hv0, r⟩ := hS.ok hj
   obtain rfl := List.head_eq_of_cons_eq hv0
   rcases r with ⟨rfl, hxs, _⟩ | ⟨b2, c, k2, css, bss, r⟩
   ·cases hv
   ·have hf : v = .sl (some (b2, 0)) xs.length (.of tr.size k2) := r.form
    rw [hf] at hv
    simp only [Val.sl.injEq, Option.some.injEq, Prod.mk.injEq] at hv
    obtain ⟨⟨rfl, _⟩, _, _⟩ := hv
    have hzl : z.cells.length = tr.size := tr.len hz0
    have ho' : o = a * tr.size := ho.elim id fun q => by omega
    subst ho'
    obtain ⟨cs1, hrl, hcells⟩ : ∃ cs1 : List (Cl tr.size), RelL tr F cs1 xs ∧ c.take (xs.length * tr.size) = (cs1.map Subtype.val).flatten := ⟨css, ⟨r.csl, fun i d x q1 q2 => (r.rel i d x _ q1 q2 (List.getElem?_eq_getElem (by rw [r.bsl]; exact (List.getElem?_eq_some_iff.1 q2).1))).2⟩, r.cells⟩
    have hrel : RelL tr F (cs1.take a ++ List.replicate n (⟨z.cells, hzl⟩ : Cl tr.size)) (xs.take a ++ List.replicate n x0) := ⟨by simp [hrl.1], fun q dd y hq hy => by
     by_cases hqa : q < a
     ·have hl1 : q < (cs1.take a).length := by simp [hrl.1]; omega
      have hl2 : q < (xs.take a).length := by simp; omega
      rw [List.getElem?_append_left hl1, List.getElem?_take_of_lt hqa] at hq
      rw [List.getElem?_append_left hl2, List.getElem?_take_of_lt hqa] at hy
      exact hrl.2 _ _ _ hq hy
     ·have hl1 : (cs1.take a).length = a := by simp [hrl.1]; omega
      have hl2 : (xs.take a).length = a := by simp; omega
      rw [List.getElem?_append_right (by omega), hl1] at hq
      rw [List.getElem?_append_right (by omega), hl2] at hy
      rw [List.eq_of_mem_replicate (List.mem_of_getElem? hq), List.eq_of_mem_replicate (List.mem_of_getElem? hy)]
      exact hz0⟩
    have hl2 : (xs.take a ++ List.replicate n x0).length = xs.length := by simp; omega
    have hok := rowO_put r hrel hl2
    have hcl := row_fits r
    have hfl : ((cs1.take a).map Subtype.val).flatten = c.take (a * tr.size) := by
     have h1 : ((cs1.take a).map Subtype.val).flatten.length = a * tr.size := by rw [flat_len (s := tr.size), List.length_take, hrl.1]; congr 1; omega
     have h2 : c.take (xs.length * tr.size) = ((cs1.take a).map Subtype.val).flatten ++ ((cs1.drop a).map Subtype.val).flatten := by
      rw [hcells, ← List.flatten_append, ← List.map_append, List.take_append_drop]
     have h3 := congrArg (List.take (a * tr.size)) h2
     rw [List.take_left' h1, List.take_take, Nat.min_eq_left (Nat.mul_le_mul_right _ (by omega))] at h3
     exact h3.symm
    have hzs : ((List.replicate n (⟨z.cells, hzl⟩ : Cl tr.size)).map Subtype.val).flatten = zerosV z.cells n := by simp [zerosV]
    have hput : putL c (a * tr.size) (zerosV z.cells n) = ((cs1.take a ++ List.replicate n (⟨z.cells, hzl⟩ : Cl tr.size)).map Subtype.val).flatten ++ c.drop (xs.length * tr.size) := by
     unfold putL
     rw [List.map_append, List.flatten_append, hfl, hzs]
     congr 2
     have : (zerosV z.cells n).length = n * tr.size := by simp [zerosV, hzl]
     rw [this, ← hn, Nat.add_mul]
    have hzll : (zerosV z.cells n).length = n * tr.size := by simp [zerosV, hzl]
    have hzone : (zerosV z.cells n).all Val.one = true := by
     refine List.all_eq_true.2 fun u hu => ?_
     obtain ⟨l, hl, hu⟩ := List.mem_flatten.1 hu
     rw [List.eq_of_mem_replicate hl] at hu
     exact List.all_eq_true.1 (tr.one hz0) u hu
    have hfit : a * tr.size + (zerosV z.cells n).length ≤ c.length := by
     rw [hzll, ← Nat.add_mul, hn]; exact hcl
    have hblk : h.get b2 = some (.cells tr.size c) := r.blk
    refine ⟨.tup [], _, ev _ (by
     simp only [clearV, List.getElem?_cons_zero, Option.bind_some, ht, hz1]
     rw [if_neg h0', if_pos (by rw [hzl]; exact tr.pos)]
     unfold wrH
     rw [hblk]
     simp only
     rw [if_pos ⟨hfit, hzone⟩, hput]
     rfl), hS.turn hj hok (Nat.le_refl _) (fun q hq => ?_) (fun q hq hn' => ?_) fun q hq => .inl hq⟩
    ·have hq' : h.next ≤ q := hq
     have := r.lt
     rw [Hp.get_set, if_neg (by omega)]; exact hS.wf q hq'
    ·rw [Hp.get_set, if_neg (fun e' => hn' (by rw [e', hf]; simp [Ob.row, Val.own]))]
end
end Go.V
end
section
namespace Go.Wk
def sortM {α : Type} (cf : α → α → Int) (xs : List α) : Option (List α) := if xs.length ≤ 1073741824 then some (isort cf xs) else none
theorem sortM_some {α : Type} {cf : α → α → Int} {xs r : List α} (h : sortM cf xs = some r) : xs.length ≤ 1073741824 ∧ r = isort cf xs := by
 unfold sortM at h
 split at h
 ·rename_i hc; exact ⟨hc, (Option.some.inj h).symm⟩
 ·cases h
def cmpI (a b : Int) : Int := if a < b then -1 else if b < a then 1 else 0
def orI : List Int → Int
 | [] => 0
 | x :: r => if x ≠ 0 then x else orI r
end Go.Wk
namespace Go.V
open Go.Wk Go.Sort Go.Proofs
def KNone : Tb := fun _ _ _ _ => False
theorem KNone_ok {P : Program} : KOk P KNone := fun _ _ _ _ h => h.elim
theorem sort_flat {P : Program} {K K0 : Tb} {α : Type} {tr : Tr α} {f g z : Nat} {cf : α → α → Int} {fn : Func} {c : Code} (hK : ∀ args h M, KSort P K0 f z f args h M → K f args h M) (hz : tr.size = z) (hO : SWO (ltOf cf)) (hT : ∀ x y, ltOf cf x y = false → ltOf cf y x = false → x = y) (hg1 : P.funcs[g]? = some fn) (hg2 : fn.body = some c) (hg3 : fn.name ≠ "runtime.NumGoroutine")
  (h0 : ∀ a k w, Ret P K f [.sl a 0 k, .f g []] w fun u w' => u = .tup [] ∧ w' = w)
  (hcmp : ∀ G h' cs x ds y, Gd G h' → tr.rel G cs x → tr.rel G ds y → Ret P K0 g [.agg cs, .agg ds] h' fun v _ => v = .i .i64 (cf x y))
  {F : Frz} {w : Hp} {v : Val} {xs r : List α} (hS : St v.own w F F [.row tr v xs] w) (H : sortM cf xs = some r) : Ret P K f [v, .f g []] w fun u w' => ∃ F', u = .tup [] ∧ St v.own w F F' [.row tr v r] w' := by
 obtain ⟨_, rfl⟩ := sortM_some H
 have hS' : St v.own w F F [.dp (To.ofTr tr) v.own v xs] w := hS
 refine (sort_dp (t := To.ofTr tr) hK hz (by rw [← hz]; exact tr.pos) (Sees.flat tr) hO hg1 hg2 hg3 h0 hcmp hS').mono fun u w' ⟨q1, l', bs', q2, q3, q4⟩ => ⟨F, q1, ?_⟩
 have e : l' = isort cf xs := rise_unique hT q3 (isort_rise hO xs) (q2.trans (isort_perm cf xs).symm)
 subst e
 have hb : bs' = v.own := row_own (q4.ok (i := 0) rfl)
 subst hb
 exact q4
end Go.V
end
section
namespace Go.Wk
def toW (x : Int) : UInt32 := UInt32.ofNat (x % 4294967296).toNat
def shlW (x : UInt32) (n : Int) : Option UInt32 := if 0 ≤ n ∧ n ≤ 32 then some (UInt32.ofNat (x.toNat * 2 ^ n.toNat)) else none
def shrW (x : UInt32) (n : Int) : Option UInt32 := if 0 ≤ n ∧ n ≤ 32 then some (UInt32.ofNat (x.toNat / 2 ^ n.toNat)) else none
def shrU (x n : Int) : Option Int := if 0 ≤ n ∧ n ≤ 64 then some (x / 2 ^ n.toNat) else none
theorem shrU_some {x n r : Int} (h : shrU x n = some r) : 0 ≤ n ∧ n ≤ ((IntKind.u64.bits : Nat) : Int) ∧ r = x / 2 ^ n.toNat := by
 unfold shrU at h; split at h
 ·rename_i hc; exact ⟨hc.1, hc.2, (Option.some.inj h).symm⟩
 ·cases h
def appZ {α : Type} (xs : List α) (n : Int) (d : α) : Option (List α) := if 0 ≤ n ∧ (xs.length : Int) + n ≤ 1073741824 then some (xs ++ List.replicate n.toNat d) else none
theorem appZ_some {α : Type} {xs r : List α} {n : Int} {d : α} (h : appZ xs n d = some r) : 0 ≤ n ∧ (xs.length : Int) + n ≤ 1073741824 ∧ r = xs ++ List.replicate n.toNat d := by
 unfold appZ at h; split at h
 ·rename_i hc; exact ⟨hc.1, hc.2, (Option.some.inj h).symm⟩
 ·cases h
end Go.Wk
namespace Go.V
open Go.Wk
def cW (x : UInt32) : Val := .i .u32 x.toNat
def tW : Tr UInt32 := ⟨1, fun _ cs n => cs = [cW n], by decide, fun h => by rw [h]; rfl, fun h => by rw [h]; rfl, fun _ h => h⟩
def arrC {α : Type} (n : Nat) (enc : α → Val) (d : α) (x : List α) : List Val := (List.range n).map fun i => enc (x.getD i d)
section
variable {α : Type} {n : Nat} {enc : α → Val} {d : α} {x : List α}
theorem arrC_len : (arrC n enc d x).length = n := by simp [arrC]
theorem arrC_map (h : x.length = n) : arrC n enc d x = x.map enc := by
 apply List.ext_getElem
 ·simp [arrC, h]
 ·intro i h1 h2
  have hi : i < x.length := by simpa [arrC, h] using h1
  simp [arrC, hi]
theorem arr_at (h : x.length = n) {i : Nat} {b : α} (hb : x[i]? = some b) : (arrC n enc d x)[i]? = some (enc b) := by rw [arrC_map h]; simp [hb]
theorem arr_put (h : x.length = n) {i : Nat} (hi : i < n) (b : α) : putL (arrC n enc d x) (0 + i) [enc b] = arrC n enc d (x.set i b) := by
 rw [arrC_map h, arrC_map (by simpa using h), Nat.zero_add]
 apply List.ext_getElem?
 intro j
 rw [putL_get (by simp; omega)]
 by_cases hj : j = i
 ·subst hj
  rw [if_pos (by simp), Nat.sub_self, List.map_set, List.getElem?_set_self (by simp; omega)]
  rfl
 ·rw [if_neg (by simp; omega)]
  simp only [List.getElem?_map]
  rw [List.getElem?_set_ne (fun q => hj q.symm)]
theorem arr_lt (h : x.length = n) {i : Nat} {b : α} (hb : x[i]? = some b) : i < n := by rw [← h]; exact (List.getElem?_eq_some_iff.1 hb).1
theorem idCells_arr (x : List UInt8) : idCells x = arrC 32 cB 0 x := rfl
theorem id_put {x : List UInt8} (h : x.length = 32) {i : Nat} (hi : i < 32) (b : UInt8) : putL (idCells x) (0 + i) [cB b] = idCells (x.set i b) := by
 rw [idCells_arr, idCells_arr]; exact arr_put h hi b
end
theorem bW_shl {P : Program} {t : TypeId} {j : IntKind} {x r : UInt32} {n : Int} (h : shlW x n = some r) : binV P .shl t (.i .u32 (x.toNat : Int)) (.i j n) = some (.i .u32 (r.toNat : Int)) := by
 unfold shlW at h
 split at h
 ·rename_i hc
  obtain rfl := Option.some.inj h
  rw [bI_shl (k := .u32) hc.1 hc.2, u32_wrap, UInt32.toNat_ofNat']
  have e : ((x.toNat * 2 ^ n.toNat : Nat) : Int) = (x.toNat : Int) * 2 ^ n.toNat := by rw [Int.natCast_mul, Int.natCast_pow]; rfl
  rw [← e]
  congr 2
 ·cases h
theorem bW_shr {P : Program} {t : TypeId} {j : IntKind} {x r : UInt32} {n : Int} (h : shrW x n = some r) : binV P .shr t (.i .u32 (x.toNat : Int)) (.i j n) = some (.i .u32 (r.toNat : Int)) := by
 unfold shrW at h
 split at h
 ·rename_i hc
  obtain rfl := Option.some.inj h
  rw [bI_shr (k := .u32) hc.1 hc.2, UInt32.toNat_ofNat']
  congr 2
  have h1 : x.toNat / 2 ^ n.toNat < 2 ^ 32 := Nat.lt_of_le_of_lt (Nat.div_le_self _ _) x.toNat_lt
  rw [Nat.mod_eq_of_lt h1, Int.natCast_ediv, Int.natCast_pow]
  rfl
 ·cases h
theorem toW_of (x : Int) : IntKind.u32.wrap x = ((toW x).toNat : Int) := by
 rw [u32_wrap, toW, UInt32.toNat_ofNat']; omega
theorem uW_not (x : UInt32) : unV .xor (.i .u32 (x.toNat : Int)) = some (.i .u32 ((~~~x).toNat : Int)) := by
 have e : (4294967295 : UInt32) ^^^ x = ~~~x := by
  apply UInt32.toBitVec_inj.1
  rw [UInt32.toBitVec_xor, UInt32.toBitVec_not, BitVec.xor_comm]
  exact BitVec.xor_allOnes
 have h := Go.Wk.u32_xor (4294967295 : UInt32) x
 rw [e] at h
 exact congrArg (fun z => some (Val.i .u32 z)) h
section
variable {P : Program} {G : Frz} {E : EL}
theorem O_un {op : UnOp} {t : TypeId} {x : Operand} {a v : Val} (hx : evLO E x = some a) (hv : unV op a = some v) : Rd P G E (.unOp op t x) v := by
 refine ⟨rfl, fun h _ => ?_⟩
 simp [opL, hx, hv]
theorem O_ixA {t e : TypeId} {m : Nat} {x y : Operand} {b o : Nat} {kk : IntKind} {n : Int} (ht : P.underlying t = some (.array m e)) (hz : sz P e = some 1) (hx : evLO E x = some (pl b o)) (hy : evLO E y = some (.i kk n)) (h0 : 0 ≤ n) (h1 : n.toNat < m) : Rd P G E (.indexAddr t x y) (pl b (o + n.toNat)) := by
 refine ⟨rfl, fun h _ => ?_⟩
 simp only [opL, hx, hy, Option.bind_some, idxA, natI]
 rw [if_pos h0]
 simp only [Option.bind_some, ht, hz]
 rw [if_pos h1, Nat.mul_one]; rfl
def buildA (P : Program) (t : TypeId) : Option (Nat × List Val) := (zeroV P t).bind fun zero => match P.underlying t with
 | some (.array _ e) => (sz P e).map fun z => (z, zero.cells)
 | _ => none
theorem O_buildA {t : TypeId} {ps : Array (Nat × Operand)} {z : Nat} {zc : List Val} {vs : List (Nat × Val)} {v : Val} (ht : buildA P t = some (z, zc)) (hp : evLP E ps.toList = some vs) (hf : (fillV (fun i => some (i * z, z)) zc vs).map Val.agg = some v) : Rd P G E (.build t ps) v := by
 refine ⟨rfl, fun h _ => ?_⟩
 unfold buildA at ht
 rw [Option.bind_eq_some_iff] at ht; obtain ⟨zero, h1, ht⟩ := ht
 split at ht
 ·rename_i m e hu
  obtain ⟨z', h2, e'⟩ := Option.map_eq_some_iff.1 ht
  obtain ⟨rfl, rfl⟩ := Prod.mk.inj e'
  simp only [opL, hp, Option.bind_some, buildV, h1, hu, h2, hf, Option.map_some]
 ·cases ht
end
section
variable {P : Program} {E : EL} {X : List Nat} {h0 h : Hp} {F0 F : Frz} {L : List Ob}
theorem E_bsti {t : TypeId} {x y : Operand} {g o : Nat} {cs cs' : List Val} {u : Val} (k : Nat) (hx : evLO E x = some (pl g o)) (hy : evLO E y = some u) (hS : St X h0 F0 F L h) (hk : L[k]? = some (.box g cs)) (h1 : u.one = true) (hz : sz P t = some 1) (hfit : o < cs.length) (hcs : putL cs o [u] = cs') :
  Ef P E h (.store t x y) (fun _ h' => St X h0 F0 F (L.set k (.box g cs')) h') := by
 obtain ⟨q1, q2, q3⟩ := hS.boxGet k hk
 have hc : u.cells = [u] := by cases u <;> first | rfl | cases h1
 subst hcs
 have h1' : [u].all Val.one = true := by simp [h1]
 have hf : o + [u].length ≤ cs.length := by simp; omega
 have hall : (putL cs o [u]).all Val.one = true := by
  unfold putL
  rw [List.all_append, List.all_append, h1']
  have p1 : (cs.take o).all Val.one = true := List.all_eq_true.2 fun x hx => List.all_eq_true.1 q3 x (List.mem_of_mem_take hx)
  have p2 : (cs.drop (o + [u].length)).all Val.one = true := List.all_eq_true.2 fun x hx => List.all_eq_true.1 q3 x (List.mem_of_mem_drop hx)
  rw [p1, p2]; rfl
 have hlen := putL_length (c := cs) (o := o) (vs := [u]) hf
 refine ⟨rfl, .no, h.set g (.cells cs.length (putL cs o [u])), ?_, hS.turn hk (box_mk (by rw [Hp.get_set, if_pos rfl, hlen]) q2 hall) (Nat.le_refl _) (fun b hb => ?_) (fun b hb hn => ?_) fun b hb => .inl hb⟩
 ·simp only [opL, hx, hy, Option.bind_some, stV, hz, hc]
  rw [if_pos (by simp)]
  unfold wrH
  rw [q1]
  simp only
  rw [if_pos ⟨hf, h1'⟩]
  rfl
 ·have hb' : h.next ≤ b := hb
  rw [Hp.get_set, if_neg (by omega)]; exact hS.wf b hb'
 ·rw [Hp.get_set, if_neg (fun e => hn (by rw [e]; simp [Ob.box]))]
theorem E_appZ {α : Type} {t : Tr α} {ts tx e : TypeId} {sx xx : Operand} {v : Val} {xs zs : List α} {n : Int} {d : α} {kk : IntKind} (k : Nat) (ht : P.underlying ts = some (.slice e)) (hrow : rowOk P e t.size = true) (hzk : zerosK P tx = some true) (hz0 : ∀ z, zeroV P e = some z → t.rel F z.cells d) (hs : evLO E sx = some v) (hxx : evLO E xx = some (.i kk n)) (hS : St X h0 F0 F L h) (hk : L[k]? = some (.row t v xs)) (hz : appZ xs n d = some zs) :
  Ef P E h (.call { callee := .builtin .append, args := #[sx, xx], argTypes := #[ts, tx] }) (fun v' h' => St X h0 F0 F (L.set k (.row t v' zs)) h') := by
 obtain ⟨n0, hfew, rfl⟩ := appZ_some hz
 obtain ⟨inf, zero, r1, r2, r3, r4, r5, r6, r7⟩ := rowOk_some hrow
 have hz1 := hz0 _ r3
 have c1 : RelL t F (List.replicate n.toNat (⟨zero.cells, r4⟩ : Cl t.size)) (List.replicate n.toNat d) := ⟨by simp, fun i d' x q1 q2 => by
  rw [List.eq_of_mem_replicate (List.mem_of_getElem? q1), List.eq_of_mem_replicate (List.mem_of_getElem? q2)]; exact hz1⟩
 have hE : RowE (To.ofTr t) F h (List.replicate n.toNat (⟨zero.cells, r4⟩ : Cl t.size)) ((List.replicate n.toNat d).map fun _ => []) (List.replicate n.toNat d) := .flat c1
 obtain ⟨v', h', bs', q1, q2, q3, q4, q5, q6⟩ := To.row_cat (t := To.ofTr t) r5 (hS.ok hk) hE (by rw [flat_nils]; exact List.nodup_nil) (fun g hg => by rw [flat_nils] at hg; cases hg) hS.wf (by simp only [List.length_replicate]; show xs.length + n.toNat ≤ 2 ^ 30; omega)
 refine ⟨rfl, v', h', ?_, hS.turn hk (Ob.mkRow q2) q3 q4 q5 fun b hb => ?_⟩
 ·have hnv : natV (.i kk n) = some n.toNat := by unfold natV; simp only; rw [if_pos ⟨n0, by omega⟩]
  have hzs : ((List.replicate n.toNat (⟨zero.cells, r4⟩ : Cl t.size)).map Subtype.val).flatten = zerosV zero.cells n.toNat := by simp [zerosV]
  have hlen : (zerosV zero.cells n.toNat).length = n.toNat * t.size := by simp [zerosV, r4]
  have hone : (zerosV zero.cells n.toNat).all Val.one = true := by rw [← hzs]; exact hE.all1
  simp only [opL, evLL, List.mapM_cons, List.mapM_nil, hs, hxx, bltV, appendV, ht, r1, r2, r3, hzk, moreV, hnv, Option.bind_some, cond_true, pure, Option.bind_eq_bind]
  rw [if_pos r4]
  simp only [Option.bind_some]
  rw [if_pos ⟨r4, r5, by omega, r6, r7, hlen, hone⟩]
  rw [List.length_replicate] at q1
  have q1' : appV h t.size n.toNat ((List.replicate n.toNat (⟨zero.cells, r4⟩ : Cl t.size)).map Subtype.val).flatten v = some (v', h') := q1
  rw [hzs] at q1'
  exact q1'
 ·have := row_own q2
  have hb' : b ∈ v'.own := hb
  rw [← this] at hb'
  rcases q6 b hb' with q | q | q
  ·exact .inl q
  ·rw [flat_nils] at q; cases q
  ·exact .inr q
theorem O_slN {G : Frz} {t e : TypeId} {z : Nat} {x : Operand} {ol oh : Option Operand} (ht : P.underlying t = some (.slice e)) (hz : sz P e = some z) (hx : evLO E x = some (.sl none 0 (.k 0))) (hl : Bd E ol 0 0) (hh : Bd E oh 0 0) : Rd P G E (.slice t x ol oh none) (.sl none 0 (.k 0)) := by
 refine ⟨rfl, fun h _ => ?_⟩
 obtain ⟨lo, l1, l2⟩ := hl.val
 obtain ⟨hi', r1, r2⟩ := hh.val
 have n0 : evLQ E none = some none := rfl
 simp only [opL, hx, l1, r1, n0, Option.bind_some, sliceV, ht, hz]
 rw [bnd_ok (len := 0) l2 r2 (by omega) (by omega) (by omega) (Nat.le_refl _)]
 rfl
theorem O_len0 {G : Frz} {T e : TypeId} {x : Operand} (ht : P.underlying T = some (.slice e)) (hx : evLO E x = some (.sl none 0 (.k 0))) : Rd P G E (.call { callee := .builtin .len, args := #[x], argTypes := #[T] }) (.i .i64 0) := O_len (n := 0) ht hx (.inr ⟨none, _, rfl, fun _ => rfl⟩)
theorem O_cap0 {G : Frz} {T e : TypeId} {x : Operand} (ht : P.underlying T = some (.slice e)) (hx : evLO E x = some (.sl none 0 (.k 0))) : Rd P G E (.call { callee := .builtin .cap, args := #[x], argTypes := #[T] }) (.i .i64 0) := by
 refine ⟨rfl, fun h _ => ?_⟩
 simp [opL, evLL, hx, bltV, capB, ht]
end
end Go.V
end
section
namespace Go.V
open Go.Wk
structure Foc {α β : Type} (t : To α) (tr : Tr β) (f : Nat) (get : α → List β) (set : α → List β → α) : Prop where
 lt : f < t.size
 op : ∀ {F h e cs x}, t.rel F h e cs x → ∃ u, cs[f]? = some u ∧ (To.row (To.ofTr tr)).rel F h e [u] (get x)
 cl : ∀ {F h e cs x F' h' e' u' l'}, t.rel F h e cs x → F.le F' → (To.row (To.ofTr tr)).rel F' h' e' [u'] l' → t.rel F' h' e' (putL cs f [u']) (set x l')
def To.hu {α : Type} (t : To α) (f : Nat) (u : Val) : To α where
 size := t.size
 rel F h bs cs x := bs = [] ∧ ∃ h0 e0, t.rel F h0 e0 cs x ∧ cs[f]? = some u
 len := fun ⟨_, _, _, q, _⟩ => t.len q
 one := fun ⟨_, _, _, q, _⟩ => t.one q
 lt := fun ⟨q, _⟩ b hb => by rw [q] at hb; cases hb
 nodup := fun ⟨q, _⟩ => by rw [q]; exact List.nodup_nil
 mono := fun l ⟨q, h0, e0, q1, q2⟩ => ⟨q, h0, e0, t.mono l q1, q2⟩
 frame := fun q _ _ => q
abbrev To.holed {α : Type} (t : To α) (f : Nat) (u : Val) : To (α × Bool) := To.tag t (t.hu f u) rfl
def butL {α : Type} (i : Nat) (l : List α) : List (α × Bool) := l.mapIdx fun j x => (x, decide (j ≠ i))
theorem butL_len {α : Type} (i : Nat) (l : List α) : (butL i l).length = l.length := by simp [butL]
theorem butL_at {α : Type} {i j : Nat} {l : List α} {x : α} (h : l[j]? = some x) : (butL i l)[j]? = some (x, decide (j ≠ i)) := by simp [butL, h]
section
variable {α β : Type} {t : To α} {tr : Tr β} {f : Nat} {get : α → List β} {set : α → List β → α} {X : List Nat} {h0 h : Hp} {F0 F : Frz} {L : List Ob} {bs bs2 : List Nat} {v : Val} {xs : List α} {x : α} {i : Nat}
theorem St.focus (fo : Foc t tr f get set) (k : Nat) (s : St X h0 F0 F L h) (hk : L[k]? = some (.dp t bs v xs)) (hi : xs[i]? = some x) : ∃ u bs2 cs, Elf (nowF h) v t.size i cs ∧ cs[f]? = some u ∧ St X h0 F0 F (.row tr u (get x) :: L.set k (.dp (t.holed f u) bs2 v (butL i xs))) h := by
 obtain ⟨cs, e, hr, hsub, he, hsw⟩ := To.row_swap (t := t) (s.ok hk) hi
 have hpos : 0 < t.size := Nat.lt_of_le_of_lt (Nat.zero_le _) fo.lt
 obtain ⟨u, hu, hrow⟩ := fo.op hr
 obtain ⟨bs2, hh2, hm2⟩ := hsw (t.holed f u) (butL i xs) (x, false) [] rfl (butL_len _ _) (by rw [butL_at hi]; simp) (fun j x y e cs hj h1 h2 h3 => by
  have h1' : xs[j]? = some x := h1
  rw [butL_at h1'] at h2
  obtain rfl := Option.some.inj h2
  exact .inl ⟨by simpa using hj, h3⟩) (.inr ⟨rfl, rfl, h, e, hr, hu⟩) (fun g hg => by cases hg)
 have hown : e = u.own := row_own hrow
 subst hown
 have hS2 := s.part (i := k) (.row tr u (get x)) (.dp (t.holed f u) bs2 v (butL i xs)) hk hrow hh2 hsub (fun g hg => ((hm2 g).1 hg).elim (fun q => q.1) fun q => by cases q) (fun g hg hg2 => ((hm2 g).1 hg2).elim (fun q => q.2 hg) fun q => by cases q)
 exact ⟨u, bs2, cs, he hpos, hu, hS2⟩
theorem unbut {u : Val} {y : α} (hi : i < xs.length) (r : (Ob.dp (t.holed f u) bs v ((butL i xs).set i (y, true))).ok F h) : (Ob.dp t bs v (xs.set i y)).ok F h :=
 To.row_conv (t := t.holed f u) (s := t) (xs := (butL i xs).set i (y, true)) (ys := xs.set i y) rfl r (by simp [butL]) fun j a b e cs h1 h2 h3 => by
  by_cases hj : j = i
  ·subst hj
   rw [List.getElem?_set_self (by rw [butL_len]; exact hi)] at h1
   rw [List.getElem?_set_self hi] at h2
   obtain rfl := Option.some.inj h1; obtain rfl := Option.some.inj h2
   exact h3.elim (fun q => q.2) fun q => by cases q.1
  ·rw [List.getElem?_set_ne (fun q => hj q.symm)] at h1 h2
   rw [butL_at h2] at h1
   obtain rfl := Option.some.inj h1
   exact h3.elim (fun q => q.2) fun q => absurd q.1 (by simpa using hj)
end
section
variable {P : Program} {E : EL} {α β : Type} {t : To α} {tr : Tr β} {f : Nat} {get : α → List β} {set : α → List β → α} {X : List Nat} {h0 h : Hp} {F0 F : Frz} {L : List Ob} {bs bs2 : List Nat} {v : Val} {xs : List α} {x : α}
theorem E_fill {ty : TypeId} {u u' : Val} {l' : List β} {xo yo : Operand} {o : Nat} (fo : Foc t tr f get set) (i : Nat) (hx : evLO E xo = some (elp v o)) (hy : evLO E yo = some u') (hS : St X h0 F0 F (.row tr u' l' :: .dp (t.holed f u) bs v (butL i xs) :: L) h) (hi : xs[i]? = some x) (ho : o = i * t.size + f) (hz : sz P ty = some 1) :
  Ef P E h (.store ty xo yo) (fun _ h' => ∃ bs', St X h0 F0 F (.dp t bs' v (xs.set i (set x l')) :: L) h') := by
 have hpos : 0 < t.size := Nat.lt_of_le_of_lt (Nat.zero_le _) fo.lt
 have hrow : (To.row (To.ofTr tr)).rel F h u'.own [u'] l' := hS.ok (i := 0) rfl
 have hone := (To.row_ln hrow).cells
 have hS' : St X h0 F0 F (⟨To.row (To.ofTr tr), u'.own, [u'], l'⟩ :: .dp (t.holed f u) bs v (butL i xs) :: L) h := hS
 have hil := (List.getElem?_eq_some_iff.1 hi).1
 obtain ⟨q0, v', h', q1, bs', q2⟩ := E_putD (P := P) (E := E) (ty := ty) (u := u') (xo := xo) (yo := yo) (o := o) i f (x, false) (set x l', true) (t := t.holed f u) hpos hx hy hS' (by rw [butL_at hi]; simp) ho hone hz fo.lt (fun h cs e r1 r2 => by
  rcases r1 with ⟨r1, _⟩ | ⟨_, _, h1, e1, r1, _⟩
  ·cases r1
  ·exact .inl ⟨rfl, fo.cl r1 (Frz.le.refl _) r2⟩)
 refine ⟨q0, v', h', q1, bs', ?_⟩
 have := q2.see (i := 0) (o' := .dp t bs' v (xs.set i (set x l'))) rfl (unbut hil (q2.ok (i := 0) rfl)) (fun b q => q)
 simpa using this
end
section
variable {α : Type} {t : To α} {tr : Tr α} {X : List Nat} {h0 h : Hp} {F0 F : Frz} {L : List Ob} {bs : List Nat} {v : Val} {xs : List α}
theorem St.flatD (s : Sees t tr) (k : Nat) (hS : St X h0 F0 F L h) (hk : L[k]? = some (.dp t bs v xs)) : ∃ F', F.le F' ∧ St X h0 F0 F' (L.set k (.row tr v xs)) h := by
 obtain ⟨v0, hv0, r⟩ := hS.ok hk
 obtain rfl := List.head_eq_of_cons_eq hv0
 have hkl := (List.getElem?_eq_some_iff.1 hk).1
 rcases r with ⟨rfl, hxs, hbs⟩ | ⟨b, c, kk, css, bss, r⟩
 ·have hxs' : xs = [] := hxs
  subst hxs'
  exact ⟨F, Frz.le.refl _, hS.see hk (o' := .row tr (.sl none 0 (.k 0)) []) ⟨_, rfl, .inl ⟨rfl, rfl, rfl⟩⟩ fun b hb => by cases hb⟩
 ·have hfoot : bs = b :: bss.flatten := r.foot
  have hnod : bs.Nodup := r.nodup
  rw [hfoot] at hnod
  obtain ⟨hb1, hb2⟩ := List.nodup_cons.1 hnod
  have hown := (hS.own k _ hk).2
  have hin : ∀ g, g ∈ bss.flatten → (∀ q, F g q = none) ∧ (h0.next ≤ g ∨ g ∈ X) := fun g hg => hown g (by show g ∈ bs; rw [hfoot]; exact List.mem_cons_of_mem _ hg)
  have hbo : (∀ q, F b q = none) ∧ (h0.next ≤ b ∨ b ∈ X) := hown b (by show b ∈ bs; rw [hfoot]; simp)
  have hle := Frz.plus_le (h := h) (F := F) fun g hg => (hin g hg).1
  have hform : v = .sl (some (b, 0)) xs.length (.of t.size kk) := r.form
  have hs := s.size
  obtain ⟨css2, hc1, hc2, hc3⟩ : ∃ css2 : List (Cl (To.ofTr tr).size), css2.length = css.length ∧ css2.map Subtype.val = css.map Subtype.val ∧ ∀ (i : Nat) (d : Cl (To.ofTr tr).size), css2[i]? = some d → ∃ d0, css[i]? = some d0 ∧ d.1 = d0.1 :=
   ⟨css.map (fun d => (⟨d.1, d.2.trans hs⟩ : Cl (To.ofTr tr).size)), by simp, by rw [List.map_map]; rfl, fun i d q => by
    rw [List.getElem?_map] at q
    obtain ⟨d0, hd0, rfl⟩ := Option.map_eq_some_iff.1 q
    exact ⟨d0, hd0, rfl⟩⟩
  have hrow : (Ob.row tr v xs).ok (F.plus h bss.flatten) h := by
   refine Ob.mkRow (bs := b :: (xs.map fun _ => ([] : List Nat)).flatten) ⟨_, rfl, .inr ⟨b, c, kk, css2, xs.map fun _ => [], ?_⟩⟩
   refine ⟨by rw [hform, hs]; rfl, by rw [r.blk, hs]; rfl, r.lt, by rw [hc1]; exact r.csl, by simp, fun i d x e q1 q2 q3 => ?_, ?_, fun q => by have := r.opn q; rw [hs] at this; exact this, fun m q => by have := r.cap m q; rw [hs] at this; exact this, r.few, r.one, rfl, by rw [flat_nils]; simp⟩
   ·rw [List.getElem?_map] at q3
    obtain ⟨d0, hd0, hdd⟩ := hc3 i d q1
    have hil := (List.getElem?_eq_some_iff.1 q2).1
    have he : e = [] := by
     rw [List.getElem?_eq_getElem hil] at q3
     exact (Option.some.inj q3).symm
    have hbl : i < bss.length := by rw [r.bsl]; exact hil
    refine ⟨he, hdd ▸ s.rel (r.rel i d0 x _ hd0 q2 (List.getElem?_eq_getElem hbl)) hle fun g hg o u hu => ?_⟩
    unfold Frz.plus
    rw [if_pos (List.mem_flatten.2 ⟨_, List.getElem_mem hbl, hg⟩)]
    exact hu
   ·have h1 : c.take (xs.length * tr.size) = (css.map Subtype.val).flatten := by rw [← hs]; exact r.cells
    exact h1.trans (congrArg List.flatten hc2.symm)
  have hvo : v.own = [b] := by rw [hform]; rfl
  have hnk : ∀ (j : Nat) (p : Ob) (g : Nat), j ≠ k → L[j]? = some p → g ∈ p.bs → g ∉ bs := fun j p g hj hp hg hg2 => hj (hS.apart j k p _ g hp hk hg hg2)
  refine ⟨F.plus h bss.flatten, hle, hS.next, hS.wf, hS.keep, fun g q u e => ?_, hS.ext.trans hle, fun g q u e => ?_, fun j p hj => ?_, fun j j' p p' g hj hj' hg hg' => ?_⟩
  ·unfold Frz.plus at e
   split at e
   ·exact e
   ·exact hS.agree g q u e
  ·unfold Frz.plus at e
   split at e
   ·rename_i hg; exact .inr (hin g hg).2
   ·exact hS.new g q u e
  ·by_cases hjk : j = k
   ·subst hjk
    rw [List.getElem?_set_self hkl] at hj
    obtain rfl := Option.some.inj hj
    refine ⟨hrow, fun g hg => ?_⟩
    have hg' : g ∈ v.own := hg
    rw [hvo] at hg'
    have : g = b := by simpa using hg'
    subst this
    refine ⟨fun q => ?_, hbo.2⟩
    unfold Frz.plus
    rw [if_neg hb1]; exact hbo.1 q
   ·rw [List.getElem?_set_ne (fun q => hjk q.symm)] at hj
    obtain ⟨t1, t2⟩ := hS.own j p hj
    refine ⟨p.t.mono hle t1, fun g hg => ⟨fun q => ?_, (t2 g hg).2⟩⟩
    unfold Frz.plus
    rw [if_neg fun z => hnk j p g hjk hj hg (by rw [hfoot]; exact List.mem_cons_of_mem _ z)]
    exact (t2 g hg).1 q
  ·have tobs : ∀ (j : Nat) (p : Ob), (L.set k (.row tr v xs))[j]? = some p → ∃ p0, L[j]? = some p0 ∧ ∀ g, g ∈ p.bs → g ∈ p0.bs := fun j p hj => by
    by_cases hjk : j = k
    ·subst hjk
     rw [List.getElem?_set_self hkl] at hj
     obtain rfl := Option.some.inj hj
     refine ⟨_, hk, fun g hg => ?_⟩
     have hg' : g ∈ v.own := hg
     rw [hvo] at hg'
     show g ∈ bs
     rw [hfoot]
     have : g = b := by simpa using hg'
     simp [this]
    ·rw [List.getElem?_set_ne (fun q => hjk q.symm)] at hj
     exact ⟨p, hj, fun g hg => hg⟩
   obtain ⟨p0, e1, e2⟩ := tobs j p hj
   obtain ⟨p1, e3, e4⟩ := tobs j' p' hj'
   exact hS.apart j j' p0 p1 g e1 e3 (e2 g hg) (e4 g hg')
end
section
variable {α : Type} {t : To α} {F : Frz} {h : Hp} {bs : List Nat} {v : Val} {xs : List α}
theorem To.row_first (hpos : 0 < t.size) (r : (To.row t).rel F h bs [v] xs) : ∃ css bss, RowE t F h css bss xs ∧ bss.flatten.Nodup ∧ (∀ g, g ∈ bss.flatten → g ∈ bs) ∧ lenV v = some xs.length ∧ firstV h t.size xs.length v = some (css.map Subtype.val).flatten := by
 obtain ⟨v0, hv0, r⟩ := r
 obtain rfl := List.head_eq_of_cons_eq hv0
 rcases r with ⟨rfl, rfl, _⟩ | ⟨b, c, k, css, bss, r⟩
 ·exact ⟨[], [], .nil, List.nodup_nil, (fun g hg => by simp at hg), rfl, rfl⟩
 ·have hf := r.form
  have hnod := r.nodup
  rw [r.foot] at hnod
  have hfit : xs.length * t.size ≤ c.length := by
   cases k with
   | none => exact r.opn rfl
   | some m => obtain ⟨q1, q2⟩ := r.cap m rfl; rw [q1]; exact Nat.mul_le_mul_right _ q2
  refine ⟨css, bss, ⟨r.csl, r.bsl, r.rel⟩, (List.nodup_cons.1 hnod).2, fun g hg => by rw [r.foot]; exact List.mem_cons_of_mem _ hg, by rw [hf]; rfl, ?_⟩
  rw [hf]
  simp only [firstV]
  split
  ·rename_i h0
   have : css = [] := List.eq_nil_of_length_eq_zero (by rw [r.csl]; exact h0)
   subst this; rfl
  ·unfold rd
   rw [r.blk]
   simp only [Nat.zero_add, List.drop_zero]
   rw [if_pos hfit, r.cells]
theorem St.dpIx {X : List Nat} {h0 : Hp} {F0 : Frz} {L : List Ob} {k i : Nat} {x : α} (hS : St X h0 F0 F L h) (hk : L[k]? = some (.dp t bs v xs)) (hi : xs[i]? = some x) : Ixd v i := by
 obtain ⟨v0, hv0, r⟩ := hS.ok hk
 obtain rfl := List.head_eq_of_cons_eq hv0
 have hil := (List.getElem?_eq_some_iff.1 hi).1
 rcases r with ⟨rfl, hxs, _⟩ | ⟨b, c, k, css, bss, r⟩
 ·have : xs = [] := hxs
  subst this; simp at hil
 ·exact ⟨b, 0, _, _, r.form, hil⟩
theorem To.row_slice {P : Program} {ty e : TypeId} {lo hi : Option Val} {a b : Int} (r : (To.row t).rel F h bs [v] xs) (ht : P.underlying ty = some (.slice e)) (hz : sz P e = some t.size) (hlo : BdV lo 0 a) (hhi : BdV hi xs.length b) (h0 : 0 ≤ a) (h1 : a ≤ b) (h2 : b ≤ (xs.length : Int)) : ∃ v', sliceV P ty v lo hi none = some v' := by
 obtain ⟨v0, hv0, r⟩ := r
 obtain rfl := List.head_eq_of_cons_eq hv0
 rcases r with ⟨rfl, rfl, _⟩ | ⟨g, c, m, css, bss, r⟩
 ·refine ⟨_, by unfold sliceV; simp only [ht, hz, Option.bind_some]; rw [bnd_ok (len := 0) hlo hhi h0 h1 h2 (Nat.le_refl _)]; rfl⟩
 ·have hf := r.form
  subst hf
  cases m with
  | some m => exact ⟨_, by unfold sliceV; simp only [Cap.of_some, ht, hz, Option.bind_some]; rw [bnd_ok hlo hhi h0 h1 h2 (r.cap m rfl).2]; rfl⟩
  | none => exact ⟨_, by unfold sliceV; simp only [Cap.of_none, ht, hz, Option.bind_some, if_true]; rw [bnd_ok hlo hhi h0 h1 h2 (Nat.le_refl _)]; rfl⟩
end
section
variable {P : Program} {K : Tb} {fn : Func} {k : Kont} {E : EL} {h : Hp} {A : List Oper} {dr : Bool} {G : Frz} {L : List Nat} {i d : Nat} {X : List Nat} {h0 : Hp} {F0 F : Frz} {Lo : List Ob}
theorem W_cutD {α : Type} {t : To α} {ty e : TypeId} {v : Val} {bs : List Nat} {xs : List α} {x : Operand} {ol oh : Option Operand} (j : Nat) (a b : Int) (hi : Nat.blt i A.length = true) (hw : wantL A E (opAt A i) = some true) (hd : (opAt A i).dst = some d) (hop : (opAt A i).op = .slice ty x ol oh none)
  (ht : P.underlying ty = some (.slice e)) (hz : sz P e = some t.size) (hx : evLO E x = some v) (hl : Bd E ol 0 a) (hh : Bd E oh xs.length b) (hS : St X h0 F0 F Lo h) (hj : Lo[j]? = some (.dp t bs v xs)) (q0 : 0 ≤ a) (q1 : a ≤ b) (q2 : b ≤ (xs.length : Int))
  (q : ∀ v', W P K fn k A dr G L ((d, v') :: E) h) : W P K fn k A dr G (i :: L) E h := by
 obtain ⟨lo, l1, l2⟩ := hl.val
 obtain ⟨hi', r1, r2⟩ := hh.val
 obtain ⟨v', k1⟩ := To.row_slice (P := P) (hS.ok hj) ht hz l2 r2 q0 q1 q2
 refine W_c (v := v') hi hw hd (by rw [hop]; rfl) (fun h => ?_) (q v')
 rw [hop]
 have n0 : evLQ E none = some none := rfl
 simp only [opL, hx, l1, r1, n0, Option.bind_some, k1, Option.map_some]
end
section
variable {P : Program} {E : EL} {X : List Nat} {h0 h : Hp} {F0 F : Frz} {L : List Ob}
theorem E_appD {α : Type} {t : To α} {ts tx e : TypeId} {sx xx : Operand} {v v2 : Val} {bs bs2 : List Nat} {xs ys zs : List α} (ht : P.underlying ts = some (.slice e)) (hrow : rowOk P e t.size = true) (hzk : zerosK P tx = some false) (hs : evLO E sx = some v) (hxx : evLO E xx = some v2) (hS : St X h0 F0 F (.dp t bs2 v2 ys :: .dp t bs v xs :: L) h) (hz : app xs ys = some zs) :
  Ef P E h (.call { callee := .builtin .append, args := #[sx, xx], argTypes := #[ts, tx] }) (fun v' h' => ∃ bs', St X h0 F0 F (.dp t bs' v' zs :: L) h') := by
 obtain ⟨hfew, rfl⟩ := app_some hz
 obtain ⟨inf, zero, r1, r2, r3, r4, r5, r6, r7⟩ := rowOk_some hrow
 have hk : (.dp t bs2 v2 ys :: .dp t bs v xs :: L : List Ob)[1]? = some (.dp t bs v xs) := rfl
 obtain ⟨css, bss, hE, hnd, hsub, c3, c4⟩ := To.row_first (t := t) (bs := bs2) (v := v2) (xs := ys) r5 (hS.ok (i := 0) rfl)
 have hap : ∀ g, g ∈ bs2 → g ∉ bs := fun g h1 h2 => by
  have := hS.apart 0 1 _ _ g rfl hk h1 h2; omega
 obtain ⟨v', h', bs', q1, q2, q3, q4, q5, q6⟩ := To.row_cat (t := t) (bs := bs) (v := v) (xs := xs) r5 (hS.ok hk) hE hnd (fun g hg => hap g (hsub g hg)) hS.wf hfew
 refine ⟨rfl, v', h', ?_, bs', hS.join _ q2 q3 q4 (fun b hb _ hn => q5 b hb hn) fun b hb => ?_⟩
 ·have hcl := hE.csl
  simp only [opL, evLL, List.mapM_cons, List.mapM_nil, hs, hxx, bltV, appendV, ht, r1, r2, r3, hzk, moreV, c3, Option.bind_some, Option.map_some, cond_false, pure, Option.bind_eq_bind]
  rw [c4]
  simp only [Option.map_some, Option.bind_some]
  rw [if_pos ⟨r4, r5, by omega, r6, r7, by rw [flat_len css, hcl], hE.all1⟩]
  exact q1
 ·rcases q6 b hb with q | q | q
  ·exact .inr (.inl q)
  ·exact .inl (hsub b q)
  ·exact .inr (.inr q)
theorem E_bs1 {α : Type} {t : To α} {ts e : TypeId} {n : Nat} {ps : Array (Nat × Operand)} {u : Val} {x : α} (ht : P.underlying ts = some (.slice e)) (hrow : rowOk P e t.size = true) (hp : evLP E ps.toList = some (numb 0 [u])) (hr : t.rel F h [] u.cells x) (hn : n = 1) (hle : Nat.ble t.size 16777216 = true) (hS : St X h0 F0 F L h) :
  Ef P E h (.buildSlice ts n ps) (fun v' h' => ∃ bs', St X h0 F0 F (.dp t bs' v' [x] :: L) h') := by
 subst hn
 obtain ⟨inf, zero, r1, r2, r3, r4, r5, r6, r7⟩ := rowOk_some hrow
 have hE : RowE t F h [⟨u.cells, t.len hr⟩] [[]] [x] := .one hr
 have hall : u.cells.all Val.one = true := t.one hr
 have hnle := Nat.le_of_ble_eq_true hle
 have hfill := fill_all (z := t.size) r4 [u] 0 [] (fun w hw => by simp at hw; subst hw; exact t.len hr) (by simp)
 simp only [List.nil_append, List.map_cons, List.map_nil, List.flatten_cons, List.flatten_nil, List.append_nil, List.length_singleton] at hfill
 have R := rowO_anew (h1 := h) (m := some 1) (post := []) hE rfl (fun g q => rfl) (by simp) (by simp) (fun _ => rfl) (fun q e => by obtain rfl := Option.some.inj e; exact ⟨by simp, by simp⟩) rfl
 simp only [List.map_cons, List.map_nil, List.flatten_cons, List.flatten_nil, List.append_nil] at R
 refine ⟨rfl, .sl (some (h.next, 0)) 1 (.k 1), _, ?_, [h.next], hS.fresh ⟨Nat.le_succ _, wf_new rfl hS.wf, fun b hb => ?_⟩ ⟨_, rfl, .inr ⟨_, _, _, _, _, R⟩⟩ (fun b hb => ?_)⟩
 ·simp only [opL, hp, Option.bind_some, buildSliceV, ht, r1, r3]
  rw [if_pos ⟨by omega, r4, r5⟩, hfill]
  simp only [Option.bind_some, rowV]
  rw [if_pos hall]
  rfl
 ·rw [Hp.get_new, if_neg (by omega)]
 ·have : b = h.next := by simpa [Ob.dp] using hb
  omega
end
end Go.V
end
section
namespace Go.V
open Go.Wk
section
variable {P : Program} {K0 : Tb}
def KClose (P : Program) (K0 : Tb) (f : FuncId) : Tb := fun f' args h M => f' = f ∧ ∃ b n z c rest, args = .sl (some (b, 0)) n (.op z) :: rest ∧ h.get b = some (.cells z c) ∧ n * z ≤ c.length ∧
 ∀ m, n ≤ m → c.length ≤ m * z → Ret P K0 f (.sl (some (h.next, 0)) n (.k m) :: rest) ((h.set b .dead).new (.cells z (c ++ List.replicate (m * z - c.length) .un))) M
theorem KClose_ok (hK : KOk P K0) {f : FuncId} : KOk P (KClose P K0 f) := by
 rintro f' args h M ⟨rfl, b, n, z, c, rest, rfl, hg, hn, hx⟩ ρ w args' r hr
 obtain ⟨a0, ar, rfl⟩ : ∃ a0 ar, args' = a0 :: ar := by
  cases args' with
  | nil => exact absurd hr.1 (by simp)
  | cons a r => exact ⟨a, r, rfl⟩
 have h0 := hr.head
 cases h0 with
 | so hb hlk p1 p2 =>
  rename_i m i
  obtain ⟨b1, b2, b3, b4, b5, b6⟩ := r.blk _ _ _ hb hg
  rw [Nat.zero_add, b2] at p1
  rw [Nat.add_zero] at p2
  have hc : c.length ≤ m * i.z := p1
  have hall : (c ++ List.replicate (m * i.z - c.length) Val.un).all Val.one = true := by
   rw [List.all_append, b4, Bool.true_and]
   exact List.all_eq_true.2 fun u hu => by rw [(List.mem_replicate.1 hu).2]; rfl
  have hlen : (c ++ List.replicate (m * i.z - c.length) Val.un).length = m * i.z := by rw [List.length_append, List.length_replicate]; omega
  obtain ⟨q2, q3⟩ := r.newIn (p := 0) (us := []) (z := i.z) (n := 0) (N := i.N) (base := i.base) (c := c ++ List.replicate (m * i.z - c.length) Val.un) hb hg hall (by rw [hlen]; exact p2) (fun u hu => by cases hu) b5.2 b5.1 (fun j u hj => by
   by_cases hjl : j < c.length
   ·rw [List.getElem?_append_left hjl] at hj
    exact b6 j u hj
   ·rw [List.getElem?_append_right (by omega)] at hj
    have hu : u = .un := (List.mem_replicate.1 (List.mem_of_getElem? hj)).2
    have hjm : j < m * i.z := by
     have := (List.getElem?_eq_some_iff.1 hj).1
     rw [List.length_replicate] at this; omega
    subst hu
    obtain ⟨u', hu'⟩ := Option.isSome_iff_exists.1 (b5.1 (i.base + j) (by omega)).1
    exact ⟨u', hu', .un (b5.2.2.1 _ _ hu')⟩)
  have hv : VRL (ρ.put h.next ⟨i.g, i.base, i.z, (c ++ List.replicate (m * i.z - c.length) Val.un).length, i.N⟩) (.sl (some (h.next, 0)) n (.k m) :: rest) (.slice (some ⟨i.g, i.base + 0, none⟩) n m :: ar) :=
   VRL.cons (VR.sk (i := ⟨i.g, i.base, i.z, (c ++ List.replicate (m * i.z - c.length) Val.un).length, i.N⟩) (put_self _ _) hlk) (hr.tail.mono q3.le)
  have hm := sim_all hK (hx m hlk hc) _ _ _ q2 hv
  have conv : ∀ v' w', (∃ v h' ρ', (∃ v0 h0, Out.call v h' = .call v0 h0 ∧ M v0 h0) ∧ VR ρ' v v' ∧ Rel ρ' h' w' ∧ Ext (ρ.put h.next ⟨i.g, i.base, i.z, (c ++ List.replicate (m * i.z - c.length) Val.un).length, i.N⟩) ((h.set b .dead).new (.cells i.z (c ++ List.replicate (m * i.z - c.length) .un))) w ρ' h' w') → ∃ v h' ρ', M v h' ∧ VR ρ' v v' ∧ Rel ρ' h' w' ∧ Ext ρ h w ρ' h' w' := by
   rintro v' w' ⟨v, h', ρ', ⟨v0, h0, e, hM⟩, k1, k2, k3⟩
   obtain ⟨rfl, rfl⟩ := Out.call.inj e
   exact ⟨_, _, ρ', hM, k1, k2, q3.trans k3⟩
  rcases hm with ⟨e1, e2⟩ | ⟨v, w', e1, e2⟩
  ·refine .inl ⟨e1, Calls.mono e2 fun e w' q => ?_⟩
   cases e with
   | returned v => exact conv _ _ q
   | panicked c => exact q.elim
   | outgrown => exact q.elim
  ·exact .inr ⟨v, w', e1, conv _ _ e2⟩
def KLap (P : Program) : Tb := fun f args h M => ∃ g t tr e z vb vo vn vc d1 z1 b o n c d2 z2, P.funcs[f]? = some g ∧ (g.name == "runtime.NumGoroutine") = false ∧ g.body.isNone = true ∧ Extern.findNext g = none ∧ Extern.find g = some (Extern.SlicesOverlaps.overlaps #[t, t] #[tr]) ∧ P.underlying t = some (.slice e) ∧ sz P e = some z ∧
 args = [.sl (some (vb, vo)) vn vc, .sl (some (b, o)) n c] ∧ vb ≠ b ∧ h.get vb = some (.cells z1 d1) ∧ z1 ≠ 1 ∧ vo < d1.length ∧ h.get b = some (.cells z2 d2) ∧ 0 < d2.length ∧ M (.b false) h
theorem KLap_ok : KOk P (KLap P) := by
 rintro f args h M ⟨g, t, tr, e, z, vb, vo, vn, vc, d1, z1, b, o, n, c, d2, z2, hf, hname, hb, hn, he, ht, hz, rfl, hne, hg1, hz1, hvo, hg2, hd2, hM⟩ ρ w args' r hr
 match args', hr with
 | [u', v'], hr =>
  have slc : ∀ {b o n c u}, VR ρ (.sl (some (b, o)) n c) u → ∃ i cc, ρ b = some i ∧ u = .slice (some ⟨i.g, i.base + o, none⟩) n cc := fun h => by
   cases h with
   | sk hb _ => exact ⟨_, _, hb, rfl⟩
   | so hb _ _ _ => exact ⟨_, _, hb, rfl⟩
  obtain ⟨i1, c1, e1, rfl⟩ := slc hr.head
  obtain ⟨i2, c2, e2, rfl⟩ := slc hr.tail.head
  obtain ⟨a1, a2, a3, a4, a5, a6⟩ := r.blk _ _ _ e1 hg1
  obtain ⟨b1, b2, b3, b4, b5, b6⟩ := r.blk _ _ _ e2 hg2
  have hg : i1.g ≠ i2.g := fun q => hne (r.inj vb b i1 i2 e1 e2 ⟨_, hg1, rfl⟩ ⟨_, hg2, rfl⟩ q)
  obtain ⟨u1, hu1⟩ := Option.isSome_iff_exists.1 (a5.1 (i1.base + vo) (by omega)).1
  obtain ⟨u2, hu2⟩ := Option.isSome_iff_exists.1 (b5.1 i2.base (by omega)).1
  obtain ⟨C1, t1, f1, s1, s1'⟩ := Go.Sort.cells_of_cell? hu1
  obtain ⟨C2, t2, f2, s2, s2'⟩ := Go.Sort.cells_of_cell? hu2
  have k2 : C2.size ≠ 0 := by
   simp only [World.cell?, s2] at hu2
   have := (Array.getElem?_eq_some_iff.1 hu2).1
   omega
  have h1 := run_callFunc_extern (P := P) hf hname hb hn he #[.slice (some ⟨i1.g, i1.base + vo, none⟩) vn c1, .slice (some ⟨i2.g, i2.base + o, none⟩) n c2] w
  rw [Lib.run_overlaps_apart w t tr e ht z (run_sz hz) ⟨i1.g, i1.base + vo, none⟩ ⟨i2.g, i2.base + o, none⟩ vn c1 n c2 hg t1 t2 C1.size C2.size (by simp only [World.shape?, s1]) (by simp only [World.shape?, s2]) k2 (a5.1 _ (by omega)).2 (by
   have := a5.2.2.2 (by rw [← a1] at hz1; exact a1 ▸ hz1) _ _ _ s1
   simp only [World.frozen?, s1]
   simp
   omega)] at h1
  exact .inr ⟨_, w, h1, _, h, ρ, hM, .b _, r, Ext.refl _ _ _⟩
 | [], hr => exact absurd hr.1 (by simp)
 | [_], hr => exact absurd hr.1 (by simp)
 | _ :: _ :: _ :: _, hr => exact absurd hr.1 (by simp)
end
section
variable {P : Program} {E : EL} {X : List Nat} {h0 h : Hp} {F0 F : Frz} {L : List Ob}
theorem E_cvt {α : Type} {t : Tr α} {ty e : TypeId} {x : Operand} {v : Val} {xs : List α} (k : Nat) (hs : P.underlying ty = some (.slice e)) (he : P.underlying e = some (.int .u8)) (hx : evLO E x = some v) (hS : St X h0 F0 F L h) (hk : L[k]? = some (.row t v xs)) (hn : xs ≠ []) (h1 : t.size = 1) : Ef P E h (.convert ty ty x) (fun v' h' => v = v' ∧ h = h') := by
 refine ⟨by simp [kindOf, convK, hs], v, h, ?_, rfl, rfl⟩
 obtain ⟨v0, hv0, r⟩ := hS.ok hk
 obtain rfl := List.head_eq_of_cons_eq hv0
 rcases r with ⟨rfl, hxs, _⟩ | ⟨b, c, kk, css, bss, r⟩
 ·exact absurd hxs hn
 ·have hf : v = .sl (some (b, 0)) xs.length (.of t.size kk) := r.form
  have hb : h.get b = some (.cells t.size c) := r.blk
  rw [h1] at hb hf
  subst hf
  simp only [opL, hx, Option.bind_some, convV, hs, he, hb, beq_self_eq_true]
end
end Go.V
end
section
namespace Go.V
open Go.Wk
theorem cv1_one' {u : Value} {v : Val} (h : cv1 u = some v) : v.one = true := by
 unfold cv1 at h
 split at h <;> first | (obtain rfl := Option.some.inj h; rfl) | cases h
theorem mapM_one' : ∀ {l : List Value} {vs : List Val}, l.mapM cv1 = some vs → vs.all Val.one = true := by
 intro l
 induction l with
 | nil => intro vs h; simp at h; subst h; rfl
 | cons x l ih =>
  intro vs h
  simp only [List.mapM_cons, Option.bind_eq_bind, Option.pure_def, Option.bind_eq_some_iff, Option.some.injEq] at h
  obtain ⟨v, h1, us, h2, rfl⟩ := h
  rw [List.all_cons, cv1_one' h1, ih h2]; rfl
theorem cv_one' {u : Value} {v : Val} (h : cv u = some v) : v.cells.all Val.one = true := by
 unfold cv at h
 split at h
 ·obtain ⟨vs, h1, rfl⟩ := Option.map_eq_some_iff.1 h
  exact mapM_one' h1
 ·have h1 := cv1_one' h
  cases v <;> first | (simp [Val.cells, Val.one]; done) | (simp [Val.one] at h1)
section
variable {P : Program} {E : EL} {G : Frz} {h : Hp}
theorem wrap_nat {x : Int} {n : Nat} (hx : x = (n : Int)) (hn : n < 4611686018427387904) : IntKind.i64.wrap x = (n : Int) := by
 subst hx
 have h1 : ((n : Int) % (2 ^ 64 : Int)) = n := Int.emod_eq_of_lt (by omega) (by omega)
 show (if (true && decide ((n : Int) % (2 ^ 64 : Int) ≥ (2 ^ 63 : Int))) = true then (n : Int) % (2 ^ 64 : Int) - (2 ^ 64 : Int) else (n : Int) % (2 ^ 64 : Int)) = n
 rw [h1, if_neg]
 simp only [Bool.true_and, decide_eq_true_eq]
 omega
theorem bI_addN {t : TypeId} {a b : Nat} (h : a + b < 4611686018427387904) : binV P .add t (.i .i64 (a : Int)) (.i .i64 (b : Int)) = some (.i .i64 ((a + b : Nat) : Int)) := by
 simp only [binV, ibin, if_true]
 rw [wrap_nat (n := a + b) (by omega) h]
theorem bI_subN {t : TypeId} {a b : Nat} (h : b ≤ a) (ha : a < 4611686018427387904) : binV P .sub t (.i .i64 (a : Int)) (.i .i64 (b : Int)) = some (.i .i64 ((a - b : Nat) : Int)) := by
 simp only [binV, ibin, if_true]
 rw [wrap_nat (n := a - b) (by omega) (by omega)]
theorem bnd_ok2 {len cap : Nat} {lo hi : Option Val} {a b : Nat} (hlo : BdV lo 0 (a : Int)) (hhi : BdV hi len (b : Int)) (h1 : a ≤ b) (hc : b ≤ cap) : bndV len cap lo hi none = some (a, b, cap) := by
 have na : ∀ kk, natI (.i kk (a : Int)) = some a := fun kk => by unfold natI; simp only; rw [if_pos (by omega)]; rfl
 have nb : ∀ kk, natI (.i kk (b : Int)) = some b := fun kk => by unfold natI; simp only; rw [if_pos (by omega)]; rfl
 have e1 : optNat hi len = some b := by
  rcases hhi with ⟨rfl, e⟩ | ⟨kk, rfl⟩
  ·simp [optNat]; omega
  ·exact nb kk
 have e2 : optNat lo 0 = some a := by
  rcases hlo with ⟨rfl, e⟩ | ⟨kk, rfl⟩
  ·simp [optNat]; omega
  ·exact na kk
 unfold bndV
 rw [e1, e2]
 simp only [optNat, Option.bind_some]
 rw [if_pos ⟨Nat.le_refl _, by omega, by omega, fun q => by cases q⟩]
theorem O_slK {t e : TypeId} {z b o len k : Nat} {x : Operand} {ol oh : Option Operand} (l u : Nat) (ht : P.underlying t = some (.slice e)) (hz : sz P e = some z) (hx : evLO E x = some (.sl (some (b, o)) len (.k k))) (hl : Bd E ol 0 (l : Int)) (hh : Bd E oh len (u : Int)) (h1 : l ≤ u) (h2 : u ≤ k) (h3 : l < k) (h : Hp) :
  opL P E h (.slice t x ol oh none) = some (.sl (some (b, o + l * z)) (u - l) (.k (k - l)), h) := by
 obtain ⟨lo, l1, l2⟩ := hl.val
 obtain ⟨hi, r1, r2⟩ := hh.val
 have n0 : evLQ E none = some none := rfl
 simp only [opL, hx, l1, r1, n0, Option.bind_some, sliceV, ht, hz]
 rw [bnd_ok2 l2 r2 h1 h2]
 simp only [Option.map_some]
 rw [if_neg (by omega)]
theorem O_slO {t e : TypeId} {z b o len : Nat} {x : Operand} {ol oh : Option Operand} (l u : Nat) (ht : P.underlying t = some (.slice e)) (hz : sz P e = some z) (hx : evLO E x = some (.sl (some (b, o)) len (.op z))) (hl : Bd E ol 0 (l : Int)) (hh : Bd E oh len (u : Int)) (h1 : l ≤ u) (h2 : u ≤ len) (h3 : l < len) (h : Hp) :
  opL P E h (.slice t x ol oh none) = some (.sl (some (b, o + l * z)) (u - l) (.op z), h) := by
 obtain ⟨lo, l1, l2⟩ := hl.val
 obtain ⟨hi, r1, r2⟩ := hh.val
 have n0 : evLQ E none = some none := rfl
 simp only [opL, hx, l1, r1, n0, Option.bind_some, sliceV, ht, hz, if_true]
 rw [bnd_ok2 l2 r2 h1 h2]
 simp only [Option.map_some, Option.isSome_none, Bool.false_eq_true, if_false]
 rw [if_pos h3]
theorem E_cp {t e : TypeId} {dx sx : Operand} {b o n b2 o2 n2 z z1 z2 m : Nat} {k k2 : Cap} {c d : List Val} (ht : P.underlying t = some (.slice e)) (hz : sz P e = some z) (hd : evLO E dx = some (.sl (some (b, o)) n k)) (hx : evLO E sx = some (.sl (some (b2, o2)) n2 k2)) (hm : min n2 n = m)
  (hg : h.get b = some (.cells z1 c)) (hg2 : h.get b2 = some (.cells z2 d)) (h1 : o2 + m * z ≤ d.length) (h2 : o + m * z ≤ c.length) (h3 : d.all Val.one = true) (hm0 : 0 < m) :
  Ef P E h (.call { callee := .builtin .copy, args := #[dx, sx], argTypes := #[t, t] }) (fun u h' => h' = h.set b (.cells z1 (putL c o ((d.drop o2).take (m * z))))) := by
 refine ⟨rfl, .i .i64 ((min n2 n : Nat) : Int), _, ?_, rfl⟩
 have hf : firstV h z m (.sl (some (b2, o2)) n2 k2) = some ((d.drop o2).take (m * z)) := by
  simp only [firstV]
  rw [if_neg (by omega)]
  unfold rd
  rw [hg2]
  simp only
  rw [if_pos h1]
 have hlen : ((d.drop o2).take (m * z)).length = m * z := by rw [List.length_take, List.length_drop]; omega
 have hone : ((d.drop o2).take (m * z)).all Val.one = true := List.all_eq_true.2 fun x hx => List.all_eq_true.1 h3 x (List.mem_of_mem_drop (List.mem_of_mem_take hx))
 simp only [opL, evLL, List.mapM_cons, List.mapM_nil, hd, hx, bltV, copyV, Option.bind_some, Option.bind_eq_bind, pure, List.getElem?_cons_zero, ht, hz, lenV, hm, hf]
 rw [if_pos hlen]
 unfold wrH
 rw [hg]
 simp only
 rw [if_pos ⟨by rw [hlen]; exact h2, hone⟩]
 rfl
theorem E_apK {ts tx e : TypeId} {sx xx : Operand} {b o l k N z zb : Nat} {kk : IntKind} {c : List Val} (ht : P.underlying ts = some (.slice e)) (hrow : rowOk P e z = true) (hzk : zerosK P tx = some true) (hs : evLO E sx = some (.sl (some (b, o)) l (.k k))) (hxx : evLO E xx = some (.i kk (N : Int)))
  (hlk : l ≤ k) (hroom : k < l + N) (hl : l ≤ 2 ^ 30) (hN : N ≤ 2 ^ 30) (hg : h.get b = some (.cells zb c)) (hc : o + l * z ≤ c.length) (h1 : c.all Val.one = true) :
  Ef P E h (.call { callee := .builtin .append, args := #[sx, xx], argTypes := #[ts, tx] }) (fun v' h' => v' = .sl (some (h.next, 0)) (l + N) (.op z) ∧ ∃ zs, zs.length = N * z ∧ zs.all Val.one = true ∧ h' = h.new (.cells z ((c.drop o).take (l * z) ++ zs))) := by
 obtain ⟨inf, zero, r1, r2, r3, r4, r5, r6, r7⟩ := rowOk_some hrow
 have hnv : natV (.i kk (N : Int)) = some N := by unfold natV; simp only; rw [if_pos ⟨by omega, by omega⟩]; rfl
 have hlen : (zerosV zero.cells N).length = N * z := by simp [zerosV, r4]
 have hz1 : (zerosV zero.cells N).all Val.one = true := by
  refine List.all_eq_true.2 fun u hu => ?_
  unfold zerosV at hu
  obtain ⟨q, hq, hu⟩ := List.mem_flatten.1 hu
  rw [(List.mem_replicate.1 hq).2] at hu
  obtain ⟨i, zz, e1, e2, e3⟩ := zeroV_some r3
  have := cv_one' e3
  exact List.all_eq_true.1 this u hu
 have hone : ((c.drop o).take (l * z)).all Val.one = true := List.all_eq_true.2 fun x hx => List.all_eq_true.1 h1 x (List.mem_of_mem_drop (List.mem_of_mem_take hx))
 refine ⟨rfl, .sl (some (h.next, 0)) (l + N) (.op z), h.new (.cells z ((c.drop o).take (l * z) ++ zerosV zero.cells N)), ?_, rfl, _, hlen, hz1, rfl⟩
 simp only [opL, evLL, List.mapM_cons, List.mapM_nil, hs, hxx, bltV, appendV, ht, r1, r2, r3, hzk, moreV, hnv, Option.bind_some, cond_true, pure, Option.bind_eq_bind]
 rw [if_pos r4]
 simp only [Option.bind_some]
 rw [if_pos ⟨r4, r5, by omega, r6, r7, hlen, hz1⟩]
 simp only [appV]
 rw [if_neg (by omega), if_pos ⟨hlk, by omega⟩]
 have hf : firstV h z l (.sl (some (b, o)) l (.k k)) = some ((c.drop o).take (l * z)) := by
  simp only [firstV]
  split
  ·rename_i h0; subst h0; simp
  ·unfold rd
   rw [hg]
   simp only
   rw [if_pos hc]
 rw [hf]
 simp only [Option.bind_some, rowV]
 rw [if_pos (by rw [List.all_append, hone, hz1]; rfl)]
 rfl
end
def InsR (z : Nat) (h : Hp) (b i n y : Nat) (c d : List Val) (u : Val) (h' : Hp) : Prop :=
 ∃ g k c', u = .sl (some (g, 0)) (n + y) (.of z k) ∧ h'.get g = some (.cells z c') ∧ c'.take ((n + y) * z) = c.take (i * z) ++ d.take (y * z) ++ (c.take (n * z)).drop (i * z) ∧ (k = none → (n + y) * z ≤ c'.length) ∧ (∀ q, k = some q → c'.length = q * z ∧ n + y ≤ q) ∧
  c'.all Val.one = true ∧ g < h'.next ∧ h.next ≤ h'.next ∧ Wf h' ∧ (∀ q, q < h.next → q ≠ b → h'.get q = h.get q) ∧ (g = b ∨ h.next ≤ g)
theorem putL_one {c v : List Val} {o : Nat} (h1 : c.all Val.one = true) (h2 : v.all Val.one = true) : (putL c o v).all Val.one = true := by
 unfold putL
 rw [List.all_append, List.all_append, h2]
 have p1 : (c.take o).all Val.one = true := List.all_eq_true.2 fun x hx => List.all_eq_true.1 h1 x (List.mem_of_mem_take hx)
 have p2 : (c.drop (o + v.length)).all Val.one = true := List.all_eq_true.2 fun x hx => List.all_eq_true.1 h1 x (List.mem_of_mem_drop hx)
 rw [p1, p2]; rfl
theorem part_one {c : List Val} {a b : Nat} (h1 : c.all Val.one = true) : ((c.drop a).take b).all Val.one = true := List.all_eq_true.2 fun x hx => List.all_eq_true.1 h1 x (List.mem_of_mem_drop (List.mem_of_mem_take hx))
section
variable {z i n y m : Nat} {c d : List Val}
theorem ins_in (hi : i < n) (hnm : n + y ≤ m) (hcm : c.length = m * z) (hyd : y * z ≤ d.length) :
  (putL (putL c ((i + y) * z) ((c.drop (i * z)).take ((n - i) * z))) (i * z) ((d.drop 0).take (y * z))).take ((n + y) * z) = c.take (i * z) ++ d.take (y * z) ++ (c.take (n * z)).drop (i * z) ∧
  (putL (putL c ((i + y) * z) ((c.drop (i * z)).take ((n - i) * z))) (i * z) ((d.drop 0).take (y * z))).length = m * z := by
 have e1 : (i + y) * z = i * z + y * z := Nat.add_mul _ _ _
 have e2 : (n - i) * z = n * z - i * z := Nat.sub_mul _ _ _
 have e3 : (n + y) * z = n * z + y * z := Nat.add_mul _ _ _
 have e4 : i * z ≤ n * z := Nat.mul_le_mul_right _ (Nat.le_of_lt hi)
 have e5 : (n + y) * z ≤ m * z := Nat.mul_le_mul_right _ hnm
 generalize i * z = I at *
 generalize n * z = N at *
 generalize y * z = Y at *
 generalize m * z = M at *
 have lA : ((c.drop I).take (N - I)).length = N - I := by rw [List.length_take, List.length_drop]; omega
 have lD : ((d.drop 0).take Y).length = Y := by rw [List.length_take, List.length_drop]; omega
 rw [e1, e2, e3]
 have hl1 : (putL c (I + Y) ((c.drop I).take (N - I))).length = M := by rw [putL_length (by rw [lA]; omega)]; exact hcm
 have hl2 : (putL (putL c (I + Y) ((c.drop I).take (N - I))) I ((d.drop 0).take Y)).length = M := by rw [putL_length (by rw [lD, hl1]; omega)]; exact hl1
 refine ⟨?_, hl2⟩
 apply List.ext_getElem?
 intro j
 rw [List.getElem?_take]
 by_cases hj : j < N + Y
 ·rw [if_pos hj, putL_get (by rw [lD, hl1]; omega), lD]
  by_cases h1 : j < I
  ·rw [if_neg (by omega), putL_get (by rw [lA]; omega), lA, if_neg (by omega), List.append_assoc, List.getElem?_append_left (by rw [List.length_take]; omega), List.getElem?_take, if_pos h1]
  ·by_cases h2 : j < I + Y
   ·rw [if_pos ⟨by omega, h2⟩, List.getElem?_append_left (by simp only [List.length_append, List.length_take]; omega), List.getElem?_append_right (by rw [List.length_take]; omega), List.drop_zero, List.length_take, Nat.min_eq_left (by omega)]
   ·rw [if_neg (by omega), putL_get (by rw [lA]; omega), lA, if_pos (by omega), List.getElem?_append_right (by simp only [List.length_append, List.length_take]; omega), List.getElem?_take, if_pos (by omega), List.getElem?_drop, List.getElem?_drop, List.getElem?_take]
    simp only [List.length_append, List.length_take]
    rw [if_pos (by omega)]
    congr 1; omega
 ·rw [if_neg hj]
  symm
  rw [List.getElem?_eq_none_iff]
  simp only [List.length_append, List.length_take, List.length_drop]
  omega
theorem ins_new {zs : List Val} (hi : i < n) (hnm : n ≤ m) (hcm : c.length = m * z) (hyd : y * z ≤ d.length) (hzs : zs.length = (n + y - i) * z) :
  putL (putL ((c.drop 0).take (i * z) ++ zs) (i * z) ((d.drop 0).take (y * z))) ((i + y) * z) ((c.drop (i * z)).take ((n - i) * z)) = c.take (i * z) ++ d.take (y * z) ++ (c.take (n * z)).drop (i * z) ∧
  (putL (putL ((c.drop 0).take (i * z) ++ zs) (i * z) ((d.drop 0).take (y * z))) ((i + y) * z) ((c.drop (i * z)).take ((n - i) * z))).length = (n + y) * z := by
 have e1 : (i + y) * z = i * z + y * z := Nat.add_mul _ _ _
 have e2 : (n - i) * z = n * z - i * z := Nat.sub_mul _ _ _
 have e3 : (n + y) * z = n * z + y * z := Nat.add_mul _ _ _
 have e4 : i * z ≤ n * z := Nat.mul_le_mul_right _ (Nat.le_of_lt hi)
 have e5 : n * z ≤ m * z := Nat.mul_le_mul_right _ hnm
 have e6 : (n + y - i) * z = n * z + y * z - i * z := by rw [Nat.sub_mul, Nat.add_mul]
 rw [e6] at hzs
 generalize i * z = I at *
 generalize n * z = N at *
 generalize y * z = Y at *
 generalize m * z = M at *
 have lA : ((c.drop I).take (N - I)).length = N - I := by rw [List.length_take, List.length_drop]; omega
 have lD : ((d.drop 0).take Y).length = Y := by rw [List.length_take, List.length_drop]; omega
 have lB : ((c.drop 0).take I ++ zs).length = N + Y := by rw [List.length_append, List.length_take, List.length_drop]; omega
 rw [e1, e2, e3]
 have hl1 : (putL ((c.drop 0).take I ++ zs) I ((d.drop 0).take Y)).length = N + Y := by rw [putL_length (by rw [lD, lB]; omega)]; exact lB
 have hl2 : (putL (putL ((c.drop 0).take I ++ zs) I ((d.drop 0).take Y)) (I + Y) ((c.drop I).take (N - I))).length = N + Y := by rw [putL_length (by rw [lA, hl1]; omega)]; exact hl1
 refine ⟨?_, hl2⟩
 apply List.ext_getElem?
 intro j
 by_cases hj : j < N + Y
 ·rw [putL_get (by rw [lA, hl1]; omega), lA]
  by_cases h1 : j < I
  ·rw [if_neg (by omega), putL_get (by rw [lD, lB]; omega), lD, if_neg (by omega), List.append_assoc, List.getElem?_append_left (by rw [List.length_take, List.length_drop]; omega), List.getElem?_append_left (by rw [List.length_take]; omega), List.drop_zero]
  ·by_cases h2 : j < I + Y
   ·rw [if_neg (by omega), putL_get (by rw [lD, lB]; omega), lD, if_pos ⟨by omega, h2⟩, List.getElem?_append_left (by simp only [List.length_append, List.length_take]; omega), List.getElem?_append_right (by rw [List.length_take]; omega), List.drop_zero, List.length_take, Nat.min_eq_left (by omega)]
   ·rw [if_pos (by omega), List.getElem?_append_right (by simp only [List.length_append, List.length_take]; omega), List.getElem?_take, if_pos (by omega), List.getElem?_drop, List.getElem?_drop, List.getElem?_take]
    simp only [List.length_append, List.length_take]
    rw [if_pos (by omega)]
    congr 1; omega
 ·rw [List.getElem?_eq_none_iff.2 (by rw [hl2]; omega)]
  symm
  rw [List.getElem?_eq_none_iff]
  simp only [List.length_append, List.length_take, List.length_drop]
  omega
end
end Go.V
end
section
namespace Go.Wk
def insD {α : Type} (xs : List α) (i : Int) (ys : List α) : Option (List α) := if 0 ≤ i ∧ i ≤ (xs.length : Int) ∧ 0 < ys.length ∧ xs.length + ys.length ≤ 1073741824 then some (xs.take i.toNat ++ ys ++ xs.drop i.toNat) else none
theorem insD_some {α : Type} {xs ys r : List α} {i : Int} (h : insD xs i ys = some r) : 0 ≤ i ∧ i ≤ (xs.length : Int) ∧ 0 < ys.length ∧ xs.length + ys.length ≤ 1073741824 ∧ r = xs.take i.toNat ++ ys ++ xs.drop i.toNat := by
 unfold insD at h
 split at h
 ·rename_i hc; exact ⟨hc.1, hc.2.1, hc.2.2.1, hc.2.2.2, (Option.some.inj h).symm⟩
 ·cases h
end Go.Wk
namespace Go.V
open Go.Wk
section
variable {α : Type} {t : To α} {F : Frz} {h h' : Hp} {css : List (Cl t.size)} {bss : List (List Nat)} {xs : List α}
theorem RowE.take (a : RowE t F h css bss xs) (i : Nat) : RowE t F h (css.take i) (bss.take i) (xs.take i) :=
 ⟨by rw [List.length_take, List.length_take, a.csl], by rw [List.length_take, List.length_take, a.bsl], fun j d x e h1 h2 h3 => by
  rw [List.getElem?_take] at h1 h2 h3
  split at h1
  ·rename_i hj
   rw [if_pos hj] at h2 h3
   exact a.rel j d x e h1 h2 h3
  ·cases h1⟩
theorem RowE.drop (a : RowE t F h css bss xs) (i : Nat) : RowE t F h (css.drop i) (bss.drop i) (xs.drop i) :=
 ⟨by rw [List.length_drop, List.length_drop, a.csl], by rw [List.length_drop, List.length_drop, a.bsl], fun j d x e h1 h2 h3 => by
  rw [List.getElem?_drop] at h1 h2 h3
  exact a.rel _ d x e h1 h2 h3⟩
theorem flat_take {s : Nat} : ∀ (css : List (Cl s)) (i : Nat), ((css.take i).map Subtype.val).flatten = ((css.map Subtype.val).flatten).take (i * s)
 | [], i => by simp
 | d :: r, 0 => by simp
 | d :: r, i + 1 => by
  rw [List.take_succ_cons, List.map_cons, List.flatten_cons, List.map_cons, List.flatten_cons, flat_take r i, List.take_append, d.2, Nat.add_mul, Nat.one_mul, Nat.add_sub_cancel, List.take_of_length_le (l := d.1) (by rw [d.2]; omega)]
theorem flat_drop {s : Nat} : ∀ (css : List (Cl s)) (i : Nat), ((css.drop i).map Subtype.val).flatten = ((css.map Subtype.val).flatten).drop (i * s)
 | [], i => by simp
 | d :: r, 0 => by simp
 | d :: r, i + 1 => by
  rw [List.drop_succ_cons, List.map_cons, List.flatten_cons, flat_drop r i, List.drop_append, d.2, Nat.add_mul, Nat.one_mul, Nat.add_sub_cancel, show d.1.drop (i * s + s) = [] from List.drop_eq_nil_of_le (by rw [d.2]; omega), List.nil_append]
def InsW (P : Program) (K : Tb) (f : FuncId) (z : Nat) : Prop := ∀ {h : Hp} {b n m i vb y : Nat} {ck : Cap} {c d : List Val} (hW : Wf h) (hb : b < h.next) (hg : h.get b = some (.cells z c)) (hv : h.get vb = some (.cells z d)) (hne : vb ≠ b) (hi : i < n) (hnm : n ≤ m) (hcm : c.length = m * z) (hy : 0 < y) (hyd : y * z ≤ d.length) (hc1 : c.all Val.one = true) (hd1 : d.all Val.one = true) (hbig : n + y ≤ 2 ^ 30) (hvb : vb < h.next),
  Ret P K f [.sl (some (b, 0)) n (.k m), .i .i64 (i : Int), .sl (some (vb, 0)) y ck] h (InsR z h b i n y c d)
end
section
variable {α : Type} {t : To α} {F : Frz} {w : Hp} {X : List Nat} {bs bs2 : List Nat} {v v2 : Val} {i : Int} {xs ys r : List α} {P : Program} {K K0 : Tb} {f z : Nat}
theorem insR_dp (hz : t.size = z) {n : Nat} (hS : St X w F F [.dp t bs v xs, .dp t bs2 v2 ys] w) (hn : n < xs.length) (hfew : xs.length + ys.length ≤ 1073741824)
  {b : Nat} {c : List Val} {k : Option Nat} {css : List (Cl t.size)} {bss : List (List Nat)} (r1 : RowO t F w bs v xs b c k css bss) {vb : Nat} {d : List Val} {k2 : Option Nat} {css2 : List (Cl t.size)} {bss2 : List (List Nat)} (r2 : RowO t F w bs2 v2 ys vb d k2 css2 bss2)
  {h2 : Hp} {b' : Nat} {c2 : List Val} (hn2 : w.next ≤ h2.next) (hk2 : ∀ q, q < w.next → q ≠ b → h2.get q = w.get q) (hb' : b' = b ∨ w.next ≤ b') (hc2 : ∃ post, c2 = c ++ post) {u : Val} {h' : Hp} (hI : InsR z h2 b' n xs.length ys.length c2 d u h') : ∃ bs', St X w F F [.dp t bs' u (xs.take n ++ ys ++ xs.drop n)] h' := by
 subst hz
 obtain ⟨g, k', c', rfl, hg, hcs, ho, hcap, h1, hgl, hnx, hwf, hkeep, hgb⟩ := hI
 obtain ⟨post, rfl⟩ := hc2
 have hap : ∀ q, q ∈ bs → q ∉ bs2 := fun q h1 h2 => by
  have := hS.apart 0 1 _ _ q rfl rfl h1 h2; omega
 have hf1 := r1.foot
 have hf2 := r2.foot
 have hn1 := r1.nodup
 have hn2' := r2.nodup
 rw [hf1] at hn1
 rw [hf2] at hn2'
 have e1 : RowE t F w css bss xs := ⟨r1.csl, r1.bsl, r1.rel⟩
 have e2 : RowE t F w css2 bss2 ys := ⟨r2.csl, r2.bsl, r2.rel⟩
 have eA : RowE t F w (css.take n ++ css2 ++ css.drop n) (bss.take n ++ bss2 ++ bss.drop n) (xs.take n ++ ys ++ xs.drop n) := ((e1.take n).cat e2).cat (e1.drop n)
 have hmem : ∀ q, q ∈ (bss.take n ++ bss2 ++ bss.drop n).flatten → q ∈ bss.flatten ∨ q ∈ bss2.flatten := fun q hq => by
  simp only [List.flatten_append, List.mem_append] at hq
  rcases hq with (hq | hq) | hq
  ·obtain ⟨e, he, hq⟩ := List.mem_flatten.1 hq; exact .inl (List.mem_flatten.2 ⟨e, List.mem_of_mem_take he, hq⟩)
  ·exact .inr hq
  ·obtain ⟨e, he, hq⟩ := List.mem_flatten.1 hq; exact .inl (List.mem_flatten.2 ⟨e, List.mem_of_mem_drop he, hq⟩)
 have hlt : ∀ q, q ∈ (bss.take n ++ bss2 ++ bss.drop n).flatten → q < w.next := eA.lt
 have hneb : ∀ q, q ∈ (bss.take n ++ bss2 ++ bss.drop n).flatten → q ≠ b := fun q hq e => by
  subst e
  rcases hmem q hq with h | h
  ·exact (List.nodup_cons.1 hn1).1 h
  ·exact hap q (by rw [hf1]; simp) (by rw [hf2]; exact List.mem_cons_of_mem _ h)
 have hnew : ∀ q, q < w.next → q ≠ b → h'.get q = w.get q := fun q hq hqb => by
  rw [hkeep q (by omega) (fun e => by rcases hb' with rfl | hb'; exact hqb e; omega)]; exact hk2 q hq hqb
 have eB := eA.frame (h1 := h') (by omega) fun q hq => hnew q (hlt q hq) (hneb q hq)
 have hgg : g = b ∨ w.next ≤ g := by
  rcases hgb with rfl | h
  ·exact hb'
  ·exact .inr (by omega)
 have hlen : (xs.take n ++ ys ++ xs.drop n).length = xs.length + ys.length := by simp only [List.length_append, List.length_take, List.length_drop]; omega
 have hfitc : xs.length * t.size ≤ c.length := by
  cases k with
  | none => exact r1.opn rfl
  | some m => obtain ⟨q1, q2⟩ := r1.cap m rfl; rw [q1]; exact Nat.mul_le_mul_right _ q2
 have hnod : (bss.take n ++ bss2 ++ bss.drop n).flatten.Nodup := by
  have p : ((bss.take n ++ bss2 ++ bss.drop n).flatten).Perm (bss.flatten ++ bss2.flatten) := by
   have q : bss.flatten = (bss.take n).flatten ++ (bss.drop n).flatten := by rw [← List.flatten_append, List.take_append_drop]
   rw [q, List.flatten_append, List.flatten_append, List.append_assoc, List.append_assoc]
   exact List.Perm.append_left _ List.perm_append_comm
  rw [p.nodup_iff]
  exact List.nodup_append.2 ⟨(List.nodup_cons.1 hn1).2, (List.nodup_cons.1 hn2').2, fun x hx y hy e => by
   subst e
   exact hap x (by rw [hf1]; exact List.mem_cons_of_mem _ hx) (by rw [hf2]; exact List.mem_cons_of_mem _ hy)⟩
 have R := rowO_mk (b := g) (c := c') (k := k') eB hgl hg (by
   rw [hlen, hcs, List.map_append, List.map_append, List.flatten_append, List.flatten_append, flat_take, flat_drop, ← r1.cells, ← r2.cells]
   have l1 : n * t.size ≤ xs.length * t.size := Nat.mul_le_mul_right _ (Nat.le_of_lt hn)
   rw [List.take_take, Nat.min_eq_left l1, List.take_append_of_le_length (by omega), List.take_append_of_le_length (by omega)])
  (by rw [hlen]; exact ho) (by rw [hlen]; exact hcap) (by rw [hlen]; omega) h1 (List.nodup_cons.2 ⟨fun hq => by
   rcases hgg with e | e
   ·exact hneb g hq e
   ·have := hlt g hq; omega, hnod⟩)
 rw [hlen] at R
 refine ⟨g :: (bss.take n ++ bss2 ++ bss.drop n).flatten, hS.join (.dp t _ _ _) ⟨_, rfl, .inr ⟨_, _, _, _, _, R⟩⟩ (by omega) hwf (fun q hq h1 h2 => hnew q hq (fun e => h1 (by show q ∈ bs; rw [hf1, e]; simp))) fun q hq => ?_⟩
 rcases List.mem_cons.1 hq with rfl | hq
 ·rcases hgg with e | e
  ·exact .inl (by show q ∈ bs; rw [hf1, e]; simp)
  ·exact .inr (.inr e)
 ·rcases hmem q hq with h | h
  ·exact .inl (by show q ∈ bs; rw [hf1]; exact List.mem_cons_of_mem _ h)
  ·exact .inr (.inl (by show q ∈ bs2; rw [hf2]; exact List.mem_cons_of_mem _ h))
theorem ins_dp (hz : t.size = z) (hz1 : 0 < z)
  (he : ∀ {X : List Nat} {h0 h : Hp} {F0 F : Frz} {L : List Ob} {bs bs2 : List Nat} {v v2 : Val} {xs ys zs : List α} (hS : St X h0 F0 F (.dp t bs2 v2 ys :: .dp t bs v xs :: L) h) (hy : 0 < ys.length) (hz : app xs ys = some zs), Ret P K f [v, .i .i64 (xs.length : Int), v2] h (fun u h' => ∃ bs', St X h0 F0 F (.dp t bs' u zs :: L) h'))
  (h1 : InsW P K f z) (h0 : InsW P K0 f z) (hcl : ∀ args h M, KClose P K0 f f args h M → K f args h M)
  (hS : St X w F F [.dp t bs v xs, .dp t bs2 v2 ys] w) (H : insD xs i ys = some r) : Ret P K f [v, .i .i64 i, v2] w fun u w' => ∃ bs', St X w F F [.dp t bs' u r] w' := by
 obtain ⟨i0, i1, hy, hfew, rfl⟩ := insD_some H
 obtain ⟨n, rfl⟩ : ∃ n : Nat, i = n := ⟨i.toNat, by omega⟩
 rw [Int.toNat_natCast]
 by_cases hn : n = xs.length
 ·subst hn
  have hS2 : St X w F F [.dp t bs2 v2 ys, .dp t bs v xs] w := hS.pick [1, 0] (by decide)
  have := he hS2 hy (zs := xs ++ ys) (by unfold app; rw [if_pos hfew])
  rw [List.take_length, List.drop_length, List.append_nil]
  exact this
 ·have hn' : n < xs.length := by omega
  obtain ⟨v0, hv0, q1⟩ := hS.ok (i := 0) rfl
  obtain rfl := List.head_eq_of_cons_eq hv0
  obtain ⟨v0, hv0, q2⟩ := hS.ok (i := 1) rfl
  obtain rfl := List.head_eq_of_cons_eq hv0
  rcases q1 with ⟨_, e, _⟩ | ⟨b, c, k, css, bss, r1⟩
  ·have e' : xs = [] := e
   subst e'; simp at hn'
  rcases q2 with ⟨_, e, _⟩ | ⟨vb, d, k2, css2, bss2, r2⟩
  ·have e' : ys = [] := e
   subst e'; simp at hy
  have f1 : v = .sl (some (b, 0)) xs.length (.of t.size k) := r1.form
  have f2 : v2 = .sl (some (vb, 0)) ys.length (.of t.size k2) := r2.form
  have hbv : vb ≠ b := fun e => by
   have h1 : b ∈ bs := by have := r1.foot; show b ∈ bs; rw [show bs = b :: bss.flatten from this]; simp
   have h2 : vb ∈ bs2 := by have := r2.foot; show vb ∈ bs2; rw [show bs2 = vb :: bss2.flatten from this]; simp
   have := hS.apart 0 1 _ _ b rfl rfl h1 (e ▸ h2); omega
  have g1 : w.get b = some (.cells t.size c) := r1.blk
  have g2 : w.get vb = some (.cells t.size d) := r2.blk
  have hyd : ys.length * t.size ≤ d.length := by
   cases k2 with
   | none => exact r2.opn rfl
   | some m => obtain ⟨q1, q2⟩ := r2.cap m rfl; rw [show d.length = m * t.size from q1]; exact Nat.mul_le_mul_right _ q2
  have hblt : b < w.next := r1.lt
  have hvlt : vb < w.next := r2.lt
  subst hz
  cases k with
  | some m =>
   obtain ⟨m1, m2⟩ := r1.cap m rfl
   rw [f1, f2]
   exact (h1 (ck := .of t.size k2) hS.wf hblt g1 g2 hbv hn' m2 m1 hy hyd r1.one r2.one (by omega) hvlt).mono fun u h' hI => insR_dp rfl hS hn' hfew r1 r2 (Nat.le_refl _) (fun _ _ _ => rfl) (.inl rfl) ⟨[], by simp⟩ hI
  | none =>
   have hfit : xs.length * t.size ≤ c.length := r1.opn rfl
   rw [f1]
   refine .known (M := fun u w' => ∃ bs', St X w F F [.dp t bs' u (xs.take n ++ ys ++ xs.drop n)] w') (hcl _ _ _ ⟨rfl, b, xs.length, t.size, c, _, rfl, g1, hfit, fun m hm1 hm2 => ?_⟩) fun u w' q => ⟨u, w', rfl, q⟩
   rw [f2]
   have gw : ∀ B q, q < w.next → q ≠ b → ((w.set b .dead).new B).get q = w.get q := fun B q hq hqb => by
    rw [Hp.get_new]
    have : (w.set b .dead).next = w.next := rfl
    rw [this, if_neg (by omega), Hp.get_set, if_neg hqb]
   refine (h0 (h := (w.set b .dead).new (.cells t.size (c ++ List.replicate (m * t.size - c.length) .un))) (b := w.next) (ck := .of t.size k2) (c := c ++ List.replicate (m * t.size - c.length) .un) (fun q hq => ?_) (Nat.lt_succ_self _) (by rw [Hp.get_new]; exact if_pos rfl) ((gw _ _ hvlt hbv).trans g2) (by omega) hn' hm1 (by rw [List.length_append, List.length_replicate]; omega) hy hyd ?_ r2.one (by omega) (Nat.lt_succ_of_lt hvlt)).mono fun u h' hI => insR_dp rfl hS hn' hfew r1 r2 (Nat.le_succ _) (gw _) (.inr (Nat.le_refl _)) ⟨_, rfl⟩ hI
   ·have hq' : w.next + 1 ≤ q := hq
    rw [Hp.get_new]
    have : (w.set b .dead).next = w.next := rfl
    rw [this, if_neg (by omega), Hp.get_set, if_neg (by omega)]
    exact hS.wf q (by omega)
   ·rw [List.all_append, r1.one, Bool.true_and]
    exact List.all_eq_true.2 fun u hu => by rw [(List.mem_replicate.1 hu).2]; rfl
end
end Go.V
end
section
namespace Go.V
open Go.Wk
section
variable {P : Program} {K : Tb} {fn : Func} {k : Kont} {E : EL} {h : Hp} {A : List Oper} {dr : Bool} {G : Frz} {L : List Nat} {i d : Nat}
theorem qc {v : Val} (x : W P K fn k A dr G L ((d, v) :: E) h) (hi : Nat.blt i A.length = true := by exact rfl) (hw : wantL A E (opAt A i) = some true := by exact rfl) (hd : (opAt A i).dst = some d := by exact rfl) (hk : decide (kindOf P (opAt A i).op = .eff) = false := by exact rfl) (ho : ∀ h, opL P E h (opAt A i).op = some (v, h) := by exact fun _ => rfl) : W P K fn k A dr G (i :: L) E h := W_c hi hw hd hk ho x
theorem q2 {j0 e0 j1 e1 : Nat} {v0 v1 : Val} (x : W P K fn k A dr G L ((e1, v1) :: ((e0, v0) :: E)) h) (hi0 : Nat.blt j0 A.length = true := by exact rfl) (hw0 : wantL A E (opAt A j0) = some true := by exact rfl) (hd0 : (opAt A j0).dst = some e0 := by exact rfl) (hk0 : decide (kindOf P (opAt A j0).op = .eff) = false := by exact rfl) (ho0 : ∀ h, opL P E h (opAt A j0).op = some (v0, h) := by exact fun _ => rfl) (hi1 : Nat.blt j1 A.length = true := by exact rfl) (hw1 : wantL A ((e0, v0) :: E) (opAt A j1) = some true := by exact rfl) (hd1 : (opAt A j1).dst = some e1 := by exact rfl) (hk1 : decide (kindOf P (opAt A j1).op = .eff) = false := by exact rfl) (ho1 : ∀ h, opL P ((e0, v0) :: E) h (opAt A j1).op = some (v1, h) := by exact fun _ => rfl) : W P K fn k A dr G (j0 :: j1 :: L) E h := W_c hi0 hw0 hd0 hk0 ho0 (W_c hi1 hw1 hd1 hk1 ho1 x)
theorem q3 {j0 e0 j1 e1 j2 e2 : Nat} {v0 v1 v2 : Val} (x : W P K fn k A dr G L ((e2, v2) :: ((e1, v1) :: ((e0, v0) :: E))) h) (hi0 : Nat.blt j0 A.length = true := by exact rfl) (hw0 : wantL A E (opAt A j0) = some true := by exact rfl) (hd0 : (opAt A j0).dst = some e0 := by exact rfl) (hk0 : decide (kindOf P (opAt A j0).op = .eff) = false := by exact rfl) (ho0 : ∀ h, opL P E h (opAt A j0).op = some (v0, h) := by exact fun _ => rfl) (hi1 : Nat.blt j1 A.length = true := by exact rfl) (hw1 : wantL A ((e0, v0) :: E) (opAt A j1) = some true := by exact rfl) (hd1 : (opAt A j1).dst = some e1 := by exact rfl) (hk1 : decide (kindOf P (opAt A j1).op = .eff) = false := by exact rfl) (ho1 : ∀ h, opL P ((e0, v0) :: E) h (opAt A j1).op = some (v1, h) := by exact fun _ => rfl) (hi2 : Nat.blt j2 A.length = true := by exact rfl) (hw2 : wantL A ((e1, v1) :: ((e0, v0) :: E)) (opAt A j2) = some true := by exact rfl) (hd2 : (opAt A j2).dst = some e2 := by exact rfl) (hk2 : decide (kindOf P (opAt A j2).op = .eff) = false := by exact rfl) (ho2 : ∀ h, opL P ((e1, v1) :: ((e0, v0) :: E)) h (opAt A j2).op = some (v2, h) := by exact fun _ => rfl) : W P K fn k A dr G (j0 :: j1 :: j2 :: L) E h := W_c hi0 hw0 hd0 hk0 ho0 (W_c hi1 hw1 hd1 hk1 ho1 (W_c hi2 hw2 hd2 hk2 ho2 x))
theorem q4 {j0 e0 j1 e1 j2 e2 j3 e3 : Nat} {v0 v1 v2 v3 : Val} (x : W P K fn k A dr G L ((e3, v3) :: ((e2, v2) :: ((e1, v1) :: ((e0, v0) :: E)))) h) (hi0 : Nat.blt j0 A.length = true := by exact rfl) (hw0 : wantL A E (opAt A j0) = some true := by exact rfl) (hd0 : (opAt A j0).dst = some e0 := by exact rfl) (hk0 : decide (kindOf P (opAt A j0).op = .eff) = false := by exact rfl) (ho0 : ∀ h, opL P E h (opAt A j0).op = some (v0, h) := by exact fun _ => rfl) (hi1 : Nat.blt j1 A.length = true := by exact rfl) (hw1 : wantL A ((e0, v0) :: E) (opAt A j1) = some true := by exact rfl) (hd1 : (opAt A j1).dst = some e1 := by exact rfl) (hk1 : decide (kindOf P (opAt A j1).op = .eff) = false := by exact rfl) (ho1 : ∀ h, opL P ((e0, v0) :: E) h (opAt A j1).op = some (v1, h) := by exact fun _ => rfl) (hi2 : Nat.blt j2 A.length = true := by exact rfl) (hw2 : wantL A ((e1, v1) :: ((e0, v0) :: E)) (opAt A j2) = some true := by exact rfl) (hd2 : (opAt A j2).dst = some e2 := by exact rfl) (hk2 : decide (kindOf P (opAt A j2).op = .eff) = false := by exact rfl) (ho2 : ∀ h, opL P ((e1, v1) :: ((e0, v0) :: E)) h (opAt A j2).op = some (v2, h) := by exact fun _ => rfl) (hi3 : Nat.blt j3 A.length = true := by exact rfl) (hw3 : wantL A ((e2, v2) :: ((e1, v1) :: ((e0, v0) :: E))) (opAt A j3) = some true := by exact rfl) (hd3 : (opAt A j3).dst = some e3 := by exact rfl) (hk3 : decide (kindOf P (opAt A j3).op = .eff) = false := by exact rfl) (ho3 : ∀ h, opL P ((e2, v2) :: ((e1, v1) :: ((e0, v0) :: E))) h (opAt A j3).op = some (v3, h) := by exact fun _ => rfl) : W P K fn k A dr G (j0 :: j1 :: j2 :: j3 :: L) E h := W_c hi0 hw0 hd0 hk0 ho0 (W_c hi1 hw1 hd1 hk1 ho1 (W_c hi2 hw2 hd2 hk2 ho2 (W_c hi3 hw3 hd3 hk3 ho3 x)))
theorem qr {v : Val} (ho : Rd P G E (opAt A i).op v) (x : W P K fn k A dr G L ((d, v) :: E) h) (hi : Nat.blt i A.length = true := by exact rfl) (hw : wantL A E (opAt A i) = some true := by exact rfl) (hd : (opAt A i).dst = some d := by exact rfl) : W P K fn k A dr G (i :: L) E h := W_r hi hw hd ho x
theorem qq {v : Val} (ho : Rd P (nowF h) E (opAt A i).op v) (x : W P K fn k A dr G L ((d, v) :: E) h) (hb : ahead P A i L = true := by kernel_rfl) (hi : Nat.blt i A.length = true := by exact rfl) (hw : wantL A E (opAt A i) = some true := by exact rfl) (hd : (opAt A i).dst = some d := by exact rfl) : W P K fn k A dr G (i :: L) E h := W_q hb hi hw hd ho x
theorem qx {Q : Val → Hp → Prop} (ho : Ef P E h (opAt A i).op Q) (x : ∀ v h', Q v h' → Nxt P K fn k A dr G L ((d, v) :: E) h') (hi : Nat.blt i A.length = true := by exact rfl) (hw : wantL A E (opAt A i) = some true := by exact rfl) (hd : (opAt A i).dst = some d := by exact rfl) : W P K fn k A dr G (i :: L) E h := W_x hi hw hd ho x
theorem qu {Q : Val → Hp → Prop} (ho : Ef P E h (opAt A i).op Q) (x : ∀ v h', Q v h' → Nxt P K fn k A dr G L E h') (hi : Nat.blt i A.length = true := by exact rfl) (hw : wantL A E (opAt A i) = some true := by exact rfl) (hd : (opAt A i).dst = none := by exact rfl) : W P K fn k A dr G (i :: L) E h := W_xU hi hw hd ho x
theorem ql {f : FuncId} {args : List Val} {R : Val → Hp → Prop} (hc : Ret P K f args h R) (x : ∀ v h', R v h' → Nxt P K fn k A dr G L ((d, v) :: E) h') (hi : Nat.blt i A.length = true := by exact rfl) (hw : wantL A E (opAt A i) = some true := by exact rfl) (hd : (opAt A i).dst = some d := by exact rfl) (ht : tgtL E (opAt A i).op = some (f, args) := by exact rfl) : W P K fn k A dr G (i :: L) E h := W_call hi hw hd ht hc x
theorem qlU {f : FuncId} {args : List Val} {R : Val → Hp → Prop} (hc : Ret P K f args h R) (x : ∀ v h', R v h' → Nxt P K fn k A dr G L E h') (hi : Nat.blt i A.length = true := by exact rfl) (hw : wantL A E (opAt A i) = some true := by exact rfl) (hd : (opAt A i).dst = none := by exact rfl) (ht : tgtL E (opAt A i).op = some (f, args) := by exact rfl) : W P K fn k A dr G (i :: L) E h := W_callU hi hw hd ht hc x
theorem qn {y : Code} (q : C P K fn k y E h) : W P K fn (.code y k) A dr G [] E h := W_nil (N_code q)
theorem qs {id : Nat} {y : Code} (x : W P K fn (.code y k) A false (nowF h) (List.range A.length) E h) (hd : dstOk fn.ntmps A = true := by exact rfl) : C P K fn k (.seq (.region id A.toArray false) y) E h := C_seq (C_region hd x)
theorem qd {id : Nat} (x : W P K fn k A false (nowF h) (List.range A.length) E h) (hd : dstOk fn.ntmps A = true := by exact rfl) : C P K fn k (.region id A.toArray false) E h := C_region hd x
variable {y : Code} {X : List Nat} {h0 w : Hp} {F0 F' F : Frz} {Ls : List Ob} {g o off s f : Nat} {cs : List Val} {v u : Val} {x y' z' : Operand} {t e' : TypeId}
theorem qm (q : C P K fn k y ((d, v) :: E) h) (hi : Nat.blt i A.length = true := by exact rfl) (hw : wantL A E (opAt A i) = some true := by exact rfl) (hd : (opAt A i).dst = some d := by exact rfl) (hk : decide (kindOf P (opAt A i).op = .eff) = false := by exact rfl) (ho : ∀ h, opL P E h (opAt A i).op = some (v, h) := by exact fun _ => rfl) : W P K fn (.code y k) A dr G [i] E h := W_c hi hw hd hk ho (W_nil (N_code q))
theorem qk (q : C P K fn k y E h) : C P K fn (.code y k) .skip E h := C_skip (N_code q)
theorem qz (q : W P K fn k A dr G L ((d, .no) :: E) h) (hi : Nat.blt i A.length = true := by exact rfl) (hw : wantL A E (opAt A i) = some false := by exact rfl) (hd : (opAt A i).dst = some d := by exact rfl) : W P K fn k A dr G (i :: L) E h := W_no hi hw hd q
theorem qf (hf : fldOff P s f = some off) (q : W P K fn k A dr G L ((d, pl g (o + off)) :: E) h) (hi : Nat.blt i A.length = true := by exact rfl) (hw : wantL A E (opAt A i) = some true := by exact rfl) (hd : (opAt A i).dst = some d := by exact rfl) (hop : (opAt A i).op = .fieldAddr s x f := by exact rfl) (hx : evLO E x = some (pl g o) := by exact rfl) : W P K fn k A dr G (i :: L) E h := W_r hi hw hd (hop ▸ O_fldB off hf hx) q
theorem qb (n : Nat) (ht : aggT P t = some false) (hS : St X h0 F0 F Ls h) (q : W P K fn k A dr (nowF h) L ((d, u) :: E) h) (hi : Nat.blt i A.length = true := by exact rfl) (hw : wantL A E (opAt A i) = some true := by exact rfl) (hd : (opAt A i).dst = some d := by exact rfl) (hop : (opAt A i).op = .load t x := by exact rfl) (hx : evLO E x = some (pl g o) := by exact rfl) (hk : Ls[n]? = some (.box g cs) := by exact rfl) (hu : cs[o]? = some u := by exact rfl) : W P K fn k A dr (nowF h) (i :: L) E h := W_r hi hw hd (hop ▸ O_bld1 n ht hx hS hk hu) q
theorem qbq (n : Nat) (ht : aggT P t = some false) (hS : St X h0 F0 F Ls h) (q : W P K fn k A dr G L ((d, u) :: E) h) (hb : ahead P A i L = true := by kernel_rfl) (hi : Nat.blt i A.length = true := by exact rfl) (hw : wantL A E (opAt A i) = some true := by exact rfl) (hd : (opAt A i).dst = some d := by exact rfl) (hop : (opAt A i).op = .load t x := by exact rfl) (hx : evLO E x = some (pl g o) := by exact rfl) (hk : Ls[n]? = some (.box g cs) := by exact rfl) (hu : cs[o]? = some u := by exact rfl) : W P K fn k A dr G (i :: L) E h := W_q hb hi hw hd (hop ▸ O_bld1 n ht hx hS hk hu) q
theorem qg {j : Nat} {b want : Bool} {v : Val} (hop : Aeq [(b, want)] → W P K fn k A dr G L ((d, v) :: E) h → W P K fn k A dr G (i :: L) E h) (q : W P K fn k A dr G L ((d, cnds [(b, want)] v) :: E) h) (hg : (opAt A i).guard = some (j, want) := by exact rfl) (hy : ylL A E j = some (.b b) := by exact rfl) (hi : Nat.blt i A.length = true := by exact rfl) (hd : (opAt A i).dst = some d := by exact rfl) : W P K fn k A dr G (i :: L) E h := W_gs hg hy hi hd hop q
theorem qh (n : Nat) (b : BoxAt w g cs) (hS : St X h0 F0 F Ls h) (q : W P K fn k A dr (F.hold w [g]) L E h) (hk : Ls[n]? = some (.box g cs) := by exact rfl) : Nxt P K fn k A dr (F.hold w [g]) L E h := Nxt.frz (HB.le (HB.cons n b hS hk HB.nil) (Frz.le.refl _)) (HB.agree (HB.cons n b hS hk HB.nil) hS.agree) q
theorem qi {a b : Nat} {kk : IntKind} {n : Int} (ht : P.underlying t = some (.slice e')) (hz : sz P e' = some a) (hE : Ixd v b) (hn : 0 ≤ n) (q : W P K fn k A dr G L ((d, elp v (b * a)) :: E) h) (hi : Nat.blt i A.length = true := by exact rfl) (hw : wantL A E (opAt A i) = some true := by exact rfl) (hd : (opAt A i).dst = some d := by exact rfl) (hop : (opAt A i).op = .indexAddr t x y' := by exact rfl) (hx : evLO E x = some v := by exact rfl) (hy : evLO E y' = some (.i kk n) := by exact rfl) (hni : n.toNat = b := by exact rfl) : W P K fn k A dr G (i :: L) E h := W_r hi hw hd (hop ▸ O_ix ht hz hx hy hE hn hni) q
theorem lm {f : FuncId} {args : List Val} {R : Val → Hp → Prop} (hc : Ret P K f args h R) (x : ∀ v h', R v h' → W P K fn k A false (nowF h') L ((d, v) :: E) h') (hi : Nat.blt i A.length = true := by exact rfl) (hw : wantL A E (opAt A i) = some true := by exact rfl) (hd : (opAt A i).dst = some d := by exact rfl) (ht : tgtL E (opAt A i).op = some (f, args) := by exact rfl) : W P K fn k A false G (i :: L) E h := W_call hi hw hd ht hc fun v h' r => Nxt.now (x v h' r)
theorem lU {f : FuncId} {args : List Val} {R : Val → Hp → Prop} (hc : Ret P K f args h R) (x : ∀ v h', R v h' → W P K fn k A false (nowF h') L E h') (hi : Nat.blt i A.length = true := by exact rfl) (hw : wantL A E (opAt A i) = some true := by exact rfl) (hd : (opAt A i).dst = none := by exact rfl) (ht : tgtL E (opAt A i).op = some (f, args) := by exact rfl) : W P K fn k A false G (i :: L) E h := W_callU hi hw hd ht hc fun v h' r => Nxt.now (x v h' r)
theorem xm {Q : Val → Hp → Prop} (ho : Ef P E h (opAt A i).op Q) (x : ∀ v h', Q v h' → W P K fn k A false (nowF h') L ((d, v) :: E) h') (hi : Nat.blt i A.length = true := by exact rfl) (hw : wantL A E (opAt A i) = some true := by exact rfl) (hd : (opAt A i).dst = some d := by exact rfl) : W P K fn k A false G (i :: L) E h := W_x hi hw hd ho fun v h' r => Nxt.now (x v h' r)
theorem um {Q : Val → Hp → Prop} (ho : Ef P E h (opAt A i).op Q) (x : ∀ v h', Q v h' → W P K fn k A false (nowF h') L E h') (hi : Nat.blt i A.length = true := by exact rfl) (hw : wantL A E (opAt A i) = some true := by exact rfl) (hd : (opAt A i).dst = none := by exact rfl) : W P K fn k A false G (i :: L) E h := W_xU hi hw hd ho fun v h' r => Nxt.now (x v h' r)
theorem qa1 {f : FuncId} {c : Code} {a0 : Val} {R : Val → Hp → Prop} (hf : P.funcs[f]? = some fn) (q : C P K fn (.done R) c [(0, a0)] h) (hb : fn.body = some c := by exact rfl) (hm : fn.name ≠ "runtime.NumGoroutine" := by decide) (hn : Nat.ble 1 fn.ntmps = true := by exact rfl) : Ret P K f [a0] h R := Ret_of (args := [a0]) hf hb hm hn q
theorem qa2 {f : FuncId} {c : Code} {a0 a1 : Val} {R : Val → Hp → Prop} (hf : P.funcs[f]? = some fn) (q : C P K fn (.done R) c [(0, a0), (1, a1)] h) (hb : fn.body = some c := by exact rfl) (hm : fn.name ≠ "runtime.NumGoroutine" := by decide) (hn : Nat.ble 2 fn.ntmps = true := by exact rfl) : Ret P K f [a0, a1] h R := Ret_of (args := [a0, a1]) hf hb hm hn q
theorem qa3 {f : FuncId} {c : Code} {a0 a1 a2 : Val} {R : Val → Hp → Prop} (hf : P.funcs[f]? = some fn) (q : C P K fn (.done R) c [(0, a0), (1, a1), (2, a2)] h) (hb : fn.body = some c := by exact rfl) (hm : fn.name ≠ "runtime.NumGoroutine" := by decide) (hn : Nat.ble 3 fn.ntmps = true := by exact rfl) : Ret P K f [a0, a1, a2] h R := Ret_of (args := [a0, a1, a2]) hf hb hm hn q
theorem qa4 {f : FuncId} {c : Code} {a0 a1 a2 a3 : Val} {R : Val → Hp → Prop} (hf : P.funcs[f]? = some fn) (q : C P K fn (.done R) c [(0, a0), (1, a1), (2, a2), (3, a3)] h) (hb : fn.body = some c := by exact rfl) (hm : fn.name ≠ "runtime.NumGoroutine" := by decide) (hn : Nat.ble 4 fn.ntmps = true := by exact rfl) : Ret P K f [a0, a1, a2, a3] h R := Ret_of (args := [a0, a1, a2, a3]) hf hb hm hn q
theorem qa5 {f : FuncId} {c : Code} {a0 a1 a2 a3 a4 : Val} {R : Val → Hp → Prop} (hf : P.funcs[f]? = some fn) (q : C P K fn (.done R) c [(0, a0), (1, a1), (2, a2), (3, a3), (4, a4)] h) (hb : fn.body = some c := by exact rfl) (hm : fn.name ≠ "runtime.NumGoroutine" := by decide) (hn : Nat.ble 5 fn.ntmps = true := by exact rfl) : Ret P K f [a0, a1, a2, a3, a4] h R := Ret_of (args := [a0, a1, a2, a3, a4]) hf hb hm hn q
theorem qa6 {f : FuncId} {c : Code} {a0 a1 a2 a3 a4 a5 : Val} {R : Val → Hp → Prop} (hf : P.funcs[f]? = some fn) (q : C P K fn (.done R) c [(0, a0), (1, a1), (2, a2), (3, a3), (4, a4), (5, a5)] h) (hb : fn.body = some c := by exact rfl) (hm : fn.name ≠ "runtime.NumGoroutine" := by decide) (hn : Nat.ble 6 fn.ntmps = true := by exact rfl) : Ret P K f [a0, a1, a2, a3, a4, a5] h R := Ret_of (args := [a0, a1, a2, a3, a4, a5]) hf hb hm hn q
theorem oi {α : Type} {a b : α} (h : some a = some b) : a = b := Option.some.inj h
end
end Go.V
end
section
namespace Go.Wk.Lf
open Go.V
structure Loc where
  vol : Int
  file : Int
  off : Int
  len : Int
  deriving DecidableEq, Inhabited
def Loc.cells (x : Loc) : List Val := [.i .i64 x.vol, .i .i64 x.file, .i .i64 x.off, .i .i64 x.len]
def Loc.t : Tr Loc where
  size := 4
  rel F cs x := cs = Loc.cells x
  pos := by decide
  len := by rintro F cs x rfl; simp [Loc.cells]
  one := by rintro F cs x rfl; rfl
  mono := by rintro F G cs x l rfl; exact rfl
structure Part where
  path : List UInt8
  size : Int
  ids : List (List UInt8)
  deriving DecidableEq, Inhabited
def Part.cells (x : Part) (u0 : Val) : List Val := [.s x.path, .i .i64 x.size, u0]
def Part.t : Tr Part where
  size := 3
  rel F cs x := ∃ u0, cs = Part.cells x u0 ∧ SlF tId F u0 (x.ids)
  pos := by decide
  len := by rintro F cs x ⟨u0, rfl, h0⟩; simp [Part.cells]
  one := by rintro F cs x ⟨u0, rfl, h0⟩; simp only [Part.cells, List.all_cons, List.all_nil, List.all_append, h0.one]; rfl
  mono := by rintro F G cs x l ⟨u0, rfl, h0⟩; exact ⟨u0, rfl, h0.mono l⟩
structure Manifest where
  name : List UInt8
  parts : List Part
  deriving DecidableEq, Inhabited
def Manifest.cells (x : Manifest) (u0 : Val) : List Val := [.s x.name, u0]
structure Snap where
  seq : Int
  man : Manifest
  locs : List Loc
  deriving DecidableEq, Inhabited
def Snap.cells (x : Snap) (u0 u1 : Val) : List Val := [.i .i64 x.seq, .s x.man.name, u0, u1]
def Snap.t : Tr Snap where
  size := 4
  rel F cs x := ∃ u0 u1, cs = Snap.cells x u0 u1 ∧ SlF Part.t F u0 (x.man.parts) ∧ SlF Loc.t F u1 (x.locs)
  pos := by decide
  len := by rintro F cs x ⟨u0, u1, rfl, h0, h1⟩; simp [Snap.cells]
  one := by rintro F cs x ⟨u0, u1, rfl, h0, h1⟩; simp only [Snap.cells, List.all_cons, List.all_nil, List.all_append, h0.one, h1.one]; rfl
  mono := by rintro F G cs x l ⟨u0, u1, rfl, h0, h1⟩; exact ⟨u0, u1, rfl, h0.mono l, h1.mono l⟩
structure Chunk where
  id : List UInt8
  staged : Bool
  data : List UInt8
  locs : List Loc
  deriving DecidableEq, Inhabited
def Chunk.cells (x : Chunk) (u0 u1 : Val) : List Val := idCells x.id ++ [.b x.staged, u0, u1]
def Chunk.t : Tr Chunk where
  size := 35
  rel F cs x := ∃ u0 u1, cs = Chunk.cells x u0 u1 ∧ (x.id).length = 32 ∧ SlF tB F u0 (x.data) ∧ SlF Loc.t F u1 (x.locs)
  pos := by decide
  len := by rintro F cs x ⟨u0, u1, rfl, h0, h1, h2⟩; simp [Chunk.cells, idCells_len]
  one := by rintro F cs x ⟨u0, u1, rfl, h0, h1, h2⟩; simp only [Chunk.cells, List.all_cons, List.all_nil, List.all_append, idCells_one, h1.one, h2.one]; rfl
  mono := by rintro F G cs x l ⟨u0, u1, rfl, h0, h1, h2⟩; exact ⟨u0, u1, rfl, h0, h1.mono l, h2.mono l⟩
structure Exp where
  seq : Int
  of : Int
  locs : List Loc
  deriving DecidableEq, Inhabited
def Exp.cells (x : Exp) (u0 : Val) : List Val := [.i .i64 x.seq, .i .i64 x.of, u0]
def Exp.t : Tr Exp where
  size := 3
  rel F cs x := ∃ u0, cs = Exp.cells x u0 ∧ SlF Loc.t F u0 (x.locs)
  pos := by decide
  len := by rintro F cs x ⟨u0, rfl, h0⟩; simp [Exp.cells]
  one := by rintro F cs x ⟨u0, rfl, h0⟩; simp only [Exp.cells, List.all_cons, List.all_nil, List.all_append, h0.one]; rfl
  mono := by rintro F G cs x l ⟨u0, rfl, h0⟩; exact ⟨u0, rfl, h0.mono l⟩
structure Vol where
  pool : Int
  epoch : Int
  state : Int
  files : Int
  deriving DecidableEq, Inhabited
def Vol.cells (x : Vol) : List Val := [.i .i64 x.pool, .i .i64 x.epoch, .i .i64 x.state, .i .i64 x.files]
def Vol.t : Tr Vol where
  size := 4
  rel F cs x := cs = Vol.cells x
  pos := by decide
  len := by rintro F cs x rfl; simp [Vol.cells]
  one := by rintro F cs x rfl; rfl
  mono := by rintro F G cs x l rfl; exact rfl
structure Catalog where
  seq : Int
  snaps : List Snap
  chunks : List Chunk
  exps : List Exp
  vols : List Vol
  deriving DecidableEq, Inhabited
def Catalog.cells (x : Catalog) (u0 u1 u2 u3 : Val) : List Val := [.i .i64 x.seq, u0, u1, u2, u3]
structure Record where
  kind : Int
  seq : Int
  data : List UInt8
  deriving DecidableEq, Inhabited
def Record.cells (x : Record) (u0 : Val) : List Val := [.i .i64 x.kind, .i .i64 x.seq, u0]
structure Found where
  rec_ : Record
  loc : Loc
  deriving DecidableEq, Inhabited
def Found.cells (x : Found) (u0 : Val) : List Val := [.i .i64 x.rec_.kind, .i .i64 x.rec_.seq, u0, .i .i64 x.loc.vol, .i .i64 x.loc.file, .i .i64 x.loc.off, .i .i64 x.loc.len]
def Found.t : Tr Found where
  size := 7
  rel F cs x := ∃ u0, cs = Found.cells x u0 ∧ SlF tB F u0 (x.rec_.data)
  pos := by decide
  len := by rintro F cs x ⟨u0, rfl, h0⟩; simp [Found.cells]
  one := by rintro F cs x ⟨u0, rfl, h0⟩; simp only [Found.cells, List.all_cons, List.all_nil, List.all_append, h0.one]; rfl
  mono := by rintro F G cs x l ⟨u0, rfl, h0⟩; exact ⟨u0, rfl, h0.mono l⟩
structure ManifestReader where
  b : List UInt8
  bad : Bool
  deriving DecidableEq, Inhabited
def ManifestReader.cells (x : ManifestReader) (u0 : Val) : List Val := [u0, .b x.bad]
theorem Loc.eqc (a b : Loc) : eqL a.cells b.cells = decide (a = b) := by
  obtain ⟨a0, a1, a2, a3⟩ := a
  obtain ⟨b0, b1, b2, b3⟩ := b
  rw [Bool.eq_iff_iff]
  simp [Loc.cells, eqL, eq1]
def Snap.o : To Snap where
  size := 4
  rel F h bs cs x := ∃ u0 u1, cs = Snap.cells x u0 u1 ∧ SlF Part.t F u0 (x.man.parts) ∧ (To.row (.ofTr Loc.t)).rel F h bs [u1] x.locs
  len := by rintro F h bs cs x ⟨u0, u1, rfl, h0, k⟩; simp [Snap.cells, idCells_len]
  one := by rintro F h bs cs x ⟨u0, u1, rfl, h0, k⟩; simp only [Snap.cells, List.all_cons, List.all_nil, List.all_append, idCells_one, h0.one, (To.row_ln k).one]; rfl
  lt := by rintro F h bs cs x ⟨u0, u1, rfl, h0, k⟩; exact (To.row (.ofTr Loc.t)).lt k
  nodup := by rintro F h bs cs x ⟨u0, u1, rfl, h0, k⟩; exact (To.row (.ofTr Loc.t)).nodup k
  mono := by rintro F G h bs cs x l ⟨u0, u1, rfl, h0, k⟩; exact ⟨u0, u1, rfl, h0.mono l, (To.row (.ofTr Loc.t)).mono l k⟩
  frame := by rintro F h h2 bs cs x ⟨u0, u1, rfl, h0, k⟩ hn hk; exact ⟨u0, u1, rfl, h0, (To.row (.ofTr Loc.t)).frame k hn hk⟩
theorem Snap.sees : Sees Snap.o Snap.t := ⟨rfl, by rintro F G h bs cs x ⟨u0, u1, rfl, h0, k⟩ l hg; exact ⟨u0, u1, rfl, h0.mono l, row_frozen k l hg⟩⟩
theorem Snap.foc : Foc Snap.o Loc.t 3 Snap.locs (fun x l => Snap.mk x.seq x.man l) := ⟨by decide, by rintro F h e cs x ⟨u0, u1, rfl, h0, k⟩; exact ⟨u1, rfl, k⟩, by rintro F h e cs x F2 h2 e2 u' l2 ⟨u0, u1, rfl, h0, k⟩ l k2; exact ⟨u0, u', rfl, h0.mono l, k2⟩⟩
def Exp.o : To Exp where
  size := 3
  rel F h bs cs x := ∃ u0, cs = Exp.cells x u0 ∧ (To.row (.ofTr Loc.t)).rel F h bs [u0] x.locs
  len := by rintro F h bs cs x ⟨u0, rfl, k⟩; simp [Exp.cells, idCells_len]
  one := by rintro F h bs cs x ⟨u0, rfl, k⟩; simp only [Exp.cells, List.all_cons, List.all_nil, List.all_append, idCells_one, (To.row_ln k).one]; rfl
  lt := by rintro F h bs cs x ⟨u0, rfl, k⟩; exact (To.row (.ofTr Loc.t)).lt k
  nodup := by rintro F h bs cs x ⟨u0, rfl, k⟩; exact (To.row (.ofTr Loc.t)).nodup k
  mono := by rintro F G h bs cs x l ⟨u0, rfl, k⟩; exact ⟨u0, rfl, (To.row (.ofTr Loc.t)).mono l k⟩
  frame := by rintro F h h2 bs cs x ⟨u0, rfl, k⟩ hn hk; exact ⟨u0, rfl, (To.row (.ofTr Loc.t)).frame k hn hk⟩
theorem Exp.sees : Sees Exp.o Exp.t := ⟨rfl, by rintro F G h bs cs x ⟨u0, rfl, k⟩ l hg; exact ⟨u0, rfl, row_frozen k l hg⟩⟩
theorem Exp.foc : Foc Exp.o Loc.t 2 Exp.locs (fun x l => Exp.mk x.seq x.of l) := ⟨by decide, by rintro F h e cs x ⟨u0, rfl, k⟩; exact ⟨u0, rfl, k⟩, by rintro F h e cs x F2 h2 e2 u' l2 ⟨u0, rfl, k⟩ l k2; exact ⟨u', rfl, k2⟩⟩
def Chunk.o : To Chunk where
  size := 35
  rel F h bs cs x := ∃ u0 u1, cs = Chunk.cells x u0 u1 ∧ (x.id).length = 32 ∧ SlF tB F u0 (x.data) ∧ (To.row (.ofTr Loc.t)).rel F h bs [u1] x.locs
  len := by rintro F h bs cs x ⟨u0, u1, rfl, h0, h1, k⟩; simp [Chunk.cells, idCells_len]
  one := by rintro F h bs cs x ⟨u0, u1, rfl, h0, h1, k⟩; simp only [Chunk.cells, List.all_cons, List.all_nil, List.all_append, idCells_one, h1.one, (To.row_ln k).one]; rfl
  lt := by rintro F h bs cs x ⟨u0, u1, rfl, h0, h1, k⟩; exact (To.row (.ofTr Loc.t)).lt k
  nodup := by rintro F h bs cs x ⟨u0, u1, rfl, h0, h1, k⟩; exact (To.row (.ofTr Loc.t)).nodup k
  mono := by rintro F G h bs cs x l ⟨u0, u1, rfl, h0, h1, k⟩; exact ⟨u0, u1, rfl, h0, h1.mono l, (To.row (.ofTr Loc.t)).mono l k⟩
  frame := by rintro F h h2 bs cs x ⟨u0, u1, rfl, h0, h1, k⟩ hn hk; exact ⟨u0, u1, rfl, h0, h1, (To.row (.ofTr Loc.t)).frame k hn hk⟩
theorem Chunk.sees : Sees Chunk.o Chunk.t := ⟨rfl, by rintro F G h bs cs x ⟨u0, u1, rfl, h0, h1, k⟩ l hg; exact ⟨u0, u1, rfl, h0, h1.mono l, row_frozen k l hg⟩⟩
theorem Chunk.foc : Foc Chunk.o Loc.t 34 Chunk.locs (fun x l => Chunk.mk x.id x.staged x.data l) := ⟨by decide, by rintro F h e cs x ⟨u0, u1, rfl, h0, h1, k⟩; exact ⟨u1, rfl, k⟩, by rintro F h e cs x F2 h2 e2 u' l2 ⟨u0, u1, rfl, h0, h1, k⟩ l k2; exact ⟨u0, u', rfl, h0, h1.mono l, k2⟩⟩
end Go.Wk.Lf
end
section
namespace Go.Wk.Lf.Ty
open Go.V Go.Proofs
theorem agg138 : aggT Go.Proofs.Tryz.prog 138 = some true := by kernel_rfl
theorem agg172 : aggT Go.Proofs.Tryz.prog 172 = some true := by kernel_rfl
theorem agg32 : aggT Go.Proofs.Tryz.prog 32 = some true := by kernel_rfl
theorem agg38 : aggT Go.Proofs.Tryz.prog 38 = some true := by kernel_rfl
theorem agg43 : aggT Go.Proofs.Tryz.prog 43 = some true := by kernel_rfl
theorem agg46 : aggT Go.Proofs.Tryz.prog 46 = some true := by kernel_rfl
theorem agg51 : aggT Go.Proofs.Tryz.prog 51 = some true := by kernel_rfl
theorem agg53 : aggT Go.Proofs.Tryz.prog 53 = some true := by kernel_rfl
theorem agg55 : aggT Go.Proofs.Tryz.prog 55 = some true := by kernel_rfl
theorem agg58 : aggT Go.Proofs.Tryz.prog 58 = some true := by kernel_rfl
theorem agg60 : aggT Go.Proofs.Tryz.prog 60 = some true := by kernel_rfl
theorem bld202 : buildT Go.Proofs.Tryz.prog 202 = some ([(0, 1), (1, 1)], [.sl none 0 (.k 0), .b false]) := by kernel_rfl
theorem bld38 : buildT Go.Proofs.Tryz.prog 38 = some ([(0, 1), (1, 1), (2, 1), (3, 1), (4, 1)], [.i .i64 0, .sl none 0 (.k 0), .sl none 0 (.k 0), .sl none 0 (.k 0), .sl none 0 (.k 0)]) := by kernel_rfl
theorem bld46 : buildT Go.Proofs.Tryz.prog 46 = some ([(0, 1), (1, 2), (3, 1)], [.i .i64 0, .s [], .sl none 0 (.k 0), .sl none 0 (.k 0)]) := by kernel_rfl
theorem bld49 : buildT Go.Proofs.Tryz.prog 49 = some ([(0, 1), (1, 1), (2, 1)], [.i .i64 0, .i .i64 0, .sl none 0 (.k 0)]) := by kernel_rfl
theorem bld53 : buildT Go.Proofs.Tryz.prog 53 = some ([(0, 3), (3, 4)], [.i .i64 0, .i .i64 0, .sl none 0 (.k 0), .i .i64 0, .i .i64 0, .i .i64 0, .i .i64 0]) := by kernel_rfl
theorem cell118 : aggT Go.Proofs.Tryz.prog 118 = some false := by kernel_rfl
theorem cell169 : aggT Go.Proofs.Tryz.prog 169 = some false := by kernel_rfl
theorem cell3 : aggT Go.Proofs.Tryz.prog 3 = some false := by kernel_rfl
theorem cell33 : aggT Go.Proofs.Tryz.prog 33 = some false := by kernel_rfl
theorem cell34 : aggT Go.Proofs.Tryz.prog 34 = some false := by kernel_rfl
theorem cell35 : aggT Go.Proofs.Tryz.prog 35 = some false := by kernel_rfl
theorem cell36 : aggT Go.Proofs.Tryz.prog 36 = some false := by kernel_rfl
theorem cell4 : aggT Go.Proofs.Tryz.prog 4 = some false := by kernel_rfl
theorem cell41 : aggT Go.Proofs.Tryz.prog 41 = some false := by kernel_rfl
theorem cell44 : aggT Go.Proofs.Tryz.prog 44 = some false := by kernel_rfl
theorem cell47 : aggT Go.Proofs.Tryz.prog 47 = some false := by kernel_rfl
theorem cell5 : aggT Go.Proofs.Tryz.prog 5 = some false := by kernel_rfl
theorem cell9 : aggT Go.Proofs.Tryz.prog 9 = some false := by kernel_rfl
theorem field138_0 : fldOff Go.Proofs.Tryz.prog 138 0 = some 0 := by kernel_rfl
theorem field138_1 : fldOff Go.Proofs.Tryz.prog 138 1 = some 1 := by kernel_rfl
theorem field138_2 : fldOff Go.Proofs.Tryz.prog 138 2 = some 2 := by kernel_rfl
theorem field202_0 : fldOff Go.Proofs.Tryz.prog 202 0 = some 0 := by kernel_rfl
theorem field202_1 : fldOff Go.Proofs.Tryz.prog 202 1 = some 1 := by kernel_rfl
theorem field32_0 : fldOff Go.Proofs.Tryz.prog 32 0 = some 0 := by kernel_rfl
theorem field32_1 : fldOff Go.Proofs.Tryz.prog 32 1 = some 1 := by kernel_rfl
theorem field32_2 : fldOff Go.Proofs.Tryz.prog 32 2 = some 2 := by kernel_rfl
theorem field32_3 : fldOff Go.Proofs.Tryz.prog 32 3 = some 3 := by kernel_rfl
theorem field38_0 : fldOff Go.Proofs.Tryz.prog 38 0 = some 0 := by kernel_rfl
theorem field38_1 : fldOff Go.Proofs.Tryz.prog 38 1 = some 1 := by kernel_rfl
theorem field38_2 : fldOff Go.Proofs.Tryz.prog 38 2 = some 2 := by kernel_rfl
theorem field38_3 : fldOff Go.Proofs.Tryz.prog 38 3 = some 3 := by kernel_rfl
theorem field38_4 : fldOff Go.Proofs.Tryz.prog 38 4 = some 4 := by kernel_rfl
theorem field43_0 : fldOff Go.Proofs.Tryz.prog 43 0 = some 0 := by kernel_rfl
theorem field43_1 : fldOff Go.Proofs.Tryz.prog 43 1 = some 1 := by kernel_rfl
theorem field46_0 : fldOff Go.Proofs.Tryz.prog 46 0 = some 0 := by kernel_rfl
theorem field46_1 : fldOff Go.Proofs.Tryz.prog 46 1 = some 1 := by kernel_rfl
theorem field46_2 : fldOff Go.Proofs.Tryz.prog 46 2 = some 3 := by kernel_rfl
theorem field49_0 : fldOff Go.Proofs.Tryz.prog 49 0 = some 0 := by kernel_rfl
theorem field49_1 : fldOff Go.Proofs.Tryz.prog 49 1 = some 1 := by kernel_rfl
theorem field49_2 : fldOff Go.Proofs.Tryz.prog 49 2 = some 2 := by kernel_rfl
theorem field51_0 : fldOff Go.Proofs.Tryz.prog 51 0 = some 0 := by kernel_rfl
theorem field51_1 : fldOff Go.Proofs.Tryz.prog 51 1 = some 1 := by kernel_rfl
theorem field51_2 : fldOff Go.Proofs.Tryz.prog 51 2 = some 2 := by kernel_rfl
theorem field51_3 : fldOff Go.Proofs.Tryz.prog 51 3 = some 3 := by kernel_rfl
theorem field53_0 : fldOff Go.Proofs.Tryz.prog 53 0 = some 0 := by kernel_rfl
theorem field53_1 : fldOff Go.Proofs.Tryz.prog 53 1 = some 3 := by kernel_rfl
theorem field55_0 : fldOff Go.Proofs.Tryz.prog 55 0 = some 0 := by kernel_rfl
theorem field55_1 : fldOff Go.Proofs.Tryz.prog 55 1 = some 1 := by kernel_rfl
theorem field55_2 : fldOff Go.Proofs.Tryz.prog 55 2 = some 2 := by kernel_rfl
theorem field60_0 : fldOff Go.Proofs.Tryz.prog 60 0 = some 0 := by kernel_rfl
theorem field60_1 : fldOff Go.Proofs.Tryz.prog 60 1 = some 32 := by kernel_rfl
theorem field60_2 : fldOff Go.Proofs.Tryz.prog 60 2 = some 33 := by kernel_rfl
theorem field60_3 : fldOff Go.Proofs.Tryz.prog 60 3 = some 34 := by kernel_rfl
theorem mixed : Go.Proofs.Tryz.prog.follows .mixedOrders = true := by kernel_rfl
theorem row138 : rowOk Go.Proofs.Tryz.prog 138 3 = true := by kernel_rfl
theorem row169 : rowOk Go.Proofs.Tryz.prog 169 1 = true := by kernel_rfl
theorem row3 : rowOk Go.Proofs.Tryz.prog 3 1 = true := by kernel_rfl
theorem row32 : rowOk Go.Proofs.Tryz.prog 32 4 = true := by kernel_rfl
theorem row46 : rowOk Go.Proofs.Tryz.prog 46 4 = true := by kernel_rfl
theorem row47 : rowOk Go.Proofs.Tryz.prog 47 1 = true := by kernel_rfl
theorem row5 : rowOk Go.Proofs.Tryz.prog 5 1 = true := by kernel_rfl
theorem row51 : rowOk Go.Proofs.Tryz.prog 51 4 = true := by kernel_rfl
theorem row53 : rowOk Go.Proofs.Tryz.prog 53 7 = true := by kernel_rfl
theorem row55 : rowOk Go.Proofs.Tryz.prog 55 3 = true := by kernel_rfl
theorem row58 : rowOk Go.Proofs.Tryz.prog 58 32 = true := by kernel_rfl
theorem row60 : rowOk Go.Proofs.Tryz.prog 60 35 = true := by kernel_rfl
theorem size118 : sz Go.Proofs.Tryz.prog 118 = some 1 := by kernel_rfl
theorem size138 : sz Go.Proofs.Tryz.prog 138 = some 3 := by kernel_rfl
theorem size169 : sz Go.Proofs.Tryz.prog 169 = some 1 := by kernel_rfl
theorem size172 : sz Go.Proofs.Tryz.prog 172 = some 8 := by kernel_rfl
theorem size3 : sz Go.Proofs.Tryz.prog 3 = some 1 := by kernel_rfl
theorem size32 : sz Go.Proofs.Tryz.prog 32 = some 4 := by kernel_rfl
theorem size33 : sz Go.Proofs.Tryz.prog 33 = some 1 := by kernel_rfl
theorem size34 : sz Go.Proofs.Tryz.prog 34 = some 1 := by kernel_rfl
theorem size35 : sz Go.Proofs.Tryz.prog 35 = some 1 := by kernel_rfl
theorem size36 : sz Go.Proofs.Tryz.prog 36 = some 1 := by kernel_rfl
theorem size38 : sz Go.Proofs.Tryz.prog 38 = some 5 := by kernel_rfl
theorem size4 : sz Go.Proofs.Tryz.prog 4 = some 1 := by kernel_rfl
theorem size41 : sz Go.Proofs.Tryz.prog 41 = some 1 := by kernel_rfl
theorem size43 : sz Go.Proofs.Tryz.prog 43 = some 2 := by kernel_rfl
theorem size44 : sz Go.Proofs.Tryz.prog 44 = some 1 := by kernel_rfl
theorem size46 : sz Go.Proofs.Tryz.prog 46 = some 4 := by kernel_rfl
theorem size47 : sz Go.Proofs.Tryz.prog 47 = some 1 := by kernel_rfl
theorem size5 : sz Go.Proofs.Tryz.prog 5 = some 1 := by kernel_rfl
theorem size51 : sz Go.Proofs.Tryz.prog 51 = some 4 := by kernel_rfl
theorem size53 : sz Go.Proofs.Tryz.prog 53 = some 7 := by kernel_rfl
theorem size55 : sz Go.Proofs.Tryz.prog 55 = some 3 := by kernel_rfl
theorem size58 : sz Go.Proofs.Tryz.prog 58 = some 32 := by kernel_rfl
theorem size60 : sz Go.Proofs.Tryz.prog 60 = some 35 := by kernel_rfl
theorem zero138 : (zeroV Go.Proofs.Tryz.prog 138).map Val.cells = some [.s [], .i .i64 0, .sl none 0 (.k 0)] := by kernel_rfl
theorem zero170 : (zeroV Go.Proofs.Tryz.prog 170).map Val.cells = some [.i .u32 0, .i .u32 0, .i .u32 0, .i .u32 0, .i .u32 0, .i .u32 0, .i .u32 0, .i .u32 0, .i .u32 0, .i .u32 0, .i .u32 0, .i .u32 0, .i .u32 0, .i .u32 0, .i .u32 0, .i .u32 0, .i .u32 0, .i .u32 0, .i .u32 0, .i .u32 0, .i .u32 0, .i .u32 0, .i .u32 0, .i .u32 0, .i .u32 0, .i .u32 0, .i .u32 0, .i .u32 0, .i .u32 0, .i .u32 0, .i .u32 0, .i .u32 0, .i .u32 0, .i .u32 0, .i .u32 0, .i .u32 0, .i .u32 0, .i .u32 0, .i .u32 0, .i .u32 0, .i .u32 0, .i .u32 0, .i .u32 0, .i .u32 0, .i .u32 0, .i .u32 0, .i .u32 0, .i .u32 0, .i .u32 0, .i .u32 0, .i .u32 0, .i .u32 0, .i .u32 0, .i .u32 0, .i .u32 0, .i .u32 0, .i .u32 0, .i .u32 0, .i .u32 0, .i .u32 0, .i .u32 0, .i .u32 0, .i .u32 0, .i .u32 0] := by kernel_rfl
theorem zero172 : (zeroV Go.Proofs.Tryz.prog 172).map Val.cells = some [.i .u32 0, .i .u32 0, .i .u32 0, .i .u32 0, .i .u32 0, .i .u32 0, .i .u32 0, .i .u32 0] := by kernel_rfl
theorem zero32 : (zeroV Go.Proofs.Tryz.prog 32).map Val.cells = some [.i .i64 0, .i .i64 0, .i .i64 0, .i .i64 0] := by kernel_rfl
theorem zero38 : (zeroV Go.Proofs.Tryz.prog 38).map Val.cells = some [.i .i64 0, .sl none 0 (.k 0), .sl none 0 (.k 0), .sl none 0 (.k 0), .sl none 0 (.k 0)] := by kernel_rfl
theorem zero43 : (zeroV Go.Proofs.Tryz.prog 43).map Val.cells = some [.s [], .sl none 0 (.k 0)] := by kernel_rfl
theorem zero46 : (zeroV Go.Proofs.Tryz.prog 46).map Val.cells = some [.i .i64 0, .s [], .sl none 0 (.k 0), .sl none 0 (.k 0)] := by kernel_rfl
theorem zero5 : (zeroV Go.Proofs.Tryz.prog 5).map Val.cells = some [.i .u8 0] := by kernel_rfl
theorem zero51 : (zeroV Go.Proofs.Tryz.prog 51).map Val.cells = some [.i .i64 0, .i .i64 0, .i .i64 0, .i .i64 0] := by kernel_rfl
theorem zero53 : (zeroV Go.Proofs.Tryz.prog 53).map Val.cells = some [.i .i64 0, .i .i64 0, .sl none 0 (.k 0), .i .i64 0, .i .i64 0, .i .i64 0, .i .i64 0] := by kernel_rfl
theorem zero55 : (zeroV Go.Proofs.Tryz.prog 55).map Val.cells = some [.i .i64 0, .i .i64 0, .sl none 0 (.k 0)] := by kernel_rfl
theorem zero58 : (zeroV Go.Proofs.Tryz.prog 58).map Val.cells = some [.i .u8 0, .i .u8 0, .i .u8 0, .i .u8 0, .i .u8 0, .i .u8 0, .i .u8 0, .i .u8 0, .i .u8 0, .i .u8 0, .i .u8 0, .i .u8 0, .i .u8 0, .i .u8 0, .i .u8 0, .i .u8 0, .i .u8 0, .i .u8 0, .i .u8 0, .i .u8 0, .i .u8 0, .i .u8 0, .i .u8 0, .i .u8 0, .i .u8 0, .i .u8 0, .i .u8 0, .i .u8 0, .i .u8 0, .i .u8 0, .i .u8 0, .i .u8 0] := by kernel_rfl
theorem zero60 : (zeroV Go.Proofs.Tryz.prog 60).map Val.cells = some [.i .u8 0, .i .u8 0, .i .u8 0, .i .u8 0, .i .u8 0, .i .u8 0, .i .u8 0, .i .u8 0, .i .u8 0, .i .u8 0, .i .u8 0, .i .u8 0, .i .u8 0, .i .u8 0, .i .u8 0, .i .u8 0, .i .u8 0, .i .u8 0, .i .u8 0, .i .u8 0, .i .u8 0, .i .u8 0, .i .u8 0, .i .u8 0, .i .u8 0, .i .u8 0, .i .u8 0, .i .u8 0, .i .u8 0, .i .u8 0, .i .u8 0, .i .u8 0, .b false, .sl none 0 (.k 0), .sl none 0 (.k 0)] := by kernel_rfl
theorem zk118 : zerosK Go.Proofs.Tryz.prog 118 = some false := by kernel_rfl
theorem zk27 : zerosK Go.Proofs.Tryz.prog 27 = some false := by kernel_rfl
theorem zk33 : zerosK Go.Proofs.Tryz.prog 33 = some false := by kernel_rfl
theorem zk34 : zerosK Go.Proofs.Tryz.prog 34 = some false := by kernel_rfl
theorem zk35 : zerosK Go.Proofs.Tryz.prog 35 = some false := by kernel_rfl
theorem zk36 : zerosK Go.Proofs.Tryz.prog 36 = some false := by kernel_rfl
theorem zk41 : zerosK Go.Proofs.Tryz.prog 41 = some false := by kernel_rfl
theorem zk44 : zerosK Go.Proofs.Tryz.prog 44 = some false := by kernel_rfl
theorem zk47 : zerosK Go.Proofs.Tryz.prog 47 = some false := by kernel_rfl
theorem zk72 : zerosK Go.Proofs.Tryz.prog 72 = some false := by kernel_rfl
theorem blda172 : buildA Go.Proofs.Tryz.prog 172 = some (1, [.i .u32 0, .i .u32 0, .i .u32 0, .i .u32 0, .i .u32 0, .i .u32 0, .i .u32 0, .i .u32 0]) := by kernel_rfl
theorem eqt51 : eqT Go.Proofs.Tryz.prog 51 = some [.int .i64, .int .i64, .int .i64, .int .i64] := by kernel_rfl
theorem eqt58 : eqT Go.Proofs.Tryz.prog 58 = some [.int .u8, .int .u8, .int .u8, .int .u8, .int .u8, .int .u8, .int .u8, .int .u8, .int .u8, .int .u8, .int .u8, .int .u8, .int .u8, .int .u8, .int .u8, .int .u8, .int .u8, .int .u8, .int .u8, .int .u8, .int .u8, .int .u8, .int .u8, .int .u8, .int .u8, .int .u8, .int .u8, .int .u8, .int .u8, .int .u8, .int .u8, .int .u8] := by kernel_rfl
theorem zkt3 : zerosK Go.Proofs.Tryz.prog 3 = some true := by kernel_rfl
theorem zv4 : zeroV Go.Proofs.Tryz.prog 4 = some (.b false) := by kernel_rfl
end Go.Wk.Lf.Ty
end
