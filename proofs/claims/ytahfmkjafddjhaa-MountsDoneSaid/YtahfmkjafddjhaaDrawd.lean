/- Joint drawn heads in which a slot that is told of ahead is written. -/
import Derived.Test.YtahfmkjafddjhaaDrawj
namespace Go.Wk
open Go.RowKit

section
variable {P : Program} {fn : Func} {k : Kont}
/-- facts of slots, without some -/
def drp (ds : List Nat) (l : Env) : Env := l.filter fun p => !(ds.contains p.1)
theorem look_drp {ds : List Nat} {l : Env} {t : Nat} {v : Value} (h : look (drp ds l) t = some v) : look l t = some v ∧ ds.contains t = false := by
  induction l with
  | nil => simp [drp, look] at h
  | cons p l ih =>
    obtain ⟨q, u⟩ := p
    unfold drp at h
    cases hc : ds.contains q with
    | true =>
      rw [List.filter_cons_of_neg (by simpa using hc)] at h
      obtain ⟨h1, h2⟩ := ih h
      have hne : q ≠ t := fun e => by subst e; rw [h2] at hc; cases hc
      refine ⟨?_, h2⟩
      simp only [look]
      cases hb : Nat.beq q t with
      | true => exact absurd (Nat.eq_of_beq_eq_true hb) hne
      | false => exact h1
    | false =>
      rw [List.filter_cons_of_pos (by simpa using hc)] at h
      simp only [look] at h ⊢
      cases hb : Nat.beq q t with
      | true =>
        rw [hb] at h
        have := Nat.eq_of_beq_eq_true hb
        subst this
        exact ⟨h, hc⟩
      | false => rw [hb] at h; exact ih h
/-- slots of the head that are told of ahead: dropped where an operation may have written them -/
def freeOfD (l : Env) (ops : List Oper) (n : Nat) (dr : List (List Nat)) (de : List Nat) : Bool :=
  (List.range n).all fun j => match dsto ops j with
    | some d => (look l d).isNone || (de.contains d && (List.range n).all fun i => (dr.getD i []).contains d || Region.waitsFor .any ops.toArray j i)
    | none => true
structure DInv (J : Joint) (fn : Func) (ops : List Oper) (l : Env) (ov : List (Option Value)) (n : Nat) (listed : Array Bool) (vs : Nat → Value) (a : Act) (w : World) : Prop where
  size : listed.size = ops.length
  tail : ∀ t, n ≤ t → t < ops.length → listed.getD t true = false
  defers : a.defers = []
  sized : a.tmps.size = fn.ntmps
  old : ∀ t v, look l t = some v → (∀ i, i < n → dsto ops i = some t → listed.getD i false = false) → a.tmps.getD t undef = v
  joint : J (fun q => listed.getD q false) vs w
  closed : ∀ j, j < n → listed.getD j false = true → ∀ i, i < n → Region.waitsFor .any ops.toArray j i = true → listed.getD i false = true
  done : ∀ i d, i < n → dsto ops i = some d → listed.getD i false = true → a.tmps.getD d undef = entj ov vs i
/-- the steps -/
def StepGoalD (P : Program) (fn : Func) (k : Kont) (J : Joint) (ops : List Oper) (deps dr : List (List Nat)) (ov : List (Option Value)) (l : Env) (i : Nat) (o : Oper) : Prop :=
  ∀ w' vs D, D i = false → (∀ j ∈ deps.getD i [], D j = true) → J D vs w' → W P fn (.loop (StepK J ov D vs i (dsto ops i)) k) ops.toArray [o] (ents ops ov vs (deps.getD i []) ++ drp (dr.getD i []) l) w'
def StepsD (P : Program) (fn : Func) (k : Kont) (J : Joint) (ops : List Oper) (deps dr : List (List Nat)) (ov : List (Option Value)) (l : Env) : Nat → List Oper → Prop
  | _, [] => True
  | i, o :: r => StepGoalD P fn k J ops deps dr ov l i o ∧ StepsD P fn k J ops deps dr ov l (i + 1) r
theorem StepsD.at_ {J : Joint} {ops : List Oper} {deps dr : List (List Nat)} {ov : List (Option Value)} {l : Env} : ∀ (r : List Oper) (m i : Nat) (o : Oper), StepsD P fn k J ops deps dr ov l m r → r[i]? = some o → StepGoalD P fn k J ops deps dr ov l (m + i) o := by
  intro r
  induction r with
  | nil => intro m i o _ h; simp at h
  | cons x r ih =>
    intro m i o h hi
    cases i with
    | zero => simp at hi; subst hi; exact h.1
    | succ i => have := ih (m + 1) i o h.2 (by simpa using hi); rwa [show m + (i + 1) = m + 1 + i from by omega]

theorem C_drawD {id : Nat} {ops : List Oper} {l : Env} {w : World} (J : Joint) (n : Nat) (deps : List (List Nat)) (ov : List (Option Value)) (dr : List (List Nat)) (de : List Nat) (hm : P.follows .mixedOrders = true) (hn : Nat.ble n ops.length = true) (hh : headOkJ ops deps n = true) (ht : tailOk ops n = true) (hf : freeOfD l ops n dr de = true)
    (hJ : ∀ vs, J (fun _ => false) vs w.drew)
    (hs : StepsD P fn k J ops deps dr ov l 0 (ops.take n))
    (hfin : ∀ w' vs D, (∀ i, i < n → D i = true) → J D vs w' → W P fn k ops.toArray (ops.drop n) (ents ops ov vs (List.range n) ++ drp de l) w') : C P fn k (.region id ops.toArray true) l w := by
  intro a ha
  refine wp_region_any hm ?_
  have hn' : n ≤ ops.length := Nat.le_of_ble_eq_true hn
  have hw : { w with drawn := w.drawn + 1 } = w.drew := rfl
  rw [hw]
  have HH : ∀ i, i < n → ∃ o, ops[i]? = some o ∧ dsto ops i = o.dst ∧ (∀ e ∈ o.after, Region.binds .any e = true → e.on < i) ∧ (∀ j ∈ deps.getD i [], ∃ e ∈ o.after, Region.binds .any e = true ∧ e.on = j) ∧ ∀ j d, j < i → dsto ops i = some d → dsto ops j ≠ some d := by
    intro i hi
    have h1 := List.all_eq_true.1 hh i (List.mem_range.2 hi)
    cases ho : ops[i]? with
    | none => simp [ho] at h1
    | some o =>
      simp only [ho, Bool.and_eq_true] at h1
      obtain ⟨⟨h3, h4⟩, h5⟩ := h1
      refine ⟨o, rfl, by simp [dsto, ho], ?_, ?_, ?_⟩
      · intro e he hb
        have := Array.all_eq_true_iff_forall_mem.1 h3 e he
        simpa [hb] using this
      · intro j hj
        have := List.all_eq_true.1 h4 j hj
        obtain ⟨e, he, hb⟩ := Array.any_eq_true'.1 this
        simp only [Bool.and_eq_true, beq_iff_eq] at hb
        exact ⟨e, he, hb.1, hb.2⟩
      · intro j d hj hd hd'
        have := List.all_eq_true.1 h5 j (List.mem_range.2 hj)
        rw [hd', hd] at this
        simp at this
  simp only [tailOk, Bool.and_eq_true] at ht
  obtain ⟨ht1, ht2⟩ := ht
  have HF : ∀ j d, j < n → dsto ops j = some d → look l d = none ∨ (de.contains d = true ∧ ∀ i, i < n → (dr.getD i []).contains d = true ∨ Region.waitsFor .any ops.toArray j i = true) := by
    intro j d hj hd
    have := List.all_eq_true.1 hf j (List.mem_range.2 hj)
    simp only [hd, Bool.or_eq_true, Bool.and_eq_true] at this
    rcases this with h | ⟨h1, h2⟩
    · exact .inl (by simpa using h)
    · refine .inr ⟨h1, fun i hi => ?_⟩
      have := List.all_eq_true.1 h2 i (List.mem_range.2 hi)
      simpa only [Bool.or_eq_true] using this
  have key : ∀ (m : Nat) (listed : Array Bool) (vs : Nat → Value) (a : Act) (w' : World), cnt (fun i => !listed.getD i false) n = m → DInv J fn ops l ov n listed vs a w' →
      wpAny P .any ops.toArray (k.post P fn) (m + (ops.length - n)) listed a w' := by
    intro m
    induction m with
    | zero =>
      intro listed vs a w' hc inv
      have hall : ∀ i, i < n → listed.getD i false = true := fun i hi => by simpa using cnt_zero _ n hc i hi
      have hlisted : listed = ((List.range ops.length).map fun i => Nat.blt i n).toArray := by
        apply Array.ext
        · simp [inv.size]
        · intro i h1 h2
          have hi : i < ops.length := by rw [inv.size] at h1; exact h1
          have hr : ((List.range ops.length).map fun i => Nat.blt i n).toArray[i] = Nat.blt i n := by simp
          rw [hr]
          by_cases hin : i < n
          · have := hall i hin
            simp [Array.getD_eq_getD_getElem?, h1] at this
            rw [this]; symm; simpa using hin
          · have := inv.tail i (by omega) hi
            simp [Array.getD_eq_getD_getElem?, h1] at this
            rw [this]; symm
            cases hb : Nat.blt i n with
            | false => rfl
            | true => exact absurd (by simpa using hb) hin
      have hdl : (ops.drop n).length = ops.length - n := by simp
      have hgoal := hfin w' vs _ hall inv.joint
      have hsl : Slots (ents ops ov vs (List.range n) ++ drp de l) fn.ntmps a := by
        refine ⟨inv.defers, inv.sized, fun t v hv => ?_⟩
        rcases ents_look _ _ _ _ hv with ⟨j, hj, hd, hv'⟩ | hv'
        · have := inv.done j t (List.mem_range.1 hj) hd (hall j (List.mem_range.1 hj))
          rw [hv'] at this; exact this
        · obtain ⟨q1, q2⟩ := look_drp hv'
          refine inv.old t v q1 fun j hj hd => ?_
          rcases HF j t hj hd with h | ⟨h, _⟩
          · rw [h] at q1; cases q1
          · rw [q2] at h; cases h
      have := wpAny_of_seq (P := P) (md := .any) (ops := ops.toArray) (Q' := k.post P fn) (ops.drop n) n listed a w' (fun j => by simp) (by rw [hdl, hlisted]; exact ht2) (hgoal a hsl)
      rw [hdl] at this
      rw [Nat.zero_add]; exact this
    | succ m ih =>
      intro listed vs a w' hc inv
      obtain ⟨i0, hi0, hu0, hmin⟩ := cnt_pos _ n (by omega : cnt (fun i => !listed.getD i false) n ≠ 0)
      have hi0' : listed.getD i0 false = false := by simpa using hu0
      have hready0 : i0 ∈ Region.ready .any ops.toArray listed := by
        obtain ⟨o, ho, _, he, _, _⟩ := HH i0 hi0
        refine mem_ready.2 ⟨getD_in (by rw [inv.size]; omega) hi0', o, by simpa using ho, fun e hme hb => ?_⟩
        have := hmin e.on (he e hme hb)
        simpa using this
      rw [show m + 1 + (ops.length - n) = (m + (ops.length - n)) + 1 from by omega]
      refine ⟨fun h0 => absurd hready0 (by rw [h0]; simp), fun i hi => ?_⟩
      obtain ⟨hun, o', ho', hall⟩ := mem_ready.1 hi
      have hilt : i < ops.length := by have := (Array.getElem?_eq_some_iff.1 ho').1; simpa using this
      have hin : i < n := by
        rcases Nat.lt_or_ge i n with h | h
        · exact h
        · exfalso
          have h1 := List.all_eq_true.1 ht1 i (List.mem_range.2 hilt)
          simp only [Bool.or_eq_true] at h1
          rcases h1 with (h1 | h1) | h1
          · have : i < n := by simpa using h1
            omega
          · obtain ⟨j, hj, h3⟩ := List.any_eq_true.1 h1
            simp only [Bool.and_eq_true] at h3
            obtain ⟨oj, hoj, e, he, hb, hon⟩ := Region.waitsFor_spec h3.2
            have : oj = o' := Option.some.inj (hoj.symm.trans ho')
            subst this
            have h2 := hall e he hb
            have h4 := inv.tail j (by simpa using h3.1) (List.mem_range.1 hj)
            have h5 : j < listed.size := by rw [inv.size]; exact List.mem_range.1 hj
            rw [hon] at h2
            simp [Array.getD_eq_getD_getElem?, h5] at h2 h4
            rw [h4] at h2; cases h2
          · have hdown : ∀ q j, j < n → n - j ≤ q → listed.getD j false = true := by
              intro q
              induction q with
              | zero => intro j hj hq; omega
              | succ q ihq =>
                intro j hj hq
                have h3 := List.all_eq_true.1 h1 j (List.mem_range.2 hj)
                simp only [Bool.or_eq_true] at h3
                rcases h3 with h3 | h3
                · obtain ⟨oj, hoj, e, he, hb, hon⟩ := Region.waitsFor_spec h3
                  have : oj = o' := Option.some.inj (hoj.symm.trans ho')
                  subst this
                  have h2 := hall e he hb
                  rw [hon] at h2; exact h2
                · obtain ⟨j2, hj2, h4⟩ := List.any_eq_true.1 h3
                  simp only [Bool.and_eq_true] at h4
                  have hlt : j < j2 := by simpa using h4.1
                  have hj2n := List.mem_range.1 hj2
                  exact inv.closed j2 hj2n (ihq j2 hj2n (by omega)) j hj h4.2
            have h2 := hdown n i0 hi0 (by omega)
            rw [hi0'] at h2; cases h2
      obtain ⟨o, ho, hdst, he, hdep, hne⟩ := HH i hin
      have : o' = o := by have : ops[i]? = some o' := by simpa using ho'
                          exact Option.some.inj (this.symm.trans ho)
      subst this
      have hstep := StepsD.at_ (ops.take n) 0 i o' hs (by rw [List.getElem?_take_of_lt hin]; exact ho)
      rw [Nat.zero_add] at hstep
      have hdone : ∀ j ∈ deps.getD i [], j < n ∧ listed.getD j false = true := by
        intro j hj
        obtain ⟨e, hme, hb, hon⟩ := hdep j hj
        have h1 := hall e hme hb
        have h2 := he e hme hb
        rw [hon] at h1 h2
        exact ⟨by omega, h1⟩
      have hW := hstep w' vs _ (getD_both hun) (fun j hj => (hdone j hj).2) inv.joint
      have hsl : Slots (ents ops ov vs (deps.getD i []) ++ drp (dr.getD i []) l) fn.ntmps a := by
        refine ⟨inv.defers, inv.sized, fun t v hv => ?_⟩
        rcases ents_look _ _ _ _ hv with ⟨j, hj, hd', hv'⟩ | hv'
        · have := inv.done j t (hdone j hj).1 hd' (hdone j hj).2
          rw [hv'] at this; exact this
        · obtain ⟨q1, q2⟩ := look_drp hv'
          refine inv.old t v q1 fun j hj hd => ?_
          rcases HF j t hj hd with h | ⟨_, h⟩
          · rw [h] at q1; cases q1
          · rcases h i hin with h | h
            · rw [q2] at h; cases h
            · cases hlj : listed.getD j false with
              | false => rfl
              | true => have := inv.closed j hj hlj i hin h; rw [getD_both hun] at this; cases this
      have hwl := hW a hsl
      have hcnt : cnt (fun j => !(listed.setIfInBounds i true).getD j false) n = m := by
        have := cnt_le (fun j => !listed.getD j false) (fun j => !(listed.setIfInBounds i true).getD j false) i (by simpa using getD_both hun)
          (by have hh : i < listed.size := by rw [inv.size]; exact hilt
              simp [Array.getD_eq_getD_getElem?, hh]) (fun j hj => by rw [getD_set_ne false (Ne.symm hj)]) n hin
        omega
      have next : ∀ v w2, StepK J ov (fun q => listed.getD q false) vs i (dsto ops i) (a.put o'.dst v) w2 → wpAny P .any ops.toArray (k.post P fn) (m + (ops.length - n)) (listed.setIfInBounds i true) (a.put o'.dst v) w2 := by
        intro v w2 hK
        obtain ⟨hj1, hj2, hj3⟩ := hK
        have hli : i < listed.size := by rw [inv.size]; exact hilt
        have hD : (fun q => (listed.setIfInBounds i true).getD q false) = fun q => if q = i then true else listed.getD q false := by
          funext q
          by_cases hqi : q = i
          · subst hqi; rw [if_pos rfl]; simp [Array.getD_eq_getD_getElem?, hli]
          · rw [if_neg hqi, getD_set_ne false (Ne.symm hqi)]
        have hput : (a.put o'.dst v).defers = [] ∧ (a.put o'.dst v).tmps.size = fn.ntmps ∧ ∀ t u, look l t = some u → (∀ q, q < n → dsto ops q = some t → (listed.setIfInBounds i true).getD q false = false) → (a.put o'.dst v).tmps.getD t undef = u := by
          refine ⟨hj1, ?_, fun t u hu hq => ?_⟩
          · cases hd : o'.dst with
            | none => simpa [Act.put] using inv.sized
            | some d => simp [Act.put, inv.sized]
          · have hdt : o'.dst ≠ some t := fun e => by
              have := hq i hin (by rw [hdst, e])
              simp [Array.getD_eq_getD_getElem?, hli] at this
            have hold := inv.old t u hu fun q hqn hqd => by
              have h1 := hq q hqn hqd
              have hqi : q ≠ i := fun e => by subst e; exact hdt (by rw [← hdst, hqd])
              rwa [getD_set_ne false (Ne.symm hqi)] at h1
            cases hd : o'.dst with
            | none => simpa [Act.put] using hold
            | some d =>
              have hne' : d ≠ t := fun e => hdt (by rw [hd, e])
              simp only [Act.put, Array.getD_eq_getD_getElem?, Array.getElem?_setIfInBounds] at hold ⊢
              rw [if_neg hne']; exact hold
        have hother : ∀ j d', j < n → j ≠ i → dsto ops j = some d' → (a.put o'.dst v).tmps.getD d' undef = a.tmps.getD d' undef := by
          intro j d' hj hji hd'
          cases hd : o'.dst with
          | none => rfl
          | some d =>
            have hdi : dsto ops i = some d := by rw [hdst, hd]
            have hne' : d ≠ d' := by
              intro e; subst e
              rcases Nat.lt_or_gt_of_ne hji with h | h
              · exact hne j d h hdi hd'
              · obtain ⟨_, _, _, _, _, hne2⟩ := HH j hj; exact hne2 i d h hd' hdi
            simp only [Act.put, Array.getD_eq_getD_getElem?, Array.getElem?_setIfInBounds]
            rw [if_neg hne']
        refine ih (listed.setIfInBounds i true) (fun q => if q = i then valOf (dsto ops i) (a.put o'.dst v) else vs q) _ w2 hcnt ⟨by simp [inv.size], ?_, hput.1, hput.2.1, hput.2.2, by rw [hD]; exact hj3, ?_, ?_⟩
        · intro t h1 h2
          rw [getD_set_ne true (by omega)]; exact inv.tail t h1 h2
        · intro j hj hl q hq hwf
          have hkeep : listed.getD q false = true → (listed.setIfInBounds i true).getD q false = true := by
            intro hq'
            by_cases hqi : q = i
            · subst hqi
              simp [Array.getD_eq_getD_getElem?, hli]
            · rw [getD_set_ne false (Ne.symm hqi)]; exact hq'
          by_cases hji : j = i
          · subst hji
            obtain ⟨oj, hoj, e, he', hb, hon⟩ := Region.waitsFor_spec hwf
            have : oj = o' := Option.some.inj (hoj.symm.trans ho')
            subst this
            have h2 := hall e he' hb
            rw [hon] at h2
            exact hkeep h2
          · rw [getD_set_ne false (Ne.symm hji)] at hl
            exact hkeep (inv.closed j hj hl q hq hwf)
        · intro j d' hj hd' hl
          by_cases hji : j = i
          · subst hji
            rw [hd'] at hj2
            rw [hd']
            show (a.put o'.dst v).tmps.getD d' undef = (ov.getD j none).getD (if j = j then valOf (some d') (a.put o'.dst v) else vs j)
            rw [if_pos rfl]
            cases hov : ov.getD j none with
            | none => rfl
            | some u => exact hj2 rfl u hov
          · rw [getD_set_ne false (Ne.symm hji)] at hl
            rw [entj_update hji, hother j d' hj hji hd']
            exact inv.done j d' hj hd' hl
      unfold wpList at hwl
      show wpOp P ops.toArray (k.post P fn) i _ a w'
      unfold wpOp
      simp only [ho']
      split at hwl
      · rename_i hwant
        rw [if_pos hwant]
        rcases hwl with hwl | ⟨h1, h2⟩
        · left
          exact upon_frame (fun v w2 h => next v w2 h) (fun a2 w2 h => h.1) (fun c a w h => h) (fun h => h) hwl
        · exact .inr ⟨h1, h2⟩
      · rename_i hwant
        rw [if_neg hwant]
        exact next undef w' hwl
  have hlast := key (cnt (fun i => !(Array.replicate ops.toArray.size false).getD i false) n) (Array.replicate ops.toArray.size false) (fun _ => undef) a w.drew rfl
    ⟨by simp, fun t h1 h2 => getD_in (by simpa using h2) (getD_replicate_false _ _), ha.defers, ha.size, fun t v h _ => ha.at_ t v h, by rw [show (fun q => (Array.replicate ops.toArray.size false).getD q false) = fun _ => false from funext fun q => getD_replicate_false _ _]; exact hJ _, fun j hj h => (by rw [getD_replicate_false] at h; cases h), fun i d hi _ h => by rw [getD_replicate_false] at h; cases h⟩
  have hcn : ∀ q, cnt (fun i => !(Array.replicate ops.toArray.size false).getD i false) q = q := by
    intro q
    induction q with
    | zero => rfl
    | succ q ih =>
      have e : (fun i => !(Array.replicate ops.toArray.size false).getD i false) q = true := by show (!(Array.replicate ops.toArray.size false).getD q false) = true; rw [getD_replicate_false]; rfl
      unfold cnt
      rw [ih, if_pos e]
  rw [hcn n] at hlast
  have : n + (ops.length - n) = ops.toArray.size := by simp; omega
  rw [this] at hlast
  exact hlast
end
end Go.Wk
