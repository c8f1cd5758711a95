/- A region that draws its order, with a joint fact: each operation of its head is shown to lead from the fact of what is done to that of one more; the tail is walked in order. -/
import Derived.Test.YtoanecpanckkeaaDraw
namespace Go.Wk
open Go.RowKit

/-- the slot of an operation, if it has one -/
def dsto (ops : List Oper) (i : Nat) : Option Nat := (ops[i]?).bind (·.dst)
/-- an operation's value: told ahead, or as it came -/
def entj (ov : List (Option Value)) (vs : Nat → Value) (j : Nat) : Value := (ov.getD j none).getD (vs j)
def ents (ops : List Oper) (ov : List (Option Value)) (vs : Nat → Value) : List Nat → Env
  | [] => []
  | j :: r => match dsto ops j with
    | some d => (d, entj ov vs j) :: ents ops ov vs r
    | none => ents ops ov vs r
def valOf (d : Option Nat) (a : Act) : Value := match d with | some d => a.tmps.getD d undef | none => undef
abbrev Joint := (Nat → Bool) → (Nat → Value) → World → Prop
def StepK (J : Joint) (ov : List (Option Value)) (D : Nat → Bool) (vs : Nat → Value) (i : Nat) (d : Option Nat) : Act → World → Prop := fun a w2 =>
  a.defers = [] ∧ (d.isSome = true → ∀ u, ov.getD i none = some u → valOf d a = u) ∧ J (fun q => if q = i then true else D q) (fun q => if q = i then valOf d a else vs q) w2
def headOkJ (ops : List Oper) (deps : List (List Nat)) (n : Nat) : Bool :=
  (List.range n).all fun i => match ops[i]? with
    | some o => (o.after.all fun e => !Region.binds .any e || Nat.blt e.on i) && ((deps.getD i []).all fun j => o.after.any fun e => Region.binds .any e && e.on == j) &&
        (List.range i).all fun j => (dsto ops i).isNone || !(dsto ops j == dsto ops i)
    | none => false
def freeOfJ (l : Env) (ops : List Oper) (n : Nat) : Bool :=
  (List.range n).all fun i => match dsto ops i with | some d => (look l d).isNone | none => true

theorem below_drew (w : World) : Below w.heap.size w w.drew := ⟨rfl, rfl, rfl, Nat.le_refl _, fun _ _ => rfl, Nat.le_succ _⟩
section
variable {P : Program} {fn : Func} {k : Kont}

theorem N_stepJ {J : Joint} {ov : List (Option Value)} {D : Nat → Bool} {vs : Nat → Value} {i d : Nat} {w2 : World} {l : Env} {v : Value} (hl : look l d = some v) (hG : ∀ u, ov.getD i none = some u → v = u) (hJ : J (fun q => if q = i then true else D q) (fun q => if q = i then v else vs q) w2) : N P fn (.loop (StepK J ov D vs i (some d)) k) l w2 :=
  N_loop fun a ha => by
    have e : valOf (some d) a = v := ha.at_ d v hl
    exact ⟨ha.defers, fun _ u hu => by rw [e]; exact hG u hu, by rw [e]; exact hJ⟩
theorem N_stepJ0 {J : Joint} {ov : List (Option Value)} {D : Nat → Bool} {vs : Nat → Value} {i : Nat} {w2 : World} {l : Env} (hJ : J (fun q => if q = i then true else D q) (fun q => if q = i then undef else vs q) w2) : N P fn (.loop (StepK J ov D vs i none) k) l w2 :=
  N_loop fun a ha => ⟨ha.defers, fun h => (by cases h), hJ⟩

structure JInv (J : Joint) (fn : Func) (ops : List Oper) (l : Env) (ov : List (Option Value)) (n : Nat) (listed : Array Bool) (vs : Nat → Value) (a : Act) (w : World) : Prop where
  size : listed.size = ops.length
  tail : ∀ t, n ≤ t → t < ops.length → listed.getD t true = false
  slots : Slots l fn.ntmps a
  joint : J (fun q => listed.getD q false) vs w
  closed : ∀ j, j < n → listed.getD j false = true → ∀ i, i < n → Region.waitsFor .any ops.toArray j i = true → listed.getD i false = true
  done : ∀ i d, i < n → dsto ops i = some d → listed.getD i false = true → a.tmps.getD d undef = entj ov vs i

theorem ents_look {ops : List Oper} {ov : List (Option Value)} {vs : Nat → Value} : ∀ (js : List Nat) (l : Env) (t : Nat) (v : Value), look (ents ops ov vs js ++ l) t = some v →
    (∃ j, j ∈ js ∧ dsto ops j = some t ∧ entj ov vs j = v) ∨ look l t = some v := by
  intro js
  induction js with
  | nil => intro l t v h; exact .inr h
  | cons j r ih =>
    intro l t v h
    simp only [ents] at h
    cases hd : dsto ops j with
    | none =>
      rw [hd] at h
      rcases ih l t v h with ⟨j', h1, h2⟩ | h1
      · exact .inl ⟨j', by simp [h1], h2⟩
      · exact .inr h1
    | some d =>
      rw [hd] at h
      simp only [List.cons_append, look] at h
      cases hb : Nat.beq d t with
      | true =>
        rw [hb] at h
        have := Nat.eq_of_beq_eq_true hb
        subst this
        exact .inl ⟨j, by simp, hd, Option.some.inj h⟩
      | false =>
        rw [hb] at h
        rcases ih l t v h with ⟨j', h1, h2⟩ | h1
        · exact .inl ⟨j', by simp [h1], h2⟩
        · exact .inr h1
theorem entj_update {ov : List (Option Value)} {vs : Nat → Value} {i j : Nat} {v : Value} (h : j ≠ i) : entj ov (fun m => if m = i then v else vs m) j = entj ov vs j := by
  simp [entj, h]
/-- the steps -/
def StepGoalJ (P : Program) (fn : Func) (k : Kont) (J : Joint) (ops : List Oper) (deps : List (List Nat)) (ov : List (Option Value)) (l : Env) (i : Nat) (o : Oper) : Prop :=
  ∀ w' vs D, D i = false → (∀ j ∈ deps.getD i [], D j = true) → J D vs w' → W P fn (.loop (StepK J ov D vs i (dsto ops i)) k) ops.toArray [o] (ents ops ov vs (deps.getD i []) ++ l) w'
def StepsJ (P : Program) (fn : Func) (k : Kont) (J : Joint) (ops : List Oper) (deps : List (List Nat)) (ov : List (Option Value)) (l : Env) : Nat → List Oper → Prop
  | _, [] => True
  | i, o :: r => StepGoalJ P fn k J ops deps ov l i o ∧ StepsJ P fn k J ops deps ov l (i + 1) r
theorem StepsJ.at_ {J : Joint} {ops : List Oper} {deps : List (List Nat)} {ov : List (Option Value)} {l : Env} : ∀ (r : List Oper) (m i : Nat) (o : Oper), StepsJ P fn k J ops deps ov l m r → r[i]? = some o → StepGoalJ P fn k J ops deps ov l (m + i) o := by
  intro r
  induction r with
  | nil => intro m i o _ h; simp at h
  | cons x r ih =>
    intro m i o h hi
    cases i with
    | zero => simp at hi; subst hi; exact h.1
    | succ i => have := ih (m + 1) i o h.2 (by simpa using hi); rwa [show m + (i + 1) = m + 1 + i from by omega]

theorem C_drawJ {id : Nat} {ops : List Oper} {l : Env} {w : World} (J : Joint) (n : Nat) (deps : List (List Nat)) (ov : List (Option Value)) (hm : P.follows .mixedOrders = true) (hn : Nat.ble n ops.length = true) (hh : headOkJ ops deps n = true) (ht : tailOk ops n = true) (hf : freeOfJ l ops n = true)
    (hJ : ∀ vs, J (fun _ => false) vs w.drew)
    (hs : StepsJ P fn k J ops deps ov l 0 (ops.take n))
    (hfin : ∀ w' vs D, (∀ i, i < n → D i = true) → J D vs w' → W P fn k ops.toArray (ops.drop n) (ents ops ov vs (List.range n) ++ l) w') : C P fn k (.region id ops.toArray true) l w := by
  intro a ha
  refine wp_region_any hm ?_
  have hn' : n ≤ ops.length := Nat.le_of_ble_eq_true hn
  have hw : { w with drawn := w.drawn + 1 } = w.drew := rfl
  rw [hw]
  have HH : ∀ i, i < n → ∃ o, ops[i]? = some o ∧ dsto ops i = o.dst ∧ (∀ e ∈ o.after, Region.binds .any e = true → e.on < i) ∧ (∀ j ∈ deps.getD i [], ∃ e ∈ o.after, Region.binds .any e = true ∧ e.on = j) ∧ ∀ j d, j < i → dsto ops i = some d → dsto ops j ≠ some d := by
    intro i hi
    have h1 := List.all_eq_true.1 hh i (List.mem_range.2 hi)
    cases ho : ops[i]? with
    | none => simp [ho] at h1
    | some o =>
      simp only [ho, Bool.and_eq_true] at h1
      obtain ⟨⟨h3, h4⟩, h5⟩ := h1
      refine ⟨o, rfl, by simp [dsto, ho], ?_, ?_, ?_⟩
      · intro e he hb
        have := Array.all_eq_true_iff_forall_mem.1 h3 e he
        simpa [hb] using this
      · intro j hj
        have := List.all_eq_true.1 h4 j hj
        obtain ⟨e, he, hb⟩ := Array.any_eq_true'.1 this
        simp only [Bool.and_eq_true, beq_iff_eq] at hb
        exact ⟨e, he, hb.1, hb.2⟩
      · intro j d hj hd hd'
        have := List.all_eq_true.1 h5 j (List.mem_range.2 hj)
        rw [hd', hd] at this
        simp at this
  simp only [tailOk, Bool.and_eq_true] at ht
  obtain ⟨ht1, ht2⟩ := ht
  have HF : ∀ i d, i < n → dsto ops i = some d → look l d = none := by
    intro i d hi hd
    have := List.all_eq_true.1 hf i (List.mem_range.2 hi)
    rw [hd] at this
    simpa using this
  have key : ∀ (m : Nat) (listed : Array Bool) (vs : Nat → Value) (a : Act) (w' : World), cnt (fun i => !listed.getD i false) n = m → JInv J fn ops l ov n listed vs a w' →
      wpAny P .any ops.toArray (k.post P fn) (m + (ops.length - n)) listed a w' := by
    intro m
    induction m with
    | zero =>
      intro listed vs a w' hc inv
      have hall : ∀ i, i < n → listed.getD i false = true := fun i hi => by simpa using cnt_zero _ n hc i hi
      have hlisted : listed = ((List.range ops.length).map fun i => Nat.blt i n).toArray := by
        apply Array.ext
        · simp [inv.size]
        · intro i h1 h2
          have hi : i < ops.length := by rw [inv.size] at h1; exact h1
          have hr : ((List.range ops.length).map fun i => Nat.blt i n).toArray[i] = Nat.blt i n := by simp
          rw [hr]
          by_cases hin : i < n
          · have := hall i hin
            simp [Array.getD_eq_getD_getElem?, h1] at this
            rw [this]; symm; simpa using hin
          · have := inv.tail i (by omega) hi
            simp [Array.getD_eq_getD_getElem?, h1] at this
            rw [this]; symm
            cases hb : Nat.blt i n with
            | false => rfl
            | true => exact absurd (by simpa using hb) hin
      have hdl : (ops.drop n).length = ops.length - n := by simp
      have hgoal := hfin w' vs _ hall inv.joint
      have hsl : Slots (ents ops ov vs (List.range n) ++ l) fn.ntmps a := by
        refine ⟨inv.slots.defers, inv.slots.size, fun t v hv => ?_⟩
        rcases ents_look _ _ _ _ hv with ⟨j, hj, hd, hv'⟩ | hv'
        · have := inv.done j t (List.mem_range.1 hj) hd (hall j (List.mem_range.1 hj))
          rw [hv'] at this; exact this
        · exact inv.slots.at_ t v hv'
      have := wpAny_of_seq (P := P) (md := .any) (ops := ops.toArray) (Q' := k.post P fn) (ops.drop n) n listed a w' (fun j => by simp) (by rw [hdl, hlisted]; exact ht2) (hgoal a hsl)
      rw [hdl] at this
      rw [Nat.zero_add]; exact this
    | succ m ih =>
      intro listed vs a w' hc inv
      obtain ⟨i0, hi0, hu0, hmin⟩ := cnt_pos _ n (by omega : cnt (fun i => !listed.getD i false) n ≠ 0)
      have hi0' : listed.getD i0 false = false := by simpa using hu0
      have hready0 : i0 ∈ Region.ready .any ops.toArray listed := by
        obtain ⟨o, ho, _, he, _, _⟩ := HH i0 hi0
        refine mem_ready.2 ⟨getD_in (by rw [inv.size]; omega) hi0', o, by simpa using ho, fun e hme hb => ?_⟩
        have := hmin e.on (he e hme hb)
        simpa using this
      rw [show m + 1 + (ops.length - n) = (m + (ops.length - n)) + 1 from by omega]
      refine ⟨fun h0 => absurd hready0 (by rw [h0]; simp), fun i hi => ?_⟩
      obtain ⟨hun, o', ho', hall⟩ := mem_ready.1 hi
      have hilt : i < ops.length := by have := (Array.getElem?_eq_some_iff.1 ho').1; simpa using this
      have hin : i < n := by
        rcases Nat.lt_or_ge i n with h | h
        · exact h
        · exfalso
          have h1 := List.all_eq_true.1 ht1 i (List.mem_range.2 hilt)
          simp only [Bool.or_eq_true] at h1
          rcases h1 with (h1 | h1) | h1
          · have : i < n := by simpa using h1
            omega
          · obtain ⟨j, hj, h3⟩ := List.any_eq_true.1 h1
            simp only [Bool.and_eq_true] at h3
            obtain ⟨oj, hoj, e, he, hb, hon⟩ := Region.waitsFor_spec h3.2
            have : oj = o' := Option.some.inj (hoj.symm.trans ho')
            subst this
            have h2 := hall e he hb
            have h4 := inv.tail j (by simpa using h3.1) (List.mem_range.1 hj)
            have h5 : j < listed.size := by rw [inv.size]; exact List.mem_range.1 hj
            rw [hon] at h2
            simp [Array.getD_eq_getD_getElem?, h5] at h2 h4
            rw [h4] at h2; cases h2
          · have hdown : ∀ q j, j < n → n - j ≤ q → listed.getD j false = true := by
              intro q
              induction q with
              | zero => intro j hj hq; omega
              | succ q ihq =>
                intro j hj hq
                have h3 := List.all_eq_true.1 h1 j (List.mem_range.2 hj)
                simp only [Bool.or_eq_true] at h3
                rcases h3 with h3 | h3
                · obtain ⟨oj, hoj, e, he, hb, hon⟩ := Region.waitsFor_spec h3
                  have : oj = o' := Option.some.inj (hoj.symm.trans ho')
                  subst this
                  have h2 := hall e he hb
                  rw [hon] at h2; exact h2
                · obtain ⟨j2, hj2, h4⟩ := List.any_eq_true.1 h3
                  simp only [Bool.and_eq_true] at h4
                  have hlt : j < j2 := by simpa using h4.1
                  have hj2n := List.mem_range.1 hj2
                  exact inv.closed j2 hj2n (ihq j2 hj2n (by omega)) j hj h4.2
            have h2 := hdown n i0 hi0 (by omega)
            rw [hi0'] at h2; cases h2
      obtain ⟨o, ho, hdst, he, hdep, hne⟩ := HH i hin
      have : o' = o := by have : ops[i]? = some o' := by simpa using ho'
                          exact Option.some.inj (this.symm.trans ho)
      subst this
      have hstep := StepsJ.at_ (ops.take n) 0 i o' hs (by rw [List.getElem?_take_of_lt hin]; exact ho)
      rw [Nat.zero_add] at hstep
      have hdone : ∀ j ∈ deps.getD i [], j < n ∧ listed.getD j false = true := by
        intro j hj
        obtain ⟨e, hme, hb, hon⟩ := hdep j hj
        have h1 := hall e hme hb
        have h2 := he e hme hb
        rw [hon] at h1 h2
        exact ⟨by omega, h1⟩
      have hW := hstep w' vs _ (getD_both hun) (fun j hj => (hdone j hj).2) inv.joint
      have hsl : Slots (ents ops ov vs (deps.getD i []) ++ l) fn.ntmps a := by
        refine ⟨inv.slots.defers, inv.slots.size, fun t v hv => ?_⟩
        rcases ents_look _ _ _ _ hv with ⟨j, hj, hd', hv'⟩ | hv'
        · have := inv.done j t (hdone j hj).1 hd' (hdone j hj).2
          rw [hv'] at this; exact this
        · exact inv.slots.at_ t v hv'
      have hwl := hW a hsl
      have hcnt : cnt (fun j => !(listed.setIfInBounds i true).getD j false) n = m := by
        have := cnt_le (fun j => !listed.getD j false) (fun j => !(listed.setIfInBounds i true).getD j false) i (by simpa using getD_both hun)
          (by have hh : i < listed.size := by rw [inv.size]; exact hilt
              simp [Array.getD_eq_getD_getElem?, hh]) (fun j hj => by rw [getD_set_ne false (Ne.symm hj)]) n hin
        omega
      have next : ∀ v w2, StepK J ov (fun q => listed.getD q false) vs i (dsto ops i) (a.put o'.dst v) w2 → wpAny P .any ops.toArray (k.post P fn) (m + (ops.length - n)) (listed.setIfInBounds i true) (a.put o'.dst v) w2 := by
        intro v w2 hK
        obtain ⟨hj1, hj2, hj3⟩ := hK
        have hli : i < listed.size := by rw [inv.size]; exact hilt
        have hD : (fun q => (listed.setIfInBounds i true).getD q false) = fun q => if q = i then true else listed.getD q false := by
          funext q
          by_cases hqi : q = i
          · subst hqi; rw [if_pos rfl]; simp [Array.getD_eq_getD_getElem?, hli]
          · rw [if_neg hqi, getD_set_ne false (Ne.symm hqi)]
        have hput : Slots l fn.ntmps (a.put o'.dst v) := by
          cases hd : o'.dst with
          | none => rw [hd] at hj1; exact ⟨hj1, by simp [Act.put, inv.slots.size], fun t u hu => by simpa [Act.put] using inv.slots.at_ t u hu⟩
          | some d =>
            rw [hd] at hj1
            refine ⟨hj1, by simp [Act.put, inv.slots.size], fun t u hu => ?_⟩
            have hne' : d ≠ t := by intro e; subst e; rw [HF i d hin (by rw [hdst, hd])] at hu; cases hu
            have := inv.slots.at_ t u hu
            simp only [Act.put, Array.getD_eq_getD_getElem?, Array.getElem?_setIfInBounds] at this ⊢
            rw [if_neg hne']; exact this
        have hother : ∀ j d', j < n → j ≠ i → dsto ops j = some d' → (a.put o'.dst v).tmps.getD d' undef = a.tmps.getD d' undef := by
          intro j d' hj hji hd'
          cases hd : o'.dst with
          | none => rfl
          | some d =>
            have hdi : dsto ops i = some d := by rw [hdst, hd]
            have hne' : d ≠ d' := by
              intro e; subst e
              rcases Nat.lt_or_gt_of_ne hji with h | h
              · exact hne j d h hdi hd'
              · obtain ⟨_, _, _, _, _, hne2⟩ := HH j hj; exact hne2 i d h hd' hdi
            simp only [Act.put, Array.getD_eq_getD_getElem?, Array.getElem?_setIfInBounds]
            rw [if_neg hne']
        refine ih (listed.setIfInBounds i true) (fun q => if q = i then valOf (dsto ops i) (a.put o'.dst v) else vs q) _ w2 hcnt ⟨by simp [inv.size], ?_, hput, by rw [hD]; exact hj3, ?_, ?_⟩
        · intro t h1 h2
          rw [getD_set_ne true (by omega)]; exact inv.tail t h1 h2
        · intro j hj hl q hq hwf
          have hkeep : listed.getD q false = true → (listed.setIfInBounds i true).getD q false = true := by
            intro hq'
            by_cases hqi : q = i
            · subst hqi
              simp [Array.getD_eq_getD_getElem?, hli]
            · rw [getD_set_ne false (Ne.symm hqi)]; exact hq'
          by_cases hji : j = i
          · subst hji
            obtain ⟨oj, hoj, e, he', hb, hon⟩ := Region.waitsFor_spec hwf
            have : oj = o' := Option.some.inj (hoj.symm.trans ho')
            subst this
            have h2 := hall e he' hb
            rw [hon] at h2
            exact hkeep h2
          · rw [getD_set_ne false (Ne.symm hji)] at hl
            exact hkeep (inv.closed j hj hl q hq hwf)
        · intro j d' hj hd' hl
          by_cases hji : j = i
          · subst hji
            rw [hd'] at hj2
            rw [hd']
            show (a.put o'.dst v).tmps.getD d' undef = (ov.getD j none).getD (if j = j then valOf (some d') (a.put o'.dst v) else vs j)
            rw [if_pos rfl]
            cases hov : ov.getD j none with
            | none => rfl
            | some u => exact hj2 rfl u hov
          · rw [getD_set_ne false (Ne.symm hji)] at hl
            rw [entj_update hji, hother j d' hj hji hd']
            exact inv.done j d' hj hd' hl
      unfold wpList at hwl
      show wpOp P ops.toArray (k.post P fn) i _ a w'
      unfold wpOp
      simp only [ho']
      split at hwl
      · rename_i hwant
        rw [if_pos hwant]
        rcases hwl with hwl | ⟨h1, h2⟩
        · left
          exact upon_frame (fun v w2 h => next v w2 h) (fun a2 w2 h => h.1) (fun c a w h => h) (fun h => h) hwl
        · exact .inr ⟨h1, h2⟩
      · rename_i hwant
        rw [if_neg hwant]
        exact next undef w' hwl
  have hlast := key (cnt (fun i => !(Array.replicate ops.toArray.size false).getD i false) n) (Array.replicate ops.toArray.size false) (fun _ => undef) a w.drew rfl
    ⟨by simp, fun t h1 h2 => getD_in (by simpa using h2) (getD_replicate_false _ _), ha, by rw [show (fun q => (Array.replicate ops.toArray.size false).getD q false) = fun _ => false from funext fun q => getD_replicate_false _ _]; exact hJ _, fun j hj h => (by rw [getD_replicate_false] at h; cases h), fun i d hi _ h => by rw [getD_replicate_false] at h; cases h⟩
  have hcn : ∀ q, cnt (fun i => !(Array.replicate ops.toArray.size false).getD i false) q = q := by
    intro q
    induction q with
    | zero => rfl
    | succ q ih =>
      have e : (fun i => !(Array.replicate ops.toArray.size false).getD i false) q = true := by show (!(Array.replicate ops.toArray.size false).getD q false) = true; rw [getD_replicate_false]; rfl
      unfold cnt
      rw [ih, if_pos e]
  rw [hcn n] at hlast
  have : n + (ops.length - n) = ops.toArray.size := by simp; omega
  rw [this] at hlast
  exact hlast
end
end Go.Wk
