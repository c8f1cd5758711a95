/- A region that draws its order: each operation of its head is shown to do its work in whatever later world, its own operands given; the tail is walked in order. -/
import Derived.Test.YtoanecpanckkeaaInts
import Derived.StillTail
namespace Go.Wk
open Go.RowKit

def Stable (G : Value → World → Prop) : Prop := ∀ v w1 w2, Below w1.heap.size w1 w2 → G v w1 → G v w2

/-- what is known of an operation's value: the value, or a stable fact -/
inductive Gd where
  | val (v : Value)
  | pred (G : Value → World → Prop) (h : Stable G)
def Gd.ok : Gd → Value → World → Prop
  | .val u, v, _ => v = u
  | .pred G _, v, w => G v w
theorem Gd.stable (g : Gd) : Stable g.ok := by
  cases g with
  | val u => intro v w1 w2 _ h; exact h
  | pred G h => exact h

def dstOf (ops : List Oper) (i : Nat) : Nat :=
  match ops[i]? with
  | some o => o.dst.getD 0
  | none => 0
def entry (ops : List Oper) (Gs : List Gd) (vs : Nat → Value) (j : Nat) : Nat × Value :=
  match Gs[j]? with | some (.val u) => (dstOf ops j, u) | _ => (dstOf ops j, vs j)
theorem entry_fst (ops : List Oper) (Gs : List Gd) (vs : Nat → Value) (j : Nat) : (entry ops Gs vs j).1 = dstOf ops j := by
  unfold entry; split <;> rfl
theorem entry_pair (ops : List Oper) (Gs : List Gd) (vs : Nat → Value) (j : Nat) : entry ops Gs vs j = (dstOf ops j, (entry ops Gs vs j).2) := by
  rw [← entry_fst ops Gs vs j]
def entries (ops : List Oper) (Gs : List Gd) (vs : Nat → Value) : List Nat → Env
  | [] => []
  | j :: r => entry ops Gs vs j :: entries ops Gs vs r
def Hyps (Gs : List Gd) (vs : Nat → Value) (w : World) : List Nat → Prop
  | [] => True
  | j :: r => (match Gs[j]? with | some (.pred G _) => G (vs j) w | _ => True) ∧ Hyps Gs vs w r

/-- where a step of the head must come to -/
def StepJ (g : Gd) (d : Nat) (w' : World) : Act → World → Prop := fun a w2 => a.defers = [] ∧ g.ok (a.tmps.getD d undef) w2 ∧ Below w'.heap.size w' w2

/-- what is looked at of a region's text: n operations, then the tail -/
def headOk (ops : List Oper) (deps : List (List Nat)) (n : Nat) : Bool :=
  (List.range n).all fun i => match ops[i]? with
    | some o => o.dst.isSome && (o.after.all fun e => !Region.binds .any e || Nat.blt e.on i) && ((deps.getD i []).all fun j => o.after.any fun e => Region.binds .any e && e.on == j) &&
        (List.range i).all fun j => !(dstOf ops j == dstOf ops i)
    | none => false
def tailOk (ops : List Oper) (n : Nat) : Bool :=
  ((List.range ops.length).all fun t => Nat.blt t n || ((List.range ops.length).any fun j => Nat.ble n j && Region.waitsFor .any ops.toArray t j) || (List.range n).all fun i => Region.waitsFor .any ops.toArray t i || (List.range n).any fun j => Nat.blt i j && Region.waitsFor .any ops.toArray j i) &&
  Region.seqB .any ops.toArray (ops.length - n) n ((List.range ops.length).map fun i => Nat.blt i n).toArray
def freeOf (l : Env) (ops : List Oper) (n : Nat) : Bool :=
  (List.range n).all fun i => (look l (dstOf ops i)).isNone

section
variable {P : Program} {fn : Func} {k : Kont}

theorem N_step {g : Gd} {d : Nat} {w' w2 : World} {l : Env} {v : Value} (hl : look l d = some v) (hG : g.ok v w2) (hb : Below w'.heap.size w' w2) : N P fn (.loop (StepJ g d w') k) l w2 :=
  N_loop fun a ha => ⟨ha.defers, by rw [ha.at_ d v hl]; exact hG, hb⟩

theorem upon_frame {o : Oper} {a : Act} {K1 K2 : Act → World → Prop} {Q1 Q2 : Exit → Act → World → Prop} {r : Result Next} (hK : ∀ v w2, K1 (a.put o.dst v) w2 → K2 (a.put o.dst v) w2) (hd : ∀ a2 w2, K1 a2 w2 → a2.defers = [])
    (hQ : ∀ c a w, Q1 (.panic c) a w → Q2 (.panic c) a w) (hL : LetsOut Q1 → LetsOut Q2) (h : o.upon P a K1 Q1 r) : o.upon P a K2 Q2 r := by
  cases r with
  | ok x w' =>
    cases x with
    | value v => exact hK v w' h
    | skip => exact hK undef w' h
    | defer d => have := hd _ _ h; cases hdst : o.dst <;> simp [Act.put, hdst] at this
    | enter f args => exact Calls.mono h fun e w2 q => by cases e <;> first | exact hK _ _ q | exact hQ _ _ _ q | exact hL q
    | row row args => exact Rows.mono h fun v w2 q => hK _ _ q
    | _ => exact h
  | halt x w' => cases x <;> first | exact hQ _ _ _ h | exact h

def cnt (f : Nat → Bool) : Nat → Nat
  | 0 => 0
  | m + 1 => cnt f m + if f m then 1 else 0
theorem cnt_le (f g : Nat → Bool) (i : Nat) (hi : f i = true) (hg : g i = false) (he : ∀ j, j ≠ i → g j = f j) : ∀ n, i < n → cnt f n = cnt g n + 1 := by
  intro n
  induction n with
  | zero => intro h; omega
  | succ m ih =>
    intro h
    simp only [cnt]
    by_cases hm : i = m
    · subst hm
      have : ∀ m', m' ≤ i → cnt f m' = cnt g m' := by
        intro m'
        induction m' with
        | zero => intro _; rfl
        | succ q ihq => intro hq; simp only [cnt]; rw [ihq (by omega), he q (by omega)]
      rw [this i (Nat.le_refl _), hi, hg]; simp
    · rw [ih (by omega), he m (by omega)]; omega
theorem cnt_zero (f : Nat → Bool) : ∀ n, cnt f n = 0 → ∀ i, i < n → f i = false := by
  intro n
  induction n with
  | zero => intro _ i h; omega
  | succ m ih =>
    intro h i hi
    simp only [cnt] at h
    by_cases hm : i = m
    · subst hm
      cases hf : f i with
      | false => rfl
      | true => simp [hf] at h
    · exact ih (by omega) i (by omega)
theorem cnt_pos (f : Nat → Bool) : ∀ n, cnt f n ≠ 0 → ∃ i, i < n ∧ f i = true ∧ ∀ j, j < i → f j = false := by
  intro n
  induction n with
  | zero => intro h; simp [cnt] at h
  | succ m ih =>
    intro h
    by_cases hc : cnt f m = 0
    · refine ⟨m, by omega, ?_, fun j hj => cnt_zero f m hc j hj⟩
      simp only [cnt, hc] at h
      cases hf : f m with
      | true => rfl
      | false => simp [hf] at h
    · obtain ⟨i, hi, h1, h2⟩ := ih hc; exact ⟨i, by omega, h1, h2⟩

structure HInv (fn : Func) (ops : List Oper) (l : Env) (Gs : List Gd) (n : Nat) (w0 : World) (listed : Array Bool) (vs : Nat → Value) (a : Act) (w : World) : Prop where
  size : listed.size = ops.length
  tail : ∀ t, n ≤ t → t < ops.length → listed.getD t true = false
  slots : Slots l fn.ntmps a
  below : Below w0.heap.size w0 w
  closed : ∀ j, j < n → listed.getD j false = true → ∀ i, i < n → Region.waitsFor .any ops.toArray j i = true → listed.getD i false = true
  done : ∀ i, i < n → listed.getD i false = true → a.tmps.getD (dstOf ops i) undef = (entry ops Gs vs i).2 ∧ ∀ g, Gs[i]? = some g → g.ok (entry ops Gs vs i).2 w

theorem entries_look {ops : List Oper} {Gs : List Gd} {vs : Nat → Value} : ∀ (js : List Nat) (l : Env) (t : Nat) (v : Value), look (entries ops Gs vs js ++ l) t = some v →
    (∃ j, j ∈ js ∧ dstOf ops j = t ∧ (entry ops Gs vs j).2 = v) ∨ look l t = some v := by
  intro js
  induction js with
  | nil => intro l t v h; exact .inr h
  | cons j r ih =>
    intro l t v h
    simp only [entries, List.cons_append] at h
    rw [entry_pair] at h
    simp only [look] at h
    cases hb : Nat.beq (dstOf ops j) t with
    | true =>
      rw [hb] at h
      exact .inl ⟨j, by simp, Nat.eq_of_beq_eq_true hb, Option.some.inj h⟩
    | false =>
      rw [hb] at h
      rcases ih l t v h with ⟨j', h1, h2⟩ | h1
      · exact .inl ⟨j', by simp [h1], h2⟩
      · exact .inr h1

theorem hyps_of {Gs : List Gd} {vs : Nat → Value} {ops : List Oper} {w : World} : ∀ (js : List Nat), (∀ j, j ∈ js → ∀ g, Gs[j]? = some g → g.ok (entry ops Gs vs j).2 w) → Hyps Gs vs w js := by
  intro js
  induction js with
  | nil => intro _; trivial
  | cons j r ih =>
    intro h
    refine ⟨?_, ih fun j' hj' => h j' (by simp [hj'])⟩
    cases hg : Gs[j]? with
    | none => trivial
    | some g =>
      cases g with
      | val u => trivial
      | pred G hs => have := h j (by simp) _ hg; simpa [entry, hg, Gd.ok] using this

theorem entry_update {ops : List Oper} {Gs : List Gd} {vs : Nat → Value} {i j : Nat} {v : Value} (h : j ≠ i) : entry ops Gs (fun m => if m = i then v else vs m) j = entry ops Gs vs j := by
  simp [entry, h]

/-- the steps -/
def StepGoal (P : Program) (fn : Func) (k : Kont) (ops : List Oper) (deps : List (List Nat)) (Gs : List Gd) (l : Env) (w : World) (i : Nat) (o : Oper) : Prop :=
  ∀ w' vs, Below w.heap.size w w' → Hyps Gs vs w' (deps.getD i []) → W P fn (.loop (StepJ (Gs.getD i (.val undef)) (dstOf ops i) w') k) ops.toArray [o] (entries ops Gs vs (deps.getD i []) ++ l) w'
def Steps (P : Program) (fn : Func) (k : Kont) (ops : List Oper) (deps : List (List Nat)) (Gs : List Gd) (l : Env) (w : World) : Nat → List Oper → Prop
  | _, [] => True
  | i, o :: r => StepGoal P fn k ops deps Gs l w i o ∧ Steps P fn k ops deps Gs l w (i + 1) r
theorem Steps.at_ {ops : List Oper} {deps : List (List Nat)} {Gs : List Gd} {l : Env} {w : World} : ∀ (r : List Oper) (m i : Nat) (o : Oper), Steps P fn k ops deps Gs l w m r → r[i]? = some o → StepGoal P fn k ops deps Gs l w (m + i) o := by
  intro r
  induction r with
  | nil => intro m i o _ h; simp at h
  | cons x r ih =>
    intro m i o h hi
    cases i with
    | zero => simp at hi; subst hi; exact h.1
    | succ i => have := ih (m + 1) i o h.2 (by simpa using hi); rwa [show m + (i + 1) = m + 1 + i from by omega]

theorem C_draw {id : Nat} {ops : List Oper} {l : Env} {w : World} (n : Nat) (deps : List (List Nat)) (Gs : List Gd) (hm : P.follows .mixedOrders = true) (hn : Nat.ble n ops.length = true) (hlen : Nat.beq Gs.length n = true) (hh : headOk ops deps n = true) (ht : tailOk ops n = true) (hf : freeOf l ops n = true)
    (hs : Steps P fn k ops deps Gs l w 0 (ops.take n))
    (hfin : ∀ w' vs, Below w.heap.size w w' → Hyps Gs vs w' (List.range n) → W P fn k ops.toArray (ops.drop n) (entries ops Gs vs (List.range n) ++ l) w') : C P fn k (.region id ops.toArray true) l w := by
  intro a ha
  refine wp_region_any hm ?_
  have hn' : n ≤ ops.length := Nat.le_of_ble_eq_true hn
  have hlen' : Gs.length = n := Nat.eq_of_beq_eq_true hlen
  have hw : { w with drawn := w.drawn + 1 } = w.drew := rfl
  rw [hw]
  have HH : ∀ i, i < n → ∃ o d, ops[i]? = some o ∧ o.dst = some d ∧ dstOf ops i = d ∧ (∀ e ∈ o.after, Region.binds .any e = true → e.on < i) ∧ (∀ j ∈ deps.getD i [], ∃ e ∈ o.after, Region.binds .any e = true ∧ e.on = j) ∧ ∀ j, j < i → dstOf ops j ≠ dstOf ops i := by
    intro i hi
    have h1 := List.all_eq_true.1 hh i (List.mem_range.2 hi)
    cases ho : ops[i]? with
    | none => simp [ho] at h1
    | some o =>
      simp only [ho, Bool.and_eq_true] at h1
      obtain ⟨⟨⟨h2, h3⟩, h4⟩, h5⟩ := h1
      obtain ⟨d, hd⟩ := Option.isSome_iff_exists.1 h2
      refine ⟨o, d, rfl, hd, by simp [dstOf, ho, hd], ?_, ?_, ?_⟩
      · intro e he hb
        have := Array.all_eq_true_iff_forall_mem.1 h3 e he
        simpa [hb] using this
      · intro j hj
        have := List.all_eq_true.1 h4 j hj
        obtain ⟨e, he, hb⟩ := Array.any_eq_true'.1 this
        simp only [Bool.and_eq_true, beq_iff_eq] at hb
        exact ⟨e, he, hb.1, hb.2⟩
      · intro j hj
        have := List.all_eq_true.1 h5 j (List.mem_range.2 hj)
        simpa using this
  simp only [tailOk, Bool.and_eq_true] at ht
  obtain ⟨ht1, ht2⟩ := ht
  have HF : ∀ i, i < n → look l (dstOf ops i) = none := by
    intro i hi
    have := List.all_eq_true.1 hf i (List.mem_range.2 hi)
    simpa using this
  have key : ∀ (m : Nat) (listed : Array Bool) (vs : Nat → Value) (a : Act) (w' : World), cnt (fun i => !listed.getD i false) n = m → HInv fn ops l Gs n w listed vs a w' →
      wpAny P .any ops.toArray (k.post P fn) (m + (ops.length - n)) listed a w' := by
    intro m
    induction m with
    | zero =>
      intro listed vs a w' hc inv
      have hall : ∀ i, i < n → listed.getD i false = true := fun i hi => by simpa using cnt_zero _ n hc i hi
      have hlisted : listed = ((List.range ops.length).map fun i => Nat.blt i n).toArray := by
        apply Array.ext
        · simp [inv.size]
        · intro i h1 h2
          have hi : i < ops.length := by rw [inv.size] at h1; exact h1
          have hr : ((List.range ops.length).map fun i => Nat.blt i n).toArray[i] = Nat.blt i n := by simp
          rw [hr]
          by_cases hin : i < n
          · have := hall i hin
            simp [Array.getD_eq_getD_getElem?, h1] at this
            rw [this]; symm; simpa using hin
          · have := inv.tail i (by omega) hi
            simp [Array.getD_eq_getD_getElem?, h1] at this
            rw [this]; symm
            cases hb : Nat.blt i n with
            | false => rfl
            | true => exact absurd (by simpa using hb) hin
      have hdl : (ops.drop n).length = ops.length - n := by simp
      have hgoal := hfin w' vs inv.below (hyps_of (ops := ops) _ fun j hj g hg => (inv.done j (List.mem_range.1 hj) (hall j (List.mem_range.1 hj))).2 g hg)
      have hsl : Slots (entries ops Gs vs (List.range n) ++ l) fn.ntmps a := by
        refine ⟨inv.slots.defers, inv.slots.size, fun t v hv => ?_⟩
        rcases entries_look _ _ _ _ hv with ⟨j, hj, hd, hv'⟩ | hv'
        · have := (inv.done j (List.mem_range.1 hj) (hall j (List.mem_range.1 hj))).1
          rw [hd, hv'] at this; exact this
        · exact inv.slots.at_ t v hv'
      have := wpAny_of_seq (P := P) (md := .any) (ops := ops.toArray) (Q' := k.post P fn) (ops.drop n) n listed a w' (fun j => by simp) (by rw [hdl, hlisted]; exact ht2) (hgoal a hsl)
      rw [hdl] at this
      rw [Nat.zero_add]; exact this
    | succ m ih =>
      intro listed vs a w' hc inv
      obtain ⟨i0, hi0, hu0, hmin⟩ := cnt_pos _ n (by omega : cnt (fun i => !listed.getD i false) n ≠ 0)
      have hi0' : listed.getD i0 false = false := by simpa using hu0
      have hready0 : i0 ∈ Region.ready .any ops.toArray listed := by
        obtain ⟨o, d, ho, hd, _, he, _, _⟩ := HH i0 hi0
        refine mem_ready.2 ⟨getD_in (by rw [inv.size]; omega) hi0', o, by simpa using ho, fun e hme hb => ?_⟩
        have := hmin e.on (he e hme hb)
        simpa using this
      rw [show m + 1 + (ops.length - n) = (m + (ops.length - n)) + 1 from by omega]
      refine ⟨fun h0 => absurd hready0 (by rw [h0]; simp), fun i hi => ?_⟩
      obtain ⟨hun, o', ho', hall⟩ := mem_ready.1 hi
      have hilt : i < ops.length := by have := (Array.getElem?_eq_some_iff.1 ho').1; simpa using this
      have hin : i < n := by
        rcases Nat.lt_or_ge i n with h | h
        · exact h
        · exfalso
          have h1 := List.all_eq_true.1 ht1 i (List.mem_range.2 hilt)
          simp only [Bool.or_eq_true] at h1
          rcases h1 with (h1 | h1) | h1
          · have : i < n := by simpa using h1
            omega
          · obtain ⟨j, hj, h3⟩ := List.any_eq_true.1 h1
            simp only [Bool.and_eq_true] at h3
            obtain ⟨oj, hoj, e, he, hb, hon⟩ := Region.waitsFor_spec h3.2
            have : oj = o' := Option.some.inj (hoj.symm.trans ho')
            subst this
            have h2 := hall e he hb
            have h4 := inv.tail j (by simpa using h3.1) (List.mem_range.1 hj)
            have h5 : j < listed.size := by rw [inv.size]; exact List.mem_range.1 hj
            rw [hon] at h2
            simp [Array.getD_eq_getD_getElem?, h5] at h2 h4
            rw [h4] at h2; cases h2
          · have hdown : ∀ q j, j < n → n - j ≤ q → listed.getD j false = true := by
              intro q
              induction q with
              | zero => intro j hj hq; omega
              | succ q ihq =>
                intro j hj hq
                have h3 := List.all_eq_true.1 h1 j (List.mem_range.2 hj)
                simp only [Bool.or_eq_true] at h3
                rcases h3 with h3 | h3
                · obtain ⟨oj, hoj, e, he, hb, hon⟩ := Region.waitsFor_spec h3
                  have : oj = o' := Option.some.inj (hoj.symm.trans ho')
                  subst this
                  have h2 := hall e he hb
                  rw [hon] at h2; exact h2
                · obtain ⟨j2, hj2, h4⟩ := List.any_eq_true.1 h3
                  simp only [Bool.and_eq_true] at h4
                  have hlt : j < j2 := by simpa using h4.1
                  have hj2n := List.mem_range.1 hj2
                  exact inv.closed j2 hj2n (ihq j2 hj2n (by omega)) j hj h4.2
            have h2 := hdown n i0 hi0 (by omega)
            rw [hi0'] at h2; cases h2
      obtain ⟨o, d, ho, hd, hdst, he, hdep, hne⟩ := HH i hin
      have : o' = o := by have : ops[i]? = some o' := by simpa using ho'
                          exact Option.some.inj (this.symm.trans ho)
      subst this
      have hstep := Steps.at_ (ops.take n) 0 i o' hs (by rw [List.getElem?_take_of_lt hin]; exact ho)
      rw [Nat.zero_add] at hstep
      have hdone : ∀ j ∈ deps.getD i [], j < n ∧ listed.getD j false = true := by
        intro j hj
        obtain ⟨e, hme, hb, hon⟩ := hdep j hj
        have h1 := hall e hme hb
        have h2 := he e hme hb
        rw [hon] at h1 h2
        exact ⟨by omega, h1⟩
      have hW := hstep w' vs inv.below
        (hyps_of (ops := ops) _ fun j hj g hg => (inv.done j (hdone j hj).1 (hdone j hj).2).2 g hg)
      have hsl : Slots (entries ops Gs vs (deps.getD i []) ++ l) fn.ntmps a := by
        refine ⟨inv.slots.defers, inv.slots.size, fun t v hv => ?_⟩
        rcases entries_look _ _ _ _ hv with ⟨j, hj, hd', hv'⟩ | hv'
        · have := (inv.done j (hdone j hj).1 (hdone j hj).2).1
          rw [hd', hv'] at this; exact this
        · exact inv.slots.at_ t v hv'
      have hwl := hW a hsl
      have hcnt : cnt (fun j => !(listed.setIfInBounds i true).getD j false) n = m := by
        have := cnt_le (fun j => !listed.getD j false) (fun j => !(listed.setIfInBounds i true).getD j false) i (by simpa using getD_both hun)
          (by have hh : i < listed.size := by rw [inv.size]; exact hilt
              simp [Array.getD_eq_getD_getElem?, hh]) (fun j hj => by rw [getD_set_ne false (Ne.symm hj)]) n hin
        omega
      have next : ∀ v w2, StepJ (Gs.getD i (.val undef)) (dstOf ops i) w' (a.put o'.dst v) w2 → wpAny P .any ops.toArray (k.post P fn) (m + (ops.length - n)) (listed.setIfInBounds i true) (a.put o'.dst v) w2 := by
        intro v w2 hJ
        obtain ⟨hj1, hj2, hj3⟩ := hJ
        rw [hd] at hj1 hj2 ⊢
        have hput : Slots l fn.ntmps (a.put (some d) v) := by
          refine ⟨hj1, by simp [Act.put, inv.slots.size], fun t u hu => ?_⟩
          have hne' : d ≠ t := by intro e; subst e; rw [← hdst, HF i hin] at hu; cases hu
          have := inv.slots.at_ t u hu
          simp only [Act.put, Array.getD_eq_getD_getElem?, Array.getElem?_setIfInBounds] at this ⊢
          rw [if_neg hne']; exact this
        have hother : ∀ j, j < n → j ≠ i → (a.put (some d) v).tmps.getD (dstOf ops j) undef = a.tmps.getD (dstOf ops j) undef := by
          intro j hj hji
          have hne' : d ≠ dstOf ops j := by
            rw [← hdst]
            rcases Nat.lt_or_gt_of_ne hji with h | h
            · exact fun e => hne j h e.symm
            · obtain ⟨_, _, _, _, _, _, _, hne2⟩ := HH j hj; exact fun e => hne2 i h e
          simp only [Act.put, Array.getD_eq_getD_getElem?, Array.getElem?_setIfInBounds]
          rw [if_neg hne']
        have hgi : Gs[i]? = some (Gs.getD i (.val undef)) := by
          have : i < Gs.length := by omega
          simp [this]
        have hent : (entry ops Gs (fun q => if q = i then (a.put (some d) v).tmps.getD (dstOf ops i) undef else vs q) i).2 = (a.put (some d) v).tmps.getD (dstOf ops i) undef := by
          cases hg : Gs.getD i (.val undef) with
          | val u => rw [hg] at hgi hj2; simp only [entry, hgi]; exact hj2.symm
          | pred G hst => rw [hg] at hgi; simp [entry, hgi]
        refine ih (listed.setIfInBounds i true) (fun q => if q = i then (a.put (some d) v).tmps.getD (dstOf ops i) undef else vs q) _ w2 hcnt ⟨by simp [inv.size], ?_, hput, inv.below.trans (hj3.mono inv.below.size), ?_, ?_⟩
        · intro t h1 h2
          rw [getD_set_ne true (by omega)]; exact inv.tail t h1 h2
        · intro j hj hl q hq hwf
          have hkeep : listed.getD q false = true → (listed.setIfInBounds i true).getD q false = true := by
            intro hq'
            by_cases hqi : q = i
            · subst hqi
              have hh : q < listed.size := by rw [inv.size]; exact hilt
              simp [Array.getD_eq_getD_getElem?, hh]
            · rw [getD_set_ne false (Ne.symm hqi)]; exact hq'
          by_cases hji : j = i
          · subst hji
            obtain ⟨oj, hoj, e, he', hb, hon⟩ := Region.waitsFor_spec hwf
            have : oj = o' := Option.some.inj (hoj.symm.trans ho')
            subst this
            have h2 := hall e he' hb
            rw [hon] at h2
            exact hkeep h2
          · rw [getD_set_ne false (Ne.symm hji)] at hl
            exact hkeep (inv.closed j hj hl q hq hwf)
        · intro j hj hl
          by_cases hji : j = i
          · subst hji
            rw [hent]
            refine ⟨rfl, fun g hg => ?_⟩
            have : g = Gs.getD j (.val undef) := Option.some.inj (hg.symm.trans hgi)
            rw [this]; exact hj2
          · rw [getD_set_ne false (Ne.symm hji)] at hl
            obtain ⟨h1, h2⟩ := inv.done j hj hl
            rw [entry_update hji, hother j hj hji]
            exact ⟨h1, fun g hg => g.stable _ _ _ hj3 (h2 g hg)⟩
      unfold wpList at hwl
      show wpOp P ops.toArray (k.post P fn) i _ a w'
      unfold wpOp
      simp only [ho']
      split at hwl
      · rename_i hwant
        rw [if_pos hwant]
        rcases hwl with hwl | ⟨h1, h2⟩
        · left
          exact upon_frame (fun v w2 h => next v w2 h) (fun a2 w2 h => h.1) (fun c a w h => h) (fun h => h) hwl
        · exact .inr ⟨h1, h2⟩
      · rename_i hwant
        rw [if_neg hwant]
        exact next undef w' hwl
  have hlast := key (cnt (fun i => !(Array.replicate ops.toArray.size false).getD i false) n) (Array.replicate ops.toArray.size false) (fun _ => undef) a w.drew rfl
    ⟨by simp, fun t h1 h2 => getD_in (by simpa using h2) (getD_replicate_false _ _), ha, ⟨rfl, rfl, rfl, Nat.le_refl _, fun _ _ => rfl, Nat.le_succ _⟩, fun j hj h => (by rw [getD_replicate_false] at h; cases h), fun i hi h => by rw [getD_replicate_false] at h; cases h⟩
  have hcn : ∀ q, cnt (fun i => !(Array.replicate ops.toArray.size false).getD i false) q = q := by
    intro q
    induction q with
    | zero => rfl
    | succ q ih =>
      have e : (fun i => !(Array.replicate ops.toArray.size false).getD i false) q = true := by show (!(Array.replicate ops.toArray.size false).getD q false) = true; rw [getD_replicate_false]; rfl
      unfold cnt
      rw [ih, if_pos e]
  rw [hcn n] at hlast
  have : n + (ops.length - n) = ops.toArray.size := by simp; omega
  rw [this] at hlast
  exact hlast
end
end Go.Wk
