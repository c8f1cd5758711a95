/- The walk's core in a form of our own: slot facts as a list, continuations as data, rules for code and operations. Nothing here speaks of any program. -/
import Derived.WalkKit
import Derived.Deep.LoopGhost
namespace Go.Wk

abbrev Env := List (Nat × Value)

def look : Env → Nat → Option Value
  | [], _ => none
  | (k, v) :: l, t => match Nat.beq k t with | true => some v | false => look l t

def ev (l : Env) : Operand → Option Value
  | .tmp t => look l t
  | .const v => some v
  | .global g => some (.pointer (some ⟨g, 0, none⟩))
  | .func f => some (.func (.func f) #[] #[])

structure Slots (l : Env) (n : Nat) (a : Act) : Prop where
  defers : a.defers = []
  size : a.tmps.size = n
  at_ : ∀ t v, look l t = some v → a.tmps.getD t undef = v

theorem Slots.eval {l : Env} {n : Nat} {a : Act} (h : Slots l n a) {x : Operand} {v : Value} (hx : ev l x = some v) : a.eval x = v := by
  cases x with
  | tmp t => exact h.at_ t v hx
  | const c => exact Option.some.inj hx
  | global g => exact Option.some.inj hx
  | func f => exact Option.some.inj hx

theorem Slots.put {l : Env} {n : Nat} {a : Act} (h : Slots l n a) {d : Nat} (v : Value) (hd : Nat.blt d n = true) : Slots ((d, v) :: l) n (a.put (some d) v) := by
  have hd' : d < n := by simpa using hd
  refine ⟨h.defers, by simp [Act.put, h.size], fun t u hu => ?_⟩
  simp only [look] at hu
  cases hb : Nat.beq d t with
  | true =>
    rw [hb] at hu
    have : d = t := Nat.eq_of_beq_eq_true hb
    subst this
    have : v = u := by simpa using hu
    subst this
    simp [Act.put, Array.getD, h.size, hd']
  | false =>
    rw [hb] at hu
    have hne : d ≠ t := Nat.ne_of_beq_eq_false hb
    have := h.at_ t u hu
    simp only [Act.put, Array.getD_eq_getD_getElem?, Array.getElem?_setIfInBounds] at this ⊢
    rw [if_neg hne]
    exact this

/-- every fact of the first list is one of the second -/
def Sub : Env → Env → Prop
  | [], _ => True
  | (t, v) :: r, l => look l t = some v ∧ Sub r l

theorem Sub.look {r l : Env} (h : Sub r l) : ∀ t v, look r t = some v → look l t = some v := by
  induction r with
  | nil => intro t v h; simp [Wk.look] at h
  | cons x r ih =>
    obtain ⟨k, u⟩ := x
    intro t v hv
    simp only [Wk.look] at hv
    cases hb : Nat.beq k t with
    | true =>
      rw [hb] at hv
      have : k = t := Nat.eq_of_beq_eq_true hb
      subst this
      have : u = v := by simpa using hv
      subst this
      exact h.1
    | false => rw [hb] at hv; exact ih h.2 t v hv

theorem Slots.sub {r l : Env} {n : Nat} {a : Act} (hs : Slots l n a) (h : Sub r l) : Slots r n a :=
  ⟨hs.defers, hs.size, fun t v hv => hs.at_ t v (h.look t v hv)⟩

theorem look_eq {l : Env} {t : Nat} {v u : Value} (h : look l t = some v) (e : v = u) : look l t = some u := e ▸ h
theorem look_int {l : Env} {t : Nat} {k : IntKind} {x y : Int} (h : look l t = some (.int k x)) (e : x = y) : look l t = some (.int k y) := e ▸ h
theorem look_bool {l : Env} {t : Nat} {x y : Bool} (h : look l t = some (.bool x)) (e : x = y) : look l t = some (.bool y) := e ▸ h

theorem ev_int {l : Env} {x : Operand} {k : IntKind} {m n : Int} (h : ev l x = some (.int k m)) (e : m = n) : ev l x = some (.int k n) := e ▸ h
/-- What is still to be done behind a piece of code. -/
inductive Kont where
  | done (R : Value → World → Prop)
  | code (y : Code) (k : Kont)
  | block (id : Nat) (k : Kont)
  | loop (J : Act → World → Prop) (k : Kont)

/-- A call that returns, and nothing else. -/
def retOnly (R : Value → World → Prop) : Ending → World → Prop
  | .returned v, w => R v w
  | _, _ => False

def Ret (P : Program) (f : FuncId) (args : Array Value) (w : World) (R : Value → World → Prop) : Prop := Calls P f args w (retOnly R)

theorem Ret.mono {P : Program} {f : FuncId} {args : Array Value} {w : World} {R R' : Value → World → Prop} (h : Ret P f args w R) (hr : ∀ v w', R v w' → R' v w') : Ret P f args w R' :=
  Calls.mono h fun e w' q => by cases e <;> first | exact hr _ _ q | exact q.elim

def Kont.post (P : Program) (fn : Func) : Kont → Exit → Act → World → Prop
  | .done R => bodyPost P fn (retOnly R)
  | .code y k => Exit.then (y.wp P (k.post P fn)) (k.post P fn)
  | .block id k => Exit.inBlock id (k.post P fn)
  | .loop J k => Exit.then J (k.post P fn)

/-- where a return ends -/
def Kont.final : Kont → Value → World → Prop
  | .done R => R
  | .code _ k => k.final
  | .block _ k => k.final
  | .loop _ k => k.final

/-- behind 'exit id' -/
def Kont.upTo (id : Nat) : Kont → Option Kont
  | .done _ => none
  | .code _ k => k.upTo id
  | .block i k => match Nat.beq id i with | true => some k | false => k.upTo id
  | .loop _ k => k.upTo id

section
variable (P : Program) (fn : Func)
/-- the code -/
def C (k : Kont) (c : Code) (l : Env) (w : World) : Prop := ∀ a, Slots l fn.ntmps a → c.wp P (k.post P fn) a w
/-- the rest of a region -/
def W (k : Kont) (ops : Array Oper) (rest : List Oper) (l : Env) (w : World) : Prop := ∀ a, Slots l fn.ntmps a → wpList P ops (k.post P fn) rest a w
/-- what stands behind -/
def N (k : Kont) (l : Env) (w : World) : Prop := ∀ a, Slots l fn.ntmps a → k.post P fn .normal a w
end

section rules
variable {P : Program} {fn : Func} {k : Kont} {l : Env} {w : World}

theorem C_region {id : Nat} {ops : List Oper} (h : W P fn k ops.toArray ops l w) : C P fn k (.region id ops.toArray false) l w :=
  fun a ha => wp_region_lit (h a ha)
theorem C_seq {x y : Code} (h : C P fn (.code y k) x l w) : C P fn k (.seq x y) l w := fun a ha => wp_seq (h a ha)
theorem C_skip (h : N P fn k l w) : C P fn k .skip l w := fun a ha => wp_skip (h a ha)
theorem C_label {i : Nat} (h : N P fn k l w) : C P fn k (.label i) l w := fun a ha => wp_label (h a ha)
theorem C_block {id : Nat} {c : Code} (h : C P fn (.block id k) c l w) : C P fn k (.block id c) l w := fun a ha => wp_block (h a ha)
theorem C_cond {x : Operand} {c d : Code} {t : Bool} (hx : ev l x = some (.bool t)) (ht : t = true → C P fn k c l w) (hf : t = false → C P fn k d l w) : C P fn k (.cond x c d) l w :=
  fun a ha => wp_cond_split (ha.eval hx) (fun e => ht e a ha) (fun e => hf e a ha)
theorem C_cond_t {x : Operand} {c d : Code} (hx : ev l x = some (.bool true)) (ht : C P fn k c l w) : C P fn k (.cond x c d) l w :=
  fun a ha => wp_cond_true (ha.eval hx) (ht a ha)
theorem C_cond_f {x : Operand} {c d : Code} (hx : ev l x = some (.bool false)) (hf : C P fn k d l w) : C P fn k (.cond x c d) l w :=
  fun a ha => wp_cond_false (ha.eval hx) (hf a ha)
theorem W_nil {ops : Array Oper} (h : N P fn k l w) : W P fn k ops [] l w := fun a ha => wpList_nil (h a ha)
theorem N_code {y : Code} (h : C P fn k y l w) : N P fn (.code y k) l w := fun a ha => h a ha
theorem N_block {id : Nat} (h : N P fn k l w) : N P fn (.block id k) l w := fun a ha => h a ha
theorem N_loop {J : Act → World → Prop} (h : ∀ a, Slots l fn.ntmps a → J a w) : N P fn (.loop J k) l w := fun a ha => h a ha

theorem upTo_post {id : Nat} {k k' : Kont} (h : k.upTo id = some k') {a : Act} {w : World} (hn : k'.post P fn .normal a w) : k.post P fn (.exit id) a w := by
  induction k with
  | done R => simp [Kont.upTo] at h
  | code y k ih => exact ih h
  | loop J k ih => exact ih h
  | block i k ih =>
    simp only [Kont.upTo] at h
    show Exit.inBlock i (k.post P fn) (.exit id) a w
    simp only [Exit.inBlock]
    cases hb : Nat.beq id i with
    | true =>
      rw [hb] at h
      have e : id = i := Nat.eq_of_beq_eq_true hb
      have : k = k' := by simpa using h
      subst this
      rw [if_pos e]
      exact hn
    | false =>
      rw [hb] at h
      have e : id ≠ i := Nat.ne_of_beq_eq_false hb
      rw [if_neg e]
      exact ih h

theorem C_exit {id : Nat} (k' : Kont) (h : k.upTo id = some k') (hn : N P fn k' l w) : C P fn k (.exit id) l w :=
  fun a ha => wp_exit (upTo_post h (hn a ha))

theorem final_post (k : Kont) {a : Act} {w : World} {v : Value} (hd : a.defers = []) (hr : (results fn a.tmps).run P w = .ok v w) (hR : k.final v w) : k.post P fn .ret a w := by
  induction k with
  | done R => exact ⟨hd, v, hr, hR⟩
  | code y k ih => exact ih hR
  | loop J k ih => exact ih hR
  | block i k ih => exact ih hR

/-- the results' values -/
def outs (l : Env) : List ResultVar → Option (List Value)
  | [] => some []
  | .tmp t :: r => match look l t, outs l r with | some v, some vs => some (v :: vs) | _, _ => none
  | .cell _ _ :: _ => none
def asOne : List Value → Value
  | [v] => v
  | vs => .tuple vs.toArray

theorem outs_run {l : Env} {n : Nat} {a : Act} (ha : Slots l n a) (f : ResultVar → Sem Value) (hf : ∀ t, f (.tmp t) = pure (a.tmps.getD t undef)) : ∀ (rs : List ResultVar) (vs : List Value), outs l rs = some vs →
    (rs.mapM f).run P w = .ok vs w := by
  intro rs
  induction rs with
  | nil => intro vs h; simp [outs] at h; subst h; simp
  | cons r rs ih =>
    intro vs h
    cases r with
    | cell x t => simp [outs] at h
    | tmp t =>
      simp only [outs] at h
      cases h1 : look l t with
      | none => simp [h1] at h
      | some v =>
        cases h2 : outs l rs with
        | none => simp [h1, h2] at h
        | some us =>
          simp [h1, h2] at h
          subst h
          simp only [List.mapM_cons, Sem.run_bind, Sem.run_pure, Result.andThen_ok, ih us h2, hf, ha.at_ t v h1]

theorem results_run {a : Act} (ha : Slots l fn.ntmps a) {rs : List ResultVar} (hrs : fn.results = rs.toArray) {vs : List Value} (hv : outs l rs = some vs) : (results fn a.tmps).run P w = .ok (asOne vs) w := by
  unfold results
  rw [hrs, Sem.run_bind]
  rw [List.mapM_toArray, Sem.run_map]
  rw [outs_run (P := P) (w := w) ha _ (fun t => rfl) rs vs hv]
  simp only [Result.andThen_ok, Sem.run_pure]
  match vs with
  | [] => simp [asOne]
  | [v] => simp [asOne]
  | v :: u :: r => simp [asOne]

theorem C_ret {rs : List ResultVar} (hrs : fn.results = rs.toArray) {vs : List Value} (hv : outs l rs = some vs) (hR : k.final (asOne vs) w) : C P fn k .ret l w :=
  fun _ ha => wp_ret (final_post k ha.defers (results_run ha hrs hv) hR)

/-- results that lie in memory, or a mixture: the run itself is given -/
theorem C_ret_run {v : Value} (hr : ∀ a, Slots l fn.ntmps a → (results fn a.tmps).run P w = .ok v w) (hR : k.final v w) : C P fn k .ret l w :=
  fun a ha => wp_ret (final_post k ha.defers (hr a ha) hR)

/-- a function's end without a return -/
theorem N_done {R : Value → World → Prop} {rs : List ResultVar} (hrs : fn.results = rs.toArray) {vs : List Value} (hv : outs l rs = some vs) (hR : R (asOne vs) w) : N P fn (.done R) l w :=
  fun _ ha => ⟨ha.defers, _, results_run ha hrs hv, hR⟩

theorem C_sub {r : Env} (hs : Sub r l) {c : Code} (h : C P fn k c r w) : C P fn k c l w := fun a ha => h a (ha.sub hs)
theorem W_sub {r : Env} (hs : Sub r l) {ops : Array Oper} {rest : List Oper} (h : W P fn k ops rest r w) : W P fn k ops rest l w := fun a ha => h a (ha.sub hs)
theorem N_sub {r : Env} (hs : Sub r l) (h : N P fn k r w) : N P fn k l w := fun a ha => h a (ha.sub hs)

/-- A LOOP: a state of the proof's own, which each round hands on at a smaller measure. -/
def Again {σ : Type} (n : Nat) (Inv : σ → World → Prop) (E : σ → Env) (m : σ → Nat) (x : σ) : Act → World → Prop :=
  fun a w => ∃ x', Inv x' w ∧ Slots (E x') n a ∧ m x' < m x

theorem C_loop {σ : Type} (Inv : σ → World → Prop) (E : σ → Env) (m : σ → Nat) (x0 : σ) {c : Code} (h0 : Inv x0 w) (hE : Sub (E x0) l)
    (round : ∀ x w', Inv x w' → C P fn (.loop (Again fn.ntmps Inv E m x) k) c (E x) w') : C P fn k (.loop c) l w := by
  intro a ha
  refine wp_loop_ghost (fun n a w => ∃ x, Inv x w ∧ Slots (E x) fn.ntmps a ∧ m x = n) (m x0) ⟨x0, h0, ha.sub hE, rfl⟩ ?_
  rintro n a' w' ⟨x, hI, hs, hm⟩
  refine wp_mono (round x w' hI a' hs) ?_
  intro e a2 w2 hq
  cases e with
  | normal =>
    obtain ⟨x', hI', hs', hlt⟩ := hq
    exact ⟨m x', hm ▸ hlt, x', hI', hs', rfl⟩
  | exit id => exact hq
  | goto l => exact hq
  | ret => exact hq
  | panic ch => exact hq
  | outgrown => exact hq

theorem N_again {σ : Type} {Inv : σ → World → Prop} {E : σ → Env} {m : σ → Nat} {x : σ} (x' : σ) (hI : Inv x' w) (hE : Sub (E x') l) (hm : m x' < m x) : N P fn (.loop (Again fn.ntmps Inv E m x) k) l w :=
  N_loop fun _ ha => ⟨x', hI, ha.sub hE, hm⟩

/-- WAYS MEET AGAIN: behind a piece of code a relation is all that is known. -/
def Join (n : Nat) (J : Env → World → Prop) : Act → World → Prop := fun a w => ∃ l, J l w ∧ Slots l n a
theorem C_seq_join (J : Env → World → Prop) {x y : Code} (hx : C P fn (.loop (Join fn.ntmps J) k) x l w) (hy : ∀ l' w', J l' w' → C P fn k y l' w') : C P fn k (.seq x y) l w := by
  intro a ha
  refine wp_seq (wp_mono (hx a ha) ?_)
  intro e a2 w2 hq
  cases e with
  | normal => obtain ⟨l', hJ, hs⟩ := hq; exact hy l' w2 hJ a2 hs
  | exit id => exact hq
  | goto l => exact hq
  | ret => exact hq
  | panic ch => exact hq
  | outgrown => exact hq
theorem N_join {J : Env → World → Prop} (l' : Env) (hJ : J l' w) (hs : Sub l' l) : N P fn (.loop (Join fn.ntmps J) k) l w :=
  N_loop fun _ ha => ⟨l', hJ, ha.sub hs⟩

/-- the arguments' slots -/
def argEnv : Nat → List Value → Env
  | _, [] => []
  | i, v :: vs => (i, v) :: argEnv (i + 1) vs

theorem look_argEnv : ∀ (vs : List Value) (i t : Nat) (v : Value), look (argEnv i vs) t = some v → i ≤ t ∧ vs[t - i]? = some v := by
  intro vs
  induction vs with
  | nil => intro i t v h; simp [argEnv, look] at h
  | cons u us ih =>
    intro i t v h
    simp only [argEnv, look] at h
    cases hb : Nat.beq i t with
    | true =>
      rw [hb] at h
      have e : i = t := Nat.eq_of_beq_eq_true hb
      subst e
      have : u = v := by simpa using h
      subst this
      simp
    | false =>
      rw [hb] at h
      have hne : i ≠ t := Nat.ne_of_beq_eq_false hb
      obtain ⟨h1, h2⟩ := ih (i + 1) t v h
      refine ⟨by omega, ?_⟩
      rw [show t - i = (t - (i + 1)) + 1 from by omega]
      simpa using h2

theorem Ret_of {f : FuncId} {c : Code} {args : List Value} {R : Value → World → Prop} (hf : P.funcs[f]? = some fn) (hb : fn.body = some c) (hn : Nat.ble args.length fn.ntmps = true)
    (h : C P fn (.done R) c (argEnv 0 args) w) : Ret P f args.toArray w R := by
  refine calls_of_wp hf hb (h _ ⟨rfl, ?_, ?_⟩)
  · have : args.length ≤ fn.ntmps := Nat.le_of_ble_eq_true hn
    simp; omega
  · intro t v hv
    obtain ⟨_, h2⟩ := look_argEnv args 0 t v hv
    simp only [Nat.sub_zero] at h2
    have ht : t < args.length := (List.getElem?_eq_some_iff.1 h2).1
    simp only [Array.getD_eq_getD_getElem?]
    rw [Array.getElem?_append_left (by simpa using ht)]
    simp [h2]

/-- ONE OPERATION that gives a value. -/
theorem W_val {ops : Array Oper} {o : Oper} {rest : List Oper} {d : Nat} {v : Value} {w' : World} (hg : o.guard = none) (hd : o.dst = some d) (hlt : Nat.blt d fn.ntmps = true)
    (hrun : ∀ a, Slots l fn.ntmps a → (execOp a.eval o).run P w = .ok (.value v) w') (h : W P fn k ops rest ((d, v) :: l) w') : W P fn k ops (o :: rest) l w := by
  intro a ha
  refine wpList_plain hg fun K hK => ?_
  unfold Oper.wp
  rw [hrun a ha]
  simp only [Oper.upon, hd]
  exact hK _ _ (h _ (ha.put v hlt))

/-- one that gives none -/
theorem W_unit {ops : Array Oper} {o : Oper} {rest : List Oper} {w' : World} (hg : o.guard = none) (hd : o.dst = none)
    (hrun : ∀ a, Slots l fn.ntmps a → (execOp a.eval o).run P w = .ok .skip w') (h : W P fn k ops rest l w') : W P fn k ops (o :: rest) l w := by
  intro a ha
  refine wpList_plain hg fun K hK => ?_
  unfold Oper.wp
  rw [hrun a ha]
  simp only [Oper.upon, hd, Act.put]
  exact hK _ _ (h _ ha)

/-- a call -/
theorem W_ret {ops : Array Oper} {o : Oper} {rest : List Oper} {d : Nat} {f : FuncId} {args : Array Value} {R : Value → World → Prop} (hg : o.guard = none) (hd : o.dst = some d) (hlt : Nat.blt d fn.ntmps = true)
    (hrun : ∀ a, Slots l fn.ntmps a → (execOp a.eval o).run P w = .ok (.enter f args) w) (hc : Ret P f args w R)
    (h : ∀ v w', R v w' → W P fn k ops rest ((d, v) :: l) w') : W P fn k ops (o :: rest) l w := by
  intro a ha
  refine wpList_plain hg fun K hK => ?_
  unfold Oper.wp
  rw [hrun a ha]
  simp only [Oper.upon, hd]
  refine Calls.mono hc fun e w' q => ?_
  cases e with
  | returned v => exact hK _ _ (h v w' q _ (ha.put v hlt))
  | panicked c => exact q.elim
  | outgrown => exact q.elim

/-- a guarded operation -/
def yv (ops : Array Oper) (l : Env) (j : Nat) : Option Bool :=
  match ops[j]? with
  | some o => match o.dst with
    | some d => match look l d with
      | some (.bool b) => some b
      | _ => none
    | none => none
  | none => none

theorem yielded_of {ops : Array Oper} {j : Nat} {b : Bool} {a : Act} (ha : Slots l fn.ntmps a) (h : yv ops l j = some b) : yielded ops a.tmps j = some b := by
  unfold yv at h
  cases ho : ops[j]? with
  | none => simp [ho] at h
  | some o =>
    simp only [ho] at h
    cases hd : o.dst with
    | none => simp [hd] at h
    | some d =>
      simp only [hd] at h
      cases hl : look l d with
      | none => simp [hl] at h
      | some v =>
        simp only [hl] at h
        cases v <;> simp at h
        subst h
        have := ha.at_ d _ hl
        rename_i b
        have hlt : d < a.tmps.size := by
          rcases Nat.lt_or_ge d a.tmps.size with h' | h'
          · exact h'
          · simp [Array.getD_eq_getD_getElem?, Array.getElem?_eq_none h', undef] at this
        simp only [Array.getD_eq_getD_getElem?] at this
        simp [yielded, ho, hd, hlt] at this ⊢
        simp [this]

theorem W_guard_no {ops : Array Oper} {o : Oper} {rest : List Oper} {d j : Nat} {b want : Bool} (hg : o.guard = some (j, want)) (hy : yv ops l j = some b) (hb : b = !want) (hd : o.dst = some d) (hlt : Nat.blt d fn.ntmps = true)
    (h : W P fn k ops rest ((d, undef) :: l) w) : W P fn k ops (o :: rest) l w := by
  intro a ha
  refine wpList_step fun K hK => ?_
  have hw : Region.wanted o (yielded ops a.tmps) = false := by
    simp only [Region.wanted, hg, yielded_of ha hy, hb]
    cases want <;> rfl
  rw [hw, hd]
  exact hK _ _ (h _ (ha.put undef hlt))

theorem W_guard_no_unit {ops : Array Oper} {o : Oper} {rest : List Oper} {j : Nat} {b want : Bool} (hg : o.guard = some (j, want)) (hy : yv ops l j = some b) (hb : b = !want) (hd : o.dst = none)
    (h : W P fn k ops rest l w) : W P fn k ops (o :: rest) l w := by
  intro a ha
  refine wpList_step fun K hK => ?_
  have hw : Region.wanted o (yielded ops a.tmps) = false := by
    simp only [Region.wanted, hg, yielded_of ha hy, hb]
    cases want <;> rfl
  rw [hw, hd]
  exact hK _ _ (h _ ha)

/-- an operation without its guard, where the guard says yes -/
def Oper.bare (o : Oper) : Oper := { o with guard := none }
theorem W_guard_yes {ops : Array Oper} {dst : Option Tmp} {op : Op} {ty : TypeId} {pos : String} {after : Array Edge} {rest : List Oper} {j : Nat} {want : Bool} (hy : yv ops l j = some want)
    (h : W P fn k ops (⟨dst, op, ty, pos, after, none⟩ :: rest) l w) : W P fn k ops (⟨dst, op, ty, pos, after, some (j, want)⟩ :: rest) l w := by
  intro a ha
  have h1 := h a ha
  have hw : Region.wanted ⟨dst, op, ty, pos, after, some (j, want)⟩ (yielded ops a.tmps) = true := by
    simp [Region.wanted, yielded_of ha hy]
  have hw0 : Region.wanted ⟨dst, op, ty, pos, after, none⟩ (yielded ops a.tmps) = true := rfl
  unfold wpList at h1 ⊢
  rw [if_pos hw0] at h1
  rw [if_pos hw]
  exact h1

/-- a bool's two cases -/
theorem W_bool {ops : Array Oper} {rest : List Oper} {t : Nat} {b : Bool} (hl : look l t = some (.bool b)) (ht : b = true → W P fn k ops rest ((t, .bool true) :: l) w) (hf : b = false → W P fn k ops rest ((t, .bool false) :: l) w) :
    W P fn k ops rest l w := by
  intro a ha
  have key : ∀ b', b = b' → Slots ((t, .bool b') :: l) fn.ntmps a := by
    intro b' e
    refine ⟨ha.defers, ha.size, fun t' v hv => ?_⟩
    simp only [look] at hv
    cases hb : Nat.beq t t' with
    | true =>
      rw [hb] at hv
      have e' : t = t' := Nat.eq_of_beq_eq_true hb
      subst e'
      have e2 : Value.bool b' = v := by simpa using hv
      subst e2; subst e
      exact ha.at_ t _ hl
    | false => rw [hb] at hv; exact ha.at_ t' v hv
  cases b with
  | true => exact ht rfl a (key true rfl)
  | false => exact hf rfl a (key false rfl)

end rules
end Go.Wk
