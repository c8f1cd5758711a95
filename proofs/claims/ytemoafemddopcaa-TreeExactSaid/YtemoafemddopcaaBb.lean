/- Code: what holds of it in one order, holds in the model. Regions that draw their order: which orders there are. Kinds of operations: those that look at no memory, those that look, those that lay something new. Operations done later than they stand. Operations that lay something new, whenever they are done. Regions that draw their order: the invariant. Regions that draw their order: the steps. What holds in one order, holds in the model. What holds in one order, holds in the model: the theorem. From the model to the plain heap: nothing, what is handed in (views that are only read), the law's call. An executable twin: what it answers, XW shows. Functions without a body that are known: internal/bytealg.Compare. Closed calls: what a call without arguments comes to is known by evaluation, in whatever memory. Frozen memory and typed relations, over the plain heap. A law's arguments, opened by their types: views of what is handed in. What a law's row asks, out of what XW shows. A call's state over the plain heap: what it owns, what is frozen, what stays. Values that own memory: flat ones, rows of such. An element more: append to an own row, deep. Own rows: an element is read, is written. What is owned is frozen: a result, or what is lent to readers. Rules for walks: what comes behind stands in the post. Operations that look into memory, in regions in the text's order. More slots filled: operations tell the same. More slots filled: what XW shows stays. -/
import Derived.Test.YtemoafemddopcaaBa
import Derived.Lib.Bytealg
import Derived.Laws.Externs
import Derived.ProofKit
import Derived.OpenShut
import Derived.Carry
import Derived.Deep.Slices
set_option linter.unusedSimpArgs false
set_option linter.unusedVariables false
namespace Go.V
set_option linter.unusedVariables false

def exitOf : Ex → Exit
  | .nrm => .normal
  | .ext i => .exit i
  | .ret => .ret
def retOnly' (R : Value → World → Prop) : Ending → World → Prop
  | .returned v, w => R v w
  | _, _ => False
/-- a call of the model comes to this -/
def CallR (P : Program) (f : FuncId) (args : Array Value) (w : World) (R : Value → World → Prop) : Prop :=
  ((callFunc f args).run P w = .ok (.enter f args) w ∧ Calls P f args w (retOnly' R)) ∨ ∃ v w', (callFunc f args).run P w = .ok (.value v) w' ∧ R v w'
def KOk (P : Program) (K : Tb) : Prop := ∀ f args h M, K f args h M → ∀ ρ w args', Rel ρ h w → VRL ρ args args' → CallR P f args'.toArray w fun v' w' => ∃ v h' ρ', M v h' ∧ VR ρ' v v' ∧ Rel ρ' h' w' ∧ Ext ρ h w ρ' h' w'
/-- what holds behind a piece of code, of the model's memory -/
structure PostC (Q : Out → Prop) (ρ : Ren) (h : Hp) (w : World) (n : Nat) (e : Exit) (a' : Act) (w' : World) : Prop where
  ex : ∃ e0 env' h' ρ', e = exitOf e0 ∧ Q (.code e0 env' h') ∧ Rel ρ' h' w' ∧ EnvR ρ' env' a' ∧ Ext ρ h w ρ' h' w'
  defers : a'.defers = []
  size : a'.tmps.size = n
structure St0 (ρ : Ren) (env : Env) (h : Hp) (n : Nat) (a : Act) (w : World) : Prop where
  rel : Rel ρ h w
  env : EnvR ρ env a
  defers : a.defers = []
  size : a.tmps.size = n
theorem St0.put {ρ env h n a w} (s : St0 ρ env h n a w) {d : Option Tmp} (hd : ∀ x, d = some x → x < n) {v : Val} {u : Value} (hv : VR ρ v u) : St0 ρ (putO env d v) h n (a.put d u) w := by
  cases d with
  | none => exact s
  | some d =>
    have hd := hd d rfl
    refine ⟨s.rel, fun t x hx => ?_, s.defers, by simp [Act.put, s.size]⟩
    simp only [putO, T.get_set] at hx
    simp only [Act.put, Array.getD_eq_getD_getElem?, Array.getElem?_setIfInBounds]
    split at hx
    · rename_i e; subst e
      obtain rfl := Option.some.inj hx
      rw [if_pos rfl, if_pos (by rw [s.size]; exact hd)]
      exact hv
    · rename_i e
      rw [if_neg (fun q => e q.symm)]
      have := s.env t x hx
      rwa [Array.getD_eq_getD_getElem?] at this
theorem St0.turn {ρ env h n a w ρ' h' w'} (s : St0 ρ env h n a w) (r : Rel ρ' h' w') (e : Ext ρ h w ρ' h' w') : St0 ρ' env h' n a w' := ⟨r, s.env.mono e.le, s.defers, s.size⟩
theorem dst_lt {n : Nat} {A : List Oper} (h : dstOk n A = true) {i : Nat} (hi : i < A.length) : ∀ x, (opAt A i).dst = some x → x < n := by
  intro x hx
  have hm : opAt A i ∈ A := by
    unfold opAt
    rw [List.getD_eq_getElem?_getD, List.getElem?_eq_getElem hi]
    exact List.getElem_mem hi
  have := List.all_eq_true.1 h _ hm
  rw [hx] at this
  simpa using this
theorem opAt_get {A : List Oper} {i : Nat} (hi : i < A.length) : A[i]? = some (opAt A i) := by
  unfold opAt
  rw [List.getD_eq_getElem?_getD, List.getElem?_eq_getElem hi]
  rfl
/-- what is wanted, is -/
theorem want_run {ρ env h n a w} {A : List Oper} {o : Oper} {t : Bool} (s : St0 ρ env h n a w) (hd : dstOk n A = true) (hw : wantO A env o = some t) : Region.wanted o (yielded A.toArray a.tmps) = t := by
  unfold wantO at hw
  unfold Region.wanted
  split at hw
  · rename_i hg; rw [hg]; exact Option.some.inj hw
  · rename_i j want hg
    rw [hg]
    simp only
    cases hA : A[j]? with
    | none => simp [hA] at hw
    | some oj =>
      cases hdd : oj.dst with
      | none => simp [hA, hdd] at hw
      | some d =>
        simp only [hA, Option.bind_some, hdd] at hw
        have hj : j < A.length := (List.getElem?_eq_some_iff.1 hA).1
        have hlt : d < a.tmps.size := by
          rw [s.size]
          refine dst_lt hd hj d ?_
          rw [← hdd]; congr 1
          have := opAt_get hj
          rw [hA] at this; exact (Option.some.inj this).symm
        have hy : ∀ u, a.tmps.getD d undef = u → a.tmps[d]? = some u := fun u hu => by
          rw [Array.getD_eq_getD_getElem?, Array.getElem?_eq_getElem hlt] at hu
          rw [Array.getElem?_eq_getElem hlt]
          simpa using hu
        unfold yielded
        simp only [List.getElem?_toArray, hA, Option.bind_some, hdd]
        split at hw
        · rename_i x hx
          have hv := s.env d _ hx
          obtain rfl := Option.some.inj hw
          generalize hq : a.tmps.getD d undef = q at hv
          cases hv
          rw [hy _ hq]
          cases x <;> cases want <;> rfl
        · rename_i hx
          have hv := s.env d _ hx
          obtain rfl := Option.some.inj hw
          generalize hq : a.tmps.getD d undef = q at hv
          cases hv
          rw [hy _ hq]
          cases want <;> rfl
        · cases hw
theorem putO_same (o : Oper) (a : Act) {r : Next} {u : Value} (h : r = .value u ∨ (r = .skip ∧ u = undef)) {P : Program} {K : Act → World → Prop} {Q : Exit → Act → World → Prop} {w' : World} (hk : K (a.put o.dst u) w') : o.upon P a K Q (.ok r w') := by
  rcases h with rfl | ⟨rfl, rfl⟩ <;> exact hk
section
variable {P : Program} {K : Tb} {ρ : Ren} {h : Hp} {w : World} {env : Env} {a : Act} {n : Nat}
theorem sim_tgt {o : Oper} {f : FuncId} {vs : List Val} (s : St0 ρ env h n a w) (ht : tgt env o.op = some (f, vs)) : ∃ args', VRL ρ vs args' ∧ (execOp a.eval o).run P w = (callFunc f args'.toArray).run P w := by
  unfold tgt at ht
  split at ht
  · rename_i x args ats ho
    rw [Option.bind_eq_some_iff] at ht; obtain ⟨p, hp, ht⟩ := ht
    have hv := evO_VR s.env hp
    split at ht
    · rename_i g caps
      obtain ⟨l, hl, ht⟩ := Option.map_eq_some_iff.1 ht
      simp only [Prod.mk.injEq] at ht
      obtain ⟨rfl, rfl⟩ := ht
      have hr := evL_VR s.env hl
      generalize hu : a.eval x = u at hv
      cases hv with
      | f h1 h2 =>
        rename_i us
        refine ⟨args.toList.map a.eval ++ us, hr.append ⟨h1, h2⟩, ?_⟩
        have e1 : (args.toList.map a.eval ++ us).toArray = args.map a.eval ++ us.toArray := by apply Array.ext'; simp
        rw [e1]
        simp only [execOp, ho, resolve, hu, Deferred.ofValue, Sem.run_bind, Sem.run_pure, Result.andThen_ok, invoke]
        congr 3
        simp
    · cases ht
  · cases ht
theorem run_enter {f : FuncId} {fn : Func} {c : Code} (hf : P.funcs[f]? = some fn) (hb : fn.body = some c) (hn : fn.name ≠ "runtime.NumGoroutine") (args : Array Value) (w : World) : (callFunc f args).run P w = .ok (.enter f args) w := by
  unfold callFunc
  simp only [Sem.run_bind, run_program, Result.andThen_ok, hf]
  rw [if_neg (by simpa using hn), if_neg (by simp [hb])]
  rfl
theorem argE_get : ∀ (vs : List Val) (i : Nat) (env : Env) (t : Nat) (v : Val), (argE i vs env).get t = some v → (i ≤ t ∧ vs[t - i]? = some v) ∨ env.get t = some v := by
  intro vs
  induction vs with
  | nil => intro i env t v h; exact .inr h
  | cons u us ih =>
    intro i env t v h
    rcases ih (i + 1) (env.set i u) t v h with ⟨h1, h2⟩ | h1
    · exact .inl ⟨by omega, by rw [show t - i = (t - (i + 1)) + 1 by omega]; simpa using h2⟩
    · rw [T.get_set] at h1
      split at h1
      · rename_i e; subst e; exact .inl ⟨Nat.le_refl _, by simpa using h1⟩
      · exact .inr h1
theorem enter_St0 {args : List Val} {args' : List Value} (r : Rel ρ h w) (hr : VRL ρ args args') (hl : args.length ≤ n) : St0 ρ (argE 0 args .lf) h n { tmps := args'.toArray ++ Array.replicate (n - args'.toArray.size) undef, defers := [] } w := by
  have hl' := hr.1
  refine ⟨r, fun t v hv => ?_, rfl, by simp; omega⟩
  rcases argE_get args 0 .lf t v hv with ⟨_, h1⟩ | h1
  · obtain ⟨u, a1, a2⟩ := hr.at h1
    have hlt := (List.getElem?_eq_some_iff.1 a1).1
    simp only [Nat.sub_zero] at a1 hlt
    rw [Array.getD_eq_getD_getElem?, Array.getElem?_append_left (by simpa using hlt)]
    simp [a1, a2]
  · simp [T.get] at h1
theorem run_results (s : St0 ρ env h n a w) (f : ResultVar → Sem Value) (hf1 : ∀ t, f (.tmp t) = pure (a.tmps.getD t undef)) (hf2 : ∀ x t, f (.cell x t) = (do loadVar t (← asAddr (a.tmps.getD x undef)))) : ∀ {rs : List ResultVar} {vs : List Val}, resV P env h rs = some vs → ∃ us, VRL ρ vs us ∧ (rs.mapM f).run P w = .ok us w := by
  intro rs
  induction rs with
  | nil => intro vs hv; simp [resV] at hv; subst hv; exact ⟨[], VRL.nil, by simp⟩
  | cons r rs ih =>
    intro vs hv
    cases r with
    | tmp t =>
      simp only [resV] at hv
      rw [Option.bind_eq_some_iff] at hv; obtain ⟨v, h1, hv⟩ := hv
      obtain ⟨l, h2, rfl⟩ := Option.map_eq_some_iff.1 hv
      obtain ⟨us, g1, g2⟩ := ih h2
      exact ⟨_, g1.cons (s.env t v h1), by simp only [List.mapM_cons, hf1, Sem.run_bind, Sem.run_pure, Result.andThen_ok, g2]⟩
    | cell x t =>
      simp only [resV] at hv
      rw [Option.bind_eq_some_iff] at hv; obtain ⟨p, h1, hv⟩ := hv
      rw [Option.bind_eq_some_iff] at hv; obtain ⟨v, h3, hv⟩ := hv
      obtain ⟨l, h2, rfl⟩ := Option.map_eq_some_iff.1 hv
      obtain ⟨us, g1, g2⟩ := ih h2
      have hp := s.env x p h1
      generalize hu : a.tmps.getD x undef = q at hp
      cases hp with
      | p hb =>
        obtain ⟨u, e1, e2⟩ := ld_run s.rel h3 hb
        exact ⟨_, g1.cons e2, by simp only [List.mapM_cons, hf2, Sem.run_bind, Sem.run_pure, Result.andThen_ok, hu, asAddr, e1, g2]⟩
      | _ => simp [ldV] at h3
def oneU : List Value → Value
  | [v] => v
  | vs => .tuple vs.toArray
theorem oneV_VR {vs : List Val} {us : List Value} (hr : VRL ρ vs us) : VR ρ (oneV vs) (oneU us) := by
  match vs, us, hr with
  | [v], [u], hr => exact hr.head
  | [], [], hr => exact VR.none0
  | _ :: _ :: _, _ :: _ :: _, hr => exact VR.tup hr.1 hr.2
  | [], _ :: _, hr => exact absurd hr.1 (by simp)
  | _ :: _, [], hr => exact absurd hr.1 (by simp)
  | [_], _ :: _ :: _, hr => exact absurd hr.1 (by simp)
  | _ :: _ :: _, [_], hr => exact absurd hr.1 (by simp)
theorem run_res {fn : Func} (s : St0 ρ env h n a w) {vs : List Val} (hv : resV P env h fn.results.toList = some vs) : ∃ us, VRL ρ vs us ∧ (results fn a.tmps).run P w = .ok (oneU us) w := by
  have key : ∀ f : ResultVar → Sem Value, (∀ t, f (.tmp t) = pure (a.tmps.getD t undef)) → (∀ x t, f (.cell x t) = (do loadVar t (← asAddr (a.tmps.getD x undef)))) →
      ∃ us, VRL ρ vs us ∧ (do let vs ← fn.results.mapM f; pure (if h : vs.size = 1 then vs[0] else .tuple vs) : Sem Value).run P w = .ok (oneU us) w := fun f h1 h2 => by
    obtain ⟨us, g1, g2⟩ := run_results s f h1 h2 hv
    refine ⟨us, g1, ?_⟩
    rw [Sem.run_bind, ← Array.toArray_toList (xs := fn.results), List.mapM_toArray, Sem.run_map, g2]
    simp only [Result.andThen_ok, Sem.run_pure]
    match us with
    | [] => simp [oneU]
    | [v] => simp [oneU]
    | v :: u :: r => simp [oneU]
  unfold results
  exact key _ (fun t => rfl) (fun x t => rfl)
end
end Go.V
namespace Go.V
set_option linter.unusedVariables false

def edge (A : List Oper) (j i : Nat) : Prop := ∃ e ∈ (opAt A j).after.toList, Region.binds .any e = true ∧ e.on = i
def ancB (A : List Oper) (j i : Nat) : Prop := ((ancs A []).getD j 0).testBit i = true
def bitsOf (o : Oper) (acc : List Nat) : Nat := o.after.toList.foldl (fun s e => if Region.binds .any e then s ||| 2 ^ e.on ||| acc.getD e.on 0 else s) 0
theorem bits_spec (acc : List Nat) (i : Nat) : ∀ (l : List Edge) (s : Nat), (l.foldl (fun s e => if Region.binds .any e then s ||| 2 ^ e.on ||| acc.getD e.on 0 else s) s).testBit i = true → s.testBit i = true ∨ ∃ e ∈ l, Region.binds .any e = true ∧ (e.on = i ∨ (acc.getD e.on 0).testBit i = true) := by
  intro l
  induction l with
  | nil => intro s h; exact .inl h
  | cons e l ih =>
    intro s h
    rcases ih _ h with h | ⟨e', he, hb⟩
    · simp only at h
      split at h
      · rename_i hb
        rw [Nat.testBit_or, Nat.testBit_or, Bool.or_eq_true, Bool.or_eq_true, Nat.testBit_two_pow] at h
        rcases h with (h | h) | h
        · exact .inl h
        · exact .inr ⟨e, by simp, hb, .inl (by simpa using h)⟩
        · exact .inr ⟨e, by simp, hb, .inr h⟩
      · exact .inl h
    · exact .inr ⟨e', by simp [he], hb⟩
theorem ancs_spec : ∀ (A : List Oper) (acc : List Nat), (ancs A acc).take acc.length = acc ∧ (ancs A acc).length = acc.length + A.length ∧ ∀ k o, A[k]? = some o → (ancs A acc).getD (acc.length + k) 0 = bitsOf o ((ancs A acc).take (acc.length + k)) := by
  intro A
  induction A with
  | nil => intro acc; exact ⟨by simp [ancs], by simp [ancs], fun k o h => by simp at h⟩
  | cons o A ih =>
    intro acc
    obtain ⟨h1, h2, h3⟩ := ih (acc ++ [bitsOf o acc])
    have e0 : ancs (o :: A) acc = ancs A (acc ++ [bitsOf o acc]) := rfl
    rw [e0]
    have hlen : (acc ++ [bitsOf o acc]).length = acc.length + 1 := by simp
    rw [hlen] at h1 h2 h3
    have ht : (ancs A (acc ++ [bitsOf o acc])).take acc.length = acc := by
      have := congrArg (List.take acc.length) h1
      rw [List.take_take, Nat.min_eq_left (by omega), List.take_left'] at this
      · exact this
      · rfl
    refine ⟨ht, by simp at h2 ⊢; omega, fun k x hk => ?_⟩
    cases k with
    | zero =>
      simp at hk; subst hk
      rw [Nat.add_zero, ht]
      have : (ancs A (acc ++ [bitsOf o acc]))[acc.length]? = some (bitsOf o acc) := by
        have h := congrArg (·[acc.length]?) h1
        simp only [List.getElem?_take] at h
        rw [if_pos (by omega)] at h
        rw [h]; simp
      rw [List.getD_eq_getElem?_getD, this]; rfl
    | succ k =>
      have := h3 k x (by simpa using hk)
      rw [show acc.length + (k + 1) = acc.length + 1 + k by omega]
      exact this
theorem anc_edge {A : List Oper} {j i : Nat} (h : ancB A j i) : j < A.length ∧ ∃ k, edge A j k ∧ (k = i ∨ (k < j ∧ ancB A k i)) := by
  obtain ⟨_, h2, h3⟩ := ancs_spec A []
  unfold ancB at h
  have hj : j < A.length := by
    rcases Nat.lt_or_ge j A.length with q | q
    · exact q
    · rw [List.getD_eq_getElem?_getD, List.getElem?_eq_none (by rw [h2]; simpa using q)] at h
      simp at h
  refine ⟨hj, ?_⟩
  have h4 := h3 j _ (opAt_get hj)
  simp only [List.length_nil, Nat.zero_add] at h4
  rw [h4] at h
  rcases bits_spec _ i _ 0 h with h | ⟨e, he, hb, h⟩
  · simp at h
  · refine ⟨e.on, ⟨e, he, hb, rfl⟩, ?_⟩
    rcases h with h | h
    · exact .inl h
    · right
      rw [List.getD_eq_getElem?_getD, List.getElem?_take] at h
      split at h
      · rename_i hlt
        exact ⟨hlt, by unfold ancB; rw [List.getD_eq_getElem?_getD]; exact h⟩
      · simp at h
theorem anc_closed {A : List Oper} {D : Nat → Prop} (hc : ∀ j, D j → ∀ k, edge A j k → D k) : ∀ (j i : Nat), (∀ k, edge A j k → D k) → ancB A j i → D i := by
  intro j
  induction j using Nat.strongRecOn with
  | _ j ih =>
    intro i hr h
    obtain ⟨_, k, h1, h2⟩ := anc_edge h
    rcases h2 with rfl | ⟨h2, h3⟩
    · exact hr k h1
    · exact ih k h2 i (fun k' h' => hc k (hr k h1) k' h') h3

/-- what holds of a region's text -/
structure Glob (A : List Oper) (n : Nat) : Prop where
  dst : dstOk n A = true
  uniq : ∀ i j d, i < A.length → j < A.length → i ≠ j → (opAt A i).dst = some d → (opAt A j).dst ≠ some d
  self : ∀ i d, i < A.length → (opAt A i).dst = some d → d ∉ looks A (opAt A i)
  rw : ∀ i j d, i < A.length → j < A.length → i ≠ j → (opAt A i).dst = some d → d ∈ looks A (opAt A j) → ancB A j i ∨ ancB A i j
/-- what holds at an operation, in the order -/
structure At (P : Program) (A : List Oper) (dn : List Nat) (i : Nat) (rest : List Nat) : Prop where
  lt : i < A.length
  out : i ∉ dn
  nrest : i ∉ rest
  edges : ∀ k, edge A i k → k ∈ dn
  guard : ∀ g w, (opAt A i).guard = some (g, w) → g ∈ dn ∧ ancB A i g
  eff : kindOf P (opAt A i).op = .eff → ∀ r ∈ rest, ancB A r i
theorem okGo_at {P : Program} {A : List Oper} {dn : List Nat} {i : Nat} {rest : List Nat} (h : okGo P A (ancs A []) dn (i :: rest) = true) : At P A dn i rest ∧ okGo P A (ancs A []) (i :: dn) rest = true ∧
    ∀ d, (opAt A i).dst = some d → d ∉ looks A (opAt A i) ∧ ∀ j, j ∈ rest ∨ j ∈ dn → (opAt A j).dst ≠ some d ∧ (d ∈ looks A (opAt A j) → ancB A j i ∨ ancB A i j) := by
  simp only [okGo, Bool.and_eq_true] at h
  obtain ⟨⟨⟨⟨⟨⟨⟨h1, h2⟩, h3⟩, h4⟩, h5⟩, h6⟩, h7⟩, h8⟩ := h
  refine ⟨⟨by simpa using h3, by simpa using h1, by simpa using h2, fun k ⟨e, he, hb, hk⟩ => ?_, fun g w hg => ?_, fun hk r hr => ?_⟩, h8, fun d hd => ?_⟩
  · have := List.all_eq_true.1 h4 e he
    rw [hb] at this
    simp at this
    rw [← hk]; exact this
  · rw [hg] at h5
    simp only [Bool.and_eq_true] at h5
    exact ⟨by simpa using h5.1, h5.2⟩
  · simp only [hk, decide_true, Bool.not_true, Bool.false_or] at h6
    exact List.all_eq_true.1 h6 r hr
  · rw [hd] at h7
    simp only [Bool.and_eq_true] at h7
    refine ⟨by simpa using h7.1, fun j hj => ?_⟩
    have := List.all_eq_true.1 h7.2 j (by simpa using hj)
    simp only [Bool.and_eq_true, Bool.or_eq_true, Bool.not_eq_true'] at this
    refine ⟨by simpa using this.1, fun hl => ?_⟩
    rcases this.2 with (h | h) | h
    · simp at h; exact absurd hl h
    · exact .inl h
    · exact .inr h
theorem okGo_glob {P : Program} {A : List Oper} : ∀ (L dn : List Nat), okGo P A (ancs A []) dn L = true → (∀ i, i < A.length → i ∈ L ∨ i ∈ dn) → ∀ i, i ∈ L → i < A.length ∧ ∀ d, (opAt A i).dst = some d → d ∉ looks A (opAt A i) ∧ ∀ j, j < A.length → j ≠ i → (opAt A j).dst ≠ some d ∧ (d ∈ looks A (opAt A j) → ancB A j i ∨ ancB A i j) := by
  intro L
  induction L with
  | nil => intro dn _ _ i hi; cases hi
  | cons x L ih =>
    intro dn h hc i hi
    obtain ⟨h1, h2, h3⟩ := okGo_at h
    rcases List.mem_cons.1 hi with rfl | hi
    · refine ⟨h1.lt, fun d hd => ⟨(h3 d hd).1, fun j hj hne => (h3 d hd).2 j ?_⟩⟩
      rcases hc j hj with q | q
      · rcases List.mem_cons.1 q with rfl | q
        · exact absurd rfl hne
        · exact .inl q
      · exact .inr q
    · exact ih (x :: dn) h2 (fun j hj => by
        rcases hc j hj with q | q
        · rcases List.mem_cons.1 q with rfl | q
          · exact .inr (by simp)
          · exact .inl q
        · exact .inr (by simp [q])) i hi
theorem okGo_nodup {P : Program} {A : List Oper} : ∀ (L dn : List Nat), okGo P A (ancs A []) dn L = true → L.Nodup ∧ ∀ i ∈ L, i < A.length := by
  intro L
  induction L with
  | nil => intro dn _; exact ⟨List.nodup_nil, fun i h => by cases h⟩
  | cons x L ih =>
    intro dn h
    obtain ⟨h1, h2, _⟩ := okGo_at h
    obtain ⟨q1, q2⟩ := ih _ h2
    exact ⟨List.nodup_cons.2 ⟨h1.nrest, q1⟩, fun i hi => by
      rcases List.mem_cons.1 hi with rfl | hi
      · exact h1.lt
      · exact q2 i hi⟩
theorem okL_glob {P : Program} {A : List Oper} {L : List Nat} {n : Nat} (hd : dstOk n A = true) (h : okL P A L = true) : Glob A n ∧ okGo P A (ancs A []) [] L = true ∧ ∀ i, i < A.length → i ∈ L := by
  unfold okL at h
  simp only [Bool.and_eq_true] at h
  obtain ⟨h1, h2⟩ := h
  have hfull : ∀ i, i < A.length → i ∈ L := fun i hi => by
    have := List.all_eq_true.1 h1 i (List.mem_range.2 hi)
    simpa using this
  have hg := okGo_glob L [] h2 (fun i hi => .inl (hfull i hi))
  refine ⟨⟨hd, fun i j d hi hj hne hdd => ?_, fun i d hi hdd => ((hg i (hfull i hi)).2 d hdd).1, fun i j d hi hj hne hdd hl => ?_⟩, h2, hfull⟩
  · exact (((hg i (hfull i hi)).2 d hdd).2 j hj (fun e => hne e.symm)).1
  · exact (((hg i (hfull i hi)).2 d hdd).2 j hj (fun e => hne e.symm)).2 hl
end Go.V
namespace Go.V
set_option linter.unusedVariables false
section
variable {P : Program} {ρ : Ren} {h h' : Hp} {w : World} {env : Env} {a : Act}
theorem map_pair {α : Type} {x : Option α} {v : α} (hv : x.map (fun v => (v, h)) = some (v, h')) : x = some v ∧ h' = h := by
  obtain ⟨u, h1, h2⟩ := Option.map_eq_some_iff.1 hv
  simp only [Prod.mk.injEq] at h2
  obtain ⟨rfl, rfl⟩ := h2
  exact ⟨h1, rfl⟩
theorem conv_pure {s d : TypeId} {p v : Val} (hk : convK P s d = .pure) (hv : convV P h s d p = some (v, h')) : h' = h ∧ ∀ h2, convV P h2 s d p = some (v, h2) := by
  unfold convK at hk
  unfold convV at hv
  split at hv
  · rename_i ds k k' n hs hd
    simp only [Option.some.injEq, Prod.mk.injEq] at hv; obtain ⟨rfl, rfl⟩ := hv
    exact ⟨rfl, fun h2 => by simp only [convV, hs, hd]⟩
  · rename_i ds sx hs hd
    simp only [Option.some.injEq, Prod.mk.injEq] at hv; obtain ⟨rfl, rfl⟩ := hv
    exact ⟨rfl, fun h2 => by simp only [convV, hs, hd]⟩
  · rename_i hs hd; simp [hs, hd] at hk
  · rename_i hs hd; simp [hs, hd] at hk
  · rename_i hs hd; simp [hs, hd] at hk
  · rename_i hs hd; simp [hs, hd] at hk
  · rename_i hs hd; simp [hs, hd] at hk
  · cases hv
theorem len_pure {ts : List TypeId} {x v : Val} (hk : lenK P ts = .pure) (hv : lenB P h ts x = some v) (h2 : Hp) : lenB P h2 ts x = some v := by
  unfold lenB at hv ⊢
  rw [Option.bind_eq_some_iff] at hv ⊢
  obtain ⟨t, ht, hv⟩ := hv
  refine ⟨t, ht, ?_⟩
  split at hv <;> first | (cases hv; done) | skip
  all_goals (try rename_i hst)
  all_goals first
    | (simp only [hst]; exact hv)
    | skip
  all_goals (
    cases ts with
    | nil => simp at ht
    | cons t0 ts =>
      simp at ht; subst ht
      simp [lenK] at hk
      simp_all)
theorem kind_pure {op : Op} {v : Val} (hk : kindOf P op = .pure) (hv : op1 P env h op = some (v, h')) : h' = h ∧ ∀ h2, op1 P env h2 op = some (v, h2) := by
  cases op <;> simp only [op1, reduceCtorEq] at hv <;> simp only [kindOf, reduceCtorEq] at hk
  case move x =>
    obtain ⟨hw, rfl⟩ := map_pair hv
    exact ⟨rfl, fun h2 => by simp only [op1, hw, Option.map_some]⟩
  case assign x =>
    obtain ⟨hw, rfl⟩ := map_pair hv
    exact ⟨rfl, fun h2 => by simp only [op1, hw, Option.map_some]⟩
  case pick c x y =>
    rw [Option.bind_eq_some_iff] at hv; obtain ⟨p, hp, hv⟩ := hv
    split at hv
    · obtain ⟨hw, rfl⟩ := map_pair hv
      exact ⟨rfl, fun h2 => by simp only [op1, hp, Option.bind_some, hw, Option.map_some]⟩
    · obtain ⟨hw, rfl⟩ := map_pair hv
      exact ⟨rfl, fun h2 => by simp only [op1, hp, Option.bind_some, hw, Option.map_some]⟩
    · cases hv
  case build t ps =>
    rw [Option.bind_eq_some_iff] at hv; obtain ⟨q, hq, hv⟩ := hv
    obtain ⟨hw, rfl⟩ := map_pair hv
    exact ⟨rfl, fun h2 => by simp only [op1, hq, Option.bind_some, hw, Option.map_some]⟩
  case nilCheck x =>
    rw [Option.bind_eq_some_iff] at hv; obtain ⟨p, hp, hv⟩ := hv
    split at hv
    · cases hv
    · cases hv
    · rename_i n1 n2
      simp only [Option.some.injEq, Prod.mk.injEq] at hv; obtain ⟨rfl, rfl⟩ := hv
      refine ⟨rfl, fun h2 => ?_⟩
      simp only [op1, hp, Option.bind_some]
  case binOp op t x y t2 =>
    rw [Option.bind_eq_some_iff] at hv; obtain ⟨p, hp, hv⟩ := hv
    rw [Option.bind_eq_some_iff] at hv; obtain ⟨q, hq, hv⟩ := hv
    obtain ⟨hw, rfl⟩ := map_pair hv
    exact ⟨rfl, fun h2 => by simp only [op1, hp, hq, Option.bind_some, hw, Option.map_some]⟩
  case unOp op t x =>
    rw [Option.bind_eq_some_iff] at hv; obtain ⟨p, hp, hv⟩ := hv
    obtain ⟨hw, rfl⟩ := map_pair hv
    exact ⟨rfl, fun h2 => by simp only [op1, hp, Option.bind_some, hw, Option.map_some]⟩
  case convert s d x =>
    rw [Option.bind_eq_some_iff] at hv; obtain ⟨p, hp, hv⟩ := hv
    obtain ⟨rfl, hq⟩ := conv_pure hk hv
    exact ⟨rfl, fun h2 => by simp only [op1, hp, Option.bind_some, hq h2]⟩
  case sliceToArrayPointer t x =>
    rw [Option.bind_eq_some_iff] at hv; obtain ⟨p, hp, hv⟩ := hv
    split at hv
    · split at hv
      · rename_i hst
        split at hv
        · rename_i hkn
          simp only [Option.some.injEq, Prod.mk.injEq] at hv; obtain ⟨rfl, rfl⟩ := hv
          exact ⟨rfl, fun h2 => by simp only [op1, hp, Option.bind_some, hst, hkn, if_true]⟩
        · cases hv
      · cases hv
    · cases hv
  case makeFunc f first caps =>
    cases f with
    | func f =>
      simp only at hv
      split at hv
      · rename_i hf
        obtain ⟨l, h1, h2⟩ := Option.map_eq_some_iff.1 hv
        simp only [Prod.mk.injEq] at h2; obtain ⟨rfl, rfl⟩ := h2
        exact ⟨rfl, fun h2 => by simp only [op1, hf, if_true, h1, Option.map_some]⟩
      · cases hv
    | _ => simp at hv
  case fieldAddr s x f =>
    rw [Option.bind_eq_some_iff] at hv; obtain ⟨p, hp, hv⟩ := hv
    split at hv
    · rw [Option.bind_eq_some_iff] at hv; obtain ⟨fd, hf, hv⟩ := hv
      rw [Option.bind_eq_some_iff] at hv; obtain ⟨m, hm, hv⟩ := hv
      split at hv
      · rename_i h0
        simp only [Option.some.injEq, Prod.mk.injEq] at hv; obtain ⟨rfl, rfl⟩ := hv
        exact ⟨rfl, fun h2 => by simp only [op1, hp, Option.bind_some, hf, hm, h0, if_true]⟩
      · cases hv
    · cases hv
  case field s x f =>
    rw [Option.bind_eq_some_iff] at hv; obtain ⟨p, hp, hv⟩ := hv
    split at hv
    · rw [Option.bind_eq_some_iff] at hv; obtain ⟨fd, hf, hv⟩ := hv
      obtain ⟨hw, rfl⟩ := map_pair hv
      exact ⟨rfl, fun h2 => by simp only [op1, hp, Option.bind_some, hf, hw, Option.map_some]⟩
    · cases hv
  case indexAddr t x y =>
    rw [Option.bind_eq_some_iff] at hv; obtain ⟨p, hp, hv⟩ := hv
    rw [Option.bind_eq_some_iff] at hv; obtain ⟨q, hq, hv⟩ := hv
    obtain ⟨hw, rfl⟩ := map_pair hv
    exact ⟨rfl, fun h2 => by simp only [op1, hp, hq, Option.bind_some, hw, Option.map_some]⟩
  case index t x y =>
    rw [Option.bind_eq_some_iff] at hv; obtain ⟨p, hp, hv⟩ := hv
    rw [Option.bind_eq_some_iff] at hv; obtain ⟨q, hq, hv⟩ := hv
    obtain ⟨hw, rfl⟩ := map_pair hv
    exact ⟨rfl, fun h2 => by simp only [op1, hp, hq, Option.bind_some, hw, Option.map_some]⟩
  case extract x i =>
    rw [Option.bind_eq_some_iff] at hv; obtain ⟨p, hp, hv⟩ := hv
    split at hv
    · obtain ⟨hw, rfl⟩ := map_pair hv
      exact ⟨rfl, fun h2 => by simp only [op1, hp, Option.bind_some, hw, Option.map_some]⟩
    · cases hv
  case call c =>
    obtain ⟨cal, args, ats⟩ := c
    cases cal with
    | builtin b =>
      simp only at hv
      rw [Option.bind_eq_some_iff] at hv; obtain ⟨l, hl, hv⟩ := hv
      unfold bltV at hv
      split at hv
      · simp [kindOf] at hk
      · simp [kindOf] at hk
      · simp [kindOf] at hk
      · obtain ⟨hw, rfl⟩ := map_pair hv
        simp only [kindOf] at hk
        exact ⟨rfl, fun h2 => by simp only [op1, hl, Option.bind_some, bltV, len_pure hk hw h2, Option.map_some]⟩
      · obtain ⟨hw, rfl⟩ := map_pair hv
        exact ⟨rfl, fun h2 => by simp only [op1, hl, Option.bind_some, bltV, hw, Option.map_some]⟩
      · obtain ⟨hw, rfl⟩ := map_pair hv
        exact ⟨rfl, fun h2 => by simp only [op1, hl, Option.bind_some, bltV, hw, Option.map_some]⟩
      · obtain ⟨hw, rfl⟩ := map_pair hv
        exact ⟨rfl, fun h2 => by simp only [op1, hl, Option.bind_some, bltV, hw, Option.map_some]⟩
      · cases hv
    | _ => simp at hv
/-- nothing lies where nothing was laid -/
def Hp.wf (h : Hp) : Prop := ∀ b, h.next ≤ b → h.get b = none
theorem get_new' (hw : h.wf) {b : Nat} {X B : Blk} (hb : h.get b = some X) : (h.new B).get b = some X := by
  rw [Hp.get_new, if_neg]
  · exact hb
  · intro e; rw [e, hw _ (Nat.le_refl _)] at hb; cases hb
theorem rd_new (hw : h.wf) {B : Blk} {b o m : Nat} {c : List Val} (hr : rd h b o m = some c) : rd (h.new B) b o m = some c := by
  unfold rd at hr ⊢
  split at hr
  · rename_i hg
    rw [get_new' hw hg]; exact hr
  · rename_i hg
    rw [get_new' hw hg]; exact hr
  · cases hr
theorem ld_new (hw : h.wf) {B : Blk} {t : TypeId} {p v : Val} (hr : ldV P h t p = some v) : ldV P (h.new B) t p = some v := by
  unfold ldV at hr ⊢
  split at hr
  · rename_i b o
    rw [Option.bind_eq_some_iff] at hr ⊢; obtain ⟨g, hg, hr⟩ := hr
    refine ⟨g, hg, ?_⟩
    cases g with
    | true =>
      simp only [cond_true] at hr ⊢
      rw [Option.bind_eq_some_iff] at hr ⊢; obtain ⟨m, hm, hr⟩ := hr
      obtain ⟨c, h1, h2⟩ := Option.map_eq_some_iff.1 hr
      exact ⟨m, hm, by rw [rd_new hw h1]; simpa using h2⟩
    | false =>
      simp only [cond_false] at hr ⊢
      rw [Option.bind_eq_some_iff] at hr ⊢; obtain ⟨c, h1, h2⟩ := hr
      exact ⟨c, rd_new hw h1, h2⟩
  · cases hr
theorem stride_new (hw : h.wf) {B : Blk} {b z : Nat} (hr : strideV h b = some z) : strideV (h.new B) b = some z := by
  unfold strideV at hr ⊢
  split at hr
  · rename_i hg
    rw [get_new' hw hg]; exact hr
  · cases hr
theorem slice_new (hw : h.wf) {B : Blk} {t : TypeId} {p v : Val} {lo hi mx : Option Val} (hr : sliceV P h t p lo hi mx = some v) : sliceV P (h.new B) t p lo hi mx = some v := by
  unfold sliceV at hr ⊢
  split at hr <;> rename_i hst <;> try simp only [hst] <;> try exact hr
  all_goals first
    | exact hr
    | (cases hr; done)
    | (rw [Option.bind_eq_some_iff] at hr ⊢; obtain ⟨z, hz, hr⟩ := hr
       refine ⟨z, hz, ?_⟩
       obtain ⟨q, h1, h2⟩ := Option.map_eq_some_iff.1 hr
       split at h1
       · rename_i hs
         rw [if_pos (stride_new hw hs), h1]; simpa using h2
       · cases h1)
end
end Go.V
namespace Go.V
set_option linter.unusedVariables false
section
variable {P : Program} {ρ : Ren} {h h' : Hp} {w : World} {env env2 : Env} {a : Act}
theorem look_new (hw : h.wf) {B : Blk} {t : TypeId} {m k v : Val} {ok : Bool} (hr : lookV P h t m k ok = some v) : lookV P (h.new B) t m k ok = some v := by
  unfold lookV at hr ⊢
  split at hr
  · rename_i kt vt hst
    split at hr
    · rename_i hk
      simp only [hk, if_true]
      rw [Option.bind_eq_some_iff] at hr ⊢; obtain ⟨es, hes, hr⟩ := hr
      refine ⟨es, ?_, hr⟩
      split at hes
      · exact hes
      · split at hes
        · rename_i hg
          simp only [get_new' hw hg]
          exact hes
        · cases hes
      · cases hes
    · cases hr
  · cases hr
theorem kind_read {op : Op} {v : Val} (hk : kindOf P op = .read) (hv : op1 P env h op = some (v, h')) : h' = h ∧ ∀ B, h.wf → op1 P env (h.new B) op = some (v, h.new B) := by
  cases op <;> simp only [op1, reduceCtorEq] at hv <;> simp only [kindOf, reduceCtorEq] at hk
  case load t x =>
    rw [Option.bind_eq_some_iff] at hv; obtain ⟨p, hp, hv⟩ := hv
    obtain ⟨hl, rfl⟩ := map_pair hv
    exact ⟨rfl, fun B hw => by simp only [op1, hp, Option.bind_some, ld_new hw hl, Option.map_some]⟩
  case lookup t m k ok =>
    rw [Option.bind_eq_some_iff] at hv; obtain ⟨p, hp, hv⟩ := hv
    rw [Option.bind_eq_some_iff] at hv; obtain ⟨q, hq, hv⟩ := hv
    obtain ⟨hl, rfl⟩ := map_pair hv
    exact ⟨rfl, fun B hw => by simp only [op1, hp, hq, Option.bind_some, look_new hw hl, Option.map_some]⟩
  case slice t x lo hi mx =>
    rw [Option.bind_eq_some_iff] at hv; obtain ⟨p, hp, hv⟩ := hv
    rw [Option.bind_eq_some_iff] at hv; obtain ⟨q1, hq1, hv⟩ := hv
    rw [Option.bind_eq_some_iff] at hv; obtain ⟨q2, hq2, hv⟩ := hv
    rw [Option.bind_eq_some_iff] at hv; obtain ⟨q3, hq3, hv⟩ := hv
    obtain ⟨hl, rfl⟩ := map_pair hv
    exact ⟨rfl, fun B hw => by simp only [op1, hp, hq1, hq2, hq3, Option.bind_some, slice_new hw hl, Option.map_some]⟩
  case convert s d x =>
    rw [Option.bind_eq_some_iff] at hv; obtain ⟨p, hp, hv⟩ := hv
    have key : h' = h ∧ ∀ B, h.wf → convV P (h.new B) s d p = some (v, h.new B) := by
      unfold convK at hk
      unfold convV at hv
      split at hv
      · rename_i ds k k' n hs hd
        simp only [Option.some.injEq, Prod.mk.injEq] at hv; obtain ⟨rfl, rfl⟩ := hv
        exact ⟨rfl, fun B hw => by simp only [convV, hs, hd]⟩
      · rename_i ds sx hs hd
        simp only [Option.some.injEq, Prod.mk.injEq] at hv; obtain ⟨rfl, rfl⟩ := hv
        exact ⟨rfl, fun B hw => by simp only [convV, hs, hd]⟩
      · rename_i hs hd; simp [hs, hd] at hk
      · rename_i hs hd; simp [hs, hd] at hk
      · rename_i hs hd
        split at hv
        · rename_i hu
          simp only [Option.some.injEq, Prod.mk.injEq] at hv; obtain ⟨rfl, rfl⟩ := hv
          exact ⟨rfl, fun B hw => by simp only [convV, hs, hd, hu, if_true]⟩
        · cases hv
      · rename_i hs hd
        split at hv
        · rename_i hu
          simp only [Option.some.injEq, Prod.mk.injEq] at hv; obtain ⟨rfl, rfl⟩ := hv
          exact ⟨rfl, fun B hw => by simp only [convV, hs, hd, hu, if_true]⟩
        · cases hv
      · rename_i e b o n c hs hd
        split at hv
        · rename_i he
          rw [Option.bind_eq_some_iff] at hv; obtain ⟨cs, hcs, hv⟩ := hv
          obtain ⟨hb, rfl⟩ := map_pair (v := v) (by
            obtain ⟨u, h1, h2⟩ := Option.map_eq_some_iff.1 hv
            show ((bytesV cs).map Val.s).map (fun v => (v, h)) = some (v, h')
            rw [h1]; simpa using h2)
          refine ⟨rfl, fun B hw => ?_⟩
          simp only [convV, hs, hd, he]
          rw [Option.bind_eq_some_iff]
          refine ⟨cs, ?_, ?_⟩
          · split at hcs
            · rename_i h0; rw [if_pos h0]; exact hcs
            · rename_i h0; rw [if_neg h0]; exact rd_new hw hcs
          · obtain ⟨u, h1, rfl⟩ := Option.map_eq_some_iff.1 hb
            rw [h1]; rfl
        · cases hv
      · cases hv
    exact ⟨key.1, fun B hw => by simp only [op1, hp, Option.bind_some, key.2 B hw]⟩
  case call c =>
    obtain ⟨cal, args, ats⟩ := c
    cases cal with
    | builtin b =>
      simp only at hv
      rw [Option.bind_eq_some_iff] at hv; obtain ⟨l, hl, hv⟩ := hv
      unfold bltV at hv
      split at hv
      · simp [kindOf] at hk
      · simp [kindOf] at hk
      · simp [kindOf] at hk
      · obtain ⟨hq, rfl⟩ := map_pair hv
        rename_i x
        refine ⟨rfl, fun B hw => ?_⟩
        have : lenB P (h'.new B) ats.toList x = some v := by
          unfold lenB at hq ⊢
          rw [Option.bind_eq_some_iff] at hq ⊢
          obtain ⟨t, ht, hq⟩ := hq
          refine ⟨t, ht, ?_⟩
          split at hq <;> first | (cases hq; done) | skip
          all_goals first
            | (simp_all; done)
            | (split at hq
               · rename_i hg
                 have hg' := get_new' (B := B) hw hg
                 simp_all
               · cases hq)
            | (split at hq
               · simp_all
               · cases hq)
        simp only [op1, hl, Option.bind_some, bltV, this, Option.map_some]
      · obtain ⟨hq, rfl⟩ := map_pair hv
        exact ⟨rfl, fun B hw => by simp only [op1, hl, Option.bind_some, bltV, hq, Option.map_some]⟩
      · obtain ⟨hq, rfl⟩ := map_pair hv
        exact ⟨rfl, fun B hw => by simp only [op1, hl, Option.bind_some, bltV, hq, Option.map_some]⟩
      · obtain ⟨hq, rfl⟩ := map_pair hv
        exact ⟨rfl, fun B hw => by simp only [op1, hl, Option.bind_some, bltV, hq, Option.map_some]⟩
      · cases hv
    | _ => simp at hv
/-! operands alone matter -/
def tmpsOf (op : Op) : List Tmp := op.operands.toList.filterMap fun | .tmp t => some t | _ => none
theorem evO_congr {x : Operand} (he : ∀ t, x = .tmp t → env.get t = env2.get t) : evO env x = evO env2 x := by
  cases x with
  | tmp t => exact he t rfl
  | _ => rfl
theorem evL_congr {l : List Operand} (he : ∀ t, Operand.tmp t ∈ l → env.get t = env2.get t) : evL env l = evL env2 l := by
  unfold evL
  induction l with
  | nil => rfl
  | cons x l ih =>
    rw [List.mapM_cons, List.mapM_cons, evO_congr (env2 := env2) fun t e => he t (by simp [e]), ih fun t ht => he t (by simp [ht])]
theorem evP_congr {l : List (Nat × Operand)} (he : ∀ t, Operand.tmp t ∈ l.map (·.2) → env.get t = env2.get t) : evP env l = evP env2 l := by
  unfold evP
  induction l with
  | nil => rfl
  | cons x l ih =>
    rw [List.mapM_cons, List.mapM_cons, evO_congr (env2 := env2) fun t e => he t (by simp [e]), ih fun t ht => he t (by simp at ht ⊢; exact .inr ht)]
theorem evQ_congr {x : Option Operand} (he : ∀ t, x = some (.tmp t) → env.get t = env2.get t) : evQ env x = evQ env2 x := by
  cases x with
  | none => rfl
  | some x => simp only [evQ]; rw [evO_congr (env2 := env2) fun t e => he t (by rw [e])]
theorem mem_tmps {op : Op} {t : Tmp} (h : Operand.tmp t ∈ op.operands.toList) : t ∈ tmpsOf op := by
  unfold tmpsOf
  rw [List.mem_filterMap]
  exact ⟨_, h, rfl⟩
theorem op1_congr {op : Op} (he : ∀ t, t ∈ tmpsOf op → env.get t = env2.get t) : op1 P env h op = op1 P env2 h op := by
  have h1 : ∀ x : Operand, x ∈ op.operands.toList → evO env x = evO env2 x := fun x hx => evO_congr fun t e => he t (mem_tmps (by rw [← e]; exact hx))
  have h2 : ∀ l : List Operand, (∀ x ∈ l, x ∈ op.operands.toList) → evL env l = evL env2 l := fun l hl => evL_congr fun t ht => he t (mem_tmps (hl _ ht))
  have h3 : ∀ l : List (Nat × Operand), (∀ x ∈ l.map (·.2), x ∈ op.operands.toList) → evP env l = evP env2 l := fun l hl => evP_congr fun t ht => he t (mem_tmps (hl _ ht))
  have h4 : ∀ x : Option Operand, (∀ y, x = some y → y ∈ op.operands.toList) → evQ env x = evQ env2 x := fun x hx => evQ_congr fun t e => he t (mem_tmps (hx _ e))
  cases op
  case move x => simp only [op1]; rw [h1 x (by simp [Op.operands])]
  case assign x => simp only [op1]; rw [h1 x (by simp [Op.operands])]
  case pick c x y => simp only [op1]; rw [h1 c (by simp [Op.operands]), h1 x (by simp [Op.operands]), h1 y (by simp [Op.operands])]
  case box e x => simp only [op1]; rw [h1 x (by simp [Op.operands])]
  case build t ps => simp only [op1]; rw [h3 ps.toList (fun x hx => by simpa [Op.operands] using hx)]
  case buildSlice t n ps => simp only [op1]; rw [h3 ps.toList (fun x hx => by simpa [Op.operands] using hx)]
  case load t x => simp only [op1]; rw [h1 x (by simp [Op.operands])]
  case store t x y => simp only [op1]; rw [h1 x (by simp [Op.operands]), h1 y (by simp [Op.operands])]
  case nilCheck x => simp only [op1]; rw [h1 x (by simp [Op.operands])]
  case binOp o t x y t2 => simp only [op1]; rw [h1 x (by simp [Op.operands]), h1 y (by simp [Op.operands])]
  case unOp o t x => simp only [op1]; rw [h1 x (by simp [Op.operands])]
  case convert s d x => simp only [op1]; rw [h1 x (by simp [Op.operands])]
  case sliceToArrayPointer t x => simp only [op1]; rw [h1 x (by simp [Op.operands])]
  case makeFunc f first caps =>
    cases f with
    | func f => simp only [op1]; rw [h2 caps.toList (fun x hx => by simp [Op.operands]; exact .inr (by simpa using hx))]
    | _ => rfl
  case makeMap t r =>
    cases r with
    | none => rfl
    | some x => simp only [op1]; rw [h1 x (by simp [Op.operands])]
  case makeSlice t x y => simp only [op1]; rw [h1 x (by simp [Op.operands]), h1 y (by simp [Op.operands])]
  case slice t x lo hi mx =>
    simp only [op1]
    rw [h1 x (by simp [Op.operands]), h4 lo (fun y e => by simp [Op.operands, e]), h4 hi (fun y e => by simp [Op.operands, e]), h4 mx (fun y e => by simp [Op.operands, e])]
  case fieldAddr s x f => simp only [op1]; rw [h1 x (by simp [Op.operands])]
  case field s x f => simp only [op1]; rw [h1 x (by simp [Op.operands])]
  case indexAddr t x y => simp only [op1]; rw [h1 x (by simp [Op.operands]), h1 y (by simp [Op.operands])]
  case index t x y => simp only [op1]; rw [h1 x (by simp [Op.operands]), h1 y (by simp [Op.operands])]
  case lookup t x y ok => simp only [op1]; rw [h1 x (by simp [Op.operands]), h1 y (by simp [Op.operands])]
  case mapUpdate t x y z => simp only [op1]; rw [h1 x (by simp [Op.operands]), h1 y (by simp [Op.operands]), h1 z (by simp [Op.operands])]
  case extract x i => simp only [op1]; rw [h1 x (by simp [Op.operands])]
  case call c =>
    obtain ⟨cal, args, ats⟩ := c
    cases cal with
    | builtin b => simp only [op1]; rw [h2 args.toList (fun x hx => by simp [Op.operands, Call.operands]; simpa using hx)]
    | _ => rfl
  all_goals rfl
/-- the part of the slots that an operation looks at -/
def restr (E : Env) : List Tmp → Env
  | [] => .lf
  | t :: r => match E.get t with
    | some v => (restr E r).set t v
    | none => restr E r
theorem restr_get (E : Env) (l : List Tmp) (t : Tmp) : (restr E l).get t = if t ∈ l then E.get t else none := by
  induction l with
  | nil => simp [restr, T.get]
  | cons x l ih =>
    unfold restr
    cases hx : E.get x with
    | none =>
      simp only
      rw [ih]
      by_cases h1 : t = x
      · subst h1; simp [hx]
      · simp [h1]
    | some v =>
      simp only [T.get_set]
      by_cases h1 : t = x
      · subst h1; simp [hx]
      · rw [if_neg h1, ih]; simp [h1]
end
end Go.V
namespace Go.V
set_option linter.unusedVariables false
section
variable {P : Program} {ρ : Ren} {h h' : Hp} {w : World} {env : Env} {a : Act}
structure New1 (w w' : World) : Prop where
  size : w'.heap.size = w.heap.size + 1
  old : ∀ g, g < w.heap.size → w'.heap[g]? = w.heap[g]?
  os : w'.os = w.os
  tape : w'.tape = w.tape
  output : w'.output = w.output
  drawn : w.drawn ≤ w'.drawn
theorem New1.alloc (w : World) (o : Obj) : New1 w (w.alloc o) := ⟨by simp, fun g hg => by
  show (w.heap.push _)[g]? = _
  rw [Array.getElem?_push, if_neg (Nat.ne_of_lt hg)], rfl, rfl, rfl, Nat.le_refl _⟩
theorem New1.drew (w : World) (o : Obj) : New1 w (w.drew.alloc o) := by
  have := New1.alloc w.drew o
  exact ⟨this.size, this.old, this.os, this.tape, this.output, Nat.le_succ _⟩
def AllocR (P : Program) (ρ : Ren) (w : World) (a : Act) (o : Oper) (vOf : Nat → Val) (B : Blk) : Prop :=
  ∃ w' u i, (execOp a.eval o).run P w = .ok (.value u) w' ∧ New1 w w' ∧ i.g = w.heap.size ∧ (∀ σ b, σ b = some i → VR σ (vOf b) u) ∧ ∀ σ, ρ.le σ → BlkR σ i w' B
theorem cellsBlk {z : Nat} {c : List Val} {cs : List Value} {e : TypeId} {fz : Nat × Nat} (hf : fz.1 < fz.2 → cs.length ≤ fz.1) (hz : fz.1 ≤ fz.2) (h1 : c.all Val.one = true) (hlen : c.length ≤ cs.length) (hv : VRL ρ c (cs.take c.length)) {w2 : World} (hnew : w2.heap[w.heap.size]? = some (.cells cs.toArray e fz)) :
    BlkR ρ ⟨w.heap.size, 0, z, c.length, cs.length⟩ w2 (.cells z c) := by
  refine ⟨rfl, rfl, by simpa using hlen, h1, ⟨fun o ho => ⟨?_, ?_⟩, fun c' e' fz' hf' => by rw [hnew] at hf'; obtain ⟨_, _, rfl⟩ := (Obj.cells.inj (Option.some.inj hf')); exact hz⟩, fun j u hj => ?_⟩
  · simp only [World.cell?, hnew]; simp; exact ho
  · simp only [World.frozen?, hnew]
    simp
    intro a
    rcases Nat.lt_or_ge fz.1 fz.2 with q | q
    · have := hf q; simp at ho; omega
    · omega
  · have hjl := (List.getElem?_eq_some_iff.1 hj).1
    obtain ⟨u', a, q⟩ := hv.at hj
    refine ⟨u', ?_, q⟩
    simp only [World.cell?, hnew]
    rw [List.getElem?_take, if_pos hjl] at a
    simpa using a
theorem alloc_at (w : World) (o : Obj) : (w.alloc o).heap[w.heap.size]? = some o := by
  show (w.heap.push _)[w.heap.size]? = _
  rw [Array.getElem?_push, if_pos rfl]
theorem AllocR.row {o : Oper} {z : Nat} {c : List Val} {us : List Value} {e : TypeId} {u : Value} {vOf : Nat → Val} (h1 : c.all Val.one = true) (hv : VRL ρ c us) (hr : (execOp a.eval o).run P w = .ok (.value u) (w.alloc (.cells us.toArray e)))
    (hu : ∀ σ b, σ b = some ⟨w.heap.size, 0, z, c.length, us.length⟩ → VR σ (vOf b) u) : AllocR P ρ w a o vOf (.cells z c) :=
  ⟨_, u, ⟨w.heap.size, 0, z, c.length, us.length⟩, hr, New1.alloc _ _, rfl, hu, fun σ hl => cellsBlk (fz := (0, 0)) (by simp) (by simp) h1 (by rw [hv.1]; exact Nat.le_refl _) (by rw [hv.1, List.take_length]; exact hv.mono hl) (alloc_at _ _)⟩
/-- what an operation that lays something new gives -/
structure AllocK (P : Program) (env : Env) (h : Hp) (o : Oper) (v : Val) (h' : Hp) (vOf : Nat → Val) (B : Blk) : Prop where
  dead : B ≠ .dead
  val : v = vOf h.next
  heap : h' = h.new B
  ptr : ∀ σ b u, VR σ (vOf b) u → σ b ≠ none
  run : ∀ ρ w a, EnvR ρ env a → AllocR P ρ w a o vOf B
theorem alloc_alloc {o : Oper} {e : TypeId} {z v : Val} (ho : o.op = .alloc e) (hz : zeroV P e = some z) (hv : allocV h z.cells.length z.cells = some (v, h')) : AllocK P env h o v h' (fun b => .p (some (b, 0))) (.cells z.cells.length z.cells) := by
  unfold allocV at hv
  split at hv
  · rename_i h1
    simp only [Option.some.injEq, Prod.mk.injEq] at hv
    obtain ⟨rfl, rfl⟩ := hv
    refine ⟨by simp, rfl, rfl, fun σ b u hu => by cases hu; simp_all, fun ρ w a hE => ?_⟩
    obtain ⟨i, u, h2, h3, h4⟩ := zeroV_some hz
    have hr := (cv_VR (ρ := ρ) h4).cells
    refine AllocR.row (e := e) (u := .pointer (some ⟨w.heap.size, 0, none⟩)) h1 hr ?_ (fun σ b hb => VR.p hb)
    simp only [execOp, ho, Instr.alloc, Sem.run_bind, run_zero h2 h3 w, Result.andThen_ok, newVar, run_newRow, Sem.run_pure, Array.toArray_toList]
  · cases hv
theorem alloc_box {o : Oper} {e : TypeId} {x : Operand} {z v : Val} (ho : o.op = .box e x) (hz : evO env x = some z) (hv : allocV h z.cells.length z.cells = some (v, h')) : AllocK P env h o v h' (fun b => .p (some (b, 0))) (.cells z.cells.length z.cells) := by
  unfold allocV at hv
  split at hv
  · rename_i h1
    simp only [Option.some.injEq, Prod.mk.injEq] at hv
    obtain ⟨rfl, rfl⟩ := hv
    refine ⟨by simp, rfl, rfl, fun σ b u hu => by cases hu; simp_all, fun ρ w a hE => ?_⟩
    have hr := (evO_VR hE hz).cells
    refine AllocR.row (e := e) (u := .pointer (some ⟨w.heap.size, 0, none⟩)) h1 hr ?_ (fun σ b hb => VR.p hb)
    simp only [execOp, ho, Instr.box, Sem.run_bind, Result.andThen_ok, newVar, run_newRow, Sem.run_pure, Array.toArray_toList]
  · cases hv
theorem alloc_map {o : Oper} {t : TypeId} {x : Option Operand} {v : Val} (ho : o.op = .makeMap t x) (hv : op1 P env h o.op = some (v, h')) : AllocK P env h o v h' (fun b => .m (some b)) (.map []) := by
  rw [ho] at hv
  have hnew : ∀ w : World, (newObj (.map #[] 0)).run P w = .ok w.heap.size (w.alloc (.map #[] 0)) := fun w => rfl
  have hfin : ∀ (ρ : Ren) (w : World) (a : Act), (execOp a.eval o).run P w = .ok (.value (.map (some w.heap.size))) (w.alloc (.map #[] 0)) → AllocR P ρ w a o (fun b => .m (some b)) (.map []) := fun ρ w a hr =>
    ⟨_, _, ⟨w.heap.size, 0, 0, 0, 0⟩, hr, New1.alloc _ _, rfl, fun σ b hb => VR.m hb, fun σ _ => ⟨#[], 0, alloc_at _ _, rfl, fun j k v hj => by simp at hj⟩⟩
  cases x with
  | none =>
    simp only [op1, Option.some.injEq, Prod.mk.injEq] at hv
    obtain ⟨rfl, rfl⟩ := hv
    refine ⟨by simp, rfl, rfl, fun σ b u hu => by cases hu; simp_all, fun ρ w a hE => hfin ρ w a ?_⟩
    simp only [execOp, ho, Instr.makeMap, Option.map_none, Sem.run_bind, Sem.run_pure, Result.andThen_ok, hnew]
  | some x =>
    simp only [op1] at hv
    rw [Option.bind_eq_some_iff] at hv; obtain ⟨p, hp, hv⟩ := hv
    split at hv
    · rename_i kt vt k n hst
      simp only [Option.some.injEq, Prod.mk.injEq] at hv
      obtain ⟨rfl, rfl⟩ := hv
      refine ⟨by simp, rfl, rfl, fun σ b u hu => by cases hu; simp_all, fun ρ w a hE => hfin ρ w a ?_⟩
      have v1 := evO_VR hE hp
      generalize hu1 : a.eval x = u1 at v1
      cases v1
      simp only [execOp, ho, Instr.makeMap, Option.map_some, hu1, asInt, asIntOf, Sem.run_bind, run_underlying hst w, Sem.run_pure, Result.andThen_ok, hnew]
    · cases hv
theorem alloc_buildSlice {o : Oper} {t : TypeId} {n : Nat} {ps : Array (Nat × Operand)} {qs : List (Nat × Val)} {v : Val} (ho : o.op = .buildSlice t n ps) (hp : evP env ps.toList = some qs) (hv : buildSliceV P h t n qs = some (v, h')) :
    ∃ vOf B, AllocK P env h o v h' vOf B := by
  unfold buildSliceV at hv
  split at hv
  · rename_i e hst
    rw [Option.bind_eq_some_iff] at hv; obtain ⟨z, hs, hv⟩ := hv
    rw [Option.bind_eq_some_iff] at hv; obtain ⟨zv, hz, hv⟩ := hv
    split at hv
    · rename_i hc
      obtain ⟨c1, c2, c3⟩ := hc
      rw [Option.bind_eq_some_iff] at hv; obtain ⟨cs, hf, hv⟩ := hv
      unfold rowV at hv
      split at hv
      case isFalse => cases hv
      rename_i hone
      simp only [Option.some.injEq, Prod.mk.injEq] at hv
      obtain ⟨rfl, rfl⟩ := hv
      refine ⟨fun b => .sl (some (b, 0)) n (some n), .cells z cs, by simp, rfl, rfl, fun σ b u hu => by cases hu; simp_all, fun ρ w a hE => ?_⟩
      obtain ⟨g1, g2⟩ := evP_VR hE hp
      obtain ⟨i, zu, i1, i2, i3⟩ := zeroV_some hz
      have hzr := (cv_VR (ρ := ρ) i3).cells
      have hzs : zu.cells.size = z := by have := hzr.1; simp at this; omega
      have hzz := zeros_VRL hzr (by omega) n
      rw [hzs] at hzz
      obtain ⟨us, e1, e2⟩ := sim_fill hf hzz g1 g2
      refine AllocR.row (e := e) (u := .slice (some ⟨w.heap.size, 0, none⟩) n n) hone e2 ?_ (fun σ b hb => VR.sk hb (Nat.le_refl _))
      have hparts : (ps.map fun (i, x) => (i, a.eval x)).toList = ps.toList.map fun (i, x) => (i, a.eval x) := by simp
      have e3 : ∀ zero : Array Value, (n * z ≠ 0 → zero = zu.cells) → Instr.fill (fun i => some (i * z, z)) ((Array.range (n * z)).map fun x => zero[x % zero.size]!) (ps.toList.map fun (i, x) => (i, a.eval x)) = some us.toArray := fun zero h0 => by
        rw [← e1]
        congr 1
        by_cases hn : n * z = 0
        · rw [hn]; apply Array.ext'; simp
        · rw [h0 hn, hzs, Array.toArray_toList]
      simp only [execOp, ho, Instr.buildSlice, Sem.run_bind, run_underlying hst w, Result.andThen_ok, run_sz hs w]
      rw [if_neg (by omega)]
      by_cases h0 : n * z = 0
      · rw [if_pos h0]
        simp only [Sem.run_bind, Sem.run_pure, Result.andThen_ok, hparts, e3 #[] (fun q => absurd h0 q), run_newRow]
      · rw [if_neg h0]
        simp only [Sem.run_bind, Sem.run_pure, Result.andThen_ok, hparts, run_zero i1 i2 w, e3 zu.cells (fun _ => rfl), run_newRow]
    · cases hv
  · cases hv
theorem alloc_makeSlice {o : Oper} {t : TypeId} {x y : Operand} {p q v : Val} (ho : o.op = .makeSlice t x y) (hx : evO env x = some p) (hy : evO env y = some q) (hv : makeSliceV P h t p q = some (v, h')) : ∃ vOf B, AllocK P env h o v h' vOf B := by
  unfold makeSliceV at hv
  split at hv
  · rename_i e hst
    rw [Option.bind_eq_some_iff] at hv; obtain ⟨z, hs, hv⟩ := hv
    rw [Option.bind_eq_some_iff] at hv; obtain ⟨zv, hz, hv⟩ := hv
    rw [Option.bind_eq_some_iff] at hv; obtain ⟨l, hl, hv⟩ := hv
    rw [Option.bind_eq_some_iff] at hv; obtain ⟨c, hc, hv⟩ := hv
    rw [Option.bind_eq_some_iff] at hv; obtain ⟨inf, hi, hv⟩ := hv
    obtain ⟨k1, rfl, l1⟩ := natV_some hl
    obtain ⟨k2, rfl, l2⟩ := natV_some hc
    split at hv
    · rename_i hcc
      obtain ⟨c1, c2, c3, c4⟩ := hcc
      unfold rowV at hv
      split at hv
      case isFalse => cases hv
      rename_i hone
      simp only [Option.some.injEq, Prod.mk.injEq] at hv
      obtain ⟨rfl, rfl⟩ := hv
      refine ⟨fun b => .sl (some (b, 0)) l (some c), .cells z (zerosV zv.cells c), by simp, rfl, rfl, fun σ b u hu => by cases hu; simp_all, fun ρ w a hE => ?_⟩
      have v1 := evO_VR hE hx
      have v2 := evO_VR hE hy
      generalize hu1 : a.eval x = u1 at v1
      generalize hu2 : a.eval y = u2 at v2
      cases v1; cases v2
      obtain ⟨i, zu, i1, i2, i3⟩ := zeroV_some hz
      have hii : i = inf := by rw [i1] at hi; exact Option.some.inj hi
      subst hii
      have hzr := (cv_VR (ρ := ρ) i3).cells
      have hzs : zu.cells.size = z := by have := hzr.1; simp at this; omega
      have hzz := zeros_VRL hzr (by omega) c
      rw [hzs] at hzz
      refine AllocR.row (e := e) (u := .slice (some ⟨w.heap.size, 0, none⟩) l c) hone hzz ?_ (fun σ b hb => VR.sk hb c1)
      have hroom : ∀ b, (askRoom b).run P w = .ok () w := fun b => by
        unfold askRoom; split <;> rfl
      have t1 : ¬ (((c : Int) < 0 || (i.bytes : Int) * c > 2 ^ 48) || (l : Int) < 0 || (l : Int) > c) = true := by
        have : ((i.bytes : Int) * c) = ((i.bytes * c : Nat) : Int) := by simp
        simp only [Bool.or_eq_true, decide_eq_true_eq, this]
        omega
      simp only [execOp, ho, hu1, hu2, Instr.makeSlice, asInt, asIntOf, Sem.run_bind, run_underlying hst w, Result.andThen_ok, Sem.run_pure, typeInfo, run_program, hi, wrap_id l1, wrap_id l2]
      rw [if_neg t1]
      have e3 : ∀ zero : Array Value, (c * z ≠ 0 → zero = zu.cells) → ((Array.range (c * z)).map fun x => zero[x % zero.size]!) = (((Array.range (c * z)).map fun i => zu.cells[i % z]!).toList).toArray := fun zero h0 => by
        rw [Array.toArray_toList]
        by_cases hn : c * z = 0
        · rw [hn]; apply Array.ext'; simp
        · rw [h0 hn, hzs]
      simp only [Sem.run_bind, Sem.run_pure, Result.andThen_ok, hroom, run_sz hs w, Int.toNat_natCast]
      by_cases h0 : c * z = 0
      · rw [if_pos h0]
        simp only [Sem.run_bind, Sem.run_pure, Result.andThen_ok, e3 #[] (fun q => absurd h0 q), run_newRow]
      · rw [if_neg h0]
        simp only [Sem.run_bind, Sem.run_pure, Result.andThen_ok, run_zero i1 i2 w, e3 zu.cells (fun _ => rfl), run_newRow]
    · cases hv
  · cases hv
theorem alloc_conv {o : Oper} {s d : TypeId} {x : Operand} {p v : Val} (ho : o.op = .convert s d x) (hk : convK P s d = .alloc) (hx : evO env x = some p) (hv : convV P h s d p = some (v, h')) : ∃ vOf B, AllocK P env h o v h' vOf B := by
  unfold convK at hk
  unfold convV at hv
  split at hv
  · rename_i ds k k' n hs hd
    simp [hd] at hk
  · rename_i ds sx hs hd
    cases ds <;> simp [hs, hd] at hk
  · rename_i e sx hs hd
    split at hv
    · rename_i he
      split at hv
      · cases hv
      · rename_i hne
        unfold rowV at hv
        split at hv
        · rename_i h1
          simp only [Option.some.injEq, Prod.mk.injEq] at hv
          obtain ⟨rfl, rfl⟩ := hv
          refine ⟨fun b => .sl (some (b, 0)) sx.length none, .cells 1 (sx.map fun c => .i .u8 c.toNat), by simp, rfl, rfl, fun σ b u hu => by cases hu; simp_all, fun ρ w a hE => ?_⟩
          have v1 := evO_VR hE hx
          generalize hu1 : a.eval x = u1 at v1
          cases v1
          have hrb := run_bytes_of_string (P := P) w s d e ⟨sx.toArray⟩ hs hd he
          have hsz : (⟨sx.toArray⟩ : ByteArray).size = sx.length := by simp [ByteArray.size]
          have hcap := grownCap_ge w sx.length 0 e
          rw [hsz] at hrb
          have hrl : (bytesRow ⟨sx.toArray⟩ (grownCap w sx.length 0 e)).toList = sx.map (fun c => Value.int .u8 c.toNat) ++ List.replicate (grownCap w sx.length 0 e - sx.length) (.int .u8 0) := by
            simp [bytesRow, hsz]
          have hlen : (bytesRow ⟨sx.toArray⟩ (grownCap w sx.length 0 e)).size = grownCap w sx.length 0 e := by
            rw [← Array.length_toList, hrl]; simp; omega
          have hvv : VRL ρ (sx.map fun c => Val.i .u8 c.toNat) ((bytesRow ⟨sx.toArray⟩ (grownCap w sx.length 0 e)).toList.take (sx.map fun c => Val.i .u8 c.toNat).length) := by
            rw [hrl, List.length_map, List.take_left' (by simp)]
            refine ⟨by simp, fun j u u' p q => ?_⟩
            simp only [List.getElem?_map, Option.map_eq_some_iff] at p q
            obtain ⟨b, p1, rfl⟩ := p
            obtain ⟨b', q1, rfl⟩ := q
            rw [p1] at q1
            obtain rfl := Option.some.inj q1
            exact .i _ _
          refine ⟨_, .slice (some ⟨w.heap.size, 0, none⟩) sx.length (grownCap w sx.length 0 e), ⟨w.heap.size, 0, 1, (sx.map fun c => Val.i .u8 c.toNat).length, (bytesRow ⟨sx.toArray⟩ (grownCap w sx.length 0 e)).toList.length⟩, ?_, New1.drew _ _, rfl, fun σ b hb => ?_, fun σ hl => cellsBlk (w := w.drew) (e := e) (fz := ((bytesRow ⟨sx.toArray⟩ (grownCap w sx.length 0 e)).size, (bytesRow ⟨sx.toArray⟩ (grownCap w sx.length 0 e)).size + 1)) (by simp) (by simp) h1 (by have q := hlen; rw [← Array.length_toList] at q; rw [q]; simpa using hcap) (hvv.mono hl) (by rw [Array.toArray_toList]; exact alloc_at w.drew _)⟩
          · simp only [execOp, ho, hu1, strVal', Sem.run_bind, hrb, Result.andThen_ok, Sem.run_pure]
          · have := VR.so (ρ := σ) (b := b) (o := 0) (len := sx.length) (c := grownCap w sx.length 0 e) hb hcap (by simp; exact hcap) (by simp [hlen])
            simpa using this
        · cases hv
    · cases hv
  · rename_i hs hd; simp [hs, hd] at hk
  · rename_i hs hd; simp [hs, hd] at hk
  · rename_i hs hd; simp [hs, hd] at hk
  · rename_i hs hd; simp [hs, hd] at hk
  · cases hv
theorem kind_alloc {o : Oper} {v : Val} (hk : kindOf P o.op = .alloc) (hv : op1 P env h o.op = some (v, h')) : ∃ vOf B, AllocK P env h o v h' vOf B := by
  have hv0 := hv
  generalize ho : o.op = op at hv hk
  cases op <;> simp only [op1, reduceCtorEq] at hv <;> simp only [kindOf, reduceCtorEq] at hk
  case alloc e =>
    rw [Option.bind_eq_some_iff] at hv; obtain ⟨z, hz, hv⟩ := hv
    exact ⟨_, _, alloc_alloc ho hz hv⟩
  case box e x =>
    rw [Option.bind_eq_some_iff] at hv; obtain ⟨z, hz, hv⟩ := hv
    exact ⟨_, _, alloc_box ho hz hv⟩
  case buildSlice t n ps =>
    rw [Option.bind_eq_some_iff] at hv; obtain ⟨qs, hq, hv⟩ := hv
    exact alloc_buildSlice ho hq hv
  case convert s d x =>
    rw [Option.bind_eq_some_iff] at hv; obtain ⟨p, hp, hv⟩ := hv
    exact alloc_conv ho hk hp hv
  case makeMap t x => exact ⟨_, _, alloc_map ho hv0⟩
  case makeSlice t x y =>
    rw [Option.bind_eq_some_iff] at hv; obtain ⟨p, hp, hv⟩ := hv
    rw [Option.bind_eq_some_iff] at hv; obtain ⟨q, hq, hv⟩ := hv
    exact alloc_makeSlice ho hp hq hv
  case call c =>
    obtain ⟨cal, args, ats⟩ := c
    cases cal with
    | builtin b => cases b <;> simp [kindOf] at hk; unfold lenK at hk; split at hk <;> (try split at hk) <;> simp at hk
    | _ => simp at hv
end
end Go.V
namespace Go.V
set_option linter.unusedVariables false

def Dn (listed : Array Bool) (i : Nat) : Prop := listed.getD i false = true
inductive Late (P : Program) (A : List Oper) (hs : Hp) (h : Hp) (pd : List Pend) (ρ : Ren) (i : Nat) (E : Env) (v : Val) (b : Nat) : Prop where
  | pure : kindOf P (opAt A i).op = .pure → op1 P E h (opAt A i).op = some (v, h) → Late P A hs h pd ρ i E v b
  | read : kindOf P (opAt A i).op = .read → op1 P E h (opAt A i).op = some (v, h) → (⟨i, (opAt A i).op, E, v⟩ : Pend) ∈ pd → Late P A hs h pd ρ i E v b
  | alloc (vOf : Nat → Val) (B : Blk) (h0 h0' : Hp) : kindOf P (opAt A i).op = .alloc → AllocK P (restr E (looks A (opAt A i))) h0 (opAt A i) v h0' vOf B → v = vOf b → h.get b = some B → ρ b = none → hs.next ≤ b → b < h.next → Late P A hs h pd ρ i E v b

structure DI (P : Program) (A : List Oper) (n : Nat) (dn L : List Nat) (pd : List Pend) (env : Env) (h : Hp) (listed : Array Bool) (a : Act) (w : World) (ρ : Ren) (ρs : Ren) (hs : Hp) (ws : World) (e0 : Env) (V : Nat → Val) (EV : Nat → Env) (BL : Nat → Nat) : Prop where
  size : listed.size = A.length
  cover : ∀ i, i < A.length → i ∈ dn ∨ i ∈ L
  ord : okGo P A (ancs A []) dn L = true
  dlt : ∀ i, i ∈ dn → i < A.length
  sub : ∀ i, Dn listed i → i ∈ dn
  closed : ∀ j, Dn listed j → ∀ k, edge A j k → Dn listed k
  cedge : ∀ j, j ∈ dn → ∀ k, edge A j k → k ∈ dn
  tail : ∀ pre j post, dn = pre ++ j :: post → ∀ k, edge A j k → k ∈ post
  rel : Rel ρ h w
  defers : a.defers = []
  asize : a.tmps.size = n
  ext : Ext ρs hs ws ρ h w
  cv : ∀ i, i ∈ dn → ∀ t, (opAt A i).dst = some t → env.get t = some (V i)
  ce : ∀ t, (∀ i, i ∈ dn → (opAt A i).dst ≠ some t) → env.get t = e0.get t
  av : ∀ i, Dn listed i → ∀ t, (opAt A i).dst = some t → VR ρ (V i) (a.tmps.getD t undef)
  ae : ∀ t v, (∀ i, Dn listed i → (opAt A i).dst ≠ some t) → e0.get t = some v → VR ρ v (a.tmps.getD t undef)
  sv : ∀ i, i ∈ dn → ¬ Dn listed i → ∀ j t, j < A.length → (opAt A j).dst = some t → t ∈ looks A (opAt A i) → (ancB A i j → (EV i).get t = some (V j)) ∧ (¬ ancB A i j → (EV i).get t = e0.get t)
  se : ∀ i, i ∈ dn → ¬ Dn listed i → ∀ t, t ∈ looks A (opAt A i) → (∀ j, j < A.length → (opAt A j).dst ≠ some t) → (EV i).get t = e0.get t
  again : ∀ i, i ∈ dn → ¬ Dn listed i → (wantO A (EV i) (opAt A i) = some false ∧ V i = .no) ∨ (wantO A (EV i) (opAt A i) = some true ∧ Late P A hs h pd ρ i (EV i) (V i) (BL i))
  inj : ∀ i j, i ∈ dn → j ∈ dn → ¬ Dn listed i → ¬ Dn listed j → wantO A (EV i) (opAt A i) = some true → wantO A (EV j) (opAt A j) = some true → kindOf P (opAt A i).op = .alloc → kindOf P (opAt A j).op = .alloc → BL i = BL j → i = j

section
variable {P : Program} {A : List Oper} {n : Nat} {dn L : List Nat} {pd : List Pend} {env : Env} {h : Hp} {listed : Array Bool} {a : Act} {w : World} {ρ ρs : Ren} {hs : Hp} {ws : World} {e0 : Env} {V : Nat → Val} {EV : Nat → Env} {BL : Nat → Nat}
theorem Rel.extend (r : Rel ρ h w) (B : Blk) : Rel ρ (h.new B) w := by
  have hget : ∀ b i, ρ b = some i → (h.new B).get b = h.get b := fun b i e => by
    rw [Hp.get_new, if_neg]; intro q; have := (r.dom b i e).1; omega
  refine ⟨fun b i e => ⟨Nat.lt_succ_of_lt (r.dom b i e).1, (r.dom b i e).2⟩, fun b i X e f => r.blk b i X e (by rw [← hget b i e]; exact f), fun b b' i i' e e' l l' hg => ?_, fun k hk => ?_⟩
  · refine r.inj b b' i i' e e' ?_ ?_ hg
    · obtain ⟨X, q1, q2⟩ := l; exact ⟨X, by rw [← hget b i e]; exact q1, q2⟩
    · obtain ⟨X, q1, q2⟩ := l'; exact ⟨X, by rw [← hget b' i' e']; exact q1, q2⟩
  · have hk' : h.next + 1 ≤ k := hk
    rw [Hp.get_new, if_neg (by omega)]; exact r.wf k (by omega)
theorem Ext.extend (x : Ext ρs hs ws ρ h w) (r : Rel ρ h w) (B : Blk) : Ext ρs hs ws ρ (h.new B) w :=
  ⟨x.le, Nat.le_succ_of_le x.next, fun b hb hl => by
    obtain ⟨p, q⟩ := x.other b hb hl
    refine ⟨p, ?_⟩
    rw [Hp.get_new, if_neg (by have := x.next; omega)]; exact q, x.size, fun g hg hn => by
      obtain ⟨p, q⟩ := x.frame g hg hn
      refine ⟨p, fun b i e ho => q b i e ?_⟩
      obtain ⟨X, q1, q2⟩ := ho
      rw [Hp.get_new, if_neg (fun e' => by have := (r.dom b i e).1; omega)] at q1
      exact ⟨X, q1, q2⟩, x.os, x.tape, x.output, x.drawn⟩
/-- something new, done late -/
theorem Rel.late (r : Rel ρ h w) {b : Nat} {i : Info} {B : Blk} {w' : World} (hb : ρ b = none) (hl : b < h.next) (hg : h.get b = some B) (hn : New1 w w') (hi : i.g = w.heap.size) (hB : BlkR (ρ.put b i) i w' B) : Rel (ρ.put b i) h w' := by
  have hle := Ren.le_put (ρ := ρ) (b := b) i hb
  have hput : ∀ b' i', (ρ.put b i) b' = some i' → (b' = b ∧ i' = i) ∨ (b' ≠ b ∧ ρ b' = some i') := fun b' i' e => by
    unfold Ren.put at e
    split at e
    · rename_i q; exact .inl ⟨q, (Option.some.inj e).symm⟩
    · rename_i q; exact .inr ⟨q, e⟩
  refine ⟨fun b' i' e => ?_, fun b' i' X e f => ?_, fun b1 b2 i1 i2 e1 e2 l1 l2 hgg => ?_, r.wf⟩
  · rw [hn.size]
    rcases hput b' i' e with ⟨rfl, rfl⟩ | ⟨_, e⟩
    · exact ⟨hl, by omega⟩
    · have := r.dom b' i' e; exact ⟨this.1, by omega⟩
  · rcases hput b' i' e with ⟨rfl, rfl⟩ | ⟨_, e⟩
    · rw [hg] at f; obtain rfl := Option.some.inj f; exact hB
    · exact (r.blk b' i' X e f).congr hle (hn.old _ (r.dom b' i' e).2)
  · rcases hput b1 i1 e1 with ⟨q1, q2⟩ | ⟨q1, f1⟩ <;> rcases hput b2 i2 e2 with ⟨q3, q4⟩ | ⟨q3, f2⟩
    · rw [q1, q3]
    · have := (r.dom b2 i2 f2).2; rw [q2] at hgg; omega
    · have := (r.dom b1 i1 f1).2; rw [q4] at hgg; omega
    · exact r.inj b1 b2 i1 i2 f1 f2 l1 l2 hgg
theorem Ext.late (x : Ext ρs hs ws ρ h w) {b : Nat} {i : Info} {w' : World} (hb : ρ b = none) (hl : hs.next ≤ b) (hn : New1 w w') (hi : i.g = w.heap.size) : Ext ρs hs ws (ρ.put b i) h w' := by
  have hle := Ren.le_put (ρ := ρ) (b := b) i hb
  refine ⟨x.le.trans hle, x.next, fun b' hb' hl' => ?_, by rw [hn.size]; have := x.size; omega, fun g hg hno => ?_, hn.os.trans x.os, hn.tape.trans x.tape, hn.output.trans x.output, Nat.le_trans x.drawn hn.drawn⟩
  · obtain ⟨p, q⟩ := x.other b' hb' hl'
    refine ⟨?_, q⟩
    unfold Ren.put; rw [if_neg (by omega)]; exact p
  · obtain ⟨p, q⟩ := x.frame g hg hno
    refine ⟨(hn.old g (Nat.lt_of_lt_of_le hg x.size)).trans p, fun b' i' e ho => ?_⟩
    unfold Ren.put at e
    split at e
    · obtain rfl := Option.some.inj e
      have := x.size; omega
    · exact q b' i' e ho
theorem Dn_set {i j : Nat} (hi : i < listed.size) : Dn (listed.setIfInBounds i true) j ↔ j = i ∨ Dn listed j := by
  unfold Dn
  rw [Array.getD_eq_getD_getElem?, Array.getElem?_setIfInBounds, Array.getD_eq_getD_getElem?]
  split
  · rename_i e; subst e; simp [hi]
  · rename_i e
    constructor
    · exact fun q => .inr q
    · rintro (rfl | q)
      · exact absurd rfl e
      · exact q
/-- an operation that stands behind in the order is done -/
theorem DI.done (d : DI P A n dn L pd env h listed a w ρ ρs hs ws e0 V EV BL) (G : Glob A n) {i : Nat} (hi : i ∈ dn) (hnd : ¬ Dn listed i) (hr : ∀ k, edge A i k → Dn listed k) {w' : World} {ρ' : Ren} {u : Value} (hle : ρ.le ρ') (hrel : Rel ρ' h w') (hext : Ext ρs hs ws ρ' h w') (hv : VR ρ' (V i) u)
    (hb : ∀ j, j ∈ dn → ¬ Dn listed j → j ≠ i → wantO A (EV j) (opAt A j) = some true → kindOf P (opAt A j).op = .alloc → ρ (BL j) = none → BL j < h.next → ρ' (BL j) = none) :
    DI P A n dn L pd env h (listed.setIfInBounds i true) (a.put (opAt A i).dst u) w' ρ' ρs hs ws e0 V EV BL := by
  have hil : i < listed.size := by rw [d.size]; exact d.dlt i hi
  have hput : ∀ t, (opAt A i).dst ≠ some t → (a.put (opAt A i).dst u).tmps.getD t undef = a.tmps.getD t undef := fun t ht => by
    cases hd : (opAt A i).dst with
    | none => rfl
    | some x =>
      simp only [Act.put, Array.getD_eq_getD_getElem?, Array.getElem?_setIfInBounds]
      rw [if_neg (fun e => ht (by rw [hd, e]))]
  have hself : ∀ t, (opAt A i).dst = some t → (a.put (opAt A i).dst u).tmps.getD t undef = u := fun t ht => by
    rw [ht]
    simp only [Act.put, Array.getD_eq_getD_getElem?, Array.getElem?_setIfInBounds]
    simp only [if_true]
    rw [if_pos (by rw [d.asize]; exact dst_lt G.dst (d.dlt i hi) t ht)]
    rfl
  refine ⟨by simp [d.size], d.cover, d.ord, d.dlt, fun j hj => ?_, fun j hj k hk => ?_, d.cedge, d.tail, hrel, ?_, ?_, hext, d.cv, d.ce, fun j hj t ht => ?_, fun t v hno hv0 => ?_, fun j hj hjd => d.sv j hj (fun q => hjd ((Dn_set hil).2 (.inr q))), fun j hj hjd => d.se j hj (fun q => hjd ((Dn_set hil).2 (.inr q))), fun j hj hjd => ?_, fun j k hj hk hjd hkd => d.inj j k hj hk (fun q => hjd ((Dn_set hil).2 (.inr q))) (fun q => hkd ((Dn_set hil).2 (.inr q)))⟩
  · rcases (Dn_set hil).1 hj with rfl | hj
    · exact hi
    · exact d.sub j hj
  · rcases (Dn_set hil).1 hj with rfl | hj
    · exact (Dn_set hil).2 (.inr (hr k hk))
    · exact (Dn_set hil).2 (.inr (d.closed j hj k hk))
  · cases (opAt A i).dst <;> simp [Act.put, d.defers]
  · cases (opAt A i).dst <;> simp [Act.put, d.asize]
  · rcases (Dn_set hil).1 hj with rfl | hj
    · rw [hself t ht]; exact hv
    · have hne : j ≠ i := fun e => hnd (e ▸ hj)
      rw [hput t (fun e => G.uniq i j t (d.dlt i hi) (d.dlt j (d.sub j hj)) (fun q => hne q.symm) e ht)]
      exact (d.av j hj t ht).mono hle
  · rw [hput t (hno i ((Dn_set hil).2 (.inl rfl)))]
    exact (d.ae t v (fun j hj => hno j ((Dn_set hil).2 (.inr hj))) hv0).mono hle
  · have hjd' : ¬ Dn listed j := fun q => hjd ((Dn_set hil).2 (.inr q))
    have hne : j ≠ i := fun e => hjd ((Dn_set hil).2 (.inl e))
    rcases d.again j hj hjd' with q | ⟨q, l⟩
    · exact .inl q
    · refine .inr ⟨q, ?_⟩
      cases l with
      | pure k1 k2 => exact .pure k1 k2
      | read k1 k2 k3 => exact .read k1 k2 k3
      | alloc vOf B h0 h0' k1 k2 k3 k4 k5 k6 k7 => exact .alloc vOf B h0 h0' k1 k2 k3 k4 (hb j hj hjd' hne q k1 k5 k7) k6 k7
end
end Go.V
namespace Go.V
set_option linter.unusedVariables false
section
variable {P : Program} {A : List Oper} {n : Nat} {dn L : List Nat} {pd : List Pend} {env : Env} {h : Hp} {listed : Array Bool} {a : Act} {w : World} {ρ ρs : Ren} {hs : Hp} {ws : World} {e0 : Env} {V : Nat → Val} {EV : Nat → Env} {BL : Nat → Nat}
/-- what an operation looks at, as it was when it stood to be done -/
structure Snap (A : List Oper) (e0 : Env) (V : Nat → Val) (i : Nat) (E : Env) : Prop where
  sv : ∀ j t, j < A.length → (opAt A j).dst = some t → t ∈ looks A (opAt A i) → (ancB A i j → E.get t = some (V j)) ∧ (¬ ancB A i j → E.get t = e0.get t)
  se : ∀ t, t ∈ looks A (opAt A i) → (∀ j, j < A.length → (opAt A j).dst ≠ some t) → E.get t = e0.get t
theorem DI.snapA (d : DI P A n dn L pd env h listed a w ρ ρs hs ws e0 V EV BL) (G : Glob A n) {i : Nat} (hi : i < A.length) (hnd : ¬ Dn listed i) (hr : ∀ k, edge A i k → Dn listed k) {E : Env} (S : Snap A e0 V i E) :
    ∀ t, t ∈ looks A (opAt A i) → ∀ v, E.get t = some v → VR ρ v (a.tmps.getD t undef) := by
  intro t ht v hv
  by_cases hj : ∃ j, j < A.length ∧ (opAt A j).dst = some t
  · obtain ⟨j, hj, hjd⟩ := hj
    have hne : j ≠ i := fun e => G.self j t hj hjd (by rw [e]; exact ht)
    obtain ⟨s1, s2⟩ := S.sv j t hj hjd ht
    by_cases hb : ancB A i j
    · have hD := anc_closed d.closed i j hr hb
      rw [s1 hb] at hv
      obtain rfl := Option.some.inj hv
      exact d.av j hD t hjd
    · rw [s2 hb] at hv
      refine d.ae t v (fun k hk hkd => ?_) hv
      have hkj : k = j := by
        apply Classical.byContradiction
        intro hne2
        exact G.uniq k j t (d.dlt k (d.sub k hk)) hj hne2 hkd hjd
      subst hkj
      rcases G.rw k i t hj hi hne hjd ht with q | q
      · exact hb q
      · exact hnd (anc_closed d.closed k i (d.closed k hk) q)
  · rw [S.se t ht (fun j hjl hjd => hj ⟨j, hjl, hjd⟩)] at hv
    exact d.ae t v (fun k hk hkd => hj ⟨k, d.dlt k (d.sub k hk), hkd⟩) hv
theorem DI.snapD (d : DI P A n dn L pd env h listed a w ρ ρs hs ws e0 V EV BL) {i : Nat} (hi : i ∈ dn) (hnd : ¬ Dn listed i) : Snap A e0 V i (EV i) := ⟨d.sv i hi hnd, d.se i hi hnd⟩
theorem DI.snapC {i : Nat} {L' : List Nat} (d : DI P A n dn (i :: L') pd env h listed a w ρ ρs hs ws e0 V EV BL) (G : Glob A n) (T : At P A dn i L') : Snap A e0 V i env := by
  refine ⟨fun j t hj hjd ht => ⟨fun hb => ?_, fun hb => ?_⟩, fun t ht hno => d.ce t fun k hk => hno k (d.dlt k hk)⟩
  · exact d.cv j (anc_closed (D := (· ∈ dn)) d.cedge i j T.edges hb) t hjd
  · refine d.ce t fun k hk hkd => ?_
    have hkj : k = j := by
      apply Classical.byContradiction
      intro hne2
      exact G.uniq k j t (d.dlt k hk) hj hne2 hkd hjd
    subst hkj
    have hne : k ≠ i := fun e => T.out (e ▸ hk)
    rcases G.rw k i t hj T.lt hne hjd ht with q | q
    · exact hb q
    · exact T.out (anc_closed (D := (· ∈ dn)) d.cedge k i (d.cedge k hk) q)
theorem tmps_looks {A : List Oper} {o : Oper} {t : Tmp} (h : t ∈ tmpsOf o.op) : t ∈ looks A o := by
  unfold looks
  exact List.mem_append.2 (.inl h)
theorem guard_looks {A : List Oper} {o : Oper} {g : Nat} {wt : Bool} {x : Tmp} (h : o.guard = some (g, wt)) (hx : ((A[g]?).bind (·.dst)) = some x) : x ∈ looks A o := by
  unfold looks
  refine List.mem_append.2 (.inr ?_)
  rw [h]
  simp only
  rw [hx]
  simp
theorem want_restr {A : List Oper} {o : Oper} {E : Env} : wantO A (restr E (looks A o)) o = wantO A E o := by
  unfold wantO
  cases hg : o.guard with
  | none => rfl
  | some q =>
    obtain ⟨g, wt⟩ := q
    simp only
    cases hx : (A[g]?).bind (·.dst) with
    | none => rfl
    | some x =>
      simp only [Option.bind_some]
      rw [restr_get, if_pos (guard_looks hg hx)]
theorem op1_restr {A : List Oper} {o : Oper} {E : Env} : op1 P (restr E (looks A o)) h o.op = op1 P E h o.op :=
  op1_congr fun t ht => by rw [restr_get, if_pos (tmps_looks ht)]
theorem St0.restr (d : DI P A n dn L pd env h listed a w ρ ρs hs ws e0 V EV BL) (G : Glob A n) {i : Nat} (hi : i < A.length) (hnd : ¬ Dn listed i) (hr : ∀ k, edge A i k → Dn listed k) {E : Env} (S : Snap A e0 V i E) : St0 ρ (Go.V.restr E (looks A (opAt A i))) h n a w := by
  refine ⟨d.rel, fun t v hv => ?_, d.defers, d.asize⟩
  rw [restr_get] at hv
  split at hv
  · rename_i ht; exact d.snapA G hi hnd hr S t ht v hv
  · cases hv
/-- an operation that stands behind in the order is done -/
theorem DI.late (d : DI P A n dn L pd env h listed a w ρ ρs hs ws e0 V EV BL) (G : Glob A n) {i : Nat} (hi : i ∈ dn) (hnd : ¬ Dn listed i) (hr : ∀ k, edge A i k → Dn listed k) {K : Act → World → Prop} {Q : Exit → Act → World → Prop}
    (hK : ∀ a' w' ρ', DI P A n dn L pd env h (listed.setIfInBounds i true) a' w' ρ' ρs hs ws e0 V EV BL → K a' w') : wpOp P A.toArray Q i K a w := by
  have hil := d.dlt i hi
  have s := St0.restr d G hil hnd hr (d.snapD hi hnd)
  unfold wpOp
  simp only [List.getElem?_toArray, opAt_get hil]
  rcases d.again i hi hnd with ⟨q1, q2⟩ | ⟨q1, l⟩
  · rw [want_run s G.dst (by rw [want_restr]; exact q1)]
    simp only [Bool.false_eq_true, if_false]
    exact hK _ _ ρ (d.done G hi hnd hr (Ren.le.refl _) d.rel d.ext (by rw [q2]; exact VR.none0) (fun j _ _ _ _ _ q _ => q))
  · have q1' := q1
    rw [want_run s G.dst (by rw [want_restr]; exact q1)]
    simp only [if_true]
    left
    have two : ∀ {v : Val}, op1 P (EV i) h (opAt A i).op = some (v, h) → V i = v → Oper.wp P (opAt A i) a w K Q := fun {v} ho hv => by
      rw [← op1_restr (A := A)] at ho
      obtain ⟨ρ', w', r, u, e1, e2, e3, e4, e5⟩ := sim_op1 (a := a) d.rel s.env ho
      unfold Oper.wp
      rw [e1]
      refine putO_same _ _ e2 (hK _ _ ρ' (d.done G hi hnd hr e5.le e4 (d.ext.trans e5) (by rw [hv]; exact e3) (fun j _ _ _ _ _ q1 q2 => (e5.other _ q1 q2).1)))
    cases l with
    | pure k1 k2 => exact two k2 rfl
    | read k1 k2 k3 => exact two k2 rfl
    | alloc vOf B h0 h0' k1 k2 k3 k4 k5 k6 k7 =>
      obtain ⟨w', u, f, r1, r2, r3, r4, r5⟩ := k2.run ρ w a s.env
      have hle := Ren.le_put (ρ := ρ) (b := BL i) f k5
      have hrel := d.rel.late k5 k7 k4 r2 r3 (r5 _ hle)
      have hext := d.ext.late k5 k6 r2 r3
      unfold Oper.wp
      rw [r1]
      refine hK _ _ (ρ.put (BL i) f) (d.done G hi hnd hr hle hrel hext (by rw [k3]; exact r4 _ _ (put_self _ _)) (fun j hj hjd hne hw hka q1 q2 => ?_))
      unfold Ren.put
      rw [if_neg]
      · exact q1
      · intro e
        exact hne (d.inj j i hj hi hjd hnd hw q1' hka k1 e)
def upd {α : Type} (f : Nat → α) (i : Nat) (x : α) : Nat → α := fun j => if j = i then x else f j
theorem upd_self {α : Type} (f : Nat → α) (i : Nat) (x : α) : upd f i x i = x := by simp [upd]
theorem upd_ne {α : Type} (f : Nat → α) {i j : Nat} (x : α) (h : j ≠ i) : upd f i x j = f j := by simp [upd, h]
/-- the order goes on by an operation that nothing hangs on -/
theorem DI.step {i : Nat} {L' : List Nat} (d : DI P A n dn (i :: L') pd env h listed a w ρ ρs hs ws e0 V EV BL) (G : Glob A n) {v : Val} {h' : Hp} {pd' : List Pend} (hh : h' = h ∨ ∃ B, h' = h.new B) (hpd : ∀ q, q ∈ pd → q ∈ pd')
    (hnew : (wantO A env (opAt A i) = some false ∧ v = .no ∧ h' = h) ∨ (wantO A env (opAt A i) = some true ∧ ((kindOf P (opAt A i).op = .pure ∧ op1 P env h' (opAt A i).op = some (v, h')) ∨ (kindOf P (opAt A i).op = .read ∧ op1 P env h' (opAt A i).op = some (v, h') ∧ (⟨i, (opAt A i).op, env, v⟩ : Pend) ∈ pd') ∨
      (kindOf P (opAt A i).op = .alloc ∧ op1 P env h (opAt A i).op = some (v, h'))))) :
    ∃ V' EV' BL', DI P A n (i :: dn) L' pd' (putO env (opAt A i).dst v) h' listed a w ρ ρs hs ws e0 V' EV' BL' := by
  obtain ⟨T, hord, _⟩ := okGo_at d.ord
  have hnd : ¬ Dn listed i := fun q => T.out (d.sub i q)
  have hne : ∀ j, j ∈ dn → j ≠ i := fun j hj e => T.out (e ▸ hj)
  have hwf : h.wf := d.rel.wf
  have hrel : Rel ρ h' w := by rcases hh with rfl | ⟨B, rfl⟩; exact d.rel; exact d.rel.extend B
  have hext : Ext ρs hs ws ρ h' w := by rcases hh with rfl | ⟨B, rfl⟩; exact d.ext; exact d.ext.extend d.rel B
  have hgp : ∀ t, (putO env (opAt A i).dst v).get t = if (opAt A i).dst = some t then some v else env.get t := fun t => by
    cases hd : (opAt A i).dst with
    | none => simp [putO]
    | some x =>
      simp only [putO, Go.V.T.get_set]
      by_cases e : t = x
      · subst e; simp
      · rw [if_neg e, if_neg (fun q => e (Option.some.inj q).symm)]
  have S := d.snapC G T
  refine ⟨upd V i v, upd EV i env, upd BL i h.next, d.size, fun j hj => ?_, hord, fun j hj => ?_, fun j hj => List.mem_cons_of_mem _ (d.sub j hj), d.closed, fun j hj k hk => ?_, fun pre j post hq k hk => ?_, hrel, d.defers, d.asize, hext, fun j hj t ht => ?_, fun t hno => ?_, fun j hj t ht => ?_, d.ae, fun j hj hjd k t hk hkd ht => ?_, fun j hj hjd t ht hno => ?_, fun j hj hjd => ?_, fun j k hj hk hjd hkd hwj hwk kj kk e => ?_⟩
  · rcases d.cover j hj with q | q
    · exact .inl (List.mem_cons_of_mem _ q)
    · rcases List.mem_cons.1 q with rfl | q
      · exact .inl (by simp)
      · exact .inr q
  · rcases List.mem_cons.1 hj with rfl | hj
    · exact T.lt
    · exact d.dlt j hj
  · rcases List.mem_cons.1 hj with rfl | hj
    · exact List.mem_cons_of_mem _ (T.edges k hk)
    · exact List.mem_cons_of_mem _ (d.cedge j hj k hk)
  · cases pre with
    | nil =>
      simp at hq
      obtain ⟨rfl, rfl⟩ := hq
      exact T.edges k hk
    | cons x pre =>
      simp at hq
      exact d.tail pre j post hq.2 k hk
  · rw [hgp]
    rcases List.mem_cons.1 hj with rfl | hj
    · rw [if_pos ht, upd_self]
    · rw [if_neg (G.uniq j i t (d.dlt j hj) T.lt (hne j hj) ht), upd_ne _ _ (hne j hj)]
      exact d.cv j hj t ht
  · rw [hgp, if_neg (hno i (by simp))]
    exact d.ce t fun j hj => hno j (List.mem_cons_of_mem _ hj)
  · have := hne j (d.sub j hj)
    rw [upd_ne _ _ this]
    exact d.av j hj t ht
  · rcases List.mem_cons.1 hj with rfl | hj
    · rw [upd_self]
      obtain ⟨s1, s2⟩ := S.sv k t hk hkd ht
      refine ⟨fun hb => ?_, s2⟩
      have hki : k ≠ j := fun e => T.out (anc_closed (D := (· ∈ dn)) d.cedge j j T.edges (e ▸ hb))
      rw [upd_ne _ _ hki]
      exact s1 hb
    · rw [upd_ne EV _ (hne j hj)]
      obtain ⟨s1, s2⟩ := d.sv j hj hjd k t hk hkd ht
      refine ⟨fun hb => ?_, s2⟩
      have hki : k ≠ i := fun e => T.out (anc_closed (D := (· ∈ dn)) d.cedge j i (d.cedge j hj) (e ▸ hb))
      rw [upd_ne _ _ hki]
      exact s1 hb
  · rcases List.mem_cons.1 hj with rfl | hj
    · rw [upd_self]; exact S.se t ht hno
    · rw [upd_ne _ _ (hne j hj)]; exact d.se j hj hjd t ht hno
  · rcases List.mem_cons.1 hj with rfl | hj
    · rw [upd_self, upd_self, upd_self]
      rcases hnew with ⟨q1, q2, _⟩ | ⟨q1, q2⟩
      · exact .inl ⟨q1, q2⟩
      · refine .inr ⟨q1, ?_⟩
        rcases q2 with ⟨k1, k2⟩ | ⟨k1, k2, k3⟩ | ⟨k1, k2⟩
        · exact .pure k1 k2
        · exact .read k1 k2 k3
        · obtain ⟨vOf, B, k⟩ := kind_alloc (env := restr env (looks A (opAt A j))) k1 (by rw [op1_restr]; exact k2)
          refine .alloc vOf B h h' k1 k k.val ?_ d.rel.free d.ext.next ?_
          · rw [k.heap, Hp.get_new, if_pos rfl]
          · rw [k.heap]; exact Nat.lt_succ_self _
    · rw [upd_ne _ _ (hne j hj), upd_ne _ _ (hne j hj), upd_ne _ _ (hne j hj)]
      rcases d.again j hj hjd with q | ⟨q, l⟩
      · exact .inl q
      · refine .inr ⟨q, ?_⟩
        cases l with
        | pure k1 k2 => exact .pure k1 ((kind_pure k1 k2).2 h')
        | read k1 k2 k3 =>
          refine .read k1 ?_ (hpd _ k3)
          rcases hh with rfl | ⟨B, rfl⟩
          · exact k2
          · exact (kind_read k1 k2).2 B hwf
        | alloc vOf B h0 h0' k1 k2 k3 k4 k5 k6 k7 =>
          refine .alloc vOf B h0 h0' k1 k2 k3 ?_ k5 k6 ?_
          · rcases hh with rfl | ⟨B, rfl⟩
            · exact k4
            · rw [Hp.get_new, if_neg (by omega)]; exact k4
          · rcases hh with rfl | ⟨B, rfl⟩
            · exact k7
            · exact Nat.lt_succ_of_lt k7
  · have old : ∀ m, m ∈ dn → ¬ Dn listed m → wantO A (EV m) (opAt A m) = some true → kindOf P (opAt A m).op = .alloc → BL m < h.next := fun m hm hmd hwm hkm => by
      rcases d.again m hm hmd with ⟨q, _⟩ | ⟨q, l⟩
      · rw [q] at hwm; cases hwm
      · cases l with
        | pure k1 _ => rw [hkm] at k1; cases k1
        | read k1 _ _ => rw [hkm] at k1; cases k1
        | alloc vOf B h0 h0' k1 k2 k3 k4 k5 k6 k7 => exact k7
    rcases List.mem_cons.1 hj with q1 | hj' <;> rcases List.mem_cons.1 hk with q2 | hk'
    · rw [q1, q2]
    · rw [q1, upd_self, upd_ne _ _ (hne k hk')] at e
      rw [upd_ne _ _ (hne k hk')] at hwk
      have := old k hk' hkd hwk kk; omega
    · rw [q2, upd_self, upd_ne _ _ (hne j hj')] at e
      rw [upd_ne _ _ (hne j hj')] at hwj
      have := old j hj' hjd hwj kj; omega
    · rw [upd_ne _ _ (hne j hj'), upd_ne _ _ (hne k hk')] at e
      rw [upd_ne _ _ (hne j hj')] at hwj
      rw [upd_ne _ _ (hne k hk')] at hwk
      exact d.inj j k hj' hk' hjd hkd hwj hwk kj kk e
end
end Go.V
namespace Go.V
set_option linter.unusedVariables false
section
variable {P : Program} {A : List Oper} {n : Nat} {dn L : List Nat} {pd : List Pend} {env : Env} {h : Hp} {listed : Array Bool} {a : Act} {w : World} {ρ ρs : Ren} {hs : Hp} {ws : World} {e0 : Env} {V : Nat → Val} {EV : Nat → Env} {BL : Nat → Nat}
/-- the order goes on by an effect, in the model too -/
theorem DI.eff {i : Nat} {L' : List Nat} (d : DI P A n dn (i :: L') pd env h listed a w ρ ρs hs ws e0 V EV BL) (G : Glob A n) (hr : ∀ k, edge A i k → Dn listed k) {v : Val} {u : Value} {h' : Hp} {w' : World} {ρ' : Ren} (hst : Stays P A true i pd h') (hrel : Rel ρ' h' w') (hx : Ext ρ h w ρ' h' w') (hv : VR ρ' v u) :
    ∃ V', DI P A n (i :: dn) L' pd (putO env (opAt A i).dst v) h' (listed.setIfInBounds i true) (a.put (opAt A i).dst u) w' ρ' ρs hs ws e0 V' EV BL := by
  obtain ⟨T, hord, _⟩ := okGo_at d.ord
  have hnd : ¬ Dn listed i := fun q => T.out (d.sub i q)
  have hne : ∀ j, j ∈ dn → j ≠ i := fun j hj e => T.out (e ▸ hj)
  have hil : i < listed.size := by rw [d.size]; exact T.lt
  have hgp : ∀ t, (putO env (opAt A i).dst v).get t = if (opAt A i).dst = some t then some v else env.get t := fun t => by
    cases hd : (opAt A i).dst with
    | none => simp [putO]
    | some x =>
      simp only [putO, Go.V.T.get_set]
      by_cases e : t = x
      · subst e; simp
      · rw [if_neg e, if_neg (fun q => e (Option.some.inj q).symm)]
  have hput : ∀ t, (opAt A i).dst ≠ some t → (a.put (opAt A i).dst u).tmps.getD t undef = a.tmps.getD t undef := fun t ht => by
    cases hd : (opAt A i).dst with
    | none => rfl
    | some x =>
      simp only [Act.put, Array.getD_eq_getD_getElem?, Array.getElem?_setIfInBounds]
      rw [if_neg (fun e => ht (by rw [hd, e]))]
  have hself : ∀ t, (opAt A i).dst = some t → (a.put (opAt A i).dst u).tmps.getD t undef = u := fun t ht => by
    rw [ht]
    simp only [Act.put, Array.getD_eq_getD_getElem?, Array.getElem?_setIfInBounds]
    simp only [if_true]
    rw [if_pos (by rw [d.asize]; exact dst_lt G.dst T.lt t ht)]
    rfl
  have hcase : ∀ j, j ∈ i :: dn → ¬ Dn (listed.setIfInBounds i true) j → j ∈ dn ∧ ¬ Dn listed j := fun j hj hjd => by
    have h1 : j ≠ i := fun e => hjd ((Dn_set hil).2 (.inl e))
    rcases List.mem_cons.1 hj with q | q
    · exact absurd q h1
    · exact ⟨q, fun x => hjd ((Dn_set hil).2 (.inr x))⟩
  refine ⟨upd V i v, by simp [d.size], fun j hj => ?_, hord, fun j hj => ?_, fun j hj => ?_, fun j hj k hk => ?_, fun j hj k hk => ?_, fun pre j post hq k hk => ?_, hrel, ?_, ?_, d.ext.trans hx, fun j hj t ht => ?_, fun t hno => ?_, fun j hj t ht => ?_, fun t x hno hx0 => ?_, fun j hj hjd k t hk hkd ht => ?_, fun j hj hjd t ht hno => ?_, fun j hj hjd => ?_, fun j k hj hk hjd hkd => ?_⟩
  · rcases d.cover j hj with q | q
    · exact .inl (List.mem_cons_of_mem _ q)
    · rcases List.mem_cons.1 q with rfl | q
      · exact .inl (by simp)
      · exact .inr q
  · rcases List.mem_cons.1 hj with rfl | hj
    · exact T.lt
    · exact d.dlt j hj
  · rcases (Dn_set hil).1 hj with rfl | hj
    · simp
    · exact List.mem_cons_of_mem _ (d.sub j hj)
  · rcases (Dn_set hil).1 hj with rfl | hj
    · exact (Dn_set hil).2 (.inr (hr k hk))
    · exact (Dn_set hil).2 (.inr (d.closed j hj k hk))
  · rcases List.mem_cons.1 hj with rfl | hj
    · exact List.mem_cons_of_mem _ (T.edges k hk)
    · exact List.mem_cons_of_mem _ (d.cedge j hj k hk)
  · cases pre with
    | nil =>
      simp at hq
      obtain ⟨rfl, rfl⟩ := hq
      exact T.edges k hk
    | cons x pre =>
      simp at hq
      exact d.tail pre j post hq.2 k hk
  · cases (opAt A i).dst <;> simp [Act.put, d.defers]
  · cases (opAt A i).dst <;> simp [Act.put, d.asize]
  · rw [hgp]
    rcases List.mem_cons.1 hj with rfl | hj
    · rw [if_pos ht, upd_self]
    · rw [if_neg (G.uniq j i t (d.dlt j hj) T.lt (hne j hj) ht), upd_ne _ _ (hne j hj)]
      exact d.cv j hj t ht
  · rw [hgp, if_neg (hno i (by simp))]
    exact d.ce t fun j hj => hno j (List.mem_cons_of_mem _ hj)
  · rcases (Dn_set hil).1 hj with rfl | hj
    · rw [hself t ht, upd_self]; exact hv
    · have hn := hne j (d.sub j hj)
      rw [hput t (fun e => G.uniq i j t T.lt (d.dlt j (d.sub j hj)) (fun q => hn q.symm) e ht), upd_ne _ _ hn]
      exact (d.av j hj t ht).mono hx.le
  · rw [hput t (hno i ((Dn_set hil).2 (.inl rfl)))]
    exact (d.ae t x (fun j hj => hno j ((Dn_set hil).2 (.inr hj))) hx0).mono hx.le
  · obtain ⟨hj', hjd'⟩ := hcase j hj hjd
    obtain ⟨s1, s2⟩ := d.sv j hj' hjd' k t hk hkd ht
    refine ⟨fun hb => ?_, s2⟩
    have hki : k ≠ i := fun e => T.out (anc_closed (D := (· ∈ dn)) d.cedge j i (d.cedge j hj') (e ▸ hb))
    rw [upd_ne _ _ hki]
    exact s1 hb
  · obtain ⟨hj', hjd'⟩ := hcase j hj hjd
    exact d.se j hj' hjd' t ht hno
  · obtain ⟨hj', hjd'⟩ := hcase j hj hjd
    rw [upd_ne _ _ (hne j hj')]
    rcases d.again j hj' hjd' with q | ⟨q, l⟩
    · exact .inl q
    · refine .inr ⟨q, ?_⟩
      cases l with
      | pure k1 k2 => exact .pure k1 ((kind_pure k1 k2).2 h')
      | read k1 k2 k3 =>
        refine .read k1 (hst rfl _ k3 ?_) k3
        cases hb : ((ancs A []).getD i 0).testBit j with
        | false => rfl
        | true => exact absurd (anc_closed d.closed i j hr hb) hjd'
      | alloc vOf B h0 h0' k1 k2 k3 k4 k5 k6 k7 =>
        obtain ⟨p, q'⟩ := hx.other _ k5 k7
        exact .alloc vOf B h0 h0' k1 k2 k3 (q'.trans k4) p k6 (Nat.lt_of_lt_of_le k7 hx.next)
  · obtain ⟨hj', hjd'⟩ := hcase j hj hjd
    obtain ⟨hk', hkd'⟩ := hcase k hk hkd
    exact d.inj j k hj' hk' hjd' hkd'

def unl (listed : Array Bool) : Nat → Nat
  | 0 => 0
  | m + 1 => unl listed m + if listed.getD m false then 0 else 1
theorem unl_zero : ∀ m, unl listed m = 0 → ∀ i, i < m → Dn listed i := by
  intro m
  induction m with
  | zero => intro _ i h; omega
  | succ m ih =>
    intro h i hi
    simp only [unl] at h
    by_cases he : i = m
    · subst he
      unfold Dn
      cases hq : listed.getD i false with
      | true => rfl
      | false => rw [hq] at h; simp at h
    · exact ih (by omega) i (by omega)
theorem unl_ge {i : Nat} (hi : i < listed.size) : ∀ m, m ≤ i → unl (listed.setIfInBounds i true) m = unl listed m := by
  intro m
  induction m with
  | zero => intro _; rfl
  | succ m ih =>
    intro h
    simp only [unl, ih (by omega)]
    congr 1
    have : (listed.setIfInBounds i true).getD m false = listed.getD m false := by
      rw [Array.getD_eq_getD_getElem?, Array.getElem?_setIfInBounds, if_neg (by omega), Array.getD_eq_getD_getElem?]
    rw [this]
theorem unl_set {i : Nat} (hi : i < listed.size) (hn : ¬ Dn listed i) : ∀ m, i < m → unl (listed.setIfInBounds i true) m + 1 = unl listed m := by
  intro m
  induction m with
  | zero => intro h; omega
  | succ m ih =>
    intro h
    simp only [unl]
    by_cases he : i = m
    · subst he
      rw [unl_ge hi i (Nat.le_refl _)]
      have h1 : (listed.setIfInBounds i true).getD i false = true := (Dn_set hi).2 (.inl rfl)
      have h2 : listed.getD i false = false := by
        cases hq : listed.getD i false with
        | false => rfl
        | true => exact absurd hq hn
      rw [h1, h2]; simp
    · have : (listed.setIfInBounds i true).getD m false = listed.getD m false := by
        rw [Array.getD_eq_getD_getElem?, Array.getElem?_setIfInBounds, if_neg he, Array.getD_eq_getD_getElem?]
      rw [this, ← ih (by omega)]
      omega
theorem ready_iff {i : Nat} (hs : listed.size = A.length) : i ∈ Region.ready .any A.toArray listed ↔ i < A.length ∧ ¬ Dn listed i ∧ ∀ k, edge A i k → Dn listed k := by
  unfold Region.ready
  rw [List.mem_filter, List.mem_range]
  simp only [List.size_toArray, List.getElem?_toArray]
  constructor
  · rintro ⟨h1, h2⟩
    rw [opAt_get h1] at h2
    simp only [Option.map_some, Option.getD_some, Bool.and_eq_true, Bool.not_eq_true'] at h2
    refine ⟨h1, fun q => ?_, fun k ⟨e, he, hb, hk⟩ => ?_⟩
    · have : listed.getD i true = listed.getD i false := by
        simp [Array.getD_eq_getD_getElem?, hs, h1]
      unfold Dn at q
      rw [← this, h2.1] at q; cases q
    · have := (Array.all_eq_true_iff_forall_mem.1 h2.2) e (by simpa using he)
      rw [hb] at this
      simp at this
      rw [← hk]
      unfold Dn
      rw [Array.getD_eq_getD_getElem?]
      simpa using this
  · rintro ⟨h1, h2, h3⟩
    refine ⟨h1, ?_⟩
    rw [opAt_get h1]
    simp only [Option.map_some, Option.getD_some, Bool.and_eq_true, Bool.not_eq_true']
    refine ⟨?_, Array.all_eq_true_iff_forall_mem.2 fun e he => ?_⟩
    · have : listed.getD i true = listed.getD i false := by
        simp [Array.getD_eq_getD_getElem?, hs, h1]
      rw [this]
      cases hq : listed.getD i false with
      | false => rfl
      | true => exact absurd hq h2
    · cases hb : Region.binds .any e with
      | false => rfl
      | true =>
        have := h3 e.on ⟨e, by simpa using he, hb, rfl⟩
        unfold Dn at this
        simpa using this
/-- where nothing is ready, all is done -/
theorem DI.all (d : DI P A n dn L pd env h listed a w ρ ρs hs ws e0 V EV BL) (hno : ∀ i, i < A.length → ¬ Dn listed i → ¬ ∀ k, edge A i k → Dn listed k) : L = [] ∧ ∀ i, i < A.length → Dn listed i := by
  have h1 : ∀ (post pre : List Nat), dn = pre ++ post → ∀ j, j ∈ post → Dn listed j := by
    intro post
    induction post with
    | nil => intro pre _ j hj; cases hj
    | cons x post ih =>
      intro pre hq j hj
      have ih' := ih (pre ++ [x]) (by rw [hq]; simp)
      rcases List.mem_cons.1 hj with e | hj
      · subst e
        apply Classical.byContradiction
        intro hnd
        exact hno j (d.dlt j (by rw [hq]; simp)) hnd fun k hk => ih' k (d.tail pre j post hq k hk)
      · exact ih' j hj
  have h2 := h1 dn [] rfl
  have hL : L = [] := by
    cases L with
    | nil => rfl
    | cons i L =>
      obtain ⟨T, _, _⟩ := okGo_at d.ord
      exact absurd (fun k hk => h2 k (T.edges k hk)) (hno i T.lt (fun q => T.out (d.sub i q)))
  refine ⟨hL, fun i hi => ?_⟩
  rcases d.cover i hi with q | q
  · exact h2 i q
  · rw [hL] at q; cases q
theorem DI.run (G : Glob A n) {Q' : Exit → Act → World → Prop} (hend : L = [] → ∀ listed a w ρ, DI P A n dn L pd env h listed a w ρ ρs hs ws e0 V EV BL → (∀ i, i < A.length → Dn listed i) → Q' .normal a w)
    (hhead : ∀ i L', L = i :: L' → ∀ listed a w ρ fuel, DI P A n dn L pd env h listed a w ρ ρs hs ws e0 V EV BL → unl (listed.setIfInBounds i true) A.length ≤ fuel → (∀ k, edge A i k → Dn listed k) → wpOp P A.toArray Q' i (wpAny P .any A.toArray Q' fuel (listed.setIfInBounds i true)) a w)
    (hafter : ∀ i L', L = i :: L' → ∀ r, r ∈ L' → ancB A r i) :
    ∀ (fuel : Nat) listed a w ρ, DI P A n dn L pd env h listed a w ρ ρs hs ws e0 V EV BL → unl listed A.length ≤ fuel → wpAny P .any A.toArray Q' fuel listed a w := by
  have hfin : ∀ listed a w ρ, DI P A n dn L pd env h listed a w ρ ρs hs ws e0 V EV BL → Region.ready .any A.toArray listed = [] → Q' .normal a w := fun listed a w ρ d hr => by
    obtain ⟨q1, q2⟩ := d.all fun i hi hnd hk => by
      have : i ∈ Region.ready .any A.toArray listed := (ready_iff d.size).2 ⟨hi, hnd, hk⟩
      rw [hr] at this; cases this
    exact hend q1 listed a w ρ d q2
  intro fuel
  induction fuel with
  | zero =>
    intro listed a w ρ d hu
    have hall := unl_zero (listed := listed) A.length (by omega)
    have hr : Region.ready .any A.toArray listed = [] := by
      apply List.eq_nil_iff_forall_not_mem.2
      intro i hi
      obtain ⟨h1, h2, _⟩ := (ready_iff d.size).1 hi
      exact h2 (hall i h1)
    exact ⟨hr, hfin listed a w ρ d hr⟩
  | succ fuel ih =>
    intro listed a w ρ d hu
    refine ⟨hfin listed a w ρ d, fun i hi => ?_⟩
    obtain ⟨h1, h2, h3⟩ := (ready_iff d.size).1 hi
    have hu' : unl (listed.setIfInBounds i true) A.length ≤ fuel := by
      have := unl_set (by rw [d.size]; exact h1) h2 A.length h1
      omega
    rcases d.cover i h1 with q | q
    · exact d.late G q h2 h3 fun a' w' ρ' d' => ih _ a' w' ρ' d' hu'
    · cases hL : L with
      | nil => rw [hL] at q; cases q
      | cons i0 L' =>
        rw [hL] at q
        rcases List.mem_cons.1 q with rfl | q
        · exact hhead i L' hL listed a w ρ fuel d hu' h3
        · have hb := hafter i0 L' hL i q
          have hD := anc_closed d.closed i i0 h3 hb
          have hord := d.ord
          rw [hL] at hord
          exact absurd (d.sub i0 hD) (okGo_at hord).1.out
end
end Go.V
namespace Go.V
set_option linter.unusedVariables false
section
variable {P : Program} {K : Tb}
inductive LoopR (P : Program) (c : Code) (Q : Exit → Act → World → Prop) : Act → World → Prop where
  | mk {a : Act} {w : World} (M : Exit → Act → World → Prop) : c.wp P M a w → (∀ a' w', M .normal a' w' → LoopR P c Q a' w') → (∀ e a' w', e ≠ .normal → M e a' w' → Q e a' w') → LoopR P c Q a w
theorem LoopR.wp {c : Code} {Q : Exit → Act → World → Prop} {a : Act} {w : World} (h : LoopR P c Q a w) : (Code.loop c).wp P Q a w := by
  intro b k cs
  have key : ∃ e a' w', Q e a' w' ∧ Arrives P (lone (b.at a (.code c :: .inLoop c :: k)) cs w) b k cs e a' w' := by
    induction h with
    | mk M hc hn hq ih =>
      obtain ⟨e, a₁, w₁, hm, harr⟩ := hc b (.inLoop c :: k) cs
      cases e with
      | normal =>
        obtain ⟨e₂, a₂, w₂, hq₂, harr₂⟩ := ih a₁ w₁ hm
        exact ⟨e₂, a₂, w₂, hq₂, .of_steps (Steps.trans harr (.one step_inLoop)) harr₂⟩
      | exit id => exact ⟨_, a₁, w₁, hq _ _ _ (by simp) hm, .pass (x := .inLoop c) rfl (fun _ _ => .inl (by simp)) harr⟩
      | goto l => exact ⟨_, a₁, w₁, hq _ _ _ (by simp) hm, .pass (x := .inLoop c) rfl (fun _ _ => .inl (by simp)) harr⟩
      | ret => exact ⟨_, a₁, w₁, hq _ _ _ (by simp) hm, .pass (x := .inLoop c) rfl (fun _ _ => .inl (by simp)) harr⟩
      | panic ch => exact ⟨_, a₁, w₁, hq _ _ _ (by simp) hm, .pass (x := .inLoop c) rfl (fun _ _ => .inl (by simp)) harr⟩
      | outgrown => exact ⟨_, a₁, w₁, hq _ _ _ (by simp) hm, .pass (x := .inLoop c) rfl (fun _ _ => .inl (by simp)) harr⟩
  obtain ⟨e, a', w', hq, harr⟩ := key
  exact ⟨e, a', w', hq, .of_steps (.one step_loop) harr⟩
def wpL (P : Program) : Code → (Exit → Act → World → Prop) → Act → World → Prop
  | .loop c, Q, a, w => LoopR P c Q a w
  | c, Q, a, w => c.wp P Q a w
theorem wpL.wp {c : Code} {Q : Exit → Act → World → Prop} {a : Act} {w : World} (h : wpL P c Q a w) : c.wp P Q a w := by
  cases c <;> first | exact h | exact LoopR.wp h
def Mot (P : Program) : Job → (Out → Prop) → Prop
  | .code n c env h, Q => ∀ ρ w a ρs hs ws, St0 ρ env h n a w → Ext ρs hs ws ρ h w → wpL P c (PostC Q ρs hs ws n) a w
  | .ops n A dr L pd env h, Q => dstOk n A = true →
      (dr = false → ∀ ρ w a ρs hs ws, St0 ρ env h n a w → Ext ρs hs ws ρ h w → wpList P A.toArray (PostC Q ρs hs ws n) (L.map (opAt A)) a w) ∧
      (dr = true → Glob A n → ∀ dn listed a w ρ ρs hs ws e0 V EV BL, DI P A n dn L pd env h listed a w ρ ρs hs ws e0 V EV BL → ∀ fuel, unl listed A.length ≤ fuel → wpAny P .any A.toArray (PostC Q ρs hs ws n) fuel listed a w)
  | .call f args h, Q => ∀ ρ w args', Rel ρ h w → VRL ρ args args' → CallR P f args'.toArray w fun v' w' => ∃ v h' ρ', Q (.call v h') ∧ VR ρ' v v' ∧ Rel ρ' h' w' ∧ Ext ρ h w ρ' h' w'
theorem PostC.turn {Q : Out → Prop} {ρs hs ws n a w ρ h env} {e0 : Ex} (s : St0 ρ env h n a w) (x : Ext ρs hs ws ρ h w) (q : Q (.code e0 env h)) : PostC Q ρs hs ws n (exitOf e0) a w :=
  ⟨⟨e0, env, h, ρ, rfl, q, s.rel, s.env, x⟩, s.defers, s.size⟩
theorem exitOf_normal {e : Ex} (h : Exit.normal = exitOf e) : e = .nrm := by cases e <;> simp [exitOf] at h ⊢
theorem exitOf_inj {e e' : Ex} (h : exitOf e = exitOf e') : e = e' := by cases e <;> cases e' <;> simp [exitOf] at h ⊢; exact h
theorem PostC.st {Q : Out → Prop} {ρs hs ws n a w} {e : Exit} (p : PostC Q ρs hs ws n e a w) : ∃ e0 env h ρ, e = exitOf e0 ∧ Q (.code e0 env h) ∧ St0 ρ env h n a w ∧ Ext ρs hs ws ρ h w := by
  obtain ⟨⟨e0, env, h, ρ, h1, h2, h3, h4, h5⟩, h6, h7⟩ := p
  exact ⟨e0, env, h, ρ, h1, h2, ⟨h3, h4, h6, h7⟩, h5⟩
/-- an operation that calls nothing -/
theorem wp_op1 {o : Oper} {env : Env} {h h' : Hp} {n : Nat} {a : Act} {w : World} {ρ : Ren} {v : Val} {Kk : Act → World → Prop} {Q : Exit → Act → World → Prop} (r : Rel ρ h w) {E : Env} (hE : EnvR ρ E a) (hv : op1 P E h o.op = some (v, h'))
    (hK : ∀ ρ' w' u, VR ρ' v u → Rel ρ' h' w' → Ext ρ h w ρ' h' w' → Kk (a.put o.dst u) w') : o.wp P a w Kk Q := by
  obtain ⟨ρ', w', r', u, e1, e2, e3, e4, e5⟩ := sim_op1 (a := a) r hE hv
  unfold Oper.wp
  rw [e1]
  exact putO_same _ _ e2 (hK ρ' w' u e3 e4 e5)
/-- one that calls -/
theorem wp_call {o : Oper} {f : FuncId} {vs : List Val} {E : Env} {h : Hp} {n : Nat} {a : Act} {w : World} {ρ : Ren} {Q0 : Out → Prop} {Kk : Act → World → Prop} {Q : Exit → Act → World → Prop} (s : St0 ρ E h n a w) (ht : tgt E o.op = some (f, vs)) (hc : Mot P (.call f vs h) Q0)
    (hK : ∀ v h' ρ' w' u, Q0 (.call v h') → VR ρ' v u → Rel ρ' h' w' → Ext ρ h w ρ' h' w' → Kk (a.put o.dst u) w') : o.wp P a w Kk Q := by
  obtain ⟨args', h1, h2⟩ := sim_tgt s ht
  unfold Oper.wp
  rw [h2]
  rcases hc ρ w args' s.rel h1 with ⟨e1, e2⟩ | ⟨v', w', e1, v, h', ρ', e2, e3, e4, e5⟩
  · rw [e1]
    simp only [Oper.upon]
    refine Calls.mono e2 fun e w' q => ?_
    cases e with
    | returned v' =>
      obtain ⟨v, h', ρ', q1, q2, q3, q4⟩ := q
      exact hK v h' ρ' w' v' q1 q2 q3 q4
    | panicked c => exact q.elim
    | outgrown => exact q.elim
  · rw [e1]
    exact hK v h' ρ' w' v' e2 e3 e4 e5
theorem tgt_congr {A : List Oper} {o : Oper} {E : Env} : tgt (restr E (looks A o)) o.op = tgt E o.op := by
  have he : ∀ t, t ∈ tmpsOf o.op → (restr E (looks A o)).get t = E.get t := fun t ht => by rw [restr_get, if_pos (tmps_looks ht)]
  unfold tgt
  split
  · rename_i x args ats ho
    have hm : ∀ y : Operand, y ∈ (Call.operands ⟨.value x, args, ats⟩).toList → ∀ t, y = .tmp t → (restr E (looks A o)).get t = E.get t := fun y hy t e => he t (mem_tmps (by rw [ho, ← e]; exact hy))
    rw [evO_congr (env2 := E) (hm x (by simp [Call.operands])), evL_congr (env2 := E) fun t ht => hm _ (by simp [Call.operands]; exact .inr (by simpa using ht)) t rfl]
  · rfl
theorem range_opAt (A : List Oper) : (List.range A.length).map (opAt A) = A := by
  apply List.ext_getElem?
  intro i
  simp only [List.getElem?_map]
  by_cases h : i < A.length
  · rw [List.getElem?_range h, opAt_get h]; rfl
  · rw [List.getElem?_eq_none (by simpa using h), List.getElem?_eq_none (by simpa using h)]; rfl
theorem pdPut_eff {i : Nat} {A : List Oper} {env : Env} {v : Val} {pd : List Pend} (h : kindOf P (opAt A i).op = .eff) : pdPut P A i env v pd = pd := by
  unfold pdPut; rw [if_neg]; rw [h]; intro e; cases e
theorem tgt_eff {env : Env} {op : Op} {f : FuncId} {vs : List Val} (h : tgt env op = some (f, vs)) : kindOf P op = .eff := by
  unfold tgt at h
  split at h
  · rfl
  · cases h
theorem sim_all (hK : KOk P K) {j : Job} {Q : Out → Prop} (x : XW P K j Q) : Mot P j Q := by
  induction x with
  | skip q => intro ρ w a ρs hs ws s x; exact wp_skip (PostC.turn s x q)
  | label q => intro ρ w a ρs hs ws s x; exact wp_label (PostC.turn s x q)
  | exit q => intro ρ w a ρs hs ws s x; exact wp_exit (PostC.turn s x q)
  | ret q => intro ρ w a ρs hs ws s x; exact wp_ret (PostC.turn s x q)
  | seq _ _ hno ih1 ih2 =>
    intro ρ w a ρs hs ws s x
    refine wp_seq (wp_mono (ih1 ρ w a ρs hs ws s x).wp fun e a' w' p => ?_)
    obtain ⟨e0, env', h', ρ', rfl, q, s', x'⟩ := p.st
    cases e0 with
    | nrm => exact (ih2 env' h' q ρ' w' a' ρs hs ws s' x').wp
    | ext i => exact PostC.turn s' x' (hno _ _ _ (by simp) q)
    | ret => exact PostC.turn s' x' (hno _ _ _ (by simp) q)
  | cond hx _ ih =>
    rename_i n x a' b' env h Q t _
    intro ρ w a ρs hs ws s x
    have hv := evO_VR s.env hx
    generalize hu : a.eval _ = u at hv
    cases hv
    refine wp_cond hu ?_
    cases t
    · exact (ih ρ w a ρs hs ws s x).wp
    · exact (ih ρ w a ρs hs ws s x).wp
  | block _ hq ih =>
    rename_i id c env h M Q
    intro ρ w a ρs hs ws s x
    refine wp_block (wp_mono (ih ρ w a ρs hs ws s x).wp fun e a' w' p => ?_)
    obtain ⟨e0, env', h', ρ', rfl, q, s', x'⟩ := p.st
    have q' := hq _ _ _ q
    cases e0 with
    | nrm => exact PostC.turn s' x' q'
    | ret => exact PostC.turn s' x' q'
    | ext i =>
      simp only [exitOf, Exit.inBlock]
      simp only at q'
      split
      · rename_i e; rw [if_pos e] at q'; exact PostC.turn s' x' q'
      · rename_i e; rw [if_neg e] at q'; exact PostC.turn s' x' q'
  | loop _ _ hno ih1 ih2 =>
    rename_i n c env h M Q _ _
    intro ρ w a ρs hs ws s x
    refine LoopR.mk (PostC M ρs hs ws n) (ih1 ρ w a ρs hs ws s x).wp (fun a' w' p => ?_) (fun e a' w' ne p => ?_)
    · obtain ⟨e0, env', h', ρ', he, q, s', x'⟩ := p.st
      obtain rfl := exitOf_normal he
      exact ih2 env' h' q ρ' w' a' ρs hs ws s' x'
    · obtain ⟨e0, env', h', ρ', rfl, q, s', x'⟩ := p.st
      exact PostC.turn s' x' (hno _ _ _ (fun e => ne (by rw [e]; rfl)) q)
  | region hd hL _ ih =>
    rename_i n id A dr L env h Q _
    intro ρ w a ρs hs ws s x
    obtain ⟨ih1, ih2⟩ := ih hd
    cases dr with
    | false =>
      simp only [Bool.false_eq_true, if_false] at hL
      refine wp_region_lit ?_
      have := ih1 rfl ρ w a ρs hs ws s x
      rw [hL, range_opAt] at this
      exact this
    | true =>
      simp only [if_true] at hL
      obtain ⟨G, hord, hfull⟩ := okL_glob hd hL.2
      refine wp_region_any hL.1 ?_
      have hno : ∀ i, ¬ Dn (Array.replicate A.length false) i := fun i q => by
        unfold Dn at q
        rw [Array.getD_eq_getD_getElem?, Array.getElem?_replicate] at q
        split at q <;> simp at q
      have hx := x.trans (Ext.drew ρ h w)
      have d : DI P A n [] L [] env h (Array.replicate A.length false) a w.drew ρ ρs hs ws env (fun _ => .no) (fun _ => .lf) (fun _ => 0) :=
        ⟨by simp, fun i hi => .inr (hfull i hi), hord, fun i hi => (by cases hi), fun i hi => absurd hi (hno i), fun i hi => absurd hi (hno i), fun i hi => (by cases hi), fun pre j post hq => (by simp at hq), s.rel.drew, s.defers, s.size, hx, fun i hi => (by cases hi), fun t _ => rfl, fun i hi => absurd hi (hno i), fun t v _ hv => s.env t v hv, fun i hi => (by cases hi), fun i hi => (by cases hi), fun i hi => (by cases hi), fun i j hi => (by cases hi)⟩
      have hul : ∀ m, unl (Array.replicate A.length false) m ≤ m := fun m => by
        induction m with
        | zero => exact Nat.le_refl _
        | succ m ih => simp only [unl]; split <;> omega
      have := ih2 rfl G _ _ _ _ _ _ _ _ _ _ _ _ d A.length (hul _)
      simpa using this
  | onil q =>
    rename_i n A dr pd env h Q
    intro hd
    refine ⟨fun _ ρ w a ρs hs ws s x => wpList_nil (PostC.turn (e0 := .nrm) s x q), fun _ G dn listed a w ρ ρs hs ws e0 V EV BL d fuel hu => ?_⟩
    refine DI.run (ρs := ρs) (hs := hs) (ws := ws) (e0 := e0) (V := V) (EV := EV) (BL := BL) (dn := dn) G (fun _ listed a w ρ d hall => ?_) (fun i L' e => by cases e) (fun i L' e => by cases e) fuel listed a w ρ d hu
    refine PostC.turn (e0 := .nrm) ⟨d.rel, fun t v hv => ?_, d.defers, d.asize⟩ d.ext q
    by_cases hx : ∃ i, i ∈ dn ∧ (opAt A i).dst = some t
    · obtain ⟨i, hi, ht⟩ := hx
      have hcv := d.cv i hi t ht
      rw [hv] at hcv
      obtain rfl := Option.some.inj hcv
      exact d.av i (hall i (d.dlt i hi)) t ht
    · have hno : ∀ i, i ∈ dn → (opAt A i).dst ≠ some t := fun i hi ht => hx ⟨i, hi, ht⟩
      exact d.ae t v (fun i hi => hno i (d.sub i hi)) (by rw [← d.ce t hno]; exact hv)
  | onot hi hw _ ih =>
    intro hd
    obtain ⟨ih1, ih2⟩ := ih hd
    refine ⟨fun hdr ρ w a ρs hs ws s x => ?_, fun hdr G dn listed a w ρ ρs hs ws e0 V EV BL d fuel hu => ?_⟩
    · rw [List.map_cons]
      unfold wpList
      rw [want_run s hd hw]
      simp only [Bool.false_eq_true, if_false]
      exact ih1 hdr ρ w _ ρs hs ws (s.put (dst_lt hd hi) VR.none0) x
    · obtain ⟨V', EV', BL', d'⟩ := d.step G (v := .no) (.inl rfl) (fun q h => h) (.inl ⟨hw, rfl, rfl⟩)
      exact ih2 hdr G _ listed a w ρ ρs hs ws e0 V' EV' BL' d' fuel hu
  | oone hi hw hv hst _ ih =>
    rename_i n A dr i L pd env h Q v h' _
    intro hd
    obtain ⟨ih1, ih2⟩ := ih hd
    refine ⟨fun hdr ρ w a ρs hs ws s x => ?_, fun hdr G dn listed a w ρ ρs hs ws e0 V EV BL d fuel hu => ?_⟩
    · rw [List.map_cons]
      unfold wpList
      rw [want_run s hd hw]
      simp only [if_true]
      exact .inl (wp_op1 (env := env) (n := n) s.rel s.env hv fun ρ' w' u q1 q2 q3 => ih1 hdr ρ' w' _ ρs hs ws ((s.turn q2 q3).put (dst_lt hd hi) q1) (x.trans q3))
    · subst hdr
      cases hk : kindOf P (opAt A i).op with
      | eff =>
        obtain ⟨T, _, _⟩ := okGo_at d.ord
        have hpd := pdPut_eff (env := env) (v := v) (pd := pd) hk
        rw [hpd] at ih2
        refine DI.run G (fun e => by cases e) (fun i0 L' e listed a w ρ fuel d hu hr => ?_) (fun i0 L' e r hr => ?_) fuel listed a w ρ d hu
        · injection e with e1 e2
          subst e1; subst e2
          have hnd : ¬ Dn listed i := fun q => T.out (d.sub i q)
          have S := d.snapC G T
          have s := St0.restr d G hi hnd hr S
          unfold wpOp
          simp only [List.getElem?_toArray, opAt_get hi]
          rw [want_run s hd (by rw [want_restr]; exact hw)]
          simp only [if_true]
          refine .inl (wp_op1 (env := env) (n := n) d.rel s.env (by rw [op1_restr]; exact hv) fun ρ' w' u q1 q2 q3 => ?_)
          obtain ⟨V', d'⟩ := d.eff G hr (hst hk) q2 q3 q1
          exact ih2 rfl G _ _ _ _ _ _ _ _ _ _ _ _ d' fuel hu
        · injection e with e1 e2
          subst e1; subst e2
          exact T.eff hk r hr
      | pure =>
        obtain ⟨rfl, hq⟩ := kind_pure hk hv
        obtain ⟨V', EV', BL', d'⟩ := d.step G (v := v) (.inl rfl) (pd' := pdPut P A i env v pd) (fun q h => by unfold pdPut; split <;> simp [h]) (.inr ⟨hw, .inl ⟨hk, hv⟩⟩)
        exact ih2 rfl G _ listed a w ρ ρs hs ws e0 V' EV' BL' d' fuel hu
      | read =>
        obtain ⟨rfl, hq⟩ := kind_read hk hv
        obtain ⟨V', EV', BL', d'⟩ := d.step G (v := v) (.inl rfl) (pd' := pdPut P A i env v pd) (fun q h => by unfold pdPut; split <;> simp [h]) (.inr ⟨hw, .inr (.inl ⟨hk, hv, by unfold pdPut; rw [if_pos hk]; simp⟩)⟩)
        exact ih2 rfl G _ listed a w ρ ρs hs ws e0 V' EV' BL' d' fuel hu
      | alloc =>
        obtain ⟨vOf, B, k⟩ := kind_alloc hk hv
        obtain ⟨V', EV', BL', d'⟩ := d.step G (v := v) (.inr ⟨B, k.heap⟩) (pd' := pdPut P A i env v pd) (fun q h => by unfold pdPut; split <;> simp [h]) (.inr ⟨hw, .inr (.inr ⟨hk, hv⟩)⟩)
        exact ih2 rfl G _ listed a w ρ ρs hs ws e0 V' EV' BL' d' fuel hu
  | ocall hi hw ht _ hst _ ih1 ih2 =>
    rename_i n A dr i L pd env h M Q f args _ _
    intro hd
    refine ⟨fun hdr ρ w a ρs hs ws s x => ?_, fun hdr G dn listed a w ρ ρs hs ws e0 V EV BL d fuel hu => ?_⟩
    · rw [List.map_cons]
      unfold wpList
      rw [want_run s hd hw]
      simp only [if_true]
      exact .inl (wp_call s ht ih1 fun v h' ρ' w' u q0 q1 q2 q3 => (ih2 v h' q0 hd).1 hdr ρ' w' _ ρs hs ws ((s.turn q2 q3).put (dst_lt hd hi) q1) (x.trans q3))
    · subst hdr
      obtain ⟨T, _, _⟩ := okGo_at d.ord
      refine DI.run G (fun e => by cases e) (fun i0 L' e listed a w ρ fuel d hu hr => ?_) (fun i0 L' e r hr => ?_) fuel listed a w ρ d hu
      · injection e with e1 e2
        subst e1; subst e2
        have hnd : ¬ Dn listed i := fun q => T.out (d.sub i q)
        have S := d.snapC G T
        have s := St0.restr d G hi hnd hr S
        unfold wpOp
        simp only [List.getElem?_toArray, opAt_get hi]
        rw [want_run s hd (by rw [want_restr]; exact hw)]
        simp only [if_true]
        refine .inl (wp_call s (by rw [tgt_congr]; exact ht) ih1 fun v h' ρ' w' u q0 q1 q2 q3 => ?_)
        obtain ⟨V', d'⟩ := d.eff G hr (hst v h' q0) q2 q3 q1
        exact (ih2 v h' q0 hd).2 rfl G _ _ _ _ _ _ _ _ _ _ _ _ d' fuel hu
      · injection e with e1 e2
        subst e1; subst e2
        exact T.eff (tgt_eff ht) r hr
  | call hf hb hn hl _ hq ih =>
    rename_i f args h M Q fn c _
    intro ρ w args' r hr
    refine .inl ⟨run_enter hf hb hn _ w, ?_⟩
    refine calls_of_wp hf hb (wp_mono (ih ρ w _ ρ h w (enter_St0 r hr hl) (Ext.refl _ _ _)).wp fun e a' w' p => ?_)
    obtain ⟨e0, env', h', ρ', rfl, q, s', x'⟩ := p.st
    obtain ⟨q1, vs, q2, q3⟩ := hq _ _ _ q
    obtain ⟨us, g1, g2⟩ := run_res s' q2
    rcases q1 with rfl | rfl
    · exact ⟨s'.defers, _, g2, _, _, _, q3, oneV_VR g1, s'.rel, x'⟩
    · exact ⟨s'.defers, _, g2, _, _, _, q3, oneV_VR g1, s'.rel, x'⟩
  | known hk hq =>
    intro ρ w args' r hr
    rcases hK _ _ _ _ hk ρ w args' r hr with ⟨e1, e2⟩ | ⟨v', w', e1, v, h', ρ', e2, e3⟩
    · refine .inl ⟨e1, Calls.mono e2 fun e w' q => ?_⟩
      cases e with
      | returned v' => obtain ⟨v, h', ρ', q1, q2⟩ := q; exact ⟨v, h', ρ', hq v h' q1, q2⟩
      | panicked c => exact q.elim
      | outgrown => exact q.elim
    · exact .inr ⟨v', w', e1, v, h', ρ', hq v h' e2, e3⟩
end
end Go.V
namespace Go.V
set_option linter.unusedVariables false
section
variable {P : Program} {K : Tb} {ρ : Ren} {h : Hp} {w : World}
def ρ0 : Ren := fun _ => none
theorem Rel.nothing (w : World) : Rel ρ0 Hp.empty w :=
  ⟨fun b i e => (by cases e), fun b i B e => (by cases e), fun b b' i i' e => (by cases e), fun b _ => rfl⟩
/-- nothing is owned -/
def Bare (h : Hp) : Prop := ∀ b, ¬ own h b
theorem Bare.empty : Bare Hp.empty := fun b ⟨B, q, _⟩ => by cases q
def Rel.see (ρ : Ren) (h : Hp) (g off : Nat) : Ren := ρ.put h.next ⟨g, off, 0, 0, 0⟩
theorem Bare.see (hb : Bare h) (vs : List Val) : Bare (h.new (.ro vs)) := fun b ⟨B, q1, q2⟩ => by
  rw [Hp.get_new] at q1
  split at q1
  · obtain rfl := Option.some.inj q1; cases q2
  · exact hb b ⟨B, q1, q2⟩
/-- memory that is only read, under a new name -/
theorem Rel.view (r : Rel ρ h w) (hb : Bare h) {g off : Nat} {vs : List Val} {us : List Value} (h1 : vs.all Val.one = true) (hv : VRL ρ vs us) (hr : ∀ j u, us[j]? = some u → w.cell? ⟨g, off + j, none⟩ = some u) (hg : g < w.heap.size) :
    Rel (Rel.see ρ h g off) (h.new (.ro vs)) w ∧ ρ.le (Rel.see ρ h g off) ∧ (Rel.see ρ h g off) h.next = some ⟨g, off, 0, 0, 0⟩ := by
  have hle := Ren.le_put (ρ := ρ) (b := h.next) ⟨g, off, 0, 0, 0⟩ r.free
  have hput : ∀ b i, (Rel.see ρ h g off) b = some i → (b = h.next ∧ i = ⟨g, off, 0, 0, 0⟩) ∨ (b ≠ h.next ∧ ρ b = some i) := fun b i e => by
    unfold Rel.see Ren.put at e
    split at e
    · rename_i q; exact .inl ⟨q, (Option.some.inj e).symm⟩
    · rename_i q; exact .inr ⟨q, e⟩
  refine ⟨⟨fun b i e => ?_, fun b i B e f => ?_, fun b b' i i' e e' l l' _ => absurd l' (hb.see vs b'), fun k hk => ?_⟩, hle, by simp [Rel.see, Ren.put]⟩
  · rcases hput b i e with ⟨rfl, rfl⟩ | ⟨_, e⟩
    · exact ⟨Nat.lt_succ_self _, hg⟩
    · have := r.dom b i e; exact ⟨Nat.lt_succ_of_lt this.1, this.2⟩
  · rcases hput b i e with ⟨rfl, rfl⟩ | ⟨hk, e⟩
    · rw [Hp.get_new, if_pos rfl] at f
      obtain rfl := Option.some.inj f
      refine ⟨h1, fun j u hj => ?_⟩
      obtain ⟨u', q1, q2⟩ := hv.at hj
      exact ⟨u', hr j u' q1, q2.mono hle⟩
    · rw [Hp.get_new, if_neg hk] at f
      exact (r.blk b i B e f).congr hle rfl
  · have hk' : h.next + 1 ≤ k := hk
    rw [Hp.get_new, if_neg (by omega)]; exact r.wf k (by omega)
/-- a call that XW shows, in the model -/
theorem XW.back {f : FuncId} {fn : Func} {c : Code} {args : List Val} {args' : List Value} {M : Val → Hp → Prop} (hK : KOk P K) (hf : P.funcs[f]? = some fn) (hb : fn.body = some c) (hn : fn.name ≠ "runtime.NumGoroutine") (r : Rel ρ h w) (hv : VRL ρ args args') (x : XW P K (.call f args h) fun o => ∃ v h', o = .call v h' ∧ M v h') :
    Calls P f args'.toArray w (retOnly' fun v' w' => ∃ v h' ρ', M v h' ∧ VR ρ' v v' ∧ Rel ρ' h' w' ∧ Ext ρ h w ρ' h' w') := by
  rcases sim_all hK x ρ w args' r hv with ⟨_, e2⟩ | ⟨v', w', e1, _⟩
  · refine Calls.mono e2 fun e w' q => ?_
    cases e with
    | returned v' =>
      obtain ⟨v, h', ρ', ⟨v2, h2, e, q1⟩, q2⟩ := q
      obtain ⟨rfl, rfl⟩ := Out.call.inj e
      exact ⟨_, _, ρ', q1, q2⟩
    | panicked c => exact q.elim
    | outgrown => exact q.elim
  · rw [run_enter hf hb hn args'.toArray w] at e1
    cases e1
/-- nothing that was there has turned -/
structure Kept (w w' : World) : Prop where
  os : w'.os = w.os
  tape : w'.tape = w.tape
  output : w'.output = w.output
  size : w.heap.size ≤ w'.heap.size
  block : ∀ k, k < w.heap.size → w'.heap[k]? = w.heap[k]?
  drawn : w.drawn ≤ w'.drawn
theorem Ext.kept {ρ' : Ren} {h' : Hp} {w' : World} (x : Ext ρ h w ρ' h' w') (hb : Bare h) : Kept w w' :=
  ⟨x.os, x.tape, x.output, x.size, fun k hk => (x.frame k hk fun b i _ q => absurd q (hb b)).1, x.drawn⟩
/-- the law's call -/
theorem XW.law {f : FuncId} {fn : Func} {c : Code} {args : List Val} {args' : List Value} (hK : KOk P K) (hf : P.funcs[f]? = some fn) (hb : fn.body = some c) (hn : fn.name ≠ "runtime.NumGoroutine") (r : Rel ρ h w) (hh : Bare h) (hv : VRL ρ args args') (x : XW P K (.call f args h) fun o => ∃ v h', o = .call v h' ∧ v = .b true) :
    Calls P f args'.toArray w (retOnly' fun v' w' => v' = .bool true ∧ Kept w w') := by
  refine Calls.mono (XW.back hK hf hb hn r hv (M := fun v _ => v = .b true) x) fun e w' q => ?_
  cases e with
  | returned v' =>
    obtain ⟨v, h', ρ', rfl, q2, q3, q4⟩ := q
    cases q2
    exact ⟨rfl, q4.kept hh⟩
  | panicked c => exact q.elim
  | outgrown => exact q.elim
end
end Go.V
namespace Go.V
set_option linter.unusedVariables false
mutual
def Val.eqB : Val → Val → Bool
  | .b x, .b y => x == y
  | .i k n, .i j m => decide (k = j) && decide (n = m)
  | .s x, .s y => decide (x = y)
  | .p a, .p b => decide (a = b)
  | .sl a n c, .sl b m d => decide (a = b) && decide (n = m) && decide (c = d)
  | .es, .es => true
  | .m a, .m b => decide (a = b)
  | .f g cs, .f g' ds => decide (g = g') && eqLB cs ds
  | .nf, .nf => true
  | .agg cs, .agg ds => eqLB cs ds
  | .tup cs, .tup ds => eqLB cs ds
  | _, _ => false
def eqLB : List Val → List Val → Bool
  | [], [] => true
  | x :: r, y :: s => Val.eqB x y && eqLB r s
  | _, _ => false
end
mutual
theorem Val.eqB_eq : ∀ {x y : Val}, Val.eqB x y = true → x = y := by
  intro x y h
  cases x <;> cases y <;> simp only [Val.eqB, Bool.and_eq_true, decide_eq_true_eq, beq_iff_eq, Bool.false_eq_true] at h
  · rw [h]
  · rw [h.1, h.2]
  · rw [h]
  · rw [h]
  · rw [h.1.1, h.1.2, h.2]
  · rfl
  · rw [h]
  · rw [h.1, eqLB_eq h.2]
  · rfl
  · rw [eqLB_eq h]
  · rw [eqLB_eq h]
theorem eqLB_eq : ∀ {x y : List Val}, eqLB x y = true → x = y := by
  intro x y h
  cases x with
  | nil => cases y with
    | nil => rfl
    | cons _ _ => simp [eqLB] at h
  | cons a r => cases y with
    | nil => simp [eqLB] at h
    | cons b s =>
      simp only [eqLB, Bool.and_eq_true] at h
      rw [Val.eqB_eq h.1, eqLB_eq h.2]
end
section
variable (P : Program)
def staysB (A : List Oper) (dr : Bool) (i : Nat) (pd : List Pend) (h : Hp) : Bool :=
  !dr || pd.all fun q => ((ancs A []).getD i 0).testBit q.idx || (match kindOf P q.op, op1 P q.env h q.op with
    | .read, some (v, _) => Val.eqB v q.v
    | _, _ => false)
/-- an order for a region that draws: what is ready and has no effect first, the effects as they stand -/
def orderGo (A : List Oper) : Nat → List Nat → List Nat → List Nat
  | 0, _, acc => acc.reverse
  | n + 1, todo, acc =>
    let ready := todo.filter fun i => (opAt A i).after.toList.all fun e => !Region.binds .any e || acc.contains e.on
    match (ready.find? fun i => decide (kindOf P (opAt A i).op ≠ .eff)).or ready.head? with
    | some i => orderGo A n (todo.filter (· != i)) (i :: acc)
    | none => acc.reverse
def orderOf (A : List Oper) : List Nat := orderGo P A A.length (List.range A.length) []
def evJ : Nat → Job → Option Out
  | 0, _ => none
  | k + 1, .code n c env h => match c with
    | .skip => some (.code .nrm env h)
    | .label _ => some (.code .nrm env h)
    | .exit i => some (.code (.ext i) env h)
    | .ret => some (.code .ret env h)
    | .seq a b => (evJ k (.code n a env h)).bind fun o => match o with
      | .code .nrm env' h' => evJ k (.code n b env' h')
      | o => some o
    | .cond x a b => match evO env x with
      | some (.b t) => evJ k (.code n (bif t then a else b) env h)
      | _ => none
    | .block id a => (evJ k (.code n a env h)).map fun o => match o with
      | .code (.ext i) env' h' => .code (if i = id then .nrm else .ext i) env' h'
      | o => o
    | .loop a => (evJ k (.code n a env h)).bind fun o => match o with
      | .code .nrm env' h' => evJ k (.code n (.loop a) env' h')
      | o => some o
    | .region id A dr =>
      let L := bif dr then orderOf P A.toList else List.range A.toList.length
      if dstOk n A.toList = true ∧ (dr = true → P.follows .mixedOrders = true ∧ okL P A.toList L = true) then evJ k (.ops n A.toList dr L [] env h) else none
    | _ => none
  | k + 1, .ops n A dr L pd env h => match L with
    | [] => some (.code .nrm env h)
    | i :: L => if i < A.length then match wantO A env (opAt A i) with
      | some false => evJ k (.ops n A dr L pd (putO env (opAt A i).dst .no) h)
      | some true => match tgt env (opAt A i).op with
        | some (f, args) => (evJ k (.call f args h)).bind fun o => match o with
          | .call v h' => bif staysB P A dr i pd h' then evJ k (.ops n A dr L pd (putO env (opAt A i).dst v) h') else none
          | _ => none
        | none => (op1 P env h (opAt A i).op).bind fun q =>
          if kindOf P (opAt A i).op = .eff → staysB P A dr i pd q.2 = true then evJ k (.ops n A dr L (pdPut P A i env q.1 pd) (putO env (opAt A i).dst q.1) q.2) else none
      | none => none
      else none
  | k + 1, .call f args h => match P.funcs[f]? with
    | some fn => match fn.body with
      | some c => if fn.name ≠ "runtime.NumGoroutine" ∧ args.length ≤ fn.ntmps then (evJ k (.code fn.ntmps c (argE 0 args .lf) h)).bind fun o => match o with
        | .code .nrm env' h' => (resV P env' h' fn.results.toList).map fun vs => .call (oneV vs) h'
        | .code .ret env' h' => (resV P env' h' fn.results.toList).map fun vs => .call (oneV vs) h'
        | _ => none
        else none
      | none => none
    | none => none
end
theorem staysB_stays {P : Program} {A : List Oper} {dr : Bool} {i : Nat} {pd : List Pend} {h : Hp} (hb : staysB P A dr i pd h = true) : Stays P A dr i pd h := by
  intro hd q hq hbit
  subst hd
  simp only [staysB, Bool.not_true, Bool.false_or] at hb
  have := List.all_eq_true.1 hb q hq
  rw [hbit, Bool.false_or] at this
  split at this
  · rename_i v h' hk ho
    rw [ho]
    obtain ⟨rfl, _⟩ := kind_read hk ho
    rw [Val.eqB_eq this]
  · cases this
theorem evJ_sound {P : Program} {K : Tb} : ∀ (k : Nat) (j : Job) (o : Out), evJ P k j = some o → XW P K j (· = o) := by
  intro k
  induction k with
  | zero => intro j o h; simp [evJ] at h
  | succ k ih =>
    intro j o hj
    cases j with
    | code n c env h =>
      cases c with
      | skip => simp only [evJ, Option.some.injEq] at hj; exact .skip hj
      | label i => simp only [evJ, Option.some.injEq] at hj; exact .label hj
      | exit i => simp only [evJ, Option.some.injEq] at hj; exact .exit hj
      | ret => simp only [evJ, Option.some.injEq] at hj; exact .ret hj
      | seq a b =>
        simp only [evJ] at hj
        rw [Option.bind_eq_some_iff] at hj
        obtain ⟨o1, h1, h2⟩ := hj
        refine .seq (ih _ _ h1) (fun env' h' e => ?_) (fun e env' h' ne he => ?_)
        · subst e; exact ih _ _ h2
        · subst he
          cases e with
          | nrm => exact absurd rfl ne
          | ext i => exact Option.some.inj h2
          | ret => exact Option.some.inj h2
      | cond x a b =>
        simp only [evJ] at hj
        split at hj
        · rename_i t hx; exact .cond hx (ih _ _ hj)
        · cases hj
      | block id a =>
        simp only [evJ] at hj
        obtain ⟨o1, h1, h2⟩ := Option.map_eq_some_iff.1 hj
        refine .block (ih _ _ h1) fun e env' h' he => ?_
        subst he
        cases e <;> exact h2
      | loop a =>
        simp only [evJ] at hj
        rw [Option.bind_eq_some_iff] at hj
        obtain ⟨o1, h1, h2⟩ := hj
        refine .loop (ih _ _ h1) (fun env' h' e => ?_) (fun e env' h' ne he => ?_)
        · subst e; exact ih _ _ h2
        · subst he
          cases e with
          | nrm => exact absurd rfl ne
          | ext i => exact Option.some.inj h2
          | ret => exact Option.some.inj h2
      | region id A dr =>
        simp only [evJ] at hj
        split at hj
        · rename_i hc
          have := XW.region (P := P) (K := K) (id := id) (dr := dr) hc.1 (by
            cases dr with
            | true => simp only [if_true]; exact hc.2 rfl
            | false => simp) (ih _ _ hj)
          simpa using this
        · cases hj
      | _ => simp [evJ] at hj
    | ops n A dr L pd env h =>
      cases L with
      | nil => simp only [evJ, Option.some.injEq] at hj; exact .onil hj
      | cons i L =>
        simp only [evJ] at hj
        split at hj
        · rename_i hi
          split at hj
          · rename_i hw; exact .onot hi hw (ih _ _ hj)
          · rename_i hw
            split at hj
            · rename_i f args ht
              rw [Option.bind_eq_some_iff] at hj
              obtain ⟨o1, h1, h2⟩ := hj
              refine .ocall hi hw ht (ih _ _ h1) (fun v h' e => ?_) (fun v h' e => ?_)
              · subst e
                simp only at h2
                cases hs : staysB P A dr i pd h' with
                | true => exact staysB_stays hs
                | false => rw [hs] at h2; cases h2
              · subst e
                simp only at h2
                cases hs : staysB P A dr i pd h' with
                | true => rw [hs] at h2; exact ih _ _ h2
                | false => rw [hs] at h2; cases h2
            · rename_i ht
              rw [Option.bind_eq_some_iff] at hj
              obtain ⟨q, h1, h2⟩ := hj
              split at h2
              · rename_i hs
                exact .oone hi hw h1 (fun hk => staysB_stays (hs hk)) (ih _ _ h2)
              · cases h2
          · cases hj
        · cases hj
    | call f args h =>
      simp only [evJ] at hj
      split at hj
      · rename_i fn hf
        split at hj
        · rename_i c hb
          split at hj
          · rename_i hc
            rw [Option.bind_eq_some_iff] at hj
            obtain ⟨o1, h1, h2⟩ := hj
            refine .call hf hb hc.1 hc.2 (ih _ _ h1) fun e env' h' he => ?_
            subst he
            cases e with
            | nrm =>
              obtain ⟨vs, q1, q2⟩ := Option.map_eq_some_iff.1 h2
              exact ⟨.inl rfl, vs, q1, q2⟩
            | ret =>
              obtain ⟨vs, q1, q2⟩ := Option.map_eq_some_iff.1 h2
              exact ⟨.inr rfl, vs, q1, q2⟩
            | ext i => cases h2
          · cases hj
        · cases hj
      · cases hj
end Go.V
namespace Go.V
set_option linter.unusedVariables false
def sliceBytes (h : Hp) : Val → Option (List UInt8)
  | .sl (some a) n c => (firstV h 1 n (.sl (some a) n c)).bind bytesV
  | .sl none _ _ => some []
  | .es => some []
  | _ => none
section
variable {P : Program} {ρ : Ren} {h : Hp} {w : World}
theorem run_loadBytes : ∀ (ns : List Int) (w : World) (a : Addr) (acc : ByteArray), (∀ j n, ns[j]? = some n → w.cell? (a.add j) = some (.int .u8 n)) →
    (Extern.Bytes.loadBytes a ns.length acc).run P w = .ok ⟨acc.data ++ (ns.map fun n => UInt8.ofNat n.toNat).toArray⟩ w
  | [], w, a, acc, _ => by simp [Extern.Bytes.loadBytes]
  | x :: xs, w, a, acc, h => by
    have h0 := h 0 x rfl
    have ha : a.add 0 = a := by simp [Addr.add]
    rw [ha] at h0
    have ih := run_loadBytes xs w (a.add 1) (acc.push x.toNat.toUInt8) fun j b hj => by
      have e : (a.add 1).add j = a.add (j + 1) := by simp [Addr.add, Nat.add_assoc, Nat.add_comm 1 j]
      rw [e]; exact h (j + 1) b (by simpa using hj)
    have hl : (load a).run P w = .ok (.int .u8 x) w := by simp [run_load, h0]
    simp only [List.length_cons, Extern.Bytes.loadBytes, Sem.run_bind, hl, Result.andThen_ok]
    rw [ih]
    simp [ByteArray.push]
theorem sim_sliceBytes {v : Val} {u : Value} {xs : List UInt8} (r : Rel ρ h w) (hv : VR ρ v u) (hs : sliceBytes h v = some xs) : (Extern.Bytes.bytesOf u).run P w = .ok ⟨xs.toArray⟩ w := by
  have key : ∀ (b o n cc : Nat) (i : Info), ρ b = some i → ((if n = 0 then some [] else rd h b o (n * 1)).bind bytesV) = some xs → (Extern.Bytes.bytesOf (.slice (some ⟨i.g, i.base + o, none⟩) n cc)).run P w = .ok ⟨xs.toArray⟩ w := fun b o n cc i hb hq => by
    rw [Option.bind_eq_some_iff] at hq
    obtain ⟨c, h1, h2⟩ := hq
    have hx : ∃ us, VRL ρ c us ∧ us.length = n ∧ w.rangeAt i.g (i.base + o) us := by
      split at h1
      · rename_i h0
        obtain rfl := Option.some.inj h1
        exact ⟨[], VRL.nil, by simp [h0], fun j v hv => by simp at hv⟩
      · obtain ⟨_, us, g1, g2, g3⟩ := r.rd hb h1
        exact ⟨us, g1, by rw [g2]; simp, g3⟩
    obtain ⟨us, g1, g2, g3⟩ := hx
    obtain ⟨ns, rfl, rfl⟩ := bytes_VR h2 g1
    have := run_loadBytes (P := P) ns w ⟨i.g, i.base + o, none⟩ .empty fun j n hj => by
      have := g3 j (.int .u8 n) (by simp [hj])
      have e : Addr.add ⟨i.g, i.base + o, none⟩ j = ⟨i.g, i.base + o + j, none⟩ := by
        unfold Addr.add
        split
        · rename_i q; subst q; rfl
        · rfl
      rw [e]; exact this
    have hl : ns.length = n := by simpa using g2
    subst hl
    simp only [Extern.Bytes.bytesOf, this]
    congr 2
    simp [ByteArray.empty, ByteArray.emptyWithCapacity]
    rfl
  cases hv with
  | sn => obtain rfl := Option.some.inj hs; simp [Extern.Bytes.bytesOf]; rfl
  | es => obtain rfl := Option.some.inj hs; simp [Extern.Bytes.bytesOf, Extern.Bytes.loadBytes]; rfl
  | sk hb hk => exact key _ _ _ _ _ hb hs
  | so hb hk q1 q2 => exact key _ _ _ _ _ hb hs
  | _ => simp [sliceBytes] at hs
/-- the functions without a body that are known -/
def KExt (P : Program) : Tb := fun f args h M => ∃ g u v a b, P.funcs[f]? = some g ∧ (g.name == "runtime.NumGoroutine") = false ∧ g.body.isNone = true ∧ Extern.findNext g = none ∧ Extern.find g = some Extern.BytealgCompare.compare ∧
  args = [u, v] ∧ sliceBytes h u = some a ∧ sliceBytes h v = some b ∧ M (.i .i64 (Lib.compareBytes a b)) h
theorem KExt_ok : KOk P (KExt P) := by
  rintro f args h M ⟨g, u, v, a, b, hf, hname, hb, hn, he, rfl, hu, hv, hM⟩ ρ w args' r hr
  match args', hr with
  | [u', v'], hr =>
    have h1 := run_callFunc_extern (P := P) hf hname hb hn he #[u', v'] w
    have h2 : (Extern.BytealgCompare.compare #[u', v']).run P w = .ok (.int .i64 (Lib.compareBytes a b)) w := by
      change ((Extern.Bytes.bytesOf u') >>= fun a => (Extern.Bytes.bytesOf v') >>= fun b => pure (goInt (Extern.BytealgCompare.cmp a b))).run P w = _
      simp only [Sem.run_bind, sim_sliceBytes r hr.head hu, sim_sliceBytes r hr.tail.head hv, Result.andThen_ok, Sem.run_pure, goInt]
      rw [Lib.cmp_eq]
    rw [h2] at h1
    exact .inr ⟨_, w, h1, _, h, ρ, hM, .i _ _, r, Ext.refl _ _ _⟩
  | [], hr => exact absurd hr.1 (by simp)
  | [_], hr => exact absurd hr.1 (by simp)
  | _ :: _ :: _ :: _, hr => exact absurd hr.1 (by simp)
end
end Go.V
namespace Go.V
set_option linter.unusedVariables false
section
variable {P : Program} {K K' : Tb} {ρ : Ren} {h : Hp} {w w' : World}
theorem Rel.kept (r : Rel ρ h w) (k : Kept w w') : Rel ρ h w' ∧ Ext ρ h w ρ h w' :=
  ⟨⟨fun b i e => ⟨(r.dom b i e).1, Nat.lt_of_lt_of_le (r.dom b i e).2 k.size⟩, fun b i B e f => (r.blk b i B e f).congr (Ren.le.refl _) (k.block _ (r.dom b i e).2), r.inj, r.wf⟩,
    Ren.le.refl _, Nat.le_refl _, fun b hb _ => ⟨hb, rfl⟩, k.size, fun g hg hn => ⟨k.block g hg, hn⟩, k.os, k.tape, k.output, k.drawn⟩
theorem Tb.or (hK : KOk P K) (hK' : KOk P K') : KOk P (fun f args h M => K f args h M ∨ K' f args h M) := by
  rintro f args h M (q | q)
  · exact hK f args h M q
  · exact hK' f args h M q
/-- calls without arguments that answer with a scalar, as told by a list -/
def KClosed (cl : List (FuncId × Bool)) : Tb := fun f args h M => ∃ b, (f, b) ∈ cl ∧ args = [] ∧ M (.b b) h
theorem KClosed_ok (hK : KOk P K) {cl : List (FuncId × Bool)} (hcl : ∀ f b, (f, b) ∈ cl → XW P K (.call f [] Hp.empty) fun o => ∃ h', o = .call (.b b) h') : KOk P (KClosed cl) := by
  rintro f args h M ⟨b, hm, rfl, hM⟩ ρ w args' r hr
  have := sim_all hK (hcl f b hm) ρ0 w args' (Rel.nothing w) ⟨hr.1, fun j u u' e => by simp at e⟩
  have fin : ∀ v' w', (∃ v h' ρ', (∃ h'', Out.call v h' = .call (.b b) h'') ∧ VR ρ' v v' ∧ Rel ρ' h' w' ∧ Ext ρ0 Hp.empty w ρ' h' w') → ∃ v h' ρ', M v h' ∧ VR ρ' v v' ∧ Rel ρ' h' w' ∧ Ext ρ h w ρ' h' w' := by
    rintro v' w' ⟨v, h', ρ', ⟨h'', e⟩, q2, q3, q4⟩
    obtain ⟨rfl, rfl⟩ := Out.call.inj e
    cases q2
    obtain ⟨s1, s2⟩ := r.kept (q4.kept Bare.empty)
    exact ⟨_, h, ρ, hM, .b _, s1, s2⟩
  rcases this with ⟨e1, e2⟩ | ⟨v', w', e1, q⟩
  · refine .inl ⟨e1, Calls.mono e2 fun e w' q => ?_⟩
    cases e with
    | returned v' => exact fin v' w' q
    | panicked c => exact q.elim
    | outgrown => exact q.elim
  · exact .inr ⟨v', w', e1, fin v' w' q⟩
/-- by evaluation -/
def evB (P : Program) (k : Nat) (f : FuncId) (b : Bool) : Bool := match evJ P k (.call f [] Hp.empty) with
  | some (.call (.b x) _) => x == b
  | _ => false
theorem evB_sound {k : Nat} {f : FuncId} {b : Bool} (h : evB P k f b = true) : XW P K (.call f [] Hp.empty) fun o => ∃ h', o = .call (.b b) h' := by
  unfold evB at h
  split at h
  · rename_i x h' he
    refine (evJ_sound k _ _ he).mono fun o e => ?_
    subst e
    exact ⟨h', by rw [eq_of_beq h]⟩
  · cases h
end
end Go.V
namespace Go.V
set_option linter.unusedVariables false

/-- a cell of the plain heap -/
def hcell (h : Hp) (b o : Nat) : Option Val := match h.get b with
  | some (.cells _ c) => c[o]?
  | some (.ro c) => c[o]?
  | _ => none
/-- what will not turn again: cells -/
abbrev Frz := Nat → Nat → Option Val
def Frz.le (F G : Frz) : Prop := ∀ b o u, F b o = some u → G b o = some u
theorem Frz.le.refl (F : Frz) : F.le F := fun _ _ _ h => h
theorem Frz.le.trans {F G H : Frz} (a : F.le G) (b : G.le H) : F.le H := fun x o u h => b x o u (a x o u h)
def Agree (F : Frz) (h : Hp) : Prop := ∀ b o u, F b o = some u → hcell h b o = some u
theorem Agree.le {F G : Frz} {h : Hp} (a : Agree G h) (l : F.le G) : Agree F h := fun x o u e => a x o u (l x o u e)
theorem Agree.turn {F : Frz} {h h' : Hp} (a : Agree F h) (k : ∀ b o u, F b o = some u → h'.get b = h.get b) : Agree F h' := fun b o u e => by
  have := a b o u e
  unfold hcell at this ⊢
  rw [k b o u e]; exact this
/-- the cells as they stand -/
def nowF (h : Hp) : Frz := hcell h
theorem nowF_agree (h : Hp) : Agree (nowF h) h := fun _ _ _ e => e
theorem rd_hcell {h : Hp} {b o n : Nat} {c : List Val} (hc : c.length = n) (hn : 0 < n) (hq : ∀ j u, c[j]? = some u → hcell h b (o + j) = some u) : rd h b o n = some c := by
  have key : ∀ d : List Val, (∀ j u, c[j]? = some u → d[o + j]? = some u) → (if o + n ≤ d.length then some ((d.drop o).take n) else none) = some c := fun d hd => by
    have hl : o + n ≤ d.length := by
      have h1 := hd (n - 1) (c[n - 1]'(by omega)) (List.getElem?_eq_getElem _)
      have := (List.getElem?_eq_some_iff.1 h1).1
      omega
    rw [if_pos hl]
    congr 1
    apply List.ext_getElem?
    intro j
    rw [List.getElem?_take]
    split
    · rename_i hj
      rw [List.getElem?_drop, List.getElem?_eq_getElem (by omega : j < c.length)]
      exact hd j _ (List.getElem?_eq_getElem _)
    · rename_i hj
      rw [List.getElem?_eq_none (by omega)]
  have h0 := hq 0 (c[0]'(by omega)) (List.getElem?_eq_getElem _)
  unfold rd
  cases hg : h.get b with
  | none => simp [hcell, hg] at h0
  | some B =>
    cases B with
    | cells z d => exact key d fun j u hj => by have := hq j u hj; simpa [hcell, hg] using this
    | ro d => exact key d fun j u hj => by have := hq j u hj; simpa [hcell, hg] using this
    | map es => simp [hcell, hg] at h0
    | dead => simp [hcell, hg] at h0

abbrev Cl (s : Nat) := { l : List Val // l.length = s }
/-- a type's values and their cells -/
structure Tr (α : Type) where
  size : Nat
  rel : Frz → List Val → α → Prop
  pos : 0 < size
  len : ∀ {F cs x}, rel F cs x → cs.length = size
  one : ∀ {F cs x}, rel F cs x → cs.all Val.one = true
  mono : ∀ {F G cs x}, F.le G → rel F cs x → rel G cs x

/-- a slice value of frozen cells -/
def SlC (F : Frz) (v : Val) (s : Nat) (css : List (Cl s)) : Prop :=
  (v = .es ∧ css = []) ∨ ∃ a c, v = .sl a css.length c ∧ css.length ≤ maxLen ∧ (∀ k, c = some k → css.length ≤ k) ∧ (a = none → css = [] ∧ c = some 0) ∧
    ∀ b o, a = some (b, o) → ∀ (i : Nat) (d : Cl s) (j : Nat) (u : Val), css[i]? = some d → d.1[j]? = some u → F b (o + (i * s + j)) = some u
def RelL {α : Type} (t : Tr α) (F : Frz) (css : List (Cl t.size)) (xs : List α) : Prop := css.length = xs.length ∧ ∀ (i : Nat) (d : Cl t.size) (x : α), css[i]? = some d → xs[i]? = some x → t.rel F d.1 x
def SlF {α : Type} (t : Tr α) (F : Frz) (v : Val) (xs : List α) : Prop := ∃ css, RelL t F css xs ∧ SlC F v t.size css
section
variable {α : Type} {t : Tr α} {F G : Frz} {v : Val} {xs : List α} {s : Nat} {css : List (Cl s)}
theorem SlC.mono (h : SlC F v s css) (l : F.le G) : SlC G v s css := by
  rcases h with h | ⟨a, c, e1, e2, e3, e4, e5⟩
  · exact .inl h
  · exact .inr ⟨a, c, e1, e2, e3, e4, fun b o had i d j u h1 h2 => l _ _ _ (e5 b o had i d j u h1 h2)⟩
theorem RelL.mono {css : List (Cl t.size)} (h : RelL t F css xs) (l : F.le G) : RelL t G css xs := ⟨h.1, fun i d x h1 h2 => t.mono l (h.2 i d x h1 h2)⟩
theorem SlF.mono (h : SlF t F v xs) (l : F.le G) : SlF t G v xs := by
  obtain ⟨css, h1, h2⟩ := h
  exact ⟨css, h1.mono l, h2.mono l⟩
theorem SlF.nil (F : Frz) : SlF t F (.sl none 0 (some 0)) [] := ⟨[], ⟨rfl, fun i d x h _ => by simp at h⟩, .inr ⟨none, some 0, rfl, by simp, fun k hk => by simp, fun _ => ⟨rfl, rfl⟩, fun b o h => by cases h⟩⟩
theorem SlF.len (h : SlF t F v xs) : lenV v = some xs.length ∧ xs.length ≤ maxLen := by
  obtain ⟨css, h1, h2⟩ := h
  rcases h2 with ⟨rfl, rfl⟩ | ⟨a, c, rfl, e2, _⟩
  · rw [← h1.1]; exact ⟨rfl, by simp⟩
  · rw [← h1.1]; exact ⟨rfl, e2⟩
theorem SlF.one (h : SlF t F v xs) : v.one = true := by
  obtain ⟨css, h1, h2⟩ := h
  rcases h2 with ⟨rfl, rfl⟩ | ⟨a, c, rfl, e2, _⟩ <;> rfl
/-- an element: where it lies, what its cells are -/
theorem SlF.at_ (h : SlF t F v xs) {i : Nat} {x : α} (hi : xs[i]? = some x) : ∃ cs b o c, v = .sl (some (b, o)) xs.length c ∧ t.rel F cs x ∧ ∀ j u, cs[j]? = some u → F b (o + i * t.size + j) = some u := by
  obtain ⟨css, h1, h2⟩ := h
  have hl := (List.getElem?_eq_some_iff.1 hi).1
  have hd := List.getElem?_eq_getElem (l := css) (i := i) (by rw [h1.1]; exact hl)
  have hr := h1.2 _ _ _ hd hi
  rcases h2 with ⟨rfl, rfl⟩ | ⟨a, c, rfl, e2, e3, e4, e5⟩
  · exact absurd h1.1 (by simp; omega)
  · cases a with
    | none => have := (e4 rfl).1; have := h1.1; simp_all
    | some ad => exact ⟨_, ad.1, ad.2, c, by rw [h1.1], hr, fun j u hj => by rw [Nat.add_assoc]; exact e5 _ _ rfl i _ j u hd hj⟩
/-- it is read -/
theorem SlF.rd (h : SlF t F v xs) {hp : Hp} (ag : Agree F hp) {i : Nat} {x : α} (hi : xs[i]? = some x) : ∃ cs b o c, v = .sl (some (b, o)) xs.length c ∧ t.rel F cs x ∧ V.rd hp b (o + i * t.size) t.size = some cs := by
  obtain ⟨cs, b, o, c, e, hr, hq⟩ := h.at_ hi
  exact ⟨cs, b, o, c, e, hr, rd_hcell (t.len hr) t.pos fun j u hj => ag _ _ _ (hq j u hj)⟩
end
/- plain types -/
def tI : Tr Int := ⟨1, fun _ cs n => cs = [.i .i64 n], by decide, fun h => by rw [h]; rfl, fun h => by rw [h]; rfl, fun _ h => h⟩
def tB : Tr UInt8 := ⟨1, fun _ cs n => cs = [.i .u8 n.toNat], by decide, fun h => by rw [h]; rfl, fun h => by rw [h]; rfl, fun _ h => h⟩
def tBool : Tr Bool := ⟨1, fun _ cs b => cs = [.b b], by decide, fun h => by rw [h]; rfl, fun h => by rw [h]; rfl, fun _ h => h⟩
def tS : Tr (List UInt8) := ⟨1, fun _ cs s => cs = [.s s], by decide, fun h => by rw [h]; rfl, fun h => by rw [h]; rfl, fun _ h => h⟩
def tSl {α : Type} (t : Tr α) : Tr (List α) :=
  ⟨1, fun F cs xs => ∃ v, cs = [v] ∧ SlF t F v xs, by decide, fun ⟨v, h, _⟩ => by rw [h]; rfl, fun ⟨v, h, k⟩ => by rw [h]; simp [k.one], fun l ⟨v, h, k⟩ => ⟨v, h, k.mono l⟩⟩
end Go.V
namespace Go.V
open Go.RowKit Go.ChangeShapes Go.WideShapes Go.Deep
set_option linter.unusedVariables false
theorem flat_get {s : Nat} : ∀ {css : List (Cl s)} {i : Nat} {d : Cl s} {j : Nat} {u : Val}, css[i]? = some d → d.1[j]? = some u → (css.map Subtype.val).flatten[i * s + j]? = some u
  | [], i, d, j, u, h, _ => by simp at h
  | c :: css, 0, d, j, u, h, hj => by
    simp at h; subst h
    have := (List.getElem?_eq_some_iff.1 hj).1
    rw [List.map_cons, List.flatten_cons, Nat.zero_mul, Nat.zero_add, List.getElem?_append_left this]; exact hj
  | c :: css, i + 1, d, j, u, h, hj => by
    have ih := flat_get (css := css) (i := i) (by simpa using h) hj
    rw [List.map_cons, List.flatten_cons, Nat.add_mul, List.getElem?_append_right (by rw [c.2]; omega), c.2, ← ih]
    congr 1; omega
section
variable {H : Type} {enc : TypeId × Value → H} {P : Program} {w : World}
/-- whatever is read at a type can be seen in a plain heap, as a plain value -/
def Opn {H : Type} (enc : TypeId × Value → H) (P : Program) (w : World) (T : TypeId) {α : Type} (t : Tr α) (ok : α → Prop) : Prop :=
  ∀ fuel cs x, DataW.trod enc P w 0 (fun _ => true) true fuel T cs = some x → ∀ ρ h, Rel ρ h w → Bare h → ∃ ρ' h' vs a, Rel ρ' h' w ∧ Bare h' ∧ ρ.le ρ' ∧ Frz.le (nowF h) (nowF h') ∧ VRL ρ' vs cs ∧ t.rel (nowF h') vs a ∧ ok a
def okI (n : Int) : Prop := -9223372036854775808 ≤ n ∧ n ≤ 9223372036854775807
def okS {α : Type} (ok : α → Prop) (xs : List α) : Prop := xs.length ≤ maxLen ∧ ∀ x ∈ xs, ok x
def okT {α : Type} (_ : α) : Prop := True
theorem opn_int {T : TypeId} (ht : P.underlying T = some (.int .i64)) : Opn enc P w T tI okI := by
  intro fuel cs x h ρ hp r hb
  have : ∃ n, cs = [.int .i64 n] ∧ (Lit.int .i64 n).wf = true := by
    cases fuel with
    | zero => simp [DataW.trod] at h
    | succ m =>
      unfold DataW.trod at h
      rw [ht] at h
      split at h <;> simp_all
  obtain ⟨n, rfl, hw⟩ := this
  exact ⟨ρ, hp, [.i .i64 n], n, r, hb, Ren.le.refl _, Frz.le.refl _, VRL.nil.cons (.i _ _), rfl, by simpa [okI, Lit.wf, IntKind.min, IntKind.max, IntKind.signed, IntKind.bits] using hw⟩
theorem opn_u8 {T : TypeId} (ht : P.underlying T = some (.int .u8)) : Opn enc P w T tB okT := by
  intro fuel cs x h ρ hp r hb
  have : ∃ n, cs = [.int .u8 n] ∧ (Lit.int .u8 n).wf = true := by
    cases fuel with
    | zero => simp [DataW.trod] at h
    | succ m =>
      unfold DataW.trod at h
      rw [ht] at h
      split at h <;> simp_all
  obtain ⟨n, rfl, hw⟩ := this
  have hx : 0 ≤ n ∧ n ≤ 255 := by simpa [Lit.wf, IntKind.min, IntKind.max, IntKind.signed, IntKind.bits] using hw
  refine ⟨ρ, hp, [.i .u8 n], UInt8.ofNat n.toNat, r, hb, Ren.le.refl _, Frz.le.refl _, VRL.nil.cons (.i _ _), ?_, trivial⟩
  show [Val.i .u8 n] = [.i .u8 ((UInt8.ofNat n.toNat).toNat : Int)]
  simp only [UInt8.toNat_ofNat']
  congr 2
  omega
theorem opn_bool {T : TypeId} (ht : P.underlying T = some .bool) : Opn enc P w T tBool okT := by
  intro fuel cs x h ρ hp r hb
  have : ∃ b, cs = [.bool b] := by
    cases fuel with
    | zero => simp [DataW.trod] at h
    | succ m =>
      unfold DataW.trod at h
      rw [ht] at h
      split at h <;> simp_all
  obtain ⟨b, rfl⟩ := this
  exact ⟨ρ, hp, [.b b], b, r, hb, Ren.le.refl _, Frz.le.refl _, VRL.nil.cons (.b _), rfl, trivial⟩
theorem opn_str {T : TypeId} (ht : P.underlying T = some .string) : Opn enc P w T tS (fun s => s.length ≤ maxLen) := by
  intro fuel cs x h ρ hp r hb
  have : ∃ s : ByteArray, cs = [.string s] ∧ s.size ≤ maxLen := by
    cases fuel with
    | zero => simp [DataW.trod] at h
    | succ m =>
      unfold DataW.trod at h
      rw [ht] at h
      split at h <;> simp_all
  obtain ⟨s, rfl, hs⟩ := this
  exact ⟨ρ, hp, [.s s.data.toList], s.data.toList, r, hb, Ren.le.refl _, Frz.le.refl _, VRL.nil.cons (.s s.data.toList), rfl, hs⟩
theorem nowF_new {h : Hp} {B : Blk} (hw : ∀ b, h.next ≤ b → h.get b = none) : Frz.le (nowF h) (nowF (h.new B)) := fun b o u e => by
  unfold nowF hcell at e ⊢
  rw [Hp.get_new, if_neg]
  · exact e
  · intro q; rw [q, hw _ (Nat.le_refl _)] at e; cases e
theorem opn_slice {T e : TypeId} {α : Type} {t : Tr α} {ok : α → Prop} (ht : P.underlying T = some (.slice e)) (hc : P.cellsOf e = t.size) (he : Opn enc P w e t ok) : Opn enc P w T (tSl t) (okS ok) := by
  intro fuel cs x h ρ hp r hb
  rcases open_slice ht h with ⟨rfl, _⟩ | ⟨a, len, cap, m, n, D, Pl, rfl, _, hl, hm, hmm, _, hx⟩
  · exact ⟨ρ, hp, [.sl none 0 (some 0)], [], r, hb, Ren.le.refl _, Frz.le.refl _, VRL.nil.cons .sn, ⟨_, rfl, SlF.nil _⟩, by simp [okS]⟩
  · rw [if_pos rfl] at hmm
    rw [hc] at hx
    have key : ∀ k, k ≤ len → ∃ ρ' h' us xs, ∃ css : List (Cl t.size), Rel ρ' h' w ∧ Bare h' ∧ ρ.le ρ' ∧ Frz.le (nowF hp) (nowF h') ∧ css.length = k ∧ RelL t (nowF h') css xs ∧ (∀ x ∈ xs, ok x) ∧ VRL ρ' (css.map Subtype.val).flatten us ∧ us.length = k * t.size ∧ ∀ j u, us[j]? = some u → w.cell? ⟨a.block, a.off + j, none⟩ = some u ∧ a.spot = none := by
      intro k
      induction k with
      | zero => intro _; exact ⟨ρ, hp, [], [], [], r, hb, Ren.le.refl _, Frz.le.refl _, rfl, ⟨rfl, fun i d x h _ => by simp at h⟩, by simp, VRL.nil, by simp, fun j u h => by simp at h⟩
      | succ k ih =>
        intro hk
        obtain ⟨ρ1, h1, us, xs, css, r1, b1, l1, f1, c1, c2, c3, c4, c5, c6⟩ := ih (by omega)
        obtain ⟨cs', g1, g2⟩ := hx k (by omega)
        obtain ⟨_, g3, g4⟩ := World.cells?_some g1
        obtain ⟨ρ2, h2, vs, y, r2, b2, l2, f2, d1, d2, d3⟩ := he _ _ _ g2 ρ1 h1 r1 b1
        have hlen := t.len d2
        have hcs' : ∀ j u, cs'[j]? = some u → w.cell? ⟨a.block, a.off + (k * t.size + j), none⟩ = some u ∧ (k = 0 → a.spot = none) := fun j u hj => by
          have hjl : j < t.size := by have := (List.getElem?_eq_some_iff.1 hj).1; omega
          have := g4 j hjl
          rw [hj] at this
          by_cases hk0 : k = 0
          · subst hk0
            have h00 := g4 0 t.pos
            have hsp : a.spot = none := by
              cases hs : a.spot with
              | none => rfl
              | some sp =>
                have hz : cs'[0]? = some (cs'[0]'(by rw [g3]; exact t.pos)) := List.getElem?_eq_getElem _
                rw [hz] at h00
                simp [Addr.add, World.cell?, hs] at h00
                split at h00 <;> cases h00
            refine ⟨?_, fun _ => hsp⟩
            rw [← this]
            congr 1
            cases a
            simp at hsp; subst hsp
            unfold Addr.add
            split <;> simp_all
          · refine ⟨?_, fun q => absurd q hk0⟩
            rw [← this]
            congr 1
            unfold Addr.add
            have h0 : ¬ (k * t.size = 0) := by
              intro q
              rcases Nat.mul_eq_zero.1 q with q | q
              · exact hk0 q
              · have := t.pos; omega
            rw [if_neg h0]
            split <;> simp_all [Nat.add_assoc]
        refine ⟨ρ2, h2, us ++ cs', xs ++ [y], css ++ [⟨vs, hlen⟩], r2, b2, l1.trans l2, f1.trans f2, by simp [c1], ⟨by simp [c2.1], fun i d x hi hx' => ?_⟩, fun x hx' => ?_, ?_, by simp [c5, g3, Nat.succ_mul], fun j u hj => ?_⟩
        · by_cases hik : i < css.length
          · rw [List.getElem?_append_left hik] at hi
            rw [List.getElem?_append_left (by rw [← c2.1]; exact hik)] at hx'
            exact t.mono f2 (c2.2 i d x hi hx')
          · rw [List.getElem?_append_right (by omega)] at hi
            rw [List.getElem?_append_right (by rw [← c2.1]; omega), ← c2.1] at hx'
            have : i - css.length = 0 := by have := (List.getElem?_eq_some_iff.1 hi).1; simp at this; omega
            rw [this] at hi hx'
            simp at hi hx'
            subst hi; subst hx'
            exact d2
        · rcases List.mem_append.1 hx' with q | q
          · exact c3 x q
          · simp at q; subst q; exact d3
        · rw [List.map_append, List.flatten_append]
          simp only [List.map_cons, List.map_nil, List.flatten_cons, List.flatten_nil, List.append_nil]
          exact (c4.mono l2).append d1
        · by_cases hjl : j < us.length
          · rw [List.getElem?_append_left hjl] at hj; exact c6 j u hj
          · rw [List.getElem?_append_right (by omega)] at hj
            obtain ⟨q1, q2⟩ := hcs' _ u hj
            rw [c5] at q1 hjl
            refine ⟨by rw [← q1]; congr 2; omega, ?_⟩
            by_cases hk0 : k = 0
            · exact q2 hk0
            · have hpos := t.pos
              have hu0 : us[0]? = some (us[0]'(by rw [c5]; exact Nat.mul_pos (by omega) hpos)) := List.getElem?_eq_getElem _
              exact (c6 0 _ hu0).2
    obtain ⟨ρ1, h1, us, xs, css, r1, b1, l1, f1, c1, c2, c3, c4, c5, c6⟩ := key len (Nat.le_refl _)
    have hxl : xs.length = len := by rw [← c2.1]; exact c1
    by_cases hl0 : len = 0
    · subst hl0
      refine ⟨ρ1, h1, [.es], xs, r1, b1, l1, f1, VRL.nil.cons .es, ⟨.es, rfl, css, c2, .inl ⟨rfl, List.eq_nil_of_length_eq_zero c1⟩⟩, by omega, c3⟩
    · have hpos : 0 < us.length := by rw [c5]; exact Nat.mul_pos (by omega) t.pos
      obtain ⟨q1, q2⟩ := c6 0 _ (List.getElem?_eq_getElem hpos)
      have hg : a.block < w.heap.size := by
        unfold World.cell? at q1
        cases hq : w.heap[a.block]? with
        | none => simp [hq] at q1
        | some ob => exact (Array.getElem?_eq_some_iff.1 hq).1
      have hone : (css.map Subtype.val).flatten.all Val.one = true := List.all_eq_true.2 fun v hv => by
        obtain ⟨l, hl1, hl2⟩ := List.mem_flatten.1 hv
        obtain ⟨d, hd1, rfl⟩ := List.mem_map.1 hl1
        obtain ⟨i, hi, rfl⟩ := List.getElem_of_mem hd1
        have hxi : i < xs.length := by rw [← c2.1]; exact hi
        exact List.all_eq_true.1 (t.one (c2.2 i _ _ (List.getElem?_eq_getElem hi) (List.getElem?_eq_getElem hxi))) v hl2
      obtain ⟨r2, l2, hs⟩ := r1.view b1 (g := a.block) (off := a.off) hone c4 (fun j u hj => (c6 j u hj).1) hg
      have f2 : Frz.le (nowF h1) (nowF (h1.new (.ro (css.map Subtype.val).flatten))) := nowF_new r1.wf
      refine ⟨_, _, [.sl (some (h1.next, 0)) len (some cap)], xs, r2, b1.see _, l1.trans l2, f1.trans f2, VRL.nil.cons ?_, ⟨_, rfl, css, c2.mono f2, .inr ⟨some (h1.next, 0), some cap, by rw [c1], by rw [c1]; omega, fun k hk => ?_, fun q => (by cases q), fun b o had i d j u hi hj => ?_⟩⟩, by omega, c3⟩
      · have := VR.sk (ρ := Rel.see ρ1 h1 a.block a.off) (o := 0) hs hl
        have ea : a = ⟨a.block, a.off + 0, none⟩ := by cases a; simp at q2; subst q2; rfl
        rw [ea]; exact this
      · obtain rfl := Option.some.inj hk; rw [c1]; exact hl
      · simp only [Option.some.injEq, Prod.mk.injEq] at had
        obtain ⟨rfl, rfl⟩ := had
        unfold nowF hcell
        rw [Hp.get_new, if_pos rfl, Nat.zero_add]
        exact flat_get hi hj
end
end Go.V
namespace Go.V
open Go.RowKit Go.ChangeShapes Go.WideShapes Go.Deep
set_option linter.unusedVariables false
section
variable {H : Type} {enc : TypeId × Value → H} {P : Program} {w : World}
theorem Kept.kit {w w' : World} (h : Kept w w') : Go.RowKit.Below w.heap.size w w' := ⟨h.os, h.tape, h.output, h.size, h.block⟩
theorem trodAll_len {base : Nat} {sp : Nat → Bool} {held : Bool} : ∀ (ts : List TypeId) (vs : List Value) (ds : List (DataW H)) (ps : List MemPlace), DataW.TrodAll enc P w base sp held ts vs ds ps → ds.length = ts.length
  | [], [], [], _, _ => rfl
  | t :: ts, v :: vs, d :: ds, ps, h => by
    obtain ⟨p, q, _, h2, _⟩ := h
    simp [trodAll_len ts vs ds q h2]
  | [], _ :: _, _, _, h => h.elim
  | [], [], _ :: _, _, h => h.elim
  | _ :: _, [], _, _, h => h.elim
  | _ :: _, _ :: _, [], _, h => h.elim
theorem trodAll_kept {w' : World} (hl : laidOutB P = true) (hb : Kept w w') : ∀ (ts : List TypeId) (vs : List Value) (ds : List (DataW H)) (ps : List MemPlace), (ts.all fun t => P.readableRec t && decide (t < P.types.size)) = true →
    DataW.TrodAll enc P w 0 (fun _ => true) true ts vs ds ps → (∀ x ∈ ps, x.block < w.heap.size) → DataW.TrodAll enc P w' 0 (fun b => decide (b < w.heap.size)) true ts vs ds ps
  | [], [], [], _, _, h, _ => h
  | t :: ts, v :: vs, d :: ds, ps, hts, h, hlt => by
    obtain ⟨p, q, h1, h2, rfl⟩ := h
    simp only [List.all_cons, Bool.and_eq_true, decide_eq_true_eq] at hts
    exact ⟨p, q, RowKit.Below.trod hl hts.1.1 hts.1.2 h1 hb.kit (fun x hx => hlt x (by simp [hx])), trodAll_kept hl hb ts vs ds q hts.2 h2 (fun x hx => hlt x (by simp [hx])), rfl⟩
  | [], _ :: _, _, _, _, h, _ => h.elim
  | [], [], _ :: _, _, _, h, _ => h.elim
  | _ :: _, [], _, _, _, h, _ => h.elim
  | _ :: _, _ :: _, [], _, _, h, _ => h.elim
/-- a law's contract -/
theorem law_calls {f : Func} {F : FuncId} {s : ChangeSpec} {tb : TypeId} {k : Nat} (hl : laidOutB P = true) (hts : (f.params.toList.all fun t => P.readableRec t && decide (t < P.types.size)) = true) (hk : f.params.toList.length = k) (hrt : f.resultTypes = #[tb]) (htb : P.underlying tb = some .bool)
    (hvars : s.vars = []) (hfn : ∀ ds : List (DataW H), ds.length = k → (s.fn H ds).results = [.lit (.bool true)] ∧ (s.fn H ds).args = ds ∧ (s.fn H ds).vars = [])
    (W : World) (base : Nat) (args : Array Value) (ds gs : List (DataW H)) (before : List MemPlace)
    (hcore : ∀ p, DataW.TrodAll enc P W 0 (fun _ => true) true f.params.toList args.toList ds p → Calls P F args W (retOnly' fun v w' => v = .bool true ∧ Kept W w'))
    (hW : DataW.Whole enc P f.params.toList s.vars false W args.toList ds gs before) :
    Calls P F args W fun e W' => ∃ v, e = .returned v ∧ s.post enc P f false true false false W args v W' := by
  have hW' := hW
  obtain ⟨p, q, hA, hV, rfl, hfz, hnd⟩ := hW
  rw [hvars] at hV
  obtain ⟨rfl, rfl⟩ := trodVars_none hV
  refine Calls.mono (hcore p hA) fun e W' hq => ?_
  cases e with
  | returned v =>
    obtain ⟨rfl, hb⟩ := hq
    obtain ⟨h1, h2, h3⟩ := hfn (ds ++ []) (by rw [List.append_nil, trodAll_len _ _ _ _ hA, hk])
    refine ⟨_, rfl, ds, [], _, [], p, [], hW', ?_, ?_, ?_, hb.kit.frame _, fun h => by cases h⟩
    · rw [h1, hrt]
      exact trodAll_cons_mk (shut_bool htb _) trodAll_mk0
    · rw [h2, List.append_nil]
      exact trodAll_kept hl hb _ _ _ _ hts hA (fun x hx => hW'.lt x (by simpa using hx))
    · rw [h3, hvars]; rfl
  | _ => exact hq.elim
/-- an argument, opened -/
theorem arg_opn {base : Nat} {T : TypeId} {α : Type} {t : Tr α} {ok : α → Prop} {v : Value} {d : DataW H} {ps : List MemPlace} (ho : Opn enc P w T t ok) (h : DataW.Trod enc P w 0 (fun _ => true) true T v d ps) {ρ : Ren} {hp : Hp} (r : Rel ρ hp w) (hb : Bare hp) :
    ∃ ρ' h' vs a, Rel ρ' h' w ∧ Bare h' ∧ ρ.le ρ' ∧ Frz.le (nowF hp) (nowF h') ∧ VRL ρ' vs v.cells.toList ∧ t.rel (nowF h') vs a ∧ ok a := by
  obtain ⟨fuel, hf⟩ := h
  exact ho _ _ _ hf ρ hp r hb
theorem cells_one {v : Value} {a : Option Addr} {len cap : Nat} (h : v = .slice a len cap) : v.cells.toList = [v] := by subst h; rfl
theorem arg_slice {base : Nat} {T e : TypeId} {α : Type} {t : Tr α} {ok : List α → Prop} {v : Value} {d : DataW H} {ps : List MemPlace} (ht : P.underlying T = some (.slice e)) (hval : Value.okWide P w .any base T v) (ho : Opn enc P w T (tSl t) ok) (h : DataW.Trod enc P w 0 (fun _ => true) true T v d ps) {ρ : Ren} {hp : Hp} (r : Rel ρ hp w) (hb : Bare hp) :
    ∃ ρ' h' u a, Rel ρ' h' w ∧ Bare h' ∧ ρ.le ρ' ∧ Frz.le (nowF hp) (nowF h') ∧ VR ρ' u v ∧ SlF t (nowF h') u a ∧ ok a := by
  obtain ⟨a, len, cap, hv⟩ := okWide_slice ht hval
  obtain ⟨ρ', h', vs, x, h1, h2, h3, h4, h5, ⟨u, rfl, hs⟩, hok⟩ := arg_opn (base := base) ho h r hb
  rw [cells_one hv] at h5
  exact ⟨ρ', h', u, x, h1, h2, h3, h4, h5.head, hs, hok⟩
theorem arg_str {base : Nat} {T : TypeId} {v : Value} {d : DataW H} {ps : List MemPlace} (ht : P.underlying T = some .string) (hval : Value.okWide P w .any base T v) (h : DataW.Trod enc P w 0 (fun _ => true) true T v d ps) : ∃ s : List UInt8, v = strVal' s ∧ s.length ≤ maxLen := by
  obtain ⟨s, rfl⟩ := okWide_string ht hval
  obtain ⟨ρ', h', vs, x, h1, h2, h3, h4, h5, rfl, hok⟩ := arg_opn (base := base) (opn_str ht) h (Rel.nothing w) Bare.empty
  have := h5.head
  generalize hq : Value.string s = q at this
  cases this
  exact ⟨x, rfl, hok⟩
theorem arg_int {base : Nat} {T : TypeId} {v : Value} {d : DataW H} {ps : List MemPlace} (ht : P.underlying T = some (.int .i64)) (hval : Value.okWide P w .any base T v) (h : DataW.Trod enc P w 0 (fun _ => true) true T v d ps) : ∃ n : Int, v = .int .i64 n ∧ okI n := by
  obtain ⟨n, rfl⟩ := okWide_int ht hval
  obtain ⟨ρ', h', vs, x, h1, h2, h3, h4, h5, rfl, hok⟩ := arg_opn (base := base) (opn_int ht) h (Rel.nothing w) Bare.empty
  have := h5.head
  cases this
  exact ⟨_, rfl, hok⟩
end
end Go.V
namespace Go.V
set_option linter.unusedVariables false
/-- values that own memory: their cells, and the blocks that are theirs alone -/
structure To (α : Type) where
  size : Nat
  rel : Frz → Hp → List Nat → List Val → α → Prop
  len : ∀ {F h bs cs x}, rel F h bs cs x → cs.length = size
  one : ∀ {F h bs cs x}, rel F h bs cs x → cs.all Val.one = true
  lt : ∀ {F h bs cs x}, rel F h bs cs x → ∀ b ∈ bs, b < h.next
  nodup : ∀ {F h bs cs x}, rel F h bs cs x → bs.Nodup
  mono : ∀ {F G h bs cs x}, F.le G → rel F h bs cs x → rel G h bs cs x
  frame : ∀ {F h h' bs cs x}, rel F h bs cs x → h.next ≤ h'.next → (∀ b ∈ bs, h'.get b = h.get b) → rel F h' bs cs x
/-- an object that the call owns -/
structure Ob : Type 1 where
  {α : Type}
  t : To α
  bs : List Nat
  cs : List Val
  x : α
def Ob.ok (F : Frz) (h : Hp) (o : Ob) : Prop := o.t.rel F h o.bs o.cs o.x
/-- what stands between a call's begin and now; X: blocks below that it may write -/
structure St (X : List Nat) (h0 : Hp) (F0 F : Frz) (L : List Ob) (h : Hp) : Prop where
  next : h0.next ≤ h.next
  wf : ∀ b, h.next ≤ b → h.get b = none
  keep : ∀ b, b < h0.next → b ∉ X → h.get b = h0.get b
  agree : Agree F h
  ext : F0.le F
  new : ∀ b o u, F b o = some u → F0 b o = some u ∨ h0.next ≤ b ∨ b ∈ X
  own : ∀ (i : Nat) (o : Ob), L[i]? = some o → o.ok F h ∧ ∀ b, b ∈ o.bs → (∀ k, F b k = none) ∧ (h0.next ≤ b ∨ b ∈ X)
  apart : ∀ (i j : Nat) (o o' : Ob) (b : Nat), L[i]? = some o → L[j]? = some o' → b ∈ o.bs → b ∈ o'.bs → i = j
theorem hcell_lt {h : Hp} (hw : ∀ b, h.next ≤ b → h.get b = none) {b o : Nat} {u : Val} (e : hcell h b o = some u) : b < h.next := by
  apply Classical.byContradiction
  intro q
  unfold hcell at e
  rw [hw b (by omega)] at e
  cases e
section
variable {X : List Nat} {h0 h h' : Hp} {F0 F F' : Frz} {L Lr : List Ob}
theorem St.entry (hw : ∀ b, h.next ≤ b → h.get b = none) (ha : Agree F h) : St [] h F F [] h :=
  ⟨Nat.le_refl _, hw, fun _ _ _ => rfl, ha, Frz.le.refl _, fun _ _ _ h => .inl h, fun i o h => by simp at h, fun i j o o' b h => by simp at h⟩
theorem St.ok (s : St X h0 F0 F L h) {i : Nat} {o : Ob} (hi : L[i]? = some o) : o.ok F h := (s.own i o hi).1
theorem St.call (s : St X h0 F0 F L h) (k : St [] h F F' Lr h') : St X h0 F0 F' (Lr ++ L) h' := by
  have hkeep : ∀ b, b < h.next → h'.get b = h.get b := fun b hb => k.keep b hb (by simp)
  have hL : ∀ (i : Nat) (o : Ob), L[i]? = some o → o.ok F' h' ∧ ∀ b, b ∈ o.bs → (∀ q, F' b q = none) ∧ (h0.next ≤ b ∨ b ∈ X) := by
    intro i o hi
    obtain ⟨h1, h2⟩ := s.own i o hi
    refine ⟨o.t.mono k.ext (o.t.frame h1 k.next fun b hb => hkeep b (o.t.lt h1 b hb)), fun b hb => ⟨fun q => ?_, (h2 b hb).2⟩⟩
    cases hF : F' b q with
    | none => rfl
    | some u =>
      rcases k.new b q u hF with h3 | h3 | h3
      · rw [(h2 b hb).1 q] at h3; cases h3
      · have := o.t.lt h1 b hb; omega
      · simp at h3
  have hR : ∀ (i : Nat) (o : Ob), Lr[i]? = some o → ∀ b, b ∈ o.bs → h.next ≤ b := fun i o hi b hb => by
    rcases ((k.own i o hi).2 b hb).2 with h3 | h3
    · exact h3
    · simp at h3
  refine ⟨Nat.le_trans s.next k.next, k.wf, fun b hb hx => (hkeep b (Nat.lt_of_lt_of_le hb s.next)).trans (s.keep b hb hx), k.agree, s.ext.trans k.ext, fun b o u e => ?_, fun i o hi => ?_, fun i j o o' b hi hj ho ho' => ?_⟩
  · rcases k.new b o u e with h3 | h3 | h3
    · exact s.new b o u h3
    · exact .inr (.inl (Nat.le_trans s.next h3))
    · simp at h3
  · by_cases hl : i < Lr.length
    · rw [List.getElem?_append_left hl] at hi
      obtain ⟨h1, h2⟩ := k.own i o hi
      exact ⟨h1, fun b hb => ⟨(h2 b hb).1, .inl (Nat.le_trans s.next (hR i o hi b hb))⟩⟩
    · rw [List.getElem?_append_right (by omega)] at hi
      exact hL _ o hi
  · by_cases hl : i < Lr.length <;> by_cases hm : j < Lr.length
    · rw [List.getElem?_append_left hl] at hi
      rw [List.getElem?_append_left hm] at hj
      exact k.apart i j o o' b hi hj ho ho'
    · rw [List.getElem?_append_left hl] at hi
      rw [List.getElem?_append_right (by omega)] at hj
      have h1 := hR i o hi b ho
      have h2 := o'.t.lt (s.ok hj) b ho'
      omega
    · rw [List.getElem?_append_right (by omega)] at hi
      rw [List.getElem?_append_left hm] at hj
      have h1 := hR j o' hj b ho'
      have h2 := o.t.lt (s.ok hi) b ho
      omega
    · rw [List.getElem?_append_right (by omega)] at hi hj
      have := s.apart _ _ o o' b hi hj ho ho'
      omega
/-- what has been laid above alone -/
structure Abv (h h' : Hp) : Prop where
  next : h.next ≤ h'.next
  wf : ∀ b, h'.next ≤ b → h'.get b = none
  keep : ∀ b, b < h.next → h'.get b = h.get b
theorem Abv.agree (a : Abv h h') (hw : ∀ b, h.next ≤ b → h.get b = none) (g : Agree F h) : Agree F h' := fun b o u e => by
  have h1 := g b o u e
  have := hcell_lt hw h1
  unfold hcell at h1 ⊢
  rw [a.keep b this]; exact h1
theorem St.fresh (s : St X h0 F0 F L h) {o : Ob} (a : Abv h h') (ho : o.ok F h') (hg : ∀ b, b ∈ o.bs → h.next ≤ b) : St X h0 F0 F (o :: L) h' := by
  have e : St [] h F F [o] h' := ⟨a.next, a.wf, fun b hb _ => a.keep b hb, a.agree s.wf s.agree, Frz.le.refl _, fun _ _ _ q => .inl q, fun i o' hi => by
      have : i = 0 := by have := (List.getElem?_eq_some_iff.1 hi).1; simpa using this
      subst this
      simp at hi; subst hi
      refine ⟨ho, fun b hb => ⟨fun q => ?_, .inl (hg b hb)⟩⟩
      cases hF : F b q with
      | none => rfl
      | some u => have := hcell_lt s.wf (s.agree b q u hF); have := hg b hb; omega, fun i j o1 o2 b hi hj _ _ => by
      have := (List.getElem?_eq_some_iff.1 hi).1; have := (List.getElem?_eq_some_iff.1 hj).1; simp at *; omega⟩
  simpa using s.call e
/-- an own object turns, within its blocks and new ones -/
theorem St.turn (s : St X h0 F0 F L h) {i : Nat} {o o' : Ob} (hi : L[i]? = some o) (ho : o'.ok F h') (hn : h.next ≤ h'.next) (hw : ∀ b, h'.next ≤ b → h'.get b = none) (hk : ∀ b, b < h.next → b ∉ o.bs → h'.get b = h.get b) (hb : ∀ b, b ∈ o'.bs → b ∈ o.bs ∨ h.next ≤ b) : St X h0 F0 F (L.set i o') h' := by
  obtain ⟨s1, s2⟩ := s.own i o hi
  have hil := (List.getElem?_eq_some_iff.1 hi).1
  have hfr : ∀ b k u, F b k = some u → b < h.next ∧ b ∉ o.bs := fun b k u e => ⟨hcell_lt s.wf (s.agree b k u e), fun q => by rw [(s2 b q).1 k] at e; cases e⟩
  have hset : ∀ (j : Nat) (p : Ob), (L.set i o')[j]? = some p → (j = i ∧ p = o') ∨ (j ≠ i ∧ L[j]? = some p) := fun j p hj => by
    by_cases e : j = i
    · subst e; rw [List.getElem?_set_self hil] at hj; exact .inl ⟨rfl, (Option.some.inj hj).symm⟩
    · rw [List.getElem?_set_ne (fun q => e q.symm)] at hj; exact .inr ⟨e, hj⟩
  have hout : ∀ (j : Nat) (p : Ob), j ≠ i → L[j]? = some p → ∀ b, b ∈ p.bs → b < h.next ∧ b ∉ o.bs := fun j p hj hp b hb => ⟨p.t.lt (s.ok hp) b hb, fun q => hj (s.apart j i p o b hp hi hb q)⟩
  refine ⟨Nat.le_trans s.next hn, hw, fun b hb' hx => ?_, fun b k u e => ?_, s.ext, s.new, fun j p hj => ?_, fun j k p p' b hj hk' hp hp' => ?_⟩
  · rw [hk b (Nat.lt_of_lt_of_le hb' s.next) (fun q => by rcases (s2 b q).2 with h3 | h3; omega; exact hx h3)]
    exact s.keep b hb' hx
  · obtain ⟨q1, q2⟩ := hfr b k u e
    have := s.agree b k u e
    unfold hcell at this ⊢
    rw [hk b q1 q2]; exact this
  · rcases hset j p hj with ⟨rfl, rfl⟩ | ⟨hne, hp⟩
    · refine ⟨ho, fun b hb' => ?_⟩
      rcases hb b hb' with q | q
      · exact s2 b q
      · refine ⟨fun k => ?_, .inl (Nat.le_trans s.next q)⟩
        cases hF : F b k with
        | none => rfl
        | some u => have := (hfr b k u hF).1; omega
    · obtain ⟨t1, t2⟩ := s.own j p hp
      exact ⟨p.t.frame t1 hn fun b hb' => hk b (hout j p hne hp b hb').1 (hout j p hne hp b hb').2, t2⟩
  · rcases hset j p hj with ⟨rfl, rfl⟩ | ⟨hne, hq⟩ <;> rcases hset k p' hk' with ⟨rfl, rfl⟩ | ⟨hne', hq'⟩
    · rfl
    · obtain ⟨t1, t2⟩ := hout k p' hne' hq' b hp'
      rcases hb b hp with q | q
      · exact absurd q t2
      · omega
    · obtain ⟨t1, t2⟩ := hout j p hne hq b hp
      rcases hb b hp' with q | q
      · exact absurd q t2
      · omega
    · exact s.apart j k p p' b hq hq' hp hp'
end
end Go.V
namespace Go.V
set_option linter.unusedVariables false
def To.ofTr {α : Type} (t : Tr α) : To α :=
  ⟨t.size, fun F h bs cs x => bs = [] ∧ t.rel F cs x, fun q => t.len q.2, fun q => t.one q.2, fun q b hb => by (rw [q.1] at hb; cases hb), fun q => by rw [q.1]; exact List.nodup_nil, fun l q => ⟨q.1, t.mono l q.2⟩, fun q _ _ => q⟩
/-- a row that lies in a block of its own, its elements' own memory beside it -/
structure RowO {α : Type} (t : To α) (F : Frz) (h : Hp) (bs : List Nat) (v : Val) (xs : List α) (b : Nat) (c : List Val) (k : Option Nat) (css : List (Cl t.size)) (bss : List (List Nat)) : Prop where
  form : v = .sl (some (b, 0)) xs.length k
  blk : h.get b = some (.cells t.size c)
  lt : b < h.next
  csl : css.length = xs.length
  bsl : bss.length = xs.length
  rel : ∀ (i : Nat) (d : Cl t.size) (x : α) (e : List Nat), css[i]? = some d → xs[i]? = some x → bss[i]? = some e → t.rel F h e d.1 x
  cells : c.take (xs.length * t.size) = (css.map Subtype.val).flatten
  opn : k = none → c.length = xs.length * t.size
  cap : ∀ m, k = some m → c.length = m * t.size ∧ xs.length ≤ m
  few : xs.length ≤ 2 ^ 30
  one : c.all Val.one = true
  foot : bs = b :: bss.flatten
  nodup : bs.Nodup
def To.row {α : Type} (t : To α) : To (List α) where
  size := 1
  rel F h bs cs xs := ∃ v, cs = [v] ∧ ((v = .sl none 0 (some 0) ∧ xs = [] ∧ bs = []) ∨ ∃ b c k css bss, RowO t F h bs v xs b c k css bss)
  len := fun ⟨v, q, _⟩ => by rw [q]; rfl
  one := fun ⟨v, q, r⟩ => by
    rw [q]
    rcases r with ⟨rfl, _⟩ | ⟨b, c, k, css, bss, r⟩
    · rfl
    · rw [r.form]; rfl
  lt := fun ⟨v, q, r⟩ g hg => by
    rcases r with ⟨_, _, rfl⟩ | ⟨b, c, k, css, bss, r⟩
    · cases hg
    · rw [r.foot] at hg
      rcases List.mem_cons.1 hg with rfl | hg
      · exact r.lt
      · obtain ⟨e, he, hg⟩ := List.mem_flatten.1 hg
        obtain ⟨i, hi, rfl⟩ := List.getElem_of_mem he
        have h1 : i < css.length := by rw [r.csl, ← r.bsl]; exact hi
        exact t.lt (r.rel i _ _ _ (List.getElem?_eq_getElem h1) (List.getElem?_eq_getElem (by rw [← r.bsl]; exact hi)) (List.getElem?_eq_getElem hi)) g hg
  nodup := fun ⟨v, q, r⟩ => by
    rcases r with ⟨_, _, rfl⟩ | ⟨b, c, k, css, bss, r⟩
    · exact List.nodup_nil
    · exact r.nodup
  mono := fun l ⟨v, q, r⟩ => by
    refine ⟨v, q, ?_⟩
    rcases r with r | ⟨b, c, k, css, bss, r⟩
    · exact .inl r
    · exact .inr ⟨b, c, k, css, bss, { r with rel := fun i d x e h1 h2 h3 => t.mono l (r.rel i d x e h1 h2 h3) }⟩
  frame := fun ⟨v, q, r⟩ hn hk => by
    refine ⟨v, q, ?_⟩
    rcases r with r | ⟨b, c, k, css, bss, r⟩
    · exact .inl r
    · refine .inr ⟨b, c, k, css, bss, { r with blk := (hk b (by rw [r.foot]; simp)).trans r.blk, lt := Nat.lt_of_lt_of_le r.lt hn, rel := fun i d x e h1 h2 h3 => t.frame (r.rel i d x e h1 h2 h3) hn fun g hg => hk g ?_ }⟩
      rw [r.foot]
      exact List.mem_cons_of_mem _ (List.mem_flatten.2 ⟨e, List.mem_of_getElem? h3, hg⟩)
/-- a variable that lies in memory -/
def To.box {α : Type} (t : To α) : To α where
  size := 1
  rel F h bs cs x := ∃ b c bs', cs = [.p (some (b, 0))] ∧ h.get b = some (.cells t.size c) ∧ b < h.next ∧ bs = b :: bs' ∧ bs.Nodup ∧ t.rel F h bs' c x
  len := fun ⟨b, c, bs', q, _⟩ => by rw [q]; rfl
  one := fun ⟨b, c, bs', q, _⟩ => by rw [q]; rfl
  lt := fun ⟨b, c, bs', _, _, h3, h4, _, h6⟩ g hg => by
    rw [h4] at hg
    rcases List.mem_cons.1 hg with rfl | hg
    · exact h3
    · exact t.lt h6 g hg
  nodup := fun ⟨b, c, bs', _, _, _, _, h5, _⟩ => h5
  mono := fun l ⟨b, c, bs', h1, h2, h3, h4, h5, h6⟩ => ⟨b, c, bs', h1, h2, h3, h4, h5, t.mono l h6⟩
  frame := fun ⟨b, c, bs', h1, h2, h3, h4, h5, h6⟩ hn hk => ⟨b, c, bs', h1, (hk b (by rw [h4]; simp)).trans h2, Nat.lt_of_lt_of_le h3 hn, h4, h5, t.frame h6 hn fun g hg => hk g (by rw [h4]; exact List.mem_cons_of_mem _ hg)⟩
end Go.V
namespace Go.V
set_option linter.unusedVariables false
section
variable {α : Type} {t : To α} {F : Frz} {h h1 : Hp} {bs : List Nat} {v : Val} {xs : List α} {b : Nat} {c : List Val} {k : Option Nat} {css : List (Cl t.size)} {bss : List (List Nat)}
theorem flat_len {s : Nat} : ∀ (css : List (Cl s)), (css.map Subtype.val).flatten.length = css.length * s
  | [] => by simp
  | d :: r => by rw [List.map_cons, List.flatten_cons, List.length_append, flat_len r, d.2, List.length_cons, Nat.add_mul]; omega
/-- the elements, in a new block with one more -/
theorem rowO_new (hcl : css.length = xs.length) (hbl : bss.length = xs.length) (hrel : ∀ (i : Nat) (d : Cl t.size) (x : α) (e : List Nat), css[i]? = some d → xs[i]? = some x → bss[i]? = some e → t.rel F h e d.1 x) (hone : (css.map Subtype.val).flatten.all Val.one = true)
    {ebs : List Nat} {ds : List Val} {y : α} (he : t.rel F h ebs ds y) (hnd : (bss.flatten ++ ebs).Nodup) (hlt : ∀ g, g ∈ bss.flatten → g < h.next) (hn : h1.next = h.next) (hk : ∀ g, g ∈ bss.flatten ++ ebs → h1.get g = h.get g) (hfew : xs.length < 2 ^ 30) :
    RowO t F (h1.new (.cells t.size ((css.map Subtype.val).flatten ++ ds))) (h.next :: (bss ++ [ebs]).flatten) (.sl (some (h.next, 0)) (xs ++ [y]).length none) (xs ++ [y]) h.next ((css.map Subtype.val).flatten ++ ds) none (css ++ [⟨ds, t.len he⟩]) (bss ++ [ebs]) := by
  have hdl := t.len he
  have hfl := flat_len css
  have hget : ∀ g, g ∈ bss.flatten ++ ebs → (h1.new (.cells t.size ((css.map Subtype.val).flatten ++ ds))).get g = h.get g := fun g hg => by
    rw [Hp.get_new, hn, if_neg]
    · exact hk g hg
    · rcases List.mem_append.1 hg with q | q
      · have := hlt g q; omega
      · have := t.lt he g q; omega
  have hnx : h.next ≤ (h1.new (.cells t.size ((css.map Subtype.val).flatten ++ ds))).next := by show h.next ≤ h1.next + 1; omega
  refine ⟨rfl, by rw [Hp.get_new, hn, if_pos rfl], by show h.next < h1.next + 1; omega, by simp [hcl], by simp [hbl], fun i d x e q1 q2 q3 => ?_, ?_, fun _ => ?_, fun m q => (by cases q), by simp; omega, ?_, rfl, ?_⟩
  · by_cases hi : i < css.length
    · rw [List.getElem?_append_left hi] at q1
      rw [List.getElem?_append_left (by omega)] at q2 q3
      exact t.frame (hrel i d x e q1 q2 q3) hnx fun g hg => hget g (List.mem_append_left _ (List.mem_flatten.2 ⟨e, List.mem_of_getElem? q3, hg⟩))
    · rw [List.getElem?_append_right (by omega)] at q1 q2 q3
      have hz : i - css.length = 0 := by have := (List.getElem?_eq_some_iff.1 q1).1; simp at this; omega
      rw [hz] at q1
      rw [show i - xs.length = 0 by omega] at q2
      rw [show i - bss.length = 0 by omega] at q3
      simp at q1 q2 q3
      subst q1; subst q2; subst q3
      exact t.frame he hnx fun g hg => hget g (List.mem_append_right _ hg)
  · rw [List.map_append, List.flatten_append]
    simp only [List.map_cons, List.map_nil, List.flatten_cons, List.flatten_nil, List.append_nil]
    apply List.take_of_length_le
    rw [List.length_append, hfl, hdl, hcl, List.length_append, List.length_singleton, Nat.add_mul]
    omega
  · rw [List.length_append, hfl, hdl, hcl, List.length_append, Nat.add_mul]; simp
  · rw [List.all_append, hone, t.one he]; rfl
  · rw [List.flatten_append]
    simp only [List.flatten_cons, List.flatten_nil, List.append_nil]
    refine List.nodup_cons.2 ⟨fun q => ?_, hnd⟩
    rcases List.mem_append.1 q with q | q
    · have := hlt _ q; omega
    · have := t.lt he _ q; omega
theorem To.row_push (hpos : 0 < t.size) (r : (To.row t).rel F h bs [v] xs) {ebs : List Nat} {ds : List Val} {y : α} (he : t.rel F h ebs ds y) (hd : ∀ g, g ∈ ebs → g ∉ bs) (hw : ∀ g, h.next ≤ g → h.get g = none) (hfew : xs.length < 2 ^ 30) :
    ∃ v' h' bs', appV h t.size 1 ds v = some (v', h') ∧ (To.row t).rel F h' bs' [v'] (xs ++ [y]) ∧ h.next ≤ h'.next ∧ (∀ g, h'.next ≤ g → h'.get g = none) ∧ (∀ g, g < h.next → g ∉ bs → h'.get g = h.get g) ∧ ∀ g, g ∈ bs' → g ∈ bs ∨ g ∈ ebs ∨ h.next ≤ g := by
  obtain ⟨v0, hv0, r⟩ := r
  obtain rfl := List.head_eq_of_cons_eq hv0
  have hdl := t.len he
  have hone := t.one he
  have hne := t.nodup he
  have hwn : ∀ (h1 : Hp) (B : Blk), h1.next = h.next → (∀ g, h.next ≤ g → h1.get g = none) → ∀ g, (h1.new B).next ≤ g → (h1.new B).get g = none := fun h1 B e q g hg => by
    have hg' : h1.next + 1 ≤ g := hg
    rw [Hp.get_new, if_neg (by omega)]; exact q g (by omega)
  rcases r with ⟨rfl, rfl, rfl⟩ | ⟨b, c, k, css, bss, r⟩
  · have R := rowO_new (t := t) (F := F) (h := h) (h1 := h) (xs := []) (css := []) (bss := []) rfl rfl (fun i d x e q => by simp at q) rfl he (by simpa using hne) (fun g q => by simp at q) rfl (fun g q => rfl) (by simp)
    refine ⟨_, _, _, ?_, ⟨_, rfl, .inr ⟨_, _, _, _, _, R⟩⟩, Nat.le_succ _, hwn h _ rfl hw, fun g hg _ => ?_, fun g hg => ?_⟩
    · simp [appV, rowV, hone]
    · rw [Hp.get_new, if_neg (by omega)]
    · simp at hg; rcases hg with rfl | hg
      · exact .inr (.inr (Nat.le_refl _))
      · exact .inr (.inl hg)
  · obtain ⟨hform, hblk, hblt, hcsl, hbsl, hrel, hcells, hopn, hcap, hfw, hcone, hfoot, hnod⟩ := r
    subst hform; subst hfoot
    obtain ⟨hb1, hb2⟩ := List.nodup_cons.1 hnod
    have hfl := flat_len css
    have hclen : xs.length * t.size ≤ c.length := by
      have : (c.take (xs.length * t.size)).length = xs.length * t.size := by rw [hcells, hfl, hcsl]
      rw [List.length_take] at this; omega
    have hfo : (css.map Subtype.val).flatten.all Val.one = true := by
      rw [← hcells]
      exact List.all_eq_true.2 fun x hx => List.all_eq_true.1 hcone x (List.mem_of_mem_take hx)
    have hltb : ∀ g, g ∈ bss.flatten → g < h.next := fun g hg => by
      obtain ⟨e, he', hg⟩ := List.mem_flatten.1 hg
      obtain ⟨i, hi, rfl⟩ := List.getElem_of_mem he'
      exact t.lt (hrel i _ _ _ (List.getElem?_eq_getElem (by omega)) (List.getElem?_eq_getElem (by omega)) (List.getElem?_eq_getElem hi)) g hg
    have hnd : (bss.flatten ++ ebs).Nodup := List.nodup_append.2 ⟨hb2, hne, fun x hx y hy e => hd y hy (e ▸ List.mem_cons_of_mem _ hx)⟩
    have hbe : ∀ g, g ∈ bss.flatten ++ ebs → g ≠ b := fun g hg e => by
      subst e
      rcases List.mem_append.1 hg with q | q
      · exact hb1 q
      · exact hd _ q (by simp)
    have hfirst : ∀ kk, firstV h t.size xs.length (.sl (some (b, 0)) xs.length kk) = some (css.map Subtype.val).flatten := fun kk => by
      simp only [firstV]
      split
      · rename_i h0
        have : css = [] := List.eq_nil_of_length_eq_zero (by omega)
        subst this; rfl
      · unfold rd
        rw [hblk]
        simp only [Nat.zero_add, List.drop_zero]
        rw [if_pos hclen, hcells]
    have hal : ((css.map Subtype.val).flatten ++ ds).all Val.one = true := by rw [List.all_append, hfo, hone]; rfl
    have fin : ∀ h1 : Hp, h1.next = h.next → (∀ g, g ≠ b → h1.get g = h.get g) → (∀ g, h.next ≤ g → h1.get g = none) → appV h t.size 1 ds (.sl (some (b, 0)) xs.length k) = rowV h1 t.size ((css.map Subtype.val).flatten ++ ds) (xs.length + 1) none →
        ∃ v' h' bs', appV h t.size 1 ds (.sl (some (b, 0)) xs.length k) = some (v', h') ∧ (To.row t).rel F h' bs' [v'] (xs ++ [y]) ∧ h.next ≤ h'.next ∧ (∀ g, h'.next ≤ g → h'.get g = none) ∧ (∀ g, g < h.next → g ∉ b :: bss.flatten → h'.get g = h.get g) ∧ ∀ g, g ∈ bs' → g ∈ b :: bss.flatten ∨ g ∈ ebs ∨ h.next ≤ g := fun h1 e1 e2 e3 e4 => by
      have R := rowO_new hcsl hbsl hrel hfo he hnd hltb e1 (fun g hg => e2 g (hbe g hg)) hfew
      refine ⟨_, _, _, ?_, ⟨_, rfl, .inr ⟨_, _, _, _, _, R⟩⟩, by show h.next ≤ h1.next + 1; omega, hwn h1 _ e1 e3, fun g hg hno => ?_, fun g hg => ?_⟩
      · rw [e4]; unfold rowV; rw [if_pos hal, e1]; simp
      · rw [Hp.get_new, if_neg (by omega)]; exact e2 g fun q => hno (by rw [q]; simp)
      · rcases List.mem_cons.1 hg with rfl | hg
        · exact .inr (.inr (Nat.le_refl _))
        · rw [List.flatten_append] at hg
          rcases List.mem_append.1 hg with q | q
          · exact .inl (List.mem_cons_of_mem _ q)
          · simp at q; exact .inr (.inl q)
    cases k with
    | none =>
      have hcl := hopn rfl
      refine fin (h.set b .dead) rfl (fun g hg => by rw [Hp.get_set, if_neg hg]) (fun g hg => by rw [Hp.get_set, if_neg (by omega)]; exact hw g hg) ?_
      simp only [appV, hblk]
      rw [if_pos ⟨trivial, by omega, by omega⟩, if_neg (by rw [hcl, Nat.add_mul]; omega), hfirst none]
      rfl
    | some m =>
      obtain ⟨hm1, hm2⟩ := hcap m rfl
      by_cases hroom : xs.length + 1 ≤ m
      · have hle : 0 + xs.length * t.size + ds.length ≤ c.length := by
          rw [hm1, hdl]
          have := Nat.mul_le_mul_right t.size hroom
          rw [Nat.add_mul] at this; omega
        refine ⟨.sl (some (b, 0)) (xs ++ [y]).length (some m), h.set b (.cells t.size (putL c (0 + xs.length * t.size) ds)), b :: (bss ++ [ebs]).flatten, ?_, ⟨_, rfl, .inr ⟨b, putL c (0 + xs.length * t.size) ds, some m, css ++ [⟨ds, hdl⟩], bss ++ [ebs], ?_⟩⟩, Nat.le_refl _, fun g hg => ?_, fun g hg hno => ?_, fun g hg => ?_⟩
        · simp only [appV]
          rw [if_pos hroom]
          unfold wrH
          rw [hblk]
          simp only
          rw [if_pos ⟨hle, hone⟩]
          simp
        · refine ⟨rfl, by rw [Hp.get_set, if_pos rfl], hblt, by simp [hcsl], by simp [hbsl], fun i d x e q1 q2 q3 => ?_, ?_, fun q => (by cases q), fun m' q => ?_, by simp; omega, ?_, rfl, ?_⟩
          · by_cases hi : i < css.length
            · rw [List.getElem?_append_left hi] at q1
              rw [List.getElem?_append_left (by omega)] at q2 q3
              exact t.frame (hrel i d x e q1 q2 q3) (Nat.le_refl _) fun g hg => by rw [Hp.get_set, if_neg (hbe g (List.mem_append_left _ (List.mem_flatten.2 ⟨e, List.mem_of_getElem? q3, hg⟩)))]
            · rw [List.getElem?_append_right (by omega)] at q1 q2 q3
              have hz : i - css.length = 0 := by have := (List.getElem?_eq_some_iff.1 q1).1; simp at this; omega
              rw [hz] at q1
              rw [show i - xs.length = 0 by omega] at q2
              rw [show i - bss.length = 0 by omega] at q3
              simp at q1 q2 q3
              subst q1; subst q2; subst q3
              exact t.frame he (Nat.le_refl _) fun g hg => by rw [Hp.get_set, if_neg (hbe g (List.mem_append_right _ hg))]
          · rw [List.map_append, List.flatten_append]
            simp only [List.map_cons, List.map_nil, List.flatten_cons, List.flatten_nil, List.append_nil, Nat.zero_add]
            unfold putL
            have hL : ((css.map Subtype.val).flatten ++ ds).length = (xs ++ [y]).length * t.size := by
              rw [List.length_append, hfl, hdl, hcsl, List.length_append, List.length_singleton, Nat.add_mul]; omega
            rw [hcells, List.take_append_of_le_length (by rw [hL]; exact Nat.le_refl _), List.take_of_length_le (by rw [hL]; exact Nat.le_refl _)]
          · obtain rfl := Option.some.inj q
            rw [putL_length hle]
            exact ⟨hm1, by simp; omega⟩
          · unfold putL
            rw [List.all_append, List.all_append, hone]
            have q1 : (c.take (0 + xs.length * t.size)).all Val.one = true := List.all_eq_true.2 fun x hx => List.all_eq_true.1 hcone x (List.mem_of_mem_take hx)
            have q2 : (c.drop (0 + xs.length * t.size + ds.length)).all Val.one = true := List.all_eq_true.2 fun x hx => List.all_eq_true.1 hcone x (List.mem_of_mem_drop hx)
            rw [q1, q2]; rfl
          · rw [List.flatten_append]
            simp only [List.flatten_cons, List.flatten_nil, List.append_nil]
            exact List.nodup_cons.2 ⟨fun q => hbe b q rfl, hnd⟩
        · have hg' : h.next ≤ g := hg
          rw [Hp.get_set, if_neg (by omega)]; exact hw g hg'
        · rw [Hp.get_set, if_neg (fun q => hno (by rw [q]; simp))]
        · rw [List.flatten_append] at hg
          rcases List.mem_cons.1 hg with rfl | hg
          · exact .inl (by simp)
          · rcases List.mem_append.1 hg with q | q
            · exact .inl (List.mem_cons_of_mem _ q)
            · simp at q; exact .inr (.inl q)
      · refine fin h rfl (fun g hg => rfl) hw ?_
        simp only [appV]
        rw [if_neg hroom, if_pos ⟨hm2, by omega⟩, hfirst (some m)]
        rfl
end
end Go.V
namespace Go.V
set_option linter.unusedVariables false
theorem flat_at {s : Nat} (hs : 0 < s) : ∀ (css : List (Cl s)) (p : Nat), (css.map Subtype.val).flatten[p]? = (css[p / s]?).bind fun d => d.1[p % s]?
  | [], p => by simp
  | d :: r, p => by
    rw [List.map_cons, List.flatten_cons]
    by_cases hp : p < s
    · rw [List.getElem?_append_left (by rw [d.2]; exact hp), Nat.div_eq_of_lt hp, Nat.mod_eq_of_lt hp]; rfl
    · have e1 : p / s = (p - s) / s + 1 := Nat.div_eq_sub_div hs (by omega)
      have e2 : p % s = (p - s) % s := Nat.mod_eq_sub_mod (by omega)
      rw [List.getElem?_append_right (by rw [d.2]; omega), d.2, flat_at hs r (p - s), e1, e2]
      rfl
theorem flat_set {β : Type} : ∀ (l : List (List β)) (i : Nat) (e' : List β), l.flatten.Nodup → e'.Nodup → (∀ g, g ∈ e' → ∀ j e2, j ≠ i → l[j]? = some e2 → g ∉ e2) → (l.set i e').flatten.Nodup
  | [], i, e', _, _, _ => by simp
  | a :: l, 0, e', h, he, hd => by
    rw [List.flatten_cons] at h
    obtain ⟨_, h2, _⟩ := List.nodup_append.1 h
    rw [List.set_cons_zero, List.flatten_cons]
    refine List.nodup_append.2 ⟨he, h2, fun x hx y hy q => ?_⟩
    subst q
    obtain ⟨e2, q1, q2⟩ := List.mem_flatten.1 hy
    obtain ⟨j, hj, rfl⟩ := List.getElem_of_mem q1
    exact hd x hx (j + 1) _ (by omega) (by simp [hj]) q2
  | a :: l, i + 1, e', h, he, hd => by
    rw [List.flatten_cons] at h
    obtain ⟨h1, h2, h3⟩ := List.nodup_append.1 h
    rw [List.set_cons_succ, List.flatten_cons]
    refine List.nodup_append.2 ⟨h1, flat_set l i e' h2 he fun g hg j e2 hj h2 => hd g hg (j + 1) e2 (by omega) (by simpa using h2), fun x hx y hy q => ?_⟩
    subst q
    obtain ⟨e2, q1, q2⟩ := List.mem_flatten.1 hy
    rcases List.mem_or_eq_of_mem_set q1 with q | q
    · exact h3 x hx x (List.mem_flatten.2 ⟨e2, q, q2⟩) rfl
    · subst q; exact hd x q2 0 a (by omega) rfl hx
theorem flat_apart {β : Type} : ∀ (l : List (List β)) {i j : Nat} {e e2 : List β} {g : β}, l.flatten.Nodup → j ≠ i → l[j]? = some e2 → l[i]? = some e → g ∈ e2 → g ∈ e → False
  | [], i, j, e, e2, g, _, _, h, _, _, _ => by simp at h
  | a :: l, 0, 0, e, e2, g, _, hj, _, _, _, _ => hj rfl
  | a :: l, 0, j + 1, e, e2, g, h, _, h2, h1, g2, g1 => by
    rw [List.flatten_cons] at h
    simp at h1 h2
    subst h1
    exact (List.nodup_append.1 h).2.2 g g1 g (List.mem_flatten.2 ⟨e2, List.mem_of_getElem? h2, g2⟩) rfl
  | a :: l, i + 1, 0, e, e2, g, h, _, h2, h1, g2, g1 => by
    rw [List.flatten_cons] at h
    simp at h1 h2
    subst h2
    exact (List.nodup_append.1 h).2.2 g g2 g (List.mem_flatten.2 ⟨e, List.mem_of_getElem? h1, g1⟩) rfl
  | a :: l, i + 1, j + 1, e, e2, g, h, hj, h2, h1, g2, g1 => by
    rw [List.flatten_cons] at h
    exact flat_apart l (i := i) (j := j) (List.nodup_append.1 h).2.1 (by omega) (by simpa using h2) (by simpa using h1) g2 g1
section
variable {α : Type} {t : To α} {F : Frz} {h : Hp} {bs : List Nat} {v : Val} {xs : List α}
theorem To.row_at (hpos : 0 < t.size) (r : (To.row t).rel F h bs [v] xs) {i : Nat} {x : α} (hi : xs[i]? = some x) :
    ∃ b k cs e, v = .sl (some (b, 0)) xs.length k ∧ b ∈ bs ∧ b < h.next ∧ (∀ g, g ∈ e → g ∈ bs ∧ g ≠ b) ∧ t.rel F h e cs x ∧ rd h b (i * t.size) t.size = some cs ∧
      ∀ (us : List Val) (q : Nat) (ds : List Val) (y : α) (e' : List Nat), us.all Val.one = true → q + us.length ≤ t.size → ds = putL cs q us → (∀ h', h'.next = h.next → (∀ g, g ≠ b → h'.get g = h.get g) → t.rel F h' e' ds y) → (∀ g, g ∈ e' → g ∉ bs ∨ g ∈ e) → (∀ g, g ∈ e' → g < h.next) → e'.Nodup →
        ∃ h' bs', wrH h b (i * t.size + q) us = some h' ∧ (To.row t).rel F h' bs' [v] (xs.set i y) ∧ h'.next = h.next ∧ (∀ g, g ≠ b → h'.get g = h.get g) ∧ ∀ g, g ∈ bs' → g ∈ bs ∨ g ∈ e' := by
  obtain ⟨v0, hv0, r⟩ := r
  obtain rfl := List.head_eq_of_cons_eq hv0
  have hil := (List.getElem?_eq_some_iff.1 hi).1
  rcases r with ⟨rfl, rfl, rfl⟩ | ⟨b, c, k, css, bss, r⟩
  · simp at hi
  · obtain ⟨hform, hblk, hblt, hcsl, hbsl, hrel, hcells, hopn, hcap, hfw, hcone, hfoot, hnod⟩ := r
    subst hform; subst hfoot
    obtain ⟨hb1, hb2⟩ := List.nodup_cons.1 hnod
    have hfl := flat_len css
    have hclen : xs.length * t.size ≤ c.length := by
      have : (c.take (xs.length * t.size)).length = xs.length * t.size := by rw [hcells, hfl, hcsl]
      rw [List.length_take] at this; omega
    have hd := List.getElem?_eq_getElem (l := css) (i := i) (by omega)
    have he := List.getElem?_eq_getElem (l := bss) (i := i) (by omega)
    generalize hdd : css[i] = d at hd
    generalize hee : bss[i] = e at he
    have hr := hrel i d x e hd hi he
    have hmem : ∀ g, g ∈ e → g ∈ bss.flatten := fun g hg => List.mem_flatten.2 ⟨e, List.mem_of_getElem? he, hg⟩
    have hiz : i * t.size + t.size ≤ xs.length * t.size := by
      have := Nat.mul_le_mul_right t.size (show i + 1 ≤ xs.length from hil)
      rw [Nat.add_mul] at this; omega
    have hcat : ∀ p, p < xs.length * t.size → c[p]? = (css[p / t.size]?).bind fun d => d.1[p % t.size]? := fun p hp => by
      rw [← flat_at hpos, ← hcells, List.getElem?_take, if_pos hp]
    have hdc : ∀ j, j < t.size → c[i * t.size + j]? = d.1[j]? := fun j hj => by
      rw [hcat _ (by omega), Nat.mul_comm i, Nat.mul_add_div hpos, Nat.mul_add_mod, Nat.div_eq_of_lt hj, Nat.mod_eq_of_lt hj, Nat.add_zero, hd]; rfl
    refine ⟨b, k, d.1, e, rfl, by simp, hblt, fun g hg => ⟨List.mem_cons_of_mem _ (hmem g hg), fun q => hb1 (q ▸ hmem g hg)⟩, hr, ?_, ?_⟩
    · unfold rd
      rw [hblk]
      simp only
      rw [if_pos (by omega)]
      congr 1
      apply List.ext_getElem?
      intro j
      rw [List.getElem?_take]
      split
      · rename_i hj; rw [List.getElem?_drop]; exact hdc j hj
      · rw [List.getElem?_eq_none (by rw [d.2]; omega)]
    · intro us q ds y e' hus hq hds hy he' hlt' hnd'
      have hle : i * t.size + q + us.length ≤ c.length := by omega
      have hdsl : ds.length = t.size := by rw [hds, putL_length (by rw [d.2]; exact hq)]; exact d.2
      refine ⟨h.set b (.cells t.size (putL c (i * t.size + q) us)), b :: (bss.set i e').flatten, ?_, ⟨_, rfl, .inr ⟨b, putL c (i * t.size + q) us, k, css.set i ⟨ds, hdsl⟩, bss.set i e', ?_⟩⟩, rfl, fun g hg => by rw [Hp.get_set, if_neg hg], fun g hg => ?_⟩
      · unfold wrH
        rw [hblk]
        simp only
        rw [if_pos ⟨hle, hus⟩]
      · have hoth : ∀ (j : Nat) (e2 : List Nat), bss[j]? = some e2 → ∀ g, g ∈ e2 → g ≠ b := fun j e2 h2 g hg q => hb1 (q ▸ List.mem_flatten.2 ⟨e2, List.mem_of_getElem? h2, hg⟩)
        refine ⟨by simp, by rw [Hp.get_set, if_pos rfl], hblt, by simp [hcsl], by simp [hbsl], fun j d2 x2 e2 q1 q2 q3 => ?_, ?_, fun q => by rw [putL_length hle]; simpa using hopn q, fun m q => by rw [putL_length hle]; simpa using hcap m q, by simpa using hfw, ?_, rfl, ?_⟩
        · by_cases hj : j = i
          · subst hj
            rw [List.getElem?_set_self (by omega)] at q1 q2 q3
            obtain rfl := Option.some.inj q1; obtain rfl := Option.some.inj q2; obtain rfl := Option.some.inj q3
            exact hy _ rfl fun g hg => by rw [Hp.get_set, if_neg hg]
          · rw [List.getElem?_set_ne (fun q => hj q.symm)] at q1 q2 q3
            exact t.frame (hrel j d2 x2 e2 q1 q2 q3) (Nat.le_refl _) fun g hg => by rw [Hp.get_set, if_neg (hoth j e2 q3 g hg)]
        · apply List.ext_getElem?
          intro p
          rw [flat_at hpos, List.getElem?_take, List.length_set]
          split
          · rename_i hp
            rw [putL_get hle]
            by_cases hpi : p / t.size = i
            · have hpe : p = i * t.size + p % t.size := by rw [← hpi, Nat.mul_comm]; exact (Nat.div_add_mod p t.size).symm
              have hpm := Nat.mod_lt p hpos
              rw [hpi, List.getElem?_set_self (by omega)]
              show _ = ds[p % t.size]?
              rw [hds, putL_get (by rw [d.2]; exact hq)]
              by_cases hw : q ≤ p % t.size ∧ p % t.size < q + us.length
              · rw [if_pos hw, if_pos (by omega), show p - (i * t.size + q) = p % t.size - q by omega]
              · rw [if_neg hw, if_neg (by omega), ← hdc _ hpm, ← hpe]
            · rw [List.getElem?_set_ne (fun q => hpi q.symm), if_neg, hcat p hp]
              intro hw
              apply hpi
              have hlo : i * t.size ≤ p := by omega
              have hhi : p < (i + 1) * t.size := by rw [Nat.add_mul]; omega
              exact Nat.div_eq_of_lt_le hlo hhi
          · rename_i hp
            rw [List.getElem?_eq_none]
            · rfl
            · rw [List.length_set, hcsl]
              exact (Nat.le_div_iff_mul_le hpos).2 (by omega)
        · unfold putL
          rw [List.all_append, List.all_append, hus]
          have q1 : (c.take (i * t.size + q)).all Val.one = true := List.all_eq_true.2 fun x hx => List.all_eq_true.1 hcone x (List.mem_of_mem_take hx)
          have q2 : (c.drop (i * t.size + q + us.length)).all Val.one = true := List.all_eq_true.2 fun x hx => List.all_eq_true.1 hcone x (List.mem_of_mem_drop hx)
          rw [q1, q2]; rfl
        · refine List.nodup_cons.2 ⟨fun q => ?_, flat_set bss i e' hb2 hnd' fun g hg j e2 hj h2 hg2 => ?_⟩
          · obtain ⟨e2, q1, q2⟩ := List.mem_flatten.1 q
            rcases List.mem_or_eq_of_mem_set q1 with q3 | q3
            · exact hb1 (List.mem_flatten.2 ⟨e2, q3, q2⟩)
            · subst q3
              rcases he' b q2 with q4 | q4
              · exact q4 (by simp)
              · exact hb1 (hmem b q4)
          · rcases he' g hg with q4 | q4
            · exact q4 (List.mem_cons_of_mem _ (List.mem_flatten.2 ⟨e2, List.mem_of_getElem? h2, hg2⟩))
            · exact flat_apart bss hb2 hj h2 he hg2 q4
      · rcases List.mem_cons.1 hg with rfl | hg
        · exact .inl (by simp)
        · obtain ⟨e2, h2, hg2⟩ := List.mem_flatten.1 hg
          rcases List.mem_or_eq_of_mem_set h2 with q | q
          · exact .inl (List.mem_cons_of_mem _ (List.mem_flatten.2 ⟨e2, q, hg2⟩))
          · exact .inr (q ▸ hg2)
end
end Go.V
namespace Go.V
set_option linter.unusedVariables false
def Frz.plus (F : Frz) (h : Hp) (bs : List Nat) : Frz := fun b o => if b ∈ bs then hcell h b o else F b o
theorem Frz.plus_le {F : Frz} {h : Hp} {bs : List Nat} (hn : ∀ b, b ∈ bs → ∀ k, F b k = none) : F.le (F.plus h bs) := fun b o u e => by
  unfold Frz.plus
  rw [if_neg]
  · exact e
  · intro q; rw [hn b q o] at e; cases e
section
variable {X : List Nat} {h0 h : Hp} {F0 F : Frz} {L : List Ob}
theorem St.noF (s : St X h0 F0 F L h) {i : Nat} {o : Ob} (hi : L[i]? = some o) : ∀ b, b ∈ o.bs → ∀ k, F b k = none := fun b hb => ((s.own i o hi).2 b hb).1
theorem St.freeze (s : St X h0 F0 F L h) {i : Nat} {o : Ob} (hi : L[i]? = some o) : St X h0 F0 (F.plus h o.bs) (L.eraseIdx i) h := by
  have hle := Frz.plus_le (h := h) (s.noF hi)
  have hget : ∀ (j : Nat) (p : Ob), (L.eraseIdx i)[j]? = some p → ∃ j', j' ≠ i ∧ L[j']? = some p ∧ (j' = if j < i then j else j + 1) := fun j p hj => by
    rw [List.getElem?_eraseIdx] at hj
    split at hj
    · rename_i q; exact ⟨j, by omega, hj, by rw [if_pos q]⟩
    · rename_i q; exact ⟨j + 1, by omega, hj, by rw [if_neg q]⟩
  refine ⟨s.next, s.wf, s.keep, fun b k u e => ?_, s.ext.trans hle, fun b k u e => ?_, fun j p hj => ?_, fun j k p p' b hj hk hp hp' => ?_⟩
  · unfold Frz.plus at e
    split at e
    · exact e
    · exact s.agree b k u e
  · unfold Frz.plus at e
    split at e
    · rename_i q; exact .inr ((s.own i o hi).2 b q).2
    · exact s.new b k u e
  · obtain ⟨j', q1, q2, _⟩ := hget j p hj
    obtain ⟨t1, t2⟩ := s.own j' p q2
    refine ⟨p.t.mono hle t1, fun b hb => ⟨fun k => ?_, (t2 b hb).2⟩⟩
    unfold Frz.plus
    rw [if_neg fun q => q1 (s.apart j' i p o b q2 hi hb q)]
    exact (t2 b hb).1 k
  · obtain ⟨j', q1, q2, q3⟩ := hget j p hj
    obtain ⟨k', r1, r2, r3⟩ := hget k p' hk
    have := s.apart j' k' p p' b q2 r2 hp hp'
    split at q3 <;> split at r3 <;> omega
end
/-- a flat row, read as frozen -/
theorem row_frozen {α : Type} {t : Tr α} {F G : Frz} {h : Hp} {bs : List Nat} {v : Val} {xs : List α} (r : (To.row (To.ofTr t)).rel F h bs [v] xs) (hl : F.le G) (hg : ∀ b, b ∈ bs → ∀ o u, hcell h b o = some u → G b o = some u) : SlF t G v xs := by
  obtain ⟨v0, hv0, r⟩ := r
  obtain rfl := List.head_eq_of_cons_eq hv0
  rcases r with ⟨rfl, rfl, _⟩ | ⟨b, c, k, css, bss, r⟩
  · exact SlF.nil _
  · have hfw : xs.length ≤ maxLen := Nat.le_trans r.few (by unfold maxLen; decide)
    have key : ∀ css : List (Cl t.size), css.length = xs.length → (∀ (i : Nat) (d : Cl t.size) (x : α), css[i]? = some d → xs[i]? = some x → t.rel F d.1 x) → c.take (xs.length * t.size) = (css.map Subtype.val).flatten → SlF t G v xs := fun css hcl hrel hc => by
      refine ⟨css, ⟨hcl, fun i d x h1 h2 => t.mono hl (hrel i d x h1 h2)⟩, .inr ⟨some (b, 0), k, by rw [r.form, hcl], by rw [hcl]; exact hfw, fun m hm => by rw [hcl]; exact (r.cap m hm).2, fun q => (by cases q), fun b' o' had i d j u h1 h2 => ?_⟩⟩
      simp only [Option.some.injEq, Prod.mk.injEq] at had
      obtain ⟨rfl, rfl⟩ := had
      refine hg b (by rw [r.foot]; simp) _ _ ?_
      unfold hcell
      rw [r.blk, Nat.zero_add]
      have hil := (List.getElem?_eq_some_iff.1 h1).1
      have hjl : j < t.size := by have := (List.getElem?_eq_some_iff.1 h2).1; rw [d.2] at this; exact this
      have hlt : i * t.size + j < xs.length * t.size := by
        have := Nat.mul_le_mul_right t.size (show i + 1 ≤ xs.length by rw [← hcl]; exact hil)
        rw [Nat.add_mul] at this; omega
      have := flat_get h1 h2
      show c[i * t.size + j]? = some u
      rw [← hc, List.getElem?_take, if_pos hlt] at this
      exact this
    refine key css r.csl (fun i d x h1 h2 => ?_) r.cells
    have hi := (List.getElem?_eq_some_iff.1 h2).1
    exact (r.rel i d x _ h1 h2 (List.getElem?_eq_getElem (by rw [r.bsl]; exact hi))).2
end Go.V
namespace Go.V
set_option linter.unusedVariables false
section
variable {P : Program} {K : Tb}
/-- then this code -/
def ThenK (P : Program) (K : Tb) (n : Nat) (b : Code) (Q : Out → Prop) : Out → Prop
  | .code .nrm env h => XW P K (.code n b env h) Q
  | o => Q o
def BlockK (id : Nat) (Q : Out → Prop) : Out → Prop
  | .code (.ext i) env h => Q (.code (if i = id then .nrm else .ext i) env h)
  | o => Q o
def CallK (P : Program) (rs : List ResultVar) (Q : Out → Prop) : Out → Prop
  | .code .nrm env h => ∃ vs, resV P env h rs = some vs ∧ Q (.call (oneV vs) h)
  | .code .ret env h => ∃ vs, resV P env h rs = some vs ∧ Q (.call (oneV vs) h)
  | _ => False
theorem XW.seqK {n : Nat} {a b : Code} {env : Env} {h : Hp} {Q : Out → Prop} (x : XW P K (.code n a env h) (ThenK P K n b Q)) : XW P K (.code n (.seq a b) env h) Q :=
  .seq x (fun env' h' q => q) fun e env' h' ne q => by cases e <;> first | exact absurd rfl ne | exact q
theorem XW.blockK {n id : Nat} {a : Code} {env : Env} {h : Hp} {Q : Out → Prop} (x : XW P K (.code n a env h) (BlockK id Q)) : XW P K (.code n (.block id a) env h) Q :=
  .block x fun e env' h' q => by cases e <;> exact q
theorem XW.callK {f : FuncId} {args : List Val} {h : Hp} {Q : Out → Prop} {fn : Func} {c : Code} (hf : P.funcs[f]? = some fn) (hb : fn.body = some c) (hn : fn.name ≠ "runtime.NumGoroutine") (hl : args.length ≤ fn.ntmps) (x : XW P K (.code fn.ntmps c (argE 0 args .lf) h) (CallK P fn.results.toList Q)) : XW P K (.call f args h) Q :=
  .call hf hb hn hl x fun e env' h' q => by
    cases e with
    | nrm => exact ⟨.inl rfl, q⟩
    | ret => exact ⟨.inr rfl, q⟩
    | ext i => exact q.elim
/-- a region in the text's order -/
theorem XW.litK {n id : Nat} {A : List Oper} {env : Env} {h : Hp} {Q : Out → Prop} (hd : dstOk n A = true) (x : XW P K (.ops n A false (List.range A.length) [] env h) Q) : XW P K (.code n (.region id A.toArray false) env h) Q := .region hd (by simp) x
theorem XW.retK {n : Nat} {rs : List ResultVar} {env : Env} {h : Hp} {Q : Out → Prop} {vs : List Val} (hr : resV P env h rs = some vs) (q : Q (.call (oneV vs) h)) : XW P K (.code n .ret env h) (CallK P rs Q) := .ret ⟨vs, hr, q⟩
theorem XW.endK {n : Nat} {A : List Oper} {dr : Bool} {pd : List Pend} {b : Code} {env : Env} {h : Hp} {Q : Out → Prop} (x : XW P K (.code n b env h) Q) : XW P K (.ops n A dr [] pd env h) (ThenK P K n b Q) := .onil x
/-- a pure operation -/
theorem XW.oneK {n : Nat} {A : List Oper} {dr : Bool} {i : Nat} {L : List Nat} {pd : List Pend} {env : Env} {h : Hp} {Q : Out → Prop} {v : Val} (hi : Nat.blt i A.length = true) (hw : wantO A env (opAt A i) = some true) (ho : op1 P env h (opAt A i).op = some (v, h)) (hk : kindOf P (opAt A i).op = .pure) {d : Tmp} (hd : (opAt A i).dst = some d)
    (x : XW P K (.ops n A dr L pd (env.set d v) h) Q) : XW P K (.ops n A dr (i :: L) pd env h) Q := by
  refine .oone (by simpa using hi) hw ho (fun e => by rw [hk] at e; cases e) ?_
  unfold pdPut
  rw [if_neg (fun e => by rw [hk] at e; cases e), hd]
  exact x
theorem XW.condT {n : Nat} {x : Operand} {a b : Code} {env : Env} {h : Hp} {Q : Out → Prop} (hx : evO env x = some (.b true)) (q : XW P K (.code n a env h) Q) : XW P K (.code n (.cond x a b) env h) Q := .cond (t := true) hx q
theorem XW.condF {n : Nat} {x : Operand} {a b : Code} {env : Env} {h : Hp} {Q : Out → Prop} (hx : evO env x = some (.b false)) (q : XW P K (.code n b env h) Q) : XW P K (.code n (.cond x a b) env h) Q := .cond (t := false) hx q
theorem XW.condS {n : Nat} {x : Operand} {a b : Code} {env : Env} {h : Hp} {Q : Out → Prop} {t : Bool} (hx : evO env x = some (.b t)) (q1 : t = true → XW P K (.code n a env h) Q) (q2 : t = false → XW P K (.code n b env h) Q) : XW P K (.code n (.cond x a b) env h) Q := by
  cases t
  · exact .condF hx (q2 rfl)
  · exact .condT hx (q1 rfl)
theorem XW.skipK {n : Nat} {b : Code} {env : Env} {h : Hp} {Q : Out → Prop} (x : XW P K (.code n b env h) Q) : XW P K (.code n .skip env h) (ThenK P K n b Q) := .skip x
theorem XW.retT {n : Nat} {b : Code} {env : Env} {h : Hp} {Q : Out → Prop} (x : XW P K (.code n .ret env h) Q) : XW P K (.code n .ret env h) (ThenK P K n b Q) := by
  cases x with
  | ret q => exact .ret q
/-- a call in a region in the text's order -/
theorem XW.callO {n : Nat} {A : List Oper} {i : Nat} {L : List Nat} {pd : List Pend} {env : Env} {h : Hp} {M Q : Out → Prop} {f : FuncId} {args : List Val} (hi : Nat.blt i A.length = true) (hw : wantO A env (opAt A i) = some true) (ht : tgt env (opAt A i).op = some (f, args)) (hc : XW P K (.call f args h) M) {d : Tmp} (hd : (opAt A i).dst = some d)
    (x : ∀ v h', M (.call v h') → XW P K (.ops n A false L pd (env.set d v) h') Q) : XW P K (.ops n A false (i :: L) pd env h) Q :=
  .ocall (by simpa using hi) hw ht hc (fun v h' _ e => by cases e) (by rw [hd]; exact x)
theorem XW.callV {n : Nat} {A : List Oper} {i : Nat} {L : List Nat} {pd : List Pend} {env : Env} {h h' : Hp} {v : Val} {Q : Out → Prop} {f : FuncId} {args : List Val} (hi : Nat.blt i A.length = true) (hw : wantO A env (opAt A i) = some true) (ht : tgt env (opAt A i).op = some (f, args)) (hc : XW P K (.call f args h) (· = .call v h')) {d : Tmp} (hd : (opAt A i).dst = some d)
    (x : XW P K (.ops n A false L pd (env.set d v) h') Q) : XW P K (.ops n A false (i :: L) pd env h) Q :=
  .callO hi hw ht hc hd fun v2 h2 e => by obtain ⟨rfl, rfl⟩ := Out.call.inj e; exact x
end
end Go.V
namespace Go.V
set_option linter.unusedVariables false
section
variable {P : Program} {K : Tb}
theorem XW.anyK {n : Nat} {A : List Oper} {i : Nat} {L : List Nat} {pd : List Pend} {env : Env} {h h' : Hp} {Q : Out → Prop} {v : Val} (hi : Nat.blt i A.length = true) (hw : wantO A env (opAt A i) = some true) (ho : op1 P env h (opAt A i).op = some (v, h')) {d : Tmp} (hd : (opAt A i).dst = some d)
    (x : ∀ pd, XW P K (.ops n A false L pd (env.set d v) h') Q) : XW P K (.ops n A false (i :: L) pd env h) Q :=
  .oone (by simpa using hi) hw ho (fun _ e => by cases e) (by rw [hd]; exact x _)
theorem XW.anyN {n : Nat} {A : List Oper} {i : Nat} {L : List Nat} {pd : List Pend} {env : Env} {h h' : Hp} {Q : Out → Prop} {v : Val} (hi : Nat.blt i A.length = true) (hw : wantO A env (opAt A i) = some true) (ho : op1 P env h (opAt A i).op = some (v, h')) (hd : (opAt A i).dst = none)
    (x : ∀ pd, XW P K (.ops n A false L pd env h') Q) : XW P K (.ops n A false (i :: L) pd env h) Q :=
  .oone (by simpa using hi) hw ho (fun _ e => by cases e) (by rw [hd]; exact x _)
/-- a region that draws its order, in the order L -/
theorem XW.drawK {n id : Nat} {A : List Oper} {L : List Nat} {env : Env} {h : Hp} {Q : Out → Prop} (hd : dstOk n A = true) (hf : P.follows .mixedOrders = true) (hL : okL P A L = true) (x : XW P K (.ops n A true L [] env h) Q) : XW P K (.code n (.region id A.toArray true) env h) Q := .region hd (by simp only [if_true]; exact ⟨hf, hL⟩) x
/-- what reads alone (in a region without effects behind it) -/
theorem XW.readK {n : Nat} {A : List Oper} {dr : Bool} {i : Nat} {L : List Nat} {pd : List Pend} {env : Env} {h : Hp} {Q : Out → Prop} {v : Val} (hi : Nat.blt i A.length = true) (hw : wantO A env (opAt A i) = some true) (ho : op1 P env h (opAt A i).op = some (v, h)) (hk : kindOf P (opAt A i).op ≠ .eff) {d : Tmp} (hd : (opAt A i).dst = some d)
    (x : ∀ pd, XW P K (.ops n A dr L pd (env.set d v) h) Q) : XW P K (.ops n A dr (i :: L) pd env h) Q :=
  .oone (by simpa using hi) hw ho (fun e => absurd e hk) (by rw [hd]; exact x _)
/-- a round: on with the invariant at less, or out -/
def RoundK (I : Nat → Env → Hp → Prop) (k : Nat) (Q : Out → Prop) : Out → Prop
  | .code .nrm env h => ∃ j, j < k ∧ I j env h
  | o => Q o
theorem XW.loopK {n : Nat} {a : Code} {Q : Out → Prop} (I : Nat → Env → Hp → Prop) (step : ∀ k env h, I k env h → XW P K (.code n a env h) (RoundK I k Q)) : ∀ (k : Nat) (env : Env) (h : Hp), I k env h → XW P K (.code n (.loop a) env h) Q := by
  intro k
  induction k using Nat.strongRecOn with
  | _ k ih =>
    intro env h hI
    refine .loop (step k env h hI) (fun env' h' q => ?_) (fun e env' h' ne q => ?_)
    · obtain ⟨j, hj, hI'⟩ := q
      exact ih j hj env' h' hI'
    · cases e with
      | nrm => exact absurd rfl ne
      | ext i => exact q
      | ret => exact q
theorem XW.retR {n : Nat} {I : Nat → Env → Hp → Prop} {k : Nat} {env : Env} {h : Hp} {Q : Out → Prop} (x : XW P K (.code n .ret env h) Q) : XW P K (.code n .ret env h) (RoundK I k Q) := by
  cases x with
  | ret q => exact .ret q
theorem XW.retB {n id : Nat} {env : Env} {h : Hp} {Q : Out → Prop} (x : XW P K (.code n .ret env h) Q) : XW P K (.code n .ret env h) (BlockK id Q) := by
  cases x with
  | ret q => exact .ret q
theorem rd_part {h : Hp} {b o z off n : Nat} {cs : List Val} (hr : rd h b o z = some cs) (hn : off + n ≤ z) : rd h b (o + off) n = some ((cs.drop off).take n) := by
  have key : ∀ c : List Val, (if o + z ≤ c.length then some ((c.drop o).take z) else none) = some cs → (if o + off + n ≤ c.length then some ((c.drop (o + off)).take n) else none) = some ((cs.drop off).take n) := fun c hq => by
    split at hq
    · obtain rfl := Option.some.inj hq
      rw [if_pos (by omega), List.drop_take, List.drop_drop, List.take_take, Nat.min_eq_left (by omega)]
    · cases hq
  unfold rd at hr ⊢
  split at hr
  · exact key _ hr
  · exact key _ hr
  · cases hr
theorem idxA_ok {t e : TypeId} {z b o len i : Nat} {c : Option Nat} {k : IntKind} (ht : P.underlying t = some (.slice e)) (hz : sz P e = some z) (hi : i < len) : idxA P t (.sl (some (b, o)) len c) (.i k i) = some (.p (some (b, o + i * z))) := by
  unfold idxA natI
  simp only
  rw [if_pos (by omega)]
  simp [ht, hz, hi]
theorem ldV_one {h : Hp} {t : TypeId} {b o : Nat} {v : Val} (ht : aggT P t = some false) (hr : rd h b o 1 = some [v]) : ldV P h t (.p (some (b, o))) = some v := by
  simp [ldV, ht, hr]
theorem ldV_agg {h : Hp} {t : TypeId} {b o n : Nat} {cs : List Val} (ht : aggT P t = some true) (hz : sz P t = some n) (hr : rd h b o n = some cs) : ldV P h t (.p (some (b, o))) = some (.agg cs) := by
  simp [ldV, ht, hz, hr]
theorem lenB_sl {α : Type} {t : Tr α} {F : Frz} {u : Val} {xs : List α} {h : Hp} {T e : TypeId} {ts : List TypeId} (hs : SlF t F u xs) (ht : P.underlying T = some (.slice e)) : lenB P h (T :: ts) u = some (.i .i64 xs.length) := by
  obtain ⟨css, h1, h2⟩ := hs
  rcases h2 with ⟨rfl, rfl⟩ | ⟨a, c, rfl, _⟩
  · have : xs.length = 0 := by rw [← h1.1]; rfl
    simp [lenB, ht, this]
  · rw [← h1.1]; simp [lenB, ht]
theorem op1_len {α : Type} {t : Tr α} {F : Frz} {env : Env} {h : Hp} {x : Operand} {u : Val} {xs : List α} {T e : TypeId} (hx : evO env x = some u) (hs : SlF t F u xs) (ht : P.underlying T = some (.slice e)) : op1 P env h (.call { callee := .builtin .len, args := #[x], argTypes := #[T] }) = some (.i .i64 xs.length, h) := by
  simp [op1, evL, hx, bltV, lenB_sl hs ht]
end
end Go.V
namespace Go.V
set_option linter.unusedVariables false
def Le {α : Type} (o o' : Option α) : Prop := ∀ a, o = some a → o' = some a
theorem Le.refl {α : Type} (o : Option α) : Le o o := fun _ h => h
theorem Le.bind {α β : Type} {o o' : Option α} {f g : α → Option β} (h : Le o o') (k : ∀ a, Le (f a) (g a)) : Le (o.bind f) (o'.bind g) := fun b e => by
  rw [Option.bind_eq_some_iff] at e ⊢
  obtain ⟨a, e1, e2⟩ := e
  exact ⟨a, h a e1, k a b e2⟩
theorem Le.map {α β : Type} {o o' : Option α} {f : α → β} (h : Le o o') : Le (o.map f) (o'.map f) := fun b e => by
  obtain ⟨a, e1, e2⟩ := Option.map_eq_some_iff.1 e
  exact Option.map_eq_some_iff.2 ⟨a, h a e1, e2⟩
theorem Le.mapM {α β : Type} {f g : α → Option β} (h : ∀ a, Le (f a) (g a)) : ∀ l : List α, Le (l.mapM f) (l.mapM g)
  | [] => Le.refl _
  | a :: l => by
    rw [List.mapM_cons, List.mapM_cons]
    exact Le.bind (h a) fun _ => Le.bind (Le.mapM h l) fun _ => Le.refl _
/-- the slots of one are slots of the other -/
def EnvLe (E E' : Env) : Prop := ∀ t, Le (E.get t) (E'.get t)
section
variable {E E' : Env}
theorem EnvLe.evO (l : EnvLe E E') (x : Operand) : Le (evO E x) (evO E' x) := by
  cases x with
  | tmp t => exact l t
  | const v => exact Le.refl _
  | global g => exact Le.refl _
  | func f => exact Le.refl _
theorem EnvLe.evL (l : EnvLe E E') (xs : List Operand) : Le (evL E xs) (evL E' xs) := Le.mapM l.evO xs
theorem EnvLe.evP (l : EnvLe E E') (xs : List (Nat × Operand)) : Le (evP E xs) (evP E' xs) := Le.mapM (f := fun q : Nat × Operand => (Go.V.evO E q.2).map fun v => (q.1, v)) (g := fun q => (Go.V.evO E' q.2).map fun v => (q.1, v)) (fun q => (l.evO q.2).map) xs
theorem EnvLe.evQ (l : EnvLe E E') (x : Option Operand) : Le (evQ E x) (evQ E' x) := by
  cases x with
  | none => exact Le.refl _
  | some x => exact (l.evO x).map
theorem EnvLe.set (l : EnvLe E E') (t : Tmp) (v : Val) : EnvLe (E.set t v) (E'.set t v) := fun k a e => by
  rw [T.get_set] at e ⊢
  split at e
  · rename_i q; rw [if_pos q]; exact e
  · rename_i q; rw [if_neg q]; exact l k a e
theorem EnvLe.putO (l : EnvLe E E') (t : Option Tmp) (v : Val) : EnvLe (putO E t v) (putO E' t v) := by
  cases t with
  | none => exact l
  | some t => exact l.set t v
theorem op1_le {P : Program} (l : EnvLe E E') (h : Hp) (op : Op) : Le (op1 P E h op) (op1 P E' h op) := by
  unfold op1
  split <;> repeat' first | exact Le.refl _ | exact l.evO _ | exact l.evL _ | exact l.evP _ | exact l.evQ _ | refine Le.bind ?_ fun _ => ?_ | refine Le.map ?_ | split
theorem tgt_le (l : EnvLe E E') (op : Op) : Le (tgt E op) (tgt E' op) := by
  unfold tgt
  split <;> repeat' first | exact Le.refl _ | exact l.evO _ | exact l.evL _ | refine Le.bind ?_ fun _ => ?_ | refine Le.map ?_ | split
theorem wantO_le (l : EnvLe E E') (A : List Oper) (o : Oper) : Le (wantO A E o) (wantO A E' o) := fun b e => by
  unfold wantO at e ⊢
  split at e
  · exact e
  · rename_i j want hg
    cases hA : (A[j]?).bind (·.dst) with
    | none => rw [hA] at e; simp at e
    | some d =>
      rw [hA] at e
      simp only [Option.bind_some] at e ⊢
      cases hq : E.get d with
      | none => rw [hq] at e; simp at e
      | some x => rw [hq] at e; rw [l d x hq]; exact e
end
end Go.V
namespace Go.V
set_option linter.unusedVariables false
def WkQ (Q : Out → Prop) : Out → Prop
  | .code e E' h => ∃ E, EnvLe E E' ∧ Q (.code e E h)
  | .call v h => Q (.call v h)
inductive PdLe : List Pend → List Pend → Prop where
  | nil : PdLe [] []
  | cons {i op E E' v r r'} : EnvLe E E' → PdLe r r' → PdLe (⟨i, op, E, v⟩ :: r) (⟨i, op, E', v⟩ :: r')
theorem PdLe.mem {r r' : List Pend} (h : PdLe r r') : ∀ q', q' ∈ r' → ∃ q, q ∈ r ∧ q.idx = q'.idx ∧ q.op = q'.op ∧ q.v = q'.v ∧ EnvLe q.env q'.env := by
  induction h with
  | nil => intro q' h; cases h
  | cons l _ ih =>
    intro q' hq
    rcases List.mem_cons.1 hq with rfl | hq
    · exact ⟨_, List.mem_cons_self, rfl, rfl, rfl, l⟩
    · obtain ⟨q, h1, h2⟩ := ih q' hq
      exact ⟨q, List.mem_cons_of_mem _ h1, h2⟩
section
variable {P : Program} {K : Tb}
theorem Stays.le {A : List Oper} {dr : Bool} {i : Nat} {pd pd' : List Pend} {h : Hp} (s : Stays P A dr i pd h) (l : PdLe pd pd') : Stays P A dr i pd' h := fun hd q' hq hb => by
  obtain ⟨q, h1, h2, h3, h4, h5⟩ := l.mem q' hq
  have := s hd q h1 (by rw [h2]; exact hb)
  rw [h3, h4] at this
  exact op1_le h5 h _ _ this
theorem PdLe.put {A : List Oper} {i : Nat} {E E' : Env} {v : Val} {pd pd' : List Pend} (l : EnvLe E E') (p : PdLe pd pd') : PdLe (pdPut P A i E v pd) (pdPut P A i E' v pd') := by
  unfold pdPut
  split
  · exact .cons l p
  · exact p
def MotW (P : Program) (K : Tb) : Job → (Out → Prop) → Prop
  | .code n c E h, Q => ∀ E', EnvLe E E' → XW P K (.code n c E' h) (WkQ Q)
  | .ops n A dr L pd E h, Q => ∀ E' pd', EnvLe E E' → PdLe pd pd' → XW P K (.ops n A dr L pd' E' h) (WkQ Q)
  | .call _ _ _, _ => True
theorem XW.weaken {j : Job} {Q : Out → Prop} (x : XW P K j Q) : MotW P K j Q := by
  induction x with
  | skip q => exact fun E' l => .skip ⟨_, l, q⟩
  | label q => exact fun E' l => .label ⟨_, l, q⟩
  | exit q => exact fun E' l => .exit ⟨_, l, q⟩
  | ret q => exact fun E' l => .ret ⟨_, l, q⟩
  | seq _ _ hno ih1 ih2 => exact fun E' l => .seq (ih1 E' l) (fun E2 h2 ⟨E1, l1, m⟩ => ih2 E1 h2 m E2 l1) (fun e E2 h2 ne ⟨E1, l1, m⟩ => ⟨E1, l1, hno e E1 h2 ne m⟩)
  | cond hx _ ih => exact fun E' l => .cond (l.evO _ _ hx) (ih E' l)
  | block _ hq ih => exact fun E' l => .block (ih E' l) (fun e E2 h2 ⟨E1, l1, m⟩ => ⟨E1, l1, hq e E1 h2 m⟩)
  | loop _ _ hno ih1 ih2 => exact fun E' l => .loop (ih1 E' l) (fun E2 h2 ⟨E1, l1, m⟩ => ih2 E1 h2 m E2 l1) (fun e E2 h2 ne ⟨E1, l1, m⟩ => ⟨E1, l1, hno e E1 h2 ne m⟩)
  | region hd hL _ ih => exact fun E' l => .region hd hL (ih E' [] l .nil)
  | onil q => exact fun E' pd' l p => .onil ⟨_, l, q⟩
  | onot hi hw _ ih => exact fun E' pd' l p => .onot hi (wantO_le l _ _ _ hw) (ih _ pd' (l.putO _ _) p)
  | oone hi hw hv hst _ ih => exact fun E' pd' l p => .oone hi (wantO_le l _ _ _ hw) (op1_le l _ _ _ hv) (fun hk => (hst hk).le p) (ih _ _ (l.putO _ _) (p.put l))
  | ocall hi hw ht hc hst _ _ ih2 => exact fun E' pd' l p => .ocall hi (wantO_le l _ _ _ hw) (tgt_le l _ _ ht) hc (fun v h' m => (hst v h' m).le p) (fun v h' m => ih2 v h' m _ pd' (l.putO _ _) p)
  | call => trivial
  | known => trivial
/-- a piece of code goes from fewer slots -/
theorem XW.from {n : Nat} {c : Code} {E E' : Env} {h : Hp} {Q : Out → Prop} (l : EnvLe E E') (x : XW P K (.code n c E h) fun o => match o with
    | .code e E1 h1 => ∀ E2, EnvLe E1 E2 → Q (.code e E2 h1)
    | .call v h1 => Q (.call v h1)) : XW P K (.code n c E' h) Q :=
  (x.weaken E' l).mono fun o q => by
    cases o with
    | code e E2 h2 => obtain ⟨E1, l1, m⟩ := q; exact m E2 l1
    | call v h2 => exact q
end
end Go.V
