/- What holds in one order, holds in the model: the theorem. -/
import Derived.Test.YtddopjjmpadnoaaGreatH2
import Derived.RangeFuncNested
import Derived.Lib.Bytealg
import Derived.Laws.Externs
namespace Go.V
set_option linter.unusedVariables false
set_option linter.unusedSectionVars false
set_option linter.unusedSimpArgs false
variable [Sy]
section
variable {P : Program} {K : Tb}
inductive LoopR (F : Fence) (P : Program) (c : Code) (Q : Exit → Act → World → Prop) : Act → World → Prop where
  | mk {a : Act} {w : World} (M : Exit → Act → World → Prop) : c.wpIn F 0 P M a w → (∀ a' w', M .normal a' w' → LoopR F P c Q a' w') → (∀ e a' w', e ≠ .normal → M e a' w' → Q e a' w') → LoopR F P c Q a w
theorem LoopR.wp {F : Fence} {c : Code} {Q : Exit → Act → World → Prop} {a : Act} {w : World} (h : LoopR F P c Q a w) : (Code.loop c).wpIn F 0 P Q a w := by
  intro b k cs hro hb hr
  have key : ∃ e a' w', Q e a' w' ∧ ArrivesIn (Machine.fenced P F) P (lone (b.atR a (.code c :: .inLoop c :: k)) cs w) b k cs e a' w' := by
    induction h with
    | mk M hc hn hq ih =>
      obtain ⟨e, a₁, w₁, hm, harr⟩ := hc b (.inLoop c :: k) cs hro hb hr
      cases e with
      | normal =>
        obtain ⟨e₂, a₂, w₂, hq₂, harr₂⟩ := ih a₁ w₁ hm
        exact ⟨e₂, a₂, w₂, hq₂, .of_steps (StepsIn.trans harr (.one (fenced_calm hb hr rfl) stepR_inLoop)) harr₂⟩
      | exit id => exact ⟨_, a₁, w₁, hq _ _ _ (by simp) hm, .pass (x := .inLoop c) rfl (fun _ _ => .inl (by simp)) harr⟩
      | goto l => exact ⟨_, a₁, w₁, hq _ _ _ (by simp) hm, .pass (x := .inLoop c) rfl (fun _ _ => .inl (by simp)) harr⟩
      | ret => exact ⟨_, a₁, w₁, hq _ _ _ (by simp) hm, .pass (x := .inLoop c) rfl (fun _ _ => .inl (by simp)) harr⟩
      | panic ch => exact ⟨_, a₁, w₁, hq _ _ _ (by simp) hm, .pass (x := .inLoop c) rfl (fun _ _ => .inl (by simp)) harr⟩
      | outgrown => exact ⟨_, a₁, w₁, hq _ _ _ (by simp) hm, .pass (x := .inLoop c) rfl (fun _ _ => .inl (by simp)) harr⟩
  obtain ⟨e, a', w', hq, harr⟩ := key
  exact ⟨e, a', w', hq, .of_steps (.one (fenced_calm hb hr rfl) stepR_loop) harr⟩
def wpL (F : Fence) (P : Program) : Code → (Exit → Act → World → Prop) → Act → World → Prop
  | .loop c, Q, a, w => LoopR F P c Q a w
  | c, Q, a, w => c.wpIn F 0 P Q a w
theorem wpL.wp {F : Fence} {c : Code} {Q : Exit → Act → World → Prop} {a : Act} {w : World} (h : wpL F P c Q a w) : c.wpIn F 0 P Q a w := by
  cases c <;> first | exact h | exact LoopR.wp h
def Mot (P : Program) : Job → (Out → Prop) → Prop
  | .code n c env h, Q => ∀ F, FreeF F → ∀ ρ w a ρs hs ws, St0 ρ env h n a w → Ext ρs hs ws ρ h w → Marks F ws.heap.size ρ h w a.defers → wpL F P c (PostC F Q ρs hs ws n) a w
  | .ops n A dr L pd env h, Q => dstOk n A = true → ∀ F, FreeF F →
      (dr = false → ∀ ρ w a ρs hs ws ds, a.defers = ds → St0 ρ env h n a w → Ext ρs hs ws ρ h w → wpListIn F 0 P A.toArray (PostR Q ρs hs ws n ds) (L.map (opAt A)) a w) ∧
      (dr = true → Glob A n → ∀ dn listed a w ρ ρs hs ws e0 V EV BL ds, DI P A n dn L pd env h listed a w ρ ρs hs ws e0 V EV BL ds → ∀ fuel, unl listed A.length ≤ fuel → wpAnyIn F 0 P .any A.toArray (PostR Q ρs hs ws n ds) fuel listed a w)
  | .call f args h, Q => ∀ ρ w args', Rel ρ h w → VRL ρ args args' → CallR P f args'.toArray w fun v' w' => ∃ v h' ρ', Q (.call v h') ∧ VR ρ' v v' ∧ Rel ρ' h' w' ∧ Ext ρ h w ρ' h' w'
theorem PostC.turn {F : Fence} {Q : Out → Prop} {ρs hs ws n a w ρ h env} {e0 : Ex} (s : St0 ρ env h n a w) (x : Ext ρs hs ws ρ h w) (m : Marks F ws.heap.size ρ h w a.defers) (q : Q (.code e0 env h)) : PostC F Q ρs hs ws n (exitOf e0) a w :=
  ⟨⟨e0, env, h, ρ, rfl, q, s.rel, s.env, x, m⟩, s.size⟩
theorem PostR.turn {Q : Out → Prop} {ρs hs ws n a w ρ h env ds} {e0 : Ex} (hds : a.defers = ds) (s : St0 ρ env h n a w) (x : Ext ρs hs ws ρ h w) (q : Q (.code e0 env h)) : PostR Q ρs hs ws n ds (exitOf e0) a w :=
  ⟨⟨e0, env, h, ρ, rfl, q, s.rel, s.env, x⟩, hds, s.size⟩
theorem put_defers {a : Act} {d : Option Tmp} {u : Value} {ds : List Deferred} (h : a.defers = ds) : (a.put d u).defers = ds := by cases d <;> exact h
theorem PostR.code {F : Fence} {Q : Out → Prop} {ρs hs ws n ρ h w ds e a' w'} (p : PostR Q ρ h w n ds e a' w') (x : Ext ρs hs ws ρ h w) (m : Marks F ws.heap.size ρ h w ds) : PostC F Q ρs hs ws n e a' w' := by
  obtain ⟨⟨e0, env, h', ρ', h1, h2, h3, h4, h5⟩, h6, h7⟩ := p
  exact ⟨⟨e0, env, h', ρ', h1, h2, h3, h4, x.trans h5, by rw [h6]; exact m.turn h5⟩, h7⟩
theorem exitOf_normal {e : Ex} (h : Exit.normal = exitOf e) : e = .nrm := by cases e <;> simp [exitOf] at h ⊢
theorem exitOf_inj {e e' : Ex} (h : exitOf e = exitOf e') : e = e' := by cases e <;> cases e' <;> simp [exitOf] at h ⊢; exact h
theorem PostC.st {F : Fence} {Q : Out → Prop} {ρs hs ws n a w} {e : Exit} (p : PostC F Q ρs hs ws n e a w) : ∃ e0 env h ρ, e = exitOf e0 ∧ Q (.code e0 env h) ∧ St0 ρ env h n a w ∧ Ext ρs hs ws ρ h w ∧ Marks F ws.heap.size ρ h w a.defers := by
  obtain ⟨⟨e0, env, h, ρ, h1, h2, h3, h4, h5, h6⟩, h7⟩ := p
  exact ⟨e0, env, h, ρ, h1, h2, ⟨h3, h4, h7⟩, h5, h6⟩
theorem wp_op1 {F : Fence} (hF : FreeF F) {o : Oper} {env : Env} {h h' : Hp} {n : Nat} {a : Act} {w : World} {ρ : Ren} {v : Val} {Kk : Act → World → Prop} {Q : Exit → Act → World → Prop} (r : Rel ρ h w) {E : Env} (hE : EnvR ρ E a) (hv : op1 P E h o.op = some (v, h'))
    (hK : ∀ ρ' w' u, VR ρ' v u → Rel ρ' h' w' → Ext ρ h w ρ' h' w' → Kk (a.put o.dst u) w') : o.wpIn F 0 P a w Kk Q := by
  obtain ⟨ρ', w', r', u, e1, e2, e3, e4, e5⟩ := sim_op1 (a := a) r hE hv
  unfold Oper.wpIn
  rw [Oper.semAt_eq _ _ _ (op1_noDefer hv), e1]
  exact ⟨fun f _ => hF.fn f, putO_same _ _ e2 (hK ρ' w' u e3 e4 e5)⟩
theorem wp_call {F : Fence} (hF : FreeF F) {o : Oper} {f : FuncId} {vs : List Val} {E : Env} {h : Hp} {n : Nat} {a : Act} {w : World} {ρ : Ren} {Q0 : Out → Prop} {Kk : Act → World → Prop} {Q : Exit → Act → World → Prop} (s : St0 ρ E h n a w) (ht : tgt E o.op = some (f, vs)) (hc : Mot P (.call f vs h) Q0)
    (hK : ∀ v h' ρ' w' u, Q0 (.call v h') → VR ρ' v u → Rel ρ' h' w' → Ext ρ h w ρ' h' w' → Kk (a.put o.dst u) w') : o.wpIn F 0 P a w Kk Q := by
  obtain ⟨args', h1, h2⟩ := sim_tgt s ht
  have hnd : ∀ c, o.op ≠ .defer c := fun c e => by rw [e] at ht; simp [tgt] at ht
  unfold Oper.wpIn
  rw [Oper.semAt_eq _ _ _ hnd, h2]
  refine ⟨fun f _ => hF.fn f, ?_⟩
  rcases hc ρ w args' s.rel h1 with ⟨e1, e2⟩ | ⟨v', w', e1, v, h', ρ', e2, e3, e4, e5⟩
  · rw [e1]
    simp only [Oper.uponIn]
    refine ⟨fun hd => (by rw [hF.depth] at hd; cases hd), CallsIn.mono (hF.calls e2) fun e w' q => ?_⟩
    cases e with
    | returned v' =>
      obtain ⟨v, h', ρ', q1, q2, q3, q4⟩ := q
      exact hK v h' ρ' w' v' q1 q2 q3 q4
    | panicked c => exact q.elim
    | outgrown => exact q.elim
  · rw [e1]
    exact hK v h' ρ' w' v' e2 e3 e4 e5
theorem tgt_congr {A : List Oper} {o : Oper} {E : Env} : tgt (restr E (looks A o)) o.op = tgt E o.op := by
  have he : ∀ t, t ∈ tmpsOf o.op → (restr E (looks A o)).get t = E.get t := fun t ht => by rw [restr_get, if_pos (tmps_looks ht)]
  unfold tgt
  split
  · rename_i x args ats ho
    have hm : ∀ y : Operand, y ∈ (Call.operands ⟨.value x, args, ats⟩).toList → ∀ t, y = .tmp t → (restr E (looks A o)).get t = E.get t := fun y hy t e => he t (mem_tmps (by rw [ho, ← e]; exact hy))
    rw [evO_congr (env2 := E) (hm x (by simp [Call.operands])), evL_congr (env2 := E) fun t ht => hm _ (by simp [Call.operands]; exact .inr (by simpa using ht)) t rfl]
  · rfl
theorem range_opAt (A : List Oper) : (List.range A.length).map (opAt A) = A := by
  apply List.ext_getElem?
  intro i
  simp only [List.getElem?_map]
  by_cases h : i < A.length
  · rw [List.getElem?_range h, opAt_get h]; rfl
  · rw [List.getElem?_eq_none (by simpa using h), List.getElem?_eq_none (by simpa using h)]; rfl
theorem pdPut_eff {i : Nat} {A : List Oper} {env : Env} {v : Val} {pd : List Pend} (h : kindOf P (opAt A i).op = .eff) : pdPut P A i env v pd = pd := by
  unfold pdPut; rw [if_neg]; rw [h]; intro e; cases e
theorem tgt_eff {env : Env} {op : Op} {f : FuncId} {vs : List Val} (h : tgt env op = some (f, vs)) : kindOf P op = .eff := by
  unfold tgt at h
  split at h
  · rfl
  · cases h
theorem Rel.shut {ρ h w D} (r : Rel ρ h w) (f : Far ρ h w D) {x : Obj} (hD : w.heap[D]? = some x) (hx : ∀ c e fz, x ≠ .cells c e fz) (o : Obj) : Rel ρ h (w.putObj D o) := by
  refine ⟨fun b i e => by rw [World.putObj_size]; exact r.dom b i e, fun b i B e g => ?_, r.inj, r.wf⟩
  have hB := r.blk b i B e g
  by_cases hg : i.g = D
  · cases B with
    | dead => trivial
    | cells z c => exact absurd hg (f.2 b i e ⟨_, g, rfl⟩)
    | map ck es => exact absurd hg (f.2 b i e ⟨_, g, rfl⟩)
    | ro c =>
      obtain ⟨h4, h6⟩ := hB
      refine ⟨h4, fun j u hj => ?_⟩
      obtain ⟨u', q, _⟩ := h6 j u hj
      simp only [World.cell?, hg, hD] at q
      cases x <;> first | exact absurd rfl (hx _ _ _) | simp at q
  · exact hB.congr (Ren.le.refl _) (World.putObj_heap_other hg)
theorem Ext.shut {ρs hs ws ρ h w D} (x : Ext ρs hs ws ρ h w) (hD : ws.heap.size ≤ D) (o : Obj) : Ext ρs hs ws ρ h (w.putObj D o) :=
  ⟨x.le, x.next, x.other, by rw [World.putObj_size]; exact x.size, fun g hg hn => by
    obtain ⟨p, q⟩ := x.frame g hg hn
    exact ⟨(World.putObj_heap_other (by omega)).trans p, q⟩, x.os, x.tape, x.output, x.drawn⟩
theorem leaves_marks {F : Fence} {fn : Func} {tmps : Array Value} {R : Ending → World → Prop} {ρs hs ws ρ h} : ∀ (Ds : List Nat) (w : World), Rel ρ h w → Ext ρs hs ws ρ h w → Ds.Nodup → (∀ D ∈ Ds, ws.heap.size ≤ D ∧ Far ρ h w D ∧ w.heap[D]? = some (.deferred (some []))) →
    (∀ w', Rel ρ h w' → Ext ρs hs ws ρ h w' → LeavesIn F 0 P fn tmps R [] .returning w') → LeavesInM F 0 P fn tmps R (Ds.map markOf) .returning w := by
  intro Ds
  induction Ds with
  | nil => intro w r x _ _ hfin; exact hfin w r x
  | cons D Ds ih =>
    intro w r x hn hD hfin
    obtain ⟨q1, q2, q3⟩ := hD D (by simp)
    refine ⟨by simp, .inl ⟨D, w.putObj D (.deferred none), rfl, run_takeDeferred q3, ih _ (r.shut q2 q3 (by simp) _) (x.shut q1 _) (List.nodup_cons.1 hn).2 (fun D' hD' => ?_) hfin⟩⟩
    obtain ⟨p1, p2, p3⟩ := hD D' (by simp [hD'])
    have hne : D' ≠ D := fun e => (List.nodup_cons.1 hn).1 (e ▸ hD')
    exact ⟨p1, ⟨by rw [World.putObj_size]; exact p2.1, p2.2⟩, (World.putObj_heap_other hne).trans p3⟩
theorem region_in {n id : Nat} {A : List Oper} {dr : Bool} {L : List Nat} {env : Env} {h : Hp} {Q : Out → Prop} (hd : dstOk n A = true) (hL : if dr then P.follows .mixedOrders = true ∧ okL P A L = true else L = List.range A.length) (ih : Mot P (.ops n A dr L [] env h) Q) (F : Fence) (hF : FreeF F) {ρ w a} (s : St0 ρ env h n a w) :
    (Code.region id A.toArray dr).wpIn F 0 P (PostR Q ρ h w n a.defers) a w := by
  obtain ⟨ih1, ih2⟩ := ih hd F hF
  cases dr with
  | false =>
    simp only [Bool.false_eq_true, if_false] at hL
    refine wpIn_region_lit (Q := PostR Q ρ h w n a.defers) ?_
    have := ih1 rfl ρ w a ρ h w _ rfl s (Ext.refl _ _ _)
    rw [hL, range_opAt] at this
    exact this
  | true =>
    simp only [if_true] at hL
    obtain ⟨G, hord, hfull⟩ := okL_glob hd hL.2
    refine wpIn_region_any (Q := PostR Q ρ h w n a.defers) hL.1 ?_
    have hno : ∀ i, ¬ Dn (Array.replicate A.length false) i := fun i q => by
      unfold Dn at q
      rw [Array.getD_eq_getD_getElem?, Array.getElem?_replicate] at q
      split at q <;> simp at q
    have d : DI P A n [] L [] env h (Array.replicate A.length false) a w.drew ρ ρ h w env (fun _ => .no) (fun _ => .lf) (fun _ => 0) a.defers :=
      ⟨by simp, fun i hi => .inr (hfull i hi), hord, fun i hi => (by cases hi), fun i hi => absurd hi (hno i), fun i hi => absurd hi (hno i), fun i hi => (by cases hi), fun pre j post hq => (by simp at hq), s.rel.drew, rfl, s.size, Ext.drew ρ h w, fun i hi => (by cases hi), fun t _ => rfl, fun i hi => absurd hi (hno i), fun t v _ hv => s.env t v hv, fun i hi => (by cases hi), fun i hi => (by cases hi), fun i hi => (by cases hi), fun i j hi => (by cases hi)⟩
    have hul : ∀ m, unl (Array.replicate A.length false) m ≤ m := fun m => by
      induction m with
      | zero => exact Nat.le_refl _
      | succ m ih => simp only [unl]; split <;> omega
    have := ih2 rfl G _ _ _ _ _ _ _ _ _ _ _ _ _ d A.length (hul _)
    simpa using this
end
end Go.V
namespace Go.V
set_option linter.unusedVariables false
set_option linter.unusedSectionVars false
set_option linter.unusedSimpArgs false
variable [Sy]
section
variable {P : Program}
structure Zt (F : Fence) (B : Nat) (ρ0 : Ren) (h0 : Hp) (w0 : World) (l : Nat) (r : Loop) (ds : List Deferred) (ρ : Ren) (h : Hp) (w : World) : Prop where
  rel : Rel ρ h w
  ext : Ext ρ0 h0 w0 ρ h w
  new : w0.heap.size ≤ l
  far : Far ρ h w l
  lp : w.heap[l]? = some (.loop r)
  marks : Marks F B ρ h w ds
  apart : ∀ l0, F.round = some l0 → l0 ≠ l
section
variable {F : Fence} {B : Nat} {ρ0 ρ ρ' : Ren} {h0 h h' : Hp} {w0 w w' : World} {l : Nat} {r : Loop} {ds : List Deferred}
theorem Zt.turn (z : Zt F B ρ0 h0 w0 l r ds ρ h w) (q : Rel ρ' h' w') (e : Ext ρ h w ρ' h' w') : Zt F B ρ0 h0 w0 l r ds ρ' h' w' :=
  ⟨q, z.ext.trans e, z.new, (z.far.turn e).1, (z.far.turn e).2.trans z.lp, z.marks.turn e, z.apart⟩
theorem Zt.put (z : Zt F B ρ0 h0 w0 l r ds ρ h w) (r' : Loop) : Zt F B ρ0 h0 w0 l r' ds ρ h (w.putObj l (.loop r')) := by
  refine ⟨z.rel.shut z.far z.lp (by simp) _, z.ext.shut z.new _, z.new, ⟨by rw [World.putObj_size]; exact z.far.1, z.far.2⟩, World.putObj_heap_same z.far.1, ⟨?_, fun l0 e => ?_⟩, z.apart⟩
  · obtain ⟨Ds, q1, q2, q3⟩ := z.marks.marks
    refine ⟨Ds, q1, q2, fun D hD => ?_⟩
    obtain ⟨p1, p2, p3⟩ := q3 D hD
    have hne : D ≠ l := fun e => by rw [e, z.lp] at p3; cases p3
    exact ⟨p1, ⟨by rw [World.putObj_size]; exact p2.1, p2.2⟩, (World.putObj_heap_other hne).trans p3⟩
  · obtain ⟨p0, p1, r0, p2⟩ := z.marks.loop l0 e
    exact ⟨p0, ⟨by rw [World.putObj_size]; exact p1.1, p1.2⟩, r0, (World.putObj_heap_other (z.apart l0 e)).trans p2⟩
end
theorem gset (t : Env) (n k : Nat) (x : Val) : (t.set n x).get k = if k = n then some x else t.get k := T.get_set t n k x
structure CA (ρ : Ren) (E : Env) (a : Act) : Prop where
  env : EnvR ρ E a
  size : a.tmps.size = 31
  defers : a.defers = []
theorem CA.put {ρ ρ' E a d v u} (c : CA ρ E a) (hl : ρ.le ρ') (hd : d < 31) (hv : VR ρ' v u) : CA ρ' (E.set d v) (a.put (some d) u) := by
  refine ⟨fun t x hx => ?_, by simp [Act.put, c.size], c.defers⟩
  simp only [T.get_set] at hx
  simp only [Act.put, Array.getD_eq_getD_getElem?, Array.getElem?_setIfInBounds]
  split at hx
  · rename_i e; subst e
    obtain rfl := Option.some.inj hx
    rw [if_pos rfl, if_pos (by rw [c.size]; exact hd)]
    exact hv
  · rename_i e
    rw [if_neg (fun q => e q.symm)]
    have := (c.env t x hx).mono hl
    rwa [Array.getD_eq_getD_getElem?] at this
theorem CA.less {ρ E E' a} (c : CA ρ E a) (h : ∀ t v, E'.get t = some v → E.get t = some v) : CA ρ E' a := ⟨fun t v hv => c.env t v (h t v hv), c.size, c.defers⟩
section step
variable {F : Fence} {B : Nat} {ρ0 ρ : Ren} {h0 h : Hp} {w0 w : World} {l : Nat} {r : Loop} {ds : List Deferred} {E : Env} {a : Act}
theorem ch_step {o : Oper} {rest : List Oper} {A : Array Oper} {Q : Exit → Act → World → Prop} {d : Nat} {v : Val} (hg : o.guard = none) (hd : o.dst = some d) (hl : d < 31) (hv : op1 P E h o.op = some (v, h)) (z : Zt F B ρ0 h0 w0 l r ds ρ h w) (c : CA ρ E a)
    (k : ∀ ρ' w' a', Zt F B ρ0 h0 w0 l r ds ρ' h w' → CA ρ' (E.set d v) a' → wpListIn Fence.wide 0 P A Q rest a' w') : wpListIn Fence.wide 0 P A Q (o :: rest) a w := by
  unfold wpListIn
  have hw : Region.wanted o (yielded A a.tmps) = true := by simp [Region.wanted, hg]
  rw [if_pos hw]
  refine wp_op1 (n := 31) (env := E) wide_free z.rel c.env hv fun ρ' w' u q1 q2 q3 => ?_
  rw [hd]
  exact k ρ' w' _ (z.turn q2 q3) (c.put q3.le hl q1)
theorem wrap_small {x : Int} (h1 : 0 ≤ x) (h2 : x < 2 ^ 62) : IntKind.wrap .i64 x = x := by
  have e : x % (2 ^ 64 : Int) = x := Int.emod_eq_of_lt h1 (by omega)
  show (if (true && decide (x % (2 ^ 64 : Int) ≥ (2 ^ 63 : Int))) = true then x % (2 ^ 64 : Int) - (2 ^ 64 : Int) else x % (2 ^ 64 : Int)) = x
  rw [if_neg, e]
  rw [e]
  simp only [Bool.true_and, decide_eq_true_eq, ge_iff_le]
  omega
end step
theorem chE_get {l bs os bn on i t : Nat} {v : Val} (h : (chE l bs os bn on i).get t = some v) : t = 0 ∨ t = 1 ∨ t = 2 ∨ t = 4 := by
  unfold chE at h
  simp only [T.get_set] at h
  repeat' split at h
  all_goals first | omega | (simp [T.get] at h)
theorem ch_keep {E : Env} {l bs os bn on i d : Nat} {x : Val} (h : ∀ t v, (chE l bs os bn on i).get t = some v → E.get t = some v) (hd : d ≠ 0 ∧ d ≠ 1 ∧ d ≠ 2 ∧ d ≠ 4) : ∀ t v, (chE l bs os bn on i).get t = some v → (E.set d x).get t = some v := fun t v hv => by
  rw [T.get_set, if_neg]
  · exact h t v hv
  · have := chE_get hv; omega
section pieces
variable {F : Fence} {B : Nat} {ρ0 ρ : Ren} {h0 h : Hp} {w0 w : World} {l : Nat} {r : Loop} {ds : List Deferred} {E : Env} {a : Act} {fid : FuncId} {T ti tb ty : TypeId} {bs os bn on N L i : Nat} {sv : Val}
theorem ch_load {o : Nat} (ch : Chunk P fid T ti tb ty) (hE : E.get o = some (.p (some (bs, os)))) (h1 : rd h bs os 1 = some [sv]) : op1 P E h (.load T (.tmp o)) = some (sv, h) := by
  obtain ⟨e, he⟩ := ch.row
  simp [op1, evO, hE, ldV, aggT, he, h1]
theorem ch_loadN {o : Nat} (ch : Chunk P fid T ti tb ty) (hE : E.get o = some (.p (some (bn, on)))) (h1 : rd h bn on 1 = some [.i .i64 N]) : op1 P E h (.load ti (.tmp o)) = some (.i .i64 N, h) := by
  simp [op1, evO, hE, ldV, aggT, ch.int, h1]
theorem ch_len {o : Nat} (ch : Chunk P fid T ti tb ty) (hE : E.get o = some sv) (hl : lenR sv = some L) : op1 P E h (.call ⟨.builtin .len, #[.tmp o], #[T]⟩) = some (.i .i64 L, h) := by
  obtain ⟨e, he⟩ := ch.row
  unfold lenR at hl
  split at hl
  · obtain rfl := Option.some.inj hl
    simp [op1, evL, evO, hE, bltV, lenB, he]
  · obtain rfl := Option.some.inj hl
    simp [op1, evL, evO, hE, bltV, lenB, he]
  · cases hl
theorem ch_move {o : Nat} {v : Val} (hE : E.get o = some v) : op1 P E h (.move (.tmp o)) = some (v, h) := by simp [op1, evO, hE]
theorem ch_add {o o2 x y : Nat} (hE : E.get o = some (.i .i64 x)) (hE2 : E.get o2 = some (.i .i64 y)) (hx : x + y < 2 ^ 62) : op1 P E h (.binOp .add ti (.tmp o) (.tmp o2) ti) = some (.i .i64 (x + y : Nat), h) := by
  simp only [op1, evO, hE, hE2, Option.bind_some, binV, ibin, if_true, Option.map_some, wrap_small (x := (x : Int) + y) (by omega) (by omega)]
  simp
end pieces
abbrev recOf (fn : FuncId) (tmps : Array Value) (p : Tmp) (as bd : Code) (D : Nat) (st : LoopState) (pend : Option Code) : Loop := { state := st, pending := pend, fn, tmps, params := #[p], assign := as, body := bd, defers := D }
theorem run_yieldOp {o : Oper} {x y : Tmp} {ats : Array TypeId} {l : Nat} {r : Loop} {a : Act} {w : World} {u : Value} (ho : o.op = .call ⟨.value (.tmp x), #[.tmp y], ats⟩) (hx : a.eval (.tmp x) = .func (.yield l) #[] #[]) (hy : a.eval (.tmp y) = u) (h : w.heap[l]? = some (.loop r)) {p : Tmp} (hp : r.params = #[p]) :
    (execOp a.eval o).run P w = .ok (.round l r.fn (r.tmps.setIfInBounds p u) r.assign r.body) w := by
  have hy2 := run_yield (P := P) (w := w) (l := l) (r := r) (args := #[u]) h (by rw [hp]; rfl)
  rw [hp] at hy2
  simp only [execOp, ho, resolve, hx, Deferred.ofValue, Sem.run_bind, Sem.run_pure, Result.andThen_ok, invoke]
  simp only [List.map_toArray, List.map_cons, List.map_nil, hy]
  simpa using hy2
abbrev jumpOf : Ex → Code
  | .ext i => .exit i
  | _ => .ret
theorem inRound_marks {ρ h w l} {r : Loop} (hf : Far ρ h w l) (hl : w.heap[l]? = some (.loop r)) : Marks (Fence.wide.inRound l) w.heap.size ρ h w [] :=
  ⟨⟨[], rfl, List.nodup_nil, fun D hD => by simp at hD⟩, fun l' e => by obtain rfl := Option.some.inj e; exact ⟨rfl, hf, r, hl⟩⟩
section round
variable {F : Fence} {B : Nat} {ρ0 ρ1 : Ren} {h0 h1 : Hp} {w0 W : World} {l D n : Nat} {ds : List Deferred} {fn : FuncId} {tmps : Array Value} {p : Tmp} {as bd : Code} {env : Env} {v : Val} {u : Value}
theorem ch_round (z : Zt F B ρ0 h0 w0 l (recOf fn tmps p as bd D .ready none) ds ρ1 h1 W) (hs : tmps.size = n) (hE : ∀ t x, env.get t = some x → VR ρ1 x (tmps.getD t undef)) (hp : p < n) (hv : VR ρ1 v u) {Am : Env → Hp → Prop} {Mm : Hp → Prop} {Qx : Ex → Hp → Prop}
    (has : Mot P (.code n as (env.set p v) h1) fun o => ∃ env' h2, o = .code .nrm env' h2 ∧ Am env' h2)
    (hbd : ∀ env1 h2, Am env1 h2 → Mot P (.code n bd env1 h2) fun o => ∃ x env' h3, o = .code x env' h3 ∧ (x = .nrm → Mm h3) ∧ (x ≠ .nrm → Qx x h3)) {R : Ending → World → Prop}
    (hon : ∀ ρ2 h2 W2, ρ1.le ρ2 → Zt F B ρ0 h0 w0 l (recOf fn tmps p as bd D .ready none) ds ρ2 h2 W2 → Mm h2 → R (.returned (.bool true)) W2)
    (hoff : ∀ x ρ2 h2 W2, ρ1.le ρ2 → Zt F B ρ0 h0 w0 l (recOf fn tmps p as bd D .done (some (jumpOf x))) ds ρ2 h2 W2 → x ≠ .nrm → Qx x h2 → R (.returned (.bool false)) W2) :
    RoundIn Fence.wide 0 P l fn (tmps.setIfInBounds p u) as bd W R := by
  refine roundIn_of_wpIn (F := Fence.wide) trivial ?_
  have free := wide_free.round l
  have envR : EnvR ρ1 (env.set p v) { tmps := tmps.setIfInBounds p u, defers := [] } := fun t x hx => by
    simp only [T.get_set] at hx
    simp only [Array.getD_eq_getD_getElem?, Array.getElem?_setIfInBounds]
    split at hx
    · rename_i e; subst e
      obtain rfl := Option.some.inj hx
      rw [if_pos rfl, if_pos (by rw [hs]; exact hp)]
      exact hv
    · rename_i e
      rw [if_neg (fun q => e q.symm)]
      have := hE t x hx
      rwa [Array.getD_eq_getD_getElem?] at this
  refine wpIn_mono (has _ free ρ1 W _ ρ1 h1 W ⟨z.rel, envR, by simpa using hs⟩ (Ext.refl _ _ _) (inRound_marks z.far z.lp)).wp fun e a1 w1 pst => ?_
  obtain ⟨e0, env1, h2, ρ2, rfl, ⟨env', h2', heq, hA⟩, s1, x1, m1⟩ := pst.st
  obtain ⟨rfl, rfl, rfl⟩ := Out.code.inj heq
  have z1 := z.turn s1.rel x1
  refine ⟨_, run_beginRound z1.lp rfl, ?_⟩
  have z2 := z1.put (recOf fn tmps p as bd D .busy none)
  have hd : a1.defers = [] := (m1.loop l rfl).1
  refine wpIn_mono (hbd _ _ hA _ free ρ2 _ a1 ρ2 h2 _ ⟨z2.rel, s1.env, s1.size⟩ (Ext.refl _ _ _) (by rw [hd]; exact inRound_marks z2.far z2.lp)).wp fun e a2 w2 pst => ?_
  obtain ⟨e0, env2, h3, ρ3, rfl, ⟨x, env3, h3', heq, q1, q2⟩, s2, x2, m2⟩ := pst.st
  obtain ⟨rfl, rfl, rfl⟩ := Out.code.inj heq
  have z3 := z2.turn s2.rel x2
  have hle := x1.le.trans x2.le
  cases e0 with
  | nrm => exact ⟨_, _, run_endRound none z3.lp, hon _ _ _ hle (z3.put _) (q1 rfl)⟩
  | ret => exact ⟨_, _, run_endRound (some .ret) z3.lp, hoff .ret _ _ _ hle (z3.put _) (by simp) (q2 (by simp))⟩
  | ext j => exact ⟨_, _, run_endRound (some (.exit j)) z3.lp, hoff (.ext j) _ _ _ hle (z3.put _) (by simp) (q2 (by simp))⟩
end round
section walk
variable {F : Fence} {B : Nat} {ρ0 : Ren} {h0 : Hp} {w0 : World} {l D n : Nat} {ds : List Deferred} {fn : FuncId} {tmps : Array Value} {p : Tmp} {as bd : Code} {env : Env} {fid : FuncId} {T ti tb ty : TypeId} {bs os bn on N L : Nat} {sv : Val} {pc : Nat → Val} {M : Nat → Hp → Prop} {A : Nat → Env → Hp → Prop} {Qx : Ex → Hp → Prop}
theorem wpIn_weak {c : Code} {Q Q' : Exit → Act → World → Prop} {a : Act} {w : World} (h : c.wpIn Fence.wide 0 P Q a w) (hq : ∀ e a w, Q e a w → Q' e a w) : c.wpIn Fence.wide 0 P Q' a w := wpIn_mono h hq
theorem ch0 {l bs os bn on i : Nat} : (chE l bs os bn on i).get 0 = some (.yl l) := by simp [chE, T.get_set]
theorem ch1 {l bs os bn on i : Nat} : (chE l bs os bn on i).get 1 = some (.p (some (bs, os))) := by simp [chE, T.get_set]
theorem ch2 {l bs os bn on i : Nat} : (chE l bs os bn on i).get 2 = some (.p (some (bn, on))) := by simp [chE, T.get_set]
theorem ch4 {l bs os bn on i : Nat} : (chE l bs os bn on i).get 4 = some (.i .i64 i) := by simp [chE, T.get_set]
theorem eval_b {ρ E a t x} (c : CA ρ E a) (h : E.get t = some (.b x)) : a.eval (.tmp t) = .bool x := by
  have := c.env t _ h
  show a.tmps.getD t undef = _
  generalize a.tmps.getD t undef = q at this
  cases this; rfl
theorem eval_yl {ρ E a t l} (c : CA ρ E a) (h : E.get t = some (.yl l)) : a.eval (.tmp t) = .func (.yield l) #[] #[] := by
  have := c.env t _ h
  show a.tmps.getD t undef = _
  generalize a.tmps.getD t undef = q at this
  cases this; rfl
theorem ch_body (hs : tmps.size = n) (hE : ∀ ρ, ρ0.le ρ → ∀ t x, env.get t = some x → VR ρ x (tmps.getD t undef)) (hp : p < n) (ch : Chunk P fid T ti tb ty) (hN : 0 < N) (hN2 : N ≤ 2 ^ 40) (hL2 : L ≤ 2 ^ 40) (hlen : lenR sv = some L)
    (hM : ∀ i h1, M i h1 → rd h1 bs os 1 = some [sv] ∧ rd h1 bn on 1 = some [.i .i64 N])
    (h3 : ∀ i h1, M i h1 → i < L → ∀ l, Mot P (.ops 31 (chA3 T ti) true (List.range 7) [] (chE l bs os bn on i) h1) fun o => ∃ E, o = .code .nrm E h1 ∧ (∀ t v, (chE l bs os bn on i).get t = some v → E.get t = some v) ∧ E.get 5 = some (.i .i64 (min N (L - i) : Nat)))
    (hpc : ∀ i h1, M i h1 → i < L → sliceV P T sv (some (.i .i64 i)) (some (.i .i64 (i + min N (L - i) : Nat))) (some (.i .i64 (i + min N (L - i) : Nat))) = some (pc i))
    (has : ∀ i h1, M i h1 → i < L → Mot P (.code n as (env.set p (pc i)) h1) fun o => ∃ env' h2, o = .code .nrm env' h2 ∧ A i env' h2)
    (hbd : ∀ i env1 h1, i < L → A i env1 h1 → Mot P (.code n bd env1 h1) fun o => ∃ x env' h2, o = .code x env' h2 ∧ (x = .nrm → M (i + N) h2) ∧ (x ≠ .nrm → Qx x h2))
    {Qc : Exit → Act → World → Prop}
    (hend : ∀ i ρ h w c, Zt F B ρ0 h0 w0 l (recOf fn tmps p as bd D .ready none) ds ρ h w → CA ρ (chE l bs os bn on i) c → M i h → L ≤ i → Qc (.exit 0) c w)
    (hjmp : ∀ x ρ h w c, Zt F B ρ0 h0 w0 l (recOf fn tmps p as bd D .done (some (jumpOf x))) ds ρ h w → c.defers = [] → x ≠ .nrm → Qx x h → Qc .ret c w) {i : Nat} (hi : i ≤ L + N) {ρ h w c} (z : Zt F B ρ0 h0 w0 l (recOf fn tmps p as bd D .ready none) ds ρ h w) (ca : CA ρ (chE l bs os bn on i) c) (m : M i h) :
    (chBody T ti tb ty).wpIn Fence.wide 0 P (fun e c w => match e with | .normal => i < L ∧ ∃ ρ h, Zt F B ρ0 h0 w0 l (recOf fn tmps p as bd D .ready none) ds ρ h w ∧ CA ρ (chE l bs os bn on (i + N)) c ∧ M (i + N) h | e => Qc e c w) c w := by
  obtain ⟨r1, r2⟩ := hM i h m
  refine wpIn_seq (wpIn_seq (wpIn_region_lit ?_))
  refine ch_step rfl rfl (by decide) (ch_move ch4) z ca fun ρ1 w1 c1 z1 ca1 => ?_
  refine ch_step rfl rfl (by decide) (ch_load ch (ch_keep (fun t v h => h) (by decide) 1 _ ch1) r1) z1 ca1 fun ρ2 w2 c2 z2 ca2 => ?_
  refine ch_step rfl rfl (by decide) (ch_len ch (by rw [gset, if_pos rfl]) hlen) z2 ca2 fun ρ3 w3 c3 z3 ca3 => ?_
  refine ch_step (v := .b (decide (i < L))) rfl rfl (by decide) (by
    simp only [op1, evO, gset]
    simp [binV, ibin]) z3 ca3 fun ρ4 w4 c4 z4 ca4 => ?_
  have k4 : ∀ t v, (chE l bs os bn on i).get t = some v → ((((chE l bs os bn on i).set 6 (.i .i64 i)).set 7 sv).set 8 (.i .i64 L)).get t = some v := ch_keep (ch_keep (ch_keep (fun t v h => h) (by decide)) (by decide)) (by decide)
  have k5 := ch_keep (d := 9) (x := .b (decide (i < L))) k4 (by decide)
  show (Code.cond _ _ _).wpIn _ _ _ _ _ _
  refine wpIn_cond (eval_b ca4 (by rw [gset, if_pos rfl])) ?_
  by_cases hl : i < L
  · rw [if_pos (by simpa using hl)]
    refine wpIn_skip ?_
    show (Code.seq _ _).wpIn _ _ _ _ _ _
    refine wpIn_seq (wpIn_block (wpIn_seq ?_))
    have c5 := ca4.less k5
    refine wpIn_mono (region_in (id := 3) (dr := true) rfl ⟨ch.fol, ch.ok⟩ (h3 i h m hl l) Fence.wide wide_free (a := c4) (w := w4) (ρ := ρ4) ⟨z4.rel, c5.env, c5.size⟩) fun e c6 w6 pst => ?_
    obtain ⟨⟨e0, E0, h', ρ6, rfl, ⟨E, heq, kE, e5⟩, r6, v6, x6⟩, d6, n6⟩ := pst
    obtain ⟨rfl, rfl, rfl⟩ := Out.code.inj heq
    have z6 := z4.turn r6 x6
    have ca6 : CA ρ6 E0 c6 := ⟨v6, n6, d6.trans c5.defers⟩
    obtain ⟨e, he⟩ : ∃ e, e = min N (L - i) := ⟨_, rfl⟩
    have g0 := kE 0 _ ch0
    have g1 := kE 1 _ ch1
    have g4 := kE 4 _ ch4
    rw [← he] at e5
    have hp' := hpc i h' m hl
    rw [← he] at hp'
    show (Code.seq _ _).wpIn _ _ _ _ _ _
    refine wpIn_seq (wpIn_region_lit ?_)
    refine ch_step (v := .yl l) rfl rfl (by decide) (ch_move g0) z6 ca6 fun ρa wa a1 za b1 => ?_
    refine ch_step (v := sv) rfl rfl (by decide) (ch_load ch (by rw [gset, if_neg (by decide)]; exact g1) r1) za b1 fun ρa wa a2 za b2 => ?_
    refine ch_step (v := .i .i64 i) rfl rfl (by decide) (ch_move (by simp only [gset]; simp [g4])) za b2 fun ρa wa a3 za b3 => ?_
    refine ch_step (v := .i .i64 i) rfl rfl (by decide) (ch_move (by simp only [gset]; simp [g4])) za b3 fun ρa wa a4 za b4 => ?_
    refine ch_step (v := .i .i64 e) rfl rfl (by decide) (ch_move (by simp only [gset]; simp [e5])) za b4 fun ρa wa a5 za b5 => ?_
    refine ch_step (v := .i .i64 (i + e : Nat)) rfl rfl (by decide) (ch_add (by simp only [gset]; simp) (by simp only [gset]; simp) (by omega)) za b5 fun ρa wa a6 za b6 => ?_
    refine ch_step (v := .i .i64 i) rfl rfl (by decide) (ch_move (by simp only [gset]; simp [g4])) za b6 fun ρa wa a7 za b7 => ?_
    refine ch_step (v := .i .i64 e) rfl rfl (by decide) (ch_move (by simp only [gset]; simp [e5])) za b7 fun ρa wa a8 za b8 => ?_
    refine ch_step (v := .i .i64 (i + e : Nat)) rfl rfl (by decide) (ch_add (by simp only [gset]; simp) (by simp only [gset]; simp) (by omega)) za b8 fun ρa wa a9 za b9 => ?_
    refine ch_step (v := pc i) rfl rfl (by decide) (by
      simp only [op1, evO, evQ, gset]
      simp only [Nat.reduceEqDiff, if_false, if_true, Option.bind_some, Option.map_some]
      rw [hp']; rfl) za b9 fun ρb wb a10 zb b10 => ?_
    unfold wpListIn
    rw [if_pos (by simp [Region.wanted])]
    have hv : VR ρb (pc i) (a10.eval (.tmp 28)) := b10.env 28 _ (by rw [gset, if_pos rfl])
    have hyl : a10.eval (.tmp 19) = .func (.yield l) #[] #[] := eval_yl b10 (by simp only [gset]; simp)
    unfold Oper.wpIn
    rw [Oper.semAt_eq _ _ _ (by simp), run_yieldOp rfl hyl rfl zb.lp rfl]
    refine ⟨fun f _ => trivial, fun hd => by simp [Fence.wide] at hd, ?_⟩
    obtain ⟨E10, hE10⟩ : ∃ E10, E10 = (((((((((((E0.set 19 (.yl l)).set 20 sv).set 21 (.i .i64 i)).set 22 (.i .i64 i)).set 23 (.i .i64 e)).set 24 (.i .i64 (i + e : Nat))).set 25 (.i .i64 i)).set 26 (.i .i64 e)).set 27 (.i .i64 (i + e : Nat))).set 28 (pc i)) : Env) := ⟨_, rfl⟩
    rw [← hE10] at b10
    have g2 := kE 2 _ ch2
    have q1 : E10.get 1 = some (.p (some (bs, os))) := by rw [hE10]; simp only [gset]; simp [g1]
    have q0 : E10.get 0 = some (.yl l) := by rw [hE10]; simp only [gset]; simp [g0]
    have q2 : E10.get 2 = some (.p (some (bn, on))) := by rw [hE10]; simp only [gset]; simp [g2]
    have q4 : E10.get 4 = some (.i .i64 i) := by rw [hE10]; simp only [gset]; simp [g4]
    refine ch_round zb hs (hE ρb zb.ext.le) hp hv (has i h' m hl) (fun env1 h2 hA => hbd i env1 h2 hl hA) (fun ρc h2 wc le zc mc => ?_) (fun x ρc h2 wc le zc ne qx => ?_)
    · have b11 : CA ρc (E10.set 29 (.b true)) (a10.put (some 29) (.bool true)) := b10.put le (by decide) (.b true)
      show wpListIn _ _ _ _ _ _ _ _
      refine ch_step (v := .b false) rfl rfl (by decide) (by simp [op1, evO, gset, unV]) zc b11 fun ρd wd a12 zd b12 => ?_
      show (Code.cond _ _ _).wpIn _ _ _ _ _ _
      refine wpIn_cond (t := false) (eval_b b12 (by rw [gset, if_pos rfl])) ?_
      rw [if_neg (by simp)]
      refine wpIn_skip ?_
      show (Code.region _ _ _).wpIn _ _ _ _ _ _
      obtain ⟨s1, s2⟩ := hM _ _ mc
      refine wpIn_region_lit ?_
      refine ch_step (v := .i .i64 i) rfl rfl (by decide) (ch_move (by simp only [gset]; simp [q4])) zd b12 fun ρe we a13 ze b13 => ?_
      refine ch_step (v := .i .i64 N) rfl rfl (by decide) (ch_loadN ch (by simp only [gset]; simp [q2]) s2) ze b13 fun ρe we a14 ze b14 => ?_
      refine ch_step (v := .i .i64 (i + N : Nat)) rfl rfl (by decide) (ch_add (by simp only [gset]; simp) (by simp only [gset]; simp) (by omega)) ze b14 fun ρe we a15 ze b15 => ?_
      refine ch_step (v := .i .i64 (i + N : Nat)) rfl rfl (by decide) (by simp [op1, evO, gset]) ze b15 fun ρe we a16 ze b16 => ?_
      refine ⟨hl, ρe, h2, ze, b16.less fun t v hv => ?_, mc⟩
      rcases chE_get hv with rfl | rfl | rfl | rfl
      · rw [ch0] at hv; rw [← hv]; simp only [gset]; simp [q0]
      · rw [ch1] at hv; rw [← hv]; simp only [gset]; simp [q1]
      · rw [ch2] at hv; rw [← hv]; simp only [gset]; simp [q2]
      · rw [ch4] at hv; rw [← hv, gset, if_pos rfl]
    · have b11 : CA ρc (E10.set 29 (.b false)) (a10.put (some 29) (.bool false)) := b10.put le (by decide) (.b false)
      show wpListIn _ _ _ _ _ _ _ _
      refine ch_step (v := .b true) rfl rfl (by decide) (by simp [op1, evO, gset, unV]) zc b11 fun ρd wd a12 zd b12 => ?_
      show (Code.cond _ _ _).wpIn _ _ _ _ _ _
      refine wpIn_cond (t := true) (eval_b b12 (by rw [gset, if_pos rfl])) ?_
      rw [if_pos rfl]
      refine wpIn_ret ?_
      exact hjmp x ρd h2 wd a12 zd b12.defers ne qx
  · rw [if_neg (by simpa using hl)]
    refine wpIn_exit ?_
    exact hend i ρ4 h w4 c4 z4 (ca4.less k5) m (by omega)
theorem ch_loop (hs : tmps.size = n) (hE : ∀ ρ, ρ0.le ρ → ∀ t x, env.get t = some x → VR ρ x (tmps.getD t undef)) (hp : p < n) (ch : Chunk P fid T ti tb ty) (hN : 0 < N) (hN2 : N ≤ 2 ^ 40) (hL2 : L ≤ 2 ^ 40) (hlen : lenR sv = some L)
    (hM : ∀ i h1, M i h1 → rd h1 bs os 1 = some [sv] ∧ rd h1 bn on 1 = some [.i .i64 N])
    (h3 : ∀ i h1, M i h1 → i < L → ∀ l, Mot P (.ops 31 (chA3 T ti) true (List.range 7) [] (chE l bs os bn on i) h1) fun o => ∃ E, o = .code .nrm E h1 ∧ (∀ t v, (chE l bs os bn on i).get t = some v → E.get t = some v) ∧ E.get 5 = some (.i .i64 (min N (L - i) : Nat)))
    (hpc : ∀ i h1, M i h1 → i < L → sliceV P T sv (some (.i .i64 i)) (some (.i .i64 (i + min N (L - i) : Nat))) (some (.i .i64 (i + min N (L - i) : Nat))) = some (pc i))
    (has : ∀ i h1, M i h1 → i < L → Mot P (.code n as (env.set p (pc i)) h1) fun o => ∃ env' h2, o = .code .nrm env' h2 ∧ A i env' h2)
    (hbd : ∀ i env1 h1, i < L → A i env1 h1 → Mot P (.code n bd env1 h1) fun o => ∃ x env' h2, o = .code x env' h2 ∧ (x = .nrm → M (i + N) h2) ∧ (x ≠ .nrm → Qx x h2))
    {Qc : Exit → Act → World → Prop}
    (hend : ∀ i ρ h w c, Zt F B ρ0 h0 w0 l (recOf fn tmps p as bd D .ready none) ds ρ h w → CA ρ (chE l bs os bn on i) c → M i h → L ≤ i → Qc (.exit 0) c w)
    (hjmp : ∀ x ρ h w c, Zt F B ρ0 h0 w0 l (recOf fn tmps p as bd D .done (some (jumpOf x))) ds ρ h w → c.defers = [] → x ≠ .nrm → Qx x h → Qc .ret c w) :
    ∀ (k i : Nat), L + N - i ≤ k → i ≤ L + N → ∀ ρ h w c, Zt F B ρ0 h0 w0 l (recOf fn tmps p as bd D .ready none) ds ρ h w → CA ρ (chE l bs os bn on i) c → M i h → LoopR Fence.wide P (chBody T ti tb ty) Qc c w := by
  intro k
  induction k with
  | zero =>
    intro i hk hi ρ h w c z ca m
    refine LoopR.mk _ (ch_body hs hE hp ch hN hN2 hL2 hlen hM h3 hpc has hbd hend hjmp hi z ca m) (fun a' w' q => ?_) (fun e a w ne q => ?_)
    · have := q.1; omega
    · cases e <;> first | exact absurd rfl ne | exact q
  | succ k ih =>
    intro i hk hi ρ h w c z ca m
    refine LoopR.mk _ (ch_body hs hE hp ch hN hN2 hL2 hlen hM h3 hpc has hbd hend hjmp hi z ca m) (fun a' w' q => ?_) (fun e a w ne q => ?_)
    · obtain ⟨hl, ρ', h', z', ca', m'⟩ := q
      exact ih (i + N) (by omega) (by omega) ρ' h' w' a' z' ca' m'
    · cases e <;> first | exact absurd rfl ne | exact q
theorem enter_rng {ρ : Ren} {h : Hp} {w : World} {a : Act} (fn : FuncId) (as bd : Code) (p : Tmp) (r : Rel ρ h w) {F : Fence} {B : Nat} (hB : B ≤ w.heap.size) (m : Marks F B ρ h w a.defers) :
    ∃ l D mark w1, (Instr.enterLoop fn a.tmps #[p] as bd F.round).run P w = .ok (l, mark) w1 ∧ Zt F B ρ h w l (recOf fn a.tmps p as bd D .ready none) (mark ++ a.defers) ρ h w1 := by
  have al : ∀ (w' : World) (o : Obj), Rel ρ h w' → Rel ρ h (w'.alloc o) := fun w' o r' => ⟨fun b i e => by have := r'.dom b i e; exact ⟨this.1, by simp; omega⟩, fun b i X e f => (r'.blk b i X e f).congr (Ren.le.refl _) (by
      show (w'.heap.push o)[i.g]? = _
      rw [Array.getElem?_push, if_neg (by have := (r'.dom b i e).2; omega)]), r'.inj, r'.wf⟩
  have ae : ∀ (w' : World) (o : Obj), w.heap.size ≤ w'.heap.size → Ext ρ h w ρ h w' → Ext ρ h w ρ h (w'.alloc o) := fun w' o hs x => ⟨x.le, x.next, x.other, by have := x.size; simp; omega, fun g hg hn => by
      obtain ⟨p1, p2⟩ := x.frame g hg hn
      refine ⟨?_, p2⟩
      rw [← p1]
      show (w'.heap.push o)[g]? = _
      rw [Array.getElem?_push, if_neg (by omega)], x.os, x.tape, x.output, x.drawn⟩
  have at_ : ∀ (w' : World) (o : Obj) (g : Nat), g < w'.heap.size → (w'.alloc o).heap[g]? = w'.heap[g]? := fun w' o g hg => by
    show (w'.heap.push o)[g]? = _
    rw [Array.getElem?_push, if_neg (by omega)]
  have far : ∀ g, w.heap.size ≤ g → ∀ b i, ρ b = some i → own h b → i.g ≠ g := fun g hg b i e _ => by have := (r.dom b i e).2; omega
  cases hF : F.round with
  | none =>
    refine ⟨_, w.heap.size, _, _, run_enterLoop_outer fn a.tmps #[p] as bd, ?_⟩
    have hs1 : (w.alloc (.deferred (some []))).heap.size = w.heap.size + 1 := by simp
    refine ⟨al _ _ (al _ _ r), ae _ _ (by simp) (ae _ _ (Nat.le_refl _) (Ext.refl _ _ _)), by omega, ⟨by simp, far _ (by omega)⟩, ?_, ⟨?_, fun l e => by rw [hF] at e; cases e⟩, fun l e => by rw [hF] at e; cases e⟩
    · show ((w.alloc (.deferred (some []))).heap.push _)[w.heap.size + 1]? = _
      rw [Array.getElem?_push, if_pos hs1.symm]
    · obtain ⟨Ds, q1, q2, q3⟩ := m.marks
      refine ⟨w.heap.size :: Ds, by rw [q1]; rfl, List.nodup_cons.2 ⟨fun hm => by have := (q3 _ hm).2.1.1; omega, q2⟩, fun D hD => ?_⟩
      rcases List.mem_cons.1 hD with rfl | hD
      · refine ⟨hB, ⟨by simp; omega, far _ (Nat.le_refl _)⟩, ?_⟩
        rw [at_ _ _ _ (by omega)]
        show (w.heap.push _)[w.heap.size]? = _
        rw [Array.getElem?_push, if_pos rfl]
      · obtain ⟨p1, p2, p3⟩ := q3 D hD
        refine ⟨p1, ⟨by have := p2.1; simp; omega, p2.2⟩, ?_⟩
        rw [at_ _ _ _ (by have := p2.1; omega), at_ _ _ _ p2.1]; exact p3
  | some l0 =>
    obtain ⟨p0, p1, r0, p2⟩ := m.loop l0 hF
    refine ⟨_, r0.defers, _, _, run_enterLoop_inner p2 fn a.tmps #[p] as bd, ?_⟩
    refine ⟨al _ _ r, ae _ _ (Nat.le_refl _) (Ext.refl _ _ _), Nat.le_refl _, ⟨by simp, far _ (Nat.le_refl _)⟩, ?_, ⟨?_, fun l e => ?_⟩, fun l e => ?_⟩
    · show (w.heap.push _)[w.heap.size]? = _
      rw [Array.getElem?_push, if_pos rfl]
    · rw [p0]; exact ⟨[], rfl, List.nodup_nil, fun D hD => by simp at hD⟩
    · rw [hF] at e; obtain rfl := Option.some.inj e
      exact ⟨by rw [p0]; rfl, ⟨by have := p1.1; simp; omega, p1.2⟩, r0, by rw [at_ _ _ _ p1.1]; exact p2⟩
    · rw [hF] at e; obtain rfl := Option.some.inj e
      have := p1.1; omega
theorem sim_range {g : Operand} {h : Hp} {Q : Out → Prop} (hg : evO env g = some (.f fid [.p (some (bs, os)), .p (some (bn, on))])) (hp : p < n) (ch : Chunk P fid T ti tb ty) (hN : 0 < N) (hN2 : N ≤ 2 ^ 40) (hL2 : L ≤ 2 ^ 40) (hlen : lenR sv = some L) (hM0 : M 0 h)
    (hM : ∀ i h1, M i h1 → rd h1 bs os 1 = some [sv] ∧ rd h1 bn on 1 = some [.i .i64 N])
    (h3 : ∀ i h1, M i h1 → i < L → ∀ l, Mot P (.ops 31 (chA3 T ti) true (List.range 7) [] (chE l bs os bn on i) h1) fun o => ∃ E, o = .code .nrm E h1 ∧ (∀ t v, (chE l bs os bn on i).get t = some v → E.get t = some v) ∧ E.get 5 = some (.i .i64 (min N (L - i) : Nat)))
    (hpc : ∀ i h1, M i h1 → i < L → sliceV P T sv (some (.i .i64 i)) (some (.i .i64 (i + min N (L - i) : Nat))) (some (.i .i64 (i + min N (L - i) : Nat))) = some (pc i))
    (has : ∀ i h1, M i h1 → i < L → Mot P (.code n as (env.set p (pc i)) h1) fun o => ∃ env' h2, o = .code .nrm env' h2 ∧ A i env' h2)
    (hbd : ∀ i env1 h1, i < L → A i env1 h1 → Mot P (.code n bd env1 h1) fun o => ∃ x env' h2, o = .code x env' h2 ∧ (x = .nrm → M (i + N) h2) ∧ (x ≠ .nrm → Q (.code x env h2)))
    (hfin : ∀ i h1, M i h1 → L ≤ i → Q (.code .nrm env h1)) : Mot P (.code n (.rangeFunc g #[p] as bd) env h) Q := by
  intro F hF ρ w a ρs hs ws s x m
  show (Code.rangeFunc g #[p] as bd).wpIn F 0 P _ a w
  refine wpIn_rangeFunc fun fn _ => ?_
  obtain ⟨l, D, mark, w1, e1, z1⟩ := enter_rng (P := P) fn as bd p s.rel x.size m
  have hgv := evO_VR s.env hg
  generalize hgu : a.eval g = ug at hgv
  cases hgv with
  | f c1 c2 =>
    rename_i us
    obtain ⟨fnc, f1, f2, f3, f4, f5⟩ := ch.fn
    refine ⟨l, mark, w1, { target := .fn (.func fid) us.toArray, args := #[.func (.yield l) #[] #[]] }, w1, fid, #[.func (.yield l) #[] #[]] ++ us.toArray, w1, e1, ?_, fun f _ => hF.fn f, ?_, fun hd => (by rw [hF.depth] at hd; cases hd), ?_⟩
    · simp only [resolve, hgu, Deferred.ofValue, Sem.run_pure]
      simp [Act.eval]
    · simp only [invoke]
      exact run_enter f1 f2 f5 _ w1
    · refine hF.calls (callsIn_wide.1 (callsIn_of_wp (n := 0) f1 f2 trivial ?_))
      have hrow : VRL ρ [.yl l, .p (some (bs, os)), .p (some (bn, on))] (.func (.yield l) #[] #[] :: us) := VRL.cons .yl ⟨c1, c2⟩
      have s0 := enter_St0 (n := 31) z1.rel hrow (by simp)
      have e3 : (#[.func (.yield l) #[] #[]] ++ us.toArray : Array Value) = (.func (.yield l) #[] #[] :: us).toArray := by apply Array.ext'; simp
      rw [e3, f3]
      have ca0 := CA.mk s0.env s0.size rfl
      rw [chCode]
      refine wpIn_seq (wpIn_region_lit ?_)
      refine ch_step (v := .i .i64 (0 : Nat)) rfl rfl (by decide) (by simp [op1, evO, cv, cv1]) z1 ca0 fun ρ2 w2 a2 z2 ca2 => ?_
      show (Code.block _ _).wpIn _ _ _ _ _ _
      refine wpIn_block (LoopR.wp ?_)
      refine ch_loop (Qx := fun x h' => Q (.code x env h')) s.size (fun ρ' le t x hx => (s.env t x hx).mono le) hp ch hN hN2 hL2 hlen hM h3 hpc has hbd ?_ ?_ (L + N) 0 (by omega) (by omega) ρ2 h w2 a2 z2 ca2 hM0
      · intro i ρ' h' w' c z c2 m' hl
        have z' := z.put (recOf fn a.tmps p as bd D .exhausted none)
        have hres : (results fnc c.tmps).run P w' = .ok (.tuple #[]) w' := by simp [results, f4]
        refine ⟨c2.defers, _, hres, none, _, run_endLoop z.lp (by simp), ?_⟩
        exact ⟨⟨.nrm, env, h', ρ', rfl, hfin i h' m' hl, z'.rel, fun t x hx => (s.env t x hx).mono z'.ext.le, x.trans z'.ext, z'.marks⟩, s.size⟩
      · intro x' ρ' h' w' c z c2 ne q
        have z' := z.put (recOf fn a.tmps p as bd D .exhausted (some (jumpOf x')))
        have hres : (results fnc c.tmps).run P w' = .ok (.tuple #[]) w' := by simp [results, f4]
        refine ⟨c2, _, hres, some (jumpOf x'), _, run_endLoop z.lp (by simp), ?_⟩
        have post : PostC F Q ρs hs ws n (exitOf x') { a with defers := mark ++ a.defers } (w'.putObj l (.loop (recOf fn a.tmps p as bd D .exhausted (some (jumpOf x'))))) :=
          ⟨⟨x', env, h', ρ', rfl, q, z'.rel, fun t x hx => (s.env t x hx).mono z'.ext.le, x.trans z'.ext, z'.marks⟩, s.size⟩
        cases x' with
        | nrm => exact absurd rfl ne
        | ext i => exact wpIn_exit post
        | ret => exact wpIn_ret post
end walk
end
end Go.V
namespace Go.V
set_option linter.unusedVariables false
set_option linter.unusedSectionVars false
set_option linter.unusedSimpArgs false
variable [Sy]
section
variable {P : Program} {K : Tb}
theorem sim_all (hK : KOk P K) {j : Job} {Q : Out → Prop} (x : XW P K j Q) : Mot P j Q := by
  induction x with
  | skip q => intro F hF ρ w a ρs hs ws s x m; exact wpIn_skip (PostC.turn s x m q)
  | label q => intro F hF ρ w a ρs hs ws s x m; exact wpIn_label (PostC.turn s x m q)
  | exit q => intro F hF ρ w a ρs hs ws s x m; exact wpIn_exit (PostC.turn s x m q)
  | ret q => intro F hF ρ w a ρs hs ws s x m; exact wpIn_ret (PostC.turn s x m q)
  | seq _ _ hno ih1 ih2 =>
    intro F hF ρ w a ρs hs ws s x m
    refine wpIn_seq (wpIn_mono (ih1 F hF ρ w a ρs hs ws s x m).wp fun e a' w' p => ?_)
    obtain ⟨e0, env', h', ρ', rfl, q, s', x', m'⟩ := p.st
    cases e0 with
    | nrm => exact (ih2 env' h' q F hF ρ' w' a' ρs hs ws s' x' m').wp
    | ext i => exact PostC.turn s' x' m' (hno _ _ _ (by simp) q)
    | ret => exact PostC.turn s' x' m' (hno _ _ _ (by simp) q)
  | cond hx _ ih =>
    rename_i n x a' b' env h Q t _
    intro F hF ρ w a ρs hs ws s x m
    have hv := evO_VR s.env hx
    generalize hu : a.eval _ = u at hv
    cases hv
    refine wpIn_cond hu ?_
    cases t
    · exact (ih F hF ρ w a ρs hs ws s x m).wp
    · exact (ih F hF ρ w a ρs hs ws s x m).wp
  | block _ hq ih =>
    rename_i id c env h M Q
    intro F hF ρ w a ρs hs ws s x m
    refine wpIn_block (wpIn_mono (ih F hF ρ w a ρs hs ws s x m).wp fun e a' w' p => ?_)
    obtain ⟨e0, env', h', ρ', rfl, q, s', x', m'⟩ := p.st
    have q' := hq _ _ _ q
    cases e0 with
    | nrm => exact PostC.turn s' x' m' q'
    | ret => exact PostC.turn s' x' m' q'
    | ext i =>
      simp only [exitOf, Exit.inBlock]
      simp only at q'
      split
      · rename_i e; rw [if_pos e] at q'; exact PostC.turn s' x' m' q'
      · rename_i e; rw [if_neg e] at q'; exact PostC.turn s' x' m' q'
  | loop _ _ hno ih1 ih2 =>
    rename_i n c env h M Q _ _
    intro F hF ρ w a ρs hs ws s x m
    refine LoopR.mk (PostC F M ρs hs ws n) (ih1 F hF ρ w a ρs hs ws s x m).wp (fun a' w' p => ?_) (fun e a' w' ne p => ?_)
    · obtain ⟨e0, env', h', ρ', he, q, s', x', m'⟩ := p.st
      obtain rfl := exitOf_normal he
      exact ih2 env' h' q F hF ρ' w' a' ρs hs ws s' x' m'
    · obtain ⟨e0, env', h', ρ', rfl, q, s', x', m'⟩ := p.st
      exact PostC.turn s' x' m' (hno _ _ _ (fun e => ne (by rw [e]; rfl)) q)
  | region hd hL _ ih =>
    intro F hF ρ w a ρs hs ws s x m
    exact wpIn_mono (region_in hd hL ih F hF s) fun e a' w' p => PostR.code p x m
  | onil q =>
    rename_i n A dr pd env h Q
    intro hd F hF
    refine ⟨fun _ ρ w a ρs hs ws ds hds s x => PostR.turn (e0 := .nrm) hds s x q, fun _ G dn listed a w ρ ρs hs ws e0 V EV BL ds d fuel hu => ?_⟩
    refine DI.run hF (ρs := ρs) (hs := hs) (ws := ws) (e0 := e0) (V := V) (EV := EV) (BL := BL) (dn := dn) G (fun _ listed a w ρ d hall => ?_) (fun i L' e => by cases e) (fun i L' e => by cases e) fuel listed a w ρ d hu
    refine PostR.turn (e0 := .nrm) d.defers ⟨d.rel, fun t v hv => ?_, d.asize⟩ d.ext q
    by_cases hx : ∃ i, i ∈ dn ∧ (opAt A i).dst = some t
    · obtain ⟨i, hi, ht⟩ := hx
      have hcv := d.cv i hi t ht
      rw [hv] at hcv
      obtain rfl := Option.some.inj hcv
      exact d.av i (hall i (d.dlt i hi)) t ht
    · have hno : ∀ i, i ∈ dn → (opAt A i).dst ≠ some t := fun i hi ht => hx ⟨i, hi, ht⟩
      exact d.ae t v (fun i hi => hno i (d.sub i hi)) (by rw [← d.ce t hno]; exact hv)
  | onot hi hw _ ih =>
    intro hd F hF
    obtain ⟨ih1, ih2⟩ := ih hd F hF
    refine ⟨fun hdr ρ w a ρs hs ws ds hds s x => ?_, fun hdr G dn listed a w ρ ρs hs ws e0 V EV BL ds d fuel hu => ?_⟩
    · rw [List.map_cons]
      unfold wpListIn
      rw [want_run s hd hw]
      simp only [Bool.false_eq_true, if_false]
      exact ⟨fun f _ => hF.fn f, ih1 hdr ρ w _ ρs hs ws ds (put_defers hds) (s.put (dst_lt hd hi) VR.none0) x⟩
    · obtain ⟨V', EV', BL', d'⟩ := d.step G (v := .no) (.inl rfl) (fun q h => h) (.inl ⟨hw, rfl, rfl⟩)
      exact ih2 hdr G _ listed a w ρ ρs hs ws e0 V' EV' BL' ds d' fuel hu
  | oone hi hw hv hst _ ih =>
    rename_i n A dr i L pd env h Q v h' _
    intro hd F hF
    obtain ⟨ih1, ih2⟩ := ih hd F hF
    refine ⟨fun hdr ρ w a ρs hs ws ds hds s x => ?_, fun hdr G dn listed a w ρ ρs hs ws e0 V EV BL ds d fuel hu => ?_⟩
    · rw [List.map_cons]
      unfold wpListIn
      rw [want_run s hd hw]
      simp only [if_true]
      exact (wp_op1 hF (env := env) (n := n) s.rel s.env hv fun ρ' w' u q1 q2 q3 => ih1 hdr ρ' w' _ ρs hs ws ds (put_defers hds) ((s.turn q2 q3).put (dst_lt hd hi) q1) (x.trans q3))
    · subst hdr
      cases hk : kindOf P (opAt A i).op with
      | eff =>
        obtain ⟨T, _, _⟩ := okGo_at d.ord
        have hpd := pdPut_eff (env := env) (v := v) (pd := pd) hk
        rw [hpd] at ih2
        refine DI.run hF G (fun e => by cases e) (fun i0 L' e listed a w ρ fuel d hu hr => ?_) (fun i0 L' e r hr => ?_) fuel listed a w ρ d hu
        · injection e with e1 e2
          subst e1; subst e2
          have hnd : ¬ Dn listed i := fun q => T.out (d.sub i q)
          have S := d.snapC G T
          have s := St0.restr d G hi hnd hr S
          unfold wpOpIn
          simp only [List.getElem?_toArray, opAt_get hi]
          rw [want_run s hd (by rw [want_restr]; exact hw)]
          simp only [if_true]
          refine (wp_op1 hF (env := env) (n := n) d.rel s.env (by rw [op1_restr]; exact hv) fun ρ' w' u q1 q2 q3 => ?_)
          obtain ⟨V', d'⟩ := d.eff G hr (hst hk) q2 q3 q1
          exact ih2 rfl G _ _ _ _ _ _ _ _ _ _ _ _ _ d' fuel hu
        · injection e with e1 e2
          subst e1; subst e2
          exact T.eff hk r hr
      | pure =>
        obtain ⟨rfl, hq⟩ := kind_pure hk hv
        obtain ⟨V', EV', BL', d'⟩ := d.step G (v := v) (.inl rfl) (pd' := pdPut P A i env v pd) (fun q h => by unfold pdPut; split <;> simp [h]) (.inr ⟨hw, .inl ⟨hk, hv⟩⟩)
        exact ih2 rfl G _ listed a w ρ ρs hs ws e0 V' EV' BL' ds d' fuel hu
      | read =>
        obtain ⟨rfl, hq⟩ := kind_read hk hv
        obtain ⟨V', EV', BL', d'⟩ := d.step G (v := v) (.inl rfl) (pd' := pdPut P A i env v pd) (fun q h => by unfold pdPut; split <;> simp [h]) (.inr ⟨hw, .inr (.inl ⟨hk, hv, by unfold pdPut; rw [if_pos hk]; simp⟩)⟩)
        exact ih2 rfl G _ listed a w ρ ρs hs ws e0 V' EV' BL' ds d' fuel hu
      | alloc =>
        obtain ⟨vOf, B, k⟩ := kind_alloc hk hv
        obtain ⟨V', EV', BL', d'⟩ := d.step G (v := v) (.inr ⟨B, k.heap⟩) (pd' := pdPut P A i env v pd) (fun q h => by unfold pdPut; split <;> simp [h]) (.inr ⟨hw, .inr (.inr ⟨hk, hv⟩)⟩)
        exact ih2 rfl G _ listed a w ρ ρs hs ws e0 V' EV' BL' ds d' fuel hu
  | ocall hi hw ht _ hst _ ih1 ih2 =>
    rename_i n A dr i L pd env h M Q f args _ _
    intro hd F hF
    refine ⟨fun hdr ρ w a ρs hs ws ds hds s x => ?_, fun hdr G dn listed a w ρ ρs hs ws e0 V EV BL ds d fuel hu => ?_⟩
    · rw [List.map_cons]
      unfold wpListIn
      rw [want_run s hd hw]
      simp only [if_true]
      exact (wp_call hF s ht ih1 fun v h' ρ' w' u q0 q1 q2 q3 => (ih2 v h' q0 hd F hF).1 hdr ρ' w' _ ρs hs ws ds (put_defers hds) ((s.turn q2 q3).put (dst_lt hd hi) q1) (x.trans q3))
    · subst hdr
      obtain ⟨T, _, _⟩ := okGo_at d.ord
      refine DI.run hF G (fun e => by cases e) (fun i0 L' e listed a w ρ fuel d hu hr => ?_) (fun i0 L' e r hr => ?_) fuel listed a w ρ d hu
      · injection e with e1 e2
        subst e1; subst e2
        have hnd : ¬ Dn listed i := fun q => T.out (d.sub i q)
        have S := d.snapC G T
        have s := St0.restr d G hi hnd hr S
        unfold wpOpIn
        simp only [List.getElem?_toArray, opAt_get hi]
        rw [want_run s hd (by rw [want_restr]; exact hw)]
        simp only [if_true]
        refine (wp_call hF s (by rw [tgt_congr]; exact ht) ih1 fun v h' ρ' w' u q0 q1 q2 q3 => ?_)
        obtain ⟨V', d'⟩ := d.eff G hr (hst v h' q0) q2 q3 q1
        exact (ih2 v h' q0 hd F hF).2 rfl G _ _ _ _ _ _ _ _ _ _ _ _ _ d' fuel hu
      · injection e with e1 e2
        subst e1; subst e2
        exact T.eff (tgt_eff ht) r hr
  | call hf hb hn hl _ hq ih =>
    rename_i f args h M Q fn c _
    intro ρ w args' r hr
    refine .inl ⟨run_enter hf hb hn _ w, ?_⟩
    refine callsIn_wide.1 (callsIn_of_wp_marks (n := 0) hf hb trivial (wpIn_mono (ih Fence.wide wide_free ρ w _ ρ h w (enter_St0 r hr hl) (Ext.refl _ _ _) (Marks.nil rfl)).wp fun e a' w' p => ?_))
    obtain ⟨e0, env', h', ρ', rfl, q, s', x', m'⟩ := p.st
    obtain ⟨q1, vs, q2, q3⟩ := hq _ _ _ q
    obtain ⟨Ds, d1, d2, d3⟩ := m'.marks
    have fin : LeavesInM Fence.wide 0 P fn a'.tmps (retOnly' fun v' w' => ∃ v h' ρ', Q (.call v h') ∧ VR ρ' v v' ∧ Rel ρ' h' w' ∧ Ext ρ h w ρ' h' w') a'.defers .returning w' := by
      rw [d1]
      refine leaves_marks Ds w' s'.rel x' d2 d3 fun w2 r2 x2 => ?_
      obtain ⟨us, g1, g2⟩ := run_res (w := w2) ⟨r2, s'.env, s'.size⟩ q2
      exact ⟨_, g2, _, _, _, q3, oneV_VR g1, r2, x2⟩
    rcases q1 with rfl | rfl
    · exact fin
    · exact fin
  | range pc M A hg ch hN hN2 hL2 hlen hM0 hM _ hpc _ _ hfin hp ih1 ih2 ih3 => exact sim_range hg hp ch hN hN2 hL2 hlen hM0 hM ih1 hpc ih2 ih3 hfin
  | known hk hq =>
    intro ρ w args' r hr
    rcases hK _ _ _ _ hk ρ w args' r hr with ⟨e1, e2⟩ | ⟨v', w', e1, v, h', ρ', e2, e3⟩
    · refine .inl ⟨e1, Calls.mono e2 fun e w' q => ?_⟩
      cases e with
      | returned v' => obtain ⟨v, h', ρ', q1, q2⟩ := q; exact ⟨v, h', ρ', hq v h' q1, q2⟩
      | panicked c => exact q.elim
      | outgrown => exact q.elim
    · exact .inr ⟨v', w', e1, v, h', ρ', hq v h' e2, e3⟩
end
end Go.V
namespace Go.V
set_option linter.unusedVariables false
set_option linter.unusedSectionVars false
set_option linter.unusedSimpArgs false
variable [Sy]
section
variable {P : Program} {K : Tb} {ρ : Ren} {h : Hp} {w : World}
def ρ0 : Ren := fun _ => none
theorem Rel.nothing (w : World) : Rel ρ0 Hp.empty w :=
  ⟨fun b i e => (by cases e), fun b i B e => (by cases e), fun b b' i i' e => (by cases e), fun b _ => rfl⟩
def Bare (h : Hp) : Prop := ∀ b, ¬ own h b
theorem Bare.empty : Bare Hp.empty := fun b ⟨B, q, _⟩ => by cases q
def Rel.see (ρ : Ren) (h : Hp) (g off : Nat) : Ren := ρ.put h.next ⟨g, off, 0, 0, 0⟩
theorem Bare.see (hb : Bare h) (vs : List Val) : Bare (h.new (.ro vs)) := fun b ⟨B, q1, q2⟩ => by
  rw [Hp.get_new] at q1
  split at q1
  · obtain rfl := Option.some.inj q1; cases q2
  · exact hb b ⟨B, q1, q2⟩
theorem Rel.view (r : Rel ρ h w) (hb : Bare h) {g off : Nat} {vs : List Val} {us : List Value} (h1 : vs.all Val.one = true) (hv : VRL ρ vs us) (hr : ∀ j u, us[j]? = some u → w.cell? ⟨g, off + j, none⟩ = some u) (hg : g < w.heap.size) :
    Rel (Rel.see ρ h g off) (h.new (.ro vs)) w ∧ ρ.le (Rel.see ρ h g off) ∧ (Rel.see ρ h g off) h.next = some ⟨g, off, 0, 0, 0⟩ := by
  have hle := Ren.le_put (ρ := ρ) (b := h.next) ⟨g, off, 0, 0, 0⟩ r.free
  have hput : ∀ b i, (Rel.see ρ h g off) b = some i → (b = h.next ∧ i = ⟨g, off, 0, 0, 0⟩) ∨ (b ≠ h.next ∧ ρ b = some i) := fun b i e => by
    unfold Rel.see Ren.put at e
    split at e
    · rename_i q; exact .inl ⟨q, (Option.some.inj e).symm⟩
    · rename_i q; exact .inr ⟨q, e⟩
  refine ⟨⟨fun b i e => ?_, fun b i B e f => ?_, fun b b' i i' e e' l l' _ => absurd l' (hb.see vs b'), fun k hk => ?_⟩, hle, by simp [Rel.see, Ren.put]⟩
  · rcases hput b i e with ⟨rfl, rfl⟩ | ⟨_, e⟩
    · exact ⟨Nat.lt_succ_self _, hg⟩
    · have := r.dom b i e; exact ⟨Nat.lt_succ_of_lt this.1, this.2⟩
  · rcases hput b i e with ⟨rfl, rfl⟩ | ⟨hk, e⟩
    · rw [Hp.get_new, if_pos rfl] at f
      obtain rfl := Option.some.inj f
      refine ⟨h1, fun j u hj => ?_⟩
      obtain ⟨u', q1, q2⟩ := hv.at hj
      exact ⟨u', hr j u' q1, q2.mono hle⟩
    · rw [Hp.get_new, if_neg hk] at f
      exact (r.blk b i B e f).congr hle rfl
  · have hk' : h.next + 1 ≤ k := hk
    rw [Hp.get_new, if_neg (by omega)]; exact r.wf k (by omega)
theorem XW.back {f : FuncId} {fn : Func} {c : Code} {args : List Val} {args' : List Value} {M : Val → Hp → Prop} (hK : KOk P K) (hf : P.funcs[f]? = some fn) (hb : fn.body = some c) (hn : fn.name ≠ "runtime.NumGoroutine") (r : Rel ρ h w) (hv : VRL ρ args args') (x : XW P K (.call f args h) fun o => ∃ v h', o = .call v h' ∧ M v h') :
    Calls P f args'.toArray w (retOnly' fun v' w' => ∃ v h' ρ', M v h' ∧ VR ρ' v v' ∧ Rel ρ' h' w' ∧ Ext ρ h w ρ' h' w') := by
  rcases sim_all hK x ρ w args' r hv with ⟨_, e2⟩ | ⟨v', w', e1, _⟩
  · refine Calls.mono e2 fun e w' q => ?_
    cases e with
    | returned v' =>
      obtain ⟨v, h', ρ', ⟨v2, h2, e, q1⟩, q2⟩ := q
      obtain ⟨rfl, rfl⟩ := Out.call.inj e
      exact ⟨_, _, ρ', q1, q2⟩
    | panicked c => exact q.elim
    | outgrown => exact q.elim
  · rw [run_enter hf hb hn args'.toArray w] at e1
    cases e1
structure Kept (w w' : World) : Prop where
  os : w'.os = w.os
  tape : w'.tape = w.tape
  output : w'.output = w.output
  size : w.heap.size ≤ w'.heap.size
  block : ∀ k, k < w.heap.size → w'.heap[k]? = w.heap[k]?
  drawn : w.drawn ≤ w'.drawn
theorem Ext.kept {ρ' : Ren} {h' : Hp} {w' : World} (x : Ext ρ h w ρ' h' w') (hb : Bare h) : Kept w w' :=
  ⟨x.os, x.tape, x.output, x.size, fun k hk => (x.frame k hk fun b i _ q => absurd q (hb b)).1, x.drawn⟩
theorem XW.law {f : FuncId} {fn : Func} {c : Code} {args : List Val} {args' : List Value} (hK : KOk P K) (hf : P.funcs[f]? = some fn) (hb : fn.body = some c) (hn : fn.name ≠ "runtime.NumGoroutine") (r : Rel ρ h w) (hh : Bare h) (hv : VRL ρ args args') (x : XW P K (.call f args h) fun o => ∃ v h', o = .call v h' ∧ v = .b true) :
    Calls P f args'.toArray w (retOnly' fun v' w' => v' = .bool true ∧ Kept w w') := by
  refine Calls.mono (XW.back hK hf hb hn r hv (M := fun v _ => v = .b true) x) fun e w' q => ?_
  cases e with
  | returned v' =>
    obtain ⟨v, h', ρ', rfl, q2, q3, q4⟩ := q
    cases q2
    exact ⟨rfl, q4.kept hh⟩
  | panicked c => exact q.elim
  | outgrown => exact q.elim
end
end Go.V
namespace Go.V
set_option linter.unusedVariables false
set_option linter.unusedSectionVars false
set_option linter.unusedSimpArgs false
variable [Sy]
mutual
def Val.eqB : Val → Val → Bool
  | .b x, .b y => x == y
  | .i k n, .i j m => decide (k = j) && decide (n = m)
  | .s x, .s y => decide (x = y)
  | .p a, .p b => decide (a = b)
  | .sl a n c, .sl b m d => decide (a = b) && decide (n = m) && decide (c = d)
  | .es, .es => true
  | .m a, .m b => decide (a = b)
  | .f g cs, .f g' ds => decide (g = g') && eqLB cs ds
  | .nf, .nf => true
  | .yl l, .yl l' => decide (l = l')
  | .y k j lo hi, .y k' j' lo' hi' => decide (k = k') && decide (j = j') && decide (lo = lo') && decide (hi = hi')
  | .agg cs, .agg ds => eqLB cs ds
  | .tup cs, .tup ds => eqLB cs ds
  | _, _ => false
def eqLB : List Val → List Val → Bool
  | [], [] => true
  | x :: r, y :: s => Val.eqB x y && eqLB r s
  | _, _ => false
end
mutual
theorem Val.eqB_eq : ∀ {x y : Val}, Val.eqB x y = true → x = y := by
  intro x y h
  cases x <;> cases y <;> simp only [Val.eqB, Bool.and_eq_true, decide_eq_true_eq, beq_iff_eq, Bool.false_eq_true] at h
  · rw [h]
  · rw [h.1, h.2]
  · rw [h]
  · rw [h]
  · rw [h.1.1, h.1.2, h.2]
  · rfl
  · rw [h]
  · rw [h.1, eqLB_eq h.2]
  · rfl
  · rw [h.1.1.1, h.1.1.2, h.1.2, h.2]
  · rw [h]
  · rw [eqLB_eq h]
  · rw [eqLB_eq h]
theorem eqLB_eq : ∀ {x y : List Val}, eqLB x y = true → x = y := by
  intro x y h
  cases x with
  | nil => cases y with
    | nil => rfl
    | cons _ _ => simp [eqLB] at h
  | cons a r => cases y with
    | nil => simp [eqLB] at h
    | cons b s =>
      simp only [eqLB, Bool.and_eq_true] at h
      rw [Val.eqB_eq h.1, eqLB_eq h.2]
end
section
variable (P : Program)
def staysB (A : List Oper) (dr : Bool) (i : Nat) (pd : List Pend) (h : Hp) : Bool :=
  !dr || pd.all fun q => ((ancs A []).getD i 0).testBit q.idx || (match kindOf P q.op, op1 P q.env h q.op with
    | .read, some (v, _) => Val.eqB v q.v
    | _, _ => false)
def orderGo (A : List Oper) : Nat → List Nat → List Nat → List Nat
  | 0, _, acc => acc.reverse
  | n + 1, todo, acc =>
    let ready := todo.filter fun i => (opAt A i).after.toList.all fun e => !Region.binds .any e || acc.contains e.on
    match (ready.find? fun i => decide (kindOf P (opAt A i).op ≠ .eff)).or ready.head? with
    | some i => orderGo A n (todo.filter (· != i)) (i :: acc)
    | none => acc.reverse
def orderOf (A : List Oper) : List Nat := orderGo P A A.length (List.range A.length) []
def evJ : Nat → Job → Option Out
  | 0, _ => none
  | k + 1, .code n c env h => match c with
    | .skip => some (.code .nrm env h)
    | .label _ => some (.code .nrm env h)
    | .exit i => some (.code (.ext i) env h)
    | .ret => some (.code .ret env h)
    | .seq a b => (evJ k (.code n a env h)).bind fun o => match o with
      | .code .nrm env' h' => evJ k (.code n b env' h')
      | o => some o
    | .cond x a b => match evO env x with
      | some (.b t) => evJ k (.code n (bif t then a else b) env h)
      | _ => none
    | .block id a => (evJ k (.code n a env h)).map fun o => match o with
      | .code (.ext i) env' h' => .code (if i = id then .nrm else .ext i) env' h'
      | o => o
    | .loop a => (evJ k (.code n a env h)).bind fun o => match o with
      | .code .nrm env' h' => evJ k (.code n (.loop a) env' h')
      | o => some o
    | .region id A dr =>
      let L := bif dr then orderOf P A.toList else List.range A.toList.length
      if dstOk n A.toList = true ∧ (dr = true → P.follows .mixedOrders = true ∧ okL P A.toList L = true) then evJ k (.ops n A.toList dr L [] env h) else none
    | _ => none
  | k + 1, .ops n A dr L pd env h => match L with
    | [] => some (.code .nrm env h)
    | i :: L => if i < A.length then match wantO A env (opAt A i) with
      | some false => evJ k (.ops n A dr L pd (putO env (opAt A i).dst .no) h)
      | some true => match tgt env (opAt A i).op with
        | some (f, args) => (evJ k (.call f args h)).bind fun o => match o with
          | .call v h' => bif staysB P A dr i pd h' then evJ k (.ops n A dr L pd (putO env (opAt A i).dst v) h') else none
          | _ => none
        | none => (op1 P env h (opAt A i).op).bind fun q =>
          if kindOf P (opAt A i).op = .eff → staysB P A dr i pd q.2 = true then evJ k (.ops n A dr L (pdPut P A i env q.1 pd) (putO env (opAt A i).dst q.1) q.2) else none
      | none => none
      else none
  | k + 1, .call f args h => match P.funcs[f]? with
    | some fn => match fn.body with
      | some c => if fn.name ≠ "runtime.NumGoroutine" ∧ args.length ≤ fn.ntmps then (evJ k (.code fn.ntmps c (argE 0 args .lf) h)).bind fun o => match o with
        | .code .nrm env' h' => (resV P env' h' fn.results.toList).map fun vs => .call (oneV vs) h'
        | .code .ret env' h' => (resV P env' h' fn.results.toList).map fun vs => .call (oneV vs) h'
        | _ => none
        else none
      | none => none
    | none => none
end
theorem staysB_stays {P : Program} {A : List Oper} {dr : Bool} {i : Nat} {pd : List Pend} {h : Hp} (hb : staysB P A dr i pd h = true) : Stays P A dr i pd h := by
  intro hd q hq hbit
  subst hd
  simp only [staysB, Bool.not_true, Bool.false_or] at hb
  have := List.all_eq_true.1 hb q hq
  rw [hbit, Bool.false_or] at this
  split at this
  · rename_i v h' hk ho
    rw [ho]
    obtain ⟨rfl, _⟩ := kind_read hk ho
    rw [Val.eqB_eq this]
  · cases this
theorem evJ_sound {P : Program} {K : Tb} : ∀ (k : Nat) (j : Job) (o : Out), evJ P k j = some o → XW P K j (· = o) := by
  intro k
  induction k with
  | zero => intro j o h; simp [evJ] at h
  | succ k ih =>
    intro j o hj
    cases j with
    | code n c env h =>
      cases c with
      | skip => simp only [evJ, Option.some.injEq] at hj; exact .skip hj
      | label i => simp only [evJ, Option.some.injEq] at hj; exact .label hj
      | exit i => simp only [evJ, Option.some.injEq] at hj; exact .exit hj
      | ret => simp only [evJ, Option.some.injEq] at hj; exact .ret hj
      | seq a b =>
        simp only [evJ] at hj
        rw [Option.bind_eq_some_iff] at hj
        obtain ⟨o1, h1, h2⟩ := hj
        refine .seq (ih _ _ h1) (fun env' h' e => ?_) (fun e env' h' ne he => ?_)
        · subst e; exact ih _ _ h2
        · subst he
          cases e with
          | nrm => exact absurd rfl ne
          | ext i => exact Option.some.inj h2
          | ret => exact Option.some.inj h2
      | cond x a b =>
        simp only [evJ] at hj
        split at hj
        · rename_i t hx; exact .cond hx (ih _ _ hj)
        · cases hj
      | block id a =>
        simp only [evJ] at hj
        obtain ⟨o1, h1, h2⟩ := Option.map_eq_some_iff.1 hj
        refine .block (ih _ _ h1) fun e env' h' he => ?_
        subst he
        cases e <;> exact h2
      | loop a =>
        simp only [evJ] at hj
        rw [Option.bind_eq_some_iff] at hj
        obtain ⟨o1, h1, h2⟩ := hj
        refine .loop (ih _ _ h1) (fun env' h' e => ?_) (fun e env' h' ne he => ?_)
        · subst e; exact ih _ _ h2
        · subst he
          cases e with
          | nrm => exact absurd rfl ne
          | ext i => exact Option.some.inj h2
          | ret => exact Option.some.inj h2
      | region id A dr =>
        simp only [evJ] at hj
        split at hj
        · rename_i hc
          have := XW.region (P := P) (K := K) (id := id) (dr := dr) hc.1 (by
            cases dr with
            | true => simp only [if_true]; exact hc.2 rfl
            | false => simp) (ih _ _ hj)
          simpa using this
        · cases hj
      | _ => simp [evJ] at hj
    | ops n A dr L pd env h =>
      cases L with
      | nil => simp only [evJ, Option.some.injEq] at hj; exact .onil hj
      | cons i L =>
        simp only [evJ] at hj
        split at hj
        · rename_i hi
          split at hj
          · rename_i hw; exact .onot hi hw (ih _ _ hj)
          · rename_i hw
            split at hj
            · rename_i f args ht
              rw [Option.bind_eq_some_iff] at hj
              obtain ⟨o1, h1, h2⟩ := hj
              refine .ocall hi hw ht (ih _ _ h1) (fun v h' e => ?_) (fun v h' e => ?_)
              · subst e
                simp only at h2
                cases hs : staysB P A dr i pd h' with
                | true => exact staysB_stays hs
                | false => rw [hs] at h2; cases h2
              · subst e
                simp only at h2
                cases hs : staysB P A dr i pd h' with
                | true => rw [hs] at h2; exact ih _ _ h2
                | false => rw [hs] at h2; cases h2
            · rename_i ht
              rw [Option.bind_eq_some_iff] at hj
              obtain ⟨q, h1, h2⟩ := hj
              split at h2
              · rename_i hs
                exact .oone hi hw h1 (fun hk => staysB_stays (hs hk)) (ih _ _ h2)
              · cases h2
          · cases hj
        · cases hj
    | call f args h =>
      simp only [evJ] at hj
      split at hj
      · rename_i fn hf
        split at hj
        · rename_i c hb
          split at hj
          · rename_i hc
            rw [Option.bind_eq_some_iff] at hj
            obtain ⟨o1, h1, h2⟩ := hj
            refine .call hf hb hc.1 hc.2 (ih _ _ h1) fun e env' h' he => ?_
            subst he
            cases e with
            | nrm =>
              obtain ⟨vs, q1, q2⟩ := Option.map_eq_some_iff.1 h2
              exact ⟨.inl rfl, vs, q1, q2⟩
            | ret =>
              obtain ⟨vs, q1, q2⟩ := Option.map_eq_some_iff.1 h2
              exact ⟨.inr rfl, vs, q1, q2⟩
            | ext i => cases h2
          · cases hj
        · cases hj
      · cases hj
end Go.V
namespace Go.V
set_option linter.unusedVariables false
set_option linter.unusedSectionVars false
set_option linter.unusedSimpArgs false
variable [Sy]
def sliceBytes (h : Hp) : Val → Option (List UInt8)
  | .sl (some a) n c => (firstV h 1 n (.sl (some a) n c)).bind bytesV
  | .sl none _ _ => some []
  | .es => some []
  | _ => none
section
variable {P : Program} {ρ : Ren} {h : Hp} {w : World}
theorem run_loadBytes : ∀ (ns : List Int) (w : World) (a : Addr) (acc : ByteArray), (∀ j n, ns[j]? = some n → w.cell? (a.add j) = some (.int .u8 n)) →
    (Extern.Bytes.loadBytes a ns.length acc).run P w = .ok ⟨acc.data ++ (ns.map fun n => UInt8.ofNat n.toNat).toArray⟩ w
  | [], w, a, acc, _ => by simp [Extern.Bytes.loadBytes]
  | x :: xs, w, a, acc, h => by
    have h0 := h 0 x rfl
    have ha : a.add 0 = a := by simp [Addr.add]
    rw [ha] at h0
    have ih := run_loadBytes xs w (a.add 1) (acc.push x.toNat.toUInt8) fun j b hj => by
      have e : (a.add 1).add j = a.add (j + 1) := by simp [Addr.add, Nat.add_assoc, Nat.add_comm 1 j]
      rw [e]; exact h (j + 1) b (by simpa using hj)
    have hl : (load a).run P w = .ok (.int .u8 x) w := by simp [run_load, h0]
    simp only [List.length_cons, Extern.Bytes.loadBytes, Sem.run_bind, hl, Result.andThen_ok]
    rw [ih]
    simp [ByteArray.push]
theorem sim_sliceBytes {v : Val} {u : Value} {xs : List UInt8} (r : Rel ρ h w) (hv : VR ρ v u) (hs : sliceBytes h v = some xs) : (Extern.Bytes.bytesOf u).run P w = .ok ⟨xs.toArray⟩ w := by
  have key : ∀ (b o n cc : Nat) (i : Info), ρ b = some i → ((if n = 0 then some [] else rd h b o (n * 1)).bind bytesV) = some xs → (Extern.Bytes.bytesOf (.slice (some ⟨i.g, i.base + o, none⟩) n cc)).run P w = .ok ⟨xs.toArray⟩ w := fun b o n cc i hb hq => by
    rw [Option.bind_eq_some_iff] at hq
    obtain ⟨c, h1, h2⟩ := hq
    have hx : ∃ us, VRL ρ c us ∧ us.length = n ∧ w.rangeAt i.g (i.base + o) us := by
      split at h1
      · rename_i h0
        obtain rfl := Option.some.inj h1
        exact ⟨[], VRL.nil, by simp [h0], fun j v hv => by simp at hv⟩
      · obtain ⟨_, us, g1, g2, g3⟩ := r.rd hb h1
        exact ⟨us, g1, by rw [g2]; simp, g3⟩
    obtain ⟨us, g1, g2, g3⟩ := hx
    obtain ⟨ns, rfl, rfl⟩ := bytes_VR h2 g1
    have := run_loadBytes (P := P) ns w ⟨i.g, i.base + o, none⟩ .empty fun j n hj => by
      have := g3 j (.int .u8 n) (by simp [hj])
      have e : Addr.add ⟨i.g, i.base + o, none⟩ j = ⟨i.g, i.base + o + j, none⟩ := by
        unfold Addr.add
        split
        · rename_i q; subst q; rfl
        · rfl
      rw [e]; exact this
    have hl : ns.length = n := by simpa using g2
    subst hl
    simp only [Extern.Bytes.bytesOf, this]
    congr 2
    simp [ByteArray.empty, ByteArray.emptyWithCapacity]
    rfl
  cases hv with
  | sn => obtain rfl := Option.some.inj hs; simp [Extern.Bytes.bytesOf]; rfl
  | es => obtain rfl := Option.some.inj hs; simp [Extern.Bytes.bytesOf, Extern.Bytes.loadBytes]; rfl
  | sk hb hk => exact key _ _ _ _ _ hb hs
  | so hb hk q1 q2 => exact key _ _ _ _ _ hb hs
  | _ => simp [sliceBytes] at hs
def KExt (P : Program) : Tb := fun f args h M => ∃ g u v a b, P.funcs[f]? = some g ∧ (g.name == "runtime.NumGoroutine") = false ∧ g.body.isNone = true ∧ Extern.findNext g = none ∧ Extern.find g = some Extern.BytealgCompare.compare ∧
  args = [u, v] ∧ sliceBytes h u = some a ∧ sliceBytes h v = some b ∧ M (.i .i64 (Lib.compareBytes a b)) h
theorem KExt_ok : KOk P (KExt P) := by
  rintro f args h M ⟨g, u, v, a, b, hf, hname, hb, hn, he, rfl, hu, hv, hM⟩ ρ w args' r hr
  match args', hr with
  | [u', v'], hr =>
    have h1 := run_callFunc_extern (P := P) hf hname hb hn he #[u', v'] w
    have h2 : (Extern.BytealgCompare.compare #[u', v']).run P w = .ok (.int .i64 (Lib.compareBytes a b)) w := by
      change ((Extern.Bytes.bytesOf u') >>= fun a => (Extern.Bytes.bytesOf v') >>= fun b => pure (goInt (Extern.BytealgCompare.cmp a b))).run P w = _
      simp only [Sem.run_bind, sim_sliceBytes r hr.head hu, sim_sliceBytes r hr.tail.head hv, Result.andThen_ok, Sem.run_pure, goInt]
      rw [Lib.cmp_eq]
    rw [h2] at h1
    exact .inr ⟨_, w, h1, _, h, ρ, hM, .i _ _, r, Ext.refl _ _ _⟩
  | [], hr => exact absurd hr.1 (by simp)
  | [_], hr => exact absurd hr.1 (by simp)
  | _ :: _ :: _ :: _, hr => exact absurd hr.1 (by simp)
end
end Go.V
namespace Go.V
set_option linter.unusedVariables false
set_option linter.unusedSectionVars false
set_option linter.unusedSimpArgs false
variable [Sy]
section
variable {P : Program} {K K' : Tb} {ρ : Ren} {h : Hp} {w w' : World}
theorem Rel.kept (r : Rel ρ h w) (k : Kept w w') : Rel ρ h w' ∧ Ext ρ h w ρ h w' :=
  ⟨⟨fun b i e => ⟨(r.dom b i e).1, Nat.lt_of_lt_of_le (r.dom b i e).2 k.size⟩, fun b i B e f => (r.blk b i B e f).congr (Ren.le.refl _) (k.block _ (r.dom b i e).2), r.inj, r.wf⟩,
    Ren.le.refl _, Nat.le_refl _, fun b hb _ => ⟨hb, rfl⟩, k.size, fun g hg hn => ⟨k.block g hg, hn⟩, k.os, k.tape, k.output, k.drawn⟩
theorem Tb.or (hK : KOk P K) (hK' : KOk P K') : KOk P (fun f args h M => K f args h M ∨ K' f args h M) := by
  rintro f args h M (q | q)
  · exact hK f args h M q
  · exact hK' f args h M q
def KClosed (cl : List (FuncId × Bool)) : Tb := fun f args h M => ∃ b, (f, b) ∈ cl ∧ args = [] ∧ M (.b b) h
theorem KClosed_ok (hK : KOk P K) {cl : List (FuncId × Bool)} (hcl : ∀ f b, (f, b) ∈ cl → XW P K (.call f [] Hp.empty) fun o => ∃ h', o = .call (.b b) h') : KOk P (KClosed cl) := by
  rintro f args h M ⟨b, hm, rfl, hM⟩ ρ w args' r hr
  have := sim_all hK (hcl f b hm) ρ0 w args' (Rel.nothing w) ⟨hr.1, fun j u u' e => by simp at e⟩
  have fin : ∀ v' w', (∃ v h' ρ', (∃ h'', Out.call v h' = .call (.b b) h'') ∧ VR ρ' v v' ∧ Rel ρ' h' w' ∧ Ext ρ0 Hp.empty w ρ' h' w') → ∃ v h' ρ', M v h' ∧ VR ρ' v v' ∧ Rel ρ' h' w' ∧ Ext ρ h w ρ' h' w' := by
    rintro v' w' ⟨v, h', ρ', ⟨h'', e⟩, q2, q3, q4⟩
    obtain ⟨rfl, rfl⟩ := Out.call.inj e
    cases q2
    obtain ⟨s1, s2⟩ := r.kept (q4.kept Bare.empty)
    exact ⟨_, h, ρ, hM, .b _, s1, s2⟩
  rcases this with ⟨e1, e2⟩ | ⟨v', w', e1, q⟩
  · refine .inl ⟨e1, Calls.mono e2 fun e w' q => ?_⟩
    cases e with
    | returned v' => exact fin v' w' q
    | panicked c => exact q.elim
    | outgrown => exact q.elim
  · exact .inr ⟨v', w', e1, fin v' w' q⟩
def evB (P : Program) (k : Nat) (f : FuncId) (b : Bool) : Bool := match evJ P k (.call f [] Hp.empty) with
  | some (.call (.b x) _) => x == b
  | _ => false
theorem evB_sound {k : Nat} {f : FuncId} {b : Bool} (h : evB P k f b = true) : XW P K (.call f [] Hp.empty) fun o => ∃ h', o = .call (.b b) h' := by
  unfold evB at h
  split at h
  · rename_i x h' he
    refine (evJ_sound k _ _ he).mono fun o e => ?_
    subst e
    exact ⟨h', by rw [eq_of_beq h]⟩
  · cases h
end
end Go.V
namespace Go.V
set_option linter.unusedVariables false
set_option linter.unusedSectionVars false
set_option linter.unusedSimpArgs false
section paths
variable {α : Type}
def pathF : Nat → Nat → List Bool
  | 0, _ => []
  | f + 1, n => match n with
    | 0 => []
    | m + 1 => Nat.beq (Nat.mod m 2) 0 :: pathF f (Nat.div m 2)
def path (n : Nat) : List Bool := pathF (Nat.succ n) n
noncomputable section
variable {β : Type}
def gK (p : List Bool) : T α → (α → Option β) → Option β :=
  List.rec (fun t k => T.rec (fun _ => none) (fun v _ _ _ _ k => Option.rec (fun _ => none) (fun v k => k v) v k) t k)
    (fun b _ ih t k => T.rec (fun _ _ _ => none) (fun _ l r _ _ b ih k => Bool.rec (fun _ r ih k => ih r k) (fun l _ ih k => ih l k) b l r ih k) t b ih k) p
def gD (p : List Bool) (d : α) (t : T α) (k : α → β) : β :=
  List.rec (fun t d k => T.rec (fun d k => k d) (fun v _ _ _ _ d k => Option.rec (fun d k => k d) (fun v _ k => k v) v d k) t d k)
    (fun b _ ih t d k => T.rec (fun _ _ d k => k d) (fun _ l r _ _ b ih d k => Bool.rec (fun _ r ih d k => ih r d k) (fun l _ ih d k => ih l d k) b l r ih d k) t b ih d k) p t d k
def sK (p : List Bool) : T α → α → (T α → β) → β :=
  List.rec (fun t x k => T.rec (fun x k => k (.nd (some x) .lf .lf)) (fun _ l r _ _ x k => k (.nd (some x) l r)) t x k)
    (fun b _ ih t x k => T.rec (fun b ih x k => Bool.rec (fun ih x k => ih .lf x fun r => k (.nd none .lf r)) (fun ih x k => ih .lf x fun l => k (.nd none l .lf)) b ih x k)
      (fun v l r _ _ b ih x k => Bool.rec (fun v l r ih x k => ih r x fun r => k (.nd v l r)) (fun v l r ih x k => ih l x fun l => k (.nd v l r)) b v l r ih x k) t b ih x k) p
def nthK (i : Nat) : List α → (α → Option β) → Option β :=
  Nat.rec (fun l k => List.rec (fun _ => none) (fun v _ _ k => k v) l k) (fun _ ih l k => List.rec (fun _ _ => none) (fun _ r _ ih k => ih r k) l ih k) i
def obK (o : Option α) (k : α → Option β) : Option β := Option.rec (fun _ => none) (fun v k => k v) o k
abbrev VC (β : Type) := Val → β
def natK (v : Val) (k : Nat → Option β) : Option β := Val.rec (motive_1 := fun _ => (Nat → Option β) → Option β) (motive_2 := fun _ => PUnit) (fun _ _ => none) (fun _ n k => Int.rec (fun n k => k n) (fun _ _ => none) n k) (fun _ _ => none) (fun _ _ => none) (fun _ _ _ _ => none) (fun _ => none) (fun _ _ => none) (fun _ _ _ _ => none) (fun _ => none) (fun _ => none) (fun _ _ _ _ _ => none) (fun _ _ => none) (fun _ _ _ => none) (fun _ _ _ => none) ⟨⟩ (fun _ _ _ _ => ⟨⟩) v k
def ptrK (v : Val) (k : Nat → Nat → Option β) : Option β := Val.rec (motive_1 := fun _ => (Nat → Nat → Option β) → Option β) (motive_2 := fun _ => PUnit) (fun _ _ => none) (fun _ _ _ => none) (fun _ _ => none) (fun a k => Option.rec (fun _ => none) (fun q k => Prod.rec (fun b o k => k b o) q k) a k) (fun _ _ _ _ => none) (fun _ => none) (fun _ _ => none) (fun _ _ _ _ => none) (fun _ => none) (fun _ => none) (fun _ _ _ _ _ => none) (fun _ _ => none) (fun _ _ _ => none) (fun _ _ _ => none) ⟨⟩ (fun _ _ _ _ => ⟨⟩) v k
def aggK (v : Val) (k : List Val → Option β) : Option β := Val.rec (motive_1 := fun _ => (List Val → Option β) → Option β) (motive_2 := fun _ => PUnit) (fun _ _ => none) (fun _ _ _ => none) (fun _ _ => none) (fun _ _ => none) (fun _ _ _ _ => none) (fun _ => none) (fun _ _ => none) (fun _ _ _ _ => none) (fun _ => none) (fun _ => none) (fun _ _ _ _ _ => none) (fun _ _ => none) (fun l _ k => k l) (fun _ _ _ => none) ⟨⟩ (fun _ _ _ _ => ⟨⟩) v k
def boolK (v : Val) (k : Bool → Option β) : Option β := Val.rec (motive_1 := fun _ => (Bool → Option β) → Option β) (motive_2 := fun _ => PUnit) (fun x k => k x) (fun _ _ _ => none) (fun _ _ => none) (fun _ _ => none) (fun _ _ _ _ => none) (fun _ => none) (fun _ _ => none) (fun _ _ _ _ => none) (fun _ => none) (fun _ => none) (fun _ _ _ _ _ => none) (fun _ _ => none) (fun _ _ _ => none) (fun _ _ _ => none) ⟨⟩ (fun _ _ _ _ => ⟨⟩) v k
end
end paths
inductive FA where
  | l (i : Nat)
  | e (n : Nat)
  | c (v : Val)
inductive EqD where
  | b | p | s | f | m
  | flat (l : List TypeDesc)
inductive KeyD where
  | i (k : IntKind)
  | s | b
  | flat (l : List TypeDesc)
inductive FBlk where
  | cells (z n : Nat) (t : T Val) (zs : List Val)
  | map (ck : Nat) (es : List (Nat × Val × Val))
  | dead
structure FHp where
  next : Nat
  t : T FBlk
inductive FOp where
  | mv (x : FA)
  | pick (c a b : FA)
  | alloc (n : Nat) (cells : List Val)
  | box (x : FA)
  | build (zero : List Val) (ps : List (Nat × Nat × FA))
  | buildSl (z len : Nat) (zero : List Val) (ps : List (Nat × Nat × FA))
  | load1 (a : FA)
  | loadN (n : Nat) (a : FA)
  | store1 (a x : FA)
  | storeN (n : Nat) (a x : FA)
  | nilc (x : FA)
  | bin (op : BinOp) (x y : FA)
  | eq (neg : Bool) (d : EqD) (x y : FA)
  | un (op : UnOp) (x : FA)
  | convI (k : IntKind) (x : FA)
  | convSB (x : FA)
  | convBS (x : FA)
  | convSS (x : FA)
  | convBB (x : FA)
  | mkf (f : FuncId) (caps : List FA)
  | mkmap
  | mksl (z : Nat) (zero : List Val) (l c : FA)
  | slStr (x : FA) (lo hi : Option FA)
  | slSl (z : Nat) (x : FA) (lo hi mx : Option FA)
  | slArr (n z : Nat) (x : FA) (lo hi mx : Option FA)
  | fad (off : Nat) (x : FA)
  | fld1 (off : Nat) (x : FA)
  | fldN (off n : Nat) (x : FA)
  | ixArr (n z : Nat) (x i : FA)
  | ixSl (z : Nat) (x i : FA)
  | ixv1 (n : Nat) (x i : FA)
  | ixvN (n z : Nat) (x i : FA)
  | ixs (x i : FA)
  | look (d : KeyD) (zero : Val) (m k : FA) (ok : Bool)
  | mapup (d : KeyD) (m k x : FA)
  | mapen (d : KeyD) (zero : Val) (m k : FA)
  | mapst (m s x : FA)
  | del (d : KeyD) (m k : FA)
  | ext (x : FA) (i : Nat)
  | app (z : Nat) (s x : FA)
  | appZ (z : Nat) (zero : List Val) (s n : FA)
  | copy (z : Nat) (d s : FA)
  | clear (zero : List Val) (d : FA)
  | lenC (n : Nat) (x : FA)
  | lenP (n : Nat) (x : FA)
  | lenStr (x : FA)
  | lenSl (x : FA)
  | lenMap (x : FA)
  | cap (x : FA)
  | mm (mx : Bool) (l : List FA)
  | bad
inductive FI where
  | n (o : FOp)
  | o (o : FOp)
  | s (d : Nat) (o : FOp)
  | cn (f : FA) (args : List FA)
  | co (f : FA) (args : List FA)
  | cs (d : Nat) (f : FA) (args : List FA)
  | g (x : FA) (w : Bool) (d : Option Nat) (o : FOp)
  | gc (x : FA) (w : Bool) (d : Option Nat) (f : FA) (args : List FA)
  | chk (l : List (Option (FA × Bool) × FA × FOp))
inductive FC where
  | skip
  | exit (i : Nat)
  | ret
  | seq (a b : FC)
  | cond (x : FA) (a b : FC)
  | block (i : Nat) (a : FC)
  | loop (a : FC)
  | ops (l : List FI)
  | opc (l : List FI) (x : FA) (a b : FC)
  | rng (al : List (Nat × Nat)) (f : FA) (p : Nat) (a b : FC)
inductive FRes where
  | t (n : Nat)
  | c1 (n : Nat)
  | cN (k n : Nat)
structure FF where
  body : FC
  n : Nat
  res : List FRes
noncomputable section
variable {β : Type}
abbrev CR := Option (Ex × Env × FHp)
abbrev FR := Option (Val × FHp)
abbrev KV := Val → FHp → CR
def nthL (zs : List Val) (i : Nat) : Val := (zs[i]?).getD .no
def getK (h : FHp) (b : Nat) (k : Nat → Nat → T Val → List Val → Option β) : Option β := FHp.rec (fun _ t b k => gK (path b) t fun x => FBlk.rec (fun z n t zs k => k z n t zs) (fun _ _ _ => none) (fun _ => none) x k) h b k
def getM (h : FHp) (b : Nat) (k : Nat → List (Nat × Val × Val) → Option β) : Option β := FHp.rec (fun _ t => gK (path b) t fun x => FBlk.rec (fun _ _ _ _ => none) k none x) h
def setK (h : FHp) (b : Nat) (x : FBlk) (k : FHp → β) : β := FHp.rec (fun n t b x k => sK (path b) t x fun t => k ⟨n, t⟩) h b x k
def newK (h : FHp) (x : FBlk) (k : Nat → FHp → β) : β := FHp.rec (fun n t x k => sK (path n) t x fun t => k n ⟨Nat.succ n, t⟩) h x k
def cellK (t : T Val) (zs : List Val) (i : Nat) (k : Val → β) : β := gD (path i) (nthL zs (Nat.mod i zs.length)) t k
def cellF (t : T Val) (zs : List Val) (i : Nat) : Val := cellK t zs i fun v => v
def cellsF (t : T Val) (zs : List Val) (o n : Nat) : List Val := Nat.rec (fun _ => []) (fun _ ih o => cellF t zs o :: ih (Nat.succ o)) n o
def putK (vs : List Val) : T Val → Nat → (T Val → β) → β := List.rec (fun t _ k => k t) (fun v _ ih t o k => sK (path o) t v fun t => ih t (Nat.succ o) k) vs
def rdK (h : FHp) (b o n : Nat) (k : List Val → Option β) : Option β := getK h b fun _ m t zs => Bool.rec none (k (cellsF t zs o n)) (Nat.ble (Nat.add o n) m)
def rd1K (h : FHp) (b o : Nat) (k : Val → Option β) : Option β := getK h b fun _ m t zs => Bool.rec none (cellK t zs o k) (Nat.blt o m)
def wrK (h : FHp) (b o n : Nat) (vs : List Val) (k : FHp → Option β) : Option β := getK h b fun z m t zs => Bool.rec none (putK vs t o fun t => setK h b (.cells z m t zs) k) (Nat.ble (Nat.add o n) m && vs.all Val.one)
def aK (a : FA) : List Val → Env → (Val → Option β) → Option β := FA.rec (fun i ls _ k => nthK i ls k) (fun n _ e k => gK (path n) e k) (fun v _ _ k => k v) a
def wrapF (k : IntKind) (n : Int) : Int := Int.rec (fun m => IntKind.rec (k.wrap (.ofNat m)) (k.wrap (.ofNat m)) (k.wrap (.ofNat m)) (Bool.rec (k.wrap (.ofNat m)) (.ofNat m) (Nat.blt m 9223372036854775808)) (.ofNat (Nat.mod m 256)) (.ofNat (Nat.mod m 65536)) (.ofNat (Nat.mod m 4294967296)) (.ofNat (Nat.mod m 18446744073709551616)) k) (fun m => k.wrap (.negSucc m)) n
def uMod (k : IntKind) (m : Nat) : Nat := IntKind.rec 0 0 0 0 (Nat.mod m 256) (Nat.mod m 65536) (Nat.mod m 4294967296) (Nat.mod m 18446744073709551616) k
def unsg (k : IntKind) : Bool := IntKind.rec false false false false true true true true k
def kBits (k : IntKind) : Nat := IntKind.rec 8 16 32 64 8 16 32 64 k
def kN (k : IntKind) : Nat := IntKind.rec 0 1 2 3 4 5 6 7 k
abbrev IB := IntKind → Int → Int → Option Val
def both (f : IntKind → Nat → Nat → Option Val) (s : IB) : IB := fun k a b => Int.rec (fun m f s k b => Int.rec (fun n f _ k m => f k m n) (fun n _ s k m => s k (.ofNat m) (.negSucc n)) b f s k m) (fun m _ s k b => s k (.negSucc m) b) a f s k b
def iAdd : IB := both (fun k m n => some (.i k (wrapF k (.ofNat (Nat.add m n))))) (ibin .add)
def iSub : IB := both (fun k m n => Bool.rec (ibin .sub k (.ofNat m) (.ofNat n)) (some (.i k (wrapF k (.ofNat (Nat.sub m n))))) (Nat.ble n m)) (ibin .sub)
def iMul : IB := both (fun k m n => some (.i k (wrapF k (.ofNat (Nat.mul m n))))) (ibin .mul)
def iQuo : IB := both (fun k m n => Nat.rec none (fun _ _ => some (.i k (wrapF k (.ofNat (Nat.div m n))))) n) (ibin .quo)
def iRem : IB := both (fun k m n => Nat.rec none (fun _ _ => some (.i k (.ofNat (Nat.mod m n)))) n) (ibin .rem)
def iAnd : IB := both (fun k m n => Bool.rec (ibin .and k (.ofNat m) (.ofNat n)) (some (.i k (.ofNat (Nat.land (uMod k m) (uMod k n))))) (unsg k)) (ibin .and)
def iOr : IB := both (fun k m n => Bool.rec (ibin .or k (.ofNat m) (.ofNat n)) (some (.i k (.ofNat (Nat.lor (uMod k m) (uMod k n))))) (unsg k)) (ibin .or)
def iXor : IB := both (fun k m n => Bool.rec (ibin .xor k (.ofNat m) (.ofNat n)) (some (.i k (.ofNat (Nat.xor (uMod k m) (uMod k n))))) (unsg k)) (ibin .xor)
def least (k : IntKind) (n : Nat) : Nat := Bool.rec (kBits k) n (Nat.ble n (kBits k))
def iShl : IB := both (fun k m n => some (.i k (wrapF k (.ofNat (Nat.mul m (Nat.pow 2 (least k n))))))) (shV .shl)
def iShr : IB := both (fun k m n => some (.i k (.ofNat (Nat.div m (Nat.pow 2 (least k n)))))) (shV .shr)
def iEq : IB := both (fun k m n => some (.b (Nat.beq m n))) (ibin .eql)
def iNe : IB := both (fun k m n => some (.b (Bool.rec true false (Nat.beq m n)))) (ibin .neq)
def iLt : IB := both (fun k m n => some (.b (Nat.blt m n))) (ibin .lss)
def iLe : IB := both (fun k m n => some (.b (Nat.ble m n))) (ibin .leq)
def iGt : IB := both (fun k m n => some (.b (Nat.blt n m))) (ibin .gtr)
def iGe : IB := both (fun k m n => some (.b (Nat.ble n m))) (ibin .geq)
def IK (f : IB) (k j : IntKind) (a c : Int) : Option Val := Bool.rec (fun _ _ _ _ => none) (fun f k a c => f k a c) (Nat.beq (kN k) (kN j)) f k a c
def IJ (f : IB) (k _ : IntKind) (a c : Int) : Option Val := f k a c
def iOp (op : BinOp) : IntKind → IntKind → Int → Int → Option Val := BinOp.rec (motive := fun _ => IntKind → IntKind → Int → Int → Option Val) (IK iAdd) (IK iSub) (IK iMul) (IK iQuo) (IK iRem) (IK iAnd) (IK iOr) (IK iXor) (IJ iShl) (IJ iShr) (IK (ibin .andNot)) (IK iEq) (IK iNe) (IK iLt) (IK iLe) (IK iGt) (IK iGe) op
def binS (op : BinOp) (x y : Val) : Option Val := match x, y with
  | .s a, .s c => strV op a c
  | _, _ => none
def binI (op : BinOp) (k : IntKind) (a : Int) (y : Val) : Option Val := Val.rec (motive_1 := fun _ => BinOp → IntKind → Int → Option Val) (motive_2 := fun _ => PUnit) (fun _ _ _ _ => none) (fun j c op k a => iOp op k j a c) (fun _ _ _ _ => none) (fun _ _ _ _ => none) (fun _ _ _ _ _ _ => none) (fun _ _ _ => none) (fun _ _ _ _ => none) (fun _ _ _ _ _ _ => none) (fun _ _ _ => none) (fun _ _ _ => none) (fun j m lo hi op k a => yV op (.i k a) (.y j m lo hi)) (fun _ _ _ _ => none) (fun _ _ _ _ _ => none) (fun _ _ _ _ _ => none) ⟨⟩ (fun _ _ _ _ => ⟨⟩) y op k a
def binF (op : BinOp) (x y : Val) : Option Val := Val.rec (motive_1 := fun _ => BinOp → Val → Option Val) (motive_2 := fun _ => PUnit) (fun _ _ _ => none) (fun k a op y => binI op k a y) (fun s op y => binS op (.s s) y) (fun _ _ _ => none) (fun _ _ _ _ _ => none) (fun _ _ => none) (fun _ _ _ => none) (fun _ _ _ _ _ => none) (fun _ _ => none) (fun _ _ => none) (fun j m lo hi op y => yW op (.y j m lo hi) y) (fun _ _ _ => none) (fun _ _ _ _ => none) (fun _ _ _ _ => none) ⟨⟩ (fun _ _ _ _ => ⟨⟩) x op y
def eqF (d : EqD) (x y : Val) : Option Bool := match d, x, y with
  | .b, .b a, .b c => some (a == c)
  | .p, .p none, .p a => some a.isNone
  | .p, .p (some _), .p none => some false
  | .s, .sl none _ _, .sl a _ _ => some a.isNone
  | .s, .sl (some _) _ _, .sl none _ _ => some false
  | .s, .es, .sl none _ _ => some false
  | .s, .sl none _ _, .es => some false
  | .f, .nf, .nf => some true
  | .f, .nf, .f _ _ => some false
  | .f, .f _ _, .nf => some false
  | .m, .m none, .m a => some a.isNone
  | .m, .m (some _), .m none => some false
  | .flat l, .agg xs, .agg ys => bif leavesOk l xs && leavesOk l ys then some (eqL xs ys) else none
  | _, _, _ => none
abbrev OpF := List Val → Env → FHp → KV → CR
def optK (ls : List Val) (e : Env) (d : Nat) (a : Option FA) (k : Nat → Option β) : Option β := Option.rec (k d) (fun a => aK a ls e fun v => natK v k) a
def bndK (ls : List Val) (e : Env) (len cap : Nat) (lo hi mx : Option FA) (k : Nat → Nat → Nat → Option β) : Option β :=
  optK ls e cap mx fun m => optK ls e len hi fun h => optK ls e 0 lo fun l => Bool.rec none (k l h m) (Nat.ble m cap && (Nat.ble h m && (Nat.ble l h && (!mx.isSome || hi.isSome))))
def evlK (l : List FA) (ls : List Val) (e : Env) : (List Val → Option β) → Option β := List.rec (fun k => k []) (fun a _ ih k => aK a ls e fun v => ih fun r => k (v :: r)) l
def fillK (l : List (Nat × Nat × FA)) (ls : List Val) (e : Env) : List Val → (List Val → Option β) → Option β := List.rec (fun c k => k c)
  (fun q _ ih c k => Prod.rec (fun o q => Prod.rec (fun n a => aK a ls e fun v => Bool.rec none (ih (putL c o v.cells) k) (Nat.beq v.cells.length n && Nat.ble (Nat.add o n) c.length)) q) q) l
def rowK (h : FHp) (z n : Nat) (t : T Val) (zs : List Val) (len : Nat) (cap : Option Nat) (k : KV) : CR := newK h (.cells z n t zs) fun b h => k (.sl (some (b, 0)) len (.of z len cap)) h
def srcK (h : FHp) (z n : Nat) (x : Val) (k1 : T Val → List Val → Option β) (k2 : List Val → Option β) : Option β := match x with
  | .sl (some (b, o)) _ _ => Nat.rec (k2 []) (fun _ _ => getK h b fun _ m t zs => Bool.rec none (Nat.rec (k1 t zs) (fun _ _ => k2 (cellsF t zs o (Nat.mul n z))) o) (Nat.ble (Nat.add o (Nat.mul n z)) m)) n
  | .sl none _ _ => Nat.rec (k2 []) (fun _ _ => none) n
  | .es => Nat.rec (k2 []) (fun _ _ => none) n
  | .s s => Bool.rec none (k2 ((s.take n).map fun c => .i .u8 c.toNat)) (Nat.beq z 1)
  | _ => none
abbrev LayK := T Val → Nat → (T Val → CR) → CR
def layF (h : FHp) (z n : Nat) (x : Val) : LayK := fun t o k => srcK h z n x (fun t' zs => putK (cellsF t' zs 0 (Nat.mul n z)) t o k) (fun l => putK l t o k)
def freshF (h : FHp) (z n : Nat) (x : Val) (k : KV) : CR := srcK h z n x (fun t zs => rowK h z (Nat.mul n z) t zs n none k) (fun l => rowK h z (Nat.mul n z) .lf l n none k)
def growF (h h' : FHp) (z len n o m : Nat) (t : T Val) (zs : List Val) (lay : LayK) (k : KV) : CR := Bool.rec none
  (Nat.rec (lay t (Nat.mul len z) fun t => rowK h' z (Nat.mul (Nat.add len n) z) t zs (Nat.add len n) none k) (fun _ _ => lay .lf (Nat.mul len z) fun t' => rowK h' z (Nat.mul (Nat.add len n) z) t' (cellsF t zs o (Nat.mul len z)) (Nat.add len n) none k) o) (Nat.ble (Nat.add o (Nat.mul len z)) m)
def appF (h : FHp) (z n : Nat) (lay : LayK) (fresh : KV → CR) (s : Val) (k : KV) : CR := match s with
  | .sl none len (.k c) => Nat.rec (Nat.rec (Nat.rec (k s h) (fun _ _ => fresh k) n) (fun _ _ => none) c) (fun _ _ => none) len
  | .es => Nat.rec (k s h) (fun _ _ => none) n
  | .sl (some (b, o)) len (.k c) => Bool.rec
    (Bool.rec none (Nat.rec (fresh k) (fun _ _ => getK h b fun _ m t zs => growF h h z len n o m t zs lay k) len) (Nat.ble len c && Nat.ble len 1073741824))
    (getK h b fun z' m t zs => Bool.rec none (lay t (Nat.add o (Nat.mul len z)) fun t => setK h b (.cells z' m t zs) fun h => k (.sl (some (b, o)) (Nat.add len n) (.k c)) h) (Nat.ble (Nat.add o (Nat.mul (Nat.add len n) z)) m)) (Nat.ble (Nat.add len n) c)
  | .sl (some (b, o)) len (.op _ mr) => getK h b fun z' m t zs => Bool.rec none
    (Bool.rec (setK h b .dead fun h' => growF h h' z len n o m t zs lay k)
      (lay t (Nat.add o (Nat.mul len z)) fun t => setK h b (.cells z' m t zs) fun h => k (.sl (some (b, o)) (Nat.add len n) (.op z (Bool.rec mr (Nat.add len n) (Nat.ble mr (Nat.add len n))))) h)
      (Nat.ble (Nat.add o (Nat.mul (Nat.add len n) z)) m)) (Nat.beq z' z && (Nat.ble len 1073741824 && Nat.ble (Nat.add o (Nat.mul len z)) m))
  | _ => none
def copyF (h : FHp) (z : Nat) (d s : Val) (k : KV) : CR := obK (lenV s) fun m => match d with
  | .sl (some (b, o)) len _ => getK h b fun z' c t zs => Bool.rec none (layF h z (min m len) s t o fun t => setK h b (.cells z' c t zs) fun h => k (.i .i64 (.ofNat (min m len))) h) (Nat.ble (Nat.add o (Nat.mul (min m len) z)) c)
  | .sl none len _ => Nat.rec (k (.i .i64 (.ofNat 0)) h) (fun _ _ => none) len
  | .es => k (.i .i64 (.ofNat 0)) h
  | _ => none
def keyC (d : KeyD) (v : Val) : Bool := match d, v with
  | .i j, .i q _ => q == j
  | .s, .s _ => true
  | .b, .b _ => true
  | .flat l, .agg cs => leavesOk l cs
  | _, _ => false
def keysC (d : KeyD) (x : Val) (es : List (Nat × Val × Val)) : Bool := keyC d x && es.all fun e => keyC d e.2.1
def kMv (x : FA) : OpF := fun ls e h k => aK x ls e fun v => k v h
def kPick (c a b : FA) : OpF := fun ls e h k => aK c ls e fun v => boolK v fun x => Bool.rec (aK b ls e fun v => k v h) (aK a ls e fun v => k v h) x
def kAlloc (n : Nat) (cs : List Val) : OpF := fun ls e h k => newK h (.cells n n .lf cs) fun b h => k (.p (some (b, 0))) h
def kBox (x : FA) : OpF := fun ls e h k => aK x ls e fun v => Bool.rec none (newK h (.cells v.cells.length v.cells.length .lf v.cells) fun b h => k (.p (some (b, 0))) h) (v.cells.all Val.one)
def kBuild (zero : List Val) (ps : List (Nat × Nat × FA)) : OpF := fun ls e h k => fillK ps ls e zero fun c => k (.agg c) h
def kBuildSl (z len : Nat) (zero : List Val) (ps : List (Nat × Nat × FA)) : OpF := fun ls e h k => fillK ps ls e zero fun c => Bool.rec none (rowK h z (Nat.mul len z) .lf c len (some len) k) (c.all Val.one)
def kLoad1 (a : FA) : OpF := fun ls e h k => aK a ls e fun v => ptrK v fun b o => rd1K h b o fun v => k v h
def kLoadN (n : Nat) (a : FA) : OpF := fun ls e h k => aK a ls e fun v => ptrK v fun b o => rdK h b o n fun l => k (.agg l) h
def kStore1 (a x : FA) : OpF := fun ls e h k => aK a ls e fun v => aK x ls e fun u => ptrK v fun b o => getK h b fun z m t zs => Bool.rec none (sK (path o) t u fun t => setK h b (.cells z m t zs) fun h => k .no h) (Nat.blt o m && Val.one u)
def kStoreN (n : Nat) (a x : FA) : OpF := fun ls e h k => aK a ls e fun v => aK x ls e fun u => ptrK v fun b o => Bool.rec none (wrK h b o n u.cells fun h => k .no h) (Nat.beq u.cells.length n)
def kNil (x : FA) : OpF := fun ls e h k => aK x ls e fun v => match v with
  | .p none => none
  | .nf => none
  | .un => none
  | v => k v h
def kBin (op : BinOp) (x y : FA) : OpF := fun ls e h k => aK x ls e fun a => aK y ls e fun b => obK (binF op a b) fun v => k v h
def kEq (neg : Bool) (d : EqD) (x y : FA) : OpF := fun ls e h k => aK x ls e fun a => aK y ls e fun b => obK (eqF d a b) fun q => k (.b (Bool.rec q (Bool.rec true false q) neg)) h
def kUn (op : UnOp) (x : FA) : OpF := fun ls e h k => aK x ls e fun a => obK (unV op a) fun v => k v h
def kConvI (d : IntKind) (x : FA) : OpF := fun ls e h k => aK x ls e fun v => match v with
  | .i _ n => k (.i d (wrapF d n)) h
  | .y _ j lo hi => Bool.rec none (k (.y d j lo hi) h) (decide (d.min ≤ lo) && decide (hi ≤ d.max))
  | _ => none
def kConvSB (x : FA) : OpF := fun ls e h k => aK x ls e fun v => match v with
  | .s s => List.rec none (fun _ _ _ => rowK h 1 s.length .lf (s.map fun c => .i .u8 c.toNat) s.length none k) s
  | _ => none
def kConvBS (x : FA) : OpF := fun ls e h k => aK x ls e fun v => match v with
  | .sl none _ _ => k (.s []) h
  | .es => k (.s []) h
  | .sl (some (b, o)) n _ => Nat.rec (k (.s []) h) (fun _ _ => rdK h b o n fun c => obK (bytesV c) fun s => k (.s s) h) n
  | _ => none
def kConvSS (x : FA) : OpF := fun ls e h k => aK x ls e fun v => match v with
  | .s s => k (.s s) h
  | _ => none
def kConvBB (x : FA) : OpF := fun ls e h k => aK x ls e fun v => match v with
  | .sl (some (b, o)) n c => getK h b fun z _ _ _ => Bool.rec none (k (.sl (some (b, o)) n c) h) (Nat.beq z 1)
  | _ => none
def kMkf (f : FuncId) (caps : List FA) : OpF := fun ls e h k => evlK caps ls e fun l => k (.f f l) h
def kMkmap : OpF := fun ls e h k => newK h (.map 0 []) fun b h => k (.m (some b)) h
def kMksl (z : Nat) (zero : List Val) (l c : FA) : OpF := fun ls e h k => aK l ls e fun l => aK c ls e fun c => natK l fun l => natK c fun c => Bool.rec none (rowK h z (Nat.mul c z) .lf zero l (some c) k) (Nat.ble l c && Nat.ble c 1048576)
def kSlStr (x : FA) (lo hi : Option FA) : OpF := fun ls e h k => aK x ls e fun v => match v with
  | .s s => bndK ls e s.length s.length lo hi none fun l hh _ => k (.s ((s.drop l).take (hh - l))) h
  | _ => none
def kSlSl (z : Nat) (x : FA) (lo hi mx : Option FA) : OpF := fun ls e h k => aK x ls e fun v => match v with
  | .sl a len (.k c) => bndK ls e len c lo hi mx fun l hh m => k (.sl (Bool.rec (a.map fun q => (q.1, Nat.add q.2 (Nat.mul l z))) a (Nat.beq m l)) (Nat.sub hh l) (.k (Nat.sub m l))) h
  | .sl (some (b, o)) len (.op z' mr) => Bool.rec none (bndK ls e len mr lo hi mx fun l hh m => Bool.rec
      (Bool.rec (k .es h) (k (.sl (some (b, Nat.add o (Nat.mul l z))) (Nat.sub hh l) (.op z (Nat.sub mr l))) h) (Nat.blt l mr))
      (k (.sl (some (Bool.rec (b, Nat.add o (Nat.mul l z)) (b, o) (Nat.beq m l))) (Nat.sub hh l) (.k (Nat.sub m l))) h) mx.isSome) (Nat.beq z' z)
  | .es => bndK ls e 0 0 lo hi mx fun _ _ _ => k .es h
  | _ => none
def kSlArr (n z : Nat) (x : FA) (lo hi mx : Option FA) : OpF := fun ls e h k => aK x ls e fun v => ptrK v fun b o => bndK ls e n n lo hi mx fun l hh m => k (.sl (some (Bool.rec (b, Nat.add o (Nat.mul l z)) (b, o) (Nat.beq m l))) (Nat.sub hh l) (.k (Nat.sub m l))) h
def kFad (off : Nat) (x : FA) : OpF := fun ls e h k => aK x ls e fun v => ptrK v fun b o => k (.p (some (b, Nat.add o off))) h
def kFld1 (off : Nat) (x : FA) : OpF := fun ls e h k => aK x ls e fun v => aggK v fun l => nthK off l fun v => k v h
def kFldN (off n : Nat) (x : FA) : OpF := fun ls e h k => aK x ls e fun v => aggK v fun l => Bool.rec none (k (.agg ((l.drop off).take n)) h) (Nat.ble (Nat.add off n) l.length)
def kIxArr (n z : Nat) (x i : FA) : OpF := fun ls e h k => aK x ls e fun v => aK i ls e fun i => natK i fun i => ptrK v fun b o => Bool.rec none (k (.p (some (b, Nat.add o (Nat.mul i z)))) h) (Nat.blt i n)
def kIxSl (z : Nat) (x i : FA) : OpF := fun ls e h k => aK x ls e fun v => aK i ls e fun i => natK i fun i => match v with
  | .sl (some (b, o)) len _ => Bool.rec none (k (.p (some (b, Nat.add o (Nat.mul i z)))) h) (Nat.blt i len)
  | _ => none
def kIxv1 (n : Nat) (x i : FA) : OpF := fun ls e h k => aK x ls e fun v => aK i ls e fun i => natK i fun i => aggK v fun l => Bool.rec none (nthK i l fun v => k v h) (Nat.blt i n)
def kIxvN (n z : Nat) (x i : FA) : OpF := fun ls e h k => aK x ls e fun v => aK i ls e fun i => natK i fun i => aggK v fun l => Bool.rec none (k (.agg ((l.drop (Nat.mul i z)).take z)) h) (Nat.blt i n && Nat.ble (Nat.add (Nat.mul i z) z) l.length)
def kIxs (x i : FA) : OpF := fun ls e h k => aK x ls e fun v => aK i ls e fun i => natK i fun i => match v with
  | .s s => nthK i s fun c => k (.i .u8 (.ofNat c.toNat)) h
  | _ => none
def lookF (zero : Val) (ok : Bool) (q : Option (Nat × Val)) : Val := Option.rec (Bool.rec zero (.tup [zero, .b false]) ok) (fun q => Bool.rec q.2 (.tup [q.2, .b true]) ok) q
def kLook (d : KeyD) (zero : Val) (m x : FA) (ok : Bool) : OpF := fun ls e h k => aK m ls e fun m => aK x ls e fun x => match m with
  | .m none => Bool.rec none (k (lookF zero ok none) h) (keyC d x)
  | .m (some r) => getM h r fun _ es => Bool.rec none (k (lookF zero ok (findV x es)) h) (keysC d x es)
  | _ => none
def kMapup (d : KeyD) (m x v : FA) : OpF := fun ls e h k => aK m ls e fun m => aK x ls e fun x => aK v ls e fun v => match m with
  | .m (some r) => getM h r fun ck es => Bool.rec none (setK h r (.map (ckV x ck es) (updV ck x v es)) fun h => k .no h) (keysC d x es)
  | _ => none
def kMapen (d : KeyD) (zero : Val) (m x : FA) : OpF := fun ls e h k => aK m ls e fun m => aK x ls e fun x => match m with
  | .m (some r) => getM h r fun ck es => Bool.rec none (Option.rec (setK h r (.map (ckV x ck es) (updV ck x zero es)) fun h => k (.tup [zero, .i .i64 (.ofNat ck)]) h)
      (fun q => setK h r (.map (ckV x ck es) (updV ck x q.2 es)) fun h => k (.tup [q.2, .i .i64 (.ofNat q.1)]) h) (findV x es)) (keysC d x es)
  | _ => none
def kMapst (m s v : FA) : OpF := fun ls e h k => aK m ls e fun m => aK s ls e fun s => aK v ls e fun v => natK s fun b => match m with
  | .m (some r) => getM h r fun ck es => obK (putV b v es) fun es => setK h r (.map ck es) fun h => k .no h
  | _ => none
def kDel (d : KeyD) (m x : FA) : OpF := fun ls e h k => aK m ls e fun m => aK x ls e fun x => match m with
  | .m none => Bool.rec none (k (.tup []) h) (keyC d x)
  | .m (some r) => getM h r fun ck es => Bool.rec none (setK h r (.map ck (delV x es)) fun h => k (.tup []) h) (keysC d x es)
  | _ => none
def kExt (x : FA) (i : Nat) : OpF := fun ls e h k => aK x ls e fun v => match v with
  | .tup vs => nthK i vs fun v => k v h
  | _ => none
def kApp (z : Nat) (s x : FA) : OpF := fun ls e h k => aK s ls e fun s => aK x ls e fun x => obK (lenV x) fun n => Bool.rec none (appF h z n (layF h z n x) (freshF h z n x) s k) (Nat.ble n 1073741824)
def kAppZ (z : Nat) (zero : List Val) (s x : FA) : OpF := fun ls e h k => aK s ls e fun s => aK x ls e fun x => natK x fun n => Bool.rec none (appF h z n (fun t o k => putK (zerosV zero n) t o k) (fun k => rowK h z (Nat.mul n z) .lf zero n none k) s k) (Nat.ble n 1048576)
def kCopy (z : Nat) (d s : FA) : OpF := fun ls e h k => aK d ls e fun d => aK s ls e fun s => copyF h z d s k
def kClear (zero : List Val) (d : FA) : OpF := fun ls e h k => aK d ls e fun d => match d with
  | .sl (some (b, o)) len _ => Nat.rec (k (.tup []) h) (fun _ _ => wrK h b o (Nat.mul len zero.length) (zerosV zero len) fun h => k (.tup []) h) len
  | .sl none _ _ => k (.tup []) h
  | .es => k (.tup []) h
  | _ => none
def kLenC (n : Nat) (x : FA) : OpF := fun ls e h k => aK x ls e fun _ => k (.i .i64 (.ofNat n)) h
def kLenP (n : Nat) (x : FA) : OpF := fun ls e h k => aK x ls e fun v => ptrK v fun _ _ => k (.i .i64 (.ofNat n)) h
def kLenStr (x : FA) : OpF := fun ls e h k => aK x ls e fun v => match v with
  | .s s => k (.i .i64 (.ofNat s.length)) h
  | _ => none
def kLenSl (x : FA) : OpF := fun ls e h k => aK x ls e fun v => match v with
  | .sl _ n _ => k (.i .i64 (.ofNat n)) h
  | .es => k (.i .i64 (.ofNat 0)) h
  | _ => none
def kLenMap (x : FA) : OpF := fun ls e h k => aK x ls e fun v => match v with
  | .m none => k (.i .i64 (.ofNat 0)) h
  | .m (some r) => getM h r fun _ es => k (.i .i64 (.ofNat es.length)) h
  | _ => none
def kCap (x : FA) : OpF := fun ls e h k => aK x ls e fun v => match v with
  | .sl _ _ (.k c) => k (.i .i64 (.ofNat c)) h
  | _ => none
def kMm (mx : Bool) (l : List FA) : OpF := fun ls e h k => evlK l ls e fun l => obK (mmB mx l) fun v => k v h
def kBad : OpF := fun _ _ _ _ => none
def FOp.kk (o : FOp) : OpF := FOp.rec kMv kPick kAlloc kBox kBuild kBuildSl kLoad1 kLoadN kStore1 kStoreN kNil kBin kEq kUn kConvI kConvSB kConvBS kConvSS kConvBB kMkf kMkmap kMksl kSlStr kSlSl kSlArr kFad kFld1 kFldN kIxArr kIxSl kIxv1 kIxvN kIxs kLook kMapup kMapen kMapst kDel kExt kApp kAppZ kCopy kClear kLenC kLenP kLenStr kLenSl kLenMap kCap kMm kBad o
abbrev CallF := FuncId → List Val → FHp → FR
abbrev RK := List Val → Env → FHp → CR
def guK (x : FA) (w : Bool) (ls : List Val) (e : Env) (y n : CR) : CR := aK x ls e fun v => match v with
  | .b x => Bool.rec n y (x == w)
  | .tup [] => n
  | _ => none
def callK (c : CallF) (f : FA) (args : List FA) : OpF := fun ls e h k => aK f ls e fun fv => match fv with
  | .f fid caps => evlK args ls e fun l => obK (c fid (l ++ caps) h) fun q => Prod.rec k q
  | _ => none
def sameF (v : Val) (o : FOp) (ls : List Val) (e : Env) (h : FHp) (k : CR) : CR := obK (FOp.kk o ls e h fun u _ => Bool.rec none (some (.nrm, .lf, h)) (Val.eqB v u)) fun _ => k
def chkG (g : Option (FA × Bool)) (ls : List Val) (e : Env) (y n : CR) : CR := Option.rec y (fun q => Prod.rec (fun x w => guK x w ls e y n) q) g
def chkK (l : List (Option (FA × Bool) × FA × FOp)) (ls : List Val) (e : Env) (h : FHp) (k : CR) : CR := List.rec k (fun q _ ih => Prod.rec (fun g q => Prod.rec (fun a o => chkG g ls e (aK a ls e fun v => sameF v o ls e h ih) ih) q) q) l
def rN (o : FOp) (_ : CallF) (ih : RK) : RK := fun ls e h => FOp.kk o ls e h fun _ h => ih ls e h
def rO (o : FOp) (_ : CallF) (ih : RK) : RK := fun ls e h => FOp.kk o ls e h fun v h => ih (v :: ls) e h
def rS (d : Nat) (o : FOp) (_ : CallF) (ih : RK) : RK := fun ls e h => FOp.kk o ls e h fun v h => sK (path d) e v fun e => ih (v :: ls) e h
def rCn (f : FA) (args : List FA) (c : CallF) (ih : RK) : RK := fun ls e h => callK c f args ls e h fun _ h => ih ls e h
def rCo (f : FA) (args : List FA) (c : CallF) (ih : RK) : RK := fun ls e h => callK c f args ls e h fun v h => ih (v :: ls) e h
def rCs (d : Nat) (f : FA) (args : List FA) (c : CallF) (ih : RK) : RK := fun ls e h => callK c f args ls e h fun v h => sK (path d) e v fun e => ih (v :: ls) e h
def rD (d : Option Nat) (ih : RK) : List Val → Env → Val → FHp → CR := fun ls e v h => Option.rec (ih (v :: ls) e h) (fun d => sK (path d) e v fun e => ih (v :: ls) e h) d
def rG (x : FA) (w : Bool) (d : Option Nat) (o : FOp) (_ : CallF) (ih : RK) : RK := fun ls e h => guK x w ls e (FOp.kk o ls e h fun v h => rD d ih ls e v h) (rD d ih ls e .no h)
def rGc (x : FA) (w : Bool) (d : Option Nat) (f : FA) (args : List FA) (c : CallF) (ih : RK) : RK := fun ls e h => guK x w ls e (callK c f args ls e h fun v h => rD d ih ls e v h) (rD d ih ls e .no h)
def rChk (l : List (Option (FA × Bool) × FA × FOp)) (_ : CallF) (ih : RK) : RK := fun ls e h => chkK l ls e h (ih ls e h)
def iK (i : FI) (c : CallF) (ih : RK) : RK := FI.rec (motive := fun _ => CallF → RK → RK) rN rO rS rCn rCo rCs rG rGc rChk i c ih
def lK (l : List FI) (c : CallF) (k : RK) : RK := List.rec (motive := fun _ => CallF → RK → RK) (fun _ k => k) (fun i _ ih c k => iK i c (ih c k)) l c k
def pieceF (z i n : Nat) (sv : Val) : Option Val := match sv with
  | .sl (some (b, o)) len (.k c) => bif Nat.ble len c && Nat.ble (Nat.add i n) len then some (.sl (some (b, Nat.add o (Nat.mul i z))) n (.k n)) else none
  | .sl (some (b, o)) len (.op z' m) => bif Nat.beq z' z && (Nat.ble len m && Nat.ble (Nat.add i n) len) then some (.sl (some (b, Nat.add o (Nat.mul i z))) n (.k n)) else none
  | _ => none
def alz (g : Nat) : List (Nat × Nat) → Option Nat
  | [] => none
  | q :: r => bif Nat.beq q.1 g then some q.2 else alz g r
abbrev EK := Env → FHp → CR
def nrmK (k : EK) (r : CR) : CR := obK r fun q => Prod.rec (fun x q => Ex.rec (Prod.rec k q) (fun _ => some (x, q)) (some (x, q)) x) q
def done : EK := fun e h => some (.nrm, e, h)
def rngF (z N L bs os bn on : Nat) (sv : Val) (fa fb : EK) (p : Nat) (k : EK) (e : Env) (fu : Nat) : Nat → FHp → CR := Nat.rec (motive := fun _ => Nat → FHp → CR) (fun _ _ => none) (fun _ ih i h => rd1K h bs os fun s => rd1K h bn on fun n => Bool.rec none (Bool.rec (k e h)
  (obK (pieceF z i (min N (Nat.sub L i)) sv) fun v => sK (path p) e v fun e1 => obK (fa e1 h) fun q => Prod.rec (fun x q => Ex.rec (Prod.rec (fun e2 h2 => obK (fb e2 h2) fun q => Prod.rec (fun x q => Prod.rec (fun _ h => Ex.rec (ih (Nat.add i N) h) (fun j => some (.ext j, e, h)) (some (.ret, e, h)) x) q) q) q) (fun _ => none) none x) q)
  (Nat.blt i L)) (Val.eqB s sv && Val.eqB n (.i .i64 (.ofNat N)))) fu
abbrev KK := EK → EK
def cSkip (_ : CallF) : KK := fun k => k
def cExit (i : Nat) (_ : CallF) : KK := fun _ e h => some (.ext i, e, h)
def cRet (_ : CallF) : KK := fun _ e h => some (.ret, e, h)
def cSeq (ra rb : CallF → KK) (c : CallF) : KK := fun k => ra c (rb c k)
def cCond (x : FA) (ra rb : CallF → KK) (c : CallF) : KK := fun k e h => aK x [] e fun v => boolK v fun x => Bool.rec (fun _ rb c k e h => rb c k e h) (fun ra _ c k e h => ra c k e h) x ra rb c k e h
def cBlock (i : Nat) (ra : CallF → KK) (c : CallF) : KK := fun k e h => obK (ra c done e h) fun q => Prod.rec (fun x q => Ex.rec (Prod.rec k q) (fun j => Bool.rec (some (x, q)) (Prod.rec k q) (Nat.beq j i)) (some (x, q)) x) q
def loopF (n : Nat) (ra : CallF → KK) (c : CallF) (e : Env) (h : FHp) : CR := Nat.rec (motive := fun _ => (CallF → KK) → CallF → EK) (fun _ _ _ _ => none) (fun _ ih ra c e h => nrmK (ih ra c) (ra c done e h)) n ra c e h
def cLoop (ra : CallF → KK) (c : CallF) : KK := fun _ e h => loopF 1048576 ra c e h
def cOps (l : List FI) (c : CallF) : KK := fun k => lK l c (fun _ e h => k e h) []
def cOpc (l : List FI) (x : FA) (ra rb : CallF → KK) (c : CallF) : KK := fun k => lK l c (fun ls e h => aK x ls e fun v => boolK v fun x => Bool.rec (fun _ rb c k e h => rb c k e h) (fun ra _ c k e h => ra c k e h) x ra rb c k e h) []
def cRng (al : List (Nat × Nat)) (f : FA) (p : Nat) (ra rb : CallF → KK) (c : CallF) : KK := fun k e h => aK f [] e fun fv => match fv with
  | .f g [cs, cn] => obK (alz g al) fun z => ptrK cs fun bs os => ptrK cn fun bn on => rd1K h bs os fun sv => rd1K h bn on fun nv => natK nv fun N => obK (lenR sv) fun L => Bool.rec none (rngF z N L bs os bn on sv (ra c done) (rb c done) p k e 100000 0 h) (Nat.blt 0 N && (Nat.ble N 1099511627776 && Nat.ble L 1099511627776))
  | _ => none
def cK (x : FC) : CallF → KK := FC.rec (motive := fun _ => CallF → KK) cSkip cExit cRet (fun _ _ => cSeq) (fun x _ _ => cCond x) (fun i _ => cBlock i) (fun _ => cLoop) cOps (fun l x _ _ => cOpc l x) (fun al f p _ _ => cRng al f p) x
def argK (l : List Val) : Nat → Env → (Env → Option β) → Option β := List.rec (fun _ e k => k e) (fun v _ ih i e k => sK (path i) e v fun e => ih (Nat.succ i) e k) l
def resK (l : List FRes) (e : Env) (h : FHp) : (List Val → Option β) → Option β := List.rec (fun k => k []) (fun r _ ih k => FRes.rec (fun n => gK (path n) e fun v => ih fun l => k (v :: l))
  (fun n => gK (path n) e fun v => ptrK v fun b o => rd1K h b o fun v => ih fun l => k (v :: l)) (fun c n => gK (path n) e fun v => ptrK v fun b o => rdK h b o c fun v => ih fun l => k (.agg v :: l)) r) l
def retK (rs : List FRes) (e : Env) (h : FHp) : FR := resK rs e h fun vs => some (oneV vs, h)
def fnK (c : CallF) (ff : FF) (args : List Val) (h : FHp) : FR := FF.rec (fun body n rs => Bool.rec none (argK args 0 .lf fun e => obK (cK body c done e h) fun q => Prod.rec (fun x q => Ex.rec (Prod.rec (retK rs) q) (fun _ => none) (Prod.rec (retK rs) q) x) q) (Nat.ble args.length n)) ff
def callF (X : FuncId → Option (List Val → FHp → FR)) (R : T FF) (d : Nat) : CallF := Nat.rec (fun _ _ _ => none) (fun _ ih f args h => Option.rec (gK (path f) R fun ff => fnK ih ff args h) (fun x => x args h) (X f)) d
end
end Go.V
namespace Go.V
set_option linter.unusedVariables false
set_option linter.unusedSectionVars false
set_option linter.unusedSimpArgs false
inductive Loc where
  | lo (a : Nat)
  | en (n : Nat)
  | co (v : Val)
abbrev SM := List (Nat × Loc)
def lkp (m : SM) (t : Nat) : Option Loc := match m with
  | [] => none
  | (s, l) :: r => bif Nat.beq s t then some l else lkp r t
def dropE (m : SM) (d : Nat) : SM := m.filter fun q => match q.2 with
  | .en n => !Nat.beq n d
  | _ => true
def dropS (m : SM) (d : Nat) : SM := m.filter fun q => !Nat.beq q.1 d
section
variable (P : Program) (D : List Nat)
def rA (m : SM) (k : Nat) : Operand → Option FA
  | .tmp t => match lkp m t with
    | some (.lo a) => some (.l (k - 1 - a))
    | some (.en n) => some (.e n)
    | some (.co v) => some (.c v)
    | none => if D.contains t then none else some (.e t)
  | .const v => (cv v).map .c
  | .global _ => none
  | .func f => some (.c (.f f []))
def rL (m : SM) (k : Nat) (l : List Operand) : Option (List FA) := l.mapM (rA D m k)
def rQ (m : SM) (k : Nat) : Option Operand → Option (Option FA)
  | none => some none
  | some x => (rA D m k x).map some
def rPs (m : SM) (k : Nat) (pl : Nat → Option (Nat × Nat)) (l : List (Nat × Operand)) : Option (List (Nat × Nat × FA)) := l.mapM fun q => (pl q.1).bind fun p => (rA D m k q.2).map fun a => (p.1, p.2, a)
def okZ (z : Nat) (zero : List Val) : Bool := Nat.beq zero.length z && Nat.blt 0 z && zero.all Val.one
def eqD (t : TypeId) : Option EqD := match P.underlying t with
  | some .bool => some .b
  | some (.pointer _) => some .p
  | some (.slice _) => some .s
  | some (.func _ _ _) => some .f
  | some (.map _ _) => some .m
  | some (.struct _) | some (.array _ _) => if P.eqGuardType P.depth t then none else (flatT P t).map .flat
  | _ => none
def keyD (t : TypeId) : Option KeyD := match P.underlying t with
  | some (.int j) => some (.i j)
  | some .string => some .s
  | some .bool => some .b
  | some (.array _ _) => if P.eqGuardType P.depth t then none else (flatT P t).map .flat
  | _ => none
def r1 (m : SM) (k : Nat) (op : Op) : Option FOp := match op with
  | .move x | .assign x => (rA D m k x).map .mv
  | .pick c a b => (rA D m k c).bind fun c => (rA D m k a).bind fun a => (rA D m k b).map fun b => .pick c a b
  | .alloc t => (zeroV P t).bind fun v => if okZ v.cells.length v.cells then some (.alloc v.cells.length v.cells) else none
  | .box _ x => (rA D m k x).map .box
  | .build t ps => (zeroV P t).bind fun zero => match P.underlying t with
    | some (.struct fs) => (fs.toList.mapM fun f => (sz P f.type).map fun n => (f.offset, n)).bind fun pl => (rPs D m k (fun i => pl[i]?) ps.toList).map fun ps => .build zero.cells ps
    | some (.array _ t) => (sz P t).bind fun z => (rPs D m k (fun i => some (i * z, z)) ps.toList).map fun ps => .build zero.cells ps
    | _ => none
  | .buildSlice t n ps => match P.underlying t with
    | some (.slice t) => (sz P t).bind fun z => (zeroV P t).bind fun zero => if n * z ≤ 2 ^ 24 ∧ okZ z zero.cells then (rPs D m k (fun i => some (i * z, z)) ps.toList).map fun ps => .buildSl z n (zerosV zero.cells n) ps else none
    | _ => none
  | .load t a => (rA D m k a).bind fun a => (aggT P t).bind fun g => bif g then (sz P t).map fun n => .loadN n a else some (.load1 a)
  | .store t a x => (rA D m k a).bind fun a => (rA D m k x).bind fun x => (aggT P t).bind fun g => (sz P t).map fun n => bif !g && Nat.beq n 1 then .store1 a x else .storeN n a x
  | .nilCheck x => (rA D m k x).map .nilc
  | .binOp op t x y _ => (rA D m k x).bind fun x => (rA D m k y).bind fun y => match P.underlying t with
    | some (.int _) | some .string => some (.bin op x y)
    | _ => match op with
      | .eql => (eqD P t).map fun d => .eq false d x y
      | .neq => (eqD P t).map fun d => .eq true d x y
      | _ => none
  | .unOp op _ x => (rA D m k x).map fun x => .un op x
  | .convert s d x => (rA D m k x).bind fun x => match P.underlying s, P.underlying d with
    | some _, some (.int q) => some (.convI q x)
    | some .string, some .string => some (.convSS x)
    | some .string, some (.slice t) => match P.underlying t with
      | some (.int .u8) => some (.convSB x)
      | _ => none
    | some (.slice t), some .string => match P.underlying t with
      | some (.int .u8) => some (.convBS x)
      | _ => none
    | some (.slice _), some (.slice t) => match s == d, P.underlying t with
      | true, some (.int .u8) => some (.convBB x)
      | _, _ => none
    | _, _ => none
  | .makeFunc (.func f) first caps => if first.size = 0 then (rL D m k caps.toList).map fun l => .mkf f l else none
  | .makeMap t r => match r with
    | none => some .mkmap
    | some _ => none
  | .makeSlice t l c => (rA D m k l).bind fun l => (rA D m k c).bind fun c => match P.underlying t with
    | some (.slice t) => (sz P t).bind fun z => (zeroV P t).bind fun zero => (P.info? t).bind fun i => if okZ z zero.cells && Nat.ble i.bytes 4096 then some (.mksl z zero.cells l c) else none
    | _ => none
  | .slice t x lo hi mx => (rA D m k x).bind fun x => (rQ D m k lo).bind fun lo => (rQ D m k hi).bind fun hi => (rQ D m k mx).bind fun mx => match P.underlying t with
    | some .string => if mx.isSome then none else some (.slStr x lo hi)
    | some (.slice t) => (sz P t).map fun z => .slSl z x lo hi mx
    | some (.array n t) => (sz P t).map fun z => .slArr n z x lo hi mx
    | some (.pointer t) => match P.underlying t with
      | some (.array n t) => (sz P t).map fun z => .slArr n z x lo hi mx
      | _ => none
    | _ => none
  | .fieldAddr s x f => (rA D m k x).bind fun x => (fldT P s f).bind fun q => (sz P q.type).bind fun n => if 0 < n then some (.fad q.offset x) else none
  | .field s x f => (rA D m k x).bind fun x => (fldT P s f).bind fun q => (aggT P q.type).bind fun g => bif g then (sz P q.type).map fun n => .fldN q.offset n x else some (.fld1 q.offset x)
  | .indexAddr t x i => (rA D m k x).bind fun x => (rA D m k i).bind fun i => match P.underlying t with
    | some (.array n t) => (sz P t).map fun z => .ixArr n z x i
    | some (.slice t) => (sz P t).map fun z => .ixSl z x i
    | _ => none
  | .index t x i => (rA D m k x).bind fun x => (rA D m k i).bind fun i => match P.underlying t with
    | some (.array n t) => (sz P t).bind fun z => (aggT P t).bind fun g => bif g then some (.ixvN n z x i) else if z = 1 then some (.ixv1 n x i) else none
    | some .string => some (.ixs x i)
    | _ => none
  | .lookup t a b ok => (rA D m k a).bind fun a => (rA D m k b).bind fun b => match P.underlying t with
    | some (.map kt vt) => (zeroV P vt).bind fun zero => (keyD P kt).map fun d => .look d zero a b ok
    | _ => none
  | .mapUpdate t a b x | .insert t a b x => (rA D m k a).bind fun a => (rA D m k b).bind fun b => (rA D m k x).bind fun x => match P.underlying t with
    | some (.map kt _) => (keyD P kt).map fun d => .mapup d a b x
    | _ => none
  | .mapEntry t a b => (rA D m k a).bind fun a => (rA D m k b).bind fun b => match P.underlying t with
    | some (.map kt vt) => (zeroV P vt).bind fun zero => (keyD P kt).map fun d => .mapen d zero a b
    | _ => none
  | .entryStore t a b x => (rA D m k a).bind fun a => (rA D m k b).bind fun b => (rA D m k x).map fun x => .mapst a b x
  | .extract x i => (rA D m k x).map fun x => .ext x i
  | .call { callee := .builtin b, args, argTypes } => (rL D m k args.toList).bind fun l => match b, l, argTypes.toList with
    | .append, [s, x], [t, tx] => match P.underlying t with
      | some (.slice t) => (sz P t).bind fun z => (P.info? t).bind fun inf => (zeroV P t).bind fun zero => (zerosK P tx).bind fun zk => if okZ z zero.cells ∧ 0 < inf.bytes ∧ inf.bytes ≤ 2 ^ 12 then some (bif zk then .appZ z zero.cells s x else .app z s x) else none
      | _ => none
    | .copy, [d, s], t :: _ => match P.underlying t with
      | some (.slice t) => (sz P t).map fun z => .copy z d s
      | _ => none
    | .clear, [d], t :: _ => match P.underlying t with
      | some (.slice t) => (zeroV P t).bind fun zero => if okZ zero.cells.length zero.cells then some (.clear zero.cells d) else none
      | _ => none
    | .delete, [a, b], t :: _ => match P.underlying t with
      | some (.map kt _) => (keyD P kt).map fun d => .del d a b
      | _ => none
    | .len, [x], t :: _ => match P.underlying t with
      | some (.array n _) => some (.lenC n x)
      | some (.pointer t) => match P.underlying t with
        | some (.array n _) => some (.lenP n x)
        | _ => none
      | some .string => some (.lenStr x)
      | some (.slice _) => some (.lenSl x)
      | some (.map _ _) => some (.lenMap x)
      | _ => none
    | .cap, [x], t :: _ => match P.underlying t with
      | some (.slice _) => some (.cap x)
      | _ => none
    | .max, l, _ => some (.mm true l)
    | .min, l, _ => some (.mm false l)
    | _, _, _ => none
  | _ => none
def dstAt (A : List Oper) (i : Nat) : Option Nat := (opAt A i).dst
def chk1 (A : List Oper) (done : List Nat) (i j : Nat) (m : SM) (k : Nat) : Option (Option (FA × Bool) × FA × FOp) :=
  if (j :: (i :: done).takeWhile (· != j)).all (fun q => match dstAt A q with
      | some d => !(looks A (opAt A j)).contains d
      | none => true) && ((i :: done).takeWhile (· != j)).all (fun q => dstAt A q != dstAt A j) then (dstAt A j).bind fun d => (rA D m k (.tmp d)).bind fun a => (r1 P D m k (opAt A j).op).bind fun o => match (opAt A j).guard with
        | none => some (none, a, o)
        | some (g, want) => (dstAt A g).bind fun gd => (rA D m k (.tmp gd)).map fun x => (some (x, want), a, o)
  else none
def chkOf (A : List Oper) (an : List Nat) (done : List Nat) (i : Nat) (m : SM) (k : Nat) : Option (List (Option (FA × Bool) × FA × FOp)) :=
  if kindOf P (opAt A i).op = .eff then (done.filter fun j => decide (kindOf P (opAt A j).op = .read) && !((an.getD i 0).testBit j)).mapM fun j => chk1 P D A done i j m k else some []
def mPut (m : SM) (k : Nat) : Option Nat → SM × Nat
  | none => (m, k)
  | some d => if D.contains d then ((d, .lo k) :: dropS m d, k + 1) else ((d, .lo k) :: dropE (dropS m d) d, k + 1)
def dOf (d : Option Nat) : Option Nat := d.bind fun d => if D.contains d then none else some d
def mPutG (m : SM) (k : Nat) : Option Nat → Bool → SM × Nat
  | none, true => (m, k + 1)
  | d, _ => mPut D m k d
def aliasOf (m : SM) (k : Nat) (o : Oper) : Option SM := match o.guard, o.op, o.dst with
  | none, .move x, some d | none, .assign x, some d => if D.contains d then (rA D m k x).bind fun a => match a with
    | .c v => some ((d, .co v) :: dropS m d)
    | .l j => some ((d, .lo (k - 1 - j)) :: dropS m d)
    | .e _ => none else none
  | _, _, _ => none
def rI1 (A : List Oper) (m : SM) (k : Nat) (o : Oper) : Option FI := match o.guard with
  | none => match o.op with
    | .call { callee := .value f, args, .. } => (rA D m k f).bind fun f => (rL D m k args.toList).map fun l => (match o.dst with
      | none => FI.cn f l
      | some d => if D.contains d then FI.co f l else FI.cs d f l)
    | op => some (match o.dst with
      | none => FI.n ((r1 P D m k op).getD .bad)
      | some d => if D.contains d then FI.o ((r1 P D m k op).getD .bad) else FI.s d ((r1 P D m k op).getD .bad))
  | some (j, want) => (dstAt A j).bind fun gd => (rA D m k (.tmp gd)).bind fun x => match o.op with
    | .call { callee := .value f, args, .. } => (rA D m k f).bind fun f => (rL D m k args.toList).map fun l => FI.gc x want (dOf D o.dst) f l
    | op => some (FI.g x want (dOf D o.dst) ((r1 P D m k op).getD .bad))
def rI (A : List Oper) (an : List Nat) (dr : Bool) (done : List Nat) (i : Nat) (m : SM) (k : Nat) : Option (List FI × SM × Nat) :=
  match aliasOf D m k (opAt A i) with
  | some m' => some ([], m', k)
  | none =>
    let q := mPutG D m k (opAt A i).dst (opAt A i).guard.isSome
    (rI1 P D A m k (opAt A i)).bind fun x => (bif dr then chkOf P D A an done i q.1 q.2 else some []).map fun ck => (x :: (match ck with | [] => [] | ck => [.chk ck]), q)
def rIs (A : List Oper) (an : List Nat) (dr : Bool) : List Nat → List Nat → SM → Nat → Option (List FI × SM × Nat)
  | _, [], m, k => some ([], m, k)
  | done, i :: r, m, k => (rI P D A an dr done i m k).bind fun x => (rIs A an dr (i :: done) r x.2.1 x.2.2).map fun y => (x.1 ++ y.1, y.2)
def rReg (n : Nat) (A : List Oper) (dr : Bool) : Option (List FI × SM × Nat) :=
  let L := bif dr then orderOf P A else List.range A.length
  if dstOk n A = true ∧ (dr = true → P.follows .mixedOrders = true ∧ okL P A L = true) then rIs P D A (bif dr then ancs A [] else []) dr [] L [] 0 else none
def rC (al : List (Nat × Nat)) (n : Nat) : Code → Option FC
  | .skip => some .skip
  | .label _ => some .skip
  | .exit i => some (.exit i)
  | .ret => some .ret
  | .seq (.region _ A dr) (.cond x a b) => (rReg P D n A.toList dr).bind fun q => (rA D q.2.1 q.2.2 x).bind fun x => (rC al n a).bind fun a => (rC al n b).map fun b => .opc q.1 x a b
  | .seq a b => (rC al n a).bind fun a => (rC al n b).map fun b => .seq a b
  | .cond x a b => (rA D [] 0 x).bind fun x => (rC al n a).bind fun a => (rC al n b).map fun b => .cond x a b
  | .block i a => (rC al n a).map fun a => .block i a
  | .loop a => (rC al n a).map fun a => .loop a
  | .region _ A dr => (rReg P D n A.toList dr).map fun q => .ops q.1
  | .rangeFunc f ps a b => match ps.toList with
    | [p] => (rA D [] 0 f).bind fun f => (rC al n a).bind fun a => (rC al n b).bind fun b => if D.contains p = true ∨ n ≤ p then none else some (.rng al f p a b)
    | _ => none
  | _ => none
def rR : ResultVar → Option FRes
  | .tmp t => if D.contains t then none else some (.t t)
  | .cell a t => if D.contains a then none else (aggT P t).bind fun g => bif g then (sz P t).map fun n => .cN n a else some (.c1 a)
def names : Code → Nat → List (Nat × Nat) × Nat
  | .seq (.region _ A _) (.cond x a b), g =>
    let here := (A.toList.flatMap fun o => o.dst.toList ++ looks A.toList o).map fun t => (t, g)
    let c := match x with | .tmp t => [(t, g)] | _ => []
    let qa := names a (g + 1)
    let qb := names b qa.2
    (here ++ c ++ qa.1 ++ qb.1, qb.2)
  | .seq a b, g => let qa := names a g; let qb := names b qa.2; (qa.1 ++ qb.1, qb.2)
  | .cond x a b, g =>
    let c := match x with | .tmp t => [(t, g)] | _ => []
    let qa := names a (g + 1)
    let qb := names b qa.2
    (c ++ qa.1 ++ qb.1, qb.2)
  | .block _ a, g | .loop a, g => names a g
  | .region _ A _, g => ((A.toList.flatMap fun o => o.dst.toList ++ looks A.toList o).map fun t => (t, g), g + 1)
  | .rangeFunc f ps a b, g =>
    let c := (match f with | .tmp t => [(t, g)] | _ => []) ++ ps.toList.map fun t => (t, g)
    let qa := names a (g + 1)
    let qb := names b qa.2
    (c ++ qa.1 ++ qb.1, qb.2)
  | _, g => ([], g)
def deadOf (fn : Func) (c : Code) : List Nat :=
  let l := (names c 1).1 ++ (List.range fn.params.size).map (fun t => (t, 0)) ++ (List.range fn.nfree).map (fun t => (fn.params.size + t, 0)) ++ fn.results.toList.map fun | .tmp t => (t, 0) | .cell a _ => (a, 0)
  (List.range fn.ntmps).filter fun t => match l.filter fun q => q.1 == t with
    | [] => false
    | (_, g) :: r => g != 0 && r.all fun q => q.2 == g
def rFn (al : List (Nat × Nat)) (f : FuncId) : Option FF := match P.funcs[f]? with
  | some fn => match fn.body with
    | some c => if fn.name ≠ "runtime.NumGoroutine" then (rC P D al fn.ntmps c).bind fun b => (fn.results.toList.mapM (rR P D)).map fun rs => ⟨b, fn.ntmps, rs⟩ else none
    | none => none
  | none => none
end
end Go.V
namespace Go.V
set_option linter.unusedVariables false
set_option linter.unusedSectionVars false
set_option linter.unusedSimpArgs false
variable [Sy]
section tries
variable {α β : Type}
def T.at : List Bool → T α → Option α
  | [], .lf => none
  | [], .nd v _ _ => v
  | _ :: _, .lf => none
  | b :: p, .nd _ l r => bif b then T.at p l else T.at p r
def T.put : List Bool → T α → α → T α
  | [], .lf, x => .nd (some x) .lf .lf
  | [], .nd _ l r, x => .nd (some x) l r
  | b :: p, .lf, x => bif b then .nd none (T.put p .lf x) .lf else .nd none .lf (T.put p .lf x)
  | b :: p, .nd v l r, x => bif b then .nd v (T.put p l x) r else .nd v l (T.put p r x)
theorem gK_eq (p : List Bool) : ∀ (t : T α) (k : α → Option β), gK p t k = (T.at p t).bind k := by
  induction p with
  | nil =>
    intro t k
    cases t with
    | lf => rfl
    | nd v l r => cases v <;> rfl
  | cons b p ih =>
    intro t k
    cases t with
    | lf => rfl
    | nd v l r => cases b <;> exact ih _ k
theorem gD_eq (p : List Bool) : ∀ (d : α) (t : T α) (k : α → β), gD p d t k = k ((T.at p t).getD d) := by
  induction p with
  | nil =>
    intro d t k
    cases t with
    | lf => rfl
    | nd v l r => cases v <;> rfl
  | cons b p ih =>
    intro d t k
    cases t with
    | lf => rfl
    | nd v l r => cases b <;> exact ih d _ k
theorem sK_eq (p : List Bool) : ∀ (t : T α) (x : α) (k : T α → β), sK p t x k = k (T.put p t x) := by
  induction p with
  | nil => intro t x k; cases t <;> rfl
  | cons b p ih =>
    intro t x k
    cases t with
    | lf => cases b <;> exact ih _ x _
    | nd v l r => cases b <;> exact ih _ x _
theorem at_lf (p : List Bool) : T.at p (.lf : T α) = none := by cases p <;> rfl
theorem at_put (p : List Bool) : ∀ (q : List Bool) (t : T α) (x : α), T.at q (T.put p t x) = if q = p then some x else T.at q t := by
  induction p with
  | nil =>
    intro q t x
    cases q with
    | nil => cases t <;> rfl
    | cons c q =>
      cases t with
      | lf => cases c <;> simp [T.put, T.at, at_lf]
      | nd v l r => cases c <;> simp [T.put, T.at]
  | cons b p ih =>
    intro q t x
    cases q with
    | nil => cases t <;> cases b <;> simp [T.put, T.at]
    | cons c q =>
      cases t with
      | lf => cases b <;> cases c <;> simp [T.put, T.at, ih, at_lf]
      | nd v l r => cases b <;> cases c <;> simp [T.put, T.at, ih]
def unpath : List Bool → Nat
  | [] => 0
  | b :: p => bif b then 2 * unpath p + 1 else 2 * unpath p + 2
theorem unpath_pathF : ∀ (f n : Nat), n < f → unpath (pathF f n) = n := by
  intro f
  induction f with
  | zero => intro n h; omega
  | succ f ih =>
    intro n h
    cases n with
    | zero => rfl
    | succ m =>
      simp only [pathF, unpath]
      have h1 : m.div 2 < f := by show m / 2 < f; omega
      rw [ih _ h1]
      cases hm : Nat.beq (m.mod 2) 0 with
      | true =>
        have := Nat.eq_of_beq_eq_true hm
        have h2 : m % 2 = 0 := this
        show 2 * (m / 2) + 1 = m + 1
        omega
      | false =>
        have := Nat.ne_of_beq_eq_false hm
        have h2 : m % 2 ≠ 0 := this
        show 2 * (m / 2) + 2 = m + 1
        omega
theorem path_inj {n m : Nat} (h : path n = path m) : n = m := by
  have := congrArg unpath h
  rwa [path, path, unpath_pathF _ _ (Nat.lt_succ_self _), unpath_pathF _ _ (Nat.lt_succ_self _)] at this
abbrev T.atN (n : Nat) (t : T α) : Option α := T.at (path n) t
theorem atN_put (n k : Nat) (t : T α) (x : α) : T.atN k (T.put (path n) t x) = if k = n then some x else T.atN k t := by
  unfold T.atN
  rw [at_put]
  by_cases h : k = n
  · rw [h, if_pos rfl, if_pos rfl]
  · rw [if_neg h, if_neg (fun e => h (path_inj e))]
theorem nthK_eq (i : Nat) : ∀ (l : List α) (k : α → Option β), nthK i l k = (l[i]?).bind k := by
  induction i with
  | zero => intro l k; cases l <;> rfl
  | succ i ih =>
    intro l k
    cases l with
    | nil => rfl
    | cons x l => exact ih l k
theorem obK_eq (o : Option α) (k : α → Option β) : obK o k = o.bind k := by cases o <;> rfl
theorem natK_some {v : Val} {k : Nat → Option β} {r : β} (h : natK v k = some r) : ∃ q n, v = .i q (.ofNat n) ∧ k n = some r := by
  cases v <;> first | (cases h; done) | skip
  rename_i q n
  cases n with
  | ofNat n => exact ⟨q, n, rfl, h⟩
  | negSucc n => cases h
theorem ptrK_some {v : Val} {k : Nat → Nat → Option β} {r : β} (h : ptrK v k = some r) : ∃ b o, v = .p (some (b, o)) ∧ k b o = some r := by
  cases v <;> first | (cases h; done) | skip
  rename_i a
  cases a with
  | none => cases h
  | some q => exact ⟨q.1, q.2, rfl, h⟩
theorem aggK_some {v : Val} {k : List Val → Option β} {r : β} (h : aggK v k = some r) : ∃ l, v = .agg l ∧ k l = some r := by
  cases v <;> first | (cases h; done) | exact ⟨_, rfl, h⟩
theorem boolK_some {v : Val} {k : Bool → Option β} {r : β} (h : boolK v k = some r) : ∃ x, v = .b x ∧ k x = some r := by
  cases v <;> first | (cases h; done) | exact ⟨_, rfl, h⟩
end tries
inductive RB : FBlk → Blk → Prop where
  | cells {z n : Nat} {t : T Val} {zs c : List Val} : c.length = n → c.all Val.one = true → (∀ i, i < n → c[i]? = some (cellF t zs i)) → RB (.cells z n t zs) (.cells z c)
  | map {ck es} : RB (.map ck es) (.map ck es)
  | dead : RB .dead .dead
structure RH (f : FHp) (h : Hp) : Prop where
  next : f.next = h.next
  blk : ∀ b, (T.atN b f.t = none ∧ h.get b = none) ∨ ∃ x y, T.atN b f.t = some x ∧ h.get b = some y ∧ RB x y
theorem RH.empty : RH ⟨0, .lf⟩ Hp.empty := ⟨rfl, fun b => .inl ⟨at_lf _, rfl⟩⟩
section mem
variable {β : Type} {f : FHp} {h : Hp}
def FHp.setF (f : FHp) (b : Nat) (x : FBlk) : FHp := ⟨f.next, T.put (path b) f.t x⟩
def FHp.newF (f : FHp) (x : FBlk) : FHp := ⟨f.next + 1, T.put (path f.next) f.t x⟩
theorem setK_eq (f : FHp) (b : Nat) (x : FBlk) (k : FHp → β) : setK f b x k = k (f.setF b x) := by
  cases f; exact sK_eq _ _ _ _
theorem newK_eq (f : FHp) (x : FBlk) (k : Nat → FHp → β) : newK f x k = k f.next (f.newF x) := by
  cases f; exact sK_eq _ _ _ _
theorem RH.set (r : RH f h) {b : Nat} {x : FBlk} {y : Blk} (q : RB x y) : RH (f.setF b x) (h.set b y) := by
  refine ⟨r.next, fun c => ?_⟩
  rw [Hp.get_set]
  show (T.atN c (T.put (path b) f.t x) = none ∧ _) ∨ ∃ x' y', T.atN c (T.put (path b) f.t x) = some x' ∧ _
  rw [atN_put]
  split
  · exact .inr ⟨x, y, rfl, rfl, q⟩
  · exact r.blk c
theorem RH.new (r : RH f h) {x : FBlk} {y : Blk} (q : RB x y) : RH (f.newF x) (h.new y) := by
  refine ⟨congrArg (· + 1) r.next, fun c => ?_⟩
  rw [Hp.get_new]
  show (T.atN c (T.put (path f.next) f.t x) = none ∧ _) ∨ ∃ x' y', T.atN c (T.put (path f.next) f.t x) = some x' ∧ _
  rw [atN_put, r.next]
  split
  · exact .inr ⟨x, y, rfl, rfl, q⟩
  · exact r.blk c
theorem getK_some (r : RH f h) {b : Nat} {k : Nat → Nat → T Val → List Val → Option β} {x : β} (q : getK f b k = some x) : ∃ z n t zs c, h.get b = some (.cells z c) ∧ c.length = n ∧ c.all Val.one = true ∧ (∀ i, i < n → c[i]? = some (cellF t zs i)) ∧ k z n t zs = some x := by
  have e : getK f b k = (T.atN b f.t).bind fun x => FBlk.rec (motive := fun _ => (Nat → Nat → T Val → List Val → Option β) → Option β) (fun z n t zs k => k z n t zs) (fun _ _ _ => none) (fun _ => none) x k := by
    cases f; exact gK_eq _ _ _
  rw [e] at q
  rcases r.blk b with ⟨q1, _⟩ | ⟨x', y, q1, q2, q3⟩
  · rw [q1] at q; cases q
  · rw [q1] at q
    cases q3 with
    | cells a1 a2 a3 => exact ⟨_, _, _, _, _, q2, a1, a2, a3, q⟩
    | map => cases q
    | dead => cases q
theorem getM_some (r : RH f h) {b : Nat} {k : Nat → List (Nat × Val × Val) → Option β} {x : β} (q : getM f b k = some x) : ∃ ck es, h.get b = some (.map ck es) ∧ k ck es = some x := by
  have e : getM f b k = (T.atN b f.t).bind fun x => FBlk.rec (motive := fun _ => Option β) (fun _ _ _ _ => none) k none x := by
    cases f; exact gK_eq _ _ _
  rw [e] at q
  rcases r.blk b with ⟨q1, _⟩ | ⟨x', y, q1, q2, q3⟩
  · rw [q1] at q; cases q
  · rw [q1] at q
    cases q3 with
    | cells a1 a2 a3 => cases q
    | map => exact ⟨_, _, q2, q⟩
    | dead => cases q
theorem cellK_eq (t : T Val) (zs : List Val) (i : Nat) (k : Val → β) : cellK t zs i k = k (cellF t zs i) := by
  unfold cellF cellK
  rw [gD_eq, gD_eq]
theorem cellF_eq (t : T Val) (zs : List Val) (i : Nat) : cellF t zs i = (T.atN i t).getD (nthL zs (i % zs.length)) := by
  unfold cellF cellK
  rw [gD_eq]; rfl
theorem cellsF_eq (t : T Val) (zs : List Val) : ∀ (n o : Nat), cellsF t zs o n = (List.range' o n).map (cellF t zs) := by
  intro n
  induction n with
  | zero => intro o; rfl
  | succ n ih => intro o; rw [List.range'_succ, List.map_cons, ← ih]; rfl
theorem cells_take {t : T Val} {zs c : List Val} {n : Nat} (h1 : c.length = n) (h2 : ∀ i, i < n → c[i]? = some (cellF t zs i)) {o k : Nat} (hk : o + k ≤ n) : (c.drop o).take k = cellsF t zs o k := by
  rw [cellsF_eq]
  apply List.ext_getElem?
  intro i
  rw [List.getElem?_take]
  split
  · rename_i hi
    rw [List.getElem?_drop, h2 _ (by omega), List.getElem?_map, List.getElem?_range' (by omega)]
    simp
  · rename_i hi
    rw [List.getElem?_eq_none]
    simp; omega
theorem rdK_some (r : RH f h) {b o n : Nat} {k : List Val → Option β} {x : β} (q : rdK f b o n k = some x) : ∃ l, rd h b o n = some l ∧ k l = some x := by
  obtain ⟨z, m, t, zs, c, g1, g2, g3, g4, g5⟩ := getK_some r q
  cases hb : Nat.ble (Nat.add o n) m with
  | false => rw [hb] at g5; cases g5
  | true =>
    rw [hb] at g5
    have hle : o + n ≤ c.length := by rw [g2]; exact Nat.le_of_ble_eq_true hb
    refine ⟨_, ?_, g5⟩
    unfold rd
    rw [g1]
    simp only [hle, if_true]
    rw [cells_take g2 g4 (by omega)]
theorem rd1K_some (r : RH f h) {b o : Nat} {k : Val → Option β} {x : β} (q : rd1K f b o k = some x) : ∃ v, rd h b o 1 = some [v] ∧ k v = some x ∧ v.one = true := by
  obtain ⟨z, m, t, zs, c, g1, g2, g3, g4, g5⟩ := getK_some r q
  cases hb : Nat.blt o m with
  | false => rw [hb] at g5; cases g5
  | true =>
    rw [hb] at g5
    have hlt : o + 1 ≤ m := Nat.le_of_ble_eq_true hb
    have g5' : k (cellF t zs o) = some x := (cellK_eq t zs o k).symm.trans g5
    refine ⟨_, ?_, g5', ?_⟩
    · unfold rd
      rw [g1]
      simp only [show o + 1 ≤ c.length by omega, if_true]
      rw [cells_take g2 g4 hlt]; rfl
    · have := g4 o (by omega)
      exact List.all_eq_true.1 g3 _ (List.mem_of_getElem? this)
theorem putK_eq (vs : List Val) : ∀ (t : T Val) (o : Nat) (k : T Val → β), ∃ t', putK vs t o k = k t' ∧ ∀ i zs, cellF t' zs i = if o ≤ i ∧ i < o + vs.length then vs.getD (i - o) .no else cellF t zs i := by
  induction vs with
  | nil => intro t o k; exact ⟨t, rfl, fun i zs => by rw [if_neg (by simp)]⟩
  | cons v vs ih =>
    intro t o k
    obtain ⟨t', h1, h2⟩ := ih (T.put (path o) t v) (o + 1) k
    refine ⟨t', ?_, fun i zs => ?_⟩
    · rw [← h1]; exact sK_eq _ _ _ _
    · rw [h2]
      by_cases hi : o + 1 ≤ i ∧ i < o + 1 + vs.length
      · rw [if_pos hi, if_pos (by simp; omega), show i - o = (i - (o + 1)) + 1 by omega]; rfl
      · rw [if_neg hi, cellF_eq, cellF_eq, atN_put]
        by_cases he : i = o
        · subst he; rw [if_pos rfl, if_pos (by simp)]; simp
        · rw [if_neg he, if_neg (by simp at hi ⊢; omega)]
theorem putL_cells {z : Nat} {t t' : T Val} {zs c vs : List Val} {n o : Nat} (g2 : c.length = n) (g3 : c.all Val.one = true) (g4 : ∀ i, i < n → c[i]? = some (cellF t zs i)) (hv : vs.all Val.one = true) (hle : o + vs.length ≤ n) (h2 : ∀ i zs, cellF t' zs i = if o ≤ i ∧ i < o + vs.length then vs.getD (i - o) .no else cellF t zs i) :
    RB (.cells z n t' zs) (.cells z (putL c o vs)) := by
  refine .cells (by rw [putL_length (by omega)]; exact g2) ?_ fun i hi => ?_
  · simp only [putL, List.all_append, Bool.and_eq_true]
    refine ⟨⟨?_, hv⟩, ?_⟩
    · exact List.all_eq_true.2 fun x hx => List.all_eq_true.1 g3 x (List.mem_of_mem_take hx)
    · exact List.all_eq_true.2 fun x hx => List.all_eq_true.1 g3 x (List.mem_of_mem_drop hx)
  · rw [putL_get (by omega), h2]
    split
    · rename_i hc
      rw [List.getD_eq_getElem?_getD, List.getElem?_eq_getElem (by omega)]; rfl
    · exact g4 i hi
theorem wrK_some (r : RH f h) {b o n : Nat} {vs : List Val} (hn : vs.length = n) {k : FHp → Option β} {x : β} (q : wrK f b o n vs k = some x) : ∃ f' h', wrH h b o vs = some h' ∧ RH f' h' ∧ k f' = some x := by
  obtain ⟨z, m, t, zs, c, g1, g2, g3, g4, g5⟩ := getK_some r q
  cases hb : (Nat.ble (Nat.add o n) m && vs.all Val.one) with
  | false => rw [hb] at g5; cases g5
  | true =>
    rw [hb] at g5
    simp only [Bool.and_eq_true] at hb
    have hle : o + n ≤ m := Nat.le_of_ble_eq_true hb.1
    have g6 : putK vs t o (fun t => setK f b (.cells z m t zs) k) = some x := g5
    obtain ⟨t', e1, e2⟩ := putK_eq (β := Option β) vs t o fun t => setK f b (.cells z m t zs) k
    rw [e1, setK_eq] at g6
    refine ⟨_, _, ?_, r.set (putL_cells g2 g3 g4 hb.2 (by omega) e2), g6⟩
    unfold wrH
    rw [g1]
    simp only [show o + vs.length ≤ c.length by omega, hb.2, and_self, if_true]
end mem
end Go.V
namespace Go.V
set_option linter.unusedVariables false
set_option linter.unusedSectionVars false
set_option linter.unusedSimpArgs false
variable [Sy]
def LocOk (k : Nat) (ls : List Val) (f : Env) (x : Option Val) : Loc → Prop
  | .lo a => a < k ∧ ls[k - 1 - a]? = x
  | .en n => T.atN n f = x
  | .co v => some v = x
structure Ev (D : List Nat) (m : SM) (k : Nat) (ls : List Val) (f e : Env) : Prop where
  env : ∀ t, D.contains t = false → T.atN t f = e.get t
  loc : ∀ t l, lkp m t = some l → LocOk k ls f (e.get t) l
  len : ls.length = k
section
variable {P : Program} {D : List Nat} {m : SM} {k : Nat} {ls : List Val} {f e : Env} {fh : FHp} {h : Hp} {β : Type}
def Opd (ls : List Val) (f e : Env) (x : Operand) (a : FA) : Prop := ∀ {β : Type} (κ : Val → Option β) (r : β), aK a ls f κ = some r → ∃ v, evO e x = some v ∧ κ v = some r
theorem rA_ok (s : Ev D m k ls f e) {x : Operand} {a : FA} (hr : rA D m k x = some a) : Opd ls f e x a := by
  intro β κ r q
  cases x with
  | tmp t =>
    simp only [rA] at hr
    split at hr
    · rename_i a' hl
      obtain rfl := Option.some.inj hr
      obtain ⟨h1, h2⟩ := s.loc t _ hl
      have q' : nthK (k - 1 - a') ls κ = some r := q
      rw [nthK_eq, h2] at q'
      exact Option.bind_eq_some_iff.1 q'
    · rename_i n hl
      obtain rfl := Option.some.inj hr
      have h2 : T.atN n f = e.get t := s.loc t _ hl
      have q' : gK (path n) f κ = some r := q
      rw [gK_eq] at q'
      rw [show T.at (path n) f = e.get t from h2] at q'
      exact Option.bind_eq_some_iff.1 q'
    · rename_i v hl
      obtain rfl := Option.some.inj hr
      have h2 : some v = e.get t := s.loc t _ hl
      exact ⟨v, h2.symm, q⟩
    · split at hr
      · cases hr
      · rename_i hD
        obtain rfl := Option.some.inj hr
        have h2 := s.env t (by simpa using hD)
        have q' : gK (path t) f κ = some r := q
        rw [gK_eq, show T.at (path t) f = e.get t from h2] at q'
        exact Option.bind_eq_some_iff.1 q'
  | const v =>
    obtain ⟨c, h1, rfl⟩ := Option.map_eq_some_iff.1 hr
    exact ⟨c, h1, q⟩
  | global g => cases hr
  | func g =>
    obtain rfl := Option.some.inj hr
    exact ⟨_, rfl, q⟩
theorem rL_ok (s : Ev D m k ls f e) : ∀ {l : List Operand} {as : List FA}, rL D m k l = some as → ∀ {β : Type} (κ : List Val → Option β) (r : β), evlK as ls f κ = some r → ∃ vs, evL e l = some vs ∧ κ vs = some r := by
  intro l
  induction l with
  | nil => intro as ha β κ r q; simp [rL] at ha; subst ha; exact ⟨[], by simp [evL], q⟩
  | cons x l ih =>
    intro as ha β κ r q
    rw [rL, List.mapM_cons] at ha
    obtain ⟨a, h1, ha⟩ := Option.bind_eq_some_iff.1 ha
    obtain ⟨as', h2, ha⟩ := Option.bind_eq_some_iff.1 ha
    obtain rfl := Option.some.inj ha
    have q' : aK a ls f (fun v => evlK as' ls f fun r => κ (v :: r)) = some r := q
    obtain ⟨v, v1, q'⟩ := rA_ok s h1 _ _ q'
    obtain ⟨vs, v2, q'⟩ := ih h2 _ _ q'
    exact ⟨v :: vs, by rw [evL, List.mapM_cons, v1]; rw [evL] at v2; rw [v2]; rfl, q'⟩
def OpS (P : Program) (ls : List Val) (f e : Env) (fh : FHp) (h : Hp) (o : FOp) (op : Op) : Prop :=
  ∀ (κ : KV) r, FOp.kk o ls f fh κ = some r → ∃ v fh' h', op1 P e h op = some (v, h') ∧ RH fh' h' ∧ κ v fh' = some r
theorem s_mv (R : RH fh h) {x : Operand} {a : FA} (hx : Opd ls f e x a) : OpS P ls f e fh h (.mv a) (.move x) ∧ OpS P ls f e fh h (.mv a) (.assign x) := by
  constructor <;> intro κ r q
  all_goals
    have q' : aK a ls f (fun v => κ v fh) = some r := q
    obtain ⟨v, v1, q'⟩ := hx _ _ q'
    exact ⟨v, fh, h, by simp [op1, v1], R, q'⟩
theorem s_pick (R : RH fh h) {x y z : Operand} {a b c : FA} (hx : Opd ls f e x a) (hy : Opd ls f e y b) (hz : Opd ls f e z c) : OpS P ls f e fh h (.pick a b c) (.pick x y z) := by
  intro κ r q
  have q' : aK a ls f (fun v => boolK v fun t => Bool.rec (motive := fun _ => CR) (aK c ls f fun v => κ v fh) (aK b ls f fun v => κ v fh) t) = some r := q
  obtain ⟨v, v1, q'⟩ := hx _ _ q'
  obtain ⟨t, hv, q2⟩ := boolK_some q'
  subst hv
  clear q'
  have q' := q2
  cases t with
  | true =>
    obtain ⟨v, v2, q'⟩ := hy _ _ q'
    exact ⟨v, fh, h, by simp [op1, v1, v2], R, q'⟩
  | false =>
    obtain ⟨v, v2, q'⟩ := hz _ _ q'
    exact ⟨v, fh, h, by simp [op1, v1, v2], R, q'⟩
theorem okZ_iff {z : Nat} {zero : List Val} (h : okZ z zero = true) : zero.length = z ∧ 0 < z ∧ zero.all Val.one = true := by
  simp only [okZ, Bool.and_eq_true] at h
  exact ⟨Nat.eq_of_beq_eq_true h.1.1, Nat.le_of_ble_eq_true h.1.2, h.2⟩
theorem RB_pat {z : Nat} {c : List Val} (h1 : c.all Val.one = true) : RB (.cells z c.length .lf c) (.cells z c) := by
  refine .cells rfl h1 fun i hi => ?_
  rw [cellF_eq, show T.atN i (T.lf : T Val) = none from at_lf _, Nat.mod_eq_of_lt hi]
  simp [nthL, List.getElem?_eq_getElem hi]
theorem s_alloc (R : RH fh h) {t : TypeId} {v : Val} (hz : zeroV P t = some v) (hok : okZ v.cells.length v.cells = true) : OpS P ls f e fh h (.alloc v.cells.length v.cells) (.alloc t) := by
  intro κ r q
  have q' : newK fh (.cells v.cells.length v.cells.length .lf v.cells) (fun b h => κ (.p (some (b, 0))) h) = some r := q
  rw [newK_eq] at q'
  obtain ⟨h1, h2, h3⟩ := okZ_iff hok
  refine ⟨_, _, _, ?_, R.new (RB_pat h3), q'⟩
  rw [R.next]
  simp only [op1, hz, Option.bind_some, allocV, h3, if_true]
theorem s_box (R : RH fh h) {t : TypeId} {x : Operand} {a : FA} (hx : Opd ls f e x a) : OpS P ls f e fh h (.box a) (.box t x) := by
  intro κ r q
  have q' : aK a ls f (fun v => Bool.rec (motive := fun _ => CR) none (newK fh (.cells v.cells.length v.cells.length .lf v.cells) fun b h => κ (.p (some (b, 0))) h) (v.cells.all Val.one)) = some r := q
  obtain ⟨v, v1, q'⟩ := hx _ _ q'
  cases hb : v.cells.all Val.one with
  | false => rw [hb] at q'; cases q'
  | true =>
    rw [hb] at q'
    have q2 : newK fh (.cells v.cells.length v.cells.length .lf v.cells) (fun b h => κ (.p (some (b, 0))) h) = some r := q'
    rw [newK_eq] at q2
    refine ⟨_, _, _, ?_, R.new (RB_pat hb), q2⟩
    rw [R.next]
    simp only [op1, v1, Option.bind_some, allocV, hb, if_true]
theorem fill_ok (s : Ev D m k ls f e) {pl : Nat → Option (Nat × Nat)} : ∀ {l : List (Nat × Operand)} {ps : List (Nat × Nat × FA)}, rPs D m k pl l = some ps → ∀ {β : Type} (c : List Val) (κ : List Val → Option β) (r : β), fillK ps ls f c κ = some r → ∃ qs c', evP e l = some qs ∧ fillV pl c qs = some c' ∧ κ c' = some r := by
  intro l
  induction l with
  | nil => intro ps hp β c κ r q; simp [rPs] at hp; subst hp; exact ⟨[], c, by simp [evP], rfl, q⟩
  | cons x l ih =>
    obtain ⟨i, x⟩ := x
    intro ps hp β c κ r q
    rw [rPs, List.mapM_cons] at hp
    obtain ⟨p, h1, hp⟩ := Option.bind_eq_some_iff.1 hp
    obtain ⟨ps', h2, hp⟩ := Option.bind_eq_some_iff.1 hp
    obtain rfl := Option.some.inj hp
    obtain ⟨pq, g1, h1⟩ := Option.bind_eq_some_iff.1 h1
    obtain ⟨a, g2, rfl⟩ := Option.map_eq_some_iff.1 h1
    have q' : aK a ls f (fun v => Bool.rec (motive := fun _ => Option β) none (fillK ps' ls f (putL c pq.1 v.cells) κ) (Nat.beq v.cells.length pq.2 && Nat.ble (Nat.add pq.1 pq.2) c.length)) = some r := q
    obtain ⟨v, v1, q'⟩ := rA_ok s g2 _ _ q'
    cases hb : (Nat.beq v.cells.length pq.2 && Nat.ble (Nat.add pq.1 pq.2) c.length) with
    | false => rw [hb] at q'; cases q'
    | true =>
      rw [hb] at q'
      simp only [Bool.and_eq_true] at hb
      have e1 := Nat.eq_of_beq_eq_true hb.1
      have e2 : pq.1 + pq.2 ≤ c.length := Nat.le_of_ble_eq_true hb.2
      obtain ⟨qs, c', w1, w2, w3⟩ := ih h2 _ _ _ q'
      refine ⟨(i, v) :: qs, c', ?_, ?_, w3⟩
      · rw [evP, List.mapM_cons, v1]; rw [evP] at w1; rw [w1]; rfl
      · simp only [fillV, g1, Option.bind_some]
        rw [if_pos ⟨e1, by omega⟩]
        exact w2
theorem s_load1 (R : RH fh h) {t : TypeId} {x : Operand} {a : FA} (ht : aggT P t = some false) (hx : Opd ls f e x a) : OpS P ls f e fh h (.load1 a) (.load t x) := by
  intro κ r q
  have q' : aK a ls f (fun v => ptrK v fun b o => rd1K fh b o fun v => κ v fh) = some r := q
  obtain ⟨v, v1, q'⟩ := hx _ _ q'
  obtain ⟨b, o, hv, q2⟩ := ptrK_some q'
  subst hv
  clear q'
  have q' := q2
  obtain ⟨v, v2, q', _⟩ := rd1K_some R q'
  exact ⟨v, fh, h, by simp [op1, v1, ldV, ht, v2], R, q'⟩
theorem s_loadN (R : RH fh h) {t : TypeId} {x : Operand} {a : FA} {n : Nat} (ht : aggT P t = some true) (hs : sz P t = some n) (hx : Opd ls f e x a) : OpS P ls f e fh h (.loadN n a) (.load t x) := by
  intro κ r q
  have q' : aK a ls f (fun v => ptrK v fun b o => rdK fh b o n fun l => κ (.agg l) fh) = some r := q
  obtain ⟨v, v1, q'⟩ := hx _ _ q'
  obtain ⟨b, o, hv, q2⟩ := ptrK_some q'
  subst hv
  clear q'
  have q' := q2
  obtain ⟨l, v2, q'⟩ := rdK_some R q'
  exact ⟨_, fh, h, by simp [op1, v1, ldV, ht, hs, v2], R, q'⟩
theorem s_storeN (R : RH fh h) {t : TypeId} {x y : Operand} {a b : FA} {n : Nat} (hs : sz P t = some n) (hx : Opd ls f e x a) (hy : Opd ls f e y b) : OpS P ls f e fh h (.storeN n a b) (.store t x y) := by
  intro κ r q
  have q' : aK a ls f (fun v => aK b ls f fun u => ptrK v fun b o => Bool.rec (motive := fun _ => CR) none (wrK fh b o n u.cells fun h => κ .no h) (Nat.beq u.cells.length n)) = some r := q
  obtain ⟨v, v1, q'⟩ := hx _ _ q'
  obtain ⟨u, u1, q'⟩ := hy _ _ q'
  obtain ⟨b, o, hv, q2⟩ := ptrK_some q'
  subst hv
  clear q'
  have q' := q2
  cases hb : Nat.beq u.cells.length n with
  | false => rw [hb] at q'; cases q'
  | true =>
    rw [hb] at q'
    have e1 := Nat.eq_of_beq_eq_true hb
    obtain ⟨f', h', w1, w2, q'⟩ := wrK_some R e1 q'
    exact ⟨_, f', h', by simp [op1, v1, u1, stV, hs, e1, w1], w2, q'⟩
theorem one_cells {v : Val} (h : v.one = true) : v.cells = [v] := by cases v <;> first | rfl | (simp [Val.one] at h)
theorem s_store1 (R : RH fh h) {t : TypeId} {x y : Operand} {a b : FA} (hs : sz P t = some 1) (hx : Opd ls f e x a) (hy : Opd ls f e y b) : OpS P ls f e fh h (.store1 a b) (.store t x y) := by
  intro κ r q
  have q' : aK a ls f (fun v => aK b ls f fun u => ptrK v fun b o => getK fh b fun z m t zs => Bool.rec (motive := fun _ => CR) none (sK (path o) t u fun t => setK fh b (.cells z m t zs) fun h => κ .no h) (Nat.blt o m && Val.one u)) = some r := q
  obtain ⟨v, v1, q'⟩ := hx _ _ q'
  obtain ⟨u, u1, q'⟩ := hy _ _ q'
  obtain ⟨b, o, hv, q2⟩ := ptrK_some q'
  subst hv
  clear q'
  have q' := q2
  obtain ⟨z, n, t', zs, c, g1, g2, g3, g4, q'⟩ := getK_some R q'
  cases hb : (Nat.blt o n && Val.one u) with
  | false => rw [hb] at q'; cases q'
  | true =>
    rw [hb] at q'
    simp only [Bool.and_eq_true] at hb
    have hlt : o + 1 ≤ n := Nat.le_of_ble_eq_true hb.1
    have q2 : sK (path o) t' u (fun t => setK fh b (.cells z n t zs) fun h => κ .no h) = some r := q'
    rw [sK_eq, setK_eq] at q2
    refine ⟨_, _, _, ?_, R.set (putL_cells (vs := [u]) (o := o) (t' := T.put (path o) t' u) g2 g3 g4 (by simp [hb.2]) (by simpa using hlt) fun i zs => ?_), q2⟩
    · simp only [op1, v1, u1, Option.bind_some, stV, hs, one_cells hb.2, List.length_singleton, if_true, wrH, g1]
      rw [if_pos ⟨by omega, by simp [hb.2]⟩]
      rfl
    · rw [cellF_eq, cellF_eq, atN_put]
      by_cases he : i = o
      · subst he; rw [if_pos rfl, if_pos (by simp)]; simp
      · rw [if_neg he, if_neg (by simp; omega)]
theorem s_nil (R : RH fh h) {x : Operand} {a : FA} (hx : Opd ls f e x a) : OpS P ls f e fh h (.nilc a) (.nilCheck x) := by
  intro κ r q
  have q' : aK a ls f (fun v => match v with | .p none => none | .nf => none | .un => none | v => κ v fh) = some r := q
  obtain ⟨v, v1, q'⟩ := hx _ _ q'
  refine ⟨v, fh, h, ?_, R, ?_⟩
  · simp only [op1, v1, Option.bind_some]
    split at q' <;> first | (cases q'; done) | skip
    split <;> first | (rename_i hh; exact absurd rfl (by assumption)) | simp_all
  · split at q' <;> first | (cases q'; done) | exact q'
end
end Go.V
