/- maps, conversions; all operations that call nothing. -/
import Derived.Test.YtddopjjmpadnoaaGreatH1
import Derived.OrdersIn
import Derived.TacticsIn
import Derived.RangeFuncRecord
namespace Go.V
set_option linter.unusedVariables false
set_option linter.unusedSectionVars false
set_option linter.unusedSimpArgs false
variable [Sy]
section
variable {P : Program} {ρ : Ren} {h : Hp} {w : World} {env : Env} {a : Act}
theorem Rel.newMap (r : Rel ρ h w) : Rel (ρ.put h.next ⟨w.heap.size, 0, 0, 0, 0⟩) (h.new (.map 0 [])) (w.alloc (.map #[] 0)) ∧ Ext ρ h w (ρ.put h.next ⟨w.heap.size, 0, 0, 0, 0⟩) (h.new (.map 0 [])) (w.alloc (.map #[] 0)) := by
  have hfree := r.free
  have hle := Ren.le_put (ρ := ρ) (b := h.next) ⟨w.heap.size, 0, 0, 0, 0⟩ hfree
  have hput : ∀ b i, (ρ.put h.next ⟨w.heap.size, 0, 0, 0, 0⟩) b = some i → (b = h.next ∧ i = ⟨w.heap.size, 0, 0, 0, 0⟩) ∨ (b ≠ h.next ∧ ρ b = some i) := fun b i e => by
    unfold Ren.put at e
    split at e
    · rename_i hb; exact .inl ⟨hb, (Option.some.inj e).symm⟩
    · rename_i hb; exact .inr ⟨hb, e⟩
  have hold : ∀ g, g < w.heap.size → (w.alloc (.map #[] 0)).heap[g]? = w.heap[g]? := fun g hg => by
    show (w.heap.push _)[g]? = _
    rw [Array.getElem?_push, if_neg (Nat.ne_of_lt hg)]
  have hnew : (w.alloc (.map #[] 0)).heap[w.heap.size]? = some (.map #[] 0) := by
    show (w.heap.push _)[w.heap.size]? = _
    rw [Array.getElem?_push, if_pos rfl]
  refine ⟨⟨fun b i e => ?_, fun b i B e f => ?_, fun b b' i i' e e' l l' hg => ?_, fun k hk => by
      have hk' : h.next + 1 ≤ k := hk
      rw [Hp.get_new, if_neg (by omega)]; exact r.wf k (by omega)⟩, hle, Nat.le_succ _, fun b hb hl => ⟨?_, ?_⟩, by simp, fun g hg hn => ⟨hold g hg, fun b i e q => ?_⟩, rfl, rfl, rfl, Nat.le_refl _⟩
  · rcases hput b i e with ⟨rfl, rfl⟩ | ⟨_, e⟩
    · exact ⟨Nat.lt_succ_self _, by simp⟩
    · have := r.dom b i e; exact ⟨Nat.lt_succ_of_lt this.1, by simp; omega⟩
  · rcases hput b i e with ⟨rfl, rfl⟩ | ⟨hb, e⟩
    · rw [Hp.get_new, if_pos rfl] at f
      obtain rfl := Option.some.inj f
      exact ⟨#[], hnew, rfl, fun j c k v hj => by simp at hj⟩
    · rw [Hp.get_new, if_neg hb] at f
      exact (r.blk b i B e f).congr hle (hold _ (r.dom b i e).2)
  · have lv : ∀ (p : Blk → Bool) b, b ≠ h.next → has p (h.new (.map 0 [])) b → has p h b := fun p b hb ⟨B, a, q⟩ => ⟨B, by rw [Hp.get_new, if_neg hb] at a; exact a, q⟩
    rcases hput b i e with ⟨rfl, rfl⟩ | ⟨hb, e⟩ <;> rcases hput b' i' e' with ⟨rfl, rfl⟩ | ⟨hb', e'⟩
    · rfl
    · have := (r.dom b' i' e').2; simp only at hg; omega
    · have := (r.dom b i e).2; simp only at hg; omega
    · exact r.inj b b' i i' e e' (lv _ b hb l) (lv _ b' hb' l') hg
  · unfold Ren.put; rw [if_neg (by omega)]; exact hb
  · rw [Hp.get_new, if_neg (by omega)]
  · rcases hput b i e with ⟨rfl, rfl⟩ | ⟨hb, e⟩
    · simp; omega
    · obtain ⟨B, q1, q2⟩ := q
      exact hn b i e ⟨B, by rw [Hp.get_new, if_neg hb] at q1; exact q1, q2⟩
theorem Rel.setMap (r : Rel ρ h w) {b : Nat} {i : Info} {es es' : List (Nat × Val × Val)} {en' : Array MapEntry} {ck ck' : Nat} (hb : ρ b = some i) (hg : h.get b = some (.map ck es)) (hlen : en'.size = es'.length) (hr : ∀ (j c : Nat) (k v : Val), es'[j]? = some (c, k, v) → ∃ e : MapEntry, en'[j]? = some e ∧ e.born = c ∧ VR ρ k e.key ∧ VR ρ v e.val) :
    Rel ρ (h.set b (.map ck' es')) { w with heap := w.heap.setIfInBounds i.g (.map en' ck') } ∧ Ext ρ h w ρ (h.set b (.map ck' es')) { w with heap := w.heap.setIfInBounds i.g (.map en' ck') } := by
  have hd := r.dom b i hb
  have hold : ∀ g, g ≠ i.g → (w.heap.setIfInBounds i.g (.map en' ck'))[g]? = w.heap[g]? := fun g hg => by
    rw [Array.getElem?_setIfInBounds, if_neg (fun e => hg e.symm)]
  have hnew : (w.heap.setIfInBounds i.g (.map en' ck'))[i.g]? = some (.map en' ck') := by
    rw [Array.getElem?_setIfInBounds, if_pos rfl, if_pos hd.2]
  have lv : ∀ (p : Blk → Bool), p (.map ck' es') = p (.map ck es) → ∀ k, has p (h.set b (.map ck' es')) k → has p h k := fun p hp k ⟨B, q1, q2⟩ => by
    rw [Hp.get_set] at q1
    split at q1
    · rename_i e; subst e; obtain rfl := Option.some.inj q1; exact ⟨_, hg, by rw [← hp]; exact q2⟩
    · exact ⟨B, q1, q2⟩
  refine ⟨⟨fun b' i' e => by have := r.dom b' i' e; exact ⟨this.1, by simpa using this.2⟩, fun b' i' B' e f => ?_, fun b1 b2 i1 i2 e1 e2 l1 l2 => r.inj b1 b2 i1 i2 e1 e2 (lv _ rfl _ l1) (lv _ rfl _ l2), fun k hk => by
      have hk' : h.next ≤ k := hk
      rw [Hp.get_set, if_neg (by omega)]; exact r.wf k hk'⟩, Ren.le.refl _, Nat.le_refl _, fun b' hb' hl => ⟨hb', ?_⟩, by simp, fun g hg' hn => ⟨hold g (fun e => hn b i hb ⟨_, hg, rfl⟩ e.symm), fun b' i' e q => hn b' i' e (lv _ rfl _ q)⟩, rfl, rfl, rfl, Nat.le_refl _⟩
  · rw [Hp.get_set] at f
    split at f
    · rename_i e2; subst e2
      rw [hb] at e; obtain rfl := Option.some.inj e
      obtain rfl := Option.some.inj f
      exact ⟨en', hnew, hlen, hr⟩
    · rename_i hbb
      have hB := r.blk b' i' B' e f
      cases B' with
      | dead => trivial
      | cells z c => exact hB.congr (Ren.le.refl _) (hold _ (fun eg => hbb (r.inj b' b i' i e hb ⟨_, f, by simp⟩ ⟨_, hg, by simp⟩ eg)))
      | ro c => exact hB.congr (Ren.le.refl _) (hold _ (fun eg => hbb (r.inj b' b i' i e hb ⟨_, f, by simp⟩ ⟨_, hg, by simp⟩ eg)))
      | map ck es => exact hB.congr (Ren.le.refl _) (hold _ (fun eg => hbb (r.inj b' b i' i e hb ⟨_, f, by simp⟩ ⟨_, hg, by simp⟩ eg)))
  · rw [Hp.get_set, if_neg (fun e => by rw [e, hb] at hb'; cases hb')]
theorem sameNow_eq {kt : TypeId} {d : TypeDesc} {k k' : Val} {u u' : Value} (hd : P.underlying kt = some d) (hn : ∀ n e, d ≠ .array n e) (h1 : keyT P kt k = true) (h2 : keyT P kt k' = true) (v1 : VR ρ k u) (v2 : VR ρ k' u') : Instr.sameNow d u u' = some (keyEq k k') := by
  unfold keyT at h1
  split at h1
  · rename_i j q n hu
    rw [hu] at hd; obtain rfl := Option.some.inj hd
    unfold keyT at h2; rw [hu] at h2
    split at h2
    · rename_i j2 q2 n2 e1
      obtain rfl : j = j2 := by injection e1 with e1; injection e1
      cases v1; cases v2
      have a1 : q = j := by simpa using h1
      have a2 : q2 = j := by simpa using h2
      subst a1; subst a2; simp [Instr.sameNow, keyEq, eq1]
    · rename_i e1; cases e1
    · rename_i e1; cases e1
    · rename_i e1; cases e1
    · cases h2
  · rename_i s hu
    rw [hu] at hd; obtain rfl := Option.some.inj hd
    unfold keyT at h2; rw [hu] at h2
    split at h2
    · rename_i e1; cases e1
    · cases v1; cases v2; simp only [Instr.sameNow, strVal', keyEq, eq1, beq_toListBytes, strVal_toList]
    · rename_i e1; cases e1
    · rename_i e1; cases e1
    · cases h2
  · rename_i s hu
    rw [hu] at hd; obtain rfl := Option.some.inj hd
    unfold keyT at h2; rw [hu] at h2
    split at h2
    · rename_i e1; cases e1
    · rename_i e1; cases e1
    · cases v1; cases v2; rfl
    · rename_i e1; cases e1
    · cases h2
  · rename_i hu
    rw [hu] at hd; exact absurd (Option.some.inj hd).symm (hn _ _)
  · cases h1
theorem eq1_bits {x y : Val} {u u' : Value} (v1 : VR ρ x u) (v2 : VR ρ y u') (he : eq1 x y = true) (n : Nat) : Instr.sameBits n u' u = true := by
  cases v1 <;> first | (simp [eq1] at he; done) | skip
  all_goals (cases v2 <;> first | (simp [eq1] at he; done) | skip)
  · simp only [eq1, beq_iff_eq] at he; subst he; simp [Instr.sameBits]
  · simp only [eq1, Bool.and_eq_true, beq_iff_eq] at he; obtain ⟨rfl, rfl⟩ := he; simp [Instr.sameBits]
  · simp only [eq1, beq_iff_eq] at he; subst he; simp only [Instr.sameBits, strVal', beq_toListBytes]; simp
theorem eqL_bits : ∀ {xs ys : List Val} {us us' : List Value}, VRL ρ xs us → VRL ρ ys us' → eqL xs ys = true → ∀ n, us'.length = us.length ∧ ((us'.zip us).all fun q => Instr.sameBits n q.1 q.2) = true := by
  intro xs
  induction xs with
  | nil =>
    intro ys us us' h1 h2 he n
    cases ys with
    | nil =>
      have e1 : us = [] := List.eq_nil_of_length_eq_zero h1.1.symm
      have e2 : us' = [] := List.eq_nil_of_length_eq_zero h2.1.symm
      subst e1; subst e2; exact ⟨rfl, rfl⟩
    | cons y ys => simp [eqL] at he
  | cons x xs ih =>
    intro ys us us' h1 h2 he n
    cases ys with
    | nil => simp [eqL] at he
    | cons y ys =>
      cases us with
      | nil => exact absurd h1.1 (by simp)
      | cons u us =>
        cases us' with
        | nil => exact absurd h2.1 (by simp)
        | cons u' us' =>
          simp only [eqL, Bool.and_eq_true] at he
          obtain ⟨a, b⟩ := ih h1.tail h2.tail he.2 n
          exact ⟨by simp [a], by simp only [List.zip_cons_cons, List.all_cons, Bool.and_eq_true]; exact ⟨eq1_bits h1.head h2.head he.1 n, b⟩⟩
theorem sameBits_eq {k k' : Val} {u u' : Value} (v1 : VR ρ k u) (v2 : VR ρ k' u') (he : keyEq k k' = true) (n : Nat) : Instr.sameBits (n + 1) u' u = true := by
  unfold keyEq at he
  split at he
  · cases v1 with
    | agg a1 a2 =>
      cases v2 with
      | agg b1 b2 =>
        obtain ⟨q1, q2⟩ := eqL_bits ⟨a1, a2⟩ ⟨b1, b2⟩ he n
        simp only [Instr.sameBits, List.size_toArray, q1, beq_self_eq_true, Bool.true_and]
        exact q2
  · exact eq1_bits v1 v2 he _
theorem run_sz1 {e : TypeId} (hs : sz P e = some 1) (w : World) : (sizeOf e).run P w = .ok 1 w := by
  obtain ⟨i, h1, h2⟩ := sz_info hs
  rw [run_sizeOf w h1]
  simp [Program.cellsOf, h1, h2]
theorem check_plain {t : TypeId} {d : TypeDesc} {c : Val} {u : Value} (hp : plainT P t = some d) (v1 : VR ρ c u) (l1 : leafOk d c = true) (e : Bool) (n : Nat) (w : World) : (Instr.checkKey e (n + 1) t u).run P w = .ok () w := by
  unfold plainT at hp
  split at hp <;> first | (obtain rfl := Option.some.inj hp) | cases hp
  all_goals
    cases c <;> simp [leafOk] at l1
    cases v1
    rw [Instr.checkKey]; simp [run_underlying (by assumption), strVal']
theorem leaves_at {d : TypeDesc} : ∀ {n : Nat} {cs : List Val}, leavesOk (List.replicate n d) cs = true → cs.length = n ∧ ∀ (j : Nat) (c : Val), cs[j]? = some c → leafOk d c = true
  | 0, [], _ => ⟨rfl, fun j c h => by simp at h⟩
  | 0, _ :: _, h => by simp [leavesOk] at h
  | n + 1, [], h => by simp [List.replicate_succ, leavesOk] at h
  | n + 1, x :: xs, h => by
    simp only [List.replicate_succ, leavesOk, Bool.and_eq_true] at h
    obtain ⟨a, b⟩ := leaves_at h.2
    exact ⟨by simp [a], fun j c hj => by
      cases j with
      | zero => simp at hj; subst hj; exact h.1
      | succ j => exact b j c (by simpa using hj)⟩
theorem check_key {kt : TypeId} {k : Val} {u : Value} (h1 : keyT P kt k = true) (v1 : VR ρ k u) (e : Bool) (n : Nat) (w : World) : (Instr.checkKey e (n + 2) kt u).run P w = .ok () w := by
  unfold keyT at h1
  split at h1
  · cases v1; rw [Instr.checkKey]; simp [run_underlying (by assumption)]
  · cases v1; rw [Instr.checkKey]; simp [run_underlying (by assumption), strVal']
  · cases v1; rw [Instr.checkKey]; simp [run_underlying (by assumption)]
  · rename_i m el cs hu
    split at h1
    · rename_i l hf
      simp only [Bool.and_eq_true] at h1
      unfold flatT at hf
      rw [hu] at hf
      simp only at hf
      split at hf
      · rename_i hs
        obtain ⟨d, hd, rfl⟩ := Option.map_eq_some_iff.1 hf
        obtain ⟨b1, b2⟩ := leaves_at h1.1
        cases v1 with
        | agg a1 a2 =>
          rename_i vs
          rw [Instr.checkKey]
          simp only [Sem.run_bind, run_underlying hu, Result.andThen_ok]
          simp only [Std.Legacy.Range.forIn_eq_forIn_range', Std.Legacy.Range.size, Nat.sub_zero, Nat.add_one_sub_one, Nat.div_one]
          have each : ∀ j ∈ List.range' 0 m, ∃ v, (part el vs.toArray (j * 1)).run P w = .ok v w ∧ (Instr.checkKey e (n + 1) el v).run P w = .ok () w := fun j hj => by
            have hj' : j < cs.length := by simp at hj; omega
            obtain ⟨v, q1, q2⟩ := VRL.at ⟨a1, a2⟩ (List.getElem?_eq_getElem hj')
            exact ⟨v, by rw [Nat.mul_one]; exact run_partP hd q1 w, check_plain hd q2 (b2 _ _ (List.getElem?_eq_getElem hj')) e n w⟩
          generalize List.range' 0 m = is at each
          induction is with
          | nil => simp
          | cons j is ih =>
            obtain ⟨v, p1, p2⟩ := each j (by simp)
            simp only [List.forIn_cons, Sem.run_bind, run_sz1 hs w, Result.andThen_ok, p1, p2, Sem.run_pure]
            exact ih (fun y hy => each y (by simp [hy]))
      · cases hf
    · cases h1
  · cases h1
abbrev EnR (ρ : Ren) (es : List (Nat × Val × Val)) (en : List MapEntry) : Prop := ∀ (j c : Nat) (k v : Val), es[j]? = some (c, k, v) → ∃ e : MapEntry, en[j]? = some e ∧ e.born = c ∧ VR ρ k e.key ∧ VR ρ v e.val
structure Fnd (ρ : Ren) (k : Val) (es : List (Nat × Val × Val)) (en : List MapEntry) (j : Nat) (e : MapEntry) (v k' : Val) : Prop where
  find : findV k es = some (e.born, v)
  at_ : en[j]? = some e
  val : VR ρ v e.val
  es_ : es[j]? = some (e.born, k', v)
  eq : keyEq k k' = true
  key : VR ρ k' e.key
  upd : ∀ c x, updV c k x es = es.set j (e.born, k, x)
  del : delV k es = es.eraseIdx j
structure Non (k : Val) (es : List (Nat × Val × Val)) : Prop where
  find : findV k es = none
  upd : ∀ c x, updV c k x es = es ++ [(c, k, x)]
  del : delV k es = es
theorem Non.cons {k k' v : Val} {c : Nat} {es : List (Nat × Val × Val)} (h : Non k es) (he : keyEq k k' = false) : Non k ((c, k', v) :: es) :=
  ⟨by simp [findV, he, h.find], fun c x => by simp [updV, he, h.upd], by simp [delV, he, h.del]⟩
theorem Fnd.cons {k k1 v1 : Val} {c : Nat} {es : List (Nat × Val × Val)} {en : List MapEntry} {m e : MapEntry} {j : Nat} {v k' : Val} (h : Fnd ρ k es en j e v k') (he : keyEq k k1 = false) : Fnd ρ k ((c, k1, v1) :: es) (m :: en) (j + 1) e v k' :=
  ⟨by simp [findV, he, h.find], by simpa using h.at_, h.val, by simpa using h.es_, h.eq, h.key, fun c x => by simp [updV, he, h.upd], by simp [delV, he, h.del]⟩
theorem find_walk {kt : TypeId} {k : Val} {u : Value} (w : World) (F : List MapEntry → Nat → Result (Option (Nat × Value))) (hnil : ∀ i, F [] i = .ok none w)
    (hcons : ∀ (m : MapEntry) (en : List MapEntry) (i : Nat) (k' : Val), keyT P kt k' = true → VR ρ k' m.key → F (m :: en) i = bif keyEq k k' then .ok (some (i, m.val)) w else F en (i + 1)) :
    ∀ (es : List (Nat × Val × Val)) (en : List MapEntry) (i : Nat), en.length = es.length → keysT P kt es = true → EnR ρ es en →
    (Non k es ∧ F en i = .ok none w) ∨ ∃ j e v k', Fnd ρ k es en j e v k' ∧ F en i = .ok (some (i + j, e.val)) w := by
  intro es
  induction es with
  | nil =>
    intro en i hl hk hr
    have : en = [] := List.eq_nil_of_length_eq_zero hl
    subst this
    exact .inl ⟨⟨rfl, fun _ x => rfl, rfl⟩, hnil i⟩
  | cons e es ih =>
    intro en i hl hk hr
    obtain ⟨c, k', v⟩ := e
    cases en with
    | nil => simp at hl
    | cons m en =>
      simp only [keysT, List.all_cons, Bool.and_eq_true] at hk
      obtain ⟨m', hm, r0, r1, r2⟩ := hr 0 c k' v rfl
      simp at hm; subst hm
      have hs := hcons m en i k' hk.1 r1
      cases he : keyEq k k' with
      | true =>
        refine .inr ⟨0, m, v, k', ⟨by simp [findV, he, r0], rfl, r2, by simp [r0], he, r1, fun c x => by simp [updV, he, r0], by simp [delV, he]⟩, by rw [hs, he]; rfl⟩
      | false =>
        rw [he] at hs
        rcases ih en (i + 1) (by simpa using hl) hk.2 (fun j c k v hj => hr (j + 1) c k v (by simpa using hj)) with ⟨q1, q2⟩ | ⟨j, e, v', k2, q1, q2⟩
        · exact .inl ⟨q1.cons he, by rw [hs]; exact q2⟩
        · exact .inr ⟨j + 1, e, v', k2, q1.cons he, by rw [hs]; simp only [cond_false]; rw [q2]; congr 3; omega⟩
theorem keyT_und {kt : TypeId} {k : Val} (h1 : keyT P kt k = true) : ∃ d, P.underlying kt = some d := by
  unfold keyT at h1
  split at h1 <;> first | exact ⟨_, by assumption⟩ | cases h1
theorem keyT_agg {kt : TypeId} {n : Nat} {e : TypeId} {k : Val} (hd : P.underlying kt = some (.array n e)) (h1 : keyT P kt k = true) : ∃ cs l, k = .agg cs ∧ flatT P kt = some l ∧ leavesOk l cs = true ∧ P.eqGuardType P.depth kt = false := by
  unfold keyT at h1
  rw [hd] at h1
  split at h1
  · rename_i q; cases q
  · rename_i q; cases q
  · rename_i q; cases q
  · split at h1
    · rename_i l hl
      simp only [Bool.and_eq_true, Bool.not_eq_true'] at h1
      exact ⟨_, l, rfl, hl, h1.1, h1.2⟩
    · cases h1
  · cases h1
theorem run_find {kt : TypeId} {k : Val} {u : Value} (h1 : keyT P kt k = true) (v1 : VR ρ k u) (w : World) (es : List (Nat × Val × Val)) (en : List MapEntry) (hl : en.length = es.length) (hk : keysT P kt es = true) (hr : EnR ρ es en) :
    (Non k es ∧ (Instr.findKey kt u en).run P w = .ok none w) ∨ ∃ j e v k', Fnd ρ k es en j e v k' ∧ (Instr.findKey kt u en).run P w = .ok (some (j, e.val)) w := by
  obtain ⟨d, hd⟩ := keyT_und h1
  by_cases ha : ∃ n e, d = .array n e
  · obtain ⟨n, e, rfl⟩ := ha
    have hcons : ∀ (m : MapEntry) (en : List MapEntry) (i : Nat) (k' : Val), keyT P kt k' = true → VR ρ k' m.key → (Instr.findAsking kt u (m :: en) i).run P w = bif keyEq k k' then .ok (some (i, m.val)) w else (Instr.findAsking kt u en (i + 1)).run P w := by
      intro m en i k' h2 v2
      obtain ⟨cs, l, rfl, f1, f2, f3⟩ := keyT_agg hd h1
      obtain ⟨ds, l', rfl, g1, g2, g3⟩ := keyT_agg hd h2
      rw [f1] at g1; obtain rfl := Option.some.inj g1
      have := sim_eq (P := P) (t := kt) (q := eqL cs ds) (by simp [eqV, hd, f1, f2, g2, f3]) v1 v2 w
      simp only [Instr.findAsking, Sem.run_bind, this, Result.andThen_ok, keyEq]
      cases eqL cs ds <;> rfl
    have hfn : (Instr.findKey kt u en).run P w = (Instr.findAsking kt u en 0).run P w := by
      cases en with
      | nil => simp [Instr.findKey, run_underlying hd, Instr.findNow, Instr.findAsking]
      | cons e es => simp [Instr.findKey, run_underlying hd, Instr.findNow, Instr.sameNow]
    rw [hfn]
    rcases find_walk (P := P) (ρ := ρ) (kt := kt) (k := k) (u := u) w (fun en i => (Instr.findAsking kt u en i).run P w) (fun i => by simp [Instr.findAsking]) hcons es en 0 hl hk hr with q | ⟨j, e, v, k', q1, q2⟩
    · exact .inl q
    · exact .inr ⟨j, e, v, k', q1, by rw [Nat.zero_add] at q2; exact q2⟩
  · have hn : ∀ n e, d ≠ .array n e := fun n e q => ha ⟨n, e, q⟩
    have hfn : (Instr.findKey kt u en).run P w = (match Instr.findNow d u en 0 with | some r => (pure r : Sem (Option (Nat × Value))) | none => Instr.findAsking kt u en).run P w := by
      simp only [Instr.findKey, Sem.run_bind, run_underlying hd w, Result.andThen_ok]
      cases Instr.findNow d u en 0 <;> rfl
    have now : ∀ (es : List (Nat × Val × Val)) (en : List MapEntry) (i : Nat), en.length = es.length → keysT P kt es = true → EnR ρ es en →
      (Non k es ∧ Instr.findNow d u en i = some none) ∨ ∃ j e v k', Fnd ρ k es en j e v k' ∧ Instr.findNow d u en i = some (some (i + j, e.val)) := by
      intro es
      induction es with
      | nil =>
        intro en i hl hk hr
        have : en = [] := List.eq_nil_of_length_eq_zero hl
        subst this
        exact .inl ⟨⟨rfl, fun _ x => rfl, rfl⟩, rfl⟩
      | cons e es ih =>
        intro en i hl hk hr
        obtain ⟨c, k', v⟩ := e
        cases en with
        | nil => simp at hl
        | cons m en =>
          simp only [keysT, List.all_cons, Bool.and_eq_true] at hk
          obtain ⟨m', hm, r0, r1, r2⟩ := hr 0 c k' v rfl
          simp at hm; subst hm
          have hs := sameNow_eq hd hn h1 hk.1 v1 r1
          cases he : keyEq k k' with
          | true =>
            refine .inr ⟨0, m, v, k', ⟨by simp [findV, he, r0], rfl, r2, by simp [r0], he, r1, fun c x => by simp [updV, he, r0], by simp [delV, he]⟩, by simp [Instr.findNow, hs, he]⟩
          | false =>
            rcases ih en (i + 1) (by simpa using hl) hk.2 (fun j c k v hj => hr (j + 1) c k v (by simpa using hj)) with ⟨q1, q2⟩ | ⟨j, e, v', k2, q1, q2⟩
            · exact .inl ⟨q1.cons he, by simp [Instr.findNow, hs, he, q2]⟩
            · exact .inr ⟨j + 1, e, v', k2, q1.cons he, by simp [Instr.findNow, hs, he, q2]; omega⟩
    rw [hfn]
    rcases now es en 0 hl hk hr with ⟨q1, q2⟩ | ⟨j, e, v, k', q1, q2⟩
    · exact .inl ⟨q1, by rw [q2]; rfl⟩
    · exact .inr ⟨j, e, v, k', q1, by rw [q2, Nat.zero_add]; rfl⟩
theorem sim_lookup {o : Oper} {t : TypeId} {x y : Operand} {ok : Bool} {m k v : Val} (ho : o.op = .lookup t x y ok) (r : Rel ρ h w) (hE : EnvR ρ env a) (hx : evO env x = some m) (hy : evO env y = some k) (hv : lookV P h t m k ok = some v) : OpR P ρ h w a o v h := by
  have v1 := evO_VR hE hx
  have v2 := evO_VR hE hy
  generalize hu1 : a.eval x = u1 at v1
  generalize hu2 : a.eval y = u2 at v2
  have hrun : ∀ {u : Value}, (Instr.lookup t u1 u2 ok).run P w = .ok u w → (execOp a.eval o).run P w = .ok (.value u) w := fun h2 => by
    simp only [execOp, ho, hu1, hu2, Sem.run_bind, Result.andThen_ok, h2, Sem.run_pure]
  unfold lookV at hv
  split at hv
  · rename_i kt vt hst
    split at hv
    · rename_i hk
      rw [Option.bind_eq_some_iff] at hv; obtain ⟨es, hes, hv⟩ := hv
      rw [Option.bind_eq_some_iff] at hv; obtain ⟨zero, hz, hv⟩ := hv
      obtain ⟨i, zu, i1, i2, i3⟩ := zeroV_some hz
      have hzr := cv_VR (ρ := ρ) i3
      have hchk := fun e => check_key (P := P) hk v2 e 9998 w
      obtain ⟨en, g1, g2, g3, g4⟩ : ∃ en : Array MapEntry, (u1 = .map none ∧ en = #[] ∨ ∃ g ck, u1 = .map (some g) ∧ (getObj g).run P w = .ok (.map en ck) w) ∧ en.size = es.length ∧ keysT P kt es = true ∧
          (∀ (j c : Nat) (k v : Val), es[j]? = some (c, k, v) → ∃ e : MapEntry, en[j]? = some e ∧ e.born = c ∧ VR ρ k e.key ∧ VR ρ v e.val) := by
        cases v1 <;> simp only [Option.some.injEq, reduceCtorEq] at hes
        · subst hes; exact ⟨#[], .inl ⟨rfl, rfl⟩, rfl, rfl, fun j c k v h => by simp at h⟩
        · rename_i r' i' hb
          split at hes
          · rename_i ck es' hg
            split at hes
            · rename_i hall
              obtain rfl := Option.some.inj hes
              obtain ⟨en, m1, m2, m3⟩ := r.blk _ _ _ hb hg
              exact ⟨en, .inr ⟨_, ck, rfl, by simp [getObj, Sem.run, m1]⟩, m2, hall, m3⟩
            · cases hes
          · cases hes
      have hfind := run_find hk v2 w es en.toList (by simpa using g2) g3 (fun j c k v hj => by obtain ⟨e, a1, a2⟩ := g4 j c k v hj; exact ⟨e, by simpa using a1, a2⟩)
      obtain ⟨q, hq⟩ : ∃ q : Val × Bool, q = (match findV k es with | some v => (v.2, true) | none => (zero, false)) := ⟨_, rfl⟩
      have hrunf : ∃ u : Value, VR ρ q.1 u ∧ (do
          let es ← pure en
          Instr.checkKey es.isEmpty 10000 kt u2
          let (v, ok') ← match ← Instr.findKey kt u2 es.toList with
            | some (_, v) => pure (v, true)
            | none => pure (← zeroValue vt, false)
          pure (if ok then Value.tuple #[v, .bool ok'] else v) : Sem Value).run P w = .ok (if ok then Value.tuple #[u, .bool q.2] else u) w := by
        rcases hfind with ⟨q1, q2⟩ | ⟨j, e, v', k2, q1, q4⟩
        · rw [q1.find] at hq; subst hq
          refine ⟨zu, hzr, ?_⟩
          simp only [Sem.run_bind, Sem.run_pure, Result.andThen_ok, hchk, q2, run_zero i1 i2 w]
        · rw [q1.find] at hq; subst hq
          refine ⟨e.val, q1.val, ?_⟩
          simp only [Sem.run_bind, Sem.run_pure, Result.andThen_ok, hchk, q4]
      obtain ⟨u, hu, hrunf⟩ := hrunf
      have hv2 : v = if ok then .tup [q.1, .b q.2] else q.1 := by rw [hq]; exact (Option.some.inj hv).symm
      refine OpR.val r (hrun (u := if ok then Value.tuple #[u, .bool q.2] else u) ?_) ?_
      · simp only [Sem.run_bind, Sem.run_pure, Result.andThen_ok] at hrunf
        rcases g1 with ⟨rfl, rfl⟩ | ⟨g, ck, rfl, g1⟩
        · simp only [Instr.lookup, Sem.run_bind, run_underlying hst w, Result.andThen_ok, Sem.run_pure]
          exact hrunf
        · simp only [Instr.lookup, Sem.run_bind, run_underlying hst w, Result.andThen_ok, g1, Sem.run_pure]
          exact hrunf
      · rw [hv2]
        cases ok
        · exact hu
        · have h3 := (VRL.nil (ρ := ρ).cons (VR.b q.2)).cons hu
          exact VR.tup h3.1 h3.2
    · cases hv
  · cases hv
end
end Go.V
namespace Go.V
set_option linter.unusedVariables false
set_option linter.unusedSectionVars false
set_option linter.unusedSimpArgs false
variable [Sy]
section
variable {P : Program} {ρ : Ren} {h : Hp} {w : World} {env : Env} {a : Act}
theorem Rel.putNew (r : Rel ρ h w) {b : Nat} {i : Info} {ck : Nat} {es : List (Nat × Val × Val)} {en : Array MapEntry} (hb : ρ b = some i) (hg : h.get b = some (.map ck es)) (m2 : en.size = es.length) (m3 : ∀ (j c : Nat) (k v : Val), es[j]? = some (c, k, v) → ∃ e : MapEntry, en[j]? = some e ∧ e.born = c ∧ VR ρ k e.key ∧ VR ρ v e.val)
    {k v : Val} {u2 u3 : Value} (v2 : VR ρ k u2) (v3 : VR ρ v u3) (q : Non k es) :
    Rel ρ (h.set b (.map (ckV k ck es) (updV ck k v es))) { w with heap := w.heap.setIfInBounds i.g (.map (en.push { key := u2, val := u3, born := ck }) (ck + 1)) } ∧ Ext ρ h w ρ (h.set b (.map (ckV k ck es) (updV ck k v es))) { w with heap := w.heap.setIfInBounds i.g (.map (en.push { key := u2, val := u3, born := ck }) (ck + 1)) } := by
  have e1 : ckV k ck es = ck + 1 := by simp [ckV, q.find]
  rw [e1]
  refine r.setMap hb hg (by rw [q.upd]; simp [m2]) fun j c k' v' hj => ?_
  rw [q.upd] at hj
  by_cases hjl : j < es.length
  · rw [List.getElem?_append_left hjl] at hj
    obtain ⟨e, a1, a2⟩ := m3 j c k' v' hj
    exact ⟨e, by rw [Array.getElem?_push, if_neg (by omega)]; exact a1, a2⟩
  · rw [List.getElem?_append_right (by omega)] at hj
    have hj0 : j = es.length := by
      have := (List.getElem?_eq_some_iff.1 hj).1
      simp at this; omega
    subst hj0
    simp at hj
    obtain ⟨rfl, rfl, rfl⟩ := hj
    exact ⟨_, by rw [Array.getElem?_push, if_pos m2.symm], rfl, v2, v3⟩
theorem Rel.putOld (r : Rel ρ h w) {b : Nat} {i : Info} {ck : Nat} {es : List (Nat × Val × Val)} {en : Array MapEntry} (hb : ρ b = some i) (hg : h.get b = some (.map ck es)) (m2 : en.size = es.length) (m3 : ∀ (j c : Nat) (k v : Val), es[j]? = some (c, k, v) → ∃ e : MapEntry, en[j]? = some e ∧ e.born = c ∧ VR ρ k e.key ∧ VR ρ v e.val)
    {k v : Val} {u2 u3 : Value} (v2 : VR ρ k u2) (v3 : VR ρ v u3) {j : Nat} {e : MapEntry} {v0 k0 : Val} (q : Fnd ρ k es en.toList j e v0 k0) :
    Rel ρ (h.set b (.map (ckV k ck es) (updV ck k v es))) { w with heap := w.heap.setIfInBounds i.g (.map (en.modify j fun e => { e with key := u2, val := u3 }) ck) } ∧ Ext ρ h w ρ (h.set b (.map (ckV k ck es) (updV ck k v es))) { w with heap := w.heap.setIfInBounds i.g (.map (en.modify j fun e => { e with key := u2, val := u3 }) ck) } := by
  have e1 : ckV k ck es = ck := by simp [ckV, q.find]
  rw [e1]
  have hjl := (List.getElem?_eq_some_iff.1 q.es_).1
  have q2' : en[j]? = some e := by simpa using q.at_
  refine r.setMap hb hg (by rw [q.upd]; simp [m2]) fun j' c k' v' hj => ?_
  rw [q.upd, List.getElem?_set] at hj
  split at hj
  · rename_i ej
    subst ej
    simp only [hjl, if_true, Option.some.injEq, Prod.mk.injEq] at hj
    obtain ⟨rfl, rfl, rfl⟩ := hj
    exact ⟨{ e with key := u2, val := u3 }, by rw [Array.getElem?_modify, if_pos rfl, q2']; rfl, rfl, v2, v3⟩
  · rename_i ej
    obtain ⟨e', a1, a2⟩ := m3 j' c k' v' hj
    exact ⟨e', by rw [Array.getElem?_modify, if_neg ej]; exact a1, a2⟩
theorem stays_key {k k0 : Val} {u2 : Value} {en : Array MapEntry} {j : Nat} {e : MapEntry} (q2 : en.toList[j]? = some e) (v2 : VR ρ k u2) (v0 : VR ρ k0 e.key) (he : keyEq k k0 = true) (w : World) : (Instr.keyThatStays (((en[j]?).map (·.key)).getD u2) u2).run P w = .ok u2 w := by
  have q2' : en[j]? = some e := by simpa using q2
  simp only [q2', Option.map_some, Option.getD_some, Instr.keyThatStays]
  rw [if_pos (sameBits_eq v2 v0 he 9999)]
  rfl
theorem run_setMap {g : Nat} {en : Array MapEntry} {ck : Nat} (m1 : w.heap[g]? = some (.map en ck)) (es : Array MapEntry) (c : Nat) : (setObj g (.map es c)).run P w = .ok () { w with heap := w.heap.setIfInBounds g (.map es c) } := by simp [setObj, Sem.run, m1]
theorem sim_mapUpd {o : Oper} {t : TypeId} {x y z : Operand} {m k v : Val} {h' : Hp} (ho : o.op = .mapUpdate t x y z ∨ o.op = .insert t x y z) (r : Rel ρ h w) (hE : EnvR ρ env a) (hx : evO env x = some m) (hy : evO env y = some k) (hz : evO env z = some v) (hv : mapUpdV P h t m k v = some h') : OpR P ρ h w a o .no h' := by
  have v1 := evO_VR hE hx
  have v2 := evO_VR hE hy
  have v3 := evO_VR hE hz
  generalize hu1 : a.eval x = u1 at v1
  generalize hu2 : a.eval y = u2 at v2
  generalize hu3 : a.eval z = u3 at v3
  have hrun : ∀ {w' : World}, (Instr.mapUpdate t u1 u2 u3).run P w = .ok () w' → (execOp a.eval o).run P w = .ok .skip w' := fun h2 => by
    rcases ho with ho | ho <;> simp only [execOp, ho, hu1, hu2, hu3, Sem.run_bind, Result.andThen_ok, h2, Sem.run_pure]
  unfold mapUpdV at hv
  split at hv
  · rename_i kt vt r' hst
    split at hv
    · rename_i ck es hg
      split at hv
      · rename_i hc
        obtain ⟨hk, hall⟩ := hc
        obtain rfl := Option.some.inj hv
        cases v1 with
        | m hb =>
          rename_i i'
          obtain ⟨en, m1, m2, m3⟩ := r.blk _ _ _ hb hg
          have hchk := fun e => check_key (P := P) hk v2 e 9998 w
          have hgo : (getObj i'.g).run P w = .ok (.map en ck) w := by simp [getObj, Sem.run, m1]
          rcases run_find hk v2 w es en.toList (by simpa using m2) hall (fun j c k v hj => by obtain ⟨e, a1, a2⟩ := m3 j c k v hj; exact ⟨e, by simpa using a1, a2⟩) with ⟨q1, q2⟩ | ⟨j, e, v', k2, q1, q2⟩
          · obtain ⟨s1, s2⟩ := r.putNew hb hg m2 m3 v2 v3 q1
            refine ⟨ρ, _, _, undef, hrun ?_, .inr ⟨rfl, rfl⟩, VR.none0, s1, s2⟩
            simp only [Instr.mapUpdate, Sem.run_bind, run_underlying hst w, Result.andThen_ok, hgo, hchk, q2, Sem.run_pure, run_setMap m1]
          · obtain ⟨s1, s2⟩ := r.putOld hb hg m2 m3 v2 v3 q1
            refine ⟨ρ, _, _, undef, hrun ?_, .inr ⟨rfl, rfl⟩, VR.none0, s1, s2⟩
            simp only [Instr.mapUpdate, Sem.run_bind, run_underlying hst w, Result.andThen_ok, hgo, hchk, q2, Sem.run_pure, stays_key q1.at_ v2 q1.key q1.eq, run_setMap m1]
      · cases hv
    · cases hv
  · cases hv
theorem sim_mapEnt {o : Oper} {t : TypeId} {x y : Operand} {m k v : Val} {h' : Hp} (ho : o.op = .mapEntry t x y) (r : Rel ρ h w) (hE : EnvR ρ env a) (hx : evO env x = some m) (hy : evO env y = some k) (hv : mapEntV P h t m k = some (v, h')) : OpR P ρ h w a o v h' := by
  have v1 := evO_VR hE hx
  have v2 := evO_VR hE hy
  generalize hu1 : a.eval x = u1 at v1
  generalize hu2 : a.eval y = u2 at v2
  have hrun : ∀ {u : Value} {w' : World}, (Instr.mapEntry t u1 u2).run P w = .ok u w' → (execOp a.eval o).run P w = .ok (.value u) w' := fun h2 => by
    simp only [execOp, ho, hu1, hu2, Sem.run_bind, Result.andThen_ok, h2, Sem.run_pure]
  unfold mapEntV at hv
  split at hv
  · rename_i kt vt r' hst
    split at hv
    · rename_i ck es hg
      split at hv
      · rename_i hc
        obtain ⟨hk, hall⟩ := hc
        obtain ⟨zero, hz, hv⟩ := Option.map_eq_some_iff.1 hv
        obtain ⟨i, zu, i1, i2, i3⟩ := zeroV_some hz
        have hzr := cv_VR (ρ := ρ) i3
        simp only [Prod.mk.injEq] at hv
        obtain ⟨rfl, rfl⟩ := hv
        cases v1 with
        | m hb =>
          rename_i i'
          obtain ⟨en, m1, m2, m3⟩ := r.blk _ _ _ hb hg
          have hchk := fun e => check_key (P := P) hk v2 e 9998 w
          have hgo : (getObj i'.g).run P w = .ok (.map en ck) w := by simp [getObj, Sem.run, m1]
          have tupR : ∀ {x : Val} {u : Value} {n : Nat}, VR ρ x u → VR ρ (.tup [x, .i .i64 n]) (.tuple #[u, goInt n]) := fun {x u n} hx => by
            have h3 := (VRL.nil (ρ := ρ).cons (VR.i .i64 (n : Int))).cons hx
            exact VR.tup h3.1 h3.2
          rcases run_find hk v2 w es en.toList (by simpa using m2) hall (fun j c k v hj => by obtain ⟨e, a1, a2⟩ := m3 j c k v hj; exact ⟨e, by simpa using a1, a2⟩) with ⟨q1, q2⟩ | ⟨j, e, v', k2, q1, q2⟩
          · obtain ⟨s1, s2⟩ := r.putNew hb hg m2 m3 v2 hzr q1
            rw [q1.find]
            refine ⟨ρ, _, _, .tuple #[zu, goInt ck], hrun ?_, .inl rfl, tupR hzr, s1, s2⟩
            simp only [Instr.mapEntry, Sem.run_bind, run_underlying hst w, Result.andThen_ok, hgo, hchk, q2, Sem.run_pure, run_zero i1 i2 w, run_setMap m1]
          · obtain ⟨s1, s2⟩ := r.putOld hb hg m2 m3 v2 q1.val q1
            rw [q1.find]
            have q2' : en[j]? = some e := by simpa using q1.at_
            have em : (en.modify j fun e => { e with key := u2 }) = en.modify j fun e' => { e' with key := u2, val := e.val } := by
              apply Array.ext_getElem?
              intro n
              rw [Array.getElem?_modify, Array.getElem?_modify]
              split
              · rename_i hn; subst hn; rw [q2']; rfl
              · rfl
            refine ⟨ρ, _, _, .tuple #[e.val, goInt e.born], hrun ?_, .inl rfl, tupR q1.val, s1, s2⟩
            simp only [Instr.mapEntry, Sem.run_bind, run_underlying hst w, Result.andThen_ok, hgo, hchk, q2, Sem.run_pure, stays_key q1.at_ v2 q1.key q1.eq, run_setMap m1, em]
            simp only [q2', Option.map_some, Option.getD_some]
      · cases hv
    · cases hv
  · cases hv
theorem putV_some {b : Nat} {v : Val} : ∀ {es es' : List (Nat × Val × Val)}, putV b v es = some es' → ∃ j k u, es[j]? = some (b, k, u) ∧ (∀ n c k' u', n < j → es[n]? = some (c, k', u') → c ≠ b) ∧ es' = es.set j (b, k, v) := by
  intro es
  induction es with
  | nil => intro es' h; simp [putV] at h
  | cons q es ih =>
    obtain ⟨c, k, u⟩ := q
    intro es' h
    simp only [putV] at h
    cases hc : Nat.beq c b with
    | true =>
      rw [hc] at h
      have := Nat.eq_of_beq_eq_true hc; subst this
      obtain rfl := Option.some.inj h
      exact ⟨0, k, u, rfl, fun n _ _ _ hn => absurd hn (by omega), rfl⟩
    | false =>
      rw [hc] at h
      obtain ⟨r, h1, rfl⟩ := Option.map_eq_some_iff.1 h
      obtain ⟨j, k', u', a1, a2, rfl⟩ := ih h1
      exact ⟨j + 1, k', u', a1, fun n c' k2 u2 hn hj => by
        cases n with
        | zero => simp at hj; obtain ⟨rfl, _⟩ := hj; exact Nat.ne_of_beq_eq_false hc
        | succ n => exact a2 n c' k2 u2 (by omega) (by simpa using hj), rfl⟩
theorem sim_mapPut {o : Oper} {t : TypeId} {x y z : Operand} {m s v : Val} {h' : Hp} (ho : o.op = .entryStore t x y z) (r : Rel ρ h w) (hE : EnvR ρ env a) (hx : evO env x = some m) (hy : evO env y = some s) (hz : evO env z = some v) (hv : mapPutV h m s v = some h') : OpR P ρ h w a o .no h' := by
  have v1 := evO_VR hE hx
  have v2 := evO_VR hE hy
  have v3 := evO_VR hE hz
  generalize hu1 : a.eval x = u1 at v1
  generalize hu2 : a.eval y = u2 at v2
  generalize hu3 : a.eval z = u3 at v3
  have hrun : ∀ {w' : World}, (Instr.entryStore t u1 u2 u3).run P w = .ok () w' → (execOp a.eval o).run P w = .ok .skip w' := fun h2 => by
    simp only [execOp, ho, hu1, hu2, hu3, Sem.run_bind, Result.andThen_ok, h2, Sem.run_pure]
  unfold mapPutV at hv
  split at hv
  · rename_i r' kd b
    split at hv
    · rename_i ck es hg
      obtain ⟨es', h1, rfl⟩ := Option.map_eq_some_iff.1 hv
      obtain ⟨j, k, u, a1, a2, rfl⟩ := putV_some h1
      cases v1 with
      | m hb =>
        rename_i i'
        cases v2
        obtain ⟨en, m1, m2, m3⟩ := r.blk _ _ _ hb hg
        have hgo : (getObj i'.g).run P w = .ok (.map en ck) w := by simp [getObj, Sem.run, m1]
        have hjl := (List.getElem?_eq_some_iff.1 a1).1
        obtain ⟨e, b1, b2, b3, b4⟩ := m3 j b k u a1
        have hje : j < en.size := by omega
        have hidx : en.findIdx? (fun e => (e.born : Int) == Int.ofNat b) = some j := by
          rw [Array.findIdx?_eq_some_iff_getElem]
          refine ⟨hje, ?_, fun n hn => ?_⟩
          · have : en[j] = e := by rw [Array.getElem?_eq_getElem hje] at b1; exact Option.some.inj b1
            rw [this, b2]; simp
          · have hnl : n < es.length := by omega
            obtain ⟨c, k', u', hn2⟩ : ∃ c k' u', es[n]? = some (c, k', u') := ⟨_, _, _, List.getElem?_eq_getElem hnl⟩
            obtain ⟨e', c1, c2, _⟩ := m3 n c k' u' hn2
            have : en[n]'(by omega) = e' := by rw [Array.getElem?_eq_getElem (by omega)] at c1; exact Option.some.inj c1
            rw [this, c2]
            have := a2 n c k' u' hn hn2
            simp; omega
        obtain ⟨s1, s2⟩ := r.setMap (es' := es.set j (b, k, v)) (en' := en.modify j fun e => { e with val := u3 }) (ck' := ck) hb hg (by simp [m2]) (fun j' c k' v' hj => by
          rw [List.getElem?_set] at hj
          split at hj
          · rename_i ej
            subst ej
            simp only [hjl, if_true, Option.some.injEq, Prod.mk.injEq] at hj
            obtain ⟨rfl, rfl, rfl⟩ := hj
            exact ⟨{ e with val := u3 }, by rw [Array.getElem?_modify, if_pos rfl, b1]; rfl, b2, b3, v3⟩
          · rename_i ej
            obtain ⟨e', a1, a2⟩ := m3 j' c k' v' hj
            exact ⟨e', by rw [Array.getElem?_modify, if_neg ej]; exact a1, a2⟩)
        refine ⟨ρ, _, _, undef, hrun ?_, .inr ⟨rfl, rfl⟩, VR.none0, s1, s2⟩
        have hai : (asInt (Value.int kd (Int.ofNat b))).run P w = .ok (Int.ofNat b) w := rfl
        simp only [Instr.entryStore, Sem.run_bind, Sem.run_pure, Result.andThen_ok, hgo, hai, hidx, run_setMap m1]
    · cases hv
  · cases hv
theorem sim_delB {o : Oper} {xs : Array Operand} {ats : Array TypeId} {m k : Val} {v : Val} {h' : Hp} (ho : o.op = .call { callee := .builtin .delete, args := xs, argTypes := ats }) (r : Rel ρ h w) (hE : EnvR ρ env a) (hl : evL env xs.toList = some [m, k]) (hv : delB P h ats.toList m k = some (v, h')) :
    OpR P ρ h w a o v h' := by
  obtain ⟨m', k', hargs, v1, v2⟩ := map2 hE hl
  unfold delB at hv
  rw [Option.bind_eq_some_iff] at hv; obtain ⟨t, ht, hv⟩ := hv
  have ht' : ats[0]? = some t := by simpa using ht
  have done : ∀ {w' : World} {ρ' : Ren}, (Builtin.delete_ ats o.type #[m', k']).run P w = .ok (.tuple #[]) w' → Rel ρ' h' w' → Ext ρ h w ρ' h' w' → OpR P ρ h w a o (.tup []) h' := fun e1 e3 e4 => by
    refine ⟨_, _, .value (.tuple #[]), .tuple #[], run_blt ho (by rw [hargs]; simp only [builtin, e1, Sem.run_bind, Result.andThen_ok, Sem.run_pure]), .inl rfl, VR.tup (cs := []) (vs := []) rfl (fun j u u' q => by simp at q), e3, e4⟩
  split at hv
  · rename_i kt vt hst
    split at hv
    · rename_i hk
      simp only [Option.some.injEq, Prod.mk.injEq] at hv
      obtain ⟨rfl, rfl⟩ := hv
      cases v1
      refine done ?_ r (Ext.refl ρ h w)
      have hchk := fun e => check_key (P := P) hk v2 e 9998 w
      simp [Builtin.delete_, ht', run_underlying hst, hchk]
    · cases hv
  · rename_i kt vt r' hst
    split at hv
    · rename_i ck es hg
      split at hv
      · rename_i hc
        obtain ⟨hk, hall⟩ := hc
        simp only [Option.some.injEq, Prod.mk.injEq] at hv
        obtain ⟨rfl, rfl⟩ := hv
        cases v1 with
        | m hb =>
          rename_i i'
          obtain ⟨en, m1, m2, m3⟩ := r.blk _ _ _ hb hg
          have hchk := fun e => check_key (P := P) hk v2 e 9998 w
          have hgo : (getObj i'.g).run P w = .ok (.map en ck) w := by simp [getObj, Sem.run, m1]
          rcases run_find hk v2 w es en.toList (by simpa using m2) hall (fun j c k v hj => by obtain ⟨e, a1, a2⟩ := m3 j c k v hj; exact ⟨e, by simpa using a1, a2⟩) with ⟨q1, q2⟩ | ⟨j, e, v', k2, q1, q2⟩
          · obtain ⟨s1, s2⟩ := r.setMap (es' := delV k es) (en' := en) (ck' := ck) hb hg (by rw [q1.del]; exact m2) (by rw [q1.del]; exact m3)
            refine done ?_ s1 s2
            simp [Builtin.delete_, ht', run_underlying hst, hchk, hgo, q2, run_setMap m1]
          · have hjl := (List.getElem?_eq_some_iff.1 q1.es_).1
            obtain ⟨s1, s2⟩ := r.setMap (es' := delV k es) (en' := en.eraseIdxIfInBounds j) (ck' := ck) hb hg (by
                rw [q1.del, List.length_eraseIdx, if_pos hjl]
                rw [Array.eraseIdxIfInBounds, dif_pos (show j < en.size by omega)]; simp [m2]) (fun n c k' v' hn => by
              rw [q1.del, List.getElem?_eraseIdx] at hn
              have he : (en.eraseIdxIfInBounds j)[n]? = if n < j then en[n]? else en[n + 1]? := by
                rw [Array.eraseIdxIfInBounds, dif_pos (show j < en.size by omega), Array.getElem?_eraseIdx]
              rw [he]
              split at hn
              · rename_i hlt; rw [if_pos hlt]; exact m3 n c k' v' hn
              · rename_i hlt; rw [if_neg hlt]; exact m3 (n + 1) c k' v' hn)
            refine done ?_ s1 s2
            simp [Builtin.delete_, ht', run_underlying hst, hchk, hgo, q2, run_setMap m1]
      · cases hv
    · cases hv
  · cases hv
theorem sim_makeMap {o : Oper} {t : TypeId} {x : Option Operand} {v : Val} {h' : Hp} (ho : o.op = .makeMap t x) (r : Rel ρ h w) (hE : EnvR ρ env a) (hv : op1 P env h o.op = some (v, h')) : OpR P ρ h w a o v h' := by
  rw [ho] at hv
  obtain ⟨s1, s2⟩ := r.newMap
  have hnew : (newObj (.map #[] 0)).run P w = .ok w.heap.size (w.alloc (.map #[] 0)) := rfl
  cases x with
  | none =>
    simp only [op1, Option.some.injEq, Prod.mk.injEq] at hv
    obtain ⟨rfl, rfl⟩ := hv
    refine ⟨_, _, _, .map (some w.heap.size), ?_, .inl rfl, VR.m (put_self _ _), s1, s2⟩
    simp only [execOp, ho, Instr.makeMap, Option.map_none, Sem.run_bind, Sem.run_pure, Result.andThen_ok, hnew]
  | some x =>
    simp only [op1] at hv
    rw [Option.bind_eq_some_iff] at hv; obtain ⟨p, hp, hv⟩ := hv
    split at hv
    · rename_i kt vt k n hst
      simp only [Option.some.injEq, Prod.mk.injEq] at hv
      obtain ⟨rfl, rfl⟩ := hv
      have v1 := evO_VR hE hp
      generalize hu1 : a.eval x = u1 at v1
      cases v1
      refine ⟨_, _, _, .map (some w.heap.size), ?_, .inl rfl, VR.m (put_self _ _), s1, s2⟩
      simp only [execOp, ho, Instr.makeMap, Option.map_some, hu1, asInt, asIntOf, Sem.run_bind, run_underlying hst w, Sem.run_pure, Result.andThen_ok, hnew]
    · cases hv
theorem bytes_VR : ∀ {c : List Val} {us : List Value} {s : List UInt8}, bytesV c = some s → VRL ρ c us → ∃ ns : List Int, us = ns.map (Value.int .u8) ∧ s = ns.map fun n => UInt8.ofNat n.toNat
  | [], us, s, hb, hr => by
    have : us = [] := List.eq_nil_of_length_eq_zero hr.1.symm
    subst this
    simp [bytesV] at hb; subst hb
    exact ⟨[], rfl, rfl⟩
  | c :: cs, [], s, hb, hr => by have := hr.1; simp at this
  | c :: cs, u :: us, s, hb, hr => by
    unfold bytesV at hb
    split at hb
    · cases ‹c :: cs = []›
    · rename_i n r' e1
      injection e1 with e1 e2
      subst e1; subst e2
      obtain ⟨l, h1, rfl⟩ := Option.map_eq_some_iff.1 hb
      have h2 := hr.head
      cases h2
      obtain ⟨ns, rfl, rfl⟩ := bytes_VR h1 hr.tail
      exact ⟨n :: ns, rfl, rfl⟩
    · cases hb
theorem freeze_heap (g C1 : Nat) (w : World) (k : Nat) (hk : k ≠ g) : (w.freeze ⟨g, C1, none⟩ 1).heap[k]? = w.heap[k]? := by
  unfold World.freeze
  rw [if_neg (by decide)]
  simp only [Array.getElem?_modify]
  rw [if_neg (fun e => hk e.symm)]
theorem freeze_at {g lo hi : Nat} {C : Array Value} {e : TypeId} {w : World} (hc : w.heap[g]? = some (.cells C e (lo, hi))) : (w.freeze ⟨g, C.size, none⟩ 1).heap[g]? = some (.cells C e (if lo == hi then (C.size, C.size + 1) else (min lo C.size, max hi (C.size + 1)))) := by
  unfold World.freeze
  rw [if_neg (by decide)]
  simp only [Array.getElem?_modify, if_true, hc, Option.map_some]
theorem freeze_size (g C1 : Nat) (w : World) : (w.freeze ⟨g, C1, none⟩ 1).heap.size = w.heap.size := by
  unfold World.freeze
  rw [if_neg (by decide)]
  simp
theorem freeze_os (g C1 : Nat) (w : World) : (w.freeze ⟨g, C1, none⟩ 1).os = w.os ∧ (w.freeze ⟨g, C1, none⟩ 1).tape = w.tape ∧ (w.freeze ⟨g, C1, none⟩ 1).output = w.output ∧ (w.freeze ⟨g, C1, none⟩ 1).drawn = w.drawn := by
  unfold World.freeze
  rw [if_neg (by decide)]
  exact ⟨rfl, rfl, rfl, rfl⟩
theorem Rel.mark (r : Rel ρ h w) {b : Nat} {i : Info} (hb : ρ b = some i) (hown : own h b) (hz1 : ∀ z c, h.get b = some (.cells z c) → z = 1) (C : Array Value) (e : TypeId) (lo hi : Nat) (hc : w.heap[i.g]? = some (.cells C e (lo, hi))) :
    Rel ρ h (w.freeze ⟨i.g, C.size, none⟩ 1) ∧ Ext ρ h w ρ h (w.freeze ⟨i.g, C.size, none⟩ 1) := by
  obtain ⟨o1, o2, o3, o4⟩ := freeze_os i.g C.size w
  refine ⟨⟨fun b' i' e' => by rw [freeze_size]; exact r.dom b' i' e', fun b' i' B' e' f => ?_, r.inj, r.wf⟩, Ren.le.refl _, Nat.le_refl _, fun b' hb' hl => ⟨hb', rfl⟩, by rw [freeze_size]; exact Nat.le_refl _, fun g hg hn => ⟨freeze_heap _ _ _ _ (fun e => hn b i hb hown e.symm), hn⟩, o1, o2, o3, by rw [o4]; exact Nat.le_refl _⟩
  have hB := r.blk b' i' B' e' f
  by_cases hg : i'.g = i.g
  · cases B' with
    | dead => trivial
    | ro c =>
      obtain ⟨h4, h6⟩ := hB
      have hat := freeze_at hc
      have hcell : ∀ o, (w.freeze ⟨i.g, C.size, none⟩ 1).cell? ⟨i'.g, o, none⟩ = w.cell? ⟨i'.g, o, none⟩ := fun o => by
        simp only [World.cell?, hg, hat, hc]
      exact ⟨h4, fun j u hj => by rw [hcell]; exact h6 j u hj⟩
    | map ck es =>
      obtain ⟨en, h1, _⟩ := hB
      rw [hg, hc] at h1; cases h1
    | cells z c =>
      obtain ⟨h1, h2, h3, h4, h5, h6⟩ := hB
      have hat := freeze_at hc
      have hcell : ∀ o, (w.freeze ⟨i.g, C.size, none⟩ 1).cell? ⟨i'.g, o, none⟩ = w.cell? ⟨i'.g, o, none⟩ := fun o => by
        simp only [World.cell?, hg, hat, hc]
      have hN : ∀ o, o < i'.N → o < C.size := fun o ho => by
        have := (h5.1 o ho).1
        simp only [World.cell?, hg, hc] at this
        simpa using this
      have hfz := h5.2.1 C e (lo, hi) (by rw [hg]; exact hc)
      refine ⟨h1, h2, h3, h4, ⟨fun o ho => ⟨by rw [hcell]; exact (h5.1 o ho).1, ?_⟩, ⟨fun c' e2 fz hf => ?_, fun o u hq => by rw [hcell] at hq; exact h5.2.2.1 o u hq, fun hzz => absurd (hz1 z c (by rw [← r.inj b' b i' i e' hb ⟨_, f, by simp⟩ hown hg]; exact f)) hzz⟩⟩, fun j u hj => by rw [hcell]; exact h6 j u hj⟩
      · have hno := (h5.1 o ho).2
        have hos := hN o ho
        simp only [World.frozen?, hg, hat]
        by_cases hlh : lo = hi
        · simp [hlh]; omega
        · have hlt : lo < hi := by simp only at hfz; omega
          have hNlo : ¬ lo < i'.N := fun hq => by
            have := (h5.1 lo hq).2
            simp [World.frozen?, hg, hc, hlt] at this
          have : (lo == hi) = false := by simpa using hlh
          rw [this]
          simp
          omega
      · rw [hg, hat] at hf
        obtain ⟨_, _, rfl⟩ := Obj.cells.inj (Option.some.inj hf)
        simp only at hfz
        split
        · simp
        · simp only; omega
  · exact hB.congr (Ren.le.refl _) (freeze_heap _ _ _ _ hg)
theorem u8T_eq {e : TypeId} (hq : u8T P e = true) : P.underlying e = some (.int .u8) := by
  unfold u8T at hq
  split at hq
  · assumption
  · cases hq
theorem wrap_in {k : IntKind} {n : Int} (h0 : k.min ≤ n) (h1 : n ≤ k.max) : k.wrap n = n := by
  cases k <;> simp only [IntKind.min, IntKind.max, IntKind.wrap, IntKind.bits, IntKind.signed] at h0 h1 ⊢ <;> simp at h0 h1 ⊢ <;> omega
theorem sim_conv {o : Oper} {s d : TypeId} {x : Operand} {p v : Val} {h' : Hp} (ho : o.op = .convert s d x) (r : Rel ρ h w) (hE : EnvR ρ env a) (hx : evO env x = some p) (hv : convV P h s d p = some (v, h')) : OpR P ρ h w a o v h' := by
  have v1 := evO_VR hE hx
  generalize hu1 : a.eval x = u1 at v1
  have hrun : ∀ {u : Value} {w' : World}, (convert s d u1).run P w = .ok u w' → (execOp a.eval o).run P w = .ok (.value u) w' := fun h2 => by
    simp only [execOp, ho, hu1, Sem.run_bind, Result.andThen_ok, h2, Sem.run_pure]
  unfold convV at hv
  split at hv
  · rename_i ds k k' n hs hd
    simp only [Option.some.injEq, Prod.mk.injEq] at hv
    obtain ⟨rfl, rfl⟩ := hv
    cases v1
    refine OpR.val r (hrun (u := .int k (k.wrap n)) ?_) (VR.i _ _)
    cases ds <;> simp [convert, run_underlying hs, run_underlying hd, Conv.intToInt]
  · rename_i ds k k' j lo hi hs hd
    split at hv
    · rename_i hb
      simp only [Option.some.injEq, Prod.mk.injEq] at hv
      obtain ⟨rfl, rfl⟩ := hv
      cases v1 with
      | y g1 g2 =>
        have hw : k.wrap (Sy.v j) = Sy.v j := wrap_in (by omega) (by omega)
        refine OpR.val r (hrun (u := .int k (k.wrap (Sy.v j))) ?_) (by rw [hw]; exact VR.y g1 g2)
        cases ds <;> simp [convert, run_underlying hs, run_underlying hd, Conv.intToInt]
    · cases hv
  · rename_i ds sx hs hd
    simp only [Option.some.injEq, Prod.mk.injEq] at hv
    obtain ⟨rfl, rfl⟩ := hv
    cases v1
    refine OpR.val r (hrun (u := strVal' sx) ?_) (VR.s _)
    cases ds <;> simp [convert, run_underlying hs, run_underlying hd, strVal']
  · rename_i e sx hs hd
    split at hv
    · rename_i he
      split at hv
      · cases hv
      · rename_i hne
        cases v1
        have hrb := run_bytes_of_string (P := P) w s d e ⟨sx.toArray⟩ hs hd he
        have hsz : (⟨sx.toArray⟩ : ByteArray).size = sx.length := by simp [ByteArray.size]
        have hcap := grownCap_ge w sx.length 0 e
        unfold rowV at hv
        split at hv
        · rename_i h1
          simp only [Option.some.injEq, Prod.mk.injEq] at hv
          obtain ⟨rfl, rfl⟩ := hv
          rw [hsz] at hrb
          have hrl : (bytesRow ⟨sx.toArray⟩ (grownCap w sx.length 0 e)).toList = sx.map (fun c => Value.int .u8 c.toNat) ++ List.replicate (grownCap w sx.length 0 e - sx.length) (.int .u8 0) := by
            simp [bytesRow, hsz]
          have hlen : (bytesRow ⟨sx.toArray⟩ (grownCap w sx.length 0 e)).size = grownCap w sx.length 0 e := by
            rw [← Array.length_toList, hrl]; simp; omega
          obtain ⟨s1, s2⟩ := r.drew.newCells (z := 1) (cs := (bytesRow ⟨sx.toArray⟩ (grownCap w sx.length 0 e)).toList) (e := e) (fz := ((bytesRow ⟨sx.toArray⟩ (grownCap w sx.length 0 e)).size, (bytesRow ⟨sx.toArray⟩ (grownCap w sx.length 0 e)).size + 1)) (by simp) (by simp) (fun q => absurd rfl q) h1 bytesRow_one (by have q := hlen; rw [← Array.length_toList] at q; rw [q]; simpa using hcap) (by
            rw [hrl, List.length_map, List.take_left' (by simp)]
            refine ⟨by simp, fun j u u' p q => ?_⟩
            simp only [List.getElem?_map, Option.map_eq_some_iff] at p q
            obtain ⟨b, p1, rfl⟩ := p
            obtain ⟨b', q1, rfl⟩ := q
            rw [p1] at q1
            obtain rfl := Option.some.inj q1
            exact .i _ _)
          rw [Array.toArray_toList] at s1 s2
          refine ⟨_, _, _, _, hrun hrb, .inl rfl, ?_, s1, (Ext.drew ρ h w).trans s2⟩
          have := VR.so (ρ := ρ.put h.next ⟨w.heap.size, 0, 1, (sx.map fun c => Val.i .u8 c.toNat).length, (bytesRow ⟨sx.toArray⟩ (grownCap w sx.length 0 e)).toList.length⟩) (b := h.next) (o := 0) (len := sx.length) (m := sx.length) (c := grownCap w sx.length 0 e) (put_self _ _) (Nat.le_refl _) hcap (by simp; exact hcap) (by simp [hlen])
          simpa using this
        · cases hv
    · cases hv
  · rename_i e1 e2 ad n c hs hd
    split at hv
    · rename_i cc0 he1 he2 hgb
      simp only [Option.some.injEq, Prod.mk.injEq] at hv
      obtain ⟨rfl, rfl⟩ := hv
      have key : ∀ (b off cc : Nat) (i' : Info), ρ b = some i' → own h b → (∀ z c, h.get b = some (.cells z c) → z = 1) → u1 = .slice (some ⟨i'.g, i'.base + off, none⟩) n cc → VR ρ (.sl (some ad) n c) u1 → OpR P ρ h w a o (.sl (some ad) n c) h := fun b off cc i' hb hown hz1 e1 hvr => by
        subst e1
        have hc : ∀ {w' : World}, (markStringish ⟨i'.g, i'.base + off, none⟩).run P w = .ok () w' → (convert s d (.slice (some ⟨i'.g, i'.base + off, none⟩) n cc)).run P w = .ok (.slice (some ⟨i'.g, i'.base + off, none⟩) n cc) w' := fun hm => by
          simp only [convert, Sem.run_bind, run_underlying hs w, run_underlying hd w, Result.andThen_ok, run_underlying he2 w, he1, hm, Sem.run_pure]
        cases hw : w.heap[i'.g]? with
        | none =>
          refine OpR.val r (hrun (hc ?_)) hvr
          simp [markStringish, shape, Sem.run, World.shape?, hw]
        | some ob =>
          cases ob with
          | cells C e fz =>
            obtain ⟨lo, hi⟩ := fz
            obtain ⟨s1, s2⟩ := r.mark hb hown hz1 C e lo hi hw
            refine ⟨ρ, _, _, _, hrun (hc (w' := w.freeze ⟨i'.g, C.size, none⟩ 1) ?_), .inl rfl, hvr, s1, s2⟩
            simp [markStringish, shape, Sem.run, World.shape?, hw, freeze]
          | _ =>
            refine OpR.val r (hrun (hc ?_)) hvr
            simp [markStringish, shape, Sem.run, World.shape?, hw]
      have hv1 := v1
      cases v1 with
      | sk hb hk => exact key _ _ _ _ hb ⟨_, hgb, rfl⟩ (fun z c q => by rw [hgb] at q; cases q; rfl) rfl hv1
      | so hb hk hk2 q1 q2 => exact key _ _ _ _ hb ⟨_, hgb, rfl⟩ (fun z c q => by rw [hgb] at q; cases q; rfl) rfl hv1
    · cases hv
  · rename_i e1 n c hs hd
    split at hv
    case isFalse => cases hv
    rename_i hu8
    have he := u8T_eq hu8
    simp only [Option.some.injEq, Prod.mk.injEq] at hv
    obtain ⟨rfl, rfl⟩ := hv
    obtain ⟨rfl, rfl, rfl⟩ := lenV_nil' v1
    refine OpR.val r (hrun (u := strVal' []) ?_) (VR.s _)
    rw [run_convert_bytes_string w s d _ _ 0 0 hs he hd]
    rfl
  · rename_i e1 hs hd
    split at hv
    case isFalse => cases hv
    rename_i hu8
    have he := u8T_eq hu8
    simp only [Option.some.injEq, Prod.mk.injEq] at hv
    obtain ⟨rfl, rfl⟩ := hv
    cases v1
    rename_i ad c
    refine OpR.val r (hrun (u := strVal' []) ?_) (VR.s _)
    rw [run_convert_bytes_string w s d _ _ 0 c hs he hd, run_bytesToString w ad 0 c [] (by simp [loadCells, loadCellsFrom])]
    rfl
  · rename_i e1 b off n c hs hd
    split at hv
    · rename_i he
      rw [Option.bind_eq_some_iff] at hv; obtain ⟨cs, hcs, hv⟩ := hv
      obtain ⟨bs, hbs, hv⟩ := Option.map_eq_some_iff.1 hv
      simp only [Prod.mk.injEq] at hv
      obtain ⟨rfl, rfl⟩ := hv
      have key : ∀ (cc : Nat) (i' : Info), ρ b = some i' → u1 = .slice (some ⟨i'.g, i'.base + off, none⟩) n cc → OpR P ρ h w a o (.s bs) h := fun cc i' hb e1 => by
        subst e1
        obtain ⟨us, f1, f2⟩ : ∃ us, VRL ρ cs us ∧ (loadCells ⟨i'.g, i'.base + off, none⟩ n).run P w = .ok us.toArray w := by
          split at hcs
          · rename_i h0
            obtain rfl := Option.some.inj hcs
            subst h0
            exact ⟨[], VRL.nil, by simp [loadCells, loadCellsFrom]⟩
          · obtain ⟨_, us, g1, g2, g3⟩ := r.rd hb hcs
            exact ⟨us, g1, by rw [← g2]; exact run_cells g3⟩
        obtain ⟨ns, rfl, rfl⟩ := bytes_VR hbs f1
        refine OpR.val r (hrun (u := strVal' (ns.map fun n => UInt8.ofNat n.toNat)) ?_) (VR.s _)
        rw [run_convert_bytes_string w s d _ _ n cc hs he hd, run_bytesToString w _ n cc ns f2, foldl_push_bytes]
        simp [strVal', ByteArray.empty, ByteArray.emptyWithCapacity]
        rfl
      cases v1 with
      | sk hb hk => exact key _ _ hb rfl
      | so hb hk hk2 q1 q2 => exact key _ _ hb rfl
    · cases hv
  · cases hv
theorem sim_op1 {o : Oper} {v : Val} {h' : Hp} (r : Rel ρ h w) (hE : EnvR ρ env a) (hv : op1 P env h o.op = some (v, h')) : OpR P ρ h w a o v h' := by
  have hv0 := hv
  generalize ho : o.op = op at hv
  cases op <;> simp only [op1, reduceCtorEq] at hv
  case move x =>
    obtain ⟨u, h1, h2⟩ := Option.map_eq_some_iff.1 hv
    simp only [Prod.mk.injEq] at h2; obtain ⟨rfl, rfl⟩ := h2
    exact sim_move (.inl ho) r hE h1
  case assign x =>
    obtain ⟨u, h1, h2⟩ := Option.map_eq_some_iff.1 hv
    simp only [Prod.mk.injEq] at h2; obtain ⟨rfl, rfl⟩ := h2
    exact sim_move (.inr ho) r hE h1
  case pick c x y =>
    rw [Option.bind_eq_some_iff] at hv; obtain ⟨p, hp, hv⟩ := hv
    split at hv
    · obtain ⟨u, h1, h2⟩ := Option.map_eq_some_iff.1 hv
      simp only [Prod.mk.injEq] at h2; obtain ⟨rfl, rfl⟩ := h2
      exact sim_pick (t := true) ho r hE hp h1
    · obtain ⟨u, h1, h2⟩ := Option.map_eq_some_iff.1 hv
      simp only [Prod.mk.injEq] at h2; obtain ⟨rfl, rfl⟩ := h2
      exact sim_pick (t := false) ho r hE hp h1
    · cases hv
  case alloc e =>
    rw [Option.bind_eq_some_iff] at hv; obtain ⟨z, hz, hv⟩ := hv
    exact sim_alloc ho r hz hv
  case box e x =>
    rw [Option.bind_eq_some_iff] at hv; obtain ⟨z, hz, hv⟩ := hv
    exact sim_box ho r hE hz hv
  case build t ps =>
    rw [Option.bind_eq_some_iff] at hv; obtain ⟨qs, hq, hv⟩ := hv
    obtain ⟨u, h1, h2⟩ := Option.map_eq_some_iff.1 hv
    simp only [Prod.mk.injEq] at h2; obtain ⟨rfl, rfl⟩ := h2
    exact sim_build ho r hE hq h1
  case buildSlice t n ps =>
    rw [Option.bind_eq_some_iff] at hv; obtain ⟨qs, hq, hv⟩ := hv
    exact sim_buildSlice ho r hE hq hv
  case load t x =>
    rw [Option.bind_eq_some_iff] at hv; obtain ⟨p, hp, hv⟩ := hv
    obtain ⟨u, h1, h2⟩ := Option.map_eq_some_iff.1 hv
    simp only [Prod.mk.injEq] at h2; obtain ⟨rfl, rfl⟩ := h2
    exact sim_load ho r hE hp h1
  case store t x y =>
    rw [Option.bind_eq_some_iff] at hv; obtain ⟨p, hp, hv⟩ := hv
    rw [Option.bind_eq_some_iff] at hv; obtain ⟨q, hq, hv⟩ := hv
    obtain ⟨u, h1, h2⟩ := Option.map_eq_some_iff.1 hv
    simp only [Prod.mk.injEq] at h2; obtain ⟨rfl, rfl⟩ := h2
    exact sim_store ho r hE hp hq h1
  case nilCheck x =>
    rw [Option.bind_eq_some_iff] at hv; obtain ⟨p, hp, hv⟩ := hv
    split at hv
    · cases hv
    · cases hv
    · cases hv
    · rename_i n1 n2 n3
      simp only [Option.some.injEq, Prod.mk.injEq] at hv; obtain ⟨rfl, rfl⟩ := hv
      exact sim_nilCheck ho r hE hp n1 n2 n3
  case binOp op t x y t2 =>
    rw [Option.bind_eq_some_iff] at hv; obtain ⟨p, hp, hv⟩ := hv
    rw [Option.bind_eq_some_iff] at hv; obtain ⟨q, hq, hv⟩ := hv
    obtain ⟨u, h1, h2⟩ := Option.map_eq_some_iff.1 hv
    simp only [Prod.mk.injEq] at h2; obtain ⟨rfl, rfl⟩ := h2
    exact sim_bin ho r hE hp hq h1
  case unOp op t x =>
    rw [Option.bind_eq_some_iff] at hv; obtain ⟨p, hp, hv⟩ := hv
    obtain ⟨u, h1, h2⟩ := Option.map_eq_some_iff.1 hv
    simp only [Prod.mk.injEq] at h2; obtain ⟨rfl, rfl⟩ := h2
    exact sim_un ho r hE hp h1
  case convert s d x =>
    rw [Option.bind_eq_some_iff] at hv; obtain ⟨p, hp, hv⟩ := hv
    exact sim_conv ho r hE hp hv
  case sliceToArrayPointer t x =>
    rw [Option.bind_eq_some_iff] at hv; obtain ⟨p, hp, hv⟩ := hv
    split at hv
    · split at hv
      · split at hv
        · rename_i hk
          simp only [Option.some.injEq, Prod.mk.injEq] at hv; obtain ⟨rfl, rfl⟩ := hv
          exact sim_toArr ho r hE hp (by assumption) hk
        · cases hv
      · cases hv
    · cases hv
  case makeFunc f first caps =>
    cases f with
    | func f =>
      simp only at hv
      split at hv
      · rename_i hf
        obtain ⟨u, h1, h2⟩ := Option.map_eq_some_iff.1 hv
        simp only [Prod.mk.injEq] at h2; obtain ⟨rfl, rfl⟩ := h2
        exact sim_makeFunc ho r hE hf h1
      · cases hv
    | _ => simp at hv
  case makeMap t x => exact sim_makeMap ho r hE hv0
  case makeSlice t x y =>
    rw [Option.bind_eq_some_iff] at hv; obtain ⟨p, hp, hv⟩ := hv
    rw [Option.bind_eq_some_iff] at hv; obtain ⟨q, hq, hv⟩ := hv
    exact sim_makeSlice ho r hE hp hq hv
  case slice t x lo hi mx =>
    rw [Option.bind_eq_some_iff] at hv; obtain ⟨p, hp, hv⟩ := hv
    rw [Option.bind_eq_some_iff] at hv; obtain ⟨q1, hq1, hv⟩ := hv
    rw [Option.bind_eq_some_iff] at hv; obtain ⟨q2, hq2, hv⟩ := hv
    rw [Option.bind_eq_some_iff] at hv; obtain ⟨q3, hq3, hv⟩ := hv
    obtain ⟨u, h1, h2⟩ := Option.map_eq_some_iff.1 hv
    simp only [Prod.mk.injEq] at h2; obtain ⟨rfl, rfl⟩ := h2
    exact sim_slice ho r hE hp hq1 hq2 hq3 h1
  case fieldAddr s x f =>
    rw [Option.bind_eq_some_iff] at hv; obtain ⟨p, hp, hv⟩ := hv
    split at hv
    · rw [Option.bind_eq_some_iff] at hv; obtain ⟨fd, hf, hv⟩ := hv
      rw [Option.bind_eq_some_iff] at hv; obtain ⟨n, hn, hv⟩ := hv
      split at hv
      · rename_i h0
        simp only [Option.some.injEq, Prod.mk.injEq] at hv; obtain ⟨rfl, rfl⟩ := hv
        exact sim_fieldAddr ho r hE hp hf hn h0
      · cases hv
    · cases hv
  case field s x f =>
    rw [Option.bind_eq_some_iff] at hv; obtain ⟨p, hp, hv⟩ := hv
    split at hv
    · rw [Option.bind_eq_some_iff] at hv; obtain ⟨fd, hf, hv⟩ := hv
      obtain ⟨u, h1, h2⟩ := Option.map_eq_some_iff.1 hv
      simp only [Prod.mk.injEq] at h2; obtain ⟨rfl, rfl⟩ := h2
      exact sim_field ho r hE hp hf h1
    · cases hv
  case indexAddr t x y =>
    rw [Option.bind_eq_some_iff] at hv; obtain ⟨p, hp, hv⟩ := hv
    rw [Option.bind_eq_some_iff] at hv; obtain ⟨q, hq, hv⟩ := hv
    obtain ⟨u, h1, h2⟩ := Option.map_eq_some_iff.1 hv
    simp only [Prod.mk.injEq] at h2; obtain ⟨rfl, rfl⟩ := h2
    exact sim_index ho r hE hp hq h1
  case index t x y =>
    rw [Option.bind_eq_some_iff] at hv; obtain ⟨p, hp, hv⟩ := hv
    rw [Option.bind_eq_some_iff] at hv; obtain ⟨q, hq, hv⟩ := hv
    obtain ⟨u, h1, h2⟩ := Option.map_eq_some_iff.1 hv
    simp only [Prod.mk.injEq] at h2; obtain ⟨rfl, rfl⟩ := h2
    exact sim_idxV ho r hE hp hq h1
  case lookup t m k ok =>
    rw [Option.bind_eq_some_iff] at hv; obtain ⟨p, hp, hv⟩ := hv
    rw [Option.bind_eq_some_iff] at hv; obtain ⟨q, hq, hv⟩ := hv
    obtain ⟨u, h1, h2⟩ := Option.map_eq_some_iff.1 hv
    simp only [Prod.mk.injEq] at h2; obtain ⟨rfl, rfl⟩ := h2
    exact sim_lookup ho r hE hp hq h1
  case insert t x y z =>
    rw [Option.bind_eq_some_iff] at hv; obtain ⟨p, hp, hv⟩ := hv
    rw [Option.bind_eq_some_iff] at hv; obtain ⟨q, hq, hv⟩ := hv
    rw [Option.bind_eq_some_iff] at hv; obtain ⟨q2, hq2, hv⟩ := hv
    obtain ⟨u, h1, h2⟩ := Option.map_eq_some_iff.1 hv
    simp only [Prod.mk.injEq] at h2; obtain ⟨rfl, rfl⟩ := h2
    exact sim_mapUpd (.inr ho) r hE hp hq hq2 h1
  case mapEntry t x y =>
    rw [Option.bind_eq_some_iff] at hv; obtain ⟨p, hp, hv⟩ := hv
    rw [Option.bind_eq_some_iff] at hv; obtain ⟨q, hq, hv⟩ := hv
    exact sim_mapEnt ho r hE hp hq hv
  case entryStore t x y z =>
    rw [Option.bind_eq_some_iff] at hv; obtain ⟨p, hp, hv⟩ := hv
    rw [Option.bind_eq_some_iff] at hv; obtain ⟨q, hq, hv⟩ := hv
    rw [Option.bind_eq_some_iff] at hv; obtain ⟨q2, hq2, hv⟩ := hv
    obtain ⟨u, h1, h2⟩ := Option.map_eq_some_iff.1 hv
    simp only [Prod.mk.injEq] at h2; obtain ⟨rfl, rfl⟩ := h2
    exact sim_mapPut ho r hE hp hq hq2 h1
  case mapUpdate t m k x =>
    rw [Option.bind_eq_some_iff] at hv; obtain ⟨p, hp, hv⟩ := hv
    rw [Option.bind_eq_some_iff] at hv; obtain ⟨q, hq, hv⟩ := hv
    rw [Option.bind_eq_some_iff] at hv; obtain ⟨s, hs, hv⟩ := hv
    obtain ⟨u, h1, h2⟩ := Option.map_eq_some_iff.1 hv
    simp only [Prod.mk.injEq] at h2; obtain ⟨rfl, rfl⟩ := h2
    exact sim_mapUpd (.inl ho) r hE hp hq hs h1
  case extract x i =>
    rw [Option.bind_eq_some_iff] at hv; obtain ⟨p, hp, hv⟩ := hv
    split at hv
    · obtain ⟨u, h1, h2⟩ := Option.map_eq_some_iff.1 hv
      simp only [Prod.mk.injEq] at h2; obtain ⟨rfl, rfl⟩ := h2
      exact sim_extract ho r hE hp h1
    · cases hv
  case call c =>
    obtain ⟨cal, args, ats⟩ := c
    cases cal with
    | builtin b =>
      simp only at hv
      rw [Option.bind_eq_some_iff] at hv; obtain ⟨l, hl, hv⟩ := hv
      unfold bltV at hv
      split at hv
      · exact sim_append ho r hE hl hv
      · exact sim_copy ho r hE hl hv
      · exact sim_clear ho r hE hl hv
      · obtain ⟨u, h1, h2⟩ := Option.map_eq_some_iff.1 hv
        simp only [Prod.mk.injEq] at h2; obtain ⟨rfl, rfl⟩ := h2
        exact sim_lenB ho r hE hl h1
      · obtain ⟨u, h1, h2⟩ := Option.map_eq_some_iff.1 hv
        simp only [Prod.mk.injEq] at h2; obtain ⟨rfl, rfl⟩ := h2
        exact sim_capB ho r hE hl h1
      · exact sim_delB ho r hE hl hv
      · obtain ⟨u, h1, h2⟩ := Option.map_eq_some_iff.1 hv
        simp only [Prod.mk.injEq] at h2; obtain ⟨rfl, rfl⟩ := h2
        exact sim_mmB (mx := true) ho r hE hl h1
      · obtain ⟨u, h1, h2⟩ := Option.map_eq_some_iff.1 hv
        simp only [Prod.mk.injEq] at h2; obtain ⟨rfl, rfl⟩ := h2
        exact sim_mmB (mx := false) ho r hE hl h1
      · cases hv
    | _ => simp at hv
end
end Go.V
namespace Go.V
set_option linter.unusedVariables false
set_option linter.unusedSectionVars false
set_option linter.unusedSimpArgs false
variable [Sy]
def exitOf : Ex → Exit
  | .nrm => .normal
  | .ext i => .exit i
  | .ret => .ret
def retOnly' (R : Value → World → Prop) : Ending → World → Prop
  | .returned v, w => R v w
  | _, _ => False
def CallR (P : Program) (f : FuncId) (args : Array Value) (w : World) (R : Value → World → Prop) : Prop :=
  ((callFunc f args).run P w = .ok (.enter f args) w ∧ Calls P f args w (retOnly' R)) ∨ ∃ v w', (callFunc f args).run P w = .ok (.value v) w' ∧ R v w'
def KOk (P : Program) (K : Tb) : Prop := ∀ f args h M, K f args h M → ∀ ρ w args', Rel ρ h w → VRL ρ args args' → CallR P f args'.toArray w fun v' w' => ∃ v h' ρ', M v h' ∧ VR ρ' v v' ∧ Rel ρ' h' w' ∧ Ext ρ h w ρ' h' w'
def Far (ρ : Ren) (h : Hp) (w : World) (D : Nat) : Prop := D < w.heap.size ∧ ∀ b i, ρ b = some i → own h b → i.g ≠ D
theorem Far.turn {ρ h w ρ' h' w' D} (f : Far ρ h w D) (e : Ext ρ h w ρ' h' w') : Far ρ' h' w' D ∧ w'.heap[D]? = w.heap[D]? := by
  obtain ⟨q1, q2⟩ := e.frame D f.1 f.2
  exact ⟨⟨Nat.lt_of_lt_of_le f.1 e.size, q2⟩, q1⟩
abbrev markOf (D : Nat) : Deferred := { target := .collected D, args := #[] }
structure Marks (F : Fence) (B : Nat) (ρ : Ren) (h : Hp) (w : World) (ds : List Deferred) : Prop where
  marks : ∃ Ds : List Nat, ds = Ds.map markOf ∧ Ds.Nodup ∧ ∀ D ∈ Ds, B ≤ D ∧ Far ρ h w D ∧ w.heap[D]? = some (.deferred (some []))
  loop : ∀ l, F.round = some l → ds = [] ∧ Far ρ h w l ∧ ∃ r, w.heap[l]? = some (.loop r)
theorem Marks.nil {F : Fence} (hF : F.round = none) {B ρ h w} : Marks F B ρ h w [] := ⟨⟨[], rfl, List.nodup_nil, fun D hD => by simp at hD⟩, fun l e => by rw [hF] at e; cases e⟩
theorem Marks.turn {F : Fence} {B ρ h w ds ρ' h' w'} (m : Marks F B ρ h w ds) (e : Ext ρ h w ρ' h' w') : Marks F B ρ' h' w' ds := by
  obtain ⟨Ds, q1, q2, q3⟩ := m.marks
  refine ⟨⟨Ds, q1, q2, fun D hD => ?_⟩, fun l hl => ?_⟩
  · obtain ⟨p1, p2, p3⟩ := q3 D hD
    obtain ⟨r1, r2⟩ := p2.turn e
    exact ⟨p1, r1, r2.trans p3⟩
  · obtain ⟨p0, p1, r, p2⟩ := m.loop l hl
    obtain ⟨r1, r2⟩ := p1.turn e
    exact ⟨p0, r1, r, r2.trans p2⟩
structure FreeF (F : Fence) : Prop where
  fn : ∀ f, F.fn f
  depth : F.depth = none
  alive : F.alive = false
theorem wide_free : FreeF Fence.wide := ⟨fun _ => trivial, rfl, rfl⟩
theorem FreeF.round {F : Fence} (hF : FreeF F) (l : Nat) : FreeF (F.inRound l) := ⟨hF.fn, hF.depth, hF.alive⟩
theorem FreeF.room {F : Fence} (hF : FreeF F) (n : Nat) : F.room n := fun d hd => by rw [hF.depth] at hd; cases hd
theorem FreeF.all {F : Fence} (hF : FreeF F) (P : Program) (m : Machine) : m.fenced P F := fun g _ =>
  ⟨fun h => (by rw [hF.alive] at h; cases h), .inl (hF.fn _), fun _ _ => hF.fn _, hF.room _⟩
theorem FreeF.steps {F : Fence} (hF : FreeF F) {P : Program} {m m' : Machine} (h : Steps P m m') : StepsIn (Machine.fenced P F) P m m' := (StepsIn.of_steps h).mono fun m _ => hF.all P m
theorem FreeF.calls {F : Fence} (hF : FreeF F) {n : Nat} {P : Program} {f : FuncId} {args : Array Value} {w : World} {R : Ending → World → Prop} (h : Calls P f args w R) : CallsIn F n P f args w R :=
  ⟨hF.fn f, fun cs _ => by
    obtain ⟨e, w', fr, r, s, x⟩ := h cs
    refine ⟨e, w', fr, r, ?_, x⟩
    cases e with
    | returned v => exact hF.steps s
    | panicked c => exact hF.steps s
    | outgrown => exact s⟩
structure PostC (F : Fence) (Q : Out → Prop) (ρ : Ren) (h : Hp) (w : World) (n : Nat) (e : Exit) (a' : Act) (w' : World) : Prop where
  ex : ∃ e0 env' h' ρ', e = exitOf e0 ∧ Q (.code e0 env' h') ∧ Rel ρ' h' w' ∧ EnvR ρ' env' a' ∧ Ext ρ h w ρ' h' w' ∧ Marks F w.heap.size ρ' h' w' a'.defers
  size : a'.tmps.size = n
structure PostR (Q : Out → Prop) (ρ : Ren) (h : Hp) (w : World) (n : Nat) (ds : List Deferred) (e : Exit) (a' : Act) (w' : World) : Prop where
  ex : ∃ e0 env' h' ρ', e = exitOf e0 ∧ Q (.code e0 env' h') ∧ Rel ρ' h' w' ∧ EnvR ρ' env' a' ∧ Ext ρ h w ρ' h' w'
  defers : a'.defers = ds
  size : a'.tmps.size = n
structure St0 (ρ : Ren) (env : Env) (h : Hp) (n : Nat) (a : Act) (w : World) : Prop where
  rel : Rel ρ h w
  env : EnvR ρ env a
  size : a.tmps.size = n
theorem St0.put {ρ env h n a w} (s : St0 ρ env h n a w) {d : Option Tmp} (hd : ∀ x, d = some x → x < n) {v : Val} {u : Value} (hv : VR ρ v u) : St0 ρ (putO env d v) h n (a.put d u) w := by
  cases d with
  | none => exact s
  | some d =>
    have hd := hd d rfl
    refine ⟨s.rel, fun t x hx => ?_, by simp [Act.put, s.size]⟩
    simp only [putO, T.get_set] at hx
    simp only [Act.put, Array.getD_eq_getD_getElem?, Array.getElem?_setIfInBounds]
    split at hx
    · rename_i e; subst e
      obtain rfl := Option.some.inj hx
      rw [if_pos rfl, if_pos (by rw [s.size]; exact hd)]
      exact hv
    · rename_i e
      rw [if_neg (fun q => e q.symm)]
      have := s.env t x hx
      rwa [Array.getD_eq_getD_getElem?] at this
theorem St0.turn {ρ env h n a w ρ' h' w'} (s : St0 ρ env h n a w) (r : Rel ρ' h' w') (e : Ext ρ h w ρ' h' w') : St0 ρ' env h' n a w' := ⟨r, s.env.mono e.le, s.size⟩
theorem dst_lt {n : Nat} {A : List Oper} (h : dstOk n A = true) {i : Nat} (hi : i < A.length) : ∀ x, (opAt A i).dst = some x → x < n := by
  intro x hx
  have hm : opAt A i ∈ A := by
    unfold opAt
    rw [List.getD_eq_getElem?_getD, List.getElem?_eq_getElem hi]
    exact List.getElem_mem hi
  have := List.all_eq_true.1 h _ hm
  rw [hx] at this
  simpa using this
theorem opAt_get {A : List Oper} {i : Nat} (hi : i < A.length) : A[i]? = some (opAt A i) := by
  unfold opAt
  rw [List.getD_eq_getElem?_getD, List.getElem?_eq_getElem hi]
  rfl
theorem want_run {ρ env h n a w} {A : List Oper} {o : Oper} {t : Bool} (s : St0 ρ env h n a w) (hd : dstOk n A = true) (hw : wantO A env o = some t) : Region.wanted o (yielded A.toArray a.tmps) = t := by
  unfold wantO at hw
  unfold Region.wanted
  split at hw
  · rename_i hg; rw [hg]; exact Option.some.inj hw
  · rename_i j want hg
    rw [hg]
    simp only
    cases hA : A[j]? with
    | none => simp [hA] at hw
    | some oj =>
      cases hdd : oj.dst with
      | none => simp [hA, hdd] at hw
      | some d =>
        simp only [hA, Option.bind_some, hdd] at hw
        have hj : j < A.length := (List.getElem?_eq_some_iff.1 hA).1
        have hlt : d < a.tmps.size := by
          rw [s.size]
          refine dst_lt hd hj d ?_
          rw [← hdd]; congr 1
          have := opAt_get hj
          rw [hA] at this; exact (Option.some.inj this).symm
        have hy : ∀ u, a.tmps.getD d undef = u → a.tmps[d]? = some u := fun u hu => by
          rw [Array.getD_eq_getD_getElem?, Array.getElem?_eq_getElem hlt] at hu
          rw [Array.getElem?_eq_getElem hlt]
          simpa using hu
        unfold yielded
        simp only [List.getElem?_toArray, hA, Option.bind_some, hdd]
        split at hw
        · rename_i x hx
          have hv := s.env d _ hx
          obtain rfl := Option.some.inj hw
          generalize hq : a.tmps.getD d undef = q at hv
          cases hv
          rw [hy _ hq]
          cases x <;> cases want <;> rfl
        · rename_i hx
          have hv := s.env d _ hx
          obtain rfl := Option.some.inj hw
          generalize hq : a.tmps.getD d undef = q at hv
          cases hv
          rw [hy _ hq]
          cases want <;> rfl
        · cases hw
theorem putO_same (o : Oper) (a : Act) {r : Next} {u : Value} (h : r = .value u ∨ (r = .skip ∧ u = undef)) {F : Fence} {m : Nat} {P : Program} {K : Act → World → Prop} {Q : Exit → Act → World → Prop} {w' : World} (hk : K (a.put o.dst u) w') : o.uponIn F m P a K Q (.ok r w') := by
  rcases h with rfl | ⟨rfl, rfl⟩ <;> exact hk
section
variable {P : Program} {K : Tb} {ρ : Ren} {h : Hp} {w : World} {env : Env} {a : Act} {n : Nat}
theorem sim_tgt {o : Oper} {f : FuncId} {vs : List Val} (s : St0 ρ env h n a w) (ht : tgt env o.op = some (f, vs)) : ∃ args', VRL ρ vs args' ∧ (execOp a.eval o).run P w = (callFunc f args'.toArray).run P w := by
  unfold tgt at ht
  split at ht
  · rename_i x args ats ho
    rw [Option.bind_eq_some_iff] at ht; obtain ⟨p, hp, ht⟩ := ht
    have hv := evO_VR s.env hp
    split at ht
    · rename_i g caps
      obtain ⟨l, hl, ht⟩ := Option.map_eq_some_iff.1 ht
      simp only [Prod.mk.injEq] at ht
      obtain ⟨rfl, rfl⟩ := ht
      have hr := evL_VR s.env hl
      generalize hu : a.eval x = u at hv
      cases hv with
      | f h1 h2 =>
        rename_i us
        refine ⟨args.toList.map a.eval ++ us, hr.append ⟨h1, h2⟩, ?_⟩
        have e1 : (args.toList.map a.eval ++ us).toArray = args.map a.eval ++ us.toArray := by apply Array.ext'; simp
        rw [e1]
        simp only [execOp, ho, resolve, hu, Deferred.ofValue, Sem.run_bind, Sem.run_pure, Result.andThen_ok, invoke]
        congr 3
        simp
    · cases ht
  · cases ht
theorem run_enter {f : FuncId} {fn : Func} {c : Code} (hf : P.funcs[f]? = some fn) (hb : fn.body = some c) (hn : fn.name ≠ "runtime.NumGoroutine") (args : Array Value) (w : World) : (callFunc f args).run P w = .ok (.enter f args) w := by
  unfold callFunc
  simp only [Sem.run_bind, run_program, Result.andThen_ok, hf]
  rw [if_neg (by simpa using hn), if_neg (by simp [hb])]
  rfl
theorem argE_get : ∀ (vs : List Val) (i : Nat) (env : Env) (t : Nat) (v : Val), (argE i vs env).get t = some v → (i ≤ t ∧ vs[t - i]? = some v) ∨ env.get t = some v := by
  intro vs
  induction vs with
  | nil => intro i env t v h; exact .inr h
  | cons u us ih =>
    intro i env t v h
    rcases ih (i + 1) (env.set i u) t v h with ⟨h1, h2⟩ | h1
    · exact .inl ⟨by omega, by rw [show t - i = (t - (i + 1)) + 1 by omega]; simpa using h2⟩
    · rw [T.get_set] at h1
      split at h1
      · rename_i e; subst e; exact .inl ⟨Nat.le_refl _, by simpa using h1⟩
      · exact .inr h1
theorem enter_St0 {args : List Val} {args' : List Value} (r : Rel ρ h w) (hr : VRL ρ args args') (hl : args.length ≤ n) : St0 ρ (argE 0 args .lf) h n { tmps := args'.toArray ++ Array.replicate (n - args'.toArray.size) undef, defers := [] } w := by
  have hl' := hr.1
  refine ⟨r, fun t v hv => ?_, by simp; omega⟩
  rcases argE_get args 0 .lf t v hv with ⟨_, h1⟩ | h1
  · obtain ⟨u, a1, a2⟩ := hr.at h1
    have hlt := (List.getElem?_eq_some_iff.1 a1).1
    simp only [Nat.sub_zero] at a1 hlt
    rw [Array.getD_eq_getD_getElem?, Array.getElem?_append_left (by simpa using hlt)]
    simp [a1, a2]
  · simp [T.get] at h1
theorem run_results (s : St0 ρ env h n a w) (f : ResultVar → Sem Value) (hf1 : ∀ t, f (.tmp t) = pure (a.tmps.getD t undef)) (hf2 : ∀ x t, f (.cell x t) = (do loadVar t (← asAddr (a.tmps.getD x undef)))) : ∀ {rs : List ResultVar} {vs : List Val}, resV P env h rs = some vs → ∃ us, VRL ρ vs us ∧ (rs.mapM f).run P w = .ok us w := by
  intro rs
  induction rs with
  | nil => intro vs hv; simp [resV] at hv; subst hv; exact ⟨[], VRL.nil, by simp⟩
  | cons r rs ih =>
    intro vs hv
    cases r with
    | tmp t =>
      simp only [resV] at hv
      rw [Option.bind_eq_some_iff] at hv; obtain ⟨v, h1, hv⟩ := hv
      obtain ⟨l, h2, rfl⟩ := Option.map_eq_some_iff.1 hv
      obtain ⟨us, g1, g2⟩ := ih h2
      exact ⟨_, g1.cons (s.env t v h1), by simp only [List.mapM_cons, hf1, Sem.run_bind, Sem.run_pure, Result.andThen_ok, g2]⟩
    | cell x t =>
      simp only [resV] at hv
      rw [Option.bind_eq_some_iff] at hv; obtain ⟨p, h1, hv⟩ := hv
      rw [Option.bind_eq_some_iff] at hv; obtain ⟨v, h3, hv⟩ := hv
      obtain ⟨l, h2, rfl⟩ := Option.map_eq_some_iff.1 hv
      obtain ⟨us, g1, g2⟩ := ih h2
      have hp := s.env x p h1
      generalize hu : a.tmps.getD x undef = q at hp
      cases hp with
      | p hb =>
        obtain ⟨u, e1, e2⟩ := ld_run s.rel h3 hb
        exact ⟨_, g1.cons e2, by simp only [List.mapM_cons, hf2, Sem.run_bind, Sem.run_pure, Result.andThen_ok, hu, asAddr, e1, g2]⟩
      | _ => simp [ldV] at h3
def oneU : List Value → Value
  | [v] => v
  | vs => .tuple vs.toArray
theorem oneV_VR {vs : List Val} {us : List Value} (hr : VRL ρ vs us) : VR ρ (oneV vs) (oneU us) := by
  match vs, us, hr with
  | [v], [u], hr => exact hr.head
  | [], [], hr => exact VR.none0
  | _ :: _ :: _, _ :: _ :: _, hr => exact VR.tup hr.1 hr.2
  | [], _ :: _, hr => exact absurd hr.1 (by simp)
  | _ :: _, [], hr => exact absurd hr.1 (by simp)
  | [_], _ :: _ :: _, hr => exact absurd hr.1 (by simp)
  | _ :: _ :: _, [_], hr => exact absurd hr.1 (by simp)
theorem run_res {fn : Func} (s : St0 ρ env h n a w) {vs : List Val} (hv : resV P env h fn.results.toList = some vs) : ∃ us, VRL ρ vs us ∧ (results fn a.tmps).run P w = .ok (oneU us) w := by
  have key : ∀ f : ResultVar → Sem Value, (∀ t, f (.tmp t) = pure (a.tmps.getD t undef)) → (∀ x t, f (.cell x t) = (do loadVar t (← asAddr (a.tmps.getD x undef)))) →
      ∃ us, VRL ρ vs us ∧ (do let vs ← fn.results.mapM f; pure (if h : vs.size = 1 then vs[0] else .tuple vs) : Sem Value).run P w = .ok (oneU us) w := fun f h1 h2 => by
    obtain ⟨us, g1, g2⟩ := run_results s f h1 h2 hv
    refine ⟨us, g1, ?_⟩
    rw [Sem.run_bind, ← Array.toArray_toList (xs := fn.results), List.mapM_toArray, Sem.run_map, g2]
    simp only [Result.andThen_ok, Sem.run_pure]
    match us with
    | [] => simp [oneU]
    | [v] => simp [oneU]
    | v :: u :: r => simp [oneU]
  unfold results
  exact key _ (fun t => rfl) (fun x t => rfl)
end
end Go.V
namespace Go.V
set_option linter.unusedVariables false
set_option linter.unusedSectionVars false
set_option linter.unusedSimpArgs false
variable [Sy]
def edge (A : List Oper) (j i : Nat) : Prop := ∃ e ∈ (opAt A j).after.toList, Region.binds .any e = true ∧ e.on = i
def ancB (A : List Oper) (j i : Nat) : Prop := ((ancs A []).getD j 0).testBit i = true
def bitsOf (o : Oper) (acc : List Nat) : Nat := o.after.toList.foldl (fun s e => if Region.binds .any e then s ||| 2 ^ e.on ||| acc.getD e.on 0 else s) 0
theorem bits_spec (acc : List Nat) (i : Nat) : ∀ (l : List Edge) (s : Nat), (l.foldl (fun s e => if Region.binds .any e then s ||| 2 ^ e.on ||| acc.getD e.on 0 else s) s).testBit i = true → s.testBit i = true ∨ ∃ e ∈ l, Region.binds .any e = true ∧ (e.on = i ∨ (acc.getD e.on 0).testBit i = true) := by
  intro l
  induction l with
  | nil => intro s h; exact .inl h
  | cons e l ih =>
    intro s h
    rcases ih _ h with h | ⟨e', he, hb⟩
    · simp only at h
      split at h
      · rename_i hb
        rw [Nat.testBit_or, Nat.testBit_or, Bool.or_eq_true, Bool.or_eq_true, Nat.testBit_two_pow] at h
        rcases h with (h | h) | h
        · exact .inl h
        · exact .inr ⟨e, by simp, hb, .inl (by simpa using h)⟩
        · exact .inr ⟨e, by simp, hb, .inr h⟩
      · exact .inl h
    · exact .inr ⟨e', by simp [he], hb⟩
theorem ancs_spec : ∀ (A : List Oper) (acc : List Nat), (ancs A acc).take acc.length = acc ∧ (ancs A acc).length = acc.length + A.length ∧ ∀ k o, A[k]? = some o → (ancs A acc).getD (acc.length + k) 0 = bitsOf o ((ancs A acc).take (acc.length + k)) := by
  intro A
  induction A with
  | nil => intro acc; exact ⟨by simp [ancs], by simp [ancs], fun k o h => by simp at h⟩
  | cons o A ih =>
    intro acc
    obtain ⟨h1, h2, h3⟩ := ih (acc ++ [bitsOf o acc])
    have e0 : ancs (o :: A) acc = ancs A (acc ++ [bitsOf o acc]) := rfl
    rw [e0]
    have hlen : (acc ++ [bitsOf o acc]).length = acc.length + 1 := by simp
    rw [hlen] at h1 h2 h3
    have ht : (ancs A (acc ++ [bitsOf o acc])).take acc.length = acc := by
      have := congrArg (List.take acc.length) h1
      rw [List.take_take, Nat.min_eq_left (by omega), List.take_left'] at this
      · exact this
      · rfl
    refine ⟨ht, by simp at h2 ⊢; omega, fun k x hk => ?_⟩
    cases k with
    | zero =>
      simp at hk; subst hk
      rw [Nat.add_zero, ht]
      have : (ancs A (acc ++ [bitsOf o acc]))[acc.length]? = some (bitsOf o acc) := by
        have h := congrArg (·[acc.length]?) h1
        simp only [List.getElem?_take] at h
        rw [if_pos (by omega)] at h
        rw [h]; simp
      rw [List.getD_eq_getElem?_getD, this]; rfl
    | succ k =>
      have := h3 k x (by simpa using hk)
      rw [show acc.length + (k + 1) = acc.length + 1 + k by omega]
      exact this
theorem anc_edge {A : List Oper} {j i : Nat} (h : ancB A j i) : j < A.length ∧ ∃ k, edge A j k ∧ (k = i ∨ (k < j ∧ ancB A k i)) := by
  obtain ⟨_, h2, h3⟩ := ancs_spec A []
  unfold ancB at h
  have hj : j < A.length := by
    rcases Nat.lt_or_ge j A.length with q | q
    · exact q
    · rw [List.getD_eq_getElem?_getD, List.getElem?_eq_none (by rw [h2]; simpa using q)] at h
      simp at h
  refine ⟨hj, ?_⟩
  have h4 := h3 j _ (opAt_get hj)
  simp only [List.length_nil, Nat.zero_add] at h4
  rw [h4] at h
  rcases bits_spec _ i _ 0 h with h | ⟨e, he, hb, h⟩
  · simp at h
  · refine ⟨e.on, ⟨e, he, hb, rfl⟩, ?_⟩
    rcases h with h | h
    · exact .inl h
    · right
      rw [List.getD_eq_getElem?_getD, List.getElem?_take] at h
      split at h
      · rename_i hlt
        exact ⟨hlt, by unfold ancB; rw [List.getD_eq_getElem?_getD]; exact h⟩
      · simp at h
theorem anc_closed {A : List Oper} {D : Nat → Prop} (hc : ∀ j, D j → ∀ k, edge A j k → D k) : ∀ (j i : Nat), (∀ k, edge A j k → D k) → ancB A j i → D i := by
  intro j
  induction j using Nat.strongRecOn with
  | _ j ih =>
    intro i hr h
    obtain ⟨_, k, h1, h2⟩ := anc_edge h
    rcases h2 with rfl | ⟨h2, h3⟩
    · exact hr k h1
    · exact ih k h2 i (fun k' h' => hc k (hr k h1) k' h') h3
structure Glob (A : List Oper) (n : Nat) : Prop where
  dst : dstOk n A = true
  uniq : ∀ i j d, i < A.length → j < A.length → i ≠ j → (opAt A i).dst = some d → (opAt A j).dst ≠ some d
  self : ∀ i d, i < A.length → (opAt A i).dst = some d → d ∉ looks A (opAt A i)
  rw : ∀ i j d, i < A.length → j < A.length → i ≠ j → (opAt A i).dst = some d → d ∈ looks A (opAt A j) → ancB A j i ∨ ancB A i j
structure At (P : Program) (A : List Oper) (dn : List Nat) (i : Nat) (rest : List Nat) : Prop where
  lt : i < A.length
  out : i ∉ dn
  nrest : i ∉ rest
  edges : ∀ k, edge A i k → k ∈ dn
  guard : ∀ g w, (opAt A i).guard = some (g, w) → g ∈ dn ∧ ancB A i g
  eff : kindOf P (opAt A i).op = .eff → ∀ r ∈ rest, ancB A r i
theorem okGo_at {P : Program} {A : List Oper} {dn : List Nat} {i : Nat} {rest : List Nat} (h : okGo P A (ancs A []) dn (i :: rest) = true) : At P A dn i rest ∧ okGo P A (ancs A []) (i :: dn) rest = true ∧
    ∀ d, (opAt A i).dst = some d → d ∉ looks A (opAt A i) ∧ ∀ j, j ∈ rest ∨ j ∈ dn → (opAt A j).dst ≠ some d ∧ (d ∈ looks A (opAt A j) → ancB A j i ∨ ancB A i j) := by
  simp only [okGo, Bool.and_eq_true] at h
  obtain ⟨⟨⟨⟨⟨⟨⟨h1, h2⟩, h3⟩, h4⟩, h5⟩, h6⟩, h7⟩, h8⟩ := h
  refine ⟨⟨by simpa using h3, by simpa using h1, by simpa using h2, fun k ⟨e, he, hb, hk⟩ => ?_, fun g w hg => ?_, fun hk r hr => ?_⟩, h8, fun d hd => ?_⟩
  · have := List.all_eq_true.1 h4 e he
    rw [hb] at this
    simp at this
    rw [← hk]; exact this
  · rw [hg] at h5
    simp only [Bool.and_eq_true] at h5
    exact ⟨by simpa using h5.1, h5.2⟩
  · simp only [hk, decide_true, Bool.not_true, Bool.false_or] at h6
    exact List.all_eq_true.1 h6 r hr
  · rw [hd] at h7
    simp only [Bool.and_eq_true] at h7
    refine ⟨by simpa using h7.1, fun j hj => ?_⟩
    have := List.all_eq_true.1 h7.2 j (by simpa using hj)
    simp only [Bool.and_eq_true, Bool.or_eq_true, Bool.not_eq_true'] at this
    refine ⟨by simpa using this.1, fun hl => ?_⟩
    rcases this.2 with (h | h) | h
    · simp at h; exact absurd hl h
    · exact .inl h
    · exact .inr h
theorem okGo_glob {P : Program} {A : List Oper} : ∀ (L dn : List Nat), okGo P A (ancs A []) dn L = true → (∀ i, i < A.length → i ∈ L ∨ i ∈ dn) → ∀ i, i ∈ L → i < A.length ∧ ∀ d, (opAt A i).dst = some d → d ∉ looks A (opAt A i) ∧ ∀ j, j < A.length → j ≠ i → (opAt A j).dst ≠ some d ∧ (d ∈ looks A (opAt A j) → ancB A j i ∨ ancB A i j) := by
  intro L
  induction L with
  | nil => intro dn _ _ i hi; cases hi
  | cons x L ih =>
    intro dn h hc i hi
    obtain ⟨h1, h2, h3⟩ := okGo_at h
    rcases List.mem_cons.1 hi with rfl | hi
    · refine ⟨h1.lt, fun d hd => ⟨(h3 d hd).1, fun j hj hne => (h3 d hd).2 j ?_⟩⟩
      rcases hc j hj with q | q
      · rcases List.mem_cons.1 q with rfl | q
        · exact absurd rfl hne
        · exact .inl q
      · exact .inr q
    · exact ih (x :: dn) h2 (fun j hj => by
        rcases hc j hj with q | q
        · rcases List.mem_cons.1 q with rfl | q
          · exact .inr (by simp)
          · exact .inl q
        · exact .inr (by simp [q])) i hi
theorem okGo_nodup {P : Program} {A : List Oper} : ∀ (L dn : List Nat), okGo P A (ancs A []) dn L = true → L.Nodup ∧ ∀ i ∈ L, i < A.length := by
  intro L
  induction L with
  | nil => intro dn _; exact ⟨List.nodup_nil, fun i h => by cases h⟩
  | cons x L ih =>
    intro dn h
    obtain ⟨h1, h2, _⟩ := okGo_at h
    obtain ⟨q1, q2⟩ := ih _ h2
    exact ⟨List.nodup_cons.2 ⟨h1.nrest, q1⟩, fun i hi => by
      rcases List.mem_cons.1 hi with rfl | hi
      · exact h1.lt
      · exact q2 i hi⟩
theorem okL_glob {P : Program} {A : List Oper} {L : List Nat} {n : Nat} (hd : dstOk n A = true) (h : okL P A L = true) : Glob A n ∧ okGo P A (ancs A []) [] L = true ∧ ∀ i, i < A.length → i ∈ L := by
  unfold okL at h
  simp only [Bool.and_eq_true] at h
  obtain ⟨h1, h2⟩ := h
  have hfull : ∀ i, i < A.length → i ∈ L := fun i hi => by
    have := List.all_eq_true.1 h1 i (List.mem_range.2 hi)
    simpa using this
  have hg := okGo_glob L [] h2 (fun i hi => .inl (hfull i hi))
  refine ⟨⟨hd, fun i j d hi hj hne hdd => ?_, fun i d hi hdd => ((hg i (hfull i hi)).2 d hdd).1, fun i j d hi hj hne hdd hl => ?_⟩, h2, hfull⟩
  · exact (((hg i (hfull i hi)).2 d hdd).2 j hj (fun e => hne e.symm)).1
  · exact (((hg i (hfull i hi)).2 d hdd).2 j hj (fun e => hne e.symm)).2 hl
end Go.V
namespace Go.V
set_option linter.unusedVariables false
set_option linter.unusedSectionVars false
set_option linter.unusedSimpArgs false
variable [Sy]
section
variable {P : Program} {ρ : Ren} {h h' : Hp} {w : World} {env : Env} {a : Act}
theorem map_pair {α : Type} {x : Option α} {v : α} (hv : x.map (fun v => (v, h)) = some (v, h')) : x = some v ∧ h' = h := by
  obtain ⟨u, h1, h2⟩ := Option.map_eq_some_iff.1 hv
  simp only [Prod.mk.injEq] at h2
  obtain ⟨rfl, rfl⟩ := h2
  exact ⟨h1, rfl⟩
theorem conv_pure {s d : TypeId} {p v : Val} (hk : convK P s d = .pure) (hv : convV P h s d p = some (v, h')) : h' = h ∧ ∀ h2, convV P h2 s d p = some (v, h2) := by
  unfold convK at hk
  unfold convV at hv
  split at hv
  · rename_i ds k k' n hs hd
    simp only [Option.some.injEq, Prod.mk.injEq] at hv; obtain ⟨rfl, rfl⟩ := hv
    exact ⟨rfl, fun h2 => by simp only [convV, hs, hd]⟩
  · rename_i hs hd
    split at hv
    · rename_i hb
      simp only [Option.some.injEq, Prod.mk.injEq] at hv; obtain ⟨rfl, rfl⟩ := hv
      exact ⟨rfl, fun h2 => by simp only [convV, hs, hd, if_pos hb]⟩
    · cases hv
  · rename_i ds sx hs hd
    simp only [Option.some.injEq, Prod.mk.injEq] at hv; obtain ⟨rfl, rfl⟩ := hv
    exact ⟨rfl, fun h2 => by simp only [convV, hs, hd]⟩
  · rename_i hs hd; simp [hs, hd] at hk
  · rename_i hs hd; simp [hs, hd] at hk
  · rename_i hs hd; simp [hs, hd] at hk
  · rename_i hs hd; simp [hs, hd] at hk
  · rename_i hs hd; simp [hs, hd] at hk
  · cases hv
theorem len_pure {ts : List TypeId} {x v : Val} (hk : lenK P ts = .pure) (hv : lenB P h ts x = some v) (h2 : Hp) : lenB P h2 ts x = some v := by
  unfold lenB at hv ⊢
  rw [Option.bind_eq_some_iff] at hv ⊢
  obtain ⟨t, ht, hv⟩ := hv
  refine ⟨t, ht, ?_⟩
  split at hv <;> first | (cases hv; done) | skip
  all_goals (try rename_i hst)
  all_goals first
    | (simp only [hst]; exact hv)
    | skip
  all_goals (
    cases ts with
    | nil => simp at ht
    | cons t0 ts =>
      simp at ht; subst ht
      simp [lenK] at hk
      simp_all)
theorem kind_pure {op : Op} {v : Val} (hk : kindOf P op = .pure) (hv : op1 P env h op = some (v, h')) : h' = h ∧ ∀ h2, op1 P env h2 op = some (v, h2) := by
  cases op <;> simp only [op1, reduceCtorEq] at hv <;> simp only [kindOf, reduceCtorEq] at hk
  case move x =>
    obtain ⟨hw, rfl⟩ := map_pair hv
    exact ⟨rfl, fun h2 => by simp only [op1, hw, Option.map_some]⟩
  case assign x =>
    obtain ⟨hw, rfl⟩ := map_pair hv
    exact ⟨rfl, fun h2 => by simp only [op1, hw, Option.map_some]⟩
  case pick c x y =>
    rw [Option.bind_eq_some_iff] at hv; obtain ⟨p, hp, hv⟩ := hv
    split at hv
    · obtain ⟨hw, rfl⟩ := map_pair hv
      exact ⟨rfl, fun h2 => by simp only [op1, hp, Option.bind_some, hw, Option.map_some]⟩
    · obtain ⟨hw, rfl⟩ := map_pair hv
      exact ⟨rfl, fun h2 => by simp only [op1, hp, Option.bind_some, hw, Option.map_some]⟩
    · cases hv
  case build t ps =>
    rw [Option.bind_eq_some_iff] at hv; obtain ⟨q, hq, hv⟩ := hv
    obtain ⟨hw, rfl⟩ := map_pair hv
    exact ⟨rfl, fun h2 => by simp only [op1, hq, Option.bind_some, hw, Option.map_some]⟩
  case nilCheck x =>
    rw [Option.bind_eq_some_iff] at hv; obtain ⟨p, hp, hv⟩ := hv
    split at hv
    · cases hv
    · cases hv
    · cases hv
    · rename_i n1 n2 n3
      simp only [Option.some.injEq, Prod.mk.injEq] at hv; obtain ⟨rfl, rfl⟩ := hv
      refine ⟨rfl, fun h2 => ?_⟩
      simp only [op1, hp, Option.bind_some]
  case binOp op t x y t2 =>
    rw [Option.bind_eq_some_iff] at hv; obtain ⟨p, hp, hv⟩ := hv
    rw [Option.bind_eq_some_iff] at hv; obtain ⟨q, hq, hv⟩ := hv
    obtain ⟨hw, rfl⟩ := map_pair hv
    exact ⟨rfl, fun h2 => by simp only [op1, hp, hq, Option.bind_some, hw, Option.map_some]⟩
  case unOp op t x =>
    rw [Option.bind_eq_some_iff] at hv; obtain ⟨p, hp, hv⟩ := hv
    obtain ⟨hw, rfl⟩ := map_pair hv
    exact ⟨rfl, fun h2 => by simp only [op1, hp, Option.bind_some, hw, Option.map_some]⟩
  case convert s d x =>
    rw [Option.bind_eq_some_iff] at hv; obtain ⟨p, hp, hv⟩ := hv
    obtain ⟨rfl, hq⟩ := conv_pure hk hv
    exact ⟨rfl, fun h2 => by simp only [op1, hp, Option.bind_some, hq h2]⟩
  case sliceToArrayPointer t x =>
    rw [Option.bind_eq_some_iff] at hv; obtain ⟨p, hp, hv⟩ := hv
    split at hv
    · split at hv
      · rename_i hst
        split at hv
        · rename_i hkn
          simp only [Option.some.injEq, Prod.mk.injEq] at hv; obtain ⟨rfl, rfl⟩ := hv
          exact ⟨rfl, fun h2 => by simp only [op1, hp, Option.bind_some, hst, hkn, if_true]⟩
        · cases hv
      · cases hv
    · cases hv
  case makeFunc f first caps =>
    cases f with
    | func f =>
      simp only at hv
      split at hv
      · rename_i hf
        obtain ⟨l, h1, h2⟩ := Option.map_eq_some_iff.1 hv
        simp only [Prod.mk.injEq] at h2; obtain ⟨rfl, rfl⟩ := h2
        exact ⟨rfl, fun h2 => by simp only [op1, hf, if_true, h1, Option.map_some]⟩
      · cases hv
    | _ => simp at hv
  case fieldAddr s x f =>
    rw [Option.bind_eq_some_iff] at hv; obtain ⟨p, hp, hv⟩ := hv
    split at hv
    · rw [Option.bind_eq_some_iff] at hv; obtain ⟨fd, hf, hv⟩ := hv
      rw [Option.bind_eq_some_iff] at hv; obtain ⟨m, hm, hv⟩ := hv
      split at hv
      · rename_i h0
        simp only [Option.some.injEq, Prod.mk.injEq] at hv; obtain ⟨rfl, rfl⟩ := hv
        exact ⟨rfl, fun h2 => by simp only [op1, hp, Option.bind_some, hf, hm, h0, if_true]⟩
      · cases hv
    · cases hv
  case field s x f =>
    rw [Option.bind_eq_some_iff] at hv; obtain ⟨p, hp, hv⟩ := hv
    split at hv
    · rw [Option.bind_eq_some_iff] at hv; obtain ⟨fd, hf, hv⟩ := hv
      obtain ⟨hw, rfl⟩ := map_pair hv
      exact ⟨rfl, fun h2 => by simp only [op1, hp, Option.bind_some, hf, hw, Option.map_some]⟩
    · cases hv
  case indexAddr t x y =>
    rw [Option.bind_eq_some_iff] at hv; obtain ⟨p, hp, hv⟩ := hv
    rw [Option.bind_eq_some_iff] at hv; obtain ⟨q, hq, hv⟩ := hv
    obtain ⟨hw, rfl⟩ := map_pair hv
    exact ⟨rfl, fun h2 => by simp only [op1, hp, hq, Option.bind_some, hw, Option.map_some]⟩
  case index t x y =>
    rw [Option.bind_eq_some_iff] at hv; obtain ⟨p, hp, hv⟩ := hv
    rw [Option.bind_eq_some_iff] at hv; obtain ⟨q, hq, hv⟩ := hv
    obtain ⟨hw, rfl⟩ := map_pair hv
    exact ⟨rfl, fun h2 => by simp only [op1, hp, hq, Option.bind_some, hw, Option.map_some]⟩
  case extract x i =>
    rw [Option.bind_eq_some_iff] at hv; obtain ⟨p, hp, hv⟩ := hv
    split at hv
    · obtain ⟨hw, rfl⟩ := map_pair hv
      exact ⟨rfl, fun h2 => by simp only [op1, hp, Option.bind_some, hw, Option.map_some]⟩
    · cases hv
  case slice t x lo hi mx =>
    rw [Option.bind_eq_some_iff] at hv; obtain ⟨p, hp, hv⟩ := hv
    rw [Option.bind_eq_some_iff] at hv; obtain ⟨q1, hq1, hv⟩ := hv
    rw [Option.bind_eq_some_iff] at hv; obtain ⟨q2, hq2, hv⟩ := hv
    rw [Option.bind_eq_some_iff] at hv; obtain ⟨q3, hq3, hv⟩ := hv
    obtain ⟨hl, rfl⟩ := map_pair hv
    exact ⟨rfl, fun h2 => by simp only [op1, hp, hq1, hq2, hq3, Option.bind_some, hl, Option.map_some]⟩
  case call c =>
    obtain ⟨cal, args, ats⟩ := c
    cases cal with
    | builtin b =>
      simp only at hv
      rw [Option.bind_eq_some_iff] at hv; obtain ⟨l, hl, hv⟩ := hv
      unfold bltV at hv
      split at hv
      · simp [kindOf] at hk
      · simp [kindOf] at hk
      · simp [kindOf] at hk
      · obtain ⟨hw, rfl⟩ := map_pair hv
        simp only [kindOf] at hk
        exact ⟨rfl, fun h2 => by simp only [op1, hl, Option.bind_some, bltV, len_pure hk hw h2, Option.map_some]⟩
      · obtain ⟨hw, rfl⟩ := map_pair hv
        exact ⟨rfl, fun h2 => by simp only [op1, hl, Option.bind_some, bltV, hw, Option.map_some]⟩
      · simp [kindOf] at hk
      · obtain ⟨hw, rfl⟩ := map_pair hv
        exact ⟨rfl, fun h2 => by simp only [op1, hl, Option.bind_some, bltV, hw, Option.map_some]⟩
      · obtain ⟨hw, rfl⟩ := map_pair hv
        exact ⟨rfl, fun h2 => by simp only [op1, hl, Option.bind_some, bltV, hw, Option.map_some]⟩
      · cases hv
    | _ => simp at hv
def Hp.wf (h : Hp) : Prop := ∀ b, h.next ≤ b → h.get b = none
theorem get_new' (hw : h.wf) {b : Nat} {X B : Blk} (hb : h.get b = some X) : (h.new B).get b = some X := by
  rw [Hp.get_new, if_neg]
  · exact hb
  · intro e; rw [e, hw _ (Nat.le_refl _)] at hb; cases hb
theorem rd_new (hw : h.wf) {B : Blk} {b o m : Nat} {c : List Val} (hr : rd h b o m = some c) : rd (h.new B) b o m = some c := by
  unfold rd at hr ⊢
  split at hr
  · rename_i hg
    rw [get_new' hw hg]; exact hr
  · rename_i hg
    rw [get_new' hw hg]; exact hr
  · cases hr
theorem ld_new (hw : h.wf) {B : Blk} {t : TypeId} {p v : Val} (hr : ldV P h t p = some v) : ldV P (h.new B) t p = some v := by
  unfold ldV at hr ⊢
  split at hr
  · rename_i b o
    rw [Option.bind_eq_some_iff] at hr ⊢; obtain ⟨g, hg, hr⟩ := hr
    refine ⟨g, hg, ?_⟩
    cases g with
    | true =>
      simp only [cond_true] at hr ⊢
      rw [Option.bind_eq_some_iff] at hr ⊢; obtain ⟨m, hm, hr⟩ := hr
      obtain ⟨c, h1, h2⟩ := Option.map_eq_some_iff.1 hr
      exact ⟨m, hm, by rw [rd_new hw h1]; simpa using h2⟩
    | false =>
      simp only [cond_false] at hr ⊢
      rw [Option.bind_eq_some_iff] at hr ⊢; obtain ⟨c, h1, h2⟩ := hr
      exact ⟨c, rd_new hw h1, h2⟩
  · cases hr
end
end Go.V
namespace Go.V
set_option linter.unusedVariables false
set_option linter.unusedSectionVars false
set_option linter.unusedSimpArgs false
variable [Sy]
section
variable {P : Program} {ρ : Ren} {h h' : Hp} {w : World} {env env2 : Env} {a : Act}
theorem look_new (hw : h.wf) {B : Blk} {t : TypeId} {m k v : Val} {ok : Bool} (hr : lookV P h t m k ok = some v) : lookV P (h.new B) t m k ok = some v := by
  unfold lookV at hr ⊢
  split at hr
  · rename_i kt vt hst
    split at hr
    · rename_i hk
      simp only [hk, if_true]
      rw [Option.bind_eq_some_iff] at hr ⊢; obtain ⟨es, hes, hr⟩ := hr
      refine ⟨es, ?_, hr⟩
      split at hes
      · exact hes
      · split at hes
        · rename_i hg
          simp only [get_new' hw hg]
          exact hes
        · cases hes
      · cases hes
    · cases hr
  · cases hr
theorem kind_read {op : Op} {v : Val} (hk : kindOf P op = .read) (hv : op1 P env h op = some (v, h')) : h' = h ∧ ∀ B, h.wf → op1 P env (h.new B) op = some (v, h.new B) := by
  cases op <;> simp only [op1, reduceCtorEq] at hv <;> simp only [kindOf, reduceCtorEq] at hk
  case load t x =>
    rw [Option.bind_eq_some_iff] at hv; obtain ⟨p, hp, hv⟩ := hv
    obtain ⟨hl, rfl⟩ := map_pair hv
    exact ⟨rfl, fun B hw => by simp only [op1, hp, Option.bind_some, ld_new hw hl, Option.map_some]⟩
  case lookup t m k ok =>
    rw [Option.bind_eq_some_iff] at hv; obtain ⟨p, hp, hv⟩ := hv
    rw [Option.bind_eq_some_iff] at hv; obtain ⟨q, hq, hv⟩ := hv
    obtain ⟨hl, rfl⟩ := map_pair hv
    exact ⟨rfl, fun B hw => by simp only [op1, hp, hq, Option.bind_some, look_new hw hl, Option.map_some]⟩
  case convert s d x =>
    rw [Option.bind_eq_some_iff] at hv; obtain ⟨p, hp, hv⟩ := hv
    have key : h' = h ∧ ∀ B, h.wf → convV P (h.new B) s d p = some (v, h.new B) := by
      unfold convK at hk
      unfold convV at hv
      split at hv
      · rename_i ds k k' n hs hd
        simp only [Option.some.injEq, Prod.mk.injEq] at hv; obtain ⟨rfl, rfl⟩ := hv
        exact ⟨rfl, fun B hw => by simp only [convV, hs, hd]⟩
      · rename_i hs hd
        split at hv
        · rename_i hb
          simp only [Option.some.injEq, Prod.mk.injEq] at hv; obtain ⟨rfl, rfl⟩ := hv
          exact ⟨rfl, fun B hw => by simp only [convV, hs, hd, if_pos hb]⟩
        · cases hv
      · rename_i ds sx hs hd
        simp only [Option.some.injEq, Prod.mk.injEq] at hv; obtain ⟨rfl, rfl⟩ := hv
        exact ⟨rfl, fun B hw => by simp only [convV, hs, hd]⟩
      · rename_i hs hd; simp [hs, hd] at hk
      · rename_i hs hd; simp [hs, hd] at hk
      · rename_i hs hd
        split at hv
        · rename_i hu
          simp only [Option.some.injEq, Prod.mk.injEq] at hv; obtain ⟨rfl, rfl⟩ := hv
          exact ⟨rfl, fun B hw => by simp only [convV, hs, hd, hu, if_true]⟩
        · cases hv
      · rename_i hs hd
        split at hv
        · rename_i hu
          simp only [Option.some.injEq, Prod.mk.injEq] at hv; obtain ⟨rfl, rfl⟩ := hv
          exact ⟨rfl, fun B hw => by simp only [convV, hs, hd, hu, if_true]⟩
        · cases hv
      · rename_i e b o n c hs hd
        split at hv
        · rename_i he
          rw [Option.bind_eq_some_iff] at hv; obtain ⟨cs, hcs, hv⟩ := hv
          obtain ⟨hb, rfl⟩ := map_pair (v := v) (by
            obtain ⟨u, h1, h2⟩ := Option.map_eq_some_iff.1 hv
            show ((bytesV cs).map Val.s).map (fun v => (v, h)) = some (v, h')
            rw [h1]; simpa using h2)
          refine ⟨rfl, fun B hw => ?_⟩
          simp only [convV, hs, hd, he]
          rw [Option.bind_eq_some_iff]
          refine ⟨cs, ?_, ?_⟩
          · split at hcs
            · rename_i h0; rw [if_pos h0]; exact hcs
            · rename_i h0; rw [if_neg h0]; exact rd_new hw hcs
          · obtain ⟨u, h1, rfl⟩ := Option.map_eq_some_iff.1 hb
            rw [h1]; rfl
        · cases hv
      · cases hv
    exact ⟨key.1, fun B hw => by simp only [op1, hp, Option.bind_some, key.2 B hw]⟩
  case call c =>
    obtain ⟨cal, args, ats⟩ := c
    cases cal with
    | builtin b =>
      simp only at hv
      rw [Option.bind_eq_some_iff] at hv; obtain ⟨l, hl, hv⟩ := hv
      unfold bltV at hv
      split at hv
      · simp [kindOf] at hk
      · simp [kindOf] at hk
      · simp [kindOf] at hk
      · obtain ⟨hq, rfl⟩ := map_pair hv
        rename_i x
        refine ⟨rfl, fun B hw => ?_⟩
        have : lenB P (h'.new B) ats.toList x = some v := by
          unfold lenB at hq ⊢
          rw [Option.bind_eq_some_iff] at hq ⊢
          obtain ⟨t, ht, hq⟩ := hq
          refine ⟨t, ht, ?_⟩
          split at hq <;> first | (cases hq; done) | skip
          all_goals first
            | (simp_all; done)
            | (split at hq
               · rename_i hg
                 have hg' := get_new' (B := B) hw hg
                 simp_all
               · cases hq)
            | (split at hq
               · simp_all
               · cases hq)
        simp only [op1, hl, Option.bind_some, bltV, this, Option.map_some]
      · obtain ⟨hq, rfl⟩ := map_pair hv
        exact ⟨rfl, fun B hw => by simp only [op1, hl, Option.bind_some, bltV, hq, Option.map_some]⟩
      · simp [kindOf] at hk
      · obtain ⟨hq, rfl⟩ := map_pair hv
        exact ⟨rfl, fun B hw => by simp only [op1, hl, Option.bind_some, bltV, hq, Option.map_some]⟩
      · obtain ⟨hq, rfl⟩ := map_pair hv
        exact ⟨rfl, fun B hw => by simp only [op1, hl, Option.bind_some, bltV, hq, Option.map_some]⟩
      · cases hv
    | _ => simp at hv
def tmpsOf (op : Op) : List Tmp := op.operands.toList.filterMap fun | .tmp t => some t | _ => none
theorem evO_congr {x : Operand} (he : ∀ t, x = .tmp t → env.get t = env2.get t) : evO env x = evO env2 x := by
  cases x with
  | tmp t => exact he t rfl
  | _ => rfl
theorem evL_congr {l : List Operand} (he : ∀ t, Operand.tmp t ∈ l → env.get t = env2.get t) : evL env l = evL env2 l := by
  unfold evL
  induction l with
  | nil => rfl
  | cons x l ih =>
    rw [List.mapM_cons, List.mapM_cons, evO_congr (env2 := env2) fun t e => he t (by simp [e]), ih fun t ht => he t (by simp [ht])]
theorem evP_congr {l : List (Nat × Operand)} (he : ∀ t, Operand.tmp t ∈ l.map (·.2) → env.get t = env2.get t) : evP env l = evP env2 l := by
  unfold evP
  induction l with
  | nil => rfl
  | cons x l ih =>
    rw [List.mapM_cons, List.mapM_cons, evO_congr (env2 := env2) fun t e => he t (by simp [e]), ih fun t ht => he t (by simp at ht ⊢; exact .inr ht)]
theorem evQ_congr {x : Option Operand} (he : ∀ t, x = some (.tmp t) → env.get t = env2.get t) : evQ env x = evQ env2 x := by
  cases x with
  | none => rfl
  | some x => simp only [evQ]; rw [evO_congr (env2 := env2) fun t e => he t (by rw [e])]
theorem mem_tmps {op : Op} {t : Tmp} (h : Operand.tmp t ∈ op.operands.toList) : t ∈ tmpsOf op := by
  unfold tmpsOf
  rw [List.mem_filterMap]
  exact ⟨_, h, rfl⟩
theorem op1_congr {op : Op} (he : ∀ t, t ∈ tmpsOf op → env.get t = env2.get t) : op1 P env h op = op1 P env2 h op := by
  have h1 : ∀ x : Operand, x ∈ op.operands.toList → evO env x = evO env2 x := fun x hx => evO_congr fun t e => he t (mem_tmps (by rw [← e]; exact hx))
  have h2 : ∀ l : List Operand, (∀ x ∈ l, x ∈ op.operands.toList) → evL env l = evL env2 l := fun l hl => evL_congr fun t ht => he t (mem_tmps (hl _ ht))
  have h3 : ∀ l : List (Nat × Operand), (∀ x ∈ l.map (·.2), x ∈ op.operands.toList) → evP env l = evP env2 l := fun l hl => evP_congr fun t ht => he t (mem_tmps (hl _ ht))
  have h4 : ∀ x : Option Operand, (∀ y, x = some y → y ∈ op.operands.toList) → evQ env x = evQ env2 x := fun x hx => evQ_congr fun t e => he t (mem_tmps (hx _ e))
  cases op
  case move x => simp only [op1]; rw [h1 x (by simp [Op.operands])]
  case assign x => simp only [op1]; rw [h1 x (by simp [Op.operands])]
  case pick c x y => simp only [op1]; rw [h1 c (by simp [Op.operands]), h1 x (by simp [Op.operands]), h1 y (by simp [Op.operands])]
  case box e x => simp only [op1]; rw [h1 x (by simp [Op.operands])]
  case build t ps => simp only [op1]; rw [h3 ps.toList (fun x hx => by simpa [Op.operands] using hx)]
  case buildSlice t n ps => simp only [op1]; rw [h3 ps.toList (fun x hx => by simpa [Op.operands] using hx)]
  case load t x => simp only [op1]; rw [h1 x (by simp [Op.operands])]
  case store t x y => simp only [op1]; rw [h1 x (by simp [Op.operands]), h1 y (by simp [Op.operands])]
  case nilCheck x => simp only [op1]; rw [h1 x (by simp [Op.operands])]
  case binOp o t x y t2 => simp only [op1]; rw [h1 x (by simp [Op.operands]), h1 y (by simp [Op.operands])]
  case unOp o t x => simp only [op1]; rw [h1 x (by simp [Op.operands])]
  case convert s d x => simp only [op1]; rw [h1 x (by simp [Op.operands])]
  case sliceToArrayPointer t x => simp only [op1]; rw [h1 x (by simp [Op.operands])]
  case makeFunc f first caps =>
    cases f with
    | func f => simp only [op1]; rw [h2 caps.toList (fun x hx => by simp [Op.operands]; exact .inr (by simpa using hx))]
    | _ => rfl
  case makeMap t r =>
    cases r with
    | none => rfl
    | some x => simp only [op1]; rw [h1 x (by simp [Op.operands])]
  case makeSlice t x y => simp only [op1]; rw [h1 x (by simp [Op.operands]), h1 y (by simp [Op.operands])]
  case slice t x lo hi mx =>
    simp only [op1]
    rw [h1 x (by simp [Op.operands]), h4 lo (fun y e => by simp [Op.operands, e]), h4 hi (fun y e => by simp [Op.operands, e]), h4 mx (fun y e => by simp [Op.operands, e])]
  case fieldAddr s x f => simp only [op1]; rw [h1 x (by simp [Op.operands])]
  case field s x f => simp only [op1]; rw [h1 x (by simp [Op.operands])]
  case indexAddr t x y => simp only [op1]; rw [h1 x (by simp [Op.operands]), h1 y (by simp [Op.operands])]
  case index t x y => simp only [op1]; rw [h1 x (by simp [Op.operands]), h1 y (by simp [Op.operands])]
  case lookup t x y ok => simp only [op1]; rw [h1 x (by simp [Op.operands]), h1 y (by simp [Op.operands])]
  case insert t x y z => simp only [op1]; rw [h1 x (by simp [Op.operands]), h1 y (by simp [Op.operands]), h1 z (by simp [Op.operands])]
  case mapEntry t x y => simp only [op1]; rw [h1 x (by simp [Op.operands]), h1 y (by simp [Op.operands])]
  case entryStore t x y z => simp only [op1]; rw [h1 x (by simp [Op.operands]), h1 y (by simp [Op.operands]), h1 z (by simp [Op.operands])]
  case mapUpdate t x y z => simp only [op1]; rw [h1 x (by simp [Op.operands]), h1 y (by simp [Op.operands]), h1 z (by simp [Op.operands])]
  case extract x i => simp only [op1]; rw [h1 x (by simp [Op.operands])]
  case call c =>
    obtain ⟨cal, args, ats⟩ := c
    cases cal with
    | builtin b => simp only [op1]; rw [h2 args.toList (fun x hx => by simp [Op.operands, Call.operands]; simpa using hx)]
    | _ => rfl
  all_goals rfl
def restr (E : Env) : List Tmp → Env
  | [] => .lf
  | t :: r => match E.get t with
    | some v => (restr E r).set t v
    | none => restr E r
theorem restr_get (E : Env) (l : List Tmp) (t : Tmp) : (restr E l).get t = if t ∈ l then E.get t else none := by
  induction l with
  | nil => simp [restr, T.get]
  | cons x l ih =>
    unfold restr
    cases hx : E.get x with
    | none =>
      simp only
      rw [ih]
      by_cases h1 : t = x
      · subst h1; simp [hx]
      · simp [h1]
    | some v =>
      simp only [T.get_set]
      by_cases h1 : t = x
      · subst h1; simp [hx]
      · rw [if_neg h1, ih]; simp [h1]
end
end Go.V
namespace Go.V
set_option linter.unusedVariables false
set_option linter.unusedSectionVars false
set_option linter.unusedSimpArgs false
variable [Sy]
section
variable {P : Program} {ρ : Ren} {h h' : Hp} {w : World} {env : Env} {a : Act}
structure New1 (w w' : World) : Prop where
  size : w'.heap.size = w.heap.size + 1
  old : ∀ g, g < w.heap.size → w'.heap[g]? = w.heap[g]?
  os : w'.os = w.os
  tape : w'.tape = w.tape
  output : w'.output = w.output
  drawn : w.drawn ≤ w'.drawn
theorem New1.alloc (w : World) (o : Obj) : New1 w (w.alloc o) := ⟨by simp, fun g hg => by
  show (w.heap.push _)[g]? = _
  rw [Array.getElem?_push, if_neg (Nat.ne_of_lt hg)], rfl, rfl, rfl, Nat.le_refl _⟩
theorem New1.drew (w : World) (o : Obj) : New1 w (w.drew.alloc o) := by
  have := New1.alloc w.drew o
  exact ⟨this.size, this.old, this.os, this.tape, this.output, Nat.le_succ _⟩
def AllocR (P : Program) (ρ : Ren) (w : World) (a : Act) (o : Oper) (vOf : Nat → Val) (B : Blk) : Prop :=
  ∃ w' u i, (execOp a.eval o).run P w = .ok (.value u) w' ∧ New1 w w' ∧ i.g = w.heap.size ∧ (∀ σ b, σ b = some i → VR σ (vOf b) u) ∧ ∀ σ, ρ.le σ → BlkR σ i w' B
theorem cellsBlk {z : Nat} {c : List Val} {cs : List Value} {e : TypeId} {fz : Nat × Nat} (hf : fz.1 < fz.2 → cs.length ≤ fz.1) (hz : fz.1 ≤ fz.2) (hzm : z ≠ 1 → fz.2 ≤ fz.1) (h1 : c.all Val.one = true) (ho1 : ∀ u ∈ cs, u.oneCell' = true) (hlen : c.length ≤ cs.length) (hv : VRL ρ c (cs.take c.length)) {w2 : World} (hnew : w2.heap[w.heap.size]? = some (.cells cs.toArray e fz)) :
    BlkR ρ ⟨w.heap.size, 0, z, c.length, cs.length⟩ w2 (.cells z c) := by
  refine ⟨rfl, rfl, by simpa using hlen, h1, ⟨fun o ho => ⟨?_, ?_⟩, ⟨fun c' e' fz' hf' => by rw [hnew] at hf'; obtain ⟨_, _, rfl⟩ := (Obj.cells.inj (Option.some.inj hf')); exact hz, fun o u q => by simp only [World.cell?, hnew] at q; exact ho1 u (List.mem_of_getElem? (by simpa using q)), fun hz1 c' e' fz' hf' => by rw [hnew] at hf'; obtain ⟨_, _, rfl⟩ := (Obj.cells.inj (Option.some.inj hf')); exact hzm hz1⟩⟩, fun j u hj => ?_⟩
  · simp only [World.cell?, hnew]; simp; exact ho
  · simp only [World.frozen?, hnew]
    simp
    intro a
    rcases Nat.lt_or_ge fz.1 fz.2 with q | q
    · have := hf q; simp at ho; omega
    · omega
  · have hjl := (List.getElem?_eq_some_iff.1 hj).1
    obtain ⟨u', a, q⟩ := hv.at hj
    refine ⟨u', ?_, q⟩
    simp only [World.cell?, hnew]
    rw [List.getElem?_take, if_pos hjl] at a
    simpa using a
theorem alloc_at (w : World) (o : Obj) : (w.alloc o).heap[w.heap.size]? = some o := by
  show (w.heap.push _)[w.heap.size]? = _
  rw [Array.getElem?_push, if_pos rfl]
theorem AllocR.row {o : Oper} {z : Nat} {c : List Val} {us : List Value} {e : TypeId} {u : Value} {vOf : Nat → Val} (h1 : c.all Val.one = true) (hv : VRL ρ c us) (hr : (execOp a.eval o).run P w = .ok (.value u) (w.alloc (.cells us.toArray e)))
    (hu : ∀ σ b, σ b = some ⟨w.heap.size, 0, z, c.length, us.length⟩ → VR σ (vOf b) u) : AllocR P ρ w a o vOf (.cells z c) :=
  ⟨_, u, ⟨w.heap.size, 0, z, c.length, us.length⟩, hr, New1.alloc _ _, rfl, hu, fun σ hl => cellsBlk (fz := (0, 0)) (by simp) (by simp) (fun _ => Nat.le_refl _) h1 (hv.one h1) (by rw [hv.1]; exact Nat.le_refl _) (by rw [hv.1, List.take_length]; exact hv.mono hl) (alloc_at _ _)⟩
structure AllocK (P : Program) (env : Env) (h : Hp) (o : Oper) (v : Val) (h' : Hp) (vOf : Nat → Val) (B : Blk) : Prop where
  dead : B ≠ .dead
  val : v = vOf h.next
  heap : h' = h.new B
  ptr : ∀ σ b u, VR σ (vOf b) u → σ b ≠ none
  run : ∀ ρ w a, EnvR ρ env a → AllocR P ρ w a o vOf B
theorem alloc_alloc {o : Oper} {e : TypeId} {z v : Val} (ho : o.op = .alloc e) (hz : zeroV P e = some z) (hv : allocV h z.cells.length z.cells = some (v, h')) : AllocK P env h o v h' (fun b => .p (some (b, 0))) (.cells z.cells.length z.cells) := by
  unfold allocV at hv
  split at hv
  · rename_i h1
    simp only [Option.some.injEq, Prod.mk.injEq] at hv
    obtain ⟨rfl, rfl⟩ := hv
    refine ⟨by simp, rfl, rfl, fun σ b u hu => by cases hu; simp_all, fun ρ w a hE => ?_⟩
    obtain ⟨i, u, h2, h3, h4⟩ := zeroV_some hz
    have hr := (cv_VR (ρ := ρ) h4).cells
    refine AllocR.row (e := e) (u := .pointer (some ⟨w.heap.size, 0, none⟩)) h1 hr ?_ (fun σ b hb => VR.p hb)
    simp only [execOp, ho, Instr.alloc, Sem.run_bind, run_zero h2 h3 w, Result.andThen_ok, newVar, run_newRow, Sem.run_pure, Array.toArray_toList]
  · cases hv
theorem alloc_box {o : Oper} {e : TypeId} {x : Operand} {z v : Val} (ho : o.op = .box e x) (hz : evO env x = some z) (hv : allocV h z.cells.length z.cells = some (v, h')) : AllocK P env h o v h' (fun b => .p (some (b, 0))) (.cells z.cells.length z.cells) := by
  unfold allocV at hv
  split at hv
  · rename_i h1
    simp only [Option.some.injEq, Prod.mk.injEq] at hv
    obtain ⟨rfl, rfl⟩ := hv
    refine ⟨by simp, rfl, rfl, fun σ b u hu => by cases hu; simp_all, fun ρ w a hE => ?_⟩
    have hr := (evO_VR hE hz).cells
    refine AllocR.row (e := e) (u := .pointer (some ⟨w.heap.size, 0, none⟩)) h1 hr ?_ (fun σ b hb => VR.p hb)
    simp only [execOp, ho, Instr.box, Sem.run_bind, Result.andThen_ok, newVar, run_newRow, Sem.run_pure, Array.toArray_toList]
  · cases hv
theorem alloc_map {o : Oper} {t : TypeId} {x : Option Operand} {v : Val} (ho : o.op = .makeMap t x) (hv : op1 P env h o.op = some (v, h')) : AllocK P env h o v h' (fun b => .m (some b)) (.map 0 []) := by
  rw [ho] at hv
  have hnew : ∀ w : World, (newObj (.map #[] 0)).run P w = .ok w.heap.size (w.alloc (.map #[] 0)) := fun w => rfl
  have hfin : ∀ (ρ : Ren) (w : World) (a : Act), (execOp a.eval o).run P w = .ok (.value (.map (some w.heap.size))) (w.alloc (.map #[] 0)) → AllocR P ρ w a o (fun b => .m (some b)) (.map 0 []) := fun ρ w a hr =>
    ⟨_, _, ⟨w.heap.size, 0, 0, 0, 0⟩, hr, New1.alloc _ _, rfl, fun σ b hb => VR.m hb, fun σ _ => ⟨#[], alloc_at _ _, rfl, fun j c k v hj => by simp at hj⟩⟩
  cases x with
  | none =>
    simp only [op1, Option.some.injEq, Prod.mk.injEq] at hv
    obtain ⟨rfl, rfl⟩ := hv
    refine ⟨by simp, rfl, rfl, fun σ b u hu => by cases hu; simp_all, fun ρ w a hE => hfin ρ w a ?_⟩
    simp only [execOp, ho, Instr.makeMap, Option.map_none, Sem.run_bind, Sem.run_pure, Result.andThen_ok, hnew]
  | some x =>
    simp only [op1] at hv
    rw [Option.bind_eq_some_iff] at hv; obtain ⟨p, hp, hv⟩ := hv
    split at hv
    · rename_i kt vt k n hst
      simp only [Option.some.injEq, Prod.mk.injEq] at hv
      obtain ⟨rfl, rfl⟩ := hv
      refine ⟨by simp, rfl, rfl, fun σ b u hu => by cases hu; simp_all, fun ρ w a hE => hfin ρ w a ?_⟩
      have v1 := evO_VR hE hp
      generalize hu1 : a.eval x = u1 at v1
      cases v1
      simp only [execOp, ho, Instr.makeMap, Option.map_some, hu1, asInt, asIntOf, Sem.run_bind, run_underlying hst w, Sem.run_pure, Result.andThen_ok, hnew]
    · cases hv
theorem alloc_buildSlice {o : Oper} {t : TypeId} {n : Nat} {ps : Array (Nat × Operand)} {qs : List (Nat × Val)} {v : Val} (ho : o.op = .buildSlice t n ps) (hp : evP env ps.toList = some qs) (hv : buildSliceV P h t n qs = some (v, h')) :
    ∃ vOf B, AllocK P env h o v h' vOf B := by
  unfold buildSliceV at hv
  split at hv
  · rename_i e hst
    rw [Option.bind_eq_some_iff] at hv; obtain ⟨z, hs, hv⟩ := hv
    rw [Option.bind_eq_some_iff] at hv; obtain ⟨zv, hz, hv⟩ := hv
    split at hv
    · rename_i hc
      obtain ⟨c1, c2, c3⟩ := hc
      rw [Option.bind_eq_some_iff] at hv; obtain ⟨cs, hf, hv⟩ := hv
      unfold rowV at hv
      split at hv
      case isFalse => cases hv
      rename_i hone
      simp only [Option.some.injEq, Prod.mk.injEq] at hv
      obtain ⟨rfl, rfl⟩ := hv
      refine ⟨fun b => .sl (some (b, 0)) n (.k n), .cells z cs, by simp, rfl, rfl, fun σ b u hu => by cases hu; simp_all, fun ρ w a hE => ?_⟩
      obtain ⟨g1, g2⟩ := evP_VR hE hp
      obtain ⟨i, zu, i1, i2, i3⟩ := zeroV_some hz
      have hzr := (cv_VR (ρ := ρ) i3).cells
      have hzs : zu.cells.size = z := by have := hzr.1; simp at this; omega
      have hzz := zeros_VRL hzr (by omega) n
      rw [hzs] at hzz
      obtain ⟨us, e1, e2⟩ := sim_fill hf hzz g1 g2
      refine AllocR.row (e := e) (u := .slice (some ⟨w.heap.size, 0, none⟩) n n) hone e2 ?_ (fun σ b hb => VR.sk hb (Nat.le_refl _))
      have hparts : (ps.map fun (i, x) => (i, a.eval x)).toList = ps.toList.map fun (i, x) => (i, a.eval x) := by simp
      have e3 : ∀ zero : Array Value, (n * z ≠ 0 → zero = zu.cells) → Instr.fill (fun i => some (i * z, z)) ((Array.range (n * z)).map fun x => zero[x % zero.size]!) (ps.toList.map fun (i, x) => (i, a.eval x)) = some us.toArray := fun zero h0 => by
        rw [← e1]
        congr 1
        by_cases hn : n * z = 0
        · rw [hn]; apply Array.ext'; simp
        · rw [h0 hn, hzs, Array.toArray_toList]
      simp only [execOp, ho, Instr.buildSlice, Sem.run_bind, run_underlying hst w, Result.andThen_ok, run_sz hs w]
      rw [if_neg (by omega)]
      by_cases h0 : n * z = 0
      · rw [if_pos h0]
        simp only [Sem.run_bind, Sem.run_pure, Result.andThen_ok, hparts, e3 #[] (fun q => absurd h0 q), run_newRow]
      · rw [if_neg h0]
        simp only [Sem.run_bind, Sem.run_pure, Result.andThen_ok, hparts, run_zero i1 i2 w, e3 zu.cells (fun _ => rfl), run_newRow]
    · cases hv
  · cases hv
theorem alloc_makeSlice {o : Oper} {t : TypeId} {x y : Operand} {p q v : Val} (ho : o.op = .makeSlice t x y) (hx : evO env x = some p) (hy : evO env y = some q) (hv : makeSliceV P h t p q = some (v, h')) : ∃ vOf B, AllocK P env h o v h' vOf B := by
  unfold makeSliceV at hv
  split at hv
  · rename_i e hst
    rw [Option.bind_eq_some_iff] at hv; obtain ⟨z, hs, hv⟩ := hv
    rw [Option.bind_eq_some_iff] at hv; obtain ⟨zv, hz, hv⟩ := hv
    rw [Option.bind_eq_some_iff] at hv; obtain ⟨l, hl, hv⟩ := hv
    rw [Option.bind_eq_some_iff] at hv; obtain ⟨c, hc, hv⟩ := hv
    rw [Option.bind_eq_some_iff] at hv; obtain ⟨inf, hi, hv⟩ := hv
    obtain ⟨k1, rfl, l1⟩ := natV_some hl
    obtain ⟨k2, rfl, l2⟩ := natV_some hc
    split at hv
    · rename_i hcc
      obtain ⟨c1, c2, c3, c4⟩ := hcc
      unfold rowV at hv
      split at hv
      case isFalse => cases hv
      rename_i hone
      simp only [Option.some.injEq, Prod.mk.injEq] at hv
      obtain ⟨rfl, rfl⟩ := hv
      refine ⟨fun b => .sl (some (b, 0)) l (.k c), .cells z (zerosV zv.cells c), by simp, rfl, rfl, fun σ b u hu => by cases hu; simp_all, fun ρ w a hE => ?_⟩
      have v1 := evO_VR hE hx
      have v2 := evO_VR hE hy
      generalize hu1 : a.eval x = u1 at v1
      generalize hu2 : a.eval y = u2 at v2
      cases v1; cases v2
      obtain ⟨i, zu, i1, i2, i3⟩ := zeroV_some hz
      have hii : i = inf := by rw [i1] at hi; exact Option.some.inj hi
      subst hii
      have hzr := (cv_VR (ρ := ρ) i3).cells
      have hzs : zu.cells.size = z := by have := hzr.1; simp at this; omega
      have hzz := zeros_VRL hzr (by omega) c
      rw [hzs] at hzz
      refine AllocR.row (e := e) (u := .slice (some ⟨w.heap.size, 0, none⟩) l c) hone hzz ?_ (fun σ b hb => VR.sk hb c1)
      have hroom : ∀ b, (askRoom b).run P w = .ok () w := fun b => by
        unfold askRoom; split <;> rfl
      have t1 : ¬ (((c : Int) < 0 || (i.bytes : Int) * c > 2 ^ 48) || (l : Int) < 0 || (l : Int) > c) = true := by
        have : ((i.bytes : Int) * c) = ((i.bytes * c : Nat) : Int) := by simp
        simp only [Bool.or_eq_true, decide_eq_true_eq, this]
        omega
      simp only [execOp, ho, hu1, hu2, Instr.makeSlice, asInt, asIntOf, Sem.run_bind, run_underlying hst w, Result.andThen_ok, Sem.run_pure, typeInfo, run_program, hi, wrap_id l1, wrap_id l2]
      rw [if_neg t1]
      have e3 : ∀ zero : Array Value, (c * z ≠ 0 → zero = zu.cells) → ((Array.range (c * z)).map fun x => zero[x % zero.size]!) = (((Array.range (c * z)).map fun i => zu.cells[i % z]!).toList).toArray := fun zero h0 => by
        rw [Array.toArray_toList]
        by_cases hn : c * z = 0
        · rw [hn]; apply Array.ext'; simp
        · rw [h0 hn, hzs]
      simp only [Sem.run_bind, Sem.run_pure, Result.andThen_ok, hroom, run_sz hs w, Int.toNat_natCast]
      by_cases h0 : c * z = 0
      · rw [if_pos h0]
        simp only [Sem.run_bind, Sem.run_pure, Result.andThen_ok, e3 #[] (fun q => absurd h0 q), run_newRow]
      · rw [if_neg h0]
        simp only [Sem.run_bind, Sem.run_pure, Result.andThen_ok, run_zero i1 i2 w, e3 zu.cells (fun _ => rfl), run_newRow]
    · cases hv
  · cases hv
theorem alloc_conv {o : Oper} {s d : TypeId} {x : Operand} {p v : Val} (ho : o.op = .convert s d x) (hk : convK P s d = .alloc) (hx : evO env x = some p) (hv : convV P h s d p = some (v, h')) : ∃ vOf B, AllocK P env h o v h' vOf B := by
  unfold convK at hk
  unfold convV at hv
  split at hv
  · rename_i ds k k' n hs hd
    simp [hd] at hk
  · rename_i hs hd
    simp [hd] at hk
  · rename_i ds sx hs hd
    cases ds <;> simp [hs, hd] at hk
  · rename_i e sx hs hd
    split at hv
    · rename_i he
      split at hv
      · cases hv
      · rename_i hne
        unfold rowV at hv
        split at hv
        · rename_i h1
          simp only [Option.some.injEq, Prod.mk.injEq] at hv
          obtain ⟨rfl, rfl⟩ := hv
          refine ⟨fun b => .sl (some (b, 0)) sx.length (.op 1 sx.length), .cells 1 (sx.map fun c => .i .u8 c.toNat), by simp, rfl, rfl, fun σ b u hu => by generalize Cap.op 1 _ = cp at hu; cases hu <;> simp_all, fun ρ w a hE => ?_⟩
          have v1 := evO_VR hE hx
          generalize hu1 : a.eval x = u1 at v1
          cases v1
          have hrb := run_bytes_of_string (P := P) w s d e ⟨sx.toArray⟩ hs hd he
          have hsz : (⟨sx.toArray⟩ : ByteArray).size = sx.length := by simp [ByteArray.size]
          have hcap := grownCap_ge w sx.length 0 e
          rw [hsz] at hrb
          have hrl : (bytesRow ⟨sx.toArray⟩ (grownCap w sx.length 0 e)).toList = sx.map (fun c => Value.int .u8 c.toNat) ++ List.replicate (grownCap w sx.length 0 e - sx.length) (.int .u8 0) := by
            simp [bytesRow, hsz]
          have hlen : (bytesRow ⟨sx.toArray⟩ (grownCap w sx.length 0 e)).size = grownCap w sx.length 0 e := by
            rw [← Array.length_toList, hrl]; simp; omega
          have hvv : VRL ρ (sx.map fun c => Val.i .u8 c.toNat) ((bytesRow ⟨sx.toArray⟩ (grownCap w sx.length 0 e)).toList.take (sx.map fun c => Val.i .u8 c.toNat).length) := by
            rw [hrl, List.length_map, List.take_left' (by simp)]
            refine ⟨by simp, fun j u u' p q => ?_⟩
            simp only [List.getElem?_map, Option.map_eq_some_iff] at p q
            obtain ⟨b, p1, rfl⟩ := p
            obtain ⟨b', q1, rfl⟩ := q
            rw [p1] at q1
            obtain rfl := Option.some.inj q1
            exact .i _ _
          refine ⟨_, .slice (some ⟨w.heap.size, 0, none⟩) sx.length (grownCap w sx.length 0 e), ⟨w.heap.size, 0, 1, (sx.map fun c => Val.i .u8 c.toNat).length, (bytesRow ⟨sx.toArray⟩ (grownCap w sx.length 0 e)).toList.length⟩, ?_, New1.drew _ _, rfl, fun σ b hb => ?_, fun σ hl => cellsBlk (w := w.drew) (e := e) (fz := ((bytesRow ⟨sx.toArray⟩ (grownCap w sx.length 0 e)).size, (bytesRow ⟨sx.toArray⟩ (grownCap w sx.length 0 e)).size + 1)) (by simp) (by simp) (fun q => absurd rfl q) h1 bytesRow_one (by have q := hlen; rw [← Array.length_toList] at q; rw [q]; simpa using hcap) (hvv.mono hl) (by rw [Array.toArray_toList]; exact alloc_at w.drew _)⟩
          · simp only [execOp, ho, hu1, strVal', Sem.run_bind, hrb, Result.andThen_ok, Sem.run_pure]
          · have := VR.so (ρ := σ) (b := b) (o := 0) (len := sx.length) (m := sx.length) (c := grownCap w sx.length 0 e) hb (Nat.le_refl _) hcap (by simp; exact hcap) (by simp [hlen])
            simpa using this
        · cases hv
    · cases hv
  · rename_i hs hd; simp [hs, hd] at hk
  · rename_i hs hd; simp [hs, hd] at hk
  · rename_i hs hd; simp [hs, hd] at hk
  · rename_i hs hd; simp [hs, hd] at hk
  · cases hv
theorem kind_alloc {o : Oper} {v : Val} (hk : kindOf P o.op = .alloc) (hv : op1 P env h o.op = some (v, h')) : ∃ vOf B, AllocK P env h o v h' vOf B := by
  have hv0 := hv
  generalize ho : o.op = op at hv hk
  cases op <;> simp only [op1, reduceCtorEq] at hv <;> simp only [kindOf, reduceCtorEq] at hk
  case alloc e =>
    rw [Option.bind_eq_some_iff] at hv; obtain ⟨z, hz, hv⟩ := hv
    exact ⟨_, _, alloc_alloc ho hz hv⟩
  case box e x =>
    rw [Option.bind_eq_some_iff] at hv; obtain ⟨z, hz, hv⟩ := hv
    exact ⟨_, _, alloc_box ho hz hv⟩
  case buildSlice t n ps =>
    rw [Option.bind_eq_some_iff] at hv; obtain ⟨qs, hq, hv⟩ := hv
    exact alloc_buildSlice ho hq hv
  case convert s d x =>
    rw [Option.bind_eq_some_iff] at hv; obtain ⟨p, hp, hv⟩ := hv
    exact alloc_conv ho hk hp hv
  case makeMap t x => exact ⟨_, _, alloc_map ho hv0⟩
  case makeSlice t x y =>
    rw [Option.bind_eq_some_iff] at hv; obtain ⟨p, hp, hv⟩ := hv
    rw [Option.bind_eq_some_iff] at hv; obtain ⟨q, hq, hv⟩ := hv
    exact alloc_makeSlice ho hp hq hv
  case call c =>
    obtain ⟨cal, args, ats⟩ := c
    cases cal with
    | builtin b => cases b <;> simp [kindOf] at hk; unfold lenK at hk; split at hk <;> (try split at hk) <;> simp at hk
    | _ => simp at hv
end
end Go.V
namespace Go.V
set_option linter.unusedVariables false
set_option linter.unusedSectionVars false
set_option linter.unusedSimpArgs false
variable [Sy]
def Dn (listed : Array Bool) (i : Nat) : Prop := listed.getD i false = true
inductive Late (P : Program) (A : List Oper) (hs : Hp) (h : Hp) (pd : List Pend) (ρ : Ren) (i : Nat) (E : Env) (v : Val) (b : Nat) : Prop where
  | pure : kindOf P (opAt A i).op = .pure → op1 P E h (opAt A i).op = some (v, h) → Late P A hs h pd ρ i E v b
  | read : kindOf P (opAt A i).op = .read → op1 P E h (opAt A i).op = some (v, h) → (⟨i, (opAt A i).op, E, v⟩ : Pend) ∈ pd → Late P A hs h pd ρ i E v b
  | alloc (vOf : Nat → Val) (B : Blk) (h0 h0' : Hp) : kindOf P (opAt A i).op = .alloc → AllocK P (restr E (looks A (opAt A i))) h0 (opAt A i) v h0' vOf B → v = vOf b → h.get b = some B → ρ b = none → hs.next ≤ b → b < h.next → Late P A hs h pd ρ i E v b
structure DI (P : Program) (A : List Oper) (n : Nat) (dn L : List Nat) (pd : List Pend) (env : Env) (h : Hp) (listed : Array Bool) (a : Act) (w : World) (ρ : Ren) (ρs : Ren) (hs : Hp) (ws : World) (e0 : Env) (V : Nat → Val) (EV : Nat → Env) (BL : Nat → Nat) (ds : List Deferred) : Prop where
  size : listed.size = A.length
  cover : ∀ i, i < A.length → i ∈ dn ∨ i ∈ L
  ord : okGo P A (ancs A []) dn L = true
  dlt : ∀ i, i ∈ dn → i < A.length
  sub : ∀ i, Dn listed i → i ∈ dn
  closed : ∀ j, Dn listed j → ∀ k, edge A j k → Dn listed k
  cedge : ∀ j, j ∈ dn → ∀ k, edge A j k → k ∈ dn
  tail : ∀ pre j post, dn = pre ++ j :: post → ∀ k, edge A j k → k ∈ post
  rel : Rel ρ h w
  defers : a.defers = ds
  asize : a.tmps.size = n
  ext : Ext ρs hs ws ρ h w
  cv : ∀ i, i ∈ dn → ∀ t, (opAt A i).dst = some t → env.get t = some (V i)
  ce : ∀ t, (∀ i, i ∈ dn → (opAt A i).dst ≠ some t) → env.get t = e0.get t
  av : ∀ i, Dn listed i → ∀ t, (opAt A i).dst = some t → VR ρ (V i) (a.tmps.getD t undef)
  ae : ∀ t v, (∀ i, Dn listed i → (opAt A i).dst ≠ some t) → e0.get t = some v → VR ρ v (a.tmps.getD t undef)
  sv : ∀ i, i ∈ dn → ¬ Dn listed i → ∀ j t, j < A.length → (opAt A j).dst = some t → t ∈ looks A (opAt A i) → (ancB A i j → (EV i).get t = some (V j)) ∧ (¬ ancB A i j → (EV i).get t = e0.get t)
  se : ∀ i, i ∈ dn → ¬ Dn listed i → ∀ t, t ∈ looks A (opAt A i) → (∀ j, j < A.length → (opAt A j).dst ≠ some t) → (EV i).get t = e0.get t
  again : ∀ i, i ∈ dn → ¬ Dn listed i → (wantO A (EV i) (opAt A i) = some false ∧ V i = .no) ∨ (wantO A (EV i) (opAt A i) = some true ∧ Late P A hs h pd ρ i (EV i) (V i) (BL i))
  inj : ∀ i j, i ∈ dn → j ∈ dn → ¬ Dn listed i → ¬ Dn listed j → wantO A (EV i) (opAt A i) = some true → wantO A (EV j) (opAt A j) = some true → kindOf P (opAt A i).op = .alloc → kindOf P (opAt A j).op = .alloc → BL i = BL j → i = j
section
variable {P : Program} {A : List Oper} {n : Nat} {dn L : List Nat} {pd : List Pend} {env : Env} {h : Hp} {listed : Array Bool} {a : Act} {w : World} {ρ ρs : Ren} {hs : Hp} {ws : World} {e0 : Env} {V : Nat → Val} {EV : Nat → Env} {BL : Nat → Nat} {ds : List Deferred}
theorem Rel.extend (r : Rel ρ h w) (B : Blk) : Rel ρ (h.new B) w := by
  have hget : ∀ b i, ρ b = some i → (h.new B).get b = h.get b := fun b i e => by
    rw [Hp.get_new, if_neg]; intro q; have := (r.dom b i e).1; omega
  refine ⟨fun b i e => ⟨Nat.lt_succ_of_lt (r.dom b i e).1, (r.dom b i e).2⟩, fun b i X e f => r.blk b i X e (by rw [← hget b i e]; exact f), fun b b' i i' e e' l l' hg => ?_, fun k hk => ?_⟩
  · refine r.inj b b' i i' e e' ?_ ?_ hg
    · obtain ⟨X, q1, q2⟩ := l; exact ⟨X, by rw [← hget b i e]; exact q1, q2⟩
    · obtain ⟨X, q1, q2⟩ := l'; exact ⟨X, by rw [← hget b' i' e']; exact q1, q2⟩
  · have hk' : h.next + 1 ≤ k := hk
    rw [Hp.get_new, if_neg (by omega)]; exact r.wf k (by omega)
theorem Ext.extend (x : Ext ρs hs ws ρ h w) (r : Rel ρ h w) (B : Blk) : Ext ρs hs ws ρ (h.new B) w :=
  ⟨x.le, Nat.le_succ_of_le x.next, fun b hb hl => by
    obtain ⟨p, q⟩ := x.other b hb hl
    refine ⟨p, ?_⟩
    rw [Hp.get_new, if_neg (by have := x.next; omega)]; exact q, x.size, fun g hg hn => by
      obtain ⟨p, q⟩ := x.frame g hg hn
      refine ⟨p, fun b i e ho => q b i e ?_⟩
      obtain ⟨X, q1, q2⟩ := ho
      rw [Hp.get_new, if_neg (fun e' => by have := (r.dom b i e).1; omega)] at q1
      exact ⟨X, q1, q2⟩, x.os, x.tape, x.output, x.drawn⟩
theorem Rel.late (r : Rel ρ h w) {b : Nat} {i : Info} {B : Blk} {w' : World} (hb : ρ b = none) (hl : b < h.next) (hg : h.get b = some B) (hn : New1 w w') (hi : i.g = w.heap.size) (hB : BlkR (ρ.put b i) i w' B) : Rel (ρ.put b i) h w' := by
  have hle := Ren.le_put (ρ := ρ) (b := b) i hb
  have hput : ∀ b' i', (ρ.put b i) b' = some i' → (b' = b ∧ i' = i) ∨ (b' ≠ b ∧ ρ b' = some i') := fun b' i' e => by
    unfold Ren.put at e
    split at e
    · rename_i q; exact .inl ⟨q, (Option.some.inj e).symm⟩
    · rename_i q; exact .inr ⟨q, e⟩
  refine ⟨fun b' i' e => ?_, fun b' i' X e f => ?_, fun b1 b2 i1 i2 e1 e2 l1 l2 hgg => ?_, r.wf⟩
  · rw [hn.size]
    rcases hput b' i' e with ⟨rfl, rfl⟩ | ⟨_, e⟩
    · exact ⟨hl, by omega⟩
    · have := r.dom b' i' e; exact ⟨this.1, by omega⟩
  · rcases hput b' i' e with ⟨rfl, rfl⟩ | ⟨_, e⟩
    · rw [hg] at f; obtain rfl := Option.some.inj f; exact hB
    · exact (r.blk b' i' X e f).congr hle (hn.old _ (r.dom b' i' e).2)
  · rcases hput b1 i1 e1 with ⟨q1, q2⟩ | ⟨q1, f1⟩ <;> rcases hput b2 i2 e2 with ⟨q3, q4⟩ | ⟨q3, f2⟩
    · rw [q1, q3]
    · have := (r.dom b2 i2 f2).2; rw [q2] at hgg; omega
    · have := (r.dom b1 i1 f1).2; rw [q4] at hgg; omega
    · exact r.inj b1 b2 i1 i2 f1 f2 l1 l2 hgg
theorem Ext.late (x : Ext ρs hs ws ρ h w) {b : Nat} {i : Info} {w' : World} (hb : ρ b = none) (hl : hs.next ≤ b) (hn : New1 w w') (hi : i.g = w.heap.size) : Ext ρs hs ws (ρ.put b i) h w' := by
  have hle := Ren.le_put (ρ := ρ) (b := b) i hb
  refine ⟨x.le.trans hle, x.next, fun b' hb' hl' => ?_, by rw [hn.size]; have := x.size; omega, fun g hg hno => ?_, hn.os.trans x.os, hn.tape.trans x.tape, hn.output.trans x.output, Nat.le_trans x.drawn hn.drawn⟩
  · obtain ⟨p, q⟩ := x.other b' hb' hl'
    refine ⟨?_, q⟩
    unfold Ren.put; rw [if_neg (by omega)]; exact p
  · obtain ⟨p, q⟩ := x.frame g hg hno
    refine ⟨(hn.old g (Nat.lt_of_lt_of_le hg x.size)).trans p, fun b' i' e ho => ?_⟩
    unfold Ren.put at e
    split at e
    · obtain rfl := Option.some.inj e
      have := x.size; omega
    · exact q b' i' e ho
theorem Dn_set {i j : Nat} (hi : i < listed.size) : Dn (listed.setIfInBounds i true) j ↔ j = i ∨ Dn listed j := by
  unfold Dn
  rw [Array.getD_eq_getD_getElem?, Array.getElem?_setIfInBounds, Array.getD_eq_getD_getElem?]
  split
  · rename_i e; subst e; simp [hi]
  · rename_i e
    constructor
    · exact fun q => .inr q
    · rintro (rfl | q)
      · exact absurd rfl e
      · exact q
theorem DI.done (d : DI P A n dn L pd env h listed a w ρ ρs hs ws e0 V EV BL ds) (G : Glob A n) {i : Nat} (hi : i ∈ dn) (hnd : ¬ Dn listed i) (hr : ∀ k, edge A i k → Dn listed k) {w' : World} {ρ' : Ren} {u : Value} (hle : ρ.le ρ') (hrel : Rel ρ' h w') (hext : Ext ρs hs ws ρ' h w') (hv : VR ρ' (V i) u)
    (hb : ∀ j, j ∈ dn → ¬ Dn listed j → j ≠ i → wantO A (EV j) (opAt A j) = some true → kindOf P (opAt A j).op = .alloc → ρ (BL j) = none → BL j < h.next → ρ' (BL j) = none) :
    DI P A n dn L pd env h (listed.setIfInBounds i true) (a.put (opAt A i).dst u) w' ρ' ρs hs ws e0 V EV BL ds := by
  have hil : i < listed.size := by rw [d.size]; exact d.dlt i hi
  have hput : ∀ t, (opAt A i).dst ≠ some t → (a.put (opAt A i).dst u).tmps.getD t undef = a.tmps.getD t undef := fun t ht => by
    cases hd : (opAt A i).dst with
    | none => rfl
    | some x =>
      simp only [Act.put, Array.getD_eq_getD_getElem?, Array.getElem?_setIfInBounds]
      rw [if_neg (fun e => ht (by rw [hd, e]))]
  have hself : ∀ t, (opAt A i).dst = some t → (a.put (opAt A i).dst u).tmps.getD t undef = u := fun t ht => by
    rw [ht]
    simp only [Act.put, Array.getD_eq_getD_getElem?, Array.getElem?_setIfInBounds]
    simp only [if_true]
    rw [if_pos (by rw [d.asize]; exact dst_lt G.dst (d.dlt i hi) t ht)]
    rfl
  refine ⟨by simp [d.size], d.cover, d.ord, d.dlt, fun j hj => ?_, fun j hj k hk => ?_, d.cedge, d.tail, hrel, ?_, ?_, hext, d.cv, d.ce, fun j hj t ht => ?_, fun t v hno hv0 => ?_, fun j hj hjd => d.sv j hj (fun q => hjd ((Dn_set hil).2 (.inr q))), fun j hj hjd => d.se j hj (fun q => hjd ((Dn_set hil).2 (.inr q))), fun j hj hjd => ?_, fun j k hj hk hjd hkd => d.inj j k hj hk (fun q => hjd ((Dn_set hil).2 (.inr q))) (fun q => hkd ((Dn_set hil).2 (.inr q)))⟩
  · rcases (Dn_set hil).1 hj with rfl | hj
    · exact hi
    · exact d.sub j hj
  · rcases (Dn_set hil).1 hj with rfl | hj
    · exact (Dn_set hil).2 (.inr (hr k hk))
    · exact (Dn_set hil).2 (.inr (d.closed j hj k hk))
  · cases (opAt A i).dst <;> simp [Act.put, d.defers]
  · cases (opAt A i).dst <;> simp [Act.put, d.asize]
  · rcases (Dn_set hil).1 hj with rfl | hj
    · rw [hself t ht]; exact hv
    · have hne : j ≠ i := fun e => hnd (e ▸ hj)
      rw [hput t (fun e => G.uniq i j t (d.dlt i hi) (d.dlt j (d.sub j hj)) (fun q => hne q.symm) e ht)]
      exact (d.av j hj t ht).mono hle
  · rw [hput t (hno i ((Dn_set hil).2 (.inl rfl)))]
    exact (d.ae t v (fun j hj => hno j ((Dn_set hil).2 (.inr hj))) hv0).mono hle
  · have hjd' : ¬ Dn listed j := fun q => hjd ((Dn_set hil).2 (.inr q))
    have hne : j ≠ i := fun e => hjd ((Dn_set hil).2 (.inl e))
    rcases d.again j hj hjd' with q | ⟨q, l⟩
    · exact .inl q
    · refine .inr ⟨q, ?_⟩
      cases l with
      | pure k1 k2 => exact .pure k1 k2
      | read k1 k2 k3 => exact .read k1 k2 k3
      | alloc vOf B h0 h0' k1 k2 k3 k4 k5 k6 k7 => exact .alloc vOf B h0 h0' k1 k2 k3 k4 (hb j hj hjd' hne q k1 k5 k7) k6 k7
end
end Go.V
namespace Go.V
set_option linter.unusedVariables false
set_option linter.unusedSectionVars false
set_option linter.unusedSimpArgs false
variable [Sy]
section
variable {P : Program} {A : List Oper} {n : Nat} {dn L : List Nat} {pd : List Pend} {env : Env} {h : Hp} {listed : Array Bool} {a : Act} {w : World} {ρ ρs : Ren} {hs : Hp} {ws : World} {e0 : Env} {V : Nat → Val} {EV : Nat → Env} {BL : Nat → Nat} {ds : List Deferred}
structure Snap (A : List Oper) (e0 : Env) (V : Nat → Val) (i : Nat) (E : Env) : Prop where
  sv : ∀ j t, j < A.length → (opAt A j).dst = some t → t ∈ looks A (opAt A i) → (ancB A i j → E.get t = some (V j)) ∧ (¬ ancB A i j → E.get t = e0.get t)
  se : ∀ t, t ∈ looks A (opAt A i) → (∀ j, j < A.length → (opAt A j).dst ≠ some t) → E.get t = e0.get t
theorem DI.snapA (d : DI P A n dn L pd env h listed a w ρ ρs hs ws e0 V EV BL ds) (G : Glob A n) {i : Nat} (hi : i < A.length) (hnd : ¬ Dn listed i) (hr : ∀ k, edge A i k → Dn listed k) {E : Env} (S : Snap A e0 V i E) :
    ∀ t, t ∈ looks A (opAt A i) → ∀ v, E.get t = some v → VR ρ v (a.tmps.getD t undef) := by
  intro t ht v hv
  by_cases hj : ∃ j, j < A.length ∧ (opAt A j).dst = some t
  · obtain ⟨j, hj, hjd⟩ := hj
    have hne : j ≠ i := fun e => G.self j t hj hjd (by rw [e]; exact ht)
    obtain ⟨s1, s2⟩ := S.sv j t hj hjd ht
    by_cases hb : ancB A i j
    · have hD := anc_closed d.closed i j hr hb
      rw [s1 hb] at hv
      obtain rfl := Option.some.inj hv
      exact d.av j hD t hjd
    · rw [s2 hb] at hv
      refine d.ae t v (fun k hk hkd => ?_) hv
      have hkj : k = j := by
        apply Classical.byContradiction
        intro hne2
        exact G.uniq k j t (d.dlt k (d.sub k hk)) hj hne2 hkd hjd
      subst hkj
      rcases G.rw k i t hj hi hne hjd ht with q | q
      · exact hb q
      · exact hnd (anc_closed d.closed k i (d.closed k hk) q)
  · rw [S.se t ht (fun j hjl hjd => hj ⟨j, hjl, hjd⟩)] at hv
    exact d.ae t v (fun k hk hkd => hj ⟨k, d.dlt k (d.sub k hk), hkd⟩) hv
theorem DI.snapD (d : DI P A n dn L pd env h listed a w ρ ρs hs ws e0 V EV BL ds) {i : Nat} (hi : i ∈ dn) (hnd : ¬ Dn listed i) : Snap A e0 V i (EV i) := ⟨d.sv i hi hnd, d.se i hi hnd⟩
theorem DI.snapC {i : Nat} {L' : List Nat} (d : DI P A n dn (i :: L') pd env h listed a w ρ ρs hs ws e0 V EV BL ds) (G : Glob A n) (T : At P A dn i L') : Snap A e0 V i env := by
  refine ⟨fun j t hj hjd ht => ⟨fun hb => ?_, fun hb => ?_⟩, fun t ht hno => d.ce t fun k hk => hno k (d.dlt k hk)⟩
  · exact d.cv j (anc_closed (D := (· ∈ dn)) d.cedge i j T.edges hb) t hjd
  · refine d.ce t fun k hk hkd => ?_
    have hkj : k = j := by
      apply Classical.byContradiction
      intro hne2
      exact G.uniq k j t (d.dlt k hk) hj hne2 hkd hjd
    subst hkj
    have hne : k ≠ i := fun e => T.out (e ▸ hk)
    rcases G.rw k i t hj T.lt hne hjd ht with q | q
    · exact hb q
    · exact T.out (anc_closed (D := (· ∈ dn)) d.cedge k i (d.cedge k hk) q)
theorem tmps_looks {A : List Oper} {o : Oper} {t : Tmp} (h : t ∈ tmpsOf o.op) : t ∈ looks A o := by
  unfold looks
  exact List.mem_append.2 (.inl h)
theorem guard_looks {A : List Oper} {o : Oper} {g : Nat} {wt : Bool} {x : Tmp} (h : o.guard = some (g, wt)) (hx : ((A[g]?).bind (·.dst)) = some x) : x ∈ looks A o := by
  unfold looks
  refine List.mem_append.2 (.inr ?_)
  rw [h]
  simp only
  rw [hx]
  simp
theorem want_restr {A : List Oper} {o : Oper} {E : Env} : wantO A (restr E (looks A o)) o = wantO A E o := by
  unfold wantO
  cases hg : o.guard with
  | none => rfl
  | some q =>
    obtain ⟨g, wt⟩ := q
    simp only
    cases hx : (A[g]?).bind (·.dst) with
    | none => rfl
    | some x =>
      simp only [Option.bind_some]
      rw [restr_get, if_pos (guard_looks hg hx)]
theorem op1_restr {A : List Oper} {o : Oper} {E : Env} : op1 P (restr E (looks A o)) h o.op = op1 P E h o.op :=
  op1_congr fun t ht => by rw [restr_get, if_pos (tmps_looks ht)]
theorem St0.restr (d : DI P A n dn L pd env h listed a w ρ ρs hs ws e0 V EV BL ds) (G : Glob A n) {i : Nat} (hi : i < A.length) (hnd : ¬ Dn listed i) (hr : ∀ k, edge A i k → Dn listed k) {E : Env} (S : Snap A e0 V i E) : St0 ρ (Go.V.restr E (looks A (opAt A i))) h n a w := by
  refine ⟨d.rel, fun t v hv => ?_, d.asize⟩
  rw [restr_get] at hv
  split at hv
  · rename_i ht; exact d.snapA G hi hnd hr S t ht v hv
  · cases hv
theorem op1_noDefer {o : Oper} {E : Env} {h0 : Hp} {x : Val × Hp} (h : op1 P E h0 o.op = some x) : ∀ c, o.op ≠ .defer c := fun c e => by rw [e] at h; simp [op1] at h
theorem DI.late {F : Fence} (hF : FreeF F) (d : DI P A n dn L pd env h listed a w ρ ρs hs ws e0 V EV BL ds) (G : Glob A n) {i : Nat} (hi : i ∈ dn) (hnd : ¬ Dn listed i) (hr : ∀ k, edge A i k → Dn listed k) {K : Act → World → Prop} {Q : Exit → Act → World → Prop}
    (hK : ∀ a' w' ρ', DI P A n dn L pd env h (listed.setIfInBounds i true) a' w' ρ' ρs hs ws e0 V EV BL ds → K a' w') : wpOpIn F 0 P A.toArray Q i K a w := by
  have hil := d.dlt i hi
  have s := St0.restr d G hil hnd hr (d.snapD hi hnd)
  unfold wpOpIn
  simp only [List.getElem?_toArray, opAt_get hil]
  rcases d.again i hi hnd with ⟨q1, q2⟩ | ⟨q1, l⟩
  · rw [want_run s G.dst (by rw [want_restr]; exact q1)]
    simp only [Bool.false_eq_true, if_false]
    exact ⟨fun f _ => hF.fn f, hK _ _ ρ (d.done G hi hnd hr (Ren.le.refl _) d.rel d.ext (by rw [q2]; exact VR.none0) (fun j _ _ _ _ _ q _ => q))⟩
  · have q1' := q1
    rw [want_run s G.dst (by rw [want_restr]; exact q1)]
    simp only [if_true]
    have two : ∀ {v : Val}, op1 P (EV i) h (opAt A i).op = some (v, h) → V i = v → Oper.wpIn F 0 P (opAt A i) a w K Q := fun {v} ho hv => by
      have hdf := op1_noDefer ho
      rw [← op1_restr (A := A)] at ho
      obtain ⟨ρ', w', r, u, e1, e2, e3, e4, e5⟩ := sim_op1 (a := a) d.rel s.env ho
      unfold Oper.wpIn
      rw [Oper.semAt_eq _ _ _ hdf, e1]
      refine ⟨fun f _ => hF.fn f, putO_same _ _ e2 (hK _ _ ρ' (d.done G hi hnd hr e5.le e4 (d.ext.trans e5) (by rw [hv]; exact e3) (fun j _ _ _ _ _ q1 q2 => (e5.other _ q1 q2).1)))⟩
    cases l with
    | pure k1 k2 => exact two k2 rfl
    | read k1 k2 k3 => exact two k2 rfl
    | alloc vOf B h0 h0' k1 k2 k3 k4 k5 k6 k7 =>
      obtain ⟨w', u, f, r1, r2, r3, r4, r5⟩ := k2.run ρ w a s.env
      have hle := Ren.le_put (ρ := ρ) (b := BL i) f k5
      have hrel := d.rel.late k5 k7 k4 r2 r3 (r5 _ hle)
      have hext := d.ext.late k5 k6 r2 r3
      unfold Oper.wpIn
      rw [Oper.semAt_eq _ _ _ (fun c e => by rw [e] at k1; cases k1), r1]
      refine ⟨fun f _ => hF.fn f, hK _ _ (ρ.put (BL i) f) (d.done G hi hnd hr hle hrel hext (by rw [k3]; exact r4 _ _ (put_self _ _)) (fun j hj hjd hne hw hka q1 q2 => ?_))⟩
      unfold Ren.put
      rw [if_neg]
      · exact q1
      · intro e
        exact hne (d.inj j i hj hi hjd hnd hw q1' hka k1 e)
def upd {α : Type} (f : Nat → α) (i : Nat) (x : α) : Nat → α := fun j => if j = i then x else f j
theorem upd_self {α : Type} (f : Nat → α) (i : Nat) (x : α) : upd f i x i = x := by simp [upd]
theorem upd_ne {α : Type} (f : Nat → α) {i j : Nat} (x : α) (h : j ≠ i) : upd f i x j = f j := by simp [upd, h]
theorem DI.step {i : Nat} {L' : List Nat} (d : DI P A n dn (i :: L') pd env h listed a w ρ ρs hs ws e0 V EV BL ds) (G : Glob A n) {v : Val} {h' : Hp} {pd' : List Pend} (hh : h' = h ∨ ∃ B, h' = h.new B) (hpd : ∀ q, q ∈ pd → q ∈ pd')
    (hnew : (wantO A env (opAt A i) = some false ∧ v = .no ∧ h' = h) ∨ (wantO A env (opAt A i) = some true ∧ ((kindOf P (opAt A i).op = .pure ∧ op1 P env h' (opAt A i).op = some (v, h')) ∨ (kindOf P (opAt A i).op = .read ∧ op1 P env h' (opAt A i).op = some (v, h') ∧ (⟨i, (opAt A i).op, env, v⟩ : Pend) ∈ pd') ∨
      (kindOf P (opAt A i).op = .alloc ∧ op1 P env h (opAt A i).op = some (v, h'))))) :
    ∃ V' EV' BL', DI P A n (i :: dn) L' pd' (putO env (opAt A i).dst v) h' listed a w ρ ρs hs ws e0 V' EV' BL' ds := by
  obtain ⟨T, hord, _⟩ := okGo_at d.ord
  have hnd : ¬ Dn listed i := fun q => T.out (d.sub i q)
  have hne : ∀ j, j ∈ dn → j ≠ i := fun j hj e => T.out (e ▸ hj)
  have hwf : h.wf := d.rel.wf
  have hrel : Rel ρ h' w := by rcases hh with rfl | ⟨B, rfl⟩; exact d.rel; exact d.rel.extend B
  have hext : Ext ρs hs ws ρ h' w := by rcases hh with rfl | ⟨B, rfl⟩; exact d.ext; exact d.ext.extend d.rel B
  have hgp : ∀ t, (putO env (opAt A i).dst v).get t = if (opAt A i).dst = some t then some v else env.get t := fun t => by
    cases hd : (opAt A i).dst with
    | none => simp [putO]
    | some x =>
      simp only [putO, Go.V.T.get_set]
      by_cases e : t = x
      · subst e; simp
      · rw [if_neg e, if_neg (fun q => e (Option.some.inj q).symm)]
  have S := d.snapC G T
  refine ⟨upd V i v, upd EV i env, upd BL i h.next, d.size, fun j hj => ?_, hord, fun j hj => ?_, fun j hj => List.mem_cons_of_mem _ (d.sub j hj), d.closed, fun j hj k hk => ?_, fun pre j post hq k hk => ?_, hrel, d.defers, d.asize, hext, fun j hj t ht => ?_, fun t hno => ?_, fun j hj t ht => ?_, d.ae, fun j hj hjd k t hk hkd ht => ?_, fun j hj hjd t ht hno => ?_, fun j hj hjd => ?_, fun j k hj hk hjd hkd hwj hwk kj kk e => ?_⟩
  · rcases d.cover j hj with q | q
    · exact .inl (List.mem_cons_of_mem _ q)
    · rcases List.mem_cons.1 q with rfl | q
      · exact .inl (by simp)
      · exact .inr q
  · rcases List.mem_cons.1 hj with rfl | hj
    · exact T.lt
    · exact d.dlt j hj
  · rcases List.mem_cons.1 hj with rfl | hj
    · exact List.mem_cons_of_mem _ (T.edges k hk)
    · exact List.mem_cons_of_mem _ (d.cedge j hj k hk)
  · cases pre with
    | nil =>
      simp at hq
      obtain ⟨rfl, rfl⟩ := hq
      exact T.edges k hk
    | cons x pre =>
      simp at hq
      exact d.tail pre j post hq.2 k hk
  · rw [hgp]
    rcases List.mem_cons.1 hj with rfl | hj
    · rw [if_pos ht, upd_self]
    · rw [if_neg (G.uniq j i t (d.dlt j hj) T.lt (hne j hj) ht), upd_ne _ _ (hne j hj)]
      exact d.cv j hj t ht
  · rw [hgp, if_neg (hno i (by simp))]
    exact d.ce t fun j hj => hno j (List.mem_cons_of_mem _ hj)
  · have := hne j (d.sub j hj)
    rw [upd_ne _ _ this]
    exact d.av j hj t ht
  · rcases List.mem_cons.1 hj with rfl | hj
    · rw [upd_self]
      obtain ⟨s1, s2⟩ := S.sv k t hk hkd ht
      refine ⟨fun hb => ?_, s2⟩
      have hki : k ≠ j := fun e => T.out (anc_closed (D := (· ∈ dn)) d.cedge j j T.edges (e ▸ hb))
      rw [upd_ne _ _ hki]
      exact s1 hb
    · rw [upd_ne EV _ (hne j hj)]
      obtain ⟨s1, s2⟩ := d.sv j hj hjd k t hk hkd ht
      refine ⟨fun hb => ?_, s2⟩
      have hki : k ≠ i := fun e => T.out (anc_closed (D := (· ∈ dn)) d.cedge j i (d.cedge j hj) (e ▸ hb))
      rw [upd_ne _ _ hki]
      exact s1 hb
  · rcases List.mem_cons.1 hj with rfl | hj
    · rw [upd_self]; exact S.se t ht hno
    · rw [upd_ne _ _ (hne j hj)]; exact d.se j hj hjd t ht hno
  · rcases List.mem_cons.1 hj with rfl | hj
    · rw [upd_self, upd_self, upd_self]
      rcases hnew with ⟨q1, q2, _⟩ | ⟨q1, q2⟩
      · exact .inl ⟨q1, q2⟩
      · refine .inr ⟨q1, ?_⟩
        rcases q2 with ⟨k1, k2⟩ | ⟨k1, k2, k3⟩ | ⟨k1, k2⟩
        · exact .pure k1 k2
        · exact .read k1 k2 k3
        · obtain ⟨vOf, B, k⟩ := kind_alloc (env := restr env (looks A (opAt A j))) k1 (by rw [op1_restr]; exact k2)
          refine .alloc vOf B h h' k1 k k.val ?_ d.rel.free d.ext.next ?_
          · rw [k.heap, Hp.get_new, if_pos rfl]
          · rw [k.heap]; exact Nat.lt_succ_self _
    · rw [upd_ne _ _ (hne j hj), upd_ne _ _ (hne j hj), upd_ne _ _ (hne j hj)]
      rcases d.again j hj hjd with q | ⟨q, l⟩
      · exact .inl q
      · refine .inr ⟨q, ?_⟩
        cases l with
        | pure k1 k2 => exact .pure k1 ((kind_pure k1 k2).2 h')
        | read k1 k2 k3 =>
          refine .read k1 ?_ (hpd _ k3)
          rcases hh with rfl | ⟨B, rfl⟩
          · exact k2
          · exact (kind_read k1 k2).2 B hwf
        | alloc vOf B h0 h0' k1 k2 k3 k4 k5 k6 k7 =>
          refine .alloc vOf B h0 h0' k1 k2 k3 ?_ k5 k6 ?_
          · rcases hh with rfl | ⟨B, rfl⟩
            · exact k4
            · rw [Hp.get_new, if_neg (by omega)]; exact k4
          · rcases hh with rfl | ⟨B, rfl⟩
            · exact k7
            · exact Nat.lt_succ_of_lt k7
  · have old : ∀ m, m ∈ dn → ¬ Dn listed m → wantO A (EV m) (opAt A m) = some true → kindOf P (opAt A m).op = .alloc → BL m < h.next := fun m hm hmd hwm hkm => by
      rcases d.again m hm hmd with ⟨q, _⟩ | ⟨q, l⟩
      · rw [q] at hwm; cases hwm
      · cases l with
        | pure k1 _ => rw [hkm] at k1; cases k1
        | read k1 _ _ => rw [hkm] at k1; cases k1
        | alloc vOf B h0 h0' k1 k2 k3 k4 k5 k6 k7 => exact k7
    rcases List.mem_cons.1 hj with q1 | hj' <;> rcases List.mem_cons.1 hk with q2 | hk'
    · rw [q1, q2]
    · rw [q1, upd_self, upd_ne _ _ (hne k hk')] at e
      rw [upd_ne _ _ (hne k hk')] at hwk
      have := old k hk' hkd hwk kk; omega
    · rw [q2, upd_self, upd_ne _ _ (hne j hj')] at e
      rw [upd_ne _ _ (hne j hj')] at hwj
      have := old j hj' hjd hwj kj; omega
    · rw [upd_ne _ _ (hne j hj'), upd_ne _ _ (hne k hk')] at e
      rw [upd_ne _ _ (hne j hj')] at hwj
      rw [upd_ne _ _ (hne k hk')] at hwk
      exact d.inj j k hj' hk' hjd hkd hwj hwk kj kk e
end
end Go.V
namespace Go.V
set_option linter.unusedVariables false
set_option linter.unusedSectionVars false
set_option linter.unusedSimpArgs false
variable [Sy]
section
variable {P : Program} {A : List Oper} {n : Nat} {dn L : List Nat} {pd : List Pend} {env : Env} {h : Hp} {listed : Array Bool} {a : Act} {w : World} {ρ ρs : Ren} {hs : Hp} {ws : World} {e0 : Env} {V : Nat → Val} {EV : Nat → Env} {BL : Nat → Nat} {ds : List Deferred}
theorem DI.eff {i : Nat} {L' : List Nat} (d : DI P A n dn (i :: L') pd env h listed a w ρ ρs hs ws e0 V EV BL ds) (G : Glob A n) (hr : ∀ k, edge A i k → Dn listed k) {v : Val} {u : Value} {h' : Hp} {w' : World} {ρ' : Ren} (hst : Stays P A true i pd h') (hrel : Rel ρ' h' w') (hx : Ext ρ h w ρ' h' w') (hv : VR ρ' v u) :
    ∃ V', DI P A n (i :: dn) L' pd (putO env (opAt A i).dst v) h' (listed.setIfInBounds i true) (a.put (opAt A i).dst u) w' ρ' ρs hs ws e0 V' EV BL ds := by
  obtain ⟨T, hord, _⟩ := okGo_at d.ord
  have hnd : ¬ Dn listed i := fun q => T.out (d.sub i q)
  have hne : ∀ j, j ∈ dn → j ≠ i := fun j hj e => T.out (e ▸ hj)
  have hil : i < listed.size := by rw [d.size]; exact T.lt
  have hgp : ∀ t, (putO env (opAt A i).dst v).get t = if (opAt A i).dst = some t then some v else env.get t := fun t => by
    cases hd : (opAt A i).dst with
    | none => simp [putO]
    | some x =>
      simp only [putO, Go.V.T.get_set]
      by_cases e : t = x
      · subst e; simp
      · rw [if_neg e, if_neg (fun q => e (Option.some.inj q).symm)]
  have hput : ∀ t, (opAt A i).dst ≠ some t → (a.put (opAt A i).dst u).tmps.getD t undef = a.tmps.getD t undef := fun t ht => by
    cases hd : (opAt A i).dst with
    | none => rfl
    | some x =>
      simp only [Act.put, Array.getD_eq_getD_getElem?, Array.getElem?_setIfInBounds]
      rw [if_neg (fun e => ht (by rw [hd, e]))]
  have hself : ∀ t, (opAt A i).dst = some t → (a.put (opAt A i).dst u).tmps.getD t undef = u := fun t ht => by
    rw [ht]
    simp only [Act.put, Array.getD_eq_getD_getElem?, Array.getElem?_setIfInBounds]
    simp only [if_true]
    rw [if_pos (by rw [d.asize]; exact dst_lt G.dst T.lt t ht)]
    rfl
  have hcase : ∀ j, j ∈ i :: dn → ¬ Dn (listed.setIfInBounds i true) j → j ∈ dn ∧ ¬ Dn listed j := fun j hj hjd => by
    have h1 : j ≠ i := fun e => hjd ((Dn_set hil).2 (.inl e))
    rcases List.mem_cons.1 hj with q | q
    · exact absurd q h1
    · exact ⟨q, fun x => hjd ((Dn_set hil).2 (.inr x))⟩
  refine ⟨upd V i v, by simp [d.size], fun j hj => ?_, hord, fun j hj => ?_, fun j hj => ?_, fun j hj k hk => ?_, fun j hj k hk => ?_, fun pre j post hq k hk => ?_, hrel, ?_, ?_, d.ext.trans hx, fun j hj t ht => ?_, fun t hno => ?_, fun j hj t ht => ?_, fun t x hno hx0 => ?_, fun j hj hjd k t hk hkd ht => ?_, fun j hj hjd t ht hno => ?_, fun j hj hjd => ?_, fun j k hj hk hjd hkd => ?_⟩
  · rcases d.cover j hj with q | q
    · exact .inl (List.mem_cons_of_mem _ q)
    · rcases List.mem_cons.1 q with rfl | q
      · exact .inl (by simp)
      · exact .inr q
  · rcases List.mem_cons.1 hj with rfl | hj
    · exact T.lt
    · exact d.dlt j hj
  · rcases (Dn_set hil).1 hj with rfl | hj
    · simp
    · exact List.mem_cons_of_mem _ (d.sub j hj)
  · rcases (Dn_set hil).1 hj with rfl | hj
    · exact (Dn_set hil).2 (.inr (hr k hk))
    · exact (Dn_set hil).2 (.inr (d.closed j hj k hk))
  · rcases List.mem_cons.1 hj with rfl | hj
    · exact List.mem_cons_of_mem _ (T.edges k hk)
    · exact List.mem_cons_of_mem _ (d.cedge j hj k hk)
  · cases pre with
    | nil =>
      simp at hq
      obtain ⟨rfl, rfl⟩ := hq
      exact T.edges k hk
    | cons x pre =>
      simp at hq
      exact d.tail pre j post hq.2 k hk
  · cases (opAt A i).dst <;> simp [Act.put, d.defers]
  · cases (opAt A i).dst <;> simp [Act.put, d.asize]
  · rw [hgp]
    rcases List.mem_cons.1 hj with rfl | hj
    · rw [if_pos ht, upd_self]
    · rw [if_neg (G.uniq j i t (d.dlt j hj) T.lt (hne j hj) ht), upd_ne _ _ (hne j hj)]
      exact d.cv j hj t ht
  · rw [hgp, if_neg (hno i (by simp))]
    exact d.ce t fun j hj => hno j (List.mem_cons_of_mem _ hj)
  · rcases (Dn_set hil).1 hj with rfl | hj
    · rw [hself t ht, upd_self]; exact hv
    · have hn := hne j (d.sub j hj)
      rw [hput t (fun e => G.uniq i j t T.lt (d.dlt j (d.sub j hj)) (fun q => hn q.symm) e ht), upd_ne _ _ hn]
      exact (d.av j hj t ht).mono hx.le
  · rw [hput t (hno i ((Dn_set hil).2 (.inl rfl)))]
    exact (d.ae t x (fun j hj => hno j ((Dn_set hil).2 (.inr hj))) hx0).mono hx.le
  · obtain ⟨hj', hjd'⟩ := hcase j hj hjd
    obtain ⟨s1, s2⟩ := d.sv j hj' hjd' k t hk hkd ht
    refine ⟨fun hb => ?_, s2⟩
    have hki : k ≠ i := fun e => T.out (anc_closed (D := (· ∈ dn)) d.cedge j i (d.cedge j hj') (e ▸ hb))
    rw [upd_ne _ _ hki]
    exact s1 hb
  · obtain ⟨hj', hjd'⟩ := hcase j hj hjd
    exact d.se j hj' hjd' t ht hno
  · obtain ⟨hj', hjd'⟩ := hcase j hj hjd
    rw [upd_ne _ _ (hne j hj')]
    rcases d.again j hj' hjd' with q | ⟨q, l⟩
    · exact .inl q
    · refine .inr ⟨q, ?_⟩
      cases l with
      | pure k1 k2 => exact .pure k1 ((kind_pure k1 k2).2 h')
      | read k1 k2 k3 =>
        refine .read k1 (hst rfl _ k3 ?_) k3
        cases hb : ((ancs A []).getD i 0).testBit j with
        | false => rfl
        | true => exact absurd (anc_closed d.closed i j hr hb) hjd'
      | alloc vOf B h0 h0' k1 k2 k3 k4 k5 k6 k7 =>
        obtain ⟨p, q'⟩ := hx.other _ k5 k7
        exact .alloc vOf B h0 h0' k1 k2 k3 (q'.trans k4) p k6 (Nat.lt_of_lt_of_le k7 hx.next)
  · obtain ⟨hj', hjd'⟩ := hcase j hj hjd
    obtain ⟨hk', hkd'⟩ := hcase k hk hkd
    exact d.inj j k hj' hk' hjd' hkd'
def unl (listed : Array Bool) : Nat → Nat
  | 0 => 0
  | m + 1 => unl listed m + if listed.getD m false then 0 else 1
theorem unl_zero : ∀ m, unl listed m = 0 → ∀ i, i < m → Dn listed i := by
  intro m
  induction m with
  | zero => intro _ i h; omega
  | succ m ih =>
    intro h i hi
    simp only [unl] at h
    by_cases he : i = m
    · subst he
      unfold Dn
      cases hq : listed.getD i false with
      | true => rfl
      | false => rw [hq] at h; simp at h
    · exact ih (by omega) i (by omega)
theorem unl_ge {i : Nat} (hi : i < listed.size) : ∀ m, m ≤ i → unl (listed.setIfInBounds i true) m = unl listed m := by
  intro m
  induction m with
  | zero => intro _; rfl
  | succ m ih =>
    intro h
    simp only [unl, ih (by omega)]
    congr 1
    have : (listed.setIfInBounds i true).getD m false = listed.getD m false := by
      rw [Array.getD_eq_getD_getElem?, Array.getElem?_setIfInBounds, if_neg (by omega), Array.getD_eq_getD_getElem?]
    rw [this]
theorem unl_set {i : Nat} (hi : i < listed.size) (hn : ¬ Dn listed i) : ∀ m, i < m → unl (listed.setIfInBounds i true) m + 1 = unl listed m := by
  intro m
  induction m with
  | zero => intro h; omega
  | succ m ih =>
    intro h
    simp only [unl]
    by_cases he : i = m
    · subst he
      rw [unl_ge hi i (Nat.le_refl _)]
      have h1 : (listed.setIfInBounds i true).getD i false = true := (Dn_set hi).2 (.inl rfl)
      have h2 : listed.getD i false = false := by
        cases hq : listed.getD i false with
        | false => rfl
        | true => exact absurd hq hn
      rw [h1, h2]; simp
    · have : (listed.setIfInBounds i true).getD m false = listed.getD m false := by
        rw [Array.getD_eq_getD_getElem?, Array.getElem?_setIfInBounds, if_neg he, Array.getD_eq_getD_getElem?]
      rw [this, ← ih (by omega)]
      omega
theorem ready_iff {i : Nat} (hs : listed.size = A.length) : i ∈ Region.ready .any A.toArray listed ↔ i < A.length ∧ ¬ Dn listed i ∧ ∀ k, edge A i k → Dn listed k := by
  unfold Region.ready
  rw [List.mem_filter, List.mem_range]
  simp only [List.size_toArray, List.getElem?_toArray]
  constructor
  · rintro ⟨h1, h2⟩
    rw [opAt_get h1] at h2
    simp only [Option.map_some, Option.getD_some, Bool.and_eq_true, Bool.not_eq_true'] at h2
    refine ⟨h1, fun q => ?_, fun k ⟨e, he, hb, hk⟩ => ?_⟩
    · have : listed.getD i true = listed.getD i false := by
        simp [Array.getD_eq_getD_getElem?, hs, h1]
      unfold Dn at q
      rw [← this, h2.1] at q; cases q
    · have := (Array.all_eq_true_iff_forall_mem.1 h2.2) e (by simpa using he)
      rw [hb] at this
      simp at this
      rw [← hk]
      unfold Dn
      rw [Array.getD_eq_getD_getElem?]
      simpa using this
  · rintro ⟨h1, h2, h3⟩
    refine ⟨h1, ?_⟩
    rw [opAt_get h1]
    simp only [Option.map_some, Option.getD_some, Bool.and_eq_true, Bool.not_eq_true']
    refine ⟨?_, Array.all_eq_true_iff_forall_mem.2 fun e he => ?_⟩
    · have : listed.getD i true = listed.getD i false := by
        simp [Array.getD_eq_getD_getElem?, hs, h1]
      rw [this]
      cases hq : listed.getD i false with
      | false => rfl
      | true => exact absurd hq h2
    · cases hb : Region.binds .any e with
      | false => rfl
      | true =>
        have := h3 e.on ⟨e, by simpa using he, hb, rfl⟩
        unfold Dn at this
        simpa using this
theorem DI.all (d : DI P A n dn L pd env h listed a w ρ ρs hs ws e0 V EV BL ds) (hno : ∀ i, i < A.length → ¬ Dn listed i → ¬ ∀ k, edge A i k → Dn listed k) : L = [] ∧ ∀ i, i < A.length → Dn listed i := by
  have h1 : ∀ (post pre : List Nat), dn = pre ++ post → ∀ j, j ∈ post → Dn listed j := by
    intro post
    induction post with
    | nil => intro pre _ j hj; cases hj
    | cons x post ih =>
      intro pre hq j hj
      have ih' := ih (pre ++ [x]) (by rw [hq]; simp)
      rcases List.mem_cons.1 hj with e | hj
      · subst e
        apply Classical.byContradiction
        intro hnd
        exact hno j (d.dlt j (by rw [hq]; simp)) hnd fun k hk => ih' k (d.tail pre j post hq k hk)
      · exact ih' j hj
  have h2 := h1 dn [] rfl
  have hL : L = [] := by
    cases L with
    | nil => rfl
    | cons i L =>
      obtain ⟨T, _, _⟩ := okGo_at d.ord
      exact absurd (fun k hk => h2 k (T.edges k hk)) (hno i T.lt (fun q => T.out (d.sub i q)))
  refine ⟨hL, fun i hi => ?_⟩
  rcases d.cover i hi with q | q
  · exact h2 i q
  · rw [hL] at q; cases q
theorem DI.run {F : Fence} (hF : FreeF F) (G : Glob A n) {Q' : Exit → Act → World → Prop} (hend : L = [] → ∀ listed a w ρ, DI P A n dn L pd env h listed a w ρ ρs hs ws e0 V EV BL ds → (∀ i, i < A.length → Dn listed i) → Q' .normal a w)
    (hhead : ∀ i L', L = i :: L' → ∀ listed a w ρ fuel, DI P A n dn L pd env h listed a w ρ ρs hs ws e0 V EV BL ds → unl (listed.setIfInBounds i true) A.length ≤ fuel → (∀ k, edge A i k → Dn listed k) → wpOpIn F 0 P A.toArray Q' i (wpAnyIn F 0 P .any A.toArray Q' fuel (listed.setIfInBounds i true)) a w)
    (hafter : ∀ i L', L = i :: L' → ∀ r, r ∈ L' → ancB A r i) :
    ∀ (fuel : Nat) listed a w ρ, DI P A n dn L pd env h listed a w ρ ρs hs ws e0 V EV BL ds → unl listed A.length ≤ fuel → wpAnyIn F 0 P .any A.toArray Q' fuel listed a w := by
  have hfin : ∀ listed a w ρ, DI P A n dn L pd env h listed a w ρ ρs hs ws e0 V EV BL ds → Region.ready .any A.toArray listed = [] → Q' .normal a w := fun listed a w ρ d hr => by
    obtain ⟨q1, q2⟩ := d.all fun i hi hnd hk => by
      have : i ∈ Region.ready .any A.toArray listed := (ready_iff d.size).2 ⟨hi, hnd, hk⟩
      rw [hr] at this; cases this
    exact hend q1 listed a w ρ d q2
  intro fuel
  induction fuel with
  | zero =>
    intro listed a w ρ d hu
    have hall := unl_zero (listed := listed) A.length (by omega)
    have hr : Region.ready .any A.toArray listed = [] := by
      apply List.eq_nil_iff_forall_not_mem.2
      intro i hi
      obtain ⟨h1, h2, _⟩ := (ready_iff d.size).1 hi
      exact h2 (hall i h1)
    exact ⟨hr, hfin listed a w ρ d hr⟩
  | succ fuel ih =>
    intro listed a w ρ d hu
    refine ⟨hfin listed a w ρ d, fun i hi => ?_⟩
    obtain ⟨h1, h2, h3⟩ := (ready_iff d.size).1 hi
    have hu' : unl (listed.setIfInBounds i true) A.length ≤ fuel := by
      have := unl_set (by rw [d.size]; exact h1) h2 A.length h1
      omega
    rcases d.cover i h1 with q | q
    · exact d.late hF G q h2 h3 fun a' w' ρ' d' => ih _ a' w' ρ' d' hu'
    · cases hL : L with
      | nil => rw [hL] at q; cases q
      | cons i0 L' =>
        rw [hL] at q
        rcases List.mem_cons.1 q with rfl | q
        · exact hhead i L' hL listed a w ρ fuel d hu' h3
        · have hb := hafter i0 L' hL i q
          have hD := anc_closed d.closed i i0 h3 hb
          have hord := d.ord
          rw [hL] at hord
          exact absurd (d.sub i0 hD) (okGo_at hord).1.out
end
end Go.V
