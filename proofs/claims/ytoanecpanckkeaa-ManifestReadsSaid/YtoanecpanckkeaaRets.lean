/- Results that lie in memory. -/
import Derived.Test.YtoanecpanckkeaaIds
namespace Go.Wk
open Go.RowKit
set_option linter.unusedVariables false

/-- the results' values, of which some lie in boxes -/
def OutsM (P : Program) (l : Env) (w : World) : List ResultVar → List Value → Prop
  | [], [] => True
  | .tmp t :: r, v :: vs => look l t = some v ∧ OutsM P l w r vs
  | .cell x t :: r, v :: vs => (∃ a : Addr, look l x = some (.pointer (some a)) ∧ (loadVar t a).run P w = .ok v w) ∧ OutsM P l w r vs
  | _, _ => False
section
variable {P : Program} {fn : Func} {k : Kont} {l : Env} {w : World}
theorem outsM_run {n : Nat} {a : Act} (ha : Slots l n a) (f : ResultVar → Sem Value) (hf : ∀ t, f (.tmp t) = pure (a.tmps.getD t undef)) (hg : ∀ x t, f (.cell x t) = do loadVar t (← asAddr (a.tmps.getD x undef))) :
    ∀ (rs : List ResultVar) (vs : List Value), OutsM P l w rs vs → (rs.mapM f).run P w = .ok vs w := by
  intro rs
  induction rs with
  | nil => intro vs h; cases vs with
    | nil => simp
    | cons v vs => exact h.elim
  | cons r rs ih =>
    intro vs h
    cases vs with
    | nil => cases r <;> exact h.elim
    | cons v vs =>
      cases r with
      | tmp t =>
        obtain ⟨h1, h2⟩ := h
        simp only [List.mapM_cons, Sem.run_bind, Sem.run_pure, Result.andThen_ok, ih vs h2, hf, ha.at_ t v h1]
      | cell x t =>
        obtain ⟨⟨ad, h1, h3⟩, h2⟩ := h
        have h4 := ha.at_ x _ h1
        simp only [List.mapM_cons, Sem.run_bind, Sem.run_pure, Result.andThen_ok, hg, h4, asAddr, h3, ih vs h2]
theorem C_retM {rs : List ResultVar} (hrs : fn.results = rs.toArray) {vs : List Value} (hv : OutsM P l w rs vs) (hR : k.final (asOne vs) w) : C P fn k .ret l w :=
  C_ret_run (fun a ha => by
    unfold results
    rw [hrs, Sem.run_bind]
    rw [List.mapM_toArray, Sem.run_map]
    rw [outsM_run (P := P) (w := w) ha _ (fun t => rfl) (fun x t => rfl) rs vs hv]
    simp only [Result.andThen_ok, Sem.run_pure]
    match vs with
    | [] => simp [asOne]
    | [v] => simp [asOne]
    | v :: u :: r => simp [asOne]) hR
variable {X : List Nat} {w0 : World} {F0 F : Frz} {L : List Ob}
theorem box_out {t e : TypeId} {g : Nat} {cs : List Value} {v : Value} (i : Nat) (ht : aggType (P.underlying t) = true) (hi' : (P.info? t).map (·.size) = some cs.length) (hS : St X w0 F0 F L w) (hi : L[i]? = some (.box g e cs)) (hv : v = pl g 0) :
    ∃ a : Addr, some v = some (.pointer (some a)) ∧ (loadVar t a).run P w = .ok (.agg cs.toArray) w := by
  have hb : w.heap[g]? = some (.cells cs.toArray e (0, 0)) := hS.ok hi
  refine ⟨⟨g, 0, none⟩, by rw [hv]; rfl, ?_⟩
  exact run_loadVar_agg (P := P) (w := w) (a := ⟨g, 0, none⟩) ht hi' (fun q u hq => by
    rw [Addr.add_lit, cell_hc]
    simp [hc, hb, hq])
end
end Go.Wk
