/- What is known otherwise: the order of bytes, rows apart, the table of sums, what wakes. -/
import Derived.Test.YtddopjjmpadnoaaGreatH8
import Derived.Test.YtddopjjmpadnoaaGreatH9
namespace Go.V
set_option linter.unusedVariables false
set_option linter.unusedSectionVars false
set_option linter.unusedSimpArgs false
open Go.Proofs
set_option maxRecDepth 100000
theorem crc_ev : isV crcT (callF (fun _ => none) T0 300 374 [] ⟨0, .lf⟩) = true := by kernel_rfl
theorem wakes_ev : isV (.b true) (callF X T0 300 10 [] ⟨0, .lf⟩) = true := by kernel_rfl
theorem al_ok : alOk Pg al := by
  intro g z h
  unfold al alz at h
  cases h1 : Nat.beq 321 g with
  | true =>
    rw [h1] at h
    obtain rfl := Nat.eq_of_beq_eq_true h1
    obtain rfl : 1 = z := Option.some.inj h
    exact ⟨31, 3, 4, 415, 5, ⟨⟨_, Tryz.func321, by kernel_rfl, rfl, rfl, by decide⟩, ⟨5, by kernel_rfl⟩, by kernel_rfl, by kernel_rfl, by kernel_rfl, by kernel_rfl, by kernel_rfl⟩, by kernel_rfl, by kernel_rfl⟩
  | false =>
    rw [h1] at h
    unfold alz at h
    cases h2 : Nat.beq 173 g with
    | true =>
      simp only [cond_false, h2, cond_true] at h
      obtain rfl := Nat.eq_of_beq_eq_true h2
      obtain rfl : 37 = z := Option.some.inj h
      exact ⟨82, 3, 4, 290, 94, ⟨⟨_, Tryz.func173, by kernel_rfl, rfl, rfl, by decide⟩, ⟨94, by kernel_rfl⟩, by kernel_rfl, by kernel_rfl, by kernel_rfl, by kernel_rfl, by kernel_rfl⟩, by kernel_rfl, by kernel_rfl⟩
    | false =>
      simp only [cond_false, h2, alz] at h
      cases h
variable [Sy]
theorem HT : ∀ g ff, T.atN g T0 = some ff → ∃ D, rFn Pg D al g = some ff := mkR_ok T0_eq fns_ok
theorem crc_xw : XW Pg KNone (.call 374 [] Hp.empty) fun o => ∃ h', o = .call crcT h' := by
  obtain ⟨fh, e⟩ := isV_ok crc_ev
  exact (fast_ok (X := fun _ => none) (fun g x hx => by cases hx) al_ok HT 300 374 [] ⟨0, .lf⟩ Hp.empty crcT fh RH.empty e).mono fun o ⟨h', e, _⟩ => ⟨h', e⟩
def clc : List (FuncId × Val) := [(374, crcT)]
def clw : List (FuncId × Val) := [(10, .b true)]
def K0 : Tb := fun f args h M => KExt Pg f args h M ∨ KLap Pg f args h M ∨ KFix clc f args h M
theorem K0_ok : KOk Pg K0 := Tb.or KExt_ok (Tb.or KLap_ok (KFix_ok KNone_ok fun f v hm => by
  simp only [clc, List.mem_singleton, Prod.mk.injEq] at hm
  obtain ⟨rfl, rfl⟩ := hm
  exact ⟨by kernel_rfl, crc_xw⟩))
theorem X_known {K : Tb} (hK : ∀ f args h M, K0 f args h M → K f args h M) : KnownS Pg K X := by
  intro g x hx args fh h v fh' R q
  unfold X at hx
  have lap : (∃ fn t tr e z, Pg.funcs[g]? = some fn ∧ (fn.name == "runtime.NumGoroutine") = false ∧ fn.body.isNone = true ∧ Extern.findNext fn = none ∧ Extern.find fn = some (Extern.SlicesOverlaps.overlaps #[t, t] #[tr]) ∧ Pg.underlying t = some (.slice e) ∧ sz Pg e = some z) → lapF args fh = some (v, fh') → CallJ Pg K g args h v fh' :=
    fun H q => lap_ok g H (fun _ _ _ h => hK _ _ _ _ (.inr (.inl h))) R q
  cases h1 : Nat.blt g 214 with
  | true => rw [h1] at hx; cases hx
  | false =>
    rw [h1] at hx
    cases h2 : Nat.blt g 300 with
    | true =>
      rw [h2] at hx
      cases h3 : Nat.beq g 214 with
      | false => rw [h3] at hx; cases hx
      | true =>
        rw [h3] at hx
        obtain rfl := Option.some.inj hx
        obtain rfl := Nat.eq_of_beq_eq_true h3
        exact cmp_ok 214 ⟨_, Tryz.func214, rfl, rfl, rfl, rfl⟩ (fun _ _ _ h => hK _ _ _ _ (.inl h)) R q
    | false =>
      rw [h2] at hx
      cases h3 : Nat.beq g 374 with
      | true =>
        rw [h3] at hx
        obtain rfl := Option.some.inj hx
        obtain rfl := Nat.eq_of_beq_eq_true h3
        exact fix_ok 374 crcT (fun h M hm => hK _ _ _ _ (.inr (.inr ⟨crcT, by simp [clc], rfl, hm⟩))) R q
      | false =>
        rw [h3] at hx
        cases h4 : (Nat.beq g 310 || (Nat.beq g 356 || Nat.beq g 376)) with
        | false => rw [h4] at hx; cases hx
        | true =>
          rw [h4] at hx
          obtain rfl := Option.some.inj hx
          simp only [Bool.or_eq_true] at h4
          rcases h4 with h4 | h4 | h4
          · obtain rfl := Nat.eq_of_beq_eq_true h4
            exact lap ⟨_, _, _, 89, 35, Tryz.func310, rfl, rfl, rfl, rfl, by kernel_rfl, by kernel_rfl⟩ q
          · obtain rfl := Nat.eq_of_beq_eq_true h4
            exact lap ⟨_, _, _, 106, 3, Tryz.func356, rfl, rfl, rfl, rfl, by kernel_rfl, by kernel_rfl⟩ q
          · obtain rfl := Nat.eq_of_beq_eq_true h4
            exact lap ⟨_, _, _, 190, 4, Tryz.func376, rfl, rfl, rfl, rfl, by kernel_rfl, by kernel_rfl⟩ q
theorem wakes_xw : XW Pg K0 (.call 10 [] Hp.empty) fun o => ∃ h', o = .call (.b true) h' := by
  obtain ⟨fh, e⟩ := isV_ok wakes_ev
  exact (fast_ok (X_known fun _ _ _ _ h => h) al_ok HT 300 10 [] ⟨0, .lf⟩ Hp.empty (.b true) fh RH.empty e).mono fun o ⟨h', e, _⟩ => ⟨h', e⟩
def K1 : Tb := fun f args h M => K0 f args h M ∨ KFix clw f args h M
theorem K1_ok : KOk Pg K1 := Tb.or K0_ok (KFix_ok K0_ok fun f v hm => by
  simp only [clw, List.mem_singleton, Prod.mk.injEq] at hm
  obtain ⟨rfl, rfl⟩ := hm
  exact ⟨rfl, wakes_xw⟩)
theorem X1_known : KnownS Pg K1 X1 := by
  intro g x hx args fh h v fh' R q
  unfold X1 at hx
  cases h1 : Nat.beq g 10 with
  | true =>
    rw [h1] at hx
    obtain rfl := Option.some.inj hx
    obtain rfl := Nat.eq_of_beq_eq_true h1
    exact fix_ok 10 (.b true) (fun h M hm => .inr ⟨.b true, by simp [clw], rfl, hm⟩) R q
  | false =>
    rw [h1] at hx
    exact X_known (fun _ _ _ _ h => .inl h) g x hx args fh h v fh' R q
theorem cX_ok : CallS Pg K1 cX := fast_ok X1_known al_ok HT 300
theorem rngs_ok : ∀ D n, RngS Pg K1 D cX al n := fun D n => rng_ok al_ok
end Go.V
