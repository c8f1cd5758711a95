/- The law's own text, walked. -/
import Derived.Test.YtddopjjmpadnoaaGreatJ6
import Derived.Test.YtddopjjmpadnoaaGreatJ0
import Derived.Test.YtddopjjmpadnoaaGreatJ1
import Derived.Test.YtddopjjmpadnoaaGreatJ2
import Derived.Test.YtddopjjmpadnoaaGreatJ3
namespace Go.V
set_option linter.unusedVariables false
set_option linter.unusedSectionVars false
set_option linter.unusedSimpArgs false
open Go.Proofs
set_option maxRecDepth 100000
def sL : Code → Code
  | .seq a _ => a
  | c => c
def sR : Code → Code
  | .seq _ b => b
  | c => c
noncomputable def body3 : Code := match Tryz.f3.body with
  | some c => c
  | none => .skip
noncomputable def q0 : Code := sL body3
noncomputable def q1 : Code := sL (sR body3)
noncomputable def q2 : Code := sL (sR (sR body3))
noncomputable def q3 : Code := sL (sR (sR (sR body3)))
noncomputable def q4 : Code := sL (sR (sR (sR (sR body3))))
noncomputable def q5 : Code := sL (sR (sR (sR (sR (sR body3)))))
noncomputable def q6 : Code := sL (sR (sR (sR (sR (sR (sR body3))))))
noncomputable def q7 : Code := sR (sR (sR (sR (sR (sR (sR body3))))))
theorem body_eq : Tryz.f3.body = some (.seq q0 (.seq q1 (.seq q2 (.seq q3 (.seq q4 (.seq q5 (.seq q6 q7))))))) := by kernel_rfl
theorem ntmps_eq : Tryz.f3.ntmps = 78 := by kernel_rfl
theorem q2_ok : rC Pg [] al 78 q2 = some x2 ∧ noRng q2 = true := ⟨by kernel_rfl, by kernel_rfl⟩
theorem q3_ok : rC Pg [] al 78 q3 = some x3 ∧ noRng q3 = true := ⟨by kernel_rfl, by kernel_rfl⟩
theorem q4_ok : rC Pg [] al 78 q4 = some x4 ∧ noRng q4 = true := ⟨by kernel_rfl, by kernel_rfl⟩
theorem q5_ok : rC Pg [] al 78 q5 = some x5 ∧ noRng q5 = true := ⟨by kernel_rfl, by kernel_rfl⟩
theorem q7_ok : rC Pg [] al 78 q7 = some x7 ∧ noRng q7 = true := ⟨by kernel_rfl, by kernel_rfl⟩
def see6 (o : Option Out) : Option (Option Val × Option Val × Hp) := o.bind fun o => match o with
  | .code .nrm e h => some (e.get 6, e.get 8, h)
  | _ => none
theorem q6_ev (m : Int) (r : Val) (h : Hp) : see6 (evJ Pg 20 (.code 78 q6 (((.lf : T Val).set 1 (.i .i64 m)).set 6 r) h)) = some (some r, some (.i .i64 (kOf m)), h) := by kernel_rfl
theorem q6_ok : noRng q6 = true ∧ ∀ m r h, ∃ e', evJ Pg 20 (.code 78 q6 (((.lf : T Val).set 1 (.i .i64 m)).set 6 r) h) = some (.code .nrm e' h) ∧ e'.get 6 = some r ∧ e'.get 8 = some (.i .i64 (kOf m)) := ⟨by kernel_rfl, fun m r h => by
  have q := q6_ev m r h
  generalize evJ Pg 20 (.code 78 q6 (((.lf : T Val).set 1 (.i .i64 m)).set 6 r) h) = o at q
  cases o with
  | none => cases q
  | some o =>
    cases o with
    | call v h => cases q
    | code x e' h' =>
      cases x with
      | ext i => cases q
      | ret => cases q
      | nrm =>
        have q' := Option.some.inj q
        simp only [Prod.mk.injEq] at q'
        obtain ⟨g1, g2, rfl⟩ := q'
        exact ⟨e', rfl, g1, g2⟩⟩
def cfgI (a0 a1 a2 a3 a4 a5 a6 : Int) : List Val := [.i .i64 (sm 225 32 a0), .i .i64 (sm 397 4 a1), .i .i64 (sm 4 1 a2), .i .i64 (rem64 3 a3), .i .i64 (sm 3 1 a4), .i .i64 (rem64 3000 a5), .i .i64 (sm 20 1 a6)]
def args0 (a0 a1 a2 a3 a4 a5 a6 m : Int) : List Val := [.agg [.i .i64 a0, .i .i64 a1, .i .i64 a2, .i .i64 a3, .i .i64 a4, .i .i64 a5, .i .i64 a6], .i .i64 m]
def see2 (o : Option Out) : Option (Option Val × Option Val × Option Blk) := o.bind fun o => match o with
  | .code .nrm e h => some (e.get 1, e.get 2, h.get 0)
  | _ => none
def at1 (o : Option Out) : Option (Env × Hp) := o.bind fun o => match o with
  | .code .nrm e h => some (e, h)
  | _ => none
theorem q01_ev (a0 a1 a2 a3 a4 a5 a6 m : Int) : ((at1 (evJ Pg 20 (.code 78 q0 (argE 0 (args0 a0 a1 a2 a3 a4 a5 a6 m) .lf) Hp.empty))).bind fun p => see2 (evJ Pg 90 (.code 78 q1 p.1 p.2))) = some (some (.i .i64 m), some (.p (some (0, 0))), some (.cells 7 (cfgI a0 a1 a2 a3 a4 a5 a6))) := by kernel_rfl
theorem at1_ok {o : Option Out} {p : Env × Hp} (h : at1 o = some p) : o = some (.code .nrm p.1 p.2) := by
  cases o with
  | none => cases h
  | some o =>
    cases o with
    | call v h => cases h
    | code x e h' => cases x <;> cases h; rfl
theorem see2_ok {o : Option Out} {a b : Option Val} {c : Option Blk} (h : see2 o = some (a, b, c)) : ∃ e h', o = some (.code .nrm e h') ∧ e.get 1 = a ∧ e.get 2 = b ∧ h'.get 0 = c := by
  cases o with
  | none => cases h
  | some o =>
    cases o with
    | call v h => cases h
    | code x e h' =>
      cases x with
      | ext i => cases h
      | ret => cases h
      | nrm =>
        have q' := Option.some.inj h
        simp only [Prod.mk.injEq] at q'
        exact ⟨e, h', rfl, q'.1, q'.2.1, q'.2.2⟩
theorem q01_ok (a0 a1 a2 a3 a4 a5 a6 m : Int) : ∃ e1 h1 e2 h2, evJ Pg 20 (.code 78 q0 (argE 0 (args0 a0 a1 a2 a3 a4 a5 a6 m) .lf) Hp.empty) = some (.code .nrm e1 h1) ∧ evJ Pg 90 (.code 78 q1 e1 h1) = some (.code .nrm e2 h2) ∧ e2.get 1 = some (.i .i64 m) ∧ e2.get 2 = some (.p (some (0, 0))) ∧ h2.get 0 = some (.cells 7 (cfgI a0 a1 a2 a3 a4 a5 a6)) := by
  obtain ⟨p, h1, h2⟩ := Option.bind_eq_some_iff.1 (q01_ev a0 a1 a2 a3 a4 a5 a6 m)
  obtain ⟨e, h', g1, g2, g3, g4⟩ := see2_ok h2
  exact ⟨p.1, p.2, e, h', at1_ok h1, g1, g2, g3, g4⟩
theorem A_all : ∀ p c d : Nat, p < 4 → c < 3 → d < 3 → tA p c d = true := by
  intro p c d hp hc hd
  match p, c, d, hp, hc, hd with
  | 0, 0, 0, _, _, _ => exact a000
  | 0, 0, 1, _, _, _ => exact a001
  | 0, 0, 2, _, _, _ => exact a002
  | 0, 1, 0, _, _, _ => exact a010
  | 0, 1, 1, _, _, _ => exact a011
  | 0, 1, 2, _, _, _ => exact a012
  | 0, 2, 0, _, _, _ => exact a020
  | 0, 2, 1, _, _, _ => exact a021
  | 0, 2, 2, _, _, _ => exact a022
  | 1, 0, 0, _, _, _ => exact a100
  | 1, 0, 1, _, _, _ => exact a101
  | 1, 0, 2, _, _, _ => exact a102
  | 1, 1, 0, _, _, _ => exact a110
  | 1, 1, 1, _, _, _ => exact a111
  | 1, 1, 2, _, _, _ => exact a112
  | 1, 2, 0, _, _, _ => exact a120
  | 1, 2, 1, _, _, _ => exact a121
  | 1, 2, 2, _, _, _ => exact a122
  | 2, 0, 0, _, _, _ => exact a200
  | 2, 0, 1, _, _, _ => exact a201
  | 2, 0, 2, _, _, _ => exact a202
  | 2, 1, 0, _, _, _ => exact a210
  | 2, 1, 1, _, _, _ => exact a211
  | 2, 1, 2, _, _, _ => exact a212
  | 2, 2, 0, _, _, _ => exact a220
  | 2, 2, 1, _, _, _ => exact a221
  | 2, 2, 2, _, _, _ => exact a222
  | 3, 0, 0, _, _, _ => exact a300
  | 3, 0, 1, _, _, _ => exact a301
  | 3, 0, 2, _, _, _ => exact a302
  | 3, 1, 0, _, _, _ => exact a310
  | 3, 1, 1, _, _, _ => exact a311
  | 3, 1, 2, _, _, _ => exact a312
  | 3, 2, 0, _, _, _ => exact a320
  | 3, 2, 1, _, _, _ => exact a321
  | 3, 2, 2, _, _, _ => exact a322
theorem B_all : ∀ v : Nat, v < 6 → tB (v + 1) = true := by
  intro v hv
  match v, hv with
  | 0, _ => exact b1
  | 1, _ => exact b2
  | 2, _ => exact b3
  | 3, _ => exact b4
  | 4, _ => exact b5
  | 5, _ => exact b6
theorem C_all : ∀ v k : Nat, v < 6 → k < 8 → tC (v + 1) k = true := by
  intro v k hv hk
  match v, k, hv, hk with
  | 0, 0, _, _ => exact e10
  | 0, 1, _, _ => exact e11
  | 0, 2, _, _ => exact e12
  | 0, 3, _, _ => exact e13
  | 0, 4, _, _ => exact e14
  | 0, 5, _, _ => exact e15
  | 0, 6, _, _ => exact e16
  | 0, 7, _, _ => exact e17
  | 1, 0, _, _ => exact e20
  | 1, 1, _, _ => exact e21
  | 1, 2, _, _ => exact e22
  | 1, 3, _, _ => exact e23
  | 1, 4, _, _ => exact e24
  | 1, 5, _, _ => exact e25
  | 1, 6, _, _ => exact e26
  | 1, 7, _, _ => exact e27
  | 2, 0, _, _ => exact e30
  | 2, 1, _, _ => exact e31
  | 2, 2, _, _ => exact e32
  | 2, 3, _, _ => exact e33
  | 2, 4, _, _ => exact e34
  | 2, 5, _, _ => exact e35
  | 2, 6, _, _ => exact e36
  | 2, 7, _, _ => exact e37
  | 3, 0, _, _ => exact e40
  | 3, 1, _, _ => exact e41
  | 3, 2, _, _ => exact e42
  | 3, 3, _, _ => exact e43
  | 3, 4, _, _ => exact e44
  | 3, 5, _, _ => exact e45
  | 3, 6, _, _ => exact e46
  | 3, 7, _, _ => exact e47
  | 4, 0, _, _ => exact e50
  | 4, 1, _, _ => exact e51
  | 4, 2, _, _ => exact e52
  | 4, 3, _, _ => exact e53
  | 4, 4, _, _ => exact e54
  | 4, 5, _, _ => exact e55
  | 4, 6, _, _ => exact e56
  | 4, 7, _, _ => exact e57
  | 5, 0, _, _ => exact e60
  | 5, 1, _, _ => exact e61
  | 5, 2, _, _ => exact e62
  | 5, 3, _, _ => exact e63
  | 5, 4, _, _ => exact e64
  | 5, 5, _, _ => exact e65
  | 5, 6, _, _ => exact e66
  | 5, 7, _, _ => exact e67
section
variable [Sy]
theorem bA_get (p c d : Nat) : ((FBlk.cells 7 7 .lf (cfgV p c d)).toB : Blk) = .cells 7 (cfgV p c d) := by kernel_rfl
theorem bA_RB (p c d : Nat) : RB (.cells 7 7 .lf (cfgV p c d)) (.cells 7 (cfgV p c d)) := .cells rfl rfl fun i hi => by
  match i, hi with
  | 0, _ => rfl
  | 1, _ => rfl
  | 2, _ => rfl
  | 3, _ => rfl
  | 4, _ => rfl
  | 5, _ => rfl
  | 6, _ => rfl
theorem bA_RH (p c d : Nat) : RH ⟨1, mkT (bA p c d) .lf⟩ (mkH (bA p c d) ⟨1, .lf⟩) := (mk_RH (bA p c d) .lf ⟨1, .lf⟩ (fun q hq => by
  obtain rfl := List.mem_singleton.1 hq
  rw [bA_get]; exact bA_RB p c d) ⟨rfl, fun b => .inl ⟨at_lf _, get_lfA b⟩⟩).1
def σ0 (b : Nat) : Option Nat := if b = 0 then some 0 else none
theorem bA_part {p c d : Nat} {h : Hp} {l : List Val} (hg : h.get 0 = some (.cells 7 l)) (hl : l.length = 7) (hr : ∀ (j : Nat) (u : Val), (cfgV p c d)[j]? = some u → ∃ u' : Val, l[j]? = some u' ∧ Rn σ0 u u') : Part σ0 (mkH (bA p c d) ⟨1, .lf⟩) h := by
  have h0 : ∀ a x, σ0 a = some x → a = 0 ∧ x = 0 := fun a x e => by
    unfold σ0 at e
    split at e
    · rename_i q; exact ⟨q, (Option.some.inj e).symm⟩
    · cases e
  refine ⟨fun a b x e1 e2 => by rw [(h0 _ _ e1).1, (h0 _ _ e2).1], fun a x e => by rw [(h0 _ _ e).1]; exact Nat.zero_lt_one, fun b hb => ?_, fun b x B e1 e2 => ?_⟩
  · cases hx : (mkH (bA p c d) ⟨1, .lf⟩).get b with
    | none => rfl
    | some B =>
      rcases mk_get _ _ _ _ hx with ⟨x, g1, _⟩ | g1
      · have := congrArg Prod.fst (List.mem_singleton.1 g1)
        have hb' : 1 ≤ b := hb
        have : b = 0 := this
        omega
      · have : (none : Option Blk) = some B := (get_lfA b).symm.trans g1
        cases this
  · obtain ⟨rfl, rfl⟩ := h0 _ _ e1
    rcases mk_get _ _ _ _ e2 with ⟨x, g1, g2⟩ | g1
    · have e3 := congrArg Prod.snd (List.mem_singleton.1 g1)
      have e4 : x = .cells 7 7 .lf (cfgV p c d) := e3
      subst e4
      rw [bA_get] at g2
      subst g2
      exact ⟨_, hg, rfl, hl.symm ▸ rfl, hr⟩
    · have : (none : Option Blk) = some B := (get_lfA 0).symm.trans g1
      cases this
end
theorem sm_nat {m c : Int} (h0 : 0 < m) (h1 : m ≤ 3000) (h2 : 0 ≤ c) (h3 : c ≤ 3000) (a : Int) : ∃ k : Nat, (k : Int) < m ∧ sm m c a = c + k := by
  obtain ⟨h4, h5⟩ := rem64_eq h0 h1 a
  exact ⟨(rem64 m a).toNat, by omega, by rw [sm_eq h0 h1 h2 h3]; omega⟩
theorem rem_nat {m : Int} (h0 : 0 < m) (h1 : m ≤ 3000) (a : Int) : ∃ k : Nat, (k : Int) < m ∧ rem64 m a = k := by
  obtain ⟨h4, h5⟩ := rem64_eq h0 h1 a
  exact ⟨(rem64 m a).toNat, by omega, by omega⟩
theorem snaps_true (a0 a1 a2 a3 a4 a5 a6 m : Int) (hm0 : -9223372036854775808 ≤ m) (hm1 : m ≤ 9223372036854775807) (w : World) :
    Calls Pg 3 #[.agg #[.int .i64 a0, .int .i64 a1, .int .i64 a2, .int .i64 a3, .int .i64 a4, .int .i64 a5, .int .i64 a6], .int .i64 m] w (retOnly' fun v' w' => v' = .bool true ∧ Kept w w') := by
  obtain ⟨p, hp, e2⟩ := sm_nat (m := 4) (c := 1) (by decide) (by decide) (by decide) (by decide) a2
  obtain ⟨c, hc, e3⟩ := rem_nat (m := 3) (by decide) (by decide) a3
  obtain ⟨d, hd, e4⟩ := sm_nat (m := 3) (c := 1) (by decide) (by decide) (by decide) (by decide) a4
  obtain ⟨k, hk, e7⟩ := rem_nat (m := 8) (by decide) (by decide) m
  obtain ⟨k0, hk0, e0⟩ := sm_nat (m := 225) (c := 32) (by decide) (by decide) (by decide) (by decide) a0
  obtain ⟨k1, hk1, e1⟩ := sm_nat (m := 397) (c := 4) (by decide) (by decide) (by decide) (by decide) a1
  obtain ⟨k5, hk5, e5⟩ := rem_nat (m := 3000) (by decide) (by decide) a5
  obtain ⟨k6, hk6, e6⟩ := sm_nat (m := 20) (c := 1) (by decide) (by decide) (by decide) (by decide) a6
  have hp' : p < 4 := by omega
  have hc' : c < 3 := by omega
  have hd' : d < 3 := by omega
  have hk' : k < 8 := by omega
  let sy : Sy := ⟨fun j => match j with
    | 0 => sm 225 32 a0
    | 1 => sm 397 4 a1
    | 2 => sm 4 1 a2
    | 3 => rem64 3 a3
    | 4 => sm 3 1 a4
    | 5 => rem64 3000 a5
    | 6 => sm 20 1 a6
    | 7 => m
    | j => Bool.rec 1 0 (Nat.blt j (Nat.add 11 p))⟩
  have v0 : VRL ρ0 (args0 a0 a1 a2 a3 a4 a5 a6 m) [.agg #[.int .i64 a0, .int .i64 a1, .int .i64 a2, .int .i64 a3, .int .i64 a4, .int .i64 a5, .int .i64 a6], .int .i64 m] := by
    have hl : VRL ρ0 [.i .i64 a0, .i .i64 a1, .i .i64 a2, .i .i64 a3, .i .i64 a4, .i .i64 a5, .i .i64 a6] [.int .i64 a0, .int .i64 a1, .int .i64 a2, .int .i64 a3, .int .i64 a4, .int .i64 a5, .int .i64 a6] :=
      .cons (.i _ _) (.cons (.i _ _) (.cons (.i _ _) (.cons (.i _ _) (.cons (.i _ _) (.cons (.i _ _) (.cons (.i _ _) .nil))))))
    exact .cons (.agg hl.1 hl.2) (.cons (.i _ _) .nil)
  refine TopW.law (P := Pg) (f := 3) Tryz.func3 body_eq (by decide) (by rw [ntmps_eq]; exact (by decide : 2 ≤ 78)) v0 ?_
  rw [ntmps_eq]
  obtain ⟨en1, m1, en2, m2, w1, w2, w3, w4, w5⟩ := q01_ok a0 a1 a2 a3 a4 a5 a6 m
  refine TopW.then (R := fun e' h' => e' = en1 ∧ h' = m1) (TopW.ev K1_ok (by kernel_rfl) w1) (fun o ho => ⟨_, _, ho, rfl, rfl⟩) fun e' h' he => ?_
  obtain ⟨rfl, rfl⟩ := he
  refine TopW.then (R := fun e' h' => e' = en2 ∧ h' = m2) (TopW.ev K1_ok (by kernel_rfl) w2) (fun o ho => ⟨_, _, ho, rfl, rfl⟩) fun e' h' he => ?_
  obtain ⟨rfl, rfl⟩ := he
  refine TopW.part (σ := σ0) (env2 := ((.lf : T Val).set 1 y7).set 2 p0) (h2 := mkH (bA p c d) ⟨1, .lf⟩) (bA_part w5 rfl fun j u hu => ?_) (fun t v2 hv => ?_) ?_
  · match j with
    | 0 => cases hu; exact ⟨_, rfl, .op rfl (by omega) (by omega)⟩
    | 1 => cases hu; exact ⟨_, rfl, .op rfl (by omega) (by omega)⟩
    | 2 => cases hu; refine ⟨_, rfl, ?_⟩; rw [e2, show (1 : Int) + p = Int.ofNat (Nat.succ p) by simp; omega]; exact .i _ _
    | 3 => cases hu; refine ⟨_, rfl, ?_⟩; rw [e3]; exact .i _ _
    | 4 => cases hu; refine ⟨_, rfl, ?_⟩; rw [e4, show (1 : Int) + d = Int.ofNat (Nat.succ d) by simp; omega]; exact .i _ _
    | 5 => cases hu; exact ⟨_, rfl, .op rfl (by omega) (by omega)⟩
    | 6 => cases hu; exact ⟨_, rfl, .op rfl (by omega) (by omega)⟩
    | j + 7 => cases hu
  · rcases get2 (by decide) hv with ⟨rfl, rfl⟩ | ⟨rfl, rfl⟩
    · exact ⟨_, w4, .p rfl⟩
    · exact ⟨_, w3, .op rfl hm0 hm1⟩
  · refine (snaps_walk K1_ok cX_ok rngs_ok q2_ok q3_ok q4_ok q5_ok q7_ok q6_ok (A_all p c d hp' hc' hd') (B_all (p + c) (by omega)) (C_all (p + c) k (by omega) hk') (fun j n hj => ?_) (fun j n hj => by cases hj) (m := m) rfl ?_ (bA_RH p c d) (.p rfl)).mono fun o ⟨e', h', g1, g2⟩ => ⟨.ret, e', h', g1, .inr rfl, ?_⟩
    · unfold sv4 at hj
      cases h2 : Nat.beq j 2 with
      | true =>
        rw [h2] at hj
        obtain rfl := Nat.eq_of_beq_eq_true h2
        obtain rfl := Option.some.inj hj
        show sm 4 1 a2 = _
        rw [e2]; simp; omega
      | false =>
        rw [h2] at hj
        cases h3 : Nat.beq j 3 with
        | true =>
          rw [h3] at hj
          obtain rfl := Nat.eq_of_beq_eq_true h3
          obtain rfl := Option.some.inj hj
          exact e3
        | false =>
          rw [h3] at hj
          cases h4 : Nat.beq j 4 with
          | true =>
            rw [h4] at hj
            obtain rfl := Nat.eq_of_beq_eq_true h4
            obtain rfl := Option.some.inj hj
            show sm 3 1 a4 = _
            rw [e4]; simp; omega
          | false =>
            rw [h4] at hj
            cases h9 : Nat.blt 9 j with
            | false => rw [h9] at hj; cases hj
            | true =>
              rw [h9] at hj
              obtain ⟨i, rfl⟩ : ∃ i, j = i + 10 := ⟨j - 10, by have := Nat.le_of_ble_eq_true h9; omega⟩
              exact Option.some.inj hj
    · exact e7
    · show resV Pg e' h' [.tmp 4] = _
      simp [resV, g2]
end Go.V
