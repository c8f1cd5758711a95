/- There are as many snapshots as may be, and no more: ErrLimit; one that expires makes room for one. No conditions. -/
import Derived.Test.YtddopjjmpadnoaaGreatJ7
import Derived.Test.YtddopjjmpadnoaaGreatJ8
import Derived.Test.YtddopjjmpadnoaaGreatRows
import Derived.Handed
import Derived.JoinedOf
namespace Go.Proofs.YtddopjjmpadnoaaGreat.repoSnaps
open Go.ChangeShapes Go.WideShapes Go.ChangeAt Go.RowKit
set_option linter.unusedVariables false
theorem own : ownKnob Tryz.prog.godebug = none := by kernel_rfl
theorem laidOut : laidOutB Tryz.prog = true := by kernel_rfl
theorem ints : ((Tryz.prog.fieldsOf 23).toList.zipIdx.all fun q => Nat.beq q.1.type 3 && Nat.beq q.1.offset q.2) = true := by kernel_rfl
set_option maxRecDepth 100000 in
theorem contract (H : Type) (enc : TypeId × Value → H) (W : World) (base : Nat) (args : Array Value) (ds gs : List (DataW H)) (before : List MemPlace)
    (hval : ∀ (j : Nat) t v, Tryz.f3.params[j]? = some t → args[j]? = some v → Value.okWide Tryz.prog W .any base t v)
    (hW : DataW.Whole enc Tryz.prog Tryz.f3.params.toList Rows.repoSnapsSpec.vars false W args.toList ds gs before) :
    Calls Tryz.prog 3 args W fun e W' => ∃ v, e = .returned v ∧ Rows.repoSnapsSpec.post enc Tryz.prog Tryz.f3 false true false false W args v W' := by
  refine V.law_calls (tb := 4) (k := 2) laidOut (by kernel_rfl) (by rw [Tryz.params3]; rfl) (by rfl) Tryz.underlying4 rfl ?_ W base args ds gs before (fun p hA => ?_) hW
  · intro ds hk
    match ds, hk with
    | [_, _], _ => exact ⟨rfl, rfl, rfl⟩
  · rw [Tryz.params3] at hA hval
    obtain ⟨v0, vs0, d0, ds0, p0, q0, hargs, rfl, rfl, h0, r0⟩ := trodAll_cons hA
    obtain ⟨v1, vs1, d1, ds1, p1, q1, rfl, rfl, rfl, h1, r1⟩ := trodAll_cons r0
    obtain ⟨rfl, rfl, rfl⟩ := trodAll_nil r1
    obtain rfl : args = #[v0, v1] := by cases args; simp_all
    have hv0 := hval 0 _ v0 rfl rfl
    have hv1 := hval 1 _ v1 rfl rfl
    obtain ⟨l, hl, rfl⟩ := V.ints_arg (by kernel_rfl : Tryz.prog.underlying 23 = some (.struct (Tryz.prog.fieldsOf 23))) Tryz.underlying3 (by kernel_rfl) (by kernel_rfl) ints hv0 h0
    obtain ⟨m, rfl, hm0, hm1⟩ := V.int_arg Tryz.underlying3 hv1 h1
    have hl7 : l.length = 7 := hl.trans (by kernel_rfl)
    match l, hl7 with
    | [a0, a1, a2, a3, a4, a5, a6], _ => exact V.snaps_true a0 a1 a2 a3 a4 a5 a6 m hm0 hm1 W
set_option maxRecDepth 100000 in
theorem lifted (os : Os) (started : os.Started) (H : Type) (enc : TypeId × Value → H) :
    ReturnsInHanded {} Tryz.checked os 3 .any (Rows.repoSnapsSpec.pre6 enc Tryz.prog Tryz.f3 Rows.repoSnapsRow.domain false) (Rows.repoSnapsSpec.post enc Tryz.prog Tryz.f3 false true false false) := by
  refine returnsInHanded_of_change (C := Tryz.checked) own started (by kernel_rfl) Tryz.func3
    (ChangeSpec.witness6 (enc := enc) (C := Tryz.checked) false ⟨#[], #[.agg #[.int .i64 0, .int .i64 0, .int .i64 0, .int .i64 0, .int .i64 0, .int .i64 0, .int .i64 0], .int .i64 0], []⟩ 8 (by kernel_rfl) (by kernel_rfl) (by kernel_rfl) (by kernel_rfl)) ?_
  intro W base args ds gs before hval hW _ _
  exact contract H enc W base args ds gs before hval hW
theorem proved : Rows.RepoSnapsSaid :=
  OpenClaim.holds_of_wide 3 Tryz.f3 rfl rfl rfl rfl rfl rfl rfl ⟨rfl, rfl, rfl, rfl, rfl⟩ rfl rfl rfl rfl rfl (by kernel_rfl) Tryz.func3 closed
    (of_decide_eq_true (by kernel_rfl)) (by unfold Func.isWrapper; first | (rw [if_pos (by decide +kernel)]; kernel_rfl) | (rw [if_neg (by decide +kernel)]; exact ⟨rfl, rfl⟩))
    (fun os started H enc _ => lifted os started H enc)
end Go.Proofs.YtddopjjmpadnoaaGreat.repoSnaps
