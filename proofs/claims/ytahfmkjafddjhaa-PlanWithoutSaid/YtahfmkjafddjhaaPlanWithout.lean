/- The law PlanWithout returns true whatever wants it is given, and they read as they did: no condition. -/
import Derived.Test.YtahfmkjafddjhaaRows
import Derived.Test.YtahfmkjafddjhaaArg
import Derived.Test.YtahfmkjafddjhaaLfO
import Derived.Test.YtahfmkjafddjhaaLfE
import Derived.Test.YtahfmkjafddjhaaPlanW
import Derived.Handed
import Derived.JoinedOf
namespace Go.Proofs.Ytahfmkjafddjhaa.planWithout
open Go.ChangeShapes Go.WideShapes Go.ChangeAt Go.RowKit Go.Wk Go.Wk.Lf
set_option linter.unusedVariables false

theorem own : ownKnob Try.prog.godebug = none := by kernel_rfl
theorem laidOut : laidOutB Try.prog = true := by kernel_rfl

set_option maxRecDepth 100000 in
theorem contract (H : Type) (enc : TypeId × Value → H) (W : World) (base : Nat) (args : Array Value) (ds gs : List (DataW H)) (before : List MemPlace)
    (hval : ∀ (j : Nat) t v, Try.f9.params[j]? = some t → args[j]? = some v → Value.okWide Try.prog W .any base t v)
    (hW : DataW.Whole enc Try.prog Try.f9.params.toList Rows.planWithoutSpec.vars false W args.toList ds gs before) :
    Calls Try.prog 9 args W fun e W' => ∃ v, e = .returned v ∧ Rows.planWithoutSpec.post enc Try.prog Try.f9 false true false false W args v W' := by
  refine law_calls (tb := 4) (k := 1) laidOut (by kernel_rfl) (by rw [Try.params9]; rfl) (by rfl) Try.underlying4 rfl ?_ W base args ds gs before (fun p hA => ?_) hW
  · intro ds hk
    match ds, hk with
    | [_], _ => exact ⟨rfl, rfl, rfl⟩
  · rw [Try.params9] at hA hval
    obtain ⟨v0, vs0, d0, ds0, p0, q0, hargs, rfl, rfl, h0, r0⟩ := trodAll_cons hA
    obtain ⟨rfl, rfl, rfl⟩ := trodAll_nil r0
    obtain rfl : args = #[v0] := by cases args; simp_all
    have hv0 := hval 0 _ v0 rfl rfl
    have ho0 : Opn enc Try.prog W 47 (tSl Want.t) (okL Want.ok) := (opn_slice Go.Proofs.Try.underlying47 (by kernel_rfl) opn_Want)
    obtain ⟨x0, a0, k0⟩ := arg_slice Try.underlying47 hv0 ho0 h0
    exact law_ret (cellarerlaw21_PlanWithout_ok (now_agree W) a0 (planWithout_true x0 k0))

set_option maxRecDepth 100000 in
theorem lifted (os : Os) (started : os.Started) (H : Type) (enc : TypeId × Value → H) :
    ReturnsInHanded {} Try.checked os 9 .any (Rows.planWithoutSpec.pre6 enc Try.prog Try.f9 Rows.planWithoutRow.domain false) (Rows.planWithoutSpec.post enc Try.prog Try.f9 false true false false) := by
  refine returnsInHanded_of_change (C := Try.checked) own started (by kernel_rfl) Try.func9
    (ChangeSpec.witness6 (enc := enc) (C := Try.checked) false ⟨#[], #[.slice none 0 0], []⟩ 8 (by kernel_rfl) (by kernel_rfl) (by kernel_rfl) (by kernel_rfl)) ?_
  intro W base args ds gs before hval hW _ _
  exact contract H enc W base args ds gs before hval hW

theorem proved : Rows.PlanWithoutSaid :=
  OpenClaim.holds_of_wide 9 Try.f9 rfl rfl rfl rfl rfl rfl rfl ⟨rfl, rfl, rfl, rfl, rfl⟩ rfl rfl rfl rfl rfl (by kernel_rfl) Try.func9 (by kernel_rfl)
    (of_decide_eq_true (by kernel_rfl)) (by unfold Func.isWrapper; first | (rw [if_pos (by decide +kernel)]; kernel_rfl) | (rw [if_neg (by decide +kernel)]; exact ⟨rfl, rfl⟩))
    (fun os started H enc _ => lifted os started H enc)
end Go.Proofs.Ytahfmkjafddjhaa.planWithout
