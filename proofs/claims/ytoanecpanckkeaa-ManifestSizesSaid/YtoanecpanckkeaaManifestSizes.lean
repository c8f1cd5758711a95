/- The law ManifestSizes returns true whatever manifest it is given, and it reads as it did: no condition. -/
import Derived.Test.YtoanecpanckkeaaRows
import Derived.Test.YtoanecpanckkeaaArg
import Derived.Test.YtoanecpanckkeaaLfO
import Derived.Test.YtoanecpanckkeaaManSizes
import Derived.Handed
import Derived.JoinedOf
namespace Go.Proofs.Ytoanecpanckkeaa.manifestSizes
open Go.ChangeShapes Go.WideShapes Go.ChangeAt Go.RowKit Go.Wk Go.Wk.Lf
set_option linter.unusedVariables false

theorem own : ownKnob Try.prog.godebug = none := by kernel_rfl
theorem laidOut : laidOutB Try.prog = true := by kernel_rfl

set_option maxRecDepth 100000 in
theorem contract (H : Type) (enc : TypeId × Value → H) (W : World) (base : Nat) (args : Array Value) (ds gs : List (DataW H)) (before : List MemPlace)
    (hval : ∀ (j : Nat) t v, Try.f8.params[j]? = some t → args[j]? = some v → Value.okWide Try.prog W .any base t v)
    (hW : DataW.Whole enc Try.prog Try.f8.params.toList Rows.manifestSizesSpec.vars false W args.toList ds gs before) :
    Calls Try.prog 8 args W fun e W' => ∃ v, e = .returned v ∧ Rows.manifestSizesSpec.post enc Try.prog Try.f8 false true false false W args v W' := by
  refine law_calls (tb := 4) (k := 1) laidOut (by kernel_rfl) (by rw [Try.params8]; rfl) (by rfl) Try.underlying4 rfl ?_ W base args ds gs before (fun p hA => ?_) hW
  · intro ds hk
    match ds, hk with
    | [_], _ => exact ⟨rfl, rfl, rfl⟩
  · rw [Try.params8] at hA hval
    obtain ⟨v0, vs0, d0, ds0, p0, q0, hargs, rfl, rfl, h0, r0⟩ := trodAll_cons hA
    obtain ⟨rfl, rfl, rfl⟩ := trodAll_nil r0
    obtain rfl : args = #[v0] := by cases args; simp_all
    have hv0 := hval 0 _ v0 rfl rfl
    have ho0 : Opn enc Try.prog W 45 Manifest.t Manifest.ok := opn_Manifest
    have hu0 : Try.prog.underlying 45 = some (.struct (Try.prog.fieldsOf 45)) := by kernel_rfl
    obtain ⟨cs0, x0, rfl, e0, k0⟩ := arg_struct hu0 hv0 ho0 h0
    obtain ⟨u0_0, rfl, s0_0⟩ := e0
    exact law_ret (cellarerlaw17_ManifestSizes_ok (now_agree W) s0_0 (manSizes_true x0 k0))

set_option maxRecDepth 100000 in
theorem lifted (os : Os) (started : os.Started) (H : Type) (enc : TypeId × Value → H) :
    ReturnsInHanded {} Try.checked os 8 .any (Rows.manifestSizesSpec.pre6 enc Try.prog Try.f8 Rows.manifestSizesRow.domain false) (Rows.manifestSizesSpec.post enc Try.prog Try.f8 false true false false) := by
  refine returnsInHanded_of_change (C := Try.checked) own started (by kernel_rfl) Try.func8
    (ChangeSpec.witness6 (enc := enc) (C := Try.checked) false ⟨#[], #[.agg #[.string .empty, .slice none 0 0]], []⟩ 8 (by kernel_rfl) (by kernel_rfl) (by kernel_rfl) (by kernel_rfl)) ?_
  intro W base args ds gs before hval hW _ _
  exact contract H enc W base args ds gs before hval hW

theorem proved : Rows.ManifestSizesSaid :=
  OpenClaim.holds_of_wide 8 Try.f8 rfl rfl rfl rfl rfl rfl rfl ⟨rfl, rfl, rfl, rfl, rfl⟩ rfl rfl rfl rfl rfl (by kernel_rfl) Try.func8 (by kernel_rfl)
    (of_decide_eq_true (by kernel_rfl)) (by unfold Func.isWrapper; first | (rw [if_pos (by decide +kernel)]; kernel_rfl) | (rw [if_neg (by decide +kernel)]; exact ⟨rfl, rfl⟩))
    (fun os started H enc _ => lifted os started H enc)
end Go.Proofs.Ytoanecpanckkeaa.manifestSizes
