/- The law ShaLengths, which takes no argument, returns true: no condition. -/
import Derived.Test.YthhjingegjljpaaRows
import Derived.Test.YthhjingegjljpaaArg
import Derived.Test.YthhjingegjljpaaShaH
import Derived.Handed
import Derived.JoinedOf
namespace Go.Proofs.Ythhjingegjljpaa.shaLengths
open Go.ChangeShapes Go.WideShapes Go.ChangeAt Go.RowKit Go.Wk
set_option linter.unusedVariables false

theorem own : ownKnob Try.prog.godebug = none := by kernel_rfl
theorem laidOut : laidOutB Try.prog = true := by kernel_rfl

theorem contract (H : Type) (enc : TypeId × Value → H) (W : World) (base : Nat) (args : Array Value) (ds gs : List (DataW H)) (before : List MemPlace)
    (hval : ∀ (j : Nat) t v, Try.f4.params[j]? = some t → args[j]? = some v → Value.okWide Try.prog W .any base t v)
    (hW : DataW.Whole enc Try.prog Try.f4.params.toList Rows.shaLengthsSpec.vars false W args.toList ds gs before) :
    Calls Try.prog 4 args W fun e W' => ∃ v, e = .returned v ∧ Rows.shaLengthsSpec.post enc Try.prog Try.f4 false true false false W args v W' := by
  refine law_calls (tb := 4) (k := 0) laidOut (by kernel_rfl) (by rw [Try.params4]; rfl) (by rfl) Try.underlying4 rfl ?_ W base args ds gs before (fun p hA => ?_) hW
  · intro ds hk
    match ds, hk with
    | [], _ => exact ⟨rfl, rfl, rfl⟩
  · rw [Try.params4] at hA hval
    obtain rfl : args = #[] := by
      rcases args with ⟨l⟩
      cases l with
      | nil => rfl
      | cons x r => cases ds <;> exact hA.elim
    exact Sha.lengths_ret W

set_option maxRecDepth 100000 in
theorem lifted (os : Os) (started : os.Started) (H : Type) (enc : TypeId × Value → H) :
    ReturnsInHanded {} Try.checked os 4 .any (Rows.shaLengthsSpec.pre6 enc Try.prog Try.f4 Rows.shaLengthsRow.domain false) (Rows.shaLengthsSpec.post enc Try.prog Try.f4 false true false false) := by
  refine returnsInHanded_of_change (C := Try.checked) own started (by kernel_rfl) Try.func4
    (ChangeSpec.witness6 (enc := enc) (C := Try.checked) false ⟨#[], #[], []⟩ 8 (by kernel_rfl) (by kernel_rfl) (by kernel_rfl) (by kernel_rfl)) ?_
  intro W base args ds gs before hval hW _ _
  exact contract H enc W base args ds gs before hval hW

theorem proved : Rows.ShaLengthsSaid :=
  OpenClaim.holds_of_wide 4 Try.f4 rfl rfl rfl rfl rfl rfl rfl ⟨rfl, rfl, rfl, rfl, rfl⟩ rfl rfl rfl rfl rfl (by kernel_rfl) Try.func4 (by kernel_rfl)
    (of_decide_eq_true (by kernel_rfl)) (by unfold Func.isWrapper; first | (rw [if_pos (by decide +kernel)]; kernel_rfl) | (rw [if_neg (by decide +kernel)]; exact ⟨rfl, rfl⟩))
    (fun os started H enc _ => lifted os started H enc)
end Go.Proofs.Ythhjingegjljpaa.shaLengths
