/- Whether any files are a tree, what they are sorted to, or why not, is the page's answer; what tree.Sort told may be spoilt. No conditions. -/
import Derived.Test.YtemoafemddopcaaRows
import Derived.Test.YtemoafemddopcaaPb
import Derived.Test.YtemoafemddopcaaLfO
import Derived.Test.YtemoafemddopcaaKk
import Derived.Handed
import Derived.JoinedOf
namespace Go.Proofs.Ytemoafemddopcaa.treeExact
open Go.ChangeShapes Go.WideShapes Go.ChangeAt Go.RowKit Go.Wk.Lf
open Go.V (opn_slice opn_int opn_u8 opn_bool opn_str okS okI okT)
set_option linter.unusedVariables false

theorem own : ownKnob Try.prog.godebug = none := by kernel_rfl
theorem laidOut : laidOutB Try.prog = true := by kernel_rfl

set_option maxRecDepth 100000 in
theorem contract (H : Type) (enc : TypeId × Value → H) (W : World) (base : Nat) (args : Array Value) (ds gs : List (DataW H)) (before : List MemPlace)
    (hval : ∀ (j : Nat) t v, Try.f3.params[j]? = some t → args[j]? = some v → Value.okWide Try.prog W .any base t v)
    (hW : DataW.Whole enc Try.prog Try.f3.params.toList Rows.treeExactSpec.vars false W args.toList ds gs before) :
    Calls Try.prog 3 args W fun e W' => ∃ v, e = .returned v ∧ Rows.treeExactSpec.post enc Try.prog Try.f3 false true false false W args v W' := by
  refine V.law_calls (tb := 4) (k := 2) laidOut (by kernel_rfl) (by rw [Try.params3]; rfl) (by rfl) Try.underlying4 rfl ?_ W base args ds gs before (fun p hA => ?_) hW
  · intro ds hk
    match ds, hk with
    | [_, _], _ => exact ⟨rfl, rfl, rfl⟩
  · rw [Try.params3] at hA hval
    obtain ⟨v0, vs0, d0, ds0, p0, q0, hargs, rfl, rfl, h0, r0⟩ := trodAll_cons hA
    obtain ⟨v1, vs1, d1, ds1, p1, q1, rfl, rfl, rfl, h1, r1⟩ := trodAll_cons r0
    obtain ⟨rfl, rfl, rfl⟩ := trodAll_nil r1
    obtain rfl : args = #[v0, v1] := by cases args; simp_all
    have hv0 := hval 0 _ v0 rfl rfl
    obtain ⟨ρ0, m0, u0, x0, R0, B0, l0, f0, y0, s0, k0⟩ := V.arg_slice Try.underlying22 hv0 ((opn_slice Go.Proofs.Try.underlying22 (by kernel_rfl) opn_File) : V.Opn enc Try.prog W 22 (V.tSl File.t) (okS File.ok)) h0 (V.Rel.nothing W) V.Bare.empty
    have hv1 := hval 1 _ v1 rfl rfl
    obtain ⟨x1, rfl, k1⟩ := V.arg_str Try.underlying9 hv1 h1
    exact V.XW.law kk_ok Try.func3 rfl (by decide) R0 B0 (V.VRL.cons y0 (V.VRL.cons (.s x1) V.VRL.nil)) ((cellarerlaw05_TreeExact_ok ⟨R0.wf, V.nowF_agree _⟩ s0 (treeExact_true x0 x1)).mono fun _ _ ⟨_, e, _⟩ => e)

set_option maxRecDepth 100000 in
theorem lifted (os : Os) (started : os.Started) (H : Type) (enc : TypeId × Value → H) :
    ReturnsInHanded {} Try.checked os 3 .any (Rows.treeExactSpec.pre6 enc Try.prog Try.f3 Rows.treeExactRow.domain false) (Rows.treeExactSpec.post enc Try.prog Try.f3 false true false false) := by
  refine returnsInHanded_of_change (C := Try.checked) own started (by kernel_rfl) Try.func3
    (ChangeSpec.witness6 (enc := enc) (C := Try.checked) false ⟨#[], #[.slice none 0 0, .string .empty], []⟩ 8 (by kernel_rfl) (by kernel_rfl) (by kernel_rfl) (by kernel_rfl)) ?_
  intro W base args ds gs before hval hW _ _
  exact contract H enc W base args ds gs before hval hW

theorem proved : Rows.TreeExactSaid :=
  OpenClaim.holds_of_wide 3 Try.f3 rfl rfl rfl rfl rfl rfl rfl ⟨rfl, rfl, rfl, rfl, rfl⟩ rfl rfl rfl rfl rfl (by kernel_rfl) Try.func3 (by kernel_rfl)
    (of_decide_eq_true (by kernel_rfl)) (by unfold Func.isWrapper; first | (rw [if_pos (by decide +kernel)]; kernel_rfl) | (rw [if_neg (by decide +kernel)]; exact ⟨rfl, rfl⟩))
    (fun os started H enc _ => lifted os started H enc)
end Go.Proofs.Ytemoafemddopcaa.treeExact
