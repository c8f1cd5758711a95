/- Of nothing found a new catalog is told; of records that are heads, tails, or cannot be read as what they are, too; of a new catalog all is its Part. No conditions. -/
import Derived.Test.YtfphkkaifgnlgaaGreatRows
import Derived.Test.YtfphkkaifgnlgaaGreatG7
import Derived.Handed
import Derived.JoinedOf
namespace Go.Proofs.YtfphkkaifgnlgaaGreat.rebuildEmpty
open Go.ChangeShapes Go.WideShapes Go.ChangeAt Go.RowKit Go.Wk.Lf
open Go.V (opn_slice opn_int opn_u8 okS okI okT tI tB tSl)
theorem own : ownKnob Tryz.prog.godebug = none := by kernel_rfl
theorem laidOut : laidOutB Tryz.prog = true := by kernel_rfl
set_option maxRecDepth 100000 in
theorem contract (H : Type) (enc : TypeId × Value → H) (W : World) (base : Nat) (args : Array Value) (ds gs : List (DataW H)) (before : List MemPlace)
    (hval : ∀ (j : Nat) t v, Tryz.f8.params[j]? = some t → args[j]? = some v → Value.okWide Tryz.prog W .any base t v)
    (hW : DataW.Whole enc Tryz.prog Tryz.f8.params.toList Rows.rebuildEmptySpec.vars false W args.toList ds gs before) :
    Calls Tryz.prog 8 args W fun e W' => ∃ v, e = .returned v ∧ Rows.rebuildEmptySpec.post enc Tryz.prog Tryz.f8 false true false false W args v W' := by
  refine V.law_calls (tb := 4) (k := 2) laidOut (by kernel_rfl) (by rw [Tryz.params8]; rfl) (by rfl) Tryz.underlying4 rfl ?_ W base args ds gs before (fun p hA => ?_) hW
  · intro ds hk
    match ds, hk with
    | [_, _], _ => exact ⟨rfl, rfl, rfl⟩
  · rw [Tryz.params8] at hA hval
    obtain ⟨v0, vs0, d0, ds0, p0, q0, hargs, rfl, rfl, h0, r0⟩ := trodAll_cons hA
    obtain ⟨v1, vs1, d1, ds1, p1, q1, rfl, rfl, rfl, h1, r1⟩ := trodAll_cons r0
    obtain ⟨rfl, rfl, rfl⟩ := trodAll_nil r1
    obtain rfl : args = #[v0, v1] := by cases args; simp_all
    have hv0 := hval 0 _ v0 rfl rfl
    obtain ⟨ρ0, m0, u0, x0, R0, B0, l0, f0, y0, s0, k0⟩ := V.arg_slice Tryz.underlying72 hv0 ((opn_slice Go.Proofs.Tryz.underlying72 (by kernel_rfl) (opn_int Go.Proofs.Tryz.underlying3)) : V.Opn enc Tryz.prog W 72 (V.tSl tI) (okS okI)) h0 (V.Rel.nothing W) V.Bare.empty
    have hv1 := hval 1 _ v1 rfl rfl
    obtain ⟨ρ1, m1, u1, x1, R1, B1, l1, f1, y1, s1, k1⟩ := V.arg_slice Tryz.underlying95 hv1 ((opn_slice Go.Proofs.Tryz.underlying95 (by kernel_rfl) (opn_slice Go.Proofs.Tryz.underlying47 (by kernel_rfl) (opn_u8 Go.Proofs.Tryz.underlying5))) : V.Opn enc Tryz.prog W 95 (V.tSl (tSl tB)) (okS (okS okT))) h1 R0 B0
    exact V.XW.law kk_ok Tryz.func8 rfl (by decide) R1 B1 (V.VRL.cons (y0.mono l1) (V.VRL.cons y1 V.VRL.nil)) ((cellarerlaw24_RebuildEmpty_ok ⟨R1.wf, V.nowF_agree _⟩ (s0.mono f1) s1 (empty_true x0 x1)).mono fun _ _ ⟨_, e, _⟩ => e)
set_option maxRecDepth 100000 in
theorem lifted (os : Os) (started : os.Started) (H : Type) (enc : TypeId × Value → H) :
    ReturnsInHanded {} Tryz.checked os 8 .any (Rows.rebuildEmptySpec.pre6 enc Tryz.prog Tryz.f8 Rows.rebuildEmptyRow.domain false) (Rows.rebuildEmptySpec.post enc Tryz.prog Tryz.f8 false true false false) := by
  refine returnsInHanded_of_change (C := Tryz.checked) own started (by kernel_rfl) Tryz.func8
    (ChangeSpec.witness6 (enc := enc) (C := Tryz.checked) false ⟨#[], #[.slice none 0 0, .slice none 0 0], []⟩ 8 (by kernel_rfl) (by kernel_rfl) (by kernel_rfl) (by kernel_rfl)) ?_
  intro W base args ds gs before hval hW _ _
  exact contract H enc W base args ds gs before hval hW
theorem proved : Rows.RebuildEmptySaid :=
  OpenClaim.holds_of_wide 8 Tryz.f8 rfl rfl rfl rfl rfl rfl rfl ⟨rfl, rfl, rfl, rfl, rfl⟩ rfl rfl rfl rfl rfl (by kernel_rfl) Tryz.func8 (by kernel_rfl)
    (of_decide_eq_true (by kernel_rfl)) (by unfold Func.isWrapper; first | (rw [if_pos (by decide +kernel)]; kernel_rfl) | (rw [if_neg (by decide +kernel)]; exact ⟨rfl, rfl⟩))
    (fun os started H enc _ => lifted os started H enc)
end Go.Proofs.YtfphkkaifgnlgaaGreat.rebuildEmpty
