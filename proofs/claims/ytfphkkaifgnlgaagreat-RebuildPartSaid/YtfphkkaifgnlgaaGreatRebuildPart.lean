/- Part of a Part is that; it is right; all of it stands on tapes; where all stands on tapes, nothing is staged, it is the catalog, but for Seq. No conditions. -/
import Derived.Test.YtfphkkaifgnlgaaGreatRows
import Derived.Test.YtfphkkaifgnlgaaGreatG11
import Derived.Handed
import Derived.JoinedOf
namespace Go.Proofs.YtfphkkaifgnlgaaGreat.rebuildPart
open Go.ChangeShapes Go.WideShapes Go.ChangeAt Go.RowKit Go.Wk.Lf
open Go.V (zlx zua okS okI tI tSl)
theorem own:ownKnob Tryz.prog.godebug=none:=by kernel_rfl
theorem laidOut:laidOutB Tryz.prog=true:=by kernel_rfl
set_option maxRecDepth 100000 in
theorem contract (H:Type) (enc:TypeId × Value→H) (W:World) (base:Nat) (args:Array Value) (ds gs:List (DataW H)) (before:List MemPlace)
  (hval:∀ (j:Nat) t v,Tryz.f7.params[j]? = some t→args[j]? = some v→Value.okWide Tryz.prog W .any base t v)
  (hW:DataW.Whole enc Tryz.prog Tryz.f7.params.toList Rows.rebuildPartSpec.vars false W args.toList ds gs before) :
  Calls Tryz.prog 7 args W fun e W'=>∃ v,e = .returned v∧Rows.rebuildPartSpec.post enc Tryz.prog Tryz.f7 false true false false W args v W':=by
 refine V.law_calls (tb:=4) (k:=2) laidOut (by kernel_rfl) (by rw [Tryz.params7];rfl) (by rfl) Tryz.underlying4 rfl ?_ W base args ds gs before (fun p hA=>?_) hW
 ·intro ds hk
  match ds,hk with
  | [_,_],_=>exact ⟨rfl,rfl,rfl⟩
 ·rw [Tryz.params7] at hA hval;obtain ⟨v0,vs0,d0,ds0,p0,q0,hargs,rfl,rfl,h0,r0⟩:=trodAll_cons hA;obtain ⟨v1,vs1,d1,ds1,p1,q1,rfl,rfl,rfl,h1,r1⟩:=trodAll_cons r0;obtain ⟨rfl,rfl,rfl⟩:=trodAll_nil r1;obtain rfl:args = #[v0,v1]:=by cases args;simp_all
  have hv0:=hval 0 _ v0 rfl rfl;obtain ⟨ρ0,m0,u0,x0,R0,B0,l0,f0,y0,s0,k0⟩:=V.arg_slice Tryz.underlying72 hv0 ((zlx Go.Proofs.Tryz.underlying72 (by kernel_rfl) (zua Go.Proofs.Tryz.underlying3)):V.Opn enc Tryz.prog W 72 (V.tSl tI) (okS okI)) h0 (V.Rel.nothing W) V.Bare.empty;have hv1:=hval 1 _ v1 rfl rfl;obtain ⟨ρ1,m1,u1,x1,R1,B1,l1,f1,y1,s1,k1⟩:=V.arg_slice Tryz.underlying73 hv1 ((zlx Go.Proofs.Tryz.underlying73 (by kernel_rfl) zor):V.Opn enc Tryz.prog W 73 (V.tSl Cellarerlaw19Act.t) (okS Cellarerlaw19Act.ok)) h1 R0 B0;exact V.XW.law kk_ok Tryz.func7 rfl (by decide) R1 B1 (V.VRL.cons (y0.mono l1) (V.VRL.cons y1 V.VRL.nil)) ((zjy ⟨R1.wf,V.zkc _⟩ (s0.mono f1) s1 (part_law24 x0 x1 k0 k1)).mono fun _ _ ⟨_,e,_⟩=>e)
set_option maxRecDepth 100000 in
theorem lifted (os:Os) (started:os.Started) (H:Type) (enc:TypeId × Value→H) :
  ReturnsInHanded {} Tryz.checked os 7 .any (Rows.rebuildPartSpec.pre6 enc Tryz.prog Tryz.f7 Rows.rebuildPartRow.domain false) (Rows.rebuildPartSpec.post enc Tryz.prog Tryz.f7 false true false false):=by
 refine returnsInHanded_of_change (C:=Tryz.checked) own started (by kernel_rfl) Tryz.func7
  (ChangeSpec.witness6 (enc:=enc) (C:=Tryz.checked) false ⟨#[],#[.slice none 0 0,.slice none 0 0],[]⟩ 8 (by kernel_rfl) (by kernel_rfl) (by kernel_rfl) (by kernel_rfl)) ?_
 intro W base args ds gs before hval hW _ _;exact contract H enc W base args ds gs before hval hW
theorem proved:Rows.RebuildPartSaid :=
 OpenClaim.holds_of_wide 7 Tryz.f7 rfl rfl rfl rfl rfl rfl rfl ⟨rfl,rfl,rfl,rfl,rfl⟩ rfl rfl rfl rfl rfl (by kernel_rfl) Tryz.func7 (by kernel_rfl)
  (of_decide_eq_true (by kernel_rfl)) (by unfold Func.isWrapper;first | (rw [if_pos (by decide +kernel)];kernel_rfl) | (rw [if_neg (by decide +kernel)];exact ⟨rfl,rfl⟩))
  (fun os started H enc _=>lifted os started H enc)
end Go.Proofs.YtfphkkaifgnlgaaGreat.rebuildPart
