/- Records found twice at one place are one; at two places they have two; the order in which chunks are found changes nothing. No conditions. -/
import Derived.Test.YtfphkkaifgnlgaaGreatRows
import Derived.Test.YtfphkkaifgnlgaaGreatG6
import Derived.Handed
import Derived.JoinedOf
namespace Go.Proofs.YtfphkkaifgnlgaaGreat.rebuildTwice
open Go.ChangeShapes Go.WideShapes Go.ChangeAt Go.RowKit Go.Wk.Lf
open Go.V (zvl okS tSl)
theorem own:ownKnob Tryz.prog.godebug=none:=by kernel_rfl
theorem laidOut:laidOutB Tryz.prog=true:=by kernel_rfl
set_option maxRecDepth 100000 in
theorem contract (H:Type) (enc:TypeId × Value→H) (W:World) (base:Nat) (args:Array Value) (ds gs:List (DataW H)) (before:List MemPlace)
  (hval:∀ (j:Nat) t v,Tryz.f4.params[j]? = some t→args[j]? = some v→Value.okWide Tryz.prog W .any base t v)
  (hW:DataW.Whole enc Tryz.prog Tryz.f4.params.toList Rows.rebuildTwiceSpec.vars false W args.toList ds gs before) :
  Calls Tryz.prog 4 args W fun e W'=>∃ v,e = .returned v∧Rows.rebuildTwiceSpec.post enc Tryz.prog Tryz.f4 false true false false W args v W':=by
 refine V.law_calls (tb:=4) (k:=2) laidOut (by kernel_rfl) (by rw [Tryz.params4];rfl) (by rfl) Tryz.underlying4 rfl ?_ W base args ds gs before (fun p hA=>?_) hW
 ·intro ds hk
  match ds,hk with
  | [_,_],_=>exact ⟨rfl,rfl,rfl⟩
 ·rw [Tryz.params4] at hA hval;obtain ⟨v0,vs0,d0,ds0,p0,q0,hargs,rfl,rfl,h0,r0⟩:=trodAll_cons hA;obtain ⟨v1,vs1,d1,ds1,p1,q1,rfl,rfl,rfl,h1,r1⟩:=trodAll_cons r0;obtain ⟨rfl,rfl,rfl⟩:=trodAll_nil r1;obtain rfl:args = #[v0,v1]:=by cases args;simp_all
  have hv0:=hval 0 _ v0 rfl rfl;obtain ⟨ρ0,m0,u0,x0,R0,B0,l0,f0,y0,s0,k0⟩:=V.arg_slice Tryz.underlying22 hv0 ((zvl Go.Proofs.Tryz.underlying22 (by kernel_rfl) opn_File):V.Opn enc Tryz.prog W 22 (V.tSl File.t) (okS File.ok)) h0 (V.Rel.nothing W) V.Bare.empty;have hv1:=hval 1 _ v1 rfl rfl;obtain ⟨x1,rfl,k1⟩:=V.arg_int Tryz.underlying3 hv1 h1;exact V.XW.law kk_ok Tryz.func4 rfl (by decide) R0 B0 (V.VRL.cons y0 (V.VRL.cons (.i _ x1) V.VRL.nil)) ((zks ⟨R0.wf,V.zdc _⟩ s0 (twice_law x0 x1 k0 k1)).mono fun _ _ ⟨_,e,_⟩=>e)
set_option maxRecDepth 100000 in
theorem lifted (os:Os) (started:os.Started) (H:Type) (enc:TypeId × Value→H) :
  ReturnsInHanded {} Tryz.checked os 4 .any (Rows.rebuildTwiceSpec.pre6 enc Tryz.prog Tryz.f4 Rows.rebuildTwiceRow.domain false) (Rows.rebuildTwiceSpec.post enc Tryz.prog Tryz.f4 false true false false):=by
 refine returnsInHanded_of_change (C:=Tryz.checked) own started (by kernel_rfl) Tryz.func4
  (ChangeSpec.witness6 (enc:=enc) (C:=Tryz.checked) false ⟨#[],#[.slice none 0 0,.int .i64 0],[]⟩ 8 (by kernel_rfl) (by kernel_rfl) (by kernel_rfl) (by kernel_rfl)) ?_
 intro W base args ds gs before hval hW _ _;exact contract H enc W base args ds gs before hval hW
theorem proved:Rows.RebuildTwiceSaid :=
 OpenClaim.holds_of_wide 4 Tryz.f4 rfl rfl rfl rfl rfl rfl rfl ⟨rfl,rfl,rfl,rfl,rfl⟩ rfl rfl rfl rfl rfl (by kernel_rfl) Tryz.func4 (by kernel_rfl)
  (of_decide_eq_true (by kernel_rfl)) (by unfold Func.isWrapper;first | (rw [if_pos (by decide +kernel)];kernel_rfl) | (rw [if_neg (by decide +kernel)];exact ⟨rfl,rfl⟩))
  (fun os started H enc _=>lifted os started H enc)
end Go.Proofs.YtfphkkaifgnlgaaGreat.rebuildTwice
