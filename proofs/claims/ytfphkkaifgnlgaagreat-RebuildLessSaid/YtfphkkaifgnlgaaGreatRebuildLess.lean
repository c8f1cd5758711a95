/- A snapshot all of whose records are found is there, whole; without one of them, or with an expiry of it, it is not. No conditions. -/
import Derived.Test.YtfphkkaifgnlgaaGreatRows
import Derived.Test.YtfphkkaifgnlgaaGreatG6
import Derived.Handed
import Derived.JoinedOf
namespace Go.Proofs.YtfphkkaifgnlgaaGreat.rebuildLess
open Go.ChangeShapes Go.WideShapes Go.ChangeAt Go.RowKit Go.Wk.Lf
open Go.V (ztu okS tSl)
theorem own:ownKnob Tryz.prog.godebug = none:=by kernel_rfl
theorem laidOut:laidOutB Tryz.prog = true:=by kernel_rfl
set_option maxRecDepth 100000 in
theorem contract (H:Type) (enc:TypeId × Value → H) (W:World) (base:Nat) (args:Array Value) (ds gs:List (DataW H)) (before:List MemPlace)
  (hval:∀ (j:Nat) t v,Tryz.f3.params[j]? = some t → args[j]? = some v → Value.okWide Tryz.prog W .any base t v)
  (hW:DataW.Whole enc Tryz.prog Tryz.f3.params.toList Rows.rebuildLessSpec.vars false W args.toList ds gs before) :
  Calls Tryz.prog 3 args W fun e W'=>∃ v,e = .returned v ∧ Rows.rebuildLessSpec.post enc Tryz.prog Tryz.f3 false true false false W args v W':=by
 refine V.law_calls (tb:=4) (k:=3) laidOut (by kernel_rfl) (by rw [Tryz.params3]; rfl) (by rfl) Tryz.underlying4 rfl ?_ W base args ds gs before (fun p hA=>?_) hW
 ·intro ds hk
  match ds,hk with
  | [_,_,_],_=>exact ⟨rfl,rfl,rfl⟩
 ·rw [Tryz.params3] at hA hval;obtain ⟨v0,vs0,d0,ds0,p0,q0,hargs,rfl,rfl,h0,r0⟩:=trodAll_cons hA;obtain ⟨v1,vs1,d1,ds1,p1,q1,rfl,rfl,rfl,h1,r1⟩:=trodAll_cons r0;obtain ⟨v2,vs2,d2,ds2,p2,q2,rfl,rfl,rfl,h2,r2⟩:=trodAll_cons r1;obtain ⟨rfl,rfl,rfl⟩:=trodAll_nil r2;obtain rfl:args = #[v0,v1,v2]:=by cases args; simp_all
  have hv0:=hval 0 _ v0 rfl rfl;obtain ⟨ρ0,m0,u0,x0,R0,B0,l0,f0,y0,s0,k0⟩:=V.arg_slice Tryz.underlying22 hv0 ((ztu Go.Proofs.Tryz.underlying22 (by kernel_rfl) opn_File):V.Opn enc Tryz.prog W 22 (V.tSl File.t) (okS File.ok)) h0 (V.Rel.nothing W) V.Bare.empty;have hv1:=hval 1 _ v1 rfl rfl;obtain ⟨x1,rfl,k1⟩:=V.arg_int Tryz.underlying3 hv1 h1;have hv2:=hval 2 _ v2 rfl rfl;obtain ⟨x2,rfl,k2⟩:=V.arg_int Tryz.underlying3 hv2 h2;exact V.XW.law kk_ok Tryz.func3 rfl (by decide) R0 B0 (V.VRL.cons y0 (V.VRL.cons (.i _ x1) (V.VRL.cons (.i _ x2) V.VRL.nil))) ((zkh ⟨R0.wf,V.zdc _⟩ s0 (less_law x0 x1 x2 k0 k1 k2)).mono fun _ _ ⟨_,e,_⟩=>e)
set_option maxRecDepth 100000 in
theorem lifted (os:Os) (started:os.Started) (H:Type) (enc:TypeId × Value → H) :
  ReturnsInHanded {} Tryz.checked os 3 .any (Rows.rebuildLessSpec.pre6 enc Tryz.prog Tryz.f3 Rows.rebuildLessRow.domain false) (Rows.rebuildLessSpec.post enc Tryz.prog Tryz.f3 false true false false):=by
 refine returnsInHanded_of_change (C:=Tryz.checked) own started (by kernel_rfl) Tryz.func3
  (ChangeSpec.witness6 (enc:=enc) (C:=Tryz.checked) false ⟨#[],#[.slice none 0 0,.int .i64 0,.int .i64 0],[]⟩ 8 (by kernel_rfl) (by kernel_rfl) (by kernel_rfl) (by kernel_rfl)) ?_
 intro W base args ds gs before hval hW _ _;exact contract H enc W base args ds gs before hval hW
theorem proved:Rows.RebuildLessSaid :=
 OpenClaim.holds_of_wide 3 Tryz.f3 rfl rfl rfl rfl rfl rfl rfl ⟨rfl,rfl,rfl,rfl,rfl⟩ rfl rfl rfl rfl rfl (by kernel_rfl) Tryz.func3 (by kernel_rfl)
  (of_decide_eq_true (by kernel_rfl)) (by unfold Func.isWrapper; first | (rw [if_pos (by decide +kernel)]; kernel_rfl) | (rw [if_neg (by decide +kernel)]; exact ⟨rfl,rfl⟩))
  (fun os started H enc _=>lifted os started H enc)
end Go.Proofs.YtfphkkaifgnlgaaGreat.rebuildLess
