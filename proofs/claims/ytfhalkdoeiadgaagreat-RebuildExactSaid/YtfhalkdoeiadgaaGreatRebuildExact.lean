/- The catalog of any volumes and records that were found, or that there is none, and what of any catalog stands on tapes, are the page's; what is handed in stays. No conditions. -/
import Derived.Test.YtfhalkdoeiadgaaGreatRows
import Derived.Test.YtfhalkdoeiadgaaGreatG11
import Derived.Handed
import Derived.JoinedOf
open Go.Proofs.Tryz renaming checked→Ut, f3→adF, func3→adI, prog→aac, underlying22→adB, underlying23→adH
namespace Go.Proofs.YtfhalkdoeiadgaaGreat.rebuildExact
open Go.ChangeShapes Go.WideShapes Go.ChangeAt Go.RowKit Go.Wk.Lf
open Go.V (A7 yM GJ)
theorem own:ownKnob aac.godebug=none:=by kernel_rfl
theorem laidOut:laidOutB aac=true:=by kernel_rfl
set_option maxRecDepth 100000 in
theorem contract (H:Type) (enc:TypeId × Value→H) (W:World) (base:Nat) (args:Array Value) (ds gs:List (DataW H)) (before:List MemPlace)
  (D2:∀ (j:Nat) t v,adF.params[j]? = some t→args[j]? = some v→Value.okWide aac W .any base t v)
  (hW:DataW.Whole enc aac adF.params.toList Rows.rebuildExactSpec.vars false W args.toList ds gs before) :
  Calls aac 3 args W fun e W'=>∃ v,e = .returned v∧Rows.rebuildExactSpec.post enc aac adF false true false false W args v W':=by
 refine V.agV (tb:=4) (k:=3) laidOut (by kernel_rfl) (by rw [Tryz.params3];rfl) (by rfl) Tryz.underlying4 rfl ?_ W base args ds gs before (fun p hA=>?_) hW
 ·intro ds hk
  match ds,hk with
  | [_,_,_],_=>exact ⟨rfl,rfl,rfl⟩
 ·rw [Tryz.params3] at hA D2;obtain ⟨v0,vs0,d0,ds0,p0,q0,DY,rfl,rfl,h0,r0⟩:=trodAll_cons hA;obtain ⟨v1,vs1,d1,ds1,p1,q1,rfl,rfl,rfl,h1,r1⟩:=trodAll_cons r0;obtain ⟨v2,vs2,d2,ds2,p2,q2,rfl,rfl,rfl,h2,r2⟩:=trodAll_cons r1;obtain ⟨rfl,rfl,rfl⟩:=trodAll_nil r2;obtain rfl:args = #[v0,v1,v2]:=by cases args;simp_all
  have rj:=D2 0 _ v0 rfl rfl;obtain ⟨ρ0,m0,u0,x0,R0,B0,l0,f0,y0,s0,k0⟩:=V.VG adB rj ((A7 adB (by kernel_rfl) YC):V.vO enc aac W 22 (V.GJ oH.t) (yM oH.ok)) h0 (V.Rel.nothing W) V.xj.empty;have Oi:=D2 1 _ v1 rfl rfl;obtain ⟨Fo,m1,u1,x1,R1,B1,l1,f1,y1,s1,k1⟩:=V.VG adH Oi ((A7 adH (by kernel_rfl) ahy):V.vO enc aac W 23 (V.GJ Found.t) (yM Found.ok)) h1 R0 B0;have Sc:=D2 2 _ v2 rfl rfl;obtain ⟨Fp,m2,u2,x2,R2,B2,l2,f2,y2,s2,k2⟩:=V.aa7 (by kernel_rfl:aac.underlying 28=some (.struct (aac.fieldsOf 28))) Sc (ahv:V.vO enc aac W 28 mZ.t mZ.ok) h2 R1 B1;obtain ⟨amC,amD,amE,amF,rfl,aja,ajb,ajc,ajd⟩:=s2;exact V.XW.law agD adI rfl (by decide) R2 B2 (V.pj.cons (y0.mono (l1.trans l2)) (V.pj.cons (y1.mono l2) (V.pj.cons y2 V.pj.nil))) ((ach ⟨R2.wf,V.JE _⟩ (s0.mono (f1.trans f2)) (s1.mono f2) aja ajb ajc ajd (ac6 x0 x1 x2 k0 k1 k2)).mono fun _ _ ⟨_,e,_⟩=>e)
set_option maxRecDepth 100000 in
theorem lifted (os:Os) (started:os.Started) (H:Type) (enc:TypeId × Value→H) :
  ReturnsInHanded {} Ut os 3 .any (Rows.rebuildExactSpec.pre6 enc aac adF Rows.rebuildExactRow.domain false) (Rows.rebuildExactSpec.post enc aac adF false true false false):=by
 refine returnsInHanded_of_change (C:=Ut) own started (by kernel_rfl) adI
  (ChangeSpec.witness6 (enc:=enc) (C:=Ut) false ⟨#[],#[.slice none 0 0,.slice none 0 0,.agg #[.int .i64 0,.slice none 0 0,.slice none 0 0,.slice none 0 0,.slice none 0 0]],[]⟩ 8 (by kernel_rfl) (by kernel_rfl) (by kernel_rfl) (by kernel_rfl)) ?_
 intro W base args ds gs before D2 hW _ _;exact contract H enc W base args ds gs before D2 hW
theorem proved:Rows.RebuildExactSaid :=
 OpenClaim.holds_of_wide 3 adF rfl rfl rfl rfl rfl rfl rfl ⟨rfl,rfl,rfl,rfl,rfl⟩ rfl rfl rfl rfl rfl (by kernel_rfl) adI (by kernel_rfl)
  (of_decide_eq_true (by kernel_rfl)) (by unfold Func.isWrapper;first | (rw [if_pos (by decide +kernel)];kernel_rfl) | (rw [if_neg (by decide +kernel)];exact ⟨rfl,rfl⟩))
  (fun os started H enc _=>lifted os started H enc)
end Go.Proofs.YtfhalkdoeiadgaaGreat.rebuildExact
