/- Of the records that stand where a catalog says, in whatever order they are found, and of the manifests of snapshots that were expired, the catalog's part on tapes is told. No conditions. -/
import Derived.Test.YtfhalkdoeiadgaaGreatRows
import Derived.Test.YtfhalkdoeiadgaaGreatG12
import Derived.Handed
import Derived.JoinedOf
open Go.Proofs.Tryz renaming checked→Ry, f4→GW, func4→MJ, prog→il, underlying3→mH, underlying51→EO, underlying52→B8
namespace Go.Proofs.YtfhalkdoeiadgaaGreat.rebuildBack
open Go.ChangeShapes Go.WideShapes Go.ChangeAt Go.RowKit Go.Wk.Lf
open Go.V (Gt Gs Ay Ax tI o6)
theorem own:ownKnob il.godebug=none:=by kernel_rfl
theorem laidOut:laidOutB il=true:=by kernel_rfl
set_option maxRecDepth 100000 in
theorem contract(H:Type)(enc:TypeId×Value→H)(W:World)(base:Nat)(args:Array Value)(ds gs:List (DataW H))(before:List MemPlace)
  (An:∀(j:Nat)t v,GW.params[j]? =some t→args[j]? =some v→Value.okWide il W .any base t v)
  (hW:DataW.Whole enc il GW.params.toList Rows.rebuildBackSpec.vars false W args.toList ds gs before) :
  Calls il 4 args W λe W'=>∃v,e = .returned v∧Rows.rebuildBackSpec.post enc il GW false true false false W args v W':=by
 refine V.aec (tb:=4) (k:=3) laidOut (by kernel_rfl) (by rw[Tryz.params4];rfl) (by rfl) Tryz.underlying4 rfl ?_ W base args ds gs before (λp hA=>?_) hW
 ·intro ds hk
  match ds,hk with
  |[_,_,_],_=>exact⟨rfl,rfl,rfl⟩
 ·rw[Tryz.params4]at hA An;obtain⟨v0,vs0,d0,ds0,p0,q0,Ai,rfl,rfl,h0,r0⟩:=trodAll_cons hA;obtain⟨v1,vs1,d1,ds1,p1,q1,rfl,rfl,rfl,h1,r1⟩:=trodAll_cons r0;obtain⟨v2,vs2,d2,ds2,p2,q2,rfl,rfl,rfl,h2,r2⟩:=trodAll_cons r1;obtain⟨rfl,rfl,rfl⟩:=trodAll_nil r2;obtain rfl:args = #[v0,v1,v2]:=by cases args;simp_all
  have lK:=An 0 _ v0 rfl rfl;obtain⟨XG,m0,u0,x0,R0,B0,l0,f0,y0,s0,k0⟩:=V.SP EO lK ((Gt EO (by kernel_rfl) (Gs mH)):V.vQ enc il W 51 (V.o6 tI) (Ay Ax)) h0 (V.Rel.nothing W) V.sf.empty;have La:=An 1 _ v1 rfl rfl;obtain⟨B3,m1,u1,x1,R1,B1,l1,f1,y1,s1,k1⟩:=V.SP B8 La ((Gt B8 (by kernel_rfl) ae2):V.vQ enc il W 52 (V.o6 mJ.t) (Ay mJ.ok)) h1 R0 B0;have BB:=An 2 _ v2 rfl rfl;obtain⟨x2,rfl,k2⟩:=V.Yw mH BB h2;exact V.XW.law adU MJ rfl (by decide) R1 B1 (V.jc.cons (y0.mono l1) (V.jc.cons y1 (V.jc.cons (.i _ x2) V.jc.nil))) ((ZJ ⟨R1.wf,V.Gm _⟩ (s0.mono f1) s1 (YU x0 x1 x2 k0 k1 k2)).mono λ_ _ ⟨_,e,_⟩=>e)
set_option maxRecDepth 100000 in
theorem lifted(os:Os)(started:os.Started)(H:Type)(enc:TypeId×Value→H) :
  ReturnsInHanded {} Ry os 4 .any (Rows.rebuildBackSpec.pre6 enc il GW Rows.rebuildBackRow.domain false) (Rows.rebuildBackSpec.post enc il GW false true false false):=by
 refine returnsInHanded_of_change (C:=Ry) own started (by kernel_rfl) MJ
  (ChangeSpec.witness6 (enc:=enc) (C:=Ry) false ⟨#[],#[.slice none 0 0,.slice none 0 0,.int .i64 0],[]⟩ 8 (by kernel_rfl) (by kernel_rfl) (by kernel_rfl) (by kernel_rfl)) ?_
 intro W base args ds gs before An hW _ _;exact contract H enc W base args ds gs before An hW
theorem proved:Rows.RebuildBackSaid :=
 OpenClaim.holds_of_wide 4 GW rfl rfl rfl rfl rfl rfl rfl ⟨rfl,rfl,rfl,rfl,rfl⟩ rfl rfl rfl rfl rfl (by kernel_rfl) MJ (by kernel_rfl)
  (of_decide_eq_true (by kernel_rfl)) (by unfold Func.isWrapper;first|(rw[if_pos (by decide+kernel)];kernel_rfl)|(rw[if_neg (by decide+kernel)];exact⟨rfl,rfl⟩))
  (λos started H enc _=>lifted os started H enc)
end Go.Proofs.YtfhalkdoeiadgaaGreat.rebuildBack
