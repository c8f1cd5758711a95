/-  -/
import Derived.Test.YtfphkkaifgnlgaaGreatG7
set_option linter.unusedVariables false
set_option linter.unusedSimpArgs false
section
namespace Go.Wk.Lf
open Go.V Go.Proofs
noncomputable section
set_option maxRecDepth 100000
variable {K:Tb} {F:Frz} {w:Hp}
def zer.k1 (x0:List Vol):Option Bool :=
  bd (zev (x0.length:Int) 1 8) fun a =>
  some a
def zer.l2 (x0:List Vol) (e:Int→Option Bool):Int→Option Bool
  | a =>
    if decide (a < (x0.length:Int)) then
      bd (ix x0 a) fun x8 =>
      bd (only (decide (x8.state=2)) (zev x8.files 1 65535) false) fun c =>
      bd (zev x8.pool 0 1) fun b =>
      bd (only (!(!b)) (zev x8.epoch 0 1048576) false) fun d =>
      if (((!b)||(!d))||((!(decide (x8.state=2)&&c))&&(!((decide (x8.state=1)||decide (x8.state=3))&&decide (x8.files=0))))) then
        some false
      else
        e (wr (a+1))
    else
      zer.k1 x0
def zer (x0:List Vol):Option Bool :=
  loop (zer.l2 x0) 0
theorem zuv {x0:List Vol} {r:Bool} {a:Val} (hA:Gd F w) (h:SlF Vol.t F a x0) (H:zer x0=some r):Ret Tryz.prog K 77 [a] w fun v w'=>∃ (F':Frz),v = .b r∧St [] w F F' [] w':=by
 refine qa1 Tryz.func77 ?_;have hS:=St.start hA;refine aq ?_;refine zac (jN (zer.k1 x0=some r) [(0,a)] hS) ?_ ?_
 ·refine ax ?_;refine lj hS (fun s:Int=>[(0,a),(7,a),(8,.i .i64 (x0.length:Int)),(9,.i .i64 s)]) H ?_;intro R J B w4 z k H;refine ay ?_;refine qy H (fun m H=>?_) (fun m H=>?_)
  ·obtain ⟨x8,x,H⟩:=zaj H;obtain ⟨_,rfl,I⟩:=elx 4 (h.mono z) x;refine ay ?_;refine al ?_;intro D U G;refine sb 0 ([.i .i64 x8.pool,.i .i64 x8.epoch,.i .i64 x8.state,.i .i64 x8.files]) ?_;intro V d;obtain ⟨M,n,H⟩:=zaj H;refine az ?_;refine gw d n (fun y=>zdt d.good y) ?_;intro X e;refine Nxt.now ?_;obtain ⟨P,q,Q,u,H⟩:=bd2 H;refine az ?_;refine lp (zdt e.good q) e ?_;intro Y f;refine aw ?_;refine gw f u (fun y=>zdt f.good y) ?_;intro ad g;refine Nxt.now ?_;refine aw ?_;refine qy H (fun l H=>?_) (fun l H=>?_)
   ·exact rz H g
   ·refine ax ?_;exact nm H (jj (pk [] g))
  ·refine zbe _ rfl ?_;exact nj ⟨H,jj k⟩
 ·rintro E S ⟨H,A,rfl,L,c⟩;obtain ⟨O,p,H⟩:=zaj H;refine aq ?_;refine lp (zdt c.good p) c ?_;intro Z j;exact rz H j
def zjz (x0:List UInt8) (x1:List UInt8):Option Int :=
  bd (zqx x0 x1) fun a =>
  some a
theorem zmq [Kn (KExt Tryz.prog) K]  {x0:List UInt8} {x1:List UInt8} {r:Int} (hA:Gd F w) (b:x0.length=32) (c:x1.length=32) (H:zjz x0 x1=some r):Ret Tryz.prog K 122 [.agg (zam x0),.agg (zam x1)] w fun v w'=>∃ (F':Frz),v = .i .i64 r∧St [] w F F' [] w':=by
 refine qa2 Tryz.func122 ?_;have hS:=St.start hA;refine qs ?_;refine bx (zam x0) ?_;intro s I y;refine bx (zam x1) ?_;intro x J d;refine ay ?_;obtain ⟨n,z,g,e⟩:=d.freezeB 1 [0] rfl (by decide) (by decide);obtain ⟨p,A,j,a⟩:=e.freezeB 0 [] rfl (by decide) (by decide);obtain ⟨G,k,H⟩:=zaj H;refine rf a ?_;refine W_slB rfl rfl rfl rfl Tryz.underlying58 Ty.zlh rfl (g.at (fun q u h=>by simpa using h)) b ?_;intro B l;refine W_slB rfl rfl rfl rfl Tryz.underlying58 Ty.zlh rfl (j.at (fun q u h=>by simpa using h)) c ?_;intro D m;refine lq (zsz a.good (mo l) m k) a ?_;intro L f;exact rz H f
def zka (x0:Loc) (x1:Loc):Option Bool :=
  if decide (x0.vol≠x1.vol) then
    some (decide (x1.vol < x0.vol))
  else
    if decide (x0.file≠x1.file) then
      some (decide (x1.file < x0.file))
    else
      some (decide (x1.off < x0.off))
theorem zsy {x0:Loc} {x1:Loc} {r:Bool} (hA:Gd F w) (H:zka x0 x1=some r):Ret Tryz.prog K 159 [.agg (Loc.cells x0),.agg (Loc.cells x1)] w fun v w'=>∃ (F':Frz),v = .b r∧St [] w F F' [] w':=by
 refine qa2 Tryz.func159 ?_;have hS:=St.start hA;refine qs ?_;refine bx ([.i .i64 x0.vol,.i .i64 x0.file,.i .i64 x0.off,.i .i64 x0.len]) ?_;intro e h g;refine bx ([.i .i64 x1.vol,.i .i64 x1.file,.i .i64 x1.off,.i .i64 x1.len]) ?_;intro f j a;refine ay ?_;refine qy H (fun c H=>?_) (fun c H=>?_)
 ·exact rz H a
 ·refine aq ?_;refine qy H (fun d H=>?_) (fun d H=>?_)
  ·exact rz H a
  ·refine ax ?_;exact rz H a
def zdw.k1:Option Bool :=
  some true
def zdw.l2 (x0:Catalog) (x1:List Loc) (h:Int→Option Bool):Int→Option Bool
  | b =>
    if decide (b < (x1.length:Int)) then
      bd (ix x1 b) fun x8 =>
      bd (zev x8.vol 0 (wr ((x0.vols.length:Int) - 1))) fun a =>
      bd (only (!(!a)) (ix x0.vols x8.vol) (Vol.mk 0 0 0 0)) fun c =>
      bd (only (!((!a)||decide (c.state≠2))) (ix x0.vols x8.vol) (Vol.mk 0 0 0 0)) fun i =>
      bd (only (!((!a)||decide (c.state≠2))) (zev x8.file 1 i.files) false) fun d =>
      bd (only (!(((!a)||decide (c.state≠2))||(!d))) (zev x8.off 0 16777215) false) fun e =>
      bd (only (!((((!a)||decide (c.state≠2))||(!d))||(!e))) (zev x8.len 13 8013) false) fun f =>
      bd (only ((!(((((!a)||decide (c.state≠2))||(!d))||(!e))||(!f)))&&decide (0 < b)) (ix x1 (wr (b - 1))) (Loc.mk 0 0 0 0)) fun j =>
      bd (only ((!(((((!a)||decide (c.state≠2))||(!d))||(!e))||(!f)))&&decide (0 < b)) (zka x8 j) false) fun g =>
      if ((((((!a)||decide (c.state≠2))||(!d))||(!e))||(!f))||(decide (0 < b)&&(!g))) then
        some false
      else
        h (wr (b+1))
    else
      zdw.k1
def zdw (x0:Catalog) (x1:List Loc):Option Bool :=
  if decide (200 < (x1.length:Int)) then
    some false
  else
    loop (zdw.l2 x0 x1) 0
set_option maxHeartbeats 2000000 in
theorem zkn {x0:Catalog} {x1:List Loc} {r:Bool} {p:Val} {x:Val} {z:Val} {A:Val} {d:Val} (hA:Gd F w) (ai:SlF Snap.t F p x0.snaps) (aj:SlF Chunk.t F x x0.chunks) (ak:SlF Exp.t F z x0.exps) (a:SlF Vol.t F A x0.vols) (e:SlF Loc.t F d x1) (H:zdw x0 x1=some r):Ret Tryz.prog K 123 [.agg (Catalog.cells x0 p x z A),d] w fun v w'=>∃ (F':Frz),v = .b r∧St [] w F F' [] w':=by
 refine qa2 Tryz.func123 ?_;have hS:=St.start hA;refine qs ?_;refine bx ([.i .i64 x0.seq,p,x,z,A]) ?_;intro G w1 f;refine ay ?_;refine qy H (fun P H=>?_) (fun P H=>?_)
 ·exact rz H f
 ·refine qk ?_;refine zac (jO (zdw.k1=some r) [] f []) ?_ ?_
  ·refine ax ?_;refine lj f (fun s:Int=>[(1,d),(2,pl G 0),(10,d),(11,.i .i64 (x1.length:Int)),(12,.i .i64 s)]) H ?_;intro a6 i5 F4 w4 Z J H;refine ay ?_;refine qy H (fun Q H=>?_) (fun Q H=>?_)
   ·obtain ⟨x8,Y,H⟩:=zaj H;obtain ⟨_,rfl,ap⟩:=elx 4 (e.mono Z) Y;refine ay ?_;refine al ?_;intro ah a8 am;refine qc ?_;refine sb 0 ([.i .i64 x8.vol,.i .i64 x8.file,.i .i64 x8.off,.i .i64 x8.len]) ?_;intro aC j;refine ay ?_;obtain ⟨a1,R,aR,m,H⟩:=bd2 H;obtain ⟨aT,n,a2,S,H⟩:=bd2 H;obtain ⟨a3,U,a4,V,H⟩:=bd2 H;obtain ⟨aU,D,a5,X,H⟩:=bd2 H;refine rf j ?_;refine au ?_;refine lq (zdt j.good R) j ?_;intro aD B;refine aw ?_;refine ge (mo a) m ?_;refine ge (mo a) m ?_;refine ge (mo a) m ?_;refine aw ?_;refine ge (mo a) n ?_;refine ge (mo a) n ?_;refine ge (mo a) n ?_;refine gw B S (fun y=>zdt B.good y) ?_;intro aK k;refine qw k ?_;refine aw ?_;refine gw k U (fun y=>zdt k.good y) ?_;intro aO l;refine qw l ?_;refine aw ?_;refine gw l V (fun y=>zdt l.good y) ?_;intro aP c;refine qw c ?_;refine aw ?_;refine W_gsc (v:=.agg (Loc.cells x8)) rfl rfl rfl rfl (fun ⟨L,M,_⟩=>?_) ?_
    ·rw [L,M];exact (qq (zdx 0 (Loc.cells x8) Ty.ztb Ty.zhu (Nat.zero_lt_succ _) rfl c rfl (fun q u h=>zdp (post:=[]) rfl h)) ·)
    refine aw ?_;refine gec (mo e) D ?_;refine gec (mo e) D ?_;refine gwc c X (fun y=>zsy c.good y) ?_;intro a9 g;refine qw g ?_;refine aw ?_;refine qy H (fun O H=>?_) (fun O H=>?_)
    ·exact rz H g
    ·refine ax ?_;exact nm H (jj (pk [1] g))
   ·refine zbe _ rfl ?_;exact nj ⟨H,jj (pk [] J)⟩
  ·rintro E w3 ⟨H,F3,rfl,a0,I⟩;exact rz H I
def zds.k1 (x0:Catalog):Option Bool :=
  some (decide ((x0.chunks.length:Int)≤200))
def zds.l2 (x0:Catalog) (e:Int→Option Bool):Int→Option Bool
  | a =>
    if decide (a < (x0.chunks.length:Int)) then
      bd (ix x0.chunks a) fun x7 =>
      bd (only (decide (0 < a)) (ix x0.chunks (wr (a - 1))) (Chunk.mk (List.replicate 32 (0:UInt8)) false [] [])) fun f =>
      bd (only (decide (0 < a)) (zjz f.id x7.id) 0) fun b =>
      bd (only (!(decide (0 < a)&&decide (0≤b))) (zdw x0 x7.locs) false) fun c =>
      bd (only ((!(((decide (0 < a)&&decide (0≤b))||(!c))||((!x7.staged)&&(decide (0 < (x7.data.length:Int))||decide ((x7.locs.length:Int)=0)))))&&x7.staged) (zev (x7.data.length:Int) 1 64) false) fun d =>
      if ((((decide (0 < a)&&decide (0≤b))||(!c))||((!x7.staged)&&(decide (0 < (x7.data.length:Int))||decide ((x7.locs.length:Int)=0))))||(x7.staged&&(!d))) then
        some false
      else
        e (wr (a+1))
    else
      zds.k1 x0
def zds (x0:Catalog):Option Bool :=
  loop (zds.l2 x0) 0
set_option maxHeartbeats 2000000 in
theorem zry [Kn (KExt Tryz.prog) K]  {x0:Catalog} {r:Bool} {f:Val} {c:Val} {g:Val} {j:Val} (hA:Gd F w) (R:SlF Snap.t F f x0.snaps) (a:SlF Chunk.t F c x0.chunks) (S:SlF Exp.t F g x0.exps) (U:SlF Vol.t F j x0.vols) (H:zds x0=some r):Ret Tryz.prog K 78 [.agg (Catalog.cells x0 f c g j)] w fun v w'=>∃ (F':Frz),v = .b r∧St [] w F F' [] w':=by
 refine qa1 Tryz.func78 ?_;have hS:=St.start hA;refine qs ?_;refine bx ([.i .i64 x0.seq,f,c,g,j]) ?_;intro G w1 I;refine au ?_;refine zac (jN (zds.k1 x0=some r) [(1,pl G 0)] I) ?_ ?_
 ·refine ax ?_;refine lj I (fun s:Int=>[(1,pl G 0),(6,c),(7,.i .i64 (x0.chunks.length:Int)),(8,.i .i64 s)]) H ?_;intro ba i4 F3 w3 B J H;refine ay ?_;refine qy H (fun Z H=>?_) (fun Z H=>?_)
  ·obtain ⟨x7,a1,H⟩:=zaj H;obtain ⟨_,⟨P,Q,rfl,ae,aT,a0⟩,aJ⟩:=elx 35 (a.mono B) a1;refine ay ?_;refine xm (zis (cs:=zam (List.replicate 32 (0:UInt8))++([.b false,.sl none 0 (.k 0),.sl none 0 (.k 0)]:List Val)) Ty.ztk rfl J) ?_;rintro _ w9 ⟨g9,rfl,aH⟩;refine qc ?_;refine sb 0 (zam x7.id++([.b x7.staged,P,Q]:List Val)) ?_;intro bc d;refine ay ?_;obtain ⟨D,e,aV,ah,H⟩:=bd2 H;obtain ⟨aX,ai,aY,aj,H⟩:=bd2 H;have n:(D.id).length=32:=by
    rcases Bool.eq_false_or_eq_true (decide (0 < i4)) with z | z
    ·have M:=e;rw [zck z] at M;obtain ⟨aP,a2⟩:=zaf M;obtain ⟨a9,ak,A⟩:=(a.mono B).el a2;obtain ⟨a5,a6,rfl,n,ap,ar⟩:=ak;replace A:=qj 35 A;have aK:=A.ixd;exact n
    ·have hy:=e;rw [zel z] at hy;obtain rfl:=oi hy
     rfl
   refine rf d ?_;refine aw ?_;refine ge (mo a) e ?_;refine ge (mo a) e ?_;refine W_gs (v:=.agg (zam D.id)) rfl rfl rfl rfl (fun ⟨L,_⟩=>?_) ?_
   ·rw [L];intro hK;have O:=e;rw [zck L] at O;obtain ⟨aR,a3⟩:=zaf O;obtain ⟨aC,am,m⟩:=(a.mono B).el a3;obtain ⟨a5,a6,rfl,n,ap,ar⟩:=am;replace m:=qj 35 m;have aO:=m.ixd;refine qq (zoj 0 (zam D.id) Ty.ziu Ty.zfq rfl (m.mono d.agree) (by first | omega | rfl) rfl (Nat.le_of_ble_eq_true rfl)) ?_;exact hK
   refine aw ?_;refine W_gs (v:=.agg (zam x7.id)) rfl rfl rfl rfl (fun ⟨X,_⟩=>?_) ?_
   ·rw [X];exact (qq (zdx 0 (zam x7.id) Ty.ziu Ty.zfq (Nat.zero_lt_succ _) rfl d rfl (fun q u h=>zdp (post:=[.b x7.staged,P,Q]) rfl h)) ·)
   refine gw d ah (fun y=>zmq d.good n ae y) ?_;intro bg l;refine qw l ?_;refine aw ?_;refine W_gs (v:=.agg (Catalog.cells x0 f c g j)) rfl rfl rfl rfl (fun ⟨Y,_⟩=>?_) ?_
   ·rw [Y];exact (qq (zdx 1 (Catalog.cells x0 f c g j) Ty.zjo Ty.zgk (Nat.zero_lt_succ _) rfl l rfl (fun q u h=>zdp (post:=[]) rfl h)) ·)
   refine aw ?_;refine gw l ai (fun y=>zkn l.good (mo R) (mo a) (mo S) (mo U) a0 y) ?_;intro bh p;refine qw p ?_;refine aw ?_;refine gwc p aj (fun y=>zdt p.good y) ?_;intro bj x;refine qw x ?_;refine aw ?_;refine qy H (fun ad H=>?_) (fun ad H=>?_)
   ·exact rz H x
   ·refine ax ?_;exact nm H (jj (pk [1] x))
  ·refine zbe _ rfl ?_;exact nj ⟨H,jj J⟩
 ·rintro E w2 ⟨H,F2,rfl,aU,V⟩;exact rz H V
def zgg.k1:Option Bool :=
  some true
def zgg.l2 (x0:List UInt8) (c:Int→Option Bool):Int→Option Bool
  | a =>
    if decide (a < (x0.length:Int)) then
      bd (ix x0 a) fun b =>
      bd (only (!decide ((b.toNat:Int) < 33)) (ix x0 a) 0) fun d =>
      if (decide ((b.toNat:Int) < 33)||decide (126 < (d.toNat:Int))) then
        some false
      else
        c (wr (a+1))
    else
      zgg.k1
def zgg (x0:List UInt8):Option Bool :=
  if (decide ((x0.length:Int) < 1)||decide (20 < (x0.length:Int))) then
    some false
  else
    loop (zgg.l2 x0) 0
theorem zse {x0:List UInt8} {r:Bool} (hA:Gd F w) (H:zgg x0=some r):Ret Tryz.prog K 160 [.s x0] w fun v w'=>∃ (F':Frz),v = .b r∧St [] w F F' [] w':=by
 refine qa1 Tryz.func160 ?_;have hS:=St.start hA;refine aZ ?_;refine qy H (fun g H=>?_) (fun g H=>?_)
 ·exact rz H hS
 ·refine qk ?_;refine zac (jN (zgg.k1=some r) [] hS) ?_ ?_
  ·refine ax ?_;refine lj hS (fun s:Int=>[(0,.s x0),(13,.i .i64 (x0.length:Int)),(14,.i .i64 s)]) H ?_;intro B y x G A a H;refine ay ?_;refine qy H (fun h H=>?_) (fun h H=>?_)
   ·obtain ⟨I,l,q,m,H⟩:=bd2 H;refine ay ?_;obtain ⟨j,n⟩:=zaf l;refine qr (O_ixS Tryz.underlying9 rfl rfl j n) ?_;refine aw ?_;refine W_gs (v:=.i .u8 (q.toNat:Int)) rfl rfl rfl rfl (fun ⟨c,_⟩=>?_) ?_
    ·rw [c];intro hK;have d:=m;rw [zck (by first | rfl | (rw [c];first | done | rfl) | simp [c])] at d;obtain ⟨k,p⟩:=zaf d;refine qr (O_ixS Tryz.underlying9 rfl rfl k p) ?_;exact hK
    refine aw ?_;refine qy H (fun f H=>?_) (fun f H=>?_)
    ·exact rz H a
    ·refine ax ?_;exact nm H (jj a)
   ·refine zbe _ rfl ?_;exact nj ⟨H,jj a⟩
  ·rintro E D ⟨H,u,rfl,z,e⟩;exact rz H e
def zjv (x0:Part):Option Bool :=
  bd (zgg x0.path) fun a =>
  some ((((a&&decide (0≤x0.size))&&decide (x0.size≤200))&&decide ((x0.ids.length:Int)≤25))&&(decide ((x0.ids.length:Int)=0) == decide (x0.size=0)))
theorem zsv {x0:Part} {r:Bool} {a:Val} (hA:Gd F w) (h:SlF tId F a x0.ids) (H:zjv x0=some r):Ret Tryz.prog K 161 [.agg (Part.cells x0 a)] w fun v w'=>∃ (F':Frz),v = .b r∧St [] w F F' [] w':=by
 refine qa1 Tryz.func161 ?_;have hS:=St.start hA;refine qs ?_;refine bx ([.s x0.path,.i .i64 x0.size,a]) ?_;intro g k c;obtain ⟨j,f,H⟩:=zaj H;refine ax ?_;refine lp (zse c.good f) c ?_;intro l d;refine aw ?_;refine W_gs (v:=.b (decide ((x0.ids.length:Int)=0) == decide (x0.size=0))) rfl rfl rfl rfl (fun ⟨e,_⟩=>?_) ?_
 ·rw [e];exact (qr (zbc rfl rfl (bB_eql Tryz.underlying4)) ·)
 refine aw ?_;exact rz H d
def zdr.k1:Option Int :=
  some 0
def zdr.l2 (x0:Manifest) (e:Int→Option Int):Int→Option Int
  | a =>
    if decide (a < (x0.parts.length:Int)) then
      bd (ix x0.parts a) fun b =>
      bd (zjv b) fun c =>
      bd (only ((!(!c))&&decide (0 < a)) (ix x0.parts (wr (a - 1))) (Part.mk [] 0 [])) fun d =>
      if ((!c)||(decide (0 < a)&&(sLt b.path d.path||b.path == d.path))) then
        some 1
      else
        e (wr (a+1))
    else
      zdr.k1
def zdr (x0:Manifest):Option Int :=
  bd (zgg x0.name) fun a =>
  if ((!a)||decide (6 < (x0.parts.length:Int))) then
    some 1
  else
    loop (zdr.l2 x0) 0
theorem zrn {x0:Manifest} {r:Int} {c:Val} (hA:Gd F w) (a:SlF Part.t F c x0.parts) (H:zdr x0=some r):Ret Tryz.prog K 124 [.agg (Manifest.cells x0 c)] w fun v w'=>∃ (F':Frz),v = .i .i64 r∧St [] w F F' [] w':=by
 refine qa1 Tryz.func124 ?_;have hS:=St.start hA;refine qs ?_;refine bx ([.s x0.name,c]) ?_;intro l V g;obtain ⟨S,A,H⟩:=zaj H;refine ay ?_;refine lp (zse g.good A) g ?_;intro w3 d;refine aw ?_;refine qy H (fun y H=>?_) (fun y H=>?_)
 ·exact rz H d
 ·refine qk ?_;refine zac (jO (zdr.k1=some r) [] d []) ?_ ?_
  ·refine ax ?_;refine lj d (fun s:Int=>[(1,pl l 0),(16,c),(17,.i .i64 (x0.parts.length:Int)),(18,.i .i64 s)]) H ?_;intro U P I X G m H;refine ay ?_;refine qy H (fun p H=>?_) (fun p H=>?_)
   ·obtain ⟨f,D,H⟩:=zaj H;obtain ⟨_,⟨k,rfl,B⟩,O⟩:=elx 3 (a.mono G) D;refine ay ?_;refine al ?_;intro L Y M;refine qc ?_;refine sb 0 ([.s f.path,.i .i64 f.size,k]) ?_;intro Z b;refine ay ?_;obtain ⟨R,z,ai,e,H⟩:=bd2 H;refine rf b ?_;refine qq (zdx 0 (Part.cells f k) Ty.agg138 Ty.zpf (Nat.zero_lt_succ _) rfl b rfl (fun q u h=>zdp (post:=[]) rfl h)) ?_;refine lq (zsv b.good B z) b ?_;intro ad j;refine aw ?_;refine gec (mo a) e ?_;refine gec (mo a) e ?_;refine gec (mo a) e ?_;refine aw ?_;refine qy H (fun x H=>?_) (fun x H=>?_)
    ·exact rz H j
    ·refine ax ?_;exact nm H (jj (pk [1] j))
   ·refine zbe _ rfl ?_;exact nj ⟨H,jj (pk [] m)⟩
  ·rintro E w9 ⟨H,J,rfl,Q,n⟩;exact rz H n
def zhf (x0:Chunk) (x1:List UInt8):Option Int :=
  bd (zjz x0.id x1) fun a =>
  some a
theorem zky [Kn (KExt Tryz.prog) K]  {x0:Chunk} {x1:List UInt8} {r:Int} {a:Val} {c:Val} (hA:Gd F w) (m:SlF tB F a x0.data) (n:SlF Loc.t F c x0.locs) (j:(x0.id).length=32) (e:x1.length=32) (H:zhf x0 x1=some r):Ret Tryz.prog K 135 [.agg (Chunk.cells x0 a c),.agg (zam x1)] w fun v w'=>∃ (F':Frz),v = .i .i64 r∧St [] w F F' [] w':=by
 refine qa2 Tryz.func135 ?_;have hS:=St.start hA;refine qs ?_;refine bx (zam x0.id++([.b x0.staged,a,c]:List Val)) ?_;intro k x p;refine bx (zam x1) ?_;intro l y d;obtain ⟨s,g,H⟩:=zaj H;refine ax ?_;refine qr (zdx 1 (zam x0.id) Ty.ziu Ty.zfq (Nat.zero_lt_succ _) rfl d rfl (fun q u h=>zdp (post:=[.b x0.staged,a,c]) rfl h)) ?_;refine au ?_;refine lp (zmq d.good j e g) d ?_;intro z f;exact rz H f
def zak.k1 (x0:List Chunk) (x1:List UInt8) (a:Int):Option (Int × Bool) :=
  bd (only (decide (a < (x0.length:Int))) (ix x0 a) (Chunk.mk (List.replicate 32 (0:UInt8)) false [] [])) fun x4 =>
  bd (only (decide (a < (x0.length:Int))) (zhf x4 x1) 0) fun b =>
  some (a,(decide (a < (x0.length:Int))&&decide (b=0)))
def zak.l2 (x0:List Chunk) (x1:List UInt8) (c:(Int × Int)→Option (Int × Bool)):(Int × Int)→Option (Int × Bool)
  | (a,b) =>
    if decide (a < b) then
      bd (ix x0 (wr ((wu (wr (a+b))) / 2 ^ (1:Int).toNat))) fun e =>
      bd (zhf e x1) fun d =>
      if decide (d < 0) then
        c (wr (wr ((wu (wr (a+b))) / 2 ^ (1:Int).toNat)+1),b)
      else
        c (a,wr ((wu (wr (a+b))) / 2 ^ (1:Int).toNat))
    else
      zak.k1 x0 x1 a
def zak (x0:List Chunk) (x1:List UInt8):Option (Int × Bool) :=
  loop (zak.l2 x0 x1) (0,(x0.length:Int))
theorem zdz [Kn (KExt Tryz.prog) K]  {x0:List Chunk} {x1:List UInt8} {r:Int × Bool} {k:Val} (hA:Gd F w) (x:SlF Chunk.t F k x0) (y:x1.length=32) (H:zak x0 x1=some r):Ret Tryz.prog K 134 [k,.agg (zam x1),.f 135 []] w fun v w'=>∃ (F':Frz),v = .tup [.i .i64 r.1,.b r.2]∧St [] w F F' [] w':=by
 refine qa3 Tryz.func134 ?_;have hS:=St.start hA;refine qs ?_;refine bx (zam x1) ?_;intro n w1 p;refine au ?_;refine aq ?_;refine aq ?_;refine zac (fun E wq=>∃ e:Int,zak.k1 x0 x1 e=some r ∧ ∃ (d:Frz),E=[(0,k),(2,.f 135 []),(4,pl n 0),(8,.i .i64 (x0.length:Int)),(9,.i .i64 e)]∧F.le d∧Same p d wq) ?_ ?_
 ·refine zfa ?_;refine zbo (fun (s:Int × Int) E wq=>∃ (l:Frz),E=[(0,k),(2,.f 135 []),(4,pl n 0),(8,.i .i64 (x0.length:Int)),(9,.i .i64 s.1),(10,.i .i64 s.2)]∧F.le l∧Same p l wq) H ?_ ?_
  ·exact lo (jj p)
  ·rintro a4 ⟨ah,a1⟩ E a9 hI H
   try dsimp only at hI
   obtain ⟨l,rfl,ai,g⟩:=hI;refine ay ?_;refine qy H (fun I H=>?_) (fun I H=>?_)
   ·refine ax ?_;refine qr (zgu Tryz.underlying3 Tryz.underlying26 rfl (rfl)) ?_;refine qr (zbc rfl rfl (zqy (by decide) (by decide))) ?_;refine qr (zgu Tryz.underlying26 Tryz.underlying3 rfl (rfl)) ?_;refine ay ?_;obtain ⟨aJ,Z,a3,R,H⟩:=bd2 H;refine rf g ?_;obtain ⟨_,⟨a5,a6,rfl,M,U,V⟩,a0⟩:=elx 35 (x.mono ai) Z;refine au ?_;refine qq (zdx 0 (zam x1) Ty.ziu Ty.zfq (Nat.zero_lt_succ _) rfl g rfl (fun q u h=>zdp (post:=[]) rfl h)) ?_;refine lq (zky g.good U V M y R) g ?_;intro aD z;refine au ?_;refine qy H (fun J H=>?_) (fun J H=>?_)
    ·refine ax ?_;exact nm H (jj z)
    ·refine ax ?_;exact nm H (jj z)
   ·refine zbe _ rfl ?_;exact nj ⟨ah,H,jj g⟩
 ·rintro E w2 ⟨e,H,d,rfl,aj,c⟩;refine zfl ?_;obtain ⟨x4,ad,r6,S,H⟩:=bd2 H;refine zja (fun E wq=>E=[(6,.i .i64 e),(7,.b (decide (e < (x0.length:Int))&&decide (r6=0)))] ∧ ∃ m:Frz,d.le m∧St [] w F m [.box n (zam x1)] wq) ?_ ?_
  ·
   rcases Bool.eq_false_or_eq_true (decide (e < (x0.length:Int))) with a | a
   ·refine rf c ?_;refine q3 ?_;refine qr (zbc rfl rfl ziy) ?_;refine qc ?_;refine qvb 39 a ?_;refine q3 ?_;have B:=ad;rw [zck a] at B;obtain ⟨P,ae⟩:=zaf B;obtain ⟨ar,Q,j⟩:=(x.mono aj).el ae;obtain ⟨am,ap,rfl,O,X,Y⟩:=Q;replace j:=qj 35 j;have L:=j.ixd;refine qi Tryz.underlying35 Ty.zdv L P ?_;refine qq (zoj 0 (Chunk.cells x4 am ap) Ty.agg60 Ty.zdv rfl (j.mono c.agree) (by first | omega | rfl) rfl (Nat.le_of_ble_eq_true rfl)) ?_;refine qq (zdx 0 (zam x1) Ty.ziu Ty.zfq (Nat.zero_lt_succ _) rfl c rfl (fun q u h=>zdp (post:=[]) rfl h)) ?_;have A:=S;rw [zck a] at A;refine lq (zky c.good X Y O y A) c ?_;intro a8 D;refine qr (zbc rfl rfl zhh) ?_;refine q3 ?_;refine zew ?_;exact zdy _ ⟨rfl,d,(Frz.le.refl _),D⟩ ⟨rfl,(zbu rfl (by first | rfl | (rw [a];first | done | rfl) | simp [a])),trivial⟩
   ·refine rf c ?_;refine q3 ?_;refine qr (zbc rfl rfl ziy) ?_;refine qc ?_;refine qvb 39 a ?_;refine qz2 ?_;refine qz2 ?_;refine qz2 ?_;refine qz2 ?_;refine q3 ?_;refine zew ?_;exact zdy _ ⟨rfl,d,(Frz.le.refl _),c⟩ ⟨rfl,(zbu rfl (by first | rfl | (rw [a];first | done | rfl) | simp [a])),trivial⟩
  rintro E w7 ⟨rfl,m,a2,G⟩;refine zgl ?_;exact rz H G
def zir (x0:List Chunk) (x1:List UInt8):Option (Int × Bool) :=
  bd (zak x0 x1) fun a =>
  some (a.1,a.2)
theorem zmr [Kn (KExt Tryz.prog) K]  {x0:List Chunk} {x1:List UInt8} {r:Int × Bool} {c:Val} (hA:Gd F w) (d:SlF Chunk.t F c x0) (e:x1.length=32) (H:zir x0 x1=some r):Ret Tryz.prog K 85 [c,.agg (zam x1)] w fun v w'=>∃ (F':Frz),v = .tup [.i .i64 r.1,.b r.2]∧St [] w F F' [] w':=by
 refine qa2 Tryz.func85 ?_;have hS:=St.start hA;refine qs ?_;refine bx (zam x1) ?_;intro h k a;obtain ⟨j,g,H⟩:=zaj H;refine ax ?_;refine lp (zdz a.good d e g) a ?_;intro l f;exact rz H f
def zbi.k1 (x0:Catalog):Option Bool :=
  some (decide ((x0.snaps.length:Int)≤8))
def zbi.k3 (a:Int) (c:(Int × ((List UInt8)→Option Bool))→Option Bool) (b:(List UInt8)→Option Bool):Option Bool :=
  c (wr (a+1),b)
def zbi.k5 (a:Int) (b:Int→Option Bool):Option Bool :=
  b (wr (a+1))
def zbi.l6 (x0:Catalog) (c:Int) (e:Int→Option Bool) (b:Part) (f:Int→Option Bool):Int→Option Bool
  | a =>
    if decide (a < (b.ids.length:Int)) then
      bd (ix b.ids a) fun g =>
      bd (zir x0.chunks g) fun d =>
      if (!d.2) then
        some false
      else
        f (wr (a+1))
    else
      zbi.k5 c e
def zbi.l4 (x0:Catalog) (c:Int) (d:(List UInt8)→Option Bool) (e:(Int × ((List UInt8)→Option Bool))→Option Bool) (b:Snap) (f:Int→Option Bool):Int→Option Bool
  | a =>
    if decide (a < (b.man.parts.length:Int)) then
      bd (ix b.man.parts a) fun g =>
      loop (zbi.l6 x0 a f g) 0
    else
      zbi.k3 c e (mput d b.man.name true)
def zbi.l2 (x0:Catalog) (h:(Int × ((List UInt8)→Option Bool))→Option Bool):(Int × ((List UInt8)→Option Bool))→Option Bool
  | (b,c) =>
    if decide (b < (x0.snaps.length:Int)) then
      bd (ix x0.snaps b) fun a =>
      bd (zev a.seq 0 (wr (x0.seq - 1))) fun d =>
      bd (only ((!(!d))&&decide (0 < b)) (ix x0.snaps (wr (b - 1))) (Snap.mk 0 (Manifest.mk [] []) [])) fun e =>
      bd (only (!(((!d)||(decide (0 < b)&&decide (a.seq≤e.seq)))||((c a.man.name).getD false))) (zdr a.man) 0) fun f =>
      bd (only (!((((!d)||(decide (0 < b)&&decide (a.seq≤e.seq)))||((c a.man.name).getD false))||decide (f≠0))) (zdw x0 a.locs) false) fun g =>
      if (((((!d)||(decide (0 < b)&&decide (a.seq≤e.seq)))||((c a.man.name).getD false))||decide (f≠0))||(!g)) then
        some false
      else
        loop (zbi.l4 x0 b c h a) 0
    else
      zbi.k1 x0
def zbi (x0:Catalog):Option Bool :=
  loop (zbi.l2 x0) (0,(mnil:(List UInt8)→Option Bool))
set_option maxHeartbeats 2000000 in
theorem zsx [Kn (KExt Tryz.prog) K]  {x0:Catalog} {r:Bool} {a:Val} {e:Val} {f:Val} {g:Val} (hA:Gd F w) (l:SlF Snap.t F a x0.snaps) (Q:SlF Chunk.t F e x0.chunks) (ai:SlF Exp.t F f x0.exps) (aj:SlF Vol.t F g x0.vols) (H:zbi x0=some r):Ret Tryz.prog K 79 [.agg (Catalog.cells x0 a e f g)] w fun v w'=>∃ (F':Frz),v = .b r∧St [] w F F' [] w':=by
 refine qa1 Tryz.func79 ?_;have hS:=St.start hA;refine qs ?_;refine bx ([.i .i64 x0.seq,a,e,f,g]) ?_;intro d w1 ak;refine ax ?_;refine xm (E_mkmap kS (.of .b) ak) ?_;rintro _ w2 ⟨j,rfl,G⟩;refine au ?_;refine zac (jO (zbi.k1 x0=some r) [(1,pl d 0)] G [.box d [.i .i64 x0.seq,a,e,f,g]]) ?_ ?_
 ·refine ax ?_;refine zbo (fun (s:Int × ((List UInt8)→Option Bool)) E wq=>∃ (p:Frz),E=[(1,pl d 0),(3,.m (some j)),(14,a),(15,.i .i64 (x0.snaps.length:Int)),(16,.i .i64 s.1)]∧F.le p∧Also G [.map kS (.of .b) j s.2,.box d [.i .i64 x0.seq,a,e,f,g]] p wq) H ?_ ?_
  ·exact lo (jj G)
  ·rintro aY ⟨n,O⟩ E w4 hI H
   try dsimp only at hI
   obtain ⟨p,rfl,aU,R⟩:=hI;refine ay ?_;refine qy H (fun a5 H=>?_) (fun a5 H=>?_)
   ·refine qk ?_;refine zac (fun E wq=>∃ M:(List UInt8)→Option Bool,zbi.k3 n aY M=some r ∧ ∃ (B:Frz),E=[(1,pl d 0),(3,.m (some j)),(14,a),(15,.i .i64 (x0.snaps.length:Int)),(16,.i .i64 n)]∧p.le B∧Also R [.map kS (.of .b) j M,.box d [.i .i64 x0.seq,a,e,f,g]] B wq) ?_ ?_
    ·obtain ⟨c,aP,H⟩:=zaj H;obtain ⟨_,⟨k,ad,rfl,Z,aK⟩,bl⟩:=elx 4 (l.mono aU) aP;refine ax ?_;refine al ?_;intro bf b0 bi;refine qc ?_;refine sb 0 ([.i .i64 c.seq,.s c.man.name,k,ad]) ?_;intro b1 D;refine ay ?_;obtain ⟨bs,aC,bI,J,H⟩:=bd2 H;obtain ⟨bt,aD,bu,aH,H⟩:=bd2 H;refine rf D ?_;refine au ?_;refine lq (zdt D.good aC) D ?_;intro b3 x;refine aw ?_;refine gec (mo l) J ?_;refine gec (mo l) J ?_;refine gec (mo l) J ?_;refine aw ?_;refine W_gs (v:=.b ((O c.man.name).getD false)) rfl rfl rfl rfl (fun ⟨a1,_⟩=>?_) ?_
     ·rw [a1];exact (W_h (.inr (by kernel_rfl)) rfl rfl rfl (O_look (enc:=.b) 1 c.man.name false Tryz.underlying188 (keyS Tryz.underlying9) Ty.zv4 rfl rfl x rfl) ·)
     refine aw ?_;refine W_gs (v:=.agg (Manifest.cells c.man k)) rfl rfl rfl rfl (fun ⟨a2,_⟩=>?_) ?_
     ·rw [a2];exact (qq (zdx 0 (Manifest.cells c.man k) Ty.zoy Ty.zjk (Nat.zero_lt_succ _) rfl x rfl (fun q u h=>zdp (post:=[ad]) rfl h)) ·)
     refine gw x aD (fun y=>zrn x.good Z y) ?_;intro b6 z;refine qw z ?_;refine aw ?_;refine W_gs (v:=.agg (Catalog.cells x0 a e f g)) rfl rfl rfl rfl (fun ⟨a3,_⟩=>?_) ?_
     ·rw [a3];exact (qq (zdx 2 (Catalog.cells x0 a e f g) Ty.zjo Ty.zgk (Nat.zero_lt_succ _) rfl z rfl (fun q u h=>zdp (post:=[]) rfl h)) ·)
     refine aw ?_;refine gw z aH (fun y=>zkn z.good (mo l) (mo Q) (mo ai) (mo aj) aK y) ?_;intro b7 I;refine qw I ?_;refine aw ?_;refine qy H (fun a4 H=>?_) (fun a4 H=>?_)
     ·exact rz H I
     ·refine ax ?_;refine um (E_mput 1 c.man.name true Tryz.underlying188 (keyS Tryz.underlying9) rfl rfl rfl rfl I rfl) ?_;rintro _ b8 ap;refine ax ?_;refine lj (pk [1,2] ap) (fun s:Int=>[(1,pl d 0),(3,.m (some j)),(14,a),(15,.i .i64 (x0.snaps.length:Int)),(16,.i .i64 n),(70,k),(71,.i .i64 (c.man.parts.length:Int)),(72,.i .i64 s)]) H ?_;intro ba L ah b9 aV S H;refine ay ?_;refine qy H (fun a6 H=>?_) (fun a6 H=>?_)
      ·refine qk ?_;refine zac (jN (zbi.k5 L ba=some r) [(1,pl d 0),(3,.m (some j)),(14,a),(15,.i .i64 (x0.snaps.length:Int)),(16,.i .i64 n),(70,k),(71,.i .i64 (c.man.parts.length:Int)),(72,.i .i64 L)] S) ?_ ?_
       ·obtain ⟨P,aR,H⟩:=zaj H;obtain ⟨_,⟨ae,rfl,aO⟩,bm⟩:=elx 3 (Z.mono aV) aR;refine ax ?_;refine al ?_;intro bg bB bj;refine sb 0 ([.s P.path,.i .i64 P.size,ae]) ?_;intro bC U;refine ax ?_;refine zbo (fun (s:Int) E wq=>∃ (A:Frz),E=[(1,pl d 0),(3,.m (some j)),(14,a),(15,.i .i64 (x0.snaps.length:Int)),(16,.i .i64 n),(70,k),(71,.i .i64 (c.man.parts.length:Int)),(72,.i .i64 L),(77,ae),(78,.i .i64 (P.ids.length:Int)),(79,.i .i64 s)]∧ah.le A∧Also U [.map kS (.of .b) j (mput O c.man.name true),.box d [.i .i64 x0.seq,a,e,f,g]] A wq) H ?_ ?_
        ·exact lo (jj (pk [1,2] U))
        ·rintro bw bo E bD hI H
         try dsimp only at hI
         obtain ⟨A,rfl,aX,V⟩:=hI;refine ay ?_;refine qy H (fun a7 H=>?_) (fun a7 H=>?_)
         ·obtain ⟨bb,aT,H⟩:=zaj H;obtain ⟨_,⟨rfl,a9⟩,bn⟩:=elx 32 (aO.mono aX) aT;refine ay ?_;refine xm (zis (cs:=zam (List.replicate 32 (0:UInt8))) Ty.zsc rfl V) ?_;rintro _ bF ⟨bh,rfl,bk⟩;refine sb 0 (zam bb) ?_;intro bG X;obtain ⟨bv,aJ,H⟩:=zaj H;refine ax ?_;refine lp (zmr X.good (mo Q) a9 aJ) X ?_;intro bH Y;refine ax ?_;refine qy H (fun a8 H=>?_) (fun a8 H=>?_)
          ·exact rz H Y
          ·refine ax ?_;exact nm H (jj (pk [1,2] Y))
         ·refine ax ?_;exact nj ⟨H,jj V⟩
       ·rintro E bA ⟨H,be,rfl,bq,ar⟩;refine ax ?_;exact nm H (jj ar)
      ·refine ax ?_;exact nj ⟨(mput O c.man.name true),H,jj S⟩
    ·rintro E w9 ⟨M,H,B,rfl,br,a0⟩;refine ax ?_;exact nm H (jj a0)
   ·refine zbe _ rfl ?_;exact nj ⟨H,jj (pk [1] R)⟩
 ·rintro E w3 ⟨H,F3,rfl,bp,am⟩;exact rz H am
def zpc (x0:Snap) (x1:Exp):Option Bool :=
  some (decide (x0.seq=x1.of))
theorem zrx {x0:Snap} {x1:Exp} {r:Bool} {a:Val} {c:Val} {gp1:Nat} {e:Val} (hA:Gd F w) (h:SlF Part.t F a x0.man.parts) (j:SlF Loc.t F c x0.locs) (k:SlF Loc.t F e x1.locs) (f:BxF F gp1 [.i .i64 x1.seq,.i .i64 x1.of,e]) (H:zpc x0 x1=some r):Ret Tryz.prog K 126 [.agg (Snap.cells x0 a c),pl gp1 0] w fun v w'=>∃ (F':Frz),v = .b r∧St [] w F F' [] w':=by
 refine qa2 Tryz.func126 ?_;have hS:=St.start hA;refine qs ?_;refine bx ([.i .i64 x0.seq,.s x0.man.name,a,c]) ?_;intro g l d;refine ax ?_;refine qr (zdo Ty.zjg rfl (f.mono d.agree) rfl) ?_;exact rz H d
def zas.k1:Option Int :=
  some (-1)
def zas.l2 (x0:List Snap) (d:Exp) (c:Int→Option Int):Int→Option Int
  | a =>
    if decide (a < (x0.length:Int)) then
      bd (ix x0 a) fun x6 =>
      bd (zpc x6 d) fun b =>
      if b then
        some a
      else
        c (wr (a+1))
    else
      zas.k1
def zas (x0:List Snap) (a:Exp):Option Int :=
  loop (zas.l2 x0 a) 0
theorem zfn {x0:List Snap} {a:Exp} {r:Int} {c:Val} {gp1_0:Nat} {g:Val} (hA:Gd F w) (h:SlF Snap.t F c x0) (j:SlF Loc.t F g a.locs) (l:BxF F gp1_0 [.i .i64 a.seq,.i .i64 a.of,g]) (H:zas x0 a=some r):Ret Tryz.prog K 115 [c,.f 126 [pl gp1_0 0]] w fun v w'=>∃ (F':Frz),v = .i .i64 r∧St [] w F F' [] w':=by
 refine qa2 Tryz.func115 ?_;have hS:=St.start hA;refine aq ?_;refine zac (jN (zas.k1=some r) [] hS) ?_ ?_
 ·refine ax ?_;refine lj hS (fun s:Int=>[(0,c),(1,.f 126 [pl gp1_0 0]),(7,.i .i64 (x0.length:Int)),(8,.i .i64 s)]) H ?_;intro I B z P e b H;refine ay ?_;refine qy H (fun n H=>?_) (fun n H=>?_)
  ·obtain ⟨x6,x,G,p,H⟩:=bd2 H;obtain ⟨_,⟨J,L,rfl,q,u⟩,A⟩:=elx 4 (h.mono e) x;refine ay ?_;refine lp (zrx b.good q u (mo j) (l.mono e) p) b ?_;intro O d;refine qn ?_;refine qy H (fun m H=>?_) (fun m H=>?_)
   ·exact rz H d
   ·refine ax ?_;exact nm H (jj d)
  ·refine zbe _ rfl ?_;exact nj ⟨H,jj b⟩
 ·rintro E M ⟨H,y,rfl,D,k⟩;exact rz H k
def zcc (x0:List Snap) (b:Exp):Option Bool :=
  bd (zas x0 b) fun a =>
  some (decide (0≤a))
theorem zfd {x0:List Snap} {a:Exp} {r:Bool} {c:Val} {gp1_0:Nat} {d:Val} (hA:Gd F w) (e:SlF Snap.t F c x0) (g:SlF Loc.t F d a.locs) (j:BxF F gp1_0 [.i .i64 a.seq,.i .i64 a.of,d]) (H:zcc x0 a=some r):Ret Tryz.prog K 125 [c,.f 126 [pl gp1_0 0]] w fun v w'=>∃ (F':Frz),v = .b r∧St [] w F F' [] w':=by
 refine qa2 Tryz.func125 ?_;have hS:=St.start hA;obtain ⟨l,k,H⟩:=zaj H;refine ax ?_;refine lp (zfn hS.good e g j k) hS ?_;intro m h;exact rz H h
def zes.k1 (x0:Catalog):Option Bool :=
  some (decide ((x0.exps.length:Int)≤200))
def zes.l2 (x0:Catalog) (g:Int→Option Bool):Int→Option Bool
  | a =>
    if decide (a < (x0.exps.length:Int)) then
      bd (ix x0.exps a) fun x7 =>
      bd (zev x7.seq 0 (wr (x0.seq - 1))) fun b =>
      bd (only ((!(!b))&&decide (0 < a)) (ix x0.exps (wr (a - 1))) (Exp.mk 0 0 [])) fun c =>
      bd (only (!((!b)||(decide (0 < a)&&decide (x7.seq≤c.seq)))) (zev x7.of 0 (wr (x7.seq - 1))) false) fun d =>
      bd (only (!((((!b)||(decide (0 < a)&&decide (x7.seq≤c.seq)))||(!d))||decide ((x7.locs.length:Int)=0))) (zdw x0 x7.locs) false) fun e =>
      if (((((!b)||(decide (0 < a)&&decide (x7.seq≤c.seq)))||(!d))||decide ((x7.locs.length:Int)=0))||(!e)) then
        some false
      else
        bd (zcc x0.snaps x7) fun f =>
        if f then
          some false
        else
          g (wr (a+1))
    else
      zes.k1 x0
def zes (x0:Catalog):Option Bool :=
  loop (zes.l2 x0) 0
set_option maxHeartbeats 2000000 in
theorem zuw {x0:Catalog} {r:Bool} {d:Val} {e:Val} {a:Val} {f:Val} (hA:Gd F w) (n:SlF Snap.t F d x0.snaps) (D:SlF Chunk.t F e x0.chunks) (c:SlF Exp.t F a x0.exps) (G:SlF Vol.t F f x0.vols) (H:zes x0=some r):Ret Tryz.prog K 80 [.agg (Catalog.cells x0 d e a f)] w fun v w'=>∃ (F':Frz),v = .b r∧St [] w F F' [] w':=by
 refine qa1 Tryz.func80 ?_;have hS:=St.start hA;refine qs ?_;refine bx ([.i .i64 x0.seq,d,e,a,f]) ?_;intro m w1 p;refine au ?_;refine zac (jN (zes.k1 x0=some r) [(1,pl m 0)] p) ?_ ?_
 ·refine ax ?_;refine lj p (fun s:Int=>[(1,pl m 0),(6,a),(7,.i .i64 (x0.exps.length:Int)),(8,.i .i64 s)]) H ?_;intro a4 i4 F3 w3 Y J H;refine ay ?_;refine qy H (fun O H=>?_) (fun O H=>?_)
  ·obtain ⟨x7,X,H⟩:=zaj H;obtain ⟨_,⟨Z,rfl,B⟩,ak⟩:=elx 3 (c.mono Y) X;refine ay ?_;refine al ?_;intro g9 w9 aj;refine qc ?_;refine sb 0 ([.i .i64 x7.seq,.i .i64 x7.of,Z]) ?_;intro a6 j;refine ay ?_;obtain ⟨a0,R,aK,l,H⟩:=bd2 H;obtain ⟨a1,S,a2,U,H⟩:=bd2 H;refine rf j ?_;refine au ?_;refine lq (zdt j.good R) j ?_;intro a7 x;refine aw ?_;refine gec (mo c) l ?_;refine gec (mo c) l ?_;refine gec (mo c) l ?_;refine aw ?_;refine gw x S (fun y=>zdt x.good y) ?_;intro aC g;refine qw g ?_;refine aw ?_;refine W_gs (v:=.agg (Catalog.cells x0 d e a f)) rfl rfl rfl rfl (fun ⟨L,_⟩=>?_) ?_
   ·rw [L];exact (qq (zdx 1 (Catalog.cells x0 d e a f) Ty.zjo Ty.zgk (Nat.zero_lt_succ _) rfl g rfl (fun q u h=>zdp (post:=[]) rfl h)) ·)
   refine aw ?_;refine gw g U (fun y=>zkn g.good (mo n) (mo D) (mo c) (mo G) B y) ?_;intro aD k;refine qw k ?_;refine aw ?_;refine qy H (fun P H=>?_) (fun P H=>?_)
   ·exact rz H k
   ·refine ay ?_;obtain ⟨ah,ar,M,z⟩:=k.freezeB 0 [1] rfl (by decide) (by decide);obtain ⟨a3,V,H⟩:=zaj H;refine ax ?_;refine lp (zfd z.good (mo n) (mo B) M V) z ?_;intro aH A;refine qn ?_;refine qy H (fun Q H=>?_) (fun Q H=>?_)
    ·exact rz H A
    ·refine ax ?_;exact nm H (jj A)
  ·refine zbe _ rfl ?_;exact nj ⟨H,jj J⟩
 ·rintro E w2 ⟨H,F2,rfl,ap,I⟩;exact rz H I
def zgs (x0:Catalog):Option Int :=
  bd (zev x0.seq 0 1073741824) fun a =>
  bd (only a (zer x0.vols) false) fun b =>
  bd (only (a&&b) (zds x0) false) fun c =>
  bd (only ((a&&b)&&c) (zbi x0) false) fun d =>
  bd (only (((a&&b)&&c)&&d) (zes x0) false) fun e =>
  if ((((a&&b)&&c)&&d)&&e) then
    some 0
  else
    some 1
theorem zia [Kn (KExt Tryz.prog) K]  {x0:Catalog} {r:Int} {e:Val} {f:Val} {g:Val} {h:Val} (hA:Gd F w) (b:SlF Snap.t F e x0.snaps) (c:SlF Chunk.t F f x0.chunks) (d:SlF Exp.t F g x0.exps) (a:SlF Vol.t F h x0.vols) (H:zgs x0=some r):Ret Tryz.prog K 36 [.agg (Catalog.cells x0 e f g h)] w fun v w'=>∃ (F':Frz),v = .i .i64 r∧St [] w F F' [] w':=by
 refine qa1 Tryz.func36 ?_;have hS:=St.start hA;refine qs ?_;refine bx ([.i .i64 x0.seq,e,f,g,h]) ?_;intro B M j;obtain ⟨D,s,G,u,H⟩:=bd2 H;obtain ⟨I,x,J,z,H⟩:=bd2 H;obtain ⟨L,A,H⟩:=zaj H;refine ay ?_;refine lp (zdt j.good s) j ?_;intro S p;refine aw ?_;refine gw p u (fun y=>zuv p.good a y) ?_;intro O k;refine Nxt.now ?_;refine aw ?_;refine gw k x (fun y=>zry k.good b c d a y) ?_;intro P l;refine Nxt.now ?_;refine aw ?_;refine gw l z (fun y=>zsx l.good b c d a y) ?_;intro Q m;refine Nxt.now ?_;refine aw ?_;refine gw m A (fun y=>zuw m.good b c d a y) ?_;intro R n;refine Nxt.now ?_;refine aw ?_;refine qy H (fun q H=>?_) (fun q H=>?_)
 ·exact rz H n
 ·refine qk ?_;exact rz H n
def zex (x0:List Snap):Option (List Snap) :=
  bd (app (α:=Snap) ([]:List Snap) x0) fun l6 =>
  some l6
theorem zig {x0:List Snap} {r:(List Snap)} {f:Val} (hA:Gd F w) (a:SlF Snap.t F f x0) (H:zex x0=some r):Ret Tryz.prog K 102 [f] w fun v w'=>∃ (F':Frz) (e:Val),v=e∧St [] w F F' [.row Snap.t e (r)] w':=by
 refine qa1 Tryz.func102 ?_;have hS:=St.start hA;refine ay ?_;refine zso rfl rfl rfl rfl Tryz.underlying34 rfl rfl a.ln ?_;intro m i;refine qn ?_;refine zlc rfl (fun c=>?_) (fun c=>?_)
 ·have d:x0=[]:=List.eq_nil_of_length_eq_zero (i c);have H:(some []:Option (List Snap))=some r:=by first | (rw [d] at H;exact H) | (subst d;exact H)
  refine aq ?_;have g:=hS.nilRow Snap.t;obtain rfl:=oi H;refine qt ?_;exact ⟨F,(.sl none 0 (.k 0)),rfl,g⟩
 ·obtain ⟨l6,j,H⟩:=zaj H;refine ax ?_;refine xm (E_bs (t:=Snap.t) (vs:=[]) (xs:=([]:List Snap)) Tryz.underlying34 Ty.row46 rfl trivial rfl rfl hS) ?_;rintro n p b;refine qc ?_;refine xm (zep (t:=Snap.t) 0 Tryz.underlying34 Ty.row46 Ty.zk34 rfl rfl b rfl (a.src b.agree) j) ?_;rintro l q h;refine au ?_;obtain rfl:=oi H;refine qt ?_;exact ⟨F,l,rfl,h⟩
def zet (x0:List Chunk):Option (List Chunk) :=
  bd (app (α:=Chunk) ([]:List Chunk) x0) fun l6 =>
  some l6
theorem zib {x0:List Chunk} {r:(List Chunk)} {f:Val} (hA:Gd F w) (a:SlF Chunk.t F f x0) (H:zet x0=some r):Ret Tryz.prog K 103 [f] w fun v w'=>∃ (F':Frz) (e:Val),v=e∧St [] w F F' [.row Chunk.t e (r)] w':=by
 refine qa1 Tryz.func103 ?_;have hS:=St.start hA;refine ay ?_;refine zso rfl rfl rfl rfl Tryz.underlying35 rfl rfl a.ln ?_;intro m i;refine qn ?_;refine zlc rfl (fun c=>?_) (fun c=>?_)
 ·have d:x0=[]:=List.eq_nil_of_length_eq_zero (i c);have H:(some []:Option (List Chunk))=some r:=by first | (rw [d] at H;exact H) | (subst d;exact H)
  refine aq ?_;have g:=hS.nilRow Chunk.t;obtain rfl:=oi H;refine qt ?_;exact ⟨F,(.sl none 0 (.k 0)),rfl,g⟩
 ·obtain ⟨l6,j,H⟩:=zaj H;refine ax ?_;refine xm (E_bs (t:=Chunk.t) (vs:=[]) (xs:=([]:List Chunk)) Tryz.underlying35 Ty.znh rfl trivial rfl rfl hS) ?_;rintro n p b;refine qc ?_;refine xm (zep (t:=Chunk.t) 0 Tryz.underlying35 Ty.znh Ty.zk35 rfl rfl b rfl (a.src b.agree) j) ?_;rintro l q h;refine au ?_;obtain rfl:=oi H;refine qt ?_;exact ⟨F,l,rfl,h⟩
def zfh (x0:List Exp):Option (List Exp) :=
  bd (app (α:=Exp) ([]:List Exp) x0) fun l6 =>
  some l6
theorem zjb {x0:List Exp} {r:(List Exp)} {f:Val} (hA:Gd F w) (a:SlF Exp.t F f x0) (H:zfh x0=some r):Ret Tryz.prog K 104 [f] w fun v w'=>∃ (F':Frz) (e:Val),v=e∧St [] w F F' [.row Exp.t e (r)] w':=by
 refine qa1 Tryz.func104 ?_;have hS:=St.start hA;refine ay ?_;refine zso rfl rfl rfl rfl Tryz.underlying36 rfl rfl a.ln ?_;intro m i;refine qn ?_;refine zlc rfl (fun c=>?_) (fun c=>?_)
 ·have d:x0=[]:=List.eq_nil_of_length_eq_zero (i c);have H:(some []:Option (List Exp))=some r:=by first | (rw [d] at H;exact H) | (subst d;exact H)
  refine aq ?_;have g:=hS.nilRow Exp.t;obtain rfl:=oi H;refine qt ?_;exact ⟨F,(.sl none 0 (.k 0)),rfl,g⟩
 ·obtain ⟨l6,j,H⟩:=zaj H;refine ax ?_;refine xm (E_bs (t:=Exp.t) (vs:=[]) (xs:=([]:List Exp)) Tryz.underlying36 Ty.zvg rfl trivial rfl rfl hS) ?_;rintro n p b;refine qc ?_;refine xm (zep (t:=Exp.t) 0 Tryz.underlying36 Ty.zvg Ty.zk36 rfl rfl b rfl (a.src b.agree) j) ?_;rintro l q h;refine au ?_;obtain rfl:=oi H;refine qt ?_;exact ⟨F,l,rfl,h⟩
def zeh (x0:List Vol):Option (List Vol) :=
  bd (app (α:=Vol) ([]:List Vol) x0) fun l6 =>
  some l6
theorem zgh {x0:List Vol} {r:(List Vol)} {f:Val} (hA:Gd F w) (a:SlF Vol.t F f x0) (H:zeh x0=some r):Ret Tryz.prog K 42 [f] w fun v w'=>∃ (F':Frz) (e:Val),v=e∧St [] w F F' [.row Vol.t e (r)] w':=by
 refine qa1 Tryz.func42 ?_;have hS:=St.start hA;refine ay ?_;refine zso rfl rfl rfl rfl Tryz.underlying33 rfl rfl a.ln ?_;intro m i;refine qn ?_;refine zlc rfl (fun c=>?_) (fun c=>?_)
 ·have d:x0=[]:=List.eq_nil_of_length_eq_zero (i c);have H:(some []:Option (List Vol))=some r:=by first | (rw [d] at H;exact H) | (subst d;exact H)
  refine aq ?_;have g:=hS.nilRow Vol.t;obtain rfl:=oi H;refine qt ?_;exact ⟨F,(.sl none 0 (.k 0)),rfl,g⟩
 ·obtain ⟨l6,j,H⟩:=zaj H;refine ax ?_;refine xm (E_bs (t:=Vol.t) (vs:=[]) (xs:=([]:List Vol)) Tryz.underlying33 Ty.row32 rfl trivial rfl rfl hS) ?_;rintro n p b;refine qc ?_;refine xm (zep (t:=Vol.t) 0 Tryz.underlying33 Ty.row32 Ty.zk33 rfl rfl b rfl (a.src b.agree) j) ?_;rintro l q h;refine au ?_;obtain rfl:=oi H;refine qt ?_;exact ⟨F,l,rfl,h⟩
def zey (x0:List Part):Option (List Part) :=
  bd (app (α:=Part) ([]:List Part) x0) fun l6 =>
  some l6
theorem zih {x0:List Part} {r:(List Part)} {f:Val} (hA:Gd F w) (a:SlF Part.t F f x0) (H:zey x0=some r):Ret Tryz.prog K 153 [f] w fun v w'=>∃ (F':Frz) (e:Val),v=e∧St [] w F F' [.row Part.t e (r)] w':=by
 refine qa1 Tryz.func153 ?_;have hS:=St.start hA;refine ay ?_;refine zso rfl rfl rfl rfl Tryz.underlying41 rfl rfl a.ln ?_;intro m i;refine qn ?_;refine zlc rfl (fun c=>?_) (fun c=>?_)
 ·have d:x0=[]:=List.eq_nil_of_length_eq_zero (i c);have H:(some []:Option (List Part))=some r:=by first | (rw [d] at H;exact H) | (subst d;exact H)
  refine aq ?_;have g:=hS.nilRow Part.t;obtain rfl:=oi H;refine qt ?_;exact ⟨F,(.sl none 0 (.k 0)),rfl,g⟩
 ·obtain ⟨l6,j,H⟩:=zaj H;refine ax ?_;refine xm (E_bs (t:=Part.t) (vs:=[]) (xs:=([]:List Part)) Tryz.underlying41 Ty.zvo rfl trivial rfl rfl hS) ?_;rintro n p b;refine qc ?_;refine xm (zep (t:=Part.t) 0 Tryz.underlying41 Ty.zvo Ty.zk41 rfl rfl b rfl (a.src b.agree) j) ?_;rintro l q h;refine au ?_;obtain rfl:=oi H;refine qt ?_;exact ⟨F,l,rfl,h⟩
def zei (x0:List (List UInt8)):Option (List (List UInt8)) :=
  bd (app (α:=(List UInt8)) ([]:List (List UInt8)) x0) fun l6 =>
  some l6
theorem zjc {x0:List (List UInt8)} {r:(List (List UInt8))} {f:Val} (hA:Gd F w) (a:SlF tId F f x0) (H:zei x0=some r):Ret Tryz.prog K 154 [f] w fun v w'=>∃ (F':Frz) (e:Val),v=e∧St [] w F F' [.row tId e (r)] w':=by
 refine qa1 Tryz.func154 ?_;have hS:=St.start hA;refine ay ?_;refine zso rfl rfl rfl rfl Tryz.underlying118 rfl rfl a.ln ?_;intro m i;refine qn ?_;refine zlc rfl (fun c=>?_) (fun c=>?_)
 ·have d:x0=[]:=List.eq_nil_of_length_eq_zero (i c);have H:(some []:Option (List (List UInt8)))=some r:=by first | (rw [d] at H;exact H) | (subst d;exact H)
  refine aq ?_;have g:=hS.nilRow tId;obtain rfl:=oi H;refine qt ?_;exact ⟨F,(.sl none 0 (.k 0)),rfl,g⟩
 ·obtain ⟨l6,j,H⟩:=zaj H;refine ax ?_;refine xm (E_bs (t:=tId) (vs:=[]) (xs:=([]:List (List UInt8))) Tryz.underlying118 Ty.zwx rfl trivial rfl rfl hS) ?_;rintro n p b;refine qc ?_;refine xm (zep (t:=tId) 0 Tryz.underlying118 Ty.zwx Ty.zk118 rfl rfl b rfl (a.src b.agree) j) ?_;rintro l q h;refine au ?_;obtain rfl:=oi H;refine qt ?_;exact ⟨F,l,rfl,h⟩
def zdj.k1 (x0:Manifest) (l7:List Part):Option Manifest :=
  some (Manifest.mk x0.name l7)
def zdj.l2 (x0:Manifest) (d:(List Part)) (e:(Int × (List Part))→Option Manifest):(Int × (List Part))→Option Manifest
  | (a,l12) =>
    if decide (a < (d.length:Int)) then
      bd (ix l12 a) fun b =>
      bd (zei b.ids) fun c =>
      e (wr (a+1),(l12.set a.toNat (Part.mk b.path b.size c)))
    else
      zdj.k1 x0 l12
def zdj (x0:Manifest):Option Manifest :=
  bd (zey x0.parts) fun a =>
  loop (zdj.l2 x0 a) (0,a)
theorem zqw {x0:Manifest} {r:Manifest} {p:Val} (hA:Gd F w) (M:SlF Part.t F p x0.parts) (H:zdj x0=some r):Ret Tryz.prog K 105 [.agg (Manifest.cells x0 p)] w fun v w'=>∃ (F':Frz) (I:Val),v = .agg (Manifest.cells r I)∧SlF Part.t F' I (r.parts)∧St [] w F F' [] w':=by
 refine qa1 Tryz.func105 ?_;have hS:=St.start hA;refine qs ?_;refine bx ([.s x0.name,p]) ?_;intro e w1 ap;refine al ?_;intro g w2 x;obtain ⟨r3,U,H⟩:=zaj H;refine ax ?_;refine lm (zih x.good M U) ?_;rintro d w4 ⟨u,_,rfl,B⟩;have ar:=x.call B;have a5:=B.ext;refine au ?_;refine sc 2 ([.s x0.name,d]) ?_;intro w5 l;refine qn ?_;refine zac (fun E wq=>∃ l7:List Part,zdj.k1 x0 l7=some r ∧ ∃ (m:Frz),E=[(1,pl e 0),(2,pl g 0)]∧u.le m∧Also l [.row Part.t d l7,.box g [.s [],.sl none 0 (.k 0)],.box e [.s x0.name,d]] m wq) ?_ ?_
 ·refine aq ?_;refine qr (zdh Tryz.underlying41 rfl (l.rowLn (k:=0) rfl)) ?_;refine ax ?_;refine zbo (fun (s:Int × (List Part)) E wq=>∃ (f:Frz),E=[(1,pl e 0),(2,pl g 0),(10,.i .i64 (r3.length:Int)),(11,.i .i64 s.1)]∧u.le f∧Also l [.row Part.t d s.2,.box g [.s [],.sl none 0 (.k 0)],.box e [.s x0.name,d]] f wq) H ?_ ?_
  ·exact lo (jj l)
  ·rintro a6 ⟨X,l12⟩ E ah hI H
   try dsimp only at hI
   obtain ⟨f,rfl,a1,a⟩:=hI;refine ay ?_;refine qy H (fun P H=>?_) (fun P H=>?_)
   ·refine ay ?_;obtain ⟨q,D,ad,S,H⟩:=bd2 H;have b:=a.boxAt 2 rfl;refine zbw (G:=(f.hold ah [e])) [0,1,2,3,4,5,6,7,8,9,10,11,12] rfl Ty.mixed (by kernel_rfl) (HB.agree (HB.cons 2 b a rfl HB.nil) a.agree) ?_;refine au ?_;refine qr (zdo Ty.zwe rfl (b.held (HB.cons 2 b a rfl HB.nil) (by simp)) rfl) ?_;obtain ⟨_,⟨a7,rfl,V⟩,Q⟩:=elr 3 0 a D;refine au ?_;refine qq (zej 2 Ty.cell118 rfl Q (by first | omega | rfl) rfl) ?_;refine ql (zjc a.good V S) ?_;rintro J aC ⟨aj,_,rfl,A⟩;have h:=a.call A;have Z:=A.ext;refine Nxt.frz (HB.le (HB.cons 3 b h rfl HB.nil) Z) (HB.agree (HB.cons 3 b h rfl HB.nil) h.agree) ?_;refine au ?_;obtain ⟨ai,Y,n,j⟩:=h.freezeR 0 [1,2,3] rfl (by decide) (by decide);refine W_rg (HB.le (HB.cons 2 b j rfl HB.nil) Y) (HB.agree (HB.cons 2 b j rfl HB.nil) j.agree) ?_;refine qu (ziv (c:=[J]) 0 (X.toNat) 2 q (Part.mk q.path q.size ad) rfl rfl j rfl (zaf D).2 (by first | rfl | (show _=_*3+_;omega)) n.ln.cells Ty.size118 (by simp only [List.all_cons,List.all_nil,List.all_append,n.ln.one];rfl) (Nat.le_of_ble_eq_true rfl) (by rintro cs ⟨a2,rfl,b2⟩;exact ⟨J,rfl,n⟩)) ?_;rintro _ aD y;refine qh 2 b y ?_;refine ax ?_;exact nm H (jj y)
   ·refine zbe _ rfl ?_;exact nj ⟨l12,H,jj a⟩
 ·rintro E w6 ⟨l7,H,m,rfl,a3,a0⟩;refine aq ?_;refine sb 1 ([.s x0.name,d]) ?_;intro w8 O;refine qn ?_;obtain ⟨L,a4,R,z⟩:=O.freezeR 0 [1,2] rfl (by decide) (by decide);obtain rfl:=oi H;refine zgb (vs:=[.agg (Manifest.cells (Manifest.mk x0.name l7) d)]) rfl ⟨(zeo 0 Ty.zoy Ty.zjk z rfl rfl),trivial⟩ ?_;exact ⟨L,d,rfl,R,z.pick [] (by decide)⟩
def zbz (x0:List Loc):Option (List Loc) :=
  bd (app (α:=Loc) ([]:List Loc) x0) fun l6 =>
  some l6
theorem zde {x0:List Loc} {r:(List Loc)} {f:Val} (hA:Gd F w) (a:SlF Loc.t F f x0) (H:zbz x0=some r):Ret Tryz.prog K 98 [f] w fun v w'=>∃ (F':Frz) (e:Val),v=e∧St [] w F F' [.row Loc.t e (r)] w':=by
 refine qa1 Tryz.func98 ?_;have hS:=St.start hA;refine ay ?_;refine zso rfl rfl rfl rfl Tryz.underlying44 rfl rfl a.ln ?_;intro m i;refine qn ?_;refine zlc rfl (fun c=>?_) (fun c=>?_)
 ·have d:x0=[]:=List.eq_nil_of_length_eq_zero (i c);have H:(some []:Option (List Loc))=some r:=by first | (rw [d] at H;exact H) | (subst d;exact H)
  refine aq ?_;have g:=hS.nilRow Loc.t;obtain rfl:=oi H;refine qt ?_;exact ⟨F,(.sl none 0 (.k 0)),rfl,g⟩
 ·obtain ⟨l6,j,H⟩:=zaj H;refine ax ?_;refine xm (E_bs (t:=Loc.t) (vs:=[]) (xs:=([]:List Loc)) Tryz.underlying44 Ty.zss rfl trivial rfl rfl hS) ?_;rintro n p b;refine qc ?_;refine xm (zep (t:=Loc.t) 0 Tryz.underlying44 Ty.zss Ty.zk44 rfl rfl b rfl (a.src b.agree) j) ?_;rintro l q h;refine au ?_;obtain rfl:=oi H;refine qt ?_;exact ⟨F,l,rfl,h⟩
def zfu (x0:List UInt8):Option (List UInt8) :=
  bd (app (α:=UInt8) ([]:List UInt8) x0) fun l6 =>
  some l6
theorem zlg {x0:List UInt8} {r:(List UInt8)} {f:Val} (hA:Gd F w) (a:SlF tB F f x0) (H:zfu x0=some r):Ret Tryz.prog K 106 [f] w fun v w'=>∃ (F':Frz) (e:Val),v=e∧St [] w F F' [.row tB e (r)] w':=by
 refine qa1 Tryz.func106 ?_;have hS:=St.start hA;refine ay ?_;refine zso rfl rfl rfl rfl Tryz.underlying47 rfl rfl a.ln ?_;intro m i;refine qn ?_;refine zlc rfl (fun c=>?_) (fun c=>?_)
 ·have d:x0=[]:=List.eq_nil_of_length_eq_zero (i c);have H:(some []:Option (List UInt8))=some r:=by first | (rw [d] at H;exact H) | (subst d;exact H)
  refine aq ?_;have g:=hS.nilRow tB;obtain rfl:=oi H;refine qt ?_;exact ⟨F,(.sl none 0 (.k 0)),rfl,g⟩
 ·obtain ⟨l6,j,H⟩:=zaj H;refine ax ?_;refine xm (E_bs (t:=tB) (vs:=[]) (xs:=([]:List UInt8)) Tryz.underlying47 Ty.row5 rfl trivial rfl rfl hS) ?_;rintro n p b;refine qc ?_;refine xm (zep (t:=tB) 0 Tryz.underlying47 Ty.row5 Ty.zk47 rfl rfl b rfl (a.src b.agree) j) ?_;rintro l q h;refine au ?_;obtain rfl:=oi H;refine qt ?_;exact ⟨F,l,rfl,h⟩
def zbq.k3 (x0:Catalog) (b:(List Vol)) (l17:List Snap) (l19:List Chunk) (a:List Exp):Option Catalog :=
  some (Catalog.mk x0.seq l17 l19 a b)
def zbq.l4 (x0:Catalog) (e:(List Exp)) (f:(List Vol)) (l17:List Snap) (l19:List Chunk) (g:(Int × (List Exp))→Option Catalog):(Int × (List Exp))→Option Catalog
  | (a,b) =>
    if decide (a < (e.length:Int)) then
      bd (ix b a) fun c =>
      bd (zbz c.locs) fun d =>
      g (wr (a+1),(b.set a.toNat (Exp.mk c.seq c.of d)))
    else
      zbq.k3 x0 f l17 l19 b
def zbq.k2 (x0:Catalog) (a:(List Exp)) (b:(List Vol)) (l17:List Snap) (l19:List Chunk):Option Catalog :=
  loop (zbq.l4 x0 a b l17 l19) (0,a)
def zbq.l5 (x0:Catalog) (e:(List Chunk)) (g:(List Exp)) (h:(List Vol)) (l17:List Snap) (i:(Int × (List Chunk))→Option Catalog):(Int × (List Chunk))→Option Catalog
  | (b,c) =>
    if decide (b < (e.length:Int)) then
      bd (ix c b) fun a =>
      bd (zfu a.data) fun d =>
      bd (zbz a.locs) fun f =>
      i (wr (b+1),((c.set b.toNat (Chunk.mk a.id a.staged d a.locs)).set b.toNat (Chunk.mk a.id a.staged d f)))
    else
      zbq.k2 x0 g h l17 c
def zbq.k1 (x0:Catalog) (a:(List Chunk)) (b:(List Exp)) (c:(List Vol)) (l17:List Snap):Option Catalog :=
  loop (zbq.l5 x0 a b c l17) (0,a)
def zbq.l6 (x0:Catalog) (e:(List Snap)) (f:(List Chunk)) (g:(List Exp)) (h:(List Vol)) (j:(Int × (List Snap))→Option Catalog):(Int × (List Snap))→Option Catalog
  | (a,c) =>
    if decide (a < (e.length:Int)) then
      bd (ix c a) fun b =>
      bd (zdj b.man) fun d =>
      bd (zbz b.locs) fun i =>
      j (wr (a+1),((c.set a.toNat (Snap.mk b.seq d b.locs)).set a.toNat (Snap.mk b.seq d i)))
    else
      zbq.k1 x0 f g h c
def zbq (x0:Catalog):Option Catalog :=
  bd (zex x0.snaps) fun a =>
  bd (zet x0.chunks) fun b =>
  bd (zfh x0.exps) fun c =>
  bd (zeh x0.vols) fun d =>
  loop (zbq.l6 x0 a b c d) (0,a)
set_option maxHeartbeats 2000000 in
theorem zof {x0:Catalog} {r:Catalog} {aO:Val} {a4:Val} {X:Val} {J:Val} (hA:Gd F w) (b9:SlF Snap.t F aO x0.snaps) (bA:SlF Chunk.t F a4 x0.chunks) (bB:SlF Exp.t F X x0.exps) (bC:SlF Vol.t F J x0.vols) (H:zbq x0=some r):Ret Tryz.prog K 48 [.agg (Catalog.cells x0 aO a4 X J)] w fun v w'=>∃ (F':Frz) (bw:Val) (bz:Val) (b0:Val) (b1:Val),v = .agg (Catalog.cells r bw bz b0 b1)∧St [] w F F' [.row Snap.t bw (r.snaps),.row Chunk.t bz (r.chunks),.row Exp.t b0 (r.exps),.row Vol.t b1 (r.vols)] w':=by
 refine qa1 Tryz.func48 ?_;have hS:=St.start hA;refine qs ?_;refine bx ([.i .i64 x0.seq,aO,a4,X,J]) ?_;intro g w1 c8;refine al ?_;intro m w2 u;refine ay ?_;obtain ⟨r3,bH,r4,bJ,H⟩:=bd2 H;obtain ⟨y,bM,n,bN,H⟩:=bd2 H;have f:=u.boxAt 1 rfl;refine zbw (G:=(F.hold w2 [g])) [0,1,3,4,6,7,9,10,2,12,5,8,11,13,14,15,16,17,18,19] rfl Ty.mixed (by kernel_rfl) (HB.agree (HB.cons 1 f u rfl HB.nil) u.agree) ?_;refine au ?_;refine qr (zdo Ty.zft rfl (f.held (HB.cons 1 f u rfl HB.nil) (by simp)) rfl) ?_;refine au ?_;refine qr (zdo Ty.zkm rfl (f.held (HB.cons 1 f u rfl HB.nil) (by simp)) rfl) ?_;refine au ?_;refine qr (zdo Ty.zqv rfl (f.held (HB.cons 1 f u rfl HB.nil) (by simp)) rfl) ?_;refine ql (zig u.good b9 bH) ?_;rintro a w8 ⟨cz,_,rfl,bo⟩;have U:=u.call bo;have cd:=bo.ext;refine Nxt.frz (HB.le (HB.cons 2 f U rfl HB.nil) cd) (HB.agree (HB.cons 2 f U rfl HB.nil) U.agree) ?_;refine au ?_;refine ql (zib U.good (mo bA) bJ) ?_;rintro b w9 ⟨c2,_,rfl,bp⟩;have V:=U.call bp;have cf:=bp.ext;refine Nxt.frz (HB.le (HB.cons 3 f V rfl HB.nil) cf) (HB.agree (HB.cons 3 f V rfl HB.nil) V.agree) ?_;refine ql (zjb V.good (mo bB) bM) ?_;rintro d cU ⟨c5,_,rfl,bh⟩;have Q:=V.call bh;have ci:=bh.ext;refine Nxt.frz (HB.le (HB.cons 4 f Q rfl HB.nil) ci) (HB.agree (HB.cons 4 f Q rfl HB.nil) Q.agree) ?_;refine ql (zgh Q.good (mo bC) bN) ?_;rintro e cV ⟨aR,_,rfl,bi⟩;have ad:=Q.call bi;have cj:=bi.ext;refine Nxt.frz (HB.le (HB.cons 5 f ad rfl HB.nil) cj) (HB.agree (HB.cons 5 f ad rfl HB.nil) ad.agree) ?_;refine zqz (by kernel_rfl) ad.agree ?_;refine sC 5 ([.i .i64 x0.seq,a,a4,X,J]) ?_;intro cX c9;refine au ?_;refine sC 5 ([.i .i64 x0.seq,a,b,X,J]) ?_;intro cY cA;refine au ?_;refine sC 5 ([.i .i64 x0.seq,a,b,d,J]) ?_;intro cZ cC;refine au ?_;refine sC 5 ([.i .i64 x0.seq,a,b,d,e]) ?_;intro da ae;refine qn ?_;refine zac (fun E wq=>∃ l17:List Snap,zbq.k1 x0 r4 y n l17=some r ∧ ∃ (L:Frz),E=[(1,pl g 0),(2,pl m 0)]∧aR.le L∧Also ae [.row Vol.t e n,.row Exp.t d y,.row Chunk.t b r4,.row Snap.t a l17,.box m [.i .i64 0,.sl none 0 (.k 0),.sl none 0 (.k 0),.sl none 0 (.k 0),.sl none 0 (.k 0)],.box g [.i .i64 x0.seq,a,b,d,e]] L wq) ?_ ?_
 ·refine aq ?_;refine qr (zdh Tryz.underlying34 rfl (ae.rowLn (k:=3) rfl)) ?_;refine ax ?_;refine zbo (fun (s:Int × (List Snap)) E wq=>∃ (a6:Frz),E=[(1,pl g 0),(2,pl m 0),(26,.i .i64 (r3.length:Int)),(27,.i .i64 s.1)]∧aR.le a6∧Also ae [.row Vol.t e n,.row Exp.t d y,.row Chunk.t b r4,.row Snap.t a s.2,.box m [.i .i64 0,.sl none 0 (.k 0),.sl none 0 (.k 0),.sl none 0 (.k 0),.sl none 0 (.k 0)],.box g [.i .i64 x0.seq,a,b,d,e]] a6 wq) H ?_ ?_
  ·exact lo (jj ae)
  ·rintro cN ⟨bv,bY⟩ E dm hI H
   try dsimp only at hI
   obtain ⟨a6,rfl,cK,l⟩:=hI;refine ay ?_;refine qy H (fun bF H=>?_) (fun bF H=>?_)
   ·obtain ⟨z,aJ,H⟩:=zaj H;obtain ⟨_,⟨cq,cR,rfl,bT,bU⟩,br⟩:=elr 4 3 l aJ;refine ay ?_;obtain ⟨a1,bO,cp,bP,H⟩:=bd2 H;have I:=l.lendL [] (by decide);refine zbw [0,1,2,3,4,5,7,8,9,10,6,11,12,13,14,15,16,17] rfl Ty.mixed (by kernel_rfl) (HB.agree (l.heldHB [] [0,1,2,3,4,5] (by decide) I) I.agree) ?_;refine au ?_;refine qr (zoj 1 (Manifest.cells z.man cq) Ty.zoy Ty.zjk rfl (br.held (l.heldHB [] [0,1,2,3,4,5] (by decide) I) (l.heldRow (j:=3) (rs:=[0,1,2,3,4,5]) (by decide) rfl)) (by first | omega | rfl) rfl (Nat.le_of_ble_eq_true rfl)) ?_;refine au ?_;refine qr (zej 3 Ty.zgj rfl (br.held (l.heldHB [] [0,1,2,3,4,5] (by decide) I) (l.heldRow (j:=3) (rs:=[0,1,2,3,4,5]) (by decide) rfl)) (by first | omega | rfl) rfl) ?_;refine ql (zqw I.good bT bO) ?_;rintro cS dn ⟨c6,b7,rfl,bs,bm⟩;have S:=I.call bm;have ck:=bm.ext;refine Nxt.frz (HB.le (l.heldHB [] [0,1,2,3,4,5] (by decide) S) ck) (HB.agree (l.heldHB [] [0,1,2,3,4,5] (by decide) S) S.agree) ?_;refine ql (zde S.good (mo bU) bP) ?_;rintro b8 dq ⟨c7,_,rfl,bn⟩;have ap:=S.call bn;have cl:=bn.ext;refine Nxt.frz (HB.le (l.heldHB [] [0,1,2,3,4,5] (by decide) ap) cl) (HB.agree (l.heldHB [] [0,1,2,3,4,5] (by decide) ap) ap.agree) ?_;refine au ?_;have bc:=l.backL [] [0,1,2,3,4,5] (by decide) (by decide) ap;refine zqz (by kernel_rfl) bc.agree ?_;refine qu (ziv (c:=[.s a1.name,b7]) 4 (bv.toNat) 1 z (Snap.mk z.seq a1 z.locs) rfl rfl bc rfl (zaf aJ).2 (by first | rfl | (show _=_*4+_;omega)) rfl Ty.zjk (by simp only [List.all_cons,List.all_nil,List.all_append,bs.ln.one];rfl) (Nat.le_of_ble_eq_true rfl) (by rintro cs ⟨A,O,rfl,B,P⟩;exact ⟨b7,O,rfl,(mo bs),P⟩)) ?_;rintro _ dr be;refine qw be ?_;refine au ?_;obtain ⟨cy,cc,aD,bg⟩:=be.freezeR 0 [1,2,3,4,5,6] rfl (by decide) (by decide);refine W_rg cc bg.agree ?_;refine qu (ziv (c:=[b8]) 3 (bv.toNat) 3 (Snap.mk z.seq a1 z.locs) (Snap.mk z.seq a1 cp) rfl rfl bg rfl (List.getElem?_set_self (by simpa using (List.getElem?_eq_some_iff.1 (zaf aJ).2).1)) (by first | rfl | (show _=_*4+_;omega)) aD.ln.cells Ty.zml (by simp only [List.all_cons,List.all_nil,List.all_append,aD.ln.one];rfl) (Nat.le_of_ble_eq_true rfl) (by rintro cs ⟨A,O,rfl,B,P⟩;exact ⟨A,b8,rfl,B,aD⟩)) ?_
    rintro _ ds bf;refine qw bf ?_;refine ax ?_;exact nm H (jj bf)
   ·refine zbe _ rfl ?_;exact nj ⟨bY,H,jj l⟩
 ·rintro E db ⟨l17,H,L,rfl,cF,ah⟩;refine zac (fun E wq=>∃ l19:List Chunk,zbq.k2 x0 y n l17 l19=some r ∧ ∃ (M:Frz),E=[(1,pl g 0),(2,pl m 0)]∧L.le M∧Also ah [.row Vol.t e n,.row Exp.t d y,.row Chunk.t b l19,.row Snap.t a l17,.box m [.i .i64 0,.sl none 0 (.k 0),.sl none 0 (.k 0),.sl none 0 (.k 0),.sl none 0 (.k 0)],.box g [.i .i64 x0.seq,a,b,d,e]] M wq) ?_ ?_
  ·refine aq ?_;refine qr (zdh Tryz.underlying35 rfl (ah.rowLn (k:=2) rfl)) ?_;refine ax ?_;refine zbo (fun (s:Int × (List Chunk)) E wq=>∃ (a5:Frz),E=[(1,pl g 0),(2,pl m 0),(53,.i .i64 (r4.length:Int)),(54,.i .i64 s.1)]∧L.le a5∧Also ah [.row Vol.t e n,.row Exp.t d y,.row Chunk.t b s.2,.row Snap.t a l17,.box m [.i .i64 0,.sl none 0 (.k 0),.sl none 0 (.k 0),.sl none 0 (.k 0),.sl none 0 (.k 0)],.box g [.i .i64 x0.seq,a,b,d,e]] a5 wq) H ?_ ?_
   ·exact lo (jj ah)
   ·rintro cM ⟨bu,bX⟩ E dh hI H
    try dsimp only at hI
    obtain ⟨a5,rfl,cJ,h⟩:=hI;refine ay ?_;refine qy H (fun bE H=>?_) (fun bE H=>?_)
    ·obtain ⟨q,aH,H⟩:=zaj H;obtain ⟨_,⟨cP,cQ,rfl,cE,bR,bS⟩,bq⟩:=elr 35 2 h aH;refine ay ?_;obtain ⟨aK,bK,co,bL,H⟩:=bd2 H;have D:=h.lendL [] (by decide);refine zbw [0,1,2,3,4,5,7,8,9,10,6,11,12,13,14,15,16,17] rfl Ty.mixed (by kernel_rfl) (HB.agree (h.heldHB [] [0,1,2,3,4,5] (by decide) D) D.agree) ?_;refine au ?_;refine qr (zej 33 Ty.zsl rfl (bq.held (h.heldHB [] [0,1,2,3,4,5] (by decide) D) (h.heldRow (j:=2) (rs:=[0,1,2,3,4,5]) (by decide) rfl)) (by first | omega | rfl) rfl) ?_;refine au ?_;refine qr (zej 34 Ty.zgj rfl (bq.held (h.heldHB [] [0,1,2,3,4,5] (by decide) D) (h.heldRow (j:=2) (rs:=[0,1,2,3,4,5]) (by decide) rfl)) (by first | omega | rfl) rfl) ?_;refine ql (zlg D.good bR bK) ?_;rintro b5 di ⟨c3,_,rfl,bk⟩;have R:=D.call bk;have cg:=bk.ext;refine Nxt.frz (HB.le (h.heldHB [] [0,1,2,3,4,5] (by decide) R) cg) (HB.agree (h.heldHB [] [0,1,2,3,4,5] (by decide) R) R.agree) ?_;refine ql (zde R.good (mo bS) bL) ?_;rintro b6 dj ⟨c4,_,rfl,bl⟩;have am:=R.call bl;have ch:=bl.ext;refine Nxt.frz (HB.le (h.heldHB [] [0,1,2,3,4,5] (by decide) am) ch) (HB.agree (h.heldHB [] [0,1,2,3,4,5] (by decide) am) am.agree) ?_;refine au ?_;have aV:=h.backL [] [0,1,2,3,4,5] (by decide) (by decide) am;refine zqz (by kernel_rfl) aV.agree ?_;obtain ⟨cw,ca,a9,aY⟩:=aV.freezeR 1 [0,2,3,4,5,6,7] rfl (by decide) (by decide);refine W_rg ca aY.agree ?_;refine qu (ziv (c:=[b5]) 3 (bu.toNat) 33 q (Chunk.mk q.id q.staged aK q.locs) rfl rfl aY rfl (zaf aH).2 (by first | rfl | (show _=_*35+_;omega)) a9.ln.cells Ty.ztp (by simp only [List.all_cons,List.all_nil,List.all_append,a9.ln.one];rfl) (Nat.le_of_ble_eq_true rfl) (by rintro cs ⟨A,O,rfl,c0,B,P⟩;exact ⟨b5,O,rfl,c0,a9,P⟩)) ?_;rintro _ dk aX;refine qw aX ?_;refine au ?_;obtain ⟨cx,cb,aC,bb⟩:=aX.freezeR 0 [1,2,3,4,5,6] rfl (by decide) (by decide);refine W_rg cb bb.agree ?_;refine qu (ziv (c:=[b6]) 2 (bu.toNat) 34 (Chunk.mk q.id q.staged aK q.locs) (Chunk.mk q.id q.staged aK co) rfl rfl bb rfl (List.getElem?_set_self (by simpa using (List.getElem?_eq_some_iff.1 (zaf aH).2).1)) (by first | rfl | (show _=_*35+_;omega)) aC.ln.cells Ty.zml (by simp only [List.all_cons,List.all_nil,List.all_append,aC.ln.one];rfl) (Nat.le_of_ble_eq_true rfl) (by rintro cs ⟨A,O,rfl,c0,B,P⟩;exact ⟨A,b6,rfl,c0,B,aC⟩)) ?_
     rintro _ dl ba;refine qw ba ?_;refine ax ?_;exact nm H (jj ba)
    ·refine zbe _ rfl ?_;exact nj ⟨bX,H,jj h⟩
  ·rintro E dc ⟨l19,H,M,rfl,cG,ai⟩;refine zac (fun E wq=>∃ ar:List Exp,zbq.k3 x0 n l17 l19 ar=some r ∧ ∃ (Y:Frz),E=[(1,pl g 0),(2,pl m 0)]∧M.le Y∧Also ai [.row Vol.t e n,.row Exp.t d ar,.row Chunk.t b l19,.row Snap.t a l17,.box m [.i .i64 0,.sl none 0 (.k 0),.sl none 0 (.k 0),.sl none 0 (.k 0),.sl none 0 (.k 0)],.box g [.i .i64 x0.seq,a,b,d,e]] Y wq) ?_ ?_
   ·refine aq ?_;refine qr (zdh Tryz.underlying36 rfl (ai.rowLn (k:=1) rfl)) ?_;refine ax ?_;refine zbo (fun (s:Int × (List Exp)) E wq=>∃ (Z:Frz),E=[(1,pl g 0),(2,pl m 0),(80,.i .i64 (y.length:Int)),(81,.i .i64 s.1)]∧M.le Z∧Also ai [.row Vol.t e n,.row Exp.t d s.2,.row Chunk.t b l19,.row Snap.t a l17,.box m [.i .i64 0,.sl none 0 (.k 0),.sl none 0 (.k 0),.sl none 0 (.k 0),.sl none 0 (.k 0)],.box g [.i .i64 x0.seq,a,b,d,e]] Z wq) H ?_ ?_
    ·exact lo (jj ai)
    ·rintro cL ⟨bV,bW⟩ E ct hI H
     try dsimp only at hI
     obtain ⟨Z,rfl,cI,p⟩:=hI;refine ay ?_;refine qy H (fun bD H=>?_) (fun bD H=>?_)
     ·refine ay ?_;obtain ⟨aP,bt,cn,bI,H⟩:=bd2 H;have x:=p.boxAt 5 rfl;refine zbw (G:=(Z.hold ct [g])) [0,1,2,3,4,5,6,7,8,9,10,11,12] rfl Ty.mixed (by kernel_rfl) (HB.agree (HB.cons 5 x p rfl HB.nil) p.agree) ?_;refine au ?_;refine qr (zdo Ty.zkm rfl (x.held (HB.cons 5 x p rfl HB.nil) (by simp)) rfl) ?_;refine au ?_;refine qbq 5 Ty.zkm p ?_;obtain ⟨_,⟨cO,rfl,bQ⟩,bG⟩:=elr 3 1 p bt;refine au ?_;refine qq (zej 2 Ty.zgj rfl bG (by first | omega | rfl) rfl) ?_;refine ql (zde p.good bQ bI) ?_;rintro b4 df ⟨c1,_,rfl,bj⟩;have aj:=p.call bj;have ce:=bj.ext;refine Nxt.frz (HB.le (HB.cons 6 x aj rfl HB.nil) ce) (HB.agree (HB.cons 6 x aj rfl HB.nil) aj.agree) ?_;refine au ?_;obtain ⟨cu,bZ,a8,ak⟩:=aj.freezeR 0 [1,2,3,4,5,6] rfl (by decide) (by decide);refine W_rg (HB.le (HB.cons 5 x ak rfl HB.nil) bZ) (HB.agree (HB.cons 5 x ak rfl HB.nil) ak.agree) ?_;refine qu (ziv (c:=[b4]) 1 (bV.toNat) 2 aP (Exp.mk aP.seq aP.of cn) rfl rfl ak rfl (zaf bt).2 (by first | rfl | (show _=_*3+_;omega)) a8.ln.cells Ty.zml (by simp only [List.all_cons,List.all_nil,List.all_append,a8.ln.one];rfl) (Nat.le_of_ble_eq_true rfl) (by rintro cs ⟨A,rfl,B⟩;exact ⟨b4,rfl,a8⟩)) ?_;rintro _ dg aU;refine qh 5 x aU ?_;refine ax ?_;exact nm H (jj aU)
     ·refine zbe _ rfl ?_;exact nj ⟨bW,H,jj p⟩
   ·rintro E dd ⟨ar,H,Y,rfl,cH,cD⟩;refine aq ?_;refine sb 4 ([.i .i64 x0.seq,a,b,d,e]) ?_;intro de aT;refine qn ?_;obtain rfl:=oi H;refine zgb (vs:=[.agg (Catalog.cells (Catalog.mk x0.seq l17 l19 ar n) a b d e)]) rfl ⟨(zeo 4 Ty.zjo Ty.zgk aT rfl rfl),trivial⟩ ?_;exact ⟨Y,a,b,d,e,rfl,aT.pick [3,2,1,0] (by decide)⟩
def zhx (x0:Snap):Option Bool :=
  some (decide ((x0.locs.length:Int)=0))
theorem zlw {x0:Snap} {r:Bool} {a:Val} {c:Val} (hA:Gd F w) (f:SlF Part.t F a x0.man.parts) (g:SlF Loc.t F c x0.locs) (H:zhx x0=some r):Ret Tryz.prog K 66 [.agg (Snap.cells x0 a c)] w fun v w'=>∃ (F':Frz),v = .b r∧St [] w F F' [] w':=by
 refine qa1 Tryz.func66 ?_;have hS:=St.start hA;refine qs ?_;refine bx ([.i .i64 x0.seq,.s x0.man.name,a,c]) ?_;intro e h d;refine au ?_;exact rz H d
def zao.k1:Option Int :=
  some (-1)
def zao.l2 (x0:List Snap) (c:Int→Option Int):Int→Option Int
  | a =>
    if decide (a < (x0.length:Int)) then
      bd (ix x0 a) fun x6 =>
      bd (zhx x6) fun b =>
      if b then
        some a
      else
        c (wr (a+1))
    else
      zao.k1
def zao (x0:List Snap):Option Int :=
  loop (zao.l2 x0) 0
theorem zfm {x0:List Snap} {r:Int} {b:Val} (hA:Gd F w) (d:SlF Snap.t F b x0) (H:zao x0=some r):Ret Tryz.prog K 115 [b,.f 66 []] w fun v w'=>∃ (F':Frz),v = .i .i64 r∧St [] w F F' [] w':=by
 refine qa2 Tryz.func115 ?_;have hS:=St.start hA;refine aq ?_;refine zac (jN (zao.k1=some r) [] hS) ?_ ?_
 ·refine ax ?_;refine lj hS (fun s:Int=>[(0,b),(1,.f 66 []),(7,.i .i64 (x0.length:Int)),(8,.i .i64 s)]) H ?_;intro A x q J n a H;refine ay ?_;refine qy H (fun h H=>?_) (fun h H=>?_)
  ·obtain ⟨x6,m,z,j,H⟩:=bd2 H;obtain ⟨_,⟨B,D,rfl,k,l⟩,u⟩:=elx 4 (d.mono n) m;refine ay ?_;refine lp (zlw a.good k l j) a ?_;intro I c;refine qn ?_;refine qy H (fun g H=>?_) (fun g H=>?_)
   ·exact rz H c
   ·refine ax ?_;exact nm H (jj c)
  ·refine zbe _ rfl ?_;exact nj ⟨H,jj a⟩
 ·rintro E G ⟨H,p,rfl,y,e⟩;exact rz H e
end
end Go.Wk.Lf
end
