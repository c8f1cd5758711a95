/- Plain lemmas on the words of lifted functions. What tree.Name tells, plainly. -/
import Derived.Test.YtfphkkaifgnlgaaGreatG4
set_option linter.unusedVariables false
set_option linter.unusedSimpArgs false
section
namespace Go.Wk.Lf
open Go.V Go.Proofs
noncomputable section
set_option maxRecDepth 100000
variable {K:Tb} {F:Frz} {w:Hp}
def zcc.k1 (x0:List UInt8):Option Int :=
  some (x0.length:Int)
def zcc.l2 (x0:List UInt8) (rec5:(UInt32 × Int) → Option Int):(UInt32 × Int) → Option Int
  | (i3,i4) =>
    if decide (i4 < (x0.length:Int)) then
      bd (ix x0 i4) fun x7 =>
      if ((decide (8 ≤ wr (i4 + 1)) && decide (((((i3 * (2:UInt32)) + ((x7.toUInt32 + (1:UInt32)) * (2654435761:UInt32))) >>> UInt32.ofNat 28).toNat:Int) = 0)) || decide (wr (i4 + 1) = 64)) then
        some (wr (i4 + 1))
      else
        rec5 (((i3 * (2:UInt32)) + ((x7.toUInt32 + (1:UInt32)) * (2654435761:UInt32))),wr (i4 + 1))
    else
      zcc.k1 x0
def zcc (x0:List UInt8):Option Int :=
  loop (zcc.l2 x0) ((0:UInt32),0)
theorem zod {x0:List UInt8} {r:Int} {v0:Val} (hA:Gd F w) (h0:SlF tB F v0 x0) (H:zcc x0 = some r):Ret Tryz.prog K 127 [v0] w fun v w'=>∃ (F':Frz),v = .i .i64 r ∧ St [] w F F' [] w':=by
 refine qa1 Tryz.func127 ?_;have hS:=St.start hA;dsimp only [zcc] at H;refine qs ?_;refine qm ?_;refine qs ?_;refine qm ?_;refine zao (fun E wq=>zcc.k1 x0 = some r ∧ ∃ (F1:Frz),E = [(0,v0)] ∧ F.le F1 ∧ St [] w F F1 [] wq) ?_ ?_
 ·refine qs ?_;refine qm ?_;refine zaw ?_;refine zbq (fun (s:UInt32 × Int) E wq=>∃ (F2:Frz),E = [(0,v0),(3,.i .u32 (s.1.toNat:Int)),(4,.i .i64 s.2)] ∧ F.le F2 ∧ St [] w F F2 [] wq) H ?_ ?_
  ·exact ⟨_,⟨F,rfl,(Frz.le.refl _),hS⟩,⟨rfl,rfl,rfl,trivial⟩⟩
  ·rintro rec5 ⟨i3,i4⟩ E w2 hI H
   try dsimp only at hI
   obtain ⟨F2,rfl,le2,hS2⟩:=hI;dsimp only [zcc.l2] at H;refine zay ?_;refine qs ?_;refine q2 ?_;refine qr (zbw Tryz.underlying47 rfl h0.ln) ?_;refine qr (zah rfl rfl zbr) ?_;refine qn ?_;refine qy H (fun hc6 H=>?_) (fun hc6 H=>?_)
   ·refine qk ?_;refine zay ?_;refine zaw ?_;obtain ⟨x7,hx7,H⟩:=zaq H;refine qs ?_;refine qc ?_;refine qr (zah rfl rfl (congrArg (fun z=>some (Val.i .u32 z)) (u32_mul i3 (2:UInt32)))) ?_;refine q2 ?_;obtain ⟨hp9,hy9⟩:=zab hx7;obtain ⟨cs9,hr9,he9⟩:=(h0.mono le2).el hy9;obtain rfl:=hr9;replace he9:=qj 1 he9;have hi9:=he9.ixd;refine qi Tryz.underlying47 Ty.zjr hi9 hp9 ?_;refine qr (zep 0 Ty.cell5 rfl (he9.mono hS2.agree) (by omega) rfl) ?_;refine qr (zfn Tryz.underlying5 Tryz.underlying169 rfl (u8_u32 _)) ?_;refine qr (zah rfl rfl (congrArg (fun z=>some (Val.i .u32 z)) (zfo x7.toUInt32 (1:UInt32)))) ?_;refine qr (zah rfl rfl (congrArg (fun z=>some (Val.i .u32 z)) (u32_mul (x7.toUInt32 + (1:UInt32)) (2654435761:UInt32)))) ?_;refine qr (zah rfl rfl (congrArg (fun z=>some (Val.i .u32 z)) (zfo (i3 * (2:UInt32)) ((x7.toUInt32 + (1:UInt32)) * (2654435761:UInt32))))) ?_;refine qm ?_;refine qs ?_;refine q2 ?_;refine qr (zah rfl rfl zmj) ?_;refine qc ?_;refine W_gs (v:=.i .u32 (((i3 * (2:UInt32)) + ((x7.toUInt32 + (1:UInt32)) * (2654435761:UInt32))).toNat:Int)) rfl rfl rfl rfl (fun ⟨hb10,_⟩=>?_) ?_
    ·rw [hb10];exact (qc ·)
    refine W_gs (v:=.i .u32 ((((i3 * (2:UInt32)) + ((x7.toUInt32 + (1:UInt32)) * (2654435761:UInt32))) >>> UInt32.ofNat 28).toNat:Int)) rfl rfl rfl rfl (fun ⟨hb11,_⟩=>?_) ?_
    ·rw [hb11];exact (qr (zah rfl rfl ((zmi (by decide) (by decide)).trans (congrArg (fun z=>some (Val.i .u32 z)) (ztd _ _ 28 rfl (by decide))))) ·)
    refine W_gs (v:=.b (decide (((((i3 * (2:UInt32)) + ((x7.toUInt32 + (1:UInt32)) * (2654435761:UInt32))) >>> UInt32.ofNat 28).toNat:Int) = 0))) rfl rfl rfl rfl (fun ⟨hb12,_⟩=>?_) ?_
    ·rw [hb12];exact (qr (zah rfl rfl zdr) ·)
    refine zje rfl rfl rfl rfl rfl (fun hc=>by rw [hc]; rfl) rfl ?_;refine qc ?_;refine W_gs (v:=.i .i64 i4) rfl rfl rfl rfl (fun ⟨hb13,_⟩=>?_) ?_
    ·rw [hb13];exact (qc ·)
    refine W_gs (v:=.i .i64 (wr (i4 + 1))) rfl rfl rfl rfl (fun ⟨hb14,_⟩=>?_) ?_
    ·rw [hb14];exact (qc ·)
    refine W_gs (v:=.b (decide (wr (i4 + 1) = 64))) rfl rfl rfl rfl (fun ⟨hb15,_⟩=>?_) ?_
    ·rw [hb15];exact (qr (zah rfl rfl zdr) ·)
    refine zht rfl rfl rfl rfl rfl rfl (fun hc=>by rw [hc]; rfl) ?_;refine qn ?_;refine qy H (fun hc16 H=>?_) (fun hc16 H=>?_)
    ·refine qs ?_;refine q2 ?_;refine qm ?_;obtain rfl:=oi H;refine qt ?_;exact ⟨F2,rfl,hS2⟩
    ·refine zeu ?_;refine zbg ?_;refine zcl ?_;refine qd ?_;refine q3 ?_;refine zbk ?_;exact zbe (((i3 * (2:UInt32)) + ((x7.toUInt32 + (1:UInt32)) * (2654435761:UInt32))),wr (i4 + 1)) _ H ⟨F2,rfl,le2,hS2⟩ ⟨rfl,rfl,rfl,trivial⟩
   ·refine zci _ rfl ?_;exact zbb _ ⟨H,⟨F2,rfl,le2,hS2⟩⟩ ⟨rfl,trivial⟩
 ·rintro E w1 ⟨H,F1,rfl,le1,hS1⟩;dsimp only [zcc.k1] at H;refine qs ?_;refine qc ?_;refine qr (zbw Tryz.underlying47 rfl h0.ln) ?_;refine qm ?_;obtain rfl:=oi H;refine qt ?_;exact ⟨F1,rfl,hS1⟩
def zcj.k1 (l2:List (List UInt8)):Option (List (List UInt8)) :=
  some l2
def zcj.l2 (rec12:((List UInt8) × (List (List UInt8))) → Option (List (List UInt8))):((List UInt8) × (List (List UInt8))) → Option (List (List UInt8))
  | (l6,l9) =>
    if decide (0 < (l6.length:Int)) then
      bd (zcc l6) fun r14 =>
      bd (cut (α:=UInt8) l6 0 r14) fun l16 =>
      bd (zev l16) fun r18 =>
      bd (app (α:=(List UInt8)) l9 [r18]) fun l20 =>
      bd (cut (α:=UInt8) l6 r14 (l6.length:Int)) fun l24 =>
      rec12 (l24,l20)
    else
      zcj.k1 l9
def zcj (x0:List UInt8):Option (List (List UInt8)) :=
  loop (zcj.l2) (x0,[])
theorem zoz {x0:List UInt8} {r:(List (List UInt8))} {v0:Val} (hA:Gd F w) (h0:SlF tB F v0 x0) (H:zcj x0 = some r):Ret Tryz.prog K 82 [v0] w fun v w'=>∃ (F':Frz) (q0:Val),v = q0 ∧ St [] w F F' [.row (tSl tB) q0 (r)] w':=by
 refine qa1 Tryz.func82 ?_;have hS:=St.start hA;dsimp only [zcj] at H;refine qs ?_;refine qm ?_;refine qs ?_;refine qm ?_;refine zao (fun E wq=>∃ l2:List (List UInt8),zcj.k1 l2 = some r ∧ ∃ (F1:Frz) (u3:Val),E = [(3,u3)] ∧ F.le F1 ∧ St [] w F F1 [.row (tSl tB) u3 l2] wq) ?_ ?_
 ·refine zaw ?_;refine zbq (fun (s:(List UInt8) × (List (List UInt8))) E wq=>∃ (F5:Frz) (u7:Val) (u10:Val),E = [(0,u7),(3,u10)] ∧ F.le F5 ∧ SlF tB F5 u7 s.1 ∧ St [] w F F5 [.row (tSl tB) u10 s.2] wq) H ?_ ?_
  ·have hS27:=hS.nilRow (tSl tB);exact ⟨_,⟨F,v0,(.sl none 0 (.k 0)),rfl,(Frz.le.refl _),h0,hS27⟩,⟨rfl,rfl,trivial⟩⟩
  ·rintro rec12 ⟨l6,l9⟩ E w5 hI H
   try dsimp only at hI
   obtain ⟨F5,u7,u10,rfl,le5,hx8,hS5⟩:=hI;dsimp only [zcj.l2] at H;refine zay ?_;refine qs ?_;refine qc ?_;refine qr (zbw Tryz.underlying47 rfl hx8.ln) ?_;refine qr (zah rfl rfl zgc) ?_;refine qn ?_;refine qy H (fun hc13 H=>?_) (fun hc13 H=>?_)
   ·refine qk ?_;refine zaw ?_;obtain ⟨r14,hr14,H⟩:=zaq H;refine qs ?_;refine qc ?_;refine lm (zod hS5.good hx8 hr14) ?_;rintro v15 w15 ⟨Fr14,rfl,hT15⟩;have hS15:=hS5.lent hT15;refine qm ?_;obtain ⟨l16,hl16,r18,hr18,H⟩:=bd2 H;obtain ⟨l20,hl20,H⟩:=zaq H;refine qs ?_;refine q3 ?_;refine zoi 0 r14 rfl rfl rfl rfl Tryz.underlying47 Ty.zjr rfl (.inl ⟨rfl,rfl⟩) (.inr ⟨_,_,rfl,rfl⟩) hx8 hl16 ?_;intro q17 hv17;refine lm (zkb hS15.good hv17 hr18) ?_;rintro ur18_0 w22 ⟨Fr18,_,rfl,hT22⟩;have hS22:=hS15.call hT22;have ler18:=hT22.ext;obtain ⟨F23,le23,hf23,hS23⟩:=hS22.freezeR 0 [1] rfl (by decide) (by decide);refine xm (E_bs (t:=(tSl tB)) (vs:=[ur18_0]) (xs:=[r18]) Tryz.underlying95 Ty.row47 rfl (by simp only [List.map_cons,List.map_nil,hf23.ln.cells]; exact ⟨⟨_,rfl,hf23⟩,trivial⟩) rfl rfl hS23) ?_;rintro u19 w19 hS19;refine xm (zft (t:=(tSl tB)) 1 Tryz.underlying95 Ty.row47 Ty.zk95 rfl rfl hS19 rfl (hS19.rowSrc (k:=0) rfl) hl20) ?_;rintro v21 w21 hS21;refine qm ?_;obtain ⟨l24,hl24,H⟩:=zaq H;refine qd ?_;refine q2 ?_;refine zoi r14 (l6.length:Int) rfl rfl rfl rfl Tryz.underlying47 Ty.zjr rfl (.inr ⟨_,_,rfl,rfl⟩) (.inl ⟨rfl,rfl⟩) hx8 hl24 ?_;intro q25 hv25;refine qc ?_;refine zbk ?_;refine zbg ?_;exact zbe (l24,l20) _ H ⟨F23,q25,v21,rfl,((le5.trans ler18).trans le23),(hv25.mono (ler18.trans le23)),hS21.pick [1] (by decide)⟩ ⟨rfl,rfl,trivial⟩
   ·refine zci _ rfl ?_;exact zbb _ ⟨l9,H,⟨F5,u10,rfl,le5,hS5⟩⟩ ⟨rfl,trivial⟩
 ·rintro E w1 ⟨l2,H,F1,u3,rfl,le1,hS1⟩;dsimp only [zcj.k1] at H;refine qs ?_;refine qc ?_;refine qm ?_;obtain rfl:=oi H;refine qt ?_;exact ⟨F1,u3,rfl,hS1⟩
def zhh:Option (List UInt32) :=
  some ([1116352408,1899447441,3049323471,3921009573,961987163,1508970993,2453635748,2870763221,3624381080,310598401,607225278,1426881987,1925078388,2162078206,2614888103,3248222580,3835390401,4022224774,264347078,604807628,770255983,1249150122,1555081692,1996064986,2554220882,2821834349,2952996808,3210313671,3336571891,3584528711,113926993,338241895,666307205,773529912,1294757372,1396182291,1695183700,1986661051,2177026350,2456956037,2730485921,2820302411,3259730800,3345764771,3516065817,3600352804,4094571909,275423344,430227734,506948616,659060556,883997877,958139571,1322822218,1537002063,1747873779,1955562222,2024104815,2227730452,2361852424,2428436474,2756734187,3204031479,3329325298]:List UInt32)
theorem zoa {r:(List UInt32)} (hA:Gd F w) (H:zhh = some r):Ret Tryz.prog K 109 [] w fun v w'=>∃ (F':Frz),v = .agg (arrC 64 cW 0 r) ∧ (r).length = 64 ∧ St [] w F F' [] w':=by
 refine zqs (args:=[]) Tryz.func109 rfl (by decide) rfl ?_;change C _ _ _ _ _ [] _;have hS:=St.start hA;dsimp only [zhh] at H;refine qs ?_;refine xm (zgk (cs:=arrC 64 cW 0 (List.replicate 64 (0:UInt32))) Ty.zvz rfl hS) ?_;rintro _ w1 ⟨g1,rfl,hS1⟩;refine qn ?_;refine qs ?_;refine qr (zqt (vs:=[(0,.i .u32 ((1116352408:UInt32).toNat:Int)),(1,.i .u32 ((1899447441:UInt32).toNat:Int)),(2,.i .u32 ((3049323471:UInt32).toNat:Int)),(3,.i .u32 ((3921009573:UInt32).toNat:Int)),(4,.i .u32 ((961987163:UInt32).toNat:Int)),(5,.i .u32 ((1508970993:UInt32).toNat:Int)),(6,.i .u32 ((2453635748:UInt32).toNat:Int)),(7,.i .u32 ((2870763221:UInt32).toNat:Int)),(8,.i .u32 ((3624381080:UInt32).toNat:Int)),(9,.i .u32 ((310598401:UInt32).toNat:Int)),(10,.i .u32 ((607225278:UInt32).toNat:Int)),(11,.i .u32 ((1426881987:UInt32).toNat:Int)),(12,.i .u32 ((1925078388:UInt32).toNat:Int)),(13,.i .u32 ((2162078206:UInt32).toNat:Int)),(14,.i .u32 ((2614888103:UInt32).toNat:Int)),(15,.i .u32 ((3248222580:UInt32).toNat:Int)),(16,.i .u32 ((3835390401:UInt32).toNat:Int)),(17,.i .u32 ((4022224774:UInt32).toNat:Int)),(18,.i .u32 ((264347078:UInt32).toNat:Int)),(19,.i .u32 ((604807628:UInt32).toNat:Int)),(20,.i .u32 ((770255983:UInt32).toNat:Int)),(21,.i .u32 ((1249150122:UInt32).toNat:Int)),(22,.i .u32 ((1555081692:UInt32).toNat:Int)),(23,.i .u32 ((1996064986:UInt32).toNat:Int)),(24,.i .u32 ((2554220882:UInt32).toNat:Int)),(25,.i .u32 ((2821834349:UInt32).toNat:Int)),(26,.i .u32 ((2952996808:UInt32).toNat:Int)),(27,.i .u32 ((3210313671:UInt32).toNat:Int)),(28,.i .u32 ((3336571891:UInt32).toNat:Int)),(29,.i .u32 ((3584528711:UInt32).toNat:Int)),(30,.i .u32 ((113926993:UInt32).toNat:Int)),(31,.i .u32 ((338241895:UInt32).toNat:Int)),(32,.i .u32 ((666307205:UInt32).toNat:Int)),(33,.i .u32 ((773529912:UInt32).toNat:Int)),(34,.i .u32 ((1294757372:UInt32).toNat:Int)),(35,.i .u32 ((1396182291:UInt32).toNat:Int)),(36,.i .u32 ((1695183700:UInt32).toNat:Int)),(37,.i .u32 ((1986661051:UInt32).toNat:Int)),(38,.i .u32 ((2177026350:UInt32).toNat:Int)),(39,.i .u32 ((2456956037:UInt32).toNat:Int)),(40,.i .u32 ((2730485921:UInt32).toNat:Int)),(41,.i .u32 ((2820302411:UInt32).toNat:Int)),(42,.i .u32 ((3259730800:UInt32).toNat:Int)),(43,.i .u32 ((3345764771:UInt32).toNat:Int)),(44,.i .u32 ((3516065817:UInt32).toNat:Int)),(45,.i .u32 ((3600352804:UInt32).toNat:Int)),(46,.i .u32 ((4094571909:UInt32).toNat:Int)),(47,.i .u32 ((275423344:UInt32).toNat:Int)),(48,.i .u32 ((430227734:UInt32).toNat:Int)),(49,.i .u32 ((506948616:UInt32).toNat:Int)),(50,.i .u32 ((659060556:UInt32).toNat:Int)),(51,.i .u32 ((883997877:UInt32).toNat:Int)),(52,.i .u32 ((958139571:UInt32).toNat:Int)),(53,.i .u32 ((1322822218:UInt32).toNat:Int)),(54,.i .u32 ((1537002063:UInt32).toNat:Int)),(55,.i .u32 ((1747873779:UInt32).toNat:Int)),(56,.i .u32 ((1955562222:UInt32).toNat:Int)),(57,.i .u32 ((2024104815:UInt32).toNat:Int)),(58,.i .u32 ((2227730452:UInt32).toNat:Int)),(59,.i .u32 ((2361852424:UInt32).toNat:Int)),(60,.i .u32 ((2428436474:UInt32).toNat:Int)),(61,.i .u32 ((2756734187:UInt32).toNat:Int)),(62,.i .u32 ((3204031479:UInt32).toNat:Int)),(63,.i .u32 ((3329325298:UInt32).toNat:Int))]) (v:=.agg (arrC 64 cW 0 ([1116352408,1899447441,3049323471,3921009573,961987163,1508970993,2453635748,2870763221,3624381080,310598401,607225278,1426881987,1925078388,2162078206,2614888103,3248222580,3835390401,4022224774,264347078,604807628,770255983,1249150122,1555081692,1996064986,2554220882,2821834349,2952996808,3210313671,3336571891,3584528711,113926993,338241895,666307205,773529912,1294757372,1396182291,1695183700,1986661051,2177026350,2456956037,2730485921,2820302411,3259730800,3345764771,3516065817,3600352804,4094571909,275423344,430227734,506948616,659060556,883997877,958139571,1322822218,1537002063,1747873779,1955562222,2024104815,2227730452,2361852424,2428436474,2756734187,3204031479,3329325298]:List UInt32))) Ty.blda170 rfl rfl) ?_
 refine um (zef (c:=arrC 64 cW 0 ([1116352408,1899447441,3049323471,3921009573,961987163,1508970993,2453635748,2870763221,3624381080,310598401,607225278,1426881987,1925078388,2162078206,2614888103,3248222580,3835390401,4022224774,264347078,604807628,770255983,1249150122,1555081692,1996064986,2554220882,2821834349,2952996808,3210313671,3336571891,3584528711,113926993,338241895,666307205,773529912,1294757372,1396182291,1695183700,1986661051,2177026350,2456956037,2730485921,2820302411,3259730800,3345764771,3516065817,3600352804,4094571909,275423344,430227734,506948616,659060556,883997877,958139571,1322822218,1537002063,1747873779,1955562222,2024104815,2227730452,2361852424,2428436474,2756734187,3204031479,3329325298]:List UInt32)) 0 (arrC 64 cW 0 ([1116352408,1899447441,3049323471,3921009573,961987163,1508970993,2453635748,2870763221,3624381080,310598401,607225278,1426881987,1925078388,2162078206,2614888103,3248222580,3835390401,4022224774,264347078,604807628,770255983,1249150122,1555081692,1996064986,2554220882,2821834349,2952996808,3210313671,3336571891,3584528711,113926993,338241895,666307205,773529912,1294757372,1396182291,1695183700,1986661051,2177026350,2456956037,2730485921,2820302411,3259730800,3345764771,3516065817,3600352804,4094571909,275423344,430227734,506948616,659060556,883997877,958139571,1322822218,1537002063,1747873779,1955562222,2024104815,2227730452,2361852424,2428436474,2756734187,3204031479,3329325298]:List UInt32)) rfl rfl hS1 rfl rfl Ty.size170 rfl rfl rfl) ?_
 rintro _ w2 hS2;refine qn ?_;obtain rfl:=oi H;refine znc (vs:=[.agg (arrC 64 cW 0 ([1116352408,1899447441,3049323471,3921009573,961987163,1508970993,2453635748,2870763221,3624381080,310598401,607225278,1426881987,1925078388,2162078206,2614888103,3248222580,3835390401,4022224774,264347078,604807628,770255983,1249150122,1555081692,1996064986,2554220882,2821834349,2952996808,3210313671,3336571891,3584528711,113926993,338241895,666307205,773529912,1294757372,1396182291,1695183700,1986661051,2177026350,2456956037,2730485921,2820302411,3259730800,3345764771,3516065817,3600352804,4094571909,275423344,430227734,506948616,659060556,883997877,958139571,1322822218,1537002063,1747873779,1955562222,2024104815,2227730452,2361852424,2428436474,2756734187,3204031479,3329325298]:List UInt32))]) rfl ⟨(zjy 0 Ty.agg170 Ty.size170 hS2 rfl rfl),trivial⟩ ?_;exact ⟨F,rfl,rfl,hS2.pick [] (by decide)⟩
def zaz.k2 (l11:List UInt8):Option (List UInt8) :=
  some l11
def zaz.l3 (x0:List UInt8) (rec17:(Int × (List UInt8)) → Option (List UInt8)):(Int × (List UInt8)) → Option (List UInt8)
  | (i14,l15) =>
    if decide (0 ≤ i14) then
      bd (shrU (wu (wu (x0.length:Int) * 8)) (wu (8 * wu i14))) fun x19 =>
      bd (app (α:=UInt8) l15 [(toB8 x19)]) fun l21 =>
      rec17 (wr (i14 - 1),l21)
    else
      zaz.k2 l15
def zaz.k1 (x0:List UInt8) (l8:List UInt8):Option (List UInt8) :=
  loop (zaz.l3 x0) (7,l8)
def zaz.l4 (x0:List UInt8) (rec27:(List UInt8) → Option (List UInt8)):(List UInt8) → Option (List UInt8)
  | l25 =>
    if decide ((wr ((l25.length:Int) + 8)).tmod 64 ≠ 0) then
      bd (app (α:=UInt8) l25 [(0:UInt8)]) fun l30 =>
      rec27 l30
    else
      zaz.k1 x0 l25
def zaz (x0:List UInt8):Option (List UInt8) :=
  bd (app (α:=UInt8) [] x0) fun l1 =>
  bd (app (α:=UInt8) l1 [(128:UInt8)]) fun l4 =>
  loop (zaz.l4 x0) l4
theorem zmt {x0:List UInt8} {r:(List UInt8)} {v0:Val} (hA:Gd F w) (h0:SlF tB F v0 x0) (H:zaz x0 = some r):Ret Tryz.prog K 110 [v0] w fun v w'=>∃ (F':Frz) (q0:Val),v = q0 ∧ St [] w F F' [.row tB q0 (r)] w':=by
 refine qa1 Tryz.func110 ?_;have hS:=St.start hA;dsimp only [zaz] at H;refine qs ?_;refine qm ?_;refine qs ?_;refine qm ?_;obtain ⟨l1,hl1,l4,hl4,H⟩:=bd2 H;refine qs ?_;refine q2 ?_;have hS6:=hS.nilRow tB;refine xm (zft (t:=tB) 0 Tryz.underlying47 Ty.row5 Ty.zk47 rfl rfl hS6 rfl (h0.src hS6.agree) hl1) ?_;rintro v2 w2 hS2;refine xm (E_bs (t:=tB) (vs:=[.i .u8 ((128:UInt8).toNat:Int)]) (xs:=[(128:UInt8)]) Tryz.underlying47 Ty.row5 rfl ⟨rfl,trivial⟩ rfl rfl hS2) ?_;rintro u3 w3 hS3;refine xm (zft (t:=tB) 1 Tryz.underlying47 Ty.row5 Ty.zk47 rfl rfl hS3 rfl (hS3.rowSrc (k:=0) rfl) hl4) ?_;rintro v5 w5 hS5;refine qm ?_;refine zao (fun E wq=>∃ l8:List UInt8,zaz.k1 x0 l8 = some r ∧ ∃ (F7:Frz) (u9:Val),E = [(0,v0),(3,u9)] ∧ F.le F7 ∧ St [] w F F7 [.row tB u9 l8] wq) ?_ ?_
 ·refine zaw ?_;refine zbq (fun (s:(List UInt8)) E wq=>∃ (F24:Frz) (u26:Val),E = [(0,v0),(3,u26)] ∧ F.le F24 ∧ St [] w F F24 [.row tB u26 s] wq) H ?_ ?_
  ·exact ⟨_,⟨F,v5,rfl,(Frz.le.refl _),hS5.pick [1] (by decide)⟩,⟨rfl,rfl,trivial⟩⟩
  ·rintro rec27 l25 E w24 hI H
   try dsimp only at hI
   obtain ⟨F24,u26,rfl,le24,hS24⟩:=hI;dsimp only [zaz.l4] at H;refine zay ?_;refine qs ?_;refine qc ?_;refine qr (zbw Tryz.underlying47 rfl (hS24.rowLn (k:=0) rfl)) ?_;refine qc ?_;refine qr (zah rfl rfl (by first | rfl | simp [binV,ibin])) ?_;refine qr (zah rfl rfl zeh) ?_;refine qn ?_;refine qy H (fun hc28 H=>?_) (fun hc28 H=>?_)
   ·refine qk ?_;refine zaw ?_;obtain ⟨l30,hl30,H⟩:=zaq H;refine qd ?_;refine qc ?_;refine xm (E_bs (t:=tB) (vs:=[.i .u8 ((0:UInt8).toNat:Int)]) (xs:=[(0:UInt8)]) Tryz.underlying47 Ty.row5 rfl ⟨rfl,trivial⟩ rfl rfl hS24) ?_;rintro u29 w29 hS29;refine xm (zft (t:=tB) 1 Tryz.underlying47 Ty.row5 Ty.zk47 rfl rfl hS29 rfl (hS29.rowSrc (k:=0) rfl) hl30) ?_;rintro v31 w31 hS31;refine qc ?_;refine zbk ?_;refine zbg ?_;exact zbe l30 _ H ⟨F24,v31,rfl,le24,hS31.pick [1] (by decide)⟩ ⟨rfl,rfl,trivial⟩
   ·refine zci _ rfl ?_;exact zbb _ ⟨l25,H,⟨F24,u26,rfl,le24,hS24⟩⟩ ⟨rfl,rfl,trivial⟩
 ·rintro E w7 ⟨l8,H,F7,u9,rfl,le7,hS7⟩;dsimp only [zaz.k1] at H;refine qs ?_;refine qc ?_;refine qr (zbw Tryz.underlying47 rfl h0.ln) ?_;refine qr (zfn Tryz.underlying3 Tryz.underlying194 rfl (rfl)) ?_;refine qc ?_;refine qm ?_;refine zao (fun E wq=>∃ l11:List UInt8,zaz.k2 l11 = some r ∧ ∃ (F10:Frz) (u12:Val),E = [(3,u12)] ∧ F7.le F10 ∧ St [] w F F10 [.row tB u12 l11] wq) ?_ ?_
  ·refine qs ?_;refine qm ?_;refine zaw ?_;refine zbq (fun (s:Int × (List UInt8)) E wq=>∃ (F13:Frz) (u16:Val),E = [(3,u16),(4,.i .u64 (wu (wu (x0.length:Int) * 8))),(5,.i .i64 s.1)] ∧ F7.le F13 ∧ St [] w F F13 [.row tB u16 s.2] wq) H ?_ ?_
   ·exact ⟨_,⟨F7,u9,rfl,(Frz.le.refl _),hS7⟩,⟨rfl,rfl,rfl,trivial⟩⟩
   ·rintro rec17 ⟨i14,l15⟩ E w13 hI H
    try dsimp only at hI
    obtain ⟨F13,u16,rfl,le13,hS13⟩:=hI;dsimp only [zaz.l3] at H;refine zay ?_;refine qs ?_;refine qc ?_;refine qr (zah rfl rfl zmj) ?_;refine qn ?_;refine qy H (fun hc18 H=>?_) (fun hc18 H=>?_)
    ·refine qk ?_;refine zay ?_;refine zaw ?_;obtain ⟨x19,hx19,l21,hl21,H⟩:=bd2 H;refine qd ?_;refine q3 ?_;refine qr (zfn Tryz.underlying3 Tryz.underlying26 rfl (rfl)) ?_;refine qc ?_;obtain ⟨hz23,hv23,hw23⟩:=shrU_some hx19;refine qr (zah rfl rfl (by rw [zmi hz23 hv23,← hw23])) ?_;refine qr (zfn Tryz.underlying194 Tryz.underlying5 rfl (zxb _)) ?_;refine xm (E_bs (t:=tB) (vs:=[.i .u8 ((toB8 x19).toNat:Int)]) (xs:=[(toB8 x19)]) Tryz.underlying47 Ty.row5 rfl ⟨rfl,trivial⟩ rfl rfl hS13) ?_;rintro u20 w20 hS20;refine xm (zft (t:=tB) 1 Tryz.underlying47 Ty.row5 Ty.zk47 rfl rfl hS20 rfl (hS20.rowSrc (k:=0) rfl) hl21) ?_;rintro v22 w22 hS22;refine qc ?_;refine zbk ?_;refine zbg ?_;refine zcl ?_;refine qd ?_;refine q3 ?_;refine zbk ?_;exact zbe (wr (i14 - 1),l21) _ H ⟨F13,v22,rfl,le13,hS22.pick [1] (by decide)⟩ ⟨rfl,rfl,rfl,trivial⟩
    ·refine zci _ rfl ?_;exact zbb _ ⟨l15,H,⟨F13,u16,rfl,le13,hS13⟩⟩ ⟨rfl,trivial⟩
  ·rintro E w10 ⟨l11,H,F10,u12,rfl,le10,hS10⟩;dsimp only [zaz.k2] at H;refine qs ?_;refine qc ?_;refine qm ?_;obtain rfl:=oi H;refine qt ?_;exact ⟨F10,u12,rfl,hS10⟩
def zbd (x0:UInt32) (x1:Int):Option UInt32 :=
  bd (shrW x0 x1) fun x2 =>
  bd (shlW x0 (wu (32 - x1))) fun x3 =>
  some (x2 ||| x3)
theorem zck {x0:UInt32} {x1:Int} {r:UInt32} (hA:Gd F w) (H:zbd x0 x1 = some r):Ret Tryz.prog K 111 [.i .u32 (x0.toNat:Int),.i .u64 x1] w fun v w'=>∃ (F':Frz),v = .i .u32 (r.toNat:Int) ∧ St [] w F F' [] w':=by
 refine qa2 Tryz.func111 ?_;have hS:=St.start hA;dsimp only [zbd] at H;refine qs ?_;refine qm ?_;obtain ⟨x2,hx2,x3,hx3,H⟩:=bd2 H;refine qs ?_;refine q2 ?_;refine qr (zah rfl rfl (bW_shr hx2)) ?_;refine q3 ?_;refine qr (zah rfl rfl (bW_shl hx3)) ?_;refine qr (zah rfl rfl ((zda (.inr (.inl rfl))).trans (congrArg (fun z=>some (Val.i .u32 z)) (Go.Wk.u32_or x2 x3)))) ?_;refine qm ?_;obtain rfl:=oi H;refine qt ?_;exact ⟨F,rfl,hS⟩
def zaa.k2 (s15:List UInt8):Option (List UInt8) :=
  some s15
def zaa.l3 (s11:List UInt32) (rec22:(Int × (List UInt8)) → Option (List UInt8)):(Int × (List UInt8)) → Option (List UInt8)
  | (i19,s20) =>
    if decide (i19 < 32) then
      bd (ix s11 (wr (i19.tdiv 4))) fun x24 =>
      bd (shrW x24 (wu (wr (24 - wr (8 * i19.tmod 4))))) fun x25 =>
      bd (ix s20 i19) fun x26 =>
      rec22 (wr (i19 + 1),(s20.set i19.toNat x25.toUInt8))
    else
      zaa.k2 s20
def zaa.k1 (s11:List UInt32):Option (List UInt8) :=
  loop (zaa.l3 s11) (0,(List.replicate 32 (0:UInt8)))
def zaa.k5 (i32:Int) (rec35:(Int × (List UInt32)) → Option (List UInt8)) (s38:List UInt32):Option (List UInt8) :=
  rec35 (wr (i32 + 64),s38)
def zaa.l8 (i32:Int) (rec35:(Int × (List UInt32)) → Option (List UInt8)) (s47:List UInt32) (rec53:(Int × (List UInt32)) → Option (List UInt8)):(Int × (List UInt32)) → Option (List UInt8)
  | (i50,s51) =>
    if decide (i50 < 8) then
      bd (ix s51 i50) fun x55 =>
      bd (ix s47 i50) fun x56 =>
      bd (ix s51 i50) fun x57 =>
      rec53 (wr (i50 + 1),(s51.set i50.toNat (x55 + x56)))
    else
      zaa.k5 i32 rec35 s51
def zaa.k7 (i32:Int) (s33:List UInt32) (rec35:(Int × (List UInt32)) → Option (List UInt8)) (s47:List UInt32):Option (List UInt8) :=
  loop (zaa.l8 i32 rec35 s47) (0,s33)
def zaa.l9 (r2:(List UInt32)) (i32:Int) (s33:List UInt32) (rec35:(Int × (List UInt32)) → Option (List UInt8)) (s42:List UInt32) (rec68:(Int × (List UInt32)) → Option (List UInt8)):(Int × (List UInt32)) → Option (List UInt8)
  | (i65,s66) =>
    if decide (i65 < 64) then
      bd (ix s66 0) fun x70 =>
      bd (ix s66 4) fun x71 =>
      bd (ix s66 7) fun x76 =>
      bd (ix s66 5) fun x77 =>
      bd (ix s66 6) fun x78 =>
      bd (ix r2 i65) fun x79 =>
      bd (ix s42 i65) fun x80 =>
      bd (zbd x71 6) fun r81 =>
      bd (zbd x71 11) fun r82 =>
      bd (zbd x71 25) fun r83 =>
      bd (ix s66 1) fun x100 =>
      bd (ix s66 2) fun x101 =>
      bd (ix s66 1) fun x102 =>
      bd (ix s66 2) fun x103 =>
      bd (zbd x70 2) fun r104 =>
      bd (zbd x70 13) fun r105 =>
      bd (zbd x70 22) fun r106 =>
      bd (ix s66 0) fun x119 =>
      bd (ix s66 1) fun x120 =>
      bd (ix s66 2) fun x121 =>
      bd (ix s66 3) fun x122 =>
      bd (ix s66 4) fun x123 =>
      bd (ix s66 5) fun x124 =>
      bd (ix s66 6) fun x125 =>
      rec68 (wr (i65 + 1),([(((((x76 + ((r81 ^^^ r82) ^^^ r83)) + ((x71 &&& x77) ^^^ ((~~~x71) &&& x78))) + x79) + x80) + (((r104 ^^^ r105) ^^^ r106) + (((x70 &&& x100) ^^^ (x70 &&& x101)) ^^^ (x102 &&& x103)))),x119,x120,x121,(x122 + ((((x76 + ((r81 ^^^ r82) ^^^ r83)) + ((x71 &&& x77) ^^^ ((~~~x71) &&& x78))) + x79) + x80)),x123,x124,x125]:List UInt32))
    else
      zaa.k7 i32 s33 rec35 s66
def zaa.k6 (r2:(List UInt32)) (i32:Int) (s33:List UInt32) (rec35:(Int × (List UInt32)) → Option (List UInt8)) (s42:List UInt32):Option (List UInt8) :=
  loop (zaa.l9 r2 i32 s33 rec35 s42) (0,s33)
def zaa.k11 (i142:Int) (rec145:(Int × (List UInt32)) → Option (List UInt8)) (s148:List UInt32):Option (List UInt8) :=
  rec145 (wr (i142 + 1),s148)
def zaa.k12 (i142:Int) (s143:List UInt32) (rec145:(Int × (List UInt32)) → Option (List UInt8)):Option (List UInt8) :=
  bd (ix s143 (wr (i142 - 15))) fun x151 =>
  bd (ix s143 (wr (i142 - 2))) fun x152 =>
  bd (ix s143 (wr (i142 - 16))) fun x157 =>
  bd (ix s143 (wr (i142 - 7))) fun x158 =>
  bd (zbd x151 7) fun r159 =>
  bd (zbd x151 18) fun r160 =>
  bd (zbd x152 17) fun r161 =>
  bd (zbd x152 19) fun r162 =>
  bd (ix s143 i142) fun x163 =>
  zaa.k11 i142 rec145 (s143.set i142.toNat (((x157 + x158) + ((r159 ^^^ r160) ^^^ (x151 >>> UInt32.ofNat 3))) + ((r161 ^^^ r162) ^^^ (x152 >>> UInt32.ofNat 10))))
def zaa.k13 (i142:Int) (rec145:(Int × (List UInt32)) → Option (List UInt8)) (s177:List UInt32):Option (List UInt8) :=
  zaa.k11 i142 rec145 s177
def zaa.l14 (r8:(List UInt8)) (i32:Int) (i142:Int) (rec145:(Int × (List UInt32)) → Option (List UInt8)) (rec183:(Int × (List UInt32)) → Option (List UInt8)):(Int × (List UInt32)) → Option (List UInt8)
  | (i180,s181) =>
    if decide (i180 < 4) then
      bd (ix s181 i142) fun x185 =>
      bd (ix r8 (wr (wr (i32 + wr (4 * i142)) + i180))) fun x186 =>
      bd (ix s181 i142) fun x188 =>
      rec183 (wr (i180 + 1),(s181.set i142.toNat ((x185 <<< UInt32.ofNat 8) ||| x186.toUInt32)))
    else
      zaa.k13 i142 rec145 s181
def zaa.l10 (r2:(List UInt32)) (r8:(List UInt8)) (i32:Int) (s33:List UInt32) (rec35:(Int × (List UInt32)) → Option (List UInt8)) (rec145:(Int × (List UInt32)) → Option (List UInt8)):(Int × (List UInt32)) → Option (List UInt8)
  | (i142,s143) =>
    if decide (i142 < 64) then
      if decide (i142 < 16) then
        loop (zaa.l14 r8 i32 i142 rec145) (0,s143)
      else
        zaa.k12 i142 s143 rec145
    else
      zaa.k6 r2 i32 s33 rec35 s143
def zaa.l4 (r2:(List UInt32)) (r8:(List UInt8)) (rec35:(Int × (List UInt32)) → Option (List UInt8)):(Int × (List UInt32)) → Option (List UInt8)
  | (i32,s33) =>
    if decide (i32 < (r8.length:Int)) then
      loop (zaa.l10 r2 r8 i32 s33 rec35) (0,(List.replicate 64 (0:UInt32)))
    else
      zaa.k1 s33
def zaa (x0:List UInt8):Option (List UInt8) :=
  bd (zhh) fun r2 =>
  bd (zaz x0) fun r8 =>
  loop (zaa.l4 r2 r8) (0,([1779033703,3144134277,1013904242,2773480762,1359893119,2600822924,528734635,1541459225]:List UInt32))
set_option maxHeartbeats 2000000 in
theorem zpm {x0:List UInt8} {r:(List UInt8)} {v0:Val} (hA:Gd F w) (h0:SlF tB F v0 x0) (H:zaa x0 = some r):Ret Tryz.prog K 53 [v0] w fun v w'=>∃ (F':Frz),v = .agg (zat r) ∧ (r).length = 32 ∧ St [] w F F' [] w':=by
 refine qa1 Tryz.func53 ?_;have hS:=St.start hA;dsimp only [zaa] at H;refine qs ?_;refine xm (zgk (cs:=zat (List.replicate 32 (0:UInt8))) Ty.zrh rfl hS) ?_;rintro _ w1 ⟨g1,rfl,hS1⟩;refine qn ?_;obtain ⟨r2,hr2,H⟩:=zaq H;refine qs ?_;refine lm (zoa hS1.good hr2) ?_;rintro v4 w4 ⟨Fr2,rfl,hlr2_0,hT4⟩;have hS4:=hS1.call hT4;have ler2:=hT4.ext;refine xm (zgk (cs:=arrC 64 cW 0 (List.replicate 64 (0:UInt32))) Ty.zvz rfl hS4) ?_;rintro _ w3 ⟨g3,rfl,hS3⟩;refine um (zef (c:=arrC 64 cW 0 r2) 0 (arrC 64 cW 0 r2) rfl rfl hS3 rfl rfl Ty.size170 rfl rfl rfl) ?_;rintro _ w5 hS5;refine qn ?_;refine qs ?_;refine qr (zqt (vs:=[(0,.i .u32 ((1779033703:UInt32).toNat:Int)),(1,.i .u32 ((3144134277:UInt32).toNat:Int)),(2,.i .u32 ((1013904242:UInt32).toNat:Int)),(3,.i .u32 ((2773480762:UInt32).toNat:Int)),(4,.i .u32 ((1359893119:UInt32).toNat:Int)),(5,.i .u32 ((2600822924:UInt32).toNat:Int)),(6,.i .u32 ((528734635:UInt32).toNat:Int)),(7,.i .u32 ((1541459225:UInt32).toNat:Int))]) (v:=.agg (arrC 8 cW 0 ([1779033703,3144134277,1013904242,2773480762,1359893119,2600822924,528734635,1541459225]:List UInt32))) Ty.zxq rfl rfl) ?_;refine xm (zgk (cs:=arrC 8 cW 0 (List.replicate 8 (0:UInt32))) Ty.zvy rfl hS5) ?_;rintro _ w6 ⟨g6,rfl,hS6⟩;refine um (zef (c:=arrC 8 cW 0 ([1779033703,3144134277,1013904242,2773480762,1359893119,2600822924,528734635,1541459225]:List UInt32)) 0 (arrC 8 cW 0 ([1779033703,3144134277,1013904242,2773480762,1359893119,2600822924,528734635,1541459225]:List UInt32)) rfl rfl hS6 rfl rfl Ty.znj rfl rfl rfl) ?_;rintro _ w7 hS7;refine qn ?_;obtain ⟨r8,hr8,H⟩:=zaq H;refine qs ?_;refine qc ?_;refine lm (zmt hS7.good (h0.mono ler2) hr8) ?_;rintro ur8_0 w9 ⟨Fr8,_,rfl,hT9⟩;have hS9:=hS7.call hT9;have ler8:=hT9.ext;refine qm ?_;refine zao (fun E wq=>∃ s11:List UInt32,zaa.k1 s11 = some r ∧ ∃ (F10:Frz),E = [(2,pl g1 0),(4,pl g6 0)] ∧ Fr8.le F10 ∧ (s11).length = 8 ∧ St [] w F F10 [.box g6 (arrC 8 cW 0 s11),.box g1 (zat (List.replicate 32 (0:UInt8)))] wq) ?_ ?_
 ·refine qs ?_;refine qm ?_;refine zaw ?_;refine zbq (fun (s:Int × (List UInt32)) E wq=>∃ (F31:Frz),E = [(2,pl g1 0),(3,pl g3 0),(4,pl g6 0),(5,ur8_0),(6,.i .i64 s.1)] ∧ Fr8.le F31 ∧ (s.2).length = 8 ∧ St [] w F F31 [.row tB ur8_0 r8,.box g6 (arrC 8 cW 0 s.2),.box g3 (arrC 64 cW 0 r2),.box g1 (zat (List.replicate 32 (0:UInt8)))] wq) H ?_ ?_
  ·exact ⟨_,⟨Fr8,rfl,(Frz.le.refl _),rfl,hS9⟩,⟨rfl,rfl,rfl,rfl,rfl,trivial⟩⟩
  ·rintro rec35 ⟨i32,s33⟩ E w31 hI H
   try dsimp only at hI
   obtain ⟨F31,rfl,le31,hl34,hS31⟩:=hI;dsimp only [zaa.l4] at H;refine zay ?_;refine qs ?_;refine q2 ?_;refine qr (zbw Tryz.underlying47 rfl (hS31.rowLn (k:=0) rfl)) ?_;refine qr (zah rfl rfl zbr) ?_;refine qn ?_;refine qy H (fun hc36 H=>?_) (fun hc36 H=>?_)
   ·refine qk ?_;refine zao (fun E wq=>∃ s38:List UInt32,zaa.k5 i32 rec35 s38 = some r ∧ ∃ (F37:Frz),E = [(2,pl g1 0),(3,pl g3 0),(4,pl g6 0),(5,ur8_0),(6,.i .i64 i32)] ∧ F31.le F37 ∧ (s38).length = 8 ∧ St [] w F F37 [.row tB ur8_0 r8,.box g6 (arrC 8 cW 0 s38),.box g3 (arrC 64 cW 0 r2),.box g1 (zat (List.replicate 32 (0:UInt8)))] wq) ?_ ?_
    ·refine zaw ?_;refine qs ?_;refine xm (zgk (cs:=arrC 64 cW 0 (List.replicate 64 (0:UInt32))) Ty.zvz rfl hS31) ?_;rintro _ w40 ⟨g40,rfl,hS40⟩;refine qn ?_;refine zao (fun E wq=>∃ s42:List UInt32,zaa.k6 r2 i32 s33 rec35 s42 = some r ∧ ∃ (F41:Frz),E = [(2,pl g1 0),(3,pl g3 0),(4,pl g6 0),(5,ur8_0),(6,.i .i64 i32),(7,pl g40 0)] ∧ F31.le F41 ∧ (s42).length = 64 ∧ St [] w F F41 [.box g40 (arrC 64 cW 0 s42),.row tB ur8_0 r8,.box g6 (arrC 8 cW 0 s33),.box g3 (arrC 64 cW 0 r2),.box g1 (zat (List.replicate 32 (0:UInt8)))] wq) ?_ ?_
     ·refine qs ?_;refine qm ?_;refine zaw ?_;refine zbq (fun (s:Int × (List UInt32)) E wq=>∃ (F141:Frz),E = [(2,pl g1 0),(3,pl g3 0),(4,pl g6 0),(5,ur8_0),(6,.i .i64 i32),(7,pl g40 0),(8,.i .i64 s.1)] ∧ F31.le F141 ∧ (s.2).length = 64 ∧ St [] w F F141 [.box g40 (arrC 64 cW 0 s.2),.row tB ur8_0 r8,.box g6 (arrC 8 cW 0 s33),.box g3 (arrC 64 cW 0 r2),.box g1 (zat (List.replicate 32 (0:UInt8)))] wq) H ?_ ?_
      ·exact ⟨_,⟨F31,rfl,(Frz.le.refl _),(List.length_replicate),hS40⟩,⟨rfl,rfl,rfl,rfl,rfl,rfl,rfl,trivial⟩⟩
      ·rintro rec145 ⟨i142,s143⟩ E w141 hI H
       try dsimp only at hI
       obtain ⟨F141,rfl,le141,hl144,hS141⟩:=hI;dsimp only [zaa.l10] at H;refine zay ?_;refine qs ?_;refine qc ?_;refine qr (zah rfl rfl zbr) ?_;refine qn ?_;refine qy H (fun hc146 H=>?_) (fun hc146 H=>?_)
       ·refine qk ?_;refine zao (fun E wq=>∃ s148:List UInt32,zaa.k11 i142 rec145 s148 = some r ∧ ∃ (F147:Frz),E = [(2,pl g1 0),(3,pl g3 0),(4,pl g6 0),(5,ur8_0),(6,.i .i64 i32),(7,pl g40 0),(8,.i .i64 i142)] ∧ F141.le F147 ∧ (s148).length = 64 ∧ St [] w F F147 [.box g40 (arrC 64 cW 0 s148),.row tB ur8_0 r8,.box g6 (arrC 8 cW 0 s33),.box g3 (arrC 64 cW 0 r2),.box g1 (zat (List.replicate 32 (0:UInt8)))] wq) ?_ ?_
        ·refine zaw ?_;refine zao (fun E wq=>zaa.k12 i142 s143 rec145 = some r ∧ ∃ (F150:Frz),E = [(2,pl g1 0),(3,pl g3 0),(4,pl g6 0),(5,ur8_0),(6,.i .i64 i32),(7,pl g40 0),(8,.i .i64 i142)] ∧ F141.le F150 ∧ St [] w F F150 [.box g40 (arrC 64 cW 0 s143),.row tB ur8_0 r8,.box g6 (arrC 8 cW 0 s33),.box g3 (arrC 64 cW 0 r2),.box g1 (zat (List.replicate 32 (0:UInt8)))] wq) ?_ ?_
         ·refine qs ?_;refine qc ?_;refine qr (zah rfl rfl zbr) ?_;refine qn ?_;refine qy H (fun hc175 H=>?_) (fun hc175 H=>?_)
          ·refine zao (fun E wq=>∃ s177:List UInt32,zaa.k13 i142 rec145 s177 = some r ∧ ∃ (F176:Frz),E = [(2,pl g1 0),(3,pl g3 0),(4,pl g6 0),(5,ur8_0),(6,.i .i64 i32),(7,pl g40 0),(8,.i .i64 i142)] ∧ F141.le F176 ∧ (s177).length = 64 ∧ St [] w F F176 [.box g40 (arrC 64 cW 0 s177),.row tB ur8_0 r8,.box g6 (arrC 8 cW 0 s33),.box g3 (arrC 64 cW 0 r2),.box g1 (zat (List.replicate 32 (0:UInt8)))] wq) ?_ ?_
           ·refine qs ?_;refine qm ?_;refine zaw ?_;refine zbq (fun (s:Int × (List UInt32)) E wq=>∃ (F179:Frz),E = [(2,pl g1 0),(3,pl g3 0),(4,pl g6 0),(5,ur8_0),(6,.i .i64 i32),(7,pl g40 0),(8,.i .i64 i142),(9,.i .i64 s.1)] ∧ F141.le F179 ∧ (s.2).length = 64 ∧ St [] w F F179 [.box g40 (arrC 64 cW 0 s.2),.row tB ur8_0 r8,.box g6 (arrC 8 cW 0 s33),.box g3 (arrC 64 cW 0 r2),.box g1 (zat (List.replicate 32 (0:UInt8)))] wq) H ?_ ?_
            ·exact ⟨_,⟨F141,rfl,(Frz.le.refl _),hl144,hS141⟩,⟨rfl,rfl,rfl,rfl,rfl,rfl,rfl,rfl,trivial⟩⟩
            ·rintro rec183 ⟨i180,s181⟩ E w179 hI H
             try dsimp only at hI
             obtain ⟨F179,rfl,le179,hl182,hS179⟩:=hI;dsimp only [zaa.l14] at H;refine zay ?_;refine qs ?_;refine qc ?_;refine qr (zah rfl rfl zbr) ?_;refine qn ?_;refine qy H (fun hc184 H=>?_) (fun hc184 H=>?_)
             ·refine qk ?_;refine zay ?_;refine zaw ?_;obtain ⟨x185,hx185,x186,hx186,H⟩:=bd2 H;obtain ⟨x188,hx188,H⟩:=zaq H;refine zba (G:=F179) [0,1,2,3,4,5,6,7,8,9,10,11,12,13,14,15,16,17] rfl Ty.mixed (by kernel_rfl) hS179.agree ?_;refine q2 ?_;obtain ⟨hp189,hy189⟩:=zab hx185;refine qr (zei Tryz.underlying170 Ty.zbx rfl rfl hp189 (zcg hl182 hy189)) ?_;obtain ⟨_,hy190⟩:=zab hx185;refine qq (zea 0 Ty.zcn rfl hS179 rfl (by rw [Nat.zero_add]; exact zdi hl182 hy190)) ?_;refine qr (zah rfl rfl ((bI_shl (by decide) (by decide)).trans (congrArg (fun z=>some (Val.i .u32 z)) (u32_shl _ _ 8 rfl (by decide))))) ?_;refine q4 ?_;refine q3 ?_;obtain ⟨hp191,hy191⟩:=zab hx186;obtain ⟨cs191,hr191,he191⟩:=hS179.rowAt (k:=1) rfl hy191;obtain rfl:=hr191;replace he191:=qj 1 he191;have hi191:=he191.ixd;refine qi Tryz.underlying47 Ty.zjr hi191 hp191 ?_;refine qq (zep 0 Ty.cell5 rfl he191 (by omega) rfl) ?_;refine qr (zfn Tryz.underlying5 Tryz.underlying169 rfl (u8_u32 _)) ?_;refine qr (zah rfl rfl ((zda (.inr (.inl rfl))).trans (congrArg (fun z=>some (Val.i .u32 z)) (Go.Wk.u32_or (x185 <<< UInt32.ofNat 8) x186.toUInt32)))) ?_;obtain ⟨hp192,hy192⟩:=zab hx188;refine qr (zei Tryz.underlying170 Ty.zbx rfl rfl hp192 (zcg hl182 hy192)) ?_;refine qu (zrw (cs':=arrC 64 cW 0 (s181.set i142.toNat ((x185 <<< UInt32.ofNat 8) ||| x186.toUInt32))) 0 rfl rfl hS179 rfl rfl Ty.zbx (by rw [zou,Nat.zero_add]; exact (zcg hl182 hy192)) (zpn hl182 (zcg hl182 hy192) _)) ?_;rintro _ w193 hS193;refine Nxt.frz (Frz.le.refl _) hS193.agree ?_;refine zbk ?_;refine zbg ?_;refine zcl ?_;refine qd ?_;refine q3 ?_;refine zbk ?_;exact zbe (wr (i180 + 1),(s181.set i142.toNat ((x185 <<< UInt32.ofNat 8) ||| x186.toUInt32))) _ H ⟨F179,rfl,le179,(by rw [List.length_set]; exact hl182),hS193⟩ ⟨rfl,rfl,rfl,rfl,rfl,rfl,rfl,rfl,trivial⟩
             ·refine zci _ rfl ?_;exact zbb _ ⟨s181,H,⟨F179,rfl,le179,hl182,hS179⟩⟩ ⟨rfl,rfl,rfl,rfl,rfl,rfl,rfl,trivial⟩
           ·rintro E w176 ⟨s177,H,F176,rfl,le176,hl178,hS176⟩;dsimp only [zaa.k13] at H;refine zci _ rfl ?_;exact zbb _ ⟨s177,H,⟨F176,rfl,le176,hl178,hS176⟩⟩ ⟨rfl,rfl,rfl,rfl,rfl,rfl,rfl,trivial⟩
          ·refine zeu ?_;exact zbb _ ⟨H,⟨F141,rfl,(Frz.le.refl _),hS141⟩⟩ ⟨rfl,rfl,rfl,rfl,rfl,rfl,rfl,trivial⟩
         ·rintro E w150 ⟨H,F150,rfl,le150,hS150⟩;dsimp only [zaa.k12] at H;refine zay ?_;obtain ⟨x151,hx151,x152,hx152,H⟩:=bd2 H;refine zba (G:=(nowF _)) [0,1,2,3,4,5,6,7,8,9] rfl Ty.mixed (by kernel_rfl) (zdc _) ?_;refine q2 ?_;obtain ⟨hp153,hy153⟩:=zab hx151;refine qr (zei Tryz.underlying170 Ty.zbx rfl rfl hp153 (zcg hl144 hy153)) ?_;obtain ⟨_,hy154⟩:=zab hx151;refine qr (zea 0 Ty.zcn rfl hS150 rfl (by rw [Nat.zero_add]; exact zdi hl144 hy154)) ?_;refine q2 ?_;obtain ⟨hp155,hy155⟩:=zab hx152;refine qr (zei Tryz.underlying170 Ty.zbx rfl rfl hp155 (zcg hl144 hy155)) ?_;obtain ⟨_,hy156⟩:=zab hx152;refine qr (zea 0 Ty.zcn rfl hS150 rfl (by rw [Nat.zero_add]; exact zdi hl144 hy156)) ?_;refine qc ?_;refine qm ?_;obtain ⟨x157,hx157,x158,hx158,H⟩:=bd2 H;obtain ⟨r159,hr159,r160,hr160,H⟩:=bd2 H;obtain ⟨r161,hr161,r162,hr162,H⟩:=bd2 H;obtain ⟨x163,hx163,H⟩:=zaq H;have hb164:=hS150.boxAt 0 rfl;refine zba (G:=(F150.hold w150 [g40])) [0,1,2,3,4,5,6,7,8,9,10,12,15,16,19,21,24,25,11,13,14,17,18,20,22,23,26,27,28,29] rfl Ty.mixed (by kernel_rfl) (HB.agree (HB.cons 0 hb164 hS150 rfl HB.nil) hS150.agree) ?_;refine q3 ?_;obtain ⟨hp165,hy165⟩:=zab hx157;refine qr (zei Tryz.underlying170 Ty.zbx rfl rfl hp165 (zcg hl144 hy165)) ?_;obtain ⟨_,hy166⟩:=zab hx157;refine qr (zfb Ty.zcn rfl (hb164.held (HB.cons 0 hb164 hS150 rfl HB.nil) (by simp)) (by rw [Nat.zero_add]; exact zdi hl144 hy166)) ?_;refine q2 ?_;obtain ⟨hp167,hy167⟩:=zab hx158;refine qr (zei Tryz.underlying170 Ty.zbx rfl rfl hp167 (zcg hl144 hy167)) ?_;obtain ⟨_,hy168⟩:=zab hx158;refine qr (zfb Ty.zcn rfl (hb164.held (HB.cons 0 hb164 hS150 rfl HB.nil) (by simp)) (by rw [Nat.zero_add]; exact zdi hl144 hy168)) ?_;refine qr (zah rfl rfl (congrArg (fun z=>some (Val.i .u32 z)) (zfo x157 x158))) ?_;refine q3 ?_;refine qr (zah rfl rfl ((zmi (by decide) (by decide)).trans (congrArg (fun z=>some (Val.i .u32 z)) (ztd _ _ 3 rfl (by decide))))) ?_;refine q3 ?_;refine qr (zah rfl rfl ((zmi (by decide) (by decide)).trans (congrArg (fun z=>some (Val.i .u32 z)) (ztd _ _ 10 rfl (by decide))))) ?_;refine ql (zck hS150.good hr159) ?_;rintro v169 w169 ⟨Fr159,rfl,hT169⟩;have hS169:=hS150.lent hT169;refine qh 0 hb164 hS169 ?_
          refine ql (zck hS169.good hr160) ?_;rintro v170 w170 ⟨Fr160,rfl,hT170⟩;have hS170:=hS169.lent hT170;refine qh 0 hb164 hS170 ?_;refine qr (zah rfl rfl ((zda (.inr (.inr rfl))).trans (congrArg (fun z=>some (Val.i .u32 z)) (Go.Wk.zfx r159 r160)))) ?_;refine qr (zah rfl rfl ((zda (.inr (.inr rfl))).trans (congrArg (fun z=>some (Val.i .u32 z)) (Go.Wk.zfx (r159 ^^^ r160) (x151 >>> UInt32.ofNat 3))))) ?_;refine qr (zah rfl rfl (congrArg (fun z=>some (Val.i .u32 z)) (zfo (x157 + x158) ((r159 ^^^ r160) ^^^ (x151 >>> UInt32.ofNat 3))))) ?_;refine ql (zck hS170.good hr161) ?_;rintro v171 w171 ⟨Fr161,rfl,hT171⟩;have hS171:=hS170.lent hT171;refine qh 0 hb164 hS171 ?_;refine ql (zck hS171.good hr162) ?_;rintro v172 w172 ⟨Fr162,rfl,hT172⟩;have hS172:=hS171.lent hT172;refine qh 0 hb164 hS172 ?_;refine qr (zah rfl rfl ((zda (.inr (.inr rfl))).trans (congrArg (fun z=>some (Val.i .u32 z)) (Go.Wk.zfx r161 r162)))) ?_;refine qr (zah rfl rfl ((zda (.inr (.inr rfl))).trans (congrArg (fun z=>some (Val.i .u32 z)) (Go.Wk.zfx (r161 ^^^ r162) (x152 >>> UInt32.ofNat 10))))) ?_;refine qr (zah rfl rfl (congrArg (fun z=>some (Val.i .u32 z)) (zfo ((x157 + x158) + ((r159 ^^^ r160) ^^^ (x151 >>> UInt32.ofNat 3))) ((r161 ^^^ r162) ^^^ (x152 >>> UInt32.ofNat 10))))) ?_;obtain ⟨hp173,hy173⟩:=zab hx163;refine qr (zei Tryz.underlying170 Ty.zbx rfl rfl hp173 (zcg hl144 hy173)) ?_;refine W_drop (by kernel_rfl) hS172.agree ?_;refine qu (zrw (cs':=arrC 64 cW 0 (s143.set i142.toNat (((x157 + x158) + ((r159 ^^^ r160) ^^^ (x151 >>> UInt32.ofNat 3))) + ((r161 ^^^ r162) ^^^ (x152 >>> UInt32.ofNat 10))))) 0 rfl rfl hS172 rfl rfl Ty.zbx (by rw [zou,Nat.zero_add]; exact (zcg hl144 hy173)) (zpn hl144 (zcg hl144 hy173) _)) ?_;rintro _ w174 hS174;refine Nxt.frz (Frz.le.refl _) hS174.agree ?_;refine zbk ?_;refine zbg ?_;exact zbb _ ⟨(s143.set i142.toNat (((x157 + x158) + ((r159 ^^^ r160) ^^^ (x151 >>> UInt32.ofNat 3))) + ((r161 ^^^ r162) ^^^ (x152 >>> UInt32.ofNat 10)))),H,⟨F150,rfl,le150,(by rw [List.length_set]; exact hl144),hS174⟩⟩ ⟨rfl,rfl,rfl,rfl,rfl,rfl,rfl,trivial⟩
        ·rintro E w147 ⟨s148,H,F147,rfl,le147,hl149,hS147⟩;dsimp only [zaa.k11] at H;refine qd ?_;refine q3 ?_;refine zbk ?_;exact zbe (wr (i142 + 1),s148) _ H ⟨F147,rfl,(le141.trans le147),hl149,hS147⟩ ⟨rfl,rfl,rfl,rfl,rfl,rfl,rfl,trivial⟩
       ·refine zci _ rfl ?_;exact zbb _ ⟨s143,H,⟨F141,rfl,le141,hl144,hS141⟩⟩ ⟨rfl,rfl,rfl,rfl,rfl,rfl,trivial⟩
     ·rintro E w41 ⟨s42,H,F41,rfl,le41,hl43,hS41⟩;dsimp only [zaa.k6] at H;refine qs ?_;refine qr (zdh 2 (arrC 8 cW 0 s33) Ty.agg172 Ty.znj (Nat.zero_lt_succ _) rfl hS41 rfl (fun q u h=>zcy (post:=[]) rfl h)) ?_;refine xm (zgk (cs:=arrC 8 cW 0 (List.replicate 8 (0:UInt32))) Ty.zvy rfl hS41) ?_;rintro _ w44 ⟨g44,rfl,hS44⟩;refine um (zef (c:=arrC 8 cW 0 s33) 0 (arrC 8 cW 0 s33) rfl rfl hS44 rfl rfl Ty.znj rfl rfl rfl) ?_;rintro _ w45 hS45;refine qn ?_;refine zao (fun E wq=>∃ s47:List UInt32,zaa.k7 i32 s33 rec35 s47 = some r ∧ ∃ (F46:Frz),E = [(2,pl g1 0),(3,pl g3 0),(4,pl g6 0),(5,ur8_0),(6,.i .i64 i32),(12,pl g44 0)] ∧ F41.le F46 ∧ (s47).length = 8 ∧ St [] w F F46 [.box g44 (arrC 8 cW 0 s47),.row tB ur8_0 r8,.box g6 (arrC 8 cW 0 s33),.box g3 (arrC 64 cW 0 r2),.box g1 (zat (List.replicate 32 (0:UInt8)))] wq) ?_ ?_
      ·refine qs ?_;refine qm ?_;refine zaw ?_;refine zbq (fun (s:Int × (List UInt32)) E wq=>∃ (F64:Frz),E = [(2,pl g1 0),(3,pl g3 0),(4,pl g6 0),(5,ur8_0),(6,.i .i64 i32),(7,pl g40 0),(12,pl g44 0),(13,.i .i64 s.1)] ∧ F41.le F64 ∧ (s.2).length = 8 ∧ St [] w F F64 [.box g44 (arrC 8 cW 0 s.2),.box g40 (arrC 64 cW 0 s42),.row tB ur8_0 r8,.box g6 (arrC 8 cW 0 s33),.box g3 (arrC 64 cW 0 r2),.box g1 (zat (List.replicate 32 (0:UInt8)))] wq) H ?_ ?_
       ·exact ⟨_,⟨F41,rfl,(Frz.le.refl _),hl34,hS45⟩,⟨rfl,rfl,rfl,rfl,rfl,rfl,rfl,rfl,trivial⟩⟩
       ·rintro rec68 ⟨i65,s66⟩ E w64 hI H
        try dsimp only at hI
        obtain ⟨F64,rfl,le64,hl67,hS64⟩:=hI;dsimp only [zaa.l9] at H;refine zay ?_;refine qs ?_;refine qc ?_;refine qr (zah rfl rfl zbr) ?_;refine qn ?_;refine qy H (fun hc69 H=>?_) (fun hc69 H=>?_)
        ·refine qk ?_;refine zay ?_;refine zaw ?_;refine zay ?_;obtain ⟨x70,hx70,x71,hx71,H⟩:=bd2 H;refine zba (G:=(nowF _)) [0,1,2,3,4,5] rfl Ty.mixed (by kernel_rfl) (zdc _) ?_;obtain ⟨hp72,hy72⟩:=zab hx70;refine qr (zei Tryz.underlying172 Ty.zbx rfl rfl hp72 (zcg hl67 hy72)) ?_;obtain ⟨_,hy73⟩:=zab hx70;refine qr (zea 0 Ty.zcn rfl hS64 rfl (by rw [Nat.zero_add]; exact zdi hl67 hy73)) ?_;obtain ⟨hp74,hy74⟩:=zab hx71;refine qr (zei Tryz.underlying172 Ty.zbx rfl rfl hp74 (zcg hl67 hy74)) ?_;obtain ⟨_,hy75⟩:=zab hx71;refine qr (zea 0 Ty.zcn rfl hS64 rfl (by rw [Nat.zero_add]; exact zdi hl67 hy75)) ?_;refine qc ?_;refine qm ?_;refine zay ?_;obtain ⟨x76,hx76,x77,hx77,H⟩:=bd2 H;obtain ⟨x78,hx78,x79,hx79,H⟩:=bd2 H;obtain ⟨x80,hx80,r81,hr81,H⟩:=bd2 H;obtain ⟨r82,hr82,r83,hr83,H⟩:=bd2 H;have hb84:=hS64.boxAt 0 rfl;have hb85:=hS64.boxAt 4 rfl;have hb86:=hS64.boxAt 1 rfl;refine zba (G:=(F64.hold w64 [g44,g3,g40])) [0,1,2,4,7,11,12,13,14,15,16,17,18,19,20,22,23,24,26,27,28,3,5,6,8,9,10,21,25,29,30] rfl Ty.mixed (by kernel_rfl) (HB.agree (HB.cons 0 hb84 hS64 rfl (HB.cons 4 hb85 hS64 rfl (HB.cons 1 hb86 hS64 rfl HB.nil))) hS64.agree) ?_;obtain ⟨hp87,hy87⟩:=zab hx76;refine qr (zei Tryz.underlying172 Ty.zbx rfl rfl hp87 (zcg hl67 hy87)) ?_;obtain ⟨_,hy88⟩:=zab hx76;refine qr (zfb Ty.zcn rfl (hb84.held (HB.cons 0 hb84 hS64 rfl (HB.cons 4 hb85 hS64 rfl (HB.cons 1 hb86 hS64 rfl HB.nil))) (by simp)) (by rw [Nat.zero_add]; exact zdi hl67 hy88)) ?_;refine q4 ?_;obtain ⟨hp89,hy89⟩:=zab hx77;refine qr (zei Tryz.underlying172 Ty.zbx rfl rfl hp89 (zcg hl67 hy89)) ?_;obtain ⟨_,hy90⟩:=zab hx77;refine qr (zfb Ty.zcn rfl (hb84.held (HB.cons 0 hb84 hS64 rfl (HB.cons 4 hb85 hS64 rfl (HB.cons 1 hb86 hS64 rfl HB.nil))) (by simp)) (by rw [Nat.zero_add]; exact zdi hl67 hy90)) ?_;refine qr (zah rfl rfl ((zda (.inl rfl)).trans (congrArg (fun z=>some (Val.i .u32 z)) (Go.Wk.zlj x71 x77)))) ?_;refine qc ?_;refine qr (O_un rfl (uW_not x71)) ?_;obtain ⟨hp91,hy91⟩:=zab hx78;refine qr (zei Tryz.underlying172 Ty.zbx rfl rfl hp91 (zcg hl67 hy91)) ?_;obtain ⟨_,hy92⟩:=zab hx78;refine qr (zfb Ty.zcn rfl (hb84.held (HB.cons 0 hb84 hS64 rfl (HB.cons 4 hb85 hS64 rfl (HB.cons 1 hb86 hS64 rfl HB.nil))) (by simp)) (by rw [Nat.zero_add]; exact zdi hl67 hy92)) ?_
         refine qr (zah rfl rfl ((zda (.inl rfl)).trans (congrArg (fun z=>some (Val.i .u32 z)) (Go.Wk.zlj (~~~x71) x78)))) ?_;refine qr (zah rfl rfl ((zda (.inr (.inr rfl))).trans (congrArg (fun z=>some (Val.i .u32 z)) (Go.Wk.zfx (x71 &&& x77) ((~~~x71) &&& x78))))) ?_;refine qc ?_;obtain ⟨hp93,hy93⟩:=zab hx79;refine qr (zei Tryz.underlying170 Ty.zbx rfl rfl hp93 (zcg hlr2_0 hy93)) ?_;obtain ⟨_,hy94⟩:=zab hx79;refine qr (zfb Ty.zcn rfl (hb85.held (HB.cons 0 hb84 hS64 rfl (HB.cons 4 hb85 hS64 rfl (HB.cons 1 hb86 hS64 rfl HB.nil))) (by simp)) (by rw [Nat.zero_add]; exact zdi hlr2_0 hy94)) ?_;refine qc ?_;obtain ⟨hp95,hy95⟩:=zab hx80;refine qr (zei Tryz.underlying170 Ty.zbx rfl rfl hp95 (zcg hl43 hy95)) ?_;obtain ⟨_,hy96⟩:=zab hx80;refine qr (zfb Ty.zcn rfl (hb86.held (HB.cons 0 hb84 hS64 rfl (HB.cons 4 hb85 hS64 rfl (HB.cons 1 hb86 hS64 rfl HB.nil))) (by simp)) (by rw [Nat.zero_add]; exact zdi hl43 hy96)) ?_;refine ql (zck hS64.good hr81) ?_;rintro v97 w97 ⟨Fr81,rfl,hT97⟩;have hS97:=hS64.lent hT97;refine Nxt.frz (HB.le (HB.cons 0 hb84 hS97 rfl (HB.cons 4 hb85 hS97 rfl (HB.cons 1 hb86 hS97 rfl HB.nil))) (Frz.le.refl _)) (HB.agree (HB.cons 0 hb84 hS97 rfl (HB.cons 4 hb85 hS97 rfl (HB.cons 1 hb86 hS97 rfl HB.nil))) hS97.agree) ?_;refine ql (zck hS97.good hr82) ?_;rintro v98 w98 ⟨Fr82,rfl,hT98⟩;have hS98:=hS97.lent hT98;refine Nxt.frz (HB.le (HB.cons 0 hb84 hS98 rfl (HB.cons 4 hb85 hS98 rfl (HB.cons 1 hb86 hS98 rfl HB.nil))) (Frz.le.refl _)) (HB.agree (HB.cons 0 hb84 hS98 rfl (HB.cons 4 hb85 hS98 rfl (HB.cons 1 hb86 hS98 rfl HB.nil))) hS98.agree) ?_;refine qr (zah rfl rfl ((zda (.inr (.inr rfl))).trans (congrArg (fun z=>some (Val.i .u32 z)) (Go.Wk.zfx r81 r82)))) ?_;refine ql (zck hS98.good hr83) ?_;rintro v99 w99 ⟨Fr83,rfl,hT99⟩;have hS99:=hS98.lent hT99;refine Nxt.frz (HB.le (HB.cons 0 hb84 hS99 rfl (HB.cons 4 hb85 hS99 rfl (HB.cons 1 hb86 hS99 rfl HB.nil))) (Frz.le.refl _)) (HB.agree (HB.cons 0 hb84 hS99 rfl (HB.cons 4 hb85 hS99 rfl (HB.cons 1 hb86 hS99 rfl HB.nil))) hS99.agree) ?_;refine qr (zah rfl rfl ((zda (.inr (.inr rfl))).trans (congrArg (fun z=>some (Val.i .u32 z)) (Go.Wk.zfx (r81 ^^^ r82) r83)))) ?_;refine qr (zah rfl rfl (congrArg (fun z=>some (Val.i .u32 z)) (zfo x76 ((r81 ^^^ r82) ^^^ r83)))) ?_;refine qr (zah rfl rfl (congrArg (fun z=>some (Val.i .u32 z)) (zfo (x76 + ((r81 ^^^ r82) ^^^ r83)) ((x71 &&& x77) ^^^ ((~~~x71) &&& x78))))) ?_
         refine qr (zah rfl rfl (congrArg (fun z=>some (Val.i .u32 z)) (zfo ((x76 + ((r81 ^^^ r82) ^^^ r83)) + ((x71 &&& x77) ^^^ ((~~~x71) &&& x78))) x79))) ?_;refine qr (zah rfl rfl (congrArg (fun z=>some (Val.i .u32 z)) (zfo (((x76 + ((r81 ^^^ r82) ^^^ r83)) + ((x71 &&& x77) ^^^ ((~~~x71) &&& x78))) + x79) x80))) ?_;refine qm ?_;refine zay ?_;obtain ⟨x100,hx100,x101,hx101,H⟩:=bd2 H;obtain ⟨x102,hx102,x103,hx103,H⟩:=bd2 H;obtain ⟨r104,hr104,r105,hr105,H⟩:=bd2 H;obtain ⟨r106,hr106,H⟩:=zaq H;have hb107:=hS99.boxAt 0 rfl;refine zba (G:=(F64.hold w99 [g44])) [0,2,5,8,9,10,11,12,13,14,15,16,17,18,19,20,21,22,1,3,4,6,7,23,24] rfl Ty.mixed (by kernel_rfl) (HB.agree (HB.cons 0 hb107 hS99 rfl HB.nil) hS99.agree) ?_;refine q4 ?_;obtain ⟨hp108,hy108⟩:=zab hx100;refine qr (zei Tryz.underlying172 Ty.zbx rfl rfl hp108 (zcg hl67 hy108)) ?_;obtain ⟨_,hy109⟩:=zab hx100;refine qr (zfb Ty.zcn rfl (hb107.held (HB.cons 0 hb107 hS99 rfl HB.nil) (by simp)) (by rw [Nat.zero_add]; exact zdi hl67 hy109)) ?_;refine qr (zah rfl rfl ((zda (.inl rfl)).trans (congrArg (fun z=>some (Val.i .u32 z)) (Go.Wk.zlj x70 x100)))) ?_;refine qc ?_;obtain ⟨hp110,hy110⟩:=zab hx101;refine qr (zei Tryz.underlying172 Ty.zbx rfl rfl hp110 (zcg hl67 hy110)) ?_;obtain ⟨_,hy111⟩:=zab hx101;refine qr (zfb Ty.zcn rfl (hb107.held (HB.cons 0 hb107 hS99 rfl HB.nil) (by simp)) (by rw [Nat.zero_add]; exact zdi hl67 hy111)) ?_;refine qr (zah rfl rfl ((zda (.inl rfl)).trans (congrArg (fun z=>some (Val.i .u32 z)) (Go.Wk.zlj x70 x101)))) ?_;refine qr (zah rfl rfl ((zda (.inr (.inr rfl))).trans (congrArg (fun z=>some (Val.i .u32 z)) (Go.Wk.zfx (x70 &&& x100) (x70 &&& x101))))) ?_;obtain ⟨hp112,hy112⟩:=zab hx102;refine qr (zei Tryz.underlying172 Ty.zbx rfl rfl hp112 (zcg hl67 hy112)) ?_;obtain ⟨_,hy113⟩:=zab hx102;refine qr (zfb Ty.zcn rfl (hb107.held (HB.cons 0 hb107 hS99 rfl HB.nil) (by simp)) (by rw [Nat.zero_add]; exact zdi hl67 hy113)) ?_;obtain ⟨hp114,hy114⟩:=zab hx103;refine qr (zei Tryz.underlying172 Ty.zbx rfl rfl hp114 (zcg hl67 hy114)) ?_;obtain ⟨_,hy115⟩:=zab hx103;refine qr (zfb Ty.zcn rfl (hb107.held (HB.cons 0 hb107 hS99 rfl HB.nil) (by simp)) (by rw [Nat.zero_add]; exact zdi hl67 hy115)) ?_;refine qr (zah rfl rfl ((zda (.inl rfl)).trans (congrArg (fun z=>some (Val.i .u32 z)) (Go.Wk.zlj x102 x103)))) ?_
         refine qr (zah rfl rfl ((zda (.inr (.inr rfl))).trans (congrArg (fun z=>some (Val.i .u32 z)) (Go.Wk.zfx ((x70 &&& x100) ^^^ (x70 &&& x101)) (x102 &&& x103))))) ?_;refine ql (zck hS99.good hr104) ?_;rintro v116 w116 ⟨Fr104,rfl,hT116⟩;have hS116:=hS99.lent hT116;refine qh 0 hb107 hS116 ?_;refine ql (zck hS116.good hr105) ?_;rintro v117 w117 ⟨Fr105,rfl,hT117⟩;have hS117:=hS116.lent hT117;refine qh 0 hb107 hS117 ?_;refine qr (zah rfl rfl ((zda (.inr (.inr rfl))).trans (congrArg (fun z=>some (Val.i .u32 z)) (Go.Wk.zfx r104 r105)))) ?_;refine ql (zck hS117.good hr106) ?_;rintro v118 w118 ⟨Fr106,rfl,hT118⟩;have hS118:=hS117.lent hT118;refine qh 0 hb107 hS118 ?_;refine qr (zah rfl rfl ((zda (.inr (.inr rfl))).trans (congrArg (fun z=>some (Val.i .u32 z)) (Go.Wk.zfx (r104 ^^^ r105) r106)))) ?_;refine qr (zah rfl rfl (congrArg (fun z=>some (Val.i .u32 z)) (zfo ((r104 ^^^ r105) ^^^ r106) (((x70 &&& x100) ^^^ (x70 &&& x101)) ^^^ (x102 &&& x103))))) ?_;refine qm ?_;obtain ⟨x119,hx119,x120,hx120,H⟩:=bd2 H;obtain ⟨x121,hx121,x122,hx122,H⟩:=bd2 H;obtain ⟨x123,hx123,x124,hx124,H⟩:=bd2 H;obtain ⟨x125,hx125,H⟩:=zaq H;refine qd ?_;refine q2 ?_;refine qr (zah rfl rfl (congrArg (fun z=>some (Val.i .u32 z)) (zfo ((((x76 + ((r81 ^^^ r82) ^^^ r83)) + ((x71 &&& x77) ^^^ ((~~~x71) &&& x78))) + x79) + x80) (((r104 ^^^ r105) ^^^ r106) + (((x70 &&& x100) ^^^ (x70 &&& x101)) ^^^ (x102 &&& x103)))))) ?_;obtain ⟨hp126,hy126⟩:=zab hx119;refine qr (zei Tryz.underlying172 Ty.zbx rfl rfl hp126 (zcg hl67 hy126)) ?_;obtain ⟨_,hy127⟩:=zab hx119;refine qr (zea 0 Ty.zcn rfl hS118 rfl (by rw [Nat.zero_add]; exact zdi hl67 hy127)) ?_;obtain ⟨hp128,hy128⟩:=zab hx120;refine qr (zei Tryz.underlying172 Ty.zbx rfl rfl hp128 (zcg hl67 hy128)) ?_;obtain ⟨_,hy129⟩:=zab hx120;refine qr (zea 0 Ty.zcn rfl hS118 rfl (by rw [Nat.zero_add]; exact zdi hl67 hy129)) ?_;obtain ⟨hp130,hy130⟩:=zab hx121;refine qr (zei Tryz.underlying172 Ty.zbx rfl rfl hp130 (zcg hl67 hy130)) ?_;obtain ⟨_,hy131⟩:=zab hx121;refine qr (zea 0 Ty.zcn rfl hS118 rfl (by rw [Nat.zero_add]; exact zdi hl67 hy131)) ?_;obtain ⟨hp132,hy132⟩:=zab hx122;refine qr (zei Tryz.underlying172 Ty.zbx rfl rfl hp132 (zcg hl67 hy132)) ?_;obtain ⟨_,hy133⟩:=zab hx122
         refine qr (zea 0 Ty.zcn rfl hS118 rfl (by rw [Nat.zero_add]; exact zdi hl67 hy133)) ?_;refine qc ?_;refine qr (zah rfl rfl (congrArg (fun z=>some (Val.i .u32 z)) (zfo x122 ((((x76 + ((r81 ^^^ r82) ^^^ r83)) + ((x71 &&& x77) ^^^ ((~~~x71) &&& x78))) + x79) + x80)))) ?_;obtain ⟨hp134,hy134⟩:=zab hx123;refine qr (zei Tryz.underlying172 Ty.zbx rfl rfl hp134 (zcg hl67 hy134)) ?_;obtain ⟨_,hy135⟩:=zab hx123;refine qr (zea 0 Ty.zcn rfl hS118 rfl (by rw [Nat.zero_add]; exact zdi hl67 hy135)) ?_;obtain ⟨hp136,hy136⟩:=zab hx124;refine qr (zei Tryz.underlying172 Ty.zbx rfl rfl hp136 (zcg hl67 hy136)) ?_;obtain ⟨_,hy137⟩:=zab hx124;refine qr (zea 0 Ty.zcn rfl hS118 rfl (by rw [Nat.zero_add]; exact zdi hl67 hy137)) ?_;obtain ⟨hp138,hy138⟩:=zab hx125;refine qr (zei Tryz.underlying172 Ty.zbx rfl rfl hp138 (zcg hl67 hy138)) ?_;obtain ⟨_,hy139⟩:=zab hx125;refine qr (zea 0 Ty.zcn rfl hS118 rfl (by rw [Nat.zero_add]; exact zdi hl67 hy139)) ?_;refine qr (zqt (vs:=[(0,.i .u32 ((((((x76 + ((r81 ^^^ r82) ^^^ r83)) + ((x71 &&& x77) ^^^ ((~~~x71) &&& x78))) + x79) + x80) + (((r104 ^^^ r105) ^^^ r106) + (((x70 &&& x100) ^^^ (x70 &&& x101)) ^^^ (x102 &&& x103)))).toNat:Int)),(1,.i .u32 (x119.toNat:Int)),(2,.i .u32 (x120.toNat:Int)),(3,.i .u32 (x121.toNat:Int)),(4,.i .u32 ((x122 + ((((x76 + ((r81 ^^^ r82) ^^^ r83)) + ((x71 &&& x77) ^^^ ((~~~x71) &&& x78))) + x79) + x80)).toNat:Int)),(5,.i .u32 (x123.toNat:Int)),(6,.i .u32 (x124.toNat:Int)),(7,.i .u32 (x125.toNat:Int))]) (v:=.agg (arrC 8 cW 0 ([(((((x76 + ((r81 ^^^ r82) ^^^ r83)) + ((x71 &&& x77) ^^^ ((~~~x71) &&& x78))) + x79) + x80) + (((r104 ^^^ r105) ^^^ r106) + (((x70 &&& x100) ^^^ (x70 &&& x101)) ^^^ (x102 &&& x103)))),x119,x120,x121,(x122 + ((((x76 + ((r81 ^^^ r82) ^^^ r83)) + ((x71 &&& x77) ^^^ ((~~~x71) &&& x78))) + x79) + x80)),x123,x124,x125]:List UInt32))) Ty.zxq rfl rfl) ?_;refine um (zef (c:=arrC 8 cW 0 ([(((((x76 + ((r81 ^^^ r82) ^^^ r83)) + ((x71 &&& x77) ^^^ ((~~~x71) &&& x78))) + x79) + x80) + (((r104 ^^^ r105) ^^^ r106) + (((x70 &&& x100) ^^^ (x70 &&& x101)) ^^^ (x102 &&& x103)))),x119,x120,x121,(x122 + ((((x76 + ((r81 ^^^ r82) ^^^ r83)) + ((x71 &&& x77) ^^^ ((~~~x71) &&& x78))) + x79) + x80)),x123,x124,x125]:List UInt32)) 0 (arrC 8 cW 0 ([(((((x76 + ((r81 ^^^ r82) ^^^ r83)) + ((x71 &&& x77) ^^^ ((~~~x71) &&& x78))) + x79) + x80) + (((r104 ^^^ r105) ^^^ r106) + (((x70 &&& x100) ^^^ (x70 &&& x101)) ^^^ (x102 &&& x103)))),x119,x120,x121,(x122 + ((((x76 + ((r81 ^^^ r82) ^^^ r83)) + ((x71 &&& x77) ^^^ ((~~~x71) &&& x78))) + x79) + x80)),x123,x124,x125]:List UInt32)) rfl rfl hS118 rfl rfl Ty.znj rfl rfl rfl) ?_
         rintro _ w140 hS140;refine zbk ?_;refine zbg ?_;refine zcl ?_;refine qd ?_;refine q3 ?_;refine zbk ?_;exact zbe (wr (i65 + 1),([(((((x76 + ((r81 ^^^ r82) ^^^ r83)) + ((x71 &&& x77) ^^^ ((~~~x71) &&& x78))) + x79) + x80) + (((r104 ^^^ r105) ^^^ r106) + (((x70 &&& x100) ^^^ (x70 &&& x101)) ^^^ (x102 &&& x103)))),x119,x120,x121,(x122 + ((((x76 + ((r81 ^^^ r82) ^^^ r83)) + ((x71 &&& x77) ^^^ ((~~~x71) &&& x78))) + x79) + x80)),x123,x124,x125]:List UInt32)) _ H ⟨F64,rfl,le64,rfl,hS140⟩ ⟨rfl,rfl,rfl,rfl,rfl,rfl,rfl,rfl,trivial⟩
        ·refine zci _ rfl ?_;exact zbb _ ⟨s66,H,⟨F64,rfl,le64,hl67,hS64.pick [0,2,3,4,5] (by decide)⟩⟩ ⟨rfl,rfl,rfl,rfl,rfl,rfl,trivial⟩
      ·rintro E w46 ⟨s47,H,F46,rfl,le46,hl48,hS46⟩;dsimp only [zaa.k7] at H;refine qs ?_;refine qm ?_;refine zaw ?_;refine zbq (fun (s:Int × (List UInt32)) E wq=>∃ (F49:Frz),E = [(2,pl g1 0),(3,pl g3 0),(4,pl g6 0),(5,ur8_0),(6,.i .i64 i32),(12,pl g44 0),(18,.i .i64 s.1)] ∧ F46.le F49 ∧ (s.2).length = 8 ∧ St [] w F F49 [.box g44 (arrC 8 cW 0 s47),.row tB ur8_0 r8,.box g6 (arrC 8 cW 0 s.2),.box g3 (arrC 64 cW 0 r2),.box g1 (zat (List.replicate 32 (0:UInt8)))] wq) H ?_ ?_
       ·exact ⟨_,⟨F46,rfl,(Frz.le.refl _),hl34,hS46⟩,⟨rfl,rfl,rfl,rfl,rfl,rfl,rfl,trivial⟩⟩
       ·rintro rec53 ⟨i50,s51⟩ E w49 hI H
        try dsimp only at hI
        obtain ⟨F49,rfl,le49,hl52,hS49⟩:=hI;dsimp only [zaa.l8] at H;refine zay ?_;refine qs ?_;refine qc ?_;refine qr (zah rfl rfl zbr) ?_;refine qn ?_;refine qy H (fun hc54 H=>?_) (fun hc54 H=>?_)
        ·refine qk ?_;refine zay ?_;refine zaw ?_;obtain ⟨x55,hx55,x56,hx56,H⟩:=bd2 H;obtain ⟨x57,hx57,H⟩:=zaq H;refine zba (G:=F49) [0,1,2,3,4,5,6,7,8] rfl Ty.mixed (by kernel_rfl) hS49.agree ?_;refine qc ?_;obtain ⟨hp58,hy58⟩:=zab hx55;refine qr (zei Tryz.underlying172 Ty.zbx rfl rfl hp58 (zcg hl52 hy58)) ?_;obtain ⟨_,hy59⟩:=zab hx55;refine qq (zea 2 Ty.zcn rfl hS49 rfl (by rw [Nat.zero_add]; exact zdi hl52 hy59)) ?_;refine qc ?_;obtain ⟨hp60,hy60⟩:=zab hx56;refine qr (zei Tryz.underlying172 Ty.zbx rfl rfl hp60 (zcg hl48 hy60)) ?_;obtain ⟨_,hy61⟩:=zab hx56;refine qq (zea 0 Ty.zcn rfl hS49 rfl (by rw [Nat.zero_add]; exact zdi hl48 hy61)) ?_;refine qr (zah rfl rfl (congrArg (fun z=>some (Val.i .u32 z)) (zfo x55 x56))) ?_;obtain ⟨hp62,hy62⟩:=zab hx57;refine qr (zei Tryz.underlying172 Ty.zbx rfl rfl hp62 (zcg hl52 hy62)) ?_;refine qu (zrw (cs':=arrC 8 cW 0 (s51.set i50.toNat (x55 + x56))) 2 rfl rfl hS49 rfl rfl Ty.zbx (by rw [zou,Nat.zero_add]; exact (zcg hl52 hy62)) (zpn hl52 (zcg hl52 hy62) _)) ?_;rintro _ w63 hS63;refine Nxt.frz (Frz.le.refl _) hS63.agree ?_;refine zbk ?_;refine zbg ?_;refine zcl ?_;refine qd ?_;refine q3 ?_;refine zbk ?_;exact zbe (wr (i50 + 1),(s51.set i50.toNat (x55 + x56))) _ H ⟨F49,rfl,le49,(by rw [List.length_set]; exact hl52),hS63⟩ ⟨rfl,rfl,rfl,rfl,rfl,rfl,rfl,trivial⟩
        ·refine zci _ rfl ?_;refine zbg ?_;exact zbb _ ⟨s51,H,⟨F49,rfl,((le41.trans le46).trans le49),hl52,hS49.pick [1,2,3,4] (by decide)⟩⟩ ⟨rfl,rfl,rfl,rfl,rfl,trivial⟩
    ·rintro E w37 ⟨s38,H,F37,rfl,le37,hl39,hS37⟩;dsimp only [zaa.k5] at H;refine qd ?_;refine q3 ?_;refine zbk ?_;exact zbe (wr (i32 + 64),s38) _ H ⟨F37,rfl,(le31.trans le37),hl39,hS37⟩ ⟨rfl,rfl,rfl,rfl,rfl,trivial⟩
   ·refine zci _ rfl ?_;exact zbb _ ⟨s33,H,⟨F31,rfl,le31,hl34,hS31.pick [1,3] (by decide)⟩⟩ ⟨rfl,rfl,trivial⟩
 ·rintro E w10 ⟨s11,H,F10,rfl,le10,hl12,hS10⟩;dsimp only [zaa.k1] at H;refine qs ?_;refine xm (zgk (cs:=zat (List.replicate 32 (0:UInt8))) Ty.zrh rfl hS10) ?_;rintro _ w13 ⟨g13,rfl,hS13⟩;refine qn ?_;refine zao (fun E wq=>∃ s15:List UInt8,zaa.k2 s15 = some r ∧ ∃ (F14:Frz),E = [(2,pl g1 0),(19,pl g13 0)] ∧ F10.le F14 ∧ (s15).length = 32 ∧ St [] w F F14 [.box g13 (zat s15),.box g1 (zat (List.replicate 32 (0:UInt8)))] wq) ?_ ?_
  ·refine qs ?_;refine qm ?_;refine zaw ?_;refine zbq (fun (s:Int × (List UInt8)) E wq=>∃ (F18:Frz),E = [(2,pl g1 0),(4,pl g6 0),(19,pl g13 0),(20,.i .i64 s.1)] ∧ F10.le F18 ∧ (s.2).length = 32 ∧ St [] w F F18 [.box g13 (zat s.2),.box g6 (arrC 8 cW 0 s11),.box g1 (zat (List.replicate 32 (0:UInt8)))] wq) H ?_ ?_
   ·exact ⟨_,⟨F10,rfl,(Frz.le.refl _),(List.length_replicate),hS13⟩,⟨rfl,rfl,rfl,rfl,trivial⟩⟩
   ·rintro rec22 ⟨i19,s20⟩ E w18 hI H
    try dsimp only at hI
    obtain ⟨F18,rfl,le18,hl21,hS18⟩:=hI;dsimp only [zaa.l3] at H;refine zay ?_;refine qs ?_;refine qc ?_;refine qr (zah rfl rfl zbr) ?_;refine qn ?_;refine qy H (fun hc23 H=>?_) (fun hc23 H=>?_)
    ·refine qk ?_;refine zay ?_;refine zaw ?_;obtain ⟨x24,hx24,x25,hx25,H⟩:=bd2 H;obtain ⟨x26,hx26,H⟩:=zaq H;refine qd ?_;refine q2 ?_;refine qr (zah rfl rfl (by first | rfl | simp [binV,ibin])) ?_;obtain ⟨hp27,hy27⟩:=zab hx24;refine qr (zei Tryz.underlying172 Ty.zbx rfl rfl hp27 (zcg hl12 hy27)) ?_;obtain ⟨_,hy28⟩:=zab hx24;refine qr (zea 1 Ty.zcn rfl hS18 rfl (by rw [Nat.zero_add]; exact zdi hl12 hy28)) ?_;refine qc ?_;refine qr (zah rfl rfl (by first | rfl | simp [binV,ibin])) ?_;refine q2 ?_;refine qr (zfn Tryz.underlying3 Tryz.underlying26 rfl (rfl)) ?_;refine qr (zah rfl rfl (bW_shr hx25)) ?_;refine qr (zfn Tryz.underlying169 Tryz.underlying5 rfl (u32_u8 _)) ?_;obtain ⟨hp29,hy29⟩:=zab hx26;refine qr (zei Tryz.underlying58 Ty.zjr rfl rfl hp29 (zcg hl21 hy29)) ?_;refine um (zrw (cs':=zat (s20.set i19.toNat x25.toUInt8)) 0 rfl rfl hS18 rfl rfl Ty.zjr (by rw [zhl,Nat.zero_add]; exact (zcg hl21 hy29)) (id_put hl21 (zcg hl21 hy29) _)) ?_;rintro _ w30 hS30;refine zbk ?_;refine zbg ?_;refine zcl ?_;refine qd ?_;refine q3 ?_;refine zbk ?_;exact zbe (wr (i19 + 1),(s20.set i19.toNat x25.toUInt8)) _ H ⟨F18,rfl,le18,(by rw [List.length_set]; exact hl21),hS30⟩ ⟨rfl,rfl,rfl,rfl,trivial⟩
    ·refine zci _ rfl ?_;exact zbb _ ⟨s20,H,⟨F18,rfl,le18,hl21,hS18.pick [0,2] (by decide)⟩⟩ ⟨rfl,rfl,trivial⟩
  ·rintro E w14 ⟨s15,H,F14,rfl,le14,hl16,hS14⟩;dsimp only [zaa.k2] at H;refine qs ?_;refine qr (zdh 0 (zat s15) Ty.zil Ty.zcz (Nat.zero_lt_succ _) rfl hS14 rfl (fun q u h=>zcy (post:=[]) rfl h)) ?_;refine um (zef (c:=zat s15) 1 (zat s15) rfl rfl hS14 rfl rfl Ty.zcz rfl rfl rfl) ?_;rintro _ w17 hS17;refine qn ?_;obtain rfl:=oi H;refine znc (vs:=[.agg (zat s15)]) rfl ⟨(zjy 1 Ty.zil Ty.zcz hS17 rfl rfl),trivial⟩ ?_;exact ⟨F14,rfl,hl16,hS17.pick [] (by decide)⟩
def zbs.k1:Option Bool :=
  some false
def zbs.l2 (x0:List UInt8) (x1:List UInt8) (rec6:Int → Option Bool):Int → Option Bool
  | i5 =>
    if decide (i5 < 32) then
      bd (ix x0 i5) fun x8 =>
      bd (ix x1 i5) fun x9 =>
      if decide ((x8.toNat:Int) ≠ (x9.toNat:Int)) then
        bd (ix x0 i5) fun x15 =>
        bd (ix x1 i5) fun x16 =>
        some (decide ((x15.toNat:Int) < (x16.toNat:Int)))
      else
        rec6 (wr (i5 + 1))
    else
      zbs.k1
def zbs (x0:List UInt8) (x1:List UInt8):Option Bool :=
  loop (zbs.l2 x0 x1) 0
theorem zms {x0:List UInt8} {x1:List UInt8} {r:Bool} (hA:Gd F w) (h0:x0.length = 32) (h1:x1.length = 32) (H:zbs x0 x1 = some r):Ret Tryz.prog K 128 [.agg (zat x0),.agg (zat x1)] w fun v w'=>∃ (F':Frz),v = .b r ∧ St [] w F F' [] w':=by
 refine qa2 Tryz.func128 ?_;have hS:=St.start hA;dsimp only [zbs] at H;refine qs ?_;refine xm (E_bx (cs:=zat x0) rfl rfl rfl hS) ?_;rintro _ w1 ⟨g1,rfl,hS1⟩;refine xm (E_bx (cs:=zat x1) rfl rfl rfl hS1) ?_;rintro _ w2 ⟨g2,rfl,hS2⟩;refine qm ?_;refine zao (fun E wq=>zbs.k1 = some r ∧ ∃ (F3:Frz),E = [] ∧ F.le F3 ∧ St [] w F F3 [] wq) ?_ ?_
 ·refine qs ?_;refine qm ?_;refine zaw ?_;refine zbq (fun (s:Int) E wq=>∃ (F4:Frz),E = [(2,pl g1 0),(3,pl g2 0),(5,.i .i64 s)] ∧ F.le F4 ∧ St [] w F F4 [.box g2 (zat x1),.box g1 (zat x0)] wq) H ?_ ?_
  ·exact ⟨_,⟨F,rfl,(Frz.le.refl _),hS2⟩,⟨rfl,rfl,rfl,trivial⟩⟩
  ·rintro rec6 i5 E w4 hI H
   try dsimp only at hI
   obtain ⟨F4,rfl,le4,hS4⟩:=hI;dsimp only [zbs.l2] at H;refine zay ?_;refine qs ?_;refine qc ?_;refine qr (zah rfl rfl zbr) ?_;refine qn ?_;refine qy H (fun hc7 H=>?_) (fun hc7 H=>?_)
   ·refine qk ?_;refine zay ?_;refine zaw ?_;refine zay ?_;obtain ⟨x8,hx8,x9,hx9,H⟩:=bd2 H;refine zba (G:=(nowF _)) [0,1,2,3,4,5,6] rfl Ty.mixed (by kernel_rfl) (zdc _) ?_;refine qc ?_;obtain ⟨hp10,hy10⟩:=zab hx8;refine qr (zei Tryz.underlying58 Ty.zjr rfl rfl hp10 (zcg h0 hy10)) ?_;obtain ⟨_,hy11⟩:=zab hx8;refine qr (zea 1 Ty.cell5 rfl hS4 rfl (zxa (fun q u h=>by simpa using h) h0 hy11)) ?_;refine qc ?_;obtain ⟨hp12,hy12⟩:=zab hx9;refine qr (zei Tryz.underlying58 Ty.zjr rfl rfl hp12 (zcg h1 hy12)) ?_;obtain ⟨_,hy13⟩:=zab hx9;refine qr (zea 0 Ty.cell5 rfl hS4 rfl (zxa (fun q u h=>by simpa using h) h1 hy13)) ?_;refine qr (zah rfl rfl zeh) ?_;refine qn ?_;refine qy H (fun hc14 H=>?_) (fun hc14 H=>?_)
    ·refine zay ?_;obtain ⟨x15,hx15,x16,hx16,H⟩:=bd2 H;refine zba (G:=(nowF _)) [0,1,2,3,4,5,6,7] rfl Ty.mixed (by kernel_rfl) (zdc _) ?_;refine qc ?_;obtain ⟨hp17,hy17⟩:=zab hx15;refine qr (zei Tryz.underlying58 Ty.zjr rfl rfl hp17 (zcg h0 hy17)) ?_;obtain ⟨_,hy18⟩:=zab hx15;refine qr (zea 1 Ty.cell5 rfl hS4 rfl (zxa (fun q u h=>by simpa using h) h0 hy18)) ?_;refine qc ?_;obtain ⟨hp19,hy19⟩:=zab hx16;refine qr (zei Tryz.underlying58 Ty.zjr rfl rfl hp19 (zcg h1 hy19)) ?_;obtain ⟨_,hy20⟩:=zab hx16;refine qr (zea 0 Ty.cell5 rfl hS4 rfl (zxa (fun q u h=>by simpa using h) h1 hy20)) ?_;refine qr (zah rfl rfl zbr) ?_;refine qm ?_;obtain rfl:=oi H;refine qt ?_;exact ⟨F4,rfl,hS4.pick [] (by decide)⟩
    ·refine zeu ?_;refine zbg ?_;refine zcl ?_;refine qd ?_;refine q3 ?_;refine zbk ?_;exact zbe (wr (i5 + 1)) _ H ⟨F4,rfl,le4,hS4⟩ ⟨rfl,rfl,rfl,trivial⟩
   ·refine zci _ rfl ?_;exact zbb _ ⟨H,⟨F4,rfl,le4,hS4.pick [] (by decide)⟩⟩ trivial
 ·rintro E w3 ⟨H,F3,rfl,le3,hS3⟩;dsimp only [zbs.k1] at H;refine qs ?_;refine qm ?_;obtain rfl:=oi H;refine qt ?_;exact ⟨F3,rfl,hS3⟩
def zch.k1 (x0:List (List UInt8)) (x1:List UInt8) (i3:Int):Option ((List (List UInt8)) × Int × Bool) :=
  bd (only (decide (i3 < (x0.length:Int))) (ix x0 i3) (List.replicate 32 (0:UInt8))) fun x4 =>
  if (decide (i3 < (x0.length:Int)) && decide (x4 = x1)) then
    some (x0,i3,false)
  else
    bd (cut (α:=(List UInt8)) x0 0 i3) fun l20 =>
    bd (app (α:=(List UInt8)) [] l20) fun l23 =>
    bd (app (α:=(List UInt8)) l23 [x1]) fun l25 =>
    bd (cut (α:=(List UInt8)) x0 i3 (x0.length:Int)) fun l29 =>
    bd (app (α:=(List UInt8)) l25 l29) fun l31 =>
    some (l31,i3,true)
def zch.l2 (x0:List (List UInt8)) (x1:List UInt8) (rec36:Int → Option ((List (List UInt8)) × Int × Bool)):Int → Option ((List (List UInt8)) × Int × Bool)
  | i35 =>
    bd (only (decide (i35 < (x0.length:Int))) (ix x0 i35) (List.replicate 32 (0:UInt8))) fun x37 =>
    bd (only (decide (i35 < (x0.length:Int))) (zbs x37 x1) false) fun r39 =>
    if (decide (i35 < (x0.length:Int)) && r39) then
      rec36 (wr (i35 + 1))
    else
      zch.k1 x0 x1 i35
def zch (x0:List (List UInt8)) (x1:List UInt8):Option ((List (List UInt8)) × Int × Bool) :=
  loop (zch.l2 x0 x1) 0
theorem zoy {x0:List (List UInt8)} {x1:List UInt8} {r:(List (List UInt8)) × Int × Bool} {v0:Val} (hA:Gd F w) (h0:SlF tId F v0 x0) (h1:x1.length = 32) (H:zch x0 x1 = some r):Ret Tryz.prog K 83 [v0,.agg (zat x1)] w fun v w'=>∃ (F':Frz) (q0:Val),v = .tup [q0,.i .i64 r.2.1,.b r.2.2] ∧ SlF tId F' q0 (r.1) ∧ St [] w F F' [] w':=by
 refine qa2 Tryz.func83 ?_;have hS:=St.start hA;dsimp only [zch] at H;refine qs ?_;refine xm (E_bx (cs:=zat x1) rfl rfl rfl hS) ?_;rintro _ w1 ⟨g1,rfl,hS1⟩;refine q2 ?_;refine qm ?_;refine qs ?_;refine qm ?_;refine zao (fun E wq=>∃ i3:Int,zch.k1 x0 x1 i3 = some r ∧ ∃ (F2:Frz),E = [(0,v0),(3,pl g1 0),(7,.i .i64 i3)] ∧ F.le F2 ∧ St [] w F F2 [.box g1 (zat x1)] wq) ?_ ?_
 ·refine zaw ?_;refine zbq (fun (s:Int) E wq=>∃ (F34:Frz),E = [(0,v0),(3,pl g1 0),(7,.i .i64 s)] ∧ F.le F34 ∧ St [] w F F34 [.box g1 (zat x1)] wq) H ?_ ?_
  ·exact ⟨_,⟨F,rfl,(Frz.le.refl _),hS1⟩,⟨rfl,rfl,rfl,trivial⟩⟩
  ·rintro rec36 i35 E w34 hI H
   try dsimp only at hI
   obtain ⟨F34,rfl,le34,hS34⟩:=hI;dsimp only [zch.l2] at H;refine zay ?_;refine zay ?_;obtain ⟨x37,hx37,r39,hr39,H⟩:=bd2 H;have hle38:(x37).length = 32:=by
    rcases Bool.eq_false_or_eq_true (decide (i35 < (x0.length:Int))) with hb40 | hb40
    ·have hy41:=hx37;rw [zbo hb40] at hy41;obtain ⟨hp42,hy42⟩:=zab hy41;obtain ⟨cs42,hr42,he42⟩:=(h0.mono le34).el hy42;obtain ⟨rfl,hle38⟩:=hr42;replace he42:=qj 32 he42;have hi42:=he42.ixd;exact hle38
    ·have hy:=hx37;rw [zhf hb40] at hy;obtain rfl:=oi hy
     rfl
   refine zba (G:=F34) [0,1,2,3,4,5,6,7,8,9,10,11] rfl Ty.mixed (by kernel_rfl) hS34.agree ?_;refine q2 ?_;refine qr (zbw Tryz.underlying118 rfl h0.ln) ?_;refine qr (zah rfl rfl zbr) ?_;refine qc ?_;refine W_gs (v:=v0) rfl rfl rfl rfl (fun ⟨hb43,_⟩=>?_) ?_
   ·rw [hb43];exact (qc ·)
   refine W_gs (v:=.i .i64 i35) rfl rfl rfl rfl (fun ⟨hb44,_⟩=>?_) ?_
   ·rw [hb44];exact (qc ·)
   refine W_gs (v:=elp v0 (i35.toNat * 32)) rfl rfl rfl rfl (fun ⟨hb45,_⟩=>?_) ?_
   ·rw [hb45];intro hK;have hy46:=hx37;rw [zbo hb45] at hy46;obtain ⟨hp47,hy47⟩:=zab hy46;obtain ⟨cs47,hr47,he47⟩:=(h0.mono le34).el hy47;obtain ⟨rfl,hle38⟩:=hr47;replace he47:=qj 32 he47;have hi47:=he47.ixd;refine qi Tryz.underlying118 Ty.zcz hi47 hp47 ?_;exact hK
   refine W_gs (v:=.agg (zat x37)) rfl rfl rfl rfl (fun ⟨hb48,_⟩=>?_) ?_
   ·rw [hb48];intro hK;have hy49:=hx37;rw [zbo hb48] at hy49;obtain ⟨hp50,hy50⟩:=zab hy49;obtain ⟨cs50,hr50,he50⟩:=(h0.mono le34).el hy50;obtain ⟨rfl,hle38⟩:=hr50;replace he50:=qj 32 he50;have hi50:=he50.ixd;refine qq (zha 0 (zat x37) Ty.zil Ty.zcz rfl (he50.mono hS34.agree) (by omega) rfl (Nat.le_of_ble_eq_true rfl)) ?_;exact hK
   refine W_gs (v:=.agg (zat x1)) rfl rfl rfl rfl (fun ⟨hb51,_⟩=>?_) ?_
   ·rw [hb51];exact (qq (zdh 0 (zat x1) Ty.zil Ty.zcz (Nat.zero_lt_succ _) rfl hS34 rfl (fun q u h=>zcy (post:=[]) rfl h)) ·)
   obtain ⟨Q53,hQ53⟩:∃ Q:Hp → Prop,Q = fun wq=>St [] w F F34 [.box g1 (zat x1)] wq:=⟨_,rfl⟩;refine W_gw (v:=.b r39) (Q:=Q53) (by rw [hQ53]; exact hS34) rfl rfl rfl rfl (fun ⟨hb52,_⟩=>?_) ?_
   ·rw [hb52];intro hK;have hy54:=hr39;rw [zbo hb52] at hy54;refine ql (zms hS34.good hle38 h1 hy54) ?_;rintro v55 w55 ⟨Fr39,rfl,hT55⟩;have hS55:=hS34.lent hT55;exact hK _ (by rw [hQ53]; exact hS55)
   intro w56 hS56;rw [hQ53] at hS56;refine Nxt.frz (Frz.le.refl _) hS56.agree ?_;refine zje rfl rfl rfl rfl rfl (fun hc=>by rw [hc]; rfl) rfl ?_;refine qn ?_;refine qy H (fun hc57 H=>?_) (fun hc57 H=>?_)
   ·refine qk ?_;refine zaw ?_;refine qd ?_;refine q3 ?_;refine zbk ?_;refine zbg ?_;exact zbe (wr (i35 + 1)) _ H ⟨F34,rfl,le34,hS56⟩ ⟨rfl,rfl,rfl,trivial⟩
   ·refine zci _ rfl ?_;exact zbb _ ⟨i35,H,⟨F34,rfl,le34,hS56⟩⟩ ⟨rfl,rfl,rfl,trivial⟩
 ·rintro E w2 ⟨i3,H,F2,rfl,le2,hS2⟩;dsimp only [zch.k1] at H;refine zay ?_;refine zay ?_;obtain ⟨x4,hx4,H⟩:=zaq H;have hle5:(x4).length = 32:=by
   rcases Bool.eq_false_or_eq_true (decide (i3 < (x0.length:Int))) with hb6 | hb6
   ·have hy7:=hx4;rw [zbo hb6] at hy7;obtain ⟨hp8,hy8⟩:=zab hy7;obtain ⟨cs8,hr8,he8⟩:=(h0.mono le2).el hy8;obtain ⟨rfl,hle5⟩:=hr8;replace he8:=qj 32 he8;have hi8:=he8.ixd;exact hle5
   ·have hy:=hx4;rw [zhf hb6] at hy;obtain rfl:=oi hy
    rfl
  refine zba (G:=(nowF _)) [0,1,2,3,4,5,6,7,8,9,10,11] rfl Ty.mixed (by kernel_rfl) (zdc _) ?_;refine q2 ?_;refine qr (zbw Tryz.underlying118 rfl h0.ln) ?_;refine qr (zah rfl rfl zbr) ?_;refine qc ?_;refine W_gs (v:=v0) rfl rfl rfl rfl (fun ⟨hb9,_⟩=>?_) ?_
  ·rw [hb9];exact (qc ·)
  refine W_gs (v:=.i .i64 i3) rfl rfl rfl rfl (fun ⟨hb10,_⟩=>?_) ?_
  ·rw [hb10];exact (qc ·)
  refine W_gs (v:=elp v0 (i3.toNat * 32)) rfl rfl rfl rfl (fun ⟨hb11,_⟩=>?_) ?_
  ·rw [hb11];intro hK;have hy12:=hx4;rw [zbo hb11] at hy12;obtain ⟨hp13,hy13⟩:=zab hy12;obtain ⟨cs13,hr13,he13⟩:=(h0.mono le2).el hy13;obtain ⟨rfl,hle5⟩:=hr13;replace he13:=qj 32 he13;have hi13:=he13.ixd;refine qi Tryz.underlying118 Ty.zcz hi13 hp13 ?_;exact hK
  refine W_gs (v:=.agg (zat x4)) rfl rfl rfl rfl (fun ⟨hb14,_⟩=>?_) ?_
  ·rw [hb14];intro hK;have hy15:=hx4;rw [zbo hb14] at hy15;obtain ⟨hp16,hy16⟩:=zab hy15;obtain ⟨cs16,hr16,he16⟩:=(h0.mono le2).el hy16;obtain ⟨rfl,hle5⟩:=hr16;replace he16:=qj 32 he16;have hi16:=he16.ixd;refine qr (zha 0 (zat x4) Ty.zil Ty.zcz rfl (he16.mono hS2.agree) (by omega) rfl (Nat.le_of_ble_eq_true rfl)) ?_;exact hK
  refine W_gs (v:=.agg (zat x1)) rfl rfl rfl rfl (fun ⟨hb17,_⟩=>?_) ?_
  ·rw [hb17];exact (qr (zdh 0 (zat x1) Ty.zil Ty.zcz (Nat.zero_lt_succ _) rfl hS2 rfl (fun q u h=>zcy (post:=[]) rfl h)) ·)
  refine W_gs (v:=.b (decide (x4 = x1))) rfl rfl rfl rfl (fun ⟨hb18,_⟩=>?_) ?_
  ·rw [hb18];exact (qr (zah rfl rfl (bA_eql Ty.eqt58 rfl rfl (eqL_id hle5 h1))) ·)
  refine zje rfl rfl rfl rfl rfl (fun hc=>by rw [hc]; rfl) rfl ?_;refine qn ?_;refine qy H (fun hc19 H=>?_) (fun hc19 H=>?_)
  ·refine qs ?_;refine q4 ?_;refine qm ?_;obtain rfl:=oi H;refine qt ?_;exact ⟨F2,v0,rfl,(h0.mono le2),hS2.pick [] (by decide)⟩
  ·refine qk ?_;refine qs ?_;refine qm ?_;refine zay ?_;obtain ⟨l20,hl20,l23,hl23,H⟩:=bd2 H;obtain ⟨l25,hl25,H⟩:=zaq H;have hb27:=hS2.boxAt 0 rfl;refine zba (G:=(F2.hold w2 [g1])) [0,1,2,3,5,6,4,7,8] rfl Ty.mixed (by kernel_rfl) (HB.agree (HB.cons 0 hb27 hS2 rfl HB.nil) hS2.agree) ?_;refine q3 ?_;refine zoi 0 i3 rfl rfl rfl rfl Tryz.underlying118 Ty.zcz rfl (.inl ⟨rfl,rfl⟩) (.inr ⟨_,_,rfl,rfl⟩) h0 hl20 ?_;intro q21 hv21;refine qr (O_fldg (zat x1) Ty.zil Ty.zcz (Nat.zero_lt_succ _) rfl (hb27.held (HB.cons 0 hb27 hS2 rfl HB.nil) (by simp)) (fun q u h=>zcy (post:=[]) rfl h)) ?_;refine qx (E_bs (t:=tId) (vs:=[.agg (zat x1)]) (xs:=[x1]) Tryz.underlying118 Ty.ztm rfl ⟨⟨rfl,h1⟩,trivial⟩ rfl rfl hS2) ?_;rintro u22 w22 hS22;refine qh 1 hb27 hS22 ?_;have hS28:=hS22.nilRow tId;refine qx (zft (t:=tId) 0 Tryz.underlying118 Ty.ztm Ty.zk118 rfl rfl hS28 rfl ((hv21.mono le2).src hS28.agree) hl23) ?_;rintro v24 w24 hS24;refine qh 2 hb27 hS24 ?_;refine qx (zft (t:=tId) 0 Tryz.underlying118 Ty.ztm Ty.zk118 rfl rfl hS24 rfl (hS24.rowSrc (k:=1) rfl) hl25) ?_;rintro v26 w26 hS26;refine qh 2 hb27 hS26 ?_;refine qm ?_;obtain ⟨l29,hl29,l31,hl31,H⟩:=bd2 H;refine qs ?_;refine q3 ?_;refine zoi i3 (x0.length:Int) rfl rfl rfl rfl Tryz.underlying118 Ty.zcz rfl (.inr ⟨_,_,rfl,rfl⟩) (.inl ⟨rfl,rfl⟩) h0 hl29 ?_;intro q30 hv30;refine xm (zft (t:=tId) 0 Tryz.underlying118 Ty.ztm Ty.zk118 rfl rfl hS26 rfl ((hv30.mono le2).src hS26.agree) hl31) ?_;rintro v32 w32 hS32;refine q3 ?_;refine qm ?_;obtain ⟨F33,le33,hf33,hS33⟩:=hS32.freezeR 0 [1,2] rfl (by decide) (by decide);obtain rfl:=oi H;refine qt ?_;exact ⟨F33,v32,rfl,hf33,hS33.pick [] (by decide)⟩
def zan.k1 (x0:List UInt8) (l17:List (List UInt8)) (l20:List Part):Option (Manifest × (List (List UInt8)) × Int) :=
  some ((Manifest.mk x0 l20),l17,0)
def zan.k3 (i32:Int) (rec36:((List (List UInt8)) × (List (List UInt8)) × Int × (List Part)) → Option (Manifest × (List (List UInt8)) × Int)) (l39:List (List UInt8)) (l42:List (List UInt8)) (l45:List Part):Option (Manifest × (List (List UInt8)) × Int) :=
  rec36 (l39,l42,wr (i32 + 1),l45)
def zan.k4 (i32:Int) (l33:List Part) (rec36:((List (List UInt8)) × (List (List UInt8)) × Int × (List Part)) → Option (Manifest × (List (List UInt8)) × Int)) (x48:File) (l59:List (List UInt8)) (l62:List (List UInt8)) (l65:List (List UInt8)):Option (Manifest × (List (List UInt8)) × Int) :=
  bd (app (α:=Part) l33 [(Part.mk x48.path (x48.data.length:Int) l65)]) fun l69 =>
  zan.k3 i32 rec36 l59 l62 l69
def zan.k6 (i83:Int) (rec87:((List (List UInt8)) × (List (List UInt8)) × (List (List UInt8)) × Int × (List (List UInt8))) → Option (Manifest × (List (List UInt8)) × Int)) (l97:List (List UInt8)) (r100:(List (List UInt8)) × Int × Bool) (l103:List (List UInt8)) (l106:List (List UInt8)):Option (Manifest × (List (List UInt8)) × Int) :=
  rec87 (r100.1,l103,l106,wr (i83 + 1),l97)
def zan.l5 (i32:Int) (l33:List Part) (rec36:((List (List UInt8)) × (List (List UInt8)) × Int × (List Part)) → Option (Manifest × (List (List UInt8)) × Int)) (x48:File) (rec87:((List (List UInt8)) × (List (List UInt8)) × (List (List UInt8)) × Int × (List (List UInt8))) → Option (Manifest × (List (List UInt8)) × Int)):((List (List UInt8)) × (List (List UInt8)) × (List (List UInt8)) × Int × (List (List UInt8))) → Option (Manifest × (List (List UInt8)) × Int)
  | (l74,l77,l80,i83,l84) =>
    if decide (i83 < (l80.length:Int)) then
      bd (ix l80 i83) fun x89 =>
      bd (zaa x89) fun r91 =>
      bd (app (α:=(List UInt8)) l84 [r91]) fun l97 =>
      bd (zch l74 r91) fun r100 =>
      if r100.2.2 then
        bd (cut (α:=(List UInt8)) l77 0 r100.2.1) fun l110 =>
        bd (ix l80 i83) fun x112 =>
        bd (app (α:=(List UInt8)) [] l110) fun l115 =>
        bd (app (α:=(List UInt8)) l115 [x112]) fun l117 =>
        bd (cut (α:=(List UInt8)) l77 r100.2.1 (l77.length:Int)) fun l121 =>
        bd (app (α:=(List UInt8)) l117 l121) fun l123 =>
        zan.k6 i83 rec87 l97 r100 l123 l80
      else
        zan.k6 i83 rec87 l97 r100 l77 l80
    else
      zan.k4 i32 l33 rec36 x48 l74 l77 l84
def zan.l2 (x0:List UInt8) (x1:List File) (rec36:((List (List UInt8)) × (List (List UInt8)) × Int × (List Part)) → Option (Manifest × (List (List UInt8)) × Int)):((List (List UInt8)) × (List (List UInt8)) × Int × (List Part)) → Option (Manifest × (List (List UInt8)) × Int)
  | (l26,l29,i32,l33) =>
    if decide (i32 < (x1.length:Int)) then
      bd (ix x1 i32) fun x48 =>
      bd (ix x1 i32) fun x53 =>
      bd (zcj x53.data) fun r55 =>
      loop (zan.l5 i32 l33 rec36 x48) (l26,l29,r55,0,[])
    else
      zan.k1 x0 l29 l33
def zan (x0:List UInt8) (x1:List File):Option (Manifest × (List (List UInt8)) × Int) :=
  bd (zbu x0) fun r2 =>
  if (!r2) then
    some ((Manifest.mk [] []),[],1)
  else
    bd (zcb x1) fun r8 =>
    if decide (r8 ≠ 0) then
      some ((Manifest.mk [] []),[],r8)
    else
      loop (zan.l2 x0 x1) ([],[],0,[])
set_option maxHeartbeats 2000000 in
theorem zne {x0:List UInt8} {x1:List File} {r:Manifest × (List (List UInt8)) × Int} {v1:Val} (hA:Gd F w) (h1:SlF File.t F v1 x1) (H:zan x0 x1 = some r):Ret Tryz.prog K 41 [.s x0,v1] w fun v w'=>∃ (F':Frz) (q0_0:Val) (q1:Val),v = .tup [.agg (Manifest.cells r.1 q0_0),q1,.i .i64 r.2.2] ∧ SlF Part.t F' q0_0 (r.1.parts) ∧ St [] w F F' [.row (tSl tB) q1 (r.2.1)] w':=by
 refine qa2 Tryz.func41 ?_;have hS:=St.start hA;dsimp only [zan] at H;refine qs ?_;refine xm (zgk (cs:=[.s [],.sl none 0 (.k 0)]) Ty.zta rfl hS) ?_;rintro _ w1 ⟨g1,rfl,hS1⟩;refine qc ?_;refine qm ?_;refine zay ?_;obtain ⟨r2,hr2,H⟩:=zaq H;refine qs ?_;refine qc ?_;refine lm (zhm hS1.good hr2) ?_;rintro v3 w3 ⟨Fr2,rfl,hT3⟩;have hS3:=hS1.lent hT3;refine qm ?_;refine qy H (fun hc4 H=>?_) (fun hc4 H=>?_)
 ·refine qs ?_;refine W_c (v:=.agg (Manifest.cells (Manifest.mk [] []) (.sl none 0 (.k 0)))) rfl rfl rfl rfl (fun _=>rfl) ?_;refine um (zef (c:=[.s [],.sl none 0 (.k 0)]) 0 ([.s [],.sl none 0 (.k 0)]) rfl rfl hS3 rfl rfl Ty.zgt rfl rfl rfl) ?_;rintro _ w5 hS5;refine qc ?_;refine qm ?_;have hS7:=hS5.nilRow (tSl tB);obtain rfl:=oi H;refine znc (vs:=[.agg (Manifest.cells (Manifest.mk [] []) (.sl none 0 (.k 0))),(.sl none 0 (.k 0)),.i .i64 1]) rfl ⟨(zjy 1 Ty.zpp Ty.zgt hS7 rfl rfl),rfl,rfl,trivial⟩ ?_;exact ⟨F,.sl none 0 (.k 0),(.sl none 0 (.k 0)),rfl,(SlF.nil _),hS7.pick [0] (by decide)⟩
 ·refine qk ?_;refine zay ?_;obtain ⟨r8,hr8,H⟩:=zaq H;refine qs ?_;refine qc ?_;refine lm (zob hS3.good h1 hr8) ?_;rintro v9 w9 ⟨Fr8,rfl,hT9⟩;have hS9:=hS3.lent hT9;refine qm ?_;refine qs ?_;refine qc ?_;refine qr (zah rfl rfl zeh) ?_;refine qn ?_;refine qy H (fun hc10 H=>?_) (fun hc10 H=>?_)
  ·refine qs ?_;refine W_c (v:=.agg (Manifest.cells (Manifest.mk [] []) (.sl none 0 (.k 0)))) rfl rfl rfl rfl (fun _=>rfl) ?_;refine qc ?_;refine um (zef (c:=[.s [],.sl none 0 (.k 0)]) 0 ([.s [],.sl none 0 (.k 0)]) rfl rfl hS9 rfl rfl Ty.zgt rfl rfl rfl) ?_;rintro _ w11 hS11;refine qc ?_;refine qm ?_;have hS13:=hS11.nilRow (tSl tB);obtain rfl:=oi H;refine znc (vs:=[.agg (Manifest.cells (Manifest.mk [] []) (.sl none 0 (.k 0))),(.sl none 0 (.k 0)),.i .i64 r8]) rfl ⟨(zjy 1 Ty.zpp Ty.zgt hS13 rfl rfl),rfl,rfl,trivial⟩ ?_;exact ⟨F,.sl none 0 (.k 0),(.sl none 0 (.k 0)),rfl,(SlF.nil _),hS13.pick [0] (by decide)⟩
  ·refine qk ?_;refine qs ?_;refine qc ?_;refine W_c (v:=.agg (Manifest.cells (Manifest.mk x0 []) (.sl none 0 (.k 0)))) rfl rfl rfl rfl (fun _=>rfl) ?_;refine xm (zgk (cs:=[.s [],.sl none 0 (.k 0)]) Ty.zta rfl hS9) ?_;rintro _ w14 ⟨g14,rfl,hS14⟩;refine um (zef (c:=[.s x0,.sl none 0 (.k 0)]) 0 ([.s x0,.sl none 0 (.k 0)]) rfl rfl hS14 rfl rfl Ty.zgt rfl rfl rfl) ?_;rintro _ w15 hS15;refine qn ?_;refine qs ?_;refine qm ?_;refine qs ?_;refine qm ?_;refine zao (fun E wq=>∃ l17:List (List UInt8),∃ l20:List Part,zan.k1 x0 l17 l20 = some r ∧ ∃ (F16:Frz) (u18:Val) (u21:Val),E = [(4,pl g1 0),(8,pl g14 0),(10,u18)] ∧ F.le F16 ∧ St [] w F F16 [.box g14 [.s x0,u21],.box g1 [.s [],.sl none 0 (.k 0)],.row (tSl tB) u18 l17,.row Part.t u21 l20] wq) ?_ ?_
   ·refine qs ?_;refine qm ?_;refine zaw ?_;refine zbq (fun (s:(List (List UInt8)) × (List (List UInt8)) × Int × (List Part)) E wq=>∃ (F25:Frz) (u27:Val) (u30:Val) (u34:Val),E = [(1,v1),(4,pl g1 0),(8,pl g14 0),(9,u27),(10,u30),(11,.i .i64 s.2.2.1)] ∧ F.le F25 ∧ SlF tId F25 u27 s.1 ∧ St [] w F F25 [.box g14 [.s x0,u34],.box g1 [.s [],.sl none 0 (.k 0)],.row (tSl tB) u30 s.2.1,.row Part.t u34 s.2.2.2] wq) H ?_ ?_
    ·have hS129:=hS15.nilRow (tSl tB);have hS131:=hS129.nilRow Part.t;exact ⟨_,⟨F,.sl none 0 (.k 0),(.sl none 0 (.k 0)),(.sl none 0 (.k 0)),rfl,(Frz.le.refl _),(SlF.nil _),hS131.pick [2,3,1,0] (by decide)⟩,⟨rfl,rfl,rfl,rfl,rfl,rfl,trivial⟩⟩
    ·rintro rec36 ⟨l26,l29,i32,l33⟩ E w25 hI H
     try dsimp only at hI
     obtain ⟨F25,u27,u30,u34,rfl,le25,hx28,hS25⟩:=hI;dsimp only [zan.l2] at H;refine zay ?_;refine qs ?_;refine q2 ?_;refine qr (zbw Tryz.underlying22 rfl h1.ln) ?_;refine qr (zah rfl rfl zbr) ?_;refine qn ?_;refine qy H (fun hc37 H=>?_) (fun hc37 H=>?_)
     ·refine qk ?_;refine zao (fun E wq=>∃ l39:List (List UInt8),∃ l42:List (List UInt8),∃ l45:List Part,zan.k3 i32 rec36 l39 l42 l45 = some r ∧ ∃ (F38:Frz) (u40:Val) (u43:Val) (u46:Val),E = [(1,v1),(4,pl g1 0),(8,pl g14 0),(9,u40),(10,u43),(11,.i .i64 i32)] ∧ F25.le F38 ∧ SlF tId F38 u40 l39 ∧ St [] w F F38 [.box g14 [.s x0,u46],.box g1 [.s [],.sl none 0 (.k 0)],.row (tSl tB) u43 l42,.row Part.t u46 l45] wq) ?_ ?_
      ·refine zaw ?_;refine zay ?_;obtain ⟨x48,hx48,H⟩:=zaq H;refine zba (G:=F25) [0,1,2,3,4,5,6,7,8,9,10,11,12,13] rfl Ty.mixed (by kernel_rfl) hS25.agree ?_;refine q2 ?_;obtain ⟨hp51,hy51⟩:=zab hx48;obtain ⟨cs51,hr51,he51⟩:=(h1.mono le25).el hy51;obtain ⟨ue49_0,rfl,hue49_0⟩:=hr51;replace he51:=qj 2 he51;have hi51:=he51.ixd;refine qi Tryz.underlying22 Ty.zhy hi51 hp51 ?_;refine qr (zdz 0 Ty.zhb rfl hi51) ?_;refine qq (zep 0 Ty.zjk rfl (he51.mono hS25.agree) (by omega) rfl) ?_;refine q2 ?_;refine qi Tryz.underlying22 Ty.zhy hi51 hp51 ?_;refine qr (zdz 1 Ty.zos rfl hi51) ?_;refine qq (zep 1 Ty.zhi rfl (he51.mono hS25.agree) (by omega) rfl) ?_;refine qr (zbw Tryz.underlying47 rfl hue49_0.ln) ?_;refine W_c (v:=.agg (Part.cells (Part.mk x48.path (x48.data.length:Int) []) (.sl none 0 (.k 0)))) rfl rfl rfl rfl (fun _=>rfl) ?_;refine qx (zgk (cs:=[.s [],.i .i64 0,.sl none 0 (.k 0)]) Ty.zqu rfl hS25) ?_;rintro _ w50 ⟨g50,rfl,hS50⟩;refine Nxt.frz (Frz.le.refl _) hS50.agree ?_;refine qu (zef (c:=[.s x48.path,.i .i64 (x48.data.length:Int),.sl none 0 (.k 0)]) 0 ([.s x48.path,.i .i64 (x48.data.length:Int),.sl none 0 (.k 0)]) rfl rfl hS50 rfl rfl Ty.zgp rfl rfl rfl) ?_;rintro _ w52 hS52;refine Nxt.frz (Frz.le.refl _) hS52.agree ?_;refine qn ?_;obtain ⟨x53,hx53,r55,hr55,H⟩:=bd2 H;refine qs ?_;refine q2 ?_;obtain ⟨hp56,hy56⟩:=zab hx53;obtain ⟨cs56,hr56,he56⟩:=(h1.mono le25).el hy56;obtain ⟨ue54_0,rfl,hue54_0⟩:=hr56;replace he56:=qj 2 he56;have hi56:=he56.ixd;refine qi Tryz.underlying22 Ty.zhy hi56 hp56 ?_;refine qr (zdz 1 Ty.zos rfl hi56) ?_;refine qr (zep 1 Ty.zhi rfl (he56.mono hS52.agree) (by omega) rfl) ?_;refine lm (zoz hS52.good hue54_0 hr55) ?_;rintro ur55_0 w57 ⟨Fr55,_,rfl,hT57⟩;have hS57:=hS52.call hT57;have ler55:=hT57.ext;refine qm ?_;refine zao (fun E wq=>∃ l59:List (List UInt8),∃ l62:List (List UInt8),∃ l65:List (List UInt8),zan.k4 i32 l33 rec36 x48 l59 l62 l65 = some r ∧ ∃ (F58:Frz) (u60:Val) (u63:Val) (u66:Val),E = [(1,v1),(4,pl g1 0),(8,pl g14 0),(9,u60),(10,u63),(11,.i .i64 i32),(12,pl g50 0)] ∧ Fr55.le F58 ∧ SlF tId F58 u60 l59 ∧ St [] w F F58 [.box g50 [.s x48.path,.i .i64 (x48.data.length:Int),u66],.box g14 [.s x0,u34],.box g1 [.s [],.sl none 0 (.k 0)],.row Part.t u34 l33,.row (tSl tB) u63 l62,.row tId u66 l65] wq) ?_ ?_
       ·refine qs ?_;refine qm ?_;refine zaw ?_;refine zbq (fun (s:(List (List UInt8)) × (List (List UInt8)) × (List (List UInt8)) × Int × (List (List UInt8))) E wq=>∃ (F73:Frz) (u75:Val) (u78:Val) (u81:Val) (u85:Val),E = [(1,v1),(4,pl g1 0),(8,pl g14 0),(9,u75),(10,u78),(11,.i .i64 i32),(12,pl g50 0),(13,u81),(14,.i .i64 s.2.2.2.1)] ∧ Fr55.le F73 ∧ SlF tId F73 u75 s.1 ∧ SlF (tSl tB) F73 u81 s.2.2.1 ∧ St [] w F F73 [.box g50 [.s x48.path,.i .i64 (x48.data.length:Int),u85],.box g14 [.s x0,u34],.box g1 [.s [],.sl none 0 (.k 0)],.row Part.t u34 l33,.row (tSl tB) u78 s.2.1,.row tId u85 s.2.2.2.2] wq) H ?_ ?_
        ·obtain ⟨F125,le125,hf125,hS125⟩:=hS57.freezeR 0 [1,2,3,4,5] rfl (by decide) (by decide);have hS127:=hS125.nilRow tId;exact ⟨_,⟨F125,u27,u30,ur55_0,(.sl none 0 (.k 0)),rfl,le125,(hx28.mono (ler55.trans le125)),hf125,hS127.pick [1,2,3,5,4,0] (by decide)⟩,⟨rfl,rfl,rfl,rfl,rfl,rfl,rfl,rfl,rfl,trivial⟩⟩
        ·rintro rec87 ⟨l74,l77,l80,i83,l84⟩ E w73 hI H
         try dsimp only at hI
         obtain ⟨F73,u75,u78,u81,u85,rfl,le73,hx76,hx82,hS73⟩:=hI;dsimp only [zan.l5] at H;refine zay ?_;refine qs ?_;refine q2 ?_;refine qr (zbw Tryz.underlying95 rfl hx82.ln) ?_;refine qr (zah rfl rfl zbr) ?_;refine qn ?_;refine qy H (fun hc88 H=>?_) (fun hc88 H=>?_)
         ·refine qk ?_;refine zay ?_;refine zaw ?_;obtain ⟨x89,hx89,r91,hr91,H⟩:=bd2 H;refine qs ?_;refine q2 ?_;obtain ⟨hp93,hy93⟩:=zab hx89;obtain ⟨cs93,hr93,he93⟩:=hx82.el hy93;obtain ⟨ue90,rfl,hue90⟩:=hr93;replace he93:=qj 1 he93;have hi93:=he93.ixd;refine qi Tryz.underlying95 Ty.zpb hi93 hp93 ?_;refine qr (zep 0 Ty.zhi rfl (he93.mono hS73.agree) (by omega) rfl) ?_;refine lm (zpm hS73.good hue90 hr91) ?_;rintro v94 w94 ⟨Fr91,rfl,hlr91_0,hT94⟩;have hS94:=hS73.call hT94;have ler91:=hT94.ext;refine xm (zgk (cs:=zat (List.replicate 32 (0:UInt8))) Ty.zrh rfl hS94) ?_;rintro _ w92 ⟨g92,rfl,hS92⟩;refine um (zef (c:=zat r91) 0 (zat r91) rfl rfl hS92 rfl rfl Ty.zcz rfl rfl rfl) ?_;rintro _ w95 hS95;refine qn ?_;obtain ⟨l97,hl97,H⟩:=zaq H;refine qs ?_;refine qf Ty.zfw ?_;refine qb 1 Ty.zln hS95 ?_;refine qr (zdh 0 (zat r91) Ty.zil Ty.zcz (Nat.zero_lt_succ _) rfl hS95 rfl (fun q u h=>zcy (post:=[]) rfl h)) ?_;refine xm (E_bs (t:=tId) (vs:=[.agg (zat r91)]) (xs:=[r91]) Tryz.underlying118 Ty.ztm rfl ⟨⟨rfl,hlr91_0⟩,trivial⟩ rfl rfl hS95) ?_;rintro u96 w96 hS96;refine xm (zft (t:=tId) 7 Tryz.underlying118 Ty.ztm Ty.zk118 rfl rfl hS96 rfl (hS96.rowSrc (k:=0) rfl) hl97) ?_;rintro v98 w98 hS98;refine qf Ty.zfw ?_;refine um (zef (c:=[v98]) 2 ([.s x48.path,.i .i64 (x48.data.length:Int),v98]) rfl rfl hS98 rfl (hS98.rowLn (k:=7) rfl).cells Ty.size118 (by simp only [List.all_cons,List.all_nil,List.all_append,(hS98.rowLn (k:=7) rfl).one]; rfl) rfl rfl) ?_;rintro _ w99 hS99;refine qn ?_;obtain ⟨r100,hr100,H⟩:=zaq H;refine qs ?_;refine qc ?_;refine qr (zdh 1 (zat r91) Ty.zil Ty.zcz (Nat.zero_lt_succ _) rfl hS99 rfl (fun q u h=>zcy (post:=[]) rfl h)) ?_;refine lm (zoy hS99.good (hx76.mono ler91) hlr91_0 hr100) ?_;rintro v101 w101 ⟨Fr100,ur100_0,rfl,hfr100_0,hT101⟩;have hS101:=hS99.call hT101;have ler100:=hT101.ext;refine q4 ?_;refine q2 ?_;refine qm ?_;refine zao (fun E wq=>∃ l103:List (List UInt8),∃ l106:List (List UInt8),zan.k6 i83 rec87 l97 r100 l103 l106 = some r ∧ ∃ (F102:Frz) (u104:Val) (u107:Val),E = [(1,v1),(4,pl g1 0),(8,pl g14 0),(10,u104),(11,.i .i64 i32),(12,pl g50 0),(13,u107),(14,.i .i64 i83),(16,ur100_0)] ∧ Fr100.le F102 ∧ SlF (tSl tB) F102 u107 l106 ∧ St [] w F F102 [.box g50 [.s x48.path,.i .i64 (x48.data.length:Int),v98],.box g14 [.s x0,u34],.box g1 [.s [],.sl none 0 (.k 0)],.row Part.t u34 l33,.row tId v98 l97,.row (tSl tB) u104 l103] wq) ?_ ?_
          ·refine qs ?_;refine qm ?_;refine qy H (fun hc109 H=>?_) (fun hc109 H=>?_)
           ·refine qs ?_;refine qm ?_;refine zay ?_;obtain ⟨l110,hl110,x112,hx112,H⟩:=bd2 H;obtain ⟨l115,hl115,l117,hl117,H⟩:=bd2 H;refine zba (G:=Fr100) [0,1,2,3,5,6,7,8,9,4,10,11] rfl Ty.mixed (by kernel_rfl) hS101.agree ?_;refine q3 ?_;refine zmk 6 0 r100.2.1 rfl rfl rfl rfl Tryz.underlying95 Ty.zpb rfl (.inl ⟨rfl,rfl⟩) (.inr ⟨_,_,rfl,rfl⟩) hS101 rfl hl110 ?_;intro q111 hv111 hw111;refine q2 ?_;obtain ⟨hp119,hy119⟩:=zab hx112;obtain ⟨cs119,hr119,he119⟩:=(hx82.mono (ler91.trans ler100)).el hy119;obtain ⟨ue113,rfl,hue113⟩:=hr119;replace he119:=qj 1 he119;have hi119:=he119.ixd;refine qi Tryz.underlying95 Ty.zpb hi119 hp119 ?_;refine qr (zep 0 Ty.zhi rfl he119 (by omega) rfl) ?_;refine qx (E_bs (t:=(tSl tB)) (vs:=[ue113]) (xs:=[x112]) Tryz.underlying95 Ty.row47 rfl (by simp only [List.map_cons,List.map_nil,hue113.ln.cells]; exact ⟨⟨_,rfl,hue113⟩,trivial⟩) rfl rfl hS101) ?_;rintro u114 w114 hS114;refine Nxt.frz (Frz.le.refl _) hS114.agree ?_;have hS120:=hS114.nilRow (tSl tB);refine qx (zft (t:=(tSl tB)) 0 Tryz.underlying95 Ty.row47 Ty.zk95 rfl rfl hS120 rfl ((hS120.rowSrc (k:=8) rfl).piece hw111 hl110) hl115) ?_;rintro v116 w116 hS116;refine Nxt.frz (Frz.le.refl _) hS116.agree ?_;refine qx (zft (t:=(tSl tB)) 0 Tryz.underlying95 Ty.row47 Ty.zk95 rfl rfl hS116 rfl (hS116.rowSrc (k:=1) rfl) hl117) ?_;rintro v118 w118 hS118;refine Nxt.frz (Frz.le.refl _) hS118.agree ?_;refine qm ?_;obtain ⟨l121,hl121,l123,hl123,H⟩:=bd2 H;refine qd ?_;refine q3 ?_;refine zmk 8 r100.2.1 (l77.length:Int) rfl rfl rfl rfl Tryz.underlying95 Ty.zpb rfl (.inr ⟨_,_,rfl,rfl⟩) (.inl ⟨rfl,rfl⟩) hS118 rfl hl121 ?_;intro q122 hv122 hw122;refine xm (zft (t:=(tSl tB)) 0 Tryz.underlying95 Ty.row47 Ty.zk95 rfl rfl hS118 rfl hv122 hl123) ?_;rintro v124 w124 hS124;refine qc ?_;refine zbk ?_;exact zbb _ ⟨l123,l80,H,⟨Fr100,v124,u81,rfl,(Frz.le.refl _),(hx82.mono (ler91.trans ler100)),hS124.pick [4,5,6,7,9,0] (by decide)⟩⟩ ⟨rfl,rfl,rfl,rfl,rfl,rfl,rfl,rfl,rfl,trivial⟩
           ·refine zeu ?_;exact zbb _ ⟨l77,l80,H,⟨Fr100,u78,u81,rfl,(Frz.le.refl _),(hx82.mono (ler91.trans ler100)),hS101.pick [2,3,4,5,7,6] (by decide)⟩⟩ ⟨rfl,rfl,rfl,rfl,rfl,rfl,rfl,rfl,rfl,trivial⟩
          ·rintro E w102 ⟨l103,l106,H,F102,u104,u107,rfl,le102,hx108,hS102⟩;dsimp only [zan.k6] at H;refine qd ?_;refine q2 ?_;refine zbk ?_;refine zbg ?_;refine zcl ?_;refine qd ?_;refine q3 ?_;refine zbk ?_;exact zbe (r100.1,l103,l106,wr (i83 + 1),l97) _ H ⟨F102,ur100_0,u104,u107,v98,rfl,(((le73.trans ler91).trans ler100).trans le102),(hfr100_0.mono le102),hx108,hS102.pick [0,1,2,3,5,4] (by decide)⟩ ⟨rfl,rfl,rfl,rfl,rfl,rfl,rfl,rfl,rfl,trivial⟩
         ·refine zci _ rfl ?_;exact zbb _ ⟨l74,l77,l84,H,⟨F73,u75,u78,u85,rfl,le73,hx76,hS73⟩⟩ ⟨rfl,rfl,rfl,rfl,rfl,rfl,rfl,trivial⟩
       ·rintro E w58 ⟨l59,l62,l65,H,F58,u60,u63,u66,rfl,le58,hx61,hS58⟩;dsimp only [zan.k4] at H;obtain ⟨l69,hl69,H⟩:=zaq H;refine qd ?_;refine qf Ty.zez ?_;refine qb 1 Ty.zlf hS58 ?_;refine qr (zdh 0 (Part.cells (Part.mk x48.path (x48.data.length:Int) l65) u66) Ty.zvd Ty.zgp (Nat.zero_lt_succ _) rfl hS58 rfl (fun q u h=>zcy (post:=[]) rfl h)) ?_;obtain ⟨F71,le71,hf71,hS71⟩:=hS58.freezeR 5 [0,1,2,3,4] rfl (by decide) (by decide);refine xm (E_bs (t:=Part.t) (vs:=[.agg (Part.cells (Part.mk x48.path (x48.data.length:Int) l65) u66)]) (xs:=[(Part.mk x48.path (x48.data.length:Int) l65)]) Tryz.underlying41 Ty.zvl rfl ⟨⟨u66,rfl,hf71⟩,trivial⟩ rfl rfl hS71) ?_;rintro u68 w68 hS68;refine xm (zft (t:=Part.t) 4 Tryz.underlying41 Ty.zvl Ty.zk41 rfl rfl hS68 rfl (hS68.rowSrc (k:=0) rfl) hl69) ?_;rintro v70 w70 hS70;refine qf Ty.zez ?_;refine um (zef (c:=[v70]) 2 ([.s x0,v70]) rfl rfl hS70 rfl (hS70.rowLn (k:=4) rfl).cells Ty.size41 (by simp only [List.all_cons,List.all_nil,List.all_append,(hS70.rowLn (k:=4) rfl).one]; rfl) rfl rfl) ?_;rintro _ w72 hS72;refine zbk ?_;refine zbg ?_;exact zbb _ ⟨l59,l62,l69,H,⟨F71,u60,u63,v70,rfl,((ler55.trans le58).trans le71),(hx61.mono le71),hS72.pick [2,3,5,4] (by decide)⟩⟩ ⟨rfl,rfl,rfl,rfl,rfl,rfl,trivial⟩
      ·rintro E w38 ⟨l39,l42,l45,H,F38,u40,u43,u46,rfl,le38,hx41,hS38⟩;dsimp only [zan.k3] at H;refine qd ?_;refine q3 ?_;refine zbk ?_;exact zbe (l39,l42,wr (i32 + 1),l45) _ H ⟨F38,u40,u43,u46,rfl,(le25.trans le38),hx41,hS38⟩ ⟨rfl,rfl,rfl,rfl,rfl,rfl,trivial⟩
     ·refine zci _ rfl ?_;exact zbb _ ⟨l29,l33,H,⟨F25,u30,u34,rfl,le25,hS25⟩⟩ ⟨rfl,rfl,rfl,trivial⟩
   ·rintro E w16 ⟨l17,l20,H,F16,u18,u21,rfl,le16,hS16⟩;dsimp only [zan.k1] at H;refine qs ?_;refine qr (zdh 0 (Manifest.cells (Manifest.mk x0 l20) u21) Ty.zpp Ty.zgt (Nat.zero_lt_succ _) rfl hS16 rfl (fun q u h=>zcy (post:=[]) rfl h)) ?_;refine qc ?_;refine um (zef (c:=[.s x0,u21]) 1 ([.s x0,u21]) rfl rfl hS16 rfl rfl Ty.zgt (by simp only [List.all_cons,List.all_nil,List.all_append,(hS16.rowLn (k:=3) rfl).one]; rfl) rfl rfl) ?_;rintro _ w23 hS23;refine qc ?_;refine qm ?_;obtain ⟨F24,le24,hf24,hS24⟩:=hS23.freezeR 3 [0,1,2] rfl (by decide) (by decide);obtain rfl:=oi H;refine znc (vs:=[.agg (Manifest.cells (Manifest.mk x0 l20) u21),u18,.i .i64 0]) rfl ⟨(zjy 1 Ty.zpp Ty.zgt hS24 rfl rfl),rfl,rfl,trivial⟩ ?_;exact ⟨F24,u21,u18,rfl,hf24,hS24.pick [2] (by decide)⟩
def zbj.k1 (l2:List UInt8):Option (List UInt8) :=
  some l2
def zbj.l2 (x0:Int) (rec10:((List UInt8) × Int) → Option (List UInt8)):((List UInt8) × Int) → Option (List UInt8)
  | (l6,i9) =>
    if decide (0 ≤ i9) then
      bd (shrI x0 (wu (wr (8 * i9)))) fun x12 =>
      bd (app (α:=UInt8) l6 [(toB8 x12)]) fun l14 =>
      rec10 (l14,wr (i9 - 1))
    else
      zbj.k1 l6
def zbj (x0:Int) (x1:Int):Option (List UInt8) :=
  loop (zbj.l2 x0) ([],wr (x1 - 1))
theorem zpl {x0:Int} {x1:Int} {r:(List UInt8)} (hA:Gd F w) (H:zbj x0 x1 = some r):Ret Tryz.prog K 75 [.i .i64 x0,.i .i64 x1] w fun v w'=>∃ (F':Frz) (q0:Val),v = q0 ∧ St [] w F F' [.row tB q0 (r)] w':=by
 refine qa2 Tryz.func75 ?_;have hS:=St.start hA;dsimp only [zbj] at H;refine qs ?_;refine qm ?_;refine qs ?_;refine qm ?_;refine zao (fun E wq=>∃ l2:List UInt8,zbj.k1 l2 = some r ∧ ∃ (F1:Frz) (u3:Val),E = [(5,u3)] ∧ F.le F1 ∧ St [] w F F1 [.row tB u3 l2] wq) ?_ ?_
 ·refine qs ?_;refine q2 ?_;refine qm ?_;refine zaw ?_;refine zbq (fun (s:(List UInt8) × Int) E wq=>∃ (F5:Frz) (u7:Val),E = [(0,.i .i64 x0),(5,u7),(6,.i .i64 s.2)] ∧ F.le F5 ∧ St [] w F F5 [.row tB u7 s.1] wq) H ?_ ?_
  ·have hS18:=hS.nilRow tB;exact ⟨_,⟨F,(.sl none 0 (.k 0)),rfl,(Frz.le.refl _),hS18⟩,⟨rfl,rfl,rfl,trivial⟩⟩
  ·rintro rec10 ⟨l6,i9⟩ E w5 hI H
   try dsimp only at hI
   obtain ⟨F5,u7,rfl,le5,hS5⟩:=hI;dsimp only [zbj.l2] at H;refine zay ?_;refine qs ?_;refine qc ?_;refine qr (zah rfl rfl zmj) ?_;refine qn ?_;refine qy H (fun hc11 H=>?_) (fun hc11 H=>?_)
   ·refine qk ?_;refine zay ?_;refine zaw ?_;obtain ⟨x12,hx12,l14,hl14,H⟩:=bd2 H;refine qd ?_;refine q4 ?_;refine qr (zfn Tryz.underlying3 Tryz.underlying26 rfl (rfl)) ?_;obtain ⟨hz16,hv16,hw16⟩:=shrI_some hx12;refine qr (zah rfl rfl (by rw [zmi hz16 hv16,← hw16])) ?_;refine qr (zfn Tryz.underlying3 Tryz.underlying5 rfl (zxb _)) ?_;refine xm (E_bs (t:=tB) (vs:=[.i .u8 ((toB8 x12).toNat:Int)]) (xs:=[(toB8 x12)]) Tryz.underlying47 Ty.row5 rfl ⟨rfl,trivial⟩ rfl rfl hS5) ?_;rintro u13 w13 hS13;refine xm (zft (t:=tB) 1 Tryz.underlying47 Ty.row5 Ty.zk47 rfl rfl hS13 rfl (hS13.rowSrc (k:=0) rfl) hl14) ?_;rintro v15 w15 hS15;refine qc ?_;refine zbk ?_;refine zbg ?_;refine zcl ?_;refine qd ?_;refine q3 ?_;refine zbk ?_;exact zbe (l14,wr (i9 - 1)) _ H ⟨F5,v15,rfl,le5,hS15.pick [1] (by decide)⟩ ⟨rfl,rfl,rfl,trivial⟩
   ·refine zci _ rfl ?_;exact zbb _ ⟨l6,H,⟨F5,u7,rfl,le5,hS5⟩⟩ ⟨rfl,trivial⟩
 ·rintro E w1 ⟨l2,H,F1,u3,rfl,le1,hS1⟩;dsimp only [zbj.k1] at H;refine qs ?_;refine qc ?_;refine qm ?_;obtain rfl:=oi H;refine qt ?_;exact ⟨F1,u3,rfl,hS1⟩
def zap.k1 (l9:List UInt8):Option (List UInt8) :=
  some l9
def zap.k3 (i12:Int) (rec15:(Int × (List UInt8)) → Option (List UInt8)) (l18:List UInt8):Option (List UInt8) :=
  rec15 (wr (i12 + 1),l18)
def zap.l4 (i12:Int) (rec15:(Int × (List UInt8)) → Option (List UInt8)) (x20:Part) (rec43:(Int × (List UInt8)) → Option (List UInt8)):(Int × (List UInt8)) → Option (List UInt8)
  | (i40,l41) =>
    if decide (i40 < (x20.ids.length:Int)) then
      bd (ix x20.ids i40) fun x45 =>
      bd (app (α:=UInt8) l41 x45) fun l48 =>
      rec43 (wr (i40 + 1),l48)
    else
      zap.k3 i12 rec15 l41
def zap.l2 (x0:Manifest) (rec15:(Int × (List UInt8)) → Option (List UInt8)):(Int × (List UInt8)) → Option (List UInt8)
  | (i12,l13) =>
    if decide (i12 < (x0.parts.length:Int)) then
      bd (ix x0.parts i12) fun x20 =>
      bd (app (α:=UInt8) l13 [(toB8 (x20.path.length:Int))]) fun l26 =>
      bd (app (α:=UInt8) l26 x20.path) fun l28 =>
      bd (zbj x20.size 2) fun r32 =>
      bd (app (α:=UInt8) l28 r32) fun l33 =>
      bd (app (α:=UInt8) l33 [(toB8 (x20.ids.length:Int))]) fun l35 =>
      loop (zap.l4 i12 rec15 x20) (0,l35)
    else
      zap.k1 l13
def zap (x0:Manifest):Option (List UInt8) :=
  bd (app (α:=UInt8) [(toB8 (x0.name.length:Int))] x0.name) fun l3 =>
  bd (app (α:=UInt8) l3 [(toB8 (x0.parts.length:Int))]) fun l6 =>
  loop (zap.l2 x0) (0,l6)
theorem zjt {x0:Manifest} {r:(List UInt8)} {v0_0:Val} (hA:Gd F w) (h0_0:SlF Part.t F v0_0 x0.parts) (H:zap x0 = some r):Ret Tryz.prog K 35 [.agg (Manifest.cells x0 v0_0)] w fun v w'=>∃ (F':Frz) (q0:Val),v = q0 ∧ St [] w F F' [.row tB q0 (r)] w':=by
 refine qa1 Tryz.func35 ?_;have hS:=St.start hA;dsimp only [zap] at H;refine qs ?_;refine xm (E_bx (cs:=[.s x0.name,v0_0]) rfl rfl (by simp only [List.all_cons,List.all_nil,List.all_append,h0_0.ln.one]; rfl) hS) ?_;rintro _ w1 ⟨g1,rfl,hS1⟩;refine qm ?_;obtain ⟨l3,hl3,H⟩:=zaq H;refine qs ?_;refine qf Ty.zgz ?_;refine qb 0 Ty.zjk hS1 ?_;refine qr (zru Tryz.underlying9 rfl) ?_;refine qr (zfn Tryz.underlying3 Tryz.underlying5 rfl (zxb _)) ?_;refine xm (E_bs (t:=tB) (vs:=[.i .u8 ((toB8 (x0.name.length:Int)).toNat:Int)]) (xs:=[(toB8 (x0.name.length:Int))]) Tryz.underlying47 Ty.row5 rfl ⟨rfl,trivial⟩ rfl rfl hS1) ?_;rintro u2 w2 hS2;refine qf Ty.zgz ?_;refine qb 1 Ty.zjk hS2 ?_;refine xm (E_appS 0 Tryz.underlying47 Ty.row5 Ty.zk9 rfl rfl hS2 rfl hl3) ?_;rintro v4 w4 hS4;refine qm ?_;obtain ⟨l6,hl6,H⟩:=zaq H;refine qs ?_;refine qc ?_;refine qf Ty.zez ?_;refine qb 1 Ty.zlf hS4 ?_;refine qr (zbw Tryz.underlying41 rfl h0_0.ln) ?_;refine qr (zfn Tryz.underlying3 Tryz.underlying5 rfl (zxb _)) ?_;refine xm (E_bs (t:=tB) (vs:=[.i .u8 ((toB8 (x0.parts.length:Int)).toNat:Int)]) (xs:=[(toB8 (x0.parts.length:Int))]) Tryz.underlying47 Ty.row5 rfl ⟨rfl,trivial⟩ rfl rfl hS4) ?_;rintro u5 w5 hS5;refine xm (zft (t:=tB) 1 Tryz.underlying47 Ty.row5 Ty.zk47 rfl rfl hS5 rfl (hS5.rowSrc (k:=0) rfl) hl6) ?_;rintro v7 w7 hS7;refine qm ?_;refine zao (fun E wq=>∃ l9:List UInt8,zap.k1 l9 = some r ∧ ∃ (F8:Frz) (u10:Val),E = [(3,u10)] ∧ F.le F8 ∧ St [] w F F8 [.row tB u10 l9] wq) ?_ ?_
 ·refine qs ?_;refine qm ?_;refine zaw ?_;refine zbq (fun (s:Int × (List UInt8)) E wq=>∃ (F11:Frz) (u14:Val),E = [(1,pl g1 0),(3,u14),(4,.i .i64 s.1)] ∧ F.le F11 ∧ St [] w F F11 [.row tB u14 s.2,.box g1 [.s x0.name,v0_0]] wq) H ?_ ?_
  ·exact ⟨_,⟨F,v7,rfl,(Frz.le.refl _),hS7.pick [1,2] (by decide)⟩,⟨rfl,rfl,rfl,trivial⟩⟩
  ·rintro rec15 ⟨i12,l13⟩ E w11 hI H
   try dsimp only at hI
   obtain ⟨F11,u14,rfl,le11,hS11⟩:=hI;dsimp only [zap.l2] at H;refine zay ?_;refine qs ?_;refine qc ?_;refine qf Ty.zez ?_;refine qb 1 Ty.zlf hS11 ?_;refine qr (zbw Tryz.underlying41 rfl h0_0.ln) ?_;refine qr (zah rfl rfl zbr) ?_;refine qn ?_;refine qy H (fun hc16 H=>?_) (fun hc16 H=>?_)
   ·refine qk ?_;refine zao (fun E wq=>∃ l18:List UInt8,zap.k3 i12 rec15 l18 = some r ∧ ∃ (F17:Frz) (u19:Val),E = [(1,pl g1 0),(3,u19),(4,.i .i64 i12)] ∧ F11.le F17 ∧ St [] w F F17 [.row tB u19 l18,.box g1 [.s x0.name,v0_0]] wq) ?_ ?_
    ·refine zaw ?_;obtain ⟨x20,hx20,H⟩:=zaq H;refine qs ?_;refine qf Ty.zez ?_;refine qb 1 Ty.zlf hS11 ?_;refine qc ?_;obtain ⟨hp23,hy23⟩:=zab hx20;obtain ⟨cs23,hr23,he23⟩:=(h0_0.mono le11).el hy23;obtain ⟨ue21_0,rfl,hue21_0⟩:=hr23;replace he23:=qj 3 he23;have hi23:=he23.ixd;refine qi Tryz.underlying41 Ty.zgp hi23 hp23 ?_;refine qr (zha 0 (Part.cells x20 ue21_0) Ty.zvd Ty.zgp rfl (he23.mono hS11.agree) (by omega) rfl (Nat.le_of_ble_eq_true rfl)) ?_;refine xm (zgk (cs:=[.s [],.i .i64 0,.sl none 0 (.k 0)]) Ty.zqu rfl hS11) ?_;rintro _ w22 ⟨g22,rfl,hS22⟩;refine um (zef (c:=[.s x20.path,.i .i64 x20.size,ue21_0]) 0 ([.s x20.path,.i .i64 x20.size,ue21_0]) rfl rfl hS22 rfl rfl Ty.zgp (by simp only [List.all_cons,List.all_nil,List.all_append,hue21_0.ln.one]; rfl) rfl rfl) ?_;rintro _ w24 hS24;refine qn ?_;refine zay ?_;obtain ⟨l26,hl26,l28,hl28,H⟩:=bd2 H;have hb30:=hS24.boxAt 0 rfl;refine zba (G:=(F11.hold w24 [g22])) [0,1,2,3,4,5,7,8,6,9,10] rfl Ty.mixed (by kernel_rfl) (HB.agree (HB.cons 0 hb30 hS24 rfl HB.nil) hS24.agree) ?_;refine qc ?_;refine qf Ty.zmh ?_;refine qbq 0 Ty.zjk hS24 ?_;refine qr (zru Tryz.underlying9 rfl) ?_;refine qr (zfn Tryz.underlying3 Tryz.underlying5 rfl (zxb _)) ?_;refine qx (E_bs (t:=tB) (vs:=[.i .u8 ((toB8 (x20.path.length:Int)).toNat:Int)]) (xs:=[(toB8 (x20.path.length:Int))]) Tryz.underlying47 Ty.row5 rfl ⟨rfl,trivial⟩ rfl rfl hS24) ?_;rintro u25 w25 hS25;refine qh 1 hb30 hS25 ?_;refine qf Ty.zmh ?_;refine qr (zfb Ty.zjk rfl (hb30.held (HB.cons 1 hb30 hS25 rfl HB.nil) (by simp)) rfl) ?_;refine qx (zft (t:=tB) 2 Tryz.underlying47 Ty.row5 Ty.zk47 rfl rfl hS25 rfl (hS25.rowSrc (k:=0) rfl) hl26) ?_;rintro v27 w27 hS27;refine qh 1 hb30 hS27 ?_;refine qx (E_appS 2 Tryz.underlying47 Ty.row5 Ty.zk9 rfl rfl hS27 rfl hl28) ?_;rintro v29 w29 hS29;refine qh 1 hb30 hS29 ?_;refine qm ?_;refine zay ?_;obtain ⟨r32,hr32,l33,hl33,H⟩:=bd2 H;obtain ⟨l35,hl35,H⟩:=zaq H;have hb37:=hS29.boxAt 1 rfl;refine zba (G:=(F11.hold w29 [g22])) [0,1,2,5,6,7,8,9,3,4,10,11] rfl Ty.mixed (by kernel_rfl) (HB.agree (HB.cons 1 hb37 hS29 rfl HB.nil) hS29.agree) ?_;refine qc ?_;refine qf Ty.zor ?_;refine qbq 1 Ty.zdj hS29 ?_;refine qf Ty.zfw ?_;refine qr (zfb Ty.zln rfl (hb37.held (HB.cons 1 hb37 hS29 rfl HB.nil) (by simp)) rfl) ?_
     refine qr (zbw Tryz.underlying118 rfl hue21_0.ln) ?_;refine qr (zfn Tryz.underlying3 Tryz.underlying5 rfl (zxb _)) ?_;refine qx (E_bs (t:=tB) (vs:=[.i .u8 ((toB8 (x20.ids.length:Int)).toNat:Int)]) (xs:=[(toB8 (x20.ids.length:Int))]) Tryz.underlying47 Ty.row5 rfl ⟨rfl,trivial⟩ rfl rfl hS29) ?_;rintro u31 w31 hS31;refine qh 2 hb37 hS31 ?_;refine ql (zpl hS31.good hr32) ?_;rintro ur32_0 w38 ⟨Fr32,_,rfl,hT38⟩;have hS38:=hS31.call hT38;have ler32:=hT38.ext;refine Nxt.frz (HB.le (HB.cons 3 hb37 hS38 rfl HB.nil) ler32) (HB.agree (HB.cons 3 hb37 hS38 rfl HB.nil) hS38.agree) ?_;refine qx (zft (t:=tB) 4 Tryz.underlying47 Ty.row5 Ty.zk47 rfl rfl hS38 rfl (hS38.rowSrc (k:=0) rfl) hl33) ?_;rintro v34 w34 hS34;refine qh 3 hb37 hS34 ?_;refine qx (zft (t:=tB) 4 Tryz.underlying47 Ty.row5 Ty.zk47 rfl rfl hS34 rfl (hS34.rowSrc (k:=1) rfl) hl35) ?_;rintro v36 w36 hS36;refine qh 3 hb37 hS36 ?_;refine qm ?_;refine qs ?_;refine qm ?_;refine zaw ?_;refine zbq (fun (s:Int × (List UInt8)) E wq=>∃ (F39:Frz) (u42:Val),E = [(1,pl g1 0),(3,u42),(4,.i .i64 i12),(5,pl g22 0),(6,.i .i64 s.1)] ∧ Fr32.le F39 ∧ St [] w F F39 [.box g22 [.s x20.path,.i .i64 x20.size,ue21_0],.row tB u42 s.2,.box g1 [.s x0.name,v0_0]] wq) H ?_ ?_
     ·exact ⟨_,⟨Fr32,v36,rfl,(Frz.le.refl _),hS36.pick [3,4,5] (by decide)⟩,⟨rfl,rfl,rfl,rfl,rfl,trivial⟩⟩
     ·rintro rec43 ⟨i40,l41⟩ E w39 hI H
      try dsimp only at hI
      obtain ⟨F39,u42,rfl,le39,hS39⟩:=hI;dsimp only [zap.l4] at H;refine zay ?_;refine qs ?_;refine qc ?_;refine qf Ty.zfw ?_;refine qb 0 Ty.zln hS39 ?_;refine qr (zbw Tryz.underlying118 rfl hue21_0.ln) ?_;refine qr (zah rfl rfl zbr) ?_;refine qn ?_;refine qy H (fun hc44 H=>?_) (fun hc44 H=>?_)
      ·refine qk ?_;refine zay ?_;refine zaw ?_;obtain ⟨x45,hx45,l48,hl48,H⟩:=bd2 H;refine qd ?_;refine qc ?_;refine qf Ty.zfw ?_;refine qb 0 Ty.zln hS39 ?_;refine qc ?_;obtain ⟨hp50,hy50⟩:=zab hx45;obtain ⟨cs50,hr50,he50⟩:=(hue21_0.mono (ler32.trans le39)).el hy50;obtain ⟨rfl,hle46⟩:=hr50;replace he50:=qj 32 he50;have hi50:=he50.ixd;refine qi Tryz.underlying118 Ty.zcz hi50 hp50 ?_;refine W_slE (f:=0) rfl rfl rfl rfl Tryz.underlying58 Ty.zjr rfl he50 (by omega) hle46 rfl ?_;intro q47 hv47;refine xm (zft (t:=tB) 1 Tryz.underlying47 Ty.row5 Ty.zk47 rfl rfl hS39 rfl (hv47.src hS39.agree) hl48) ?_;rintro v49 w49 hS49;refine qc ?_;refine zbk ?_;refine zbg ?_;refine zcl ?_;refine qd ?_;refine q3 ?_;refine zbk ?_;exact zbe (wr (i40 + 1),l48) _ H ⟨F39,v49,rfl,le39,hS49⟩ ⟨rfl,rfl,rfl,rfl,rfl,trivial⟩
      ·refine zci _ rfl ?_;refine zbg ?_;exact zbb _ ⟨l41,H,⟨F39,u42,rfl,(ler32.trans le39),hS39.pick [1,2] (by decide)⟩⟩ ⟨rfl,rfl,rfl,trivial⟩
    ·rintro E w17 ⟨l18,H,F17,u19,rfl,le17,hS17⟩;dsimp only [zap.k3] at H;refine qd ?_;refine q3 ?_;refine zbk ?_;exact zbe (wr (i12 + 1),l18) _ H ⟨F17,u19,rfl,(le11.trans le17),hS17⟩ ⟨rfl,rfl,rfl,trivial⟩
   ·refine zci _ rfl ?_;exact zbb _ ⟨l13,H,⟨F11,u14,rfl,le11,hS11.pick [0] (by decide)⟩⟩ ⟨rfl,trivial⟩
 ·rintro E w8 ⟨l9,H,F8,u10,rfl,le8,hS8⟩;dsimp only [zap.k1] at H;refine qs ?_;refine qc ?_;refine qm ?_;obtain rfl:=oi H;refine qt ?_;exact ⟨F8,u10,rfl,hS8⟩
def zcd.k1 (x1:Int) (r1:Manifest × (List (List UInt8)) × Int) (l9:List Found):Option ((List Found) × Bool) :=
  bd (zap r1.1) fun r12 =>
  bd (app (α:=Found) l9 [(Found.mk (Record.mk 2 x1 r12) (Loc.mk 0 2 0 (wr (13 + (r12.length:Int)))))]) fun l15 =>
  some (l15,true)
def zcd.l2 (x1:Int) (r1:Manifest × (List (List UInt8)) × Int) (rec25:((List Found) × Int) → Option ((List Found) × Bool)):((List Found) × Int) → Option ((List Found) × Bool)
  | (l21,i24) =>
    if decide (i24 < (r1.2.1.length:Int)) then
      bd (ix r1.2.1 i24) fun x27 =>
      bd (app (α:=Found) l21 [(Found.mk (Record.mk 1 0 x27) (Loc.mk 0 1 (wr (100 * i24)) (wr (13 + (x27.length:Int)))))]) fun l30 =>
      rec25 (l30,wr (i24 + 1))
    else
      zcd.k1 x1 r1 l21
def zcd (x0:List UInt8) (x1:Int) (x2:List File):Option ((List Found) × Bool) :=
  bd (zan x0 x2) fun r1 =>
  if decide (r1.2.2 ≠ 0) then
    some ([],false)
  else
    loop (zcd.l2 x1 r1) ([],0)
theorem zoe {x0:List UInt8} {x1:Int} {x2:List File} {r:(List Found) × Bool} {v2:Val} (hA:Gd F w) (h2:SlF File.t F v2 x2) (H:zcd x0 x1 x2 = some r):Ret Tryz.prog K 10 [.s x0,.i .i64 x1,v2] w fun v w'=>∃ (F':Frz) (q0:Val),v = .tup [q0,.b r.2] ∧ St [] w F F' [.row Found.t q0 (r.1)] w':=by
 refine qa3 Tryz.func10 ?_;have hS:=St.start hA;dsimp only [zcd] at H;refine qs ?_;refine qc ?_;refine qm ?_;obtain ⟨r1,hr1,H⟩:=zaq H;refine qs ?_;refine q2 ?_;refine lm (zne hS.good h2 hr1) ?_;rintro v3 w3 ⟨Fr1,ur1_0_0,ur1_1,rfl,hfr1_0_0,hT3⟩;have hS3:=hS.call hT3;have ler1:=hT3.ext;refine q4 ?_;refine xm (zgk (cs:=[.s [],.sl none 0 (.k 0)]) Ty.zta rfl hS3) ?_;rintro _ w2 ⟨g2,rfl,hS2⟩;refine um (zef (c:=[.s r1.1.name,ur1_0_0]) 0 ([.s r1.1.name,ur1_0_0]) rfl rfl hS2 rfl rfl Ty.zgt (by simp only [List.all_cons,List.all_nil,List.all_append,hfr1_0_0.ln.one]; rfl) rfl rfl) ?_;rintro _ w4 hS4;refine qc ?_;refine qm ?_;refine zay ?_;refine qs ?_;refine qc ?_;refine qr (zah rfl rfl zeh) ?_;refine qn ?_;refine qy H (fun hc5 H=>?_) (fun hc5 H=>?_)
 ·refine qs ?_;refine qc ?_;refine qm ?_;have hS7:=hS4.nilRow Found.t;obtain rfl:=oi H;refine qt ?_;exact ⟨Fr1,(.sl none 0 (.k 0)),rfl,hS7.pick [0] (by decide)⟩
 ·refine qk ?_;refine qs ?_;refine qm ?_;refine zao (fun E wq=>∃ l9:List Found,zcd.k1 x1 r1 l9 = some r ∧ ∃ (F8:Frz) (u10:Val),E = [(1,.i .i64 x1),(8,pl g2 0),(11,u10)] ∧ Fr1.le F8 ∧ St [] w F F8 [.box g2 [.s r1.1.name,ur1_0_0],.row Found.t u10 l9] wq) ?_ ?_
  ·refine qs ?_;refine qm ?_;refine zaw ?_;refine zbq (fun (s:(List Found) × Int) E wq=>∃ (F20:Frz) (u22:Val),E = [(1,.i .i64 x1),(8,pl g2 0),(9,ur1_1),(11,u22),(12,.i .i64 s.2)] ∧ Fr1.le F20 ∧ St [] w F F20 [.box g2 [.s r1.1.name,ur1_0_0],.row (tSl tB) ur1_1 r1.2.1,.row Found.t u22 s.1] wq) H ?_ ?_
   ·have hS36:=hS4.nilRow Found.t;exact ⟨_,⟨Fr1,(.sl none 0 (.k 0)),rfl,(Frz.le.refl _),hS36.pick [1,2,0] (by decide)⟩,⟨rfl,rfl,rfl,rfl,rfl,trivial⟩⟩
   ·rintro rec25 ⟨l21,i24⟩ E w20 hI H
    try dsimp only at hI
    obtain ⟨F20,u22,rfl,le20,hS20⟩:=hI;dsimp only [zcd.l2] at H;refine zay ?_;refine qs ?_;refine q2 ?_;refine qr (zbw Tryz.underlying95 rfl (hS20.rowLn (k:=1) rfl)) ?_;refine qr (zah rfl rfl zbr) ?_;refine qn ?_;refine qy H (fun hc26 H=>?_) (fun hc26 H=>?_)
    ·refine qk ?_;refine zay ?_;refine zaw ?_;obtain ⟨x27,hx27,l30,hl30,H⟩:=bd2 H;refine zba (G:=F20) [0,1,2,3,4,5,6,7,8,9,10,11,12,13,14,15,16,17,18] rfl Ty.mixed (by kernel_rfl) hS20.agree ?_;refine q3 ?_;obtain ⟨hp32,hy32⟩:=zab hx27;obtain ⟨cs32,hr32,he32⟩:=hS20.rowAt (k:=1) rfl hy32;obtain ⟨ue28,rfl,hue28⟩:=hr32;replace he32:=qj 1 he32;have hi32:=he32.ixd;refine qi Tryz.underlying95 Ty.zpb hi32 hp32 ?_;refine qq (zep 0 Ty.zhi rfl he32 (by omega) rfl) ?_;have hcl33:=hue28.ln.cells;refine qr (zjz (vs:=[(0,.i .i64 1),(2,ue28)]) (v:=.agg (Record.cells (Record.mk 1 0 x27) ue28)) Ty.bld49 rfl (by simp only [zkf,hcl33]; rfl)) ?_;refine q4 ?_;refine qi Tryz.underlying95 Ty.zpb hi32 hp32 ?_;refine qq (zep 0 Ty.zhi rfl he32 (by omega) rfl) ?_;refine qr (zbw Tryz.underlying47 rfl hue28.ln) ?_;refine qc ?_;refine W_c (v:=.agg (Loc.cells (Loc.mk 0 1 (wr (100 * i24)) (wr (13 + (x27.length:Int)))))) rfl rfl rfl rfl (fun _=>rfl) ?_;have hcl34:=hue28.ln.cells;refine qr (zjz (vs:=[(0,.agg (Record.cells (Record.mk 1 0 x27) ue28)),(1,.agg (Loc.cells (Loc.mk 0 1 (wr (100 * i24)) (wr (13 + (x27.length:Int))))))]) (v:=.agg (Found.cells (Found.mk (Record.mk 1 0 x27) (Loc.mk 0 1 (wr (100 * i24)) (wr (13 + (x27.length:Int))))) ue28)) Ty.bld53 rfl (by simp only [zkf,hcl34]; rfl)) ?_;refine qx (E_bs (t:=Found.t) (vs:=[.agg (Found.cells (Found.mk (Record.mk 1 0 x27) (Loc.mk 0 1 (wr (100 * i24)) (wr (13 + (x27.length:Int))))) ue28)]) (xs:=[(Found.mk (Record.mk 1 0 x27) (Loc.mk 0 1 (wr (100 * i24)) (wr (13 + (x27.length:Int)))))]) Tryz.underlying27 Ty.zsa rfl ⟨⟨ue28,rfl,hue28⟩,trivial⟩ rfl rfl hS20) ?_;rintro u29 w29 hS29;refine Nxt.frz (Frz.le.refl _) hS29.agree ?_;refine qx (zft (t:=Found.t) 3 Tryz.underlying27 Ty.zsa Ty.zk27 rfl rfl hS29 rfl (hS29.rowSrc (k:=0) rfl) hl30) ?_;rintro v31 w31 hS31;refine Nxt.frz (Frz.le.refl _) hS31.agree ?_;refine qc ?_;refine zbk ?_;refine zbg ?_;refine zcl ?_;refine qd ?_;refine q3 ?_;refine zbk ?_;exact zbe (l30,wr (i24 + 1)) _ H ⟨F20,v31,rfl,le20,hS31.pick [1,2,3] (by decide)⟩ ⟨rfl,rfl,rfl,rfl,rfl,trivial⟩
    ·refine zci _ rfl ?_;exact zbb _ ⟨l21,H,⟨F20,u22,rfl,le20,hS20.pick [0,2] (by decide)⟩⟩ ⟨rfl,rfl,rfl,trivial⟩
  ·rintro E w8 ⟨l9,H,F8,u10,rfl,le8,hS8⟩;dsimp only [zcd.k1] at H;obtain ⟨r12,hr12,H⟩:=zaq H;refine qs ?_;refine qr (zdh 0 (Manifest.cells r1.1 ur1_0_0) Ty.zpp Ty.zgt (Nat.zero_lt_succ _) rfl hS8 rfl (fun q u h=>zcy (post:=[]) rfl h)) ?_;refine lm (zjt hS8.good (hfr1_0_0.mono le8) hr12) ?_;rintro ur12_0 w13 ⟨Fr12,_,rfl,hT13⟩;have hS13:=hS8.call hT13;have ler12:=hT13.ext;refine qm ?_;obtain ⟨l15,hl15,H⟩:=zaq H;refine qs ?_;refine q3 ?_;have hcl17:=(hS13.rowLn (k:=0) rfl).cells;refine qr (zjz (vs:=[(0,.i .i64 2),(1,.i .i64 x1),(2,ur12_0)]) (v:=.agg (Record.cells (Record.mk 2 x1 r12) ur12_0)) Ty.bld49 rfl (by simp only [zkf,hcl17]; rfl)) ?_;refine qc ?_;refine qr (zbw Tryz.underlying47 rfl (hS13.rowLn (k:=0) rfl)) ?_;refine qc ?_;refine W_c (v:=.agg (Loc.cells (Loc.mk 0 2 0 (wr (13 + (r12.length:Int)))))) rfl rfl rfl rfl (fun _=>rfl) ?_;have hcl18:=(hS13.rowLn (k:=0) rfl).cells;refine qr (zjz (vs:=[(0,.agg (Record.cells (Record.mk 2 x1 r12) ur12_0)),(1,.agg (Loc.cells (Loc.mk 0 2 0 (wr (13 + (r12.length:Int))))))]) (v:=.agg (Found.cells (Found.mk (Record.mk 2 x1 r12) (Loc.mk 0 2 0 (wr (13 + (r12.length:Int))))) ur12_0)) Ty.bld53 rfl (by simp only [zkf,hcl18]; rfl)) ?_;obtain ⟨F19,le19,hf19,hS19⟩:=hS13.freezeR 0 [1,2] rfl (by decide) (by decide);refine xm (E_bs (t:=Found.t) (vs:=[.agg (Found.cells (Found.mk (Record.mk 2 x1 r12) (Loc.mk 0 2 0 (wr (13 + (r12.length:Int))))) ur12_0)]) (xs:=[(Found.mk (Record.mk 2 x1 r12) (Loc.mk 0 2 0 (wr (13 + (r12.length:Int)))))]) Tryz.underlying27 Ty.zsa rfl ⟨⟨ur12_0,rfl,hf19⟩,trivial⟩ rfl rfl hS19) ?_;rintro u14 w14 hS14;refine xm (zft (t:=Found.t) 2 Tryz.underlying27 Ty.zsa Ty.zk27 rfl rfl hS14 rfl (hS14.rowSrc (k:=0) rfl) hl15) ?_;rintro v16 w16 hS16;refine qc ?_;refine qm ?_;obtain rfl:=oi H;refine qt ?_;exact ⟨F19,v16,rfl,hS16.pick [2] (by decide)⟩
end
end Go.Wk.Lf
end
section
namespace Go.Wk.Lf
open Go.V Go.Proofs
open Go.V Go.Proofs Go.Sort
abbrev KK:Tb:=fun f args h M=>KSort Tryz.prog KNone 99 4 f args h M ∨ KSort Tryz.prog (KExt Tryz.prog) 168 32 f args h M ∨ KExt Tryz.prog f args h M ∨ KLap Tryz.prog f args h M ∨ zrv Tryz.prog (KLap Tryz.prog) 86 f args h M ∨ zrv Tryz.prog (KLap Tryz.prog) 91 f args h M ∨ zrv Tryz.prog (KLap Tryz.prog) 95 f args h M
instance : Kn (KExt Tryz.prog) KK := ⟨fun _ _ _ _ h => .inr (.inr (.inl h))⟩
theorem kk_lap:∀ f args h M,KLap Tryz.prog f args h M → KK f args h M:=fun _ _ _ _ h=>.inr (.inr (.inr (.inl h)))
theorem zwx:∀ args h M,zrv Tryz.prog (KLap Tryz.prog) 86 86 args h M → KK 86 args h M:=fun _ _ _ h=>.inr (.inr (.inr (.inr (.inl h))))
theorem kk_closeSnap:∀ args h M,zrv Tryz.prog (KLap Tryz.prog) 91 91 args h M → KK 91 args h M:=fun _ _ _ h=>.inr (.inr (.inr (.inr (.inr (.inl h)))))
theorem kk_closeExp:∀ args h M,zrv Tryz.prog (KLap Tryz.prog) 95 95 args h M → KK 95 args h M:=fun _ _ _ h=>.inr (.inr (.inr (.inr (.inr (.inr h)))))
def znp (a b:Loc):Int:=orI [cmpI a.vol b.vol,cmpI a.file b.file,cmpI a.off b.off,cmpI a.len b.len]
theorem compare_eq (a b:Int):zdx a b = some (cmpI a b):=by
 simp only [zdx,ziy,bd,cmpI]
 simp only [ne_eq,not_true_eq_false,decide_false,Bool.false_eq_true,if_false,decide_eq_true_eq]
 split <;> (try split) <;> rfl
theorem or_eq (xs:List Int) (h:xs.length ≤ 1073741824):zfd xs = some (orI xs):=by
 have key:∀ (m i:Nat),i ≤ xs.length → xs.length - i < m → iter (zfd.l2 xs) m (i:Int) = some (orI (xs.drop i)):=by
  intro m
  induction m with
  | zero=>intro i _ h; omega
  | succ m ih =>
   intro i hi hm
   rw [iter]
   simp only [zfd.l2,zfd.k1,decide_eq_true_eq]
   by_cases hn:i < xs.length
   ·have hw:wr ((i:Int) + 1) = ((i + 1:Nat):Int):=by
     have:=zwb (x:=(i:Int) + 1) (n:=i + 1) (by omega) (by omega)
     exact this
    have hix:ix xs (i:Int) = some xs[i]:=by
     unfold ix
     simp [hn]
    rw [if_pos (by omega),hix]
    simp only [bd]
    rw [hw,List.drop_eq_getElem_cons hn]
    simp only [orI]
    by_cases h0:xs[i] = 0
    ·rw [if_neg (by simp [h0]),if_neg (by simp [h0])]
     exact ih (i + 1) (by omega) (by omega)
    ·rw [if_pos (by simp [h0]),if_pos h0]
   ·rw [if_neg (by omega),List.drop_eq_nil_of_le (by omega)]; rfl
 have:=key 18446744073709551616 0 (Nat.zero_le _) (by omega)
 exact this
theorem order_eq (a b:Loc):zol a b = some (znp a b):=by
 simp only [zol,compare_eq,bd]
 rw [or_eq _ (by simp)]; rfl
theorem zqd (a b:Loc):znp a b < 0 ↔ a.vol < b.vol ∨ a.vol = b.vol ∧ (a.file < b.file ∨ a.file = b.file ∧ (a.off < b.off ∨ a.off = b.off ∧ a.len < b.len)):=by
 simp only [znp,orI,cmpI]
 repeat' split
 all_goals omega
theorem lt_loc (a b:Loc):ltOf znp a b = decide (znp a b < 0):=rfl
theorem ordLoc_swo:SWO (ltOf znp) where
 irrefl x:=by simp only [lt_loc,decide_eq_false_iff_not,zqd]; omega
 trans x y z h1 h2:=by simp only [lt_loc,decide_eq_true_eq,zqd] at *; omega
 ntrans x y z h1 h2:=by simp only [lt_loc,decide_eq_false_iff_not,zqd] at *; omega
theorem loc_ext {a b:Loc} (h1:a.vol = b.vol) (h2:a.file = b.file) (h3:a.off = b.off) (h4:a.len = b.len):a = b:=by cases a; cases b; simp_all
theorem ordLoc_tot (x y:Loc) (h1:ltOf znp x y = false) (h2:ltOf znp y x = false):x = y:=by
 simp only [lt_loc,decide_eq_false_iff_not,zqd] at h1 h2
 exact loc_ext (by omega) (by omega) (by omega) (by omega)
theorem iorder_eq (a b:List UInt8):zll a b = some (cmpT a b):=rfl
theorem cmpT_swo:SWO (ltOf cmpT):=swo_of (f:=fun x=>x) fun _ _=>zut _ _
theorem cmpT_tot (x y:List UInt8) (h1:ltOf cmpT x y = false) (h2:ltOf cmpT y x = false):x = y:=by
 rw [zut] at h1 h2
 exact ztk h1 h2
theorem sort_none99 (a:Option (Nat × Nat)) (k:Cap) (w:Hp):Ret Tryz.prog KK 99 [.sl a 0 k,.f 100 []] w fun u w'=>u = .tup [] ∧ w' = w :=
 XW.mono (evJ_sound 100 _ (.call (.tup []) w) (by kernel_rfl)) fun o e=>⟨_,_,e,rfl,rfl⟩
theorem sort_none168 (a:Option (Nat × Nat)) (k:Cap) (w:Hp):Ret Tryz.prog KK 168 [.sl a 0 k,.f 169 []] w fun u w'=>u = .tup [] ∧ w' = w :=
 XW.mono (evJ_sound 100 _ (.call (.tup []) w) (by kernel_rfl)) fun o e=>⟨_,_,e,rfl,rfl⟩
theorem sortLoc_ok {F:Frz} {w:Hp} {v:Val} {xs r:List Loc} (hS:St v.own w F F [.row Loc.t v xs] w) (H:sortM znp xs = some r):Ret Tryz.prog KK 99 [v,.f 100 []] w fun u w'=>∃ F',u = .tup [] ∧ St v.own w F F' [.row Loc.t v r] w' :=
 sort_flat (K0:=KNone) (fun _ _ _ h=>.inl h) rfl ordLoc_swo ordLoc_tot Tryz.func100 rfl (by decide) sort_none99 (fun G h' cs x ds y hG hx hy=>by
  obtain rfl:=hx
  obtain rfl:=hy
  exact (zwl hG (order_eq x y)).mono fun v w' ⟨F',e,_⟩=>e) hS H
theorem sortIds_ok {F:Frz} {w:Hp} {v:Val} {xs r:List (List UInt8)} (hS:St v.own w F F [.row tId v xs] w) (H:sortM cmpT xs = some r):Ret Tryz.prog KK 168 [v,.f 169 []] w fun u w'=>∃ F',u = .tup [] ∧ St v.own w F F' [.row tId v r] w' :=
 sort_flat (K0:=KExt Tryz.prog) (fun _ _ _ h=>.inr (.inl h)) rfl cmpT_swo cmpT_tot Tryz.func169 rfl (by decide) sort_none168 (fun G h' cs x ds y hG hx hy=>by
  obtain ⟨rfl,hx⟩:=hx
  obtain ⟨rfl,hy⟩:=hy
  exact (zqz hG hx hy (iorder_eq x y)).mono fun v w' ⟨F',e,_⟩=>e) hS H
set_option maxRecDepth 100000 in
theorem insKChunk {K:Tb} (hL:∀ f args h M,KLap Tryz.prog f args h M → K f args h M) {h:Hp} {b n m i vb y:Nat} {ck:Cap} {c d:List Val} (hW:Wf h) (hb:b < h.next) (hg:h.get b = some (.cells 35 c)) (hv:h.get vb = some (.cells 35 d)) (hne:vb ≠ b) (hi:i < n) (hnm:n ≤ m) (hcm:c.length = m * 35) (hy:0 < y) (hyd:y * 35 ≤ d.length) (hc1:c.all Val.one = true) (hd1:d.all Val.one = true) (hbig:n + y ≤ 2 ^ 30) (hvb:vb < h.next) :
  Ret Tryz.prog K 86 [.sl (some (b,0)) n (.k m),.i .i64 (i:Int),.sl (some (vb,0)) y ck] h (InsR 35 h b i n y c d):=by
 have hyd':d.drop 0 = d:=List.drop_zero
 have hge:h.get h.next = none:=hW _ (Nat.le_refl _)
 refine zqs (args:=[.sl (some (b,0)) n (.k m),.i .i64 (i:Int),.sl (some (vb,0)) y ck]) Tryz.func86 rfl (by decide) rfl ?_
 change C _ _ _ _ _ [(0,.sl (some (b,0)) n (.k m)),(1,.i .i64 (i:Int)),(2,.sl (some (vb,0)) y ck)] _
 refine zay ?_
 refine C_region rfl ?_
 refine W_c rfl rfl rfl rfl (fun _=>rfl) ?_
 refine zbk ?_
 refine zcl ?_
 refine zay ?_
 refine C_region rfl ?_
 refine W_c rfl rfl rfl rfl (fun _=>rfl) ?_
 refine W_c rfl rfl rfl rfl (fun _=>rfl) ?_
 refine W_c rfl rfl rfl rfl (zkj i n Tryz.underlying35 Ty.zfu rfl (.inr ⟨_,_,rfl,rfl⟩) (.inl ⟨rfl,rfl⟩) (Nat.le_of_lt hi) hnm (Nat.lt_of_lt_of_le hi hnm)) ?_
 refine zbk ?_
 refine zcl ?_
 refine zay ?_
 refine C_region rfl ?_
 refine W_c rfl rfl rfl rfl (fun _=>rfl) ?_
 refine W_r rfl rfl rfl (zbw Tryz.underlying35 rfl (.inr ⟨_,_,rfl,fun q=>by cases q⟩)) ?_
 refine W_c rfl rfl rfl rfl (fun _=>rfl) ?_
 refine zbk ?_
 refine zcl ?_
 refine zay ?_
 refine zay ?_
 refine C_region rfl ?_
 refine W_c rfl rfl rfl rfl (fun _=>rfl) ?_
 refine W_r rfl rfl rfl (zah rfl rfl zdr) ?_
 refine zbk ?_
 refine zcl ?_
 refine zhj rfl (fun hc=>absurd (of_decide_eq_true hc) (by omega)) (fun _=>?_)
 refine zeu ?_
 refine zcl ?_
 refine zay ?_
 refine C_region rfl ?_
 refine W_c rfl rfl rfl rfl (fun _=>rfl) ?_
 refine W_r rfl rfl rfl (zbw Tryz.underlying35 rfl (.inr ⟨_,_,rfl,fun q=>by cases q⟩)) ?_
 refine W_c rfl rfl rfl rfl (fun _=>rfl) ?_
 refine zbk ?_
 refine zcl ?_
 refine zay ?_
 refine zay ?_
 refine C_region rfl ?_
 refine W_c rfl rfl rfl rfl (fun _=>rfl) ?_
 refine W_c rfl rfl rfl rfl (fun _=>rfl) ?_
 refine W_r rfl rfl rfl (zah rfl rfl zdr) ?_
 refine zbk ?_
 refine zcl ?_
 refine zhj rfl (fun hc=>absurd (of_decide_eq_true hc) (by omega)) (fun _=>?_)
 refine zeu ?_
 refine zcl ?_
 refine zay ?_
 refine zay ?_
 refine C_region rfl ?_
 refine W_c rfl rfl rfl rfl (fun _=>rfl) ?_
 refine W_c rfl rfl rfl rfl (fun _=>rfl) ?_
 refine W_r rfl rfl rfl (zah rfl rfl (zhc (a:=n) (b:=y) (by omega))) ?_
 refine W_c rfl rfl rfl rfl (fun _=>rfl) ?_
 refine W_c (v:=.i .i64 (m:Int)) rfl rfl rfl rfl (fun h=>by simp only [opAt,List.getD_cons_succ,List.getD_cons_zero,opL,evLL,List.mapM_cons,List.mapM_nil,evLO,look]; rfl) ?_
 refine W_r rfl rfl rfl (zah rfl rfl zgc) ?_
 refine zbk ?_
 refine zcl ?_
 refine zhj rfl (fun hc=>?_) (fun hc=>?_)
 ·have hroom:m < n + y:=by have:=of_decide_eq_true hc; omega
  refine zay ?_
  refine C_region rfl ?_
  refine W_c rfl rfl rfl rfl (fun _=>rfl) ?_
  refine W_c rfl rfl rfl rfl (fun _=>rfl) ?_
  refine W_c rfl rfl rfl rfl (zkj 0 i Tryz.underlying35 Ty.zfu rfl (.inl ⟨rfl,rfl⟩) (.inr ⟨_,_,rfl,rfl⟩) (Nat.zero_le _) (by omega) (by omega)) ?_
  refine W_c rfl rfl rfl rfl (fun _=>rfl) ?_
  refine W_c rfl rfl rfl rfl (fun _=>rfl) ?_
  refine W_r rfl rfl rfl (zah rfl rfl (zhc (a:=n) (b:=y) (by omega))) ?_
  refine W_c rfl rfl rfl rfl (fun _=>rfl) ?_
  refine W_r rfl rfl rfl (zah rfl rfl (bI_subN (a:=n + y) (b:=i) (by omega) (by omega))) ?_
  refine W_x rfl rfl rfl (E_apK (N:=n + y - i) (c:=c) Tryz.underlying35 Ty.row60 (by kernel_rfl) rfl rfl (by omega) (by omega) (by omega) (by omega) hg (by rw [hcm]; simp only [Nat.zero_mul,Nat.add_zero,Nat.zero_add,Nat.sub_zero]; exact Nat.mul_le_mul_right _ (by omega)) hc1) ?_
  rintro _ _ ⟨rfl,zs,hzs,hz1,rfl⟩
  refine Nxt.now ?_
  refine W_c rfl rfl rfl rfl (fun _=>rfl) ?_
  refine zbk ?_
  simp only [Nat.zero_mul,Nat.add_zero,Nat.sub_zero]
  have hin:i + (n + y - i) = n + y:=by omega
  rw [hin]
  have g0:∀ B q,q < h.next → (h.new B).get q = h.get q:=fun B q hq=>by rw [Hp.get_new,if_neg (by omega)]
  have h1g:(h.new (.cells 35 ((c.drop 0).take (i * 35) ++ zs))).get h.next = some (.cells 35 ((c.drop 0).take (i * 35) ++ zs)):=by rw [Hp.get_new,if_pos rfl]
  have e1:(i + y) * 35 = i * 35 + y * 35:=Nat.add_mul _ _ _
  have e2:(n - i) * 35 = n * 35 - i * 35:=Nat.sub_mul _ _ _
  have e3:(n + y) * 35 = n * 35 + y * 35:=Nat.add_mul _ _ _
  have e4:i * 35 ≤ n * 35:=Nat.mul_le_mul_right _ (Nat.le_of_lt hi)
  have e5:n * 35 ≤ m * 35:=Nat.mul_le_mul_right _ hnm
  have e6:(n + y - i) * 35 = n * 35 + y * 35 - i * 35:=by rw [Nat.sub_mul,Nat.add_mul]
  have lD:((d.drop 0).take (y * 35)).length = y * 35:=by rw [List.length_take,List.length_drop]; omega
  have lB:((c.drop 0).take (i * 35) ++ zs).length = (n + y) * 35:=by rw [List.length_append,List.length_take,List.length_drop]; omega
  have o1:((c.drop 0).take (i * 35) ++ zs).all Val.one = true:=by rw [List.all_append,zgv hc1,hz1]; rfl
  refine zcl ?_
  refine zay ?_
  refine C_region rfl ?_
  refine W_c rfl rfl rfl rfl (fun _=>rfl) ?_
  refine W_c rfl rfl rfl rfl (fun _=>rfl) ?_
  refine W_c rfl rfl rfl rfl (O_slO i (n + y) Tryz.underlying35 Ty.zfu rfl (.inr ⟨_,_,rfl,rfl⟩) (.inl ⟨rfl,rfl⟩) (by omega) (Nat.le_refl _) (by omega)) ?_
  refine W_c rfl rfl rfl rfl (fun _=>rfl) ?_
  refine W_x rfl rfl rfl (E_cp (m:=y) Tryz.underlying35 Ty.zfu rfl rfl (by omega) h1g ((g0 _ _ hvb).trans hv) (by rw [Nat.zero_add]; exact hyd) (by rw [lB]; omega) hd1 hy) ?_
  rintro _ _ rfl
  refine Nxt.now ?_
  refine zbk ?_
  rw [Nat.zero_add]
  have hl1:=zdd (c:=(c.drop 0).take (i * 35) ++ zs) (o:=i * 35) (vs:=(d.drop 0).take (y * 35)) (by rw [lD,lB]; omega)
  refine zcl ?_
  refine zay ?_
  refine zba (G:=fun _ _=>none) [0,1,2,3,4,5,6,7,8] rfl Ty.mixed (by kernel_rfl) (fun _ _ _ q=>by cases q) ?_
  refine W_c rfl rfl rfl rfl (fun _=>rfl) ?_
  refine W_c rfl rfl rfl rfl (fun _=>rfl) ?_
  refine W_c rfl rfl rfl rfl (fun _=>rfl) ?_
  refine W_r rfl rfl rfl (zah rfl rfl (zhc (a:=i) (b:=y) (by omega))) ?_
  refine W_c rfl rfl rfl rfl (O_slO (i + y) (n + y) Tryz.underlying35 Ty.zfu rfl (.inr ⟨_,_,rfl,rfl⟩) (.inl ⟨rfl,rfl⟩) (by omega) (Nat.le_refl _) (by omega)) ?_
  refine W_c rfl rfl rfl rfl (fun _=>rfl) ?_
  refine W_c rfl rfl rfl rfl (fun _=>rfl) ?_
  refine W_c rfl rfl rfl rfl (zkj i n Tryz.underlying35 Ty.zfu rfl (.inr ⟨_,_,rfl,rfl⟩) (.inl ⟨rfl,rfl⟩) (by omega) (by omega) (by omega)) ?_
  refine W_x rfl rfl rfl (E_cp (m:=n - i) Tryz.underlying35 Ty.zfu rfl rfl (by omega) (by rw [Hp.get_set,if_pos rfl]) (by rw [Hp.get_set,if_neg (by omega)]; exact (g0 _ _ hb).trans hg) (by rw [Nat.zero_add]; omega) (by rw [hl1,lB,Nat.zero_add]; omega) hc1 (by omega)) ?_
  rintro _ _ rfl
  refine Nxt.frz (Frz.le.refl _) (fun _ _ _ q=>by cases q) ?_
  refine zbk ?_
  refine zcl ?_
  refine zay ?_
  refine C_region rfl ?_
  refine W_c rfl rfl rfl rfl (fun _=>rfl) ?_
  refine W_c rfl rfl rfl rfl (fun _=>rfl) ?_
  refine zbk ?_
  refine zcl ?_
  refine C_ret rfl rfl ?_
  simp only [Nat.zero_add]
  obtain ⟨k1,k2⟩:=ins_new (z:=35) hi hnm hcm hyd hzs
  refine ⟨h.next,none,_,rfl,by rw [Hp.get_set,if_pos rfl],by rw [List.take_of_length_le (by rw [k2]; omega)]; exact k1,fun _=>by rw [k2]; exact Nat.le_refl _,fun q e=>(by cases e),zih (zih o1 (zgv hd1)) (zgv hc1),Nat.lt_succ_self _,Nat.le_succ _,fun q hq=>?_,fun q hq _=>?_,.inr (Nat.le_refl _)⟩
  ·have hq':h.next + 1 ≤ q:=hq
   rw [Hp.get_set,if_neg (by omega),Hp.get_set,if_neg (by omega),Hp.get_new,if_neg (by omega)]
   exact hW _ (by omega)
  ·rw [Hp.get_set,if_neg (by omega),Hp.get_set,if_neg (by omega)]
   exact g0 _ _ hq
 ·have hroom:n + y ≤ m:=by have:=of_decide_eq_false hc; omega
  have e1:(i + y) * 35 = i * 35 + y * 35:=Nat.add_mul _ _ _
  have e2:(n - i) * 35 = n * 35 - i * 35:=Nat.sub_mul _ _ _
  have e3:(n + y) * 35 = n * 35 + y * 35:=Nat.add_mul _ _ _
  have e4:i * 35 ≤ n * 35:=Nat.mul_le_mul_right _ (Nat.le_of_lt hi)
  have e5:(n + y) * 35 ≤ m * 35:=Nat.mul_le_mul_right _ hroom
  have e7:n + y - (i + y) = n - i:=by omega
  refine zeu ?_
  refine zcl ?_
  refine zay ?_
  refine C_region rfl ?_
  refine W_c rfl rfl rfl rfl (fun _=>rfl) ?_
  refine W_c rfl rfl rfl rfl (fun _=>rfl) ?_
  refine W_c rfl rfl rfl rfl (fun _=>rfl) ?_
  refine W_r rfl rfl rfl (zah rfl rfl (zhc (a:=n) (b:=y) (by omega))) ?_
  refine W_c rfl rfl rfl rfl (zkj 0 (n + y) Tryz.underlying35 Ty.zfu rfl (.inl ⟨rfl,rfl⟩) (.inr ⟨_,_,rfl,rfl⟩) (Nat.zero_le _) (by omega) (by omega)) ?_
  refine W_c rfl rfl rfl rfl (fun _=>rfl) ?_
  refine zbk ?_
  simp only [Nat.zero_mul,Nat.add_zero,Nat.sub_zero]
  refine zcl ?_
  refine zay ?_
  refine zay ?_
  refine C_region rfl ?_
  refine W_c rfl rfl rfl rfl (fun _=>rfl) ?_
  refine W_c rfl rfl rfl rfl (fun _=>rfl) ?_
  refine W_c rfl rfl rfl rfl (fun _=>rfl) ?_
  refine W_c rfl rfl rfl rfl (fun _=>rfl) ?_
  refine W_r rfl rfl rfl (zah rfl rfl (zhc (a:=i) (b:=y) (by omega))) ?_
  refine W_c rfl rfl rfl rfl (zkj (i + y) (n + y) Tryz.underlying35 Ty.zfu rfl (.inr ⟨_,_,rfl,rfl⟩) (.inl ⟨rfl,rfl⟩) (by omega) (by omega) (by omega)) ?_
  refine W_call (f:=136) (args:=[.sl (some (vb,0)) y ck,.sl (some (b,0 + (i + y) * 35)) (n + y - (i + y)) (.k (m - (i + y)))]) rfl rfl rfl rfl (XW.known (M:=fun v w'=>v = .b false ∧ w' = h) (hL _ _ _ _ ⟨_,_,4,_,_,_,_,_,_,_,_,_,_,_,_,_,_,Tryz.func136,rfl,rfl,rfl,by kernel_rfl,Tryz.underlying35,Ty.zfu,rfl,hne,hv,by decide,by omega,hg,by omega,rfl,rfl⟩) fun v h' q=>⟨v,h',rfl,q⟩) ?_
  rintro _ w1 ⟨rfl,hw1⟩
  obtain rfl:h = w1:=hw1.symm
  refine Nxt.now ?_
  refine W_c rfl rfl rfl rfl (fun _=>rfl) ?_
  refine zbk ?_
  refine zcl ?_
  refine zxw rfl ?_
  refine zay ?_
  refine zba (G:=fun _ _=>none) [0,1,2,3,4,5,6,7,8] rfl Ty.mixed (by kernel_rfl) (fun _ _ _ q=>by cases q) ?_
  refine W_c rfl rfl rfl rfl (fun _=>rfl) ?_
  refine W_c rfl rfl rfl rfl (fun _=>rfl) ?_
  refine W_c rfl rfl rfl rfl (fun _=>rfl) ?_
  refine W_r rfl rfl rfl (zah rfl rfl (zhc (a:=i) (b:=y) (by omega))) ?_
  refine W_c rfl rfl rfl rfl (zkj (i + y) (n + y) Tryz.underlying35 Ty.zfu rfl (.inr ⟨_,_,rfl,rfl⟩) (.inl ⟨rfl,rfl⟩) (by omega) (by omega) (by omega)) ?_
  refine W_c rfl rfl rfl rfl (fun _=>rfl) ?_
  refine W_c rfl rfl rfl rfl (fun _=>rfl) ?_
  refine W_c rfl rfl rfl rfl (zkj i (n + y) Tryz.underlying35 Ty.zfu rfl (.inr ⟨_,_,rfl,rfl⟩) (.inl ⟨rfl,rfl⟩) (by omega) (by omega) (by omega)) ?_
  refine W_x rfl rfl rfl (E_cp (m:=n - i) Tryz.underlying35 Ty.zfu rfl rfl (by omega) hg hg (by rw [Nat.zero_add]; omega) (by rw [Nat.zero_add]; omega) hc1 (by omega)) ?_
  rintro _ _ rfl
  refine Nxt.frz (Frz.le.refl _) (fun _ _ _ q=>by cases q) ?_
  refine zbk ?_
  simp only [Nat.zero_add]
  have lA:((c.drop (i * 35)).take ((n - i) * 35)).length = (n - i) * 35:=by rw [List.length_take,List.length_drop]; omega
  have hl1:=zdd (c:=c) (o:=(i + y) * 35) (vs:=(c.drop (i * 35)).take ((n - i) * 35)) (by rw [lA]; omega)
  refine zcl ?_
  refine zay ?_
  refine C_region rfl ?_
  refine W_c rfl rfl rfl rfl (fun _=>rfl) ?_
  refine W_c rfl rfl rfl rfl (fun _=>rfl) ?_
  refine W_c rfl rfl rfl rfl (zkj i (n + y) Tryz.underlying35 Ty.zfu rfl (.inr ⟨_,_,rfl,rfl⟩) (.inl ⟨rfl,rfl⟩) (by omega) (by omega) (by omega)) ?_
  refine W_c rfl rfl rfl rfl (fun _=>rfl) ?_
  refine W_x rfl rfl rfl (E_cp (m:=y) Tryz.underlying35 Ty.zfu rfl rfl (by omega) (by rw [Hp.get_set,if_pos rfl]) (by rw [Hp.get_set,if_neg hne]; exact hv) (by rw [Nat.zero_add]; exact hyd) (by rw [hl1,Nat.zero_add]; omega) hd1 hy) ?_
  rintro _ _ rfl
  refine Nxt.now ?_
  refine zbk ?_
  refine zcl ?_
  refine zay ?_
  refine C_region rfl ?_
  refine W_c rfl rfl rfl rfl (fun _=>rfl) ?_
  refine W_c rfl rfl rfl rfl (fun _=>rfl) ?_
  refine zbk ?_
  refine zcl ?_
  refine C_ret rfl rfl ?_
  simp only [Nat.zero_add]
  obtain ⟨k1,k2⟩:=ins_in (z:=35) hi hroom hcm hyd
  refine ⟨b,some m,_,rfl,by rw [Hp.get_set,if_pos rfl],k1,fun e=>(by cases e),fun q e=>(by obtain rfl:=Option.some.inj e; exact ⟨k2,hroom⟩),zih (zih hc1 (zgv hc1)) (zgv hd1),hb,Nat.le_refl _,fun q hq=>?_,fun q hq hqb=>?_,.inl rfl⟩
  ·have hq':h.next ≤ q:=hq
   rw [Hp.get_set,if_neg (by omega),Hp.get_set,if_neg (by omega)]
   exact hW _ hq'
  ·rw [Hp.get_set,if_neg hqb,Hp.get_set,if_neg hqb]
set_option maxRecDepth 100000 in
theorem insEChunk {K:Tb} {t:To Chunk} {X:List Nat} {h0 h:Hp} {F0 F:Frz} {L:List Ob} {bs bs2:List Nat} {v v2:Val} {xs ys zs:List Chunk} (hts:t.size = 35) (hS:St X h0 F0 F (.dp t bs2 v2 ys :: .dp t bs v xs :: L) h) (hy:0 < ys.length) (hz:app xs ys = some zs) :
  Ret Tryz.prog K 86 [v,.i .i64 (xs.length:Int),v2] h (fun u h'=>∃ bs',St X h0 F0 F (.dp t bs' u zs :: L) h'):=by
 have hfew:=(zov hz).1
 refine zqs (args:=[v,.i .i64 (xs.length:Int),v2]) Tryz.func86 rfl (by decide) rfl ?_
 change C _ _ _ _ _ [(0,v),(1,.i .i64 (xs.length:Int)),(2,v2)] _
 refine zay ?_
 refine C_region rfl ?_
 refine W_c rfl rfl rfl rfl (fun _=>rfl) ?_
 refine zbk ?_
 refine zcl ?_
 refine zay ?_
 refine C_region rfl ?_
 refine W_c rfl rfl rfl rfl (fun _=>rfl) ?_
 refine W_c rfl rfl rfl rfl (fun _=>rfl) ?_
 refine W_cutD (t:=t) 1 (xs.length:Int) (xs.length:Int) rfl rfl rfl rfl Tryz.underlying35 (by rw [hts]; exact Ty.zfu) rfl (.inr ⟨_,_,rfl,rfl⟩) (.inl ⟨rfl,rfl⟩) hS rfl (by omega) (by omega) (by omega) ?_
 intro v'
 refine zbk ?_
 refine zcl ?_
 refine zay ?_
 refine C_region rfl ?_
 refine W_c rfl rfl rfl rfl (fun _=>rfl) ?_
 refine W_r rfl rfl rfl (zbw Tryz.underlying35 rfl (hS.dpLn (k:=0) rfl)) ?_
 refine W_c rfl rfl rfl rfl (fun _=>rfl) ?_
 refine zbk ?_
 refine zcl ?_
 refine zay ?_
 refine zay ?_
 refine C_region rfl ?_
 refine W_c rfl rfl rfl rfl (fun _=>rfl) ?_
 refine W_r rfl rfl rfl (zah rfl rfl zdr) ?_
 refine zbk ?_
 refine zcl ?_
 refine zhj rfl (fun hc=>absurd (of_decide_eq_true hc) (by omega)) (fun _=>?_)
 refine zeu ?_
 refine zcl ?_
 refine zay ?_
 refine C_region rfl ?_
 refine W_c rfl rfl rfl rfl (fun _=>rfl) ?_
 refine W_r rfl rfl rfl (zbw Tryz.underlying35 rfl (hS.dpLn (k:=1) rfl)) ?_
 refine W_c rfl rfl rfl rfl (fun _=>rfl) ?_
 refine zbk ?_
 refine zcl ?_
 refine zay ?_
 refine zay ?_
 refine C_region rfl ?_
 refine W_c rfl rfl rfl rfl (fun _=>rfl) ?_
 refine W_c rfl rfl rfl rfl (fun _=>rfl) ?_
 refine W_r rfl rfl rfl (zah rfl rfl zdr) ?_
 refine zbk ?_
 refine zcl ?_
 refine zhj rfl (fun _=>?_) (fun hc=>absurd rfl (of_decide_eq_false hc))
 refine zay ?_
 refine C_region rfl ?_
 refine W_c rfl rfl rfl rfl (fun _=>rfl) ?_
 refine W_c rfl rfl rfl rfl (fun _=>rfl) ?_
 refine W_x rfl rfl rfl (E_appD (t:=t) Tryz.underlying35 (by rw [hts]; exact Ty.row60) (by kernel_rfl) rfl rfl hS hz) ?_
 rintro u w' ⟨bs',hT⟩
 refine Nxt.now ?_
 refine W_c rfl rfl rfl rfl (fun _=>rfl) ?_
 refine zbk ?_
 refine zcl ?_
 refine C_ret rfl rfl ?_
 exact ⟨bs',hT⟩
theorem insChunk_ok {F:Frz} {w:Hp} {X:List Nat} {bs bs2:List Nat} {v v2:Val} {i:Int} {xs ys r:List Chunk} (hS:St X w F F [.dp Chunk.o bs v xs,.dp Chunk.o bs2 v2 ys] w) (H:insD xs i ys = some r) :
  Ret Tryz.prog KK 86 [v,.i .i64 i,v2] w fun u w'=>∃ bs',St X w F F [.dp Chunk.o bs' u r] w' :=
 ins_dp (z:=35) rfl (by decide) (fun hS hy hz=>insEChunk rfl hS hy hz) (insKChunk kk_lap) (insKChunk fun _ _ _ _ q=>q) (zwx) hS H
set_option maxRecDepth 100000 in
theorem insKSnap {K:Tb} (hL:∀ f args h M,KLap Tryz.prog f args h M → K f args h M) {h:Hp} {b n m i vb y:Nat} {ck:Cap} {c d:List Val} (hW:Wf h) (hb:b < h.next) (hg:h.get b = some (.cells 4 c)) (hv:h.get vb = some (.cells 4 d)) (hne:vb ≠ b) (hi:i < n) (hnm:n ≤ m) (hcm:c.length = m * 4) (hy:0 < y) (hyd:y * 4 ≤ d.length) (hc1:c.all Val.one = true) (hd1:d.all Val.one = true) (hbig:n + y ≤ 2 ^ 30) (hvb:vb < h.next) :
  Ret Tryz.prog K 91 [.sl (some (b,0)) n (.k m),.i .i64 (i:Int),.sl (some (vb,0)) y ck] h (InsR 4 h b i n y c d):=by
 have hyd':d.drop 0 = d:=List.drop_zero
 have hge:h.get h.next = none:=hW _ (Nat.le_refl _)
 refine zqs (args:=[.sl (some (b,0)) n (.k m),.i .i64 (i:Int),.sl (some (vb,0)) y ck]) Tryz.func91 rfl (by decide) rfl ?_
 change C _ _ _ _ _ [(0,.sl (some (b,0)) n (.k m)),(1,.i .i64 (i:Int)),(2,.sl (some (vb,0)) y ck)] _
 refine zay ?_
 refine C_region rfl ?_
 refine W_c rfl rfl rfl rfl (fun _=>rfl) ?_
 refine zbk ?_
 refine zcl ?_
 refine zay ?_
 refine C_region rfl ?_
 refine W_c rfl rfl rfl rfl (fun _=>rfl) ?_
 refine W_c rfl rfl rfl rfl (fun _=>rfl) ?_
 refine W_c rfl rfl rfl rfl (zkj i n Tryz.underlying34 Ty.zcs rfl (.inr ⟨_,_,rfl,rfl⟩) (.inl ⟨rfl,rfl⟩) (Nat.le_of_lt hi) hnm (Nat.lt_of_lt_of_le hi hnm)) ?_
 refine zbk ?_
 refine zcl ?_
 refine zay ?_
 refine C_region rfl ?_
 refine W_c rfl rfl rfl rfl (fun _=>rfl) ?_
 refine W_r rfl rfl rfl (zbw Tryz.underlying34 rfl (.inr ⟨_,_,rfl,fun q=>by cases q⟩)) ?_
 refine W_c rfl rfl rfl rfl (fun _=>rfl) ?_
 refine zbk ?_
 refine zcl ?_
 refine zay ?_
 refine zay ?_
 refine C_region rfl ?_
 refine W_c rfl rfl rfl rfl (fun _=>rfl) ?_
 refine W_r rfl rfl rfl (zah rfl rfl zdr) ?_
 refine zbk ?_
 refine zcl ?_
 refine zhj rfl (fun hc=>absurd (of_decide_eq_true hc) (by omega)) (fun _=>?_)
 refine zeu ?_
 refine zcl ?_
 refine zay ?_
 refine C_region rfl ?_
 refine W_c rfl rfl rfl rfl (fun _=>rfl) ?_
 refine W_r rfl rfl rfl (zbw Tryz.underlying34 rfl (.inr ⟨_,_,rfl,fun q=>by cases q⟩)) ?_
 refine W_c rfl rfl rfl rfl (fun _=>rfl) ?_
 refine zbk ?_
 refine zcl ?_
 refine zay ?_
 refine zay ?_
 refine C_region rfl ?_
 refine W_c rfl rfl rfl rfl (fun _=>rfl) ?_
 refine W_c rfl rfl rfl rfl (fun _=>rfl) ?_
 refine W_r rfl rfl rfl (zah rfl rfl zdr) ?_
 refine zbk ?_
 refine zcl ?_
 refine zhj rfl (fun hc=>absurd (of_decide_eq_true hc) (by omega)) (fun _=>?_)
 refine zeu ?_
 refine zcl ?_
 refine zay ?_
 refine zay ?_
 refine C_region rfl ?_
 refine W_c rfl rfl rfl rfl (fun _=>rfl) ?_
 refine W_c rfl rfl rfl rfl (fun _=>rfl) ?_
 refine W_r rfl rfl rfl (zah rfl rfl (zhc (a:=n) (b:=y) (by omega))) ?_
 refine W_c rfl rfl rfl rfl (fun _=>rfl) ?_
 refine W_c (v:=.i .i64 (m:Int)) rfl rfl rfl rfl (fun h=>by simp only [opAt,List.getD_cons_succ,List.getD_cons_zero,opL,evLL,List.mapM_cons,List.mapM_nil,evLO,look]; rfl) ?_
 refine W_r rfl rfl rfl (zah rfl rfl zgc) ?_
 refine zbk ?_
 refine zcl ?_
 refine zhj rfl (fun hc=>?_) (fun hc=>?_)
 ·have hroom:m < n + y:=by have:=of_decide_eq_true hc; omega
  refine zay ?_
  refine C_region rfl ?_
  refine W_c rfl rfl rfl rfl (fun _=>rfl) ?_
  refine W_c rfl rfl rfl rfl (fun _=>rfl) ?_
  refine W_c rfl rfl rfl rfl (zkj 0 i Tryz.underlying34 Ty.zcs rfl (.inl ⟨rfl,rfl⟩) (.inr ⟨_,_,rfl,rfl⟩) (Nat.zero_le _) (by omega) (by omega)) ?_
  refine W_c rfl rfl rfl rfl (fun _=>rfl) ?_
  refine W_c rfl rfl rfl rfl (fun _=>rfl) ?_
  refine W_r rfl rfl rfl (zah rfl rfl (zhc (a:=n) (b:=y) (by omega))) ?_
  refine W_c rfl rfl rfl rfl (fun _=>rfl) ?_
  refine W_r rfl rfl rfl (zah rfl rfl (bI_subN (a:=n + y) (b:=i) (by omega) (by omega))) ?_
  refine W_x rfl rfl rfl (E_apK (N:=n + y - i) (c:=c) Tryz.underlying34 Ty.row46 (by kernel_rfl) rfl rfl (by omega) (by omega) (by omega) (by omega) hg (by rw [hcm]; simp only [Nat.zero_mul,Nat.add_zero,Nat.zero_add,Nat.sub_zero]; exact Nat.mul_le_mul_right _ (by omega)) hc1) ?_
  rintro _ _ ⟨rfl,zs,hzs,hz1,rfl⟩
  refine Nxt.now ?_
  refine W_c rfl rfl rfl rfl (fun _=>rfl) ?_
  refine zbk ?_
  simp only [Nat.zero_mul,Nat.add_zero,Nat.sub_zero]
  have hin:i + (n + y - i) = n + y:=by omega
  rw [hin]
  have g0:∀ B q,q < h.next → (h.new B).get q = h.get q:=fun B q hq=>by rw [Hp.get_new,if_neg (by omega)]
  have h1g:(h.new (.cells 4 ((c.drop 0).take (i * 4) ++ zs))).get h.next = some (.cells 4 ((c.drop 0).take (i * 4) ++ zs)):=by rw [Hp.get_new,if_pos rfl]
  have e1:(i + y) * 4 = i * 4 + y * 4:=Nat.add_mul _ _ _
  have e2:(n - i) * 4 = n * 4 - i * 4:=Nat.sub_mul _ _ _
  have e3:(n + y) * 4 = n * 4 + y * 4:=Nat.add_mul _ _ _
  have e4:i * 4 ≤ n * 4:=Nat.mul_le_mul_right _ (Nat.le_of_lt hi)
  have e5:n * 4 ≤ m * 4:=Nat.mul_le_mul_right _ hnm
  have e6:(n + y - i) * 4 = n * 4 + y * 4 - i * 4:=by rw [Nat.sub_mul,Nat.add_mul]
  have lD:((d.drop 0).take (y * 4)).length = y * 4:=by rw [List.length_take,List.length_drop]; omega
  have lB:((c.drop 0).take (i * 4) ++ zs).length = (n + y) * 4:=by rw [List.length_append,List.length_take,List.length_drop]; omega
  have o1:((c.drop 0).take (i * 4) ++ zs).all Val.one = true:=by rw [List.all_append,zgv hc1,hz1]; rfl
  refine zcl ?_
  refine zay ?_
  refine C_region rfl ?_
  refine W_c rfl rfl rfl rfl (fun _=>rfl) ?_
  refine W_c rfl rfl rfl rfl (fun _=>rfl) ?_
  refine W_c rfl rfl rfl rfl (O_slO i (n + y) Tryz.underlying34 Ty.zcs rfl (.inr ⟨_,_,rfl,rfl⟩) (.inl ⟨rfl,rfl⟩) (by omega) (Nat.le_refl _) (by omega)) ?_
  refine W_c rfl rfl rfl rfl (fun _=>rfl) ?_
  refine W_x rfl rfl rfl (E_cp (m:=y) Tryz.underlying34 Ty.zcs rfl rfl (by omega) h1g ((g0 _ _ hvb).trans hv) (by rw [Nat.zero_add]; exact hyd) (by rw [lB]; omega) hd1 hy) ?_
  rintro _ _ rfl
  refine Nxt.now ?_
  refine zbk ?_
  rw [Nat.zero_add]
  have hl1:=zdd (c:=(c.drop 0).take (i * 4) ++ zs) (o:=i * 4) (vs:=(d.drop 0).take (y * 4)) (by rw [lD,lB]; omega)
  refine zcl ?_
  refine zay ?_
  refine zba (G:=fun _ _=>none) [0,1,2,3,4,5,6,7,8] rfl Ty.mixed (by kernel_rfl) (fun _ _ _ q=>by cases q) ?_
  refine W_c rfl rfl rfl rfl (fun _=>rfl) ?_
  refine W_c rfl rfl rfl rfl (fun _=>rfl) ?_
  refine W_c rfl rfl rfl rfl (fun _=>rfl) ?_
  refine W_r rfl rfl rfl (zah rfl rfl (zhc (a:=i) (b:=y) (by omega))) ?_
  refine W_c rfl rfl rfl rfl (O_slO (i + y) (n + y) Tryz.underlying34 Ty.zcs rfl (.inr ⟨_,_,rfl,rfl⟩) (.inl ⟨rfl,rfl⟩) (by omega) (Nat.le_refl _) (by omega)) ?_
  refine W_c rfl rfl rfl rfl (fun _=>rfl) ?_
  refine W_c rfl rfl rfl rfl (fun _=>rfl) ?_
  refine W_c rfl rfl rfl rfl (zkj i n Tryz.underlying34 Ty.zcs rfl (.inr ⟨_,_,rfl,rfl⟩) (.inl ⟨rfl,rfl⟩) (by omega) (by omega) (by omega)) ?_
  refine W_x rfl rfl rfl (E_cp (m:=n - i) Tryz.underlying34 Ty.zcs rfl rfl (by omega) (by rw [Hp.get_set,if_pos rfl]) (by rw [Hp.get_set,if_neg (by omega)]; exact (g0 _ _ hb).trans hg) (by rw [Nat.zero_add]; omega) (by rw [hl1,lB,Nat.zero_add]; omega) hc1 (by omega)) ?_
  rintro _ _ rfl
  refine Nxt.frz (Frz.le.refl _) (fun _ _ _ q=>by cases q) ?_
  refine zbk ?_
  refine zcl ?_
  refine zay ?_
  refine C_region rfl ?_
  refine W_c rfl rfl rfl rfl (fun _=>rfl) ?_
  refine W_c rfl rfl rfl rfl (fun _=>rfl) ?_
  refine zbk ?_
  refine zcl ?_
  refine C_ret rfl rfl ?_
  simp only [Nat.zero_add]
  obtain ⟨k1,k2⟩:=ins_new (z:=4) hi hnm hcm hyd hzs
  refine ⟨h.next,none,_,rfl,by rw [Hp.get_set,if_pos rfl],by rw [List.take_of_length_le (by rw [k2]; omega)]; exact k1,fun _=>by rw [k2]; exact Nat.le_refl _,fun q e=>(by cases e),zih (zih o1 (zgv hd1)) (zgv hc1),Nat.lt_succ_self _,Nat.le_succ _,fun q hq=>?_,fun q hq _=>?_,.inr (Nat.le_refl _)⟩
  ·have hq':h.next + 1 ≤ q:=hq
   rw [Hp.get_set,if_neg (by omega),Hp.get_set,if_neg (by omega),Hp.get_new,if_neg (by omega)]
   exact hW _ (by omega)
  ·rw [Hp.get_set,if_neg (by omega),Hp.get_set,if_neg (by omega)]
   exact g0 _ _ hq
 ·have hroom:n + y ≤ m:=by have:=of_decide_eq_false hc; omega
  have e1:(i + y) * 4 = i * 4 + y * 4:=Nat.add_mul _ _ _
  have e2:(n - i) * 4 = n * 4 - i * 4:=Nat.sub_mul _ _ _
  have e3:(n + y) * 4 = n * 4 + y * 4:=Nat.add_mul _ _ _
  have e4:i * 4 ≤ n * 4:=Nat.mul_le_mul_right _ (Nat.le_of_lt hi)
  have e5:(n + y) * 4 ≤ m * 4:=Nat.mul_le_mul_right _ hroom
  have e7:n + y - (i + y) = n - i:=by omega
  refine zeu ?_
  refine zcl ?_
  refine zay ?_
  refine C_region rfl ?_
  refine W_c rfl rfl rfl rfl (fun _=>rfl) ?_
  refine W_c rfl rfl rfl rfl (fun _=>rfl) ?_
  refine W_c rfl rfl rfl rfl (fun _=>rfl) ?_
  refine W_r rfl rfl rfl (zah rfl rfl (zhc (a:=n) (b:=y) (by omega))) ?_
  refine W_c rfl rfl rfl rfl (zkj 0 (n + y) Tryz.underlying34 Ty.zcs rfl (.inl ⟨rfl,rfl⟩) (.inr ⟨_,_,rfl,rfl⟩) (Nat.zero_le _) (by omega) (by omega)) ?_
  refine W_c rfl rfl rfl rfl (fun _=>rfl) ?_
  refine zbk ?_
  simp only [Nat.zero_mul,Nat.add_zero,Nat.sub_zero]
  refine zcl ?_
  refine zay ?_
  refine zay ?_
  refine C_region rfl ?_
  refine W_c rfl rfl rfl rfl (fun _=>rfl) ?_
  refine W_c rfl rfl rfl rfl (fun _=>rfl) ?_
  refine W_c rfl rfl rfl rfl (fun _=>rfl) ?_
  refine W_c rfl rfl rfl rfl (fun _=>rfl) ?_
  refine W_r rfl rfl rfl (zah rfl rfl (zhc (a:=i) (b:=y) (by omega))) ?_
  refine W_c rfl rfl rfl rfl (zkj (i + y) (n + y) Tryz.underlying34 Ty.zcs rfl (.inr ⟨_,_,rfl,rfl⟩) (.inl ⟨rfl,rfl⟩) (by omega) (by omega) (by omega)) ?_
  refine W_call (f:=141) (args:=[.sl (some (vb,0)) y ck,.sl (some (b,0 + (i + y) * 4)) (n + y - (i + y)) (.k (m - (i + y)))]) rfl rfl rfl rfl (XW.known (M:=fun v w'=>v = .b false ∧ w' = h) (hL _ _ _ _ ⟨_,_,4,_,_,_,_,_,_,_,_,_,_,_,_,_,_,Tryz.func141,rfl,rfl,rfl,by kernel_rfl,Tryz.underlying34,Ty.zcs,rfl,hne,hv,by decide,by omega,hg,by omega,rfl,rfl⟩) fun v h' q=>⟨v,h',rfl,q⟩) ?_
  rintro _ w1 ⟨rfl,hw1⟩
  obtain rfl:h = w1:=hw1.symm
  refine Nxt.now ?_
  refine W_c rfl rfl rfl rfl (fun _=>rfl) ?_
  refine zbk ?_
  refine zcl ?_
  refine zxw rfl ?_
  refine zay ?_
  refine zba (G:=fun _ _=>none) [0,1,2,3,4,5,6,7,8] rfl Ty.mixed (by kernel_rfl) (fun _ _ _ q=>by cases q) ?_
  refine W_c rfl rfl rfl rfl (fun _=>rfl) ?_
  refine W_c rfl rfl rfl rfl (fun _=>rfl) ?_
  refine W_c rfl rfl rfl rfl (fun _=>rfl) ?_
  refine W_r rfl rfl rfl (zah rfl rfl (zhc (a:=i) (b:=y) (by omega))) ?_
  refine W_c rfl rfl rfl rfl (zkj (i + y) (n + y) Tryz.underlying34 Ty.zcs rfl (.inr ⟨_,_,rfl,rfl⟩) (.inl ⟨rfl,rfl⟩) (by omega) (by omega) (by omega)) ?_
  refine W_c rfl rfl rfl rfl (fun _=>rfl) ?_
  refine W_c rfl rfl rfl rfl (fun _=>rfl) ?_
  refine W_c rfl rfl rfl rfl (zkj i (n + y) Tryz.underlying34 Ty.zcs rfl (.inr ⟨_,_,rfl,rfl⟩) (.inl ⟨rfl,rfl⟩) (by omega) (by omega) (by omega)) ?_
  refine W_x rfl rfl rfl (E_cp (m:=n - i) Tryz.underlying34 Ty.zcs rfl rfl (by omega) hg hg (by rw [Nat.zero_add]; omega) (by rw [Nat.zero_add]; omega) hc1 (by omega)) ?_
  rintro _ _ rfl
  refine Nxt.frz (Frz.le.refl _) (fun _ _ _ q=>by cases q) ?_
  refine zbk ?_
  simp only [Nat.zero_add]
  have lA:((c.drop (i * 4)).take ((n - i) * 4)).length = (n - i) * 4:=by rw [List.length_take,List.length_drop]; omega
  have hl1:=zdd (c:=c) (o:=(i + y) * 4) (vs:=(c.drop (i * 4)).take ((n - i) * 4)) (by rw [lA]; omega)
  refine zcl ?_
  refine zay ?_
  refine C_region rfl ?_
  refine W_c rfl rfl rfl rfl (fun _=>rfl) ?_
  refine W_c rfl rfl rfl rfl (fun _=>rfl) ?_
  refine W_c rfl rfl rfl rfl (zkj i (n + y) Tryz.underlying34 Ty.zcs rfl (.inr ⟨_,_,rfl,rfl⟩) (.inl ⟨rfl,rfl⟩) (by omega) (by omega) (by omega)) ?_
  refine W_c rfl rfl rfl rfl (fun _=>rfl) ?_
  refine W_x rfl rfl rfl (E_cp (m:=y) Tryz.underlying34 Ty.zcs rfl rfl (by omega) (by rw [Hp.get_set,if_pos rfl]) (by rw [Hp.get_set,if_neg hne]; exact hv) (by rw [Nat.zero_add]; exact hyd) (by rw [hl1,Nat.zero_add]; omega) hd1 hy) ?_
  rintro _ _ rfl
  refine Nxt.now ?_
  refine zbk ?_
  refine zcl ?_
  refine zay ?_
  refine C_region rfl ?_
  refine W_c rfl rfl rfl rfl (fun _=>rfl) ?_
  refine W_c rfl rfl rfl rfl (fun _=>rfl) ?_
  refine zbk ?_
  refine zcl ?_
  refine C_ret rfl rfl ?_
  simp only [Nat.zero_add]
  obtain ⟨k1,k2⟩:=ins_in (z:=4) hi hroom hcm hyd
  refine ⟨b,some m,_,rfl,by rw [Hp.get_set,if_pos rfl],k1,fun e=>(by cases e),fun q e=>(by obtain rfl:=Option.some.inj e; exact ⟨k2,hroom⟩),zih (zih hc1 (zgv hc1)) (zgv hd1),hb,Nat.le_refl _,fun q hq=>?_,fun q hq hqb=>?_,.inl rfl⟩
  ·have hq':h.next ≤ q:=hq
   rw [Hp.get_set,if_neg (by omega),Hp.get_set,if_neg (by omega)]
   exact hW _ hq'
  ·rw [Hp.get_set,if_neg hqb,Hp.get_set,if_neg hqb]
set_option maxRecDepth 100000 in
theorem insESnap {K:Tb} {t:To Snap} {X:List Nat} {h0 h:Hp} {F0 F:Frz} {L:List Ob} {bs bs2:List Nat} {v v2:Val} {xs ys zs:List Snap} (hts:t.size = 4) (hS:St X h0 F0 F (.dp t bs2 v2 ys :: .dp t bs v xs :: L) h) (hy:0 < ys.length) (hz:app xs ys = some zs) :
  Ret Tryz.prog K 91 [v,.i .i64 (xs.length:Int),v2] h (fun u h'=>∃ bs',St X h0 F0 F (.dp t bs' u zs :: L) h'):=by
 have hfew:=(zov hz).1
 refine zqs (args:=[v,.i .i64 (xs.length:Int),v2]) Tryz.func91 rfl (by decide) rfl ?_
 change C _ _ _ _ _ [(0,v),(1,.i .i64 (xs.length:Int)),(2,v2)] _
 refine zay ?_
 refine C_region rfl ?_
 refine W_c rfl rfl rfl rfl (fun _=>rfl) ?_
 refine zbk ?_
 refine zcl ?_
 refine zay ?_
 refine C_region rfl ?_
 refine W_c rfl rfl rfl rfl (fun _=>rfl) ?_
 refine W_c rfl rfl rfl rfl (fun _=>rfl) ?_
 refine W_cutD (t:=t) 1 (xs.length:Int) (xs.length:Int) rfl rfl rfl rfl Tryz.underlying34 (by rw [hts]; exact Ty.zcs) rfl (.inr ⟨_,_,rfl,rfl⟩) (.inl ⟨rfl,rfl⟩) hS rfl (by omega) (by omega) (by omega) ?_
 intro v'
 refine zbk ?_
 refine zcl ?_
 refine zay ?_
 refine C_region rfl ?_
 refine W_c rfl rfl rfl rfl (fun _=>rfl) ?_
 refine W_r rfl rfl rfl (zbw Tryz.underlying34 rfl (hS.dpLn (k:=0) rfl)) ?_
 refine W_c rfl rfl rfl rfl (fun _=>rfl) ?_
 refine zbk ?_
 refine zcl ?_
 refine zay ?_
 refine zay ?_
 refine C_region rfl ?_
 refine W_c rfl rfl rfl rfl (fun _=>rfl) ?_
 refine W_r rfl rfl rfl (zah rfl rfl zdr) ?_
 refine zbk ?_
 refine zcl ?_
 refine zhj rfl (fun hc=>absurd (of_decide_eq_true hc) (by omega)) (fun _=>?_)
 refine zeu ?_
 refine zcl ?_
 refine zay ?_
 refine C_region rfl ?_
 refine W_c rfl rfl rfl rfl (fun _=>rfl) ?_
 refine W_r rfl rfl rfl (zbw Tryz.underlying34 rfl (hS.dpLn (k:=1) rfl)) ?_
 refine W_c rfl rfl rfl rfl (fun _=>rfl) ?_
 refine zbk ?_
 refine zcl ?_
 refine zay ?_
 refine zay ?_
 refine C_region rfl ?_
 refine W_c rfl rfl rfl rfl (fun _=>rfl) ?_
 refine W_c rfl rfl rfl rfl (fun _=>rfl) ?_
 refine W_r rfl rfl rfl (zah rfl rfl zdr) ?_
 refine zbk ?_
 refine zcl ?_
 refine zhj rfl (fun _=>?_) (fun hc=>absurd rfl (of_decide_eq_false hc))
 refine zay ?_
 refine C_region rfl ?_
 refine W_c rfl rfl rfl rfl (fun _=>rfl) ?_
 refine W_c rfl rfl rfl rfl (fun _=>rfl) ?_
 refine W_x rfl rfl rfl (E_appD (t:=t) Tryz.underlying34 (by rw [hts]; exact Ty.row46) (by kernel_rfl) rfl rfl hS hz) ?_
 rintro u w' ⟨bs',hT⟩
 refine Nxt.now ?_
 refine W_c rfl rfl rfl rfl (fun _=>rfl) ?_
 refine zbk ?_
 refine zcl ?_
 refine C_ret rfl rfl ?_
 exact ⟨bs',hT⟩
theorem insSnap_ok {F:Frz} {w:Hp} {X:List Nat} {bs bs2:List Nat} {v v2:Val} {i:Int} {xs ys r:List Snap} (hS:St X w F F [.dp Snap.o bs v xs,.dp Snap.o bs2 v2 ys] w) (H:insD xs i ys = some r) :
  Ret Tryz.prog KK 91 [v,.i .i64 i,v2] w fun u w'=>∃ bs',St X w F F [.dp Snap.o bs' u r] w' :=
 ins_dp (z:=4) rfl (by decide) (fun hS hy hz=>insESnap rfl hS hy hz) (insKSnap kk_lap) (insKSnap fun _ _ _ _ q=>q) (kk_closeSnap) hS H
set_option maxRecDepth 100000 in
theorem insKExp {K:Tb} (hL:∀ f args h M,KLap Tryz.prog f args h M → K f args h M) {h:Hp} {b n m i vb y:Nat} {ck:Cap} {c d:List Val} (hW:Wf h) (hb:b < h.next) (hg:h.get b = some (.cells 3 c)) (hv:h.get vb = some (.cells 3 d)) (hne:vb ≠ b) (hi:i < n) (hnm:n ≤ m) (hcm:c.length = m * 3) (hy:0 < y) (hyd:y * 3 ≤ d.length) (hc1:c.all Val.one = true) (hd1:d.all Val.one = true) (hbig:n + y ≤ 2 ^ 30) (hvb:vb < h.next) :
  Ret Tryz.prog K 95 [.sl (some (b,0)) n (.k m),.i .i64 (i:Int),.sl (some (vb,0)) y ck] h (InsR 3 h b i n y c d):=by
 have hyd':d.drop 0 = d:=List.drop_zero
 have hge:h.get h.next = none:=hW _ (Nat.le_refl _)
 refine zqs (args:=[.sl (some (b,0)) n (.k m),.i .i64 (i:Int),.sl (some (vb,0)) y ck]) Tryz.func95 rfl (by decide) rfl ?_
 change C _ _ _ _ _ [(0,.sl (some (b,0)) n (.k m)),(1,.i .i64 (i:Int)),(2,.sl (some (vb,0)) y ck)] _
 refine zay ?_
 refine C_region rfl ?_
 refine W_c rfl rfl rfl rfl (fun _=>rfl) ?_
 refine zbk ?_
 refine zcl ?_
 refine zay ?_
 refine C_region rfl ?_
 refine W_c rfl rfl rfl rfl (fun _=>rfl) ?_
 refine W_c rfl rfl rfl rfl (fun _=>rfl) ?_
 refine W_c rfl rfl rfl rfl (zkj i n Tryz.underlying36 Ty.zfm rfl (.inr ⟨_,_,rfl,rfl⟩) (.inl ⟨rfl,rfl⟩) (Nat.le_of_lt hi) hnm (Nat.lt_of_lt_of_le hi hnm)) ?_
 refine zbk ?_
 refine zcl ?_
 refine zay ?_
 refine C_region rfl ?_
 refine W_c rfl rfl rfl rfl (fun _=>rfl) ?_
 refine W_r rfl rfl rfl (zbw Tryz.underlying36 rfl (.inr ⟨_,_,rfl,fun q=>by cases q⟩)) ?_
 refine W_c rfl rfl rfl rfl (fun _=>rfl) ?_
 refine zbk ?_
 refine zcl ?_
 refine zay ?_
 refine zay ?_
 refine C_region rfl ?_
 refine W_c rfl rfl rfl rfl (fun _=>rfl) ?_
 refine W_r rfl rfl rfl (zah rfl rfl zdr) ?_
 refine zbk ?_
 refine zcl ?_
 refine zhj rfl (fun hc=>absurd (of_decide_eq_true hc) (by omega)) (fun _=>?_)
 refine zeu ?_
 refine zcl ?_
 refine zay ?_
 refine C_region rfl ?_
 refine W_c rfl rfl rfl rfl (fun _=>rfl) ?_
 refine W_r rfl rfl rfl (zbw Tryz.underlying36 rfl (.inr ⟨_,_,rfl,fun q=>by cases q⟩)) ?_
 refine W_c rfl rfl rfl rfl (fun _=>rfl) ?_
 refine zbk ?_
 refine zcl ?_
 refine zay ?_
 refine zay ?_
 refine C_region rfl ?_
 refine W_c rfl rfl rfl rfl (fun _=>rfl) ?_
 refine W_c rfl rfl rfl rfl (fun _=>rfl) ?_
 refine W_r rfl rfl rfl (zah rfl rfl zdr) ?_
 refine zbk ?_
 refine zcl ?_
 refine zhj rfl (fun hc=>absurd (of_decide_eq_true hc) (by omega)) (fun _=>?_)
 refine zeu ?_
 refine zcl ?_
 refine zay ?_
 refine zay ?_
 refine C_region rfl ?_
 refine W_c rfl rfl rfl rfl (fun _=>rfl) ?_
 refine W_c rfl rfl rfl rfl (fun _=>rfl) ?_
 refine W_r rfl rfl rfl (zah rfl rfl (zhc (a:=n) (b:=y) (by omega))) ?_
 refine W_c rfl rfl rfl rfl (fun _=>rfl) ?_
 refine W_c (v:=.i .i64 (m:Int)) rfl rfl rfl rfl (fun h=>by simp only [opAt,List.getD_cons_succ,List.getD_cons_zero,opL,evLL,List.mapM_cons,List.mapM_nil,evLO,look]; rfl) ?_
 refine W_r rfl rfl rfl (zah rfl rfl zgc) ?_
 refine zbk ?_
 refine zcl ?_
 refine zhj rfl (fun hc=>?_) (fun hc=>?_)
 ·have hroom:m < n + y:=by have:=of_decide_eq_true hc; omega
  refine zay ?_
  refine C_region rfl ?_
  refine W_c rfl rfl rfl rfl (fun _=>rfl) ?_
  refine W_c rfl rfl rfl rfl (fun _=>rfl) ?_
  refine W_c rfl rfl rfl rfl (zkj 0 i Tryz.underlying36 Ty.zfm rfl (.inl ⟨rfl,rfl⟩) (.inr ⟨_,_,rfl,rfl⟩) (Nat.zero_le _) (by omega) (by omega)) ?_
  refine W_c rfl rfl rfl rfl (fun _=>rfl) ?_
  refine W_c rfl rfl rfl rfl (fun _=>rfl) ?_
  refine W_r rfl rfl rfl (zah rfl rfl (zhc (a:=n) (b:=y) (by omega))) ?_
  refine W_c rfl rfl rfl rfl (fun _=>rfl) ?_
  refine W_r rfl rfl rfl (zah rfl rfl (bI_subN (a:=n + y) (b:=i) (by omega) (by omega))) ?_
  refine W_x rfl rfl rfl (E_apK (N:=n + y - i) (c:=c) Tryz.underlying36 Ty.row55 (by kernel_rfl) rfl rfl (by omega) (by omega) (by omega) (by omega) hg (by rw [hcm]; simp only [Nat.zero_mul,Nat.add_zero,Nat.zero_add,Nat.sub_zero]; exact Nat.mul_le_mul_right _ (by omega)) hc1) ?_
  rintro _ _ ⟨rfl,zs,hzs,hz1,rfl⟩
  refine Nxt.now ?_
  refine W_c rfl rfl rfl rfl (fun _=>rfl) ?_
  refine zbk ?_
  simp only [Nat.zero_mul,Nat.add_zero,Nat.sub_zero]
  have hin:i + (n + y - i) = n + y:=by omega
  rw [hin]
  have g0:∀ B q,q < h.next → (h.new B).get q = h.get q:=fun B q hq=>by rw [Hp.get_new,if_neg (by omega)]
  have h1g:(h.new (.cells 3 ((c.drop 0).take (i * 3) ++ zs))).get h.next = some (.cells 3 ((c.drop 0).take (i * 3) ++ zs)):=by rw [Hp.get_new,if_pos rfl]
  have e1:(i + y) * 3 = i * 3 + y * 3:=Nat.add_mul _ _ _
  have e2:(n - i) * 3 = n * 3 - i * 3:=Nat.sub_mul _ _ _
  have e3:(n + y) * 3 = n * 3 + y * 3:=Nat.add_mul _ _ _
  have e4:i * 3 ≤ n * 3:=Nat.mul_le_mul_right _ (Nat.le_of_lt hi)
  have e5:n * 3 ≤ m * 3:=Nat.mul_le_mul_right _ hnm
  have e6:(n + y - i) * 3 = n * 3 + y * 3 - i * 3:=by rw [Nat.sub_mul,Nat.add_mul]
  have lD:((d.drop 0).take (y * 3)).length = y * 3:=by rw [List.length_take,List.length_drop]; omega
  have lB:((c.drop 0).take (i * 3) ++ zs).length = (n + y) * 3:=by rw [List.length_append,List.length_take,List.length_drop]; omega
  have o1:((c.drop 0).take (i * 3) ++ zs).all Val.one = true:=by rw [List.all_append,zgv hc1,hz1]; rfl
  refine zcl ?_
  refine zay ?_
  refine C_region rfl ?_
  refine W_c rfl rfl rfl rfl (fun _=>rfl) ?_
  refine W_c rfl rfl rfl rfl (fun _=>rfl) ?_
  refine W_c rfl rfl rfl rfl (O_slO i (n + y) Tryz.underlying36 Ty.zfm rfl (.inr ⟨_,_,rfl,rfl⟩) (.inl ⟨rfl,rfl⟩) (by omega) (Nat.le_refl _) (by omega)) ?_
  refine W_c rfl rfl rfl rfl (fun _=>rfl) ?_
  refine W_x rfl rfl rfl (E_cp (m:=y) Tryz.underlying36 Ty.zfm rfl rfl (by omega) h1g ((g0 _ _ hvb).trans hv) (by rw [Nat.zero_add]; exact hyd) (by rw [lB]; omega) hd1 hy) ?_
  rintro _ _ rfl
  refine Nxt.now ?_
  refine zbk ?_
  rw [Nat.zero_add]
  have hl1:=zdd (c:=(c.drop 0).take (i * 3) ++ zs) (o:=i * 3) (vs:=(d.drop 0).take (y * 3)) (by rw [lD,lB]; omega)
  refine zcl ?_
  refine zay ?_
  refine zba (G:=fun _ _=>none) [0,1,2,3,4,5,6,7,8] rfl Ty.mixed (by kernel_rfl) (fun _ _ _ q=>by cases q) ?_
  refine W_c rfl rfl rfl rfl (fun _=>rfl) ?_
  refine W_c rfl rfl rfl rfl (fun _=>rfl) ?_
  refine W_c rfl rfl rfl rfl (fun _=>rfl) ?_
  refine W_r rfl rfl rfl (zah rfl rfl (zhc (a:=i) (b:=y) (by omega))) ?_
  refine W_c rfl rfl rfl rfl (O_slO (i + y) (n + y) Tryz.underlying36 Ty.zfm rfl (.inr ⟨_,_,rfl,rfl⟩) (.inl ⟨rfl,rfl⟩) (by omega) (Nat.le_refl _) (by omega)) ?_
  refine W_c rfl rfl rfl rfl (fun _=>rfl) ?_
  refine W_c rfl rfl rfl rfl (fun _=>rfl) ?_
  refine W_c rfl rfl rfl rfl (zkj i n Tryz.underlying36 Ty.zfm rfl (.inr ⟨_,_,rfl,rfl⟩) (.inl ⟨rfl,rfl⟩) (by omega) (by omega) (by omega)) ?_
  refine W_x rfl rfl rfl (E_cp (m:=n - i) Tryz.underlying36 Ty.zfm rfl rfl (by omega) (by rw [Hp.get_set,if_pos rfl]) (by rw [Hp.get_set,if_neg (by omega)]; exact (g0 _ _ hb).trans hg) (by rw [Nat.zero_add]; omega) (by rw [hl1,lB,Nat.zero_add]; omega) hc1 (by omega)) ?_
  rintro _ _ rfl
  refine Nxt.frz (Frz.le.refl _) (fun _ _ _ q=>by cases q) ?_
  refine zbk ?_
  refine zcl ?_
  refine zay ?_
  refine C_region rfl ?_
  refine W_c rfl rfl rfl rfl (fun _=>rfl) ?_
  refine W_c rfl rfl rfl rfl (fun _=>rfl) ?_
  refine zbk ?_
  refine zcl ?_
  refine C_ret rfl rfl ?_
  simp only [Nat.zero_add]
  obtain ⟨k1,k2⟩:=ins_new (z:=3) hi hnm hcm hyd hzs
  refine ⟨h.next,none,_,rfl,by rw [Hp.get_set,if_pos rfl],by rw [List.take_of_length_le (by rw [k2]; omega)]; exact k1,fun _=>by rw [k2]; exact Nat.le_refl _,fun q e=>(by cases e),zih (zih o1 (zgv hd1)) (zgv hc1),Nat.lt_succ_self _,Nat.le_succ _,fun q hq=>?_,fun q hq _=>?_,.inr (Nat.le_refl _)⟩
  ·have hq':h.next + 1 ≤ q:=hq
   rw [Hp.get_set,if_neg (by omega),Hp.get_set,if_neg (by omega),Hp.get_new,if_neg (by omega)]
   exact hW _ (by omega)
  ·rw [Hp.get_set,if_neg (by omega),Hp.get_set,if_neg (by omega)]
   exact g0 _ _ hq
 ·have hroom:n + y ≤ m:=by have:=of_decide_eq_false hc; omega
  have e1:(i + y) * 3 = i * 3 + y * 3:=Nat.add_mul _ _ _
  have e2:(n - i) * 3 = n * 3 - i * 3:=Nat.sub_mul _ _ _
  have e3:(n + y) * 3 = n * 3 + y * 3:=Nat.add_mul _ _ _
  have e4:i * 3 ≤ n * 3:=Nat.mul_le_mul_right _ (Nat.le_of_lt hi)
  have e5:(n + y) * 3 ≤ m * 3:=Nat.mul_le_mul_right _ hroom
  have e7:n + y - (i + y) = n - i:=by omega
  refine zeu ?_
  refine zcl ?_
  refine zay ?_
  refine C_region rfl ?_
  refine W_c rfl rfl rfl rfl (fun _=>rfl) ?_
  refine W_c rfl rfl rfl rfl (fun _=>rfl) ?_
  refine W_c rfl rfl rfl rfl (fun _=>rfl) ?_
  refine W_r rfl rfl rfl (zah rfl rfl (zhc (a:=n) (b:=y) (by omega))) ?_
  refine W_c rfl rfl rfl rfl (zkj 0 (n + y) Tryz.underlying36 Ty.zfm rfl (.inl ⟨rfl,rfl⟩) (.inr ⟨_,_,rfl,rfl⟩) (Nat.zero_le _) (by omega) (by omega)) ?_
  refine W_c rfl rfl rfl rfl (fun _=>rfl) ?_
  refine zbk ?_
  simp only [Nat.zero_mul,Nat.add_zero,Nat.sub_zero]
  refine zcl ?_
  refine zay ?_
  refine zay ?_
  refine C_region rfl ?_
  refine W_c rfl rfl rfl rfl (fun _=>rfl) ?_
  refine W_c rfl rfl rfl rfl (fun _=>rfl) ?_
  refine W_c rfl rfl rfl rfl (fun _=>rfl) ?_
  refine W_c rfl rfl rfl rfl (fun _=>rfl) ?_
  refine W_r rfl rfl rfl (zah rfl rfl (zhc (a:=i) (b:=y) (by omega))) ?_
  refine W_c rfl rfl rfl rfl (zkj (i + y) (n + y) Tryz.underlying36 Ty.zfm rfl (.inr ⟨_,_,rfl,rfl⟩) (.inl ⟨rfl,rfl⟩) (by omega) (by omega) (by omega)) ?_
  refine W_call (f:=143) (args:=[.sl (some (vb,0)) y ck,.sl (some (b,0 + (i + y) * 3)) (n + y - (i + y)) (.k (m - (i + y)))]) rfl rfl rfl rfl (XW.known (M:=fun v w'=>v = .b false ∧ w' = h) (hL _ _ _ _ ⟨_,_,4,_,_,_,_,_,_,_,_,_,_,_,_,_,_,Tryz.func143,rfl,rfl,rfl,by kernel_rfl,Tryz.underlying36,Ty.zfm,rfl,hne,hv,by decide,by omega,hg,by omega,rfl,rfl⟩) fun v h' q=>⟨v,h',rfl,q⟩) ?_
  rintro _ w1 ⟨rfl,hw1⟩
  obtain rfl:h = w1:=hw1.symm
  refine Nxt.now ?_
  refine W_c rfl rfl rfl rfl (fun _=>rfl) ?_
  refine zbk ?_
  refine zcl ?_
  refine zxw rfl ?_
  refine zay ?_
  refine zba (G:=fun _ _=>none) [0,1,2,3,4,5,6,7,8] rfl Ty.mixed (by kernel_rfl) (fun _ _ _ q=>by cases q) ?_
  refine W_c rfl rfl rfl rfl (fun _=>rfl) ?_
  refine W_c rfl rfl rfl rfl (fun _=>rfl) ?_
  refine W_c rfl rfl rfl rfl (fun _=>rfl) ?_
  refine W_r rfl rfl rfl (zah rfl rfl (zhc (a:=i) (b:=y) (by omega))) ?_
  refine W_c rfl rfl rfl rfl (zkj (i + y) (n + y) Tryz.underlying36 Ty.zfm rfl (.inr ⟨_,_,rfl,rfl⟩) (.inl ⟨rfl,rfl⟩) (by omega) (by omega) (by omega)) ?_
  refine W_c rfl rfl rfl rfl (fun _=>rfl) ?_
  refine W_c rfl rfl rfl rfl (fun _=>rfl) ?_
  refine W_c rfl rfl rfl rfl (zkj i (n + y) Tryz.underlying36 Ty.zfm rfl (.inr ⟨_,_,rfl,rfl⟩) (.inl ⟨rfl,rfl⟩) (by omega) (by omega) (by omega)) ?_
  refine W_x rfl rfl rfl (E_cp (m:=n - i) Tryz.underlying36 Ty.zfm rfl rfl (by omega) hg hg (by rw [Nat.zero_add]; omega) (by rw [Nat.zero_add]; omega) hc1 (by omega)) ?_
  rintro _ _ rfl
  refine Nxt.frz (Frz.le.refl _) (fun _ _ _ q=>by cases q) ?_
  refine zbk ?_
  simp only [Nat.zero_add]
  have lA:((c.drop (i * 3)).take ((n - i) * 3)).length = (n - i) * 3:=by rw [List.length_take,List.length_drop]; omega
  have hl1:=zdd (c:=c) (o:=(i + y) * 3) (vs:=(c.drop (i * 3)).take ((n - i) * 3)) (by rw [lA]; omega)
  refine zcl ?_
  refine zay ?_
  refine C_region rfl ?_
  refine W_c rfl rfl rfl rfl (fun _=>rfl) ?_
  refine W_c rfl rfl rfl rfl (fun _=>rfl) ?_
  refine W_c rfl rfl rfl rfl (zkj i (n + y) Tryz.underlying36 Ty.zfm rfl (.inr ⟨_,_,rfl,rfl⟩) (.inl ⟨rfl,rfl⟩) (by omega) (by omega) (by omega)) ?_
  refine W_c rfl rfl rfl rfl (fun _=>rfl) ?_
  refine W_x rfl rfl rfl (E_cp (m:=y) Tryz.underlying36 Ty.zfm rfl rfl (by omega) (by rw [Hp.get_set,if_pos rfl]) (by rw [Hp.get_set,if_neg hne]; exact hv) (by rw [Nat.zero_add]; exact hyd) (by rw [hl1,Nat.zero_add]; omega) hd1 hy) ?_
  rintro _ _ rfl
  refine Nxt.now ?_
  refine zbk ?_
  refine zcl ?_
  refine zay ?_
  refine C_region rfl ?_
  refine W_c rfl rfl rfl rfl (fun _=>rfl) ?_
  refine W_c rfl rfl rfl rfl (fun _=>rfl) ?_
  refine zbk ?_
  refine zcl ?_
  refine C_ret rfl rfl ?_
  simp only [Nat.zero_add]
  obtain ⟨k1,k2⟩:=ins_in (z:=3) hi hroom hcm hyd
  refine ⟨b,some m,_,rfl,by rw [Hp.get_set,if_pos rfl],k1,fun e=>(by cases e),fun q e=>(by obtain rfl:=Option.some.inj e; exact ⟨k2,hroom⟩),zih (zih hc1 (zgv hc1)) (zgv hd1),hb,Nat.le_refl _,fun q hq=>?_,fun q hq hqb=>?_,.inl rfl⟩
  ·have hq':h.next ≤ q:=hq
   rw [Hp.get_set,if_neg (by omega),Hp.get_set,if_neg (by omega)]
   exact hW _ hq'
  ·rw [Hp.get_set,if_neg hqb,Hp.get_set,if_neg hqb]
set_option maxRecDepth 100000 in
theorem insEExp {K:Tb} {t:To Exp} {X:List Nat} {h0 h:Hp} {F0 F:Frz} {L:List Ob} {bs bs2:List Nat} {v v2:Val} {xs ys zs:List Exp} (hts:t.size = 3) (hS:St X h0 F0 F (.dp t bs2 v2 ys :: .dp t bs v xs :: L) h) (hy:0 < ys.length) (hz:app xs ys = some zs) :
  Ret Tryz.prog K 95 [v,.i .i64 (xs.length:Int),v2] h (fun u h'=>∃ bs',St X h0 F0 F (.dp t bs' u zs :: L) h'):=by
 have hfew:=(zov hz).1
 refine zqs (args:=[v,.i .i64 (xs.length:Int),v2]) Tryz.func95 rfl (by decide) rfl ?_
 change C _ _ _ _ _ [(0,v),(1,.i .i64 (xs.length:Int)),(2,v2)] _
 refine zay ?_
 refine C_region rfl ?_
 refine W_c rfl rfl rfl rfl (fun _=>rfl) ?_
 refine zbk ?_
 refine zcl ?_
 refine zay ?_
 refine C_region rfl ?_
 refine W_c rfl rfl rfl rfl (fun _=>rfl) ?_
 refine W_c rfl rfl rfl rfl (fun _=>rfl) ?_
 refine W_cutD (t:=t) 1 (xs.length:Int) (xs.length:Int) rfl rfl rfl rfl Tryz.underlying36 (by rw [hts]; exact Ty.zfm) rfl (.inr ⟨_,_,rfl,rfl⟩) (.inl ⟨rfl,rfl⟩) hS rfl (by omega) (by omega) (by omega) ?_
 intro v'
 refine zbk ?_
 refine zcl ?_
 refine zay ?_
 refine C_region rfl ?_
 refine W_c rfl rfl rfl rfl (fun _=>rfl) ?_
 refine W_r rfl rfl rfl (zbw Tryz.underlying36 rfl (hS.dpLn (k:=0) rfl)) ?_
 refine W_c rfl rfl rfl rfl (fun _=>rfl) ?_
 refine zbk ?_
 refine zcl ?_
 refine zay ?_
 refine zay ?_
 refine C_region rfl ?_
 refine W_c rfl rfl rfl rfl (fun _=>rfl) ?_
 refine W_r rfl rfl rfl (zah rfl rfl zdr) ?_
 refine zbk ?_
 refine zcl ?_
 refine zhj rfl (fun hc=>absurd (of_decide_eq_true hc) (by omega)) (fun _=>?_)
 refine zeu ?_
 refine zcl ?_
 refine zay ?_
 refine C_region rfl ?_
 refine W_c rfl rfl rfl rfl (fun _=>rfl) ?_
 refine W_r rfl rfl rfl (zbw Tryz.underlying36 rfl (hS.dpLn (k:=1) rfl)) ?_
 refine W_c rfl rfl rfl rfl (fun _=>rfl) ?_
 refine zbk ?_
 refine zcl ?_
 refine zay ?_
 refine zay ?_
 refine C_region rfl ?_
 refine W_c rfl rfl rfl rfl (fun _=>rfl) ?_
 refine W_c rfl rfl rfl rfl (fun _=>rfl) ?_
 refine W_r rfl rfl rfl (zah rfl rfl zdr) ?_
 refine zbk ?_
 refine zcl ?_
 refine zhj rfl (fun _=>?_) (fun hc=>absurd rfl (of_decide_eq_false hc))
 refine zay ?_
 refine C_region rfl ?_
 refine W_c rfl rfl rfl rfl (fun _=>rfl) ?_
 refine W_c rfl rfl rfl rfl (fun _=>rfl) ?_
 refine W_x rfl rfl rfl (E_appD (t:=t) Tryz.underlying36 (by rw [hts]; exact Ty.row55) (by kernel_rfl) rfl rfl hS hz) ?_
 rintro u w' ⟨bs',hT⟩
 refine Nxt.now ?_
 refine W_c rfl rfl rfl rfl (fun _=>rfl) ?_
 refine zbk ?_
 refine zcl ?_
 refine C_ret rfl rfl ?_
 exact ⟨bs',hT⟩
theorem insExp_ok {F:Frz} {w:Hp} {X:List Nat} {bs bs2:List Nat} {v v2:Val} {i:Int} {xs ys r:List Exp} (hS:St X w F F [.dp Exp.o bs v xs,.dp Exp.o bs2 v2 ys] w) (H:insD xs i ys = some r) :
  Ret Tryz.prog KK 95 [v,.i .i64 i,v2] w fun u w'=>∃ bs',St X w F F [.dp Exp.o bs' u r] w' :=
 ins_dp (z:=3) rfl (by decide) (fun hS hy hz=>insEExp rfl hS hy hz) (insKExp kk_lap) (insKExp fun _ _ _ _ q=>q) (kk_closeExp) hS H
end Go.Wk.Lf
end
section
namespace Go.Wk.Lf
open Go.V Go.Proofs
noncomputable section
set_option maxRecDepth 100000
variable {K:Tb} {F:Frz} {w:Hp}
def zeb.k1 (x0:Catalog) (x1:Found) (r13:Int × Bool) (l16:List Chunk):Option Catalog :=
  bd (ix l16 r13.1) fun x20 =>
  bd (app (α:=Loc) x20.locs [x1.loc]) fun l24 =>
  bd (ix l16 r13.1) fun x26 =>
  some (Catalog.mk x0.seq x0.snaps (l16.set r13.1.toNat (Chunk.mk x26.id x26.staged x26.data l24)) x0.exps x0.vols)
def zeb (x0:Catalog) (x1:Found):Option Catalog :=
  if (decide ((x1.rec_.data.length:Int) < 1) || decide (64 < (x1.rec_.data.length:Int))) then
    some x0
  else
    bd (zbi [x1.rec_.data]) fun r9 =>
    bd (zgx x0.chunks r9) fun r13 =>
    if (!r13.2) then
      bd (insD x0.chunks r13.1 [(Chunk.mk r9 false [] [])]) fun l37 =>
      zeb.k1 x0 x1 r13 l37
    else
      zeb.k1 x0 x1 r13 x0.chunks
theorem zsd {X:List Nat} {x0:Catalog} {x1:Found} {r:Catalog} {gp0:Nat} {v0_1:Val} {bsv0_1:List Nat} {v0_2:Val} {bsv0_2:List Nat} {v0_3:Val} {bsv0_3:List Nat} {v0_4:Val} {v1_0:Val} (hS:St X w F F [.box gp0 [.i .i64 x0.seq,v0_1,v0_2,v0_3,v0_4],.dp Snap.o bsv0_1 v0_1 x0.snaps,.dp Chunk.o bsv0_2 v0_2 x0.chunks,.dp Exp.o bsv0_3 v0_3 x0.exps,.row Vol.t v0_4 x0.vols] w) (h1_0:SlF tB F v1_0 x1.rec_.data) (H:zeb x0 x1 = some r):Ret Tryz.prog KK 43 [pl gp0 0,.agg (Found.cells x1 v1_0)] w fun v w'=>∃ (F':Frz) (z0_1:Val) (bsz0_1:List Nat) (z0_2:Val) (bsz0_2:List Nat) (z0_3:Val) (bsz0_3:List Nat),v = .tup [] ∧ St X w F F' [.box gp0 [.i .i64 r.seq,z0_1,z0_2,z0_3,v0_4],.dp Snap.o bsz0_1 z0_1 r.snaps,.dp Chunk.o bsz0_2 z0_2 r.chunks,.dp Exp.o bsz0_3 z0_3 r.exps,.row Vol.t v0_4 r.vols] w':=by
 refine qa2 Tryz.func43 ?_;dsimp only [zeb] at H;refine qs ?_;refine xm (E_bx (cs:=[.i .i64 x1.rec_.kind,.i .i64 x1.rec_.seq,v1_0,.i .i64 x1.loc.vol,.i .i64 x1.loc.file,.i .i64 x1.loc.off,.i .i64 x1.loc.len]) rfl rfl (by simp only [List.all_cons,List.all_nil,List.all_append,h1_0.ln.one]; rfl) hS) ?_;rintro _ w1 ⟨g1,rfl,hS1⟩;refine qn ?_;refine zay ?_;refine qs ?_;refine qf Ty.zgq ?_;refine qf Ty.zme ?_;refine qb 0 Ty.zhi hS1 ?_;refine qr (zbw Tryz.underlying47 rfl h1_0.ln) ?_;refine qr (zah rfl rfl zbr) ?_;refine qc ?_;refine W_gs (v:=pl g1 (0 + 0)) rfl rfl rfl rfl (fun ⟨hb2,_⟩=>?_) ?_
 ·rw [hb2];exact (qf Ty.zgq ·)
 refine W_gs (v:=pl g1 (0 + 0 + 2)) rfl rfl rfl rfl (fun ⟨hb3,_⟩=>?_) ?_
 ·rw [hb3];exact (qf Ty.zme ·)
 refine W_gs (v:=v1_0) rfl rfl rfl rfl (fun ⟨hb4,_⟩=>?_) ?_
 ·rw [hb4];exact (qb 0 Ty.zhi hS1 ·)
 refine W_gs (v:=.i .i64 (x1.rec_.data.length:Int)) rfl rfl rfl rfl (fun ⟨hb5,_⟩=>?_) ?_
 ·rw [hb5];exact (qr (zbw Tryz.underlying47 rfl h1_0.ln) ·)
 refine W_gs (v:=.b (decide (64 < (x1.rec_.data.length:Int)))) rfl rfl rfl rfl (fun ⟨hb6,_⟩=>?_) ?_
 ·rw [hb6];exact (qr (zah rfl rfl zgc) ·)
 refine zht rfl rfl rfl rfl rfl rfl (fun hc=>by rw [hc]; rfl) ?_;refine qn ?_;refine qy H (fun hc7 H=>?_) (fun hc7 H=>?_)
 ·obtain rfl:=oi H;refine qt ?_;exact ⟨F,v0_1,bsv0_1,v0_2,bsv0_2,v0_3,bsv0_3,rfl,hS1.pick [1,2,3,4,5] (by decide)⟩
 ·refine qk ?_;obtain ⟨r9,hr9,H⟩:=zaq H;refine qs ?_;refine qf Ty.zgq ?_;refine qf Ty.zme ?_;refine qb 0 Ty.zhi hS1 ?_;refine xm (E_bs (t:=(tSl tB)) (vs:=[v1_0]) (xs:=[x1.rec_.data]) Tryz.underlying95 Ty.row47 rfl (by simp only [List.map_cons,List.map_nil,h1_0.ln.cells]; exact ⟨⟨_,rfl,h1_0⟩,trivial⟩) rfl rfl hS1) ?_;rintro u8 w8 hS8;refine lm (sha_Sum_ok (Gd.now hS8.wf) (hS8.rowNow (k:=0) rfl) hr9) ?_;rintro v11 w11 ⟨Fr9,rfl,hlr9_0,hT11⟩;have hS11:=hS8.lentFlat hT11 trivial;refine xm (zgk (cs:=zat (List.replicate 32 (0:UInt8))) Ty.zrh rfl hS11) ?_;rintro _ w10 ⟨g10,rfl,hS10⟩;refine um (zef (c:=zat r9) 0 (zat r9) rfl rfl hS10 rfl rfl Ty.zcz rfl rfl rfl) ?_;rintro _ w12 hS12;refine qn ?_;refine zay ?_;obtain ⟨r13,hr13,H⟩:=zaq H;refine zba (G:=F) [0,1,2,3,4,5,6,7,8,9,10] rfl Ty.mixed (by kernel_rfl) hS12.agree ?_;refine q2 ?_;refine qf Ty.zdg ?_;refine qbq 3 Ty.zhx hS12 ?_;refine qq (zdh 0 (zat r9) Ty.zil Ty.zcz (Nat.zero_lt_succ _) rfl hS12 rfl (fun q u h=>zcy (post:=[]) rfl h)) ?_;refine ql (zjx (Gd.now hS12.wf) (hS12.dpNow (k:=5) rfl Chunk.sees) hlr9_0 hr13) ?_;rintro v14 w14 ⟨Fr13,rfl,hT14⟩;have hS14:=hS12.lent hT14;refine Nxt.frz (Frz.le.refl _) hS14.agree ?_;refine q4 ?_;refine qm ?_;refine zao (fun E wq=>∃ l16:List Chunk,zeb.k1 x0 x1 r13 l16 = some r ∧ ∃ (F15:Frz) (u17:Val) (bs19:List Nat),E = [(0,pl gp0 0),(3,pl g1 0),(5,.i .i64 r13.1)] ∧ F.le F15 ∧ St X w F F15 [.box g1 [.i .i64 x1.rec_.kind,.i .i64 x1.rec_.seq,v1_0,.i .i64 x1.loc.vol,.i .i64 x1.loc.file,.i .i64 x1.loc.off,.i .i64 x1.loc.len],.box gp0 [.i .i64 x0.seq,v0_1,u17,v0_3,v0_4],.dp Snap.o bsv0_1 v0_1 x0.snaps,.dp Exp.o bsv0_3 v0_3 x0.exps,.row Vol.t v0_4 x0.vols,.dp Chunk.o bs19 u17 l16] wq) ?_ ?_
  ·refine qs ?_;refine qc ?_;refine qm ?_;refine qy H (fun hc35 H=>?_) (fun hc35 H=>?_)
   ·obtain ⟨l37,hl37,H⟩:=zaq H;refine zba (G:=F) [0,1,2,3,4,5,6,7,8,9,10,11,12] rfl Ty.mixed (by kernel_rfl) hS14.agree ?_;refine q3 ?_;refine qf Ty.zdg ?_;refine qbq 3 Ty.zhx hS14 ?_;refine qc ?_;refine qq (zdh 0 (zat r9) Ty.zil Ty.zcz (Nat.zero_lt_succ _) rfl hS14 rfl (fun q u h=>zcy (post:=[]) rfl h)) ?_;refine W_c (v:=.agg (Chunk.cells (Chunk.mk r9 false [] []) (.sl none 0 (.k 0)) (.sl none 0 (.k 0)))) rfl rfl rfl rfl (fun _=>rfl) ?_;refine qx (E_bs1 (t:=Chunk.o) (u:=.agg (Chunk.cells (Chunk.mk r9 false [] []) (.sl none 0 (.k 0)) (.sl none 0 (.k 0)))) (x:=(Chunk.mk r9 false [] [])) Tryz.underlying35 Ty.row60 rfl ⟨.sl none 0 (.k 0),.sl none 0 (.k 0),rfl,hlr9_0,(SlF.nil _),⟨_,rfl,.inl ⟨rfl,rfl,rfl⟩⟩⟩ rfl rfl hS14) ?_;rintro u36 w36 ⟨bs36,hS36⟩;refine Nxt.frz (Frz.le.refl _) hS36.agree ?_;refine ql (insChunk_ok (hS36.lendL [6,0] (by decide)) hl37) ?_;rintro u38 w38 ⟨bs38,hT38⟩;have hS38:=hS36.backL [6,0] [1,2,3,4,5,7,8] (by decide) (by decide) hT38;refine Nxt.frz (Frz.le.refl _) hS38.agree ?_;refine qc ?_;refine qf Ty.zdg ?_;refine qu (zef (c:=[u38]) 4 ([.i .i64 x0.seq,v0_1,u38,v0_3,v0_4]) rfl rfl hS38 rfl (hS38.dpLn (k:=0) rfl).cells Ty.size35 (by simp only [List.all_cons,List.all_nil,List.all_append,(hS38.dpLn (k:=0) rfl).one]; rfl) rfl rfl) ?_;rintro _ w39 hS39;refine Nxt.frz (Frz.le.refl _) hS39.agree ?_;refine zbk ?_;exact zbb _ ⟨l37,H,⟨F,u38,bs38,rfl,(Frz.le.refl _),hS39.pick [3,4,5,6,7,0] (by decide)⟩⟩ ⟨rfl,rfl,rfl,trivial⟩
   ·refine zeu ?_;exact zbb _ ⟨x0.chunks,H,⟨F,v0_2,bsv0_2,rfl,(Frz.le.refl _),hS14.pick [2,3,4,6,7,5] (by decide)⟩⟩ ⟨rfl,rfl,rfl,trivial⟩
  ·rintro E w15 ⟨l16,H,F15,u17,bs19,rfl,le15,hS15⟩;dsimp only [zeb.k1] at H;obtain ⟨x20,hx20,l24,hl24,H⟩:=bd2 H;obtain ⟨x26,hx26,H⟩:=zaq H;have hb29:=hS15.boxAt 1 rfl;refine zba (G:=(F15.hold w15 [gp0])) [0,1,2,3,4,5,6,7,8,9,10,11,12,13,14,15,16,17,18,19] rfl Ty.mixed (by kernel_rfl) (HB.agree (HB.cons 1 hb29 hS15 rfl HB.nil) hS15.agree) ?_;refine q2 ?_;refine qf Ty.zdg ?_;refine qr (zfb Ty.zhx rfl (hb29.held (HB.cons 1 hb29 hS15 rfl HB.nil) (by simp)) rfl) ?_;refine q3 ?_;refine qf Ty.zdg ?_;refine qbq 1 Ty.zhx hS15 ?_;refine qc ?_;obtain ⟨hp30,hy30⟩:=zab hx20;obtain ⟨cs30,hr30,he30⟩:=(hS15.dpNow (k:=5) rfl Chunk.sees).el hy30;obtain ⟨ue21_0,ue21_1,rfl,hle21_0,hue21_0,hue21_1⟩:=hr30;replace he30:=qj 35 he30;have hi30:=he30.ixd;refine qi Tryz.underlying35 Ty.zfu hi30 hp30 ?_;refine qr (zdz 34 Ty.zic rfl hi30) ?_;obtain ⟨u22,bs22,cs22,he22,hu22,hS22⟩:=hS15.focus Chunk.foc 5 rfl (zab hx20).2;replace he22:=qj 35 he22;refine qq (zep 34 Ty.zja rfl he22 (by omega) hu22) ?_;refine qf Ty.zun ?_;refine qq (zdh 1 (Loc.cells x1.loc) Ty.zvb Ty.zhd (Nat.zero_lt_succ _) rfl hS22 rfl (fun q u h=>zcy (post:=[]) rfl h)) ?_;refine qx (E_bs (t:=Loc.t) (vs:=[.agg (Loc.cells x1.loc)]) (xs:=[x1.loc]) Tryz.underlying44 Ty.row51 rfl ⟨rfl,trivial⟩ rfl rfl hS22) ?_;rintro u23 w23 hS23;refine qh 3 hb29 hS23 ?_;refine qx (zft (t:=Loc.t) 1 Tryz.underlying44 Ty.row51 Ty.zk44 rfl rfl hS23 rfl (hS23.rowSrc (k:=0) rfl) hl24) ?_;rintro v25 w25 hS25;refine qh 3 hb29 hS25 ?_;obtain ⟨hp31,hy31⟩:=zab hx26;have hi31:=hS25.dpIx (k:=7) rfl (zjl hy31);refine qi Tryz.underlying35 Ty.zfu hi31 hp31 ?_;obtain ⟨hp32,hy32⟩:=zab hx26;have hi32:=hS25.dpIx (k:=7) rfl (zjl hy32);refine qr (zdz 34 Ty.zic rfl hi32) ?_;obtain ⟨hp33,hy33⟩:=zab hx26;have hi33:=hS25.dpIx (k:=7) rfl (zjl hy33);have hS34:=hS25.pick [1,7,0,2,3,4,5,6] (by decide);refine qu (E_fill Chunk.foc (r13.1.toNat) rfl rfl hS34 (zab hx26).2 (by first | rfl | (show _ = _ * 35 + _; omega)) Ty.zps) ?_;rintro _ w28 ⟨bs28,hS28⟩;refine qh 3 hb29 hS28 ?_;refine zbk ?_;obtain rfl:=oi H;refine N_done rfl rfl ?_;exact ⟨F15,v0_1,bsv0_1,u17,bs28,v0_3,bsv0_3,rfl,hS28.pick [3,4,0,5,6] (by decide)⟩
def zex.k1 (x0:Catalog) (x1:Found) (r7:Int × Bool) (l10:List Snap):Option Catalog :=
  bd (ix l10 r7.1) fun x14 =>
  bd (app (α:=Loc) x14.locs [x1.loc]) fun l18 =>
  bd (ix l10 r7.1) fun x20 =>
  some (Catalog.mk (if x0.seq < wr ((if 1073741824 < x1.rec_.seq then 1073741824 else x1.rec_.seq) + 1) then wr ((if 1073741824 < x1.rec_.seq then 1073741824 else x1.rec_.seq) + 1) else x0.seq) (l10.set r7.1.toNat (Snap.mk x20.seq x20.man l18)) x0.chunks x0.exps x0.vols)
def zex (x0:Catalog) (x1:Found):Option Catalog :=
  bd (zbf x1.rec_.data) fun r2 =>
  if decide (r2.2 ≠ 0) then
    some x0
  else
    bd (zag x0.snaps x1.rec_.seq) fun r7 =>
    if (!r7.2) then
      bd (insD x0.snaps r7.1 [(Snap.mk x1.rec_.seq r2.1 [])]) fun l32 =>
      zex.k1 x0 x1 r7 l32
    else
      zex.k1 x0 x1 r7 x0.snaps
theorem ztp {X:List Nat} {x0:Catalog} {x1:Found} {r:Catalog} {gp0:Nat} {v0_1:Val} {bsv0_1:List Nat} {v0_2:Val} {bsv0_2:List Nat} {v0_3:Val} {bsv0_3:List Nat} {v0_4:Val} {v1_0:Val} (hS:St X w F F [.box gp0 [.i .i64 x0.seq,v0_1,v0_2,v0_3,v0_4],.dp Snap.o bsv0_1 v0_1 x0.snaps,.dp Chunk.o bsv0_2 v0_2 x0.chunks,.dp Exp.o bsv0_3 v0_3 x0.exps,.row Vol.t v0_4 x0.vols] w) (h1_0:SlF tB F v1_0 x1.rec_.data) (H:zex x0 x1 = some r):Ret Tryz.prog KK 44 [pl gp0 0,.agg (Found.cells x1 v1_0)] w fun v w'=>∃ (F':Frz) (z0_1:Val) (bsz0_1:List Nat) (z0_2:Val) (bsz0_2:List Nat) (z0_3:Val) (bsz0_3:List Nat),v = .tup [] ∧ St X w F F' [.box gp0 [.i .i64 r.seq,z0_1,z0_2,z0_3,v0_4],.dp Snap.o bsz0_1 z0_1 r.snaps,.dp Chunk.o bsz0_2 z0_2 r.chunks,.dp Exp.o bsz0_3 z0_3 r.exps,.row Vol.t v0_4 r.vols] w':=by
 refine qa2 Tryz.func44 ?_;dsimp only [zex] at H;refine qs ?_;refine xm (E_bx (cs:=[.i .i64 x1.rec_.kind,.i .i64 x1.rec_.seq,v1_0,.i .i64 x1.loc.vol,.i .i64 x1.loc.file,.i .i64 x1.loc.off,.i .i64 x1.loc.len]) rfl rfl (by simp only [List.all_cons,List.all_nil,List.all_append,h1_0.ln.one]; rfl) hS) ?_;rintro _ w1 ⟨g1,rfl,hS1⟩;refine qn ?_;obtain ⟨r2,hr2,H⟩:=zaq H;refine qs ?_;refine qf Ty.zgq ?_;refine qf Ty.zme ?_;refine qb 0 Ty.zhi hS1 ?_;refine lm (zsg hS1.good h1_0 hr2) ?_;rintro v4 w4 ⟨Fr2,ur2_0_0,rfl,hfr2_0_0,hT4⟩;have hS4:=hS1.call hT4;have ler2:=hT4.ext;refine q3 ?_;refine xm (zgk (cs:=[.s [],.sl none 0 (.k 0)]) Ty.zta rfl hS4) ?_;rintro _ w3 ⟨g3,rfl,hS3⟩;refine um (zef (c:=[.s r2.1.name,ur2_0_0]) 0 ([.s r2.1.name,ur2_0_0]) rfl rfl hS3 rfl rfl Ty.zgt (by simp only [List.all_cons,List.all_nil,List.all_append,hfr2_0_0.ln.one]; rfl) rfl rfl) ?_;rintro _ w5 hS5;refine qm ?_;refine zay ?_;refine qs ?_;refine qc ?_;refine qr (zah rfl rfl zeh) ?_;refine qn ?_;refine qy H (fun hc6 H=>?_) (fun hc6 H=>?_)
 ·obtain rfl:=oi H;refine qt ?_;exact ⟨Fr2,v0_1,bsv0_1,v0_2,bsv0_2,v0_3,bsv0_3,rfl,hS5.pick [2,3,4,5,6] (by decide)⟩
 ·refine qk ?_;refine zay ?_;obtain ⟨r7,hr7,H⟩:=zaq H;refine zba (G:=Fr2) [0,1,2,3,4,5,6,7,8,9,10,11,12] rfl Ty.mixed (by kernel_rfl) hS5.agree ?_;refine q2 ?_;refine qf Ty.zce ?_;refine qbq 2 Ty.zfa hS5 ?_;refine qf Ty.zgq ?_;refine qf Ty.zmf ?_;refine qbq 1 Ty.zdj hS5 ?_;refine ql (zek (Gd.now hS5.wf) (hS5.dpNow (k:=3) rfl Snap.sees) hr7) ?_;rintro v8 w8 ⟨Fr7,rfl,hT8⟩;have hS8:=hS5.lent hT8;refine Nxt.frz (Frz.le.refl _) hS8.agree ?_;refine q4 ?_;refine qm ?_;refine zao (fun E wq=>∃ l10:List Snap,zex.k1 x0 x1 r7 l10 = some r ∧ ∃ (F9:Frz) (u11:Val) (bs13:List Nat),E = [(0,pl gp0 0),(3,pl g1 0),(6,.i .i64 r7.1)] ∧ Fr2.le F9 ∧ St X w F F9 [.box g1 [.i .i64 x1.rec_.kind,.i .i64 x1.rec_.seq,v1_0,.i .i64 x1.loc.vol,.i .i64 x1.loc.file,.i .i64 x1.loc.off,.i .i64 x1.loc.len],.box gp0 [.i .i64 x0.seq,u11,v0_2,v0_3,v0_4],.dp Chunk.o bsv0_2 v0_2 x0.chunks,.dp Exp.o bsv0_3 v0_3 x0.exps,.row Vol.t v0_4 x0.vols,.dp Snap.o bs13 u11 l10] wq) ?_ ?_
  ·refine qs ?_;refine qc ?_;refine qm ?_;refine qy H (fun hc30 H=>?_) (fun hc30 H=>?_)
   ·obtain ⟨l32,hl32,H⟩:=zaq H;refine zba (G:=Fr2) [0,1,2,3,4,5,6,7,8,9,10,11,12,13,14,15] rfl Ty.mixed (by kernel_rfl) hS8.agree ?_;refine q3 ?_;refine qf Ty.zce ?_;refine qbq 2 Ty.zfa hS8 ?_;refine qc ?_;refine qf Ty.zgq ?_;refine qf Ty.zmf ?_;refine qbq 1 Ty.zdj hS8 ?_;refine qq (zdh 0 (Manifest.cells r2.1 ur2_0_0) Ty.zpp Ty.zgt (Nat.zero_lt_succ _) rfl hS8 rfl (fun q u h=>zcy (post:=[]) rfl h)) ?_;have hcl34:=hfr2_0_0.ln.cells;refine qr (zjz (vs:=[(0,.i .i64 x1.rec_.seq),(1,.agg (Manifest.cells r2.1 ur2_0_0))]) (v:=.agg (Snap.cells (Snap.mk x1.rec_.seq r2.1 []) ur2_0_0 (.sl none 0 (.k 0)))) Ty.bld46 rfl (by simp only [zkf,hcl34]; rfl)) ?_;refine qx (E_bs1 (t:=Snap.o) (u:=.agg (Snap.cells (Snap.mk x1.rec_.seq r2.1 []) ur2_0_0 (.sl none 0 (.k 0)))) (x:=(Snap.mk x1.rec_.seq r2.1 [])) Tryz.underlying34 Ty.row46 rfl ⟨ur2_0_0,.sl none 0 (.k 0),rfl,hfr2_0_0,⟨_,rfl,.inl ⟨rfl,rfl,rfl⟩⟩⟩ rfl rfl hS8) ?_;rintro u31 w31 ⟨bs31,hS31⟩;refine Nxt.frz (Frz.le.refl _) hS31.agree ?_;refine ql (insSnap_ok (hS31.lendL [4,0] (by decide)) hl32) ?_;rintro u33 w33 ⟨bs33,hT33⟩;have hS33:=hS31.backL [4,0] [1,2,3,5,6,7] (by decide) (by decide) hT33;refine Nxt.frz (Frz.le.refl _) hS33.agree ?_;refine qc ?_;refine qf Ty.zce ?_;refine qu (zef (c:=[u33]) 3 ([.i .i64 x0.seq,u33,v0_2,v0_3,v0_4]) rfl rfl hS33 rfl (hS33.dpLn (k:=0) rfl).cells Ty.size34 (by simp only [List.all_cons,List.all_nil,List.all_append,(hS33.dpLn (k:=0) rfl).one]; rfl) rfl rfl) ?_;rintro _ w35 hS35;refine Nxt.frz (Frz.le.refl _) hS35.agree ?_;refine zbk ?_;exact zbb _ ⟨l32,H,⟨Fr2,u33,bs33,rfl,(Frz.le.refl _),hS35.pick [2,3,4,5,6,0] (by decide)⟩⟩ ⟨rfl,rfl,rfl,trivial⟩
   ·refine zeu ?_;exact zbb _ ⟨x0.snaps,H,⟨Fr2,v0_1,bsv0_1,rfl,(Frz.le.refl _),hS8.pick [1,2,4,5,6,3] (by decide)⟩⟩ ⟨rfl,rfl,rfl,trivial⟩
  ·rintro E w9 ⟨l10,H,F9,u11,bs13,rfl,le9,hS9⟩;dsimp only [zex.k1] at H;refine zay ?_;obtain ⟨x14,hx14,l18,hl18,H⟩:=bd2 H;obtain ⟨x20,hx20,H⟩:=zaq H;have hb23:=hS9.boxAt 1 rfl;refine zba (G:=(F9.hold w9 [gp0])) [0,1,2,3,4,5,6,7,8,9,10,11,12,13,14,15,16,17,18,19] rfl Ty.mixed (by kernel_rfl) (HB.agree (HB.cons 1 hb23 hS9 rfl HB.nil) hS9.agree) ?_;refine q2 ?_;refine qf Ty.zce ?_;refine qr (zfb Ty.zfa rfl (hb23.held (HB.cons 1 hb23 hS9 rfl HB.nil) (by simp)) rfl) ?_;refine q3 ?_;refine qf Ty.zce ?_;refine qbq 1 Ty.zfa hS9 ?_;refine qc ?_;obtain ⟨hp24,hy24⟩:=zab hx14;obtain ⟨cs24,hr24,he24⟩:=(hS9.dpNow (k:=5) rfl Snap.sees).el hy24;obtain ⟨ue15_0,ue15_1,rfl,hue15_0,hue15_1⟩:=hr24;replace he24:=qj 4 he24;have hi24:=he24.ixd;refine qi Tryz.underlying34 Ty.zcs hi24 hp24 ?_;refine qr (zdz 3 Ty.zid rfl hi24) ?_;obtain ⟨u16,bs16,cs16,he16,hu16,hS16⟩:=hS9.focus Snap.foc 5 rfl (zab hx14).2;replace he16:=qj 4 he16;refine qq (zep 3 Ty.zja rfl he16 (by omega) hu16) ?_;refine qf Ty.zun ?_;refine qq (zdh 1 (Loc.cells x1.loc) Ty.zvb Ty.zhd (Nat.zero_lt_succ _) rfl hS16 rfl (fun q u h=>zcy (post:=[]) rfl h)) ?_;refine qx (E_bs (t:=Loc.t) (vs:=[.agg (Loc.cells x1.loc)]) (xs:=[x1.loc]) Tryz.underlying44 Ty.row51 rfl ⟨rfl,trivial⟩ rfl rfl hS16) ?_;rintro u17 w17 hS17;refine qh 3 hb23 hS17 ?_;refine qx (zft (t:=Loc.t) 1 Tryz.underlying44 Ty.row51 Ty.zk44 rfl rfl hS17 rfl (hS17.rowSrc (k:=0) rfl) hl18) ?_;rintro v19 w19 hS19;refine qh 3 hb23 hS19 ?_;obtain ⟨hp25,hy25⟩:=zab hx20;have hi25:=hS19.dpIx (k:=7) rfl (zjl hy25);refine qi Tryz.underlying34 Ty.zcs hi25 hp25 ?_;obtain ⟨hp26,hy26⟩:=zab hx20;have hi26:=hS19.dpIx (k:=7) rfl (zjl hy26);refine qr (zdz 3 Ty.zid rfl hi26) ?_;obtain ⟨hp27,hy27⟩:=zab hx20;have hi27:=hS19.dpIx (k:=7) rfl (zjl hy27);have hS28:=hS19.pick [1,7,0,2,3,4,5,6] (by decide);refine qu (E_fill Snap.foc (r7.1.toNat) rfl rfl hS28 (zab hx20).2 (by first | rfl | (show _ = _ * 4 + _; omega)) Ty.zps) ?_;rintro _ w22 ⟨bs22,hS22⟩;refine qh 3 hb23 hS22 ?_;refine qn ?_;refine zba (G:=F9) [0,1,2,3,4,5,6,7,8,9,10,11,12,13] rfl Ty.mixed (by kernel_rfl) hS22.agree ?_;refine q3 ?_;refine qf Ty.zif ?_;refine qbq 3 Ty.zdj hS22 ?_;refine qf Ty.zgq ?_;refine qf Ty.zmf ?_
   refine qbq 2 Ty.zdj hS22 ?_;refine q4 ?_;refine qf Ty.zif ?_;refine qu (zef (c:=[.i .i64 (if x0.seq < wr ((if 1073741824 < x1.rec_.seq then 1073741824 else x1.rec_.seq) + 1) then wr ((if 1073741824 < x1.rec_.seq then 1073741824 else x1.rec_.seq) + 1) else x0.seq)]) 3 ([.i .i64 (if x0.seq < wr ((if 1073741824 < x1.rec_.seq then 1073741824 else x1.rec_.seq) + 1) then wr ((if 1073741824 < x1.rec_.seq then 1073741824 else x1.rec_.seq) + 1) else x0.seq),u11,v0_2,v0_3,v0_4]) rfl rfl hS22 rfl rfl Ty.size3 rfl rfl rfl) ?_;rintro _ w29 hS29;refine Nxt.frz (Frz.le.refl _) hS29.agree ?_;refine zbk ?_;obtain rfl:=oi H;refine N_done rfl rfl ?_;exact ⟨F9,u11,bs22,v0_2,bsv0_2,v0_3,bsv0_3,rfl,hS29.pick [3,0,4,5,6] (by decide)⟩
def zga.k1 (x0:Catalog) (x1:Found) (r5:Int × Bool) (l8:List Exp):Option Catalog :=
  bd (ix l8 r5.1) fun x12 =>
  bd (app (α:=Loc) x12.locs [x1.loc]) fun l16 =>
  bd (ix l8 r5.1) fun x18 =>
  some (Catalog.mk (if x0.seq < wr ((if 1073741824 < x1.rec_.seq then 1073741824 else x1.rec_.seq) + 1) then wr ((if 1073741824 < x1.rec_.seq then 1073741824 else x1.rec_.seq) + 1) else x0.seq) x0.snaps x0.chunks (l8.set r5.1.toNat (Exp.mk x18.seq x18.of l16)) x0.vols)
def zga (x0:Catalog) (x1:Found):Option Catalog :=
  if decide ((x1.rec_.data.length:Int) ≠ 4) then
    some x0
  else
    bd (zho x1.rec_.data 0 4) fun r3 =>
    bd (zai x0.exps x1.rec_.seq) fun r5 =>
    if (!r5.2) then
      bd (insD x0.exps r5.1 [(Exp.mk x1.rec_.seq r3.1 [])]) fun l30 =>
      zga.k1 x0 x1 r5 l30
    else
      zga.k1 x0 x1 r5 x0.exps
theorem zvh {X:List Nat} {x0:Catalog} {x1:Found} {r:Catalog} {gp0:Nat} {v0_1:Val} {bsv0_1:List Nat} {v0_2:Val} {bsv0_2:List Nat} {v0_3:Val} {bsv0_3:List Nat} {v0_4:Val} {v1_0:Val} (hS:St X w F F [.box gp0 [.i .i64 x0.seq,v0_1,v0_2,v0_3,v0_4],.dp Snap.o bsv0_1 v0_1 x0.snaps,.dp Chunk.o bsv0_2 v0_2 x0.chunks,.dp Exp.o bsv0_3 v0_3 x0.exps,.row Vol.t v0_4 x0.vols] w) (h1_0:SlF tB F v1_0 x1.rec_.data) (H:zga x0 x1 = some r):Ret Tryz.prog KK 45 [pl gp0 0,.agg (Found.cells x1 v1_0)] w fun v w'=>∃ (F':Frz) (z0_1:Val) (bsz0_1:List Nat) (z0_2:Val) (bsz0_2:List Nat) (z0_3:Val) (bsz0_3:List Nat),v = .tup [] ∧ St X w F F' [.box gp0 [.i .i64 r.seq,z0_1,z0_2,z0_3,v0_4],.dp Snap.o bsz0_1 z0_1 r.snaps,.dp Chunk.o bsz0_2 z0_2 r.chunks,.dp Exp.o bsz0_3 z0_3 r.exps,.row Vol.t v0_4 r.vols] w':=by
 refine qa2 Tryz.func45 ?_;dsimp only [zga] at H;refine qs ?_;refine xm (E_bx (cs:=[.i .i64 x1.rec_.kind,.i .i64 x1.rec_.seq,v1_0,.i .i64 x1.loc.vol,.i .i64 x1.loc.file,.i .i64 x1.loc.off,.i .i64 x1.loc.len]) rfl rfl (by simp only [List.all_cons,List.all_nil,List.all_append,h1_0.ln.one]; rfl) hS) ?_;rintro _ w1 ⟨g1,rfl,hS1⟩;refine qn ?_;refine zay ?_;refine qs ?_;refine qf Ty.zgq ?_;refine qf Ty.zme ?_;refine qb 0 Ty.zhi hS1 ?_;refine qr (zbw Tryz.underlying47 rfl h1_0.ln) ?_;refine qr (zah rfl rfl zeh) ?_;refine qn ?_;refine qy H (fun hc2 H=>?_) (fun hc2 H=>?_)
 ·obtain rfl:=oi H;refine qt ?_;exact ⟨F,v0_1,bsv0_1,v0_2,bsv0_2,v0_3,bsv0_3,rfl,hS1.pick [1,2,3,4,5] (by decide)⟩
 ·refine qk ?_;obtain ⟨r3,hr3,H⟩:=zaq H;refine qs ?_;refine qf Ty.zgq ?_;refine qf Ty.zme ?_;refine qb 0 Ty.zhi hS1 ?_;refine lm (zvv hS1.good h1_0 hr3) ?_;rintro v4 w4 ⟨Fr3,rfl,hT4⟩;have hS4:=hS1.lent hT4;refine q4 ?_;refine q2 ?_;refine qm ?_;refine zay ?_;obtain ⟨r5,hr5,H⟩:=zaq H;refine zba (G:=F) [0,1,2,3,4,5,6,7,8,9,10,11,12] rfl Ty.mixed (by kernel_rfl) hS4.agree ?_;refine q2 ?_;refine qf Ty.zem ?_;refine qbq 1 Ty.zjv hS4 ?_;refine qf Ty.zgq ?_;refine qf Ty.zmf ?_;refine qbq 0 Ty.zdj hS4 ?_;refine ql (zet (Gd.now hS4.wf) (hS4.dpNow (k:=4) rfl Exp.sees) hr5) ?_;rintro v6 w6 ⟨Fr5,rfl,hT6⟩;have hS6:=hS4.lent hT6;refine Nxt.frz (Frz.le.refl _) hS6.agree ?_;refine q4 ?_;refine qm ?_;refine zao (fun E wq=>∃ l8:List Exp,zga.k1 x0 x1 r5 l8 = some r ∧ ∃ (F7:Frz) (u9:Val) (bs11:List Nat),E = [(0,pl gp0 0),(3,pl g1 0),(7,.i .i64 r5.1)] ∧ F.le F7 ∧ St X w F F7 [.box g1 [.i .i64 x1.rec_.kind,.i .i64 x1.rec_.seq,v1_0,.i .i64 x1.loc.vol,.i .i64 x1.loc.file,.i .i64 x1.loc.off,.i .i64 x1.loc.len],.box gp0 [.i .i64 x0.seq,v0_1,v0_2,u9,v0_4],.dp Snap.o bsv0_1 v0_1 x0.snaps,.dp Chunk.o bsv0_2 v0_2 x0.chunks,.row Vol.t v0_4 x0.vols,.dp Exp.o bs11 u9 l8] wq) ?_ ?_
  ·refine qs ?_;refine qc ?_;refine qm ?_;refine qy H (fun hc28 H=>?_) (fun hc28 H=>?_)
   ·obtain ⟨l30,hl30,H⟩:=zaq H;refine zba (G:=F) [0,1,2,3,4,5,6,7,8,9,10,11,12,13,14,15] rfl Ty.mixed (by kernel_rfl) hS6.agree ?_;refine q3 ?_;refine qf Ty.zem ?_;refine qbq 1 Ty.zjv hS6 ?_;refine qc ?_;refine qf Ty.zgq ?_;refine qf Ty.zmf ?_;refine qbq 0 Ty.zdj hS6 ?_;refine qc ?_;refine W_c (v:=.agg (Exp.cells (Exp.mk x1.rec_.seq r3.1 []) (.sl none 0 (.k 0)))) rfl rfl rfl rfl (fun _=>rfl) ?_;refine qx (E_bs1 (t:=Exp.o) (u:=.agg (Exp.cells (Exp.mk x1.rec_.seq r3.1 []) (.sl none 0 (.k 0)))) (x:=(Exp.mk x1.rec_.seq r3.1 [])) Tryz.underlying36 Ty.row55 rfl ⟨.sl none 0 (.k 0),rfl,⟨_,rfl,.inl ⟨rfl,rfl,rfl⟩⟩⟩ rfl rfl hS6) ?_;rintro u29 w29 ⟨bs29,hS29⟩;refine Nxt.frz (Frz.le.refl _) hS29.agree ?_;refine ql (insExp_ok (hS29.lendL [5,0] (by decide)) hl30) ?_;rintro u31 w31 ⟨bs31,hT31⟩;have hS31:=hS29.backL [5,0] [1,2,3,4,6] (by decide) (by decide) hT31;refine Nxt.frz (Frz.le.refl _) hS31.agree ?_;refine qc ?_;refine qf Ty.zem ?_;refine qu (zef (c:=[u31]) 2 ([.i .i64 x0.seq,v0_1,v0_2,u31,v0_4]) rfl rfl hS31 rfl (hS31.dpLn (k:=0) rfl).cells Ty.size36 (by simp only [List.all_cons,List.all_nil,List.all_append,(hS31.dpLn (k:=0) rfl).one]; rfl) rfl rfl) ?_;rintro _ w32 hS32;refine Nxt.frz (Frz.le.refl _) hS32.agree ?_;refine zbk ?_;exact zbb _ ⟨l30,H,⟨F,u31,bs31,rfl,(Frz.le.refl _),hS32.pick [1,2,3,4,5,0] (by decide)⟩⟩ ⟨rfl,rfl,rfl,trivial⟩
   ·refine zeu ?_;exact zbb _ ⟨x0.exps,H,⟨F,v0_3,bsv0_3,rfl,(Frz.le.refl _),hS6.pick [0,1,2,3,5,4] (by decide)⟩⟩ ⟨rfl,rfl,rfl,trivial⟩
  ·rintro E w7 ⟨l8,H,F7,u9,bs11,rfl,le7,hS7⟩;dsimp only [zga.k1] at H;refine zay ?_;obtain ⟨x12,hx12,l16,hl16,H⟩:=bd2 H;obtain ⟨x18,hx18,H⟩:=zaq H;have hb21:=hS7.boxAt 1 rfl;refine zba (G:=(F7.hold w7 [gp0])) [0,1,2,3,4,5,6,7,8,9,10,11,12,13,14,15,16,17,18,19] rfl Ty.mixed (by kernel_rfl) (HB.agree (HB.cons 1 hb21 hS7 rfl HB.nil) hS7.agree) ?_;refine q2 ?_;refine qf Ty.zem ?_;refine qr (zfb Ty.zjv rfl (hb21.held (HB.cons 1 hb21 hS7 rfl HB.nil) (by simp)) rfl) ?_;refine q3 ?_;refine qf Ty.zem ?_;refine qbq 1 Ty.zjv hS7 ?_;refine qc ?_;obtain ⟨hp22,hy22⟩:=zab hx12;obtain ⟨cs22,hr22,he22⟩:=(hS7.dpNow (k:=5) rfl Exp.sees).el hy22;obtain ⟨ue13_0,rfl,hue13_0⟩:=hr22;replace he22:=qj 3 he22;have hi22:=he22.ixd;refine qi Tryz.underlying36 Ty.zfm hi22 hp22 ?_;refine qr (zdz 2 Ty.zjs rfl hi22) ?_;obtain ⟨u14,bs14,cs14,he14,hu14,hS14⟩:=hS7.focus Exp.foc 5 rfl (zab hx12).2;replace he14:=qj 3 he14;refine qq (zep 2 Ty.zja rfl he14 (by omega) hu14) ?_;refine qf Ty.zun ?_;refine qq (zdh 1 (Loc.cells x1.loc) Ty.zvb Ty.zhd (Nat.zero_lt_succ _) rfl hS14 rfl (fun q u h=>zcy (post:=[]) rfl h)) ?_;refine qx (E_bs (t:=Loc.t) (vs:=[.agg (Loc.cells x1.loc)]) (xs:=[x1.loc]) Tryz.underlying44 Ty.row51 rfl ⟨rfl,trivial⟩ rfl rfl hS14) ?_;rintro u15 w15 hS15;refine qh 3 hb21 hS15 ?_;refine qx (zft (t:=Loc.t) 1 Tryz.underlying44 Ty.row51 Ty.zk44 rfl rfl hS15 rfl (hS15.rowSrc (k:=0) rfl) hl16) ?_;rintro v17 w17 hS17;refine qh 3 hb21 hS17 ?_;obtain ⟨hp23,hy23⟩:=zab hx18;have hi23:=hS17.dpIx (k:=7) rfl (zjl hy23);refine qi Tryz.underlying36 Ty.zfm hi23 hp23 ?_;obtain ⟨hp24,hy24⟩:=zab hx18;have hi24:=hS17.dpIx (k:=7) rfl (zjl hy24);refine qr (zdz 2 Ty.zjs rfl hi24) ?_;obtain ⟨hp25,hy25⟩:=zab hx18;have hi25:=hS17.dpIx (k:=7) rfl (zjl hy25);have hS26:=hS17.pick [1,7,0,2,3,4,5,6] (by decide);refine qu (E_fill Exp.foc (r5.1.toNat) rfl rfl hS26 (zab hx18).2 (by first | rfl | (show _ = _ * 3 + _; omega)) Ty.zps) ?_;rintro _ w20 ⟨bs20,hS20⟩;refine qh 3 hb21 hS20 ?_;refine qn ?_;refine zba (G:=F7) [0,1,2,3,4,5,6,7,8,9,10,11,12,13] rfl Ty.mixed (by kernel_rfl) hS20.agree ?_;refine q3 ?_;refine qf Ty.zif ?_;refine qbq 3 Ty.zdj hS20 ?_;refine qf Ty.zgq ?_;refine qf Ty.zmf ?_;refine qbq 2 Ty.zdj hS20 ?_
   refine q4 ?_;refine qf Ty.zif ?_;refine qu (zef (c:=[.i .i64 (if x0.seq < wr ((if 1073741824 < x1.rec_.seq then 1073741824 else x1.rec_.seq) + 1) then wr ((if 1073741824 < x1.rec_.seq then 1073741824 else x1.rec_.seq) + 1) else x0.seq)]) 3 ([.i .i64 (if x0.seq < wr ((if 1073741824 < x1.rec_.seq then 1073741824 else x1.rec_.seq) + 1) then wr ((if 1073741824 < x1.rec_.seq then 1073741824 else x1.rec_.seq) + 1) else x0.seq),v0_1,v0_2,u9,v0_4]) rfl rfl hS20 rfl rfl Ty.size3 rfl rfl rfl) ?_;rintro _ w27 hS27;refine Nxt.frz (Frz.le.refl _) hS27.agree ?_;refine zbk ?_;obtain rfl:=oi H;refine N_done rfl rfl ?_;exact ⟨F7,v0_1,bsv0_1,v0_2,bsv0_2,u9,bs20,rfl,hS27.pick [3,4,5,0,6] (by decide)⟩
def zdm.k1 (l3:List (List UInt8)):Option (List (List UInt8)) :=
  bd (sortM cmpT l3) fun r6 =>
  bd (zad r6) fun r8 =>
  bd (zcv r8) fun r9 =>
  some r9
def zdm.l2 (x0:Manifest) (rec18:((List (List UInt8)) × Int) → Option (List (List UInt8))):((List (List UInt8)) × Int) → Option (List (List UInt8))
  | (l14,i17) =>
    if decide (i17 < (x0.parts.length:Int)) then
      bd (ix x0.parts i17) fun x20 =>
      bd (app (α:=(List UInt8)) l14 x20.ids) fun l25 =>
      rec18 (l25,wr (i17 + 1))
    else
      zdm.k1 l14
def zdm (x0:Manifest):Option (List (List UInt8)) :=
  loop (zdm.l2 x0) ([],0)
theorem ztz {x0:Manifest} {r:(List (List UInt8))} {v0_0:Val} (hA:Gd F w) (h0_0:SlF Part.t F v0_0 x0.parts) (H:zdm x0 = some r):Ret Tryz.prog KK 148 [.agg (Manifest.cells x0 v0_0)] w fun v w'=>∃ (F':Frz) (q0:Val),v = q0 ∧ St [] w F F' [.row tId q0 (r)] w':=by
 refine qa1 Tryz.func148 ?_;have hS:=St.start hA;dsimp only [zdm] at H;refine qs ?_;refine xm (E_bx (cs:=[.s x0.name,v0_0]) rfl rfl (by simp only [List.all_cons,List.all_nil,List.all_append,h0_0.ln.one]; rfl) hS) ?_;rintro _ w1 ⟨g1,rfl,hS1⟩;refine qm ?_;refine qs ?_;refine qm ?_;refine zao (fun E wq=>∃ l3:List (List UInt8),zdm.k1 l3 = some r ∧ ∃ (F2:Frz) (u4:Val),E = [(3,u4)] ∧ F.le F2 ∧ St [] w F F2 [.row tId u4 l3] wq) ?_ ?_
 ·refine qs ?_;refine qf Ty.zez ?_;refine qb 0 Ty.zlf hS1 ?_;refine qr (zbw Tryz.underlying41 rfl h0_0.ln) ?_;refine qm ?_;refine zaw ?_;refine zbq (fun (s:(List (List UInt8)) × Int) E wq=>∃ (F13:Frz) (u15:Val),E = [(3,u15),(7,v0_0),(8,.i .i64 (x0.parts.length:Int)),(9,.i .i64 s.2)] ∧ F.le F13 ∧ St [] w F F13 [.row tId u15 s.1] wq) H ?_ ?_
  ·have hS28:=hS1.nilRow tId;exact ⟨_,⟨F,(.sl none 0 (.k 0)),rfl,(Frz.le.refl _),hS28.pick [0] (by decide)⟩,⟨rfl,rfl,rfl,rfl,trivial⟩⟩
  ·rintro rec18 ⟨l14,i17⟩ E w13 hI H
   try dsimp only at hI
   obtain ⟨F13,u15,rfl,le13,hS13⟩:=hI;dsimp only [zdm.l2] at H;refine qs ?_;refine qr (zah rfl rfl zbr) ?_;refine qn ?_;refine zay ?_;refine qy H (fun hc19 H=>?_) (fun hc19 H=>?_)
   ·refine qk ?_;refine zay ?_;refine zaw ?_;obtain ⟨x20,hx20,H⟩:=zaq H;refine qs ?_;obtain ⟨hp23,hy23⟩:=zab hx20;obtain ⟨cs23,hr23,he23⟩:=(h0_0.mono le13).el hy23;obtain ⟨ue21_0,rfl,hue21_0⟩:=hr23;replace he23:=qj 3 he23;have hi23:=he23.ixd;refine qi Tryz.underlying41 Ty.zgp hi23 hp23 ?_;refine qr (zha 0 (Part.cells x20 ue21_0) Ty.zvd Ty.zgp rfl (he23.mono hS13.agree) (by omega) rfl (Nat.le_of_ble_eq_true rfl)) ?_;refine xm (zgk (cs:=[.s [],.i .i64 0,.sl none 0 (.k 0)]) Ty.zqu rfl hS13) ?_;rintro _ w22 ⟨g22,rfl,hS22⟩;refine um (zef (c:=[.s x20.path,.i .i64 x20.size,ue21_0]) 0 ([.s x20.path,.i .i64 x20.size,ue21_0]) rfl rfl hS22 rfl rfl Ty.zgp (by simp only [List.all_cons,List.all_nil,List.all_append,hue21_0.ln.one]; rfl) rfl rfl) ?_;rintro _ w24 hS24;refine qn ?_;obtain ⟨l25,hl25,H⟩:=zaq H;refine qd ?_;refine qc ?_;refine qf Ty.zfw ?_;refine qb 0 Ty.zln hS24 ?_;refine xm (zft (t:=tId) 1 Tryz.underlying118 Ty.ztm Ty.zk118 rfl rfl hS24 rfl (hue21_0.src hS24.agree) hl25) ?_;rintro v26 w26 hS26;refine qc ?_;refine zbk ?_;refine zbg ?_;refine zcl ?_;refine qd ?_;refine q2 ?_;refine zbk ?_;exact zbe (l25,wr (i17 + 1)) _ H ⟨F13,v26,rfl,le13,hS26.pick [1] (by decide)⟩ ⟨rfl,rfl,rfl,rfl,trivial⟩
   ·refine zci _ rfl ?_;exact zbb _ ⟨l14,H,⟨F13,u15,rfl,le13,hS13⟩⟩ ⟨rfl,trivial⟩
 ·rintro E w2 ⟨l3,H,F2,u4,rfl,le2,hS2⟩;dsimp only [zdm.k1] at H;obtain ⟨r6,hr6,H⟩:=zaq H;refine qs ?_;refine qc ?_;refine lm (sortIds_ok (hS2.lendRow 0 rfl) hr6) ?_;rintro v7 w7 ⟨Fr6,rfl,hT7⟩;have hS7:=hS2.backRow 0 [] rfl (by decide) (by decide) hT7;have ler6:=hT7.ext;refine qn ?_;obtain ⟨r8,hr8,r9,hr9,H⟩:=bd2 H;refine qs ?_;refine qc ?_;refine lm (zin (hS7.lendRow 0 rfl) hr8) ?_;rintro ur8_0 w10 ⟨Fr8,_,rfl,hT10⟩;have hS10:=hS7.backRow 0 [] rfl (by decide) (by decide) hT10;have ler8:=hT10.ext;obtain ⟨F11,le11,hf11,hS11⟩:=hS10.freezeR 0 [] rfl (by decide) (by decide);refine lm (zgo hS11.good hf11 hr9) ?_;rintro ur9_0 w12 ⟨Fr9,_,rfl,hT12⟩;have hS12:=hS11.call hT12;have ler9:=hT12.ext;refine qm ?_;obtain rfl:=oi H;refine qt ?_;exact ⟨Fr9,ur9_0,rfl,hS12⟩
def zhr (x0:Catalog) (x1:Snap):Option Bool :=
  bd (zbz x0.exps x1) fun r4 =>
  if r4 then
    some false
  else
    bd (zdm x1.man) fun r8 =>
    bd (zca r8 x0) fun r9 =>
    some (!r9)
theorem zsb {x0:Catalog} {x1:Snap} {r:Bool} {v0_0:Val} {v0_1:Val} {v0_2:Val} {v0_3:Val} {v1_0:Val} {v1_1:Val} (hA:Gd F w) (h0_0:SlF Snap.t F v0_0 x0.snaps) (h0_1:SlF Chunk.t F v0_1 x0.chunks) (h0_2:SlF Exp.t F v0_2 x0.exps) (h0_3:SlF Vol.t F v0_3 x0.vols) (h1_0:SlF Part.t F v1_0 x1.man.parts) (h1_1:SlF Loc.t F v1_1 x1.locs) (H:zhr x0 x1 = some r):Ret Tryz.prog KK 96 [.agg (Catalog.cells x0 v0_0 v0_1 v0_2 v0_3),.agg (Snap.cells x1 v1_0 v1_1)] w fun v w'=>∃ (F':Frz),v = .b r ∧ St [] w F F' [] w':=by
 refine qa2 Tryz.func96 ?_;have hS:=St.start hA;dsimp only [zhr] at H;refine qs ?_;refine xm (E_bx (cs:=[.i .i64 x0.seq,v0_0,v0_1,v0_2,v0_3]) rfl rfl (by simp only [List.all_cons,List.all_nil,List.all_append,h0_0.ln.one,h0_1.ln.one,h0_2.ln.one,h0_3.ln.one]; rfl) hS) ?_;rintro _ w1 ⟨g1,rfl,hS1⟩;refine xm (E_bx (cs:=[.i .i64 x1.seq,.s x1.man.name,v1_0,v1_1]) rfl rfl (by simp only [List.all_cons,List.all_nil,List.all_append,h1_0.ln.one,h1_1.ln.one]; rfl) hS1) ?_;rintro _ w2 ⟨g2,rfl,hS2⟩;refine qm ?_;refine zay ?_;refine zay ?_;obtain ⟨F3,le3,hbx3,hS3⟩:=hS2.freezeB 0 [1] rfl (by decide) (by decide);obtain ⟨r4,hr4,H⟩:=zaq H;refine qd ?_;refine qf Ty.zem ?_;refine qb 0 Ty.zjv hS3 ?_;refine qc ?_;refine lm (zfk hS3.good (h0_2.mono le3) (h1_0.mono le3) (h1_1.mono le3) hbx3 hr4) ?_;rintro v5 w5 ⟨Fr4,rfl,hT5⟩;have hS5:=hS3.lent hT5;refine qn ?_;refine qy H (fun hc6 H=>?_) (fun hc6 H=>?_)
 ·refine qs ?_;refine qm ?_;obtain rfl:=oi H;refine qt ?_;exact ⟨F3,rfl,hS5.pick [] (by decide)⟩
 ·refine qk ?_;refine zay ?_;obtain ⟨F7,le7,hbx7,hS7⟩:=hS5.freezeB 0 [] rfl (by decide) (by decide);obtain ⟨r8,hr8,r9,hr9,H⟩:=bd2 H;refine qd ?_;refine qf Ty.zgj ?_;refine qr (O_fldg (Manifest.cells x1.man v1_0) Ty.zpp Ty.zgt (Nat.zero_lt_succ _) rfl (hbx3.mono (hS7.agree.le le7)) (fun q u h=>zcy (post:=[v1_1]) rfl h)) ?_;refine lm (ztz hS7.good (h1_0.mono (le3.trans le7)) hr8) ?_;rintro ur8_0 w10 ⟨Fr8,_,rfl,hT10⟩;have hS10:=hS7.call hT10;have ler8:=hT10.ext;refine qc ?_;refine lm (zfl (Gd.now hS10.wf) (hS10.rowNow (k:=0) rfl) (h0_0.mono (hS10.agree.le ((le3.trans le7).trans ler8))) (h0_1.mono (hS10.agree.le ((le3.trans le7).trans ler8))) (h0_2.mono (hS10.agree.le ((le3.trans le7).trans ler8))) (h0_3.mono (hS10.agree.le ((le3.trans le7).trans ler8))) (hbx7.mono (hS10.agree.le ler8)) hr9) ?_;rintro v11 w11 ⟨Fr9,rfl,hT11⟩;have hS11:=hS10.lent hT11;refine qc ?_;refine qm ?_;obtain rfl:=oi H;refine qt ?_;exact ⟨Fr8,rfl,hS11.pick [] (by decide)⟩
def zbt.k1 (l3:List Snap):Option (List Snap) :=
  some l3
def zbt.k3 (i10:Int) (rec11:((List Snap) × Int) → Option (List Snap)) (l14:List Snap):Option (List Snap) :=
  rec11 (l14,wr (i10 + 1))
def zbt.l2 (x0:Catalog) (rec11:((List Snap) × Int) → Option (List Snap)):((List Snap) × Int) → Option (List Snap)
  | (l7,i10) =>
    if decide (i10 < (x0.snaps.length:Int)) then
      bd (ix x0.snaps i10) fun x17 =>
      bd (zhr x0 x17) fun r22 =>
      if r22 then
        bd (zae l7 x17) fun r27 =>
        bd (app (α:=Snap) r27 [x17]) fun l28 =>
        zbt.k3 i10 rec11 l28
      else
        zbt.k3 i10 rec11 l7
    else
      zbt.k1 l7
def zbt (x0:Catalog):Option (List Snap) :=
  loop (zbt.l2 x0) ([],0)
theorem zsc {X:List Nat} {x0:Catalog} {r:(List Snap)} {v0_0:Val} {v0_1:Val} {v0_2:Val} {v0_3:Val} (hS:St X w F F [.row Snap.t v0_0 x0.snaps,.row Chunk.t v0_1 x0.chunks,.row Exp.t v0_2 x0.exps,.row Vol.t v0_3 x0.vols] w) (H:zbt x0 = some r):Ret Tryz.prog KK 46 [.agg (Catalog.cells x0 v0_0 v0_1 v0_2 v0_3)] w fun v w'=>∃ (F':Frz) (q0:Val),v = q0 ∧ St X w F F' [.row Snap.t q0 (r),.row Snap.t v0_0 x0.snaps,.row Chunk.t v0_1 x0.chunks,.row Exp.t v0_2 x0.exps,.row Vol.t v0_3 x0.vols] w':=by
 refine qa1 Tryz.func46 ?_;dsimp only [zbt] at H;refine qs ?_;refine xm (E_bx (cs:=[.i .i64 x0.seq,v0_0,v0_1,v0_2,v0_3]) rfl rfl (by simp only [List.all_cons,List.all_nil,List.all_append,(hS.rowLn (k:=0) rfl).one,(hS.rowLn (k:=1) rfl).one,(hS.rowLn (k:=2) rfl).one,(hS.rowLn (k:=3) rfl).one]; rfl) hS) ?_;rintro _ w1 ⟨g1,rfl,hS1⟩;refine qm ?_;refine qs ?_;refine qm ?_;refine zao (fun E wq=>∃ l3:List Snap,zbt.k1 l3 = some r ∧ ∃ (F2:Frz) (u4:Val),E = [(3,u4)] ∧ F.le F2 ∧ St X w F F2 [.row Snap.t v0_0 x0.snaps,.row Chunk.t v0_1 x0.chunks,.row Exp.t v0_2 x0.exps,.row Vol.t v0_3 x0.vols,.row Snap.t u4 l3] wq) ?_ ?_
 ·refine qs ?_;refine qf Ty.zce ?_;refine qb 0 Ty.zfa hS1 ?_;refine qr (zbw Tryz.underlying34 rfl (hS1.rowLn (k:=1) rfl)) ?_;refine qm ?_;refine zaw ?_;refine zbq (fun (s:(List Snap) × Int) E wq=>∃ (F6:Frz) (u8:Val),E = [(1,pl g1 0),(3,u8),(7,v0_0),(8,.i .i64 (x0.snaps.length:Int)),(9,.i .i64 s.2)] ∧ F.le F6 ∧ St X w F F6 [.box g1 [.i .i64 x0.seq,v0_0,v0_1,v0_2,v0_3],.row Snap.t v0_0 x0.snaps,.row Chunk.t v0_1 x0.chunks,.row Exp.t v0_2 x0.exps,.row Vol.t v0_3 x0.vols,.row Snap.t u8 s.1] wq) H ?_ ?_
  ·have hS32:=hS1.nilRow Snap.t;exact ⟨_,⟨F,(.sl none 0 (.k 0)),rfl,(Frz.le.refl _),hS32.pick [1,2,3,4,5,0] (by decide)⟩,⟨rfl,rfl,rfl,rfl,rfl,trivial⟩⟩
  ·rintro rec11 ⟨l7,i10⟩ E w6 hI H
   try dsimp only at hI
   obtain ⟨F6,u8,rfl,le6,hS6⟩:=hI;dsimp only [zbt.l2] at H;refine qs ?_;refine qr (zah rfl rfl zbr) ?_;refine qn ?_;refine zay ?_;refine qy H (fun hc12 H=>?_) (fun hc12 H=>?_)
   ·refine qk ?_;refine zao (fun E wq=>∃ l14:List Snap,zbt.k3 i10 rec11 l14 = some r ∧ ∃ (F13:Frz) (u15:Val),E = [(1,pl g1 0),(3,u15),(7,v0_0),(8,.i .i64 (x0.snaps.length:Int)),(9,.i .i64 i10)] ∧ F6.le F13 ∧ St X w F F13 [.box g1 [.i .i64 x0.seq,v0_0,v0_1,v0_2,v0_3],.row Snap.t v0_0 x0.snaps,.row Chunk.t v0_1 x0.chunks,.row Exp.t v0_2 x0.exps,.row Vol.t v0_3 x0.vols,.row Snap.t u15 l14] wq) ?_ ?_
    ·refine zaw ?_;obtain ⟨x17,hx17,H⟩:=zaq H;refine qs ?_;obtain ⟨hp20,hy20⟩:=zab hx17;obtain ⟨cs20,hr20,he20⟩:=hS6.rowAt (k:=1) rfl hy20;obtain ⟨ue18_0,ue18_1,rfl,hue18_0,hue18_1⟩:=hr20;replace he20:=qj 4 he20;have hi20:=he20.ixd;refine qi Tryz.underlying34 Ty.zcs hi20 hp20 ?_;refine qr (zha 0 (Snap.cells x17 ue18_0 ue18_1) Ty.zvc Ty.zcs rfl he20 (by omega) rfl (Nat.le_of_ble_eq_true rfl)) ?_;refine xm (zgk (cs:=[.i .i64 0,.s [],.sl none 0 (.k 0),.sl none 0 (.k 0)]) Ty.zero46 rfl hS6) ?_;rintro _ w19 ⟨g19,rfl,hS19⟩;refine um (zef (c:=[.i .i64 x17.seq,.s x17.man.name,ue18_0,ue18_1]) 0 ([.i .i64 x17.seq,.s x17.man.name,ue18_0,ue18_1]) rfl rfl hS19 rfl rfl Ty.zcs (by simp only [List.all_cons,List.all_nil,List.all_append,hue18_0.ln.one,hue18_1.ln.one]; rfl) rfl rfl) ?_;rintro _ w21 hS21;refine qn ?_;obtain ⟨r22,hr22,H⟩:=zaq H;refine qs ?_;refine qr (zdh 1 (Catalog.cells x0 v0_0 v0_1 v0_2 v0_3) Ty.zqr Ty.zhw (Nat.zero_lt_succ _) rfl hS21 rfl (fun q u h=>zcy (post:=[]) rfl h)) ?_;refine qr (zdh 0 (Snap.cells x17 ue18_0 ue18_1) Ty.zvc Ty.zcs (Nat.zero_lt_succ _) rfl hS21 rfl (fun q u h=>zcy (post:=[]) rfl h)) ?_;refine lm (zsb (Gd.now hS21.wf) (hS21.rowNow (k:=2) rfl) (hS21.rowNow (k:=3) rfl) (hS21.rowNow (k:=4) rfl) (hS21.rowNow (k:=5) rfl) (hue18_0.mono hS21.agree) (hue18_1.mono hS21.agree) hr22) ?_;rintro v23 w23 ⟨Fr22,rfl,hT23⟩;have hS23:=hS21.lent hT23;refine qn ?_;refine qy H (fun hc24 H=>?_) (fun hc24 H=>?_)
     ·obtain ⟨F25,le25,hbx25,hS25⟩:=hS23.freezeB 0 [1,2,3,4,5,6] rfl (by decide) (by decide);obtain ⟨r27,hr27,l28,hl28,H⟩:=bd2 H;refine zba (G:=F25) [0,1,3,4,2,5,6] rfl Ty.mixed (by kernel_rfl) hS25.agree ?_;refine q2 ?_;refine qr (O_fldg (Snap.cells x17 ue18_0 ue18_1) Ty.zvc Ty.zcs (Nat.zero_lt_succ _) rfl hbx25 (fun q u h=>zcy (post:=[]) rfl h)) ?_;refine qx (E_bs (t:=Snap.t) (vs:=[.agg (Snap.cells x17 ue18_0 ue18_1)]) (xs:=[x17]) Tryz.underlying34 Ty.row46 rfl ⟨⟨ue18_0,ue18_1,rfl,(hue18_0.mono le25),(hue18_1.mono le25)⟩,trivial⟩ rfl rfl hS25) ?_;rintro u26 w26 hS26;refine Nxt.frz (Frz.le.refl _) hS26.agree ?_;refine ql (zfj (hS26.lendRow 6 rfl) (hue18_0.mono le25) (hue18_1.mono le25) hbx25 hr27) ?_;rintro ur27_0 w30 ⟨Fr27,_,rfl,hT30⟩;have hS30:=hS26.backRow 6 [0,1,2,3,4,5] rfl (by decide) (by decide) hT30;have ler27:=hT30.ext;refine Nxt.frz ler27 hS30.agree ?_;refine qx (zft (t:=Snap.t) 0 Tryz.underlying34 Ty.row46 Ty.zk34 rfl rfl hS30 rfl (hS30.rowSrc (k:=1) rfl) hl28) ?_;rintro v29 w29 hS29;refine Nxt.frz (Frz.le.refl _) hS29.agree ?_;refine qc ?_;refine zbk ?_;refine zbg ?_;exact zbb _ ⟨l28,H,⟨Fr27,v29,rfl,(le25.trans ler27),hS29.pick [2,3,4,5,6,0] (by decide)⟩⟩ ⟨rfl,rfl,rfl,rfl,rfl,trivial⟩
     ·refine zeu ?_;refine zbg ?_;exact zbb _ ⟨l7,H,⟨F6,u8,rfl,(Frz.le.refl _),hS23.pick [1,2,3,4,5,6] (by decide)⟩⟩ ⟨rfl,rfl,rfl,rfl,rfl,trivial⟩
    ·rintro E w13 ⟨l14,H,F13,u15,rfl,le13,hS13⟩;dsimp only [zbt.k3] at H;refine qd ?_;refine q2 ?_;refine zbk ?_;exact zbe (l14,wr (i10 + 1)) _ H ⟨F13,u15,rfl,(le6.trans le13),hS13⟩ ⟨rfl,rfl,rfl,rfl,rfl,trivial⟩
   ·refine zci _ rfl ?_;exact zbb _ ⟨l7,H,⟨F6,u8,rfl,le6,hS6.pick [1,2,3,4,5] (by decide)⟩⟩ ⟨rfl,trivial⟩
 ·rintro E w2 ⟨l3,H,F2,u4,rfl,le2,hS2⟩;dsimp only [zbt.k1] at H;refine qs ?_;refine qc ?_;refine qm ?_;obtain rfl:=oi H;refine qt ?_;exact ⟨F2,u4,rfl,hS2.pick [4,0,1,2,3] (by decide)⟩
def zhk (x0:List Loc):Option (List Loc) :=
  bd (zbm x0) fun r1 =>
  bd (sortM znp r1) fun r3 =>
  bd (zaf r3) fun r5 =>
  bd (zbm r5) fun r6 =>
  some r6
theorem znn {x0:List Loc} {r:(List Loc)} {v0:Val} (hA:Gd F w) (h0:SlF Loc.t F v0 x0) (H:zhk x0 = some r):Ret Tryz.prog KK 47 [v0] w fun v w'=>∃ (F':Frz) (q0:Val),v = q0 ∧ St [] w F F' [.row Loc.t q0 (r)] w':=by
 refine qa1 Tryz.func47 ?_;have hS:=St.start hA;dsimp only [zhk] at H;refine qs ?_;refine qm ?_;obtain ⟨r1,hr1,H⟩:=zaq H;refine qs ?_;refine qc ?_;refine lm (zcw hS.good h0 hr1) ?_;rintro ur1_0 w2 ⟨Fr1,_,rfl,hT2⟩;have hS2:=hS.call hT2;have ler1:=hT2.ext;refine qm ?_;obtain ⟨r3,hr3,H⟩:=zaq H;refine qs ?_;refine qc ?_;refine lm (sortLoc_ok (hS2.lendRow 0 rfl) hr3) ?_;rintro v4 w4 ⟨Fr3,rfl,hT4⟩;have hS4:=hS2.backRow 0 [] rfl (by decide) (by decide) hT4;have ler3:=hT4.ext;refine qn ?_;obtain ⟨r5,hr5,r6,hr6,H⟩:=bd2 H;refine qs ?_;refine qc ?_;refine lm (zim (hS4.lendRow 0 rfl) hr5) ?_;rintro ur5_0 w7 ⟨Fr5,_,rfl,hT7⟩;have hS7:=hS4.backRow 0 [] rfl (by decide) (by decide) hT7;have ler5:=hT7.ext;refine lm (zcw (Gd.now hS7.wf) (hS7.rowNow (k:=0) rfl) hr6) ?_;rintro ur6_0 w8 ⟨Fr6,_,rfl,hT8⟩;have hS8:=hS7.lentFlat hT8 ⟨fun _ _ _ h=>row_flat (t:=Loc.t) (fun h=>h) h,trivial⟩;refine qm ?_;obtain rfl:=oi H;refine qt ?_;exact ⟨Fr5,ur6_0,rfl,hS8.pick [0] (by decide)⟩
def zau.k4 (i26:Int) (l27:List Vol) (l35:List Snap) (l37:List Chunk) (l39:List Exp):Option (Catalog × Int) :=
  bd (zjd (Catalog.mk i26 l35 l37 l39 l27)) fun r40 =>
  if decide (r40 ≠ 0) then
    some ((Catalog.mk 0 [] [] [] []),1)
  else
    bd (zbh (Catalog.mk i26 l35 l37 l39 l27)) fun r54 =>
    some (r54,0)
def zau.l5 (l17:List Exp) (i26:Int) (l27:List Vol) (l35:List Snap) (l37:List Chunk) (rec70:(Int × (List Exp)) → Option (Catalog × Int)):(Int × (List Exp)) → Option (Catalog × Int)
  | (i68,l69) =>
    if decide (i68 < (l17.length:Int)) then
      bd (ix l69 i68) fun x72 =>
      bd (zhk x72.locs) fun r74 =>
      rec70 (wr (i68 + 1),(l69.set i68.toNat (Exp.mk x72.seq x72.of r74)))
    else
      zau.k4 i26 l27 l35 l37 l69
def zau.k3 (l17:List Exp) (i26:Int) (l27:List Vol) (l35:List Snap) (l37:List Chunk):Option (Catalog × Int) :=
  loop (zau.l5 l17 i26 l27 l35 l37) (0,l17)
def zau.l6 (l17:List Exp) (l20:List Chunk) (i26:Int) (l27:List Vol) (l35:List Snap) (rec83:(Int × (List Chunk)) → Option (Catalog × Int)):(Int × (List Chunk)) → Option (Catalog × Int)
  | (i81,l82) =>
    if decide (i81 < (l20.length:Int)) then
      bd (ix l82 i81) fun x85 =>
      bd (zhk x85.locs) fun r87 =>
      rec83 (wr (i81 + 1),(l82.set i81.toNat (Chunk.mk x85.id x85.staged x85.data r87)))
    else
      zau.k3 l17 i26 l27 l35 l82
def zau.k2 (l17:List Exp) (l20:List Chunk) (i26:Int) (l27:List Vol) (l35:List Snap):Option (Catalog × Int) :=
  loop (zau.l6 l17 l20 i26 l27 l35) (0,l20)
def zau.l7 (l17:List Exp) (l20:List Chunk) (i26:Int) (l27:List Vol) (r28:(List Snap)) (rec96:(Int × (List Snap)) → Option (Catalog × Int)):(Int × (List Snap)) → Option (Catalog × Int)
  | (i94,l95) =>
    if decide (i94 < (r28.length:Int)) then
      bd (ix l95 i94) fun x98 =>
      bd (zhk x98.locs) fun r100 =>
      rec96 (wr (i94 + 1),(l95.set i94.toNat (Snap.mk x98.seq x98.man r100)))
    else
      zau.k2 l17 l20 i26 l27 l95
def zau.k1 (l17:List Exp) (l20:List Chunk) (l23:List Snap) (i26:Int) (l27:List Vol):Option (Catalog × Int) :=
  bd (zbt (Catalog.mk i26 l23 l20 l17 l27)) fun r28 =>
  loop (zau.l7 l17 l20 i26 l27 r28) (0,r28)
def zau.k9 (i107:Int) (rec119:(Int × (List Exp) × (List Chunk) × (List Snap) × Int × (List Vol)) → Option (Catalog × Int)) (l122:List Exp) (l125:List Chunk) (l128:List Snap) (i131:Int) (l132:List Vol):Option (Catalog × Int) :=
  rec119 (wr (i107 + 1),l122,l125,l128,i131,l132)
def zau.l8 (x1:List Found) (rec119:(Int × (List Exp) × (List Chunk) × (List Snap) × Int × (List Vol)) → Option (Catalog × Int)):(Int × (List Exp) × (List Chunk) × (List Snap) × Int × (List Vol)) → Option (Catalog × Int)
  | (i107,l108,l111,l114,i117,l118) =>
    if decide (i107 < (x1.length:Int)) then
      bd (ix x1 i107) fun x133 =>
      if decide (x133.rec_.kind = 1) then
        bd (zeb (Catalog.mk i117 l114 l111 l108 l118) x133) fun r139 =>
        zau.k9 i107 rec119 r139.exps r139.chunks r139.snaps r139.seq r139.vols
      else
        if decide (x133.rec_.kind = 2) then
          bd (zex (Catalog.mk i117 l114 l111 l108 l118) x133) fun r142 =>
          zau.k9 i107 rec119 r142.exps r142.chunks r142.snaps r142.seq r142.vols
        else
          if decide (x133.rec_.kind = 3) then
            bd (zga (Catalog.mk i117 l114 l111 l108 l118) x133) fun r145 =>
            zau.k9 i107 rec119 r145.exps r145.chunks r145.snaps r145.seq r145.vols
          else
            zau.k9 i107 rec119 l108 l111 l114 i117 l118
    else
      zau.k1 l108 l111 l114 i117 l118
def zau (x0:List Vol) (x1:List Found):Option (Catalog × Int) :=
  bd (zcu x0) fun r5 =>
  loop (zau.l8 x1) (0,[],[],[],0,r5)
set_option maxHeartbeats 2000000 in
theorem ziu {x0:List Vol} {x1:List Found} {r:Catalog × Int} {v0:Val} {v1:Val} (hA:Gd F w) (h0:SlF Vol.t F v0 x0) (h1:SlF Found.t F v1 x1) (H:zau x0 x1 = some r):Ret Tryz.prog KK 12 [v0,v1] w fun v w'=>∃ (F':Frz) (q0_0:Val) (q0_1:Val) (q0_2:Val) (q0_3:Val),v = .tup [.agg (Catalog.cells r.1 q0_0 q0_1 q0_2 q0_3),.i .i64 r.2] ∧ SlF Snap.t F' q0_0 (r.1.snaps) ∧ SlF Chunk.t F' q0_1 (r.1.chunks) ∧ SlF Exp.t F' q0_2 (r.1.exps) ∧ SlF Vol.t F' q0_3 (r.1.vols) ∧ St [] w F F' [] w':=by
 refine qa2 Tryz.func12 ?_;have hS:=St.start hA;dsimp only [zau] at H;refine qs ?_;refine xm (zgk (cs:=[.i .i64 0,.sl none 0 (.k 0),.sl none 0 (.k 0),.sl none 0 (.k 0),.sl none 0 (.k 0)]) Ty.ztb rfl hS) ?_;rintro _ w1 ⟨g1,rfl,hS1⟩;have hS2:=hS1.nilDp Snap.o;have hS3:=hS2.nilDp Chunk.o;have hS4:=hS3.nilDp Exp.o;refine qm ?_;obtain ⟨r5,hr5,H⟩:=zaq H;refine qs ?_;refine qc ?_;refine lm (zgn hS4.good h0 hr5) ?_;rintro ur5_0 w13 ⟨Fr5,_,rfl,hT13⟩;have hS13:=hS4.call hT13;have ler5:=hT13.ext;have hcl14:=(hS13.rowLn (k:=0) rfl).cells;refine qr (zjz (vs:=[(4,ur5_0)]) (v:=.agg (Catalog.cells (Catalog.mk 0 [] [] [] r5) (.sl none 0 (.k 0)) (.sl none 0 (.k 0)) (.sl none 0 (.k 0)) ur5_0)) Ty.bld38 rfl (by simp only [zkf,hcl14]; rfl)) ?_;refine xm (zgk (cs:=[.i .i64 0,.sl none 0 (.k 0),.sl none 0 (.k 0),.sl none 0 (.k 0),.sl none 0 (.k 0)]) Ty.ztb rfl hS13) ?_;rintro _ w6 ⟨g6,rfl,hS6⟩;have hS7:=hS6.nilDp Snap.o;have hS8:=hS7.nilDp Chunk.o;have hS9:=hS8.nilDp Exp.o;refine um (zef (c:=[.i .i64 0,.sl none 0 (.k 0),.sl none 0 (.k 0),.sl none 0 (.k 0),ur5_0]) 3 ([.i .i64 0,.sl none 0 (.k 0),.sl none 0 (.k 0),.sl none 0 (.k 0),ur5_0]) rfl rfl hS9 rfl rfl Ty.zhw (by simp only [List.all_cons,List.all_nil,List.all_append,(hS9.rowLn (k:=4) rfl).one]; rfl) rfl rfl) ?_;rintro _ w15 hS15;have hS10:=hS15.nilDp Snap.o;have hS11:=hS10.nilDp Chunk.o;have hS12:=hS11.nilDp Exp.o;refine qn ?_;refine zao (fun E wq=>∃ l17:List Exp,∃ l20:List Chunk,∃ l23:List Snap,∃ i26:Int,∃ l27:List Vol,zau.k1 l17 l20 l23 i26 l27 = some r ∧ ∃ (F16:Frz) (u18:Val) (bs19:List Nat) (u21:Val) (bs22:List Nat) (u24:Val) (bs25:List Nat),E = [(4,pl g1 0),(6,pl g6 0)] ∧ Fr5.le F16 ∧ St [] w F F16 [.dp Exp.o bs19 u18 l17,.dp Chunk.o bs22 u21 l20,.dp Snap.o bs25 u24 l23,.box g6 [.i .i64 i26,u24,u21,u18,ur5_0],.row Vol.t ur5_0 l27,.dp Exp.o [] (.sl none 0 (.k 0)) [],.dp Chunk.o [] (.sl none 0 (.k 0)) [],.dp Snap.o [] (.sl none 0 (.k 0)) [],.box g1 [.i .i64 0,(.sl none 0 (.k 0)),(.sl none 0 (.k 0)),(.sl none 0 (.k 0)),.sl none 0 (.k 0)]] wq) ?_ ?_
 ·refine qs ?_;refine qc ?_;refine qr (zbw Tryz.underlying27 rfl h1.ln) ?_;refine qm ?_;refine zaw ?_;refine zbq (fun (s:Int × (List Exp) × (List Chunk) × (List Snap) × Int × (List Vol)) E wq=>∃ (F106:Frz) (u109:Val) (bs110:List Nat) (u112:Val) (bs113:List Nat) (u115:Val) (bs116:List Nat),E = [(4,pl g1 0),(6,pl g6 0),(15,v1),(16,.i .i64 (x1.length:Int)),(17,.i .i64 s.1)] ∧ Fr5.le F106 ∧ St [] w F F106 [.dp Exp.o bs110 u109 s.2.1,.dp Chunk.o bs113 u112 s.2.2.1,.dp Snap.o bs116 u115 s.2.2.2.1,.box g6 [.i .i64 s.2.2.2.2.1,u115,u112,u109,ur5_0],.row Vol.t ur5_0 s.2.2.2.2.2,.dp Exp.o [] (.sl none 0 (.k 0)) [],.dp Chunk.o [] (.sl none 0 (.k 0)) [],.dp Snap.o [] (.sl none 0 (.k 0)) [],.box g1 [.i .i64 0,(.sl none 0 (.k 0)),(.sl none 0 (.k 0)),(.sl none 0 (.k 0)),.sl none 0 (.k 0)]] wq) H ?_ ?_
  ·exact ⟨_,⟨Fr5,(.sl none 0 (.k 0)),[],(.sl none 0 (.k 0)),[],(.sl none 0 (.k 0)),[],rfl,(Frz.le.refl _),hS12.pick [0,1,2,6,7,8,9,10,11] (by decide)⟩,⟨rfl,rfl,rfl,rfl,rfl,trivial⟩⟩
  ·rintro rec119 ⟨i107,l108,l111,l114,i117,l118⟩ E w106 hI H
   try dsimp only at hI
   obtain ⟨F106,u109,bs110,u112,bs113,u115,bs116,rfl,le106,hS106⟩:=hI;dsimp only [zau.l8] at H;refine qs ?_;refine qr (zah rfl rfl zbr) ?_;refine qn ?_;refine zay ?_;refine qy H (fun hc120 H=>?_) (fun hc120 H=>?_)
   ·refine qk ?_;refine zao (fun E wq=>∃ l122:List Exp,∃ l125:List Chunk,∃ l128:List Snap,∃ i131:Int,∃ l132:List Vol,zau.k9 i107 rec119 l122 l125 l128 i131 l132 = some r ∧ ∃ (F121:Frz) (u123:Val) (bs124:List Nat) (u126:Val) (bs127:List Nat) (u129:Val) (bs130:List Nat),E = [(4,pl g1 0),(6,pl g6 0),(15,v1),(16,.i .i64 (x1.length:Int)),(17,.i .i64 i107)] ∧ F106.le F121 ∧ St [] w F F121 [.dp Exp.o bs124 u123 l122,.dp Chunk.o bs127 u126 l125,.dp Snap.o bs130 u129 l128,.box g6 [.i .i64 i131,u129,u126,u123,ur5_0],.row Vol.t ur5_0 l132,.dp Exp.o [] (.sl none 0 (.k 0)) [],.dp Chunk.o [] (.sl none 0 (.k 0)) [],.dp Snap.o [] (.sl none 0 (.k 0)) [],.box g1 [.i .i64 0,(.sl none 0 (.k 0)),(.sl none 0 (.k 0)),(.sl none 0 (.k 0)),.sl none 0 (.k 0)]] wq) ?_ ?_
    ·refine zaw ?_;obtain ⟨x133,hx133,H⟩:=zaq H;refine qs ?_;obtain ⟨hp136,hy136⟩:=zab hx133;obtain ⟨cs136,hr136,he136⟩:=(h1.mono (ler5.trans le106)).el hy136;obtain ⟨ue134_0,rfl,hue134_0⟩:=hr136;replace he136:=qj 7 he136;have hi136:=he136.ixd;refine qi Tryz.underlying27 Ty.zrk hi136 hp136 ?_;refine qr (zha 0 (Found.cells x133 ue134_0) Ty.agg53 Ty.zrk rfl (he136.mono hS106.agree) (by omega) rfl (Nat.le_of_ble_eq_true rfl)) ?_;refine xm (zgk (cs:=[.i .i64 0,.i .i64 0,.sl none 0 (.k 0),.i .i64 0,.i .i64 0,.i .i64 0,.i .i64 0]) Ty.zero53 rfl hS106) ?_;rintro _ w135 ⟨g135,rfl,hS135⟩;refine um (zef (c:=[.i .i64 x133.rec_.kind,.i .i64 x133.rec_.seq,ue134_0,.i .i64 x133.loc.vol,.i .i64 x133.loc.file,.i .i64 x133.loc.off,.i .i64 x133.loc.len]) 0 ([.i .i64 x133.rec_.kind,.i .i64 x133.rec_.seq,ue134_0,.i .i64 x133.loc.vol,.i .i64 x133.loc.file,.i .i64 x133.loc.off,.i .i64 x133.loc.len]) rfl rfl hS135 rfl rfl Ty.zrk (by simp only [List.all_cons,List.all_nil,List.all_append,hue134_0.ln.one]; rfl) rfl rfl) ?_;rintro _ w137 hS137;refine qn ?_;refine qs ?_;refine qf Ty.zgq ?_;refine qf Ty.field49_0 ?_;refine qb 0 Ty.zdj hS137 ?_;refine qn ?_;refine zaw ?_;refine qs ?_;refine qr (zah rfl rfl zdr) ?_;refine qm ?_;refine qy H (fun hc138 H=>?_) (fun hc138 H=>?_)
     ·obtain ⟨r139,hr139,H⟩:=zaq H;refine qd ?_;refine qr (zdh 0 (Found.cells x133 ue134_0) Ty.agg53 Ty.zrk (Nat.zero_lt_succ _) rfl hS137 rfl (fun q u h=>zcy (post:=[]) rfl h)) ?_;refine lm (zsd (x0:=(Catalog.mk i117 l114 l111 l108 l118)) (x1:=x133) (hS137.lendL [4,3,2,1,5] (by decide)) hue134_0 hr139) ?_;rintro v140 w140 ⟨Fr139,ur139_b0_1,bsr139_b0_1,ur139_b0_2,bsr139_b0_2,ur139_b0_3,bsr139_b0_3,rfl,hT140⟩;have hS140:=hS137.backL [4,3,2,1,5] [0,6,7,8,9] (by decide) (by decide) hT140;have ler139:=hT140.ext;refine zbk ?_;refine zbg ?_;refine zbg ?_;exact zbb _ ⟨r139.exps,r139.chunks,r139.snaps,r139.seq,r139.vols,H,⟨Fr139,ur139_b0_3,bsr139_b0_3,ur139_b0_2,bsr139_b0_2,ur139_b0_1,bsr139_b0_1,rfl,ler139,hS140.pick [3,2,1,0,4,6,7,8,9] (by decide)⟩⟩ ⟨rfl,rfl,rfl,rfl,rfl,trivial⟩
     ·refine qs ?_;refine qr (zah rfl rfl zdr) ?_;refine qm ?_;refine qy H (fun hc141 H=>?_) (fun hc141 H=>?_)
      ·obtain ⟨r142,hr142,H⟩:=zaq H;refine qd ?_;refine qr (zdh 0 (Found.cells x133 ue134_0) Ty.agg53 Ty.zrk (Nat.zero_lt_succ _) rfl hS137 rfl (fun q u h=>zcy (post:=[]) rfl h)) ?_;refine lm (ztp (x0:=(Catalog.mk i117 l114 l111 l108 l118)) (x1:=x133) (hS137.lendL [4,3,2,1,5] (by decide)) hue134_0 hr142) ?_;rintro v143 w143 ⟨Fr142,ur142_b0_1,bsr142_b0_1,ur142_b0_2,bsr142_b0_2,ur142_b0_3,bsr142_b0_3,rfl,hT143⟩;have hS143:=hS137.backL [4,3,2,1,5] [0,6,7,8,9] (by decide) (by decide) hT143;have ler142:=hT143.ext;refine zbk ?_;refine zbg ?_;refine zbg ?_;exact zbb _ ⟨r142.exps,r142.chunks,r142.snaps,r142.seq,r142.vols,H,⟨Fr142,ur142_b0_3,bsr142_b0_3,ur142_b0_2,bsr142_b0_2,ur142_b0_1,bsr142_b0_1,rfl,ler142,hS143.pick [3,2,1,0,4,6,7,8,9] (by decide)⟩⟩ ⟨rfl,rfl,rfl,rfl,rfl,trivial⟩
      ·refine qs ?_;refine qr (zah rfl rfl zdr) ?_;refine qm ?_;refine qy H (fun hc144 H=>?_) (fun hc144 H=>?_)
       ·obtain ⟨r145,hr145,H⟩:=zaq H;refine qd ?_;refine qr (zdh 0 (Found.cells x133 ue134_0) Ty.agg53 Ty.zrk (Nat.zero_lt_succ _) rfl hS137 rfl (fun q u h=>zcy (post:=[]) rfl h)) ?_;refine lm (zvh (x0:=(Catalog.mk i117 l114 l111 l108 l118)) (x1:=x133) (hS137.lendL [4,3,2,1,5] (by decide)) hue134_0 hr145) ?_;rintro v146 w146 ⟨Fr145,ur145_b0_1,bsr145_b0_1,ur145_b0_2,bsr145_b0_2,ur145_b0_3,bsr145_b0_3,rfl,hT146⟩;have hS146:=hS137.backL [4,3,2,1,5] [0,6,7,8,9] (by decide) (by decide) hT146;have ler145:=hT146.ext;refine zbk ?_;refine zbg ?_;refine zbg ?_;exact zbb _ ⟨r145.exps,r145.chunks,r145.snaps,r145.seq,r145.vols,H,⟨Fr145,ur145_b0_3,bsr145_b0_3,ur145_b0_2,bsr145_b0_2,ur145_b0_1,bsr145_b0_1,rfl,ler145,hS146.pick [3,2,1,0,4,6,7,8,9] (by decide)⟩⟩ ⟨rfl,rfl,rfl,rfl,rfl,trivial⟩
       ·refine zeu ?_;refine zbg ?_;refine zbg ?_;exact zbb _ ⟨l108,l111,l114,i117,l118,H,⟨F106,u109,bs110,u112,bs113,u115,bs116,rfl,(Frz.le.refl _),hS137.pick [1,2,3,4,5,6,7,8,9] (by decide)⟩⟩ ⟨rfl,rfl,rfl,rfl,rfl,trivial⟩
    ·rintro E w121 ⟨l122,l125,l128,i131,l132,H,F121,u123,bs124,u126,bs127,u129,bs130,rfl,le121,hS121⟩;dsimp only [zau.k9] at H;refine qd ?_;refine q2 ?_;refine zbk ?_;exact zbe (wr (i107 + 1),l122,l125,l128,i131,l132) _ H ⟨F121,u123,bs124,u126,bs127,u129,bs130,rfl,(le106.trans le121),hS121⟩ ⟨rfl,rfl,rfl,rfl,rfl,trivial⟩
   ·refine zci _ rfl ?_;exact zbb _ ⟨l108,l111,l114,i117,l118,H,⟨F106,u109,bs110,u112,bs113,u115,bs116,rfl,le106,hS106⟩⟩ ⟨rfl,rfl,trivial⟩
 ·rintro E w16 ⟨l17,l20,l23,i26,l27,H,F16,u18,bs19,u21,bs22,u24,bs25,rfl,le16,hS16⟩;dsimp only [zau.k1] at H;obtain ⟨r28,hr28,H⟩:=zaq H;refine qs ?_;refine qr (zdh 3 (Catalog.cells (Catalog.mk i26 l23 l20 l17 l27) u24 u21 u18 ur5_0) Ty.zqr Ty.zhw (Nat.zero_lt_succ _) rfl hS16 rfl (fun q u h=>zcy (post:=[]) rfl h)) ?_;obtain ⟨F30,le30,hS30⟩:=St.flatD Snap.sees 2 hS16 rfl;obtain ⟨F31,le31,hS31⟩:=St.flatD Chunk.sees 1 hS30 rfl;obtain ⟨F32,le32,hS32⟩:=St.flatD Exp.sees 0 hS31 rfl;refine lm (zsc (x0:=(Catalog.mk i26 l23 l20 l17 l27)) (hS32.lendL [2,1,0,4] (by decide)) hr28) ?_;rintro ur28_0 w29 ⟨Fr28,_,rfl,hT29⟩;have hS29:=hS32.backL [2,1,0,4] [3,5,6,7,8] (by decide) (by decide) hT29;have ler28:=hT29.ext;refine qf Ty.zce ?_;refine um (zef (c:=[ur28_0]) 5 ([.i .i64 i26,ur28_0,u21,u18,ur5_0]) rfl rfl hS29 rfl (hS29.rowLn (k:=0) rfl).cells Ty.size34 (by simp only [List.all_cons,List.all_nil,List.all_append,(hS29.rowLn (k:=0) rfl).one]; rfl) rfl rfl) ?_;rintro _ w33 hS33;refine qn ?_;refine zao (fun E wq=>∃ l35:List Snap,zau.k2 l17 l20 i26 l27 l35 = some r ∧ ∃ (F34:Frz),E = [(4,pl g1 0),(6,pl g6 0)] ∧ Fr28.le F34 ∧ St [] w F F34 [.row Snap.t ur28_0 l35,.row Chunk.t u21 l20,.row Exp.t u18 l17,.row Vol.t ur5_0 l27,.box g6 [.i .i64 i26,ur28_0,u21,u18,ur5_0],.dp Exp.o [] (.sl none 0 (.k 0)) [],.dp Chunk.o [] (.sl none 0 (.k 0)) [],.dp Snap.o [] (.sl none 0 (.k 0)) [],.box g1 [.i .i64 0,(.sl none 0 (.k 0)),(.sl none 0 (.k 0)),(.sl none 0 (.k 0)),.sl none 0 (.k 0)]] wq) ?_ ?_
  ·refine qs ?_;refine qf Ty.zce ?_;refine qb 5 Ty.zfa hS33 ?_;refine qr (zbw Tryz.underlying34 rfl (hS33.rowLn (k:=0) rfl)) ?_;refine qm ?_;refine zaw ?_;refine zbq (fun (s:Int × (List Snap)) E wq=>∃ (F93:Frz),E = [(4,pl g1 0),(6,pl g6 0),(42,.i .i64 (r28.length:Int)),(43,.i .i64 s.1)] ∧ Fr28.le F93 ∧ St [] w F F93 [.row Snap.t ur28_0 s.2,.row Chunk.t u21 l20,.row Exp.t u18 l17,.row Vol.t ur5_0 l27,.box g6 [.i .i64 i26,ur28_0,u21,u18,ur5_0],.dp Exp.o [] (.sl none 0 (.k 0)) [],.dp Chunk.o [] (.sl none 0 (.k 0)) [],.dp Snap.o [] (.sl none 0 (.k 0)) [],.box g1 [.i .i64 0,(.sl none 0 (.k 0)),(.sl none 0 (.k 0)),(.sl none 0 (.k 0)),.sl none 0 (.k 0)]] wq) H ?_ ?_
   ·exact ⟨_,⟨Fr28,rfl,(Frz.le.refl _),hS33.pick [0,2,3,4,5,6,7,8,9] (by decide)⟩,⟨rfl,rfl,rfl,rfl,trivial⟩⟩
   ·rintro rec96 ⟨i94,l95⟩ E w93 hI H
    try dsimp only at hI
    obtain ⟨F93,rfl,le93,hS93⟩:=hI;dsimp only [zau.l7] at H;refine qs ?_;refine qr (zah rfl rfl zbr) ?_;refine qn ?_;refine zay ?_;refine qy H (fun hc97 H=>?_) (fun hc97 H=>?_)
    ·refine qk ?_;refine zay ?_;refine zaw ?_;refine qs ?_;refine qc ?_;refine qm ?_;obtain ⟨x98,hx98,r100,hr100,H⟩:=bd2 H;have hb101:=hS93.boxAt 4 rfl;refine zba (G:=(F93.hold w93 [g6])) [0,1,2,3,4,5,6,7,8,9,10,11,12] rfl Ty.mixed (by kernel_rfl) (HB.agree (HB.cons 4 hb101 hS93 rfl HB.nil) hS93.agree) ?_;refine qf Ty.zce ?_;refine qr (zfb Ty.zfa rfl (hb101.held (HB.cons 4 hb101 hS93 rfl HB.nil) (by simp)) rfl) ?_;refine qc ?_;refine qf Ty.zce ?_;refine qbq 4 Ty.zfa hS93 ?_;refine qc ?_;obtain ⟨hp102,hy102⟩:=zab hx98;obtain ⟨cs102,hr102,he102⟩:=hS93.rowAt (k:=0) rfl hy102;obtain ⟨ue99_0,ue99_1,rfl,hue99_0,hue99_1⟩:=hr102;replace he102:=qj 4 he102;have hi102:=he102.ixd;refine qi Tryz.underlying34 Ty.zcs hi102 hp102 ?_;refine qr (zdz 3 Ty.zid rfl hi102) ?_;refine qq (zep 3 Ty.zja rfl he102 (by omega) rfl) ?_;refine ql (znn hS93.good hue99_1 hr100) ?_;rintro ur100_0 w103 ⟨Fr100,_,rfl,hT103⟩;have hS103:=hS93.call hT103;have ler100:=hT103.ext;refine Nxt.frz (HB.le (HB.cons 5 hb101 hS103 rfl HB.nil) ler100) (HB.agree (HB.cons 5 hb101 hS103 rfl HB.nil) hS103.agree) ?_;refine qi Tryz.underlying34 Ty.zcs hi102 hp102 ?_;refine qr (zdz 3 Ty.zid rfl hi102) ?_;obtain ⟨F105,le105,hf105,hS105⟩:=hS103.freezeR 0 [1,2,3,4,5,6,7,8,9] rfl (by decide) (by decide);refine W_rg (HB.le (HB.cons 4 hb101 hS105 rfl HB.nil) le105) (HB.agree (HB.cons 4 hb101 hS105 rfl HB.nil) hS105.agree) ?_;refine qu (zso (c:=[ur100_0]) 0 (i94.toNat) 3 x98 (Snap.mk x98.seq x98.man r100) rfl rfl hS105 rfl (zab hx98).2 (by first | rfl | (show _ = _ * 4 + _; omega)) hf105.ln.cells Ty.zps (by simp only [List.all_cons,List.all_nil,List.all_append,hf105.ln.one]; rfl) (Nat.le_of_ble_eq_true rfl) (by rintro cs ⟨a2,a3,rfl,b2,b3⟩; exact ⟨a2,ur100_0,rfl,b2,hf105⟩)) ?_;rintro _ w104 hS104;refine qh 4 hb101 hS104 ?_;refine zbk ?_;refine zbg ?_;refine zcl ?_;refine qd ?_;refine q2 ?_;refine zbk ?_;exact zbe (wr (i94 + 1),(l95.set i94.toNat (Snap.mk x98.seq x98.man r100))) _ H ⟨F105,rfl,((le93.trans ler100).trans le105),hS104⟩ ⟨rfl,rfl,rfl,rfl,trivial⟩
    ·refine zci _ rfl ?_;exact zbb _ ⟨l95,H,⟨F93,rfl,le93,hS93⟩⟩ ⟨rfl,rfl,trivial⟩
  ·rintro E w34 ⟨l35,H,F34,rfl,le34,hS34⟩;dsimp only [zau.k2] at H;refine zao (fun E wq=>∃ l37:List Chunk,zau.k3 l17 i26 l27 l35 l37 = some r ∧ ∃ (F36:Frz),E = [(4,pl g1 0),(6,pl g6 0)] ∧ F34.le F36 ∧ St [] w F F36 [.row Snap.t ur28_0 l35,.row Chunk.t u21 l37,.row Exp.t u18 l17,.row Vol.t ur5_0 l27,.box g6 [.i .i64 i26,ur28_0,u21,u18,ur5_0],.dp Exp.o [] (.sl none 0 (.k 0)) [],.dp Chunk.o [] (.sl none 0 (.k 0)) [],.dp Snap.o [] (.sl none 0 (.k 0)) [],.box g1 [.i .i64 0,(.sl none 0 (.k 0)),(.sl none 0 (.k 0)),(.sl none 0 (.k 0)),.sl none 0 (.k 0)]] wq) ?_ ?_
   ·refine qs ?_;refine qf Ty.zdg ?_;refine qb 4 Ty.zhx hS34 ?_;refine qr (zbw Tryz.underlying35 rfl (hS34.rowLn (k:=1) rfl)) ?_;refine qm ?_;refine zaw ?_;refine zbq (fun (s:Int × (List Chunk)) E wq=>∃ (F80:Frz),E = [(4,pl g1 0),(6,pl g6 0),(61,.i .i64 (l20.length:Int)),(62,.i .i64 s.1)] ∧ F34.le F80 ∧ St [] w F F80 [.row Snap.t ur28_0 l35,.row Chunk.t u21 s.2,.row Exp.t u18 l17,.row Vol.t ur5_0 l27,.box g6 [.i .i64 i26,ur28_0,u21,u18,ur5_0],.dp Exp.o [] (.sl none 0 (.k 0)) [],.dp Chunk.o [] (.sl none 0 (.k 0)) [],.dp Snap.o [] (.sl none 0 (.k 0)) [],.box g1 [.i .i64 0,(.sl none 0 (.k 0)),(.sl none 0 (.k 0)),(.sl none 0 (.k 0)),.sl none 0 (.k 0)]] wq) H ?_ ?_
    ·exact ⟨_,⟨F34,rfl,(Frz.le.refl _),hS34⟩,⟨rfl,rfl,rfl,rfl,trivial⟩⟩
    ·rintro rec83 ⟨i81,l82⟩ E w80 hI H
     try dsimp only at hI
     obtain ⟨F80,rfl,le80,hS80⟩:=hI;dsimp only [zau.l6] at H;refine qs ?_;refine qr (zah rfl rfl zbr) ?_;refine qn ?_;refine zay ?_;refine qy H (fun hc84 H=>?_) (fun hc84 H=>?_)
     ·refine qk ?_;refine zay ?_;refine zaw ?_;refine qs ?_;refine qc ?_;refine qm ?_;obtain ⟨x85,hx85,r87,hr87,H⟩:=bd2 H;have hb88:=hS80.boxAt 4 rfl;refine zba (G:=(F80.hold w80 [g6])) [0,1,2,3,4,5,6,7,8,9,10,11,12] rfl Ty.mixed (by kernel_rfl) (HB.agree (HB.cons 4 hb88 hS80 rfl HB.nil) hS80.agree) ?_;refine qf Ty.zdg ?_;refine qr (zfb Ty.zhx rfl (hb88.held (HB.cons 4 hb88 hS80 rfl HB.nil) (by simp)) rfl) ?_;refine qc ?_;refine qf Ty.zdg ?_;refine qbq 4 Ty.zhx hS80 ?_;refine qc ?_;obtain ⟨hp89,hy89⟩:=zab hx85;obtain ⟨cs89,hr89,he89⟩:=hS80.rowAt (k:=1) rfl hy89;obtain ⟨ue86_0,ue86_1,rfl,hle86_0,hue86_0,hue86_1⟩:=hr89;replace he89:=qj 35 he89;have hi89:=he89.ixd;refine qi Tryz.underlying35 Ty.zfu hi89 hp89 ?_;refine qr (zdz 34 Ty.zic rfl hi89) ?_;refine qq (zep 34 Ty.zja rfl he89 (by omega) rfl) ?_;refine ql (znn hS80.good hue86_1 hr87) ?_;rintro ur87_0 w90 ⟨Fr87,_,rfl,hT90⟩;have hS90:=hS80.call hT90;have ler87:=hT90.ext;refine Nxt.frz (HB.le (HB.cons 5 hb88 hS90 rfl HB.nil) ler87) (HB.agree (HB.cons 5 hb88 hS90 rfl HB.nil) hS90.agree) ?_;refine qi Tryz.underlying35 Ty.zfu hi89 hp89 ?_;refine qr (zdz 34 Ty.zic rfl hi89) ?_;obtain ⟨F92,le92,hf92,hS92⟩:=hS90.freezeR 0 [1,2,3,4,5,6,7,8,9] rfl (by decide) (by decide);refine W_rg (HB.le (HB.cons 4 hb88 hS92 rfl HB.nil) le92) (HB.agree (HB.cons 4 hb88 hS92 rfl HB.nil) hS92.agree) ?_;refine qu (zso (c:=[ur87_0]) 1 (i81.toNat) 34 x85 (Chunk.mk x85.id x85.staged x85.data r87) rfl rfl hS92 rfl (zab hx85).2 (by first | rfl | (show _ = _ * 35 + _; omega)) hf92.ln.cells Ty.zps (by simp only [List.all_cons,List.all_nil,List.all_append,hf92.ln.one]; rfl) (Nat.le_of_ble_eq_true rfl) (by rintro cs ⟨a2,a3,rfl,c0,b2,b3⟩; exact ⟨a2,ur87_0,rfl,c0,b2,hf92⟩)) ?_;rintro _ w91 hS91;refine qh 4 hb88 hS91 ?_;refine zbk ?_;refine zbg ?_;refine zcl ?_;refine qd ?_;refine q2 ?_;refine zbk ?_;exact zbe (wr (i81 + 1),(l82.set i81.toNat (Chunk.mk x85.id x85.staged x85.data r87))) _ H ⟨F92,rfl,((le80.trans ler87).trans le92),hS91⟩ ⟨rfl,rfl,rfl,rfl,trivial⟩
     ·refine zci _ rfl ?_;exact zbb _ ⟨l82,H,⟨F80,rfl,le80,hS80⟩⟩ ⟨rfl,rfl,trivial⟩
   ·rintro E w36 ⟨l37,H,F36,rfl,le36,hS36⟩;dsimp only [zau.k3] at H;refine zao (fun E wq=>∃ l39:List Exp,zau.k4 i26 l27 l35 l37 l39 = some r ∧ ∃ (F38:Frz),E = [(4,pl g1 0),(6,pl g6 0)] ∧ F36.le F38 ∧ St [] w F F38 [.row Snap.t ur28_0 l35,.row Chunk.t u21 l37,.row Exp.t u18 l39,.row Vol.t ur5_0 l27,.box g6 [.i .i64 i26,ur28_0,u21,u18,ur5_0],.dp Exp.o [] (.sl none 0 (.k 0)) [],.dp Chunk.o [] (.sl none 0 (.k 0)) [],.dp Snap.o [] (.sl none 0 (.k 0)) [],.box g1 [.i .i64 0,(.sl none 0 (.k 0)),(.sl none 0 (.k 0)),(.sl none 0 (.k 0)),.sl none 0 (.k 0)]] wq) ?_ ?_
    ·refine qs ?_;refine qf Ty.zem ?_;refine qb 4 Ty.zjv hS36 ?_;refine qr (zbw Tryz.underlying36 rfl (hS36.rowLn (k:=2) rfl)) ?_;refine qm ?_;refine zaw ?_;refine zbq (fun (s:Int × (List Exp)) E wq=>∃ (F67:Frz),E = [(4,pl g1 0),(6,pl g6 0),(80,.i .i64 (l17.length:Int)),(81,.i .i64 s.1)] ∧ F36.le F67 ∧ St [] w F F67 [.row Snap.t ur28_0 l35,.row Chunk.t u21 l37,.row Exp.t u18 s.2,.row Vol.t ur5_0 l27,.box g6 [.i .i64 i26,ur28_0,u21,u18,ur5_0],.dp Exp.o [] (.sl none 0 (.k 0)) [],.dp Chunk.o [] (.sl none 0 (.k 0)) [],.dp Snap.o [] (.sl none 0 (.k 0)) [],.box g1 [.i .i64 0,(.sl none 0 (.k 0)),(.sl none 0 (.k 0)),(.sl none 0 (.k 0)),.sl none 0 (.k 0)]] wq) H ?_ ?_
     ·exact ⟨_,⟨F36,rfl,(Frz.le.refl _),hS36⟩,⟨rfl,rfl,rfl,rfl,trivial⟩⟩
     ·rintro rec70 ⟨i68,l69⟩ E w67 hI H
      try dsimp only at hI
      obtain ⟨F67,rfl,le67,hS67⟩:=hI;dsimp only [zau.l5] at H;refine qs ?_;refine qr (zah rfl rfl zbr) ?_;refine qn ?_;refine zay ?_;refine qy H (fun hc71 H=>?_) (fun hc71 H=>?_)
      ·refine qk ?_;refine zay ?_;refine zaw ?_;refine qs ?_;refine qc ?_;refine qm ?_;obtain ⟨x72,hx72,r74,hr74,H⟩:=bd2 H;have hb75:=hS67.boxAt 4 rfl;refine zba (G:=(F67.hold w67 [g6])) [0,1,2,3,4,5,6,7,8,9,10,11,12] rfl Ty.mixed (by kernel_rfl) (HB.agree (HB.cons 4 hb75 hS67 rfl HB.nil) hS67.agree) ?_;refine qf Ty.zem ?_;refine qr (zfb Ty.zjv rfl (hb75.held (HB.cons 4 hb75 hS67 rfl HB.nil) (by simp)) rfl) ?_;refine qc ?_;refine qf Ty.zem ?_;refine qbq 4 Ty.zjv hS67 ?_;refine qc ?_;obtain ⟨hp76,hy76⟩:=zab hx72;obtain ⟨cs76,hr76,he76⟩:=hS67.rowAt (k:=2) rfl hy76;obtain ⟨ue73_0,rfl,hue73_0⟩:=hr76;replace he76:=qj 3 he76;have hi76:=he76.ixd;refine qi Tryz.underlying36 Ty.zfm hi76 hp76 ?_;refine qr (zdz 2 Ty.zjs rfl hi76) ?_;refine qq (zep 2 Ty.zja rfl he76 (by omega) rfl) ?_;refine ql (znn hS67.good hue73_0 hr74) ?_;rintro ur74_0 w77 ⟨Fr74,_,rfl,hT77⟩;have hS77:=hS67.call hT77;have ler74:=hT77.ext;refine Nxt.frz (HB.le (HB.cons 5 hb75 hS77 rfl HB.nil) ler74) (HB.agree (HB.cons 5 hb75 hS77 rfl HB.nil) hS77.agree) ?_;refine qi Tryz.underlying36 Ty.zfm hi76 hp76 ?_;refine qr (zdz 2 Ty.zjs rfl hi76) ?_;obtain ⟨F79,le79,hf79,hS79⟩:=hS77.freezeR 0 [1,2,3,4,5,6,7,8,9] rfl (by decide) (by decide);refine W_rg (HB.le (HB.cons 4 hb75 hS79 rfl HB.nil) le79) (HB.agree (HB.cons 4 hb75 hS79 rfl HB.nil) hS79.agree) ?_;refine qu (zso (c:=[ur74_0]) 2 (i68.toNat) 2 x72 (Exp.mk x72.seq x72.of r74) rfl rfl hS79 rfl (zab hx72).2 (by first | rfl | (show _ = _ * 3 + _; omega)) hf79.ln.cells Ty.zps (by simp only [List.all_cons,List.all_nil,List.all_append,hf79.ln.one]; rfl) (Nat.le_of_ble_eq_true rfl) (by rintro cs ⟨a2,rfl,b2⟩; exact ⟨ur74_0,rfl,hf79⟩)) ?_;rintro _ w78 hS78;refine qh 4 hb75 hS78 ?_;refine zbk ?_;refine zbg ?_;refine zcl ?_;refine qd ?_;refine q2 ?_;refine zbk ?_;exact zbe (wr (i68 + 1),(l69.set i68.toNat (Exp.mk x72.seq x72.of r74))) _ H ⟨F79,rfl,((le67.trans ler74).trans le79),hS78⟩ ⟨rfl,rfl,rfl,rfl,trivial⟩
      ·refine zci _ rfl ?_;exact zbb _ ⟨l69,H,⟨F67,rfl,le67,hS67⟩⟩ ⟨rfl,rfl,trivial⟩
    ·rintro E w38 ⟨l39,H,F38,rfl,le38,hS38⟩;dsimp only [zau.k4] at H;refine zay ?_;obtain ⟨r40,hr40,H⟩:=zaq H;refine qs ?_;refine qr (zdh 4 (Catalog.cells (Catalog.mk i26 l35 l37 l39 l27) ur28_0 u21 u18 ur5_0) Ty.zqr Ty.zhw (Nat.zero_lt_succ _) rfl hS38 rfl (fun q u h=>zcy (post:=[]) rfl h)) ?_;refine lm (zsm (Gd.now hS38.wf) (hS38.rowNow (k:=0) rfl) (hS38.rowNow (k:=1) rfl) (hS38.rowNow (k:=2) rfl) (hS38.rowNow (k:=3) rfl) hr40) ?_;rintro v41 w41 ⟨Fr40,rfl,hT41⟩;have hS41:=hS38.lent hT41;refine qr (zah rfl rfl zeh) ?_;refine qn ?_;refine qy H (fun hc42 H=>?_) (fun hc42 H=>?_)
     ·refine qs ?_;refine W_c (v:=.agg (Catalog.cells (Catalog.mk 0 [] [] [] []) (.sl none 0 (.k 0)) (.sl none 0 (.k 0)) (.sl none 0 (.k 0)) (.sl none 0 (.k 0)))) rfl rfl rfl rfl (fun _=>rfl) ?_;refine um (zef (c:=[.i .i64 0,.sl none 0 (.k 0),.sl none 0 (.k 0),.sl none 0 (.k 0),.sl none 0 (.k 0)]) 8 ([.i .i64 0,.sl none 0 (.k 0),.sl none 0 (.k 0),.sl none 0 (.k 0),.sl none 0 (.k 0)]) rfl rfl hS41 rfl rfl Ty.zhw rfl rfl rfl) ?_;rintro _ w46 hS46;have hS43:=hS46.nilDp Snap.o;have hS44:=hS43.nilDp Chunk.o;have hS45:=hS44.nilDp Exp.o;refine qm ?_;obtain ⟨F47,le47,hS47⟩:=St.flatD Snap.sees 2 hS45 rfl;obtain ⟨F48,le48,hf48,hS48⟩:=hS47.freezeR 2 [0,1,3,4,5,6,7,8,9,10,11] rfl (by decide) (by decide);obtain ⟨F49,le49,hS49⟩:=St.flatD Chunk.sees 1 hS48 rfl;obtain ⟨F50,le50,hf50,hS50⟩:=hS49.freezeR 1 [0,2,3,4,5,6,7,8,9,10] rfl (by decide) (by decide);obtain ⟨F51,le51,hS51⟩:=St.flatD Exp.sees 0 hS50 rfl;obtain ⟨F52,le52,hf52,hS52⟩:=hS51.freezeR 0 [1,2,3,4,5,6,7,8,9] rfl (by decide) (by decide);have hS53:St [] w F F52 [.row Snap.t ur28_0 l35,.row Chunk.t u21 l37,.row Exp.t u18 l39,.row Vol.t ur5_0 l27,.box g6 [.i .i64 i26,ur28_0,u21,u18,ur5_0],.dp Exp.o [] (.sl none 0 (.k 0)) [],.dp Chunk.o [] (.sl none 0 (.k 0)) [],.dp Snap.o [] (.sl none 0 (.k 0)) [],.box g1 [.i .i64 0,(.sl none 0 (.k 0)),(.sl none 0 (.k 0)),(.sl none 0 (.k 0)),.sl none 0 (.k 0)]] _:=hS52;obtain rfl:=oi H;refine znc (vs:=[.agg (Catalog.cells (Catalog.mk 0 [] [] [] []) (.sl none 0 (.k 0)) (.sl none 0 (.k 0)) (.sl none 0 (.k 0)) (.sl none 0 (.k 0))),.i .i64 1]) rfl ⟨(zjy 8 Ty.zqr Ty.zhw hS53 rfl rfl),rfl,trivial⟩ ?_;exact ⟨F52,(.sl none 0 (.k 0)),(.sl none 0 (.k 0)),(.sl none 0 (.k 0)),.sl none 0 (.k 0),rfl,(hf48.mono (((le49.trans le50).trans le51).trans le52)),(hf50.mono (le51.trans le52)),hf52,(SlF.nil _),hS53.pick [] (by decide)⟩
     ·refine qk ?_;obtain ⟨r54,hr54,H⟩:=zaq H;refine qs ?_;refine qr (zdh 4 (Catalog.cells (Catalog.mk i26 l35 l37 l39 l27) ur28_0 u21 u18 ur5_0) Ty.zqr Ty.zhw (Nat.zero_lt_succ _) rfl hS41 rfl (fun q u h=>zcy (post:=[]) rfl h)) ?_;obtain ⟨F55,le55,hf55,hS55⟩:=hS41.freezeR 0 [1,2,3,4,5,6,7,8] rfl (by decide) (by decide);obtain ⟨F56,le56,hf56,hS56⟩:=hS55.freezeR 0 [1,2,3,4,5,6,7] rfl (by decide) (by decide);obtain ⟨F57,le57,hf57,hS57⟩:=hS56.freezeR 0 [1,2,3,4,5,6] rfl (by decide) (by decide);have hS58:St [] w F F57 [.row Vol.t ur5_0 l27,.box g6 [.i .i64 i26,ur28_0,u21,u18,ur5_0],.dp Exp.o [] (.sl none 0 (.k 0)) [],.dp Chunk.o [] (.sl none 0 (.k 0)) [],.dp Snap.o [] (.sl none 0 (.k 0)) [],.box g1 [.i .i64 0,(.sl none 0 (.k 0)),(.sl none 0 (.k 0)),(.sl none 0 (.k 0)),.sl none 0 (.k 0)]] _:=hS57;obtain ⟨F59,le59,hf59,hS59⟩:=hS58.freezeR 0 [1,2,3,4,5] rfl (by decide) (by decide);refine lm (zuw hS59.good (hf55.mono ((le56.trans le57).trans le59)) (hf56.mono (le57.trans le59)) (hf57.mono le59) hf59 hr54) ?_;rintro v60 w60 ⟨Fr54,ur54_0_0,ur54_0_1,ur54_0_2,ur54_0_3,rfl,hT60⟩;have hS60:=hS59.call hT60;have ler54:=hT60.ext;refine um (zef (c:=[.i .i64 r54.seq,ur54_0_0,ur54_0_1,ur54_0_2,ur54_0_3]) 8 ([.i .i64 r54.seq,ur54_0_0,ur54_0_1,ur54_0_2,ur54_0_3]) rfl rfl hS60 rfl rfl Ty.zhw (by simp only [List.all_cons,List.all_nil,List.all_append,(hS60.rowLn (k:=0) rfl).one,(hS60.rowLn (k:=1) rfl).one,(hS60.rowLn (k:=2) rfl).one,(hS60.rowLn (k:=3) rfl).one]; rfl) rfl rfl) ?_;rintro _ w61 hS61;refine qm ?_;obtain ⟨F62,le62,hf62,hS62⟩:=hS61.freezeR 0 [1,2,3,4,5,6,7,8] rfl (by decide) (by decide);obtain ⟨F63,le63,hf63,hS63⟩:=hS62.freezeR 0 [1,2,3,4,5,6,7] rfl (by decide) (by decide);have hS64:St [] w F F63 [.row Exp.t ur54_0_2 r54.exps,.row Vol.t ur54_0_3 r54.vols,.box g6 [.i .i64 i26,ur28_0,u21,u18,ur5_0],.dp Exp.o [] (.sl none 0 (.k 0)) [],.dp Chunk.o [] (.sl none 0 (.k 0)) [],.dp Snap.o [] (.sl none 0 (.k 0)) [],.box g1 [.i .i64 r54.seq,ur54_0_0,ur54_0_1,ur54_0_2,ur54_0_3]] _:=hS63;obtain ⟨F65,le65,hf65,hS65⟩:=hS64.freezeR 0 [1,2,3,4,5,6] rfl (by decide) (by decide);obtain ⟨F66,le66,hf66,hS66⟩:=hS65.freezeR 0 [1,2,3,4,5] rfl (by decide) (by decide);obtain rfl:=oi H;refine znc (vs:=[.agg (Catalog.cells r54 ur54_0_0 ur54_0_1 ur54_0_2 ur54_0_3),.i .i64 0]) rfl ⟨(zjy 4 Ty.zqr Ty.zhw hS66 rfl rfl),rfl,trivial⟩ ?_
      exact ⟨F66,ur54_0_0,ur54_0_1,ur54_0_2,ur54_0_3,rfl,(hf62.mono ((le63.trans le65).trans le66)),(hf63.mono (le65.trans le66)),(hf65.mono le66),hf66,hS66.pick [] (by decide)⟩
def zgb:Option Bool :=
  bd (zau [(Vol.mk 0 0 2 1)] [(Found.mk (Record.mk 1 0 [(120:UInt8)]) (Loc.mk 0 1 13 14))]) fun r4 =>
  bd (only (decide (r4.2 = 0) && decide ((r4.1.chunks.length:Int) = 1)) (ix r4.1.chunks 0) (Chunk.mk (List.replicate 32 (0:UInt8)) false [] [])) fun x13 =>
  bd (only ((decide (r4.2 = 0) && decide ((r4.1.chunks.length:Int) = 1)) && decide ((x13.locs.length:Int) = 1)) (ix r4.1.chunks 0) (Chunk.mk (List.replicate 32 (0:UInt8)) false [] [])) fun x15 =>
  some (((decide (r4.2 = 0) && decide ((r4.1.chunks.length:Int) = 1)) && decide ((x13.locs.length:Int) = 1)) && (!x15.staged))
theorem zjg {r:Bool} (hA:Gd F w) (H:zgb = some r):Ret Tryz.prog KK 11 [] w fun v w'=>∃ (F':Frz),v = .b r ∧ St [] w F F' [] w':=by
 refine zqs (args:=[]) Tryz.func11 rfl (by decide) rfl ?_;change C _ _ _ _ _ [] _;have hS:=St.start hA;dsimp only [zgb] at H;refine qs ?_;refine qm ?_;obtain ⟨r4,hr4,H⟩:=zaq H;refine qs ?_;refine W_c (v:=.agg (Vol.cells (Vol.mk 0 0 2 1))) rfl rfl rfl rfl (fun _=>rfl) ?_;refine xm (E_bs (t:=Vol.t) (vs:=[.agg (Vol.cells (Vol.mk 0 0 2 1))]) (xs:=[(Vol.mk 0 0 2 1)]) Tryz.underlying33 Ty.row32 rfl ⟨rfl,trivial⟩ rfl rfl hS) ?_;rintro u1 w1 hS1;refine xm (E_bs (t:=tB) (vs:=[.i .u8 ((120:UInt8).toNat:Int)]) (xs:=[(120:UInt8)]) Tryz.underlying47 Ty.row5 rfl ⟨rfl,trivial⟩ rfl rfl hS1) ?_;rintro u2 w2 hS2;refine xm (E_cvt 0 Tryz.underlying47 Tryz.underlying5 rfl hS2 rfl (List.cons_ne_nil _ _) rfl) ?_;rintro _ _ ⟨rfl,rfl⟩;have hcl6:=(hS2.rowLn (k:=0) rfl).cells;refine qr (zjz (vs:=[(0,.i .i64 1),(2,u2)]) (v:=.agg (Record.cells (Record.mk 1 0 [(120:UInt8)]) u2)) Ty.bld49 rfl (by simp only [zkf,hcl6]; rfl)) ?_;refine W_c (v:=.agg (Loc.cells (Loc.mk 0 1 13 14))) rfl rfl rfl rfl (fun _=>rfl) ?_;have hcl7:=(hS2.rowLn (k:=0) rfl).cells;refine qr (zjz (vs:=[(0,.agg (Record.cells (Record.mk 1 0 [(120:UInt8)]) u2)),(1,.agg (Loc.cells (Loc.mk 0 1 13 14)))]) (v:=.agg (Found.cells (Found.mk (Record.mk 1 0 [(120:UInt8)]) (Loc.mk 0 1 13 14)) u2)) Ty.bld53 rfl (by simp only [zkf,hcl7]; rfl)) ?_;obtain ⟨F8,le8,hf8,hS8⟩:=hS2.freezeR 0 [1] rfl (by decide) (by decide);refine xm (E_bs (t:=Found.t) (vs:=[.agg (Found.cells (Found.mk (Record.mk 1 0 [(120:UInt8)]) (Loc.mk 0 1 13 14)) u2)]) (xs:=[(Found.mk (Record.mk 1 0 [(120:UInt8)]) (Loc.mk 0 1 13 14))]) Tryz.underlying27 Ty.zsa rfl ⟨⟨u2,rfl,hf8⟩,trivial⟩ rfl rfl hS8) ?_;rintro u3 w3 hS3;obtain ⟨F9,le9,hf9,hS9⟩:=hS3.freezeR 1 [0] rfl (by decide) (by decide);obtain ⟨F10,le10,hf10,hS10⟩:=hS9.freezeR 0 [] rfl (by decide) (by decide);refine lm (ziu hS10.good (hf9.mono le10) hf10 hr4) ?_;rintro v11 w11 ⟨Fr4,ur4_0_0,ur4_0_1,ur4_0_2,ur4_0_3,rfl,hfr4_0_0,hfr4_0_1,hfr4_0_2,hfr4_0_3,hT11⟩;have hS11:=hS10.call hT11;have ler4:=hT11.ext;refine q3 ?_;refine xm (zgk (cs:=[.i .i64 0,.sl none 0 (.k 0),.sl none 0 (.k 0),.sl none 0 (.k 0),.sl none 0 (.k 0)]) Ty.ztb rfl hS11) ?_;rintro _ w5 ⟨g5,rfl,hS5⟩;refine um (zef (c:=[.i .i64 r4.1.seq,ur4_0_0,ur4_0_1,ur4_0_2,ur4_0_3]) 0 ([.i .i64 r4.1.seq,ur4_0_0,ur4_0_1,ur4_0_2,ur4_0_3]) rfl rfl hS5 rfl rfl Ty.zhw (by simp only [List.all_cons,List.all_nil,List.all_append,hfr4_0_0.ln.one,hfr4_0_1.ln.one,hfr4_0_2.ln.one,hfr4_0_3.ln.one]; rfl) rfl rfl) ?_
 rintro _ w12 hS12;refine qm ?_;refine zay ?_;obtain ⟨x13,hx13,x15,hx15,H⟩:=bd2 H;refine zrx (fun E wq=>E = [(0,.b (((decide (r4.2 = 0) && decide ((r4.1.chunks.length:Int) = 1)) && decide ((x13.locs.length:Int) = 1)) && (!x15.staged)))] ∧ ∃ F17:Frz,Fr4.le F17 ∧ St [] w F F17 [.box g5 [.i .i64 r4.1.seq,ur4_0_0,ur4_0_1,ur4_0_2,ur4_0_3]] wq) ?_ ?_
 ·
  rcases Bool.eq_false_or_eq_true (decide (r4.2 = 0)) with hb18 | hb18
  ·
   rcases Bool.eq_false_or_eq_true (decide ((r4.1.chunks.length:Int) = 1)) with hb19 | hb19
   ·
    rcases Bool.eq_false_or_eq_true (decide ((x13.locs.length:Int) = 1)) with hb20 | hb20
    ·refine qd ?_;refine qc ?_;refine qr (zah rfl rfl zdr) ?_;refine qc ?_;refine zfh (t:=17) (v':=.b true) rfl (congrArg Val.b hb18) ?_;refine qf Ty.zdg ?_;refine qb 0 Ty.zhx hS12 ?_;refine qr (zbw Tryz.underlying35 rfl hfr4_0_1.ln) ?_;refine qr (zah rfl rfl zdr) ?_;refine q2 ?_;refine zfh (t:=23) (v':=.b true) rfl (congrArg Val.b hb19) ?_;refine qf Ty.zdg ?_;refine qb 0 Ty.zhx hS12 ?_;have hy21:=hx13;rw [zbo (by first | rfl | (rw [hb19,hb18]; first | done | rfl) | simp [hb18,hb19,hb20])] at hy21;obtain ⟨hp22,hy22⟩:=zab hy21;obtain ⟨cs22,hr22,he22⟩:=hfr4_0_1.el hy22;obtain ⟨ue14_0,ue14_1,rfl,hle14_0,hue14_0,hue14_1⟩:=hr22;replace he22:=qj 35 he22;have hi22:=he22.ixd;refine qi Tryz.underlying35 Ty.zfu hi22 hp22 ?_;refine qr (zdz 34 Ty.zic rfl hi22) ?_;refine qr (zep 34 Ty.zja rfl (he22.mono hS12.agree) (by omega) rfl) ?_;refine qr (zbw Tryz.underlying44 rfl hue14_1.ln) ?_;refine qr (zah rfl rfl zdr) ?_;refine q2 ?_;refine zfh (t:=32) (v':=.b true) rfl (congrArg Val.b hb20) ?_;refine qf Ty.zdg ?_;refine qb 0 Ty.zhx hS12 ?_;have hy23:=hx15;rw [zbo (by first | rfl | (rw [hb19,hb20,hb18]; first | done | rfl) | simp [hb18,hb19,hb20])] at hy23;obtain ⟨hp24,hy24⟩:=zab hy23;obtain ⟨cs24,hr24,he24⟩:=hfr4_0_1.el hy24;obtain ⟨ue16_0,ue16_1,rfl,hle16_0,hue16_0,hue16_1⟩:=hr24;replace he24:=qj 35 he24;have hi24:=he24.ixd;refine qi Tryz.underlying35 Ty.zfu hi24 hp24 ?_;refine qr (zdz 32 Ty.zul rfl hi24) ?_;refine qr (zep 32 Ty.cell4 rfl (he24.mono hS12.agree) (by omega) rfl) ?_;refine q3 ?_;refine zbk ?_;exact zbb _ ⟨rfl,Fr4,(Frz.le.refl _),hS12⟩ ⟨(zdf rfl (by first | rfl | (rw [hb19,hb20,hb18]; first | done | rfl) | simp [hb18,hb19,hb20])),trivial⟩
    ·refine qd ?_;refine qc ?_;refine qr (zah rfl rfl zdr) ?_;refine qc ?_;refine zfh (t:=17) (v':=.b true) rfl (congrArg Val.b hb18) ?_;refine qf Ty.zdg ?_;refine qb 0 Ty.zhx hS12 ?_;refine qr (zbw Tryz.underlying35 rfl hfr4_0_1.ln) ?_;refine qr (zah rfl rfl zdr) ?_;refine q2 ?_;refine zfh (t:=23) (v':=.b true) rfl (congrArg Val.b hb19) ?_;refine qf Ty.zdg ?_;refine qb 0 Ty.zhx hS12 ?_;have hy25:=hx13;rw [zbo (by first | rfl | (rw [hb19,hb18]; first | done | rfl) | simp [hb18,hb19,hb20])] at hy25;obtain ⟨hp26,hy26⟩:=zab hy25;obtain ⟨cs26,hr26,he26⟩:=hfr4_0_1.el hy26;obtain ⟨ue14_0,ue14_1,rfl,hle14_0,hue14_0,hue14_1⟩:=hr26;replace he26:=qj 35 he26;have hi26:=he26.ixd;refine qi Tryz.underlying35 Ty.zfu hi26 hp26 ?_;refine qr (zdz 34 Ty.zic rfl hi26) ?_;refine qr (zep 34 Ty.zja rfl (he26.mono hS12.agree) (by omega) rfl) ?_;refine qr (zbw Tryz.underlying44 rfl hue14_1.ln) ?_;refine qr (zah rfl rfl zdr) ?_;refine q2 ?_;refine zfh (t:=32) (v':=.b false) rfl (congrArg Val.b hb20) ?_;refine qz2 ?_;refine qz2 ?_;refine qz2 ?_;refine q2 ?_;refine zbk ?_;exact zbb _ ⟨rfl,Fr4,(Frz.le.refl _),hS12⟩ ⟨(zdf rfl (by first | rfl | (rw [hb19,hb20,hb18]; first | done | rfl) | simp [hb18,hb19,hb20])),trivial⟩
   ·refine qd ?_;refine qc ?_;refine qr (zah rfl rfl zdr) ?_;refine qc ?_;refine zfh (t:=17) (v':=.b true) rfl (congrArg Val.b hb18) ?_;refine qf Ty.zdg ?_;refine qb 0 Ty.zhx hS12 ?_;refine qr (zbw Tryz.underlying35 rfl hfr4_0_1.ln) ?_;refine qr (zah rfl rfl zdr) ?_;refine q2 ?_;refine zfh (t:=23) (v':=.b false) rfl (congrArg Val.b hb19) ?_;refine qz2 ?_;refine qz2 ?_;refine qz2 ?_;refine qz ?_;refine q2 ?_;refine qz2 ?_;refine qz2 ?_;refine qz2 ?_;refine q2 ?_;refine zbk ?_;exact zbb _ ⟨rfl,Fr4,(Frz.le.refl _),hS12⟩ ⟨(zdf rfl (by first | rfl | (rw [hb19,hb18]; first | done | rfl) | simp [hb18,hb19])),trivial⟩
  ·refine qd ?_;refine qc ?_;refine qr (zah rfl rfl zdr) ?_;refine qc ?_;refine zfh (t:=17) (v':=.b false) rfl (congrArg Val.b hb18) ?_;refine qz2 ?_;refine qz2 ?_;refine q2 ?_;refine qz2 ?_;refine qz2 ?_;refine qz2 ?_;refine qz ?_;refine q2 ?_;refine qz2 ?_;refine qz2 ?_;refine qz2 ?_;refine q2 ?_;refine zbk ?_;exact zbb _ ⟨rfl,Fr4,(Frz.le.refl _),hS12⟩ ⟨(zdf rfl (by first | rfl | (rw [hb18]; first | done | rfl) | simp [hb18])),trivial⟩
 rintro E w17 ⟨rfl,F17,le17,hS17⟩;refine zcl ?_;obtain rfl:=oi H;refine qt ?_;exact ⟨F17,rfl,hS17.pick [] (by decide)⟩
def zdy (x0:List File) (x1:Int) (x2:Int):Option Bool :=
  bd (zak x0) fun r1 =>
  if (decide (r1.2 ≠ 0) || decide (10 < (x0.length:Int))) then
    some true
  else
    bd (zcd ([97]:List UInt8) (wr ((wu x1).tmod 1000)) r1.1) fun r7 =>
    if (!r7.2) then
      bd (zgb) fun r11 =>
      some r11
    else
      bd (zau [(Vol.mk 0 0 2 3)] r7.1) fun r14 =>
      bd (only (!(decide (r14.2 ≠ 0) || decide ((r14.1.snaps.length:Int) ≠ 1))) (ix r14.1.snaps 0) (Snap.mk 0 (Manifest.mk [] []) [])) fun x20 =>
      bd (only (!((decide (r14.2 ≠ 0) || decide ((r14.1.snaps.length:Int) ≠ 1)) || (!(x20.man.name == ([97]:List UInt8))))) (ix r14.1.snaps 0) (Snap.mk 0 (Manifest.mk [] []) [])) fun x22 =>
      bd (only (!(((decide (r14.2 ≠ 0) || decide ((r14.1.snaps.length:Int) ≠ 1)) || (!(x20.man.name == ([97]:List UInt8)))) || decide (x22.seq ≠ wr ((wu x1).tmod 1000)))) (ix r14.1.snaps 0) (Snap.mk 0 (Manifest.mk [] []) [])) fun x24 =>
      if ((((((decide (r14.2 ≠ 0) || decide ((r14.1.snaps.length:Int) ≠ 1)) || (!(x20.man.name == ([97]:List UInt8)))) || decide (x22.seq ≠ wr ((wu x1).tmod 1000))) || decide ((x24.locs.length:Int) ≠ 1)) || decide (r14.1.seq ≠ wr (wr ((wu x1).tmod 1000) + 1))) || decide (wr ((r7.1.length:Int) - 1) < (r14.1.chunks.length:Int))) then
        some false
      else
        bd (rem (wu x2) (wu (r7.1.length:Int))) fun x58 =>
        bd (cut (α:=Found) r7.1 0 (wr x58)) fun l61 =>
        bd (cut (α:=Found) r7.1 (wr (wr x58 + 1)) (r7.1.length:Int)) fun l63 =>
        bd (app (α:=Found) ([]:List Found) l61) fun l65 =>
        bd (app (α:=Found) l65 l63) fun l67 =>
        bd (zau [(Vol.mk 0 0 2 3)] l67) fun r69 =>
        if (decide (r69.2 ≠ 0) || decide ((r69.1.snaps.length:Int) ≠ 0)) then
          some false
        else
          bd (app (α:=Found) ([]:List Found) r7.1) fun l80 =>
          bd (app (α:=Found) l80 [(Found.mk (Record.mk 3 (wr (wr ((wu x1).tmod 1000) + 5)) [(0:UInt8),(0:UInt8),(toB8 ((wr ((wu x1).tmod 1000)) / 2 ^ (8:Int).toNat)),(toB8 (wr ((wu x1).tmod 1000)))]) (Loc.mk 0 3 13 17))]) fun l84 =>
          bd (zau [(Vol.mk 0 0 2 3)] l84) fun r89 =>
          bd (only ((decide (r89.2 = 0) && decide ((r89.1.snaps.length:Int) = 0)) && decide ((r89.1.exps.length:Int) = 1)) (ix r89.1.exps 0) (Exp.mk 0 0 [])) fun x94 =>
          bd (only ((((decide (r89.2 = 0) && decide ((r89.1.snaps.length:Int) = 0)) && decide ((r89.1.exps.length:Int) = 1)) && decide (x94.of = wr ((wu x1).tmod 1000))) && decide (r89.1.seq = wr (wr ((wu x1).tmod 1000) + 6))) (zgb) false) fun r96 =>
          some (((((decide (r89.2 = 0) && decide ((r89.1.snaps.length:Int) = 0)) && decide ((r89.1.exps.length:Int) = 1)) && decide (x94.of = wr ((wu x1).tmod 1000))) && decide (r89.1.seq = wr (wr ((wu x1).tmod 1000) + 6))) && r96)
set_option maxHeartbeats 2000000 in
theorem zkh {x0:List File} {x1:Int} {x2:Int} {r:Bool} {v0:Val} (hA:Gd F w) (h0:SlF File.t F v0 x0) (H:zdy x0 x1 x2 = some r):Ret Tryz.prog KK 3 [v0,.i .i64 x1,.i .i64 x2] w fun v w'=>∃ (F':Frz),v = .b r ∧ St [] w F F' [] w':=by
 refine qa3 Tryz.func3 ?_;have hS:=St.start hA;dsimp only [zdy] at H;refine qs ?_;refine qm ?_;obtain ⟨r1,hr1,H⟩:=zaq H;refine qs ?_;refine qc ?_;refine lm (zoc hS.good h0 hr1) ?_;rintro v2 w2 ⟨Fr1,ur1_0,rfl,hT2⟩;have hS2:=hS.call hT2;have ler1:=hT2.ext;refine q4 ?_;refine qm ?_;refine zay ?_;refine qs ?_;refine qc ?_;refine qr (zah rfl rfl zeh) ?_;refine qc ?_;refine W_gs (v:=v0) rfl rfl rfl rfl (fun ⟨hb3,_⟩=>?_) ?_
 ·rw [hb3];exact (qc ·)
 refine W_gs (v:=.i .i64 (x0.length:Int)) rfl rfl rfl rfl (fun ⟨hb4,_⟩=>?_) ?_
 ·rw [hb4];exact (qr (zbw Tryz.underlying22 rfl h0.ln) ·)
 refine W_gs (v:=.b (decide (10 < (x0.length:Int)))) rfl rfl rfl rfl (fun ⟨hb5,_⟩=>?_) ?_
 ·rw [hb5];exact (qr (zah rfl rfl zgc) ·)
 refine zht rfl rfl rfl rfl rfl rfl (fun hc=>by rw [hc]; rfl) ?_;refine qn ?_;refine qy H (fun hc6 H=>?_) (fun hc6 H=>?_)
 ·refine qs ?_;refine qm ?_;obtain rfl:=oi H;refine qt ?_;exact ⟨Fr1,rfl,hS2.pick [] (by decide)⟩
 ·refine qk ?_;refine qs ?_;refine qc ?_;refine qr (zfn Tryz.underlying3 Tryz.underlying26 rfl (rfl)) ?_;refine qr (zah rfl rfl (by first | rfl | simp [binV,ibin])) ?_;refine qr (zfn Tryz.underlying26 Tryz.underlying3 rfl (rfl)) ?_;refine qm ?_;obtain ⟨r7,hr7,H⟩:=zaq H;refine qs ?_;refine q2 ?_;obtain ⟨F8,le8,hf8,hS8⟩:=hS2.freezeR 0 [] rfl (by decide) (by decide);refine lm (zoe hS8.good hf8 hr7) ?_;rintro v9 w9 ⟨Fr7,ur7_0,rfl,hT9⟩;have hS9:=hS8.call hT9;have ler7:=hT9.ext;refine q4 ?_;refine qm ?_;refine zay ?_;refine qs ?_;refine qc ?_;refine qm ?_;refine qy H (fun hc10 H=>?_) (fun hc10 H=>?_)
  ·obtain ⟨r11,hr11,H⟩:=zaq H;refine qs ?_;refine lm (zjg hS9.good hr11) ?_;rintro v12 w12 ⟨Fr11,rfl,hT12⟩;have hS12:=hS9.lent hT12;refine qm ?_;obtain rfl:=oi H;refine qt ?_;exact ⟨Fr7,rfl,hS12.pick [] (by decide)⟩
  ·refine qk ?_;refine qs ?_;refine W_c (v:=.agg (Vol.cells (Vol.mk 0 0 2 3))) rfl rfl rfl rfl (fun _=>rfl) ?_;refine xm (E_bs (t:=Vol.t) (vs:=[.agg (Vol.cells (Vol.mk 0 0 2 3))]) (xs:=[(Vol.mk 0 0 2 3)]) Tryz.underlying33 Ty.row32 rfl ⟨rfl,trivial⟩ rfl rfl hS9) ?_;rintro u13 w13 hS13;refine qm ?_;obtain ⟨r14,hr14,H⟩:=zaq H;refine qs ?_;refine q2 ?_;obtain ⟨F16,le16,hf16,hS16⟩:=hS13.freezeR 0 [1] rfl (by decide) (by decide);obtain ⟨F17,le17,hf17,hS17⟩:=hS16.freezeR 0 [] rfl (by decide) (by decide);refine lm (ziu hS17.good (hf16.mono le17) hf17 hr14) ?_;rintro v18 w18 ⟨Fr14,ur14_0_0,ur14_0_1,ur14_0_2,ur14_0_3,rfl,hfr14_0_0,hfr14_0_1,hfr14_0_2,hfr14_0_3,hT18⟩;have hS18:=hS17.call hT18;have ler14:=hT18.ext;refine q3 ?_;refine xm (zgk (cs:=[.i .i64 0,.sl none 0 (.k 0),.sl none 0 (.k 0),.sl none 0 (.k 0),.sl none 0 (.k 0)]) Ty.ztb rfl hS18) ?_;rintro _ w15 ⟨g15,rfl,hS15⟩;refine um (zef (c:=[.i .i64 r14.1.seq,ur14_0_0,ur14_0_1,ur14_0_2,ur14_0_3]) 0 ([.i .i64 r14.1.seq,ur14_0_0,ur14_0_1,ur14_0_2,ur14_0_3]) rfl rfl hS15 rfl rfl Ty.zhw (by simp only [List.all_cons,List.all_nil,List.all_append,hfr14_0_0.ln.one,hfr14_0_1.ln.one,hfr14_0_2.ln.one,hfr14_0_3.ln.one]; rfl) rfl rfl) ?_;rintro _ w19 hS19;refine qm ?_;refine zay ?_;refine zay ?_;obtain ⟨x20,hx20,x22,hx22,H⟩:=bd2 H;obtain ⟨x24,hx24,H⟩:=zaq H;refine zrx (fun E wq=>E = [(1,.i .i64 (wr ((wu x1).tmod 1000))),(2,.i .i64 x2),(9,ur7_0),(11,u13),(101,.b ((((((decide (r14.2 ≠ 0) || decide ((r14.1.snaps.length:Int) ≠ 1)) || (!(x20.man.name == ([97]:List UInt8)))) || decide (x22.seq ≠ wr ((wu x1).tmod 1000))) || decide ((x24.locs.length:Int) ≠ 1)) || decide (r14.1.seq ≠ wr (wr ((wu x1).tmod 1000) + 1))) || decide (wr ((r7.1.length:Int) - 1) < (r14.1.chunks.length:Int))))] ∧ ∃ F26:Frz,Fr14.le F26 ∧ St [] w F F26 [.box g15 [.i .i64 r14.1.seq,ur14_0_0,ur14_0_1,ur14_0_2,ur14_0_3]] wq) ?_ ?_
   ·
    rcases Bool.eq_false_or_eq_true (decide (r14.2 ≠ 0)) with hb27 | hb27
    ·refine qd ?_;refine qc ?_;refine qr (zah rfl rfl zeh) ?_;refine qc ?_;refine zfh (t:=53) (v':=.b true) rfl (congrArg Val.b hb27) ?_;refine qz2 ?_;refine qz2 ?_;refine q2 ?_;refine qz2 ?_;refine qz2 ?_;refine qz2 ?_;refine qz ?_;refine q2 ?_;refine qz2 ?_;refine qz2 ?_;refine qz2 ?_;refine qz ?_;refine q2 ?_;refine qz2 ?_;refine qz2 ?_;refine qz2 ?_;refine qz ?_;refine q2 ?_;refine qz2 ?_;refine qz2 ?_;refine qz ?_;refine q2 ?_;refine qz2 ?_;refine qz2 ?_;refine qz2 ?_;refine qz ?_;refine qc ?_;refine zbk ?_;exact zbb _ ⟨rfl,Fr14,(Frz.le.refl _),hS19⟩ ⟨rfl,rfl,rfl,rfl,(zdf rfl (by first | rfl | (rw [hb27]; first | done | rfl) | simp [hb27])),trivial⟩
    ·
     rcases Bool.eq_false_or_eq_true (decide ((r14.1.snaps.length:Int) ≠ 1)) with hb28 | hb28
     ·refine qd ?_;refine qc ?_;refine qr (zah rfl rfl zeh) ?_;refine qc ?_;refine zfh (t:=53) (v':=.b false) rfl (congrArg Val.b hb27) ?_;refine qf Ty.zce ?_;refine qb 0 Ty.zfa hS19 ?_;refine qr (zbw Tryz.underlying34 rfl hfr14_0_0.ln) ?_;refine qr (zah rfl rfl zeh) ?_;refine q2 ?_;refine zfh (t:=59) (v':=.b true) rfl (congrArg Val.b hb28) ?_;refine qz2 ?_;refine qz2 ?_;refine qz2 ?_;refine qz ?_;refine q2 ?_;refine qz2 ?_;refine qz2 ?_;refine qz2 ?_;refine qz ?_;refine q2 ?_;refine qz2 ?_;refine qz2 ?_;refine qz2 ?_;refine qz ?_;refine q2 ?_;refine qz2 ?_;refine qz2 ?_;refine qz ?_;refine q2 ?_;refine qz2 ?_;refine qz2 ?_;refine qz2 ?_;refine qz ?_;refine qc ?_;refine zbk ?_;exact zbb _ ⟨rfl,Fr14,(Frz.le.refl _),hS19⟩ ⟨rfl,rfl,rfl,rfl,(zdf rfl (by first | rfl | (rw [hb28,hb27]; first | done | rfl) | simp [hb27,hb28])),trivial⟩
     ·
      rcases Bool.eq_false_or_eq_true (!(x20.man.name == ([97]:List UInt8))) with hb29 | hb29
      ·refine qd ?_;refine qc ?_;refine qr (zah rfl rfl zeh) ?_;refine qc ?_;refine zfh (t:=53) (v':=.b false) rfl (congrArg Val.b hb27) ?_;refine qf Ty.zce ?_;refine qb 0 Ty.zfa hS19 ?_;refine qr (zbw Tryz.underlying34 rfl hfr14_0_0.ln) ?_;refine qr (zah rfl rfl zeh) ?_;refine q2 ?_;refine zfh (t:=59) (v':=.b false) rfl (congrArg Val.b hb28) ?_;refine qf Ty.zce ?_;refine qb 0 Ty.zfa hS19 ?_;have hy30:=hx20;rw [zbo (by first | rfl | (rw [hb28,hb27]; first | done | rfl) | simp [hb27,hb28,hb29])] at hy30;obtain ⟨hp31,hy31⟩:=zab hy30;obtain ⟨cs31,hr31,he31⟩:=hfr14_0_0.el hy31;obtain ⟨ue21_0,ue21_1,rfl,hue21_0,hue21_1⟩:=hr31;replace he31:=qj 4 he31;have hi31:=he31.ixd;refine qi Tryz.underlying34 Ty.zcs hi31 hp31 ?_;refine qr (zdz 1 Ty.zgj rfl hi31) ?_;refine qr (zdz 0 Ty.zgz rfl hi31) ?_;refine qr (zep 1 Ty.zjk rfl (he31.mono hS19.agree) (by omega) rfl) ?_;refine qr (zah rfl rfl bS_neq) ?_;refine q2 ?_;refine zfh (t:=68) (v':=.b true) rfl (congrArg Val.b hb29) ?_;refine qz2 ?_;refine qz2 ?_;refine qz2 ?_;refine qz ?_;refine q2 ?_;refine qz2 ?_;refine qz2 ?_;refine qz2 ?_;refine qz ?_;refine q2 ?_;refine qz2 ?_;refine qz2 ?_;refine qz ?_;refine q2 ?_;refine qz2 ?_;refine qz2 ?_;refine qz2 ?_;refine qz ?_;refine qc ?_;refine zbk ?_;exact zbb _ ⟨rfl,Fr14,(Frz.le.refl _),hS19⟩ ⟨rfl,rfl,rfl,rfl,(zdf rfl (by first | rfl | (rw [hb29,hb28,hb27]; first | done | rfl) | simp [hb27,hb28,hb29])),trivial⟩
      ·
       rcases Bool.eq_false_or_eq_true (decide (x22.seq ≠ wr ((wu x1).tmod 1000))) with hb32 | hb32
       ·refine qd ?_;refine qc ?_;refine qr (zah rfl rfl zeh) ?_;refine qc ?_;refine zfh (t:=53) (v':=.b false) rfl (congrArg Val.b hb27) ?_;refine qf Ty.zce ?_;refine qb 0 Ty.zfa hS19 ?_;refine qr (zbw Tryz.underlying34 rfl hfr14_0_0.ln) ?_;refine qr (zah rfl rfl zeh) ?_;refine q2 ?_;refine zfh (t:=59) (v':=.b false) rfl (congrArg Val.b hb28) ?_;refine qf Ty.zce ?_;refine qb 0 Ty.zfa hS19 ?_;have hy33:=hx20;rw [zbo (by first | rfl | (rw [hb28,hb27]; first | done | rfl) | simp [hb27,hb28,hb29,hb32])] at hy33;obtain ⟨hp34,hy34⟩:=zab hy33;obtain ⟨cs34,hr34,he34⟩:=hfr14_0_0.el hy34;obtain ⟨ue21_0,ue21_1,rfl,hue21_0,hue21_1⟩:=hr34;replace he34:=qj 4 he34;have hi34:=he34.ixd;refine qi Tryz.underlying34 Ty.zcs hi34 hp34 ?_;refine qr (zdz 1 Ty.zgj rfl hi34) ?_;refine qr (zdz 0 Ty.zgz rfl hi34) ?_;refine qr (zep 1 Ty.zjk rfl (he34.mono hS19.agree) (by omega) rfl) ?_;refine qr (zah rfl rfl bS_neq) ?_;refine q2 ?_;refine zfh (t:=68) (v':=.b false) rfl (congrArg Val.b hb29) ?_;refine qf Ty.zce ?_;refine qb 0 Ty.zfa hS19 ?_;have hy35:=hx22;rw [zbo (by first | rfl | (rw [hb29,hb28,hb27]; first | done | rfl) | simp [hb27,hb28,hb29,hb32])] at hy35;obtain ⟨hp36,hy36⟩:=zab hy35;obtain ⟨cs36,hr36,he36⟩:=hfr14_0_0.el hy36;obtain ⟨ue23_0,ue23_1,rfl,hue23_0,hue23_1⟩:=hr36;replace he36:=qj 4 he36;have hi36:=he36.ixd;refine qi Tryz.underlying34 Ty.zcs hi36 hp36 ?_;refine qr (zdz 0 Ty.zie rfl hi36) ?_;refine qr (zep 0 Ty.zdj rfl (he36.mono hS19.agree) (by omega) rfl) ?_;refine qc ?_;refine qr (zah rfl rfl zeh) ?_;refine q2 ?_;refine zfh (t:=77) (v':=.b true) rfl (congrArg Val.b hb32) ?_;refine qz2 ?_;refine qz2 ?_;refine qz2 ?_;refine qz ?_;refine q2 ?_;refine qz2 ?_;refine qz2 ?_;refine qz ?_;refine q2 ?_;refine qz2 ?_;refine qz2 ?_;refine qz2 ?_;refine qz ?_;refine qc ?_;refine zbk ?_;exact zbb _ ⟨rfl,Fr14,(Frz.le.refl _),hS19⟩ ⟨rfl,rfl,rfl,rfl,(zdf rfl (by first | rfl | (rw [hb32,hb29,hb28,hb27]; first | done | rfl) | simp [hb27,hb28,hb29,hb32])),trivial⟩
       ·
        rcases Bool.eq_false_or_eq_true (decide ((x24.locs.length:Int) ≠ 1)) with hb37 | hb37
        ·refine qd ?_;refine qc ?_;refine qr (zah rfl rfl zeh) ?_;refine qc ?_;refine zfh (t:=53) (v':=.b false) rfl (congrArg Val.b hb27) ?_;refine qf Ty.zce ?_;refine qb 0 Ty.zfa hS19 ?_;refine qr (zbw Tryz.underlying34 rfl hfr14_0_0.ln) ?_;refine qr (zah rfl rfl zeh) ?_;refine q2 ?_;refine zfh (t:=59) (v':=.b false) rfl (congrArg Val.b hb28) ?_;refine qf Ty.zce ?_;refine qb 0 Ty.zfa hS19 ?_;have hy38:=hx20;rw [zbo (by first | rfl | (rw [hb28,hb27]; first | done | rfl) | simp [hb27,hb28,hb29,hb32,hb37])] at hy38;obtain ⟨hp39,hy39⟩:=zab hy38;obtain ⟨cs39,hr39,he39⟩:=hfr14_0_0.el hy39;obtain ⟨ue21_0,ue21_1,rfl,hue21_0,hue21_1⟩:=hr39;replace he39:=qj 4 he39;have hi39:=he39.ixd;refine qi Tryz.underlying34 Ty.zcs hi39 hp39 ?_;refine qr (zdz 1 Ty.zgj rfl hi39) ?_;refine qr (zdz 0 Ty.zgz rfl hi39) ?_;refine qr (zep 1 Ty.zjk rfl (he39.mono hS19.agree) (by omega) rfl) ?_;refine qr (zah rfl rfl bS_neq) ?_;refine q2 ?_;refine zfh (t:=68) (v':=.b false) rfl (congrArg Val.b hb29) ?_;refine qf Ty.zce ?_;refine qb 0 Ty.zfa hS19 ?_;have hy40:=hx22;rw [zbo (by first | rfl | (rw [hb29,hb28,hb27]; first | done | rfl) | simp [hb27,hb28,hb29,hb32,hb37])] at hy40;obtain ⟨hp41,hy41⟩:=zab hy40;obtain ⟨cs41,hr41,he41⟩:=hfr14_0_0.el hy41;obtain ⟨ue23_0,ue23_1,rfl,hue23_0,hue23_1⟩:=hr41;replace he41:=qj 4 he41;have hi41:=he41.ixd;refine qi Tryz.underlying34 Ty.zcs hi41 hp41 ?_;refine qr (zdz 0 Ty.zie rfl hi41) ?_;refine qr (zep 0 Ty.zdj rfl (he41.mono hS19.agree) (by omega) rfl) ?_;refine qc ?_;refine qr (zah rfl rfl zeh) ?_;refine q2 ?_;refine zfh (t:=77) (v':=.b false) rfl (congrArg Val.b hb32) ?_;refine qf Ty.zce ?_;refine qb 0 Ty.zfa hS19 ?_;have hy42:=hx24;rw [zbo (by first | rfl | (rw [hb32,hb29,hb28,hb27]; first | done | rfl) | simp [hb27,hb28,hb29,hb32,hb37])] at hy42;obtain ⟨hp43,hy43⟩:=zab hy42;obtain ⟨cs43,hr43,he43⟩:=hfr14_0_0.el hy43;obtain ⟨ue25_0,ue25_1,rfl,hue25_0,hue25_1⟩:=hr43;replace he43:=qj 4 he43;have hi43:=he43.ixd;refine qi Tryz.underlying34 Ty.zcs hi43 hp43 ?_;refine qr (zdz 3 Ty.zid rfl hi43) ?_;refine qr (zep 3 Ty.zja rfl (he43.mono hS19.agree) (by omega) rfl) ?_;refine qr (zbw Tryz.underlying44 rfl hue25_1.ln) ?_;refine qr (zah rfl rfl zeh) ?_;refine q2 ?_;refine zfh (t:=86) (v':=.b true) rfl (congrArg Val.b hb37) ?_
         refine qz2 ?_;refine qz2 ?_;refine qz ?_;refine q2 ?_;refine qz2 ?_;refine qz2 ?_;refine qz2 ?_;refine qz ?_;refine qc ?_;refine zbk ?_;exact zbb _ ⟨rfl,Fr14,(Frz.le.refl _),hS19⟩ ⟨rfl,rfl,rfl,rfl,(zdf rfl (by first | rfl | (rw [hb32,hb29,hb28,hb37,hb27]; first | done | rfl) | simp [hb27,hb28,hb29,hb32,hb37])),trivial⟩
        ·
         rcases Bool.eq_false_or_eq_true (decide (r14.1.seq ≠ wr (wr ((wu x1).tmod 1000) + 1))) with hb44 | hb44
         ·refine qd ?_;refine qc ?_;refine qr (zah rfl rfl zeh) ?_;refine qc ?_;refine zfh (t:=53) (v':=.b false) rfl (congrArg Val.b hb27) ?_;refine qf Ty.zce ?_;refine qb 0 Ty.zfa hS19 ?_;refine qr (zbw Tryz.underlying34 rfl hfr14_0_0.ln) ?_;refine qr (zah rfl rfl zeh) ?_;refine q2 ?_;refine zfh (t:=59) (v':=.b false) rfl (congrArg Val.b hb28) ?_;refine qf Ty.zce ?_;refine qb 0 Ty.zfa hS19 ?_;have hy45:=hx20;rw [zbo (by first | rfl | (rw [hb28,hb27]; first | done | rfl) | simp [hb27,hb28,hb29,hb32,hb37,hb44])] at hy45;obtain ⟨hp46,hy46⟩:=zab hy45;obtain ⟨cs46,hr46,he46⟩:=hfr14_0_0.el hy46;obtain ⟨ue21_0,ue21_1,rfl,hue21_0,hue21_1⟩:=hr46;replace he46:=qj 4 he46;have hi46:=he46.ixd;refine qi Tryz.underlying34 Ty.zcs hi46 hp46 ?_;refine qr (zdz 1 Ty.zgj rfl hi46) ?_;refine qr (zdz 0 Ty.zgz rfl hi46) ?_;refine qr (zep 1 Ty.zjk rfl (he46.mono hS19.agree) (by omega) rfl) ?_;refine qr (zah rfl rfl bS_neq) ?_;refine q2 ?_;refine zfh (t:=68) (v':=.b false) rfl (congrArg Val.b hb29) ?_;refine qf Ty.zce ?_;refine qb 0 Ty.zfa hS19 ?_;have hy47:=hx22;rw [zbo (by first | rfl | (rw [hb29,hb28,hb27]; first | done | rfl) | simp [hb27,hb28,hb29,hb32,hb37,hb44])] at hy47;obtain ⟨hp48,hy48⟩:=zab hy47;obtain ⟨cs48,hr48,he48⟩:=hfr14_0_0.el hy48;obtain ⟨ue23_0,ue23_1,rfl,hue23_0,hue23_1⟩:=hr48;replace he48:=qj 4 he48;have hi48:=he48.ixd;refine qi Tryz.underlying34 Ty.zcs hi48 hp48 ?_;refine qr (zdz 0 Ty.zie rfl hi48) ?_;refine qr (zep 0 Ty.zdj rfl (he48.mono hS19.agree) (by omega) rfl) ?_;refine qc ?_;refine qr (zah rfl rfl zeh) ?_;refine q2 ?_;refine zfh (t:=77) (v':=.b false) rfl (congrArg Val.b hb32) ?_;refine qf Ty.zce ?_;refine qb 0 Ty.zfa hS19 ?_;have hy49:=hx24;rw [zbo (by first | rfl | (rw [hb32,hb29,hb28,hb27]; first | done | rfl) | simp [hb27,hb28,hb29,hb32,hb37,hb44])] at hy49;obtain ⟨hp50,hy50⟩:=zab hy49;obtain ⟨cs50,hr50,he50⟩:=hfr14_0_0.el hy50;obtain ⟨ue25_0,ue25_1,rfl,hue25_0,hue25_1⟩:=hr50;replace he50:=qj 4 he50;have hi50:=he50.ixd;refine qi Tryz.underlying34 Ty.zcs hi50 hp50 ?_;refine qr (zdz 3 Ty.zid rfl hi50) ?_;refine qr (zep 3 Ty.zja rfl (he50.mono hS19.agree) (by omega) rfl) ?_;refine qr (zbw Tryz.underlying44 rfl hue25_1.ln) ?_;refine qr (zah rfl rfl zeh) ?_;refine q2 ?_
          refine zfh (t:=86) (v':=.b false) rfl (congrArg Val.b hb37) ?_;refine qf Ty.zif ?_;refine qb 0 Ty.zdj hS19 ?_;refine q2 ?_;refine qr (zah rfl rfl zeh) ?_;refine q2 ?_;refine zfh (t:=93) (v':=.b true) rfl (congrArg Val.b hb44) ?_;refine qz2 ?_;refine qz2 ?_;refine qz2 ?_;refine qz ?_;refine qc ?_;refine zbk ?_;exact zbb _ ⟨rfl,Fr14,(Frz.le.refl _),hS19⟩ ⟨rfl,rfl,rfl,rfl,(zdf rfl (by first | rfl | (rw [hb44,hb32,hb29,hb28,hb37,hb27]; first | done | rfl) | simp [hb27,hb28,hb29,hb32,hb37,hb44])),trivial⟩
         ·refine qd ?_;refine qc ?_;refine qr (zah rfl rfl zeh) ?_;refine qc ?_;refine zfh (t:=53) (v':=.b false) rfl (congrArg Val.b hb27) ?_;refine qf Ty.zce ?_;refine qb 0 Ty.zfa hS19 ?_;refine qr (zbw Tryz.underlying34 rfl hfr14_0_0.ln) ?_;refine qr (zah rfl rfl zeh) ?_;refine q2 ?_;refine zfh (t:=59) (v':=.b false) rfl (congrArg Val.b hb28) ?_;refine qf Ty.zce ?_;refine qb 0 Ty.zfa hS19 ?_;have hy51:=hx20;rw [zbo (by first | rfl | (rw [hb28,hb27]; first | done | rfl) | simp [hb27,hb28,hb29,hb32,hb37,hb44])] at hy51;obtain ⟨hp52,hy52⟩:=zab hy51;obtain ⟨cs52,hr52,he52⟩:=hfr14_0_0.el hy52;obtain ⟨ue21_0,ue21_1,rfl,hue21_0,hue21_1⟩:=hr52;replace he52:=qj 4 he52;have hi52:=he52.ixd;refine qi Tryz.underlying34 Ty.zcs hi52 hp52 ?_;refine qr (zdz 1 Ty.zgj rfl hi52) ?_;refine qr (zdz 0 Ty.zgz rfl hi52) ?_;refine qr (zep 1 Ty.zjk rfl (he52.mono hS19.agree) (by omega) rfl) ?_;refine qr (zah rfl rfl bS_neq) ?_;refine q2 ?_;refine zfh (t:=68) (v':=.b false) rfl (congrArg Val.b hb29) ?_;refine qf Ty.zce ?_;refine qb 0 Ty.zfa hS19 ?_;have hy53:=hx22;rw [zbo (by first | rfl | (rw [hb29,hb28,hb27]; first | done | rfl) | simp [hb27,hb28,hb29,hb32,hb37,hb44])] at hy53;obtain ⟨hp54,hy54⟩:=zab hy53;obtain ⟨cs54,hr54,he54⟩:=hfr14_0_0.el hy54;obtain ⟨ue23_0,ue23_1,rfl,hue23_0,hue23_1⟩:=hr54;replace he54:=qj 4 he54;have hi54:=he54.ixd;refine qi Tryz.underlying34 Ty.zcs hi54 hp54 ?_;refine qr (zdz 0 Ty.zie rfl hi54) ?_;refine qr (zep 0 Ty.zdj rfl (he54.mono hS19.agree) (by omega) rfl) ?_;refine qc ?_;refine qr (zah rfl rfl zeh) ?_;refine q2 ?_;refine zfh (t:=77) (v':=.b false) rfl (congrArg Val.b hb32) ?_;refine qf Ty.zce ?_;refine qb 0 Ty.zfa hS19 ?_;have hy55:=hx24;rw [zbo (by first | rfl | (rw [hb32,hb29,hb28,hb27]; first | done | rfl) | simp [hb27,hb28,hb29,hb32,hb37,hb44])] at hy55;obtain ⟨hp56,hy56⟩:=zab hy55;obtain ⟨cs56,hr56,he56⟩:=hfr14_0_0.el hy56;obtain ⟨ue25_0,ue25_1,rfl,hue25_0,hue25_1⟩:=hr56;replace he56:=qj 4 he56;have hi56:=he56.ixd;refine qi Tryz.underlying34 Ty.zcs hi56 hp56 ?_;refine qr (zdz 3 Ty.zid rfl hi56) ?_;refine qr (zep 3 Ty.zja rfl (he56.mono hS19.agree) (by omega) rfl) ?_;refine qr (zbw Tryz.underlying44 rfl hue25_1.ln) ?_;refine qr (zah rfl rfl zeh) ?_;refine q2 ?_
          refine zfh (t:=86) (v':=.b false) rfl (congrArg Val.b hb37) ?_;refine qf Ty.zif ?_;refine qb 0 Ty.zdj hS19 ?_;refine q2 ?_;refine qr (zah rfl rfl zeh) ?_;refine q2 ?_;refine zfh (t:=93) (v':=.b false) rfl (congrArg Val.b hb44) ?_;refine qf Ty.zdg ?_;refine qb 0 Ty.zhx hS19 ?_;refine qr (zbw Tryz.underlying35 rfl hfr14_0_1.ln) ?_;refine qc ?_;refine qr (zbw Tryz.underlying27 rfl hf17.ln) ?_;refine qc ?_;refine qr (zah rfl rfl zgc) ?_;refine qc ?_;refine zbk ?_;exact zbb _ ⟨rfl,Fr14,(Frz.le.refl _),hS19⟩ ⟨rfl,rfl,rfl,rfl,(zdf rfl (by first | rfl | (rw [hb44,hb32,hb29,hb28,hb37,hb27]; first | done | rfl) | simp [hb27,hb28,hb29,hb32,hb37,hb44])),trivial⟩
   rintro E w26 ⟨rfl,F26,le26,hS26⟩;refine zcl ?_;refine qy H (fun hc57 H=>?_) (fun hc57 H=>?_)
   ·refine qs ?_;refine qm ?_;obtain rfl:=oi H;refine qt ?_;exact ⟨F26,rfl,hS26.pick [] (by decide)⟩
   ·refine qk ?_;obtain ⟨x58,hx58,H⟩:=zaq H;refine qs ?_;refine qc ?_;refine qr (zfn Tryz.underlying3 Tryz.underlying26 rfl (rfl)) ?_;refine qc ?_;refine qr (zbw Tryz.underlying27 rfl hf17.ln) ?_;refine qr (zfn Tryz.underlying3 Tryz.underlying26 rfl (rfl)) ?_;obtain ⟨hz59,hw59⟩:=rem_some hx58;refine qr (zah rfl rfl (bI_rem hz59 hw59)) ?_;refine qr (zfn Tryz.underlying26 Tryz.underlying3 rfl (rfl)) ?_;refine qm ?_;refine zay ?_;obtain ⟨l61,hl61,l63,hl63,H⟩:=bd2 H;obtain ⟨l65,hl65,l67,hl67,H⟩:=bd2 H;refine zba (G:=F26) [0,1,2,3,5,6,7,8,4,9,10] rfl Ty.mixed (by kernel_rfl) hS26.agree ?_;refine qx (E_bs (t:=Found.t) (vs:=[]) (xs:=([]:List Found)) Tryz.underlying27 Ty.zsa rfl trivial rfl rfl hS26) ?_;rintro u60 w60 hS60;refine Nxt.frz (Frz.le.refl _) hS60.agree ?_;refine q2 ?_;refine zoi 0 (wr x58) rfl rfl rfl rfl Tryz.underlying27 Ty.zrk rfl (.inl ⟨rfl,rfl⟩) (.inr ⟨_,_,rfl,rfl⟩) hf17 hl61 ?_;intro q62 hv62;refine q3 ?_;refine zoi (wr (wr x58 + 1)) (r7.1.length:Int) rfl rfl rfl rfl Tryz.underlying27 Ty.zrk rfl (.inr ⟨_,_,rfl,rfl⟩) (.inl ⟨rfl,rfl⟩) hf17 hl63 ?_;intro q64 hv64;refine qx (zft (t:=Found.t) 0 Tryz.underlying27 Ty.zsa Ty.zk27 rfl rfl hS60 rfl ((hv62.mono (ler14.trans le26)).src hS60.agree) hl65) ?_;rintro v66 w66 hS66;refine Nxt.frz (Frz.le.refl _) hS66.agree ?_;refine qx (zft (t:=Found.t) 0 Tryz.underlying27 Ty.zsa Ty.zk27 rfl rfl hS66 rfl ((hv64.mono (ler14.trans le26)).src hS66.agree) hl67) ?_;rintro v68 w68 hS68;refine Nxt.frz (Frz.le.refl _) hS68.agree ?_;refine qm ?_;obtain ⟨r69,hr69,H⟩:=zaq H;refine qs ?_;refine q2 ?_;obtain ⟨F71,le71,hf71,hS71⟩:=hS68.freezeR 0 [1] rfl (by decide) (by decide);refine lm (ziu hS71.good (hf16.mono (((le17.trans ler14).trans le26).trans le71)) hf71 hr69) ?_;rintro v72 w72 ⟨Fr69,ur69_0_0,ur69_0_1,ur69_0_2,ur69_0_3,rfl,hfr69_0_0,hfr69_0_1,hfr69_0_2,hfr69_0_3,hT72⟩;have hS72:=hS71.call hT72;have ler69:=hT72.ext;refine q3 ?_;refine xm (zgk (cs:=[.i .i64 0,.sl none 0 (.k 0),.sl none 0 (.k 0),.sl none 0 (.k 0),.sl none 0 (.k 0)]) Ty.ztb rfl hS72) ?_;rintro _ w70 ⟨g70,rfl,hS70⟩;refine um (zef (c:=[.i .i64 r69.1.seq,ur69_0_0,ur69_0_1,ur69_0_2,ur69_0_3]) 0 ([.i .i64 r69.1.seq,ur69_0_0,ur69_0_1,ur69_0_2,ur69_0_3]) rfl rfl hS70 rfl rfl Ty.zhw (by simp only [List.all_cons,List.all_nil,List.all_append,hfr69_0_0.ln.one,hfr69_0_1.ln.one,hfr69_0_2.ln.one,hfr69_0_3.ln.one]; rfl) rfl rfl) ?_
    rintro _ w73 hS73;refine qm ?_;refine zay ?_;refine qs ?_;refine qc ?_;refine qr (zah rfl rfl zeh) ?_;refine qc ?_;refine W_gs (v:=pl g70 (0 + 1)) rfl rfl rfl rfl (fun ⟨hb74,_⟩=>?_) ?_
    ·rw [hb74];exact (qf Ty.zce ·)
    refine W_gs (v:=ur69_0_0) rfl rfl rfl rfl (fun ⟨hb75,_⟩=>?_) ?_
    ·rw [hb75];exact (qb 0 Ty.zfa hS73 ·)
    refine W_gs (v:=.i .i64 (r69.1.snaps.length:Int)) rfl rfl rfl rfl (fun ⟨hb76,_⟩=>?_) ?_
    ·rw [hb76];exact (qr (zbw Tryz.underlying34 rfl hfr69_0_0.ln) ·)
    refine W_gs (v:=.b (decide ((r69.1.snaps.length:Int) ≠ 0))) rfl rfl rfl rfl (fun ⟨hb77,_⟩=>?_) ?_
    ·rw [hb77];exact (qr (zah rfl rfl zeh) ·)
    refine zht rfl rfl rfl rfl rfl rfl (fun hc=>by rw [hc]; rfl) ?_;refine qn ?_;refine qy H (fun hc78 H=>?_) (fun hc78 H=>?_)
    ·refine qs ?_;refine qm ?_;obtain rfl:=oi H;refine qt ?_;exact ⟨Fr69,rfl,hS73.pick [] (by decide)⟩
    ·refine qk ?_;obtain ⟨l80,hl80,l84,hl84,H⟩:=bd2 H;refine qs ?_;refine xm (E_bs (t:=Found.t) (vs:=[]) (xs:=([]:List Found)) Tryz.underlying27 Ty.zsa rfl trivial rfl rfl hS73) ?_;rintro u79 w79 hS79;refine qc ?_;refine xm (zft (t:=Found.t) 0 Tryz.underlying27 Ty.zsa Ty.zk27 rfl rfl hS79 rfl ((hf17.mono (((ler14.trans le26).trans le71).trans ler69)).src hS79.agree) hl80) ?_;rintro v81 w81 hS81;refine q3 ?_;refine qr (zah rfl rfl (zmi (by decide) (by decide))) ?_;refine qr (zfn Tryz.underlying3 Tryz.underlying5 rfl (zxb _)) ?_;refine qc ?_;refine qr (zfn Tryz.underlying3 Tryz.underlying5 rfl (zxb _)) ?_;refine xm (E_bs (t:=tB) (vs:=[.i .u8 ((0:UInt8).toNat:Int),.i .u8 ((0:UInt8).toNat:Int),.i .u8 ((toB8 ((wr ((wu x1).tmod 1000)) / 2 ^ (8:Int).toNat)).toNat:Int),.i .u8 ((toB8 (wr ((wu x1).tmod 1000))).toNat:Int)]) (xs:=[(0:UInt8),(0:UInt8),(toB8 ((wr ((wu x1).tmod 1000)) / 2 ^ (8:Int).toNat)),(toB8 (wr ((wu x1).tmod 1000)))]) Tryz.underlying47 Ty.row5 rfl ⟨rfl,⟨rfl,⟨rfl,⟨rfl,trivial⟩⟩⟩⟩ rfl rfl hS81) ?_;rintro u82 w82 hS82;have hcl86:=(hS82.rowLn (k:=0) rfl).cells;refine qr (zjz (vs:=[(0,.i .i64 3),(1,.i .i64 (wr (wr ((wu x1).tmod 1000) + 5))),(2,u82)]) (v:=.agg (Record.cells (Record.mk 3 (wr (wr ((wu x1).tmod 1000) + 5)) [(0:UInt8),(0:UInt8),(toB8 ((wr ((wu x1).tmod 1000)) / 2 ^ (8:Int).toNat)),(toB8 (wr ((wu x1).tmod 1000)))]) u82)) Ty.bld49 rfl (by simp only [zkf,hcl86]; rfl)) ?_;refine W_c (v:=.agg (Loc.cells (Loc.mk 0 3 13 17))) rfl rfl rfl rfl (fun _=>rfl) ?_;have hcl87:=(hS82.rowLn (k:=0) rfl).cells;refine qr (zjz (vs:=[(0,.agg (Record.cells (Record.mk 3 (wr (wr ((wu x1).tmod 1000) + 5)) [(0:UInt8),(0:UInt8),(toB8 ((wr ((wu x1).tmod 1000)) / 2 ^ (8:Int).toNat)),(toB8 (wr ((wu x1).tmod 1000)))]) u82)),(1,.agg (Loc.cells (Loc.mk 0 3 13 17)))]) (v:=.agg (Found.cells (Found.mk (Record.mk 3 (wr (wr ((wu x1).tmod 1000) + 5)) [(0:UInt8),(0:UInt8),(toB8 ((wr ((wu x1).tmod 1000)) / 2 ^ (8:Int).toNat)),(toB8 (wr ((wu x1).tmod 1000)))]) (Loc.mk 0 3 13 17)) u82)) Ty.bld53 rfl (by simp only [zkf,hcl87]; rfl)) ?_;obtain ⟨F88,le88,hf88,hS88⟩:=hS82.freezeR 0 [1,2,3] rfl (by decide) (by decide);refine xm (E_bs (t:=Found.t) (vs:=[.agg (Found.cells (Found.mk (Record.mk 3 (wr (wr ((wu x1).tmod 1000) + 5)) [(0:UInt8),(0:UInt8),(toB8 ((wr ((wu x1).tmod 1000)) / 2 ^ (8:Int).toNat)),(toB8 (wr ((wu x1).tmod 1000)))]) (Loc.mk 0 3 13 17)) u82)]) (xs:=[(Found.mk (Record.mk 3 (wr (wr ((wu x1).tmod 1000) + 5)) [(0:UInt8),(0:UInt8),(toB8 ((wr ((wu x1).tmod 1000)) / 2 ^ (8:Int).toNat)),(toB8 (wr ((wu x1).tmod 1000)))]) (Loc.mk 0 3 13 17))]) Tryz.underlying27 Ty.zsa rfl ⟨⟨u82,rfl,hf88⟩,trivial⟩ rfl rfl hS88) ?_
     rintro u83 w83 hS83;refine xm (zft (t:=Found.t) 1 Tryz.underlying27 Ty.zsa Ty.zk27 rfl rfl hS83 rfl (hS83.rowSrc (k:=0) rfl) hl84) ?_;rintro v85 w85 hS85;refine qm ?_;obtain ⟨r89,hr89,H⟩:=zaq H;refine qs ?_;refine q2 ?_;obtain ⟨F91,le91,hf91,hS91⟩:=hS85.freezeR 1 [0,2,3] rfl (by decide) (by decide);refine lm (ziu hS91.good (hf16.mono ((((((le17.trans ler14).trans le26).trans le71).trans ler69).trans le88).trans le91)) hf91 hr89) ?_;rintro v92 w92 ⟨Fr89,ur89_0_0,ur89_0_1,ur89_0_2,ur89_0_3,rfl,hfr89_0_0,hfr89_0_1,hfr89_0_2,hfr89_0_3,hT92⟩;have hS92:=hS91.call hT92;have ler89:=hT92.ext;refine q3 ?_;refine xm (zgk (cs:=[.i .i64 0,.sl none 0 (.k 0),.sl none 0 (.k 0),.sl none 0 (.k 0),.sl none 0 (.k 0)]) Ty.ztb rfl hS92) ?_;rintro _ w90 ⟨g90,rfl,hS90⟩;refine um (zef (c:=[.i .i64 r89.1.seq,ur89_0_0,ur89_0_1,ur89_0_2,ur89_0_3]) 0 ([.i .i64 r89.1.seq,ur89_0_0,ur89_0_1,ur89_0_2,ur89_0_3]) rfl rfl hS90 rfl rfl Ty.zhw (by simp only [List.all_cons,List.all_nil,List.all_append,hfr89_0_0.ln.one,hfr89_0_1.ln.one,hfr89_0_2.ln.one,hfr89_0_3.ln.one]; rfl) rfl rfl) ?_;rintro _ w93 hS93;refine qm ?_;obtain ⟨x94,hx94,r96,hr96,H⟩:=bd2 H;refine qs ?_;refine qc ?_;refine qr (zah rfl rfl zdr) ?_;refine qc ?_;refine W_gs (v:=pl g90 (0 + 1)) rfl rfl rfl rfl (fun ⟨hb97,_⟩=>?_) ?_
     ·rw [hb97];exact (qf Ty.zce ·)
     refine W_gs (v:=ur89_0_0) rfl rfl rfl rfl (fun ⟨hb98,_⟩=>?_) ?_
     ·rw [hb98];exact (qb 0 Ty.zfa hS93 ·)
     refine W_gs (v:=.i .i64 (r89.1.snaps.length:Int)) rfl rfl rfl rfl (fun ⟨hb99,_⟩=>?_) ?_
     ·rw [hb99];exact (qr (zbw Tryz.underlying34 rfl hfr89_0_0.ln) ·)
     refine W_gs (v:=.b (decide ((r89.1.snaps.length:Int) = 0))) rfl rfl rfl rfl (fun ⟨hb100,_⟩=>?_) ?_
     ·rw [hb100];exact (qr (zah rfl rfl zdr) ·)
     refine zje rfl rfl rfl rfl rfl (fun hc=>by rw [hc]; rfl) rfl ?_;refine qc ?_;refine W_gs (v:=pl g90 (0 + 3)) rfl rfl rfl rfl (fun ⟨hb101,_⟩=>?_) ?_
     ·rw [hb101];exact (qf Ty.zem ·)
     refine W_gs (v:=ur89_0_2) rfl rfl rfl rfl (fun ⟨hb102,_⟩=>?_) ?_
     ·rw [hb102];exact (qb 0 Ty.zjv hS93 ·)
     refine W_gs (v:=.i .i64 (r89.1.exps.length:Int)) rfl rfl rfl rfl (fun ⟨hb103,_⟩=>?_) ?_
     ·rw [hb103];exact (qr (zbw Tryz.underlying36 rfl hfr89_0_2.ln) ·)
     refine W_gs (v:=.b (decide ((r89.1.exps.length:Int) = 1))) rfl rfl rfl rfl (fun ⟨hb104,_⟩=>?_) ?_
     ·rw [hb104];exact (qr (zah rfl rfl zdr) ·)
     refine zje rfl rfl rfl rfl rfl (fun hc=>by rw [hc]; rfl) rfl ?_;refine qc ?_;refine W_gs (v:=pl g90 (0 + 3)) rfl rfl rfl rfl (fun ⟨hb105,_⟩=>?_) ?_
     ·rw [hb105];exact (qf Ty.zem ·)
     refine W_gs (v:=ur89_0_2) rfl rfl rfl rfl (fun ⟨hb106,_⟩=>?_) ?_
     ·rw [hb106];exact (qb 0 Ty.zjv hS93 ·)
     refine W_gs (v:=elp ur89_0_2 ((0:Int).toNat * 3)) rfl rfl rfl rfl (fun ⟨hb107,_⟩=>?_) ?_
     ·rw [hb107];intro hK;have hy108:=hx94;rw [zbo hb107] at hy108;obtain ⟨hp109,hy109⟩:=zab hy108;obtain ⟨cs109,hr109,he109⟩:=hfr89_0_2.el hy109;obtain ⟨ue95_0,rfl,hue95_0⟩:=hr109;replace he109:=qj 3 he109;have hi109:=he109.ixd;refine qi Tryz.underlying36 Ty.zfm hi109 hp109 ?_;exact hK
     refine W_gs (v:=elp ur89_0_2 (((0:Int).toNat * 3) + 1)) rfl rfl rfl rfl (fun ⟨hb110,_⟩=>?_) ?_
     ·rw [hb110];intro hK;have hy111:=hx94;rw [zbo hb110] at hy111;obtain ⟨hp112,hy112⟩:=zab hy111;obtain ⟨cs112,hr112,he112⟩:=hfr89_0_2.el hy112;obtain ⟨ue95_0,rfl,hue95_0⟩:=hr112;replace he112:=qj 3 he112;have hi112:=he112.ixd;refine qr (zdz 1 Ty.zqm rfl hi112) ?_;exact hK
     refine W_gs (v:=.i .i64 x94.of) rfl rfl rfl rfl (fun ⟨hb113,_⟩=>?_) ?_
     ·rw [hb113];intro hK;have hy114:=hx94;rw [zbo hb113] at hy114;obtain ⟨hp115,hy115⟩:=zab hy114;obtain ⟨cs115,hr115,he115⟩:=hfr89_0_2.el hy115;obtain ⟨ue95_0,rfl,hue95_0⟩:=hr115;replace he115:=qj 3 he115;have hi115:=he115.ixd;refine qr (zep 1 Ty.zdj rfl (he115.mono hS93.agree) (by omega) rfl) ?_;exact hK
     refine W_gs (v:=.i .i64 (wr ((wu x1).tmod 1000))) rfl rfl rfl rfl (fun ⟨hb116,_⟩=>?_) ?_
     ·rw [hb116];exact (qc ·)
     refine W_gs (v:=.b (decide (x94.of = wr ((wu x1).tmod 1000)))) rfl rfl rfl rfl (fun ⟨hb117,_⟩=>?_) ?_
     ·rw [hb117];exact (qr (zah rfl rfl zdr) ·)
     refine zje rfl rfl rfl rfl rfl (fun hc=>by rw [hc]; rfl) rfl ?_;refine qc ?_;refine W_gs (v:=pl g90 (0 + 0)) rfl rfl rfl rfl (fun ⟨hb118,_⟩=>?_) ?_
     ·rw [hb118];exact (qf Ty.zif ·)
     refine W_gs (v:=.i .i64 r89.1.seq) rfl rfl rfl rfl (fun ⟨hb119,_⟩=>?_) ?_
     ·rw [hb119];exact (qb 0 Ty.zdj hS93 ·)
     refine W_gs (v:=.i .i64 (wr ((wu x1).tmod 1000))) rfl rfl rfl rfl (fun ⟨hb120,_⟩=>?_) ?_
     ·rw [hb120];exact (qc ·)
     refine W_gs (v:=.i .i64 (wr (wr ((wu x1).tmod 1000) + 6))) rfl rfl rfl rfl (fun ⟨hb121,_⟩=>?_) ?_
     ·rw [hb121];exact (qc ·)
     refine W_gs (v:=.b (decide (r89.1.seq = wr (wr ((wu x1).tmod 1000) + 6)))) rfl rfl rfl rfl (fun ⟨hb122,_⟩=>?_) ?_
     ·rw [hb122];exact (qr (zah rfl rfl zdr) ·)
     refine zje rfl rfl rfl rfl rfl (fun hc=>by rw [hc]; rfl) rfl ?_;refine qc ?_;obtain ⟨Q124,hQ124⟩:∃ Q:Hp → Prop,Q = fun wq=>St [] w F Fr89 [.box g90 [.i .i64 r89.1.seq,ur89_0_0,ur89_0_1,ur89_0_2,ur89_0_3],.row Found.t u83 [(Found.mk (Record.mk 3 (wr (wr ((wu x1).tmod 1000) + 5)) [(0:UInt8),(0:UInt8),(toB8 ((wr ((wu x1).tmod 1000)) / 2 ^ (8:Int).toNat)),(toB8 (wr ((wu x1).tmod 1000)))]) (Loc.mk 0 3 13 17))],.box g70 [.i .i64 r69.1.seq,ur69_0_0,ur69_0_1,ur69_0_2,ur69_0_3],.box g15 [.i .i64 r14.1.seq,ur14_0_0,ur14_0_1,ur14_0_2,ur14_0_3]] wq:=⟨_,rfl⟩;refine W_gw (v:=.b r96) (Q:=Q124) (by rw [hQ124]; exact hS93) rfl rfl rfl rfl (fun ⟨hb123,_⟩=>?_) ?_
     ·rw [hb123];intro hK;have hy125:=hr96;rw [zbo hb123] at hy125;refine ql (zjg hS93.good hy125) ?_;rintro v126 w126 ⟨Fr96,rfl,hT126⟩;have hS126:=hS93.lent hT126;exact hK _ (by rw [hQ124]; exact hS126)
     intro w127 hS127;rw [hQ124] at hS127;refine Nxt.now ?_;refine zje rfl rfl rfl rfl rfl (fun hc=>by rw [hc]; rfl) rfl ?_;refine qm ?_;obtain rfl:=oi H;refine qt ?_;exact ⟨Fr89,rfl,hS127.pick [] (by decide)⟩
end
end Go.Wk.Lf
end
section
namespace Go.Wk
theorem iter_rule {S A:Type} {F:(S → Option A) → S → Option A} (Inv:S → Prop) (m:S → Nat) (g:S → Option A) (h:∀ rec s,Inv s → (∀ s',Inv s' → m s' < m s → rec s' = g s') → F rec s = g s):∀ n s,Inv s → m s < n → iter F n s = g s:=by
 intro n
 induction n with
 | zero=>intro s _ hm; omega
 | succ n ih=>intro s hs hm; exact h (iter F n) s hs fun s' hs' hlt=>ih s' hs' (by omega)
theorem loop_rule {S A:Type} {F:(S → Option A) → S → Option A} {s0:S} (Inv:S → Prop) (m:S → Nat) (g:S → Option A) (h0:Inv s0) (hm:m s0 < 4611686018427387904) (h:∀ rec s,Inv s → (∀ s',Inv s' → m s' < m s → rec s' = g s') → F rec s = g s):loop F s0 = g s0 :=
 iter_rule Inv m g h _ s0 h0 (Nat.lt_trans hm (by decide))
theorem zkk {S A:Type} {F:(S → Option A) → S → Option A} {s0:S} {a:Option A} (Inv:S → Prop) (m:S → Nat) (h0:Inv s0) (hm:m s0 < 4611686018427387904) (h:∀ rec s,Inv s → (∀ s',Inv s' → m s' < m s → rec s' = a) → F rec s = a):loop F s0 = a :=
 loop_rule Inv m (fun _=>a) h0 hm h
@[simp] theorem zav {α β:Type} (x:α) (f:α → Option β):bd (some x) f = f x:=rfl
theorem bd_eq {α β:Type} {o:Option α} {x:α} (h:o = some x) (f:α → Option β):bd o f = f x:=by rw [h]; rfl
theorem ix_nat {α:Type} (l:List α) (n:Nat):ix l (n:Int) = l[n]?:=rfl
theorem ix_at {α:Type} {l:List α} {i:Int} {n:Nat} (hi:i = (n:Int)) (h:n < l.length):ix l i = some l[n]:=by subst hi; rw [ix_nat]; exact List.getElem?_eq_getElem h
theorem zff {x:Int} (h0:-9223372036854775808 ≤ x) (h1:x ≤ 9223372036854775807):wr x = x:=i64_id h0 h1
theorem zdb {α:Type} {xs ys:List α} (h:xs.length + ys.length ≤ 1073741824):app xs ys = some (xs ++ ys):=if_pos h
theorem zig {α:Type} {l:List α} {a b:Int} (h0:0 ≤ a) (h1:a ≤ b) (h2:b ≤ (l.length:Int)):cut l a b = some ((l.take b.toNat).drop a.toNat):=if_pos ⟨h0,h1,h2⟩
theorem rep_ok {α:Type} {n:Int} {x:α} (h0:0 ≤ n) (h1:n ≤ 1073741824):rep n x = some (List.replicate n.toNat x):=if_pos ⟨h0,h1⟩
theorem lt_t {n m:Nat} (h:n < m):decide ((n:Int) < (m:Int)) = true:=decide_eq_true (by omega)
theorem lt_f {n m:Nat} (h:¬ n < m):decide ((n:Int) < (m:Int)) = false:=decide_eq_false (by omega)
theorem zfc {α:Type} {l:List α} {n:Nat} (h:n < l.length):ix l (n:Int) = some l[n]:=List.getElem?_eq_getElem h
theorem zcf {n:Nat} (h:n < 4611686018427387904):wr ((n:Int) + 1) = ((n + 1:Nat):Int):=by rw [zff (by omega) (by omega)]; rfl
theorem znh {n:Nat} (h0:0 < n) (h:n < 4611686018427387904):wr ((n:Int) - 1) = ((n - 1:Nat):Int):=by rw [zff (by omega) (by omega)]; omega
theorem iter_for {S σ A:Type} {F:(S → Option A) → S → Option A} (mk:Nat → σ → S) (n:Nat) (Inv:Nat → σ → Prop) (Post:Option A → Prop)
  (hstep:∀ rec i s,i < n → Inv i s → (∀ s',Inv (i + 1) s' → Post (rec (mk (i + 1) s'))) → Post (F rec (mk i s))) (hend:∀ rec s,Inv n s → Post (F rec (mk n s))):∀ k i s,i ≤ n → n - i < k → Inv i s → Post (iter F k (mk i s)):=by
 intro k
 induction k with
 | zero=>intro i s _ h _; omega
 | succ k ih =>
  intro i s hi hk hI
  by_cases h:i = n
  ·subst h; exact hend (iter F k) s hI
  ·exact hstep (iter F k) i s (by omega) hI fun s' hs'=>ih (i + 1) s' (by omega) (by omega) hs'
theorem zwt {S σ A:Type} {F:(S → Option A) → S → Option A} (mk:Nat → σ → S) (n:Nat) (Inv:Nat → σ → Prop) (Post:Option A → Prop) {i0:Nat} {s0:σ} {x0:S} (hx:x0 = mk i0 s0) (hi0:i0 ≤ n) (h0:Inv i0 s0) (hn:n < 4611686018427387904)
  (hstep:∀ rec i s,i < n → Inv i s → (∀ s',Inv (i + 1) s' → Post (rec (mk (i + 1) s'))) → Post (F rec (mk i s))) (hend:∀ rec s,Inv n s → Post (F rec (mk n s))):Post (loop F x0) :=
 hx ▸ iter_for mk n Inv Post hstep hend _ i0 s0 hi0 (by omega) h0
theorem zfq {S σ A:Type} {F:(S → Option A) → S → Option A} (mk:Nat → σ → S) (n:Nat) (Inv:Nat → σ → Prop) (a:Option A) {i0:Nat} {s0:σ} {x0:S} (hx:x0 = mk i0 s0) (hi0:i0 ≤ n) (h0:Inv i0 s0) (hn:n < 4611686018427387904)
  (hstep:∀ rec i s,i < n → Inv i s → (∀ s',Inv (i + 1) s' → rec (mk (i + 1) s') = a) → F rec (mk i s) = a) (hend:∀ rec s,Inv n s → F rec (mk n s) = a):loop F x0 = a:=by
 exact zwt mk n Inv (fun o=>o = a) hx hi0 h0 hn hstep hend
theorem zgi {S σ α A:Type} {F:(S → Option A) → S → Option A} (mk:Nat → σ → S) (l:List α) (f:σ → α → σ) (K:σ → Option A) (Inv:Nat → σ → Prop) {i0:Nat} {s0:σ} {x0:S} (hx:x0 = mk i0 s0) (hi0:i0 ≤ l.length) (h0:Inv i0 s0) (hn:l.length < 4611686018427387904)
  (hstep:∀ rec i s (h:i < l.length),Inv i s → Inv (i + 1) (f s l[i]) ∧ F rec (mk i s) = rec (mk (i + 1) (f s l[i]))) (hend:∀ rec s,Inv l.length s → F rec (mk l.length s) = K s):loop F x0 = K ((l.drop i0).foldl f s0):=by
 refine zfq mk l.length (fun i s=>i ≤ l.length ∧ Inv i s ∧ K ((l.drop i).foldl f s) = K ((l.drop i0).foldl f s0)) _ hx hi0 ⟨hi0,h0,rfl⟩ hn ?_ ?_
 ·intro rec i s hi hI hrec;obtain ⟨h1,h2⟩:=hstep rec i s hi hI.2.1;rw [h2];refine hrec _ ⟨by omega,h1,?_⟩;rw [← hI.2.2,List.drop_eq_getElem_cons hi]; rfl
 ·intro rec s hI;rw [hend rec s hI.2.1,← hI.2.2,List.drop_length]; rfl
theorem zdp {α:Type} {l:List α} {i:Nat} (h:i < l.length):l.take (i + 1) = l.take i ++ [l[i]]:=List.take_succ_eq_append_getElem h
end Go.Wk
end
section

end
section
namespace Go.Wk.Lf
open Go.V Go.Sort Go.Proofs
theorem zom {S A:Type} {F:(S → Option A) → S → Option A} (mk:Nat → S) (n:Nat) (ok:Nat → Bool) (K B:Option A) {x0:S} (hx:x0 = mk 0) (hn:n < 4611686018427387904)
  (hstep:∀ rec i,i < n → F rec (mk i) = if ok i = true then rec (mk (i + 1)) else B) (hend:∀ rec,F rec (mk n) = K):loop F x0 = if (∀ i,i < n → ok i = true) then K else B:=by
 refine zfq (σ:=Unit) (fun i _=>mk i) n (fun i _=>∀ j,j < i → ok j = true) _ (i0:=0) (s0:=()) hx (Nat.zero_le _) (by intro j h; omega) hn ?_ ?_
 ·intro rec i _ hi hI hrec;rw [hstep rec i hi]
  by_cases h:ok i = true
  ·rw [if_pos h];exact hrec () fun j hj=>by
    rcases (by omega:j < i ∨ j = i) with h1 | rfl
    ·exact hI j h1
    ·exact h
  ·rw [if_neg h,if_neg fun hall=>h (hall i hi)]
 ·intro rec _ hI;rw [hend,if_pos hI]
theorem zpo {α:Type} (l:List α) (p:α → Bool) (q:Nat → Bool) (h:∀ i (hi:i < l.length),q i = p l[i]):(∀ i,i < l.length → q i = true) ↔ l.all p = true:=by
 rw [List.all_eq_true];constructor
 ·intro h1 x hx;obtain ⟨i,hi,rfl⟩:=List.getElem_of_mem hx;rw [← h i hi]; exact h1 i hi
 ·intro h1 i hi;rw [h i hi]; exact h1 _ (List.getElem_mem hi)
def seen (b:UInt8):Bool:=decide (33 ≤ b.toNat) && decide (b.toNat ≤ 126)
def zjf (s:List UInt8):Bool:=(decide (1 ≤ s.length) && decide (s.length ≤ 20)) && s.all seen
theorem name_eq (s:List UInt8):zfi s = some (zjf s):=by
 unfold zfi zjf
 by_cases h1:s.length < 1 ∨ 20 < s.length
 ·rw [if_pos (by simp only [Bool.or_eq_true,decide_eq_true_eq]; omega)];have:(decide (1 ≤ s.length) && decide (s.length ≤ 20)) = false:=by
   simp only [Bool.and_eq_false_iff,decide_eq_false_iff_not]; omega
  rw [this]; rfl
 ·rw [if_neg (by simp only [Bool.or_eq_true,decide_eq_true_eq]; omega)];have h2:(decide (1 ≤ s.length) && decide (s.length ≤ 20)) = true:=by
   simp only [Bool.and_eq_true,decide_eq_true_eq]; omega
  rw [h2,Bool.true_and];rw [zom (x0:=(0:Int)) (fun i=>(i:Int)) s.length (fun i=>seen (s.getD i 0)) (some true) (some false) rfl (by omega) ?_ ?_]
  ·by_cases h:s.all seen = true
   ·rw [h,if_pos ((zpo s seen _ fun i hi=>by simp [hi]).2 h)]
   ·rw [Bool.not_eq_true] at h;rw [h,if_neg fun h3=>by rw [(zpo s seen _ fun i hi=>by simp [hi]).1 h3] at h; cases h]
  ·intro rec i hi;simp only [zfi.l2];rw [if_t (lt_t hi),zfc hi,zav];simp only [hi,List.getD_eq_getElem?_getD,List.getElem?_eq_getElem,Option.getD_some,seen]
   by_cases h33:(s[i].toNat:Int) < 33
   ·rw [zhf (by simp; omega),zav,if_pos (by simp [h33])];rw [if_neg (by simp only [Bool.and_eq_true,decide_eq_true_eq]; omega)]
   ·rw [zbo (by simp; omega),zav]
    by_cases h126:(126:Int) < (s[i].toNat:Int)
    ·rw [if_pos (by simp [h126]),if_neg (by simp only [Bool.and_eq_true,decide_eq_true_eq]; omega)]
    ·rw [if_neg (by simp only [Bool.or_eq_true,decide_eq_true_eq]; omega),if_pos (by simp only [Bool.and_eq_true,decide_eq_true_eq]; omega),zcf (by omega)]
  ·intro rec;simp only [zfi.l2,zfi.k1];rw [if_f (lt_f (Nat.lt_irrefl _))]
theorem cloneB_eq (l:List UInt8) (hl:l.length ≤ 1073741824):zes l = some l:=by
 unfold zes;rw [zdb (by simpa using hl),zav]; rfl
end Go.Wk.Lf
end
