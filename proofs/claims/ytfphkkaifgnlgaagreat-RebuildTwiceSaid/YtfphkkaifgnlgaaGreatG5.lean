/- Plain lemmas on the words of lifted functions. What tree.Name tells, plainly. What manifest.Check tells, plainly; bytes of manifests. Lists: each once of what stands side by side. What manifest.Ids tells, plainly. Numbers read out of bytes; readers, plainly. What manifest.Read tells, plainly. What catalog.Check tells, plainly. Where something stands, or should, in a row that rises: slices.BinarySearchFunc, plainly. -/
import Derived.Test.YtfphkkaifgnlgaaGreatG4
set_option linter.unusedVariables false
set_option linter.unusedSimpArgs false
section
namespace Go.Wk.Lf
open Go.V Go.Proofs
noncomputable section
set_option maxRecDepth 100000
variable {K:Tb} {F:Frz} {w:Hp}
def zci.k1 (x0:List UInt8):Option Int :=
  some (x0.length:Int)
def zci.l2 (x0:List UInt8) (rec5:(UInt32 × Int)→Option Int):(UInt32 × Int)→Option Int
  | (i3,i4) =>
    if decide (i4 < (x0.length:Int)) then
      bd (ix x0 i4) fun x7 =>
      if ((decide (8≤wr (i4+1))&&decide (((((i3*(2:UInt32))+((x7.toUInt32+(1:UInt32))*(2654435761:UInt32))) >>> UInt32.ofNat 28).toNat:Int)=0))||decide (wr (i4+1)=64)) then
        some (wr (i4+1))
      else
        rec5 (((i3*(2:UInt32))+((x7.toUInt32+(1:UInt32))*(2654435761:UInt32))),wr (i4+1))
    else
      zci.k1 x0
def zci (x0:List UInt8):Option Int :=
  loop (zci.l2 x0) ((0:UInt32),0)
theorem zpk {x0:List UInt8} {r:Int} {v0:Val} (hA:Gd F w) (h0:SlF tB F v0 x0) (H:zci x0=some r):Ret Tryz.prog K 127 [v0] w fun v w'=>∃ (F':Frz),v = .i .i64 r∧St [] w F F' [] w':=by
 refine qa1 Tryz.func127 ?_;have hS:=St.start hA;dsimp only [zci] at H;refine qsm ?_;refine qsm ?_;refine zai (fun E wq=>zci.k1 x0=some r ∧ ∃ (F1:Frz),E=[(0,v0)]∧F.le F1∧St [] w F F1 [] wq) ?_ ?_
 ·refine qsm ?_;refine zar ?_;refine zbm (fun (s:UInt32 × Int) E wq=>∃ (F2:Frz),E=[(0,v0),(3,.i .u32 (s.1.toNat:Int)),(4,.i .i64 s.2)]∧F.le F2∧St [] w F F2 [] wq) H ?_ ?_
  ·exact ⟨_,⟨F,rfl,(Frz.le.refl _),hS⟩,⟨rfl,rfl,rfl,trivial⟩⟩
  ·rintro rec5 ⟨i3,i4⟩ E w2 hI H
   try dsimp only at hI
   obtain ⟨F2,rfl,le2,hS2⟩:=hI;dsimp only [zci.l2] at H;refine zay ?_;refine qs ?_;refine q2 ?_;refine qr (zbs Tryz.underlying47 rfl h0.ln) ?_;refine qr (zah rfl rfl zbp) ?_;refine qn ?_;refine qy H (fun hc6 H=>?_) (fun hc6 H=>?_)
   ·refine qk ?_;refine zay ?_;refine zar ?_;obtain ⟨x7,hx7,H⟩:=zap H;refine qsc ?_;refine qr (zah rfl rfl (congrArg (fun z=>some (Val.i .u32 z)) (u32_mul i3 (2:UInt32)))) ?_;refine q2 ?_;obtain ⟨hp9,hy9⟩:=zac hx7;obtain ⟨cs9,hr9,he9⟩:=(h0.mono le2).el hy9;obtain rfl:=hr9;replace he9:=qj 1 he9;have hi9:=he9.ixd;refine qi Tryz.underlying47 Ty.zjw hi9 hp9 ?_;refine qr (zfs 0 Ty.zwt rfl (he9.mono hS2.agree) (by omega) rfl) ?_;refine qr (zgv Tryz.underlying5 Tryz.underlying169 rfl (u8_u32 _)) ?_;refine qr (zah rfl rfl (congrArg (fun z=>some (Val.i .u32 z)) (zfz x7.toUInt32 (1:UInt32)))) ?_;refine qr (zah rfl rfl (congrArg (fun z=>some (Val.i .u32 z)) (u32_mul (x7.toUInt32+(1:UInt32)) (2654435761:UInt32)))) ?_;refine qr (zah rfl rfl (congrArg (fun z=>some (Val.i .u32 z)) (zfz (i3*(2:UInt32)) ((x7.toUInt32+(1:UInt32))*(2654435761:UInt32))))) ?_;refine qm ?_;refine qs ?_;refine q2 ?_;refine qr (zah rfl rfl znk) ?_;refine qc ?_;refine W_gs (v:=.i .u32 (((i3*(2:UInt32))+((x7.toUInt32+(1:UInt32))*(2654435761:UInt32))).toNat:Int)) rfl rfl rfl rfl (fun ⟨hb10,_⟩=>?_) ?_
    ·rw [hb10];exact (qc ·)
    refine W_gs (v:=.i .u32 ((((i3*(2:UInt32))+((x7.toUInt32+(1:UInt32))*(2654435761:UInt32))) >>> UInt32.ofNat 28).toNat:Int)) rfl rfl rfl rfl (fun ⟨hb11,_⟩=>?_) ?_
    ·rw [hb11];exact (qr (zah rfl rfl ((zod (by decide) (by decide)).trans (congrArg (fun z=>some (Val.i .u32 z)) (zus _ _ 28 rfl (by decide))))) ·)
    refine W_gs (v:=.b (decide (((((i3*(2:UInt32))+((x7.toUInt32+(1:UInt32))*(2654435761:UInt32))) >>> UInt32.ofNat 28).toNat:Int)=0))) rfl rfl rfl rfl (fun ⟨hb12,_⟩=>?_) ?_
    ·rw [hb12];exact (qr (zah rfl rfl zeg) ·)
    refine ziu rfl rfl rfl rfl rfl (fun hc=>by rw [hc];rfl) rfl ?_;refine qc ?_;refine W_gs (v:=.i .i64 i4) rfl rfl rfl rfl (fun ⟨hb13,_⟩=>?_) ?_
    ·rw [hb13];exact (qc ·)
    refine W_gs (v:=.i .i64 (wr (i4+1))) rfl rfl rfl rfl (fun ⟨hb14,_⟩=>?_) ?_
    ·rw [hb14];exact (qc ·)
    refine W_gs (v:=.b (decide (wr (i4+1)=64))) rfl rfl rfl rfl (fun ⟨hb15,_⟩=>?_) ?_
    ·rw [hb15];exact (qr (zah rfl rfl zeg) ·)
    refine zgl rfl rfl rfl rfl rfl rfl (fun hc=>by rw [hc];rfl) ?_;refine qn ?_;refine qy H (fun hc16 H=>?_) (fun hc16 H=>?_)
    ·refine qs ?_;refine q2 ?_;refine qm ?_;obtain rfl:=oi H;refine qt ?_;exact ⟨F2,rfl,hS2⟩
    ·refine zec ?_;refine zbf ?_;refine zcl ?_;refine qd ?_;refine q3 ?_;refine zbk ?_;exact zbd (((i3*(2:UInt32))+((x7.toUInt32+(1:UInt32))*(2654435761:UInt32))),wr (i4+1)) _ H ⟨F2,rfl,le2,hS2⟩ ⟨rfl,rfl,rfl,trivial⟩
   ·refine zcc _ rfl ?_;exact zbe _ ⟨H,⟨F2,rfl,le2,hS2⟩⟩ ⟨rfl,trivial⟩
 ·rintro E w1 ⟨H,F1,rfl,le1,hS1⟩;dsimp only [zci.k1] at H;refine qsc ?_;refine qr (zbs Tryz.underlying47 rfl h0.ln) ?_;refine qm ?_;obtain rfl:=oi H;refine qt ?_;exact ⟨F1,rfl,hS1⟩
def zcr.k1 (l2:List (List UInt8)):Option (List (List UInt8)) :=
  some l2
def zcr.l2 (rec12:((List UInt8) × (List (List UInt8)))→Option (List (List UInt8))):((List UInt8) × (List (List UInt8)))→Option (List (List UInt8))
  | (l6,l9) =>
    if decide (0 < (l6.length:Int)) then
      bd (zci l6) fun r14 =>
      bd (cut (α:=UInt8) l6 0 r14) fun l16 =>
      bd (zfl l16) fun r18 =>
      bd (app (α:=(List UInt8)) l9 [r18]) fun l20 =>
      bd (cut (α:=UInt8) l6 r14 (l6.length:Int)) fun l24 =>
      rec12 (l24,l20)
    else
      zcr.k1 l9
def zcr (x0:List UInt8):Option (List (List UInt8)) :=
  loop (zcr.l2) (x0,[])
theorem zqh {x0:List UInt8} {r:(List (List UInt8))} {v0:Val} (hA:Gd F w) (h0:SlF tB F v0 x0) (H:zcr x0=some r):Ret Tryz.prog K 82 [v0] w fun v w'=>∃ (F':Frz) (q0:Val),v=q0∧St [] w F F' [.row (tSl tB) q0 (r)] w':=by
 refine qa1 Tryz.func82 ?_;have hS:=St.start hA;dsimp only [zcr] at H;refine qsm ?_;refine qsm ?_;refine zai (fun E wq=>∃ l2:List (List UInt8),zcr.k1 l2=some r ∧ ∃ (F1:Frz) (u3:Val),E=[(3,u3)]∧F.le F1∧St [] w F F1 [.row (tSl tB) u3 l2] wq) ?_ ?_
 ·refine zar ?_;refine zbm (fun (s:(List UInt8) × (List (List UInt8))) E wq=>∃ (F5:Frz) (u7:Val) (u10:Val),E=[(0,u7),(3,u10)]∧F.le F5∧SlF tB F5 u7 s.1∧St [] w F F5 [.row (tSl tB) u10 s.2] wq) H ?_ ?_
  ·have hS27:=hS.nilRow (tSl tB);exact ⟨_,⟨F,v0,(.sl none 0 (.k 0)),rfl,(Frz.le.refl _),h0,hS27⟩,⟨rfl,rfl,trivial⟩⟩
  ·rintro rec12 ⟨l6,l9⟩ E w5 hI H
   try dsimp only at hI
   obtain ⟨F5,u7,u10,rfl,le5,hx8,hS5⟩:=hI;dsimp only [zcr.l2] at H;refine zay ?_;refine qsc ?_;refine qr (zbs Tryz.underlying47 rfl hx8.ln) ?_;refine qr (zah rfl rfl zgn) ?_;refine qn ?_;refine qy H (fun hc13 H=>?_) (fun hc13 H=>?_)
   ·refine qk ?_;refine zar ?_;obtain ⟨r14,hr14,H⟩:=zap H;refine qsc ?_;refine lm (zpk hS5.good hx8 hr14) ?_;rintro v15 w15 ⟨Fr14,rfl,hT15⟩;have hS15:=hS5.lent hT15;refine qm ?_;obtain ⟨l16,hl16,r18,hr18,H⟩:=bd2 H;obtain ⟨l20,hl20,H⟩:=zap H;refine qs ?_;refine q3 ?_;refine zse 0 r14 rfl rfl rfl rfl Tryz.underlying47 Ty.zjw rfl (.inl ⟨rfl,rfl⟩) (.inr ⟨_,_,rfl,rfl⟩) hx8 hl16 ?_;intro q17 hv17;refine lm (zky hS15.good hv17 hr18) ?_;rintro ur18_0 w22 ⟨Fr18,_,rfl,hT22⟩;have hS22:=hS15.call hT22;have ler18:=hT22.ext;obtain ⟨F23,le23,hf23,hS23⟩:=hS22.freezeR 0 [1] rfl (by decide) (by decide);refine xm (E_bs (t:=(tSl tB)) (vs:=[ur18_0]) (xs:=[r18]) Tryz.underlying95 Ty.row47 rfl (by simp only [List.map_cons,List.map_nil,hf23.ln.cells];exact ⟨⟨_,rfl,hf23⟩,trivial⟩) rfl rfl hS23) ?_;rintro u19 w19 hS19;refine xm (zgg (t:=(tSl tB)) 1 Tryz.underlying95 Ty.row47 Ty.zk95 rfl rfl hS19 rfl (hS19.rowSrc (k:=0) rfl) hl20) ?_;rintro v21 w21 hS21;refine qm ?_;obtain ⟨l24,hl24,H⟩:=zap H;refine qd ?_;refine q2 ?_;refine zse r14 (l6.length:Int) rfl rfl rfl rfl Tryz.underlying47 Ty.zjw rfl (.inr ⟨_,_,rfl,rfl⟩) (.inl ⟨rfl,rfl⟩) hx8 hl24 ?_;intro q25 hv25;refine qc ?_;refine zbk ?_;refine zbf ?_;exact zbd (l24,l20) _ H ⟨F23,q25,v21,rfl,((le5.trans ler18).trans le23),(hv25.mono (ler18.trans le23)),hS21.pick [1] (by decide)⟩ ⟨rfl,rfl,trivial⟩
   ·refine zcc _ rfl ?_;exact zbe _ ⟨l9,H,⟨F5,u10,rfl,le5,hS5⟩⟩ ⟨rfl,trivial⟩
 ·rintro E w1 ⟨l2,H,F1,u3,rfl,le1,hS1⟩;dsimp only [zcr.k1] at H;refine qsc ?_;refine qm ?_;obtain rfl:=oi H;refine qt ?_;exact ⟨F1,u3,rfl,hS1⟩
def zia:Option (List UInt32) :=
  some ([1116352408,1899447441,3049323471,3921009573,961987163,1508970993,2453635748,2870763221,3624381080,310598401,607225278,1426881987,1925078388,2162078206,2614888103,3248222580,3835390401,4022224774,264347078,604807628,770255983,1249150122,1555081692,1996064986,2554220882,2821834349,2952996808,3210313671,3336571891,3584528711,113926993,338241895,666307205,773529912,1294757372,1396182291,1695183700,1986661051,2177026350,2456956037,2730485921,2820302411,3259730800,3345764771,3516065817,3600352804,4094571909,275423344,430227734,506948616,659060556,883997877,958139571,1322822218,1537002063,1747873779,1955562222,2024104815,2227730452,2361852424,2428436474,2756734187,3204031479,3329325298]:List UInt32)
theorem zph {r:(List UInt32)} (hA:Gd F w) (H:zia=some r):Ret Tryz.prog K 109 [] w fun v w'=>∃ (F':Frz),v = .agg (arrC 64 cW 0 r)∧(r).length=64∧St [] w F F' [] w':=by
 refine zsf (args:=[]) Tryz.func109 rfl (by decide) rfl ?_;change C _ _ _ _ _ [] _;have hS:=St.start hA;dsimp only [zia] at H;refine qs ?_;refine xm (zft (cs:=arrC 64 cW 0 (List.replicate 64 (0:UInt32))) Ty.zxq rfl hS) ?_;rintro _ w1 ⟨g1,rfl,hS1⟩;refine qn ?_;refine qs ?_;refine qr (zsg (vs:=[(0,.i .u32 ((1116352408:UInt32).toNat:Int)),(1,.i .u32 ((1899447441:UInt32).toNat:Int)),(2,.i .u32 ((3049323471:UInt32).toNat:Int)),(3,.i .u32 ((3921009573:UInt32).toNat:Int)),(4,.i .u32 ((961987163:UInt32).toNat:Int)),(5,.i .u32 ((1508970993:UInt32).toNat:Int)),(6,.i .u32 ((2453635748:UInt32).toNat:Int)),(7,.i .u32 ((2870763221:UInt32).toNat:Int)),(8,.i .u32 ((3624381080:UInt32).toNat:Int)),(9,.i .u32 ((310598401:UInt32).toNat:Int)),(10,.i .u32 ((607225278:UInt32).toNat:Int)),(11,.i .u32 ((1426881987:UInt32).toNat:Int)),(12,.i .u32 ((1925078388:UInt32).toNat:Int)),(13,.i .u32 ((2162078206:UInt32).toNat:Int)),(14,.i .u32 ((2614888103:UInt32).toNat:Int)),(15,.i .u32 ((3248222580:UInt32).toNat:Int)),(16,.i .u32 ((3835390401:UInt32).toNat:Int)),(17,.i .u32 ((4022224774:UInt32).toNat:Int)),(18,.i .u32 ((264347078:UInt32).toNat:Int)),(19,.i .u32 ((604807628:UInt32).toNat:Int)),(20,.i .u32 ((770255983:UInt32).toNat:Int)),(21,.i .u32 ((1249150122:UInt32).toNat:Int)),(22,.i .u32 ((1555081692:UInt32).toNat:Int)),(23,.i .u32 ((1996064986:UInt32).toNat:Int)),(24,.i .u32 ((2554220882:UInt32).toNat:Int)),(25,.i .u32 ((2821834349:UInt32).toNat:Int)),(26,.i .u32 ((2952996808:UInt32).toNat:Int)),(27,.i .u32 ((3210313671:UInt32).toNat:Int)),(28,.i .u32 ((3336571891:UInt32).toNat:Int)),(29,.i .u32 ((3584528711:UInt32).toNat:Int)),(30,.i .u32 ((113926993:UInt32).toNat:Int)),(31,.i .u32 ((338241895:UInt32).toNat:Int)),(32,.i .u32 ((666307205:UInt32).toNat:Int)),(33,.i .u32 ((773529912:UInt32).toNat:Int)),(34,.i .u32 ((1294757372:UInt32).toNat:Int)),(35,.i .u32 ((1396182291:UInt32).toNat:Int)),(36,.i .u32 ((1695183700:UInt32).toNat:Int)),(37,.i .u32 ((1986661051:UInt32).toNat:Int)),(38,.i .u32 ((2177026350:UInt32).toNat:Int)),(39,.i .u32 ((2456956037:UInt32).toNat:Int)),(40,.i .u32 ((2730485921:UInt32).toNat:Int)),(41,.i .u32 ((2820302411:UInt32).toNat:Int)),(42,.i .u32 ((3259730800:UInt32).toNat:Int)),(43,.i .u32 ((3345764771:UInt32).toNat:Int)),(44,.i .u32 ((3516065817:UInt32).toNat:Int)),(45,.i .u32 ((3600352804:UInt32).toNat:Int)),(46,.i .u32 ((4094571909:UInt32).toNat:Int)),(47,.i .u32 ((275423344:UInt32).toNat:Int)),(48,.i .u32 ((430227734:UInt32).toNat:Int)),(49,.i .u32 ((506948616:UInt32).toNat:Int)),(50,.i .u32 ((659060556:UInt32).toNat:Int)),(51,.i .u32 ((883997877:UInt32).toNat:Int)),(52,.i .u32 ((958139571:UInt32).toNat:Int)),(53,.i .u32 ((1322822218:UInt32).toNat:Int)),(54,.i .u32 ((1537002063:UInt32).toNat:Int)),(55,.i .u32 ((1747873779:UInt32).toNat:Int)),(56,.i .u32 ((1955562222:UInt32).toNat:Int)),(57,.i .u32 ((2024104815:UInt32).toNat:Int)),(58,.i .u32 ((2227730452:UInt32).toNat:Int)),(59,.i .u32 ((2361852424:UInt32).toNat:Int)),(60,.i .u32 ((2428436474:UInt32).toNat:Int)),(61,.i .u32 ((2756734187:UInt32).toNat:Int)),(62,.i .u32 ((3204031479:UInt32).toNat:Int)),(63,.i .u32 ((3329325298:UInt32).toNat:Int))]) (v:=.agg (arrC 64 cW 0 ([1116352408,1899447441,3049323471,3921009573,961987163,1508970993,2453635748,2870763221,3624381080,310598401,607225278,1426881987,1925078388,2162078206,2614888103,3248222580,3835390401,4022224774,264347078,604807628,770255983,1249150122,1555081692,1996064986,2554220882,2821834349,2952996808,3210313671,3336571891,3584528711,113926993,338241895,666307205,773529912,1294757372,1396182291,1695183700,1986661051,2177026350,2456956037,2730485921,2820302411,3259730800,3345764771,3516065817,3600352804,4094571909,275423344,430227734,506948616,659060556,883997877,958139571,1322822218,1537002063,1747873779,1955562222,2024104815,2227730452,2361852424,2428436474,2756734187,3204031479,3329325298]:List UInt32))) Ty.blda170 rfl rfl) ?_
 refine um (zea (c:=arrC 64 cW 0 ([1116352408,1899447441,3049323471,3921009573,961987163,1508970993,2453635748,2870763221,3624381080,310598401,607225278,1426881987,1925078388,2162078206,2614888103,3248222580,3835390401,4022224774,264347078,604807628,770255983,1249150122,1555081692,1996064986,2554220882,2821834349,2952996808,3210313671,3336571891,3584528711,113926993,338241895,666307205,773529912,1294757372,1396182291,1695183700,1986661051,2177026350,2456956037,2730485921,2820302411,3259730800,3345764771,3516065817,3600352804,4094571909,275423344,430227734,506948616,659060556,883997877,958139571,1322822218,1537002063,1747873779,1955562222,2024104815,2227730452,2361852424,2428436474,2756734187,3204031479,3329325298]:List UInt32)) 0 (arrC 64 cW 0 ([1116352408,1899447441,3049323471,3921009573,961987163,1508970993,2453635748,2870763221,3624381080,310598401,607225278,1426881987,1925078388,2162078206,2614888103,3248222580,3835390401,4022224774,264347078,604807628,770255983,1249150122,1555081692,1996064986,2554220882,2821834349,2952996808,3210313671,3336571891,3584528711,113926993,338241895,666307205,773529912,1294757372,1396182291,1695183700,1986661051,2177026350,2456956037,2730485921,2820302411,3259730800,3345764771,3516065817,3600352804,4094571909,275423344,430227734,506948616,659060556,883997877,958139571,1322822218,1537002063,1747873779,1955562222,2024104815,2227730452,2361852424,2428436474,2756734187,3204031479,3329325298]:List UInt32)) rfl rfl hS1 rfl rfl Ty.size170 rfl rfl rfl) ?_
 rintro _ w2 hS2;refine qn ?_;obtain rfl:=oi H;refine zoe (vs:=[.agg (arrC 64 cW 0 ([1116352408,1899447441,3049323471,3921009573,961987163,1508970993,2453635748,2870763221,3624381080,310598401,607225278,1426881987,1925078388,2162078206,2614888103,3248222580,3835390401,4022224774,264347078,604807628,770255983,1249150122,1555081692,1996064986,2554220882,2821834349,2952996808,3210313671,3336571891,3584528711,113926993,338241895,666307205,773529912,1294757372,1396182291,1695183700,1986661051,2177026350,2456956037,2730485921,2820302411,3259730800,3345764771,3516065817,3600352804,4094571909,275423344,430227734,506948616,659060556,883997877,958139571,1322822218,1537002063,1747873779,1955562222,2024104815,2227730452,2361852424,2428436474,2756734187,3204031479,3329325298]:List UInt32))]) rfl ⟨(zkv 0 Ty.agg170 Ty.size170 hS2 rfl rfl),trivial⟩ ?_;exact ⟨F,rfl,rfl,hS2.pick [] (by decide)⟩
def zbb.k2 (l11:List UInt8):Option (List UInt8) :=
  some l11
def zbb.l3 (x0:List UInt8) (rec17:(Int × (List UInt8))→Option (List UInt8)):(Int × (List UInt8))→Option (List UInt8)
  | (i14,l15) =>
    if decide (0≤i14) then
      bd (shrU (wu (wu (x0.length:Int)*8)) (wu (8*wu i14))) fun x19 =>
      bd (app (α:=UInt8) l15 [(toB8 x19)]) fun l21 =>
      rec17 (wr (i14 - 1),l21)
    else
      zbb.k2 l15
def zbb.k1 (x0:List UInt8) (l8:List UInt8):Option (List UInt8) :=
  loop (zbb.l3 x0) (7,l8)
def zbb.l4 (x0:List UInt8) (rec27:(List UInt8)→Option (List UInt8)):(List UInt8)→Option (List UInt8)
  | l25 =>
    if decide ((wr ((l25.length:Int)+8)).tmod 64≠0) then
      bd (app (α:=UInt8) l25 [(0:UInt8)]) fun l30 =>
      rec27 l30
    else
      zbb.k1 x0 l25
def zbb (x0:List UInt8):Option (List UInt8) :=
  bd (app (α:=UInt8) [] x0) fun l1 =>
  bd (app (α:=UInt8) l1 [(128:UInt8)]) fun l4 =>
  loop (zbb.l4 x0) l4
theorem znt {x0:List UInt8} {r:(List UInt8)} {v0:Val} (hA:Gd F w) (h0:SlF tB F v0 x0) (H:zbb x0=some r):Ret Tryz.prog K 110 [v0] w fun v w'=>∃ (F':Frz) (q0:Val),v=q0∧St [] w F F' [.row tB q0 (r)] w':=by
 refine qa1 Tryz.func110 ?_;have hS:=St.start hA;dsimp only [zbb] at H;refine qsm ?_;refine qsm ?_;obtain ⟨l1,hl1,l4,hl4,H⟩:=bd2 H;refine qs ?_;refine q2 ?_;have hS6:=hS.nilRow tB;refine xm (zgg (t:=tB) 0 Tryz.underlying47 Ty.row5 Ty.zk47 rfl rfl hS6 rfl (h0.src hS6.agree) hl1) ?_;rintro v2 w2 hS2;refine xm (E_bs (t:=tB) (vs:=[.i .u8 ((128:UInt8).toNat:Int)]) (xs:=[(128:UInt8)]) Tryz.underlying47 Ty.row5 rfl ⟨rfl,trivial⟩ rfl rfl hS2) ?_;rintro u3 w3 hS3;refine xm (zgg (t:=tB) 1 Tryz.underlying47 Ty.row5 Ty.zk47 rfl rfl hS3 rfl (hS3.rowSrc (k:=0) rfl) hl4) ?_;rintro v5 w5 hS5;refine qm ?_;refine zai (fun E wq=>∃ l8:List UInt8,zbb.k1 x0 l8=some r ∧ ∃ (F7:Frz) (u9:Val),E=[(0,v0),(3,u9)]∧F.le F7∧St [] w F F7 [.row tB u9 l8] wq) ?_ ?_
 ·refine zar ?_;refine zbm (fun (s:(List UInt8)) E wq=>∃ (F24:Frz) (u26:Val),E=[(0,v0),(3,u26)]∧F.le F24∧St [] w F F24 [.row tB u26 s] wq) H ?_ ?_
  ·exact ⟨_,⟨F,v5,rfl,(Frz.le.refl _),hS5.pick [1] (by decide)⟩,⟨rfl,rfl,trivial⟩⟩
  ·rintro rec27 l25 E w24 hI H
   try dsimp only at hI
   obtain ⟨F24,u26,rfl,le24,hS24⟩:=hI;dsimp only [zbb.l4] at H;refine zay ?_;refine qsc ?_;refine qr (zbs Tryz.underlying47 rfl (hS24.rowLn (k:=0) rfl)) ?_;refine qc ?_;refine qr (zah rfl rfl (by first | rfl | simp [binV,ibin])) ?_;refine qr (zah rfl rfl zeb) ?_;refine qn ?_;refine qy H (fun hc28 H=>?_) (fun hc28 H=>?_)
   ·refine qk ?_;refine zar ?_;obtain ⟨l30,hl30,H⟩:=zap H;refine qd ?_;refine qc ?_;refine xm (E_bs (t:=tB) (vs:=[.i .u8 ((0:UInt8).toNat:Int)]) (xs:=[(0:UInt8)]) Tryz.underlying47 Ty.row5 rfl ⟨rfl,trivial⟩ rfl rfl hS24) ?_;rintro u29 w29 hS29;refine xm (zgg (t:=tB) 1 Tryz.underlying47 Ty.row5 Ty.zk47 rfl rfl hS29 rfl (hS29.rowSrc (k:=0) rfl) hl30) ?_;rintro v31 w31 hS31;refine qc ?_;refine zbk ?_;refine zbf ?_;exact zbd l30 _ H ⟨F24,v31,rfl,le24,hS31.pick [1] (by decide)⟩ ⟨rfl,rfl,trivial⟩
   ·refine zcc _ rfl ?_;exact zbe _ ⟨l25,H,⟨F24,u26,rfl,le24,hS24⟩⟩ ⟨rfl,rfl,trivial⟩
 ·rintro E w7 ⟨l8,H,F7,u9,rfl,le7,hS7⟩;dsimp only [zbb.k1] at H;refine qsc ?_;refine qr (zbs Tryz.underlying47 rfl h0.ln) ?_;refine qr (zgv Tryz.underlying3 Tryz.underlying194 rfl (rfl)) ?_;refine qc ?_;refine qm ?_;refine zai (fun E wq=>∃ l11:List UInt8,zbb.k2 l11=some r ∧ ∃ (F10:Frz) (u12:Val),E=[(3,u12)]∧F7.le F10∧St [] w F F10 [.row tB u12 l11] wq) ?_ ?_
  ·refine qsm ?_;refine zar ?_;refine zbm (fun (s:Int × (List UInt8)) E wq=>∃ (F13:Frz) (u16:Val),E=[(3,u16),(4,.i .u64 (wu (wu (x0.length:Int)*8))),(5,.i .i64 s.1)]∧F7.le F13∧St [] w F F13 [.row tB u16 s.2] wq) H ?_ ?_
   ·exact ⟨_,⟨F7,u9,rfl,(Frz.le.refl _),hS7⟩,⟨rfl,rfl,rfl,trivial⟩⟩
   ·rintro rec17 ⟨i14,l15⟩ E w13 hI H
    try dsimp only at hI
    obtain ⟨F13,u16,rfl,le13,hS13⟩:=hI;dsimp only [zbb.l3] at H;refine zay ?_;refine qsc ?_;refine qr (zah rfl rfl znk) ?_;refine qn ?_;refine qy H (fun hc18 H=>?_) (fun hc18 H=>?_)
    ·refine qk ?_;refine zay ?_;refine zar ?_;obtain ⟨x19,hx19,l21,hl21,H⟩:=bd2 H;refine qd ?_;refine q3 ?_;refine qr (zgv Tryz.underlying3 Tryz.underlying26 rfl (rfl)) ?_;refine qc ?_;obtain ⟨hz23,hv23,hw23⟩:=shrU_some hx19;refine qr (zah rfl rfl (by rw [zod hz23 hv23,← hw23])) ?_;refine qr (zgv Tryz.underlying194 Tryz.underlying5 rfl (i8_of _)) ?_;refine xm (E_bs (t:=tB) (vs:=[.i .u8 ((toB8 x19).toNat:Int)]) (xs:=[(toB8 x19)]) Tryz.underlying47 Ty.row5 rfl ⟨rfl,trivial⟩ rfl rfl hS13) ?_;rintro u20 w20 hS20;refine xm (zgg (t:=tB) 1 Tryz.underlying47 Ty.row5 Ty.zk47 rfl rfl hS20 rfl (hS20.rowSrc (k:=0) rfl) hl21) ?_;rintro v22 w22 hS22;refine qc ?_;refine zbk ?_;refine zbf ?_;refine zcl ?_;refine qd ?_;refine q3 ?_;refine zbk ?_;exact zbd (wr (i14 - 1),l21) _ H ⟨F13,v22,rfl,le13,hS22.pick [1] (by decide)⟩ ⟨rfl,rfl,rfl,trivial⟩
    ·refine zcc _ rfl ?_;exact zbe _ ⟨l15,H,⟨F13,u16,rfl,le13,hS13⟩⟩ ⟨rfl,trivial⟩
  ·rintro E w10 ⟨l11,H,F10,u12,rfl,le10,hS10⟩;dsimp only [zbb.k2] at H;refine qsc ?_;refine qm ?_;obtain rfl:=oi H;refine qt ?_;exact ⟨F10,u12,rfl,hS10⟩
def zbh (x0:UInt32) (x1:Int):Option UInt32 :=
  bd (shrW x0 x1) fun x2 =>
  bd (shlW x0 (wu (32 - x1))) fun x3 =>
  some (x2 ||| x3)
theorem zcs {x0:UInt32} {x1:Int} {r:UInt32} (hA:Gd F w) (H:zbh x0 x1=some r):Ret Tryz.prog K 111 [.i .u32 (x0.toNat:Int),.i .u64 x1] w fun v w'=>∃ (F':Frz),v = .i .u32 (r.toNat:Int)∧St [] w F F' [] w':=by
 refine qa2 Tryz.func111 ?_;have hS:=St.start hA;dsimp only [zbh] at H;refine qsm ?_;obtain ⟨x2,hx2,x3,hx3,H⟩:=bd2 H;refine qs ?_;refine q2 ?_;refine qr (zah rfl rfl (bW_shr hx2)) ?_;refine q3 ?_;refine qr (zah rfl rfl (bW_shl hx3)) ?_;refine qr (zah rfl rfl ((zdn (.inr (.inl rfl))).trans (congrArg (fun z=>some (Val.i .u32 z)) (Go.Wk.u32_or x2 x3)))) ?_;refine qm ?_;obtain rfl:=oi H;refine qt ?_;exact ⟨F,rfl,hS⟩
def zab.k2 (s15:List UInt8):Option (List UInt8) :=
  some s15
def zab.l3 (s11:List UInt32) (rec22:(Int × (List UInt8))→Option (List UInt8)):(Int × (List UInt8))→Option (List UInt8)
  | (i19,s20) =>
    if decide (i19 < 32) then
      bd (ix s11 (wr (i19.tdiv 4))) fun x24 =>
      bd (shrW x24 (wu (wr (24 - wr (8*i19.tmod 4))))) fun x25 =>
      bd (ix s20 i19) fun x26 =>
      rec22 (wr (i19+1),(s20.set i19.toNat x25.toUInt8))
    else
      zab.k2 s20
def zab.k1 (s11:List UInt32):Option (List UInt8) :=
  loop (zab.l3 s11) (0,(List.replicate 32 (0:UInt8)))
def zab.k5 (i32:Int) (rec35:(Int × (List UInt32))→Option (List UInt8)) (s38:List UInt32):Option (List UInt8) :=
  rec35 (wr (i32+64),s38)
def zab.l8 (i32:Int) (rec35:(Int × (List UInt32))→Option (List UInt8)) (s47:List UInt32) (rec53:(Int × (List UInt32))→Option (List UInt8)):(Int × (List UInt32))→Option (List UInt8)
  | (i50,s51) =>
    if decide (i50 < 8) then
      bd (ix s51 i50) fun x55 =>
      bd (ix s47 i50) fun x56 =>
      bd (ix s51 i50) fun x57 =>
      rec53 (wr (i50+1),(s51.set i50.toNat (x55+x56)))
    else
      zab.k5 i32 rec35 s51
def zab.k7 (i32:Int) (s33:List UInt32) (rec35:(Int × (List UInt32))→Option (List UInt8)) (s47:List UInt32):Option (List UInt8) :=
  loop (zab.l8 i32 rec35 s47) (0,s33)
def zab.l9 (r2:(List UInt32)) (i32:Int) (s33:List UInt32) (rec35:(Int × (List UInt32))→Option (List UInt8)) (s42:List UInt32) (rec68:(Int × (List UInt32))→Option (List UInt8)):(Int × (List UInt32))→Option (List UInt8)
  | (i65,s66) =>
    if decide (i65 < 64) then
      bd (ix s66 0) fun x70 =>
      bd (ix s66 4) fun x71 =>
      bd (ix s66 7) fun x76 =>
      bd (ix s66 5) fun x77 =>
      bd (ix s66 6) fun x78 =>
      bd (ix r2 i65) fun x79 =>
      bd (ix s42 i65) fun x80 =>
      bd (zbh x71 6) fun r81 =>
      bd (zbh x71 11) fun r82 =>
      bd (zbh x71 25) fun r83 =>
      bd (ix s66 1) fun x100 =>
      bd (ix s66 2) fun x101 =>
      bd (ix s66 1) fun x102 =>
      bd (ix s66 2) fun x103 =>
      bd (zbh x70 2) fun r104 =>
      bd (zbh x70 13) fun r105 =>
      bd (zbh x70 22) fun r106 =>
      bd (ix s66 0) fun x119 =>
      bd (ix s66 1) fun x120 =>
      bd (ix s66 2) fun x121 =>
      bd (ix s66 3) fun x122 =>
      bd (ix s66 4) fun x123 =>
      bd (ix s66 5) fun x124 =>
      bd (ix s66 6) fun x125 =>
      rec68 (wr (i65+1),([(((((x76+((r81 ^^^ r82) ^^^ r83))+((x71 &&& x77) ^^^ ((~~~x71) &&& x78)))+x79)+x80)+(((r104 ^^^ r105) ^^^ r106)+(((x70 &&& x100) ^^^ (x70 &&& x101)) ^^^ (x102 &&& x103)))),x119,x120,x121,(x122+((((x76+((r81 ^^^ r82) ^^^ r83))+((x71 &&& x77) ^^^ ((~~~x71) &&& x78)))+x79)+x80)),x123,x124,x125]:List UInt32))
    else
      zab.k7 i32 s33 rec35 s66
def zab.k6 (r2:(List UInt32)) (i32:Int) (s33:List UInt32) (rec35:(Int × (List UInt32))→Option (List UInt8)) (s42:List UInt32):Option (List UInt8) :=
  loop (zab.l9 r2 i32 s33 rec35 s42) (0,s33)
def zab.k11 (i142:Int) (rec145:(Int × (List UInt32))→Option (List UInt8)) (s148:List UInt32):Option (List UInt8) :=
  rec145 (wr (i142+1),s148)
def zab.k12 (i142:Int) (s143:List UInt32) (rec145:(Int × (List UInt32))→Option (List UInt8)):Option (List UInt8) :=
  bd (ix s143 (wr (i142 - 15))) fun x151 =>
  bd (ix s143 (wr (i142 - 2))) fun x152 =>
  bd (ix s143 (wr (i142 - 16))) fun x157 =>
  bd (ix s143 (wr (i142 - 7))) fun x158 =>
  bd (zbh x151 7) fun r159 =>
  bd (zbh x151 18) fun r160 =>
  bd (zbh x152 17) fun r161 =>
  bd (zbh x152 19) fun r162 =>
  bd (ix s143 i142) fun x163 =>
  zab.k11 i142 rec145 (s143.set i142.toNat (((x157+x158)+((r159 ^^^ r160) ^^^ (x151 >>> UInt32.ofNat 3)))+((r161 ^^^ r162) ^^^ (x152 >>> UInt32.ofNat 10))))
def zab.k13 (i142:Int) (rec145:(Int × (List UInt32))→Option (List UInt8)) (s177:List UInt32):Option (List UInt8) :=
  zab.k11 i142 rec145 s177
def zab.l14 (r8:(List UInt8)) (i32:Int) (i142:Int) (rec145:(Int × (List UInt32))→Option (List UInt8)) (rec183:(Int × (List UInt32))→Option (List UInt8)):(Int × (List UInt32))→Option (List UInt8)
  | (i180,s181) =>
    if decide (i180 < 4) then
      bd (ix s181 i142) fun x185 =>
      bd (ix r8 (wr (wr (i32+wr (4*i142))+i180))) fun x186 =>
      bd (ix s181 i142) fun x188 =>
      rec183 (wr (i180+1),(s181.set i142.toNat ((x185 <<< UInt32.ofNat 8) ||| x186.toUInt32)))
    else
      zab.k13 i142 rec145 s181
def zab.l10 (r2:(List UInt32)) (r8:(List UInt8)) (i32:Int) (s33:List UInt32) (rec35:(Int × (List UInt32))→Option (List UInt8)) (rec145:(Int × (List UInt32))→Option (List UInt8)):(Int × (List UInt32))→Option (List UInt8)
  | (i142,s143) =>
    if decide (i142 < 64) then
      if decide (i142 < 16) then
        loop (zab.l14 r8 i32 i142 rec145) (0,s143)
      else
        zab.k12 i142 s143 rec145
    else
      zab.k6 r2 i32 s33 rec35 s143
def zab.l4 (r2:(List UInt32)) (r8:(List UInt8)) (rec35:(Int × (List UInt32))→Option (List UInt8)):(Int × (List UInt32))→Option (List UInt8)
  | (i32,s33) =>
    if decide (i32 < (r8.length:Int)) then
      loop (zab.l10 r2 r8 i32 s33 rec35) (0,(List.replicate 64 (0:UInt32)))
    else
      zab.k1 s33
def zab (x0:List UInt8):Option (List UInt8) :=
  bd (zia) fun r2 =>
  bd (zbb x0) fun r8 =>
  loop (zab.l4 r2 r8) (0,([1779033703,3144134277,1013904242,2773480762,1359893119,2600822924,528734635,1541459225]:List UInt32))
set_option maxHeartbeats 2000000 in
theorem zqx {x0:List UInt8} {r:(List UInt8)} {v0:Val} (hA:Gd F w) (h0:SlF tB F v0 x0) (H:zab x0=some r):Ret Tryz.prog K 53 [v0] w fun v w'=>∃ (F':Frz),v = .agg (zao r)∧(r).length=32∧St [] w F F' [] w':=by
 refine qa1 Tryz.func53 ?_;have hS:=St.start hA;dsimp only [zab] at H;refine qs ?_;refine xm (zft (cs:=zao (List.replicate 32 (0:UInt8))) Ty.zsz rfl hS) ?_;rintro _ w1 ⟨g1,rfl,hS1⟩;refine qn ?_;obtain ⟨r2,hr2,H⟩:=zap H;refine qs ?_;refine lm (zph hS1.good hr2) ?_;rintro v4 w4 ⟨Fr2,rfl,hlr2_0,hT4⟩;have hS4:=hS1.call hT4;have ler2:=hT4.ext;refine xm (zft (cs:=arrC 64 cW 0 (List.replicate 64 (0:UInt32))) Ty.zxq rfl hS4) ?_;rintro _ w3 ⟨g3,rfl,hS3⟩;refine um (zea (c:=arrC 64 cW 0 r2) 0 (arrC 64 cW 0 r2) rfl rfl hS3 rfl rfl Ty.size170 rfl rfl rfl) ?_;rintro _ w5 hS5;refine qn ?_;refine qs ?_;refine qr (zsg (vs:=[(0,.i .u32 ((1779033703:UInt32).toNat:Int)),(1,.i .u32 ((3144134277:UInt32).toNat:Int)),(2,.i .u32 ((1013904242:UInt32).toNat:Int)),(3,.i .u32 ((2773480762:UInt32).toNat:Int)),(4,.i .u32 ((1359893119:UInt32).toNat:Int)),(5,.i .u32 ((2600822924:UInt32).toNat:Int)),(6,.i .u32 ((528734635:UInt32).toNat:Int)),(7,.i .u32 ((1541459225:UInt32).toNat:Int))]) (v:=.agg (arrC 8 cW 0 ([1779033703,3144134277,1013904242,2773480762,1359893119,2600822924,528734635,1541459225]:List UInt32))) Ty.zzj rfl rfl) ?_;refine xm (zft (cs:=arrC 8 cW 0 (List.replicate 8 (0:UInt32))) Ty.zxp rfl hS5) ?_;rintro _ w6 ⟨g6,rfl,hS6⟩;refine um (zea (c:=arrC 8 cW 0 ([1779033703,3144134277,1013904242,2773480762,1359893119,2600822924,528734635,1541459225]:List UInt32)) 0 (arrC 8 cW 0 ([1779033703,3144134277,1013904242,2773480762,1359893119,2600822924,528734635,1541459225]:List UInt32)) rfl rfl hS6 rfl rfl Ty.zon rfl rfl rfl) ?_;rintro _ w7 hS7;refine qn ?_;obtain ⟨r8,hr8,H⟩:=zap H;refine qsc ?_;refine lm (znt hS7.good (h0.mono ler2) hr8) ?_;rintro ur8_0 w9 ⟨Fr8,_,rfl,hT9⟩;have hS9:=hS7.call hT9;have ler8:=hT9.ext;refine qm ?_;refine zai (fun E wq=>∃ s11:List UInt32,zab.k1 s11=some r ∧ ∃ (F10:Frz),E=[(2,pl g1 0),(4,pl g6 0)]∧Fr8.le F10∧(s11).length=8∧St [] w F F10 [.box g6 (arrC 8 cW 0 s11),.box g1 (zao (List.replicate 32 (0:UInt8)))] wq) ?_ ?_
 ·refine qsm ?_;refine zar ?_;refine zbm (fun (s:Int × (List UInt32)) E wq=>∃ (F31:Frz),E=[(2,pl g1 0),(3,pl g3 0),(4,pl g6 0),(5,ur8_0),(6,.i .i64 s.1)]∧Fr8.le F31∧(s.2).length=8∧St [] w F F31 [.row tB ur8_0 r8,.box g6 (arrC 8 cW 0 s.2),.box g3 (arrC 64 cW 0 r2),.box g1 (zao (List.replicate 32 (0:UInt8)))] wq) H ?_ ?_
  ·exact ⟨_,⟨Fr8,rfl,(Frz.le.refl _),rfl,hS9⟩,⟨rfl,rfl,rfl,rfl,rfl,trivial⟩⟩
  ·rintro rec35 ⟨i32,s33⟩ E w31 hI H
   try dsimp only at hI
   obtain ⟨F31,rfl,le31,hl34,hS31⟩:=hI;dsimp only [zab.l4] at H;refine zay ?_;refine qs ?_;refine q2 ?_;refine qr (zbs Tryz.underlying47 rfl (hS31.rowLn (k:=0) rfl)) ?_;refine qr (zah rfl rfl zbp) ?_;refine qn ?_;refine qy H (fun hc36 H=>?_) (fun hc36 H=>?_)
   ·refine qk ?_;refine zai (fun E wq=>∃ s38:List UInt32,zab.k5 i32 rec35 s38=some r ∧ ∃ (F37:Frz),E=[(2,pl g1 0),(3,pl g3 0),(4,pl g6 0),(5,ur8_0),(6,.i .i64 i32)]∧F31.le F37∧(s38).length=8∧St [] w F F37 [.row tB ur8_0 r8,.box g6 (arrC 8 cW 0 s38),.box g3 (arrC 64 cW 0 r2),.box g1 (zao (List.replicate 32 (0:UInt8)))] wq) ?_ ?_
    ·refine zar ?_;refine qs ?_;refine xm (zft (cs:=arrC 64 cW 0 (List.replicate 64 (0:UInt32))) Ty.zxq rfl hS31) ?_;rintro _ w40 ⟨g40,rfl,hS40⟩;refine qn ?_;refine zai (fun E wq=>∃ s42:List UInt32,zab.k6 r2 i32 s33 rec35 s42=some r ∧ ∃ (F41:Frz),E=[(2,pl g1 0),(3,pl g3 0),(4,pl g6 0),(5,ur8_0),(6,.i .i64 i32),(7,pl g40 0)]∧F31.le F41∧(s42).length=64∧St [] w F F41 [.box g40 (arrC 64 cW 0 s42),.row tB ur8_0 r8,.box g6 (arrC 8 cW 0 s33),.box g3 (arrC 64 cW 0 r2),.box g1 (zao (List.replicate 32 (0:UInt8)))] wq) ?_ ?_
     ·refine qsm ?_;refine zar ?_;refine zbm (fun (s:Int × (List UInt32)) E wq=>∃ (F141:Frz),E=[(2,pl g1 0),(3,pl g3 0),(4,pl g6 0),(5,ur8_0),(6,.i .i64 i32),(7,pl g40 0),(8,.i .i64 s.1)]∧F31.le F141∧(s.2).length=64∧St [] w F F141 [.box g40 (arrC 64 cW 0 s.2),.row tB ur8_0 r8,.box g6 (arrC 8 cW 0 s33),.box g3 (arrC 64 cW 0 r2),.box g1 (zao (List.replicate 32 (0:UInt8)))] wq) H ?_ ?_
      ·exact ⟨_,⟨F31,rfl,(Frz.le.refl _),(List.length_replicate),hS40⟩,⟨rfl,rfl,rfl,rfl,rfl,rfl,rfl,trivial⟩⟩
      ·rintro rec145 ⟨i142,s143⟩ E w141 hI H
       try dsimp only at hI
       obtain ⟨F141,rfl,le141,hl144,hS141⟩:=hI;dsimp only [zab.l10] at H;refine zay ?_;refine qsc ?_;refine qr (zah rfl rfl zbp) ?_;refine qn ?_;refine qy H (fun hc146 H=>?_) (fun hc146 H=>?_)
       ·refine qk ?_;refine zai (fun E wq=>∃ s148:List UInt32,zab.k11 i142 rec145 s148=some r ∧ ∃ (F147:Frz),E=[(2,pl g1 0),(3,pl g3 0),(4,pl g6 0),(5,ur8_0),(6,.i .i64 i32),(7,pl g40 0),(8,.i .i64 i142)]∧F141.le F147∧(s148).length=64∧St [] w F F147 [.box g40 (arrC 64 cW 0 s148),.row tB ur8_0 r8,.box g6 (arrC 8 cW 0 s33),.box g3 (arrC 64 cW 0 r2),.box g1 (zao (List.replicate 32 (0:UInt8)))] wq) ?_ ?_
        ·refine zar ?_;refine zai (fun E wq=>zab.k12 i142 s143 rec145=some r ∧ ∃ (F150:Frz),E=[(2,pl g1 0),(3,pl g3 0),(4,pl g6 0),(5,ur8_0),(6,.i .i64 i32),(7,pl g40 0),(8,.i .i64 i142)]∧F141.le F150∧St [] w F F150 [.box g40 (arrC 64 cW 0 s143),.row tB ur8_0 r8,.box g6 (arrC 8 cW 0 s33),.box g3 (arrC 64 cW 0 r2),.box g1 (zao (List.replicate 32 (0:UInt8)))] wq) ?_ ?_
         ·refine qsc ?_;refine qr (zah rfl rfl zbp) ?_;refine qn ?_;refine qy H (fun hc175 H=>?_) (fun hc175 H=>?_)
          ·refine zai (fun E wq=>∃ s177:List UInt32,zab.k13 i142 rec145 s177=some r ∧ ∃ (F176:Frz),E=[(2,pl g1 0),(3,pl g3 0),(4,pl g6 0),(5,ur8_0),(6,.i .i64 i32),(7,pl g40 0),(8,.i .i64 i142)]∧F141.le F176∧(s177).length=64∧St [] w F F176 [.box g40 (arrC 64 cW 0 s177),.row tB ur8_0 r8,.box g6 (arrC 8 cW 0 s33),.box g3 (arrC 64 cW 0 r2),.box g1 (zao (List.replicate 32 (0:UInt8)))] wq) ?_ ?_
           ·refine qsm ?_;refine zar ?_;refine zbm (fun (s:Int × (List UInt32)) E wq=>∃ (F179:Frz),E=[(2,pl g1 0),(3,pl g3 0),(4,pl g6 0),(5,ur8_0),(6,.i .i64 i32),(7,pl g40 0),(8,.i .i64 i142),(9,.i .i64 s.1)]∧F141.le F179∧(s.2).length=64∧St [] w F F179 [.box g40 (arrC 64 cW 0 s.2),.row tB ur8_0 r8,.box g6 (arrC 8 cW 0 s33),.box g3 (arrC 64 cW 0 r2),.box g1 (zao (List.replicate 32 (0:UInt8)))] wq) H ?_ ?_
            ·exact ⟨_,⟨F141,rfl,(Frz.le.refl _),hl144,hS141⟩,⟨rfl,rfl,rfl,rfl,rfl,rfl,rfl,rfl,trivial⟩⟩
            ·rintro rec183 ⟨i180,s181⟩ E w179 hI H
             try dsimp only at hI
             obtain ⟨F179,rfl,le179,hl182,hS179⟩:=hI;dsimp only [zab.l14] at H;refine zay ?_;refine qsc ?_;refine qr (zah rfl rfl zbp) ?_;refine qn ?_;refine qy H (fun hc184 H=>?_) (fun hc184 H=>?_)
             ·refine qk ?_;refine zay ?_;refine zar ?_;obtain ⟨x185,hx185,x186,hx186,H⟩:=bd2 H;obtain ⟨x188,hx188,H⟩:=zap H;refine zaz (G:=F179) [0,1,2,3,4,5,6,7,8,9,10,11,12,13,14,15,16,17] rfl Ty.mixed (by kernel_rfl) hS179.agree ?_;refine q2 ?_;obtain ⟨hp189,hy189⟩:=zac hx185;refine qr (zev Tryz.underlying170 Ty.zcd rfl rfl hp189 (zcm hl182 hy189)) ?_;obtain ⟨_,hy190⟩:=zac hx185;refine qq (zem 0 Ty.zcv rfl hS179 rfl (by rw [Nat.zero_add];exact zdr hl182 hy190)) ?_;refine qr (zah rfl rfl ((bI_shl (by decide) (by decide)).trans (congrArg (fun z=>some (Val.i .u32 z)) (u32_shl _ _ 8 rfl (by decide))))) ?_;refine q4 ?_;refine q3 ?_;obtain ⟨hp191,hy191⟩:=zac hx186;obtain ⟨cs191,hr191,he191⟩:=hS179.rowAt (k:=1) rfl hy191;obtain rfl:=hr191;replace he191:=qj 1 he191;have hi191:=he191.ixd;refine qi Tryz.underlying47 Ty.zjw hi191 hp191 ?_;refine qq (zfs 0 Ty.zwt rfl he191 (by omega) rfl) ?_;refine qr (zgv Tryz.underlying5 Tryz.underlying169 rfl (u8_u32 _)) ?_;refine qr (zah rfl rfl ((zdn (.inr (.inl rfl))).trans (congrArg (fun z=>some (Val.i .u32 z)) (Go.Wk.u32_or (x185 <<< UInt32.ofNat 8) x186.toUInt32)))) ?_;obtain ⟨hp192,hy192⟩:=zac hx188;refine qr (zev Tryz.underlying170 Ty.zcd rfl rfl hp192 (zcm hl182 hy192)) ?_;refine qu (ztl (cs':=arrC 64 cW 0 (s181.set i142.toNat ((x185 <<< UInt32.ofNat 8) ||| x186.toUInt32))) 0 rfl rfl hS179 rfl rfl Ty.zcd (by rw [zqc,Nat.zero_add];exact (zcm hl182 hy192)) (zra hl182 (zcm hl182 hy192) _)) ?_;rintro _ w193 hS193;refine qw hS193 ?_;refine zbk ?_;refine zbf ?_;refine zcl ?_;refine qd ?_;refine q3 ?_;refine zbk ?_;exact zbd (wr (i180+1),(s181.set i142.toNat ((x185 <<< UInt32.ofNat 8) ||| x186.toUInt32))) _ H ⟨F179,rfl,le179,(by rw [List.length_set];exact hl182),hS193⟩ ⟨rfl,rfl,rfl,rfl,rfl,rfl,rfl,rfl,trivial⟩
             ·refine zcc _ rfl ?_;exact zbe _ ⟨s181,H,⟨F179,rfl,le179,hl182,hS179⟩⟩ ⟨rfl,rfl,rfl,rfl,rfl,rfl,rfl,trivial⟩
           ·rintro E w176 ⟨s177,H,F176,rfl,le176,hl178,hS176⟩;dsimp only [zab.k13] at H;refine zcc _ rfl ?_;exact zbe _ ⟨s177,H,⟨F176,rfl,le176,hl178,hS176⟩⟩ ⟨rfl,rfl,rfl,rfl,rfl,rfl,rfl,trivial⟩
          ·refine zec ?_;exact zbe _ ⟨H,⟨F141,rfl,(Frz.le.refl _),hS141⟩⟩ ⟨rfl,rfl,rfl,rfl,rfl,rfl,rfl,trivial⟩
         ·rintro E w150 ⟨H,F150,rfl,le150,hS150⟩;dsimp only [zab.k12] at H;refine zay ?_;obtain ⟨x151,hx151,x152,hx152,H⟩:=bd2 H;refine zaz (G:=(nowF _)) [0,1,2,3,4,5,6,7,8,9] rfl Ty.mixed (by kernel_rfl) (zdc _) ?_;refine q2 ?_;obtain ⟨hp153,hy153⟩:=zac hx151;refine qr (zev Tryz.underlying170 Ty.zcd rfl rfl hp153 (zcm hl144 hy153)) ?_;obtain ⟨_,hy154⟩:=zac hx151;refine qr (zem 0 Ty.zcv rfl hS150 rfl (by rw [Nat.zero_add];exact zdr hl144 hy154)) ?_;refine q2 ?_;obtain ⟨hp155,hy155⟩:=zac hx152;refine qr (zev Tryz.underlying170 Ty.zcd rfl rfl hp155 (zcm hl144 hy155)) ?_;obtain ⟨_,hy156⟩:=zac hx152;refine qr (zem 0 Ty.zcv rfl hS150 rfl (by rw [Nat.zero_add];exact zdr hl144 hy156)) ?_;refine qc ?_;refine qm ?_;obtain ⟨x157,hx157,x158,hx158,H⟩:=bd2 H;obtain ⟨r159,hr159,r160,hr160,H⟩:=bd2 H;obtain ⟨r161,hr161,r162,hr162,H⟩:=bd2 H;obtain ⟨x163,hx163,H⟩:=zap H;have hb164:=hS150.boxAt 0 rfl;refine zaz (G:=(F150.hold w150 [g40])) [0,1,2,3,4,5,6,7,8,9,10,12,15,16,19,21,24,25,11,13,14,17,18,20,22,23,26,27,28,29] rfl Ty.mixed (by kernel_rfl) (HB.agree (HB.cons 0 hb164 hS150 rfl HB.nil) hS150.agree) ?_;refine q3 ?_;obtain ⟨hp165,hy165⟩:=zac hx157;refine qr (zev Tryz.underlying170 Ty.zcd rfl rfl hp165 (zcm hl144 hy165)) ?_;obtain ⟨_,hy166⟩:=zac hx157;refine qr (zfj Ty.zcv rfl (hb164.held (HB.cons 0 hb164 hS150 rfl HB.nil) (by simp)) (by rw [Nat.zero_add];exact zdr hl144 hy166)) ?_;refine q2 ?_;obtain ⟨hp167,hy167⟩:=zac hx158;refine qr (zev Tryz.underlying170 Ty.zcd rfl rfl hp167 (zcm hl144 hy167)) ?_;obtain ⟨_,hy168⟩:=zac hx158;refine qr (zfj Ty.zcv rfl (hb164.held (HB.cons 0 hb164 hS150 rfl HB.nil) (by simp)) (by rw [Nat.zero_add];exact zdr hl144 hy168)) ?_;refine qr (zah rfl rfl (congrArg (fun z=>some (Val.i .u32 z)) (zfz x157 x158))) ?_;refine q3 ?_;refine qr (zah rfl rfl ((zod (by decide) (by decide)).trans (congrArg (fun z=>some (Val.i .u32 z)) (zus _ _ 3 rfl (by decide))))) ?_;refine q3 ?_;refine qr (zah rfl rfl ((zod (by decide) (by decide)).trans (congrArg (fun z=>some (Val.i .u32 z)) (zus _ _ 10 rfl (by decide))))) ?_;refine ql (zcs hS150.good hr159) ?_;rintro v169 w169 ⟨Fr159,rfl,hT169⟩;have hS169:=hS150.lent hT169;refine qh 0 hb164 hS169 ?_
          refine ql (zcs hS169.good hr160) ?_;rintro v170 w170 ⟨Fr160,rfl,hT170⟩;have hS170:=hS169.lent hT170;refine qh 0 hb164 hS170 ?_;refine qr (zah rfl rfl ((zdn (.inr (.inr rfl))).trans (congrArg (fun z=>some (Val.i .u32 z)) (Go.Wk.zgh r159 r160)))) ?_;refine qr (zah rfl rfl ((zdn (.inr (.inr rfl))).trans (congrArg (fun z=>some (Val.i .u32 z)) (Go.Wk.zgh (r159 ^^^ r160) (x151 >>> UInt32.ofNat 3))))) ?_;refine qr (zah rfl rfl (congrArg (fun z=>some (Val.i .u32 z)) (zfz (x157+x158) ((r159 ^^^ r160) ^^^ (x151 >>> UInt32.ofNat 3))))) ?_;refine ql (zcs hS170.good hr161) ?_;rintro v171 w171 ⟨Fr161,rfl,hT171⟩;have hS171:=hS170.lent hT171;refine qh 0 hb164 hS171 ?_;refine ql (zcs hS171.good hr162) ?_;rintro v172 w172 ⟨Fr162,rfl,hT172⟩;have hS172:=hS171.lent hT172;refine qh 0 hb164 hS172 ?_;refine qr (zah rfl rfl ((zdn (.inr (.inr rfl))).trans (congrArg (fun z=>some (Val.i .u32 z)) (Go.Wk.zgh r161 r162)))) ?_;refine qr (zah rfl rfl ((zdn (.inr (.inr rfl))).trans (congrArg (fun z=>some (Val.i .u32 z)) (Go.Wk.zgh (r161 ^^^ r162) (x152 >>> UInt32.ofNat 10))))) ?_;refine qr (zah rfl rfl (congrArg (fun z=>some (Val.i .u32 z)) (zfz ((x157+x158)+((r159 ^^^ r160) ^^^ (x151 >>> UInt32.ofNat 3))) ((r161 ^^^ r162) ^^^ (x152 >>> UInt32.ofNat 10))))) ?_;obtain ⟨hp173,hy173⟩:=zac hx163;refine qr (zev Tryz.underlying170 Ty.zcd rfl rfl hp173 (zcm hl144 hy173)) ?_;refine W_drop (by kernel_rfl) hS172.agree ?_;refine qu (ztl (cs':=arrC 64 cW 0 (s143.set i142.toNat (((x157+x158)+((r159 ^^^ r160) ^^^ (x151 >>> UInt32.ofNat 3)))+((r161 ^^^ r162) ^^^ (x152 >>> UInt32.ofNat 10))))) 0 rfl rfl hS172 rfl rfl Ty.zcd (by rw [zqc,Nat.zero_add];exact (zcm hl144 hy173)) (zra hl144 (zcm hl144 hy173) _)) ?_;rintro _ w174 hS174;refine qw hS174 ?_;refine zbk ?_;refine zbf ?_;exact zbe _ ⟨(s143.set i142.toNat (((x157+x158)+((r159 ^^^ r160) ^^^ (x151 >>> UInt32.ofNat 3)))+((r161 ^^^ r162) ^^^ (x152 >>> UInt32.ofNat 10)))),H,⟨F150,rfl,le150,(by rw [List.length_set];exact hl144),hS174⟩⟩ ⟨rfl,rfl,rfl,rfl,rfl,rfl,rfl,trivial⟩
        ·rintro E w147 ⟨s148,H,F147,rfl,le147,hl149,hS147⟩;dsimp only [zab.k11] at H;refine qd ?_;refine q3 ?_;refine zbk ?_;exact zbd (wr (i142+1),s148) _ H ⟨F147,rfl,(le141.trans le147),hl149,hS147⟩ ⟨rfl,rfl,rfl,rfl,rfl,rfl,rfl,trivial⟩
       ·refine zcc _ rfl ?_;exact zbe _ ⟨s143,H,⟨F141,rfl,le141,hl144,hS141⟩⟩ ⟨rfl,rfl,rfl,rfl,rfl,rfl,trivial⟩
     ·rintro E w41 ⟨s42,H,F41,rfl,le41,hl43,hS41⟩;dsimp only [zab.k6] at H;refine qs ?_;refine qr (zde 2 (arrC 8 cW 0 s33) Ty.agg172 Ty.zon (Nat.zero_lt_succ _) rfl hS41 rfl (fun q u h=>zdb (post:=[]) rfl h)) ?_;refine xm (zft (cs:=arrC 8 cW 0 (List.replicate 8 (0:UInt32))) Ty.zxp rfl hS41) ?_;rintro _ w44 ⟨g44,rfl,hS44⟩;refine um (zea (c:=arrC 8 cW 0 s33) 0 (arrC 8 cW 0 s33) rfl rfl hS44 rfl rfl Ty.zon rfl rfl rfl) ?_;rintro _ w45 hS45;refine qn ?_;refine zai (fun E wq=>∃ s47:List UInt32,zab.k7 i32 s33 rec35 s47=some r ∧ ∃ (F46:Frz),E=[(2,pl g1 0),(3,pl g3 0),(4,pl g6 0),(5,ur8_0),(6,.i .i64 i32),(12,pl g44 0)]∧F41.le F46∧(s47).length=8∧St [] w F F46 [.box g44 (arrC 8 cW 0 s47),.row tB ur8_0 r8,.box g6 (arrC 8 cW 0 s33),.box g3 (arrC 64 cW 0 r2),.box g1 (zao (List.replicate 32 (0:UInt8)))] wq) ?_ ?_
      ·refine qsm ?_;refine zar ?_;refine zbm (fun (s:Int × (List UInt32)) E wq=>∃ (F64:Frz),E=[(2,pl g1 0),(3,pl g3 0),(4,pl g6 0),(5,ur8_0),(6,.i .i64 i32),(7,pl g40 0),(12,pl g44 0),(13,.i .i64 s.1)]∧F41.le F64∧(s.2).length=8∧St [] w F F64 [.box g44 (arrC 8 cW 0 s.2),.box g40 (arrC 64 cW 0 s42),.row tB ur8_0 r8,.box g6 (arrC 8 cW 0 s33),.box g3 (arrC 64 cW 0 r2),.box g1 (zao (List.replicate 32 (0:UInt8)))] wq) H ?_ ?_
       ·exact ⟨_,⟨F41,rfl,(Frz.le.refl _),hl34,hS45⟩,⟨rfl,rfl,rfl,rfl,rfl,rfl,rfl,rfl,trivial⟩⟩
       ·rintro rec68 ⟨i65,s66⟩ E w64 hI H
        try dsimp only at hI
        obtain ⟨F64,rfl,le64,hl67,hS64⟩:=hI;dsimp only [zab.l9] at H;refine zay ?_;refine qsc ?_;refine qr (zah rfl rfl zbp) ?_;refine qn ?_;refine qy H (fun hc69 H=>?_) (fun hc69 H=>?_)
        ·refine qk ?_;refine zay ?_;refine zar ?_;refine zay ?_;obtain ⟨x70,hx70,x71,hx71,H⟩:=bd2 H;refine zaz (G:=(nowF _)) [0,1,2,3,4,5] rfl Ty.mixed (by kernel_rfl) (zdc _) ?_;obtain ⟨hp72,hy72⟩:=zac hx70;refine qr (zev Tryz.underlying172 Ty.zcd rfl rfl hp72 (zcm hl67 hy72)) ?_;obtain ⟨_,hy73⟩:=zac hx70;refine qr (zem 0 Ty.zcv rfl hS64 rfl (by rw [Nat.zero_add];exact zdr hl67 hy73)) ?_;obtain ⟨hp74,hy74⟩:=zac hx71;refine qr (zev Tryz.underlying172 Ty.zcd rfl rfl hp74 (zcm hl67 hy74)) ?_;obtain ⟨_,hy75⟩:=zac hx71;refine qr (zem 0 Ty.zcv rfl hS64 rfl (by rw [Nat.zero_add];exact zdr hl67 hy75)) ?_;refine qc ?_;refine qm ?_;refine zay ?_;obtain ⟨x76,hx76,x77,hx77,H⟩:=bd2 H;obtain ⟨x78,hx78,x79,hx79,H⟩:=bd2 H;obtain ⟨x80,hx80,r81,hr81,H⟩:=bd2 H;obtain ⟨r82,hr82,r83,hr83,H⟩:=bd2 H;have hb84:=hS64.boxAt 0 rfl;have hb85:=hS64.boxAt 4 rfl;have hb86:=hS64.boxAt 1 rfl;refine zaz (G:=(F64.hold w64 [g44,g3,g40])) [0,1,2,4,7,11,12,13,14,15,16,17,18,19,20,22,23,24,26,27,28,3,5,6,8,9,10,21,25,29,30] rfl Ty.mixed (by kernel_rfl) (HB.agree (HB.cons 0 hb84 hS64 rfl (HB.cons 4 hb85 hS64 rfl (HB.cons 1 hb86 hS64 rfl HB.nil))) hS64.agree) ?_;obtain ⟨hp87,hy87⟩:=zac hx76;refine qr (zev Tryz.underlying172 Ty.zcd rfl rfl hp87 (zcm hl67 hy87)) ?_;obtain ⟨_,hy88⟩:=zac hx76;refine qr (zfj Ty.zcv rfl (hb84.held (HB.cons 0 hb84 hS64 rfl (HB.cons 4 hb85 hS64 rfl (HB.cons 1 hb86 hS64 rfl HB.nil))) (by simp)) (by rw [Nat.zero_add];exact zdr hl67 hy88)) ?_;refine q4 ?_;obtain ⟨hp89,hy89⟩:=zac hx77;refine qr (zev Tryz.underlying172 Ty.zcd rfl rfl hp89 (zcm hl67 hy89)) ?_;obtain ⟨_,hy90⟩:=zac hx77;refine qr (zfj Ty.zcv rfl (hb84.held (HB.cons 0 hb84 hS64 rfl (HB.cons 4 hb85 hS64 rfl (HB.cons 1 hb86 hS64 rfl HB.nil))) (by simp)) (by rw [Nat.zero_add];exact zdr hl67 hy90)) ?_;refine qr (zah rfl rfl ((zdn (.inl rfl)).trans (congrArg (fun z=>some (Val.i .u32 z)) (Go.Wk.zmi x71 x77)))) ?_;refine qc ?_;refine qr (O_un rfl (uW_not x71)) ?_;obtain ⟨hp91,hy91⟩:=zac hx78;refine qr (zev Tryz.underlying172 Ty.zcd rfl rfl hp91 (zcm hl67 hy91)) ?_;obtain ⟨_,hy92⟩:=zac hx78;refine qr (zfj Ty.zcv rfl (hb84.held (HB.cons 0 hb84 hS64 rfl (HB.cons 4 hb85 hS64 rfl (HB.cons 1 hb86 hS64 rfl HB.nil))) (by simp)) (by rw [Nat.zero_add];exact zdr hl67 hy92)) ?_
         refine qr (zah rfl rfl ((zdn (.inl rfl)).trans (congrArg (fun z=>some (Val.i .u32 z)) (Go.Wk.zmi (~~~x71) x78)))) ?_;refine qr (zah rfl rfl ((zdn (.inr (.inr rfl))).trans (congrArg (fun z=>some (Val.i .u32 z)) (Go.Wk.zgh (x71 &&& x77) ((~~~x71) &&& x78))))) ?_;refine qc ?_;obtain ⟨hp93,hy93⟩:=zac hx79;refine qr (zev Tryz.underlying170 Ty.zcd rfl rfl hp93 (zcm hlr2_0 hy93)) ?_;obtain ⟨_,hy94⟩:=zac hx79;refine qr (zfj Ty.zcv rfl (hb85.held (HB.cons 0 hb84 hS64 rfl (HB.cons 4 hb85 hS64 rfl (HB.cons 1 hb86 hS64 rfl HB.nil))) (by simp)) (by rw [Nat.zero_add];exact zdr hlr2_0 hy94)) ?_;refine qc ?_;obtain ⟨hp95,hy95⟩:=zac hx80;refine qr (zev Tryz.underlying170 Ty.zcd rfl rfl hp95 (zcm hl43 hy95)) ?_;obtain ⟨_,hy96⟩:=zac hx80;refine qr (zfj Ty.zcv rfl (hb86.held (HB.cons 0 hb84 hS64 rfl (HB.cons 4 hb85 hS64 rfl (HB.cons 1 hb86 hS64 rfl HB.nil))) (by simp)) (by rw [Nat.zero_add];exact zdr hl43 hy96)) ?_;refine ql (zcs hS64.good hr81) ?_;rintro v97 w97 ⟨Fr81,rfl,hT97⟩;have hS97:=hS64.lent hT97;refine Nxt.frz (HB.le (HB.cons 0 hb84 hS97 rfl (HB.cons 4 hb85 hS97 rfl (HB.cons 1 hb86 hS97 rfl HB.nil))) (Frz.le.refl _)) (HB.agree (HB.cons 0 hb84 hS97 rfl (HB.cons 4 hb85 hS97 rfl (HB.cons 1 hb86 hS97 rfl HB.nil))) hS97.agree) ?_;refine ql (zcs hS97.good hr82) ?_;rintro v98 w98 ⟨Fr82,rfl,hT98⟩;have hS98:=hS97.lent hT98;refine Nxt.frz (HB.le (HB.cons 0 hb84 hS98 rfl (HB.cons 4 hb85 hS98 rfl (HB.cons 1 hb86 hS98 rfl HB.nil))) (Frz.le.refl _)) (HB.agree (HB.cons 0 hb84 hS98 rfl (HB.cons 4 hb85 hS98 rfl (HB.cons 1 hb86 hS98 rfl HB.nil))) hS98.agree) ?_;refine qr (zah rfl rfl ((zdn (.inr (.inr rfl))).trans (congrArg (fun z=>some (Val.i .u32 z)) (Go.Wk.zgh r81 r82)))) ?_;refine ql (zcs hS98.good hr83) ?_;rintro v99 w99 ⟨Fr83,rfl,hT99⟩;have hS99:=hS98.lent hT99;refine Nxt.frz (HB.le (HB.cons 0 hb84 hS99 rfl (HB.cons 4 hb85 hS99 rfl (HB.cons 1 hb86 hS99 rfl HB.nil))) (Frz.le.refl _)) (HB.agree (HB.cons 0 hb84 hS99 rfl (HB.cons 4 hb85 hS99 rfl (HB.cons 1 hb86 hS99 rfl HB.nil))) hS99.agree) ?_;refine qr (zah rfl rfl ((zdn (.inr (.inr rfl))).trans (congrArg (fun z=>some (Val.i .u32 z)) (Go.Wk.zgh (r81 ^^^ r82) r83)))) ?_;refine qr (zah rfl rfl (congrArg (fun z=>some (Val.i .u32 z)) (zfz x76 ((r81 ^^^ r82) ^^^ r83)))) ?_;refine qr (zah rfl rfl (congrArg (fun z=>some (Val.i .u32 z)) (zfz (x76+((r81 ^^^ r82) ^^^ r83)) ((x71 &&& x77) ^^^ ((~~~x71) &&& x78))))) ?_
         refine qr (zah rfl rfl (congrArg (fun z=>some (Val.i .u32 z)) (zfz ((x76+((r81 ^^^ r82) ^^^ r83))+((x71 &&& x77) ^^^ ((~~~x71) &&& x78))) x79))) ?_;refine qr (zah rfl rfl (congrArg (fun z=>some (Val.i .u32 z)) (zfz (((x76+((r81 ^^^ r82) ^^^ r83))+((x71 &&& x77) ^^^ ((~~~x71) &&& x78)))+x79) x80))) ?_;refine qm ?_;refine zay ?_;obtain ⟨x100,hx100,x101,hx101,H⟩:=bd2 H;obtain ⟨x102,hx102,x103,hx103,H⟩:=bd2 H;obtain ⟨r104,hr104,r105,hr105,H⟩:=bd2 H;obtain ⟨r106,hr106,H⟩:=zap H;have hb107:=hS99.boxAt 0 rfl;refine zaz (G:=(F64.hold w99 [g44])) [0,2,5,8,9,10,11,12,13,14,15,16,17,18,19,20,21,22,1,3,4,6,7,23,24] rfl Ty.mixed (by kernel_rfl) (HB.agree (HB.cons 0 hb107 hS99 rfl HB.nil) hS99.agree) ?_;refine q4 ?_;obtain ⟨hp108,hy108⟩:=zac hx100;refine qr (zev Tryz.underlying172 Ty.zcd rfl rfl hp108 (zcm hl67 hy108)) ?_;obtain ⟨_,hy109⟩:=zac hx100;refine qr (zfj Ty.zcv rfl (hb107.held (HB.cons 0 hb107 hS99 rfl HB.nil) (by simp)) (by rw [Nat.zero_add];exact zdr hl67 hy109)) ?_;refine qr (zah rfl rfl ((zdn (.inl rfl)).trans (congrArg (fun z=>some (Val.i .u32 z)) (Go.Wk.zmi x70 x100)))) ?_;refine qc ?_;obtain ⟨hp110,hy110⟩:=zac hx101;refine qr (zev Tryz.underlying172 Ty.zcd rfl rfl hp110 (zcm hl67 hy110)) ?_;obtain ⟨_,hy111⟩:=zac hx101;refine qr (zfj Ty.zcv rfl (hb107.held (HB.cons 0 hb107 hS99 rfl HB.nil) (by simp)) (by rw [Nat.zero_add];exact zdr hl67 hy111)) ?_;refine qr (zah rfl rfl ((zdn (.inl rfl)).trans (congrArg (fun z=>some (Val.i .u32 z)) (Go.Wk.zmi x70 x101)))) ?_;refine qr (zah rfl rfl ((zdn (.inr (.inr rfl))).trans (congrArg (fun z=>some (Val.i .u32 z)) (Go.Wk.zgh (x70 &&& x100) (x70 &&& x101))))) ?_;obtain ⟨hp112,hy112⟩:=zac hx102;refine qr (zev Tryz.underlying172 Ty.zcd rfl rfl hp112 (zcm hl67 hy112)) ?_;obtain ⟨_,hy113⟩:=zac hx102;refine qr (zfj Ty.zcv rfl (hb107.held (HB.cons 0 hb107 hS99 rfl HB.nil) (by simp)) (by rw [Nat.zero_add];exact zdr hl67 hy113)) ?_;obtain ⟨hp114,hy114⟩:=zac hx103;refine qr (zev Tryz.underlying172 Ty.zcd rfl rfl hp114 (zcm hl67 hy114)) ?_;obtain ⟨_,hy115⟩:=zac hx103;refine qr (zfj Ty.zcv rfl (hb107.held (HB.cons 0 hb107 hS99 rfl HB.nil) (by simp)) (by rw [Nat.zero_add];exact zdr hl67 hy115)) ?_;refine qr (zah rfl rfl ((zdn (.inl rfl)).trans (congrArg (fun z=>some (Val.i .u32 z)) (Go.Wk.zmi x102 x103)))) ?_
         refine qr (zah rfl rfl ((zdn (.inr (.inr rfl))).trans (congrArg (fun z=>some (Val.i .u32 z)) (Go.Wk.zgh ((x70 &&& x100) ^^^ (x70 &&& x101)) (x102 &&& x103))))) ?_;refine ql (zcs hS99.good hr104) ?_;rintro v116 w116 ⟨Fr104,rfl,hT116⟩;have hS116:=hS99.lent hT116;refine qh 0 hb107 hS116 ?_;refine ql (zcs hS116.good hr105) ?_;rintro v117 w117 ⟨Fr105,rfl,hT117⟩;have hS117:=hS116.lent hT117;refine qh 0 hb107 hS117 ?_;refine qr (zah rfl rfl ((zdn (.inr (.inr rfl))).trans (congrArg (fun z=>some (Val.i .u32 z)) (Go.Wk.zgh r104 r105)))) ?_;refine ql (zcs hS117.good hr106) ?_;rintro v118 w118 ⟨Fr106,rfl,hT118⟩;have hS118:=hS117.lent hT118;refine qh 0 hb107 hS118 ?_;refine qr (zah rfl rfl ((zdn (.inr (.inr rfl))).trans (congrArg (fun z=>some (Val.i .u32 z)) (Go.Wk.zgh (r104 ^^^ r105) r106)))) ?_;refine qr (zah rfl rfl (congrArg (fun z=>some (Val.i .u32 z)) (zfz ((r104 ^^^ r105) ^^^ r106) (((x70 &&& x100) ^^^ (x70 &&& x101)) ^^^ (x102 &&& x103))))) ?_;refine qm ?_;obtain ⟨x119,hx119,x120,hx120,H⟩:=bd2 H;obtain ⟨x121,hx121,x122,hx122,H⟩:=bd2 H;obtain ⟨x123,hx123,x124,hx124,H⟩:=bd2 H;obtain ⟨x125,hx125,H⟩:=zap H;refine qd ?_;refine q2 ?_;refine qr (zah rfl rfl (congrArg (fun z=>some (Val.i .u32 z)) (zfz ((((x76+((r81 ^^^ r82) ^^^ r83))+((x71 &&& x77) ^^^ ((~~~x71) &&& x78)))+x79)+x80) (((r104 ^^^ r105) ^^^ r106)+(((x70 &&& x100) ^^^ (x70 &&& x101)) ^^^ (x102 &&& x103)))))) ?_;obtain ⟨hp126,hy126⟩:=zac hx119;refine qr (zev Tryz.underlying172 Ty.zcd rfl rfl hp126 (zcm hl67 hy126)) ?_;obtain ⟨_,hy127⟩:=zac hx119;refine qr (zem 0 Ty.zcv rfl hS118 rfl (by rw [Nat.zero_add];exact zdr hl67 hy127)) ?_;obtain ⟨hp128,hy128⟩:=zac hx120;refine qr (zev Tryz.underlying172 Ty.zcd rfl rfl hp128 (zcm hl67 hy128)) ?_;obtain ⟨_,hy129⟩:=zac hx120;refine qr (zem 0 Ty.zcv rfl hS118 rfl (by rw [Nat.zero_add];exact zdr hl67 hy129)) ?_;obtain ⟨hp130,hy130⟩:=zac hx121;refine qr (zev Tryz.underlying172 Ty.zcd rfl rfl hp130 (zcm hl67 hy130)) ?_;obtain ⟨_,hy131⟩:=zac hx121;refine qr (zem 0 Ty.zcv rfl hS118 rfl (by rw [Nat.zero_add];exact zdr hl67 hy131)) ?_;obtain ⟨hp132,hy132⟩:=zac hx122;refine qr (zev Tryz.underlying172 Ty.zcd rfl rfl hp132 (zcm hl67 hy132)) ?_;obtain ⟨_,hy133⟩:=zac hx122
         refine qr (zem 0 Ty.zcv rfl hS118 rfl (by rw [Nat.zero_add];exact zdr hl67 hy133)) ?_;refine qc ?_;refine qr (zah rfl rfl (congrArg (fun z=>some (Val.i .u32 z)) (zfz x122 ((((x76+((r81 ^^^ r82) ^^^ r83))+((x71 &&& x77) ^^^ ((~~~x71) &&& x78)))+x79)+x80)))) ?_;obtain ⟨hp134,hy134⟩:=zac hx123;refine qr (zev Tryz.underlying172 Ty.zcd rfl rfl hp134 (zcm hl67 hy134)) ?_;obtain ⟨_,hy135⟩:=zac hx123;refine qr (zem 0 Ty.zcv rfl hS118 rfl (by rw [Nat.zero_add];exact zdr hl67 hy135)) ?_;obtain ⟨hp136,hy136⟩:=zac hx124;refine qr (zev Tryz.underlying172 Ty.zcd rfl rfl hp136 (zcm hl67 hy136)) ?_;obtain ⟨_,hy137⟩:=zac hx124;refine qr (zem 0 Ty.zcv rfl hS118 rfl (by rw [Nat.zero_add];exact zdr hl67 hy137)) ?_;obtain ⟨hp138,hy138⟩:=zac hx125;refine qr (zev Tryz.underlying172 Ty.zcd rfl rfl hp138 (zcm hl67 hy138)) ?_;obtain ⟨_,hy139⟩:=zac hx125;refine qr (zem 0 Ty.zcv rfl hS118 rfl (by rw [Nat.zero_add];exact zdr hl67 hy139)) ?_;refine qr (zsg (vs:=[(0,.i .u32 ((((((x76+((r81 ^^^ r82) ^^^ r83))+((x71 &&& x77) ^^^ ((~~~x71) &&& x78)))+x79)+x80)+(((r104 ^^^ r105) ^^^ r106)+(((x70 &&& x100) ^^^ (x70 &&& x101)) ^^^ (x102 &&& x103)))).toNat:Int)),(1,.i .u32 (x119.toNat:Int)),(2,.i .u32 (x120.toNat:Int)),(3,.i .u32 (x121.toNat:Int)),(4,.i .u32 ((x122+((((x76+((r81 ^^^ r82) ^^^ r83))+((x71 &&& x77) ^^^ ((~~~x71) &&& x78)))+x79)+x80)).toNat:Int)),(5,.i .u32 (x123.toNat:Int)),(6,.i .u32 (x124.toNat:Int)),(7,.i .u32 (x125.toNat:Int))]) (v:=.agg (arrC 8 cW 0 ([(((((x76+((r81 ^^^ r82) ^^^ r83))+((x71 &&& x77) ^^^ ((~~~x71) &&& x78)))+x79)+x80)+(((r104 ^^^ r105) ^^^ r106)+(((x70 &&& x100) ^^^ (x70 &&& x101)) ^^^ (x102 &&& x103)))),x119,x120,x121,(x122+((((x76+((r81 ^^^ r82) ^^^ r83))+((x71 &&& x77) ^^^ ((~~~x71) &&& x78)))+x79)+x80)),x123,x124,x125]:List UInt32))) Ty.zzj rfl rfl) ?_;refine um (zea (c:=arrC 8 cW 0 ([(((((x76+((r81 ^^^ r82) ^^^ r83))+((x71 &&& x77) ^^^ ((~~~x71) &&& x78)))+x79)+x80)+(((r104 ^^^ r105) ^^^ r106)+(((x70 &&& x100) ^^^ (x70 &&& x101)) ^^^ (x102 &&& x103)))),x119,x120,x121,(x122+((((x76+((r81 ^^^ r82) ^^^ r83))+((x71 &&& x77) ^^^ ((~~~x71) &&& x78)))+x79)+x80)),x123,x124,x125]:List UInt32)) 0 (arrC 8 cW 0 ([(((((x76+((r81 ^^^ r82) ^^^ r83))+((x71 &&& x77) ^^^ ((~~~x71) &&& x78)))+x79)+x80)+(((r104 ^^^ r105) ^^^ r106)+(((x70 &&& x100) ^^^ (x70 &&& x101)) ^^^ (x102 &&& x103)))),x119,x120,x121,(x122+((((x76+((r81 ^^^ r82) ^^^ r83))+((x71 &&& x77) ^^^ ((~~~x71) &&& x78)))+x79)+x80)),x123,x124,x125]:List UInt32)) rfl rfl hS118 rfl rfl Ty.zon rfl rfl rfl) ?_
         rintro _ w140 hS140;refine zbk ?_;refine zbf ?_;refine zcl ?_;refine qd ?_;refine q3 ?_;refine zbk ?_;exact zbd (wr (i65+1),([(((((x76+((r81 ^^^ r82) ^^^ r83))+((x71 &&& x77) ^^^ ((~~~x71) &&& x78)))+x79)+x80)+(((r104 ^^^ r105) ^^^ r106)+(((x70 &&& x100) ^^^ (x70 &&& x101)) ^^^ (x102 &&& x103)))),x119,x120,x121,(x122+((((x76+((r81 ^^^ r82) ^^^ r83))+((x71 &&& x77) ^^^ ((~~~x71) &&& x78)))+x79)+x80)),x123,x124,x125]:List UInt32)) _ H ⟨F64,rfl,le64,rfl,hS140⟩ ⟨rfl,rfl,rfl,rfl,rfl,rfl,rfl,rfl,trivial⟩
        ·refine zcc _ rfl ?_;exact zbe _ ⟨s66,H,⟨F64,rfl,le64,hl67,hS64.pick [0,2,3,4,5] (by decide)⟩⟩ ⟨rfl,rfl,rfl,rfl,rfl,rfl,trivial⟩
      ·rintro E w46 ⟨s47,H,F46,rfl,le46,hl48,hS46⟩;dsimp only [zab.k7] at H;refine qsm ?_;refine zar ?_;refine zbm (fun (s:Int × (List UInt32)) E wq=>∃ (F49:Frz),E=[(2,pl g1 0),(3,pl g3 0),(4,pl g6 0),(5,ur8_0),(6,.i .i64 i32),(12,pl g44 0),(18,.i .i64 s.1)]∧F46.le F49∧(s.2).length=8∧St [] w F F49 [.box g44 (arrC 8 cW 0 s47),.row tB ur8_0 r8,.box g6 (arrC 8 cW 0 s.2),.box g3 (arrC 64 cW 0 r2),.box g1 (zao (List.replicate 32 (0:UInt8)))] wq) H ?_ ?_
       ·exact ⟨_,⟨F46,rfl,(Frz.le.refl _),hl34,hS46⟩,⟨rfl,rfl,rfl,rfl,rfl,rfl,rfl,trivial⟩⟩
       ·rintro rec53 ⟨i50,s51⟩ E w49 hI H
        try dsimp only at hI
        obtain ⟨F49,rfl,le49,hl52,hS49⟩:=hI;dsimp only [zab.l8] at H;refine zay ?_;refine qsc ?_;refine qr (zah rfl rfl zbp) ?_;refine qn ?_;refine qy H (fun hc54 H=>?_) (fun hc54 H=>?_)
        ·refine qk ?_;refine zay ?_;refine zar ?_;obtain ⟨x55,hx55,x56,hx56,H⟩:=bd2 H;obtain ⟨x57,hx57,H⟩:=zap H;refine zaz (G:=F49) [0,1,2,3,4,5,6,7,8] rfl Ty.mixed (by kernel_rfl) hS49.agree ?_;refine qc ?_;obtain ⟨hp58,hy58⟩:=zac hx55;refine qr (zev Tryz.underlying172 Ty.zcd rfl rfl hp58 (zcm hl52 hy58)) ?_;obtain ⟨_,hy59⟩:=zac hx55;refine qq (zem 2 Ty.zcv rfl hS49 rfl (by rw [Nat.zero_add];exact zdr hl52 hy59)) ?_;refine qc ?_;obtain ⟨hp60,hy60⟩:=zac hx56;refine qr (zev Tryz.underlying172 Ty.zcd rfl rfl hp60 (zcm hl48 hy60)) ?_;obtain ⟨_,hy61⟩:=zac hx56;refine qq (zem 0 Ty.zcv rfl hS49 rfl (by rw [Nat.zero_add];exact zdr hl48 hy61)) ?_;refine qr (zah rfl rfl (congrArg (fun z=>some (Val.i .u32 z)) (zfz x55 x56))) ?_;obtain ⟨hp62,hy62⟩:=zac hx57;refine qr (zev Tryz.underlying172 Ty.zcd rfl rfl hp62 (zcm hl52 hy62)) ?_;refine qu (ztl (cs':=arrC 8 cW 0 (s51.set i50.toNat (x55+x56))) 2 rfl rfl hS49 rfl rfl Ty.zcd (by rw [zqc,Nat.zero_add];exact (zcm hl52 hy62)) (zra hl52 (zcm hl52 hy62) _)) ?_;rintro _ w63 hS63;refine qw hS63 ?_;refine zbk ?_;refine zbf ?_;refine zcl ?_;refine qd ?_;refine q3 ?_;refine zbk ?_;exact zbd (wr (i50+1),(s51.set i50.toNat (x55+x56))) _ H ⟨F49,rfl,le49,(by rw [List.length_set];exact hl52),hS63⟩ ⟨rfl,rfl,rfl,rfl,rfl,rfl,rfl,trivial⟩
        ·refine zcc _ rfl ?_;refine zbf ?_;exact zbe _ ⟨s51,H,⟨F49,rfl,((le41.trans le46).trans le49),hl52,hS49.pick [1,2,3,4] (by decide)⟩⟩ ⟨rfl,rfl,rfl,rfl,rfl,trivial⟩
    ·rintro E w37 ⟨s38,H,F37,rfl,le37,hl39,hS37⟩;dsimp only [zab.k5] at H;refine qd ?_;refine q3 ?_;refine zbk ?_;exact zbd (wr (i32+64),s38) _ H ⟨F37,rfl,(le31.trans le37),hl39,hS37⟩ ⟨rfl,rfl,rfl,rfl,rfl,trivial⟩
   ·refine zcc _ rfl ?_;exact zbe _ ⟨s33,H,⟨F31,rfl,le31,hl34,hS31.pick [1,3] (by decide)⟩⟩ ⟨rfl,rfl,trivial⟩
 ·rintro E w10 ⟨s11,H,F10,rfl,le10,hl12,hS10⟩;dsimp only [zab.k1] at H;refine qs ?_;refine xm (zft (cs:=zao (List.replicate 32 (0:UInt8))) Ty.zsz rfl hS10) ?_;rintro _ w13 ⟨g13,rfl,hS13⟩;refine qn ?_;refine zai (fun E wq=>∃ s15:List UInt8,zab.k2 s15=some r ∧ ∃ (F14:Frz),E=[(2,pl g1 0),(19,pl g13 0)]∧F10.le F14∧(s15).length=32∧St [] w F F14 [.box g13 (zao s15),.box g1 (zao (List.replicate 32 (0:UInt8)))] wq) ?_ ?_
  ·refine qsm ?_;refine zar ?_;refine zbm (fun (s:Int × (List UInt8)) E wq=>∃ (F18:Frz),E=[(2,pl g1 0),(4,pl g6 0),(19,pl g13 0),(20,.i .i64 s.1)]∧F10.le F18∧(s.2).length=32∧St [] w F F18 [.box g13 (zao s.2),.box g6 (arrC 8 cW 0 s11),.box g1 (zao (List.replicate 32 (0:UInt8)))] wq) H ?_ ?_
   ·exact ⟨_,⟨F10,rfl,(Frz.le.refl _),(List.length_replicate),hS13⟩,⟨rfl,rfl,rfl,rfl,trivial⟩⟩
   ·rintro rec22 ⟨i19,s20⟩ E w18 hI H
    try dsimp only at hI
    obtain ⟨F18,rfl,le18,hl21,hS18⟩:=hI;dsimp only [zab.l3] at H;refine zay ?_;refine qsc ?_;refine qr (zah rfl rfl zbp) ?_;refine qn ?_;refine qy H (fun hc23 H=>?_) (fun hc23 H=>?_)
    ·refine qk ?_;refine zay ?_;refine zar ?_;obtain ⟨x24,hx24,x25,hx25,H⟩:=bd2 H;obtain ⟨x26,hx26,H⟩:=zap H;refine qd ?_;refine q2 ?_;refine qr (zah rfl rfl (by first | rfl | simp [binV,ibin])) ?_;obtain ⟨hp27,hy27⟩:=zac hx24;refine qr (zev Tryz.underlying172 Ty.zcd rfl rfl hp27 (zcm hl12 hy27)) ?_;obtain ⟨_,hy28⟩:=zac hx24;refine qr (zem 1 Ty.zcv rfl hS18 rfl (by rw [Nat.zero_add];exact zdr hl12 hy28)) ?_;refine qc ?_;refine qr (zah rfl rfl (by first | rfl | simp [binV,ibin])) ?_;refine q2 ?_;refine qr (zgv Tryz.underlying3 Tryz.underlying26 rfl (rfl)) ?_;refine qr (zah rfl rfl (bW_shr hx25)) ?_;refine qr (zgv Tryz.underlying169 Tryz.underlying5 rfl (u32_u8 _)) ?_;obtain ⟨hp29,hy29⟩:=zac hx26;refine qr (zev Tryz.underlying58 Ty.zjw rfl rfl hp29 (zcm hl21 hy29)) ?_;refine um (ztl (cs':=zao (s20.set i19.toNat x25.toUInt8)) 0 rfl rfl hS18 rfl rfl Ty.zjw (by rw [zic,Nat.zero_add];exact (zcm hl21 hy29)) (id_put hl21 (zcm hl21 hy29) _)) ?_;rintro _ w30 hS30;refine zbk ?_;refine zbf ?_;refine zcl ?_;refine qd ?_;refine q3 ?_;refine zbk ?_;exact zbd (wr (i19+1),(s20.set i19.toNat x25.toUInt8)) _ H ⟨F18,rfl,le18,(by rw [List.length_set];exact hl21),hS30⟩ ⟨rfl,rfl,rfl,rfl,trivial⟩
    ·refine zcc _ rfl ?_;exact zbe _ ⟨s20,H,⟨F18,rfl,le18,hl21,hS18.pick [0,2] (by decide)⟩⟩ ⟨rfl,rfl,trivial⟩
  ·rintro E w14 ⟨s15,H,F14,rfl,le14,hl16,hS14⟩;dsimp only [zab.k2] at H;refine qs ?_;refine qr (zde 0 (zao s15) Ty.zhs Ty.zcy (Nat.zero_lt_succ _) rfl hS14 rfl (fun q u h=>zdb (post:=[]) rfl h)) ?_;refine um (zea (c:=zao s15) 1 (zao s15) rfl rfl hS14 rfl rfl Ty.zcy rfl rfl rfl) ?_;rintro _ w17 hS17;refine qn ?_;obtain rfl:=oi H;refine zoe (vs:=[.agg (zao s15)]) rfl ⟨(zkv 1 Ty.zhs Ty.zcy hS17 rfl rfl),trivial⟩ ?_;exact ⟨F14,rfl,hl16,hS17.pick [] (by decide)⟩
def zbx.k1:Option Bool :=
  some false
def zbx.l2 (x0:List UInt8) (x1:List UInt8) (rec6:Int→Option Bool):Int→Option Bool
  | i5 =>
    if decide (i5 < 32) then
      bd (ix x0 i5) fun x8 =>
      bd (ix x1 i5) fun x9 =>
      if decide ((x8.toNat:Int)≠(x9.toNat:Int)) then
        bd (ix x0 i5) fun x15 =>
        bd (ix x1 i5) fun x16 =>
        some (decide ((x15.toNat:Int) < (x16.toNat:Int)))
      else
        rec6 (wr (i5+1))
    else
      zbx.k1
def zbx (x0:List UInt8) (x1:List UInt8):Option Bool :=
  loop (zbx.l2 x0 x1) 0
theorem zns {x0:List UInt8} {x1:List UInt8} {r:Bool} (hA:Gd F w) (h0:x0.length=32) (h1:x1.length=32) (H:zbx x0 x1=some r):Ret Tryz.prog K 128 [.agg (zao x0),.agg (zao x1)] w fun v w'=>∃ (F':Frz),v = .b r∧St [] w F F' [] w':=by
 refine qa2 Tryz.func128 ?_;have hS:=St.start hA;dsimp only [zbx] at H;refine qs ?_;refine xm (E_bx (cs:=zao x0) rfl rfl rfl hS) ?_;rintro _ w1 ⟨g1,rfl,hS1⟩;refine xm (E_bx (cs:=zao x1) rfl rfl rfl hS1) ?_;rintro _ w2 ⟨g2,rfl,hS2⟩;refine qm ?_;refine zai (fun E wq=>zbx.k1=some r ∧ ∃ (F3:Frz),E=[]∧F.le F3∧St [] w F F3 [] wq) ?_ ?_
 ·refine qsm ?_;refine zar ?_;refine zbm (fun (s:Int) E wq=>∃ (F4:Frz),E=[(2,pl g1 0),(3,pl g2 0),(5,.i .i64 s)]∧F.le F4∧St [] w F F4 [.box g2 (zao x1),.box g1 (zao x0)] wq) H ?_ ?_
  ·exact ⟨_,⟨F,rfl,(Frz.le.refl _),hS2⟩,⟨rfl,rfl,rfl,trivial⟩⟩
  ·rintro rec6 i5 E w4 hI H
   try dsimp only at hI
   obtain ⟨F4,rfl,le4,hS4⟩:=hI;dsimp only [zbx.l2] at H;refine zay ?_;refine qsc ?_;refine qr (zah rfl rfl zbp) ?_;refine qn ?_;refine qy H (fun hc7 H=>?_) (fun hc7 H=>?_)
   ·refine qk ?_;refine zay ?_;refine zar ?_;refine zay ?_;obtain ⟨x8,hx8,x9,hx9,H⟩:=bd2 H;refine zaz (G:=(nowF _)) [0,1,2,3,4,5,6] rfl Ty.mixed (by kernel_rfl) (zdc _) ?_;refine qc ?_;obtain ⟨hp10,hy10⟩:=zac hx8;refine qr (zev Tryz.underlying58 Ty.zjw rfl rfl hp10 (zcm h0 hy10)) ?_;obtain ⟨_,hy11⟩:=zac hx8;refine qr (zem 1 Ty.zwt rfl hS4 rfl (zyt (fun q u h=>by simpa using h) h0 hy11)) ?_;refine qc ?_;obtain ⟨hp12,hy12⟩:=zac hx9;refine qr (zev Tryz.underlying58 Ty.zjw rfl rfl hp12 (zcm h1 hy12)) ?_;obtain ⟨_,hy13⟩:=zac hx9;refine qr (zem 0 Ty.zwt rfl hS4 rfl (zyt (fun q u h=>by simpa using h) h1 hy13)) ?_;refine qr (zah rfl rfl zeb) ?_;refine qn ?_;refine qy H (fun hc14 H=>?_) (fun hc14 H=>?_)
    ·refine zay ?_;obtain ⟨x15,hx15,x16,hx16,H⟩:=bd2 H;refine zaz (G:=(nowF _)) [0,1,2,3,4,5,6,7] rfl Ty.mixed (by kernel_rfl) (zdc _) ?_;refine qc ?_;obtain ⟨hp17,hy17⟩:=zac hx15;refine qr (zev Tryz.underlying58 Ty.zjw rfl rfl hp17 (zcm h0 hy17)) ?_;obtain ⟨_,hy18⟩:=zac hx15;refine qr (zem 1 Ty.zwt rfl hS4 rfl (zyt (fun q u h=>by simpa using h) h0 hy18)) ?_;refine qc ?_;obtain ⟨hp19,hy19⟩:=zac hx16;refine qr (zev Tryz.underlying58 Ty.zjw rfl rfl hp19 (zcm h1 hy19)) ?_;obtain ⟨_,hy20⟩:=zac hx16;refine qr (zem 0 Ty.zwt rfl hS4 rfl (zyt (fun q u h=>by simpa using h) h1 hy20)) ?_;refine qr (zah rfl rfl zbp) ?_;refine qm ?_;obtain rfl:=oi H;refine qt ?_;exact ⟨F4,rfl,hS4.pick [] (by decide)⟩
    ·refine zec ?_;refine zbf ?_;refine zcl ?_;refine qd ?_;refine q3 ?_;refine zbk ?_;exact zbd (wr (i5+1)) _ H ⟨F4,rfl,le4,hS4⟩ ⟨rfl,rfl,rfl,trivial⟩
   ·refine zcc _ rfl ?_;exact zbe _ ⟨H,⟨F4,rfl,le4,hS4.pick [] (by decide)⟩⟩ trivial
 ·rintro E w3 ⟨H,F3,rfl,le3,hS3⟩;dsimp only [zbx.k1] at H;refine qsm ?_;obtain rfl:=oi H;refine qt ?_;exact ⟨F3,rfl,hS3⟩
def zco.k1 (x0:List (List UInt8)) (x1:List UInt8) (i3:Int):Option ((List (List UInt8)) × Int × Bool) :=
  bd (only (decide (i3 < (x0.length:Int))) (ix x0 i3) (List.replicate 32 (0:UInt8))) fun x4 =>
  if (decide (i3 < (x0.length:Int))&&decide (x4=x1)) then
    some (x0,i3,false)
  else
    bd (cut (α:=(List UInt8)) x0 0 i3) fun l20 =>
    bd (app (α:=(List UInt8)) [] l20) fun l23 =>
    bd (app (α:=(List UInt8)) l23 [x1]) fun l25 =>
    bd (cut (α:=(List UInt8)) x0 i3 (x0.length:Int)) fun l29 =>
    bd (app (α:=(List UInt8)) l25 l29) fun l31 =>
    some (l31,i3,true)
def zco.l2 (x0:List (List UInt8)) (x1:List UInt8) (rec36:Int→Option ((List (List UInt8)) × Int × Bool)):Int→Option ((List (List UInt8)) × Int × Bool)
  | i35 =>
    bd (only (decide (i35 < (x0.length:Int))) (ix x0 i35) (List.replicate 32 (0:UInt8))) fun x37 =>
    bd (only (decide (i35 < (x0.length:Int))) (zbx x37 x1) false) fun r39 =>
    if (decide (i35 < (x0.length:Int))&&r39) then
      rec36 (wr (i35+1))
    else
      zco.k1 x0 x1 i35
def zco (x0:List (List UInt8)) (x1:List UInt8):Option ((List (List UInt8)) × Int × Bool) :=
  loop (zco.l2 x0 x1) 0
theorem zqg {x0:List (List UInt8)} {x1:List UInt8} {r:(List (List UInt8)) × Int × Bool} {v0:Val} (hA:Gd F w) (h0:SlF tId F v0 x0) (h1:x1.length=32) (H:zco x0 x1=some r):Ret Tryz.prog K 83 [v0,.agg (zao x1)] w fun v w'=>∃ (F':Frz) (q0:Val),v = .tup [q0,.i .i64 r.2.1,.b r.2.2]∧SlF tId F' q0 (r.1)∧St [] w F F' [] w':=by
 refine qa2 Tryz.func83 ?_;have hS:=St.start hA;dsimp only [zco] at H;refine qs ?_;refine xm (E_bx (cs:=zao x1) rfl rfl rfl hS) ?_;rintro _ w1 ⟨g1,rfl,hS1⟩;refine q2 ?_;refine qm ?_;refine qsm ?_;refine zai (fun E wq=>∃ i3:Int,zco.k1 x0 x1 i3=some r ∧ ∃ (F2:Frz),E=[(0,v0),(3,pl g1 0),(7,.i .i64 i3)]∧F.le F2∧St [] w F F2 [.box g1 (zao x1)] wq) ?_ ?_
 ·refine zar ?_;refine zbm (fun (s:Int) E wq=>∃ (F34:Frz),E=[(0,v0),(3,pl g1 0),(7,.i .i64 s)]∧F.le F34∧St [] w F F34 [.box g1 (zao x1)] wq) H ?_ ?_
  ·exact ⟨_,⟨F,rfl,(Frz.le.refl _),hS1⟩,⟨rfl,rfl,rfl,trivial⟩⟩
  ·rintro rec36 i35 E w34 hI H
   try dsimp only at hI
   obtain ⟨F34,rfl,le34,hS34⟩:=hI;dsimp only [zco.l2] at H;refine zay ?_;refine zay ?_;obtain ⟨x37,hx37,r39,hr39,H⟩:=bd2 H;have hle38:(x37).length=32:=by
    rcases Bool.eq_false_or_eq_true (decide (i35 < (x0.length:Int))) with hb40 | hb40
    ·have hy41:=hx37;rw [zbu hb40] at hy41;obtain ⟨hp42,hy42⟩:=zac hy41;obtain ⟨cs42,hr42,he42⟩:=(h0.mono le34).el hy42;obtain ⟨rfl,hle38⟩:=hr42;replace he42:=qj 32 he42;have hi42:=he42.ixd;exact hle38
    ·have hy:=hx37;rw [zhz hb40] at hy;obtain rfl:=oi hy
     rfl
   refine zaz (G:=F34) [0,1,2,3,4,5,6,7,8,9,10,11] rfl Ty.mixed (by kernel_rfl) hS34.agree ?_;refine q2 ?_;refine qr (zbs Tryz.underlying118 rfl h0.ln) ?_;refine qr (zah rfl rfl zbp) ?_;refine qc ?_;refine W_gs (v:=v0) rfl rfl rfl rfl (fun ⟨hb43,_⟩=>?_) ?_
   ·rw [hb43];exact (qc ·)
   refine W_gs (v:=.i .i64 i35) rfl rfl rfl rfl (fun ⟨hb44,_⟩=>?_) ?_
   ·rw [hb44];exact (qc ·)
   refine W_gs (v:=elp v0 (i35.toNat*32)) rfl rfl rfl rfl (fun ⟨hb45,_⟩=>?_) ?_
   ·rw [hb45];intro hK;have hy46:=hx37;rw [zbu hb45] at hy46;obtain ⟨hp47,hy47⟩:=zac hy46;obtain ⟨cs47,hr47,he47⟩:=(h0.mono le34).el hy47;obtain ⟨rfl,hle38⟩:=hr47;replace he47:=qj 32 he47;have hi47:=he47.ixd;refine qi Tryz.underlying118 Ty.zcy hi47 hp47 ?_;exact hK
   refine W_gs (v:=.agg (zao x37)) rfl rfl rfl rfl (fun ⟨hb48,_⟩=>?_) ?_
   ·rw [hb48];intro hK;have hy49:=hx37;rw [zbu hb48] at hy49;obtain ⟨hp50,hy50⟩:=zac hy49;obtain ⟨cs50,hr50,he50⟩:=(h0.mono le34).el hy50;obtain ⟨rfl,hle38⟩:=hr50;replace he50:=qj 32 he50;have hi50:=he50.ixd;refine qq (zfe 0 (zao x37) Ty.zhs Ty.zcy rfl (he50.mono hS34.agree) (by omega) rfl (Nat.le_of_ble_eq_true rfl)) ?_;exact hK
   refine W_gs (v:=.agg (zao x1)) rfl rfl rfl rfl (fun ⟨hb51,_⟩=>?_) ?_
   ·rw [hb51];exact (qq (zde 0 (zao x1) Ty.zhs Ty.zcy (Nat.zero_lt_succ _) rfl hS34 rfl (fun q u h=>zdb (post:=[]) rfl h)) ·)
   obtain ⟨Q53,hQ53⟩:∃ Q:Hp→Prop,Q=fun wq=>St [] w F F34 [.box g1 (zao x1)] wq:=⟨_,rfl⟩;refine W_gw (v:=.b r39) (Q:=Q53) (by rw [hQ53];exact hS34) rfl rfl rfl rfl (fun ⟨hb52,_⟩=>?_) ?_
   ·rw [hb52];intro hK;have hy54:=hr39;rw [zbu hb52] at hy54;refine ql (zns hS34.good hle38 h1 hy54) ?_;rintro v55 w55 ⟨Fr39,rfl,hT55⟩;have hS55:=hS34.lent hT55;exact hK _ (by rw [hQ53];exact hS55)
   intro w56 hS56;rw [hQ53] at hS56;refine qw hS56 ?_;refine ziu rfl rfl rfl rfl rfl (fun hc=>by rw [hc];rfl) rfl ?_;refine qn ?_;refine qy H (fun hc57 H=>?_) (fun hc57 H=>?_)
   ·refine qk ?_;refine zar ?_;refine qd ?_;refine q3 ?_;refine zbk ?_;refine zbf ?_;exact zbd (wr (i35+1)) _ H ⟨F34,rfl,le34,hS56⟩ ⟨rfl,rfl,rfl,trivial⟩
   ·refine zcc _ rfl ?_;exact zbe _ ⟨i35,H,⟨F34,rfl,le34,hS56⟩⟩ ⟨rfl,rfl,rfl,trivial⟩
 ·rintro E w2 ⟨i3,H,F2,rfl,le2,hS2⟩;dsimp only [zco.k1] at H;refine zay ?_;refine zay ?_;obtain ⟨x4,hx4,H⟩:=zap H;have hle5:(x4).length=32:=by
   rcases Bool.eq_false_or_eq_true (decide (i3 < (x0.length:Int))) with hb6 | hb6
   ·have hy7:=hx4;rw [zbu hb6] at hy7;obtain ⟨hp8,hy8⟩:=zac hy7;obtain ⟨cs8,hr8,he8⟩:=(h0.mono le2).el hy8;obtain ⟨rfl,hle5⟩:=hr8;replace he8:=qj 32 he8;have hi8:=he8.ixd;exact hle5
   ·have hy:=hx4;rw [zhz hb6] at hy;obtain rfl:=oi hy
    rfl
  refine zaz (G:=(nowF _)) [0,1,2,3,4,5,6,7,8,9,10,11] rfl Ty.mixed (by kernel_rfl) (zdc _) ?_;refine q2 ?_;refine qr (zbs Tryz.underlying118 rfl h0.ln) ?_;refine qr (zah rfl rfl zbp) ?_;refine qc ?_;refine W_gs (v:=v0) rfl rfl rfl rfl (fun ⟨hb9,_⟩=>?_) ?_
  ·rw [hb9];exact (qc ·)
  refine W_gs (v:=.i .i64 i3) rfl rfl rfl rfl (fun ⟨hb10,_⟩=>?_) ?_
  ·rw [hb10];exact (qc ·)
  refine W_gs (v:=elp v0 (i3.toNat*32)) rfl rfl rfl rfl (fun ⟨hb11,_⟩=>?_) ?_
  ·rw [hb11];intro hK;have hy12:=hx4;rw [zbu hb11] at hy12;obtain ⟨hp13,hy13⟩:=zac hy12;obtain ⟨cs13,hr13,he13⟩:=(h0.mono le2).el hy13;obtain ⟨rfl,hle5⟩:=hr13;replace he13:=qj 32 he13;have hi13:=he13.ixd;refine qi Tryz.underlying118 Ty.zcy hi13 hp13 ?_;exact hK
  refine W_gs (v:=.agg (zao x4)) rfl rfl rfl rfl (fun ⟨hb14,_⟩=>?_) ?_
  ·rw [hb14];intro hK;have hy15:=hx4;rw [zbu hb14] at hy15;obtain ⟨hp16,hy16⟩:=zac hy15;obtain ⟨cs16,hr16,he16⟩:=(h0.mono le2).el hy16;obtain ⟨rfl,hle5⟩:=hr16;replace he16:=qj 32 he16;have hi16:=he16.ixd;refine qr (zfe 0 (zao x4) Ty.zhs Ty.zcy rfl (he16.mono hS2.agree) (by omega) rfl (Nat.le_of_ble_eq_true rfl)) ?_;exact hK
  refine W_gs (v:=.agg (zao x1)) rfl rfl rfl rfl (fun ⟨hb17,_⟩=>?_) ?_
  ·rw [hb17];exact (qr (zde 0 (zao x1) Ty.zhs Ty.zcy (Nat.zero_lt_succ _) rfl hS2 rfl (fun q u h=>zdb (post:=[]) rfl h)) ·)
  refine W_gs (v:=.b (decide (x4=x1))) rfl rfl rfl rfl (fun ⟨hb18,_⟩=>?_) ?_
  ·rw [hb18];exact (qr (zah rfl rfl (bA_eql Ty.eqt58 rfl rfl (zwc hle5 h1))) ·)
  refine ziu rfl rfl rfl rfl rfl (fun hc=>by rw [hc];rfl) rfl ?_;refine qn ?_;refine qy H (fun hc19 H=>?_) (fun hc19 H=>?_)
  ·refine qs ?_;refine q4 ?_;refine qm ?_;obtain rfl:=oi H;refine qt ?_;exact ⟨F2,v0,rfl,(h0.mono le2),hS2.pick [] (by decide)⟩
  ·refine qk ?_;refine qsm ?_;refine zay ?_;obtain ⟨l20,hl20,l23,hl23,H⟩:=bd2 H;obtain ⟨l25,hl25,H⟩:=zap H;have hb27:=hS2.boxAt 0 rfl;refine zaz (G:=(F2.hold w2 [g1])) [0,1,2,3,5,6,4,7,8] rfl Ty.mixed (by kernel_rfl) (HB.agree (HB.cons 0 hb27 hS2 rfl HB.nil) hS2.agree) ?_;refine q3 ?_;refine zse 0 i3 rfl rfl rfl rfl Tryz.underlying118 Ty.zcy rfl (.inl ⟨rfl,rfl⟩) (.inr ⟨_,_,rfl,rfl⟩) h0 hl20 ?_;intro q21 hv21;refine qr (O_fldg (zao x1) Ty.zhs Ty.zcy (Nat.zero_lt_succ _) rfl (hb27.held (HB.cons 0 hb27 hS2 rfl HB.nil) (by simp)) (fun q u h=>zdb (post:=[]) rfl h)) ?_;refine qx (E_bs (t:=tId) (vs:=[.agg (zao x1)]) (xs:=[x1]) Tryz.underlying118 Ty.zvb rfl ⟨⟨rfl,h1⟩,trivial⟩ rfl rfl hS2) ?_;rintro u22 w22 hS22;refine qh 1 hb27 hS22 ?_;have hS28:=hS22.nilRow tId;refine qx (zgg (t:=tId) 0 Tryz.underlying118 Ty.zvb Ty.zk118 rfl rfl hS28 rfl ((hv21.mono le2).src hS28.agree) hl23) ?_;rintro v24 w24 hS24;refine qh 2 hb27 hS24 ?_;refine qx (zgg (t:=tId) 0 Tryz.underlying118 Ty.zvb Ty.zk118 rfl rfl hS24 rfl (hS24.rowSrc (k:=1) rfl) hl25) ?_;rintro v26 w26 hS26;refine qh 2 hb27 hS26 ?_;refine qm ?_;obtain ⟨l29,hl29,l31,hl31,H⟩:=bd2 H;refine qs ?_;refine q3 ?_;refine zse i3 (x0.length:Int) rfl rfl rfl rfl Tryz.underlying118 Ty.zcy rfl (.inr ⟨_,_,rfl,rfl⟩) (.inl ⟨rfl,rfl⟩) h0 hl29 ?_;intro q30 hv30;refine xm (zgg (t:=tId) 0 Tryz.underlying118 Ty.zvb Ty.zk118 rfl rfl hS26 rfl ((hv30.mono le2).src hS26.agree) hl31) ?_;rintro v32 w32 hS32;refine q3 ?_;refine qm ?_;obtain ⟨F33,le33,hf33,hS33⟩:=hS32.freezeR 0 [1,2] rfl (by decide) (by decide);obtain rfl:=oi H;refine qt ?_;exact ⟨F33,v32,rfl,hf33,hS33.pick [] (by decide)⟩
def zan.k1 (x0:List UInt8) (l17:List (List UInt8)) (l20:List Part):Option (Manifest × (List (List UInt8)) × Int) :=
  some ((Manifest.mk x0 l20),l17,0)
def zan.k3 (i32:Int) (rec36:((List (List UInt8)) × (List (List UInt8)) × Int × (List Part))→Option (Manifest × (List (List UInt8)) × Int)) (l39:List (List UInt8)) (l42:List (List UInt8)) (l45:List Part):Option (Manifest × (List (List UInt8)) × Int) :=
  rec36 (l39,l42,wr (i32+1),l45)
def zan.k4 (i32:Int) (l33:List Part) (rec36:((List (List UInt8)) × (List (List UInt8)) × Int × (List Part))→Option (Manifest × (List (List UInt8)) × Int)) (x48:File) (l59:List (List UInt8)) (l62:List (List UInt8)) (l65:List (List UInt8)):Option (Manifest × (List (List UInt8)) × Int) :=
  bd (app (α:=Part) l33 [(Part.mk x48.path (x48.data.length:Int) l65)]) fun l69 =>
  zan.k3 i32 rec36 l59 l62 l69
def zan.k6 (i83:Int) (rec87:((List (List UInt8)) × (List (List UInt8)) × (List (List UInt8)) × Int × (List (List UInt8)))→Option (Manifest × (List (List UInt8)) × Int)) (l97:List (List UInt8)) (r100:(List (List UInt8)) × Int × Bool) (l103:List (List UInt8)) (l106:List (List UInt8)):Option (Manifest × (List (List UInt8)) × Int) :=
  rec87 (r100.1,l103,l106,wr (i83+1),l97)
def zan.l5 (i32:Int) (l33:List Part) (rec36:((List (List UInt8)) × (List (List UInt8)) × Int × (List Part))→Option (Manifest × (List (List UInt8)) × Int)) (x48:File) (rec87:((List (List UInt8)) × (List (List UInt8)) × (List (List UInt8)) × Int × (List (List UInt8)))→Option (Manifest × (List (List UInt8)) × Int)):((List (List UInt8)) × (List (List UInt8)) × (List (List UInt8)) × Int × (List (List UInt8)))→Option (Manifest × (List (List UInt8)) × Int)
  | (l74,l77,l80,i83,l84) =>
    if decide (i83 < (l80.length:Int)) then
      bd (ix l80 i83) fun x89 =>
      bd (zab x89) fun r91 =>
      bd (app (α:=(List UInt8)) l84 [r91]) fun l97 =>
      bd (zco l74 r91) fun r100 =>
      if r100.2.2 then
        bd (cut (α:=(List UInt8)) l77 0 r100.2.1) fun l110 =>
        bd (ix l80 i83) fun x112 =>
        bd (app (α:=(List UInt8)) [] l110) fun l115 =>
        bd (app (α:=(List UInt8)) l115 [x112]) fun l117 =>
        bd (cut (α:=(List UInt8)) l77 r100.2.1 (l77.length:Int)) fun l121 =>
        bd (app (α:=(List UInt8)) l117 l121) fun l123 =>
        zan.k6 i83 rec87 l97 r100 l123 l80
      else
        zan.k6 i83 rec87 l97 r100 l77 l80
    else
      zan.k4 i32 l33 rec36 x48 l74 l77 l84
def zan.l2 (x0:List UInt8) (x1:List File) (rec36:((List (List UInt8)) × (List (List UInt8)) × Int × (List Part))→Option (Manifest × (List (List UInt8)) × Int)):((List (List UInt8)) × (List (List UInt8)) × Int × (List Part))→Option (Manifest × (List (List UInt8)) × Int)
  | (l26,l29,i32,l33) =>
    if decide (i32 < (x1.length:Int)) then
      bd (ix x1 i32) fun x48 =>
      bd (ix x1 i32) fun x53 =>
      bd (zcr x53.data) fun r55 =>
      loop (zan.l5 i32 l33 rec36 x48) (l26,l29,r55,0,[])
    else
      zan.k1 x0 l29 l33
def zan (x0:List UInt8) (x1:List File):Option (Manifest × (List (List UInt8)) × Int) :=
  bd (zby x0) fun r2 =>
  if (!r2) then
    some ((Manifest.mk [] []),[],1)
  else
    bd (zch x1) fun r8 =>
    if decide (r8≠0) then
      some ((Manifest.mk [] []),[],r8)
    else
      loop (zan.l2 x0 x1) ([],[],0,[])
set_option maxHeartbeats 2000000 in
theorem zog {x0:List UInt8} {x1:List File} {r:Manifest × (List (List UInt8)) × Int} {v1:Val} (hA:Gd F w) (h1:SlF File.t F v1 x1) (H:zan x0 x1=some r):Ret Tryz.prog K 41 [.s x0,v1] w fun v w'=>∃ (F':Frz) (q0_0:Val) (q1:Val),v = .tup [.agg (Manifest.cells r.1 q0_0),q1,.i .i64 r.2.2]∧SlF Part.t F' q0_0 (r.1.parts)∧St [] w F F' [.row (tSl tB) q1 (r.2.1)] w':=by
 refine qa2 Tryz.func41 ?_;have hS:=St.start hA;dsimp only [zan] at H;refine qs ?_;refine xm (zft (cs:=[.s [],.sl none 0 (.k 0)]) Ty.zup rfl hS) ?_;rintro _ w1 ⟨g1,rfl,hS1⟩;refine qc ?_;refine qm ?_;refine zay ?_;obtain ⟨r2,hr2,H⟩:=zap H;refine qsc ?_;refine lm (zif hS1.good hr2) ?_;rintro v3 w3 ⟨Fr2,rfl,hT3⟩;have hS3:=hS1.lent hT3;refine qm ?_;refine qy H (fun hc4 H=>?_) (fun hc4 H=>?_)
 ·refine qs ?_;refine W_c (v:=.agg (Manifest.cells (Manifest.mk [] []) (.sl none 0 (.k 0)))) rfl rfl rfl rfl (fun _=>rfl) ?_;refine um (zea (c:=[.s [],.sl none 0 (.k 0)]) 0 ([.s [],.sl none 0 (.k 0)]) rfl rfl hS3 rfl rfl Ty.zgy rfl rfl rfl) ?_;rintro _ w5 hS5;refine qc ?_;refine qm ?_;have hS7:=hS5.nilRow (tSl tB);obtain rfl:=oi H;refine zoe (vs:=[.agg (Manifest.cells (Manifest.mk [] []) (.sl none 0 (.k 0))),(.sl none 0 (.k 0)),.i .i64 1]) rfl ⟨(zkv 1 Ty.zpq Ty.zgy hS7 rfl rfl),rfl,rfl,trivial⟩ ?_;exact ⟨F,.sl none 0 (.k 0),(.sl none 0 (.k 0)),rfl,(SlF.nil _),hS7.pick [0] (by decide)⟩
 ·refine qk ?_;refine zay ?_;obtain ⟨r8,hr8,H⟩:=zap H;refine qsc ?_;refine lm (zpi hS3.good h1 hr8) ?_;rintro v9 w9 ⟨Fr8,rfl,hT9⟩;have hS9:=hS3.lent hT9;refine qm ?_;refine qsc ?_;refine qr (zah rfl rfl zeb) ?_;refine qn ?_;refine qy H (fun hc10 H=>?_) (fun hc10 H=>?_)
  ·refine qs ?_;refine W_c (v:=.agg (Manifest.cells (Manifest.mk [] []) (.sl none 0 (.k 0)))) rfl rfl rfl rfl (fun _=>rfl) ?_;refine qc ?_;refine um (zea (c:=[.s [],.sl none 0 (.k 0)]) 0 ([.s [],.sl none 0 (.k 0)]) rfl rfl hS9 rfl rfl Ty.zgy rfl rfl rfl) ?_;rintro _ w11 hS11;refine qc ?_;refine qm ?_;have hS13:=hS11.nilRow (tSl tB);obtain rfl:=oi H;refine zoe (vs:=[.agg (Manifest.cells (Manifest.mk [] []) (.sl none 0 (.k 0))),(.sl none 0 (.k 0)),.i .i64 r8]) rfl ⟨(zkv 1 Ty.zpq Ty.zgy hS13 rfl rfl),rfl,rfl,trivial⟩ ?_;exact ⟨F,.sl none 0 (.k 0),(.sl none 0 (.k 0)),rfl,(SlF.nil _),hS13.pick [0] (by decide)⟩
  ·refine qk ?_;refine qsc ?_;refine W_c (v:=.agg (Manifest.cells (Manifest.mk x0 []) (.sl none 0 (.k 0)))) rfl rfl rfl rfl (fun _=>rfl) ?_;refine xm (zft (cs:=[.s [],.sl none 0 (.k 0)]) Ty.zup rfl hS9) ?_;rintro _ w14 ⟨g14,rfl,hS14⟩;refine um (zea (c:=[.s x0,.sl none 0 (.k 0)]) 0 ([.s x0,.sl none 0 (.k 0)]) rfl rfl hS14 rfl rfl Ty.zgy rfl rfl rfl) ?_;rintro _ w15 hS15;refine qn ?_;refine qsm ?_;refine qsm ?_;refine zai (fun E wq=>∃ l17:List (List UInt8),∃ l20:List Part,zan.k1 x0 l17 l20=some r ∧ ∃ (F16:Frz) (u18:Val) (u21:Val),E=[(4,pl g1 0),(8,pl g14 0),(10,u18)]∧F.le F16∧St [] w F F16 [.box g14 [.s x0,u21],.box g1 [.s [],.sl none 0 (.k 0)],.row (tSl tB) u18 l17,.row Part.t u21 l20] wq) ?_ ?_
   ·refine qsm ?_;refine zar ?_;refine zbm (fun (s:(List (List UInt8)) × (List (List UInt8)) × Int × (List Part)) E wq=>∃ (F25:Frz) (u27:Val) (u30:Val) (u34:Val),E=[(1,v1),(4,pl g1 0),(8,pl g14 0),(9,u27),(10,u30),(11,.i .i64 s.2.2.1)]∧F.le F25∧SlF tId F25 u27 s.1∧St [] w F F25 [.box g14 [.s x0,u34],.box g1 [.s [],.sl none 0 (.k 0)],.row (tSl tB) u30 s.2.1,.row Part.t u34 s.2.2.2] wq) H ?_ ?_
    ·have hS129:=hS15.nilRow (tSl tB);have hS131:=hS129.nilRow Part.t;exact ⟨_,⟨F,.sl none 0 (.k 0),(.sl none 0 (.k 0)),(.sl none 0 (.k 0)),rfl,(Frz.le.refl _),(SlF.nil _),hS131.pick [2,3,1,0] (by decide)⟩,⟨rfl,rfl,rfl,rfl,rfl,rfl,trivial⟩⟩
    ·rintro rec36 ⟨l26,l29,i32,l33⟩ E w25 hI H
     try dsimp only at hI
     obtain ⟨F25,u27,u30,u34,rfl,le25,hx28,hS25⟩:=hI;dsimp only [zan.l2] at H;refine zay ?_;refine qs ?_;refine q2 ?_;refine qr (zbs Tryz.underlying22 rfl h1.ln) ?_;refine qr (zah rfl rfl zbp) ?_;refine qn ?_;refine qy H (fun hc37 H=>?_) (fun hc37 H=>?_)
     ·refine qk ?_;refine zai (fun E wq=>∃ l39:List (List UInt8),∃ l42:List (List UInt8),∃ l45:List Part,zan.k3 i32 rec36 l39 l42 l45=some r ∧ ∃ (F38:Frz) (u40:Val) (u43:Val) (u46:Val),E=[(1,v1),(4,pl g1 0),(8,pl g14 0),(9,u40),(10,u43),(11,.i .i64 i32)]∧F25.le F38∧SlF tId F38 u40 l39∧St [] w F F38 [.box g14 [.s x0,u46],.box g1 [.s [],.sl none 0 (.k 0)],.row (tSl tB) u43 l42,.row Part.t u46 l45] wq) ?_ ?_
      ·refine zar ?_;refine zay ?_;obtain ⟨x48,hx48,H⟩:=zap H;refine zaz (G:=F25) [0,1,2,3,4,5,6,7,8,9,10,11,12,13] rfl Ty.mixed (by kernel_rfl) hS25.agree ?_;refine q2 ?_;obtain ⟨hp51,hy51⟩:=zac hx48;obtain ⟨cs51,hr51,he51⟩:=(h1.mono le25).el hy51;obtain ⟨ue49_0,rfl,hue49_0⟩:=hr51;replace he51:=qj 2 he51;have hi51:=he51.ixd;refine qi Tryz.underlying22 Ty.zin hi51 hp51 ?_;refine qr (zfm 0 Ty.zhu rfl hi51) ?_;refine qq (zfs 0 Ty.zkp rfl (he51.mono hS25.agree) (by omega) rfl) ?_;refine q2 ?_;refine qi Tryz.underlying22 Ty.zin hi51 hp51 ?_;refine qr (zfm 1 Ty.zqa rfl hi51) ?_;refine qq (zfs 1 Ty.zhg rfl (he51.mono hS25.agree) (by omega) rfl) ?_;refine qr (zbs Tryz.underlying47 rfl hue49_0.ln) ?_;refine W_c (v:=.agg (Part.cells (Part.mk x48.path (x48.data.length:Int) []) (.sl none 0 (.k 0)))) rfl rfl rfl rfl (fun _=>rfl) ?_;refine qx (zft (cs:=[.s [],.i .i64 0,.sl none 0 (.k 0)]) Ty.zoj rfl hS25) ?_;rintro _ w50 ⟨g50,rfl,hS50⟩;refine qw hS50 ?_;refine qu (zea (c:=[.s x48.path,.i .i64 (x48.data.length:Int),.sl none 0 (.k 0)]) 0 ([.s x48.path,.i .i64 (x48.data.length:Int),.sl none 0 (.k 0)]) rfl rfl hS50 rfl rfl Ty.zfn rfl rfl rfl) ?_;rintro _ w52 hS52;refine qw hS52 ?_;refine qn ?_;obtain ⟨x53,hx53,r55,hr55,H⟩:=bd2 H;refine qs ?_;refine q2 ?_;obtain ⟨hp56,hy56⟩:=zac hx53;obtain ⟨cs56,hr56,he56⟩:=(h1.mono le25).el hy56;obtain ⟨ue54_0,rfl,hue54_0⟩:=hr56;replace he56:=qj 2 he56;have hi56:=he56.ixd;refine qi Tryz.underlying22 Ty.zin hi56 hp56 ?_;refine qr (zfm 1 Ty.zqa rfl hi56) ?_;refine qr (zfs 1 Ty.zhg rfl (he56.mono hS52.agree) (by omega) rfl) ?_;refine lm (zqh hS52.good hue54_0 hr55) ?_;rintro ur55_0 w57 ⟨Fr55,_,rfl,hT57⟩;have hS57:=hS52.call hT57;have ler55:=hT57.ext;refine qm ?_;refine zai (fun E wq=>∃ l59:List (List UInt8),∃ l62:List (List UInt8),∃ l65:List (List UInt8),zan.k4 i32 l33 rec36 x48 l59 l62 l65=some r ∧ ∃ (F58:Frz) (u60:Val) (u63:Val) (u66:Val),E=[(1,v1),(4,pl g1 0),(8,pl g14 0),(9,u60),(10,u63),(11,.i .i64 i32),(12,pl g50 0)]∧Fr55.le F58∧SlF tId F58 u60 l59∧St [] w F F58 [.box g50 [.s x48.path,.i .i64 (x48.data.length:Int),u66],.box g14 [.s x0,u34],.box g1 [.s [],.sl none 0 (.k 0)],.row Part.t u34 l33,.row (tSl tB) u63 l62,.row tId u66 l65] wq) ?_ ?_
       ·refine qsm ?_;refine zar ?_;refine zbm (fun (s:(List (List UInt8)) × (List (List UInt8)) × (List (List UInt8)) × Int × (List (List UInt8))) E wq=>∃ (F73:Frz) (u75:Val) (u78:Val) (u81:Val) (u85:Val),E=[(1,v1),(4,pl g1 0),(8,pl g14 0),(9,u75),(10,u78),(11,.i .i64 i32),(12,pl g50 0),(13,u81),(14,.i .i64 s.2.2.2.1)]∧Fr55.le F73∧SlF tId F73 u75 s.1∧SlF (tSl tB) F73 u81 s.2.2.1∧St [] w F F73 [.box g50 [.s x48.path,.i .i64 (x48.data.length:Int),u85],.box g14 [.s x0,u34],.box g1 [.s [],.sl none 0 (.k 0)],.row Part.t u34 l33,.row (tSl tB) u78 s.2.1,.row tId u85 s.2.2.2.2] wq) H ?_ ?_
        ·obtain ⟨F125,le125,hf125,hS125⟩:=hS57.freezeR 0 [1,2,3,4,5] rfl (by decide) (by decide);have hS127:=hS125.nilRow tId;exact ⟨_,⟨F125,u27,u30,ur55_0,(.sl none 0 (.k 0)),rfl,le125,(hx28.mono (ler55.trans le125)),hf125,hS127.pick [1,2,3,5,4,0] (by decide)⟩,⟨rfl,rfl,rfl,rfl,rfl,rfl,rfl,rfl,rfl,trivial⟩⟩
        ·rintro rec87 ⟨l74,l77,l80,i83,l84⟩ E w73 hI H
         try dsimp only at hI
         obtain ⟨F73,u75,u78,u81,u85,rfl,le73,hx76,hx82,hS73⟩:=hI;dsimp only [zan.l5] at H;refine zay ?_;refine qs ?_;refine q2 ?_;refine qr (zbs Tryz.underlying95 rfl hx82.ln) ?_;refine qr (zah rfl rfl zbp) ?_;refine qn ?_;refine qy H (fun hc88 H=>?_) (fun hc88 H=>?_)
         ·refine qk ?_;refine zay ?_;refine zar ?_;obtain ⟨x89,hx89,r91,hr91,H⟩:=bd2 H;refine qs ?_;refine q2 ?_;obtain ⟨hp93,hy93⟩:=zac hx89;obtain ⟨cs93,hr93,he93⟩:=hx82.el hy93;obtain ⟨ue90,rfl,hue90⟩:=hr93;replace he93:=qj 1 he93;have hi93:=he93.ixd;refine qi Tryz.underlying95 Ty.zqm hi93 hp93 ?_;refine qr (zfs 0 Ty.zhg rfl (he93.mono hS73.agree) (by omega) rfl) ?_;refine lm (zqx hS73.good hue90 hr91) ?_;rintro v94 w94 ⟨Fr91,rfl,hlr91_0,hT94⟩;have hS94:=hS73.call hT94;have ler91:=hT94.ext;refine xm (zft (cs:=zao (List.replicate 32 (0:UInt8))) Ty.zsz rfl hS94) ?_;rintro _ w92 ⟨g92,rfl,hS92⟩;refine um (zea (c:=zao r91) 0 (zao r91) rfl rfl hS92 rfl rfl Ty.zcy rfl rfl rfl) ?_;rintro _ w95 hS95;refine qn ?_;obtain ⟨l97,hl97,H⟩:=zap H;refine qs ?_;refine qf Ty.zfk ?_;refine qb 1 Ty.zkt hS95 ?_;refine qr (zde 0 (zao r91) Ty.zhs Ty.zcy (Nat.zero_lt_succ _) rfl hS95 rfl (fun q u h=>zdb (post:=[]) rfl h)) ?_;refine xm (E_bs (t:=tId) (vs:=[.agg (zao r91)]) (xs:=[r91]) Tryz.underlying118 Ty.zvb rfl ⟨⟨rfl,hlr91_0⟩,trivial⟩ rfl rfl hS95) ?_;rintro u96 w96 hS96;refine xm (zgg (t:=tId) 7 Tryz.underlying118 Ty.zvb Ty.zk118 rfl rfl hS96 rfl (hS96.rowSrc (k:=0) rfl) hl97) ?_;rintro v98 w98 hS98;refine qf Ty.zfk ?_;refine um (zea (c:=[v98]) 2 ([.s x48.path,.i .i64 (x48.data.length:Int),v98]) rfl rfl hS98 rfl (hS98.rowLn (k:=7) rfl).cells Ty.size118 (by simp only [List.all_cons,List.all_nil,List.all_append,(hS98.rowLn (k:=7) rfl).one];rfl) rfl rfl) ?_;rintro _ w99 hS99;refine qn ?_;obtain ⟨r100,hr100,H⟩:=zap H;refine qsc ?_;refine qr (zde 1 (zao r91) Ty.zhs Ty.zcy (Nat.zero_lt_succ _) rfl hS99 rfl (fun q u h=>zdb (post:=[]) rfl h)) ?_;refine lm (zqg hS99.good (hx76.mono ler91) hlr91_0 hr100) ?_;rintro v101 w101 ⟨Fr100,ur100_0,rfl,hfr100_0,hT101⟩;have hS101:=hS99.call hT101;have ler100:=hT101.ext;refine q4 ?_;refine q2 ?_;refine qm ?_;refine zai (fun E wq=>∃ l103:List (List UInt8),∃ l106:List (List UInt8),zan.k6 i83 rec87 l97 r100 l103 l106=some r ∧ ∃ (F102:Frz) (u104:Val) (u107:Val),E=[(1,v1),(4,pl g1 0),(8,pl g14 0),(10,u104),(11,.i .i64 i32),(12,pl g50 0),(13,u107),(14,.i .i64 i83),(16,ur100_0)]∧Fr100.le F102∧SlF (tSl tB) F102 u107 l106∧St [] w F F102 [.box g50 [.s x48.path,.i .i64 (x48.data.length:Int),v98],.box g14 [.s x0,u34],.box g1 [.s [],.sl none 0 (.k 0)],.row Part.t u34 l33,.row tId v98 l97,.row (tSl tB) u104 l103] wq) ?_ ?_
          ·refine qsm ?_;refine qy H (fun hc109 H=>?_) (fun hc109 H=>?_)
           ·refine qsm ?_;refine zay ?_;obtain ⟨l110,hl110,x112,hx112,H⟩:=bd2 H;obtain ⟨l115,hl115,l117,hl117,H⟩:=bd2 H;refine zaz (G:=Fr100) [0,1,2,3,5,6,7,8,9,4,10,11] rfl Ty.mixed (by kernel_rfl) hS101.agree ?_;refine q3 ?_;refine znl 6 0 r100.2.1 rfl rfl rfl rfl Tryz.underlying95 Ty.zqm rfl (.inl ⟨rfl,rfl⟩) (.inr ⟨_,_,rfl,rfl⟩) hS101 rfl hl110 ?_;intro q111 hv111 hw111;refine q2 ?_;obtain ⟨hp119,hy119⟩:=zac hx112;obtain ⟨cs119,hr119,he119⟩:=(hx82.mono (ler91.trans ler100)).el hy119;obtain ⟨ue113,rfl,hue113⟩:=hr119;replace he119:=qj 1 he119;have hi119:=he119.ixd;refine qi Tryz.underlying95 Ty.zqm hi119 hp119 ?_;refine qr (zfs 0 Ty.zhg rfl he119 (by omega) rfl) ?_;refine qx (E_bs (t:=(tSl tB)) (vs:=[ue113]) (xs:=[x112]) Tryz.underlying95 Ty.row47 rfl (by simp only [List.map_cons,List.map_nil,hue113.ln.cells];exact ⟨⟨_,rfl,hue113⟩,trivial⟩) rfl rfl hS101) ?_;rintro u114 w114 hS114;refine qw hS114 ?_;have hS120:=hS114.nilRow (tSl tB);refine qx (zgg (t:=(tSl tB)) 0 Tryz.underlying95 Ty.row47 Ty.zk95 rfl rfl hS120 rfl ((hS120.rowSrc (k:=8) rfl).piece hw111 hl110) hl115) ?_;rintro v116 w116 hS116;refine qw hS116 ?_;refine qx (zgg (t:=(tSl tB)) 0 Tryz.underlying95 Ty.row47 Ty.zk95 rfl rfl hS116 rfl (hS116.rowSrc (k:=1) rfl) hl117) ?_;rintro v118 w118 hS118;refine qw hS118 ?_;refine qm ?_;obtain ⟨l121,hl121,l123,hl123,H⟩:=bd2 H;refine qd ?_;refine q3 ?_;refine znl 8 r100.2.1 (l77.length:Int) rfl rfl rfl rfl Tryz.underlying95 Ty.zqm rfl (.inr ⟨_,_,rfl,rfl⟩) (.inl ⟨rfl,rfl⟩) hS118 rfl hl121 ?_;intro q122 hv122 hw122;refine xm (zgg (t:=(tSl tB)) 0 Tryz.underlying95 Ty.row47 Ty.zk95 rfl rfl hS118 rfl hv122 hl123) ?_;rintro v124 w124 hS124;refine qc ?_;refine zbk ?_;exact zbe _ ⟨l123,l80,H,⟨Fr100,v124,u81,rfl,(Frz.le.refl _),(hx82.mono (ler91.trans ler100)),hS124.pick [4,5,6,7,9,0] (by decide)⟩⟩ ⟨rfl,rfl,rfl,rfl,rfl,rfl,rfl,rfl,rfl,trivial⟩
           ·refine zec ?_;exact zbe _ ⟨l77,l80,H,⟨Fr100,u78,u81,rfl,(Frz.le.refl _),(hx82.mono (ler91.trans ler100)),hS101.pick [2,3,4,5,7,6] (by decide)⟩⟩ ⟨rfl,rfl,rfl,rfl,rfl,rfl,rfl,rfl,rfl,trivial⟩
          ·rintro E w102 ⟨l103,l106,H,F102,u104,u107,rfl,le102,hx108,hS102⟩;dsimp only [zan.k6] at H;refine qd ?_;refine q2 ?_;refine zbk ?_;refine zbf ?_;refine zcl ?_;refine qd ?_;refine q3 ?_;refine zbk ?_;exact zbd (r100.1,l103,l106,wr (i83+1),l97) _ H ⟨F102,ur100_0,u104,u107,v98,rfl,(((le73.trans ler91).trans ler100).trans le102),(hfr100_0.mono le102),hx108,hS102.pick [0,1,2,3,5,4] (by decide)⟩ ⟨rfl,rfl,rfl,rfl,rfl,rfl,rfl,rfl,rfl,trivial⟩
         ·refine zcc _ rfl ?_;exact zbe _ ⟨l74,l77,l84,H,⟨F73,u75,u78,u85,rfl,le73,hx76,hS73⟩⟩ ⟨rfl,rfl,rfl,rfl,rfl,rfl,rfl,trivial⟩
       ·rintro E w58 ⟨l59,l62,l65,H,F58,u60,u63,u66,rfl,le58,hx61,hS58⟩;dsimp only [zan.k4] at H;obtain ⟨l69,hl69,H⟩:=zap H;refine qd ?_;refine qf Ty.zee ?_;refine qb 1 Ty.zjs hS58 ?_;refine qr (zde 0 (Part.cells (Part.mk x48.path (x48.data.length:Int) l65) u66) Ty.zsd Ty.zfn (Nat.zero_lt_succ _) rfl hS58 rfl (fun q u h=>zdb (post:=[]) rfl h)) ?_;obtain ⟨F71,le71,hf71,hS71⟩:=hS58.freezeR 5 [0,1,2,3,4] rfl (by decide) (by decide);refine xm (E_bs (t:=Part.t) (vs:=[.agg (Part.cells (Part.mk x48.path (x48.data.length:Int) l65) u66)]) (xs:=[(Part.mk x48.path (x48.data.length:Int) l65)]) Tryz.underlying41 Ty.zwy rfl ⟨⟨u66,rfl,hf71⟩,trivial⟩ rfl rfl hS71) ?_;rintro u68 w68 hS68;refine xm (zgg (t:=Part.t) 4 Tryz.underlying41 Ty.zwy Ty.zk41 rfl rfl hS68 rfl (hS68.rowSrc (k:=0) rfl) hl69) ?_;rintro v70 w70 hS70;refine qf Ty.zee ?_;refine um (zea (c:=[v70]) 2 ([.s x0,v70]) rfl rfl hS70 rfl (hS70.rowLn (k:=4) rfl).cells Ty.size41 (by simp only [List.all_cons,List.all_nil,List.all_append,(hS70.rowLn (k:=4) rfl).one];rfl) rfl rfl) ?_;rintro _ w72 hS72;refine zbk ?_;refine zbf ?_;exact zbe _ ⟨l59,l62,l69,H,⟨F71,u60,u63,v70,rfl,((ler55.trans le58).trans le71),(hx61.mono le71),hS72.pick [2,3,5,4] (by decide)⟩⟩ ⟨rfl,rfl,rfl,rfl,rfl,rfl,trivial⟩
      ·rintro E w38 ⟨l39,l42,l45,H,F38,u40,u43,u46,rfl,le38,hx41,hS38⟩;dsimp only [zan.k3] at H;refine qd ?_;refine q3 ?_;refine zbk ?_;exact zbd (l39,l42,wr (i32+1),l45) _ H ⟨F38,u40,u43,u46,rfl,(le25.trans le38),hx41,hS38⟩ ⟨rfl,rfl,rfl,rfl,rfl,rfl,trivial⟩
     ·refine zcc _ rfl ?_;exact zbe _ ⟨l29,l33,H,⟨F25,u30,u34,rfl,le25,hS25⟩⟩ ⟨rfl,rfl,rfl,trivial⟩
   ·rintro E w16 ⟨l17,l20,H,F16,u18,u21,rfl,le16,hS16⟩;dsimp only [zan.k1] at H;refine qs ?_;refine qr (zde 0 (Manifest.cells (Manifest.mk x0 l20) u21) Ty.zpq Ty.zgy (Nat.zero_lt_succ _) rfl hS16 rfl (fun q u h=>zdb (post:=[]) rfl h)) ?_;refine qc ?_;refine um (zea (c:=[.s x0,u21]) 1 ([.s x0,u21]) rfl rfl hS16 rfl rfl Ty.zgy (by simp only [List.all_cons,List.all_nil,List.all_append,(hS16.rowLn (k:=3) rfl).one];rfl) rfl rfl) ?_;rintro _ w23 hS23;refine qc ?_;refine qm ?_;obtain ⟨F24,le24,hf24,hS24⟩:=hS23.freezeR 3 [0,1,2] rfl (by decide) (by decide);obtain rfl:=oi H;refine zoe (vs:=[.agg (Manifest.cells (Manifest.mk x0 l20) u21),u18,.i .i64 0]) rfl ⟨(zkv 1 Ty.zpq Ty.zgy hS24 rfl rfl),rfl,rfl,trivial⟩ ?_;exact ⟨F24,u21,u18,rfl,hf24,hS24.pick [2] (by decide)⟩
def zbn.k1 (l2:List UInt8):Option (List UInt8) :=
  some l2
def zbn.l2 (x0:Int) (rec10:((List UInt8) × Int)→Option (List UInt8)):((List UInt8) × Int)→Option (List UInt8)
  | (l6,i9) =>
    if decide (0≤i9) then
      bd (shrI x0 (wu (wr (8*i9)))) fun x12 =>
      bd (app (α:=UInt8) l6 [(toB8 x12)]) fun l14 =>
      rec10 (l14,wr (i9 - 1))
    else
      zbn.k1 l6
def zbn (x0:Int) (x1:Int):Option (List UInt8) :=
  loop (zbn.l2 x0) ([],wr (x1 - 1))
theorem zqw {x0:Int} {x1:Int} {r:(List UInt8)} (hA:Gd F w) (H:zbn x0 x1=some r):Ret Tryz.prog K 75 [.i .i64 x0,.i .i64 x1] w fun v w'=>∃ (F':Frz) (q0:Val),v=q0∧St [] w F F' [.row tB q0 (r)] w':=by
 refine qa2 Tryz.func75 ?_;have hS:=St.start hA;dsimp only [zbn] at H;refine qsm ?_;refine qsm ?_;refine zai (fun E wq=>∃ l2:List UInt8,zbn.k1 l2=some r ∧ ∃ (F1:Frz) (u3:Val),E=[(5,u3)]∧F.le F1∧St [] w F F1 [.row tB u3 l2] wq) ?_ ?_
 ·refine qs ?_;refine q2 ?_;refine qm ?_;refine zar ?_;refine zbm (fun (s:(List UInt8) × Int) E wq=>∃ (F5:Frz) (u7:Val),E=[(0,.i .i64 x0),(5,u7),(6,.i .i64 s.2)]∧F.le F5∧St [] w F F5 [.row tB u7 s.1] wq) H ?_ ?_
  ·have hS18:=hS.nilRow tB;exact ⟨_,⟨F,(.sl none 0 (.k 0)),rfl,(Frz.le.refl _),hS18⟩,⟨rfl,rfl,rfl,trivial⟩⟩
  ·rintro rec10 ⟨l6,i9⟩ E w5 hI H
   try dsimp only at hI
   obtain ⟨F5,u7,rfl,le5,hS5⟩:=hI;dsimp only [zbn.l2] at H;refine zay ?_;refine qsc ?_;refine qr (zah rfl rfl znk) ?_;refine qn ?_;refine qy H (fun hc11 H=>?_) (fun hc11 H=>?_)
   ·refine qk ?_;refine zay ?_;refine zar ?_;obtain ⟨x12,hx12,l14,hl14,H⟩:=bd2 H;refine qd ?_;refine q4 ?_;refine qr (zgv Tryz.underlying3 Tryz.underlying26 rfl (rfl)) ?_;obtain ⟨hz16,hv16,hw16⟩:=shrI_some hx12;refine qr (zah rfl rfl (by rw [zod hz16 hv16,← hw16])) ?_;refine qr (zgv Tryz.underlying3 Tryz.underlying5 rfl (i8_of _)) ?_;refine xm (E_bs (t:=tB) (vs:=[.i .u8 ((toB8 x12).toNat:Int)]) (xs:=[(toB8 x12)]) Tryz.underlying47 Ty.row5 rfl ⟨rfl,trivial⟩ rfl rfl hS5) ?_;rintro u13 w13 hS13;refine xm (zgg (t:=tB) 1 Tryz.underlying47 Ty.row5 Ty.zk47 rfl rfl hS13 rfl (hS13.rowSrc (k:=0) rfl) hl14) ?_;rintro v15 w15 hS15;refine qc ?_;refine zbk ?_;refine zbf ?_;refine zcl ?_;refine qd ?_;refine q3 ?_;refine zbk ?_;exact zbd (l14,wr (i9 - 1)) _ H ⟨F5,v15,rfl,le5,hS15.pick [1] (by decide)⟩ ⟨rfl,rfl,rfl,trivial⟩
   ·refine zcc _ rfl ?_;exact zbe _ ⟨l6,H,⟨F5,u7,rfl,le5,hS5⟩⟩ ⟨rfl,trivial⟩
 ·rintro E w1 ⟨l2,H,F1,u3,rfl,le1,hS1⟩;dsimp only [zbn.k1] at H;refine qsc ?_;refine qm ?_;obtain rfl:=oi H;refine qt ?_;exact ⟨F1,u3,rfl,hS1⟩
def zas.k1 (l9:List UInt8):Option (List UInt8) :=
  some l9
def zas.k3 (i12:Int) (rec15:(Int × (List UInt8))→Option (List UInt8)) (l18:List UInt8):Option (List UInt8) :=
  rec15 (wr (i12+1),l18)
def zas.l4 (i12:Int) (rec15:(Int × (List UInt8))→Option (List UInt8)) (x20:Part) (rec43:(Int × (List UInt8))→Option (List UInt8)):(Int × (List UInt8))→Option (List UInt8)
  | (i40,l41) =>
    if decide (i40 < (x20.ids.length:Int)) then
      bd (ix x20.ids i40) fun x45 =>
      bd (app (α:=UInt8) l41 x45) fun l48 =>
      rec43 (wr (i40+1),l48)
    else
      zas.k3 i12 rec15 l41
def zas.l2 (x0:Manifest) (rec15:(Int × (List UInt8))→Option (List UInt8)):(Int × (List UInt8))→Option (List UInt8)
  | (i12,l13) =>
    if decide (i12 < (x0.parts.length:Int)) then
      bd (ix x0.parts i12) fun x20 =>
      bd (app (α:=UInt8) l13 [(toB8 (x20.path.length:Int))]) fun l26 =>
      bd (app (α:=UInt8) l26 x20.path) fun l28 =>
      bd (zbn x20.size 2) fun r32 =>
      bd (app (α:=UInt8) l28 r32) fun l33 =>
      bd (app (α:=UInt8) l33 [(toB8 (x20.ids.length:Int))]) fun l35 =>
      loop (zas.l4 i12 rec15 x20) (0,l35)
    else
      zas.k1 l13
def zas (x0:Manifest):Option (List UInt8) :=
  bd (app (α:=UInt8) [(toB8 (x0.name.length:Int))] x0.name) fun l3 =>
  bd (app (α:=UInt8) l3 [(toB8 (x0.parts.length:Int))]) fun l6 =>
  loop (zas.l2 x0) (0,l6)
theorem zkn {x0:Manifest} {r:(List UInt8)} {v0_0:Val} (hA:Gd F w) (h0_0:SlF Part.t F v0_0 x0.parts) (H:zas x0=some r):Ret Tryz.prog K 35 [.agg (Manifest.cells x0 v0_0)] w fun v w'=>∃ (F':Frz) (q0:Val),v=q0∧St [] w F F' [.row tB q0 (r)] w':=by
 refine qa1 Tryz.func35 ?_;have hS:=St.start hA;dsimp only [zas] at H;refine qs ?_;refine xm (E_bx (cs:=[.s x0.name,v0_0]) rfl rfl (by simp only [List.all_cons,List.all_nil,List.all_append,h0_0.ln.one];rfl) hS) ?_;rintro _ w1 ⟨g1,rfl,hS1⟩;refine qm ?_;obtain ⟨l3,hl3,H⟩:=zap H;refine qs ?_;refine qf Ty.zjo ?_;refine qb 0 Ty.zkp hS1 ?_;refine qr (ztj Tryz.underlying9 rfl) ?_;refine qr (zgv Tryz.underlying3 Tryz.underlying5 rfl (i8_of _)) ?_;refine xm (E_bs (t:=tB) (vs:=[.i .u8 ((toB8 (x0.name.length:Int)).toNat:Int)]) (xs:=[(toB8 (x0.name.length:Int))]) Tryz.underlying47 Ty.row5 rfl ⟨rfl,trivial⟩ rfl rfl hS1) ?_;rintro u2 w2 hS2;refine qf Ty.zjo ?_;refine qb 1 Ty.zkp hS2 ?_;refine xm (E_appS 0 Tryz.underlying47 Ty.row5 Ty.zk9 rfl rfl hS2 rfl hl3) ?_;rintro v4 w4 hS4;refine qm ?_;obtain ⟨l6,hl6,H⟩:=zap H;refine qsc ?_;refine qf Ty.zee ?_;refine qb 1 Ty.zjs hS4 ?_;refine qr (zbs Tryz.underlying41 rfl h0_0.ln) ?_;refine qr (zgv Tryz.underlying3 Tryz.underlying5 rfl (i8_of _)) ?_;refine xm (E_bs (t:=tB) (vs:=[.i .u8 ((toB8 (x0.parts.length:Int)).toNat:Int)]) (xs:=[(toB8 (x0.parts.length:Int))]) Tryz.underlying47 Ty.row5 rfl ⟨rfl,trivial⟩ rfl rfl hS4) ?_;rintro u5 w5 hS5;refine xm (zgg (t:=tB) 1 Tryz.underlying47 Ty.row5 Ty.zk47 rfl rfl hS5 rfl (hS5.rowSrc (k:=0) rfl) hl6) ?_;rintro v7 w7 hS7;refine qm ?_;refine zai (fun E wq=>∃ l9:List UInt8,zas.k1 l9=some r ∧ ∃ (F8:Frz) (u10:Val),E=[(3,u10)]∧F.le F8∧St [] w F F8 [.row tB u10 l9] wq) ?_ ?_
 ·refine qsm ?_;refine zar ?_;refine zbm (fun (s:Int × (List UInt8)) E wq=>∃ (F11:Frz) (u14:Val),E=[(1,pl g1 0),(3,u14),(4,.i .i64 s.1)]∧F.le F11∧St [] w F F11 [.row tB u14 s.2,.box g1 [.s x0.name,v0_0]] wq) H ?_ ?_
  ·exact ⟨_,⟨F,v7,rfl,(Frz.le.refl _),hS7.pick [1,2] (by decide)⟩,⟨rfl,rfl,rfl,trivial⟩⟩
  ·rintro rec15 ⟨i12,l13⟩ E w11 hI H
   try dsimp only at hI
   obtain ⟨F11,u14,rfl,le11,hS11⟩:=hI;dsimp only [zas.l2] at H;refine zay ?_;refine qsc ?_;refine qf Ty.zee ?_;refine qb 1 Ty.zjs hS11 ?_;refine qr (zbs Tryz.underlying41 rfl h0_0.ln) ?_;refine qr (zah rfl rfl zbp) ?_;refine qn ?_;refine qy H (fun hc16 H=>?_) (fun hc16 H=>?_)
   ·refine qk ?_;refine zai (fun E wq=>∃ l18:List UInt8,zas.k3 i12 rec15 l18=some r ∧ ∃ (F17:Frz) (u19:Val),E=[(1,pl g1 0),(3,u19),(4,.i .i64 i12)]∧F11.le F17∧St [] w F F17 [.row tB u19 l18,.box g1 [.s x0.name,v0_0]] wq) ?_ ?_
    ·refine zar ?_;obtain ⟨x20,hx20,H⟩:=zap H;refine qs ?_;refine qf Ty.zee ?_;refine qb 1 Ty.zjs hS11 ?_;refine qc ?_;obtain ⟨hp23,hy23⟩:=zac hx20;obtain ⟨cs23,hr23,he23⟩:=(h0_0.mono le11).el hy23;obtain ⟨ue21_0,rfl,hue21_0⟩:=hr23;replace he23:=qj 3 he23;have hi23:=he23.ixd;refine qi Tryz.underlying41 Ty.zfn hi23 hp23 ?_;refine qr (zfe 0 (Part.cells x20 ue21_0) Ty.zsd Ty.zfn rfl (he23.mono hS11.agree) (by omega) rfl (Nat.le_of_ble_eq_true rfl)) ?_;refine xm (zft (cs:=[.s [],.i .i64 0,.sl none 0 (.k 0)]) Ty.zoj rfl hS11) ?_;rintro _ w22 ⟨g22,rfl,hS22⟩;refine um (zea (c:=[.s x20.path,.i .i64 x20.size,ue21_0]) 0 ([.s x20.path,.i .i64 x20.size,ue21_0]) rfl rfl hS22 rfl rfl Ty.zfn (by simp only [List.all_cons,List.all_nil,List.all_append,hue21_0.ln.one];rfl) rfl rfl) ?_;rintro _ w24 hS24;refine qn ?_;refine zay ?_;obtain ⟨l26,hl26,l28,hl28,H⟩:=bd2 H;have hb30:=hS24.boxAt 0 rfl;refine zaz (G:=(F11.hold w24 [g22])) [0,1,2,3,4,5,7,8,6,9,10] rfl Ty.mixed (by kernel_rfl) (HB.agree (HB.cons 0 hb30 hS24 rfl HB.nil) hS24.agree) ?_;refine qc ?_;refine qf Ty.zkd ?_;refine qbq 0 Ty.zkp hS24 ?_;refine qr (ztj Tryz.underlying9 rfl) ?_;refine qr (zgv Tryz.underlying3 Tryz.underlying5 rfl (i8_of _)) ?_;refine qx (E_bs (t:=tB) (vs:=[.i .u8 ((toB8 (x20.path.length:Int)).toNat:Int)]) (xs:=[(toB8 (x20.path.length:Int))]) Tryz.underlying47 Ty.row5 rfl ⟨rfl,trivial⟩ rfl rfl hS24) ?_;rintro u25 w25 hS25;refine qh 1 hb30 hS25 ?_;refine qf Ty.zkd ?_;refine qr (zfj Ty.zkp rfl (hb30.held (HB.cons 1 hb30 hS25 rfl HB.nil) (by simp)) rfl) ?_;refine qx (zgg (t:=tB) 2 Tryz.underlying47 Ty.row5 Ty.zk47 rfl rfl hS25 rfl (hS25.rowSrc (k:=0) rfl) hl26) ?_;rintro v27 w27 hS27;refine qh 1 hb30 hS27 ?_;refine qx (E_appS 2 Tryz.underlying47 Ty.row5 Ty.zk9 rfl rfl hS27 rfl hl28) ?_;rintro v29 w29 hS29;refine qh 1 hb30 hS29 ?_;refine qm ?_;refine zay ?_;obtain ⟨r32,hr32,l33,hl33,H⟩:=bd2 H;obtain ⟨l35,hl35,H⟩:=zap H;have hb37:=hS29.boxAt 1 rfl;refine zaz (G:=(F11.hold w29 [g22])) [0,1,2,5,6,7,8,9,3,4,10,11] rfl Ty.mixed (by kernel_rfl) (HB.agree (HB.cons 1 hb37 hS29 rfl HB.nil) hS29.agree) ?_;refine qc ?_;refine qf Ty.zli ?_;refine qbq 1 Ty.zdd hS29 ?_;refine qf Ty.zfk ?_;refine qr (zfj Ty.zkt rfl (hb37.held (HB.cons 1 hb37 hS29 rfl HB.nil) (by simp)) rfl) ?_
     refine qr (zbs Tryz.underlying118 rfl hue21_0.ln) ?_;refine qr (zgv Tryz.underlying3 Tryz.underlying5 rfl (i8_of _)) ?_;refine qx (E_bs (t:=tB) (vs:=[.i .u8 ((toB8 (x20.ids.length:Int)).toNat:Int)]) (xs:=[(toB8 (x20.ids.length:Int))]) Tryz.underlying47 Ty.row5 rfl ⟨rfl,trivial⟩ rfl rfl hS29) ?_;rintro u31 w31 hS31;refine qh 2 hb37 hS31 ?_;refine ql (zqw hS31.good hr32) ?_;rintro ur32_0 w38 ⟨Fr32,_,rfl,hT38⟩;have hS38:=hS31.call hT38;have ler32:=hT38.ext;refine Nxt.frz (HB.le (HB.cons 3 hb37 hS38 rfl HB.nil) ler32) (HB.agree (HB.cons 3 hb37 hS38 rfl HB.nil) hS38.agree) ?_;refine qx (zgg (t:=tB) 4 Tryz.underlying47 Ty.row5 Ty.zk47 rfl rfl hS38 rfl (hS38.rowSrc (k:=0) rfl) hl33) ?_;rintro v34 w34 hS34;refine qh 3 hb37 hS34 ?_;refine qx (zgg (t:=tB) 4 Tryz.underlying47 Ty.row5 Ty.zk47 rfl rfl hS34 rfl (hS34.rowSrc (k:=1) rfl) hl35) ?_;rintro v36 w36 hS36;refine qh 3 hb37 hS36 ?_;refine qm ?_;refine qsm ?_;refine zar ?_;refine zbm (fun (s:Int × (List UInt8)) E wq=>∃ (F39:Frz) (u42:Val),E=[(1,pl g1 0),(3,u42),(4,.i .i64 i12),(5,pl g22 0),(6,.i .i64 s.1)]∧Fr32.le F39∧St [] w F F39 [.box g22 [.s x20.path,.i .i64 x20.size,ue21_0],.row tB u42 s.2,.box g1 [.s x0.name,v0_0]] wq) H ?_ ?_
     ·exact ⟨_,⟨Fr32,v36,rfl,(Frz.le.refl _),hS36.pick [3,4,5] (by decide)⟩,⟨rfl,rfl,rfl,rfl,rfl,trivial⟩⟩
     ·rintro rec43 ⟨i40,l41⟩ E w39 hI H
      try dsimp only at hI
      obtain ⟨F39,u42,rfl,le39,hS39⟩:=hI;dsimp only [zas.l4] at H;refine zay ?_;refine qsc ?_;refine qf Ty.zfk ?_;refine qb 0 Ty.zkt hS39 ?_;refine qr (zbs Tryz.underlying118 rfl hue21_0.ln) ?_;refine qr (zah rfl rfl zbp) ?_;refine qn ?_;refine qy H (fun hc44 H=>?_) (fun hc44 H=>?_)
      ·refine qk ?_;refine zay ?_;refine zar ?_;obtain ⟨x45,hx45,l48,hl48,H⟩:=bd2 H;refine qd ?_;refine qc ?_;refine qf Ty.zfk ?_;refine qb 0 Ty.zkt hS39 ?_;refine qc ?_;obtain ⟨hp50,hy50⟩:=zac hx45;obtain ⟨cs50,hr50,he50⟩:=(hue21_0.mono (ler32.trans le39)).el hy50;obtain ⟨rfl,hle46⟩:=hr50;replace he50:=qj 32 he50;have hi50:=he50.ixd;refine qi Tryz.underlying118 Ty.zcy hi50 hp50 ?_;refine W_slE (f:=0) rfl rfl rfl rfl Tryz.underlying58 Ty.zjw rfl he50 (by omega) hle46 rfl ?_;intro q47 hv47;refine xm (zgg (t:=tB) 1 Tryz.underlying47 Ty.row5 Ty.zk47 rfl rfl hS39 rfl (hv47.src hS39.agree) hl48) ?_;rintro v49 w49 hS49;refine qc ?_;refine zbk ?_;refine zbf ?_;refine zcl ?_;refine qd ?_;refine q3 ?_;refine zbk ?_;exact zbd (wr (i40+1),l48) _ H ⟨F39,v49,rfl,le39,hS49⟩ ⟨rfl,rfl,rfl,rfl,rfl,trivial⟩
      ·refine zcc _ rfl ?_;refine zbf ?_;exact zbe _ ⟨l41,H,⟨F39,u42,rfl,(ler32.trans le39),hS39.pick [1,2] (by decide)⟩⟩ ⟨rfl,rfl,rfl,trivial⟩
    ·rintro E w17 ⟨l18,H,F17,u19,rfl,le17,hS17⟩;dsimp only [zas.k3] at H;refine qd ?_;refine q3 ?_;refine zbk ?_;exact zbd (wr (i12+1),l18) _ H ⟨F17,u19,rfl,(le11.trans le17),hS17⟩ ⟨rfl,rfl,rfl,trivial⟩
   ·refine zcc _ rfl ?_;exact zbe _ ⟨l13,H,⟨F11,u14,rfl,le11,hS11.pick [0] (by decide)⟩⟩ ⟨rfl,trivial⟩
 ·rintro E w8 ⟨l9,H,F8,u10,rfl,le8,hS8⟩;dsimp only [zas.k1] at H;refine qsc ?_;refine qm ?_;obtain rfl:=oi H;refine qt ?_;exact ⟨F8,u10,rfl,hS8⟩
def zcj.k1 (x1:Int) (r1:Manifest × (List (List UInt8)) × Int) (l9:List Found):Option ((List Found) × Bool) :=
  bd (zas r1.1) fun r12 =>
  bd (app (α:=Found) l9 [(Found.mk (Record.mk 2 x1 r12) (Loc.mk 0 2 0 (wr (13+(r12.length:Int)))))]) fun l15 =>
  some (l15,true)
def zcj.l2 (x1:Int) (r1:Manifest × (List (List UInt8)) × Int) (rec25:((List Found) × Int)→Option ((List Found) × Bool)):((List Found) × Int)→Option ((List Found) × Bool)
  | (l21,i24) =>
    if decide (i24 < (r1.2.1.length:Int)) then
      bd (ix r1.2.1 i24) fun x27 =>
      bd (app (α:=Found) l21 [(Found.mk (Record.mk 1 0 x27) (Loc.mk 0 1 (wr (100*i24)) (wr (13+(x27.length:Int)))))]) fun l30 =>
      rec25 (l30,wr (i24+1))
    else
      zcj.k1 x1 r1 l21
def zcj (x0:List UInt8) (x1:Int) (x2:List File):Option ((List Found) × Bool) :=
  bd (zan x0 x2) fun r1 =>
  if decide (r1.2.2≠0) then
    some ([],false)
  else
    loop (zcj.l2 x1 r1) ([],0)
theorem zpl {x0:List UInt8} {x1:Int} {x2:List File} {r:(List Found) × Bool} {v2:Val} (hA:Gd F w) (h2:SlF File.t F v2 x2) (H:zcj x0 x1 x2=some r):Ret Tryz.prog K 10 [.s x0,.i .i64 x1,v2] w fun v w'=>∃ (F':Frz) (q0:Val),v = .tup [q0,.b r.2]∧St [] w F F' [.row Found.t q0 (r.1)] w':=by
 refine qa3 Tryz.func10 ?_;have hS:=St.start hA;dsimp only [zcj] at H;refine qsc ?_;refine qm ?_;obtain ⟨r1,hr1,H⟩:=zap H;refine qs ?_;refine q2 ?_;refine lm (zog hS.good h2 hr1) ?_;rintro v3 w3 ⟨Fr1,ur1_0_0,ur1_1,rfl,hfr1_0_0,hT3⟩;have hS3:=hS.call hT3;have ler1:=hT3.ext;refine q4 ?_;refine xm (zft (cs:=[.s [],.sl none 0 (.k 0)]) Ty.zup rfl hS3) ?_;rintro _ w2 ⟨g2,rfl,hS2⟩;refine um (zea (c:=[.s r1.1.name,ur1_0_0]) 0 ([.s r1.1.name,ur1_0_0]) rfl rfl hS2 rfl rfl Ty.zgy (by simp only [List.all_cons,List.all_nil,List.all_append,hfr1_0_0.ln.one];rfl) rfl rfl) ?_;rintro _ w4 hS4;refine qc ?_;refine qm ?_;refine zay ?_;refine qsc ?_;refine qr (zah rfl rfl zeb) ?_;refine qn ?_;refine qy H (fun hc5 H=>?_) (fun hc5 H=>?_)
 ·refine qsc ?_;refine qm ?_;have hS7:=hS4.nilRow Found.t;obtain rfl:=oi H;refine qt ?_;exact ⟨Fr1,(.sl none 0 (.k 0)),rfl,hS7.pick [0] (by decide)⟩
 ·refine qk ?_;refine qsm ?_;refine zai (fun E wq=>∃ l9:List Found,zcj.k1 x1 r1 l9=some r ∧ ∃ (F8:Frz) (u10:Val),E=[(1,.i .i64 x1),(8,pl g2 0),(11,u10)]∧Fr1.le F8∧St [] w F F8 [.box g2 [.s r1.1.name,ur1_0_0],.row Found.t u10 l9] wq) ?_ ?_
  ·refine qsm ?_;refine zar ?_;refine zbm (fun (s:(List Found) × Int) E wq=>∃ (F20:Frz) (u22:Val),E=[(1,.i .i64 x1),(8,pl g2 0),(9,ur1_1),(11,u22),(12,.i .i64 s.2)]∧Fr1.le F20∧St [] w F F20 [.box g2 [.s r1.1.name,ur1_0_0],.row (tSl tB) ur1_1 r1.2.1,.row Found.t u22 s.1] wq) H ?_ ?_
   ·have hS36:=hS4.nilRow Found.t;exact ⟨_,⟨Fr1,(.sl none 0 (.k 0)),rfl,(Frz.le.refl _),hS36.pick [1,2,0] (by decide)⟩,⟨rfl,rfl,rfl,rfl,rfl,trivial⟩⟩
   ·rintro rec25 ⟨l21,i24⟩ E w20 hI H
    try dsimp only at hI
    obtain ⟨F20,u22,rfl,le20,hS20⟩:=hI;dsimp only [zcj.l2] at H;refine zay ?_;refine qs ?_;refine q2 ?_;refine qr (zbs Tryz.underlying95 rfl (hS20.rowLn (k:=1) rfl)) ?_;refine qr (zah rfl rfl zbp) ?_;refine qn ?_;refine qy H (fun hc26 H=>?_) (fun hc26 H=>?_)
    ·refine qk ?_;refine zay ?_;refine zar ?_;obtain ⟨x27,hx27,l30,hl30,H⟩:=bd2 H;refine zaz (G:=F20) [0,1,2,3,4,5,6,7,8,9,10,11,12,13,14,15,16,17,18] rfl Ty.mixed (by kernel_rfl) hS20.agree ?_;refine q3 ?_;obtain ⟨hp32,hy32⟩:=zac hx27;obtain ⟨cs32,hr32,he32⟩:=hS20.rowAt (k:=1) rfl hy32;obtain ⟨ue28,rfl,hue28⟩:=hr32;replace he32:=qj 1 he32;have hi32:=he32.ixd;refine qi Tryz.underlying95 Ty.zqm hi32 hp32 ?_;refine qq (zfs 0 Ty.zhg rfl he32 (by omega) rfl) ?_;have hcl33:=hue28.ln.cells;refine qr (zmn (vs:=[(0,.i .i64 1),(2,ue28)]) (v:=.agg (Record.cells (Record.mk 1 0 x27) ue28)) Ty.bld49 rfl (by simp only [zly,hcl33];rfl)) ?_;refine q4 ?_;refine qi Tryz.underlying95 Ty.zqm hi32 hp32 ?_;refine qq (zfs 0 Ty.zhg rfl he32 (by omega) rfl) ?_;refine qr (zbs Tryz.underlying47 rfl hue28.ln) ?_;refine qc ?_;refine W_c (v:=.agg (Loc.cells (Loc.mk 0 1 (wr (100*i24)) (wr (13+(x27.length:Int)))))) rfl rfl rfl rfl (fun _=>rfl) ?_;have hcl34:=hue28.ln.cells;refine qr (zmn (vs:=[(0,.agg (Record.cells (Record.mk 1 0 x27) ue28)),(1,.agg (Loc.cells (Loc.mk 0 1 (wr (100*i24)) (wr (13+(x27.length:Int))))))]) (v:=.agg (Found.cells (Found.mk (Record.mk 1 0 x27) (Loc.mk 0 1 (wr (100*i24)) (wr (13+(x27.length:Int))))) ue28)) Ty.bld53 rfl (by simp only [zly,hcl34];rfl)) ?_;refine qx (E_bs (t:=Found.t) (vs:=[.agg (Found.cells (Found.mk (Record.mk 1 0 x27) (Loc.mk 0 1 (wr (100*i24)) (wr (13+(x27.length:Int))))) ue28)]) (xs:=[(Found.mk (Record.mk 1 0 x27) (Loc.mk 0 1 (wr (100*i24)) (wr (13+(x27.length:Int)))))]) Tryz.underlying27 Ty.zwq rfl ⟨⟨ue28,rfl,hue28⟩,trivial⟩ rfl rfl hS20) ?_;rintro u29 w29 hS29;refine qw hS29 ?_;refine qx (zgg (t:=Found.t) 3 Tryz.underlying27 Ty.zwq Ty.zk27 rfl rfl hS29 rfl (hS29.rowSrc (k:=0) rfl) hl30) ?_;rintro v31 w31 hS31;refine qw hS31 ?_;refine qc ?_;refine zbk ?_;refine zbf ?_;refine zcl ?_;refine qd ?_;refine q3 ?_;refine zbk ?_;exact zbd (l30,wr (i24+1)) _ H ⟨F20,v31,rfl,le20,hS31.pick [1,2,3] (by decide)⟩ ⟨rfl,rfl,rfl,rfl,rfl,trivial⟩
    ·refine zcc _ rfl ?_;exact zbe _ ⟨l21,H,⟨F20,u22,rfl,le20,hS20.pick [0,2] (by decide)⟩⟩ ⟨rfl,rfl,rfl,trivial⟩
  ·rintro E w8 ⟨l9,H,F8,u10,rfl,le8,hS8⟩;dsimp only [zcj.k1] at H;obtain ⟨r12,hr12,H⟩:=zap H;refine qs ?_;refine qr (zde 0 (Manifest.cells r1.1 ur1_0_0) Ty.zpq Ty.zgy (Nat.zero_lt_succ _) rfl hS8 rfl (fun q u h=>zdb (post:=[]) rfl h)) ?_;refine lm (zkn hS8.good (hfr1_0_0.mono le8) hr12) ?_;rintro ur12_0 w13 ⟨Fr12,_,rfl,hT13⟩;have hS13:=hS8.call hT13;have ler12:=hT13.ext;refine qm ?_;obtain ⟨l15,hl15,H⟩:=zap H;refine qs ?_;refine q3 ?_;have hcl17:=(hS13.rowLn (k:=0) rfl).cells;refine qr (zmn (vs:=[(0,.i .i64 2),(1,.i .i64 x1),(2,ur12_0)]) (v:=.agg (Record.cells (Record.mk 2 x1 r12) ur12_0)) Ty.bld49 rfl (by simp only [zly,hcl17];rfl)) ?_;refine qc ?_;refine qr (zbs Tryz.underlying47 rfl (hS13.rowLn (k:=0) rfl)) ?_;refine qc ?_;refine W_c (v:=.agg (Loc.cells (Loc.mk 0 2 0 (wr (13+(r12.length:Int)))))) rfl rfl rfl rfl (fun _=>rfl) ?_;have hcl18:=(hS13.rowLn (k:=0) rfl).cells;refine qr (zmn (vs:=[(0,.agg (Record.cells (Record.mk 2 x1 r12) ur12_0)),(1,.agg (Loc.cells (Loc.mk 0 2 0 (wr (13+(r12.length:Int))))))]) (v:=.agg (Found.cells (Found.mk (Record.mk 2 x1 r12) (Loc.mk 0 2 0 (wr (13+(r12.length:Int))))) ur12_0)) Ty.bld53 rfl (by simp only [zly,hcl18];rfl)) ?_;obtain ⟨F19,le19,hf19,hS19⟩:=hS13.freezeR 0 [1,2] rfl (by decide) (by decide);refine xm (E_bs (t:=Found.t) (vs:=[.agg (Found.cells (Found.mk (Record.mk 2 x1 r12) (Loc.mk 0 2 0 (wr (13+(r12.length:Int))))) ur12_0)]) (xs:=[(Found.mk (Record.mk 2 x1 r12) (Loc.mk 0 2 0 (wr (13+(r12.length:Int)))))]) Tryz.underlying27 Ty.zwq rfl ⟨⟨ur12_0,rfl,hf19⟩,trivial⟩ rfl rfl hS19) ?_;rintro u14 w14 hS14;refine xm (zgg (t:=Found.t) 2 Tryz.underlying27 Ty.zwq Ty.zk27 rfl rfl hS14 rfl (hS14.rowSrc (k:=0) rfl) hl15) ?_;rintro v16 w16 hS16;refine qc ?_;refine qm ?_;obtain rfl:=oi H;refine qt ?_;exact ⟨F19,v16,rfl,hS16.pick [2] (by decide)⟩
end
end Go.Wk.Lf
end
section
namespace Go.Wk.Lf
open Go.V Go.Proofs
open Go.V Go.Proofs Go.Sort
abbrev KK:Tb:=fun f args h M=>KSort Tryz.prog KNone 99 4 f args h M∨KSort Tryz.prog (KExt Tryz.prog) 168 32 f args h M∨KExt Tryz.prog f args h M∨KLap Tryz.prog f args h M∨ztk Tryz.prog (KLap Tryz.prog) 86 f args h M∨ztk Tryz.prog (KLap Tryz.prog) 91 f args h M∨ztk Tryz.prog (KLap Tryz.prog) 95 f args h M
instance : Kn (KExt Tryz.prog) KK := ⟨fun _ _ _ _ h => .inr (.inr (.inl h))⟩
theorem kk_lap:∀ f args h M,KLap Tryz.prog f args h M→KK f args h M:=fun _ _ _ _ h=>.inr (.inr (.inr (.inl h)))
theorem zyq:∀ args h M,ztk Tryz.prog (KLap Tryz.prog) 86 86 args h M→KK 86 args h M:=fun _ _ _ h=>.inr (.inr (.inr (.inr (.inl h))))
theorem kk_closeSnap:∀ args h M,ztk Tryz.prog (KLap Tryz.prog) 91 91 args h M→KK 91 args h M:=fun _ _ _ h=>.inr (.inr (.inr (.inr (.inr (.inl h)))))
theorem kk_closeExp:∀ args h M,ztk Tryz.prog (KLap Tryz.prog) 95 95 args h M→KK 95 args h M:=fun _ _ _ h=>.inr (.inr (.inr (.inr (.inr (.inr h)))))
def zji (a b:Loc):Int:=orI [cmpI a.vol b.vol,cmpI a.file b.file,cmpI a.off b.off,cmpI a.len b.len]
theorem zxj (a b:Int):zdx a b=some (cmpI a b):=by
 simp only [zdx,zjq,bd,cmpI]
 simp only [ne_eq,not_true_eq_false,decide_false,Bool.false_eq_true,if_false,decide_eq_true_eq]
 split <;> (try split) <;> rfl
theorem or_eq (xs:List Int) (h:xs.length≤1073741824):zfp xs=some (orI xs):=by
 have key:∀ (m i:Nat),i≤xs.length→xs.length - i < m→iter (zfp.l2 xs) m (i:Int)=some (orI (xs.drop i)):=by
  intro m
  induction m with
  | zero=>intro i _ h;omega
  | succ m ih =>
   intro i hi hm;rw [iter]
   simp only [zfp.l2,zfp.k1,decide_eq_true_eq]
   by_cases hn:i < xs.length
   ·have hw:wr ((i:Int)+1)=((i+1:Nat):Int):=by
     have:=zxs (x:=(i:Int)+1) (n:=i+1) (by omega) (by omega);exact this
    have hix:ix xs (i:Int)=some xs[i]:=by
     unfold ix
     simp [hn]
    rw [if_pos (by omega),hix]
    simp only [bd]
    rw [hw,List.drop_eq_getElem_cons hn]
    simp only [orI]
    by_cases h0:xs[i]=0
    ·rw [if_neg (by simp [h0]),if_neg (by simp [h0])]
     exact ih (i+1) (by omega) (by omega)
    ·rw [if_pos (by simp [h0]),if_pos h0]
   ·rw [if_neg (by omega),List.drop_eq_nil_of_le (by omega)];rfl
 have:=key 18446744073709551616 0 (Nat.zero_le _) (by omega);exact this
theorem order_eq (a b:Loc):zpu a b=some (zji a b):=by
 simp only [zpu,zxj,bd]
 rw [or_eq _ (by simp)];rfl
theorem zrs (a b:Loc):zji a b < 0 ↔ a.vol < b.vol∨a.vol=b.vol∧(a.file < b.file∨a.file=b.file∧(a.off < b.off∨a.off=b.off∧a.len < b.len)):=by
 simp only [zji,orI,cmpI]
 repeat' split
 all_goals omega
theorem lt_loc (a b:Loc):ltOf zji a b=decide (zji a b < 0):=rfl
theorem ordLoc_swo:SWO (ltOf zji) where
 irrefl x:=by simp only [lt_loc,decide_eq_false_iff_not,zrs];omega
 trans x y z h1 h2:=by simp only [lt_loc,decide_eq_true_eq,zrs] at *;omega
 ntrans x y z h1 h2:=by simp only [lt_loc,decide_eq_false_iff_not,zrs] at *;omega
theorem loc_ext {a b:Loc} (h1:a.vol=b.vol) (h2:a.file=b.file) (h3:a.off=b.off) (h4:a.len=b.len):a=b:=by cases a;cases b;simp_all
theorem ordLoc_tot (x y:Loc) (h1:ltOf zji x y=false) (h2:ltOf zji y x=false):x=y:=by
 simp only [lt_loc,decide_eq_false_iff_not,zrs] at h1 h2
 exact loc_ext (by omega) (by omega) (by omega) (by omega)
theorem iorder_eq (a b:List UInt8):zmk a b=some (cmpT a b):=rfl
theorem cmpT_swo:SWO (ltOf cmpT):=swo_of (f:=fun x=>x) fun _ _=>zwe _ _
theorem cmpT_tot (x y:List UInt8) (h1:ltOf cmpT x y=false) (h2:ltOf cmpT y x=false):x=y:=by
 rw [zwe] at h1 h2;exact zuz h1 h2
theorem sort_none99 (a:Option (Nat × Nat)) (k:Cap) (w:Hp):Ret Tryz.prog KK 99 [.sl a 0 k,.f 100 []] w fun u w'=>u = .tup []∧w' = w :=
 XW.mono (evJ_sound 100 _ (.call (.tup []) w) (by kernel_rfl)) fun o e=>⟨_,_,e,rfl,rfl⟩
theorem sort_none168 (a:Option (Nat × Nat)) (k:Cap) (w:Hp):Ret Tryz.prog KK 168 [.sl a 0 k,.f 169 []] w fun u w'=>u = .tup []∧w' = w :=
 XW.mono (evJ_sound 100 _ (.call (.tup []) w) (by kernel_rfl)) fun o e=>⟨_,_,e,rfl,rfl⟩
theorem sortLoc_ok {F:Frz} {w:Hp} {v:Val} {xs r:List Loc} (hS:St v.own w F F [.row Loc.t v xs] w) (H:sortM zji xs=some r):Ret Tryz.prog KK 99 [v,.f 100 []] w fun u w'=>∃ F',u = .tup []∧St v.own w F F' [.row Loc.t v r] w' :=
 sort_flat (K0:=KNone) (fun _ _ _ h=>.inl h) rfl ordLoc_swo ordLoc_tot Tryz.func100 rfl (by decide) sort_none99 (fun G h' cs x ds y hG hx hy=>by
  obtain rfl:=hx
  obtain rfl:=hy
  exact (zyc hG (order_eq x y)).mono fun v w' ⟨F',e,_⟩=>e) hS H
theorem sortIds_ok {F:Frz} {w:Hp} {v:Val} {xs r:List (List UInt8)} (hS:St v.own w F F [.row tId v xs] w) (H:sortM cmpT xs=some r):Ret Tryz.prog KK 168 [v,.f 169 []] w fun u w'=>∃ F',u = .tup []∧St v.own w F F' [.row tId v r] w' :=
 sort_flat (K0:=KExt Tryz.prog) (fun _ _ _ h=>.inr (.inl h)) rfl cmpT_swo cmpT_tot Tryz.func169 rfl (by decide) sort_none168 (fun G h' cs x ds y hG hx hy=>by
  obtain ⟨rfl,hx⟩:=hx
  obtain ⟨rfl,hy⟩:=hy
  exact (zsn hG hx hy (iorder_eq x y)).mono fun v w' ⟨F',e,_⟩=>e) hS H
set_option maxRecDepth 100000 in
theorem insKChunk {K:Tb} (hL:∀ f args h M,KLap Tryz.prog f args h M→K f args h M) {h:Hp} {b n m i vb y:Nat} {ck:Cap} {c d:List Val} (hW:Wf h) (hb:b < h.next) (hg:h.get b=some (.cells 35 c)) (hv:h.get vb=some (.cells 35 d)) (hne:vb≠b) (hi:i < n) (hnm:n≤m) (hcm:c.length=m*35) (hy:0 < y) (hyd:y*35≤d.length) (hc1:c.all Val.one=true) (hd1:d.all Val.one=true) (hbig:n+y≤2 ^ 30) (hvb:vb < h.next) :
  Ret Tryz.prog K 86 [.sl (some (b,0)) n (.k m),.i .i64 (i:Int),.sl (some (vb,0)) y ck] h (InsR 35 h b i n y c d):=by
 have hyd':d.drop 0=d:=List.drop_zero;have hge:h.get h.next=none:=hW _ (Nat.le_refl _);refine qa3 Tryz.func86 ?_;refine qsm ?_;refine qs ?_;refine q2 ?_;refine W_c rfl rfl rfl rfl (zlf i n Tryz.underlying35 Ty.zep rfl (.inr ⟨_,_,rfl,rfl⟩) (.inl ⟨rfl,rfl⟩) (Nat.le_of_lt hi) hnm (Nat.lt_of_lt_of_le hi hnm)) ?_;refine qn ?_;refine qsc ?_;refine qr (zbs Tryz.underlying35 rfl (.inr ⟨_,_,rfl,fun q=>by cases q⟩)) ?_;refine qm ?_;refine zay ?_;refine qsc ?_;refine qr (zah rfl rfl zeg) ?_;refine qn ?_;refine zib rfl (fun hc=>absurd (of_decide_eq_true hc) (by omega)) (fun _=>?_);refine qk ?_;refine qsc ?_;refine qr (zbs Tryz.underlying35 rfl (.inr ⟨_,_,rfl,fun q=>by cases q⟩)) ?_;refine qm ?_;refine zay ?_;refine qs ?_;refine q2 ?_;refine qr (zah rfl rfl zeg) ?_;refine qn ?_;refine zib rfl (fun hc=>absurd (of_decide_eq_true hc) (by omega)) (fun _=>?_);refine qk ?_;refine zay ?_;refine qs ?_;refine q2 ?_;refine qr (zah rfl rfl (zhw (a:=n) (b:=y) (by omega))) ?_;refine qc ?_;refine W_c (v:=.i .i64 (m:Int)) rfl rfl rfl rfl (fun h=>by simp only [opAt,List.getD_cons_succ,List.getD_cons_zero,opL,evLL,List.mapM_cons,List.mapM_nil,evLO,look];rfl) ?_;refine qr (zah rfl rfl zgn) ?_;refine qn ?_;refine zib rfl (fun hc=>?_) (fun hc=>?_)
 ·have hroom:m < n+y:=by have:=of_decide_eq_true hc;omega
  refine qs ?_;refine q2 ?_;refine W_c rfl rfl rfl rfl (zlf 0 i Tryz.underlying35 Ty.zep rfl (.inl ⟨rfl,rfl⟩) (.inr ⟨_,_,rfl,rfl⟩) (Nat.zero_le _) (by omega) (by omega)) ?_;refine q2 ?_;refine qr (zah rfl rfl (zhw (a:=n) (b:=y) (by omega))) ?_;refine qc ?_;refine qr (zah rfl rfl (bI_subN (a:=n+y) (b:=i) (by omega) (by omega))) ?_;refine xm (E_apK (N:=n+y - i) (c:=c) Tryz.underlying35 Ty.row60 (by kernel_rfl) rfl rfl (by omega) (by omega) (by omega) (by omega) hg (by rw [hcm];simp only [Nat.zero_mul,Nat.add_zero,Nat.zero_add,Nat.sub_zero];exact Nat.mul_le_mul_right _ (by omega)) hc1) ?_;rintro _ _ ⟨rfl,zs,hzs,hz1,rfl⟩;refine qc ?_;refine zbk ?_
  simp only [Nat.zero_mul,Nat.add_zero,Nat.sub_zero]
  have hin:i+(n+y - i)=n+y:=by omega
  rw [hin];have g0:∀ B q,q < h.next→(h.new B).get q=h.get q:=fun B q hq=>by rw [Hp.get_new,if_neg (by omega)]
  have h1g:(h.new (.cells 35 ((c.drop 0).take (i*35)++zs))).get h.next=some (.cells 35 ((c.drop 0).take (i*35)++zs)):=by rw [Hp.get_new,if_pos rfl]
  have e1:(i+y)*35=i*35+y*35:=Nat.add_mul _ _ _;have e2:(n - i)*35=n*35 - i*35:=Nat.sub_mul _ _ _;have e3:(n+y)*35=n*35+y*35:=Nat.add_mul _ _ _;have e4:i*35≤n*35:=Nat.mul_le_mul_right _ (Nat.le_of_lt hi);have e5:n*35≤m*35:=Nat.mul_le_mul_right _ hnm;have e6:(n+y - i)*35=n*35+y*35 - i*35:=by rw [Nat.sub_mul,Nat.add_mul]
  have lD:((d.drop 0).take (y*35)).length=y*35:=by rw [List.length_take,List.length_drop];omega
  have lB:((c.drop 0).take (i*35)++zs).length=(n+y)*35:=by rw [List.length_append,List.length_take,List.length_drop];omega
  have o1:((c.drop 0).take (i*35)++zs).all Val.one=true:=by rw [List.all_append,zhl hc1,hz1];rfl
  refine zcl ?_;refine qs ?_;refine q2 ?_;refine W_c rfl rfl rfl rfl (O_slO i (n+y) Tryz.underlying35 Ty.zep rfl (.inr ⟨_,_,rfl,rfl⟩) (.inl ⟨rfl,rfl⟩) (by omega) (Nat.le_refl _) (by omega)) ?_;refine qc ?_;refine xm (E_cp (m:=y) Tryz.underlying35 Ty.zep rfl rfl (by omega) h1g ((g0 _ _ hvb).trans hv) (by rw [Nat.zero_add];exact hyd) (by rw [lB];omega) hd1 hy) ?_;rintro _ _ rfl;refine zbk ?_;rw [Nat.zero_add];have hl1:=zdq (c:=(c.drop 0).take (i*35)++zs) (o:=i*35) (vs:=(d.drop 0).take (y*35)) (by rw [lD,lB];omega);refine zcl ?_;refine zay ?_;refine zaz (G:=fun _ _=>none) [0,1,2,3,4,5,6,7,8] rfl Ty.mixed (by kernel_rfl) (fun _ _ _ q=>by cases q) ?_;refine q3 ?_;refine qr (zah rfl rfl (zhw (a:=i) (b:=y) (by omega))) ?_;refine W_c rfl rfl rfl rfl (O_slO (i+y) (n+y) Tryz.underlying35 Ty.zep rfl (.inr ⟨_,_,rfl,rfl⟩) (.inl ⟨rfl,rfl⟩) (by omega) (Nat.le_refl _) (by omega)) ?_;refine q2 ?_;refine W_c rfl rfl rfl rfl (zlf i n Tryz.underlying35 Ty.zep rfl (.inr ⟨_,_,rfl,rfl⟩) (.inl ⟨rfl,rfl⟩) (by omega) (by omega) (by omega)) ?_;refine qx (E_cp (m:=n - i) Tryz.underlying35 Ty.zep rfl rfl (by omega) (by rw [Hp.get_set,if_pos rfl]) (by rw [Hp.get_set,if_neg (by omega)];exact (g0 _ _ hb).trans hg) (by rw [Nat.zero_add];omega) (by rw [hl1,lB,Nat.zero_add];omega) hc1 (by omega)) ?_;rintro _ _ rfl;refine Nxt.frz (Frz.le.refl _) (fun _ _ _ q=>by cases q) ?_;refine qn ?_;refine qsc ?_;refine qm ?_;refine qt ?_
  simp only [Nat.zero_add]
  obtain ⟨k1,k2⟩:=ins_new (z:=35) hi hnm hcm hyd hzs;refine ⟨h.next,none,_,rfl,by rw [Hp.get_set,if_pos rfl],by rw [List.take_of_length_le (by rw [k2];omega)];exact k1,fun _=>by rw [k2];exact Nat.le_refl _,fun q e=>(by cases e),ziv (ziv o1 (zhl hd1)) (zhl hc1),Nat.lt_succ_self _,Nat.le_succ _,fun q hq=>?_,fun q hq _=>?_,.inr (Nat.le_refl _)⟩
  ·have hq':h.next+1≤q:=hq
   rw [Hp.get_set,if_neg (by omega),Hp.get_set,if_neg (by omega),Hp.get_new,if_neg (by omega)];exact hW _ (by omega)
  ·rw [Hp.get_set,if_neg (by omega),Hp.get_set,if_neg (by omega)]
   exact g0 _ _ hq
 ·have hroom:n+y≤m:=by have:=of_decide_eq_false hc;omega
  have e1:(i+y)*35=i*35+y*35:=Nat.add_mul _ _ _;have e2:(n - i)*35=n*35 - i*35:=Nat.sub_mul _ _ _;have e3:(n+y)*35=n*35+y*35:=Nat.add_mul _ _ _;have e4:i*35≤n*35:=Nat.mul_le_mul_right _ (Nat.le_of_lt hi);have e5:(n+y)*35≤m*35:=Nat.mul_le_mul_right _ hroom;have e7:n+y - (i+y)=n - i:=by omega
  refine qk ?_;refine qs ?_;refine q3 ?_;refine qr (zah rfl rfl (zhw (a:=n) (b:=y) (by omega))) ?_;refine W_c rfl rfl rfl rfl (zlf 0 (n+y) Tryz.underlying35 Ty.zep rfl (.inl ⟨rfl,rfl⟩) (.inr ⟨_,_,rfl,rfl⟩) (Nat.zero_le _) (by omega) (by omega)) ?_;refine qc ?_;refine zbk ?_
  simp only [Nat.zero_mul,Nat.add_zero,Nat.sub_zero]
  refine zcl ?_;refine zay ?_;refine qs ?_;refine q4 ?_;refine qr (zah rfl rfl (zhw (a:=i) (b:=y) (by omega))) ?_;refine W_c rfl rfl rfl rfl (zlf (i+y) (n+y) Tryz.underlying35 Ty.zep rfl (.inr ⟨_,_,rfl,rfl⟩) (.inl ⟨rfl,rfl⟩) (by omega) (by omega) (by omega)) ?_;refine W_call (f:=136) (args:=[.sl (some (vb,0)) y ck,.sl (some (b,0+(i+y)*35)) (n+y - (i+y)) (.k (m - (i+y)))]) rfl rfl rfl rfl (XW.known (M:=fun v w'=>v = .b false∧w' = h) (hL _ _ _ _ ⟨_,_,4,_,_,_,_,_,_,_,_,_,_,_,_,_,_,Tryz.func136,rfl,rfl,rfl,by kernel_rfl,Tryz.underlying35,Ty.zep,rfl,hne,hv,by decide,by omega,hg,by omega,rfl,rfl⟩) fun v h' q=>⟨v,h',rfl,q⟩) ?_;rintro _ w1 ⟨rfl,hw1⟩;obtain rfl:h=w1:=hw1.symm;refine Nxt.now ?_;refine qm ?_;refine zzo rfl ?_;refine zay ?_;refine zaz (G:=fun _ _=>none) [0,1,2,3,4,5,6,7,8] rfl Ty.mixed (by kernel_rfl) (fun _ _ _ q=>by cases q) ?_;refine q3 ?_;refine qr (zah rfl rfl (zhw (a:=i) (b:=y) (by omega))) ?_;refine W_c rfl rfl rfl rfl (zlf (i+y) (n+y) Tryz.underlying35 Ty.zep rfl (.inr ⟨_,_,rfl,rfl⟩) (.inl ⟨rfl,rfl⟩) (by omega) (by omega) (by omega)) ?_;refine q2 ?_;refine W_c rfl rfl rfl rfl (zlf i (n+y) Tryz.underlying35 Ty.zep rfl (.inr ⟨_,_,rfl,rfl⟩) (.inl ⟨rfl,rfl⟩) (by omega) (by omega) (by omega)) ?_;refine qx (E_cp (m:=n - i) Tryz.underlying35 Ty.zep rfl rfl (by omega) hg hg (by rw [Nat.zero_add];omega) (by rw [Nat.zero_add];omega) hc1 (by omega)) ?_;rintro _ _ rfl;refine Nxt.frz (Frz.le.refl _) (fun _ _ _ q=>by cases q) ?_;refine zbk ?_
  simp only [Nat.zero_add]
  have lA:((c.drop (i*35)).take ((n - i)*35)).length=(n - i)*35:=by rw [List.length_take,List.length_drop];omega
  have hl1:=zdq (c:=c) (o:=(i+y)*35) (vs:=(c.drop (i*35)).take ((n - i)*35)) (by rw [lA];omega);refine zcl ?_;refine qs ?_;refine q2 ?_;refine W_c rfl rfl rfl rfl (zlf i (n+y) Tryz.underlying35 Ty.zep rfl (.inr ⟨_,_,rfl,rfl⟩) (.inl ⟨rfl,rfl⟩) (by omega) (by omega) (by omega)) ?_;refine qc ?_;refine xm (E_cp (m:=y) Tryz.underlying35 Ty.zep rfl rfl (by omega) (by rw [Hp.get_set,if_pos rfl]) (by rw [Hp.get_set,if_neg hne];exact hv) (by rw [Nat.zero_add];exact hyd) (by rw [hl1,Nat.zero_add];omega) hd1 hy) ?_;rintro _ _ rfl;refine qn ?_;refine qsc ?_;refine qm ?_;refine qt ?_
  simp only [Nat.zero_add]
  obtain ⟨k1,k2⟩:=ins_in (z:=35) hi hroom hcm hyd;refine ⟨b,some m,_,rfl,by rw [Hp.get_set,if_pos rfl],k1,fun e=>(by cases e),fun q e=>(by obtain rfl:=oi e;exact ⟨k2,hroom⟩),ziv (ziv hc1 (zhl hc1)) (zhl hd1),hb,Nat.le_refl _,fun q hq=>?_,fun q hq hqb=>?_,.inl rfl⟩
  ·have hq':h.next≤q:=hq
   rw [Hp.get_set,if_neg (by omega),Hp.get_set,if_neg (by omega)];exact hW _ hq'
  ·rw [Hp.get_set,if_neg hqb,Hp.get_set,if_neg hqb]
set_option maxRecDepth 100000 in
theorem insEChunk {K:Tb} {t:To Chunk} {X:List Nat} {h0 h:Hp} {F0 F:Frz} {L:List Ob} {bs bs2:List Nat} {v v2:Val} {xs ys zs:List Chunk} (hts:t.size=35) (hS:St X h0 F0 F (.dp t bs2 v2 ys :: .dp t bs v xs::L) h) (hy:0 < ys.length) (hz:app xs ys=some zs) :
  Ret Tryz.prog K 86 [v,.i .i64 (xs.length:Int),v2] h (fun u h'=>∃ bs',St X h0 F0 F (.dp t bs' u zs::L) h'):=by
 have hfew:=(zqd hz).1;refine qa3 Tryz.func86 ?_;refine qsm ?_;refine qs ?_;refine q2 ?_;refine W_cutD (t:=t) 1 (xs.length:Int) (xs.length:Int) rfl rfl rfl rfl Tryz.underlying35 (by rw [hts];exact Ty.zep) rfl (.inr ⟨_,_,rfl,rfl⟩) (.inl ⟨rfl,rfl⟩) hS rfl (by omega) (by omega) (by omega) ?_;intro v';refine qn ?_;refine qsc ?_;refine qr (zbs Tryz.underlying35 rfl (hS.dpLn (k:=0) rfl)) ?_;refine qm ?_;refine zay ?_;refine qsc ?_;refine qr (zah rfl rfl zeg) ?_;refine qn ?_;refine zib rfl (fun hc=>absurd (of_decide_eq_true hc) (by omega)) (fun _=>?_);refine qk ?_;refine qsc ?_;refine qr (zbs Tryz.underlying35 rfl (hS.dpLn (k:=1) rfl)) ?_;refine qm ?_;refine zay ?_;refine qs ?_;refine q2 ?_;refine qr (zah rfl rfl zeg) ?_;refine qn ?_;refine zib rfl (fun _=>?_) (fun hc=>absurd rfl (of_decide_eq_false hc));refine qs ?_;refine q2 ?_;refine xm (E_appD (t:=t) Tryz.underlying35 (by rw [hts];exact Ty.row60) (by kernel_rfl) rfl rfl hS hz) ?_;rintro u w' ⟨bs',hT⟩;refine qm ?_;refine qt ?_;exact ⟨bs',hT⟩
theorem insChunk_ok {F:Frz} {w:Hp} {X:List Nat} {bs bs2:List Nat} {v v2:Val} {i:Int} {xs ys r:List Chunk} (hS:St X w F F [.dp Chunk.o bs v xs,.dp Chunk.o bs2 v2 ys] w) (H:insD xs i ys=some r) :
  Ret Tryz.prog KK 86 [v,.i .i64 i,v2] w fun u w'=>∃ bs',St X w F F [.dp Chunk.o bs' u r] w' :=
 ins_dp (z:=35) rfl (by decide) (fun hS hy hz=>insEChunk rfl hS hy hz) (insKChunk kk_lap) (insKChunk fun _ _ _ _ q=>q) (zyq) hS H
set_option maxRecDepth 100000 in
theorem insKSnap {K:Tb} (hL:∀ f args h M,KLap Tryz.prog f args h M→K f args h M) {h:Hp} {b n m i vb y:Nat} {ck:Cap} {c d:List Val} (hW:Wf h) (hb:b < h.next) (hg:h.get b=some (.cells 4 c)) (hv:h.get vb=some (.cells 4 d)) (hne:vb≠b) (hi:i < n) (hnm:n≤m) (hcm:c.length=m*4) (hy:0 < y) (hyd:y*4≤d.length) (hc1:c.all Val.one=true) (hd1:d.all Val.one=true) (hbig:n+y≤2 ^ 30) (hvb:vb < h.next) :
  Ret Tryz.prog K 91 [.sl (some (b,0)) n (.k m),.i .i64 (i:Int),.sl (some (vb,0)) y ck] h (InsR 4 h b i n y c d):=by
 have hyd':d.drop 0=d:=List.drop_zero;have hge:h.get h.next=none:=hW _ (Nat.le_refl _);refine qa3 Tryz.func91 ?_;refine qsm ?_;refine qs ?_;refine q2 ?_;refine W_c rfl rfl rfl rfl (zlf i n Tryz.underlying34 Ty.zdl rfl (.inr ⟨_,_,rfl,rfl⟩) (.inl ⟨rfl,rfl⟩) (Nat.le_of_lt hi) hnm (Nat.lt_of_lt_of_le hi hnm)) ?_;refine qn ?_;refine qsc ?_;refine qr (zbs Tryz.underlying34 rfl (.inr ⟨_,_,rfl,fun q=>by cases q⟩)) ?_;refine qm ?_;refine zay ?_;refine qsc ?_;refine qr (zah rfl rfl zeg) ?_;refine qn ?_;refine zib rfl (fun hc=>absurd (of_decide_eq_true hc) (by omega)) (fun _=>?_);refine qk ?_;refine qsc ?_;refine qr (zbs Tryz.underlying34 rfl (.inr ⟨_,_,rfl,fun q=>by cases q⟩)) ?_;refine qm ?_;refine zay ?_;refine qs ?_;refine q2 ?_;refine qr (zah rfl rfl zeg) ?_;refine qn ?_;refine zib rfl (fun hc=>absurd (of_decide_eq_true hc) (by omega)) (fun _=>?_);refine qk ?_;refine zay ?_;refine qs ?_;refine q2 ?_;refine qr (zah rfl rfl (zhw (a:=n) (b:=y) (by omega))) ?_;refine qc ?_;refine W_c (v:=.i .i64 (m:Int)) rfl rfl rfl rfl (fun h=>by simp only [opAt,List.getD_cons_succ,List.getD_cons_zero,opL,evLL,List.mapM_cons,List.mapM_nil,evLO,look];rfl) ?_;refine qr (zah rfl rfl zgn) ?_;refine qn ?_;refine zib rfl (fun hc=>?_) (fun hc=>?_)
 ·have hroom:m < n+y:=by have:=of_decide_eq_true hc;omega
  refine qs ?_;refine q2 ?_;refine W_c rfl rfl rfl rfl (zlf 0 i Tryz.underlying34 Ty.zdl rfl (.inl ⟨rfl,rfl⟩) (.inr ⟨_,_,rfl,rfl⟩) (Nat.zero_le _) (by omega) (by omega)) ?_;refine q2 ?_;refine qr (zah rfl rfl (zhw (a:=n) (b:=y) (by omega))) ?_;refine qc ?_;refine qr (zah rfl rfl (bI_subN (a:=n+y) (b:=i) (by omega) (by omega))) ?_;refine xm (E_apK (N:=n+y - i) (c:=c) Tryz.underlying34 Ty.row46 (by kernel_rfl) rfl rfl (by omega) (by omega) (by omega) (by omega) hg (by rw [hcm];simp only [Nat.zero_mul,Nat.add_zero,Nat.zero_add,Nat.sub_zero];exact Nat.mul_le_mul_right _ (by omega)) hc1) ?_;rintro _ _ ⟨rfl,zs,hzs,hz1,rfl⟩;refine qc ?_;refine zbk ?_
  simp only [Nat.zero_mul,Nat.add_zero,Nat.sub_zero]
  have hin:i+(n+y - i)=n+y:=by omega
  rw [hin];have g0:∀ B q,q < h.next→(h.new B).get q=h.get q:=fun B q hq=>by rw [Hp.get_new,if_neg (by omega)]
  have h1g:(h.new (.cells 4 ((c.drop 0).take (i*4)++zs))).get h.next=some (.cells 4 ((c.drop 0).take (i*4)++zs)):=by rw [Hp.get_new,if_pos rfl]
  have e1:(i+y)*4=i*4+y*4:=Nat.add_mul _ _ _;have e2:(n - i)*4=n*4 - i*4:=Nat.sub_mul _ _ _;have e3:(n+y)*4=n*4+y*4:=Nat.add_mul _ _ _;have e4:i*4≤n*4:=Nat.mul_le_mul_right _ (Nat.le_of_lt hi);have e5:n*4≤m*4:=Nat.mul_le_mul_right _ hnm;have e6:(n+y - i)*4=n*4+y*4 - i*4:=by rw [Nat.sub_mul,Nat.add_mul]
  have lD:((d.drop 0).take (y*4)).length=y*4:=by rw [List.length_take,List.length_drop];omega
  have lB:((c.drop 0).take (i*4)++zs).length=(n+y)*4:=by rw [List.length_append,List.length_take,List.length_drop];omega
  have o1:((c.drop 0).take (i*4)++zs).all Val.one=true:=by rw [List.all_append,zhl hc1,hz1];rfl
  refine zcl ?_;refine qs ?_;refine q2 ?_;refine W_c rfl rfl rfl rfl (O_slO i (n+y) Tryz.underlying34 Ty.zdl rfl (.inr ⟨_,_,rfl,rfl⟩) (.inl ⟨rfl,rfl⟩) (by omega) (Nat.le_refl _) (by omega)) ?_;refine qc ?_;refine xm (E_cp (m:=y) Tryz.underlying34 Ty.zdl rfl rfl (by omega) h1g ((g0 _ _ hvb).trans hv) (by rw [Nat.zero_add];exact hyd) (by rw [lB];omega) hd1 hy) ?_;rintro _ _ rfl;refine zbk ?_;rw [Nat.zero_add];have hl1:=zdq (c:=(c.drop 0).take (i*4)++zs) (o:=i*4) (vs:=(d.drop 0).take (y*4)) (by rw [lD,lB];omega);refine zcl ?_;refine zay ?_;refine zaz (G:=fun _ _=>none) [0,1,2,3,4,5,6,7,8] rfl Ty.mixed (by kernel_rfl) (fun _ _ _ q=>by cases q) ?_;refine q3 ?_;refine qr (zah rfl rfl (zhw (a:=i) (b:=y) (by omega))) ?_;refine W_c rfl rfl rfl rfl (O_slO (i+y) (n+y) Tryz.underlying34 Ty.zdl rfl (.inr ⟨_,_,rfl,rfl⟩) (.inl ⟨rfl,rfl⟩) (by omega) (Nat.le_refl _) (by omega)) ?_;refine q2 ?_;refine W_c rfl rfl rfl rfl (zlf i n Tryz.underlying34 Ty.zdl rfl (.inr ⟨_,_,rfl,rfl⟩) (.inl ⟨rfl,rfl⟩) (by omega) (by omega) (by omega)) ?_;refine qx (E_cp (m:=n - i) Tryz.underlying34 Ty.zdl rfl rfl (by omega) (by rw [Hp.get_set,if_pos rfl]) (by rw [Hp.get_set,if_neg (by omega)];exact (g0 _ _ hb).trans hg) (by rw [Nat.zero_add];omega) (by rw [hl1,lB,Nat.zero_add];omega) hc1 (by omega)) ?_;rintro _ _ rfl;refine Nxt.frz (Frz.le.refl _) (fun _ _ _ q=>by cases q) ?_;refine qn ?_;refine qsc ?_;refine qm ?_;refine qt ?_
  simp only [Nat.zero_add]
  obtain ⟨k1,k2⟩:=ins_new (z:=4) hi hnm hcm hyd hzs;refine ⟨h.next,none,_,rfl,by rw [Hp.get_set,if_pos rfl],by rw [List.take_of_length_le (by rw [k2];omega)];exact k1,fun _=>by rw [k2];exact Nat.le_refl _,fun q e=>(by cases e),ziv (ziv o1 (zhl hd1)) (zhl hc1),Nat.lt_succ_self _,Nat.le_succ _,fun q hq=>?_,fun q hq _=>?_,.inr (Nat.le_refl _)⟩
  ·have hq':h.next+1≤q:=hq
   rw [Hp.get_set,if_neg (by omega),Hp.get_set,if_neg (by omega),Hp.get_new,if_neg (by omega)];exact hW _ (by omega)
  ·rw [Hp.get_set,if_neg (by omega),Hp.get_set,if_neg (by omega)]
   exact g0 _ _ hq
 ·have hroom:n+y≤m:=by have:=of_decide_eq_false hc;omega
  have e1:(i+y)*4=i*4+y*4:=Nat.add_mul _ _ _;have e2:(n - i)*4=n*4 - i*4:=Nat.sub_mul _ _ _;have e3:(n+y)*4=n*4+y*4:=Nat.add_mul _ _ _;have e4:i*4≤n*4:=Nat.mul_le_mul_right _ (Nat.le_of_lt hi);have e5:(n+y)*4≤m*4:=Nat.mul_le_mul_right _ hroom;have e7:n+y - (i+y)=n - i:=by omega
  refine qk ?_;refine qs ?_;refine q3 ?_;refine qr (zah rfl rfl (zhw (a:=n) (b:=y) (by omega))) ?_;refine W_c rfl rfl rfl rfl (zlf 0 (n+y) Tryz.underlying34 Ty.zdl rfl (.inl ⟨rfl,rfl⟩) (.inr ⟨_,_,rfl,rfl⟩) (Nat.zero_le _) (by omega) (by omega)) ?_;refine qc ?_;refine zbk ?_
  simp only [Nat.zero_mul,Nat.add_zero,Nat.sub_zero]
  refine zcl ?_;refine zay ?_;refine qs ?_;refine q4 ?_;refine qr (zah rfl rfl (zhw (a:=i) (b:=y) (by omega))) ?_;refine W_c rfl rfl rfl rfl (zlf (i+y) (n+y) Tryz.underlying34 Ty.zdl rfl (.inr ⟨_,_,rfl,rfl⟩) (.inl ⟨rfl,rfl⟩) (by omega) (by omega) (by omega)) ?_;refine W_call (f:=141) (args:=[.sl (some (vb,0)) y ck,.sl (some (b,0+(i+y)*4)) (n+y - (i+y)) (.k (m - (i+y)))]) rfl rfl rfl rfl (XW.known (M:=fun v w'=>v = .b false∧w' = h) (hL _ _ _ _ ⟨_,_,4,_,_,_,_,_,_,_,_,_,_,_,_,_,_,Tryz.func141,rfl,rfl,rfl,by kernel_rfl,Tryz.underlying34,Ty.zdl,rfl,hne,hv,by decide,by omega,hg,by omega,rfl,rfl⟩) fun v h' q=>⟨v,h',rfl,q⟩) ?_;rintro _ w1 ⟨rfl,hw1⟩;obtain rfl:h=w1:=hw1.symm;refine Nxt.now ?_;refine qm ?_;refine zzo rfl ?_;refine zay ?_;refine zaz (G:=fun _ _=>none) [0,1,2,3,4,5,6,7,8] rfl Ty.mixed (by kernel_rfl) (fun _ _ _ q=>by cases q) ?_;refine q3 ?_;refine qr (zah rfl rfl (zhw (a:=i) (b:=y) (by omega))) ?_;refine W_c rfl rfl rfl rfl (zlf (i+y) (n+y) Tryz.underlying34 Ty.zdl rfl (.inr ⟨_,_,rfl,rfl⟩) (.inl ⟨rfl,rfl⟩) (by omega) (by omega) (by omega)) ?_;refine q2 ?_;refine W_c rfl rfl rfl rfl (zlf i (n+y) Tryz.underlying34 Ty.zdl rfl (.inr ⟨_,_,rfl,rfl⟩) (.inl ⟨rfl,rfl⟩) (by omega) (by omega) (by omega)) ?_;refine qx (E_cp (m:=n - i) Tryz.underlying34 Ty.zdl rfl rfl (by omega) hg hg (by rw [Nat.zero_add];omega) (by rw [Nat.zero_add];omega) hc1 (by omega)) ?_;rintro _ _ rfl;refine Nxt.frz (Frz.le.refl _) (fun _ _ _ q=>by cases q) ?_;refine zbk ?_
  simp only [Nat.zero_add]
  have lA:((c.drop (i*4)).take ((n - i)*4)).length=(n - i)*4:=by rw [List.length_take,List.length_drop];omega
  have hl1:=zdq (c:=c) (o:=(i+y)*4) (vs:=(c.drop (i*4)).take ((n - i)*4)) (by rw [lA];omega);refine zcl ?_;refine qs ?_;refine q2 ?_;refine W_c rfl rfl rfl rfl (zlf i (n+y) Tryz.underlying34 Ty.zdl rfl (.inr ⟨_,_,rfl,rfl⟩) (.inl ⟨rfl,rfl⟩) (by omega) (by omega) (by omega)) ?_;refine qc ?_;refine xm (E_cp (m:=y) Tryz.underlying34 Ty.zdl rfl rfl (by omega) (by rw [Hp.get_set,if_pos rfl]) (by rw [Hp.get_set,if_neg hne];exact hv) (by rw [Nat.zero_add];exact hyd) (by rw [hl1,Nat.zero_add];omega) hd1 hy) ?_;rintro _ _ rfl;refine qn ?_;refine qsc ?_;refine qm ?_;refine qt ?_
  simp only [Nat.zero_add]
  obtain ⟨k1,k2⟩:=ins_in (z:=4) hi hroom hcm hyd;refine ⟨b,some m,_,rfl,by rw [Hp.get_set,if_pos rfl],k1,fun e=>(by cases e),fun q e=>(by obtain rfl:=oi e;exact ⟨k2,hroom⟩),ziv (ziv hc1 (zhl hc1)) (zhl hd1),hb,Nat.le_refl _,fun q hq=>?_,fun q hq hqb=>?_,.inl rfl⟩
  ·have hq':h.next≤q:=hq
   rw [Hp.get_set,if_neg (by omega),Hp.get_set,if_neg (by omega)];exact hW _ hq'
  ·rw [Hp.get_set,if_neg hqb,Hp.get_set,if_neg hqb]
set_option maxRecDepth 100000 in
theorem insESnap {K:Tb} {t:To Snap} {X:List Nat} {h0 h:Hp} {F0 F:Frz} {L:List Ob} {bs bs2:List Nat} {v v2:Val} {xs ys zs:List Snap} (hts:t.size=4) (hS:St X h0 F0 F (.dp t bs2 v2 ys :: .dp t bs v xs::L) h) (hy:0 < ys.length) (hz:app xs ys=some zs) :
  Ret Tryz.prog K 91 [v,.i .i64 (xs.length:Int),v2] h (fun u h'=>∃ bs',St X h0 F0 F (.dp t bs' u zs::L) h'):=by
 have hfew:=(zqd hz).1;refine qa3 Tryz.func91 ?_;refine qsm ?_;refine qs ?_;refine q2 ?_;refine W_cutD (t:=t) 1 (xs.length:Int) (xs.length:Int) rfl rfl rfl rfl Tryz.underlying34 (by rw [hts];exact Ty.zdl) rfl (.inr ⟨_,_,rfl,rfl⟩) (.inl ⟨rfl,rfl⟩) hS rfl (by omega) (by omega) (by omega) ?_;intro v';refine qn ?_;refine qsc ?_;refine qr (zbs Tryz.underlying34 rfl (hS.dpLn (k:=0) rfl)) ?_;refine qm ?_;refine zay ?_;refine qsc ?_;refine qr (zah rfl rfl zeg) ?_;refine qn ?_;refine zib rfl (fun hc=>absurd (of_decide_eq_true hc) (by omega)) (fun _=>?_);refine qk ?_;refine qsc ?_;refine qr (zbs Tryz.underlying34 rfl (hS.dpLn (k:=1) rfl)) ?_;refine qm ?_;refine zay ?_;refine qs ?_;refine q2 ?_;refine qr (zah rfl rfl zeg) ?_;refine qn ?_;refine zib rfl (fun _=>?_) (fun hc=>absurd rfl (of_decide_eq_false hc));refine qs ?_;refine q2 ?_;refine xm (E_appD (t:=t) Tryz.underlying34 (by rw [hts];exact Ty.row46) (by kernel_rfl) rfl rfl hS hz) ?_;rintro u w' ⟨bs',hT⟩;refine qm ?_;refine qt ?_;exact ⟨bs',hT⟩
theorem insSnap_ok {F:Frz} {w:Hp} {X:List Nat} {bs bs2:List Nat} {v v2:Val} {i:Int} {xs ys r:List Snap} (hS:St X w F F [.dp Snap.o bs v xs,.dp Snap.o bs2 v2 ys] w) (H:insD xs i ys=some r) :
  Ret Tryz.prog KK 91 [v,.i .i64 i,v2] w fun u w'=>∃ bs',St X w F F [.dp Snap.o bs' u r] w' :=
 ins_dp (z:=4) rfl (by decide) (fun hS hy hz=>insESnap rfl hS hy hz) (insKSnap kk_lap) (insKSnap fun _ _ _ _ q=>q) (kk_closeSnap) hS H
set_option maxRecDepth 100000 in
theorem insKExp {K:Tb} (hL:∀ f args h M,KLap Tryz.prog f args h M→K f args h M) {h:Hp} {b n m i vb y:Nat} {ck:Cap} {c d:List Val} (hW:Wf h) (hb:b < h.next) (hg:h.get b=some (.cells 3 c)) (hv:h.get vb=some (.cells 3 d)) (hne:vb≠b) (hi:i < n) (hnm:n≤m) (hcm:c.length=m*3) (hy:0 < y) (hyd:y*3≤d.length) (hc1:c.all Val.one=true) (hd1:d.all Val.one=true) (hbig:n+y≤2 ^ 30) (hvb:vb < h.next) :
  Ret Tryz.prog K 95 [.sl (some (b,0)) n (.k m),.i .i64 (i:Int),.sl (some (vb,0)) y ck] h (InsR 3 h b i n y c d):=by
 have hyd':d.drop 0=d:=List.drop_zero;have hge:h.get h.next=none:=hW _ (Nat.le_refl _);refine qa3 Tryz.func95 ?_;refine qsm ?_;refine qs ?_;refine q2 ?_;refine W_c rfl rfl rfl rfl (zlf i n Tryz.underlying36 Ty.zfb rfl (.inr ⟨_,_,rfl,rfl⟩) (.inl ⟨rfl,rfl⟩) (Nat.le_of_lt hi) hnm (Nat.lt_of_lt_of_le hi hnm)) ?_;refine qn ?_;refine qsc ?_;refine qr (zbs Tryz.underlying36 rfl (.inr ⟨_,_,rfl,fun q=>by cases q⟩)) ?_;refine qm ?_;refine zay ?_;refine qsc ?_;refine qr (zah rfl rfl zeg) ?_;refine qn ?_;refine zib rfl (fun hc=>absurd (of_decide_eq_true hc) (by omega)) (fun _=>?_);refine qk ?_;refine qsc ?_;refine qr (zbs Tryz.underlying36 rfl (.inr ⟨_,_,rfl,fun q=>by cases q⟩)) ?_;refine qm ?_;refine zay ?_;refine qs ?_;refine q2 ?_;refine qr (zah rfl rfl zeg) ?_;refine qn ?_;refine zib rfl (fun hc=>absurd (of_decide_eq_true hc) (by omega)) (fun _=>?_);refine qk ?_;refine zay ?_;refine qs ?_;refine q2 ?_;refine qr (zah rfl rfl (zhw (a:=n) (b:=y) (by omega))) ?_;refine qc ?_;refine W_c (v:=.i .i64 (m:Int)) rfl rfl rfl rfl (fun h=>by simp only [opAt,List.getD_cons_succ,List.getD_cons_zero,opL,evLL,List.mapM_cons,List.mapM_nil,evLO,look];rfl) ?_;refine qr (zah rfl rfl zgn) ?_;refine qn ?_;refine zib rfl (fun hc=>?_) (fun hc=>?_)
 ·have hroom:m < n+y:=by have:=of_decide_eq_true hc;omega
  refine qs ?_;refine q2 ?_;refine W_c rfl rfl rfl rfl (zlf 0 i Tryz.underlying36 Ty.zfb rfl (.inl ⟨rfl,rfl⟩) (.inr ⟨_,_,rfl,rfl⟩) (Nat.zero_le _) (by omega) (by omega)) ?_;refine q2 ?_;refine qr (zah rfl rfl (zhw (a:=n) (b:=y) (by omega))) ?_;refine qc ?_;refine qr (zah rfl rfl (bI_subN (a:=n+y) (b:=i) (by omega) (by omega))) ?_;refine xm (E_apK (N:=n+y - i) (c:=c) Tryz.underlying36 Ty.row55 (by kernel_rfl) rfl rfl (by omega) (by omega) (by omega) (by omega) hg (by rw [hcm];simp only [Nat.zero_mul,Nat.add_zero,Nat.zero_add,Nat.sub_zero];exact Nat.mul_le_mul_right _ (by omega)) hc1) ?_;rintro _ _ ⟨rfl,zs,hzs,hz1,rfl⟩;refine qc ?_;refine zbk ?_
  simp only [Nat.zero_mul,Nat.add_zero,Nat.sub_zero]
  have hin:i+(n+y - i)=n+y:=by omega
  rw [hin];have g0:∀ B q,q < h.next→(h.new B).get q=h.get q:=fun B q hq=>by rw [Hp.get_new,if_neg (by omega)]
  have h1g:(h.new (.cells 3 ((c.drop 0).take (i*3)++zs))).get h.next=some (.cells 3 ((c.drop 0).take (i*3)++zs)):=by rw [Hp.get_new,if_pos rfl]
  have e1:(i+y)*3=i*3+y*3:=Nat.add_mul _ _ _;have e2:(n - i)*3=n*3 - i*3:=Nat.sub_mul _ _ _;have e3:(n+y)*3=n*3+y*3:=Nat.add_mul _ _ _;have e4:i*3≤n*3:=Nat.mul_le_mul_right _ (Nat.le_of_lt hi);have e5:n*3≤m*3:=Nat.mul_le_mul_right _ hnm;have e6:(n+y - i)*3=n*3+y*3 - i*3:=by rw [Nat.sub_mul,Nat.add_mul]
  have lD:((d.drop 0).take (y*3)).length=y*3:=by rw [List.length_take,List.length_drop];omega
  have lB:((c.drop 0).take (i*3)++zs).length=(n+y)*3:=by rw [List.length_append,List.length_take,List.length_drop];omega
  have o1:((c.drop 0).take (i*3)++zs).all Val.one=true:=by rw [List.all_append,zhl hc1,hz1];rfl
  refine zcl ?_;refine qs ?_;refine q2 ?_;refine W_c rfl rfl rfl rfl (O_slO i (n+y) Tryz.underlying36 Ty.zfb rfl (.inr ⟨_,_,rfl,rfl⟩) (.inl ⟨rfl,rfl⟩) (by omega) (Nat.le_refl _) (by omega)) ?_;refine qc ?_;refine xm (E_cp (m:=y) Tryz.underlying36 Ty.zfb rfl rfl (by omega) h1g ((g0 _ _ hvb).trans hv) (by rw [Nat.zero_add];exact hyd) (by rw [lB];omega) hd1 hy) ?_;rintro _ _ rfl;refine zbk ?_;rw [Nat.zero_add];have hl1:=zdq (c:=(c.drop 0).take (i*3)++zs) (o:=i*3) (vs:=(d.drop 0).take (y*3)) (by rw [lD,lB];omega);refine zcl ?_;refine zay ?_;refine zaz (G:=fun _ _=>none) [0,1,2,3,4,5,6,7,8] rfl Ty.mixed (by kernel_rfl) (fun _ _ _ q=>by cases q) ?_;refine q3 ?_;refine qr (zah rfl rfl (zhw (a:=i) (b:=y) (by omega))) ?_;refine W_c rfl rfl rfl rfl (O_slO (i+y) (n+y) Tryz.underlying36 Ty.zfb rfl (.inr ⟨_,_,rfl,rfl⟩) (.inl ⟨rfl,rfl⟩) (by omega) (Nat.le_refl _) (by omega)) ?_;refine q2 ?_;refine W_c rfl rfl rfl rfl (zlf i n Tryz.underlying36 Ty.zfb rfl (.inr ⟨_,_,rfl,rfl⟩) (.inl ⟨rfl,rfl⟩) (by omega) (by omega) (by omega)) ?_;refine qx (E_cp (m:=n - i) Tryz.underlying36 Ty.zfb rfl rfl (by omega) (by rw [Hp.get_set,if_pos rfl]) (by rw [Hp.get_set,if_neg (by omega)];exact (g0 _ _ hb).trans hg) (by rw [Nat.zero_add];omega) (by rw [hl1,lB,Nat.zero_add];omega) hc1 (by omega)) ?_;rintro _ _ rfl;refine Nxt.frz (Frz.le.refl _) (fun _ _ _ q=>by cases q) ?_;refine qn ?_;refine qsc ?_;refine qm ?_;refine qt ?_
  simp only [Nat.zero_add]
  obtain ⟨k1,k2⟩:=ins_new (z:=3) hi hnm hcm hyd hzs;refine ⟨h.next,none,_,rfl,by rw [Hp.get_set,if_pos rfl],by rw [List.take_of_length_le (by rw [k2];omega)];exact k1,fun _=>by rw [k2];exact Nat.le_refl _,fun q e=>(by cases e),ziv (ziv o1 (zhl hd1)) (zhl hc1),Nat.lt_succ_self _,Nat.le_succ _,fun q hq=>?_,fun q hq _=>?_,.inr (Nat.le_refl _)⟩
  ·have hq':h.next+1≤q:=hq
   rw [Hp.get_set,if_neg (by omega),Hp.get_set,if_neg (by omega),Hp.get_new,if_neg (by omega)];exact hW _ (by omega)
  ·rw [Hp.get_set,if_neg (by omega),Hp.get_set,if_neg (by omega)]
   exact g0 _ _ hq
 ·have hroom:n+y≤m:=by have:=of_decide_eq_false hc;omega
  have e1:(i+y)*3=i*3+y*3:=Nat.add_mul _ _ _;have e2:(n - i)*3=n*3 - i*3:=Nat.sub_mul _ _ _;have e3:(n+y)*3=n*3+y*3:=Nat.add_mul _ _ _;have e4:i*3≤n*3:=Nat.mul_le_mul_right _ (Nat.le_of_lt hi);have e5:(n+y)*3≤m*3:=Nat.mul_le_mul_right _ hroom;have e7:n+y - (i+y)=n - i:=by omega
  refine qk ?_;refine qs ?_;refine q3 ?_;refine qr (zah rfl rfl (zhw (a:=n) (b:=y) (by omega))) ?_;refine W_c rfl rfl rfl rfl (zlf 0 (n+y) Tryz.underlying36 Ty.zfb rfl (.inl ⟨rfl,rfl⟩) (.inr ⟨_,_,rfl,rfl⟩) (Nat.zero_le _) (by omega) (by omega)) ?_;refine qc ?_;refine zbk ?_
  simp only [Nat.zero_mul,Nat.add_zero,Nat.sub_zero]
  refine zcl ?_;refine zay ?_;refine qs ?_;refine q4 ?_;refine qr (zah rfl rfl (zhw (a:=i) (b:=y) (by omega))) ?_;refine W_c rfl rfl rfl rfl (zlf (i+y) (n+y) Tryz.underlying36 Ty.zfb rfl (.inr ⟨_,_,rfl,rfl⟩) (.inl ⟨rfl,rfl⟩) (by omega) (by omega) (by omega)) ?_;refine W_call (f:=143) (args:=[.sl (some (vb,0)) y ck,.sl (some (b,0+(i+y)*3)) (n+y - (i+y)) (.k (m - (i+y)))]) rfl rfl rfl rfl (XW.known (M:=fun v w'=>v = .b false∧w' = h) (hL _ _ _ _ ⟨_,_,4,_,_,_,_,_,_,_,_,_,_,_,_,_,_,Tryz.func143,rfl,rfl,rfl,by kernel_rfl,Tryz.underlying36,Ty.zfb,rfl,hne,hv,by decide,by omega,hg,by omega,rfl,rfl⟩) fun v h' q=>⟨v,h',rfl,q⟩) ?_;rintro _ w1 ⟨rfl,hw1⟩;obtain rfl:h=w1:=hw1.symm;refine Nxt.now ?_;refine qm ?_;refine zzo rfl ?_;refine zay ?_;refine zaz (G:=fun _ _=>none) [0,1,2,3,4,5,6,7,8] rfl Ty.mixed (by kernel_rfl) (fun _ _ _ q=>by cases q) ?_;refine q3 ?_;refine qr (zah rfl rfl (zhw (a:=i) (b:=y) (by omega))) ?_;refine W_c rfl rfl rfl rfl (zlf (i+y) (n+y) Tryz.underlying36 Ty.zfb rfl (.inr ⟨_,_,rfl,rfl⟩) (.inl ⟨rfl,rfl⟩) (by omega) (by omega) (by omega)) ?_;refine q2 ?_;refine W_c rfl rfl rfl rfl (zlf i (n+y) Tryz.underlying36 Ty.zfb rfl (.inr ⟨_,_,rfl,rfl⟩) (.inl ⟨rfl,rfl⟩) (by omega) (by omega) (by omega)) ?_;refine qx (E_cp (m:=n - i) Tryz.underlying36 Ty.zfb rfl rfl (by omega) hg hg (by rw [Nat.zero_add];omega) (by rw [Nat.zero_add];omega) hc1 (by omega)) ?_;rintro _ _ rfl;refine Nxt.frz (Frz.le.refl _) (fun _ _ _ q=>by cases q) ?_;refine zbk ?_
  simp only [Nat.zero_add]
  have lA:((c.drop (i*3)).take ((n - i)*3)).length=(n - i)*3:=by rw [List.length_take,List.length_drop];omega
  have hl1:=zdq (c:=c) (o:=(i+y)*3) (vs:=(c.drop (i*3)).take ((n - i)*3)) (by rw [lA];omega);refine zcl ?_;refine qs ?_;refine q2 ?_;refine W_c rfl rfl rfl rfl (zlf i (n+y) Tryz.underlying36 Ty.zfb rfl (.inr ⟨_,_,rfl,rfl⟩) (.inl ⟨rfl,rfl⟩) (by omega) (by omega) (by omega)) ?_;refine qc ?_;refine xm (E_cp (m:=y) Tryz.underlying36 Ty.zfb rfl rfl (by omega) (by rw [Hp.get_set,if_pos rfl]) (by rw [Hp.get_set,if_neg hne];exact hv) (by rw [Nat.zero_add];exact hyd) (by rw [hl1,Nat.zero_add];omega) hd1 hy) ?_;rintro _ _ rfl;refine qn ?_;refine qsc ?_;refine qm ?_;refine qt ?_
  simp only [Nat.zero_add]
  obtain ⟨k1,k2⟩:=ins_in (z:=3) hi hroom hcm hyd;refine ⟨b,some m,_,rfl,by rw [Hp.get_set,if_pos rfl],k1,fun e=>(by cases e),fun q e=>(by obtain rfl:=oi e;exact ⟨k2,hroom⟩),ziv (ziv hc1 (zhl hc1)) (zhl hd1),hb,Nat.le_refl _,fun q hq=>?_,fun q hq hqb=>?_,.inl rfl⟩
  ·have hq':h.next≤q:=hq
   rw [Hp.get_set,if_neg (by omega),Hp.get_set,if_neg (by omega)];exact hW _ hq'
  ·rw [Hp.get_set,if_neg hqb,Hp.get_set,if_neg hqb]
set_option maxRecDepth 100000 in
theorem insEExp {K:Tb} {t:To Exp} {X:List Nat} {h0 h:Hp} {F0 F:Frz} {L:List Ob} {bs bs2:List Nat} {v v2:Val} {xs ys zs:List Exp} (hts:t.size=3) (hS:St X h0 F0 F (.dp t bs2 v2 ys :: .dp t bs v xs::L) h) (hy:0 < ys.length) (hz:app xs ys=some zs) :
  Ret Tryz.prog K 95 [v,.i .i64 (xs.length:Int),v2] h (fun u h'=>∃ bs',St X h0 F0 F (.dp t bs' u zs::L) h'):=by
 have hfew:=(zqd hz).1;refine qa3 Tryz.func95 ?_;refine qsm ?_;refine qs ?_;refine q2 ?_;refine W_cutD (t:=t) 1 (xs.length:Int) (xs.length:Int) rfl rfl rfl rfl Tryz.underlying36 (by rw [hts];exact Ty.zfb) rfl (.inr ⟨_,_,rfl,rfl⟩) (.inl ⟨rfl,rfl⟩) hS rfl (by omega) (by omega) (by omega) ?_;intro v';refine qn ?_;refine qsc ?_;refine qr (zbs Tryz.underlying36 rfl (hS.dpLn (k:=0) rfl)) ?_;refine qm ?_;refine zay ?_;refine qsc ?_;refine qr (zah rfl rfl zeg) ?_;refine qn ?_;refine zib rfl (fun hc=>absurd (of_decide_eq_true hc) (by omega)) (fun _=>?_);refine qk ?_;refine qsc ?_;refine qr (zbs Tryz.underlying36 rfl (hS.dpLn (k:=1) rfl)) ?_;refine qm ?_;refine zay ?_;refine qs ?_;refine q2 ?_;refine qr (zah rfl rfl zeg) ?_;refine qn ?_;refine zib rfl (fun _=>?_) (fun hc=>absurd rfl (of_decide_eq_false hc));refine qs ?_;refine q2 ?_;refine xm (E_appD (t:=t) Tryz.underlying36 (by rw [hts];exact Ty.row55) (by kernel_rfl) rfl rfl hS hz) ?_;rintro u w' ⟨bs',hT⟩;refine qm ?_;refine qt ?_;exact ⟨bs',hT⟩
theorem insExp_ok {F:Frz} {w:Hp} {X:List Nat} {bs bs2:List Nat} {v v2:Val} {i:Int} {xs ys r:List Exp} (hS:St X w F F [.dp Exp.o bs v xs,.dp Exp.o bs2 v2 ys] w) (H:insD xs i ys=some r) :
  Ret Tryz.prog KK 95 [v,.i .i64 i,v2] w fun u w'=>∃ bs',St X w F F [.dp Exp.o bs' u r] w' :=
 ins_dp (z:=3) rfl (by decide) (fun hS hy hz=>insEExp rfl hS hy hz) (insKExp kk_lap) (insKExp fun _ _ _ _ q=>q) (kk_closeExp) hS H
end Go.Wk.Lf
end
section
namespace Go.Wk.Lf
open Go.V Go.Proofs
noncomputable section
set_option maxRecDepth 100000
variable {K:Tb} {F:Frz} {w:Hp}
def zen.k1 (x0:Catalog) (x1:Found) (r13:Int × Bool) (l16:List Chunk):Option Catalog :=
  bd (ix l16 r13.1) fun x20 =>
  bd (app (α:=Loc) x20.locs [x1.loc]) fun l24 =>
  bd (ix l16 r13.1) fun x26 =>
  some (Catalog.mk x0.seq x0.snaps (l16.set r13.1.toNat (Chunk.mk x26.id x26.staged x26.data l24)) x0.exps x0.vols)
def zen (x0:Catalog) (x1:Found):Option Catalog :=
  if (decide ((x1.rec_.data.length:Int) < 1)||decide (64 < (x1.rec_.data.length:Int))) then
    some x0
  else
    bd (zbl [x1.rec_.data]) fun r9 =>
    bd (zhn x0.chunks r9) fun r13 =>
    if (!r13.2) then
      bd (insD x0.chunks r13.1 [(Chunk.mk r9 false [] [])]) fun l37 =>
      zen.k1 x0 x1 r13 l37
    else
      zen.k1 x0 x1 r13 x0.chunks
theorem ztq {X:List Nat} {x0:Catalog} {x1:Found} {r:Catalog} {gp0:Nat} {v0_1:Val} {bsv0_1:List Nat} {v0_2:Val} {bsv0_2:List Nat} {v0_3:Val} {bsv0_3:List Nat} {v0_4:Val} {v1_0:Val} (hS:St X w F F [.box gp0 [.i .i64 x0.seq,v0_1,v0_2,v0_3,v0_4],.dp Snap.o bsv0_1 v0_1 x0.snaps,.dp Chunk.o bsv0_2 v0_2 x0.chunks,.dp Exp.o bsv0_3 v0_3 x0.exps,.row Vol.t v0_4 x0.vols] w) (h1_0:SlF tB F v1_0 x1.rec_.data) (H:zen x0 x1=some r):Ret Tryz.prog KK 43 [pl gp0 0,.agg (Found.cells x1 v1_0)] w fun v w'=>∃ (F':Frz) (z0_1:Val) (bsz0_1:List Nat) (z0_2:Val) (bsz0_2:List Nat) (z0_3:Val) (bsz0_3:List Nat),v = .tup []∧St X w F F' [.box gp0 [.i .i64 r.seq,z0_1,z0_2,z0_3,v0_4],.dp Snap.o bsz0_1 z0_1 r.snaps,.dp Chunk.o bsz0_2 z0_2 r.chunks,.dp Exp.o bsz0_3 z0_3 r.exps,.row Vol.t v0_4 r.vols] w':=by
 refine qa2 Tryz.func43 ?_;dsimp only [zen] at H;refine qs ?_;refine xm (E_bx (cs:=[.i .i64 x1.rec_.kind,.i .i64 x1.rec_.seq,v1_0,.i .i64 x1.loc.vol,.i .i64 x1.loc.file,.i .i64 x1.loc.off,.i .i64 x1.loc.len]) rfl rfl (by simp only [List.all_cons,List.all_nil,List.all_append,h1_0.ln.one];rfl) hS) ?_;rintro _ w1 ⟨g1,rfl,hS1⟩;refine qn ?_;refine zay ?_;refine qs ?_;refine qf Ty.zhc ?_;refine qf Ty.zng ?_;refine qb 0 Ty.zhg hS1 ?_;refine qr (zbs Tryz.underlying47 rfl h1_0.ln) ?_;refine qr (zah rfl rfl zbp) ?_;refine qc ?_;refine W_gs (v:=pl g1 (0+0)) rfl rfl rfl rfl (fun ⟨hb2,_⟩=>?_) ?_
 ·rw [hb2];exact (qf Ty.zhc ·)
 refine W_gs (v:=pl g1 (0+0+2)) rfl rfl rfl rfl (fun ⟨hb3,_⟩=>?_) ?_
 ·rw [hb3];exact (qf Ty.zng ·)
 refine W_gs (v:=v1_0) rfl rfl rfl rfl (fun ⟨hb4,_⟩=>?_) ?_
 ·rw [hb4];exact (qb 0 Ty.zhg hS1 ·)
 refine W_gs (v:=.i .i64 (x1.rec_.data.length:Int)) rfl rfl rfl rfl (fun ⟨hb5,_⟩=>?_) ?_
 ·rw [hb5];exact (qr (zbs Tryz.underlying47 rfl h1_0.ln) ·)
 refine W_gs (v:=.b (decide (64 < (x1.rec_.data.length:Int)))) rfl rfl rfl rfl (fun ⟨hb6,_⟩=>?_) ?_
 ·rw [hb6];exact (qr (zah rfl rfl zgn) ·)
 refine zgl rfl rfl rfl rfl rfl rfl (fun hc=>by rw [hc];rfl) ?_;refine qn ?_;refine qy H (fun hc7 H=>?_) (fun hc7 H=>?_)
 ·obtain rfl:=oi H;refine qt ?_;exact ⟨F,v0_1,bsv0_1,v0_2,bsv0_2,v0_3,bsv0_3,rfl,hS1.pick [1,2,3,4,5] (by decide)⟩
 ·refine qk ?_;obtain ⟨r9,hr9,H⟩:=zap H;refine qs ?_;refine qf Ty.zhc ?_;refine qf Ty.zng ?_;refine qb 0 Ty.zhg hS1 ?_;refine xm (E_bs (t:=(tSl tB)) (vs:=[v1_0]) (xs:=[x1.rec_.data]) Tryz.underlying95 Ty.row47 rfl (by simp only [List.map_cons,List.map_nil,h1_0.ln.cells];exact ⟨⟨_,rfl,h1_0⟩,trivial⟩) rfl rfl hS1) ?_;rintro u8 w8 hS8;refine lm (sha_Sum_ok (Gd.now hS8.wf) (hS8.rowNow (k:=0) rfl) hr9) ?_;rintro v11 w11 ⟨Fr9,rfl,hlr9_0,hT11⟩;have hS11:=hS8.lentFlat hT11 trivial;refine xm (zft (cs:=zao (List.replicate 32 (0:UInt8))) Ty.zsz rfl hS11) ?_;rintro _ w10 ⟨g10,rfl,hS10⟩;refine um (zea (c:=zao r9) 0 (zao r9) rfl rfl hS10 rfl rfl Ty.zcy rfl rfl rfl) ?_;rintro _ w12 hS12;refine qn ?_;refine zay ?_;obtain ⟨r13,hr13,H⟩:=zap H;refine zaz (G:=F) [0,1,2,3,4,5,6,7,8,9,10] rfl Ty.mixed (by kernel_rfl) hS12.agree ?_;refine q2 ?_;refine qf Ty.zcq ?_;refine qbq 3 Ty.zgd hS12 ?_;refine qq (zde 0 (zao r9) Ty.zhs Ty.zcy (Nat.zero_lt_succ _) rfl hS12 rfl (fun q u h=>zdb (post:=[]) rfl h)) ?_;refine ql (zku (Gd.now hS12.wf) (hS12.dpNow (k:=5) rfl Chunk.sees) hlr9_0 hr13) ?_;rintro v14 w14 ⟨Fr13,rfl,hT14⟩;have hS14:=hS12.lent hT14;refine qw hS14 ?_;refine q4 ?_;refine qm ?_;refine zai (fun E wq=>∃ l16:List Chunk,zen.k1 x0 x1 r13 l16=some r ∧ ∃ (F15:Frz) (u17:Val) (bs19:List Nat),E=[(0,pl gp0 0),(3,pl g1 0),(5,.i .i64 r13.1)]∧F.le F15∧St X w F F15 [.box g1 [.i .i64 x1.rec_.kind,.i .i64 x1.rec_.seq,v1_0,.i .i64 x1.loc.vol,.i .i64 x1.loc.file,.i .i64 x1.loc.off,.i .i64 x1.loc.len],.box gp0 [.i .i64 x0.seq,v0_1,u17,v0_3,v0_4],.dp Snap.o bsv0_1 v0_1 x0.snaps,.dp Exp.o bsv0_3 v0_3 x0.exps,.row Vol.t v0_4 x0.vols,.dp Chunk.o bs19 u17 l16] wq) ?_ ?_
  ·refine qsc ?_;refine qm ?_;refine qy H (fun hc35 H=>?_) (fun hc35 H=>?_)
   ·obtain ⟨l37,hl37,H⟩:=zap H;refine zaz (G:=F) [0,1,2,3,4,5,6,7,8,9,10,11,12] rfl Ty.mixed (by kernel_rfl) hS14.agree ?_;refine q3 ?_;refine qf Ty.zcq ?_;refine qbq 3 Ty.zgd hS14 ?_;refine qc ?_;refine qq (zde 0 (zao r9) Ty.zhs Ty.zcy (Nat.zero_lt_succ _) rfl hS14 rfl (fun q u h=>zdb (post:=[]) rfl h)) ?_;refine W_c (v:=.agg (Chunk.cells (Chunk.mk r9 false [] []) (.sl none 0 (.k 0)) (.sl none 0 (.k 0)))) rfl rfl rfl rfl (fun _=>rfl) ?_;refine qx (E_bs1 (t:=Chunk.o) (u:=.agg (Chunk.cells (Chunk.mk r9 false [] []) (.sl none 0 (.k 0)) (.sl none 0 (.k 0)))) (x:=(Chunk.mk r9 false [] [])) Tryz.underlying35 Ty.row60 rfl ⟨.sl none 0 (.k 0),.sl none 0 (.k 0),rfl,hlr9_0,(SlF.nil _),⟨_,rfl,.inl ⟨rfl,rfl,rfl⟩⟩⟩ rfl rfl hS14) ?_;rintro u36 w36 ⟨bs36,hS36⟩;refine qw hS36 ?_;refine ql (insChunk_ok (hS36.lendL [6,0] (by decide)) hl37) ?_;rintro u38 w38 ⟨bs38,hT38⟩;have hS38:=hS36.backL [6,0] [1,2,3,4,5,7,8] (by decide) (by decide) hT38;refine qw hS38 ?_;refine qc ?_;refine qf Ty.zcq ?_;refine qu (zea (c:=[u38]) 4 ([.i .i64 x0.seq,v0_1,u38,v0_3,v0_4]) rfl rfl hS38 rfl (hS38.dpLn (k:=0) rfl).cells Ty.size35 (by simp only [List.all_cons,List.all_nil,List.all_append,(hS38.dpLn (k:=0) rfl).one];rfl) rfl rfl) ?_;rintro _ w39 hS39;refine qw hS39 ?_;refine zbk ?_;exact zbe _ ⟨l37,H,⟨F,u38,bs38,rfl,(Frz.le.refl _),hS39.pick [3,4,5,6,7,0] (by decide)⟩⟩ ⟨rfl,rfl,rfl,trivial⟩
   ·refine zec ?_;exact zbe _ ⟨x0.chunks,H,⟨F,v0_2,bsv0_2,rfl,(Frz.le.refl _),hS14.pick [2,3,4,6,7,5] (by decide)⟩⟩ ⟨rfl,rfl,rfl,trivial⟩
  ·rintro E w15 ⟨l16,H,F15,u17,bs19,rfl,le15,hS15⟩;dsimp only [zen.k1] at H;obtain ⟨x20,hx20,l24,hl24,H⟩:=bd2 H;obtain ⟨x26,hx26,H⟩:=zap H;have hb29:=hS15.boxAt 1 rfl;refine zaz (G:=(F15.hold w15 [gp0])) [0,1,2,3,4,5,6,7,8,9,10,11,12,13,14,15,16,17,18,19] rfl Ty.mixed (by kernel_rfl) (HB.agree (HB.cons 1 hb29 hS15 rfl HB.nil) hS15.agree) ?_;refine q2 ?_;refine qf Ty.zcq ?_;refine qr (zfj Ty.zgd rfl (hb29.held (HB.cons 1 hb29 hS15 rfl HB.nil) (by simp)) rfl) ?_;refine q3 ?_;refine qf Ty.zcq ?_;refine qbq 1 Ty.zgd hS15 ?_;refine qc ?_;obtain ⟨hp30,hy30⟩:=zac hx20;obtain ⟨cs30,hr30,he30⟩:=(hS15.dpNow (k:=5) rfl Chunk.sees).el hy30;obtain ⟨ue21_0,ue21_1,rfl,hle21_0,hue21_0,hue21_1⟩:=hr30;replace he30:=qj 35 he30;have hi30:=he30.ixd;refine qi Tryz.underlying35 Ty.zep hi30 hp30 ?_;refine qr (zfm 34 Ty.zgs rfl hi30) ?_;obtain ⟨u22,bs22,cs22,he22,hu22,hS22⟩:=hS15.focus Chunk.foc 5 rfl (zac hx20).2;replace he22:=qj 35 he22;refine qq (zfs 34 Ty.zhh rfl he22 (by omega) hu22) ?_;refine qf Ty.zsa ?_;refine qq (zde 1 (Loc.cells x1.loc) Ty.zsw Ty.zgx (Nat.zero_lt_succ _) rfl hS22 rfl (fun q u h=>zdb (post:=[]) rfl h)) ?_;refine qx (E_bs (t:=Loc.t) (vs:=[.agg (Loc.cells x1.loc)]) (xs:=[x1.loc]) Tryz.underlying44 Ty.row51 rfl ⟨rfl,trivial⟩ rfl rfl hS22) ?_;rintro u23 w23 hS23;refine qh 3 hb29 hS23 ?_;refine qx (zgg (t:=Loc.t) 1 Tryz.underlying44 Ty.row51 Ty.zk44 rfl rfl hS23 rfl (hS23.rowSrc (k:=0) rfl) hl24) ?_;rintro v25 w25 hS25;refine qh 3 hb29 hS25 ?_;obtain ⟨hp31,hy31⟩:=zac hx26;have hi31:=hS25.dpIx (k:=7) rfl (zkf hy31);refine qi Tryz.underlying35 Ty.zep hi31 hp31 ?_;obtain ⟨hp32,hy32⟩:=zac hx26;have hi32:=hS25.dpIx (k:=7) rfl (zkf hy32);refine qr (zfm 34 Ty.zgs rfl hi32) ?_;obtain ⟨hp33,hy33⟩:=zac hx26;have hi33:=hS25.dpIx (k:=7) rfl (zkf hy33);have hS34:=hS25.pick [1,7,0,2,3,4,5,6] (by decide);refine qu (E_fill Chunk.foc (r13.1.toNat) rfl rfl hS34 (zac hx26).2 (by first | rfl | (show _=_*35+_;omega)) Ty.zrh) ?_;rintro _ w28 ⟨bs28,hS28⟩;refine qh 3 hb29 hS28 ?_;refine zbk ?_;obtain rfl:=oi H;refine N_done rfl rfl ?_;exact ⟨F15,v0_1,bsv0_1,u17,bs28,v0_3,bsv0_3,rfl,hS28.pick [3,4,0,5,6] (by decide)⟩
def zes.k1 (x0:Catalog) (x1:Found) (r7:Int × Bool) (l10:List Snap):Option Catalog :=
  bd (ix l10 r7.1) fun x14 =>
  bd (app (α:=Loc) x14.locs [x1.loc]) fun l18 =>
  bd (ix l10 r7.1) fun x20 =>
  some (Catalog.mk (if x0.seq < wr ((if 1073741824 < x1.rec_.seq then 1073741824 else x1.rec_.seq)+1) then wr ((if 1073741824 < x1.rec_.seq then 1073741824 else x1.rec_.seq)+1) else x0.seq) (l10.set r7.1.toNat (Snap.mk x20.seq x20.man l18)) x0.chunks x0.exps x0.vols)
def zes (x0:Catalog) (x1:Found):Option Catalog :=
  bd (zbi x1.rec_.data) fun r2 =>
  if decide (r2.2≠0) then
    some x0
  else
    bd (zaa x0.snaps x1.rec_.seq) fun r7 =>
    if (!r7.2) then
      bd (insD x0.snaps r7.1 [(Snap.mk x1.rec_.seq r2.1 [])]) fun l32 =>
      zes.k1 x0 x1 r7 l32
    else
      zes.k1 x0 x1 r7 x0.snaps
theorem zve {X:List Nat} {x0:Catalog} {x1:Found} {r:Catalog} {gp0:Nat} {v0_1:Val} {bsv0_1:List Nat} {v0_2:Val} {bsv0_2:List Nat} {v0_3:Val} {bsv0_3:List Nat} {v0_4:Val} {v1_0:Val} (hS:St X w F F [.box gp0 [.i .i64 x0.seq,v0_1,v0_2,v0_3,v0_4],.dp Snap.o bsv0_1 v0_1 x0.snaps,.dp Chunk.o bsv0_2 v0_2 x0.chunks,.dp Exp.o bsv0_3 v0_3 x0.exps,.row Vol.t v0_4 x0.vols] w) (h1_0:SlF tB F v1_0 x1.rec_.data) (H:zes x0 x1=some r):Ret Tryz.prog KK 44 [pl gp0 0,.agg (Found.cells x1 v1_0)] w fun v w'=>∃ (F':Frz) (z0_1:Val) (bsz0_1:List Nat) (z0_2:Val) (bsz0_2:List Nat) (z0_3:Val) (bsz0_3:List Nat),v = .tup []∧St X w F F' [.box gp0 [.i .i64 r.seq,z0_1,z0_2,z0_3,v0_4],.dp Snap.o bsz0_1 z0_1 r.snaps,.dp Chunk.o bsz0_2 z0_2 r.chunks,.dp Exp.o bsz0_3 z0_3 r.exps,.row Vol.t v0_4 r.vols] w':=by
 refine qa2 Tryz.func44 ?_;dsimp only [zes] at H;refine qs ?_;refine xm (E_bx (cs:=[.i .i64 x1.rec_.kind,.i .i64 x1.rec_.seq,v1_0,.i .i64 x1.loc.vol,.i .i64 x1.loc.file,.i .i64 x1.loc.off,.i .i64 x1.loc.len]) rfl rfl (by simp only [List.all_cons,List.all_nil,List.all_append,h1_0.ln.one];rfl) hS) ?_;rintro _ w1 ⟨g1,rfl,hS1⟩;refine qn ?_;obtain ⟨r2,hr2,H⟩:=zap H;refine qs ?_;refine qf Ty.zhc ?_;refine qf Ty.zng ?_;refine qb 0 Ty.zhg hS1 ?_;refine lm (ztt hS1.good h1_0 hr2) ?_;rintro v4 w4 ⟨Fr2,ur2_0_0,rfl,hfr2_0_0,hT4⟩;have hS4:=hS1.call hT4;have ler2:=hT4.ext;refine q3 ?_;refine xm (zft (cs:=[.s [],.sl none 0 (.k 0)]) Ty.zup rfl hS4) ?_;rintro _ w3 ⟨g3,rfl,hS3⟩;refine um (zea (c:=[.s r2.1.name,ur2_0_0]) 0 ([.s r2.1.name,ur2_0_0]) rfl rfl hS3 rfl rfl Ty.zgy (by simp only [List.all_cons,List.all_nil,List.all_append,hfr2_0_0.ln.one];rfl) rfl rfl) ?_;rintro _ w5 hS5;refine qm ?_;refine zay ?_;refine qsc ?_;refine qr (zah rfl rfl zeb) ?_;refine qn ?_;refine qy H (fun hc6 H=>?_) (fun hc6 H=>?_)
 ·obtain rfl:=oi H;refine qt ?_;exact ⟨Fr2,v0_1,bsv0_1,v0_2,bsv0_2,v0_3,bsv0_3,rfl,hS5.pick [2,3,4,5,6] (by decide)⟩
 ·refine qk ?_;refine zay ?_;obtain ⟨r7,hr7,H⟩:=zap H;refine zaz (G:=Fr2) [0,1,2,3,4,5,6,7,8,9,10,11,12] rfl Ty.mixed (by kernel_rfl) hS5.agree ?_;refine q2 ?_;refine qf Ty.zdi ?_;refine qbq 2 Ty.zhr hS5 ?_;refine qf Ty.zhc ?_;refine qf Ty.znh ?_;refine qbq 1 Ty.zdd hS5 ?_;refine ql (zex (Gd.now hS5.wf) (hS5.dpNow (k:=3) rfl Snap.sees) hr7) ?_;rintro v8 w8 ⟨Fr7,rfl,hT8⟩;have hS8:=hS5.lent hT8;refine qw hS8 ?_;refine q4 ?_;refine qm ?_;refine zai (fun E wq=>∃ l10:List Snap,zes.k1 x0 x1 r7 l10=some r ∧ ∃ (F9:Frz) (u11:Val) (bs13:List Nat),E=[(0,pl gp0 0),(3,pl g1 0),(6,.i .i64 r7.1)]∧Fr2.le F9∧St X w F F9 [.box g1 [.i .i64 x1.rec_.kind,.i .i64 x1.rec_.seq,v1_0,.i .i64 x1.loc.vol,.i .i64 x1.loc.file,.i .i64 x1.loc.off,.i .i64 x1.loc.len],.box gp0 [.i .i64 x0.seq,u11,v0_2,v0_3,v0_4],.dp Chunk.o bsv0_2 v0_2 x0.chunks,.dp Exp.o bsv0_3 v0_3 x0.exps,.row Vol.t v0_4 x0.vols,.dp Snap.o bs13 u11 l10] wq) ?_ ?_
  ·refine qsc ?_;refine qm ?_;refine qy H (fun hc30 H=>?_) (fun hc30 H=>?_)
   ·obtain ⟨l32,hl32,H⟩:=zap H;refine zaz (G:=Fr2) [0,1,2,3,4,5,6,7,8,9,10,11,12,13,14,15] rfl Ty.mixed (by kernel_rfl) hS8.agree ?_;refine q3 ?_;refine qf Ty.zdi ?_;refine qbq 2 Ty.zhr hS8 ?_;refine qc ?_;refine qf Ty.zhc ?_;refine qf Ty.znh ?_;refine qbq 1 Ty.zdd hS8 ?_;refine qq (zde 0 (Manifest.cells r2.1 ur2_0_0) Ty.zpq Ty.zgy (Nat.zero_lt_succ _) rfl hS8 rfl (fun q u h=>zdb (post:=[]) rfl h)) ?_;have hcl34:=hfr2_0_0.ln.cells;refine qr (zmn (vs:=[(0,.i .i64 x1.rec_.seq),(1,.agg (Manifest.cells r2.1 ur2_0_0))]) (v:=.agg (Snap.cells (Snap.mk x1.rec_.seq r2.1 []) ur2_0_0 (.sl none 0 (.k 0)))) Ty.bld46 rfl (by simp only [zly,hcl34];rfl)) ?_;refine qx (E_bs1 (t:=Snap.o) (u:=.agg (Snap.cells (Snap.mk x1.rec_.seq r2.1 []) ur2_0_0 (.sl none 0 (.k 0)))) (x:=(Snap.mk x1.rec_.seq r2.1 [])) Tryz.underlying34 Ty.row46 rfl ⟨ur2_0_0,.sl none 0 (.k 0),rfl,hfr2_0_0,⟨_,rfl,.inl ⟨rfl,rfl,rfl⟩⟩⟩ rfl rfl hS8) ?_;rintro u31 w31 ⟨bs31,hS31⟩;refine qw hS31 ?_;refine ql (insSnap_ok (hS31.lendL [4,0] (by decide)) hl32) ?_;rintro u33 w33 ⟨bs33,hT33⟩;have hS33:=hS31.backL [4,0] [1,2,3,5,6,7] (by decide) (by decide) hT33;refine qw hS33 ?_;refine qc ?_;refine qf Ty.zdi ?_;refine qu (zea (c:=[u33]) 3 ([.i .i64 x0.seq,u33,v0_2,v0_3,v0_4]) rfl rfl hS33 rfl (hS33.dpLn (k:=0) rfl).cells Ty.size34 (by simp only [List.all_cons,List.all_nil,List.all_append,(hS33.dpLn (k:=0) rfl).one];rfl) rfl rfl) ?_;rintro _ w35 hS35;refine qw hS35 ?_;refine zbk ?_;exact zbe _ ⟨l32,H,⟨Fr2,u33,bs33,rfl,(Frz.le.refl _),hS35.pick [2,3,4,5,6,0] (by decide)⟩⟩ ⟨rfl,rfl,rfl,trivial⟩
   ·refine zec ?_;exact zbe _ ⟨x0.snaps,H,⟨Fr2,v0_1,bsv0_1,rfl,(Frz.le.refl _),hS8.pick [1,2,4,5,6,3] (by decide)⟩⟩ ⟨rfl,rfl,rfl,trivial⟩
  ·rintro E w9 ⟨l10,H,F9,u11,bs13,rfl,le9,hS9⟩;dsimp only [zes.k1] at H;refine zay ?_;obtain ⟨x14,hx14,l18,hl18,H⟩:=bd2 H;obtain ⟨x20,hx20,H⟩:=zap H;have hb23:=hS9.boxAt 1 rfl;refine zaz (G:=(F9.hold w9 [gp0])) [0,1,2,3,4,5,6,7,8,9,10,11,12,13,14,15,16,17,18,19] rfl Ty.mixed (by kernel_rfl) (HB.agree (HB.cons 1 hb23 hS9 rfl HB.nil) hS9.agree) ?_;refine q2 ?_;refine qf Ty.zdi ?_;refine qr (zfj Ty.zhr rfl (hb23.held (HB.cons 1 hb23 hS9 rfl HB.nil) (by simp)) rfl) ?_;refine q3 ?_;refine qf Ty.zdi ?_;refine qbq 1 Ty.zhr hS9 ?_;refine qc ?_;obtain ⟨hp24,hy24⟩:=zac hx14;obtain ⟨cs24,hr24,he24⟩:=(hS9.dpNow (k:=5) rfl Snap.sees).el hy24;obtain ⟨ue15_0,ue15_1,rfl,hue15_0,hue15_1⟩:=hr24;replace he24:=qj 4 he24;have hi24:=he24.ixd;refine qi Tryz.underlying34 Ty.zdl hi24 hp24 ?_;refine qr (zfm 3 Ty.zid rfl hi24) ?_;obtain ⟨u16,bs16,cs16,he16,hu16,hS16⟩:=hS9.focus Snap.foc 5 rfl (zac hx14).2;replace he16:=qj 4 he16;refine qq (zfs 3 Ty.zhh rfl he16 (by omega) hu16) ?_;refine qf Ty.zsa ?_;refine qq (zde 1 (Loc.cells x1.loc) Ty.zsw Ty.zgx (Nat.zero_lt_succ _) rfl hS16 rfl (fun q u h=>zdb (post:=[]) rfl h)) ?_;refine qx (E_bs (t:=Loc.t) (vs:=[.agg (Loc.cells x1.loc)]) (xs:=[x1.loc]) Tryz.underlying44 Ty.row51 rfl ⟨rfl,trivial⟩ rfl rfl hS16) ?_;rintro u17 w17 hS17;refine qh 3 hb23 hS17 ?_;refine qx (zgg (t:=Loc.t) 1 Tryz.underlying44 Ty.row51 Ty.zk44 rfl rfl hS17 rfl (hS17.rowSrc (k:=0) rfl) hl18) ?_;rintro v19 w19 hS19;refine qh 3 hb23 hS19 ?_;obtain ⟨hp25,hy25⟩:=zac hx20;have hi25:=hS19.dpIx (k:=7) rfl (zkf hy25);refine qi Tryz.underlying34 Ty.zdl hi25 hp25 ?_;obtain ⟨hp26,hy26⟩:=zac hx20;have hi26:=hS19.dpIx (k:=7) rfl (zkf hy26);refine qr (zfm 3 Ty.zid rfl hi26) ?_;obtain ⟨hp27,hy27⟩:=zac hx20;have hi27:=hS19.dpIx (k:=7) rfl (zkf hy27);have hS28:=hS19.pick [1,7,0,2,3,4,5,6] (by decide);refine qu (E_fill Snap.foc (r7.1.toNat) rfl rfl hS28 (zac hx20).2 (by first | rfl | (show _=_*4+_;omega)) Ty.zrh) ?_;rintro _ w22 ⟨bs22,hS22⟩;refine qh 3 hb23 hS22 ?_;refine qn ?_;refine zaz (G:=F9) [0,1,2,3,4,5,6,7,8,9,10,11,12,13] rfl Ty.mixed (by kernel_rfl) hS22.agree ?_;refine q3 ?_;refine qf Ty.zjp ?_;refine qbq 3 Ty.zdd hS22 ?_;refine qf Ty.zhc ?_;refine qf Ty.znh ?_
   refine qbq 2 Ty.zdd hS22 ?_;refine q4 ?_;refine qf Ty.zjp ?_;refine qu (zea (c:=[.i .i64 (if x0.seq < wr ((if 1073741824 < x1.rec_.seq then 1073741824 else x1.rec_.seq)+1) then wr ((if 1073741824 < x1.rec_.seq then 1073741824 else x1.rec_.seq)+1) else x0.seq)]) 3 ([.i .i64 (if x0.seq < wr ((if 1073741824 < x1.rec_.seq then 1073741824 else x1.rec_.seq)+1) then wr ((if 1073741824 < x1.rec_.seq then 1073741824 else x1.rec_.seq)+1) else x0.seq),u11,v0_2,v0_3,v0_4]) rfl rfl hS22 rfl rfl Ty.size3 rfl rfl rfl) ?_;rintro _ w29 hS29;refine qw hS29 ?_;refine zbk ?_;obtain rfl:=oi H;refine N_done rfl rfl ?_;exact ⟨F9,u11,bs22,v0_2,bsv0_2,v0_3,bsv0_3,rfl,hS29.pick [3,0,4,5,6] (by decide)⟩
def zhk.k1 (x0:Catalog) (x1:Found) (r5:Int × Bool) (l8:List Exp):Option Catalog :=
  bd (ix l8 r5.1) fun x12 =>
  bd (app (α:=Loc) x12.locs [x1.loc]) fun l16 =>
  bd (ix l8 r5.1) fun x18 =>
  some (Catalog.mk (if x0.seq < wr ((if 1073741824 < x1.rec_.seq then 1073741824 else x1.rec_.seq)+1) then wr ((if 1073741824 < x1.rec_.seq then 1073741824 else x1.rec_.seq)+1) else x0.seq) x0.snaps x0.chunks (l8.set r5.1.toNat (Exp.mk x18.seq x18.of l16)) x0.vols)
def zhk (x0:Catalog) (x1:Found):Option Catalog :=
  if decide ((x1.rec_.data.length:Int)≠4) then
    some x0
  else
    bd (zip x1.rec_.data 0 4) fun r3 =>
    bd (zaw x0.exps x1.rec_.seq) fun r5 =>
    if (!r5.2) then
      bd (insD x0.exps r5.1 [(Exp.mk x1.rec_.seq r3.1 [])]) fun l30 =>
      zhk.k1 x0 x1 r5 l30
    else
      zhk.k1 x0 x1 r5 x0.exps
theorem zws {X:List Nat} {x0:Catalog} {x1:Found} {r:Catalog} {gp0:Nat} {v0_1:Val} {bsv0_1:List Nat} {v0_2:Val} {bsv0_2:List Nat} {v0_3:Val} {bsv0_3:List Nat} {v0_4:Val} {v1_0:Val} (hS:St X w F F [.box gp0 [.i .i64 x0.seq,v0_1,v0_2,v0_3,v0_4],.dp Snap.o bsv0_1 v0_1 x0.snaps,.dp Chunk.o bsv0_2 v0_2 x0.chunks,.dp Exp.o bsv0_3 v0_3 x0.exps,.row Vol.t v0_4 x0.vols] w) (h1_0:SlF tB F v1_0 x1.rec_.data) (H:zhk x0 x1=some r):Ret Tryz.prog KK 45 [pl gp0 0,.agg (Found.cells x1 v1_0)] w fun v w'=>∃ (F':Frz) (z0_1:Val) (bsz0_1:List Nat) (z0_2:Val) (bsz0_2:List Nat) (z0_3:Val) (bsz0_3:List Nat),v = .tup []∧St X w F F' [.box gp0 [.i .i64 r.seq,z0_1,z0_2,z0_3,v0_4],.dp Snap.o bsz0_1 z0_1 r.snaps,.dp Chunk.o bsz0_2 z0_2 r.chunks,.dp Exp.o bsz0_3 z0_3 r.exps,.row Vol.t v0_4 r.vols] w':=by
 refine qa2 Tryz.func45 ?_;dsimp only [zhk] at H;refine qs ?_;refine xm (E_bx (cs:=[.i .i64 x1.rec_.kind,.i .i64 x1.rec_.seq,v1_0,.i .i64 x1.loc.vol,.i .i64 x1.loc.file,.i .i64 x1.loc.off,.i .i64 x1.loc.len]) rfl rfl (by simp only [List.all_cons,List.all_nil,List.all_append,h1_0.ln.one];rfl) hS) ?_;rintro _ w1 ⟨g1,rfl,hS1⟩;refine qn ?_;refine zay ?_;refine qs ?_;refine qf Ty.zhc ?_;refine qf Ty.zng ?_;refine qb 0 Ty.zhg hS1 ?_;refine qr (zbs Tryz.underlying47 rfl h1_0.ln) ?_;refine qr (zah rfl rfl zeb) ?_;refine qn ?_;refine qy H (fun hc2 H=>?_) (fun hc2 H=>?_)
 ·obtain rfl:=oi H;refine qt ?_;exact ⟨F,v0_1,bsv0_1,v0_2,bsv0_2,v0_3,bsv0_3,rfl,hS1.pick [1,2,3,4,5] (by decide)⟩
 ·refine qk ?_;obtain ⟨r3,hr3,H⟩:=zap H;refine qs ?_;refine qf Ty.zhc ?_;refine qf Ty.zng ?_;refine qb 0 Ty.zhg hS1 ?_;refine lm (zxm hS1.good h1_0 hr3) ?_;rintro v4 w4 ⟨Fr3,rfl,hT4⟩;have hS4:=hS1.lent hT4;refine q4 ?_;refine q2 ?_;refine qm ?_;refine zay ?_;obtain ⟨r5,hr5,H⟩:=zap H;refine zaz (G:=F) [0,1,2,3,4,5,6,7,8,9,10,11,12] rfl Ty.mixed (by kernel_rfl) hS4.agree ?_;refine q2 ?_;refine qf Ty.zef ?_;refine qbq 1 Ty.ziy hS4 ?_;refine qf Ty.zhc ?_;refine qf Ty.znh ?_;refine qbq 0 Ty.zdd hS4 ?_;refine ql (zfi (Gd.now hS4.wf) (hS4.dpNow (k:=4) rfl Exp.sees) hr5) ?_;rintro v6 w6 ⟨Fr5,rfl,hT6⟩;have hS6:=hS4.lent hT6;refine qw hS6 ?_;refine q4 ?_;refine qm ?_;refine zai (fun E wq=>∃ l8:List Exp,zhk.k1 x0 x1 r5 l8=some r ∧ ∃ (F7:Frz) (u9:Val) (bs11:List Nat),E=[(0,pl gp0 0),(3,pl g1 0),(7,.i .i64 r5.1)]∧F.le F7∧St X w F F7 [.box g1 [.i .i64 x1.rec_.kind,.i .i64 x1.rec_.seq,v1_0,.i .i64 x1.loc.vol,.i .i64 x1.loc.file,.i .i64 x1.loc.off,.i .i64 x1.loc.len],.box gp0 [.i .i64 x0.seq,v0_1,v0_2,u9,v0_4],.dp Snap.o bsv0_1 v0_1 x0.snaps,.dp Chunk.o bsv0_2 v0_2 x0.chunks,.row Vol.t v0_4 x0.vols,.dp Exp.o bs11 u9 l8] wq) ?_ ?_
  ·refine qsc ?_;refine qm ?_;refine qy H (fun hc28 H=>?_) (fun hc28 H=>?_)
   ·obtain ⟨l30,hl30,H⟩:=zap H;refine zaz (G:=F) [0,1,2,3,4,5,6,7,8,9,10,11,12,13,14,15] rfl Ty.mixed (by kernel_rfl) hS6.agree ?_;refine q3 ?_;refine qf Ty.zef ?_;refine qbq 1 Ty.ziy hS6 ?_;refine qc ?_;refine qf Ty.zhc ?_;refine qf Ty.znh ?_;refine qbq 0 Ty.zdd hS6 ?_;refine qc ?_;refine W_c (v:=.agg (Exp.cells (Exp.mk x1.rec_.seq r3.1 []) (.sl none 0 (.k 0)))) rfl rfl rfl rfl (fun _=>rfl) ?_;refine qx (E_bs1 (t:=Exp.o) (u:=.agg (Exp.cells (Exp.mk x1.rec_.seq r3.1 []) (.sl none 0 (.k 0)))) (x:=(Exp.mk x1.rec_.seq r3.1 [])) Tryz.underlying36 Ty.row55 rfl ⟨.sl none 0 (.k 0),rfl,⟨_,rfl,.inl ⟨rfl,rfl,rfl⟩⟩⟩ rfl rfl hS6) ?_;rintro u29 w29 ⟨bs29,hS29⟩;refine qw hS29 ?_;refine ql (insExp_ok (hS29.lendL [5,0] (by decide)) hl30) ?_;rintro u31 w31 ⟨bs31,hT31⟩;have hS31:=hS29.backL [5,0] [1,2,3,4,6] (by decide) (by decide) hT31;refine qw hS31 ?_;refine qc ?_;refine qf Ty.zef ?_;refine qu (zea (c:=[u31]) 2 ([.i .i64 x0.seq,v0_1,v0_2,u31,v0_4]) rfl rfl hS31 rfl (hS31.dpLn (k:=0) rfl).cells Ty.size36 (by simp only [List.all_cons,List.all_nil,List.all_append,(hS31.dpLn (k:=0) rfl).one];rfl) rfl rfl) ?_;rintro _ w32 hS32;refine qw hS32 ?_;refine zbk ?_;exact zbe _ ⟨l30,H,⟨F,u31,bs31,rfl,(Frz.le.refl _),hS32.pick [1,2,3,4,5,0] (by decide)⟩⟩ ⟨rfl,rfl,rfl,trivial⟩
   ·refine zec ?_;exact zbe _ ⟨x0.exps,H,⟨F,v0_3,bsv0_3,rfl,(Frz.le.refl _),hS6.pick [0,1,2,3,5,4] (by decide)⟩⟩ ⟨rfl,rfl,rfl,trivial⟩
  ·rintro E w7 ⟨l8,H,F7,u9,bs11,rfl,le7,hS7⟩;dsimp only [zhk.k1] at H;refine zay ?_;obtain ⟨x12,hx12,l16,hl16,H⟩:=bd2 H;obtain ⟨x18,hx18,H⟩:=zap H;have hb21:=hS7.boxAt 1 rfl;refine zaz (G:=(F7.hold w7 [gp0])) [0,1,2,3,4,5,6,7,8,9,10,11,12,13,14,15,16,17,18,19] rfl Ty.mixed (by kernel_rfl) (HB.agree (HB.cons 1 hb21 hS7 rfl HB.nil) hS7.agree) ?_;refine q2 ?_;refine qf Ty.zef ?_;refine qr (zfj Ty.ziy rfl (hb21.held (HB.cons 1 hb21 hS7 rfl HB.nil) (by simp)) rfl) ?_;refine q3 ?_;refine qf Ty.zef ?_;refine qbq 1 Ty.ziy hS7 ?_;refine qc ?_;obtain ⟨hp22,hy22⟩:=zac hx12;obtain ⟨cs22,hr22,he22⟩:=(hS7.dpNow (k:=5) rfl Exp.sees).el hy22;obtain ⟨ue13_0,rfl,hue13_0⟩:=hr22;replace he22:=qj 3 he22;have hi22:=he22.ixd;refine qi Tryz.underlying36 Ty.zfb hi22 hp22 ?_;refine qr (zfm 2 Ty.zit rfl hi22) ?_;obtain ⟨u14,bs14,cs14,he14,hu14,hS14⟩:=hS7.focus Exp.foc 5 rfl (zac hx12).2;replace he14:=qj 3 he14;refine qq (zfs 2 Ty.zhh rfl he14 (by omega) hu14) ?_;refine qf Ty.zsa ?_;refine qq (zde 1 (Loc.cells x1.loc) Ty.zsw Ty.zgx (Nat.zero_lt_succ _) rfl hS14 rfl (fun q u h=>zdb (post:=[]) rfl h)) ?_;refine qx (E_bs (t:=Loc.t) (vs:=[.agg (Loc.cells x1.loc)]) (xs:=[x1.loc]) Tryz.underlying44 Ty.row51 rfl ⟨rfl,trivial⟩ rfl rfl hS14) ?_;rintro u15 w15 hS15;refine qh 3 hb21 hS15 ?_;refine qx (zgg (t:=Loc.t) 1 Tryz.underlying44 Ty.row51 Ty.zk44 rfl rfl hS15 rfl (hS15.rowSrc (k:=0) rfl) hl16) ?_;rintro v17 w17 hS17;refine qh 3 hb21 hS17 ?_;obtain ⟨hp23,hy23⟩:=zac hx18;have hi23:=hS17.dpIx (k:=7) rfl (zkf hy23);refine qi Tryz.underlying36 Ty.zfb hi23 hp23 ?_;obtain ⟨hp24,hy24⟩:=zac hx18;have hi24:=hS17.dpIx (k:=7) rfl (zkf hy24);refine qr (zfm 2 Ty.zit rfl hi24) ?_;obtain ⟨hp25,hy25⟩:=zac hx18;have hi25:=hS17.dpIx (k:=7) rfl (zkf hy25);have hS26:=hS17.pick [1,7,0,2,3,4,5,6] (by decide);refine qu (E_fill Exp.foc (r5.1.toNat) rfl rfl hS26 (zac hx18).2 (by first | rfl | (show _=_*3+_;omega)) Ty.zrh) ?_;rintro _ w20 ⟨bs20,hS20⟩;refine qh 3 hb21 hS20 ?_;refine qn ?_;refine zaz (G:=F7) [0,1,2,3,4,5,6,7,8,9,10,11,12,13] rfl Ty.mixed (by kernel_rfl) hS20.agree ?_;refine q3 ?_;refine qf Ty.zjp ?_;refine qbq 3 Ty.zdd hS20 ?_;refine qf Ty.zhc ?_;refine qf Ty.znh ?_;refine qbq 2 Ty.zdd hS20 ?_
   refine q4 ?_;refine qf Ty.zjp ?_;refine qu (zea (c:=[.i .i64 (if x0.seq < wr ((if 1073741824 < x1.rec_.seq then 1073741824 else x1.rec_.seq)+1) then wr ((if 1073741824 < x1.rec_.seq then 1073741824 else x1.rec_.seq)+1) else x0.seq)]) 3 ([.i .i64 (if x0.seq < wr ((if 1073741824 < x1.rec_.seq then 1073741824 else x1.rec_.seq)+1) then wr ((if 1073741824 < x1.rec_.seq then 1073741824 else x1.rec_.seq)+1) else x0.seq),v0_1,v0_2,u9,v0_4]) rfl rfl hS20 rfl rfl Ty.size3 rfl rfl rfl) ?_;rintro _ w27 hS27;refine qw hS27 ?_;refine zbk ?_;obtain rfl:=oi H;refine N_done rfl rfl ?_;exact ⟨F7,v0_1,bsv0_1,v0_2,bsv0_2,u9,bs20,rfl,hS27.pick [3,4,5,0,6] (by decide)⟩
def zdv.k1 (l3:List (List UInt8)):Option (List (List UInt8)) :=
  bd (sortM cmpT l3) fun r6 =>
  bd (zaf r6) fun r8 =>
  bd (zdh r8) fun r9 =>
  some r9
def zdv.l2 (x0:Manifest) (rec18:((List (List UInt8)) × Int)→Option (List (List UInt8))):((List (List UInt8)) × Int)→Option (List (List UInt8))
  | (l14,i17) =>
    if decide (i17 < (x0.parts.length:Int)) then
      bd (ix x0.parts i17) fun x20 =>
      bd (app (α:=(List UInt8)) l14 x20.ids) fun l25 =>
      rec18 (l25,wr (i17+1))
    else
      zdv.k1 l14
def zdv (x0:Manifest):Option (List (List UInt8)) :=
  loop (zdv.l2 x0) ([],0)
theorem zvq {x0:Manifest} {r:(List (List UInt8))} {v0_0:Val} (hA:Gd F w) (h0_0:SlF Part.t F v0_0 x0.parts) (H:zdv x0=some r):Ret Tryz.prog KK 148 [.agg (Manifest.cells x0 v0_0)] w fun v w'=>∃ (F':Frz) (q0:Val),v=q0∧St [] w F F' [.row tId q0 (r)] w':=by
 refine qa1 Tryz.func148 ?_;have hS:=St.start hA;dsimp only [zdv] at H;refine qs ?_;refine xm (E_bx (cs:=[.s x0.name,v0_0]) rfl rfl (by simp only [List.all_cons,List.all_nil,List.all_append,h0_0.ln.one];rfl) hS) ?_;rintro _ w1 ⟨g1,rfl,hS1⟩;refine qm ?_;refine qsm ?_;refine zai (fun E wq=>∃ l3:List (List UInt8),zdv.k1 l3=some r ∧ ∃ (F2:Frz) (u4:Val),E=[(3,u4)]∧F.le F2∧St [] w F F2 [.row tId u4 l3] wq) ?_ ?_
 ·refine qs ?_;refine qf Ty.zee ?_;refine qb 0 Ty.zjs hS1 ?_;refine qr (zbs Tryz.underlying41 rfl h0_0.ln) ?_;refine qm ?_;refine zar ?_;refine zbm (fun (s:(List (List UInt8)) × Int) E wq=>∃ (F13:Frz) (u15:Val),E=[(3,u15),(7,v0_0),(8,.i .i64 (x0.parts.length:Int)),(9,.i .i64 s.2)]∧F.le F13∧St [] w F F13 [.row tId u15 s.1] wq) H ?_ ?_
  ·have hS28:=hS1.nilRow tId;exact ⟨_,⟨F,(.sl none 0 (.k 0)),rfl,(Frz.le.refl _),hS28.pick [0] (by decide)⟩,⟨rfl,rfl,rfl,rfl,trivial⟩⟩
  ·rintro rec18 ⟨l14,i17⟩ E w13 hI H
   try dsimp only at hI
   obtain ⟨F13,u15,rfl,le13,hS13⟩:=hI;dsimp only [zdv.l2] at H;refine qs ?_;refine qr (zah rfl rfl zbp) ?_;refine qn ?_;refine zay ?_;refine qy H (fun hc19 H=>?_) (fun hc19 H=>?_)
   ·refine qk ?_;refine zay ?_;refine zar ?_;obtain ⟨x20,hx20,H⟩:=zap H;refine qs ?_;obtain ⟨hp23,hy23⟩:=zac hx20;obtain ⟨cs23,hr23,he23⟩:=(h0_0.mono le13).el hy23;obtain ⟨ue21_0,rfl,hue21_0⟩:=hr23;replace he23:=qj 3 he23;have hi23:=he23.ixd;refine qi Tryz.underlying41 Ty.zfn hi23 hp23 ?_;refine qr (zfe 0 (Part.cells x20 ue21_0) Ty.zsd Ty.zfn rfl (he23.mono hS13.agree) (by omega) rfl (Nat.le_of_ble_eq_true rfl)) ?_;refine xm (zft (cs:=[.s [],.i .i64 0,.sl none 0 (.k 0)]) Ty.zoj rfl hS13) ?_;rintro _ w22 ⟨g22,rfl,hS22⟩;refine um (zea (c:=[.s x20.path,.i .i64 x20.size,ue21_0]) 0 ([.s x20.path,.i .i64 x20.size,ue21_0]) rfl rfl hS22 rfl rfl Ty.zfn (by simp only [List.all_cons,List.all_nil,List.all_append,hue21_0.ln.one];rfl) rfl rfl) ?_;rintro _ w24 hS24;refine qn ?_;obtain ⟨l25,hl25,H⟩:=zap H;refine qd ?_;refine qc ?_;refine qf Ty.zfk ?_;refine qb 0 Ty.zkt hS24 ?_;refine xm (zgg (t:=tId) 1 Tryz.underlying118 Ty.zvb Ty.zk118 rfl rfl hS24 rfl (hue21_0.src hS24.agree) hl25) ?_;rintro v26 w26 hS26;refine qc ?_;refine zbk ?_;refine zbf ?_;refine zcl ?_;refine qd ?_;refine q2 ?_;refine zbk ?_;exact zbd (l25,wr (i17+1)) _ H ⟨F13,v26,rfl,le13,hS26.pick [1] (by decide)⟩ ⟨rfl,rfl,rfl,rfl,trivial⟩
   ·refine zcc _ rfl ?_;exact zbe _ ⟨l14,H,⟨F13,u15,rfl,le13,hS13⟩⟩ ⟨rfl,trivial⟩
 ·rintro E w2 ⟨l3,H,F2,u4,rfl,le2,hS2⟩;dsimp only [zdv.k1] at H;obtain ⟨r6,hr6,H⟩:=zap H;refine qsc ?_;refine lm (sortIds_ok (hS2.lendRow 0 rfl) hr6) ?_;rintro v7 w7 ⟨Fr6,rfl,hT7⟩;have hS7:=hS2.backRow 0 [] rfl (by decide) (by decide) hT7;have ler6:=hT7.ext;refine qn ?_;obtain ⟨r8,hr8,r9,hr9,H⟩:=bd2 H;refine qsc ?_;refine lm (zja (hS7.lendRow 0 rfl) hr8) ?_;rintro ur8_0 w10 ⟨Fr8,_,rfl,hT10⟩;have hS10:=hS7.backRow 0 [] rfl (by decide) (by decide) hT10;have ler8:=hT10.ext;obtain ⟨F11,le11,hf11,hS11⟩:=hS10.freezeR 0 [] rfl (by decide) (by decide);refine lm (zhb hS11.good hf11 hr9) ?_;rintro ur9_0 w12 ⟨Fr9,_,rfl,hT12⟩;have hS12:=hS11.call hT12;have ler9:=hT12.ext;refine qm ?_;obtain rfl:=oi H;refine qt ?_;exact ⟨Fr9,ur9_0,rfl,hS12⟩
def zii (x0:Catalog) (x1:Snap):Option Bool :=
  bd (zcf x0.exps x1) fun r4 =>
  if r4 then
    some false
  else
    bd (zdv x1.man) fun r8 =>
    bd (zcg r8 x0) fun r9 =>
    some (!r9)
theorem zto {x0:Catalog} {x1:Snap} {r:Bool} {v0_0:Val} {v0_1:Val} {v0_2:Val} {v0_3:Val} {v1_0:Val} {v1_1:Val} (hA:Gd F w) (h0_0:SlF Snap.t F v0_0 x0.snaps) (h0_1:SlF Chunk.t F v0_1 x0.chunks) (h0_2:SlF Exp.t F v0_2 x0.exps) (h0_3:SlF Vol.t F v0_3 x0.vols) (h1_0:SlF Part.t F v1_0 x1.man.parts) (h1_1:SlF Loc.t F v1_1 x1.locs) (H:zii x0 x1=some r):Ret Tryz.prog KK 96 [.agg (Catalog.cells x0 v0_0 v0_1 v0_2 v0_3),.agg (Snap.cells x1 v1_0 v1_1)] w fun v w'=>∃ (F':Frz),v = .b r∧St [] w F F' [] w':=by
 refine qa2 Tryz.func96 ?_;have hS:=St.start hA;dsimp only [zii] at H;refine qs ?_;refine xm (E_bx (cs:=[.i .i64 x0.seq,v0_0,v0_1,v0_2,v0_3]) rfl rfl (by simp only [List.all_cons,List.all_nil,List.all_append,h0_0.ln.one,h0_1.ln.one,h0_2.ln.one,h0_3.ln.one];rfl) hS) ?_;rintro _ w1 ⟨g1,rfl,hS1⟩;refine xm (E_bx (cs:=[.i .i64 x1.seq,.s x1.man.name,v1_0,v1_1]) rfl rfl (by simp only [List.all_cons,List.all_nil,List.all_append,h1_0.ln.one,h1_1.ln.one];rfl) hS1) ?_;rintro _ w2 ⟨g2,rfl,hS2⟩;refine qm ?_;refine zay ?_;refine zay ?_;obtain ⟨F3,le3,hbx3,hS3⟩:=hS2.freezeB 0 [1] rfl (by decide) (by decide);obtain ⟨r4,hr4,H⟩:=zap H;refine qd ?_;refine qf Ty.zef ?_;refine qb 0 Ty.ziy hS3 ?_;refine qc ?_;refine lm (zfw hS3.good (h0_2.mono le3) (h1_0.mono le3) (h1_1.mono le3) hbx3 hr4) ?_;rintro v5 w5 ⟨Fr4,rfl,hT5⟩;have hS5:=hS3.lent hT5;refine qn ?_;refine qy H (fun hc6 H=>?_) (fun hc6 H=>?_)
 ·refine qsm ?_;obtain rfl:=oi H;refine qt ?_;exact ⟨F3,rfl,hS5.pick [] (by decide)⟩
 ·refine qk ?_;refine zay ?_;obtain ⟨F7,le7,hbx7,hS7⟩:=hS5.freezeB 0 [] rfl (by decide) (by decide);obtain ⟨r8,hr8,r9,hr9,H⟩:=bd2 H;refine qd ?_;refine qf Ty.zie ?_;refine qr (O_fldg (Manifest.cells x1.man v1_0) Ty.zpq Ty.zgy (Nat.zero_lt_succ _) rfl (hbx3.mono (hS7.agree.le le7)) (fun q u h=>zdb (post:=[v1_1]) rfl h)) ?_;refine lm (zvq hS7.good (h1_0.mono (le3.trans le7)) hr8) ?_;rintro ur8_0 w10 ⟨Fr8,_,rfl,hT10⟩;have hS10:=hS7.call hT10;have ler8:=hT10.ext;refine qc ?_;refine lm (zfx (Gd.now hS10.wf) (hS10.rowNow (k:=0) rfl) (h0_0.mono (hS10.agree.le ((le3.trans le7).trans ler8))) (h0_1.mono (hS10.agree.le ((le3.trans le7).trans ler8))) (h0_2.mono (hS10.agree.le ((le3.trans le7).trans ler8))) (h0_3.mono (hS10.agree.le ((le3.trans le7).trans ler8))) (hbx7.mono (hS10.agree.le ler8)) hr9) ?_;rintro v11 w11 ⟨Fr9,rfl,hT11⟩;have hS11:=hS10.lent hT11;refine qc ?_;refine qm ?_;obtain rfl:=oi H;refine qt ?_;exact ⟨Fr8,rfl,hS11.pick [] (by decide)⟩
def zcn.k1 (l3:List Snap):Option (List Snap) :=
  some l3
def zcn.k3 (i10:Int) (rec11:((List Snap) × Int)→Option (List Snap)) (l14:List Snap):Option (List Snap) :=
  rec11 (l14,wr (i10+1))
def zcn.l2 (x0:Catalog) (rec11:((List Snap) × Int)→Option (List Snap)):((List Snap) × Int)→Option (List Snap)
  | (l7,i10) =>
    if decide (i10 < (x0.snaps.length:Int)) then
      bd (ix x0.snaps i10) fun x17 =>
      bd (zii x0 x17) fun r22 =>
      if r22 then
        bd (zag l7 x17) fun r27 =>
        bd (app (α:=Snap) r27 [x17]) fun l28 =>
        zcn.k3 i10 rec11 l28
      else
        zcn.k3 i10 rec11 l7
    else
      zcn.k1 l7
def zcn (x0:Catalog):Option (List Snap) :=
  loop (zcn.l2 x0) ([],0)
theorem ztp {X:List Nat} {x0:Catalog} {r:(List Snap)} {v0_0:Val} {v0_1:Val} {v0_2:Val} {v0_3:Val} (hS:St X w F F [.row Snap.t v0_0 x0.snaps,.row Chunk.t v0_1 x0.chunks,.row Exp.t v0_2 x0.exps,.row Vol.t v0_3 x0.vols] w) (H:zcn x0=some r):Ret Tryz.prog KK 46 [.agg (Catalog.cells x0 v0_0 v0_1 v0_2 v0_3)] w fun v w'=>∃ (F':Frz) (q0:Val),v=q0∧St X w F F' [.row Snap.t q0 (r),.row Snap.t v0_0 x0.snaps,.row Chunk.t v0_1 x0.chunks,.row Exp.t v0_2 x0.exps,.row Vol.t v0_3 x0.vols] w':=by
 refine qa1 Tryz.func46 ?_;dsimp only [zcn] at H;refine qs ?_;refine xm (E_bx (cs:=[.i .i64 x0.seq,v0_0,v0_1,v0_2,v0_3]) rfl rfl (by simp only [List.all_cons,List.all_nil,List.all_append,(hS.rowLn (k:=0) rfl).one,(hS.rowLn (k:=1) rfl).one,(hS.rowLn (k:=2) rfl).one,(hS.rowLn (k:=3) rfl).one];rfl) hS) ?_;rintro _ w1 ⟨g1,rfl,hS1⟩;refine qm ?_;refine qsm ?_;refine zai (fun E wq=>∃ l3:List Snap,zcn.k1 l3=some r ∧ ∃ (F2:Frz) (u4:Val),E=[(3,u4)]∧F.le F2∧St X w F F2 [.row Snap.t v0_0 x0.snaps,.row Chunk.t v0_1 x0.chunks,.row Exp.t v0_2 x0.exps,.row Vol.t v0_3 x0.vols,.row Snap.t u4 l3] wq) ?_ ?_
 ·refine qs ?_;refine qf Ty.zdi ?_;refine qb 0 Ty.zhr hS1 ?_;refine qr (zbs Tryz.underlying34 rfl (hS1.rowLn (k:=1) rfl)) ?_;refine qm ?_;refine zar ?_;refine zbm (fun (s:(List Snap) × Int) E wq=>∃ (F6:Frz) (u8:Val),E=[(1,pl g1 0),(3,u8),(7,v0_0),(8,.i .i64 (x0.snaps.length:Int)),(9,.i .i64 s.2)]∧F.le F6∧St X w F F6 [.box g1 [.i .i64 x0.seq,v0_0,v0_1,v0_2,v0_3],.row Snap.t v0_0 x0.snaps,.row Chunk.t v0_1 x0.chunks,.row Exp.t v0_2 x0.exps,.row Vol.t v0_3 x0.vols,.row Snap.t u8 s.1] wq) H ?_ ?_
  ·have hS32:=hS1.nilRow Snap.t;exact ⟨_,⟨F,(.sl none 0 (.k 0)),rfl,(Frz.le.refl _),hS32.pick [1,2,3,4,5,0] (by decide)⟩,⟨rfl,rfl,rfl,rfl,rfl,trivial⟩⟩
  ·rintro rec11 ⟨l7,i10⟩ E w6 hI H
   try dsimp only at hI
   obtain ⟨F6,u8,rfl,le6,hS6⟩:=hI;dsimp only [zcn.l2] at H;refine qs ?_;refine qr (zah rfl rfl zbp) ?_;refine qn ?_;refine zay ?_;refine qy H (fun hc12 H=>?_) (fun hc12 H=>?_)
   ·refine qk ?_;refine zai (fun E wq=>∃ l14:List Snap,zcn.k3 i10 rec11 l14=some r ∧ ∃ (F13:Frz) (u15:Val),E=[(1,pl g1 0),(3,u15),(7,v0_0),(8,.i .i64 (x0.snaps.length:Int)),(9,.i .i64 i10)]∧F6.le F13∧St X w F F13 [.box g1 [.i .i64 x0.seq,v0_0,v0_1,v0_2,v0_3],.row Snap.t v0_0 x0.snaps,.row Chunk.t v0_1 x0.chunks,.row Exp.t v0_2 x0.exps,.row Vol.t v0_3 x0.vols,.row Snap.t u15 l14] wq) ?_ ?_
    ·refine zar ?_;obtain ⟨x17,hx17,H⟩:=zap H;refine qs ?_;obtain ⟨hp20,hy20⟩:=zac hx17;obtain ⟨cs20,hr20,he20⟩:=hS6.rowAt (k:=1) rfl hy20;obtain ⟨ue18_0,ue18_1,rfl,hue18_0,hue18_1⟩:=hr20;replace he20:=qj 4 he20;have hi20:=he20.ixd;refine qi Tryz.underlying34 Ty.zdl hi20 hp20 ?_;refine qr (zfe 0 (Snap.cells x17 ue18_0 ue18_1) Ty.zsx Ty.zdl rfl he20 (by omega) rfl (Nat.le_of_ble_eq_true rfl)) ?_;refine xm (zft (cs:=[.i .i64 0,.s [],.sl none 0 (.k 0),.sl none 0 (.k 0)]) Ty.zero46 rfl hS6) ?_;rintro _ w19 ⟨g19,rfl,hS19⟩;refine um (zea (c:=[.i .i64 x17.seq,.s x17.man.name,ue18_0,ue18_1]) 0 ([.i .i64 x17.seq,.s x17.man.name,ue18_0,ue18_1]) rfl rfl hS19 rfl rfl Ty.zdl (by simp only [List.all_cons,List.all_nil,List.all_append,hue18_0.ln.one,hue18_1.ln.one];rfl) rfl rfl) ?_;rintro _ w21 hS21;refine qn ?_;obtain ⟨r22,hr22,H⟩:=zap H;refine qs ?_;refine qr (zde 1 (Catalog.cells x0 v0_0 v0_1 v0_2 v0_3) Ty.zql Ty.zhx (Nat.zero_lt_succ _) rfl hS21 rfl (fun q u h=>zdb (post:=[]) rfl h)) ?_;refine qr (zde 0 (Snap.cells x17 ue18_0 ue18_1) Ty.zsx Ty.zdl (Nat.zero_lt_succ _) rfl hS21 rfl (fun q u h=>zdb (post:=[]) rfl h)) ?_;refine lm (zto (Gd.now hS21.wf) (hS21.rowNow (k:=2) rfl) (hS21.rowNow (k:=3) rfl) (hS21.rowNow (k:=4) rfl) (hS21.rowNow (k:=5) rfl) (hue18_0.mono hS21.agree) (hue18_1.mono hS21.agree) hr22) ?_;rintro v23 w23 ⟨Fr22,rfl,hT23⟩;have hS23:=hS21.lent hT23;refine qn ?_;refine qy H (fun hc24 H=>?_) (fun hc24 H=>?_)
     ·obtain ⟨F25,le25,hbx25,hS25⟩:=hS23.freezeB 0 [1,2,3,4,5,6] rfl (by decide) (by decide);obtain ⟨r27,hr27,l28,hl28,H⟩:=bd2 H;refine zaz (G:=F25) [0,1,3,4,2,5,6] rfl Ty.mixed (by kernel_rfl) hS25.agree ?_;refine q2 ?_;refine qr (O_fldg (Snap.cells x17 ue18_0 ue18_1) Ty.zsx Ty.zdl (Nat.zero_lt_succ _) rfl hbx25 (fun q u h=>zdb (post:=[]) rfl h)) ?_;refine qx (E_bs (t:=Snap.t) (vs:=[.agg (Snap.cells x17 ue18_0 ue18_1)]) (xs:=[x17]) Tryz.underlying34 Ty.row46 rfl ⟨⟨ue18_0,ue18_1,rfl,(hue18_0.mono le25),(hue18_1.mono le25)⟩,trivial⟩ rfl rfl hS25) ?_;rintro u26 w26 hS26;refine qw hS26 ?_;refine ql (zfv (hS26.lendRow 6 rfl) (hue18_0.mono le25) (hue18_1.mono le25) hbx25 hr27) ?_;rintro ur27_0 w30 ⟨Fr27,_,rfl,hT30⟩;have hS30:=hS26.backRow 6 [0,1,2,3,4,5] rfl (by decide) (by decide) hT30;have ler27:=hT30.ext;refine Nxt.frz ler27 hS30.agree ?_;refine qx (zgg (t:=Snap.t) 0 Tryz.underlying34 Ty.row46 Ty.zk34 rfl rfl hS30 rfl (hS30.rowSrc (k:=1) rfl) hl28) ?_;rintro v29 w29 hS29;refine qw hS29 ?_;refine qc ?_;refine zbk ?_;refine zbf ?_;exact zbe _ ⟨l28,H,⟨Fr27,v29,rfl,(le25.trans ler27),hS29.pick [2,3,4,5,6,0] (by decide)⟩⟩ ⟨rfl,rfl,rfl,rfl,rfl,trivial⟩
     ·refine zec ?_;refine zbf ?_;exact zbe _ ⟨l7,H,⟨F6,u8,rfl,(Frz.le.refl _),hS23.pick [1,2,3,4,5,6] (by decide)⟩⟩ ⟨rfl,rfl,rfl,rfl,rfl,trivial⟩
    ·rintro E w13 ⟨l14,H,F13,u15,rfl,le13,hS13⟩;dsimp only [zcn.k3] at H;refine qd ?_;refine q2 ?_;refine zbk ?_;exact zbd (l14,wr (i10+1)) _ H ⟨F13,u15,rfl,(le6.trans le13),hS13⟩ ⟨rfl,rfl,rfl,rfl,rfl,trivial⟩
   ·refine zcc _ rfl ?_;exact zbe _ ⟨l7,H,⟨F6,u8,rfl,le6,hS6.pick [1,2,3,4,5] (by decide)⟩⟩ ⟨rfl,trivial⟩
 ·rintro E w2 ⟨l3,H,F2,u4,rfl,le2,hS2⟩;dsimp only [zcn.k1] at H;refine qsc ?_;refine qm ?_;obtain rfl:=oi H;refine qt ?_;exact ⟨F2,u4,rfl,hS2.pick [4,0,1,2,3] (by decide)⟩
def zis (x0:List Loc):Option (List Loc) :=
  bd (zbq x0) fun r1 =>
  bd (sortM zji r1) fun r3 =>
  bd (zae r3) fun r5 =>
  bd (zbq r5) fun r6 =>
  some r6
theorem zor {x0:List Loc} {r:(List Loc)} {v0:Val} (hA:Gd F w) (h0:SlF Loc.t F v0 x0) (H:zis x0=some r):Ret Tryz.prog KK 47 [v0] w fun v w'=>∃ (F':Frz) (q0:Val),v=q0∧St [] w F F' [.row Loc.t q0 (r)] w':=by
 refine qa1 Tryz.func47 ?_;have hS:=St.start hA;dsimp only [zis] at H;refine qsm ?_;obtain ⟨r1,hr1,H⟩:=zap H;refine qsc ?_;refine lm (zdk hS.good h0 hr1) ?_;rintro ur1_0 w2 ⟨Fr1,_,rfl,hT2⟩;have hS2:=hS.call hT2;have ler1:=hT2.ext;refine qm ?_;obtain ⟨r3,hr3,H⟩:=zap H;refine qsc ?_;refine lm (sortLoc_ok (hS2.lendRow 0 rfl) hr3) ?_;rintro v4 w4 ⟨Fr3,rfl,hT4⟩;have hS4:=hS2.backRow 0 [] rfl (by decide) (by decide) hT4;have ler3:=hT4.ext;refine qn ?_;obtain ⟨r5,hr5,r6,hr6,H⟩:=bd2 H;refine qsc ?_;refine lm (ziz (hS4.lendRow 0 rfl) hr5) ?_;rintro ur5_0 w7 ⟨Fr5,_,rfl,hT7⟩;have hS7:=hS4.backRow 0 [] rfl (by decide) (by decide) hT7;have ler5:=hT7.ext;refine lm (zdk (Gd.now hS7.wf) (hS7.rowNow (k:=0) rfl) hr6) ?_;rintro ur6_0 w8 ⟨Fr6,_,rfl,hT8⟩;have hS8:=hS7.lentFlat hT8 ⟨fun _ _ _ h=>row_flat (t:=Loc.t) (fun h=>h) h,trivial⟩;refine qm ?_;obtain rfl:=oi H;refine qt ?_;exact ⟨Fr5,ur6_0,rfl,hS8.pick [0] (by decide)⟩
def zax.k4 (i26:Int) (l27:List Vol) (l35:List Snap) (l37:List Chunk) (l39:List Exp):Option (Catalog × Int) :=
  bd (zjv (Catalog.mk i26 l35 l37 l39 l27)) fun r40 =>
  if decide (r40≠0) then
    some ((Catalog.mk 0 [] [] [] []),1)
  else
    bd (zbj (Catalog.mk i26 l35 l37 l39 l27)) fun r54 =>
    some (r54,0)
def zax.l5 (l17:List Exp) (i26:Int) (l27:List Vol) (l35:List Snap) (l37:List Chunk) (rec70:(Int × (List Exp))→Option (Catalog × Int)):(Int × (List Exp))→Option (Catalog × Int)
  | (i68,l69) =>
    if decide (i68 < (l17.length:Int)) then
      bd (ix l69 i68) fun x72 =>
      bd (zis x72.locs) fun r74 =>
      rec70 (wr (i68+1),(l69.set i68.toNat (Exp.mk x72.seq x72.of r74)))
    else
      zax.k4 i26 l27 l35 l37 l69
def zax.k3 (l17:List Exp) (i26:Int) (l27:List Vol) (l35:List Snap) (l37:List Chunk):Option (Catalog × Int) :=
  loop (zax.l5 l17 i26 l27 l35 l37) (0,l17)
def zax.l6 (l17:List Exp) (l20:List Chunk) (i26:Int) (l27:List Vol) (l35:List Snap) (rec83:(Int × (List Chunk))→Option (Catalog × Int)):(Int × (List Chunk))→Option (Catalog × Int)
  | (i81,l82) =>
    if decide (i81 < (l20.length:Int)) then
      bd (ix l82 i81) fun x85 =>
      bd (zis x85.locs) fun r87 =>
      rec83 (wr (i81+1),(l82.set i81.toNat (Chunk.mk x85.id x85.staged x85.data r87)))
    else
      zax.k3 l17 i26 l27 l35 l82
def zax.k2 (l17:List Exp) (l20:List Chunk) (i26:Int) (l27:List Vol) (l35:List Snap):Option (Catalog × Int) :=
  loop (zax.l6 l17 l20 i26 l27 l35) (0,l20)
def zax.l7 (l17:List Exp) (l20:List Chunk) (i26:Int) (l27:List Vol) (r28:(List Snap)) (rec96:(Int × (List Snap))→Option (Catalog × Int)):(Int × (List Snap))→Option (Catalog × Int)
  | (i94,l95) =>
    if decide (i94 < (r28.length:Int)) then
      bd (ix l95 i94) fun x98 =>
      bd (zis x98.locs) fun r100 =>
      rec96 (wr (i94+1),(l95.set i94.toNat (Snap.mk x98.seq x98.man r100)))
    else
      zax.k2 l17 l20 i26 l27 l95
def zax.k1 (l17:List Exp) (l20:List Chunk) (l23:List Snap) (i26:Int) (l27:List Vol):Option (Catalog × Int) :=
  bd (zcn (Catalog.mk i26 l23 l20 l17 l27)) fun r28 =>
  loop (zax.l7 l17 l20 i26 l27 r28) (0,r28)
def zax.k9 (i107:Int) (rec119:(Int × (List Exp) × (List Chunk) × (List Snap) × Int × (List Vol))→Option (Catalog × Int)) (l122:List Exp) (l125:List Chunk) (l128:List Snap) (i131:Int) (l132:List Vol):Option (Catalog × Int) :=
  rec119 (wr (i107+1),l122,l125,l128,i131,l132)
def zax.l8 (x1:List Found) (rec119:(Int × (List Exp) × (List Chunk) × (List Snap) × Int × (List Vol))→Option (Catalog × Int)):(Int × (List Exp) × (List Chunk) × (List Snap) × Int × (List Vol))→Option (Catalog × Int)
  | (i107,l108,l111,l114,i117,l118) =>
    if decide (i107 < (x1.length:Int)) then
      bd (ix x1 i107) fun x133 =>
      if decide (x133.rec_.kind=1) then
        bd (zen (Catalog.mk i117 l114 l111 l108 l118) x133) fun r139 =>
        zax.k9 i107 rec119 r139.exps r139.chunks r139.snaps r139.seq r139.vols
      else
        if decide (x133.rec_.kind=2) then
          bd (zes (Catalog.mk i117 l114 l111 l108 l118) x133) fun r142 =>
          zax.k9 i107 rec119 r142.exps r142.chunks r142.snaps r142.seq r142.vols
        else
          if decide (x133.rec_.kind=3) then
            bd (zhk (Catalog.mk i117 l114 l111 l108 l118) x133) fun r145 =>
            zax.k9 i107 rec119 r145.exps r145.chunks r145.snaps r145.seq r145.vols
          else
            zax.k9 i107 rec119 l108 l111 l114 i117 l118
    else
      zax.k1 l108 l111 l114 i117 l118
def zax (x0:List Vol) (x1:List Found):Option (Catalog × Int) :=
  bd (zdg x0) fun r5 =>
  loop (zax.l8 x1) (0,[],[],[],0,r5)
set_option maxHeartbeats 2000000 in
theorem zjh {x0:List Vol} {x1:List Found} {r:Catalog × Int} {v0:Val} {v1:Val} (hA:Gd F w) (h0:SlF Vol.t F v0 x0) (h1:SlF Found.t F v1 x1) (H:zax x0 x1=some r):Ret Tryz.prog KK 12 [v0,v1] w fun v w'=>∃ (F':Frz) (q0_0:Val) (q0_1:Val) (q0_2:Val) (q0_3:Val),v = .tup [.agg (Catalog.cells r.1 q0_0 q0_1 q0_2 q0_3),.i .i64 r.2]∧SlF Snap.t F' q0_0 (r.1.snaps)∧SlF Chunk.t F' q0_1 (r.1.chunks)∧SlF Exp.t F' q0_2 (r.1.exps)∧SlF Vol.t F' q0_3 (r.1.vols)∧St [] w F F' [] w':=by
 refine qa2 Tryz.func12 ?_;have hS:=St.start hA;dsimp only [zax] at H;refine qs ?_;refine xm (zft (cs:=[.i .i64 0,.sl none 0 (.k 0),.sl none 0 (.k 0),.sl none 0 (.k 0),.sl none 0 (.k 0)]) Ty.zuq rfl hS) ?_;rintro _ w1 ⟨g1,rfl,hS1⟩;have hS2:=hS1.nilDp Snap.o;have hS3:=hS2.nilDp Chunk.o;have hS4:=hS3.nilDp Exp.o;refine qm ?_;obtain ⟨r5,hr5,H⟩:=zap H;refine qsc ?_;refine lm (zha hS4.good h0 hr5) ?_;rintro ur5_0 w13 ⟨Fr5,_,rfl,hT13⟩;have hS13:=hS4.call hT13;have ler5:=hT13.ext;have hcl14:=(hS13.rowLn (k:=0) rfl).cells;refine qr (zmn (vs:=[(4,ur5_0)]) (v:=.agg (Catalog.cells (Catalog.mk 0 [] [] [] r5) (.sl none 0 (.k 0)) (.sl none 0 (.k 0)) (.sl none 0 (.k 0)) ur5_0)) Ty.bld38 rfl (by simp only [zly,hcl14];rfl)) ?_;refine xm (zft (cs:=[.i .i64 0,.sl none 0 (.k 0),.sl none 0 (.k 0),.sl none 0 (.k 0),.sl none 0 (.k 0)]) Ty.zuq rfl hS13) ?_;rintro _ w6 ⟨g6,rfl,hS6⟩;have hS7:=hS6.nilDp Snap.o;have hS8:=hS7.nilDp Chunk.o;have hS9:=hS8.nilDp Exp.o;refine um (zea (c:=[.i .i64 0,.sl none 0 (.k 0),.sl none 0 (.k 0),.sl none 0 (.k 0),ur5_0]) 3 ([.i .i64 0,.sl none 0 (.k 0),.sl none 0 (.k 0),.sl none 0 (.k 0),ur5_0]) rfl rfl hS9 rfl rfl Ty.zhx (by simp only [List.all_cons,List.all_nil,List.all_append,(hS9.rowLn (k:=4) rfl).one];rfl) rfl rfl) ?_;rintro _ w15 hS15;have hS10:=hS15.nilDp Snap.o;have hS11:=hS10.nilDp Chunk.o;have hS12:=hS11.nilDp Exp.o;refine qn ?_;refine zai (fun E wq=>∃ l17:List Exp,∃ l20:List Chunk,∃ l23:List Snap,∃ i26:Int,∃ l27:List Vol,zax.k1 l17 l20 l23 i26 l27=some r ∧ ∃ (F16:Frz) (u18:Val) (bs19:List Nat) (u21:Val) (bs22:List Nat) (u24:Val) (bs25:List Nat),E=[(4,pl g1 0),(6,pl g6 0)]∧Fr5.le F16∧St [] w F F16 [.dp Exp.o bs19 u18 l17,.dp Chunk.o bs22 u21 l20,.dp Snap.o bs25 u24 l23,.box g6 [.i .i64 i26,u24,u21,u18,ur5_0],.row Vol.t ur5_0 l27,.dp Exp.o [] (.sl none 0 (.k 0)) [],.dp Chunk.o [] (.sl none 0 (.k 0)) [],.dp Snap.o [] (.sl none 0 (.k 0)) [],.box g1 [.i .i64 0,(.sl none 0 (.k 0)),(.sl none 0 (.k 0)),(.sl none 0 (.k 0)),.sl none 0 (.k 0)]] wq) ?_ ?_
 ·refine qsc ?_;refine qr (zbs Tryz.underlying27 rfl h1.ln) ?_;refine qm ?_;refine zar ?_;refine zbm (fun (s:Int × (List Exp) × (List Chunk) × (List Snap) × Int × (List Vol)) E wq=>∃ (F106:Frz) (u109:Val) (bs110:List Nat) (u112:Val) (bs113:List Nat) (u115:Val) (bs116:List Nat),E=[(4,pl g1 0),(6,pl g6 0),(15,v1),(16,.i .i64 (x1.length:Int)),(17,.i .i64 s.1)]∧Fr5.le F106∧St [] w F F106 [.dp Exp.o bs110 u109 s.2.1,.dp Chunk.o bs113 u112 s.2.2.1,.dp Snap.o bs116 u115 s.2.2.2.1,.box g6 [.i .i64 s.2.2.2.2.1,u115,u112,u109,ur5_0],.row Vol.t ur5_0 s.2.2.2.2.2,.dp Exp.o [] (.sl none 0 (.k 0)) [],.dp Chunk.o [] (.sl none 0 (.k 0)) [],.dp Snap.o [] (.sl none 0 (.k 0)) [],.box g1 [.i .i64 0,(.sl none 0 (.k 0)),(.sl none 0 (.k 0)),(.sl none 0 (.k 0)),.sl none 0 (.k 0)]] wq) H ?_ ?_
  ·exact ⟨_,⟨Fr5,(.sl none 0 (.k 0)),[],(.sl none 0 (.k 0)),[],(.sl none 0 (.k 0)),[],rfl,(Frz.le.refl _),hS12.pick [0,1,2,6,7,8,9,10,11] (by decide)⟩,⟨rfl,rfl,rfl,rfl,rfl,trivial⟩⟩
  ·rintro rec119 ⟨i107,l108,l111,l114,i117,l118⟩ E w106 hI H
   try dsimp only at hI
   obtain ⟨F106,u109,bs110,u112,bs113,u115,bs116,rfl,le106,hS106⟩:=hI;dsimp only [zax.l8] at H;refine qs ?_;refine qr (zah rfl rfl zbp) ?_;refine qn ?_;refine zay ?_;refine qy H (fun hc120 H=>?_) (fun hc120 H=>?_)
   ·refine qk ?_;refine zai (fun E wq=>∃ l122:List Exp,∃ l125:List Chunk,∃ l128:List Snap,∃ i131:Int,∃ l132:List Vol,zax.k9 i107 rec119 l122 l125 l128 i131 l132=some r ∧ ∃ (F121:Frz) (u123:Val) (bs124:List Nat) (u126:Val) (bs127:List Nat) (u129:Val) (bs130:List Nat),E=[(4,pl g1 0),(6,pl g6 0),(15,v1),(16,.i .i64 (x1.length:Int)),(17,.i .i64 i107)]∧F106.le F121∧St [] w F F121 [.dp Exp.o bs124 u123 l122,.dp Chunk.o bs127 u126 l125,.dp Snap.o bs130 u129 l128,.box g6 [.i .i64 i131,u129,u126,u123,ur5_0],.row Vol.t ur5_0 l132,.dp Exp.o [] (.sl none 0 (.k 0)) [],.dp Chunk.o [] (.sl none 0 (.k 0)) [],.dp Snap.o [] (.sl none 0 (.k 0)) [],.box g1 [.i .i64 0,(.sl none 0 (.k 0)),(.sl none 0 (.k 0)),(.sl none 0 (.k 0)),.sl none 0 (.k 0)]] wq) ?_ ?_
    ·refine zar ?_;obtain ⟨x133,hx133,H⟩:=zap H;refine qs ?_;obtain ⟨hp136,hy136⟩:=zac hx133;obtain ⟨cs136,hr136,he136⟩:=(h1.mono (ler5.trans le106)).el hy136;obtain ⟨ue134_0,rfl,hue134_0⟩:=hr136;replace he136:=qj 7 he136;have hi136:=he136.ixd;refine qi Tryz.underlying27 Ty.zmt hi136 hp136 ?_;refine qr (zfe 0 (Found.cells x133 ue134_0) Ty.agg53 Ty.zmt rfl (he136.mono hS106.agree) (by omega) rfl (Nat.le_of_ble_eq_true rfl)) ?_;refine xm (zft (cs:=[.i .i64 0,.i .i64 0,.sl none 0 (.k 0),.i .i64 0,.i .i64 0,.i .i64 0,.i .i64 0]) Ty.zero53 rfl hS106) ?_;rintro _ w135 ⟨g135,rfl,hS135⟩;refine um (zea (c:=[.i .i64 x133.rec_.kind,.i .i64 x133.rec_.seq,ue134_0,.i .i64 x133.loc.vol,.i .i64 x133.loc.file,.i .i64 x133.loc.off,.i .i64 x133.loc.len]) 0 ([.i .i64 x133.rec_.kind,.i .i64 x133.rec_.seq,ue134_0,.i .i64 x133.loc.vol,.i .i64 x133.loc.file,.i .i64 x133.loc.off,.i .i64 x133.loc.len]) rfl rfl hS135 rfl rfl Ty.zmt (by simp only [List.all_cons,List.all_nil,List.all_append,hue134_0.ln.one];rfl) rfl rfl) ?_;rintro _ w137 hS137;refine qn ?_;refine qs ?_;refine qf Ty.zhc ?_;refine qf Ty.field49_0 ?_;refine qb 0 Ty.zdd hS137 ?_;refine qn ?_;refine zar ?_;refine qs ?_;refine qr (zah rfl rfl zeg) ?_;refine qm ?_;refine qy H (fun hc138 H=>?_) (fun hc138 H=>?_)
     ·obtain ⟨r139,hr139,H⟩:=zap H;refine qd ?_;refine qr (zde 0 (Found.cells x133 ue134_0) Ty.agg53 Ty.zmt (Nat.zero_lt_succ _) rfl hS137 rfl (fun q u h=>zdb (post:=[]) rfl h)) ?_;refine lm (ztq (x0:=(Catalog.mk i117 l114 l111 l108 l118)) (x1:=x133) (hS137.lendL [4,3,2,1,5] (by decide)) hue134_0 hr139) ?_;rintro v140 w140 ⟨Fr139,ur139_b0_1,bsr139_b0_1,ur139_b0_2,bsr139_b0_2,ur139_b0_3,bsr139_b0_3,rfl,hT140⟩;have hS140:=hS137.backL [4,3,2,1,5] [0,6,7,8,9] (by decide) (by decide) hT140;have ler139:=hT140.ext;refine zbk ?_;refine zbf ?_;refine zbf ?_;exact zbe _ ⟨r139.exps,r139.chunks,r139.snaps,r139.seq,r139.vols,H,⟨Fr139,ur139_b0_3,bsr139_b0_3,ur139_b0_2,bsr139_b0_2,ur139_b0_1,bsr139_b0_1,rfl,ler139,hS140.pick [3,2,1,0,4,6,7,8,9] (by decide)⟩⟩ ⟨rfl,rfl,rfl,rfl,rfl,trivial⟩
     ·refine qs ?_;refine qr (zah rfl rfl zeg) ?_;refine qm ?_;refine qy H (fun hc141 H=>?_) (fun hc141 H=>?_)
      ·obtain ⟨r142,hr142,H⟩:=zap H;refine qd ?_;refine qr (zde 0 (Found.cells x133 ue134_0) Ty.agg53 Ty.zmt (Nat.zero_lt_succ _) rfl hS137 rfl (fun q u h=>zdb (post:=[]) rfl h)) ?_;refine lm (zve (x0:=(Catalog.mk i117 l114 l111 l108 l118)) (x1:=x133) (hS137.lendL [4,3,2,1,5] (by decide)) hue134_0 hr142) ?_;rintro v143 w143 ⟨Fr142,ur142_b0_1,bsr142_b0_1,ur142_b0_2,bsr142_b0_2,ur142_b0_3,bsr142_b0_3,rfl,hT143⟩;have hS143:=hS137.backL [4,3,2,1,5] [0,6,7,8,9] (by decide) (by decide) hT143;have ler142:=hT143.ext;refine zbk ?_;refine zbf ?_;refine zbf ?_;exact zbe _ ⟨r142.exps,r142.chunks,r142.snaps,r142.seq,r142.vols,H,⟨Fr142,ur142_b0_3,bsr142_b0_3,ur142_b0_2,bsr142_b0_2,ur142_b0_1,bsr142_b0_1,rfl,ler142,hS143.pick [3,2,1,0,4,6,7,8,9] (by decide)⟩⟩ ⟨rfl,rfl,rfl,rfl,rfl,trivial⟩
      ·refine qs ?_;refine qr (zah rfl rfl zeg) ?_;refine qm ?_;refine qy H (fun hc144 H=>?_) (fun hc144 H=>?_)
       ·obtain ⟨r145,hr145,H⟩:=zap H;refine qd ?_;refine qr (zde 0 (Found.cells x133 ue134_0) Ty.agg53 Ty.zmt (Nat.zero_lt_succ _) rfl hS137 rfl (fun q u h=>zdb (post:=[]) rfl h)) ?_;refine lm (zws (x0:=(Catalog.mk i117 l114 l111 l108 l118)) (x1:=x133) (hS137.lendL [4,3,2,1,5] (by decide)) hue134_0 hr145) ?_;rintro v146 w146 ⟨Fr145,ur145_b0_1,bsr145_b0_1,ur145_b0_2,bsr145_b0_2,ur145_b0_3,bsr145_b0_3,rfl,hT146⟩;have hS146:=hS137.backL [4,3,2,1,5] [0,6,7,8,9] (by decide) (by decide) hT146;have ler145:=hT146.ext;refine zbk ?_;refine zbf ?_;refine zbf ?_;exact zbe _ ⟨r145.exps,r145.chunks,r145.snaps,r145.seq,r145.vols,H,⟨Fr145,ur145_b0_3,bsr145_b0_3,ur145_b0_2,bsr145_b0_2,ur145_b0_1,bsr145_b0_1,rfl,ler145,hS146.pick [3,2,1,0,4,6,7,8,9] (by decide)⟩⟩ ⟨rfl,rfl,rfl,rfl,rfl,trivial⟩
       ·refine zec ?_;refine zbf ?_;refine zbf ?_;exact zbe _ ⟨l108,l111,l114,i117,l118,H,⟨F106,u109,bs110,u112,bs113,u115,bs116,rfl,(Frz.le.refl _),hS137.pick [1,2,3,4,5,6,7,8,9] (by decide)⟩⟩ ⟨rfl,rfl,rfl,rfl,rfl,trivial⟩
    ·rintro E w121 ⟨l122,l125,l128,i131,l132,H,F121,u123,bs124,u126,bs127,u129,bs130,rfl,le121,hS121⟩;dsimp only [zax.k9] at H;refine qd ?_;refine q2 ?_;refine zbk ?_;exact zbd (wr (i107+1),l122,l125,l128,i131,l132) _ H ⟨F121,u123,bs124,u126,bs127,u129,bs130,rfl,(le106.trans le121),hS121⟩ ⟨rfl,rfl,rfl,rfl,rfl,trivial⟩
   ·refine zcc _ rfl ?_;exact zbe _ ⟨l108,l111,l114,i117,l118,H,⟨F106,u109,bs110,u112,bs113,u115,bs116,rfl,le106,hS106⟩⟩ ⟨rfl,rfl,trivial⟩
 ·rintro E w16 ⟨l17,l20,l23,i26,l27,H,F16,u18,bs19,u21,bs22,u24,bs25,rfl,le16,hS16⟩;dsimp only [zax.k1] at H;obtain ⟨r28,hr28,H⟩:=zap H;refine qs ?_;refine qr (zde 3 (Catalog.cells (Catalog.mk i26 l23 l20 l17 l27) u24 u21 u18 ur5_0) Ty.zql Ty.zhx (Nat.zero_lt_succ _) rfl hS16 rfl (fun q u h=>zdb (post:=[]) rfl h)) ?_;obtain ⟨F30,le30,hS30⟩:=St.flatD Snap.sees 2 hS16 rfl;obtain ⟨F31,le31,hS31⟩:=St.flatD Chunk.sees 1 hS30 rfl;obtain ⟨F32,le32,hS32⟩:=St.flatD Exp.sees 0 hS31 rfl;refine lm (ztp (x0:=(Catalog.mk i26 l23 l20 l17 l27)) (hS32.lendL [2,1,0,4] (by decide)) hr28) ?_;rintro ur28_0 w29 ⟨Fr28,_,rfl,hT29⟩;have hS29:=hS32.backL [2,1,0,4] [3,5,6,7,8] (by decide) (by decide) hT29;have ler28:=hT29.ext;refine qf Ty.zdi ?_;refine um (zea (c:=[ur28_0]) 5 ([.i .i64 i26,ur28_0,u21,u18,ur5_0]) rfl rfl hS29 rfl (hS29.rowLn (k:=0) rfl).cells Ty.size34 (by simp only [List.all_cons,List.all_nil,List.all_append,(hS29.rowLn (k:=0) rfl).one];rfl) rfl rfl) ?_;rintro _ w33 hS33;refine qn ?_;refine zai (fun E wq=>∃ l35:List Snap,zax.k2 l17 l20 i26 l27 l35=some r ∧ ∃ (F34:Frz),E=[(4,pl g1 0),(6,pl g6 0)]∧Fr28.le F34∧St [] w F F34 [.row Snap.t ur28_0 l35,.row Chunk.t u21 l20,.row Exp.t u18 l17,.row Vol.t ur5_0 l27,.box g6 [.i .i64 i26,ur28_0,u21,u18,ur5_0],.dp Exp.o [] (.sl none 0 (.k 0)) [],.dp Chunk.o [] (.sl none 0 (.k 0)) [],.dp Snap.o [] (.sl none 0 (.k 0)) [],.box g1 [.i .i64 0,(.sl none 0 (.k 0)),(.sl none 0 (.k 0)),(.sl none 0 (.k 0)),.sl none 0 (.k 0)]] wq) ?_ ?_
  ·refine qs ?_;refine qf Ty.zdi ?_;refine qb 5 Ty.zhr hS33 ?_;refine qr (zbs Tryz.underlying34 rfl (hS33.rowLn (k:=0) rfl)) ?_;refine qm ?_;refine zar ?_;refine zbm (fun (s:Int × (List Snap)) E wq=>∃ (F93:Frz),E=[(4,pl g1 0),(6,pl g6 0),(42,.i .i64 (r28.length:Int)),(43,.i .i64 s.1)]∧Fr28.le F93∧St [] w F F93 [.row Snap.t ur28_0 s.2,.row Chunk.t u21 l20,.row Exp.t u18 l17,.row Vol.t ur5_0 l27,.box g6 [.i .i64 i26,ur28_0,u21,u18,ur5_0],.dp Exp.o [] (.sl none 0 (.k 0)) [],.dp Chunk.o [] (.sl none 0 (.k 0)) [],.dp Snap.o [] (.sl none 0 (.k 0)) [],.box g1 [.i .i64 0,(.sl none 0 (.k 0)),(.sl none 0 (.k 0)),(.sl none 0 (.k 0)),.sl none 0 (.k 0)]] wq) H ?_ ?_
   ·exact ⟨_,⟨Fr28,rfl,(Frz.le.refl _),hS33.pick [0,2,3,4,5,6,7,8,9] (by decide)⟩,⟨rfl,rfl,rfl,rfl,trivial⟩⟩
   ·rintro rec96 ⟨i94,l95⟩ E w93 hI H
    try dsimp only at hI
    obtain ⟨F93,rfl,le93,hS93⟩:=hI;dsimp only [zax.l7] at H;refine qs ?_;refine qr (zah rfl rfl zbp) ?_;refine qn ?_;refine zay ?_;refine qy H (fun hc97 H=>?_) (fun hc97 H=>?_)
    ·refine qk ?_;refine zay ?_;refine zar ?_;refine qsc ?_;refine qm ?_;obtain ⟨x98,hx98,r100,hr100,H⟩:=bd2 H;have hb101:=hS93.boxAt 4 rfl;refine zaz (G:=(F93.hold w93 [g6])) [0,1,2,3,4,5,6,7,8,9,10,11,12] rfl Ty.mixed (by kernel_rfl) (HB.agree (HB.cons 4 hb101 hS93 rfl HB.nil) hS93.agree) ?_;refine qf Ty.zdi ?_;refine qr (zfj Ty.zhr rfl (hb101.held (HB.cons 4 hb101 hS93 rfl HB.nil) (by simp)) rfl) ?_;refine qc ?_;refine qf Ty.zdi ?_;refine qbq 4 Ty.zhr hS93 ?_;refine qc ?_;obtain ⟨hp102,hy102⟩:=zac hx98;obtain ⟨cs102,hr102,he102⟩:=hS93.rowAt (k:=0) rfl hy102;obtain ⟨ue99_0,ue99_1,rfl,hue99_0,hue99_1⟩:=hr102;replace he102:=qj 4 he102;have hi102:=he102.ixd;refine qi Tryz.underlying34 Ty.zdl hi102 hp102 ?_;refine qr (zfm 3 Ty.zid rfl hi102) ?_;refine qq (zfs 3 Ty.zhh rfl he102 (by omega) rfl) ?_;refine ql (zor hS93.good hue99_1 hr100) ?_;rintro ur100_0 w103 ⟨Fr100,_,rfl,hT103⟩;have hS103:=hS93.call hT103;have ler100:=hT103.ext;refine Nxt.frz (HB.le (HB.cons 5 hb101 hS103 rfl HB.nil) ler100) (HB.agree (HB.cons 5 hb101 hS103 rfl HB.nil) hS103.agree) ?_;refine qi Tryz.underlying34 Ty.zdl hi102 hp102 ?_;refine qr (zfm 3 Ty.zid rfl hi102) ?_;obtain ⟨F105,le105,hf105,hS105⟩:=hS103.freezeR 0 [1,2,3,4,5,6,7,8,9] rfl (by decide) (by decide);refine W_rg (HB.le (HB.cons 4 hb101 hS105 rfl HB.nil) le105) (HB.agree (HB.cons 4 hb101 hS105 rfl HB.nil) hS105.agree) ?_;refine qu (zuc (c:=[ur100_0]) 0 (i94.toNat) 3 x98 (Snap.mk x98.seq x98.man r100) rfl rfl hS105 rfl (zac hx98).2 (by first | rfl | (show _=_*4+_;omega)) hf105.ln.cells Ty.zrh (by simp only [List.all_cons,List.all_nil,List.all_append,hf105.ln.one];rfl) (Nat.le_of_ble_eq_true rfl) (by rintro cs ⟨a2,a3,rfl,b2,b3⟩;exact ⟨a2,ur100_0,rfl,b2,hf105⟩)) ?_;rintro _ w104 hS104;refine qh 4 hb101 hS104 ?_;refine zbk ?_;refine zbf ?_;refine zcl ?_;refine qd ?_;refine q2 ?_;refine zbk ?_;exact zbd (wr (i94+1),(l95.set i94.toNat (Snap.mk x98.seq x98.man r100))) _ H ⟨F105,rfl,((le93.trans ler100).trans le105),hS104⟩ ⟨rfl,rfl,rfl,rfl,trivial⟩
    ·refine zcc _ rfl ?_;exact zbe _ ⟨l95,H,⟨F93,rfl,le93,hS93⟩⟩ ⟨rfl,rfl,trivial⟩
  ·rintro E w34 ⟨l35,H,F34,rfl,le34,hS34⟩;dsimp only [zax.k2] at H;refine zai (fun E wq=>∃ l37:List Chunk,zax.k3 l17 i26 l27 l35 l37=some r ∧ ∃ (F36:Frz),E=[(4,pl g1 0),(6,pl g6 0)]∧F34.le F36∧St [] w F F36 [.row Snap.t ur28_0 l35,.row Chunk.t u21 l37,.row Exp.t u18 l17,.row Vol.t ur5_0 l27,.box g6 [.i .i64 i26,ur28_0,u21,u18,ur5_0],.dp Exp.o [] (.sl none 0 (.k 0)) [],.dp Chunk.o [] (.sl none 0 (.k 0)) [],.dp Snap.o [] (.sl none 0 (.k 0)) [],.box g1 [.i .i64 0,(.sl none 0 (.k 0)),(.sl none 0 (.k 0)),(.sl none 0 (.k 0)),.sl none 0 (.k 0)]] wq) ?_ ?_
   ·refine qs ?_;refine qf Ty.zcq ?_;refine qb 4 Ty.zgd hS34 ?_;refine qr (zbs Tryz.underlying35 rfl (hS34.rowLn (k:=1) rfl)) ?_;refine qm ?_;refine zar ?_;refine zbm (fun (s:Int × (List Chunk)) E wq=>∃ (F80:Frz),E=[(4,pl g1 0),(6,pl g6 0),(61,.i .i64 (l20.length:Int)),(62,.i .i64 s.1)]∧F34.le F80∧St [] w F F80 [.row Snap.t ur28_0 l35,.row Chunk.t u21 s.2,.row Exp.t u18 l17,.row Vol.t ur5_0 l27,.box g6 [.i .i64 i26,ur28_0,u21,u18,ur5_0],.dp Exp.o [] (.sl none 0 (.k 0)) [],.dp Chunk.o [] (.sl none 0 (.k 0)) [],.dp Snap.o [] (.sl none 0 (.k 0)) [],.box g1 [.i .i64 0,(.sl none 0 (.k 0)),(.sl none 0 (.k 0)),(.sl none 0 (.k 0)),.sl none 0 (.k 0)]] wq) H ?_ ?_
    ·exact ⟨_,⟨F34,rfl,(Frz.le.refl _),hS34⟩,⟨rfl,rfl,rfl,rfl,trivial⟩⟩
    ·rintro rec83 ⟨i81,l82⟩ E w80 hI H
     try dsimp only at hI
     obtain ⟨F80,rfl,le80,hS80⟩:=hI;dsimp only [zax.l6] at H;refine qs ?_;refine qr (zah rfl rfl zbp) ?_;refine qn ?_;refine zay ?_;refine qy H (fun hc84 H=>?_) (fun hc84 H=>?_)
     ·refine qk ?_;refine zay ?_;refine zar ?_;refine qsc ?_;refine qm ?_;obtain ⟨x85,hx85,r87,hr87,H⟩:=bd2 H;have hb88:=hS80.boxAt 4 rfl;refine zaz (G:=(F80.hold w80 [g6])) [0,1,2,3,4,5,6,7,8,9,10,11,12] rfl Ty.mixed (by kernel_rfl) (HB.agree (HB.cons 4 hb88 hS80 rfl HB.nil) hS80.agree) ?_;refine qf Ty.zcq ?_;refine qr (zfj Ty.zgd rfl (hb88.held (HB.cons 4 hb88 hS80 rfl HB.nil) (by simp)) rfl) ?_;refine qc ?_;refine qf Ty.zcq ?_;refine qbq 4 Ty.zgd hS80 ?_;refine qc ?_;obtain ⟨hp89,hy89⟩:=zac hx85;obtain ⟨cs89,hr89,he89⟩:=hS80.rowAt (k:=1) rfl hy89;obtain ⟨ue86_0,ue86_1,rfl,hle86_0,hue86_0,hue86_1⟩:=hr89;replace he89:=qj 35 he89;have hi89:=he89.ixd;refine qi Tryz.underlying35 Ty.zep hi89 hp89 ?_;refine qr (zfm 34 Ty.zgs rfl hi89) ?_;refine qq (zfs 34 Ty.zhh rfl he89 (by omega) rfl) ?_;refine ql (zor hS80.good hue86_1 hr87) ?_;rintro ur87_0 w90 ⟨Fr87,_,rfl,hT90⟩;have hS90:=hS80.call hT90;have ler87:=hT90.ext;refine Nxt.frz (HB.le (HB.cons 5 hb88 hS90 rfl HB.nil) ler87) (HB.agree (HB.cons 5 hb88 hS90 rfl HB.nil) hS90.agree) ?_;refine qi Tryz.underlying35 Ty.zep hi89 hp89 ?_;refine qr (zfm 34 Ty.zgs rfl hi89) ?_;obtain ⟨F92,le92,hf92,hS92⟩:=hS90.freezeR 0 [1,2,3,4,5,6,7,8,9] rfl (by decide) (by decide);refine W_rg (HB.le (HB.cons 4 hb88 hS92 rfl HB.nil) le92) (HB.agree (HB.cons 4 hb88 hS92 rfl HB.nil) hS92.agree) ?_;refine qu (zuc (c:=[ur87_0]) 1 (i81.toNat) 34 x85 (Chunk.mk x85.id x85.staged x85.data r87) rfl rfl hS92 rfl (zac hx85).2 (by first | rfl | (show _=_*35+_;omega)) hf92.ln.cells Ty.zrh (by simp only [List.all_cons,List.all_nil,List.all_append,hf92.ln.one];rfl) (Nat.le_of_ble_eq_true rfl) (by rintro cs ⟨a2,a3,rfl,c0,b2,b3⟩;exact ⟨a2,ur87_0,rfl,c0,b2,hf92⟩)) ?_;rintro _ w91 hS91;refine qh 4 hb88 hS91 ?_;refine zbk ?_;refine zbf ?_;refine zcl ?_;refine qd ?_;refine q2 ?_;refine zbk ?_;exact zbd (wr (i81+1),(l82.set i81.toNat (Chunk.mk x85.id x85.staged x85.data r87))) _ H ⟨F92,rfl,((le80.trans ler87).trans le92),hS91⟩ ⟨rfl,rfl,rfl,rfl,trivial⟩
     ·refine zcc _ rfl ?_;exact zbe _ ⟨l82,H,⟨F80,rfl,le80,hS80⟩⟩ ⟨rfl,rfl,trivial⟩
   ·rintro E w36 ⟨l37,H,F36,rfl,le36,hS36⟩;dsimp only [zax.k3] at H;refine zai (fun E wq=>∃ l39:List Exp,zax.k4 i26 l27 l35 l37 l39=some r ∧ ∃ (F38:Frz),E=[(4,pl g1 0),(6,pl g6 0)]∧F36.le F38∧St [] w F F38 [.row Snap.t ur28_0 l35,.row Chunk.t u21 l37,.row Exp.t u18 l39,.row Vol.t ur5_0 l27,.box g6 [.i .i64 i26,ur28_0,u21,u18,ur5_0],.dp Exp.o [] (.sl none 0 (.k 0)) [],.dp Chunk.o [] (.sl none 0 (.k 0)) [],.dp Snap.o [] (.sl none 0 (.k 0)) [],.box g1 [.i .i64 0,(.sl none 0 (.k 0)),(.sl none 0 (.k 0)),(.sl none 0 (.k 0)),.sl none 0 (.k 0)]] wq) ?_ ?_
    ·refine qs ?_;refine qf Ty.zef ?_;refine qb 4 Ty.ziy hS36 ?_;refine qr (zbs Tryz.underlying36 rfl (hS36.rowLn (k:=2) rfl)) ?_;refine qm ?_;refine zar ?_;refine zbm (fun (s:Int × (List Exp)) E wq=>∃ (F67:Frz),E=[(4,pl g1 0),(6,pl g6 0),(80,.i .i64 (l17.length:Int)),(81,.i .i64 s.1)]∧F36.le F67∧St [] w F F67 [.row Snap.t ur28_0 l35,.row Chunk.t u21 l37,.row Exp.t u18 s.2,.row Vol.t ur5_0 l27,.box g6 [.i .i64 i26,ur28_0,u21,u18,ur5_0],.dp Exp.o [] (.sl none 0 (.k 0)) [],.dp Chunk.o [] (.sl none 0 (.k 0)) [],.dp Snap.o [] (.sl none 0 (.k 0)) [],.box g1 [.i .i64 0,(.sl none 0 (.k 0)),(.sl none 0 (.k 0)),(.sl none 0 (.k 0)),.sl none 0 (.k 0)]] wq) H ?_ ?_
     ·exact ⟨_,⟨F36,rfl,(Frz.le.refl _),hS36⟩,⟨rfl,rfl,rfl,rfl,trivial⟩⟩
     ·rintro rec70 ⟨i68,l69⟩ E w67 hI H
      try dsimp only at hI
      obtain ⟨F67,rfl,le67,hS67⟩:=hI;dsimp only [zax.l5] at H;refine qs ?_;refine qr (zah rfl rfl zbp) ?_;refine qn ?_;refine zay ?_;refine qy H (fun hc71 H=>?_) (fun hc71 H=>?_)
      ·refine qk ?_;refine zay ?_;refine zar ?_;refine qsc ?_;refine qm ?_;obtain ⟨x72,hx72,r74,hr74,H⟩:=bd2 H;have hb75:=hS67.boxAt 4 rfl;refine zaz (G:=(F67.hold w67 [g6])) [0,1,2,3,4,5,6,7,8,9,10,11,12] rfl Ty.mixed (by kernel_rfl) (HB.agree (HB.cons 4 hb75 hS67 rfl HB.nil) hS67.agree) ?_;refine qf Ty.zef ?_;refine qr (zfj Ty.ziy rfl (hb75.held (HB.cons 4 hb75 hS67 rfl HB.nil) (by simp)) rfl) ?_;refine qc ?_;refine qf Ty.zef ?_;refine qbq 4 Ty.ziy hS67 ?_;refine qc ?_;obtain ⟨hp76,hy76⟩:=zac hx72;obtain ⟨cs76,hr76,he76⟩:=hS67.rowAt (k:=2) rfl hy76;obtain ⟨ue73_0,rfl,hue73_0⟩:=hr76;replace he76:=qj 3 he76;have hi76:=he76.ixd;refine qi Tryz.underlying36 Ty.zfb hi76 hp76 ?_;refine qr (zfm 2 Ty.zit rfl hi76) ?_;refine qq (zfs 2 Ty.zhh rfl he76 (by omega) rfl) ?_;refine ql (zor hS67.good hue73_0 hr74) ?_;rintro ur74_0 w77 ⟨Fr74,_,rfl,hT77⟩;have hS77:=hS67.call hT77;have ler74:=hT77.ext;refine Nxt.frz (HB.le (HB.cons 5 hb75 hS77 rfl HB.nil) ler74) (HB.agree (HB.cons 5 hb75 hS77 rfl HB.nil) hS77.agree) ?_;refine qi Tryz.underlying36 Ty.zfb hi76 hp76 ?_;refine qr (zfm 2 Ty.zit rfl hi76) ?_;obtain ⟨F79,le79,hf79,hS79⟩:=hS77.freezeR 0 [1,2,3,4,5,6,7,8,9] rfl (by decide) (by decide);refine W_rg (HB.le (HB.cons 4 hb75 hS79 rfl HB.nil) le79) (HB.agree (HB.cons 4 hb75 hS79 rfl HB.nil) hS79.agree) ?_;refine qu (zuc (c:=[ur74_0]) 2 (i68.toNat) 2 x72 (Exp.mk x72.seq x72.of r74) rfl rfl hS79 rfl (zac hx72).2 (by first | rfl | (show _=_*3+_;omega)) hf79.ln.cells Ty.zrh (by simp only [List.all_cons,List.all_nil,List.all_append,hf79.ln.one];rfl) (Nat.le_of_ble_eq_true rfl) (by rintro cs ⟨a2,rfl,b2⟩;exact ⟨ur74_0,rfl,hf79⟩)) ?_;rintro _ w78 hS78;refine qh 4 hb75 hS78 ?_;refine zbk ?_;refine zbf ?_;refine zcl ?_;refine qd ?_;refine q2 ?_;refine zbk ?_;exact zbd (wr (i68+1),(l69.set i68.toNat (Exp.mk x72.seq x72.of r74))) _ H ⟨F79,rfl,((le67.trans ler74).trans le79),hS78⟩ ⟨rfl,rfl,rfl,rfl,trivial⟩
      ·refine zcc _ rfl ?_;exact zbe _ ⟨l69,H,⟨F67,rfl,le67,hS67⟩⟩ ⟨rfl,rfl,trivial⟩
    ·rintro E w38 ⟨l39,H,F38,rfl,le38,hS38⟩;dsimp only [zax.k4] at H;refine zay ?_;obtain ⟨r40,hr40,H⟩:=zap H;refine qs ?_;refine qr (zde 4 (Catalog.cells (Catalog.mk i26 l35 l37 l39 l27) ur28_0 u21 u18 ur5_0) Ty.zql Ty.zhx (Nat.zero_lt_succ _) rfl hS38 rfl (fun q u h=>zdb (post:=[]) rfl h)) ?_;refine lm (zua (Gd.now hS38.wf) (hS38.rowNow (k:=0) rfl) (hS38.rowNow (k:=1) rfl) (hS38.rowNow (k:=2) rfl) (hS38.rowNow (k:=3) rfl) hr40) ?_;rintro v41 w41 ⟨Fr40,rfl,hT41⟩;have hS41:=hS38.lent hT41;refine qr (zah rfl rfl zeb) ?_;refine qn ?_;refine qy H (fun hc42 H=>?_) (fun hc42 H=>?_)
     ·refine qs ?_;refine W_c (v:=.agg (Catalog.cells (Catalog.mk 0 [] [] [] []) (.sl none 0 (.k 0)) (.sl none 0 (.k 0)) (.sl none 0 (.k 0)) (.sl none 0 (.k 0)))) rfl rfl rfl rfl (fun _=>rfl) ?_;refine um (zea (c:=[.i .i64 0,.sl none 0 (.k 0),.sl none 0 (.k 0),.sl none 0 (.k 0),.sl none 0 (.k 0)]) 8 ([.i .i64 0,.sl none 0 (.k 0),.sl none 0 (.k 0),.sl none 0 (.k 0),.sl none 0 (.k 0)]) rfl rfl hS41 rfl rfl Ty.zhx rfl rfl rfl) ?_;rintro _ w46 hS46;have hS43:=hS46.nilDp Snap.o;have hS44:=hS43.nilDp Chunk.o;have hS45:=hS44.nilDp Exp.o;refine qm ?_;obtain ⟨F47,le47,hS47⟩:=St.flatD Snap.sees 2 hS45 rfl;obtain ⟨F48,le48,hf48,hS48⟩:=hS47.freezeR 2 [0,1,3,4,5,6,7,8,9,10,11] rfl (by decide) (by decide);obtain ⟨F49,le49,hS49⟩:=St.flatD Chunk.sees 1 hS48 rfl;obtain ⟨F50,le50,hf50,hS50⟩:=hS49.freezeR 1 [0,2,3,4,5,6,7,8,9,10] rfl (by decide) (by decide);obtain ⟨F51,le51,hS51⟩:=St.flatD Exp.sees 0 hS50 rfl;obtain ⟨F52,le52,hf52,hS52⟩:=hS51.freezeR 0 [1,2,3,4,5,6,7,8,9] rfl (by decide) (by decide);have hS53:St [] w F F52 [.row Snap.t ur28_0 l35,.row Chunk.t u21 l37,.row Exp.t u18 l39,.row Vol.t ur5_0 l27,.box g6 [.i .i64 i26,ur28_0,u21,u18,ur5_0],.dp Exp.o [] (.sl none 0 (.k 0)) [],.dp Chunk.o [] (.sl none 0 (.k 0)) [],.dp Snap.o [] (.sl none 0 (.k 0)) [],.box g1 [.i .i64 0,(.sl none 0 (.k 0)),(.sl none 0 (.k 0)),(.sl none 0 (.k 0)),.sl none 0 (.k 0)]] _:=hS52;obtain rfl:=oi H;refine zoe (vs:=[.agg (Catalog.cells (Catalog.mk 0 [] [] [] []) (.sl none 0 (.k 0)) (.sl none 0 (.k 0)) (.sl none 0 (.k 0)) (.sl none 0 (.k 0))),.i .i64 1]) rfl ⟨(zkv 8 Ty.zql Ty.zhx hS53 rfl rfl),rfl,trivial⟩ ?_;exact ⟨F52,(.sl none 0 (.k 0)),(.sl none 0 (.k 0)),(.sl none 0 (.k 0)),.sl none 0 (.k 0),rfl,(hf48.mono (((le49.trans le50).trans le51).trans le52)),(hf50.mono (le51.trans le52)),hf52,(SlF.nil _),hS53.pick [] (by decide)⟩
     ·refine qk ?_;obtain ⟨r54,hr54,H⟩:=zap H;refine qs ?_;refine qr (zde 4 (Catalog.cells (Catalog.mk i26 l35 l37 l39 l27) ur28_0 u21 u18 ur5_0) Ty.zql Ty.zhx (Nat.zero_lt_succ _) rfl hS41 rfl (fun q u h=>zdb (post:=[]) rfl h)) ?_;obtain ⟨F55,le55,hf55,hS55⟩:=hS41.freezeR 0 [1,2,3,4,5,6,7,8] rfl (by decide) (by decide);obtain ⟨F56,le56,hf56,hS56⟩:=hS55.freezeR 0 [1,2,3,4,5,6,7] rfl (by decide) (by decide);obtain ⟨F57,le57,hf57,hS57⟩:=hS56.freezeR 0 [1,2,3,4,5,6] rfl (by decide) (by decide);have hS58:St [] w F F57 [.row Vol.t ur5_0 l27,.box g6 [.i .i64 i26,ur28_0,u21,u18,ur5_0],.dp Exp.o [] (.sl none 0 (.k 0)) [],.dp Chunk.o [] (.sl none 0 (.k 0)) [],.dp Snap.o [] (.sl none 0 (.k 0)) [],.box g1 [.i .i64 0,(.sl none 0 (.k 0)),(.sl none 0 (.k 0)),(.sl none 0 (.k 0)),.sl none 0 (.k 0)]] _:=hS57;obtain ⟨F59,le59,hf59,hS59⟩:=hS58.freezeR 0 [1,2,3,4,5] rfl (by decide) (by decide);refine lm (zwj hS59.good (hf55.mono ((le56.trans le57).trans le59)) (hf56.mono (le57.trans le59)) (hf57.mono le59) hf59 hr54) ?_;rintro v60 w60 ⟨Fr54,ur54_0_0,ur54_0_1,ur54_0_2,ur54_0_3,rfl,hT60⟩;have hS60:=hS59.call hT60;have ler54:=hT60.ext;refine um (zea (c:=[.i .i64 r54.seq,ur54_0_0,ur54_0_1,ur54_0_2,ur54_0_3]) 8 ([.i .i64 r54.seq,ur54_0_0,ur54_0_1,ur54_0_2,ur54_0_3]) rfl rfl hS60 rfl rfl Ty.zhx (by simp only [List.all_cons,List.all_nil,List.all_append,(hS60.rowLn (k:=0) rfl).one,(hS60.rowLn (k:=1) rfl).one,(hS60.rowLn (k:=2) rfl).one,(hS60.rowLn (k:=3) rfl).one];rfl) rfl rfl) ?_;rintro _ w61 hS61;refine qm ?_;obtain ⟨F62,le62,hf62,hS62⟩:=hS61.freezeR 0 [1,2,3,4,5,6,7,8] rfl (by decide) (by decide);obtain ⟨F63,le63,hf63,hS63⟩:=hS62.freezeR 0 [1,2,3,4,5,6,7] rfl (by decide) (by decide);have hS64:St [] w F F63 [.row Exp.t ur54_0_2 r54.exps,.row Vol.t ur54_0_3 r54.vols,.box g6 [.i .i64 i26,ur28_0,u21,u18,ur5_0],.dp Exp.o [] (.sl none 0 (.k 0)) [],.dp Chunk.o [] (.sl none 0 (.k 0)) [],.dp Snap.o [] (.sl none 0 (.k 0)) [],.box g1 [.i .i64 r54.seq,ur54_0_0,ur54_0_1,ur54_0_2,ur54_0_3]] _:=hS63;obtain ⟨F65,le65,hf65,hS65⟩:=hS64.freezeR 0 [1,2,3,4,5,6] rfl (by decide) (by decide);obtain ⟨F66,le66,hf66,hS66⟩:=hS65.freezeR 0 [1,2,3,4,5] rfl (by decide) (by decide);obtain rfl:=oi H;refine zoe (vs:=[.agg (Catalog.cells r54 ur54_0_0 ur54_0_1 ur54_0_2 ur54_0_3),.i .i64 0]) rfl ⟨(zkv 4 Ty.zql Ty.zhx hS66 rfl rfl),rfl,trivial⟩ ?_
      exact ⟨F66,ur54_0_0,ur54_0_1,ur54_0_2,ur54_0_3,rfl,(hf62.mono ((le63.trans le65).trans le66)),(hf63.mono (le65.trans le66)),(hf65.mono le66),hf66,hS66.pick [] (by decide)⟩
def zgk:Option Bool :=
  bd (zax [(Vol.mk 0 0 2 1)] [(Found.mk (Record.mk 1 0 [(120:UInt8)]) (Loc.mk 0 1 13 14))]) fun r4 =>
  bd (only (decide (r4.2=0)&&decide ((r4.1.chunks.length:Int)=1)) (ix r4.1.chunks 0) (Chunk.mk (List.replicate 32 (0:UInt8)) false [] [])) fun x13 =>
  bd (only ((decide (r4.2=0)&&decide ((r4.1.chunks.length:Int)=1))&&decide ((x13.locs.length:Int)=1)) (ix r4.1.chunks 0) (Chunk.mk (List.replicate 32 (0:UInt8)) false [] [])) fun x15 =>
  some (((decide (r4.2=0)&&decide ((r4.1.chunks.length:Int)=1))&&decide ((x13.locs.length:Int)=1))&&(!x15.staged))
theorem zjy {r:Bool} (hA:Gd F w) (H:zgk=some r):Ret Tryz.prog KK 11 [] w fun v w'=>∃ (F':Frz),v = .b r∧St [] w F F' [] w':=by
 refine zsf (args:=[]) Tryz.func11 rfl (by decide) rfl ?_;change C _ _ _ _ _ [] _;have hS:=St.start hA;dsimp only [zgk] at H;refine qsm ?_;obtain ⟨r4,hr4,H⟩:=zap H;refine qs ?_;refine W_c (v:=.agg (Vol.cells (Vol.mk 0 0 2 1))) rfl rfl rfl rfl (fun _=>rfl) ?_;refine xm (E_bs (t:=Vol.t) (vs:=[.agg (Vol.cells (Vol.mk 0 0 2 1))]) (xs:=[(Vol.mk 0 0 2 1)]) Tryz.underlying33 Ty.row32 rfl ⟨rfl,trivial⟩ rfl rfl hS) ?_;rintro u1 w1 hS1;refine xm (E_bs (t:=tB) (vs:=[.i .u8 ((120:UInt8).toNat:Int)]) (xs:=[(120:UInt8)]) Tryz.underlying47 Ty.row5 rfl ⟨rfl,trivial⟩ rfl rfl hS1) ?_;rintro u2 w2 hS2;refine xm (E_cvt 0 Tryz.underlying47 Tryz.underlying5 rfl hS2 rfl (List.cons_ne_nil _ _) rfl) ?_;rintro _ _ ⟨rfl,rfl⟩;have hcl6:=(hS2.rowLn (k:=0) rfl).cells;refine qr (zmn (vs:=[(0,.i .i64 1),(2,u2)]) (v:=.agg (Record.cells (Record.mk 1 0 [(120:UInt8)]) u2)) Ty.bld49 rfl (by simp only [zly,hcl6];rfl)) ?_;refine W_c (v:=.agg (Loc.cells (Loc.mk 0 1 13 14))) rfl rfl rfl rfl (fun _=>rfl) ?_;have hcl7:=(hS2.rowLn (k:=0) rfl).cells;refine qr (zmn (vs:=[(0,.agg (Record.cells (Record.mk 1 0 [(120:UInt8)]) u2)),(1,.agg (Loc.cells (Loc.mk 0 1 13 14)))]) (v:=.agg (Found.cells (Found.mk (Record.mk 1 0 [(120:UInt8)]) (Loc.mk 0 1 13 14)) u2)) Ty.bld53 rfl (by simp only [zly,hcl7];rfl)) ?_;obtain ⟨F8,le8,hf8,hS8⟩:=hS2.freezeR 0 [1] rfl (by decide) (by decide);refine xm (E_bs (t:=Found.t) (vs:=[.agg (Found.cells (Found.mk (Record.mk 1 0 [(120:UInt8)]) (Loc.mk 0 1 13 14)) u2)]) (xs:=[(Found.mk (Record.mk 1 0 [(120:UInt8)]) (Loc.mk 0 1 13 14))]) Tryz.underlying27 Ty.zwq rfl ⟨⟨u2,rfl,hf8⟩,trivial⟩ rfl rfl hS8) ?_;rintro u3 w3 hS3;obtain ⟨F9,le9,hf9,hS9⟩:=hS3.freezeR 1 [0] rfl (by decide) (by decide);obtain ⟨F10,le10,hf10,hS10⟩:=hS9.freezeR 0 [] rfl (by decide) (by decide);refine lm (zjh hS10.good (hf9.mono le10) hf10 hr4) ?_;rintro v11 w11 ⟨Fr4,ur4_0_0,ur4_0_1,ur4_0_2,ur4_0_3,rfl,hfr4_0_0,hfr4_0_1,hfr4_0_2,hfr4_0_3,hT11⟩;have hS11:=hS10.call hT11;have ler4:=hT11.ext;refine q3 ?_;refine xm (zft (cs:=[.i .i64 0,.sl none 0 (.k 0),.sl none 0 (.k 0),.sl none 0 (.k 0),.sl none 0 (.k 0)]) Ty.zuq rfl hS11) ?_;rintro _ w5 ⟨g5,rfl,hS5⟩;refine um (zea (c:=[.i .i64 r4.1.seq,ur4_0_0,ur4_0_1,ur4_0_2,ur4_0_3]) 0 ([.i .i64 r4.1.seq,ur4_0_0,ur4_0_1,ur4_0_2,ur4_0_3]) rfl rfl hS5 rfl rfl Ty.zhx (by simp only [List.all_cons,List.all_nil,List.all_append,hfr4_0_0.ln.one,hfr4_0_1.ln.one,hfr4_0_2.ln.one,hfr4_0_3.ln.one];rfl) rfl rfl) ?_
 rintro _ w12 hS12;refine qm ?_;refine zay ?_;obtain ⟨x13,hx13,x15,hx15,H⟩:=bd2 H;refine zsh (fun E wq=>E=[(0,.b (((decide (r4.2=0)&&decide ((r4.1.chunks.length:Int)=1))&&decide ((x13.locs.length:Int)=1))&&(!x15.staged)))] ∧ ∃ F17:Frz,Fr4.le F17∧St [] w F F17 [.box g5 [.i .i64 r4.1.seq,ur4_0_0,ur4_0_1,ur4_0_2,ur4_0_3]] wq) ?_ ?_
 ·
  rcases Bool.eq_false_or_eq_true (decide (r4.2=0)) with hb18 | hb18
  ·
   rcases Bool.eq_false_or_eq_true (decide ((r4.1.chunks.length:Int)=1)) with hb19 | hb19
   ·
    rcases Bool.eq_false_or_eq_true (decide ((x13.locs.length:Int)=1)) with hb20 | hb20
    ·refine qd ?_;refine qc ?_;refine qr (zah rfl rfl zeg) ?_;refine qc ?_;refine qvb 17 hb18 ?_;refine qf Ty.zcq ?_;refine qb 0 Ty.zgd hS12 ?_;refine qr (zbs Tryz.underlying35 rfl hfr4_0_1.ln) ?_;refine qr (zah rfl rfl zeg) ?_;refine q2 ?_;refine qvb 23 hb19 ?_;refine qf Ty.zcq ?_;refine qb 0 Ty.zgd hS12 ?_;have hy21:=hx13;rw [zbu (by first | rfl | (rw [hb19,hb18];first | done | rfl) | simp [hb18,hb19,hb20])] at hy21;obtain ⟨hp22,hy22⟩:=zac hy21;obtain ⟨cs22,hr22,he22⟩:=hfr4_0_1.el hy22;obtain ⟨ue14_0,ue14_1,rfl,hle14_0,hue14_0,hue14_1⟩:=hr22;replace he22:=qj 35 he22;have hi22:=he22.ixd;refine qi Tryz.underlying35 Ty.zep hi22 hp22 ?_;refine qr (zfm 34 Ty.zgs rfl hi22) ?_;refine qr (zfs 34 Ty.zhh rfl (he22.mono hS12.agree) (by omega) rfl) ?_;refine qr (zbs Tryz.underlying44 rfl hue14_1.ln) ?_;refine qr (zah rfl rfl zeg) ?_;refine q2 ?_;refine qvb 32 hb20 ?_;refine qf Ty.zcq ?_;refine qb 0 Ty.zgd hS12 ?_;have hy23:=hx15;rw [zbu (by first | rfl | (rw [hb19,hb20,hb18];first | done | rfl) | simp [hb18,hb19,hb20])] at hy23;obtain ⟨hp24,hy24⟩:=zac hy23;obtain ⟨cs24,hr24,he24⟩:=hfr4_0_1.el hy24;obtain ⟨ue16_0,ue16_1,rfl,hle16_0,hue16_0,hue16_1⟩:=hr24;replace he24:=qj 35 he24;have hi24:=he24.ixd;refine qi Tryz.underlying35 Ty.zep hi24 hp24 ?_;refine qr (zfm 32 Ty.zoz rfl hi24) ?_;refine qr (zfs 32 Ty.zwu rfl (he24.mono hS12.agree) (by omega) rfl) ?_;refine q3 ?_;refine zbk ?_;exact zbe _ ⟨rfl,Fr4,(Frz.le.refl _),hS12⟩ ⟨(zdw rfl (by first | rfl | (rw [hb19,hb20,hb18];first | done | rfl) | simp [hb18,hb19,hb20])),trivial⟩
    ·refine qd ?_;refine qc ?_;refine qr (zah rfl rfl zeg) ?_;refine qc ?_;refine qvb 17 hb18 ?_;refine qf Ty.zcq ?_;refine qb 0 Ty.zgd hS12 ?_;refine qr (zbs Tryz.underlying35 rfl hfr4_0_1.ln) ?_;refine qr (zah rfl rfl zeg) ?_;refine q2 ?_;refine qvb 23 hb19 ?_;refine qf Ty.zcq ?_;refine qb 0 Ty.zgd hS12 ?_;have hy25:=hx13;rw [zbu (by first | rfl | (rw [hb19,hb18];first | done | rfl) | simp [hb18,hb19,hb20])] at hy25;obtain ⟨hp26,hy26⟩:=zac hy25;obtain ⟨cs26,hr26,he26⟩:=hfr4_0_1.el hy26;obtain ⟨ue14_0,ue14_1,rfl,hle14_0,hue14_0,hue14_1⟩:=hr26;replace he26:=qj 35 he26;have hi26:=he26.ixd;refine qi Tryz.underlying35 Ty.zep hi26 hp26 ?_;refine qr (zfm 34 Ty.zgs rfl hi26) ?_;refine qr (zfs 34 Ty.zhh rfl (he26.mono hS12.agree) (by omega) rfl) ?_;refine qr (zbs Tryz.underlying44 rfl hue14_1.ln) ?_;refine qr (zah rfl rfl zeg) ?_;refine q2 ?_;refine qvb 32 hb20 ?_;refine qz2 ?_;refine qz2 ?_;refine qz2 ?_;refine q2 ?_;refine zbk ?_;exact zbe _ ⟨rfl,Fr4,(Frz.le.refl _),hS12⟩ ⟨(zdw rfl (by first | rfl | (rw [hb19,hb20,hb18];first | done | rfl) | simp [hb18,hb19,hb20])),trivial⟩
   ·refine qd ?_;refine qc ?_;refine qr (zah rfl rfl zeg) ?_;refine qc ?_;refine qvb 17 hb18 ?_;refine qf Ty.zcq ?_;refine qb 0 Ty.zgd hS12 ?_;refine qr (zbs Tryz.underlying35 rfl hfr4_0_1.ln) ?_;refine qr (zah rfl rfl zeg) ?_;refine q2 ?_;refine qvb 23 hb19 ?_;refine qz2 ?_;refine qz2 ?_;refine qz2 ?_;refine qz ?_;refine q2 ?_;refine qz2 ?_;refine qz2 ?_;refine qz2 ?_;refine q2 ?_;refine zbk ?_;exact zbe _ ⟨rfl,Fr4,(Frz.le.refl _),hS12⟩ ⟨(zdw rfl (by first | rfl | (rw [hb19,hb18];first | done | rfl) | simp [hb18,hb19])),trivial⟩
  ·refine qd ?_;refine qc ?_;refine qr (zah rfl rfl zeg) ?_;refine qc ?_;refine qvb 17 hb18 ?_;refine qz2 ?_;refine qz2 ?_;refine q2 ?_;refine qz2 ?_;refine qz2 ?_;refine qz2 ?_;refine qz ?_;refine q2 ?_;refine qz2 ?_;refine qz2 ?_;refine qz2 ?_;refine q2 ?_;refine zbk ?_;exact zbe _ ⟨rfl,Fr4,(Frz.le.refl _),hS12⟩ ⟨(zdw rfl (by first | rfl | (rw [hb18];first | done | rfl) | simp [hb18])),trivial⟩
 rintro E w17 ⟨rfl,F17,le17,hS17⟩;refine zcl ?_;obtain rfl:=oi H;refine qt ?_;exact ⟨F17,rfl,hS17.pick [] (by decide)⟩
end
end Go.Wk.Lf
end
section
namespace Go.Wk
theorem iter_rule {S A:Type} {F:(S→Option A)→S→Option A} (Inv:S→Prop) (m:S→Nat) (g:S→Option A) (h:∀ rec s,Inv s→(∀ s',Inv s' → m s' < m s→rec s' = g s')→F rec s=g s):∀ n s,Inv s→m s < n→iter F n s=g s:=by
 intro n
 induction n with
 | zero=>intro s _ hm;omega
 | succ n ih=>intro s hs hm;exact h (iter F n) s hs fun s' hs' hlt=>ih s' hs' (by omega)
theorem loop_rule {S A:Type} {F:(S→Option A)→S→Option A} {s0:S} (Inv:S→Prop) (m:S→Nat) (g:S→Option A) (h0:Inv s0) (hm:m s0 < 4611686018427387904) (h:∀ rec s,Inv s→(∀ s',Inv s' → m s' < m s→rec s' = g s')→F rec s=g s):loop F s0=g s0 :=
 iter_rule Inv m g h _ s0 h0 (Nat.lt_trans hm (by decide))
theorem zpv {S A:Type} {F:(S→Option A)→S→Option A} {s0:S} {a:Option A} (Inv:S→Prop) (m:S→Nat) (h0:Inv s0) (hm:m s0 < 4611686018427387904) (h:∀ rec s,Inv s→(∀ s',Inv s' → m s' < m s→rec s' = a)→F rec s=a):loop F s0=a :=
 loop_rule Inv m (fun _=>a) h0 hm h
@[simp] theorem zaq {α β:Type} (x:α) (f:α→Option β):bd (some x) f=f x:=rfl
theorem bd_eq {α β:Type} {o:Option α} {x:α} (h:o=some x) (f:α→Option β):bd o f=f x:=by rw [h];rfl
theorem ix_nat {α:Type} (l:List α) (n:Nat):ix l (n:Int)=l[n]?:=rfl
theorem ix_at {α:Type} {l:List α} {i:Int} {n:Nat} (hi:i=(n:Int)) (h:n < l.length):ix l i=some l[n]:=by subst hi;rw [ix_nat];exact List.getElem?_eq_getElem h
theorem zfy {x:Int} (h0:-9223372036854775808≤x) (h1:x≤9223372036854775807):wr x=x:=i64_id h0 h1
theorem zdp {α:Type} {xs ys:List α} (h:xs.length+ys.length≤1073741824):app xs ys=some (xs++ys):=if_pos h
theorem zim {α:Type} {l:List α} {a b:Int} (h0:0≤a) (h1:a≤b) (h2:b≤(l.length:Int)):cut l a b=some ((l.take b.toNat).drop a.toNat):=if_pos ⟨h0,h1,h2⟩
theorem rep_ok {α:Type} {n:Int} {x:α} (h0:0≤n) (h1:n≤1073741824):rep n x=some (List.replicate n.toNat x):=if_pos ⟨h0,h1⟩
theorem lt_t {n m:Nat} (h:n < m):decide ((n:Int) < (m:Int))=true:=decide_eq_true (by omega)
theorem lt_f {n m:Nat} (h:¬ n < m):decide ((n:Int) < (m:Int))=false:=decide_eq_false (by omega)
theorem zds {α:Type} {l:List α} {n:Nat} (h:n < l.length):ix l (n:Int)=some l[n]:=List.getElem?_eq_getElem h
theorem zbw {n:Nat} (h:n < 4611686018427387904):wr ((n:Int)+1)=((n+1:Nat):Int):=by rw [zfy (by omega) (by omega)];rfl
theorem zmh {n:Nat} (h0:0 < n) (h:n < 4611686018427387904):wr ((n:Int) - 1)=((n - 1:Nat):Int):=by rw [zfy (by omega) (by omega)];omega
theorem iter_for {S σ A:Type} {F:(S→Option A)→S→Option A} (mk:Nat→σ→S) (n:Nat) (Inv:Nat→σ→Prop) (Post:Option A→Prop)
  (hstep:∀ rec i s,i < n→Inv i s→(∀ s',Inv (i+1) s' → Post (rec (mk (i+1) s')))→Post (F rec (mk i s))) (hend:∀ rec s,Inv n s→Post (F rec (mk n s))):∀ k i s,i≤n→n - i < k→Inv i s→Post (iter F k (mk i s)):=by
 intro k
 induction k with
 | zero=>intro i s _ h _;omega
 | succ k ih =>
  intro i s hi hk hI
  by_cases h:i=n
  ·subst h;exact hend (iter F k) s hI
  ·exact hstep (iter F k) i s (by omega) hI fun s' hs'=>ih (i+1) s' (by omega) (by omega) hs'
theorem zym {S σ A:Type} {F:(S→Option A)→S→Option A} (mk:Nat→σ→S) (n:Nat) (Inv:Nat→σ→Prop) (Post:Option A→Prop) {i0:Nat} {s0:σ} {x0:S} (hx:x0=mk i0 s0) (hi0:i0≤n) (h0:Inv i0 s0) (hn:n < 4611686018427387904)
  (hstep:∀ rec i s,i < n→Inv i s→(∀ s',Inv (i+1) s' → Post (rec (mk (i+1) s')))→Post (F rec (mk i s))) (hend:∀ rec s,Inv n s→Post (F rec (mk n s))):Post (loop F x0) :=
 hx ▸ iter_for mk n Inv Post hstep hend _ i0 s0 hi0 (by omega) h0
theorem zfd {S σ A:Type} {F:(S→Option A)→S→Option A} (mk:Nat→σ→S) (n:Nat) (Inv:Nat→σ→Prop) (a:Option A) {i0:Nat} {s0:σ} {x0:S} (hx:x0=mk i0 s0) (hi0:i0≤n) (h0:Inv i0 s0) (hn:n < 4611686018427387904)
  (hstep:∀ rec i s,i < n→Inv i s→(∀ s',Inv (i+1) s' → rec (mk (i+1) s')=a)→F rec (mk i s)=a) (hend:∀ rec s,Inv n s→F rec (mk n s)=a):loop F x0=a:=by
 exact zym mk n Inv (fun o=>o=a) hx hi0 h0 hn hstep hend
theorem zgr {S σ α A:Type} {F:(S→Option A)→S→Option A} (mk:Nat→σ→S) (l:List α) (f:σ→α→σ) (K:σ→Option A) (Inv:Nat→σ→Prop) {i0:Nat} {s0:σ} {x0:S} (hx:x0=mk i0 s0) (hi0:i0≤l.length) (h0:Inv i0 s0) (hn:l.length < 4611686018427387904)
  (hstep:∀ rec i s (h:i < l.length),Inv i s→Inv (i+1) (f s l[i])∧F rec (mk i s)=rec (mk (i+1) (f s l[i]))) (hend:∀ rec s,Inv l.length s→F rec (mk l.length s)=K s):loop F x0=K ((l.drop i0).foldl f s0):=by
 refine zfd mk l.length (fun i s=>i≤l.length∧Inv i s∧K ((l.drop i).foldl f s)=K ((l.drop i0).foldl f s0)) _ hx hi0 ⟨hi0,h0,rfl⟩ hn ?_ ?_
 ·intro rec i s hi hI hrec;obtain ⟨h1,h2⟩:=hstep rec i s hi hI.2.1;rw [h2];refine hrec _ ⟨by omega,h1,?_⟩;rw [← hI.2.2,List.drop_eq_getElem_cons hi];rfl
 ·intro rec s hI;rw [hend rec s hI.2.1,← hI.2.2,List.drop_length];rfl
theorem zdo {α:Type} {l:List α} {i:Nat} (h:i < l.length):l.take (i+1)=l.take i++[l[i]]:=List.take_succ_eq_append_getElem h
end Go.Wk
end
section

end
section
namespace Go.Wk.Lf
open Go.V Go.Sort Go.Proofs
theorem zpw {S A:Type} {F:(S→Option A)→S→Option A} (mk:Nat→S) (n:Nat) (ok:Nat→Bool) (K B:Option A) {x0:S} (hx:x0=mk 0) (hn:n < 4611686018427387904)
  (hstep:∀ rec i,i < n→F rec (mk i)=if ok i=true then rec (mk (i+1)) else B) (hend:∀ rec,F rec (mk n)=K):loop F x0=if (∀ i,i < n→ok i=true) then K else B:=by
 refine zfd (σ:=Unit) (fun i _=>mk i) n (fun i _=>∀ j,j < i→ok j=true) _ (i0:=0) (s0:=()) hx (Nat.zero_le _) (by intro j h;omega) hn ?_ ?_
 ·intro rec i _ hi hI hrec;rw [hstep rec i hi]
  by_cases h:ok i=true
  ·rw [if_pos h];exact hrec () fun j hj=>by
    rcases (by omega:j < i∨j=i) with h1 | rfl
    ·exact hI j h1
    ·exact h
  ·rw [if_neg h,if_neg fun hall=>h (hall i hi)]
 ·intro rec _ hI;rw [hend,if_pos hI]
theorem zrb {α:Type} (l:List α) (p:α→Bool) (q:Nat→Bool) (h:∀ i (hi:i < l.length),q i=p l[i]):(∀ i,i < l.length→q i=true) ↔ l.all p=true:=by
 rw [List.all_eq_true];constructor
 ·intro h1 x hx;obtain ⟨i,hi,rfl⟩:=List.getElem_of_mem hx;rw [← h i hi];exact h1 i hi
 ·intro h1 i hi;rw [h i hi];exact h1 _ (List.getElem_mem hi)
def seen (b:UInt8):Bool:=decide (33≤b.toNat)&&decide (b.toNat≤126)
def zjx (s:List UInt8):Bool:=(decide (1≤s.length)&&decide (s.length≤20))&&s.all seen
theorem name_eq (s:List UInt8):zfu s=some (zjx s):=by
 unfold zfu zjx
 by_cases h1:s.length < 1∨20 < s.length
 ·rw [if_pos (by simp only [Bool.or_eq_true,decide_eq_true_eq];omega)];have:(decide (1≤s.length)&&decide (s.length≤20))=false:=by
   simp only [Bool.and_eq_false_iff,decide_eq_false_iff_not];omega
  rw [this];rfl
 ·rw [if_neg (by simp only [Bool.or_eq_true,decide_eq_true_eq];omega)];have h2:(decide (1≤s.length)&&decide (s.length≤20))=true:=by
   simp only [Bool.and_eq_true,decide_eq_true_eq];omega
  rw [h2,Bool.true_and];rw [zpw (x0:=(0:Int)) (fun i=>(i:Int)) s.length (fun i=>seen (s.getD i 0)) (some true) (some false) rfl (by omega) ?_ ?_]
  ·by_cases h:s.all seen=true
   ·rw [h,if_pos ((zrb s seen _ fun i hi=>by simp [hi]).2 h)]
   ·rw [Bool.not_eq_true] at h;rw [h,if_neg fun h3=>by rw [(zrb s seen _ fun i hi=>by simp [hi]).1 h3] at h;cases h]
  ·intro rec i hi;simp only [zfu.l2];rw [if_t (lt_t hi),zds hi,zaq];simp only [hi,List.getD_eq_getElem?_getD,List.getElem?_eq_getElem,Option.getD_some,seen]
   by_cases h33:(s[i].toNat:Int) < 33
   ·rw [zhz (by simp;omega),zaq,if_pos (by simp [h33])];rw [if_neg (by simp only [Bool.and_eq_true,decide_eq_true_eq];omega)]
   ·rw [zbu (by simp;omega),zaq]
    by_cases h126:(126:Int) < (s[i].toNat:Int)
    ·rw [if_pos (by simp [h126]),if_neg (by simp only [Bool.and_eq_true,decide_eq_true_eq];omega)]
    ·rw [if_neg (by simp only [Bool.or_eq_true,decide_eq_true_eq];omega),if_pos (by simp only [Bool.and_eq_true,decide_eq_true_eq];omega),zbw (by omega)]
  ·intro rec;simp only [zfu.l2,zfu.k1];rw [if_f (lt_f (Nat.lt_irrefl _))]
theorem cloneB_eq (l:List UInt8) (hl:l.length≤1073741824):zfh l=some l:=by
 unfold zfh;rw [zdp (by simpa using hl),zaq];rfl
end Go.Wk.Lf
end
section
namespace Go.Wk.Lf
open Go.V Go.Sort Go.Proofs
def ztr (p:Part):Bool:=(((zjx p.path&&decide (0≤p.size))&&decide (p.size≤200))&&decide (p.ids.length≤25))&&(decide (p.ids.length=0) == decide (p.size=0))
theorem part_eq (p:Part):zjj p=some (ztr p):=by
 unfold zjj ztr;rw [name_eq,zaq];have h1:decide ((p.ids.length:Int)≤25)=decide (p.ids.length≤25):=by rw [decide_eq_decide];omega
 have h2:decide ((p.ids.length:Int)=0)=decide (p.ids.length=0):=by rw [decide_eq_decide];omega
 rw [h1,h2]
theorem zpr {α:Type} (R:α→α→Prop) (ht:∀ {a b c},R a b→R b c→R a c) (l:List α):l.Pairwise R ↔ ∀ i (h:i < l.length),0 < i→R (l[i - 1]'(by omega)) l[i]:=by
 constructor
 ·intro h i hi h0;exact List.pairwise_iff_getElem.1 h (i - 1) i (by omega) hi (by omega)
 ·intro h;rw [List.pairwise_iff_getElem];intro i j hi hj hij
  induction j with
  | zero=>omega
  | succ j ih =>
   have h1:=h (j+1) hj (by omega);rcases (by omega:i=j∨i < j) with rfl | h2
   ·exact h1
   ·exact ht (ih (by omega) h2) h1
def zvc (l:List Part):Prop:=l.Pairwise fun a b=>sLt a.path b.path=true
instance (l : List Part) : Decidable (zvc l) := by unfold zvc; infer_instance
def manB (m:Manifest):Prop:=zjx m.name=true∧m.parts.length≤6∧(m.parts.all ztr)=true∧zvc m.parts
instance (m : Manifest) : Decidable (manB m) := by unfold manB; infer_instance
theorem adj_iff (l:List Part) (q:Part→Bool):(∀ i,i < l.length→(q (l.getD i default)&&(!decide (0 < i)||sLt (l.getD (i - 1) default).path (l.getD i default).path))=true) ↔ (l.all q=true∧zvc l):=by
 constructor
 ·intro h;refine ⟨?_,(zpr (fun a b:Part=>sLt a.path b.path=true) (fun h1 h2=>zir h1 h2) l).2 fun i hi h0=>?_⟩
  ·rw [List.all_eq_true];intro x hx;obtain ⟨j,hj,rfl⟩:=List.getElem_of_mem hx;have h1:=h j hj;simp only [List.getD_eq_getElem?_getD,List.getElem?_eq_getElem hj,Option.getD_some,Bool.and_eq_true] at h1;exact h1.1
  ·have h1:=h i hi;have hi':i - 1 < l.length:=by omega
   simp only [List.getD_eq_getElem?_getD,List.getElem?_eq_getElem hi,List.getElem?_eq_getElem hi',Option.getD_some,Bool.and_eq_true,h0,decide_true,Bool.not_true,Bool.false_or] at h1;exact h1.2
 ·rintro ⟨h1,h2⟩ i hi;rw [List.all_eq_true] at h1;have h3:=h1 _ (List.getElem_mem hi);simp only [List.getD_eq_getElem?_getD,List.getElem?_eq_getElem hi,Option.getD_some,h3,Bool.true_and]
  by_cases h0:0 < i
  ·have hi':i - 1 < l.length:=by omega
   simp only [List.getElem?_eq_getElem hi',Option.getD_some,h0,decide_true,Bool.not_true,Bool.false_or];exact (zpr (fun a b:Part=>sLt a.path b.path=true) (fun h1 h2=>zir h1 h2) l).1 h2 i hi h0
  ·simp [h0]
theorem test_eq (l:List Part) (i:Nat) (hi:i < l.length) (hl:l.length < 1000000000) (N:Bool) {β:Type} (K:Part→Option β) :
  (bd (only ((!(!N))&&decide (0 < (i:Int))) (ix l (wr ((i:Int) - 1))) (Part.mk [] 0 [])) K)=if N=true∧0 < i then K (l.getD (i - 1) default) else K (Part.mk [] 0 []):=by
 cases N with
 | false=>rw [zhz (by simp),zaq];simp
 | true =>
  by_cases h0:0 < i
  ·have hi':i - 1 < l.length:=by omega
   rw [zbu (by simp;omega),zmh h0 (by omega),zds hi',zaq,if_pos ⟨rfl,h0⟩];simp [List.getD_eq_getElem?_getD,List.getElem?_eq_getElem hi']
  ·rw [zhz (by simp;omega),zaq,if_neg (by omega)]
theorem mcheck_eq (m:Manifest):zda m=some (if manB m then 0 else 1):=by
 unfold zda;rw [name_eq,zaq]
 by_cases h0:zjx m.name=true∧m.parts.length≤6
 ·obtain ⟨hn,h6⟩:=h0;rw [if_neg (by simp only [hn];simp;omega)];rw [zpw (x0:=(0:Int)) (fun i=>(i:Int)) m.parts.length (fun i=>ztr (m.parts.getD i default)&&(!decide (0 < i)||sLt (m.parts.getD (i - 1) default).path (m.parts.getD i default).path)) (some 0) (some 1) rfl (by omega) ?_ ?_]
  ·have hiff:=adj_iff m.parts ztr
   by_cases h:m.parts.all ztr=true∧zvc m.parts
   ·rw [if_pos (hiff.2 h),if_pos (show manB m from ⟨hn,h6,h.1,h.2⟩)]
   ·rw [if_neg fun h2=>h (hiff.1 h2),if_neg fun h2:manB m=>h ⟨h2.2.2.1,h2.2.2.2⟩]
  ·intro rec i hi;simp only [zda.l2];rw [if_t (lt_t hi),zds hi,zaq,part_eq,zaq,test_eq m.parts i hi (by omega)];simp only [List.getD_eq_getElem?_getD,List.getElem?_eq_getElem hi,Option.getD_some];cases hN:ztr m.parts[i] with
   | false=>simp
   | true =>
    by_cases h0:0 < i
    ·have hi':i - 1 < m.parts.length:=by omega
     have h0':(0:Int) < (i:Int):=by omega
     simp only [h0,h0',and_self,if_true,List.getElem?_eq_getElem hi',Option.getD_some,decide_true,Bool.not_true,Bool.false_or,Bool.true_and,zbw (show i < 4611686018427387904 by omega)];have hg:=gtr_eq m.parts[i].path m.parts[i - 1].path;cases hc:(sLt m.parts[i].path m.parts[i - 1].path||m.parts[i].path == m.parts[i - 1].path) with
     | true=>rw [hc] at hg;rw [← hg];rfl
     | false=>rw [hc] at hg;rw [← hg];rfl
    ·have h0':¬ (0:Int) < (i:Int):=by omega
     simp [h0,h0',zbw (show i < 4611686018427387904 by omega)]
  ·intro rec;simp only [zda.l2,zda.k1];rw [if_f (lt_f (Nat.lt_irrefl _))]
 ·rw [if_pos (by
   simp only [Bool.or_eq_true,decide_eq_true_eq,Bool.not_eq_true'];cases hn:zjx m.name with
   | false=>exact .inl rfl
   | true =>
    rcases Nat.lt_or_ge 6 m.parts.length with h6 | h6
    ·right;omega
    ·exact absurd ⟨hn,h6⟩ h0),if_neg fun h:manB m=>h0 ⟨h.1,h.2.1⟩]
def be2 (n:Int):List UInt8:=[toB8 (n / 256),toB8 n]
def zdu (p:Part):List UInt8:=([toB8 (p.path.length:Int)]++p.path++be2 p.size++[toB8 (p.ids.length:Int)])++p.ids.flatten
def zgz (m:Manifest):List UInt8:=([toB8 (m.name.length:Int)]++m.name++[toB8 (m.parts.length:Int)])++m.parts.flatMap zdu
def okId (m:Manifest):Prop:=∀ p∈m.parts,∀ x∈p.ids,x.length=32
theorem zsr:∀ (l:List (List UInt8)),(∀ x∈l,x.length=32)→l.flatten.length=32*l.length
 | [],_=>rfl
 | x::l,h=>by
  have h1:=h x (by simp);have h2:=zsr l fun y hy=>h y (by simp [hy]);simp only [List.flatten_cons,List.length_append,List.length_cons,h1,h2];omega
theorem zln {s:List UInt8} (h:zjx s=true):1≤s.length∧s.length≤20:=by
 simp only [zjx,Bool.and_eq_true,decide_eq_true_eq] at h;exact h.1
theorem zot {p:Part} (h:ztr p=true):zjx p.path=true∧0≤p.size∧p.size≤200∧p.ids.length≤25∧(p.ids.length=0 ↔ p.size=0):=by
 simp only [ztr,Bool.and_eq_true,decide_eq_true_eq] at h;obtain ⟨⟨⟨⟨h1,h2⟩,h3⟩,h4⟩,h5⟩:=h;refine ⟨h1,h2,h3,h4,?_⟩;rw [beq_iff_eq,decide_eq_decide] at h5;exact h5
theorem zrr {p:Part} (h:∀ x∈p.ids,x.length=32):(zdu p).length=4+p.path.length+32*p.ids.length:=by
 simp only [zdu,be2,List.length_append,List.length_cons,List.length_nil,zsr p.ids h];omega
theorem zqo:∀ (l:List Part),(∀ p∈l,∀ x∈p.ids,x.length=32)→(∀ p∈l,p.path.length≤20∧p.ids.length≤25)→(l.flatMap zdu).length≤824*l.length
 | [],_,_=>by simp
 | p::l,h,h2=>by
  have h3:=zqo l (fun q hq=>h q (by simp [hq])) fun q hq=>h2 q (by simp [hq]);have h4:=zrr (h p (by simp));have h5:=h2 p (by simp);simp only [List.flatMap_cons,List.length_append,List.length_cons,h4];omega
theorem zka {m:Manifest} (h:manB m):∀ p∈m.parts,ztr p=true:=by
 have:=h.2.2.1;rwa [List.all_eq_true] at this
theorem zmb {m:Manifest} (h:manB m) (hk:okId m):(zgz m).length≤5000:=by
 have h1:=zqo m.parts hk fun p hp=>by
  have h2:=zot (zka h p hp);have h3:=zln h2.1;exact ⟨h3.2,h2.2.2.2.1⟩
 have h2:=zln h.1;have h3:=h.2.1;simp only [zgz,List.length_append,List.length_cons,List.length_nil];omega
end Go.Wk.Lf
end
section
namespace Go.Wk
section
variable {α:Type} [DecidableEq α]
def zzb (acc:List α) (y:α):List α:=if acc.getLast? = some y then acc else acc++[y]
def zeu (l:List α):List α:=l.foldl zzb []
theorem zld (l:List α) (y:α):zeu (l++[y])=zzb (zeu l) y:=by simp [zeu]
theorem zuh {β:Type} {p:List β→Prop} (h0:p []) (h1:∀ l y,p l→p (l++[y])):∀ l,p l:=by
 intro l;have:∀ r:List β,p r.reverse:=by
  intro r
  induction r with
  | nil=>exact h0
  | cons x r ih=>rw [List.reverse_cons];exact h1 _ _ ih
 have:=this l.reverse
 rwa [List.reverse_reverse] at this
theorem last_cstep (acc:List α) (y:α):(zzb acc y).getLast? = some y:=by
 unfold zzb
 split
 ·assumption
 ·simp
theorem zrx (l:List α):(zeu l).getLast? = l.getLast?:=by
 refine zuh (p:=fun l=>(zeu l).getLast? = l.getLast?) rfl (fun l y _=>?_) l;rw [zld,last_cstep];simp
theorem zuu {β:Type} {l:List β} {j:Nat} {e:β} (h:l[j]? = some e):l.take (j+1)=l.take j++[e]:=by
 obtain ⟨h1,h2⟩:=List.getElem?_eq_some_iff.1 h;rw [List.take_succ_eq_append_getElem h1,h2]
theorem last_take {β:Type} {l:List β} {j:Nat} {e:β} (h:l[j]? = some e):(l.take (j+1)).getLast? = some e:=by
 rw [zuu h];simp
theorem zmc (l:List α) (h:l.length < 2):zeu l=l:=by
 match l,h with
 | [],_=>rfl
 | [x],_=>rfl
theorem zpf (l:List α):(zeu l).length≤l.length:=by
 refine zuh (p:=fun l=>(zeu l).length≤l.length) (Nat.le_refl _) (fun l y ih=>?_) l;rw [zld];unfold zzb
 split
 ·simp;omega
 ·simp;omega
theorem zlc {l:List α} {j:Nat} {a b:α} (ha:l[j]? = some a) (hb:l[j+1]? = some b):zeu (l.take (j+2))=if a=b then zeu (l.take (j+1)) else zeu (l.take (j+1))++[b]:=by
 rw [show j+2=(j+1)+1 from rfl,zuu hb,zld];unfold zzb;rw [zrx,last_take ha]
 by_cases h:a=b
 ·rw [if_pos (by rw [h]),if_pos h]
 ·rw [if_neg (by simpa using h),if_neg h]
theorem zre {β:Type} {l:List β} {i:Nat} (e:β) (h:i < l.length):(l.set i e).take (i+1)=l.take i++[e]:=by
 have h1:(l.set i e)[i]? = some e:=by simp [h]
 rw [zuu h1]
 congr 1
 rw [List.take_set_of_le (Nat.le_refl _)]
end
end Go.Wk
end
section
namespace Go.Wk.Lf
open Go.V Go.Sort Go.Proofs
theorem nz_ok {α:Type} {l:List α} (h:l≠[]):nz l=some ():=by
 cases l with
 | nil=>exact absurd rfl h
 | cons a r=>rfl
theorem sortM_ok {α:Type} {cf:α→α→Int} {l:List α} (h:l.length≤1073741824):sortM cf l=some (zry cf l):=if_pos h
theorem ixp_lt {α:Type} {l:List α} {a n k:Nat} (hk:k < n) (h:a+k < l.length):ixp l a n (k:Int)=some l[a+k]:=by
 show (if k < n then l[a+k]? else none)=_;rw [if_pos hk];exact List.getElem?_eq_getElem h
theorem compactI_eq (xs:List (List UInt8)) (hl:xs.length≤1073741824):zaf xs=some (zeu xs):=by
 unfold zaf
 by_cases h2:xs.length < 2
 ·rw [if_t (decide_eq_true (by omega)),zmc _ h2]
 ·rw [if_f (decide_eq_false (by omega))];refine zfd (S:=Int) (σ:=Unit) (fun i _=>(i:Int)) xs.length (fun i _=>1≤i∧zeu (xs.take i)=xs.take i) _ (i0:=1) (s0:=()) rfl (by omega) ⟨by omega,zmc _ (by simp;omega)⟩ (by omega) ?_ ?_
  ·intro rec i _ hi hI hrec;obtain ⟨h1,hc⟩:=hI;simp only [zaf.l2,zaf.k3];rw [if_t (lt_t hi),zds hi,zaq,zmh (by omega) (by omega),zds (show i - 1 < xs.length by omega),zaq];have hst:=zlc (l:=xs) (j:=i - 1) (a:=xs[i - 1]) (b:=xs[i]) (List.getElem?_eq_getElem (by omega)) (by rw [show i - 1+1=i by omega];exact List.getElem?_eq_getElem hi);rw [show i - 1+2=i+1 by omega,show i - 1+1=i by omega,hc] at hst
   by_cases he:xs[i]=xs[i - 1]
   ·rw [if_t (decide_eq_true he),zim (by omega) (by omega) (by omega),zaq];rw [if_pos he.symm] at hst;refine zfd (S:=Int × Int × List (List UInt8)) (σ:=Nat × List (List UInt8)) (fun k s=>((s.1:Int),(k:Int),s.2)) (xs.length - i) (fun k s=>s.2.length=xs.length∧1≤k∧1≤s.1∧s.1≤i+k - 1∧s.2.take s.1=zeu (xs.take (i+k)) ∧ ∀ q,i+k - 1≤q→s.2[q]? = xs[q]?) _ (i0:=1) (s0:=(i,xs)) rfl (by omega) ⟨rfl,by omega,by omega,by simp,hst.symm,fun q _=>rfl⟩ (by omega) ?_ ?_
    ·rintro rec2 k ⟨w,cs⟩ hk ⟨e1,e2,e3,e4,e5,e6⟩ hrec2;simp only at e1 e3 e4 e5 e6;simp only [zaf.l5,zaf.k6,Int.toNat_natCast];have hck:i+k < cs.length:=by omega
     have hg1:cs[i+k]=xs[i+k]:=by have:=e6 (i+k) (by omega);rw [List.getElem?_eq_getElem hck,List.getElem?_eq_getElem (by omega)] at this;exact Option.some.inj this
     have hg2:cs[i+(k - 1)]=xs[i+(k - 1)]:=by have:=e6 (i+(k - 1)) (by omega);rw [List.getElem?_eq_getElem (by omega),List.getElem?_eq_getElem (by omega)] at this;exact Option.some.inj this
     have hst2:=zlc (l:=xs) (j:=i+(k - 1)) (a:=xs[i+(k - 1)]) (b:=xs[i+k]) (List.getElem?_eq_getElem (by omega)) (by rw [show i+(k - 1)+1=i+k by omega];exact List.getElem?_eq_getElem (by omega));rw [show i+(k - 1)+2=i+(k+1) by omega,show i+(k - 1)+1=i+k by omega,← e5] at hst2;rw [if_t (lt_t hk),ixp_lt hk hck,zaq,zmh (by omega) (by omega),ixp_lt (show k - 1 < xs.length - i by omega) (by omega),zaq,hg1,hg2]
     by_cases hne:xs[i+k]=xs[i+(k - 1)]
     ·rw [if_f (by simp [hne]),zbw (by omega)];rw [if_pos hne.symm] at hst2;exact hrec2 (w,cs) ⟨e1,by omega,e3,by simp only;omega,hst2.symm,fun q hq=>e6 q (by omega)⟩
     ·rw [if_t (by simp [hne]),zaq,zds (show w < cs.length by omega),zaq,zbw (by omega),zbw (by omega)];rw [if_neg (fun h=>hne h.symm)] at hst2;refine hrec2 (w+1,cs.set w xs[i+k]) ⟨by simp [e1],by omega,by simp,by simp only;omega,?_,fun q hq=>?_⟩
      ·simp only;rw [zre _ (by omega),hst2]
      ·simp only;rw [List.getElem?_set_ne (by omega)];exact e6 q (by omega)
    ·rintro rec2 ⟨w,cs⟩ ⟨e1,e2,e3,e4,e5,e6⟩;simp only at e1 e3 e4 e5 e6;simp only [zaf.l5,zaf.k4,Int.toNat_natCast];rw [if_f (lt_f (Nat.lt_irrefl _)),zim (by omega) (by omega) (by omega),zaq];rw [show clr cs w (cs.length - w) (List.replicate 32 0)=some (cs.take w++List.replicate (cs.length - w) (List.replicate 32 0)) from if_pos (by omega),zaq];rw [zim (by omega) (by omega) (by simp;omega),zaq];simp only [Int.toNat_natCast,Int.toNat_zero,List.drop_zero];rw [nz_ok (by simp only [ne_eq,List.append_eq_nil_iff,not_and];intro q;have q2:=congrArg List.length q;rw [List.length_take,List.length_nil] at q2;omega),zaq,List.take_append_of_le_length (by simp;omega),List.take_take,Nat.min_self,e5,show i+(xs.length - i)=xs.length by omega,List.take_length]
   ·rw [if_f (decide_eq_false he),zbw (by omega)];rw [if_neg (fun h=>he h.symm)] at hst;exact hrec () ⟨by omega,by rw [hst,zdo hi]⟩
  ·intro rec _ hI;simp only [zaf.l2,zaf.k1];rw [if_f (lt_f (Nat.lt_irrefl _))];have:=hI.2;rw [List.take_length] at this;rw [this]
theorem mem_compactL {α:Type} [DecidableEq α] (l:List α) (x:α):x∈zeu l ↔ x∈l:=by
 refine zuh (p:=fun l=>x∈zeu l ↔ x∈l) (by simp [zeu]) (fun l y ih=>?_) l;rw [zld];unfold zzb
 split
 ·rename_i h;rw [zrx] at h;rw [ih];simp only [List.mem_append,List.mem_singleton];constructor
  ·exact .inl
  ·rintro (h' | rfl)
   ·exact h'
   ·exact List.mem_of_getLast? h
 ·simp only [List.mem_append,List.mem_singleton,ih]
def zps (l:List (List UInt8)):Prop:=l.Pairwise fun a b=>sLt a b=true
def zne (m:Manifest):List (List UInt8):=m.parts.flatMap Part.ids
def idsU (l:List (List UInt8)):List (List UInt8):=zeu (zry cmpT l)
theorem idsU_mem (l:List (List UInt8)) (x:List UInt8):x∈idsU l ↔ x∈l:=by
 unfold idsU;rw [mem_compactL];exact (znd cmpT l).mem_iff
theorem idsU_len (l:List (List UInt8)):(idsU l).length≤l.length:=by
 unfold idsU;have h1:=zpf (zry cmpT l);rw [(znd cmpT l).length_eq] at h1;exact h1
theorem cloneI_eq (l:List (List UInt8)) (hl:l.length≤1073741824):zdh l=some l:=by
 unfold zdh;rw [zdp (by simpa using hl),zaq,List.nil_append]
theorem zvz (l:List Part) (i:Nat):((l.take i).flatMap Part.ids).length≤(l.flatMap Part.ids).length:=by
 conv=>rhs;rw [← List.take_append_drop i l,List.flatMap_append,List.length_append]
 omega
theorem mids_eq (m:Manifest) (hp:m.parts.length≤1073741824) (hl:(zne m).length≤1073741824):zdv m=some (idsU (zne m)):=by
 unfold zdv;refine zfd (S:=List (List UInt8) × Int) (σ:=List (List UInt8)) (fun i l=>(l,(i:Int))) m.parts.length (fun i l=>l=(m.parts.take i).flatMap Part.ids) _ (i0:=0) (s0:=[]) rfl (Nat.zero_le _) rfl (by omega) ?_ ?_
 ·intro rec i l hi hI hrec;simp only [zdv.l2];have h1:=zvz m.parts (i+1);rw [zdo hi,List.flatMap_append,← hI] at h1;simp only [List.flatMap_cons,List.flatMap_nil,List.append_nil,List.length_append] at h1;unfold zne at hl;rw [if_t (lt_t hi),zds hi,zaq,zdp (by omega),zaq,zbw (by omega)];refine hrec _ ?_;rw [zdo hi,List.flatMap_append,hI];simp
 ·intro rec l hI;simp only [zdv.l2,zdv.k1];rw [if_f (lt_f (Nat.lt_irrefl _))];rw [List.take_length] at hI;have hI':l=zne m:=hI;subst hI';have hll:=isort_len cmpT (zne m);have h2:=zpf (zry cmpT (zne m));rw [sortM_ok hl,zaq,compactI_eq _ (by omega),zaq,cloneI_eq _ (by omega),zaq];rfl
end Go.Wk.Lf
end
section
namespace Go.Wk.Lf
open Go.V Go.Sort Go.Proofs
def beN (l:List UInt8):Nat:=l.foldl (fun n c=>n*256+c.toNat) 0
theorem or_i64_nat (a b:Nat) (ha:a < 4611686018427387904) (hb:b < 4611686018427387904):bits .or .i64 (a:Int) (b:Int)=((a ||| b:Nat):Int):=by
 have hx:a ||| b < 2 ^ 62:=Nat.or_lt_two_pow (by omega) (by omega);have h1:(BitVec.ofInt 64 (a:Int)).toNat=a:=by
  rw [BitVec.ofInt_natCast,BitVec.toNat_ofNat];exact Nat.mod_eq_of_lt (by omega)
 have h2:(BitVec.ofInt 64 (b:Int)).toNat=b:=by
  rw [BitVec.ofInt_natCast,BitVec.toNat_ofNat];exact Nat.mod_eq_of_lt (by omega)
 show IntKind.i64.wrap ((BitVec.ofInt 64 (a:Int) ||| BitVec.ofInt 64 (b:Int)).toNat:Int)=_;rw [BitVec.toNat_or,h1,h2];exact zfy (by omega) (by omega)
theorem or_step (n:Nat) (c:UInt8) (hn:n < 18014398509481984):bits .or .i64 (wr ((n:Int)*2 ^ (8:Int).toNat)) (c.toNat:Int)=((n*256+c.toNat:Nat):Int):=by
 have hc:=c.toNat_lt;have e:wr ((n:Int)*2 ^ (8:Int).toNat)=((n*256:Nat):Int):=by
  rw [show (8:Int).toNat=8 from rfl];rw [zfy (by omega) (by omega)];omega
 rw [e,or_i64_nat _ _ (by omega) (by omega)];have:=Nat.shiftLeft_add_eq_or_of_lt (i:=8) (b:=c.toNat) (by omega) n;rw [Nat.shiftLeft_eq] at this;rw [show n*256=n*2 ^ 8 from rfl,this]
theorem beN_lt:∀ (l:List UInt8),beN l < 256 ^ l.length:=by
 intro l;refine zuh (p:=fun l=>beN l < 256 ^ l.length) (by simp [beN]) (fun l c ih=>?_) l;have hc:=c.toNat_lt;simp only [beN,List.foldl_append,List.foldl_cons,List.foldl_nil,List.length_append,List.length_cons,List.length_nil,Nat.pow_succ] at ih ⊢;omega
theorem zzk (l:List UInt8) (c:UInt8):beN (l++[c])=beN l*256+c.toNat:=by simp [beN]
theorem num_loop {A:Type} {F:(Int × Int→Option A)→Int × Int→Option A} {l:List UInt8} {K:Int→Option A} (mk:Int→Int→Int × Int) (hl:l.length≤7)
  (hs:∀ rec i (h:i < l.length) (n:Int),F rec (mk n i)=rec (mk (bits .or .i64 (wr (n*2 ^ (8:Int).toNat)) (l[i].toNat:Int)) (wr ((i:Int)+1)))) (he:∀ rec n,F rec (mk n l.length)=K n):loop F (mk 0 0)=K (beN l:Int):=by
 refine zfd (S:=Int × Int) (σ:=Unit) (fun i _=>mk ((beN (l.take i):Nat):Int) (i:Int)) l.length (fun _ _=>True) _ (i0:=0) (s0:=()) (by simp [beN]) (Nat.zero_le _) trivial (by omega) ?_ ?_
 ·intro rec i _ hi _ hrec;have hlt:beN (l.take i) < 256 ^ 6:=Nat.lt_of_lt_of_le (beN_lt _) (Nat.pow_le_pow_right (by decide) (by simp;omega));rw [hs rec i hi,or_step _ _ (by omega),zbw (by omega)];have:=hrec () trivial;rw [zdo hi,zzk] at this;exact this
 ·intro rec _ _;rw [he,List.take_length]
theorem get_eq (b:List UInt8) (at_ k:Nat) (h1:1≤k) (h7:k≤7) (hb:b.length≤1073741824) (hk:at_+k≤b.length):zip b (at_:Int) (k:Int)=some ((beN ((b.take (at_+k)).drop at_):Int),((at_+k:Nat):Int),0):=by
 unfold zip;rw [if_neg (by simp only [Bool.or_eq_true,decide_eq_true_eq];omega),zfy (x:=(b.length:Int) - at_) (by omega) (by omega),if_neg (by simp only [decide_eq_true_eq];omega),zfy (x:=(at_:Int)+k) (by omega) (by omega),zim (by omega) (by omega) (by omega),zaq];rw [show ((at_:Int)+(k:Int)).toNat=at_+k by omega,Int.toNat_natCast];have hlen:((b.take (at_+k)).drop at_).length=k:=by simp;omega
 generalize (b.take (at_+k)).drop at_=l at hlen ⊢;refine num_loop (l:=l) (K:=fun n=>some (n,((at_+k:Nat):Int),0)) (fun n i=>(n,i)) (by omega) (fun rec i hi n=>?_) (fun rec n=>?_)
 ·simp only [zip.l2];rw [if_t (lt_t hi),zds hi,zaq]
 ·simp only [zip.l2,zip.k1];rw [if_f (lt_f (Nat.lt_irrefl _)),zfy (by omega) (by omega)];rfl
theorem zmq {n:Nat} (h:n < 256):(toB8 (n:Int)).toNat=n:=by
 unfold toB8;simp;omega
theorem toB8_byte (c:UInt8):toB8 (c.toNat:Int)=c:=by
 have:=c.toNat_lt;apply UInt8.toNat.inj;rw [zmq (by omega)]
theorem beN_one (c:UInt8):beN [c]=c.toNat:=by simp [beN]
theorem beN_two (a b:UInt8):beN [a,b]=a.toNat*256+b.toNat:=by simp [beN]
theorem be2_beN (a b:UInt8):be2 ((beN [a,b]:Nat):Int)=[a,b]:=by
 have ha:=a.toNat_lt;have hb:=b.toNat_lt;rw [beN_two];unfold be2;have e1:((a.toNat*256+b.toNat:Nat):Int) / 256=((a.toNat:Nat):Int):=by omega
 rw [e1,toB8_byte]
 congr 2
 apply UInt8.toNat.inj;unfold toB8;simp;omega
theorem beN_be2 {n:Nat} (h:n < 65536):beN (be2 (n:Int))=n:=by
 unfold be2;rw [beN_two];have e1:(n:Int) / 256=((n / 256:Nat):Int):=by omega
 rw [e1,zmq (by omega)];unfold toB8;simp;omega
structure Tk (σ:Type) where
 rest:σ→List UInt8
 bad:σ→Bool
 take:σ→Nat→List UInt8 × σ
 len:∀ s n,(take s n).1.length=n
 sound:∀ s n,bad (take s n).2=false→bad s=false∧rest s=(take s n).1++rest (take s n).2
 full:∀ s x t,bad s=false→rest s=x++t→(take s x.length).1=x∧rest (take s x.length).2=t∧bad (take s x.length).2=false
section
variable {σ:Type} (T:Tk σ)
def Tk.num (s:σ) (n:Nat):Nat × σ:=(beN (T.take s n).1,(T.take s n).2)
def Tk.text (s:σ):List UInt8 × σ:=T.take (T.num s 1).2 (T.num s 1).1
theorem Tk.num1 (s:σ):∃ c,(T.take s 1).1=[c]∧(T.num s 1).1=c.toNat:=by
 have h:=T.len s 1
 match hq:(T.take s 1).1,h with
 | [c],_=>exact ⟨c,rfl,by simp [Tk.num,hq,beN]⟩
theorem Tk.num1_sound (s:σ) (h:T.bad (T.num s 1).2=false):T.bad s=false∧(T.num s 1).1 < 256∧T.rest s=toB8 ((T.num s 1).1:Int)::T.rest (T.num s 1).2:=by
 obtain ⟨c,h1,h2⟩:=T.num1 s;obtain ⟨h3,h4⟩:=T.sound s 1 h;have:=c.toNat_lt;refine ⟨h3,by omega,?_⟩;rw [h4,h1,h2,toB8_byte];rfl
theorem Tk.num1_full (s:σ) (n:Nat) (t:List UInt8) (hn:n < 256) (hb:T.bad s=false) (hr:T.rest s=toB8 (n:Int)::t):(T.num s 1).1=n∧T.rest (T.num s 1).2=t∧T.bad (T.num s 1).2=false:=by
 obtain ⟨h1,h2,h3⟩:=T.full s [toB8 (n:Int)] t hb hr;refine ⟨?_,h2,h3⟩;show beN (T.take s 1).1=n;rw [show (1:Nat)=[toB8 (n:Int)].length from rfl,h1,beN_one,zmq hn]
theorem Tk.num2_sound (s:σ) (h:T.bad (T.num s 2).2=false):T.bad s=false∧(T.num s 2).1 < 65536∧T.rest s=be2 ((T.num s 2).1:Int)++T.rest (T.num s 2).2:=by
 have hl:=T.len s 2;obtain ⟨h3,h4⟩:=T.sound s 2 h;refine ⟨h3,?_,?_⟩
 ·have:=beN_lt (T.take s 2).1;rw [hl] at this;exact this
 ·rw [h4]
  match hq:(T.take s 2).1,hl with
  | [a,b],_ =>
   show _=be2 ((beN (T.take s 2).1:Nat):Int)++_;rw [hq,be2_beN];rfl
theorem Tk.num2_full (s:σ) (n:Nat) (t:List UInt8) (hn:n < 65536) (hb:T.bad s=false) (hr:T.rest s=be2 (n:Int)++t):(T.num s 2).1=n∧T.rest (T.num s 2).2=t∧T.bad (T.num s 2).2=false:=by
 obtain ⟨h1,h2,h3⟩:=T.full s (be2 (n:Int)) t hb hr;refine ⟨?_,h2,h3⟩;show beN (T.take s 2).1=n;rw [show (2:Nat)=(be2 (n:Int)).length from rfl,h1,beN_be2 hn]
theorem Tk.text_sound (s:σ) (h:T.bad (T.text s).2=false):T.bad s=false∧(T.text s).1.length < 256∧T.rest s=toB8 ((T.text s).1.length:Int)::((T.text s).1++T.rest (T.text s).2):=by
 obtain ⟨h1,h2⟩:=T.sound _ _ h;obtain ⟨h3,h4,h5⟩:=T.num1_sound s h1;have hl:(T.text s).1.length=(T.num s 1).1:=T.len _ _;refine ⟨h3,by omega,?_⟩;rw [h5,hl,h2];rfl
theorem Tk.text_full (s:σ) (x t:List UInt8) (hn:x.length < 256) (hb:T.bad s=false) (hr:T.rest s=toB8 (x.length:Int)::(x++t)):(T.text s).1=x∧T.rest (T.text s).2=t∧T.bad (T.text s).2=false:=by
 obtain ⟨h1,h2,h3⟩:=T.num1_full s x.length (x++t) hn hb hr;obtain ⟨h4,h5,h6⟩:=T.full (T.num s 1).2 x t h3 h2;unfold Tk.text;rw [h1];exact ⟨h4,h5,h6⟩
def Tk.head (s:σ):List UInt8 × Nat × Nat × σ :=
 let a:=T.text s
 let b:=T.num a.2 2
 let c:=T.num b.2 1
 (a.1,b.1,c.1,c.2)
def zjl (p:List UInt8) (n k:Nat):List UInt8:=[toB8 (p.length:Int)]++p++be2 (n:Int)++[toB8 (k:Int)]
theorem Tk.head_sound (s:σ) (h:T.bad (T.head s).2.2.2=false):T.bad s=false∧(T.head s).1.length < 256∧(T.head s).2.1 < 65536∧(T.head s).2.2.1 < 256∧T.rest s=zjl (T.head s).1 (T.head s).2.1 (T.head s).2.2.1++T.rest (T.head s).2.2.2:=by
 obtain ⟨h1,h2,h3⟩:=T.num1_sound _ h;obtain ⟨h4,h5,h6⟩:=T.num2_sound _ h1;obtain ⟨h7,h8,h9⟩:=T.text_sound _ h4;refine ⟨h7,h8,h5,h2,?_⟩;rw [h9,h6,h3];simp [zjl,Tk.head]
theorem Tk.head_full (s:σ) (p t:List UInt8) (n k:Nat) (hp:p.length < 256) (hn:n < 65536) (hk:k < 256) (hb:T.bad s=false) (hr:T.rest s=zjl p n k++t):(T.head s).1=p∧(T.head s).2.1=n∧(T.head s).2.2.1=k∧T.rest (T.head s).2.2.2=t∧T.bad (T.head s).2.2.2=false:=by
 obtain ⟨h1,h2,h3⟩:=T.text_full s p (be2 (n:Int)++toB8 (k:Int)::t) hp hb (by rw [hr];simp [zjl]);obtain ⟨h4,h5,h6⟩:=T.num2_full _ n (toB8 (k:Int)::t) hn h3 h2;obtain ⟨h7,h8,h9⟩:=T.num1_full _ k t hk h6 h5;exact ⟨h1,h4,h7,h8,h9⟩
end
def wfP (p:Part):Prop:=p.path.length < 256∧0≤p.size∧p.size < 65536∧p.ids.length < 256 ∧ ∀ x∈p.ids,x.length=32
theorem zkj (p:Part) (n:Nat) (h:p.size=(n:Int)):zdu p=zjl p.path n p.ids.length++p.ids.flatten:=by simp [zdu,zjl,h]
theorem wf_of {p:Part} (h:ztr p=true) (hk:∀ x∈p.ids,x.length=32):wfP p:=by
 have h2:=zot h;have h3:=zln h2.1;exact ⟨by omega,h2.2.1,by omega,by omega,hk⟩
end Go.Wk.Lf
end
section
namespace Go.Wk.Lf
open Go.V Go.Sort Go.Proofs
def takeM (s:ManifestReader) (n:Nat):List UInt8 × ManifestReader:=if (s.bad||decide (s.b.length < n))=true then (List.replicate n 0,⟨s.b,true⟩) else (s.b.take n,⟨s.b.drop n,s.bad⟩)
def tkM:Tk ManifestReader where
 rest s:=s.b
 bad s:=s.bad
 take:=takeM
 len s n:=by
  unfold takeM;split
  ·simp
  ·rename_i h;simp only [Bool.or_eq_true,decide_eq_true_eq,not_or] at h;simp;omega
 sound s n h:=by
  unfold takeM at h ⊢;split at h
  ·cases h
  ·rename_i hc;rw [if_neg hc];exact ⟨h,(List.take_append_drop n s.b).symm⟩
 full s x t hb hr:=by
  have hr':s.b=x++t:=hr;have hb':s.bad=false:=hb;unfold takeM;rw [if_neg (by rw [hb',hr'];simp)];exact ⟨by rw [hr'];simp,by show s.b.drop x.length=t;rw [hr'];simp,hb'⟩
theorem zuf (s:ManifestReader) (n:Nat) (hn:n≤65536) (hb:s.b.length≤1073741824):zcu s (n:Int)=some (takeM s n):=by
 unfold zcu takeM;have e:decide ((s.b.length:Int) < (n:Int))=decide (s.b.length < n):=by rw [decide_eq_decide];omega
 rw [e]
 split
 ·rw [rep_ok (by omega) (by omega),zaq,Int.toNat_natCast]
 ·rename_i h;simp only [Bool.or_eq_true,decide_eq_true_eq,not_or] at h;rw [zim (by omega) (by omega) (by omega),zaq,zim (by omega) (by omega) (by omega),zaq];simp
theorem zuv (s:ManifestReader) (n:Nat):(takeM s n).2.b.length≤s.b.length:=by
 unfold takeM;split
 ·exact Nat.le_refl _
 ·simp
theorem zvn (s:ManifestReader) (n:Nat) (h1:1≤n) (h7:n≤7) (hb:s.b.length≤1073741824):zbv s (n:Int)=some (((tkM.num s n).1:Int),(tkM.num s n).2):=by
 unfold zbv;have hl:=tkM.len s n;rw [zuf s n (by omega) hb,zaq];have hg:=get_eq (takeM s n).1 0 n h1 h7 (by have:(takeM s n).1.length=n:=hl;omega) (by have:(takeM s n).1.length=n:=hl;omega);rw [show ((0:Nat):Int)=0 from rfl] at hg;rw [hg,zaq];have:((takeM s n).1.take (0+n)).drop 0=(takeM s n).1:=by
  rw [Nat.zero_add,List.drop_zero,List.take_of_length_le];have:(takeM s n).1.length=n:=hl;omega
 rw [this];rfl
theorem zqs (s:ManifestReader) (n:Nat):(tkM.num s n).2.b.length≤s.b.length:=zuv s n
theorem zyo (s:ManifestReader):(tkM.text s).2.b.length≤s.b.length:=Nat.le_trans (zuv _ _) (zqs s 1)
theorem zyi (s:ManifestReader):(tkM.num s 1).1 < 256:=by
 obtain ⟨c,_,h⟩:=tkM.num1 s;have:=c.toNat_lt;omega
theorem headM_eq (s:ManifestReader) (hb:s.b.length≤1073741824) {A:Type} (K:List UInt8 × ManifestReader→Int × ManifestReader→Int × ManifestReader→Option A) :
  (bd (zbv s 1) fun a=>bd (zcu a.2 a.1) fun b=>bd (zbv b.2 2) fun c=>bd (zbv c.2 1) fun d=>K b c d)=K (tkM.text s) (((tkM.num (tkM.text s).2 2).1:Int),(tkM.num (tkM.text s).2 2).2) (((tkM.num (tkM.num (tkM.text s).2 2).2 1).1:Int),(tkM.num (tkM.num (tkM.text s).2 2).2 1).2):=by
 have h0:=zyi s;have h1:=zqs s 1;have h2:=zyo s;have h3:=zqs (tkM.text s).2 2;rw [show (1:Int)=((1:Nat):Int) from rfl,show (2:Int)=((2:Nat):Int) from rfl,zvn s 1 (by omega) (by omega) hb,zaq];simp only;rw [zuf _ _ (by omega) (by omega),zaq];show (bd (zbv (tkM.text s).2 _) _)=_;rw [zvn _ 2 (by omega) (by omega) (by omega),zaq];simp only;rw [zvn _ 1 (by omega) (by omega) (by omega),zaq];rfl
def zyr (b:List UInt8) (m:Manifest):Prop:=manB m∧okId m∧b=zgz m
open Classical in
noncomputable def zyb (b:List UInt8):Manifest × Int:=if h:∃ m,zyr b m then (h.choose,0) else (⟨[],[]⟩,3)
structure RInv (b:List UInt8) (nm:List UInt8) (cnt:Nat) (i:Nat) (q:List UInt8) (bad:Bool) (ps:List Part):Prop where
 len:q.length≤b.length
 snd:bad=false→b=[toB8 (nm.length:Int)]++nm++[toB8 (cnt:Int)]++ps.flatMap zdu++q∧ps.length=i ∧ ∀ p∈ps,wfP p
 cpl:∀ m,zyr b m→bad=false∧nm=m.name∧cnt=m.parts.length∧ps=m.parts.take i∧q=(m.parts.drop i).flatMap zdu
theorem zyl {m:Manifest} (h:manB m):m.name.length < 256∧m.parts.length < 256:=by
 have h1:=zln h.1;have h2:=h.2.1;exact ⟨by omega,by omega⟩
theorem read_end {b nm:List UInt8} {cnt:Nat} {q:List UInt8} {bad:Bool} {ps:List Part} {i:Nat} (hcn:cnt < 256) (hI:RInv b nm cnt i q bad ps) (hi:bad=false→i=cnt) :
  (if ((bad||decide (0 < q.length)) || !decide (manB ⟨nm,ps⟩))=true then ((⟨[],[]⟩:Manifest),(3:Int)) else (⟨nm,ps⟩,0))=zyb b:=by
 by_cases hex:∃ m,zyr b m
 ·have hr:zyb b=(hex.choose,0):=by unfold zyb;rw [dif_pos hex]
  obtain ⟨h1,h2,h3,h4,h5⟩:=hI.cpl _ hex.choose_spec;have hic:=hi h1;rw [hic,h3,List.take_length] at h4;rw [hic,h3,List.drop_length] at h5;have hm:(⟨nm,ps⟩:Manifest)=hex.choose:=by rw [h2,h4]
  rw [hr,hm];rw [if_neg];rw [h1,h5];have:=hex.choose_spec.1;simp [this]
 ·have hr:zyb b=(⟨[],[]⟩,3):=by unfold zyb;rw [dif_neg hex]
  rw [hr]
  split
  ·rfl
  ·rename_i hc;simp only [Bool.or_eq_true,decide_eq_true_eq,not_or,Bool.not_eq_true',decide_eq_false_iff_not,Bool.not_eq_true,Classical.not_not] at hc;obtain ⟨⟨hb,hq⟩,hm⟩:=hc
   exfalso
   obtain ⟨h1,h2,h3⟩:=hI.snd hb;refine hex ⟨⟨nm,ps⟩,hm,fun p hp=>(h3 p hp).2.2.2.2,?_⟩;have hq0:q=[]:=List.eq_nil_of_length_eq_zero (by omega);rw [h1,hq0,List.append_nil,← hi hb,← h2];rfl
theorem RInv.step {b nm:List UInt8} {cnt i:Nat} {q:List UInt8} {bad:Bool} {ps:List Part} (hI:RInv b nm cnt i q bad ps) {p:Part} {q':List UInt8} {bad':Bool} (hl:q'.length≤q.length)
  (hs:bad' = false→bad=false∧q=zdu p++q' ∧ wfP p) (hc:∀ p0 t,bad=false→wfP p0→q=zdu p0++t→p=p0∧q' = t∧bad' = false) (hi:i < cnt):RInv b nm cnt (i+1) q' bad' (ps++[p]):=by
 refine ⟨Nat.le_trans hl hI.len,fun hb=>?_,fun m hm=>?_⟩
 ·obtain ⟨h1,h2,h3⟩:=hs hb;obtain ⟨h4,h5,h6⟩:=hI.snd h1;refine ⟨?_,by simp [h5],fun p' hp'=>?_⟩
  ·rw [h4,h2];simp
  ·rcases List.mem_append.1 hp' with h | h
   ·exact h6 p' h
   ·simp at h;subst h;exact h3
 ·obtain ⟨h1,h2,h3,h4,h5⟩:=hI.cpl m hm;have hil:i < m.parts.length:=by omega
  rw [List.drop_eq_getElem_cons hil,List.flatMap_cons] at h5;have hmem:=List.getElem_mem hil;obtain ⟨h6,h7,h8⟩:=hc _ _ h1 (wf_of (zka hm.1 _ hmem) (hm.2.1 _ hmem)) h5;refine ⟨h8,h2,h3,?_,h7⟩;rw [h4,h6,zdo hil]
theorem read_eq (b:List UInt8) (hb:b.length≤1000000000):zbi b=some (zyb b):=by
 unfold zbi
 let s0:ManifestReader:=⟨b,false⟩
 have h0:=zyi s0;have h1:=zqs s0 1;have h2:=zyo s0;have h3:=zqs (tkM.text s0).2 1;have h4:=zyi (tkM.text s0).2;rw [show (1:Int)=((1:Nat):Int) from rfl,zvn s0 1 (by omega) (by omega) (by show b.length≤_;omega),zaq];simp only;rw [zuf _ _ (by omega) (by have:(tkM.num s0 1).2.b.length≤b.length:=h1;omega),zaq];show (bd (zbv (tkM.text s0).2 _) _)=_;have hlt:(tkM.text s0).2.b.length≤b.length:=h2;rw [zvn _ 1 (by omega) (by omega) (by omega),zaq];simp only;show loop (zbi.l2 (tkM.text s0) (((tkM.num (tkM.text s0).2 1).1:Int),(tkM.num (tkM.text s0).2 1).2)) _=_;generalize hR:tkM.num (tkM.text s0).2 1=R at h3 h4 ⊢;generalize hT:tkM.text s0=Tx at h3 hlt hR ⊢;have hinit:RInv b Tx.1 R.1 0 R.2.b R.2.bad []:=by
  refine ⟨by omega,fun hbad=>?_,fun m hm=>?_⟩
  ·have hbad':tkM.bad (tkM.num Tx.2 1).2=false:=by rw [hR];exact hbad
   obtain ⟨a1,a2,a3⟩:=tkM.num1_sound _ hbad';rw [← hT] at a1 a3;obtain ⟨a4,a5,a6⟩:=tkM.text_sound s0 a1;rw [hT,hR] at a3;rw [hT] at a6;have e1:tkM.rest s0=b:=rfl;have e2:tkM.rest R.2=R.2.b:=rfl;rw [e1,a3,e2] at a6;exact ⟨by rw [a6];simp,rfl,fun p hp=>by simp at hp⟩
  ·obtain ⟨m1,m2⟩:=zyl hm.1;obtain ⟨a1,a2,a3⟩:=tkM.text_full s0 m.name (toB8 (m.parts.length:Int)::m.parts.flatMap zdu) m1 rfl (by show b=_;rw [hm.2.2];simp [zgz]);rw [hT] at a1 a2 a3;obtain ⟨a4,a5,a6⟩:=tkM.num1_full Tx.2 m.parts.length (m.parts.flatMap zdu) m2 a3 a2;rw [hR] at a4 a5 a6;exact ⟨a6,a1,a4,rfl,a5⟩
 have hfin:∀ (i:Nat) (q:List UInt8) (bad:Bool) (ps:List Part),RInv b Tx.1 R.1 i q bad ps→(bad=false→i=R.1)→zbi.k1 Tx ps q bad=some (zyb b):=by
  intro i q bad ps hI hi;rw [← read_end h4 hI hi];simp only [zbi.k1];have e:decide (0 < (q.length:Int))=decide (0 < q.length):=by rw [decide_eq_decide];omega
  rw [e];cases hc:(bad||decide (0 < q.length)) with
  | true=>rw [zhz (by simp),zaq];rfl
  | false =>
   rw [zbu (by simp),mcheck_eq,zaq]
   by_cases hm:manB ⟨Tx.1,ps⟩
   ·rw [if_pos hm];simp [hm]
   ·rw [if_neg hm];simp [hm]
 refine zfd (S:=Int × List UInt8 × Bool × List Part) (σ:=List UInt8 × Bool × List Part) (fun i s=>((i:Int),s.1,s.2.1,s.2.2)) R.1 (fun i s=>RInv b Tx.1 R.1 i s.1 s.2.1 s.2.2∧s.2.2.length=i) _ (i0:=0) (s0:=(R.2.b,R.2.bad,[])) rfl (Nat.zero_le _) ⟨hinit,rfl⟩ (by omega) ?_ ?_
 ·rintro rec i ⟨q,bad,ps⟩ hi ⟨hI,hpl⟩ hrec;simp only at hI hpl hrec;simp only [zbi.l2];rw [if_t (lt_t hi)];have hql:=hI.len;rw [headM_eq ⟨q,bad⟩ (by show q.length≤_;omega)]
  let s:ManifestReader:=⟨q,bad⟩
  have g2:=zyo s;have g3:=zqs (tkM.text s).2 2;have g4:=zqs (tkM.num (tkM.text s).2 2).2 1;have g5:=zyi (tkM.num (tkM.text s).2 2).2;have hsd:=tkM.head_sound s;have hfl:=tkM.head_full s;have eh:tkM.head s=((tkM.text s).1,(tkM.num (tkM.text s).2 2).1,(tkM.num (tkM.num (tkM.text s).2 2).2 1).1,(tkM.num (tkM.num (tkM.text s).2 2).2 1).2):=rfl;rw [eh] at hsd hfl;simp only at hsd hfl;show loop (zbi.l5 Tx (i:Int) ps rec (tkM.text s) (((tkM.num (tkM.text s).2 2).1:Int),(tkM.num (tkM.text s).2 2).2) (((tkM.num (tkM.num (tkM.text s).2 2).2 1).1:Int),(tkM.num (tkM.num (tkM.text s).2 2).2 1).2)) _=_;generalize hE:tkM.num (tkM.num (tkM.text s).2 2).2 1=E at hsd hfl g4 g5 ⊢;generalize tkM.num (tkM.text s).2 2=D at hsd hfl g3 g4 ⊢;generalize tkM.text s=P at hsd hfl g2 g3 ⊢;have hEl:E.2.b.length≤q.length:=by have:P.2.b.length≤q.length:=g2;omega
  refine zfd (S:=Int × List UInt8 × Bool × List (List UInt8)) (σ:=List UInt8 × Bool × List (List UInt8)) (fun j s=>((j:Int),s.1,s.2.1,s.2.2)) E.1 (fun j z=>z.1.length≤q.length∧z.2.2.length=j∧(∀ x∈z.2.2,x.length=32)∧(z.2.1=false→E.2.bad=false∧E.2.b=z.2.2.flatten++z.1)∧(∀ (ids:List (List UInt8)) (t:List UInt8),E.2.bad=false→E.2.b=ids.flatten++t→(∀ x∈ids,x.length=32)→ids.length=E.1→z.2.1=false∧z.2.2=ids.take j∧z.1=(ids.drop j).flatten++t)) _ (i0:=0) (s0:=(E.2.b,E.2.bad,[])) rfl (Nat.zero_le _) ⟨hEl,rfl,fun x hx=>by simp at hx,fun h=>⟨h,rfl⟩,fun ids t h1 h2 h3 h4=>⟨h1,rfl,h2⟩⟩ (by omega) ?_ ?_
  ·rintro rec2 j ⟨z,zb,zi⟩ hj ⟨j1,j2,j3,j4,j5⟩ hrec2;simp only at j1 j2 j3 j4 j5 hrec2;simp only [zbi.l5];rw [if_t (lt_t hj),show (32:Int)=((32:Nat):Int) from rfl,zuf ⟨z,zb⟩ 32 (by omega) (by show z.length≤_;omega),zaq];have k1:=tkM.len ⟨z,zb⟩ 32;have k2:=zuv ⟨z,zb⟩ 32;have k3:=tkM.sound ⟨z,zb⟩ 32;have k4:=tkM.full ⟨z,zb⟩;have e3:tkM.take=takeM:=rfl;rw [e3] at k1 k3 k4;have ha:arr32 (takeM ⟨z,zb⟩ 32).1=some (takeM ⟨z,zb⟩ 32).1:=by
    unfold arr32;rw [if_pos (by omega),List.take_of_length_le (by omega)]
   rw [ha,zaq,zdp (by simp;omega),zaq,zbw (by omega)];refine hrec2 ((takeM ⟨z,zb⟩ 32).2.b,(takeM ⟨z,zb⟩ 32).2.bad,zi++[(takeM ⟨z,zb⟩ 32).1]) ⟨?_,by simp [j2],fun x hx=>?_,fun hb=>?_,fun ids t h1 h2 h3 h4=>?_⟩
   ·have:(takeM ⟨z,zb⟩ 32).2.b.length≤z.length:=k2;show (takeM ⟨z,zb⟩ 32).2.b.length≤q.length;omega
   ·rcases List.mem_append.1 hx with h | h
    ·exact j3 x h
    ·simp at h;subst h;exact k1
   ·obtain ⟨l1,l2⟩:=k3 hb;obtain ⟨l3,l4⟩:=j4 l1;refine ⟨l3,?_⟩;have l5:z=(takeM ⟨z,zb⟩ 32).1++(takeM ⟨z,zb⟩ 32).2.b:=l2;rw [l4]
    conv=>lhs;rw [l5]
    simp
   ·obtain ⟨l1,l2,l3⟩:=j5 ids t h1 h2 h3 h4;have hjl:j < ids.length:=by omega
    rw [List.drop_eq_getElem_cons hjl,List.flatten_cons,List.append_assoc] at l3;have hx:=h3 _ (List.getElem_mem hjl);obtain ⟨l4,l5,l6⟩:=k4 ids[j] ((ids.drop (j+1)).flatten++t) l1 l3;rw [hx] at l4 l5 l6;exact ⟨l6,by show zi++[_]=_;rw [l2,l4,zdo hjl],l5⟩
  ·rintro rec2 ⟨z,zb,zi⟩ ⟨j1,j2,j3,j4,j5⟩;simp only at j1 j2 j3 j4 j5;simp only [zbi.l5,zbi.k4,zbi.k3];rw [if_f (lt_f (Nat.lt_irrefl _)),zdp (by simp;omega),zaq,zbw (by omega)];have hstep:RInv b Tx.1 R.1 (i+1) z zb (ps++[Part.mk P.1 (D.1:Int) zi]):=by
    refine hI.step j1 (fun hzb=>?_) (fun p0 t hbad hw hq=>?_) hi
    ·obtain ⟨l1,l2⟩:=j4 hzb;obtain ⟨l3,l4,l5,l6,l7⟩:=hsd l1;have e4:tkM.rest s=q:=rfl;have e5:tkM.rest E.2=E.2.b:=rfl;rw [e4,e5] at l7;refine ⟨l3,?_,l4,by show (0:Int)≤(D.1:Int);omega,by show (D.1:Int) < 65536;omega,by show zi.length < 256;omega,j3⟩;rw [zkj _ D.1 rfl,l7,l2];simp only [j2,List.append_assoc]
    ·obtain ⟨w1,w2,w3,w4,w5⟩:=hw;obtain ⟨n0,hn0⟩:=Int.eq_ofNat_of_zero_le w2;have hn1:n0 < 65536:=by omega
     rw [zkj p0 n0 hn0,List.append_assoc] at hq;obtain ⟨l1,l2,l3,l4,l5⟩:=hfl p0.path (p0.ids.flatten++t) n0 p0.ids.length w1 hn1 w4 hbad hq;obtain ⟨l6,l7,l8⟩:=j5 p0.ids t l5 l4 w5 l3.symm;rw [l3,List.take_length] at l7;rw [l3,List.drop_length] at l8;refine ⟨?_,l8,l6⟩;obtain ⟨pp,ps0,pi⟩:=p0;simp only at l1 l7 hn0;rw [l1,l2,l7,hn0]
   cases hzb:zb with
   | true =>
    rw [if_pos rfl];rw [hzb] at hstep;exact hfin _ _ _ _ hstep (fun h=>by cases h)
   | false =>
    rw [if_neg (by simp)];rw [hzb] at hstep;exact hrec (z,false,ps++[Part.mk P.1 (D.1:Int) zi]) ⟨hstep,by simp [hpl]⟩
 ·rintro rec ⟨q,bad,ps⟩ ⟨hI,hpl⟩;simp only at hI hpl;simp only [zbi.l2];rw [if_f (lt_f (Nat.lt_irrefl _))];exact hfin _ _ _ _ hI fun _=>rfl
end Go.Wk.Lf
end
section
namespace Go.Wk.Lf
open Go.V Go.Sort Go.Proofs
theorem zgq {α:Type} (b:Bool) (x z:α):only b (some x) z=some (if b=true then x else z):=by
 cases b <;> rfl
def allN (n:Nat) (ok:Nat→Bool):Bool:=(List.range n).all ok
theorem zgu {n:Nat} {ok:Nat→Bool}:allN n ok=true ↔ ∀ i,i < n→ok i=true:=by simp [allN]
theorem loop_allN {S A:Type} {F:(S→Option A)→S→Option A} (mk:Nat→S) (n:Nat) (ok:Nat→Bool) (K B:Option A) {x0:S} (hx:x0=mk 0) (hn:n < 4611686018427387904)
  (hstep:∀ rec i,i < n→F rec (mk i)=if ok i=true then rec (mk (i+1)) else B) (hend:∀ rec,F rec (mk n)=K):loop F x0=if allN n ok=true then K else B:=by
 rw [zpw mk n ok K B hx hn hstep hend]
 by_cases h:allN n ok=true
 ·rw [if_pos h,if_pos (zgu.1 h)]
 ·rw [if_neg h,if_neg fun q=>h (zgu.2 q)]
theorem zkk {A:Type} {F:(Int→Option A)→Int→Option A} (n:Nat) (ok:Nat→Bool) (K B:Option A) (hn:n < 4611686018427387904)
  (hstep:∀ rec (i:Nat),i < n→F rec (i:Int)=if ok i=true then rec ((i+1:Nat):Int) else B) (hend:∀ rec,F rec (n:Int)=K):loop F 0=if allN n ok=true then K else B :=
 loop_allN (x0:=(0:Int)) (fun i=>(i:Int)) n ok K B rfl hn hstep hend
theorem allN_all {α:Type} [Inhabited α] (l:List α) (p:α→Bool):allN l.length (fun i=>p (l.getD i default))=l.all p:=by
 rw [Bool.eq_iff_iff,zgu];exact zrb l p (fun i=>p (l.getD i default)) fun i hi=>by simp [hi]
theorem zdj {α:Type} [Inhabited α] {l:List α} {i:Nat} (h:i < l.length):l.getD i default=l[i]:=by simp [h]
def inB (n a b:Int):Bool:=decide (a≤n)&&decide (n≤b)
theorem in_eq (n a b:Int):zfa n a b=some (inB n a b):=rfl
def volB (v:Vol):Bool:=inB v.pool 0 1&&inB v.epoch 0 1048576&&((decide (v.state=2)&&inB v.files 1 65535)||((decide (v.state=1)||decide (v.state=3))&&decide (v.files=0)))
def volsB (l:List Vol):Bool:=l.all volB&&inB (l.length:Int) 1 8
theorem zkc {α:Type} {b c:Bool} {x y:α} (h:b = !c):(if b=true then x else y)=if c=true then y else x:=by
 subst h;cases c <;> rfl
theorem vols_eq (l:List Vol) (hl:l.length≤1073741824):zdy l=some (volsB l):=by
 unfold zdy;rw [zkk l.length (fun i=>volB (l.getD i default)) (some (inB (l.length:Int) 1 8)) (some false) (by omega) ?_ ?_,allN_all]
 ·unfold volsB;cases l.all volB <;> rfl
 ·intro rec i hi;simp only [zdy.l2];rw [if_t (lt_t hi),zds hi,zaq];simp only [in_eq,zgq,zaq,zbw (show i < 4611686018427387904 by omega),zdj hi];refine zkc ?_;unfold volB;cases inB l[i].pool 0 1 <;> cases inB l[i].epoch 0 1048576 <;> cases decide (l[i].state=2) <;> cases inB l[i].files 1 65535 <;> simp
 ·intro rec;simp only [zdy.l2,zdy.k1];rw [if_f (lt_f (Nat.lt_irrefl _))];rfl
def locB (vs:List Vol) (x:Loc):Bool:=inB x.vol 0 ((vs.length:Int) - 1)&&decide ((vs.getD x.vol.toNat default).state=2)&&inB x.file 1 (vs.getD x.vol.toNat default).files&&inB x.off 0 16777215&&inB x.len 13 8013
def afterB (a b:Loc):Bool:=if a.vol≠b.vol then decide (b.vol < a.vol) else if a.file≠b.file then decide (b.file < a.file) else decide (b.off < a.off)
theorem after_eq (a b:Loc):zju a b=some (afterB a b):=by
 unfold zju afterB;simp only [decide_eq_true_eq]
 split
 ·rfl
 ·split <;> rfl
def locOk (vs:List Vol) (l:List Loc) (i:Nat):Bool:=locB vs (l.getD i default)&&(!decide (0 < i)||afterB (l.getD i default) (l.getD (i - 1) default))
def zjk (vs:List Vol) (l:List Loc):Bool:=decide (l.length≤200)&&allN l.length (locOk vs l)
theorem zqt {n a b:Int}:inB n a b=true ↔ a≤n∧n≤b:=by simp [inB]
theorem ix_int {α:Type} [Inhabited α] {l:List α} {i:Int} (h0:0≤i) (h1:i≤(l.length:Int) - 1):ix l i=some (l.getD i.toNat default):=by
 obtain ⟨n,rfl⟩:∃ n:Nat,i=n:=⟨i.toNat,by omega⟩
 rw [zds (by omega),Int.toNat_natCast,zdj (by omega)]
theorem locs_eq (c:Catalog) (l:List Loc) (hv:c.vols.length≤1073741824):zdm c l=some (zjk c.vols l):=by
 unfold zdm zjk
 by_cases hl:l.length≤200
 ·rw [if_f (decide_eq_false (by omega))];rw [zkk l.length (locOk c.vols l) (some true) (some false) (by omega) ?_ ?_,decide_eq_true hl]
  ·cases allN l.length (locOk c.vols l) <;> rfl
  ·intro rec i hi;simp only [zdm.l2];rw [if_t (lt_t hi),zds hi,zaq];simp only [in_eq,zgq,zaq,zfy (show (-9223372036854775808:Int)≤(c.vols.length:Int) - 1 by omega) (by omega),zbw (show i < 4611686018427387904 by omega)];have e1:l.getD i default=l[i]:=zdj hi;unfold locOk locB;rw [e1]
   by_cases h1:inB l[i].vol 0 ((c.vols.length:Int) - 1)=true
   ·obtain ⟨a0,a1⟩:=zqt.1 h1;rw [h1,ix_int a0 a1];simp only [zgq,zaq,Bool.not_true,Bool.not_false,if_true]
    by_cases h0:0 < i
    ·have e2:ix l (wr ((i:Int) - 1))=some (l.getD (i - 1) default):=by
      rw [zmh h0 (by omega),zds (show i - 1 < l.length by omega),zdj (by omega)]
     rw [e2];have h0':decide ((0:Int) < (i:Int))=true:=decide_eq_true (by omega);rw [h0',decide_eq_true h0];simp only [zgq,zaq,after_eq];refine zkc ?_;generalize inB l[i].off 0 16777215=p;generalize inB l[i].len 13 8013=q
     by_cases hs:(c.vols.getD l[i].vol.toNat default).state=2
     ·simp only [hs,ne_eq,not_true_eq_false,decide_false,decide_true,Bool.or_self,Bool.false_or,Bool.not_false,if_true,Bool.true_and,Bool.and_true];generalize inB l[i].file 1 (c.vols.getD l[i].vol.toNat default).files=s;cases s <;> cases p <;> cases q <;> simp
     ·simp only [hs,ne_eq,not_false_eq_true,decide_true,decide_false,Bool.true_or,Bool.or_true,Bool.and_false,Bool.false_and,Bool.not_false,Bool.false_or]
    ·have h0':decide ((0:Int) < (i:Int))=false:=decide_eq_false (by omega);rw [h0',decide_eq_false h0];simp only [Bool.and_false,zhz,zgq,zaq,Bool.false_and,Bool.or_false,Bool.not_false,Bool.true_or,Bool.and_true];refine zkc ?_;generalize inB l[i].off 0 16777215=p;generalize inB l[i].len 13 8013=q
     by_cases hs:(c.vols.getD l[i].vol.toNat default).state=2
     ·simp only [hs,ne_eq,not_true_eq_false,decide_false,decide_true,Bool.or_self,Bool.false_or,Bool.not_false,if_true,Bool.true_and,Bool.and_true];generalize inB l[i].file 1 (c.vols.getD l[i].vol.toNat default).files=s;cases s <;> cases p <;> cases q <;> simp
     ·simp only [hs,ne_eq,not_false_eq_true,decide_true,decide_false,Bool.true_or,Bool.or_true,Bool.and_false,Bool.false_and,Bool.not_false,Bool.false_or]
   ·rw [Bool.not_eq_true] at h1;rw [h1];simp only [Bool.not_false,Bool.not_true,zhz,zaq,Bool.true_or,Bool.false_and,Bool.and_false,if_false,if_true];rfl
  ·intro rec;simp only [zdm.l2,zdm.k1];rw [if_f (lt_f (Nat.lt_irrefl _))]
 ·rw [if_t (decide_eq_true (by omega)),decide_eq_false hl];rfl
end Go.Wk.Lf
end
section
namespace Go.Wk.Lf
open Go.V Go.Sort Go.Proofs
def zox (f:Nat→Bool):Nat→Nat→Nat
 | _,0=>0
 | i,n+1=>if f i=true then zox f (i+1) n+1 else 0
def preN (n:Nat) (f:Nat→Bool):Nat:=zox f 0 n
theorem firstN_le (f:Nat→Bool):∀ n i,zox f i n≤n
 | 0,i=>Nat.le_refl _
 | n+1,i=>by unfold zox;split;exact Nat.succ_le_succ (firstN_le f n _);exact Nat.zero_le _
theorem zxg (f:Nat→Bool):∀ n i q,q < zox f i n→f (i+q)=true
 | 0,i,q,h=>by cases h
 | n+1,i,q,h=>by
  unfold zox at h
  split at h
  ·cases q with
   | zero=>assumption
   | succ q=>have:=zxg f n (i+1) q (by omega);rwa [show i+1+q=i+(q+1) by omega] at this
  ·cases h
theorem firstN_no (f:Nat→Bool):∀ n i,zox f i n < n→f (i+zox f i n)=false
 | 0,i,h=>by cases h
 | n+1,i,h=>by
  unfold zox at h ⊢
  split at h
  ·rename_i hf;rw [if_pos hf];have:=firstN_no f n (i+1) (by omega);rwa [show i+1+zox f (i+1) n=i+(zox f (i+1) n+1) by omega] at this
  ·rename_i hf;rw [if_neg hf,Nat.add_zero];simpa using hf
theorem preN_le (n:Nat) (f:Nat→Bool):preN n f≤n:=firstN_le f n 0
theorem preN_yes {n:Nat} {f:Nat→Bool} {q:Nat} (h:q < preN n f):f q=true:=by have:=zxg f n 0 q h;rwa [Nat.zero_add] at this
theorem preN_no {n:Nat} {f:Nat→Bool} (h:preN n f < n):f (preN n f)=false:=by have:=firstN_no f n 0 h;rwa [Nat.zero_add] at this
theorem zoq {n:Nat} {f:Nat→Bool} {k:Nat} (hk:k≤n) (h1:∀ q,q < k→f q=true) (h2:k < n→f k=false):preN n f=k:=by
 rcases Nat.lt_trichotomy (preN n f) k with h | h | h
 ·have:=preN_no (n:=n) (f:=f) (by omega);rw [h1 _ h] at this;cases this
 ·exact h
 ·have:=preN_yes h;rw [h2 (by have:=preN_le n f;omega)] at this;cases this
theorem bs_loop {A:Type} {F:(Int × Int→Option A)→Int × Int→Option A} (n:Nat) (f:Nat→Bool) (K:Nat→Option A) (hn:n≤1073741824) (hmono:∀ i j,i < j→j < n→f j=true→f i=true)
  (hstep:∀ rec (i j:Nat),i < j→j≤n→F rec ((i:Int),(j:Int))=if f ((i+j) / 2)=true then rec ((((i+j) / 2+1:Nat):Int),(j:Int)) else rec ((i:Int),(((i+j) / 2:Nat):Int)))
  (hend:∀ rec (i:Nat),i≤n→F rec ((i:Int),(i:Int))=K i):loop F (0,(n:Int))=K (preN n f):=by
 refine zpv (S:=Int × Int) (fun s=>∃ i j:Nat,s=((i:Int),(j:Int))∧i≤j∧j≤n∧(∀ q,q < i→f q=true) ∧ ∀ q,j≤q→q < n→f q=false) (fun s=>(s.2 - s.1).toNat) ⟨0,n,rfl,Nat.zero_le _,Nat.le_refl _,fun q h=>by omega,fun q h1 h2=>by omega⟩ (by simp only;omega) ?_;rintro rec s ⟨i,j,rfl,hij,hjn,h1,h2⟩ hrec
 by_cases h:i=j
 ·subst h;rw [hend rec i hjn,zoq hjn h1 fun h=>h2 i (Nat.le_refl _) h]
 ·have hlt:i < j:=by omega
  rw [hstep rec i j hlt hjn]
  by_cases hf:f ((i+j) / 2)=true
  ·rw [if_pos hf];refine hrec _ ⟨_,j,rfl,by omega,hjn,fun q hq=>?_,h2⟩ (by simp only;omega)
   by_cases hq2:q=(i+j) / 2
   ·rw [hq2];exact hf
   ·exact hmono q ((i+j) / 2) (by omega) (by omega) hf
  ·rw [if_neg hf];refine hrec _ ⟨i,_,rfl,by omega,by omega,h1,fun q hq hqn=>?_⟩ (by simp only;omega)
   by_cases hq2:q=(i+j) / 2
   ·rw [hq2];simpa using hf
   ·cases hfq:f q with
    | false=>rfl
    | true=>exact absurd (hmono ((i+j) / 2) q (by omega) hqn hfq) hf
theorem mid_eq {i j:Nat} (hi:i≤1073741824) (hj:j≤1073741824):wr ((wu (wr ((i:Int)+(j:Int)))) / 2 ^ (1:Int).toNat)=(((i+j) / 2:Nat):Int):=by
 have h1:wr ((i:Int)+(j:Int))=((i+j:Nat):Int):=by rw [zfy (by omega) (by omega)];omega
 have h2:wu (((i+j:Nat):Int))=((i+j:Nat):Int):=by
  show IntKind.u64.wrap _=_;have:(((i+j:Nat):Int) % (2 ^ 64:Int))=((i+j:Nat):Int):=Int.emod_eq_of_lt (by omega) (by omega);exact this
 rw [h1,h2];have h3:(((i+j:Nat):Int)) / 2 ^ (1:Int).toNat=(((i+j) / 2:Nat):Int):=by
  show ((i+j:Nat):Int) / 2 ^ 1=_;omega
 rw [h3,zfy (by omega) (by omega)]
def placeN {α:Type} [Inhabited α] (l:List α) (lt:α→Bool):Nat:=preN l.length fun i=>lt (l.getD i default)
theorem cmpT_neg (a b:List UInt8):decide (cmpT a b < 0)=sLt a b:=by rw [← zwe];rfl
theorem cmpT_zero (a b:List UInt8):decide (cmpT a b=0)=decide (a=b):=by
 have h1:=zwe a b;have h2:=zwe b a
 by_cases h:a=b
 ·subst h;have:cmpT a a=0:=by unfold cmpT;rw [zgf];rfl
  simp [this]
 ·have:cmpT a b≠0:=by
   unfold cmpT
   by_cases h3:sLt a b=true
   ·simp [h3]
   ·by_cases h4:sLt b a=true
    ·simp [h3,h4]
    ·exact absurd (zuz (by simpa using h3) (by simpa using h4)) h
  simp [this,h]
theorem zwd (a b:List UInt8):zjt a b=some (cmpT a b):=rfl
def zlw (l:List Chunk):Prop:=l.Pairwise fun a b=>sLt a.id b.id=true
theorem pair_lt {α:Type} {R:α→α→Prop} {l:List α} (h:l.Pairwise R) {i j:Nat} (hij:i < j) (hj:j < l.length):R (l[i]'(by omega)) l[j]:=List.pairwise_iff_getElem.1 h i j (by omega) hj hij
def zhv (l:List Chunk) (id:List UInt8):Nat:=placeN l fun x=>sLt x.id id
def ztw (l:List Chunk) (id:List UInt8):Bool:=decide (zhv l id < l.length)&&decide ((l.getD (zhv l id) default).id=id)
theorem zyd (l:List Chunk) (id:List UInt8) (hl:l.length≤1073741824) (hr:zlw l) :
  zhn l id=some (((zhv l id:Nat):Int),ztw l id):=by
 unfold zhn;rw [show zad l id=some (((zhv l id:Nat):Int),ztw l id) from ?_]
 ·rfl
 unfold ztw zhv placeN zad;refine bs_loop l.length (fun i=>sLt (l.getD i default).id id) (fun k=>some ((k:Int),decide (k < l.length)&&decide ((l.getD k default).id=id))) hl ?_ ?_ ?_
 ·intro i j hij hj h;rw [zdj hj] at h;rw [zdj (by omega)];exact zir (pair_lt hr hij hj) h
 ·intro rec i j hij hj;simp only [zad.l2];have hm:(i+j) / 2 < l.length:=by omega
  rw [if_t (lt_t hij),mid_eq (by omega) (by omega),zds hm,zaq];simp only [zhf,zwd,zaq,cmpT_neg,zdj hm,zbw (show (i+j) / 2 < 4611686018427387904 by omega)]
 ·intro rec i hi;simp only [zad.l2,zad.k1];rw [if_f (lt_f (Nat.lt_irrefl _))]
  by_cases h:i < l.length
  ·simp only [lt_t h,zds h,zgq,zaq,if_true,zhf,zwd,Bool.true_and,zdj h,decide_eq_true h,cmpT_zero]
  ·simp only [lt_f h,zhz,zaq,Bool.false_and,decide_eq_false h]
theorem chunkAt_le (l:List Chunk) (id:List UInt8):zhv l id≤l.length:=preN_le _ _
theorem hasId_iff {l:List Chunk} (hr:zlw l) (id:List UInt8):ztw l id=true ↔ ∃ x∈l,x.id=id:=by
 unfold ztw;simp only [Bool.and_eq_true,decide_eq_true_eq];constructor
 ·rintro ⟨h1,h2⟩;rw [zdj h1] at h2;exact ⟨_,List.getElem_mem h1,h2⟩
 ·rintro ⟨x,hx,rfl⟩;obtain ⟨i,hi,rfl⟩:=List.getElem_of_mem hx;have:zhv l l[i].id=i:=zoq (Nat.le_of_lt hi) (fun q hq=>by
   rw [zdj (by omega)];exact pair_lt hr hq hi) (fun _=>by rw [zdj hi];exact zgf _)
  rw [this];exact ⟨hi,by rw [zdj hi]⟩
end Go.Wk.Lf
end
