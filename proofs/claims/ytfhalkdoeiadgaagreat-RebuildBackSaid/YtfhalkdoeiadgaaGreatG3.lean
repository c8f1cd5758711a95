/- The types, found by themselves. Plain lemmas on the words of lifted functions. -/
import Derived.Test.YtfhalkdoeiadgaaGreatProg
import Derived.Test.YtfhalkdoeiadgaaGreatG2
set_option linter.unusedVariables false
set_option linter.unusedSimpArgs false
open Go.Proofs.Tryz renaming prog→il, underlying109→rX, underlying22→yF, underlying23→EM, underlying24→kR, underlying25→kT, underlying26→mg, underlying31→lL, underlying51→EO, underlying52→B8, underlying56→EP, underlying59→ov, underlying62→Dj, underlying67→uo, underlying68→MK, underlying9→wH, underlying95→ER
open List renaming all_append→lz, all_cons→nJ, all_nil→oG, getElem?_eq_getElem→jx
section
namespace Go.Wk.Lf.Ty
open Go.V Go.Proofs
theorem SI:lG il 164=some true:=by kernel_rfl
theorem rb:lG il 28=some true:=by kernel_rfl
theorem Cm:lG il 35=some true:=by kernel_rfl
theorem tK:lG il 58=some true:=by kernel_rfl
theorem Nl:lG il 61=some true:=by kernel_rfl
theorem zY:lG il 64=some true:=by kernel_rfl
theorem pJ:lG il 82=some true:=by kernel_rfl
theorem Nn:lG il 84=some true:=by kernel_rfl
theorem SJ:lG il 92=some true:=by kernel_rfl
theorem Y2:yN il 128=some ([(0,1),(1,1)],[.s [],.sl none 0 (.k 0)]):=by kernel_rfl
theorem Y3:yN il 202=some ([(0,1),(1,1)],[.sl none 0 (.k 0),.b false]):=by kernel_rfl
theorem Y4:yN il 28=some ([(0,1),(1,1),(2,1),(3,1),(4,1)],[.i .i64 0,.sl none 0 (.k 0),.sl none 0 (.k 0),.sl none 0 (.k 0),.sl none 0 (.k 0)]):=by kernel_rfl
theorem Hs:yN il 33=some ([(0,1),(1,1),(2,1)],[.i .i64 0,.i .i64 0,.sl none 0 (.k 0)]):=by kernel_rfl
theorem S6:yN il 37=some ([(0,3),(3,4)],[.i .i64 0,.i .i64 0,.sl none 0 (.k 0),.i .i64 0,.i .i64 0,.i .i64 0,.i .i64 0]):=by kernel_rfl
theorem S7:yN il 61=some ([(0,1),(1,2),(3,1)],[.i .i64 0,.s [],.sl none 0 (.k 0),.sl none 0 (.k 0)]):=by kernel_rfl
theorem Ny:yN il 64=some ([(0,1),(1,4),(5,1),(6,1),(7,1),(8,1)],[.i .i64 0,.i .i64 0,.s [],.sl none 0 (.k 0),.sl none 0 (.k 0),.sl none 0 (.k 0),.i .i64 0,.i .i64 0,.sl none 0 (.k 0)]):=by kernel_rfl
theorem Y5:yN il 84=some ([(0,32),(32,1),(33,1),(34,1)],[.i .u8 0,.i .u8 0,.i .u8 0,.i .u8 0,.i .u8 0,.i .u8 0,.i .u8 0,.i .u8 0,.i .u8 0,.i .u8 0,.i .u8 0,.i .u8 0,.i .u8 0,.i .u8 0,.i .u8 0,.i .u8 0,.i .u8 0,.i .u8 0,.i .u8 0,.i .u8 0,.i .u8 0,.i .u8 0,.i .u8 0,.i .u8 0,.i .u8 0,.i .u8 0,.i .u8 0,.i .u8 0,.i .u8 0,.i .u8 0,.i .u8 0,.i .u8 0,.b false,.sl none 0 (.k 0),.sl none 0 (.k 0)]):=by kernel_rfl
theorem Y6:yN il 92=some ([(0,1),(1,1),(2,1)],[.i .i64 0,.i .i64 0,.sl none 0 (.k 0)]):=by kernel_rfl
theorem Tj:lG il 109=some false:=by kernel_rfl
theorem lO:lG il 163=some false:=by kernel_rfl
theorem DJ:lG il 22=some false:=by kernel_rfl
theorem Bc:lG il 24=some false:=by kernel_rfl
theorem vj:lG il 25=some false:=by kernel_rfl
theorem z8:lG il 26=some false:=by kernel_rfl
theorem pL:lG il 3=some false:=by kernel_rfl
theorem DK:lG il 31=some false:=by kernel_rfl
theorem DL:lG il 4=some false:=by kernel_rfl
theorem Aa:lG il 5=some false:=by kernel_rfl
theorem sh:lG il 59=some false:=by kernel_rfl
theorem DM:lG il 62=some false:=by kernel_rfl
theorem Hz:lG il 67=some false:=by kernel_rfl
theorem NJ:lG il 68=some false:=by kernel_rfl
theorem Be:lG il 9=some false:=by kernel_rfl
theorem FL:oz il 128 0=some 0:=by kernel_rfl
theorem N0:oz il 128 1=some 1:=by kernel_rfl
theorem N1:oz il 132 2=some 33:=by kernel_rfl
theorem N2:oz il 132 3=some 34:=by kernel_rfl
theorem N3:oz il 202 0=some 0:=by kernel_rfl
theorem KB:oz il 202 1=some 1:=by kernel_rfl
theorem N4:oz il 28 0=some 0:=by kernel_rfl
theorem Bl:oz il 28 1=some 1:=by kernel_rfl
theorem yX:oz il 28 2=some 2:=by kernel_rfl
theorem Bm:oz il 28 3=some 3:=by kernel_rfl
theorem DR:oz il 28 4=some 4:=by kernel_rfl
theorem N5:oz il 58 0=some 0:=by kernel_rfl
theorem N6:oz il 61 0=some 0:=by kernel_rfl
theorem N7:oz il 61 1=some 1:=by kernel_rfl
theorem N8:oz il 61 2=some 3:=by kernel_rfl
theorem KC:oz il 64 2=some 5:=by kernel_rfl
theorem N9:oz il 64 5=some 8:=by kernel_rfl
theorem HK:oz il 70 3=some 3:=by kernel_rfl
theorem Oa:oz il 70 4=some 4:=by kernel_rfl
theorem KD:oz il 84 1=some 32:=by kernel_rfl
theorem FM:oz il 84 3=some 34:=by kernel_rfl
theorem KE:oz il 90 2=some 2:=by kernel_rfl
theorem Oc:oz il 92 0=some 0:=by kernel_rfl
theorem mixed:il.follows .mixedOrders=true:=by kernel_rfl
theorem Wn:pC il 128 2=true:=by kernel_rfl
theorem LX:pC il 132 37=true:=by kernel_rfl
theorem I5:pC il 136 3=true:=by kernel_rfl
theorem Wo:pC il 163 1=true:=by kernel_rfl
theorem LY:pC il 3 1=true:=by kernel_rfl
theorem LZ:pC il 31 1=true:=by kernel_rfl
theorem yt:pC il 35 4=true:=by kernel_rfl
theorem L0:pC il 37 7=true:=by kernel_rfl
theorem qD:pC il 5 1=true:=by kernel_rfl
theorem AG:pC il 61 4=true:=by kernel_rfl
theorem CY:pC il 82 32=true:=by kernel_rfl
theorem zw:pC il 84 35=true:=by kernel_rfl
theorem I6:pC il 90 4=true:=by kernel_rfl
theorem BU:pC il 92 3=true:=by kernel_rfl
theorem WT:sz il 109=some 1:=by kernel_rfl
theorem AK:sz il 128=some 2:=by kernel_rfl
theorem QA:sz il 132=some 37:=by kernel_rfl
theorem QB:sz il 136=some 3:=by kernel_rfl
theorem kM:sz il 163=some 1:=by kernel_rfl
theorem WU:sz il 164=some 64:=by kernel_rfl
theorem rv:sz il 28=some 5:=by kernel_rfl
theorem BX:sz il 3=some 1:=by kernel_rfl
theorem Ew:sz il 31=some 1:=by kernel_rfl
theorem ug:sz il 35=some 4:=by kernel_rfl
theorem L9:sz il 4=some 1:=by kernel_rfl
theorem pD:sz il 5=some 1:=by kernel_rfl
theorem tz:sz il 58=some 2:=by kernel_rfl
theorem xu:sz il 59=some 1:=by kernel_rfl
theorem oa:sz il 61=some 4:=by kernel_rfl
theorem AL:sz il 64=some 9:=by kernel_rfl
theorem Ey:sz il 70=some 5:=by kernel_rfl
theorem nx:sz il 82=some 32:=by kernel_rfl
theorem nX:sz il 84=some 35:=by kernel_rfl
theorem Ma:sz il 90=some 4:=by kernel_rfl
theorem pP:sz il 92=some 3:=by kernel_rfl
theorem aiW:(zeroV il 132).map gE.cells=some [.i .i64 0,.i .u8 0,.i .u8 0,.i .u8 0,.i .u8 0,.i .u8 0,.i .u8 0,.i .u8 0,.i .u8 0,.i .u8 0,.i .u8 0,.i .u8 0,.i .u8 0,.i .u8 0,.i .u8 0,.i .u8 0,.i .u8 0,.i .u8 0,.i .u8 0,.i .u8 0,.i .u8 0,.i .u8 0,.i .u8 0,.i .u8 0,.i .u8 0,.i .u8 0,.i .u8 0,.i .u8 0,.i .u8 0,.i .u8 0,.i .u8 0,.i .u8 0,.i .u8 0,.i .i64 0,.i .i64 0,.i .i64 0,.i .i64 0]:=by kernel_rfl
theorem Q4:(zeroV il 136).map gE.cells=some [.s [],.i .i64 0,.sl none 0 (.k 0)]:=by kernel_rfl
theorem Mq:(zeroV il 164).map gE.cells=some [.i .u32 0,.i .u32 0,.i .u32 0,.i .u32 0,.i .u32 0,.i .u32 0,.i .u32 0,.i .u32 0,.i .u32 0,.i .u32 0,.i .u32 0,.i .u32 0,.i .u32 0,.i .u32 0,.i .u32 0,.i .u32 0,.i .u32 0,.i .u32 0,.i .u32 0,.i .u32 0,.i .u32 0,.i .u32 0,.i .u32 0,.i .u32 0,.i .u32 0,.i .u32 0,.i .u32 0,.i .u32 0,.i .u32 0,.i .u32 0,.i .u32 0,.i .u32 0,.i .u32 0,.i .u32 0,.i .u32 0,.i .u32 0,.i .u32 0,.i .u32 0,.i .u32 0,.i .u32 0,.i .u32 0,.i .u32 0,.i .u32 0,.i .u32 0,.i .u32 0,.i .u32 0,.i .u32 0,.i .u32 0,.i .u32 0,.i .u32 0,.i .u32 0,.i .u32 0,.i .u32 0,.i .u32 0,.i .u32 0,.i .u32 0,.i .u32 0,.i .u32 0,.i .u32 0,.i .u32 0,.i .u32 0,.i .u32 0,.i .u32 0,.i .u32 0]:=by kernel_rfl
theorem Mr:(zeroV il 166).map gE.cells=some [.i .u32 0,.i .u32 0,.i .u32 0,.i .u32 0,.i .u32 0,.i .u32 0,.i .u32 0,.i .u32 0]:=by kernel_rfl
theorem XA:(zeroV il 35).map gE.cells=some [.i .i64 0,.i .i64 0,.i .i64 0,.i .i64 0]:=by kernel_rfl
theorem Q5:(zeroV il 5).map gE.cells=some [.i .u8 0]:=by kernel_rfl
theorem Q6:(zeroV il 61).map gE.cells=some [.i .i64 0,.s [],.sl none 0 (.k 0),.sl none 0 (.k 0)]:=by kernel_rfl
theorem B2:(zeroV il 82).map gE.cells=some [.i .u8 0,.i .u8 0,.i .u8 0,.i .u8 0,.i .u8 0,.i .u8 0,.i .u8 0,.i .u8 0,.i .u8 0,.i .u8 0,.i .u8 0,.i .u8 0,.i .u8 0,.i .u8 0,.i .u8 0,.i .u8 0,.i .u8 0,.i .u8 0,.i .u8 0,.i .u8 0,.i .u8 0,.i .u8 0,.i .u8 0,.i .u8 0,.i .u8 0,.i .u8 0,.i .u8 0,.i .u8 0,.i .u8 0,.i .u8 0,.i .u8 0,.i .u8 0]:=by kernel_rfl
theorem GN:(zeroV il 84).map gE.cells=some [.i .u8 0,.i .u8 0,.i .u8 0,.i .u8 0,.i .u8 0,.i .u8 0,.i .u8 0,.i .u8 0,.i .u8 0,.i .u8 0,.i .u8 0,.i .u8 0,.i .u8 0,.i .u8 0,.i .u8 0,.i .u8 0,.i .u8 0,.i .u8 0,.i .u8 0,.i .u8 0,.i .u8 0,.i .u8 0,.i .u8 0,.i .u8 0,.i .u8 0,.i .u8 0,.i .u8 0,.i .u8 0,.i .u8 0,.i .u8 0,.i .u8 0,.i .u8 0,.b false,.sl none 0 (.k 0),.sl none 0 (.k 0)]:=by kernel_rfl
theorem Q7:(zeroV il 92).map gE.cells=some [.i .i64 0,.i .i64 0,.sl none 0 (.k 0)]:=by kernel_rfl
theorem Ms:rV il 109=some false:=by kernel_rfl
theorem XE:rV il 22=some false:=by kernel_rfl
theorem Q8:rV il 25=some false:=by kernel_rfl
theorem Q9:rV il 26=some false:=by kernel_rfl
theorem Mt:rV il 31=some false:=by kernel_rfl
theorem GP:rV il 59=some false:=by kernel_rfl
theorem XF:rV il 62=some false:=by kernel_rfl
theorem Ra:rV il 9=some false:=by kernel_rfl
theorem Y7:J9 il 164=some (1,[.i .u32 0,.i .u32 0,.i .u32 0,.i .u32 0,.i .u32 0,.i .u32 0,.i .u32 0,.i .u32 0,.i .u32 0,.i .u32 0,.i .u32 0,.i .u32 0,.i .u32 0,.i .u32 0,.i .u32 0,.i .u32 0,.i .u32 0,.i .u32 0,.i .u32 0,.i .u32 0,.i .u32 0,.i .u32 0,.i .u32 0,.i .u32 0,.i .u32 0,.i .u32 0,.i .u32 0,.i .u32 0,.i .u32 0,.i .u32 0,.i .u32 0,.i .u32 0,.i .u32 0,.i .u32 0,.i .u32 0,.i .u32 0,.i .u32 0,.i .u32 0,.i .u32 0,.i .u32 0,.i .u32 0,.i .u32 0,.i .u32 0,.i .u32 0,.i .u32 0,.i .u32 0,.i .u32 0,.i .u32 0,.i .u32 0,.i .u32 0,.i .u32 0,.i .u32 0,.i .u32 0,.i .u32 0,.i .u32 0,.i .u32 0,.i .u32 0,.i .u32 0,.i .u32 0,.i .u32 0,.i .u32 0,.i .u32 0,.i .u32 0,.i .u32 0]):=by kernel_rfl
theorem J8:J9 il 166=some (1,[.i .u32 0,.i .u32 0,.i .u32 0,.i .u32 0,.i .u32 0,.i .u32 0,.i .u32 0,.i .u32 0]):=by kernel_rfl
theorem TV:HH il 35=some [.int .i64,.int .i64,.int .i64,.int .i64]:=by kernel_rfl
theorem Ag:HH il 82=some [.int .u8,.int .u8,.int .u8,.int .u8,.int .u8,.int .u8,.int .u8,.int .u8,.int .u8,.int .u8,.int .u8,.int .u8,.int .u8,.int .u8,.int .u8,.int .u8,.int .u8,.int .u8,.int .u8,.int .u8,.int .u8,.int .u8,.int .u8,.int .u8,.int .u8,.int .u8,.int .u8,.int .u8,.int .u8,.int .u8,.int .u8,.int .u8]:=by kernel_rfl
theorem ai1:rV il 3=some true:=by kernel_rfl
theorem zv4:zeroV il 4=some (.b false):=by kernel_rfl
end Go.Wk.Lf.Ty
end
section
namespace Go.Wk.Lf
open Go.V
instance : mz il 132 true := ⟨by kernel_rfl⟩
instance : mz il 136 true := ⟨by kernel_rfl⟩
instance : mz il 164 true := ⟨Ty.SI⟩
instance : mz il 166 true := ⟨by kernel_rfl⟩
instance : mz il 28 true := ⟨Ty.rb⟩
instance : mz il 33 true := ⟨by kernel_rfl⟩
instance : mz il 35 true := ⟨Ty.Cm⟩
instance : mz il 37 true := ⟨by kernel_rfl⟩
instance : mz il 58 true := ⟨Ty.tK⟩
instance : mz il 61 true := ⟨Ty.Nl⟩
instance : mz il 64 true := ⟨Ty.zY⟩
instance : mz il 70 true := ⟨by kernel_rfl⟩
instance : mz il 82 true := ⟨Ty.pJ⟩
instance : mz il 84 true := ⟨Ty.Nn⟩
instance : mz il 90 true := ⟨by kernel_rfl⟩
instance : mz il 92 true := ⟨Ty.SJ⟩
instance : mz il 109 false := ⟨Ty.Tj⟩
instance : mz il 163 false := ⟨Ty.lO⟩
instance : mz il 22 false := ⟨Ty.DJ⟩
instance : mz il 24 false := ⟨Ty.Bc⟩
instance : mz il 25 false := ⟨Ty.vj⟩
instance : mz il 26 false := ⟨Ty.z8⟩
instance : mz il 3 false := ⟨Ty.pL⟩
instance : mz il 31 false := ⟨Ty.DK⟩
instance : mz il 4 false := ⟨Ty.DL⟩
instance : mz il 5 false := ⟨Ty.Aa⟩
instance : mz il 56 false := ⟨by kernel_rfl⟩
instance : mz il 59 false := ⟨Ty.sh⟩
instance : mz il 62 false := ⟨Ty.DM⟩
instance : mz il 67 false := ⟨Ty.Hz⟩
instance : mz il 68 false := ⟨Ty.NJ⟩
instance : mz il 9 false := ⟨Ty.Be⟩
instance : kZ il 128 0 0 := ⟨Ty.FL⟩
instance : kZ il 128 1 1 := ⟨Ty.N0⟩
instance : kZ il 132 0 0 := ⟨by kernel_rfl⟩
instance : kZ il 132 1 1 := ⟨by kernel_rfl⟩
instance : kZ il 132 2 33 := ⟨Ty.N1⟩
instance : kZ il 132 3 34 := ⟨Ty.N2⟩
instance : kZ il 132 4 35 := ⟨by kernel_rfl⟩
instance : kZ il 132 5 36 := ⟨by kernel_rfl⟩
instance : kZ il 136 0 0 := ⟨by kernel_rfl⟩
instance : kZ il 136 1 1 := ⟨by kernel_rfl⟩
instance : kZ il 136 2 2 := ⟨by kernel_rfl⟩
instance : kZ il 202 0 0 := ⟨Ty.N3⟩
instance : kZ il 202 1 1 := ⟨Ty.KB⟩
instance : kZ il 28 0 0 := ⟨Ty.N4⟩
instance : kZ il 28 1 1 := ⟨Ty.Bl⟩
instance : kZ il 28 2 2 := ⟨Ty.yX⟩
instance : kZ il 28 3 3 := ⟨Ty.Bm⟩
instance : kZ il 28 4 4 := ⟨Ty.DR⟩
instance : kZ il 33 0 0 := ⟨by kernel_rfl⟩
instance : kZ il 33 1 1 := ⟨by kernel_rfl⟩
instance : kZ il 33 2 2 := ⟨by kernel_rfl⟩
instance : kZ il 35 0 0 := ⟨by kernel_rfl⟩
instance : kZ il 35 1 1 := ⟨by kernel_rfl⟩
instance : kZ il 35 2 2 := ⟨by kernel_rfl⟩
instance : kZ il 35 3 3 := ⟨by kernel_rfl⟩
instance : kZ il 37 0 0 := ⟨by kernel_rfl⟩
instance : kZ il 37 1 3 := ⟨by kernel_rfl⟩
instance : kZ il 58 0 0 := ⟨Ty.N5⟩
instance : kZ il 58 1 1 := ⟨by kernel_rfl⟩
instance : kZ il 61 0 0 := ⟨Ty.N6⟩
instance : kZ il 61 1 1 := ⟨Ty.N7⟩
instance : kZ il 61 2 3 := ⟨Ty.N8⟩
instance : kZ il 64 0 0 := ⟨by kernel_rfl⟩
instance : kZ il 64 1 1 := ⟨by kernel_rfl⟩
instance : kZ il 64 2 5 := ⟨Ty.KC⟩
instance : kZ il 64 4 7 := ⟨by kernel_rfl⟩
instance : kZ il 64 5 8 := ⟨Ty.N9⟩
instance : kZ il 70 0 0 := ⟨by kernel_rfl⟩
instance : kZ il 70 1 1 := ⟨by kernel_rfl⟩
instance : kZ il 70 2 2 := ⟨by kernel_rfl⟩
instance : kZ il 70 3 3 := ⟨Ty.HK⟩
instance : kZ il 70 4 4 := ⟨Ty.Oa⟩
instance : kZ il 84 0 0 := ⟨by kernel_rfl⟩
instance : kZ il 84 1 32 := ⟨Ty.KD⟩
instance : kZ il 84 2 33 := ⟨by kernel_rfl⟩
instance : kZ il 84 3 34 := ⟨Ty.FM⟩
instance : kZ il 90 0 0 := ⟨by kernel_rfl⟩
instance : kZ il 90 1 1 := ⟨by kernel_rfl⟩
instance : kZ il 90 2 2 := ⟨Ty.KE⟩
instance : kZ il 90 3 3 := ⟨by kernel_rfl⟩
instance : kZ il 92 0 0 := ⟨Ty.Oc⟩
instance : kZ il 92 1 1 := ⟨by kernel_rfl⟩
instance : kZ il 92 2 2 := ⟨by kernel_rfl⟩
instance : mQ il 109 1 := ⟨Ty.WT⟩
instance : mQ il 128 2 := ⟨Ty.AK⟩
instance : mQ il 132 37 := ⟨Ty.QA⟩
instance : mQ il 136 3 := ⟨Ty.QB⟩
instance : mQ il 163 1 := ⟨Ty.kM⟩
instance : mQ il 164 64 := ⟨Ty.WU⟩
instance : mQ il 166 8 := ⟨by kernel_rfl⟩
instance : mQ il 22 1 := ⟨by kernel_rfl⟩
instance : mQ il 24 1 := ⟨by kernel_rfl⟩
instance : mQ il 25 1 := ⟨by kernel_rfl⟩
instance : mQ il 26 1 := ⟨by kernel_rfl⟩
instance : mQ il 28 5 := ⟨Ty.rv⟩
instance : mQ il 3 1 := ⟨Ty.BX⟩
instance : mQ il 31 1 := ⟨Ty.Ew⟩
instance : mQ il 33 3 := ⟨by kernel_rfl⟩
instance : mQ il 35 4 := ⟨Ty.ug⟩
instance : mQ il 37 7 := ⟨by kernel_rfl⟩
instance : mQ il 4 1 := ⟨Ty.L9⟩
instance : mQ il 5 1 := ⟨Ty.pD⟩
instance : mQ il 56 1 := ⟨by kernel_rfl⟩
instance : mQ il 58 2 := ⟨Ty.tz⟩
instance : mQ il 59 1 := ⟨Ty.xu⟩
instance : mQ il 61 4 := ⟨Ty.oa⟩
instance : mQ il 62 1 := ⟨by kernel_rfl⟩
instance : mQ il 64 9 := ⟨Ty.AL⟩
instance : mQ il 70 5 := ⟨Ty.Ey⟩
instance : mQ il 82 32 := ⟨Ty.nx⟩
instance : mQ il 84 35 := ⟨Ty.nX⟩
instance : mQ il 90 4 := ⟨Ty.Ma⟩
instance : mQ il 92 3 := ⟨Ty.pP⟩
instance : uz il 128 2 := ⟨Ty.Wn⟩
instance : uz il 132 37 := ⟨Ty.LX⟩
instance : uz il 136 3 := ⟨Ty.I5⟩
instance : uz il 163 1 := ⟨Ty.Wo⟩
instance : uz il 3 1 := ⟨Ty.LY⟩
instance : uz il 31 1 := ⟨Ty.LZ⟩
instance : uz il 35 4 := ⟨Ty.yt⟩
instance : uz il 37 7 := ⟨Ty.L0⟩
instance : uz il 5 1 := ⟨Ty.qD⟩
instance : uz il 61 4 := ⟨Ty.AG⟩
instance : uz il 82 32 := ⟨Ty.CY⟩
instance : uz il 84 35 := ⟨Ty.zw⟩
instance : uz il 90 4 := ⟨Ty.I6⟩
instance : uz il 92 3 := ⟨Ty.BU⟩
instance : uA il 109 := ⟨Ty.Ms⟩
instance : uA il 22 := ⟨Ty.XE⟩
instance : uA il 23 := ⟨by kernel_rfl⟩
instance : uA il 24 := ⟨by kernel_rfl⟩
instance : uA il 25 := ⟨Ty.Q8⟩
instance : uA il 26 := ⟨Ty.Q9⟩
instance : uA il 31 := ⟨Ty.Mt⟩
instance : uA il 51 := ⟨by kernel_rfl⟩
instance : uA il 56 := ⟨by kernel_rfl⟩
instance : uA il 59 := ⟨Ty.GP⟩
instance : uA il 62 := ⟨Ty.XF⟩
instance : uA il 67 := ⟨by kernel_rfl⟩
instance : uA il 9 := ⟨Ty.Ra⟩
instance : uA il 95 := ⟨by kernel_rfl⟩
instance : xK il 136 [.s [],.i .i64 0,.sl none 0 (.k 0)] := ⟨Ty.Q4⟩
instance : xK il 28 [.i .i64 0,.sl none 0 (.k 0),.sl none 0 (.k 0),.sl none 0 (.k 0),.sl none 0 (.k 0)] := ⟨by kernel_rfl⟩
instance : xK il 35 [.i .i64 0,.i .i64 0,.i .i64 0,.i .i64 0] := ⟨Ty.XA⟩
instance : xK il 37 [.i .i64 0,.i .i64 0,.sl none 0 (.k 0),.i .i64 0,.i .i64 0,.i .i64 0,.i .i64 0] := ⟨by kernel_rfl⟩
instance : xK il 5 [.i .u8 0] := ⟨Ty.Q5⟩
instance : xK il 58 [.s [],.sl none 0 (.k 0)] := ⟨by kernel_rfl⟩
instance : xK il 61 [.i .i64 0,.s [],.sl none 0 (.k 0),.sl none 0 (.k 0)] := ⟨Ty.Q6⟩
instance : xK il 64 [.i .i64 0,.i .i64 0,.s [],.sl none 0 (.k 0),.sl none 0 (.k 0),.sl none 0 (.k 0),.i .i64 0,.i .i64 0,.sl none 0 (.k 0)] := ⟨by kernel_rfl⟩
instance : xK il 90 [.i .i64 0,.i .i64 0,.i .i64 0,.i .i64 0] := ⟨by kernel_rfl⟩
instance : xK il 92 [.i .i64 0,.i .i64 0,.sl none 0 (.k 0)] := ⟨Ty.Q7⟩
instance : SA il 9 := ⟨wH⟩
instance : sg il 22 90 := ⟨yF⟩
instance : sg il 23 37 := ⟨EM⟩
instance : sg il 24 61 := ⟨kR⟩
instance : sg il 25 84 := ⟨kT⟩
instance : sg il 26 92 := ⟨mg⟩
instance : sg il 31 5 := ⟨lL⟩
instance : sg il 51 3 := ⟨EO⟩
instance : sg il 52 70 := ⟨B8⟩
instance : sg il 56 136 := ⟨EP⟩
instance : sg il 59 35 := ⟨ov⟩
instance : sg il 62 132 := ⟨Dj⟩
instance : sg il 67 128 := ⟨uo⟩
instance : sg il 68 4 := ⟨MK⟩
instance : sg il 95 31 := ⟨ER⟩
instance : sg il 109 82 := ⟨rX⟩
instance : sg il 192 163 := ⟨Go.Proofs.Tryz.underlying192⟩
end Go.Wk.Lf
end
section
namespace Go.Wk
theorem adG{S A:Type}{F:(S→Option A)→S→Option A}(Inv:S→Prop)(m:S→Nat)(g:S→Option A)(h:∀rec s,Inv s→(∀s',Inv s'→m s'<m s→rec s'=g s')→F rec s=g s):∀n s,Inv s→m s<n→iter F n s=g s:=by
 intro n
 induction n with
 |zero=>intro s _ hm;omega
 |succ n ih=>intro s hs hm;exact h (iter F n) s hs λs' yh jB=>ih s' yh (by omega)
theorem ael{S A:Type}{F:(S→Option A)→S→Option A}{s0:S}(Inv:S→Prop)(m:S→Nat)(g:S→Option A)(h0:Inv s0)(hm:m s0<4611686018427387904)(h:∀rec s,Inv s→(∀s',Inv s'→m s'<m s→rec s'=g s')→F rec s=g s):loop F s0=g s0 :=
 adG Inv m g h _ s0 h0 (Nat.lt_trans hm (by decide))
theorem Vz{S A:Type}{F:(S→Option A)→S→Option A}{s0:S}{a:Option A}(Inv:S→Prop)(m:S→Nat)(h0:Inv s0)(hm:m s0<4611686018427387904)(h:∀rec s,Inv s→(∀s',Inv s'→m s'<m s→rec s'=a)→F rec s=a):loop F s0=a :=
 ael Inv m (λ_=>a) h0 hm h
@[simp]theorem ij{α β:Type}(x:α)(f:α→Option β):bd (some x) f=f x:=rfl
theorem ai4{α β:Type}{o:Option α}{x:α}(h:o=some x)(f:α→Option β):bd o f=f x:=by rw[h];rfl
theorem adJ{α:Type}(l:List α)(n:Nat):ix l (n:Int)=l[n]?:=rfl
theorem adH{α:Type}{l:List α}{i:Int}{n:Nat}(hi:i=(n:Int))(h:n<l.length):ix l i=some l[n]:=by subst hi;rw[adJ];exact jx h
theorem ll{x:Int}(h0:-9223372036854775808≤x)(h1:x≤9223372036854775807):wr x=x:=adk h0 h1
theorem ki{α:Type}{xs ys:List α}(h:xs.length+ys.length≤1073741824):app xs ys=some (xs++ys):=if_pos h
theorem pM{α:Type}{l:List α}{a b:Int}(h0:0≤a)(h1:a≤b)(h2:b≤(l.length:Int)):cut l a b=some ((l.take b.toNat).drop a.toNat):=if_pos ⟨h0,h1,h2⟩
theorem afV{α:Type}{n:Int}{x:α}(h0:0≤n)(h1:n≤1073741824):rep n x=some (List.replicate n.toNat x):=if_pos ⟨h0,h1⟩
theorem jl{n m:Nat}(h:n<m):decide ((n:Int)<(m:Int))=true:=decide_eq_true (by omega)
theorem jk{n m:Nat}(h:¬n<m):decide ((n:Int)<(m:Int))=false:=decide_eq_false (by omega)
theorem iX{α:Type}{l:List α}{n:Nat}(h:n<l.length):ix l (n:Int)=some l[n]:=jx h
theorem ja{n:Nat}(h:n<4611686018427387904):wr ((n:Int)+1)=((n+1:Nat):Int):=by rw[ll (by omega) (by omega)];rfl
theorem wB{n:Nat}(h0:0<n)(h:n<4611686018427387904):wr ((n:Int)-1)=((n-1:Nat):Int):=by rw[ll (by omega) (by omega)];omega
theorem Vm{S σ A:Type}{F:(S→Option A)→S→Option A}(mk:Nat→σ→S)(n:Nat)(Inv:Nat→σ→Prop)(zV:Option A→Prop)
  (nU:∀rec i s,i<n→Inv i s→(∀s',Inv (i+1) s'→zV (rec (mk (i+1) s')))→zV (F rec (mk i s))) (oB:∀rec s,Inv n s→zV (F rec (mk n s))):∀k i s,i≤n→n-i<k→Inv i s→zV (iter F k (mk i s)):=by
 intro k
 induction k with
 |zero=>intro i s _ h _;omega
 |succ k ih =>
  intro i s hi hk hI
  by_cases h:i=n
  ·subst h;exact oB (iter F k) s hI
  ·exact nU (iter F k) i s (by omega) hI λs' yh=>ih (i+1) s' (by omega) (by omega) yh
theorem IB{S σ A:Type}{F:(S→Option A)→S→Option A}(mk:Nat→σ→S)(n:Nat)(Inv:Nat→σ→Prop)(zV:Option A→Prop){i0:Nat}{s0:σ}{x0:S}(hx:x0=mk i0 s0)(oM:i0≤n)(h0:Inv i0 s0)(hn:n<4611686018427387904)
  (nU:∀rec i s,i<n→Inv i s→(∀s',Inv (i+1) s'→zV (rec (mk (i+1) s')))→zV (F rec (mk i s))) (oB:∀rec s,Inv n s→zV (F rec (mk n s))):zV (loop F x0) :=
 hx▸Vm mk n Inv zV nU oB _ i0 s0 oM (by omega) h0
theorem nV{S σ A:Type}{F:(S→Option A)→S→Option A}(mk:Nat→σ→S)(n:Nat)(Inv:Nat→σ→Prop)(a:Option A){i0:Nat}{s0:σ}{x0:S}(hx:x0=mk i0 s0)(oM:i0≤n)(h0:Inv i0 s0)(hn:n<4611686018427387904)
  (nU:∀rec i s,i<n→Inv i s→(∀s',Inv (i+1) s'→rec (mk (i+1) s')=a)→F rec (mk i s)=a) (oB:∀rec s,Inv n s→F rec (mk n s)=a):loop F x0=a:=by
 exact IB mk n Inv (λo=>o=a) hx oM h0 hn nU oB
theorem uR{S σ α A:Type}{F:(S→Option A)→S→Option A}(mk:Nat→σ→S)(l:List α)(f:σ→α→σ)(K:σ→Option A)(Inv:Nat→σ→Prop){i0:Nat}{s0:σ}{x0:S}(hx:x0=mk i0 s0)(oM:i0≤l.length)(h0:Inv i0 s0)(hn:l.length<4611686018427387904)
  (nU:∀rec i s(h:i<l.length),Inv i s→Inv (i+1) (f s l[i])∧F rec (mk i s)=rec (mk (i+1) (f s l[i]))) (oB:∀rec s,Inv l.length s→F rec (mk l.length s)=K s):loop F x0=K ((l.drop i0).foldl f s0):=by
 refine nV mk l.length (λi s=>i≤l.length∧Inv i s∧K ((l.drop i).foldl f s)=K ((l.drop i0).foldl f s0)) _ hx oM ⟨oM,h0,rfl⟩ hn ?_ ?_
 ·intro rec i s hi hI jh;obtain⟨h1,h2⟩:=nU rec i s hi hI.2.1;rw[h2];refine jh _ ⟨by omega,h1,?_⟩;rw[←hI.2.2,List.drop_eq_getElem_cons hi];rfl
 ·intro rec s hI;rw[oB rec s hI.2.1,←hI.2.2,List.drop_length];rfl
theorem ou{α:Type}{l:List α}{i:Nat}(h:i<l.length):l.take (i+1)=l.take i++[l[i]]:=List.take_succ_eq_append_getElem h
end Go.Wk
end
section
namespace Go.Wk.Lf
open Go.V
structure Loc where
  iQ:Int
  file:Int
  off:Int
  len:Int
  deriving DecidableEq,Inhabited
def Loc.cells(x:Loc):List gE:=[.i .i64 x.iQ,.i .i64 x.file,.i .i64 x.off,.i .i64 x.len]
def Loc.t:Tr Loc where
  size:=4
  rel F cs x:=cs=Loc.cells x
  pos:=by decide
  len:=by rintro F cs x rfl;simp[Loc.cells]
  one:=by rintro F cs x rfl;rfl
  mono:=by rintro F G cs x l rfl;exact rfl
structure jd where
  path:List UInt8
  data:List UInt8
  deriving DecidableEq,Inhabited
def jd.cells(x:jd)(u0:gE):List gE:=[.s x.path,u0]
def jd.t:Tr jd where
  size:=2
  rel F cs x:=∃u0,cs=jd.cells x u0∧iq tB F u0 (x.data)
  pos:=by decide
  len:=by rintro F cs x ⟨u0,rfl,h0⟩;simp[jd.cells]
  one:=by rintro F cs x ⟨u0,rfl,h0⟩;simp only[jd.cells,nJ,oG,lz,h0.one];rfl
  mono:=by rintro F G cs x l ⟨u0,rfl,h0⟩;exact⟨u0,rfl,h0.mono l⟩
structure mJ where
  pe:Int
  n:Int
  iQ:Int
  tree:List jd
  pick:List Bool
  deriving DecidableEq,Inhabited
def mJ.cells(x:mJ)(u0 u1:gE):List gE:=[.i .i64 x.pe,.i .i64 x.n,.i .i64 x.iQ,u0,u1]
def mJ.t:Tr mJ where
  size:=5
  rel F cs x:=∃u0 u1,cs=mJ.cells x u0 u1∧iq jd.t F u0 (x.tree)∧iq QT F u1 (x.pick)
  pos:=by decide
  len:=by rintro F cs x ⟨u0,u1,rfl,h0,h1⟩;simp[mJ.cells]
  one:=by rintro F cs x ⟨u0,u1,rfl,h0,h1⟩;simp only[mJ.cells,nJ,oG,lz,h0.one,h1.one];rfl
  mono:=by rintro F G cs x l ⟨u0,u1,rfl,h0,h1⟩;exact⟨u0,u1,rfl,h0.mono l,h1.mono l⟩
structure Part where
  path:List UInt8
  size:Int
  ids:List (List UInt8)
  deriving DecidableEq,Inhabited
def Part.cells(x:Part)(u0:gE):List gE:=[.s x.path,.i .i64 x.size,u0]
def Part.t:Tr Part where
  size:=3
  rel F cs x:=∃u0,cs=Part.cells x u0∧iq lV F u0 (x.ids)
  pos:=by decide
  len:=by rintro F cs x ⟨u0,rfl,h0⟩;simp[Part.cells]
  one:=by rintro F cs x ⟨u0,rfl,h0⟩;simp only[Part.cells,nJ,oG,lz,h0.one];rfl
  mono:=by rintro F G cs x l ⟨u0,rfl,h0⟩;exact⟨u0,rfl,h0.mono l⟩
structure iF where
  name:List UInt8
  parts:List Part
  deriving DecidableEq,Inhabited
def iF.cells(x:iF)(u0:gE):List gE:=[.s x.name,u0]
structure ie where
  seq:Int
  iw:iF
  locs:List Loc
  deriving DecidableEq,Inhabited
def ie.cells(x:ie)(u0 u1:gE):List gE:=[.i .i64 x.seq,.s x.iw.name,u0,u1]
def ie.t:Tr ie where
  size:=4
  rel F cs x:=∃u0 u1,cs=ie.cells x u0 u1∧iq Part.t F u0 (x.iw.parts)∧iq Loc.t F u1 (x.locs)
  pos:=by decide
  len:=by rintro F cs x ⟨u0,u1,rfl,h0,h1⟩;simp[ie.cells]
  one:=by rintro F cs x ⟨u0,u1,rfl,h0,h1⟩;simp only[ie.cells,nJ,oG,lz,h0.one,h1.one];rfl
  mono:=by rintro F G cs x l ⟨u0,u1,rfl,h0,h1⟩;exact⟨u0,u1,rfl,h0.mono l,h1.mono l⟩
structure Chunk where
  id:List UInt8
  jD:Bool
  data:List UInt8
  locs:List Loc
  deriving DecidableEq,Inhabited
def Chunk.cells(x:Chunk)(u0 u1:gE):List gE:=iJ x.id++[.b x.jD,u0,u1]
def Chunk.t:Tr Chunk where
  size:=35
  rel F cs x:=∃u0 u1,cs=Chunk.cells x u0 u1∧(x.id).length=32∧iq tB F u0 (x.data)∧iq Loc.t F u1 (x.locs)
  pos:=by decide
  len:=by rintro F cs x ⟨u0,u1,rfl,h0,h1,h2⟩;simp[Chunk.cells,BG]
  one:=by rintro F cs x ⟨u0,u1,rfl,h0,h1,h2⟩;simp only[Chunk.cells,nJ,oG,lz,Ge,h1.one,h2.one];rfl
  mono:=by rintro F G cs x l ⟨u0,u1,rfl,h0,h1,h2⟩;exact⟨u0,u1,rfl,h0,h1.mono l,h2.mono l⟩
structure iu where
  seq:Int
  of:Int
  locs:List Loc
  deriving DecidableEq,Inhabited
def iu.cells(x:iu)(u0:gE):List gE:=[.i .i64 x.seq,.i .i64 x.of,u0]
def iu.t:Tr iu where
  size:=3
  rel F cs x:=∃u0,cs=iu.cells x u0∧iq Loc.t F u0 (x.locs)
  pos:=by decide
  len:=by rintro F cs x ⟨u0,rfl,h0⟩;simp[iu.cells]
  one:=by rintro F cs x ⟨u0,rfl,h0⟩;simp only[iu.cells,nJ,oG,lz,h0.one];rfl
  mono:=by rintro F G cs x l ⟨u0,rfl,h0⟩;exact⟨u0,rfl,h0.mono l⟩
structure iz where
  rq:Int
  rM:Int
  state:Int
  files:Int
  deriving DecidableEq,Inhabited
def iz.cells(x:iz):List gE:=[.i .i64 x.rq,.i .i64 x.rM,.i .i64 x.state,.i .i64 x.files]
def iz.t:Tr iz where
  size:=4
  rel F cs x:=cs=iz.cells x
  pos:=by decide
  len:=by rintro F cs x rfl;simp[iz.cells]
  one:=by rintro F cs x rfl;rfl
  mono:=by rintro F G cs x l rfl;exact rfl
structure ig where
  seq:Int
  ik:List ie
  chunks:List Chunk
  im:List iu
  iv:List iz
  deriving DecidableEq,Inhabited
def ig.cells(x:ig)(u0 u1 u2 u3:gE):List gE:=[.i .i64 x.seq,u0,u1,u2,u3]
structure Item where
  kind:Int
  id:List UInt8
  seq:Int
  of:Int
  off:Int
  len:Int
  deriving DecidableEq,Inhabited
def Item.cells(x:Item):List gE:=[.i .i64 x.kind]++iJ x.id++[.i .i64 x.seq,.i .i64 x.of,.i .i64 x.off,.i .i64 x.len]
def Item.t:Tr Item where
  size:=37
  rel F cs x:=cs=Item.cells x∧(x.id).length=32
  pos:=by decide
  len:=by rintro F cs x ⟨rfl,h0⟩;simp[Item.cells,BG]
  one:=by rintro F cs x ⟨rfl,h0⟩;simp only[Item.cells,nJ,oG,lz,Ge];rfl
  mono:=by rintro F G cs x l ⟨rfl,h0⟩;exact⟨rfl,h0⟩
structure Change where
  kind:Int
  snap:ie
  chunks:List Chunk
  seq:Int
  iQ:Int
  items:List Item
  deriving DecidableEq,Inhabited
def Change.cells(x:Change)(u0 u1 u2 u3:gE):List gE:=[.i .i64 x.kind,.i .i64 x.snap.seq,.s x.snap.iw.name,u0,u1,u2,.i .i64 x.seq,.i .i64 x.iQ,u3]
structure mP where
  kind:Int
  seq:Int
  data:List UInt8
  deriving DecidableEq,Inhabited
def mP.cells(x:mP)(u0:gE):List gE:=[.i .i64 x.kind,.i .i64 x.seq,u0]
structure Found where
  iM:mP
  loc:Loc
  deriving DecidableEq,Inhabited
def Found.cells(x:Found)(u0:gE):List gE:=[.i .i64 x.iM.kind,.i .i64 x.iM.seq,u0,.i .i64 x.loc.iQ,.i .i64 x.loc.file,.i .i64 x.loc.off,.i .i64 x.loc.len]
def Found.t:Tr Found where
  size:=7
  rel F cs x:=∃u0,cs=Found.cells x u0∧iq tB F u0 (x.iM.data)
  pos:=by decide
  len:=by rintro F cs x ⟨u0,rfl,h0⟩;simp[Found.cells]
  one:=by rintro F cs x ⟨u0,rfl,h0⟩;simp only[Found.cells,nJ,oG,lz,h0.one];rfl
  mono:=by rintro F G cs x l ⟨u0,rfl,h0⟩;exact⟨u0,rfl,h0.mono l⟩
structure mb where
  b:List UInt8
  bad:Bool
  deriving DecidableEq,Inhabited
def mb.cells(x:mb)(u0:gE):List gE:=[u0,.b x.bad]
theorem Loc.TU(a b:Loc):sS a.cells b.cells=decide (a=b):=by
  obtain⟨a0,a1,a2,a3⟩:=a
  obtain⟨b0,b1,b2,b3⟩:=b
  rw[Bool.eq_iff_iff]
  simp[Loc.cells,sS,uG]
def ie.o:To ie where
  size:=4
  rel F h bs cs x:=∃u0 u1,cs=ie.cells x u0 u1∧iq Part.t F u0 (x.iw.parts)∧(To.row (.ma Loc.t)).rel F h bs [u1] x.locs
  len:=by rintro F h bs cs x ⟨u0,u1,rfl,h0,k⟩;simp[ie.cells,BG]
  one:=by rintro F h bs cs x ⟨u0,u1,rfl,h0,k⟩;simp only[ie.cells,nJ,oG,lz,Ge,h0.one,(To.Gz k).one];rfl
  lt:=by rintro F h bs cs x ⟨u0,u1,rfl,h0,k⟩;exact(To.row (.ma Loc.t)).lt k
  nodup:=by rintro F h bs cs x ⟨u0,u1,rfl,h0,k⟩;exact(To.row (.ma Loc.t)).nodup k
  mono:=by rintro F G h bs cs x l ⟨u0,u1,rfl,h0,k⟩;exact⟨u0,u1,rfl,h0.mono l,(To.row (.ma Loc.t)).mono l k⟩
  frame:=by rintro F h h2 bs cs x ⟨u0,u1,rfl,h0,k⟩ hn hk;exact⟨u0,u1,rfl,h0,(To.row (.ma Loc.t)).frame k hn hk⟩
theorem ie.wA:zW ie.o ie.t:=⟨rfl,by rintro F G h bs cs x ⟨u0,u1,rfl,h0,k⟩ l hg;exact⟨u0,u1,rfl,h0.mono l,I9 k l hg⟩⟩
theorem ie.Cv:Hg ie.o Loc.t 3 ie.locs (λx l=>ie.mk x.seq x.iw l):=⟨by decide,by rintro F h e cs x ⟨u0,u1,rfl,h0,k⟩;exact⟨u1,rfl,k⟩,by rintro F h e cs x F2 h2 e2 u' l2 ⟨u0,u1,rfl,h0,k⟩ l k2;exact⟨u0,u',rfl,h0.mono l,k2⟩⟩
def Chunk.o:To Chunk where
  size:=35
  rel F h bs cs x:=∃u0 u1,cs=Chunk.cells x u0 u1∧(x.id).length=32∧iq tB F u0 (x.data)∧(To.row (.ma Loc.t)).rel F h bs [u1] x.locs
  len:=by rintro F h bs cs x ⟨u0,u1,rfl,h0,h1,k⟩;simp[Chunk.cells,BG]
  one:=by rintro F h bs cs x ⟨u0,u1,rfl,h0,h1,k⟩;simp only[Chunk.cells,nJ,oG,lz,Ge,h1.one,(To.Gz k).one];rfl
  lt:=by rintro F h bs cs x ⟨u0,u1,rfl,h0,h1,k⟩;exact(To.row (.ma Loc.t)).lt k
  nodup:=by rintro F h bs cs x ⟨u0,u1,rfl,h0,h1,k⟩;exact(To.row (.ma Loc.t)).nodup k
  mono:=by rintro F G h bs cs x l ⟨u0,u1,rfl,h0,h1,k⟩;exact⟨u0,u1,rfl,h0,h1.mono l,(To.row (.ma Loc.t)).mono l k⟩
  frame:=by rintro F h h2 bs cs x ⟨u0,u1,rfl,h0,h1,k⟩ hn hk;exact⟨u0,u1,rfl,h0,h1,(To.row (.ma Loc.t)).frame k hn hk⟩
theorem Chunk.wA:zW Chunk.o Chunk.t:=⟨rfl,by rintro F G h bs cs x ⟨u0,u1,rfl,h0,h1,k⟩ l hg;exact⟨u0,u1,rfl,h0,h1.mono l,I9 k l hg⟩⟩
theorem Chunk.Cv:Hg Chunk.o Loc.t 34 Chunk.locs (λx l=>Chunk.mk x.id x.jD x.data l):=⟨by decide,by rintro F h e cs x ⟨u0,u1,rfl,h0,h1,k⟩;exact⟨u1,rfl,k⟩,by rintro F h e cs x F2 h2 e2 u' l2 ⟨u0,u1,rfl,h0,h1,k⟩ l k2;exact⟨u0,u',rfl,h0,h1.mono l,k2⟩⟩
def iu.o:To iu where
  size:=3
  rel F h bs cs x:=∃u0,cs=iu.cells x u0∧(To.row (.ma Loc.t)).rel F h bs [u0] x.locs
  len:=by rintro F h bs cs x ⟨u0,rfl,k⟩;simp[iu.cells,BG]
  one:=by rintro F h bs cs x ⟨u0,rfl,k⟩;simp only[iu.cells,nJ,oG,lz,Ge,(To.Gz k).one];rfl
  lt:=by rintro F h bs cs x ⟨u0,rfl,k⟩;exact(To.row (.ma Loc.t)).lt k
  nodup:=by rintro F h bs cs x ⟨u0,rfl,k⟩;exact(To.row (.ma Loc.t)).nodup k
  mono:=by rintro F G h bs cs x l ⟨u0,rfl,k⟩;exact⟨u0,rfl,(To.row (.ma Loc.t)).mono l k⟩
  frame:=by rintro F h h2 bs cs x ⟨u0,rfl,k⟩ hn hk;exact⟨u0,rfl,(To.row (.ma Loc.t)).frame k hn hk⟩
theorem iu.wA:zW iu.o iu.t:=⟨rfl,by rintro F G h bs cs x ⟨u0,rfl,k⟩ l hg;exact⟨u0,rfl,I9 k l hg⟩⟩
theorem iu.Cv:Hg iu.o Loc.t 2 iu.locs (λx l=>iu.mk x.seq x.of l):=⟨by decide,by rintro F h e cs x ⟨u0,rfl,k⟩;exact⟨u0,rfl,k⟩,by rintro F h e cs x F2 h2 e2 u' l2 ⟨u0,rfl,k⟩ l k2;exact⟨u',rfl,k2⟩⟩
end Go.Wk.Lf
end
